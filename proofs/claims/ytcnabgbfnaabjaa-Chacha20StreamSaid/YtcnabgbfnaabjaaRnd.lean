/- The rounds: what one does to the state in memory. -/
import Derived.Test.YtcnabgbfnaabjaaOrd
import Derived.Deep.RegionHeld3
namespace Go.Proofs.Ytcnabgbfnaabjaa
open Go.RowKit
set_option linter.unusedSimpArgs false
set_option linter.unusedVariables false

/-- Which words the quarter rounds are applied to. -/
def table : List (Nat × Nat × Nat × Nat) := [(0, 4, 8, 12), (1, 5, 9, 13), (2, 6, 10, 14), (3, 7, 11, 15), (0, 5, 10, 15), (1, 6, 11, 12), (2, 7, 8, 13), (3, 4, 9, 14)]

/-- One quarter round on a state. -/
def qr (s : List UInt32) (q : Nat × Nat × Nat × Nat) : List UInt32 :=
  let r := quarter (s.getD q.1 0) (s.getD q.2.1 0) (s.getD q.2.2.1 0) (s.getD q.2.2.2 0)
  (((s.set q.1 r.1).set q.2.1 r.2.1).set q.2.2.1 r.2.2.1).set q.2.2.2 r.2.2.2
def rnd (s : List UInt32) : List UInt32 := table.foldl qr s

theorem qr_length (s : List UInt32) (q : Nat × Nat × Nat × Nat) : (qr s q).length = s.length := by simp [qr]

/-- The words of a state as cells. -/
def ws (s : List UInt32) : Array Value := (s.map wd).toArray

abbrev tabV : Value := .agg #[.int .i64 0, .int .i64 4, .int .i64 8, .int .i64 12, .int .i64 1, .int .i64 5, .int .i64 9, .int .i64 13, .int .i64 2, .int .i64 6, .int .i64 10, .int .i64 14, .int .i64 3, .int .i64 7, .int .i64 11, .int .i64 15,
  .int .i64 0, .int .i64 5, .int .i64 10, .int .i64 15, .int .i64 1, .int .i64 6, .int .i64 11, .int .i64 12, .int .i64 2, .int .i64 7, .int .i64 8, .int .i64 13, .int .i64 3, .int .i64 4, .int .i64 9, .int .i64 14]

theorem table_at (k : Nat) (hk : k < 8) : ∃ i0 i1 i2 i3 : Nat, i0 < 16 ∧ i1 < 16 ∧ i2 < 16 ∧ i3 < 16 ∧ table[k]? = some (i0, i1, i2, i3) ∧
    ∀ w, (Instr.index 43 tabV (.int .i64 (k : Int))).run Try.prog w = .ok (.agg #[.int .i64 i0, .int .i64 i1, .int .i64 i2, .int .i64 i3]) w := by
  match k, hk with
  | 0, _ => exact ⟨0, 4, 8, 12, by omega, by omega, by omega, by omega, rfl, fun w => by kernel_rfl⟩
  | 1, _ => exact ⟨1, 5, 9, 13, by omega, by omega, by omega, by omega, rfl, fun w => by kernel_rfl⟩
  | 2, _ => exact ⟨2, 6, 10, 14, by omega, by omega, by omega, by omega, rfl, fun w => by kernel_rfl⟩
  | 3, _ => exact ⟨3, 7, 11, 15, by omega, by omega, by omega, by omega, rfl, fun w => by kernel_rfl⟩
  | 4, _ => exact ⟨0, 5, 10, 15, by omega, by omega, by omega, by omega, rfl, fun w => by kernel_rfl⟩
  | 5, _ => exact ⟨1, 6, 11, 12, by omega, by omega, by omega, by omega, rfl, fun w => by kernel_rfl⟩
  | 6, _ => exact ⟨2, 7, 8, 13, by omega, by omega, by omega, by omega, rfl, fun w => by kernel_rfl⟩
  | 7, _ => exact ⟨3, 4, 9, 14, by omega, by omega, by omega, by omega, rfl, fun w => by kernel_rfl⟩

theorem ws_cell {w : World} {b : Nat} {s : List UInt32} {T : TypeId} (h : w.heap[b]? = some (.cells (ws s) T (0, 0))) (i : Nat) (hi : i < s.length) : w.cell? ⟨b, i, none⟩ = some (wd (s.getD i 0)) := by
  rw [cell_of_row w b i _ T (0, 0) h, List.getD_eq_getElem?_getD, List.getElem?_eq_getElem hi]
  simp [ws, hi]

theorem ws_set (s : List UInt32) (i : Nat) (x : UInt32) : (ws s).setIfInBounds i (wd x) = ws (s.set i x) := by
  simp [ws, List.map_set]

theorem ws_store {w : World} {b : Nat} {s : List UInt32} {T : TypeId} (h : w.heap[b]? = some (.cells (ws s) T (0, 0))) (i : Nat) (x : UInt32) : (w.setCell ⟨b, i, none⟩ (wd x)).heap[b]? = some (.cells (ws (s.set i x)) T (0, 0)) := by
  rw [heap_setCell_same w b i _ T (wd x) h, ws_set]

/-- The four indices of a quarter round lie in block B. -/
def Row4 (B i0 i1 i2 i3 : Nat) (w : World) : Prop := B < w.heap.size ∧ w.cell? ⟨B, 0, none⟩ = some (.int .i64 i0) ∧ w.cell? ⟨B, 1, none⟩ = some (.int .i64 i1) ∧ w.cell? ⟨B, 2, none⟩ = some (.int .i64 i2) ∧ w.cell? ⟨B, 3, none⟩ = some (.int .i64 i3)
theorem Row4.setCell {B i0 i1 i2 i3 b : Nat} {w : World} (h : Row4 B i0 i1 i2 i3 w) (hne : B ≠ b) (i : Nat) (v : Value) : Row4 B i0 i1 i2 i3 (w.setCell ⟨b, i, none⟩ v) := by
  obtain ⟨hB, h0, h1, h2, h3⟩ := h
  have hk : Kept [b] w (w.setCell ⟨b, i, none⟩ v) := (Kept.refl [b] w).setCell _ v (.inl (by simp))
  have hn : B ∉ [b] := by simpa using hne
  exact ⟨Nat.lt_of_lt_of_le hB hk.size, (hk.cell (p := ⟨B, 0, none⟩) hB hn).trans h0, (hk.cell (p := ⟨B, 1, none⟩) hB hn).trans h1, (hk.cell (p := ⟨B, 2, none⟩) hB hn).trans h2, (hk.cell (p := ⟨B, 3, none⟩) hB hn).trans h3⟩

theorem at_lt {w : World} {b : Nat} {o : Obj} (h : w.heap[b]? = some o) : b < w.heap.size := by
  rcases Nat.lt_or_ge b w.heap.size with h' | h'
  · exact h'
  · rw [Array.getElem?_eq_none h'] at h; cases h

set_option maxHeartbeats 2000000 in
set_option maxRecDepth 100000 in
theorem round_calls (b : Nat) (s : List UInt32) (hs : s.length = 16) (w : World) (hb : w.heap[b]? = some (.cells (ws s) 45 (0, 0))) :
    Calls Try.prog 27 #[.pointer (some ⟨b, 0, none⟩)] w fun e w' => e = .returned (.tuple #[]) ∧ w'.heap[b]? = some (.cells (ws (rnd s)) 45 (0, 0)) ∧ Kept [b] w w' := by
  have HB := hide hb
  have HS := hide hs
  clear hb hs
  go_enter Try.func27, Try.ntmps27
  go_wp2_with fail
  go_loopw [13] (fun i wr => ∃ (k : Nat) (t : List UInt32), k ≤ 8 ∧ i = .int .i64 k ∧ Hid (t = (table.take k).foldl qr s ∧ t.length = 16 ∧ wr.heap[b]? = some (.cells (ws t) 45 (0, 0)) ∧ Kept [b] w wr)) (fun i _ => 8 - (intOf i).toNat)
  case atStart => exact ⟨0, s, by omega, rfl, rfl, HS.out, HB.out, Kept.refl _ _⟩
  case round =>
    obtain ⟨k, t, hk, rfl, hinv⟩ := hrel
    by_cases hlt : k < 8
    · obtain ⟨i0, i1, i2, i3, l0, l1, l2, l3, hq, hidx⟩ := table_at k hlt
      have HQ := hide hq
      clear hq
      go_wp2_with fail
      have hW : (wr.alloc (.cells #[.int .i64 i0, .int .i64 i1, .int .i64 i2, .int .i64 i3] 42)).drew.heap[wr.heap.size]? = some (.cells #[Value.int .i64 i0, .int .i64 i1, .int .i64 i2, .int .i64 i3] 42 (0, 0)) := (MapKept.heap_alloc wr _).1
      have q0 := cell_of_row _ wr.heap.size 0 _ 42 (0, 0) hW
      have q1 := cell_of_row _ wr.heap.size 1 _ 42 (0, 0) hW
      have q2 := cell_of_row _ wr.heap.size 2 _ 42 (0, 0) hW
      have q3 := cell_of_row _ wr.heap.size 3 _ 42 (0, 0) hW
      simp only [List.getElem?_toArray, List.getElem?_cons_zero, List.getElem?_cons_succ] at q0 q1 q2 q3
      have hlb : b < wr.heap.size := at_lt hinv.out.2.2.1
      have hbW : (wr.alloc (.cells #[.int .i64 i0, .int .i64 i1, .int .i64 i2, .int .i64 i3] 42)).drew.heap[b]? = some (.cells (ws t) 45 (0, 0)) :=
        ((MapKept.heap_alloc wr _).2 b hlb).trans hinv.out.2.2.1
      have hKW : Kept [b] w (wr.alloc (.cells #[.int .i64 i0, .int .i64 i1, .int .i64 i2, .int .i64 i3] 42)).drew := (hinv.out.2.2.2.alloc _).drew
      refine wp_region_noPanic ?_
      refine begin_W 44 (Row4 wr.heap.size i0 i1 i2 i3) (by kernel_rfl) ⟨at_lt hW, q0, q1, q2, q3⟩ (fun hS => ?_)
      clear hW
      generalize (wr.alloc (.cells #[.int .i64 i0, .int .i64 i1, .int .i64 i2, .int .i64 i3] 42)).drew = W at *
      generalize wr.heap.size = B at *
      obtain ⟨x0, hx0⟩ : ∃ x, x = t.getD i0 0 := ⟨_, rfl⟩
      obtain ⟨x1, hx1⟩ : ∃ x, x = t.getD i1 0 := ⟨_, rfl⟩
      obtain ⟨x2, hx2⟩ : ∃ x, x = t.getD i2 0 := ⟨_, rfl⟩
      obtain ⟨x3, hx3⟩ : ∃ x, x = t.getD i3 0 := ⟨_, rfl⟩
      obtain ⟨y0, y1, y2, y3, hy⟩ : ∃ y0 y1 y2 y3, quarter x0 x1 x2 x3 = (y0, y1, y2, y3) := ⟨_, _, _, _, rfl⟩
      have a0 := ws_cell hbW i0 (by have := hinv.out.2.1; omega)
      rw [← hx0] at a0
      have a1 := ws_cell hbW i1 (by have := hinv.out.2.1; omega)
      rw [← hx1] at a1
      have a2 := ws_cell hbW i2 (by have := hinv.out.2.1; omega)
      rw [← hx2] at a2
      have a3 := ws_cell hbW i3 (by have := hinv.out.2.1; omega)
      rw [← hx3] at a3
      have HX := hide (And.intro hx0 (And.intro hx1 (And.intro hx2 (And.intro hx3 hy))))
      clear hx0 hx1 hx2 hx3 hy
      have HBW := hide (And.intro hbW hKW)
      clear hbW hKW
      refine take_free (i := 0) (oi := _) (v := .pointer (some ⟨b, 0, none⟩)) rfl (by kernel_rfl) (by kernel_rfl) (by kernel_rfl) (by kernel_rfl) (fun _ _ _ h => h) (by rfl) hS (fun w hJ => ?hy) (fun hS => ?_)
      case hy => go_simp; (try with_reducible rfl); (try (intro h; omega))
      simp only [Act.put, List.setIfInBounds_toArray, List.set_cons_zero, List.set_cons_succ]
      refine take_free (i := 1) (oi := _) (v := .pointer (some ⟨B, 0, none⟩)) rfl (by kernel_rfl) (by kernel_rfl) (by kernel_rfl) (by kernel_rfl) (fun _ _ _ h => h) (by rfl) hS (fun w hJ => ?hy) (fun hS => ?_)
      case hy => go_simp; (try with_reducible rfl); (try (intro h; omega))
      simp only [Act.put, List.setIfInBounds_toArray, List.set_cons_zero, List.set_cons_succ]
      refine take_free (i := 2) (oi := _) (v := .int .i64 i0) rfl (by kernel_rfl) (by kernel_rfl) (by kernel_rfl) (by kernel_rfl) (fun _ _ _ h => h) (by rfl) hS (fun w hJ => ?hy) (fun hS => ?_)
      case hy => obtain ⟨hBs, j0, j1, j2, j3⟩ := hJ; clear hBs; go_simp; (try with_reducible rfl); (try (intro h; omega))
      simp only [Act.put, List.setIfInBounds_toArray, List.set_cons_zero, List.set_cons_succ]
      refine take_free (i := 3) (oi := _) (v := .pointer (some ⟨b, 0, none⟩)) rfl (by kernel_rfl) (by kernel_rfl) (by kernel_rfl) (by kernel_rfl) (fun _ _ _ h => h) (by rfl) hS (fun w hJ => ?hy) (fun hS => ?_)
      case hy => go_simp; (try with_reducible rfl); (try (intro h; omega))
      simp only [Act.put, List.setIfInBounds_toArray, List.set_cons_zero, List.set_cons_succ]
      refine take_free (i := 4) (oi := _) (v := .pointer (some ⟨B, 1, none⟩)) rfl (by kernel_rfl) (by kernel_rfl) (by kernel_rfl) (by kernel_rfl) (fun _ _ _ h => h) (by rfl) hS (fun w hJ => ?hy) (fun hS => ?_)
      case hy => go_simp; (try with_reducible rfl); (try (intro h; omega))
      simp only [Act.put, List.setIfInBounds_toArray, List.set_cons_zero, List.set_cons_succ]
      refine take_free (i := 5) (oi := _) (v := .int .i64 i1) rfl (by kernel_rfl) (by kernel_rfl) (by kernel_rfl) (by kernel_rfl) (fun _ _ _ h => h) (by rfl) hS (fun w hJ => ?hy) (fun hS => ?_)
      case hy => obtain ⟨hBs, j0, j1, j2, j3⟩ := hJ; clear hBs; go_simp; (try with_reducible rfl); (try (intro h; omega))
      simp only [Act.put, List.setIfInBounds_toArray, List.set_cons_zero, List.set_cons_succ]
      refine take_free (i := 6) (oi := _) (v := .pointer (some ⟨b, 0, none⟩)) rfl (by kernel_rfl) (by kernel_rfl) (by kernel_rfl) (by kernel_rfl) (fun _ _ _ h => h) (by rfl) hS (fun w hJ => ?hy) (fun hS => ?_)
      case hy => go_simp; (try with_reducible rfl); (try (intro h; omega))
      simp only [Act.put, List.setIfInBounds_toArray, List.set_cons_zero, List.set_cons_succ]
      refine take_free (i := 7) (oi := _) (v := .pointer (some ⟨B, 2, none⟩)) rfl (by kernel_rfl) (by kernel_rfl) (by kernel_rfl) (by kernel_rfl) (fun _ _ _ h => h) (by rfl) hS (fun w hJ => ?hy) (fun hS => ?_)
      case hy => go_simp; (try with_reducible rfl); (try (intro h; omega))
      simp only [Act.put, List.setIfInBounds_toArray, List.set_cons_zero, List.set_cons_succ]
      refine take_free (i := 8) (oi := _) (v := .int .i64 i2) rfl (by kernel_rfl) (by kernel_rfl) (by kernel_rfl) (by kernel_rfl) (fun _ _ _ h => h) (by rfl) hS (fun w hJ => ?hy) (fun hS => ?_)
      case hy => obtain ⟨hBs, j0, j1, j2, j3⟩ := hJ; clear hBs; go_simp; (try with_reducible rfl); (try (intro h; omega))
      simp only [Act.put, List.setIfInBounds_toArray, List.set_cons_zero, List.set_cons_succ]
      refine take_free (i := 9) (oi := _) (v := .pointer (some ⟨b, 0, none⟩)) rfl (by kernel_rfl) (by kernel_rfl) (by kernel_rfl) (by kernel_rfl) (fun _ _ _ h => h) (by rfl) hS (fun w hJ => ?hy) (fun hS => ?_)
      case hy => go_simp; (try with_reducible rfl); (try (intro h; omega))
      simp only [Act.put, List.setIfInBounds_toArray, List.set_cons_zero, List.set_cons_succ]
      refine take_free (i := 10) (oi := _) (v := .pointer (some ⟨B, 3, none⟩)) rfl (by kernel_rfl) (by kernel_rfl) (by kernel_rfl) (by kernel_rfl) (fun _ _ _ h => h) (by rfl) hS (fun w hJ => ?hy) (fun hS => ?_)
      case hy => go_simp; (try with_reducible rfl); (try (intro h; omega))
      simp only [Act.put, List.setIfInBounds_toArray, List.set_cons_zero, List.set_cons_succ]
      refine take_free (i := 11) (oi := _) (v := .int .i64 i3) rfl (by kernel_rfl) (by kernel_rfl) (by kernel_rfl) (by kernel_rfl) (fun _ _ _ h => h) (by rfl) hS (fun w hJ => ?hy) (fun hS => ?_)
      case hy => obtain ⟨hBs, j0, j1, j2, j3⟩ := hJ; clear hBs; go_simp; (try with_reducible rfl); (try (intro h; omega))
      simp only [Act.put, List.setIfInBounds_toArray, List.set_cons_zero, List.set_cons_succ]
      refine take_free (i := 12) (oi := _) (v := .pointer (some ⟨b, 0, none⟩)) rfl (by kernel_rfl) (by kernel_rfl) (by kernel_rfl) (by kernel_rfl) (fun _ _ _ h => h) (by rfl) hS (fun w hJ => ?hy) (fun hS => ?_)
      case hy => go_simp; (try with_reducible rfl); (try (intro h; omega))
      simp only [Act.put, List.setIfInBounds_toArray, List.set_cons_zero, List.set_cons_succ]
      refine take_free (i := 13) (oi := _) (v := .pointer (some ⟨B, 0, none⟩)) rfl (by kernel_rfl) (by kernel_rfl) (by kernel_rfl) (by kernel_rfl) (fun _ _ _ h => h) (by rfl) hS (fun w hJ => ?hy) (fun hS => ?_)
      case hy => go_simp; (try with_reducible rfl); (try (intro h; omega))
      simp only [Act.put, List.setIfInBounds_toArray, List.set_cons_zero, List.set_cons_succ]
      refine take_free (i := 14) (oi := _) (v := .int .i64 i0) rfl (by kernel_rfl) (by kernel_rfl) (by kernel_rfl) (by kernel_rfl) (fun _ _ _ h => h) (by rfl) hS (fun w hJ => ?hy) (fun hS => ?_)
      case hy => obtain ⟨hBs, j0, j1, j2, j3⟩ := hJ; clear hBs; go_simp; (try with_reducible rfl); (try (intro h; omega))
      simp only [Act.put, List.setIfInBounds_toArray, List.set_cons_zero, List.set_cons_succ]
      refine take_free (i := 15) (oi := _) (v := .pointer (some ⟨b, 0, none⟩)) rfl (by kernel_rfl) (by kernel_rfl) (by kernel_rfl) (by kernel_rfl) (fun _ _ _ h => h) (by rfl) hS (fun w hJ => ?hy) (fun hS => ?_)
      case hy => go_simp; (try with_reducible rfl); (try (intro h; omega))
      simp only [Act.put, List.setIfInBounds_toArray, List.set_cons_zero, List.set_cons_succ]
      refine take_free (i := 16) (oi := _) (v := .pointer (some ⟨b, i0, none⟩)) rfl (by kernel_rfl) (by kernel_rfl) (by kernel_rfl) (by kernel_rfl) (fun _ _ _ h => h) (by rfl) hS (fun w hJ => ?hy) (fun hS => ?_)
      case hy => go_simp; (try with_reducible rfl); (try (intro h; omega))
      simp only [Act.put, List.setIfInBounds_toArray, List.set_cons_zero, List.set_cons_succ]
      refine take_load (i := 17) (oi := _) (v := wd x0) rfl (by kernel_rfl) (by kernel_rfl) (by kernel_rfl) (by kernel_rfl) (by rfl) (fun _ _ _ h => h) (by rfl) hS ?hy (fun hS => ?_)
      case hy => go_simp; (try with_reducible rfl)
      simp only [Act.put, List.setIfInBounds_toArray, List.set_cons_zero, List.set_cons_succ]
      refine take_free (i := 18) (oi := _) (v := .pointer (some ⟨b, 0, none⟩)) rfl (by kernel_rfl) (by kernel_rfl) (by kernel_rfl) (by kernel_rfl) (fun _ _ _ h => h) (by rfl) hS (fun w hJ => ?hy) (fun hS => ?_)
      case hy => go_simp; (try with_reducible rfl); (try (intro h; omega))
      simp only [Act.put, List.setIfInBounds_toArray, List.set_cons_zero, List.set_cons_succ]
      refine take_free (i := 19) (oi := _) (v := .pointer (some ⟨B, 1, none⟩)) rfl (by kernel_rfl) (by kernel_rfl) (by kernel_rfl) (by kernel_rfl) (fun _ _ _ h => h) (by rfl) hS (fun w hJ => ?hy) (fun hS => ?_)
      case hy => go_simp; (try with_reducible rfl); (try (intro h; omega))
      simp only [Act.put, List.setIfInBounds_toArray, List.set_cons_zero, List.set_cons_succ]
      refine take_free (i := 20) (oi := _) (v := .int .i64 i1) rfl (by kernel_rfl) (by kernel_rfl) (by kernel_rfl) (by kernel_rfl) (fun _ _ _ h => h) (by rfl) hS (fun w hJ => ?hy) (fun hS => ?_)
      case hy => obtain ⟨hBs, j0, j1, j2, j3⟩ := hJ; clear hBs; go_simp; (try with_reducible rfl); (try (intro h; omega))
      simp only [Act.put, List.setIfInBounds_toArray, List.set_cons_zero, List.set_cons_succ]
      refine take_free (i := 21) (oi := _) (v := .pointer (some ⟨b, 0, none⟩)) rfl (by kernel_rfl) (by kernel_rfl) (by kernel_rfl) (by kernel_rfl) (fun _ _ _ h => h) (by rfl) hS (fun w hJ => ?hy) (fun hS => ?_)
      case hy => go_simp; (try with_reducible rfl); (try (intro h; omega))
      simp only [Act.put, List.setIfInBounds_toArray, List.set_cons_zero, List.set_cons_succ]
      refine take_free (i := 22) (oi := _) (v := .pointer (some ⟨b, i1, none⟩)) rfl (by kernel_rfl) (by kernel_rfl) (by kernel_rfl) (by kernel_rfl) (fun _ _ _ h => h) (by rfl) hS (fun w hJ => ?hy) (fun hS => ?_)
      case hy => go_simp; (try with_reducible rfl); (try (intro h; omega))
      simp only [Act.put, List.setIfInBounds_toArray, List.set_cons_zero, List.set_cons_succ]
      refine take_load (i := 23) (oi := _) (v := wd x1) rfl (by kernel_rfl) (by kernel_rfl) (by kernel_rfl) (by kernel_rfl) (by rfl) (fun _ _ _ h => h) (by rfl) hS ?hy (fun hS => ?_)
      case hy => go_simp; (try with_reducible rfl)
      simp only [Act.put, List.setIfInBounds_toArray, List.set_cons_zero, List.set_cons_succ]
      refine take_free (i := 24) (oi := _) (v := .pointer (some ⟨b, 0, none⟩)) rfl (by kernel_rfl) (by kernel_rfl) (by kernel_rfl) (by kernel_rfl) (fun _ _ _ h => h) (by rfl) hS (fun w hJ => ?hy) (fun hS => ?_)
      case hy => go_simp; (try with_reducible rfl); (try (intro h; omega))
      simp only [Act.put, List.setIfInBounds_toArray, List.set_cons_zero, List.set_cons_succ]
      refine take_free (i := 25) (oi := _) (v := .pointer (some ⟨B, 2, none⟩)) rfl (by kernel_rfl) (by kernel_rfl) (by kernel_rfl) (by kernel_rfl) (fun _ _ _ h => h) (by rfl) hS (fun w hJ => ?hy) (fun hS => ?_)
      case hy => go_simp; (try with_reducible rfl); (try (intro h; omega))
      simp only [Act.put, List.setIfInBounds_toArray, List.set_cons_zero, List.set_cons_succ]
      refine take_free (i := 26) (oi := _) (v := .int .i64 i2) rfl (by kernel_rfl) (by kernel_rfl) (by kernel_rfl) (by kernel_rfl) (fun _ _ _ h => h) (by rfl) hS (fun w hJ => ?hy) (fun hS => ?_)
      case hy => obtain ⟨hBs, j0, j1, j2, j3⟩ := hJ; clear hBs; go_simp; (try with_reducible rfl); (try (intro h; omega))
      simp only [Act.put, List.setIfInBounds_toArray, List.set_cons_zero, List.set_cons_succ]
      refine take_free (i := 27) (oi := _) (v := .pointer (some ⟨b, 0, none⟩)) rfl (by kernel_rfl) (by kernel_rfl) (by kernel_rfl) (by kernel_rfl) (fun _ _ _ h => h) (by rfl) hS (fun w hJ => ?hy) (fun hS => ?_)
      case hy => go_simp; (try with_reducible rfl); (try (intro h; omega))
      simp only [Act.put, List.setIfInBounds_toArray, List.set_cons_zero, List.set_cons_succ]
      refine take_free (i := 28) (oi := _) (v := .pointer (some ⟨b, i2, none⟩)) rfl (by kernel_rfl) (by kernel_rfl) (by kernel_rfl) (by kernel_rfl) (fun _ _ _ h => h) (by rfl) hS (fun w hJ => ?hy) (fun hS => ?_)
      case hy => go_simp; (try with_reducible rfl); (try (intro h; omega))
      simp only [Act.put, List.setIfInBounds_toArray, List.set_cons_zero, List.set_cons_succ]
      refine take_load (i := 29) (oi := _) (v := wd x2) rfl (by kernel_rfl) (by kernel_rfl) (by kernel_rfl) (by kernel_rfl) (by rfl) (fun _ _ _ h => h) (by rfl) hS ?hy (fun hS => ?_)
      case hy => go_simp; (try with_reducible rfl)
      simp only [Act.put, List.setIfInBounds_toArray, List.set_cons_zero, List.set_cons_succ]
      refine take_free (i := 30) (oi := _) (v := .pointer (some ⟨b, 0, none⟩)) rfl (by kernel_rfl) (by kernel_rfl) (by kernel_rfl) (by kernel_rfl) (fun _ _ _ h => h) (by rfl) hS (fun w hJ => ?hy) (fun hS => ?_)
      case hy => go_simp; (try with_reducible rfl); (try (intro h; omega))
      simp only [Act.put, List.setIfInBounds_toArray, List.set_cons_zero, List.set_cons_succ]
      refine take_free (i := 31) (oi := _) (v := .pointer (some ⟨B, 3, none⟩)) rfl (by kernel_rfl) (by kernel_rfl) (by kernel_rfl) (by kernel_rfl) (fun _ _ _ h => h) (by rfl) hS (fun w hJ => ?hy) (fun hS => ?_)
      case hy => go_simp; (try with_reducible rfl); (try (intro h; omega))
      simp only [Act.put, List.setIfInBounds_toArray, List.set_cons_zero, List.set_cons_succ]
      refine take_free (i := 32) (oi := _) (v := .int .i64 i3) rfl (by kernel_rfl) (by kernel_rfl) (by kernel_rfl) (by kernel_rfl) (fun _ _ _ h => h) (by rfl) hS (fun w hJ => ?hy) (fun hS => ?_)
      case hy => obtain ⟨hBs, j0, j1, j2, j3⟩ := hJ; clear hBs; go_simp; (try with_reducible rfl); (try (intro h; omega))
      simp only [Act.put, List.setIfInBounds_toArray, List.set_cons_zero, List.set_cons_succ]
      refine take_free (i := 33) (oi := _) (v := .pointer (some ⟨b, 0, none⟩)) rfl (by kernel_rfl) (by kernel_rfl) (by kernel_rfl) (by kernel_rfl) (fun _ _ _ h => h) (by rfl) hS (fun w hJ => ?hy) (fun hS => ?_)
      case hy => go_simp; (try with_reducible rfl); (try (intro h; omega))
      simp only [Act.put, List.setIfInBounds_toArray, List.set_cons_zero, List.set_cons_succ]
      refine take_free (i := 34) (oi := _) (v := .pointer (some ⟨b, i3, none⟩)) rfl (by kernel_rfl) (by kernel_rfl) (by kernel_rfl) (by kernel_rfl) (fun _ _ _ h => h) (by rfl) hS (fun w hJ => ?hy) (fun hS => ?_)
      case hy => go_simp; (try with_reducible rfl); (try (intro h; omega))
      simp only [Act.put, List.setIfInBounds_toArray, List.set_cons_zero, List.set_cons_succ]
      refine take_load (i := 35) (oi := _) (v := wd x3) rfl (by kernel_rfl) (by kernel_rfl) (by kernel_rfl) (by kernel_rfl) (by rfl) (fun _ _ _ h => h) (by rfl) hS ?hy (fun hS => ?_)
      case hy => go_simp; (try with_reducible rfl)
      simp only [Act.put, List.setIfInBounds_toArray, List.set_cons_zero, List.set_cons_succ]
      refine take_free (i := 42) (oi := _) (v := .pointer (some ⟨b, 0, none⟩)) rfl (by kernel_rfl) (by kernel_rfl) (by kernel_rfl) (by kernel_rfl) (fun _ _ _ h => h) (by rfl) hS (fun w hJ => ?hy) (fun hS => ?_)
      case hy => go_simp; (try with_reducible rfl); (try (intro h; omega))
      simp only [Act.put, List.setIfInBounds_toArray, List.set_cons_zero, List.set_cons_succ]
      refine take_free (i := 45) (oi := _) (v := .pointer (some ⟨b, 0, none⟩)) rfl (by kernel_rfl) (by kernel_rfl) (by kernel_rfl) (by kernel_rfl) (fun _ _ _ h => h) (by rfl) hS (fun w hJ => ?hy) (fun hS => ?_)
      case hy => go_simp; (try with_reducible rfl); (try (intro h; omega))
      simp only [Act.put, List.setIfInBounds_toArray, List.set_cons_zero, List.set_cons_succ]
      refine take_free (i := 48) (oi := _) (v := .pointer (some ⟨b, 0, none⟩)) rfl (by kernel_rfl) (by kernel_rfl) (by kernel_rfl) (by kernel_rfl) (fun _ _ _ h => h) (by rfl) hS (fun w hJ => ?hy) (fun hS => ?_)
      case hy => go_simp; (try with_reducible rfl); (try (intro h; omega))
      simp only [Act.put, List.setIfInBounds_toArray, List.set_cons_zero, List.set_cons_succ]
      refine take_free (i := 51) (oi := _) (v := .pointer (some ⟨b, 0, none⟩)) rfl (by kernel_rfl) (by kernel_rfl) (by kernel_rfl) (by kernel_rfl) (fun _ _ _ h => h) (by rfl) hS (fun w hJ => ?hy) (fun hS => ?_)
      case hy => go_simp; (try with_reducible rfl); (try (intro h; omega))
      simp only [Act.put, List.setIfInBounds_toArray, List.set_cons_zero, List.set_cons_succ]
      refine only_W (i := 36) rfl (by kernel_rfl) (by rfl) (fun K hK => ?_)
      go_simp
      refine (quarter_calls _ _ _ _ _).mono ?_
      rintro e w' ⟨rfl, rfl⟩
      rw [HX.out.2.2.2.2]
      refine hK _ _ (Still.same hS.2) (fun hS => ?_)
      clear hK K
      simp only [Act.put, List.setIfInBounds_toArray, List.set_cons_zero, List.set_cons_succ]
      refine take_free (i := 37) (oi := _) (v := .tuple #[wd y0, wd y1, wd y2, wd y3]) rfl (by kernel_rfl) (by kernel_rfl) (by kernel_rfl) (by kernel_rfl) (fun _ _ _ h => h) (by rfl) hS (fun w hJ => ?hy) (fun hS => ?_)
      case hy => go_simp; (try with_reducible rfl); (try (intro h; omega))
      simp only [Act.put, List.setIfInBounds_toArray, List.set_cons_zero, List.set_cons_succ]
      refine take_free (i := 38) (oi := _) (v := wd y0) rfl (by kernel_rfl) (by kernel_rfl) (by kernel_rfl) (by kernel_rfl) (fun _ _ _ h => h) (by rfl) hS (fun w hJ => ?hy) (fun hS => ?_)
      case hy => go_simp; (try with_reducible rfl); (try (intro h; omega))
      simp only [Act.put, List.setIfInBounds_toArray, List.set_cons_zero, List.set_cons_succ]
      refine take_free (i := 39) (oi := _) (v := wd y1) rfl (by kernel_rfl) (by kernel_rfl) (by kernel_rfl) (by kernel_rfl) (fun _ _ _ h => h) (by rfl) hS (fun w hJ => ?hy) (fun hS => ?_)
      case hy => go_simp; (try with_reducible rfl); (try (intro h; omega))
      simp only [Act.put, List.setIfInBounds_toArray, List.set_cons_zero, List.set_cons_succ]
      refine take_free (i := 40) (oi := _) (v := wd y2) rfl (by kernel_rfl) (by kernel_rfl) (by kernel_rfl) (by kernel_rfl) (fun _ _ _ h => h) (by rfl) hS (fun w hJ => ?hy) (fun hS => ?_)
      case hy => go_simp; (try with_reducible rfl); (try (intro h; omega))
      simp only [Act.put, List.setIfInBounds_toArray, List.set_cons_zero, List.set_cons_succ]
      refine take_free (i := 41) (oi := _) (v := wd y3) rfl (by kernel_rfl) (by kernel_rfl) (by kernel_rfl) (by kernel_rfl) (fun _ _ _ h => h) (by rfl) hS (fun w hJ => ?hy) (fun hS => ?_)
      case hy => go_simp; (try with_reducible rfl); (try (intro h; omega))
      simp only [Act.put, List.setIfInBounds_toArray, List.set_cons_zero, List.set_cons_succ]
      have hBb : B ≠ b := by omega
      have HQR : Hid (qr t (i0, i1, i2, i3) = (((t.set i0 y0).set i1 y1).set i2 y2).set i3 y3) := by
        obtain ⟨e0, e1, e2, e3, e4⟩ := HX.out
        show qr t (i0, i1, i2, i3) = _
        simp only [qr, ← e0, ← e1, ← e2, ← e3, e4]
      clear HX a0 a1 a2 a3 q0 q1 q2 q3
      have HB0 : Hid (W.heap[b]? = some (.cells (ws t) 45 (0, 0))) := HBW.out.1
      have HK0 : Hid (Kept [b] w W) := HBW.out.2
      have hlen : t.length = 16 := hinv.out.2.1
      clear HBW
      refine take_free (i := 43) (oi := _) (v := .pointer (some ⟨b, i0, none⟩)) rfl (by kernel_rfl) (by kernel_rfl) (by kernel_rfl) (by kernel_rfl) (fun _ _ _ h => h) (by rfl) hS (fun w hJ => ?hy) (fun hS => ?_)
      case hy => go_simp; (try with_reducible rfl); (try (intro h; omega))
      simp only [Act.put, List.setIfInBounds_toArray, List.set_cons_zero, List.set_cons_succ]
      have ff : W.frozen? ⟨b, i0, none⟩ = false := frozen_of_row W b i0 _ 45 HB0.out
      have gg := ws_cell HB0.out i0 (by first | omega | (simp only [List.length_set]; omega))
      refine only_W (i := 44) rfl (by kernel_rfl) (by rfl) (fun K hK => ?_)
      go_simp
      have HB1 := hide (ws_store HB0.out i0 y0)
      have HK1 := hide (HK0.out.setCell ⟨b, i0, none⟩ (wd y0) (.inl (by simp)))
      refine hK _ _ (Still.later (by kernel_rfl) (hS.2.setCell hBb i0 (wd y0))) (fun hS => ?_)
      clear hK K ff gg HB0 HK0
      generalize W.setCell ⟨b, i0, none⟩ (wd y0) = W1 at *
      try simp only [Act.put, List.setIfInBounds_toArray, List.set_cons_zero, List.set_cons_succ]
      refine take_free (i := 46) (oi := _) (v := .pointer (some ⟨b, i1, none⟩)) rfl (by kernel_rfl) (by kernel_rfl) (by kernel_rfl) (by kernel_rfl) (fun _ _ _ h => h) (by rfl) hS (fun w hJ => ?hy) (fun hS => ?_)
      case hy => go_simp; (try with_reducible rfl); (try (intro h; omega))
      simp only [Act.put, List.setIfInBounds_toArray, List.set_cons_zero, List.set_cons_succ]
      have ff : W1.frozen? ⟨b, i1, none⟩ = false := frozen_of_row W1 b i1 _ 45 HB1.out
      have gg := ws_cell HB1.out i1 (by first | omega | (simp only [List.length_set]; omega))
      refine only_W (i := 47) rfl (by kernel_rfl) (by rfl) (fun K hK => ?_)
      go_simp
      have HB2 := hide (ws_store HB1.out i1 y1)
      have HK2 := hide (HK1.out.setCell ⟨b, i1, none⟩ (wd y1) (.inl (by simp)))
      refine hK _ _ (Still.later (by kernel_rfl) (hS.2.setCell hBb i1 (wd y1))) (fun hS => ?_)
      clear hK K ff gg HB1 HK1
      generalize W1.setCell ⟨b, i1, none⟩ (wd y1) = W2 at *
      try simp only [Act.put, List.setIfInBounds_toArray, List.set_cons_zero, List.set_cons_succ]
      refine take_free (i := 49) (oi := _) (v := .pointer (some ⟨b, i2, none⟩)) rfl (by kernel_rfl) (by kernel_rfl) (by kernel_rfl) (by kernel_rfl) (fun _ _ _ h => h) (by rfl) hS (fun w hJ => ?hy) (fun hS => ?_)
      case hy => go_simp; (try with_reducible rfl); (try (intro h; omega))
      simp only [Act.put, List.setIfInBounds_toArray, List.set_cons_zero, List.set_cons_succ]
      have ff : W2.frozen? ⟨b, i2, none⟩ = false := frozen_of_row W2 b i2 _ 45 HB2.out
      have gg := ws_cell HB2.out i2 (by first | omega | (simp only [List.length_set]; omega))
      refine only_W (i := 50) rfl (by kernel_rfl) (by rfl) (fun K hK => ?_)
      go_simp
      have HB3 := hide (ws_store HB2.out i2 y2)
      have HK3 := hide (HK2.out.setCell ⟨b, i2, none⟩ (wd y2) (.inl (by simp)))
      refine hK _ _ (Still.later (by kernel_rfl) (hS.2.setCell hBb i2 (wd y2))) (fun hS => ?_)
      clear hK K ff gg HB2 HK2
      generalize W2.setCell ⟨b, i2, none⟩ (wd y2) = W3 at *
      try simp only [Act.put, List.setIfInBounds_toArray, List.set_cons_zero, List.set_cons_succ]
      refine take_free (i := 52) (oi := _) (v := .pointer (some ⟨b, i3, none⟩)) rfl (by kernel_rfl) (by kernel_rfl) (by kernel_rfl) (by kernel_rfl) (fun _ _ _ h => h) (by rfl) hS (fun w hJ => ?hy) (fun hS => ?_)
      case hy => go_simp; (try with_reducible rfl); (try (intro h; omega))
      simp only [Act.put, List.setIfInBounds_toArray, List.set_cons_zero, List.set_cons_succ]
      have ff : W3.frozen? ⟨b, i3, none⟩ = false := frozen_of_row W3 b i3 _ 45 HB3.out
      have gg := ws_cell HB3.out i3 (by first | omega | (simp only [List.length_set]; omega))
      refine only_W (i := 53) rfl (by kernel_rfl) (by rfl) (fun K hK => ?_)
      go_simp
      have HB4 := hide (ws_store HB3.out i3 y3)
      have HK4 := hide (HK3.out.setCell ⟨b, i3, none⟩ (wd y3) (.inl (by simp)))
      refine hK _ _ (Still.later (by kernel_rfl) (hS.2.setCell hBb i3 (wd y3))) (fun hS => ?_)
      clear hK K ff gg HB3 HK3
      generalize W3.setCell ⟨b, i3, none⟩ (wd y3) = W4 at *
      try simp only [Act.put, List.setIfInBounds_toArray, List.set_cons_zero, List.set_cons_succ]
      refine done_W (by kernel_rfl) (NoPanic.normal ?_)
      clear hS
      go_wp2_with fail
      refine ⟨⟨k + 1, qr t (i0, i1, i2, i3), by omega, by simp, ?_, ?_, ?_, HK4.out⟩, ?_⟩
      · rw [List.take_add_one, HQ.out, List.foldl_append, ← hinv.out.1]; rfl
      · rw [qr_length]; exact hlen
      · rw [HQR.out]; exact HB4.out
      · simp only [intOf]; omega
    · have hk8 : k = 8 := by omega
      go_wp2_with fail
      go_end0
      obtain ⟨ht, _, hbt, hkt⟩ := hinv.out
      subst hk8
      rw [ht] at hbt
      exact ⟨rfl, hbt, hkt⟩
end Go.Proofs.Ytcnabgbfnaabjaa
