/- The reference's Block. -/
import Derived.Test.YtcnabgbfnaabjaaQlw
import Derived.Test.YtcnabgbfnaabjaaOrx
namespace Go.Proofs.Ytcnabgbfnaabjaa
open Go.RowKit
set_option linter.unusedSimpArgs false
set_option linter.unusedVariables false

theorem refBlock_no (k n : ByteArray) (c : UInt32) (h : ¬ (k.size = 32 ∧ n.size = 12)) (w : World) :
    Calls Try.prog 17 #[.string k, .string n, wd c] w fun e w' => e = .returned (.tuple #[.slice none 0 0, .int .i64 1]) ∧ w = w' := by
  by_cases h1 : k.size = 32
  · have h2 : n.size ≠ 12 := fun e => h ⟨h1, e⟩
    have h2' : ((n.size : Int) == 12) = false := by simp; omega
    go_enter Try.func17, Try.ntmps17
    go_wp2
    go_ret2
    exact ⟨rfl, rfl⟩
  · have h1' : ((k.size : Int) == 32) = false := by simp; omega
    go_enter Try.func17, Try.ntmps17
    go_wp2
    go_ret2
    exact ⟨rfl, rfl⟩

theorem blockOf_eq (k n : ByteArray) (c : UInt32) : blockOf k n c = sums (rnds 10 (nonced k n c 3)) (nonced k n c 3) 16 := by unfold blockOf ini; with_reducible rfl

/-- The four words that a quarter round reads. -/
def In4 (b i0 i1 i2 i3 : Nat) (x0 x1 x2 x3 : UInt32) (w : World) : Prop := w.cell? ⟨b, i0, none⟩ = some (wd x0) ∧ w.cell? ⟨b, i1, none⟩ = some (wd x1) ∧ w.cell? ⟨b, i2, none⟩ = some (wd x2) ∧ w.cell? ⟨b, i3, none⟩ = some (wd x3)

theorem rounds_done (x : List UInt32) : (table.take 8).foldl qr x = rnd x := rfl
theorem rnds_succ (j : Nat) (s : List UInt32) : rnds (j + 1) s = rnd (rnds j s) := rfl

/-- The table, as a row of cells. -/
def tabC : Array Value := #[.int .i64 0, .int .i64 4, .int .i64 8, .int .i64 12, .int .i64 1, .int .i64 5, .int .i64 9, .int .i64 13, .int .i64 2, .int .i64 6, .int .i64 10, .int .i64 14, .int .i64 3, .int .i64 7, .int .i64 11, .int .i64 15, .int .i64 0, .int .i64 5, .int .i64 10, .int .i64 15, .int .i64 1, .int .i64 6, .int .i64 11, .int .i64 12, .int .i64 2, .int .i64 7, .int .i64 8, .int .i64 13, .int .i64 3, .int .i64 4, .int .i64 9, .int .i64 14]
theorem tab_one : tabC.all (·.oneCell') = true := by kernel_rfl
theorem tab_size : (Try.prog.info? 43).map (·.size) = some tabC.size := by kernel_rfl
theorem tab_at (k : Nat) (hk : k < 8) : ∃ i0 i1 i2 i3 : Nat, i0 < 16 ∧ i1 < 16 ∧ i2 < 16 ∧ i3 < 16 ∧ table[k]? = some (i0, i1, i2, i3) ∧
    ∀ w, (Instr.index 43 (.agg tabC) (.int .i64 (k : Int))).run Try.prog w = .ok (.agg #[.int .i64 i0, .int .i64 i1, .int .i64 i2, .int .i64 i3]) w := table_at k hk

set_option maxHeartbeats 4000000 in
set_option maxRecDepth 100000 in
theorem refBlock_yes (k n : ByteArray) (c : UInt32) (hk : k.size = 32) (hn : n.size = 12) (w : World) :
    Calls Try.prog 17 #[.string k, .string n, wd c] w fun e w' => ∃ g cap, e = .returned (.tuple #[.slice (some ⟨g, 0, none⟩) 64 cap, .int .i64 0]) ∧ Own w' (some ⟨g, 0, none⟩) cap (blockOf k n c) ∧ Kept [] w w' ∧ w.heap.size ≤ g ∧ 64 ≤ cap := by
  have HB := hide hk
  have HS := hide hn
  go_enter Try.func17, Try.ntmps17
  go_wp2_with fail
  have hnew := heap_alloc_new w (.cells #[.int .u32 1634760805, .int .u32 857760878, .int .u32 2036477234, .int .u32 1797285236, .int .u32 0, .int .u32 0, .int .u32 0, .int .u32 0, .int .u32 0, .int .u32 0, .int .u32 0, .int .u32 0, .int .u32 0, .int .u32 0, .int .u32 0, .int .u32 0] 40)
  have hb : ws (keyed k 0) = #[.int .u32 1634760805, .int .u32 857760878, .int .u32 2036477234, .int .u32 1797285236, .int .u32 0, .int .u32 0, .int .u32 0, .int .u32 0, .int .u32 0, .int .u32 0, .int .u32 0, .int .u32 0, .int .u32 0, .int .u32 0, .int .u32 0, .int .u32 0] := rfl
  rw [← hb] at hnew
  have HA := hide hnew
  clear hnew hb hk hn
  go_loopw [9] (fun i wr => ∃ (j : Nat), j ≤ 8 ∧ i = .int .i64 j ∧ Hid (wr.heap[w.heap.size]? = some (.cells (ws (keyed k j)) 40 (0, 0)) ∧ Kept [] w wr)) (fun i _ => 8 - (intOf i).toNat)
  case atStart => exact ⟨0, by omega, rfl, HA.out, (Kept.refl _ _).alloc _⟩
  case round =>
    obtain ⟨j, hj, rfl, hinv⟩ := hrel
    by_cases hlt : j < 8
    · have hc := refword_calls k j (by rw [HB.out]; omega) (by rw [HB.out]; omega) wr
      go_wp2_with fail
      refine hc.mono ?_
      rintro e w' ⟨rfl, n', rfl⟩
      have hw' : (wr.drewN n').heap[w.heap.size]? = some (.cells (ws (keyed k j)) 40 (0, 0)) := hinv.out.1
      have gg := ws_cell hw' (4 + j) (by rw [keyed_length]; omega)
      have ff := frozen_of_row _ _ (4 + j) _ _ hw'
      have HN := hide (ws_store hw' (4 + j) (wAt k (4 * j)))
      clear hw'
      rw [← keyed_succ] at HN
      have HK := hide ((hinv.out.2.drewN n').setCell ⟨w.heap.size, 4 + j, none⟩ (wd (wAt k (4 * j))) (.inr (by simp)))
      go_wp2_with fail
      refine ⟨⟨j + 1, by omega, by simp, HN.out, HK.out⟩, ?_⟩
      simp only [intOf]; omega
    · obtain rfl : j = 8 := by omega
      have gg := ws_cell hinv.out.1 12 (by rw [keyed_length]; omega)
      have ff := frozen_of_row _ _ 12 _ _ hinv.out.1
      have HN := hide (ws_store hinv.out.1 12 c)
      have HK := hide (hinv.out.2.setCell ⟨w.heap.size, 12, none⟩ (wd c) (.inr (by simp)))
      clear hinv
      go_wp2_with fail
      have hn0 : (ws ((keyed k 8).set 12 c)) = ws (nonced k n c 0) := rfl
      rw [hn0] at HN
      clear hn0 gg ff
      have HH := hide (And.intro HN.out HK.out)
      clear HN HK HA
      go_loopw [10] (fun i wr => ∃ (j : Nat), j ≤ 3 ∧ i = .int .i64 j ∧ Hid (wr.heap[w.heap.size]? = some (.cells (ws (nonced k n c j)) 40 (0, 0)) ∧ Kept [] w wr)) (fun i _ => 3 - (intOf i).toNat)
      case atStart => exact ⟨0, by omega, rfl, HH.out⟩
      case round =>
        clear HH
        obtain ⟨j, hj, rfl, hinv⟩ := hrel
        by_cases hlt : j < 3
        · have hc := refword_calls n j (by rw [HS.out]; omega) (by rw [HS.out]; omega) wr
          go_wp2_with fail
          refine hc.mono ?_
          rintro e w' ⟨rfl, n', rfl⟩
          have hw' : (wr.drewN n').heap[w.heap.size]? = some (.cells (ws (nonced k n c j)) 40 (0, 0)) := hinv.out.1
          have gg := ws_cell hw' (13 + j) (by rw [nonced_length]; omega)
          have ff := frozen_of_row _ _ (13 + j) _ _ hw'
          have HN := hide (ws_store hw' (13 + j) (wAt n (4 * j)))
          clear hw'
          rw [← nonced_succ] at HN
          have HK := hide ((hinv.out.2.drewN n').setCell ⟨w.heap.size, 13 + j, none⟩ (wd (wAt n (4 * j))) (.inr (by simp)))
          go_wp2_with fail
          refine ⟨⟨_, _, _, _, _, _, _, _, _, _, _, ⟨j + 1, by omega, by simp, HN.out, HK.out⟩, rfl⟩, ?_⟩
          simp [intOf]; omega
        · obtain rfl : j = 3 := by omega
          have H40 := hide (show (Try.prog.info? 40).map (·.size) = some (ws (nonced k n c 3)).size by rw [ws_size, nonced_length]; kernel_rfl)
          have hg := hinv.out.1
          have hkw := hinv.out.2
          clear hinv
          have HBO := hide (blockOf_eq k n c)
          have HL := hide (nonced_length k n c 3)
          generalize nonced k n c 3 = s at *
          have HG := hide (And.intro hg hkw)
          clear hg hkw
          go_wp2_with (first
            | (refine wpList_store_row rfl 43 _ _ rfl _ tabC rfl rfl 43 _ (heap_alloc_new _ _) tab_size rfl tab_one ?_; rw [World.setRow_alloc_new])
            | (refine wpList_store_row rfl 40 _ _ rfl _ (ws s) rfl rfl 40 _ (heap_alloc2_new _ _ _) H40.out (by rw [ws_size, HL.out]; rfl) (ws_one _) ?_; rw [setRow_alloc2_new])
            | (refine wpList_load_row rfl 40 _ rfl _ rfl 40 (ws s) (0, 0) _ ((heap_alloc_old wr _ (at_lt HG.out.1)).trans HG.out.1) Try.underlying40 rfl H40.out ?_)
            | fail)
          clear H40
          have HR3 : Hid (((wr.alloc (.cells tabC 43)).alloc (.cells (ws s) 40)).heap[w.heap.size]? = some (.cells (ws s) 40 (0, 0)) ∧ ((wr.alloc (.cells tabC 43)).alloc (.cells (ws s) 40)).heap[wr.heap.size]? = some (.cells tabC 43 (0, 0)) ∧
              ((wr.alloc (.cells tabC 43)).alloc (.cells (ws s) 40)).heap[wr.heap.size + 1]? = some (.cells (ws (rnds 0 s)) 40 (0, 0)) ∧ Kept [] w ((wr.alloc (.cells tabC 43)).alloc (.cells (ws s) 40))) := by
            have hl := at_lt HG.out.1
            refine ⟨?_, heap_alloc2_old _ _ _, heap_alloc2_new _ _ _, (HG.out.2.alloc _).alloc _⟩
            exact (heap_alloc_old _ _ (by simp; omega)).trans ((heap_alloc_old wr _ hl).trans HG.out.1)
          have hGT : w.heap.size < wr.heap.size := at_lt HG.out.1
          clear HG
          generalize (wr.alloc (.cells tabC 43)).alloc (.cells (ws s) 40) = wz at *
          generalize wr.heap.size = T at *
          go_loopw [13] (fun i wr => ∃ (j : Nat), j ≤ 10 ∧ i = .int .i64 j ∧ Hid (wr.heap[w.heap.size]? = some (.cells (ws s) 40 (0, 0)) ∧ wr.heap[T]? = some (.cells tabC 43 (0, 0)) ∧ wr.heap[T + 1]? = some (.cells (ws (rnds j s)) 40 (0, 0)) ∧ Kept [] w wr)) (fun i _ => 10 - (intOf i).toNat)
          case atStart => exact ⟨0, by omega, rfl, HR3.out⟩
          case round =>
            clear HR3
            obtain ⟨j, hj, rfl, hinv⟩ := hrel
            by_cases hlt : j < 10
            · go_wp2_with (first
                | (refine wpList_load_row rfl 43 _ rfl _ rfl 43 tabC (0, 0) _ hinv.out.2.1 Try.underlying43 rfl tab_size ?_)
                | fail)
              have HI3 := hinv
              clear hinv
              go_loopw [65] (fun i wr => ∃ (k : Nat) (t : List UInt32), k ≤ 8 ∧ i = .int .i64 k ∧ Hid (t = (table.take k).foldl qr (rnds j s) ∧ t.length = 16 ∧ wr.heap[T + 1]? = some (.cells (ws t) 40 (0, 0)) ∧ wr.heap[w.heap.size]? = some (.cells (ws s) 40 (0, 0)) ∧ wr.heap[T]? = some (.cells tabC 43 (0, 0)) ∧ Kept [] w wr)) (fun i _ => 8 - (intOf i).toNat)
              case atStart => exact ⟨0, rnds j s, by omega, rfl, rfl, by rw [rnds_length]; exact HL.out, HI3.out.2.2.1, HI3.out.1, HI3.out.2.1, HI3.out.2.2.2⟩
              case round =>
                clear HI3
                obtain ⟨k, t, hk, rfl, hinv⟩ := hrel
                by_cases hlt : k < 8
                · obtain ⟨i0, i1, i2, i3, l0, l1, l2, l3, hq, hidx⟩ := tab_at k hlt
                  have HQ := hide hq
                  clear hq
                  go_wp2_with fail
                  have hW : (wr.alloc (.cells #[.int .i64 i0, .int .i64 i1, .int .i64 i2, .int .i64 i3] 42)).drew.heap[wr.heap.size]? = some (.cells #[Value.int .i64 i0, .int .i64 i1, .int .i64 i2, .int .i64 i3] 42 (0, 0)) := (MapKept.heap_alloc wr _).1
                  have q0 := cell_of_row _ wr.heap.size 0 _ 42 (0, 0) hW
                  have q1 := cell_of_row _ wr.heap.size 1 _ 42 (0, 0) hW
                  have q2 := cell_of_row _ wr.heap.size 2 _ 42 (0, 0) hW
                  have q3 := cell_of_row _ wr.heap.size 3 _ 42 (0, 0) hW
                  simp only [List.getElem?_toArray, List.getElem?_cons_zero, List.getElem?_cons_succ] at q0 q1 q2 q3
                  have HJ : Hid (Row4 wr.heap.size i0 i1 i2 i3 (wr.alloc (.cells #[.int .i64 i0, .int .i64 i1, .int .i64 i2, .int .i64 i3] 42)).drew) := ⟨at_lt hW, q0, q1, q2, q3⟩
                  have hlb : T + 1 < wr.heap.size := at_lt hinv.out.2.2.1
                  have hbW : (wr.alloc (.cells #[.int .i64 i0, .int .i64 i1, .int .i64 i2, .int .i64 i3] 42)).drew.heap[T + 1]? = some (.cells (ws t) 40 (0, 0)) :=
                    ((MapKept.heap_alloc wr _).2 (T + 1) hlb).trans hinv.out.2.2.1
                  have hKW : Kept [T + 1] wr (wr.alloc (.cells #[.int .i64 i0, .int .i64 i1, .int .i64 i2, .int .i64 i3] 42)).drew := ((Kept.refl [T + 1] wr).alloc _).drew
                  obtain ⟨x0, hx0⟩ : ∃ x, x = t.getD i0 0 := ⟨_, rfl⟩
                  obtain ⟨x1, hx1⟩ : ∃ x, x = t.getD i1 0 := ⟨_, rfl⟩
                  obtain ⟨x2, hx2⟩ : ∃ x, x = t.getD i2 0 := ⟨_, rfl⟩
                  obtain ⟨x3, hx3⟩ : ∃ x, x = t.getD i3 0 := ⟨_, rfl⟩
                  obtain ⟨y0, y1, y2, y3, hy⟩ : ∃ y0 y1 y2 y3, quarter x0 x1 x2 x3 = (y0, y1, y2, y3) := ⟨_, _, _, _, rfl⟩
                  have a0 := ws_cell hbW i0 (by have := hinv.out.2.1; omega)
                  rw [← hx0] at a0
                  have a1 := ws_cell hbW i1 (by have := hinv.out.2.1; omega)
                  rw [← hx1] at a1
                  have a2 := ws_cell hbW i2 (by have := hinv.out.2.1; omega)
                  rw [← hx2] at a2
                  have a3 := ws_cell hbW i3 (by have := hinv.out.2.1; omega)
                  rw [← hx3] at a3
                  have HI : Hid (In4 (T + 1) i0 i1 i2 i3 x0 x1 x2 x3 (wr.alloc (.cells #[.int .i64 i0, .int .i64 i1, .int .i64 i2, .int .i64 i3] 42)).drew) := ⟨a0, a1, a2, a3⟩
                  have HNE : Hid (wr.heap.size ≠ T + 1) := by show wr.heap.size ≠ T + 1; omega
                  refine wp_region_noPanic ?_
                  refine Orx.begin_W 31 (In4 (T + 1) i0 i1 i2 i3 x0 x1 x2 x3) (Row4 wr.heap.size i0 i1 i2 i3) (by kernel_rfl) HI.out HJ.out (fun hS => ?_)
                  clear hW a0 a1 a2 a3 hlb
                  generalize (wr.alloc (.cells #[.int .i64 i0, .int .i64 i1, .int .i64 i2, .int .i64 i3] 42)).drew = W at *
                  generalize wr.heap.size = B at *
                  have HX := hide (And.intro hx0 (And.intro hx1 (And.intro hx2 (And.intro hx3 hy))))
                  clear hx0 hx1 hx2 hx3 hy
                  have HBW := hide (And.intro hbW hKW)
                  clear hbW hKW
                  refine Orx.take_free (i := 0) (oi := _) (v := .pointer (some ⟨B, 0, none⟩)) rfl (by kernel_rfl) (by kernel_rfl) (by kernel_rfl) (by kernel_rfl) (fun _ _ _ h => h) (by rfl) hS (fun w hJ => ?hy) (fun hS => ?_)
                  case hy => go_simp; (try with_reducible rfl); (try (intro h; omega))
                  simp only [Act.put, List.setIfInBounds_toArray, List.set_cons_zero, List.set_cons_succ]
                  refine Orx.take_free (i := 1) (oi := _) (v := .int .i64 i0) rfl (by kernel_rfl) (by kernel_rfl) (by kernel_rfl) (by kernel_rfl) (fun _ _ _ h => h) (by rfl) hS (fun w hJ => ?hy) (fun hS => ?_)
                  case hy => obtain ⟨hBs, j0, j1, j2, j3⟩ := hJ; clear hBs; go_simp; (try with_reducible rfl); (try (intro h; omega))
                  simp only [Act.put, List.setIfInBounds_toArray, List.set_cons_zero, List.set_cons_succ]
                  refine Orx.take_free (i := 2) (oi := _) (v := .pointer (some ⟨B, 1, none⟩)) rfl (by kernel_rfl) (by kernel_rfl) (by kernel_rfl) (by kernel_rfl) (fun _ _ _ h => h) (by rfl) hS (fun w hJ => ?hy) (fun hS => ?_)
                  case hy => go_simp; (try with_reducible rfl); (try (intro h; omega))
                  simp only [Act.put, List.setIfInBounds_toArray, List.set_cons_zero, List.set_cons_succ]
                  refine Orx.take_free (i := 3) (oi := _) (v := .int .i64 i1) rfl (by kernel_rfl) (by kernel_rfl) (by kernel_rfl) (by kernel_rfl) (fun _ _ _ h => h) (by rfl) hS (fun w hJ => ?hy) (fun hS => ?_)
                  case hy => obtain ⟨hBs, j0, j1, j2, j3⟩ := hJ; clear hBs; go_simp; (try with_reducible rfl); (try (intro h; omega))
                  simp only [Act.put, List.setIfInBounds_toArray, List.set_cons_zero, List.set_cons_succ]
                  refine Orx.take_free (i := 4) (oi := _) (v := .pointer (some ⟨B, 2, none⟩)) rfl (by kernel_rfl) (by kernel_rfl) (by kernel_rfl) (by kernel_rfl) (fun _ _ _ h => h) (by rfl) hS (fun w hJ => ?hy) (fun hS => ?_)
                  case hy => go_simp; (try with_reducible rfl); (try (intro h; omega))
                  simp only [Act.put, List.setIfInBounds_toArray, List.set_cons_zero, List.set_cons_succ]
                  refine Orx.take_free (i := 5) (oi := _) (v := .int .i64 i2) rfl (by kernel_rfl) (by kernel_rfl) (by kernel_rfl) (by kernel_rfl) (fun _ _ _ h => h) (by rfl) hS (fun w hJ => ?hy) (fun hS => ?_)
                  case hy => obtain ⟨hBs, j0, j1, j2, j3⟩ := hJ; clear hBs; go_simp; (try with_reducible rfl); (try (intro h; omega))
                  simp only [Act.put, List.setIfInBounds_toArray, List.set_cons_zero, List.set_cons_succ]
                  refine Orx.take_free (i := 6) (oi := _) (v := .pointer (some ⟨B, 3, none⟩)) rfl (by kernel_rfl) (by kernel_rfl) (by kernel_rfl) (by kernel_rfl) (fun _ _ _ h => h) (by rfl) hS (fun w hJ => ?hy) (fun hS => ?_)
                  case hy => go_simp; (try with_reducible rfl); (try (intro h; omega))
                  simp only [Act.put, List.setIfInBounds_toArray, List.set_cons_zero, List.set_cons_succ]
                  refine Orx.take_free (i := 7) (oi := _) (v := .int .i64 i3) rfl (by kernel_rfl) (by kernel_rfl) (by kernel_rfl) (by kernel_rfl) (fun _ _ _ h => h) (by rfl) hS (fun w hJ => ?hy) (fun hS => ?_)
                  case hy => obtain ⟨hBs, j0, j1, j2, j3⟩ := hJ; clear hBs; go_simp; (try with_reducible rfl); (try (intro h; omega))
                  simp only [Act.put, List.setIfInBounds_toArray, List.set_cons_zero, List.set_cons_succ]
                  refine Orx.take_free (i := 8) (oi := _) (v := .pointer (some ⟨B, 0, none⟩)) rfl (by kernel_rfl) (by kernel_rfl) (by kernel_rfl) (by kernel_rfl) (fun _ _ _ h => h) (by rfl) hS (fun w hJ => ?hy) (fun hS => ?_)
                  case hy => go_simp; (try with_reducible rfl); (try (intro h; omega))
                  simp only [Act.put, List.setIfInBounds_toArray, List.set_cons_zero, List.set_cons_succ]
                  refine Orx.take_free (i := 9) (oi := _) (v := .int .i64 i0) rfl (by kernel_rfl) (by kernel_rfl) (by kernel_rfl) (by kernel_rfl) (fun _ _ _ h => h) (by rfl) hS (fun w hJ => ?hy) (fun hS => ?_)
                  case hy => obtain ⟨hBs, j0, j1, j2, j3⟩ := hJ; clear hBs; go_simp; (try with_reducible rfl); (try (intro h; omega))
                  simp only [Act.put, List.setIfInBounds_toArray, List.set_cons_zero, List.set_cons_succ]
                  refine Orx.take_free (i := 10) (oi := _) (v := .pointer (some ⟨T + 1, i0, none⟩)) rfl (by kernel_rfl) (by kernel_rfl) (by kernel_rfl) (by kernel_rfl) (fun _ _ _ h => h) (by rfl) hS (fun w hJ => ?hy) (fun hS => ?_)
                  case hy => go_simp; (try with_reducible rfl); (try (intro h; omega))
                  simp only [Act.put, List.setIfInBounds_toArray, List.set_cons_zero, List.set_cons_succ]
                  refine Orx.take_load (i := 11) (oi := _) (v := wd x0) rfl (by kernel_rfl) (by kernel_rfl) (by kernel_rfl) (by kernel_rfl) (by rfl) (fun _ _ _ h => h) (by rfl) hS (fun w hI => ?hy) (fun hS => ?_)
                  case hy => obtain ⟨a0, a1, a2, a3⟩ := hI; go_simp; (try with_reducible rfl)
                  simp only [Act.put, List.setIfInBounds_toArray, List.set_cons_zero, List.set_cons_succ]
                  refine Orx.take_free (i := 12) (oi := _) (v := .pointer (some ⟨B, 1, none⟩)) rfl (by kernel_rfl) (by kernel_rfl) (by kernel_rfl) (by kernel_rfl) (fun _ _ _ h => h) (by rfl) hS (fun w hJ => ?hy) (fun hS => ?_)
                  case hy => go_simp; (try with_reducible rfl); (try (intro h; omega))
                  simp only [Act.put, List.setIfInBounds_toArray, List.set_cons_zero, List.set_cons_succ]
                  refine Orx.take_free (i := 13) (oi := _) (v := .int .i64 i1) rfl (by kernel_rfl) (by kernel_rfl) (by kernel_rfl) (by kernel_rfl) (fun _ _ _ h => h) (by rfl) hS (fun w hJ => ?hy) (fun hS => ?_)
                  case hy => obtain ⟨hBs, j0, j1, j2, j3⟩ := hJ; clear hBs; go_simp; (try with_reducible rfl); (try (intro h; omega))
                  simp only [Act.put, List.setIfInBounds_toArray, List.set_cons_zero, List.set_cons_succ]
                  refine Orx.take_free (i := 14) (oi := _) (v := .pointer (some ⟨T + 1, i1, none⟩)) rfl (by kernel_rfl) (by kernel_rfl) (by kernel_rfl) (by kernel_rfl) (fun _ _ _ h => h) (by rfl) hS (fun w hJ => ?hy) (fun hS => ?_)
                  case hy => go_simp; (try with_reducible rfl); (try (intro h; omega))
                  simp only [Act.put, List.setIfInBounds_toArray, List.set_cons_zero, List.set_cons_succ]
                  refine Orx.take_load (i := 15) (oi := _) (v := wd x1) rfl (by kernel_rfl) (by kernel_rfl) (by kernel_rfl) (by kernel_rfl) (by rfl) (fun _ _ _ h => h) (by rfl) hS (fun w hI => ?hy) (fun hS => ?_)
                  case hy => obtain ⟨a0, a1, a2, a3⟩ := hI; go_simp; (try with_reducible rfl)
                  simp only [Act.put, List.setIfInBounds_toArray, List.set_cons_zero, List.set_cons_succ]
                  refine Orx.take_free (i := 16) (oi := _) (v := .pointer (some ⟨B, 2, none⟩)) rfl (by kernel_rfl) (by kernel_rfl) (by kernel_rfl) (by kernel_rfl) (fun _ _ _ h => h) (by rfl) hS (fun w hJ => ?hy) (fun hS => ?_)
                  case hy => go_simp; (try with_reducible rfl); (try (intro h; omega))
                  simp only [Act.put, List.setIfInBounds_toArray, List.set_cons_zero, List.set_cons_succ]
                  refine Orx.take_free (i := 17) (oi := _) (v := .int .i64 i2) rfl (by kernel_rfl) (by kernel_rfl) (by kernel_rfl) (by kernel_rfl) (fun _ _ _ h => h) (by rfl) hS (fun w hJ => ?hy) (fun hS => ?_)
                  case hy => obtain ⟨hBs, j0, j1, j2, j3⟩ := hJ; clear hBs; go_simp; (try with_reducible rfl); (try (intro h; omega))
                  simp only [Act.put, List.setIfInBounds_toArray, List.set_cons_zero, List.set_cons_succ]
                  refine Orx.take_free (i := 18) (oi := _) (v := .pointer (some ⟨T + 1, i2, none⟩)) rfl (by kernel_rfl) (by kernel_rfl) (by kernel_rfl) (by kernel_rfl) (fun _ _ _ h => h) (by rfl) hS (fun w hJ => ?hy) (fun hS => ?_)
                  case hy => go_simp; (try with_reducible rfl); (try (intro h; omega))
                  simp only [Act.put, List.setIfInBounds_toArray, List.set_cons_zero, List.set_cons_succ]
                  refine Orx.take_load (i := 19) (oi := _) (v := wd x2) rfl (by kernel_rfl) (by kernel_rfl) (by kernel_rfl) (by kernel_rfl) (by rfl) (fun _ _ _ h => h) (by rfl) hS (fun w hI => ?hy) (fun hS => ?_)
                  case hy => obtain ⟨a0, a1, a2, a3⟩ := hI; go_simp; (try with_reducible rfl)
                  simp only [Act.put, List.setIfInBounds_toArray, List.set_cons_zero, List.set_cons_succ]
                  refine Orx.take_free (i := 20) (oi := _) (v := .pointer (some ⟨B, 3, none⟩)) rfl (by kernel_rfl) (by kernel_rfl) (by kernel_rfl) (by kernel_rfl) (fun _ _ _ h => h) (by rfl) hS (fun w hJ => ?hy) (fun hS => ?_)
                  case hy => go_simp; (try with_reducible rfl); (try (intro h; omega))
                  simp only [Act.put, List.setIfInBounds_toArray, List.set_cons_zero, List.set_cons_succ]
                  refine Orx.take_free (i := 21) (oi := _) (v := .int .i64 i3) rfl (by kernel_rfl) (by kernel_rfl) (by kernel_rfl) (by kernel_rfl) (fun _ _ _ h => h) (by rfl) hS (fun w hJ => ?hy) (fun hS => ?_)
                  case hy => obtain ⟨hBs, j0, j1, j2, j3⟩ := hJ; clear hBs; go_simp; (try with_reducible rfl); (try (intro h; omega))
                  simp only [Act.put, List.setIfInBounds_toArray, List.set_cons_zero, List.set_cons_succ]
                  refine Orx.take_free (i := 22) (oi := _) (v := .pointer (some ⟨T + 1, i3, none⟩)) rfl (by kernel_rfl) (by kernel_rfl) (by kernel_rfl) (by kernel_rfl) (fun _ _ _ h => h) (by rfl) hS (fun w hJ => ?hy) (fun hS => ?_)
                  case hy => go_simp; (try with_reducible rfl); (try (intro h; omega))
                  simp only [Act.put, List.setIfInBounds_toArray, List.set_cons_zero, List.set_cons_succ]
                  refine Orx.take_load (i := 23) (oi := _) (v := wd x3) rfl (by kernel_rfl) (by kernel_rfl) (by kernel_rfl) (by kernel_rfl) (by rfl) (fun _ _ _ h => h) (by rfl) hS (fun w hI => ?hy) (fun hS => ?_)
                  case hy => obtain ⟨a0, a1, a2, a3⟩ := hI; go_simp; (try with_reducible rfl)
                  simp only [Act.put, List.setIfInBounds_toArray, List.set_cons_zero, List.set_cons_succ]
                  refine Orx.only_W (i := 24) rfl (by kernel_rfl) (by rfl) (fun K hK => ?_)
                  go_simp
                  refine (refquarter_four _ _ _ _ _).mono ?_
                  rintro e w' ⟨rfl, n', rfl⟩
                  rw [HX.out.2.2.2.2]
                  have HB0 : Hid ((W.drewN n').heap[T + 1]? = some (.cells (ws t) 40 (0, 0))) := HBW.out.1
                  have HK0 : Hid (Kept [T + 1] wr (W.drewN n')) := HBW.out.2.drewN n'
                  refine hK _ _ (Orx.Still.same HI.out HJ.out) (fun hS => ?_)
                  clear hK K
                  simp only [Act.put, List.setIfInBounds_toArray, List.set_cons_zero, List.set_cons_succ]
                  generalize W.drewN n' = W0 at *
                  refine Orx.take_free (i := 25) (oi := _) (v := .tuple #[wd y0, wd y1, wd y2, wd y3]) rfl (by kernel_rfl) (by kernel_rfl) (by kernel_rfl) (by kernel_rfl) (fun _ _ _ h => h) (by rfl) hS (fun w hJ => ?hy) (fun hS => ?_)
                  case hy => go_simp; (try with_reducible rfl); (try (intro h; omega))
                  simp only [Act.put, List.setIfInBounds_toArray, List.set_cons_zero, List.set_cons_succ]
                  refine Orx.take_free (i := 26) (oi := _) (v := wd y0) rfl (by kernel_rfl) (by kernel_rfl) (by kernel_rfl) (by kernel_rfl) (fun _ _ _ h => h) (by rfl) hS (fun w hJ => ?hy) (fun hS => ?_)
                  case hy => go_simp; (try with_reducible rfl); (try (intro h; omega))
                  simp only [Act.put, List.setIfInBounds_toArray, List.set_cons_zero, List.set_cons_succ]
                  refine Orx.take_free (i := 27) (oi := _) (v := wd y1) rfl (by kernel_rfl) (by kernel_rfl) (by kernel_rfl) (by kernel_rfl) (fun _ _ _ h => h) (by rfl) hS (fun w hJ => ?hy) (fun hS => ?_)
                  case hy => go_simp; (try with_reducible rfl); (try (intro h; omega))
                  simp only [Act.put, List.setIfInBounds_toArray, List.set_cons_zero, List.set_cons_succ]
                  refine Orx.take_free (i := 28) (oi := _) (v := wd y2) rfl (by kernel_rfl) (by kernel_rfl) (by kernel_rfl) (by kernel_rfl) (fun _ _ _ h => h) (by rfl) hS (fun w hJ => ?hy) (fun hS => ?_)
                  case hy => go_simp; (try with_reducible rfl); (try (intro h; omega))
                  simp only [Act.put, List.setIfInBounds_toArray, List.set_cons_zero, List.set_cons_succ]
                  refine Orx.take_free (i := 29) (oi := _) (v := wd y3) rfl (by kernel_rfl) (by kernel_rfl) (by kernel_rfl) (by kernel_rfl) (fun _ _ _ h => h) (by rfl) hS (fun w hJ => ?hy) (fun hS => ?_)
                  case hy => go_simp; (try with_reducible rfl); (try (intro h; omega))
                  simp only [Act.put, List.setIfInBounds_toArray, List.set_cons_zero, List.set_cons_succ]
                  have hBb : B ≠ T + 1 := HNE.out
                  have HQR : Hid (qr t (i0, i1, i2, i3) = (((t.set i0 y0).set i1 y1).set i2 y2).set i3 y3) := by
                    obtain ⟨e0, e1, e2, e3, e4⟩ := HX.out
                    show qr t (i0, i1, i2, i3) = _
                    simp only [qr, ← e0, ← e1, ← e2, ← e3, e4]
                  clear HX q0 q1 q2 q3
                  have hlen : t.length = 16 := hinv.out.2.1
                  clear HBW
                  refine Orx.take_free (i := 30) (oi := _) (v := .pointer (some ⟨T + 1, i0, none⟩)) rfl (by kernel_rfl) (by kernel_rfl) (by kernel_rfl) (by kernel_rfl) (fun _ _ _ h => h) (by rfl) hS (fun w hJ => ?hy) (fun hS => ?_)
                  case hy => go_simp; (try with_reducible rfl); (try (intro h; omega))
                  simp only [Act.put, List.setIfInBounds_toArray, List.set_cons_zero, List.set_cons_succ]
                  have ff : W0.frozen? ⟨T + 1, i0, none⟩ = false := frozen_of_row W0 (T + 1) i0 _ 40 HB0.out
                  have gg := ws_cell HB0.out i0 (by first | omega | (simp only [List.length_set]; omega))
                  refine Orx.only_W (i := 31) rfl (by kernel_rfl) (by rfl) (fun K hK => ?_)
                  go_simp
                  have HB1 := hide (ws_store HB0.out i0 y0)
                  have HK1 := hide (HK0.out.setCell ⟨T + 1, i0, none⟩ (wd y0) (.inl (by simp)))
                  refine hK _ _ (Orx.Still.later (by kernel_rfl) (hS.2.setCell hBb i0 (wd y0))) (fun hS => ?_)
                  clear hK K ff gg HB0 HK0
                  generalize W0.setCell ⟨T + 1, i0, none⟩ (wd y0) = W1 at *
                  try simp only [Act.put, List.setIfInBounds_toArray, List.set_cons_zero, List.set_cons_succ]
                  refine Orx.take_free (i := 32) (oi := _) (v := .pointer (some ⟨T + 1, i1, none⟩)) rfl (by kernel_rfl) (by kernel_rfl) (by kernel_rfl) (by kernel_rfl) (fun _ _ _ h => h) (by rfl) hS (fun w hJ => ?hy) (fun hS => ?_)
                  case hy => go_simp; (try with_reducible rfl); (try (intro h; omega))
                  simp only [Act.put, List.setIfInBounds_toArray, List.set_cons_zero, List.set_cons_succ]
                  have ff : W1.frozen? ⟨T + 1, i1, none⟩ = false := frozen_of_row W1 (T + 1) i1 _ 40 HB1.out
                  have gg := ws_cell HB1.out i1 (by first | omega | (simp only [List.length_set]; omega))
                  refine Orx.only_W (i := 33) rfl (by kernel_rfl) (by rfl) (fun K hK => ?_)
                  go_simp
                  have HB2 := hide (ws_store HB1.out i1 y1)
                  have HK2 := hide (HK1.out.setCell ⟨T + 1, i1, none⟩ (wd y1) (.inl (by simp)))
                  refine hK _ _ (Orx.Still.later (by kernel_rfl) (hS.2.setCell hBb i1 (wd y1))) (fun hS => ?_)
                  clear hK K ff gg HB1 HK1
                  generalize W1.setCell ⟨T + 1, i1, none⟩ (wd y1) = W2 at *
                  try simp only [Act.put, List.setIfInBounds_toArray, List.set_cons_zero, List.set_cons_succ]
                  refine Orx.take_free (i := 34) (oi := _) (v := .pointer (some ⟨T + 1, i2, none⟩)) rfl (by kernel_rfl) (by kernel_rfl) (by kernel_rfl) (by kernel_rfl) (fun _ _ _ h => h) (by rfl) hS (fun w hJ => ?hy) (fun hS => ?_)
                  case hy => go_simp; (try with_reducible rfl); (try (intro h; omega))
                  simp only [Act.put, List.setIfInBounds_toArray, List.set_cons_zero, List.set_cons_succ]
                  have ff : W2.frozen? ⟨T + 1, i2, none⟩ = false := frozen_of_row W2 (T + 1) i2 _ 40 HB2.out
                  have gg := ws_cell HB2.out i2 (by first | omega | (simp only [List.length_set]; omega))
                  refine Orx.only_W (i := 35) rfl (by kernel_rfl) (by rfl) (fun K hK => ?_)
                  go_simp
                  have HB3 := hide (ws_store HB2.out i2 y2)
                  have HK3 := hide (HK2.out.setCell ⟨T + 1, i2, none⟩ (wd y2) (.inl (by simp)))
                  refine hK _ _ (Orx.Still.later (by kernel_rfl) (hS.2.setCell hBb i2 (wd y2))) (fun hS => ?_)
                  clear hK K ff gg HB2 HK2
                  generalize W2.setCell ⟨T + 1, i2, none⟩ (wd y2) = W3 at *
                  try simp only [Act.put, List.setIfInBounds_toArray, List.set_cons_zero, List.set_cons_succ]
                  refine Orx.take_free (i := 36) (oi := _) (v := .pointer (some ⟨T + 1, i3, none⟩)) rfl (by kernel_rfl) (by kernel_rfl) (by kernel_rfl) (by kernel_rfl) (fun _ _ _ h => h) (by rfl) hS (fun w hJ => ?hy) (fun hS => ?_)
                  case hy => go_simp; (try with_reducible rfl); (try (intro h; omega))
                  simp only [Act.put, List.setIfInBounds_toArray, List.set_cons_zero, List.set_cons_succ]
                  have ff : W3.frozen? ⟨T + 1, i3, none⟩ = false := frozen_of_row W3 (T + 1) i3 _ 40 HB3.out
                  have gg := ws_cell HB3.out i3 (by first | omega | (simp only [List.length_set]; omega))
                  refine Orx.only_W (i := 37) rfl (by kernel_rfl) (by rfl) (fun K hK => ?_)
                  go_simp
                  have HB4 := hide (ws_store HB3.out i3 y3)
                  have HK4 := hide (HK3.out.setCell ⟨T + 1, i3, none⟩ (wd y3) (.inl (by simp)))
                  refine hK _ _ (Orx.Still.later (by kernel_rfl) (hS.2.setCell hBb i3 (wd y3))) (fun hS => ?_)
                  clear hK K ff gg HB3 HK3
                  generalize W3.setCell ⟨T + 1, i3, none⟩ (wd y3) = W4 at *
                  try simp only [Act.put, List.setIfInBounds_toArray, List.set_cons_zero, List.set_cons_succ]
                  refine Orx.done_W (by kernel_rfl) (NoPanic.normal ?_)
                  clear hS
                  go_wp2_with fail
                  have hk4 := HK4.out
                  obtain ⟨htt, _, h1, h2, h3, h4⟩ := hinv.out
                  refine ⟨⟨k + 1, qr t (i0, i1, i2, i3), by omega, by simp, ?_, ?_, ?_, ?_, ?_, ?_⟩, ?_⟩
                  · rw [List.take_add_one, HQ.out, List.foldl_append, ← htt]; rfl
                  · rw [qr_length]; exact hlen
                  · rw [HQR.out]; exact HB4.out
                  · exact (hk4.block w.heap.size (at_lt h2) (by simp; omega)).trans h2
                  · exact (hk4.block T (at_lt h3) (by simp)).trans h3
                  · exact h4.trans hk4 (H := []) (by simp) (by simp; omega)
                  · simp only [intOf]; omega
                · have hk8 : k = 8 := by omega
                  subst hk8
                  go_wp2_with fail
                  obtain ⟨ht, _, h1, h2, h3, h4⟩ := hinv.out
                  rw [ht, rounds_done, ← rnds_succ] at h1
                  refine ⟨⟨j + 1, by omega, by simp, h2, h3, h1, h4⟩, ?_⟩
                  simp only [intOf]; omega
            · obtain rfl : j = 10 := by omega
              have HS0 := hide (own_empty wr)
              have hG := at_lt hinv.out.1
              have hT1 := at_lt hinv.out.2.2.1
              have HF := hide (And.intro ((heap_alloc_old wr (.cells #[] 5) hG).trans hinv.out.1) (And.intro ((heap_alloc_old wr (.cells #[] 5) hT1).trans hinv.out.2.2.1) (hinv.out.2.2.2.alloc (.cells #[] 5))))
              go_wp2_with fail
              clear hinv
              obtain ⟨t, ht⟩ : ∃ t, t = rnds 10 s := ⟨_, rfl⟩
              have HT := hide ht
              have HTL := hide (show t.length = 16 by rw [ht, rnds_length]; exact HL.out)
              rw [← ht] at HF
              clear ht
              generalize wr.alloc (.cells #[] 5) = wy at *
              generalize wr.heap.size = Y at *
              go_loopw [17, 16] (fun i o wr => ∃ (m : Nat) (A : Option Addr) (cp : Nat), m ≤ 16 ∧ i = .int .i64 m ∧ o = .slice A (4 * m) cp ∧ Hid (Own wr A cp (sums t s m) ∧ (∀ g ∈ blk A, T + 2 ≤ g) ∧ wr.heap[w.heap.size]? = some (.cells (ws s) 40 (0, 0)) ∧ wr.heap[T + 1]? = some (.cells (ws t) 40 (0, 0)) ∧ Kept [] w wr)) (fun i _ _ => 16 - (intOf i).toNat)
              case atStart => exact ⟨0, _, _, by omega, rfl, rfl, HS0.out, by simp [blk]; omega, HF.out.1, HF.out.2.1, HF.out.2.2⟩
              case round =>
                clear HS0 HF
                obtain ⟨m, A, cp, hm, rfl, rfl, hinv⟩ := hrel
                by_cases hlt : m < 16
                · have gg := ws_cell hinv.out.2.2.2.1 m (by rw [HTL.out]; omega)
                  have gh := ws_cell hinv.out.2.2.1 m (by rw [HL.out]; omega)
                  generalize hx : t.getD m 0 = x at *
                  generalize hy : s.getD m 0 = y at *
                  have hadd := add_wd x y
                  have HXY := hide (And.intro hx hy)
                  clear hx hy
                  go_wp2_with fail
                  go_quiet (fail)
                  rw [hadd]
                  clear hadd gg gh
                  obtain ⟨z, hz⟩ : ∃ z, z = x + y := ⟨_, rfl⟩
                  rw [← hz]
                  have hzl : z.toNat < 4294967296 := UInt32.toNat_lt z
                  have HZ := hide hz
                  clear hz
                  have hKv := (Kept.refl [] wr).drewN nq
                  generalize wr.drewN nq = wv at *
                  have HOW := hide ((hinv.out.1.keep hKv (by simp)).keep ((Kept.refl [] wv).alloc (.cells #[.int .u8 ((z.toNat : Int) % 256), .int .u8 ((z.toNat : Int) / 256 % 256), .int .u8 ((z.toNat : Int) / 65536 % 256), .int .u8 ((z.toNat : Int) / 16777216)] 5)) (by simp))
                  have HSR := hide (src_le4 wv z)
                  have HKV := hide hKv
                  clear hKv
                  obtain ⟨i5, h51, h52, h53, h54⟩ := info5
                  have H5 := hide (And.intro h51 (And.intro h52 (And.intro h53 h54)))
                  clear h51 h52 h53 h54
                  go_wp2_with (first
                    | (refine wpList_append_src rfl (.tmp 115) (.tmp 127) rfl Try.underlying23 H5.out.1 H5.out.2.1 H5.out.2.2.1 H5.out.2.2.2 HOW.out HSR.out (n := 4 * m) (m := 4) (sums_length _ _ _) rfl rfl rfl (by rw [sums_length]; simp [le4]; omega) ?_
                       intro A' cp' w' ho' hk' hb'
                       have HO' := hide (And.intro ho' (And.intro hk' hb'))
                       clear ho' hk' hb')
                    | fail)
                  obtain ⟨ho', hk', hb'⟩ := HO'.out
                  obtain ⟨hown, hge, hr0, hr1, hkw⟩ := hinv.out
                  have hz0 := hkw.size
                  have hzv := HKV.out.size
                  have hl0 := at_lt hr0
                  have hl1 := at_lt hr1
                  have hn0 : w.heap.size ∉ blk A := fun h => by have := hge _ h; omega
                  have hn1 : T + 1 ∉ blk A := fun h => by have := hge _ h; omega
                  have hv0 := (HKV.out.block w.heap.size hl0 (by simp)).trans hr0
                  have hv1 := (HKV.out.block (T + 1) hl1 (by simp)).trans hr1
                  have hkv := hkw.trans HKV.out (H := []) (by simp) (by simp)
                  refine ⟨?_, by simp [intOf]; omega⟩
                  repeat (apply Exists.intro)
                  refine ⟨?_, rfl⟩
                  refine ⟨m + 1, A', cp', by omega, by simp, by rw [Nat.mul_add], ?_, ?_, ?_, ?_, ?_⟩
                  · have e := sums_succ t s m
                    rw [HXY.out.1, HXY.out.2, ← HZ.out] at e
                    rw [e]; exact ho'
                  · intro g hg
                    rcases hb' g hg with h | h
                    · exact hge g h
                    · have := hk'.size
                      simp at h
                      omega
                  · rw [hk'.block w.heap.size (by simp; omega) hn0]
                    exact (heap_alloc_old wv _ (at_lt hv0)).trans hv0
                  · rw [hk'.block (T + 1) (by simp; omega) hn1]
                    exact (heap_alloc_old wv _ (at_lt hv1)).trans hv1
                  · exact ((hkv.alloc _).trans hk' (H := []) (by simp) (fun g hg => .inr (by have := hge g hg; omega)))
                · obtain rfl : m = 16 := by omega
                  go_wp2_with fail
                  obtain ⟨hown, hge, _, _, hkw⟩ := hinv.out
                  go_ret2
                  rw [← HT.out] at HBO
                  have hbo := HBO.out
                  obtain ⟨g, rfl⟩ := hown.form (by rw [sums_length]; omega)
                  have hc := hown.cap_ge
                  rw [sums_length] at hc
                  refine ⟨g, cp, rfl, ?_, hkw, ?_, by omega⟩
                  · rw [hbo]; exact hown
                  · have := hge g (by simp [blk]); omega
end Go.Proofs.Ytcnabgbfnaabjaa
