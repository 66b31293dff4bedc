/- Xor, twice. -/
import Derived.Test.YtcnabgbfnaabjaaQlw
namespace Go.Proofs.Ytcnabgbfnaabjaa
open Go.RowKit
set_option linter.unusedSimpArgs false
set_option linter.unusedVariables false

def xr (x y : List UInt8) : List UInt8 := List.zipWith (· ^^^ ·) x y
theorem xr_length (x y : List UInt8) (h : x.length = y.length) : (xr x y).length = x.length := by simp [xr]; omega
theorem xr_at (x y : List UInt8) (j : Nat) (h : x.length = y.length) (hj : j < x.length) : (xr x y)[j]? = some (x.getD j 0 ^^^ y.getD j 0) := by
  simp [xr, List.getElem?_zipWith, List.getElem?_eq_getElem hj, List.getElem?_eq_getElem (show j < y.length by omega)]
/-- The row while it is filled. -/
def part (z : List UInt8) (j : Nat) : List UInt8 := z.take j ++ List.replicate (z.length - j) 0
theorem part_set (z : List UInt8) (j : Nat) (v : UInt8) (h : z[j]? = some v) : (part z j).set j v = part z (j + 1) := by
  have hj : j < z.length := (List.getElem?_eq_some_iff.1 h).1
  apply List.ext_getElem?
  intro i
  have hl : (part z j).length = z.length := by simp [part]; omega
  rw [List.getElem?_set]
  by_cases he : j = i
  · subst he
    rw [if_pos rfl, if_pos (by omega)]
    unfold part
    rw [List.getElem?_append_left (by simp; omega), List.getElem?_take]
    simp [h]
  · rw [if_neg he]
    unfold part
    by_cases hi : i < j
    · rw [List.getElem?_append_left (by simp; omega), List.getElem?_append_left (by simp; omega), List.getElem?_take, List.getElem?_take]
      simp [hi, show i < j + 1 by omega]
    · rw [List.getElem?_append_right (by simp; omega), List.getElem?_append_right (by simp; omega), List.getElem?_replicate, List.getElem?_replicate]
      have e1 : (z.take j).length = j := by simp; omega
      have e2 : (z.take (j + 1)).length = j + 1 := by simp; omega
      rw [e1, e2]
      by_cases h3 : i < z.length
      · rw [if_pos (by omega), if_pos (by omega)]
      · rw [if_neg (by omega), if_neg (by omega)]
theorem bs_set (xs : List UInt8) (j : Nat) (v : UInt8) : (bs xs).toArray.setIfInBounds j (.int .u8 (v.toNat : Int)) = (bs (xs.set j v)).toArray := by
  simp [bs, List.map_set]
theorem made_zero (n : Nat) : madeCells #[.int .u8 0] n = (bs (List.replicate n 0)).toArray := by
  apply Array.ext_getElem?
  intro i
  simp only [madeCells, Array.getElem?_map, bs, List.map_replicate, List.getElem?_toArray, List.getElem?_replicate]
  by_cases h : i < n
  · rw [if_pos h, Array.getElem?_eq_getElem (by simpa using h)]
    simp [Nat.mod_one]
  · rw [if_neg h, Array.getElem?_eq_none (by simp; omega)]
    rfl
theorem xor8 (p q : UInt8) : bits .xor .u8 (p.toNat : Int) (q.toNat : Int) = ((p ^^^ q).toNat : Int) := by
  rw [u8_xor_nat _ _ (UInt8.toNat_lt p) (UInt8.toNat_lt q), UInt8.toNat_xor]
theorem run_make23full (n : Nat) (hn : n ≤ 4096) (w : World) : (Instr.makeSlice 23 (.int .i64 (n : Int)) (.int .i64 (n : Int))).run Try.prog w = .ok (.slice (some ⟨w.heap.size, 0, none⟩) n n) (w.alloc (.cells (bs (List.replicate n 0)).toArray 5)) := by
  obtain ⟨i, hi, hz, hs, hb⟩ := info5
  have := run_makeSlice (P := Try.prog) w 23 5 i (.int .u8 0) Try.underlying23 hi hz .i64 .i64 (n : Int) (n : Int) (by omega) (by omega) (by rw [hs]; omega) (by rw [hb]; omega) (by omega)
  rw [← made_zero]
  simpa [hs, Value.cells] using this
/-- Two cells hold two bytes. -/
def Two (a b : Addr) (p q : UInt8) (w : World) : Prop := w.cell? a = some (.int .u8 (p.toNat : Int)) ∧ w.cell? b = some (.int .u8 (q.toNat : Int))

theorem src_at {w : World} {D : Nat → Prop} {A : Option Addr} {xs : List UInt8} (h : Src w D A xs) (j : Nat) (hj : j < xs.length) : ∃ a, A = some a ∧ D a.block ∧ w.cell? (a.add j) = some (.int .u8 ((xs.getD j 0).toNat : Int)) := by
  obtain ⟨a, hA, hD, hc⟩ := h.at_ (by omega)
  refine ⟨a, hA, hD, hc j _ ?_⟩
  rw [bs_getElem?, List.getElem?_eq_getElem hj, List.getD_eq_getElem?_getD, List.getElem?_eq_getElem hj]
  rfl

theorem xor_no (A B : Option Addr) (n m c d : Nat) (w : World) (h : n ≠ m) (hn : n ≤ 9223372036854775807) (hm : m ≤ 9223372036854775807) : Calls Try.prog 18 #[.slice A n c, .slice B m d] w fun e w' => e = .returned (.tuple #[.slice none 0 0, .int .i64 1]) ∧ w = w' := by
  have h' : ((n : Int) == (m : Int)) = false := by simp; omega
  go_enter Try.func18, Try.ntmps18
  go_wp2
  go_ret2
  exact ⟨rfl, rfl⟩
theorem refxor_no (A B : Option Addr) (n m c d : Nat) (w : World) (h : n ≠ m) (hn : n ≤ 9223372036854775807) (hm : m ≤ 9223372036854775807) : Calls Try.prog 19 #[.slice A n c, .slice B m d] w fun e w' => e = .returned (.tuple #[.slice none 0 0, .int .i64 1]) ∧ w = w' := by
  have h' : ((n : Int) == (m : Int)) = false := by simp; omega
  go_enter Try.func19, Try.ntmps19
  go_wp2
  go_ret2
  exact ⟨rfl, rfl⟩

set_option maxHeartbeats 1000000 in
theorem xor_yes (A B : Option Addr) (x y : List UInt8) (n c d : Nat) (w : World) (hx : x.length = n) (hy : y.length = n) (hn : n ≤ 300) (sx : Src w (· < w.heap.size) A x) (sy : Src w (· < w.heap.size) B y) :
    Calls Try.prog 18 #[.slice A n c, .slice B n d] w fun e w' => e = .returned (.tuple #[.slice (some ⟨w.heap.size, 0, none⟩) n n, .int .i64 0]) ∧ Own w' (some ⟨w.heap.size, 0, none⟩) n (xr x y) ∧ Kept [] w w' := by
  have hmk := run_make23full n (by omega)
  have HX := hide (And.intro hx hy)
  have HSX := hide (And.intro sx sy)
  have HR := hide (heap_alloc_new w (.cells (bs (List.replicate n 0)).toArray 5))
  have HZ : Hid ((xr x y).length = n) := by show (xr x y).length = n; rw [xr_length x y (by omega)]; exact hx
  have HP0 : Hid (part (xr x y) 0 = List.replicate n 0) := by show part (xr x y) 0 = _; simp [part, HZ.out]
  rw [← HP0.out] at HR
  rw [← HP0.out] at hmk
  clear hx hy sx sy
  go_enter Try.func18, Try.ntmps18
  go_wp2_with fail
  have HK := hide ((Kept.refl [] w).alloc (.cells (bs (part (xr x y) 0)).toArray 5))
  clear hmk
  obtain ⟨G, hG⟩ : ∃ G, G = w.heap.size := ⟨_, rfl⟩
  have HG := hide hG
  rw [← hG] at HR ⊢
  clear hG
  go_loopw [18] (fun i wr => ∃ (j : Nat), j ≤ n ∧ i = .int .i64 j ∧ Hid (wr.heap[G]? = some (.cells (bs (part (xr x y) j)).toArray 5 (0, 0)) ∧ Kept [] w wr)) (fun i _ => n - (intOf i).toNat)
  case atStart => exact ⟨0, by omega, rfl, HR.out, HK.out⟩
  case round =>
    clear HR HK
    obtain ⟨j, hj, rfl, hinv⟩ := hrel
    by_cases hlt : j < n
    · have hli : (j : Int) < (n : Int) := by omega
      obtain ⟨hr, hk⟩ := hinv.out
      obtain ⟨ax, rfl, dx, cx⟩ := src_at HSX.out.1 j (by rw [HX.out.1]; exact hlt)
      obtain ⟨ay, rfl, dy, cy⟩ := src_at HSX.out.2 j (by rw [HX.out.2]; exact hlt)
      have cx' := (hk.cell (p := ax.add j) (by rw [block_add]; exact dx) (by simp)).trans cx
      have cy' := (hk.cell (p := ay.add j) (by rw [block_add]; exact dy) (by simp)).trans cy
      have hz := xr_at x y j (by rw [HX.out.1, HX.out.2]) (by rw [HX.out.1]; exact hlt)
      obtain ⟨p, hp⟩ : ∃ p, p = x.getD j 0 := ⟨_, rfl⟩
      obtain ⟨q, hq⟩ : ∃ q, q = y.getD j 0 := ⟨_, rfl⟩
      rw [← hp] at cx' hz
      rw [← hq] at cy' hz
      have hJ : Two (ax.add j) (ay.add j) p q wr.drew := ⟨cx', cy'⟩
      have hxq := xor8 p q
      have HZJ := hide hz
      have hrd : wr.drew.heap[G]? = some (.cells (bs (part (xr x y) j)).toArray 5 (0, 0)) := hr
      have HRD := hide (And.intro hrd hk.drew)
      have hbx : (ax.add j).block ≠ G := by have e := HG.out; rw [block_add]; omega
      have hby : (ay.add j).block ≠ G := by have e := HG.out; rw [block_add]; omega
      have HB := hide (And.intro hbx hby)
      clear hz hp hq cx cy cx' cy' hr hk hrd hbx hby dx dy
      go_wp2_with fail
      refine wp_region_noPanic ?_
      refine begin_W 12 (Two (ax.add j) (ay.add j) p q) (by kernel_rfl) hJ (fun hS => ?_)
      generalize wr.drew = W at *
      clear hJ
      refine take_free (i := 0) (oi := _) (v := .slice (some ⟨G, 0, none⟩) n n) rfl (by kernel_rfl) (by kernel_rfl) (by kernel_rfl) (by kernel_rfl) (fun _ _ _ h => h) (by rfl) hS (fun w hJ => ?hy) (fun hS => ?_)
      case hy => go_simp; (try with_reducible rfl); (try (intro h; omega))
      simp only [Act.put, List.setIfInBounds_toArray, List.set_cons_zero, List.set_cons_succ]
      refine take_free (i := 1) (oi := _) (v := .int .i64 (j : Int)) rfl (by kernel_rfl) (by kernel_rfl) (by kernel_rfl) (by kernel_rfl) (fun _ _ _ h => h) (by rfl) hS (fun w hJ => ?hy) (fun hS => ?_)
      case hy => go_simp; (try with_reducible rfl); (try (intro h; omega))
      simp only [Act.put, List.setIfInBounds_toArray, List.set_cons_zero, List.set_cons_succ]
      refine take_free (i := 2) (oi := _) (v := .slice (some ax) n c) rfl (by kernel_rfl) (by kernel_rfl) (by kernel_rfl) (by kernel_rfl) (fun _ _ _ h => h) (by rfl) hS (fun w hJ => ?hy) (fun hS => ?_)
      case hy => go_simp; (try with_reducible rfl); (try (intro h; omega))
      simp only [Act.put, List.setIfInBounds_toArray, List.set_cons_zero, List.set_cons_succ]
      refine take_free (i := 3) (oi := _) (v := .int .i64 (j : Int)) rfl (by kernel_rfl) (by kernel_rfl) (by kernel_rfl) (by kernel_rfl) (fun _ _ _ h => h) (by rfl) hS (fun w hJ => ?hy) (fun hS => ?_)
      case hy => go_simp; (try with_reducible rfl); (try (intro h; omega))
      simp only [Act.put, List.setIfInBounds_toArray, List.set_cons_zero, List.set_cons_succ]
      refine take_free (i := 4) (oi := _) (v := .pointer (some (ax.add j))) rfl (by kernel_rfl) (by kernel_rfl) (by kernel_rfl) (by kernel_rfl) (fun _ _ _ h => h) (by rfl) hS (fun w hJ => ?hy) (fun hS => ?_)
      case hy => go_simp; (try with_reducible rfl); (try (intro h; omega))
      simp only [Act.put, List.setIfInBounds_toArray, List.set_cons_zero, List.set_cons_succ]
      refine take_free (i := 5) (oi := _) (v := .int .u8 (p.toNat : Int)) rfl (by kernel_rfl) (by kernel_rfl) (by kernel_rfl) (by kernel_rfl) (fun _ _ _ h => h) (by rfl) hS (fun w hJ => ?hy) (fun hS => ?_)
      case hy => obtain ⟨j0, j1⟩ := hJ; go_simp; (try with_reducible rfl); (try (intro h; omega))
      simp only [Act.put, List.setIfInBounds_toArray, List.set_cons_zero, List.set_cons_succ]
      refine take_free (i := 6) (oi := _) (v := .slice (some ay) n d) rfl (by kernel_rfl) (by kernel_rfl) (by kernel_rfl) (by kernel_rfl) (fun _ _ _ h => h) (by rfl) hS (fun w hJ => ?hy) (fun hS => ?_)
      case hy => go_simp; (try with_reducible rfl); (try (intro h; omega))
      simp only [Act.put, List.setIfInBounds_toArray, List.set_cons_zero, List.set_cons_succ]
      refine take_free (i := 7) (oi := _) (v := .int .i64 (j : Int)) rfl (by kernel_rfl) (by kernel_rfl) (by kernel_rfl) (by kernel_rfl) (fun _ _ _ h => h) (by rfl) hS (fun w hJ => ?hy) (fun hS => ?_)
      case hy => go_simp; (try with_reducible rfl); (try (intro h; omega))
      simp only [Act.put, List.setIfInBounds_toArray, List.set_cons_zero, List.set_cons_succ]
      refine take_free (i := 8) (oi := _) (v := .pointer (some (ay.add j))) rfl (by kernel_rfl) (by kernel_rfl) (by kernel_rfl) (by kernel_rfl) (fun _ _ _ h => h) (by rfl) hS (fun w hJ => ?hy) (fun hS => ?_)
      case hy => go_simp; (try with_reducible rfl); (try (intro h; omega))
      simp only [Act.put, List.setIfInBounds_toArray, List.set_cons_zero, List.set_cons_succ]
      refine take_free (i := 9) (oi := _) (v := .int .u8 (q.toNat : Int)) rfl (by kernel_rfl) (by kernel_rfl) (by kernel_rfl) (by kernel_rfl) (fun _ _ _ h => h) (by rfl) hS (fun w hJ => ?hy) (fun hS => ?_)
      case hy => obtain ⟨j0, j1⟩ := hJ; go_simp; (try with_reducible rfl); (try (intro h; omega))
      simp only [Act.put, List.setIfInBounds_toArray, List.set_cons_zero, List.set_cons_succ]
      refine take_free (i := 10) (oi := _) (v := .int .u8 ((p ^^^ q).toNat : Int)) rfl (by kernel_rfl) (by kernel_rfl) (by kernel_rfl) (by kernel_rfl) (fun _ _ _ h => h) (by rfl) hS (fun w hJ => ?hy) (fun hS => ?_)
      case hy => go_simp; (try with_reducible rfl); (try (intro h; omega))
      simp only [Act.put, List.setIfInBounds_toArray, List.set_cons_zero, List.set_cons_succ]
      refine take_free (i := 11) (oi := _) (v := .pointer (some ⟨G, j, none⟩)) rfl (by kernel_rfl) (by kernel_rfl) (by kernel_rfl) (by kernel_rfl) (fun _ _ _ h => h) (by rfl) hS (fun w hJ => ?hy) (fun hS => ?_)
      case hy => go_simp; (try with_reducible rfl); (try (intro h; omega))
      simp only [Act.put, List.setIfInBounds_toArray, List.set_cons_zero, List.set_cons_succ]
      have ff : W.frozen? ⟨G, j, none⟩ = false := frozen_of_row W G j _ 5 HRD.out.1
      have gg := cell_of_row W G j _ 5 (0, 0) HRD.out.1
      have hlp : (part (xr x y) j).length = n := by have := HZ.out; simp [part]; omega
      rw [List.getElem?_toArray, bs_getElem?, List.getElem?_eq_getElem (by omega)] at gg
      simp only [Option.map_some] at gg
      refine only_W (i := 12) rfl (by kernel_rfl) (by rfl) (fun K hK => ?_)
      go_simp
      refine hK _ _ (Still.later (by kernel_rfl) ?_) (fun hS => ?_)
      · have hk1 : Kept [G] W (W.setCell ⟨G, j, none⟩ (.int .u8 ((p ^^^ q).toNat : Int))) := (Kept.refl [G] W).setCell _ _ (.inl (by simp))
        exact ⟨(hk1.cell (World.block_lt_of_cell? W _ hS.2.1) (by simpa using HB.out.1)).trans hS.2.1, (hk1.cell (World.block_lt_of_cell? W _ hS.2.2) (by simpa using HB.out.2)).trans hS.2.2⟩
      refine done_W (by kernel_rfl) (NoPanic.normal ?_)
      clear hS hK K
      have HN := hide (heap_setCell_same W G j _ 5 (.int .u8 ((p ^^^ q).toNat : Int)) HRD.out.1)
      rw [bs_set, part_set _ _ _ HZJ.out] at HN
      have HKN := hide (HRD.out.2.setCell ⟨G, j, none⟩ (.int .u8 ((p ^^^ q).toNat : Int)) (.inr (by have := HG.out; show w.heap.size ≤ G; omega)))
      clear ff gg
      go_wp2_with fail
      refine ⟨⟨j + 1, by omega, by simp, HN.out, HKN.out⟩, ?_⟩
      simp only [intOf]; omega
    · obtain rfl : j = n := by omega
      go_wp2_with fail
      have hG : G = w.heap.size := HG.out
      subst hG
      go_ret2
      refine ⟨rfl, ?_, hinv.out.2⟩
      have e : part (xr x y) j = xr x y := by have := HZ.out; simp [part, ← this]
      have hr := hinv.out.1
      rw [e] at hr
      have hz := HZ.out
      refine ⟨by simp [bs_length, hz], .inr ⟨w.heap.size, j, (bs (xr x y)).toArray, by rw [hz], Nat.zero_le _, hr, by omega, by unfold maxLen; omega, by simp [bs_length, hz], by simp [hz]; exact List.take_of_length_le (by rw [bs_length, hz]; exact Nat.le_refl _)⟩⟩

theorem wp_append_src {P : Program} {T : TypeId} {i : TypeInfo} {ops : Array Oper} {o : Oper} {a : Act} {K : Act → World → Prop} {Q : Exit → Act → World → Prop} (hgd : o.guard = none) (s x : Operand)
    (ho : o.op = .call { callee := .builtin .append, args := #[s, x], argTypes := #[T, T] })
    (ht : P.underlying T = some (.slice 5)) (hi : P.info? 5 = some i) (hz : i.zero = some (.int .u8 0)) (hsize : i.size = 1) (hby : i.bytes = 1)
    {w : World} {A : Option Addr} {c : Nat} {xs : List UInt8} (hown : Own w A c xs) {D : Nat → Prop} {B : Option Addr} {ys : List UInt8} (hsrc : Src w D B ys) {d : Nat} {n m : Nat} (hxs : xs.length = n) (hys : ys.length = m)
    (hs : a.eval s = .slice A n c) (hx : a.eval x = .slice B m d) (hn : xs.length + ys.length ≤ 140737488355328)
    (h : ∀ A' c' w', Own w' A' c' (xs ++ ys) → Kept (blk A) w w' → (∀ k ∈ blk A', k ∈ blk A ∨ (w.heap.size ≤ k ∧ k < w'.heap.size)) → K (a.put o.dst (.slice A' (n + m) c')) w') : Oper.wp P o a w K Q := by
  have hw : Region.wanted o (yielded ops a.tmps) = true := by simp [Region.wanted, hgd]
  have := step_append_src (ops := ops) (K := K) (Q := Q) (E := True) hgd s x ho ht hi hz hsize hby hown hsrc hxs hys hs hx hn h
  rwa [if_pos hw] at this

set_option maxHeartbeats 1000000 in
theorem refxor_yes (A B : Option Addr) (x y : List UInt8) (n c d : Nat) (w : World) (hx : x.length = n) (hy : y.length = n) (hn : n ≤ 300) (sx : Src w (· < w.heap.size) A x) (sy : Src w (· < w.heap.size) B y) :
    Calls Try.prog 19 #[.slice A n c, .slice B n d] w fun e w' => ∃ g cp, e = .returned (.tuple #[.slice (some ⟨g, 0, none⟩) n cp, .int .i64 0]) ∧ Own w' (some ⟨g, 0, none⟩) cp (xr x y) ∧ Kept [] w w' ∧ w.heap.size ≤ g := by
  have HX := hide (And.intro hx hy)
  have HSX := hide (And.intro sx sy)
  have HZ : Hid ((xr x y).length = n) := by show (xr x y).length = n; rw [xr_length x y (by omega)]; exact hx
  have HO := hide (own_empty w)
  have HK := hide ((Kept.refl [] w).alloc (.cells #[] 5))
  clear hx hy sx sy
  go_enter Try.func19, Try.ntmps19
  go_wp2_with fail
  go_loopw [16, 6] (fun i o wr => ∃ (j : Nat) (g : Nat) (cp : Nat), j ≤ n ∧ i = .int .i64 j ∧ o = .slice (some ⟨g, 0, none⟩) j cp ∧ Hid (Own wr (some ⟨g, 0, none⟩) cp ((xr x y).take j) ∧ w.heap.size ≤ g ∧ Kept [] w wr)) (fun i _ _ => n - (intOf i).toNat)
  case atStart => exact ⟨0, _, _, by omega, rfl, rfl, HO.out, Nat.le_refl _, HK.out⟩
  case round =>
    clear HO HK
    obtain ⟨j, g, cp, hj, rfl, rfl, hinv⟩ := hrel
    by_cases hlt : j < n
    · have hli : (j : Int) < (n : Int) := by omega
      obtain ⟨hown, hge, hk⟩ := hinv.out
      obtain ⟨ax, rfl, dx, cx⟩ := src_at HSX.out.1 j (by rw [HX.out.1]; exact hlt)
      obtain ⟨ay, rfl, dy, cy⟩ := src_at HSX.out.2 j (by rw [HX.out.2]; exact hlt)
      have cx' := (hk.cell (p := ax.add j) (by rw [block_add]; exact dx) (by simp)).trans cx
      have cy' := (hk.cell (p := ay.add j) (by rw [block_add]; exact dy) (by simp)).trans cy
      have hz := xr_at x y j (by rw [HX.out.1, HX.out.2]) (by rw [HX.out.1]; exact hlt)
      obtain ⟨p, hp⟩ : ∃ p, p = x.getD j 0 := ⟨_, rfl⟩
      obtain ⟨q, hq⟩ : ∃ q, q = y.getD j 0 := ⟨_, rfl⟩
      rw [← hp] at cx' hz
      rw [← hq] at cy' hz
      have hJ : Two (ax.add j) (ay.add j) p q wr.drew := ⟨cx', cy'⟩
      have hxq := xor8 p q
      have HZJ := hide hz
      have HRD := hide (And.intro (show Own wr.drew (some ⟨g, 0, none⟩) cp ((xr x y).take j) from hown) (And.intro hge hk.drew))
      have hbx : (ax.add j).block < w.heap.size := by rw [block_add]; exact dx
      have hby : (ay.add j).block < w.heap.size := by rw [block_add]; exact dy
      have HB := hide (And.intro hbx hby)
      clear hz hp hq cx cy cx' cy' hown hge hk hbx hby dx dy
      obtain ⟨A9, hA9⟩ : ∃ A9 : Option Addr, A9 = some ⟨g, 0, none⟩ := ⟨_, rfl⟩
      rw [← hA9]
      go_wp2_with fail
      refine wp_region_noPanic ?_
      refine begin_W 10 (Two (ax.add j) (ay.add j) p q) (by kernel_rfl) hJ (fun hS => ?_)
      generalize wr.drew = W at *
      clear hJ
      refine take_free (i := 0) (oi := _) (v := .slice A9 j cp) rfl (by kernel_rfl) (by kernel_rfl) (by kernel_rfl) (by kernel_rfl) (fun _ _ _ h => h) (by rfl) hS (fun w hJ => ?hy) (fun hS => ?_)
      case hy => go_simp; (try with_reducible rfl); (try (intro h; omega))
      simp only [Act.put, List.setIfInBounds_toArray, List.set_cons_zero, List.set_cons_succ]
      refine take_free (i := 1) (oi := _) (v := .slice (some ax) n c) rfl (by kernel_rfl) (by kernel_rfl) (by kernel_rfl) (by kernel_rfl) (fun _ _ _ h => h) (by rfl) hS (fun w hJ => ?hy) (fun hS => ?_)
      case hy => go_simp; (try with_reducible rfl); (try (intro h; omega))
      simp only [Act.put, List.setIfInBounds_toArray, List.set_cons_zero, List.set_cons_succ]
      refine take_free (i := 2) (oi := _) (v := .int .i64 (j : Int)) rfl (by kernel_rfl) (by kernel_rfl) (by kernel_rfl) (by kernel_rfl) (fun _ _ _ h => h) (by rfl) hS (fun w hJ => ?hy) (fun hS => ?_)
      case hy => go_simp; (try with_reducible rfl); (try (intro h; omega))
      simp only [Act.put, List.setIfInBounds_toArray, List.set_cons_zero, List.set_cons_succ]
      refine take_free (i := 3) (oi := _) (v := .pointer (some (ax.add j))) rfl (by kernel_rfl) (by kernel_rfl) (by kernel_rfl) (by kernel_rfl) (fun _ _ _ h => h) (by rfl) hS (fun w hJ => ?hy) (fun hS => ?_)
      case hy => go_simp; (try with_reducible rfl); (try (intro h; omega))
      simp only [Act.put, List.setIfInBounds_toArray, List.set_cons_zero, List.set_cons_succ]
      refine take_free (i := 4) (oi := _) (v := .int .u8 (p.toNat : Int)) rfl (by kernel_rfl) (by kernel_rfl) (by kernel_rfl) (by kernel_rfl) (fun _ _ _ h => h) (by rfl) hS (fun w hJ => ?hy) (fun hS => ?_)
      case hy => obtain ⟨j0, j1⟩ := hJ; go_simp; (try with_reducible rfl); (try (intro h; omega))
      simp only [Act.put, List.setIfInBounds_toArray, List.set_cons_zero, List.set_cons_succ]
      refine take_free (i := 5) (oi := _) (v := .slice (some ay) n d) rfl (by kernel_rfl) (by kernel_rfl) (by kernel_rfl) (by kernel_rfl) (fun _ _ _ h => h) (by rfl) hS (fun w hJ => ?hy) (fun hS => ?_)
      case hy => go_simp; (try with_reducible rfl); (try (intro h; omega))
      simp only [Act.put, List.setIfInBounds_toArray, List.set_cons_zero, List.set_cons_succ]
      refine take_free (i := 6) (oi := _) (v := .int .i64 (j : Int)) rfl (by kernel_rfl) (by kernel_rfl) (by kernel_rfl) (by kernel_rfl) (fun _ _ _ h => h) (by rfl) hS (fun w hJ => ?hy) (fun hS => ?_)
      case hy => go_simp; (try with_reducible rfl); (try (intro h; omega))
      simp only [Act.put, List.setIfInBounds_toArray, List.set_cons_zero, List.set_cons_succ]
      refine take_free (i := 7) (oi := _) (v := .pointer (some (ay.add j))) rfl (by kernel_rfl) (by kernel_rfl) (by kernel_rfl) (by kernel_rfl) (fun _ _ _ h => h) (by rfl) hS (fun w hJ => ?hy) (fun hS => ?_)
      case hy => go_simp; (try with_reducible rfl); (try (intro h; omega))
      simp only [Act.put, List.setIfInBounds_toArray, List.set_cons_zero, List.set_cons_succ]
      refine take_free (i := 8) (oi := _) (v := .int .u8 (q.toNat : Int)) rfl (by kernel_rfl) (by kernel_rfl) (by kernel_rfl) (by kernel_rfl) (fun _ _ _ h => h) (by rfl) hS (fun w hJ => ?hy) (fun hS => ?_)
      case hy => obtain ⟨j0, j1⟩ := hJ; go_simp; (try with_reducible rfl); (try (intro h; omega))
      simp only [Act.put, List.setIfInBounds_toArray, List.set_cons_zero, List.set_cons_succ]
      refine take_free (i := 9) (oi := _) (v := .int .u8 ((p ^^^ q).toNat : Int)) rfl (by kernel_rfl) (by kernel_rfl) (by kernel_rfl) (by kernel_rfl) (fun _ _ _ h => h) (by rfl) hS (fun w hJ => ?hy) (fun hS => ?_)
      case hy => go_simp; (try with_reducible rfl); (try (intro h; omega))
      simp only [Act.put, List.setIfInBounds_toArray, List.set_cons_zero, List.set_cons_succ]
      have HSR : Hid (Src (W.alloc (.cells #[.int .u8 ((p ^^^ q).toNat : Int)] 5)) (· = W.heap.size) (some ⟨W.heap.size, 0, none⟩) [p ^^^ q]) :=
        Src.of_block (T := 5) (fr := (0, 0)) (heap_alloc_new W _)
      have hk1 : Kept [] W (W.alloc (.cells #[.int .u8 ((p ^^^ q).toNat : Int)] 5)) := (Kept.refl [] W).alloc _
      have HOW := hide (HRD.out.1.keep hk1 (by simp))
      have hJ1 : Two (ax.add j) (ay.add j) p q (W.alloc (.cells #[.int .u8 ((p ^^^ q).toNat : Int)] 5)) :=
        ⟨(hk1.cell (World.block_lt_of_cell? W _ hS.2.1) (by simp)).trans hS.2.1, (hk1.cell (World.block_lt_of_cell? W _ hS.2.2) (by simp)).trans hS.2.2⟩
      refine only_W (i := 10) rfl (by kernel_rfl) (by rfl) (fun K hK => ?_)
      go_simp
      refine hK _ _ (Still.later (by kernel_rfl) hJ1) (fun hS => ?_)
      have HK1 := hide hk1
      clear hK K hJ1 hk1
      try simp only [Act.put, List.setIfInBounds_toArray, List.set_cons_zero, List.set_cons_succ]
      obtain ⟨i5, h51, h52, h53, h54⟩ := info5
      refine only_W (i := 11) rfl (by kernel_rfl) (by rfl) (fun K hK => ?_)
      refine wp_append_src (ops := #[]) rfl (.tmp 19) (.tmp 29) rfl Try.underlying23 h51 h52 h53 h54 HOW.out HSR.out (n := j) (m := 1) (by have := HZ.out; simp; omega) rfl (by rw [← hA9]; rfl) rfl (by have := HZ.out; simp; omega) ?_
      intro A' cp' w' ho' hk' hb'
      have hge := HRD.out.2.1
      have hJ2 : Two (ax.add j) (ay.add j) p q w' :=
        ⟨(hk'.cell (World.block_lt_of_cell? _ _ hS.2.1) (by have := HB.out.1; simp [blk]; omega)).trans hS.2.1, (hk'.cell (World.block_lt_of_cell? _ _ hS.2.2) (by have := HB.out.2; simp [blk]; omega)).trans hS.2.2⟩
      refine hK _ _ (Still.later (by kernel_rfl) hJ2) (fun hS => ?_)
      clear hK K
      try simp only [Act.put, List.setIfInBounds_toArray, List.set_cons_zero, List.set_cons_succ]
      refine only_W (i := 12) rfl (by kernel_rfl) (by rfl) (fun K hK => ?_)
      go_simp
      refine hK _ _ (Still.later (by kernel_rfl) hJ2) (fun hS => ?_)
      clear hK K
      refine done_W (by kernel_rfl) (NoPanic.normal ?_)
      clear hS
      go_wp2_with fail
      obtain ⟨g', hg'⟩ := ho'.form (by simp)
      subst hg'
      have hzs := HRD.out.2.2.size
      refine ⟨⟨j + 1, g', cp', by omega, by simp, rfl, ?_, ?_, ?_⟩, ?_⟩
      · rw [List.take_add_one, HZJ.out]; exact ho'
      · rcases hb' g' (by simp [blk]) with h | h
        · simp [blk] at h; omega
        · simp at h; omega
      · exact (HRD.out.2.2.trans HK1.out (H := []) (by simp) (by simp)).trans hk' (by simp) (by simp [blk]; omega)
      · simp only [intOf]; omega
    · obtain rfl : j = n := by omega
      go_wp2_with fail
      go_ret2
      refine ⟨g, cp, rfl, ?_, hinv.out.2.2, hinv.out.2.1⟩
      have h := hinv.out.1
      rwa [List.take_of_length_le (by rw [HZ.out]; omega)] at h
end Go.Proofs.Ytcnabgbfnaabjaa
