/- The reference's Spoil where it spoils. -/
import Derived.Test.YtbajpofmaffpgaaRa
import Derived.Laws.Tables
namespace Go.Proofs.Ytbajpofmaffpgaa
open Go.RowKit
set_option linter.unusedSimpArgs false
set_option linter.unusedVariables false

/-- What is known of a world with two new blocks. -/
theorem two_new {w W : World} {o1 o2 : Obj} (h : (w.alloc o1).alloc o2 = W) : W.heap[w.heap.size]? = some o1 ∧ W.heap[w.heap.size + 1]? = some o2 ∧ Kept [] w W ∧ W.heap.size = w.heap.size + 2 := by
  subst h
  refine ⟨?_, ?_, ((Kept.refl _ _).alloc _).alloc _, by simp⟩
  · rw [Below.heap_alloc _ _ _ (by simp)]
    exact heap_alloc_new w _
  · have := heap_alloc_new (w.alloc o1) o2
    simpa using this

theorem seven {W : World} {B : Nat} {T : TypeId} {a0 a1 a2 a3 a4 a5 a6 : Value} (h : W.heap[B]? = some (.cells #[a0, a1, a2, a3, a4, a5, a6] T (0, 0))) :
    W.cell? ⟨B, 0, none⟩ = some a0 ∧ W.cell? ⟨B, 1, none⟩ = some a1 ∧ W.cell? ⟨B, 2, none⟩ = some a2 ∧ W.cell? ⟨B, 3, none⟩ = some a3 ∧ W.cell? ⟨B, 4, none⟩ = some a4 ∧ W.cell? ⟨B, 5, none⟩ = some a5 ∧ W.cell? ⟨B, 6, none⟩ = some a6 :=
  ⟨cells_of h 0, cells_of h 1, cells_of h 2, cells_of h 3, cells_of h 4, cells_of h 5, cells_of h 6⟩
theorem seven_free {W : World} {B : Nat} {T : TypeId} {a0 a1 a2 a3 a4 a5 a6 : Value} (h : W.heap[B]? = some (.cells #[a0, a1, a2, a3, a4, a5, a6] T (0, 0))) :
    W.frozen? ⟨B, 0, none⟩ = false ∧ W.frozen? ⟨B, 1, none⟩ = false ∧ W.frozen? ⟨B, 2, none⟩ = false ∧ W.frozen? ⟨B, 3, none⟩ = false ∧ W.frozen? ⟨B, 4, none⟩ = false ∧ W.frozen? ⟨B, 5, none⟩ = false ∧ W.frozen? ⟨B, 6, none⟩ = false :=
  ⟨free_of h 0, free_of h 1, free_of h 2, free_of h 3, free_of h 4, free_of h 5, free_of h 6⟩

/-- A store of a whole value into a variable of one's own. -/
theorem wpList_store_whole {P : Program} {ops : Array Oper} {rest : List Oper} {o : Oper} {a : Act} {w : World} {Q : Exit → Act → World → Prop} (hgd : o.guard = none) (ty : TypeId) (x y : Operand) (ho : o.op = .store ty x y) (hd : o.dst = none)
    (g : Nat) (cells : Array Value) (hx : a.eval x = .pointer (some ⟨g, 0, none⟩)) (hy : a.eval y = .agg cells)
    (t : TypeId) (old : Array Value) (hg : w.heap[g]? = some (.cells old t (0, 0))) (hi : (P.info? ty).map (·.size) = some cells.size)
    (hold : old.size = cells.size) (h1 : cells.all (·.oneCell') = true)
    (h : ∀ w', w'.heap[g]? = some (.cells cells t (0, 0)) → Kept [g] w w' → w'.heap.size = w.heap.size → wpList P ops Q rest a w') : wpList P ops Q (o :: rest) a w := by
  refine wpList_store_row hgd ty x y ho g cells hx hy t old hg hi hold h1 ?_
  rw [hd]
  exact h _ (setRow_heap w g old cells t _ hg) ⟨rfl, rfl, rfl, by simp [World.setRow], fun k _ hn => setRow_other w g k _ (by simpa using hn)⟩ (by simp [World.setRow])

set_option maxHeartbeats 2000000 in
theorem rspoil_0 {w : World} {D : Nat → Prop} {v : Value} {st : LS} (h : RefV w D v st) (hok : st.Ok) (n : Nat) (m : UInt8) (hn : n < st.q0.length) :
    Calls Try.prog 23 #[v, .int .i64 0, .int .i64 n, .int .u8 m.toNat] w fun e w' => ∃ v', e = .returned (.tuple #[v', .int .i64 0]) ∧ RefV w' (fun k => D k ∨ w.heap.size ≤ k) v' (st.spoil 0 n m) ∧ Kept [] w w' := by
  obtain ⟨A0, A1, A2, A3, c0, c1, c2, c3, rfl, hc⟩ := h
  have hlen : st.q0.length ≤ 140737488355328 := by have := wait_le hok 0; simp only [LS.wait, if_true] at this; omega
  obtain ⟨q, hq⟩ : ∃ q, q = st.q0 := ⟨_, rfl⟩
  obtain ⟨cc0, hcc⟩ : ∃ cc : RefC w D st A0 A1 A2 A3 c0 c1 c2 c3, True := ⟨hc, trivial⟩
  have HC := hide hc
  clear hc cc0 hcc hok
  have hn0 : ¬ (n : Int) < 0 := by omega
  rw [← hq] at hn hlen
  have hn1 : ¬ (q.length : Int) ≤ (n : Int) := by omega
  have hsq : Src w D A1 q := by rw [hq]; exact HC.out.q0
  have HQ := hide hq
  have HSQ := hide hsq
  unfold rv
  rw [← hq]
  clear hq hsq
  go_enter Try.func23, Try.ntmps23
  go_wp2_with fail
  refine (rside_yes _ _ (by omega)).mono ?_
  rintro e W ⟨rfl, hW⟩
  obtain ⟨hB, hZ, hK, hS⟩ := two_new hW
  obtain ⟨B, hBe⟩ : ∃ B, B = w.heap.size := ⟨_, rfl⟩
  rw [← hBe] at hB hZ hS ⊢
  have HB := hide hB
  have HZ := hide hZ
  have HK := hide hK
  have HS := hide hS
  have HBe := hide hBe
  clear hW hB hZ hK hS hBe
  have hoE : Own (W.alloc (.cells #[] 5)) (some ⟨W.heap.size, 0, none⟩) 0 [] := own_empty W
  have hsW : Src (W.alloc (.cells #[] 5)) D A1 q := HSQ.out.keep (HK.out.alloc _) (by simp)
  have HOE := hide hoE
  have HSW := hide hsW
  clear hoE hsW
  obtain ⟨e0, e1, e2, e3, e4, e5, e6⟩ := seven HB.out
  have e4' : (W.alloc (.cells #[] 5)).cell? ⟨B, 4, none⟩ = some (.slice A1 q.length c1) := (World.cell?_alloc_lt _ _ _ (World.block_lt_of_cell? W _ e4)).trans e4
  obtain ⟨i0, hi, hz0, hz1, hz2⟩ := info_parts info5
  go_wp2_with (first
    | (refine wpList_append_src rfl (.tmp 27) (.tmp 31) rfl Try.underlying22 hi hz0 hz1 hz2 HOE.out HSW.out (n := 0) rfl rfl rfl rfl (by simp; omega) ?_
       intro A6 c6 w6 ho6 hk6 hb6
       have hkW : Kept [W.heap.size] W w6 := ((Kept.refl [W.heap.size] W).alloc (.cells #[] 5)).trans hk6 (fun _ h => h) (by intro x hx; simp [blk] at hx; exact .inl (by simp [hx]))
       have HKW := hide hkW
       have HB6 := hide ((hkW.block B (by have := HS.out; omega) (by have := HS.out; simp; omega)).trans HB.out)
       rw [List.nil_append] at ho6
       obtain ⟨g7, rfl, hcell, hfz⟩ := ho6.cellAt n hn
       have hg7 : B + 1 < g7 := by
         have := HS.out
         rcases hb6 g7 (by simp [blk]) with h | h
         · simp [blk] at h; omega
         · simp at h; omega
       obtain ⟨y, hy⟩ : ∃ y, y = q[n] := ⟨_, rfl⟩
       rw [← hy] at hcell
       have hxor := xor_u8 y m
       obtain ⟨z, hz⟩ : ∃ z, z = y ^^^ m := ⟨_, rfl⟩
       rw [← hz] at hxor
       have HZZ := hide hz
       have hb7 : w6.heap[B]? = some (.cells #[Value.int IntKind.i64 st.budget, Value.int IntKind.i64 st.cut, Value.slice A0 st.s0.length c0, Value.slice A2 st.s1.length c2, Value.slice A1 q.length c1, Value.slice A3 st.q1.length c3, Value.bool st.down] 46 (0, 0)) := HB6.out
       obtain ⟨wC, hwC⟩ : ∃ wC, wC = w6.setCell ⟨B, 4, none⟩ (.slice (some ⟨g7, 0, none⟩) q.length c6) := ⟨_, rfl⟩
       have kC : Kept [B] w6 wC := by rw [hwC]; exact (Kept.refl _ _).setCell _ _ (.inl (by simp))
       have hbC := heap_setCell_same w6 B 4 _ 46 (.slice (some ⟨g7, 0, none⟩) q.length c6) hb7
       rw [← hwC] at hbC
       have hoC := ho6.keep kC (by simp [blk]; omega)
       obtain ⟨gx, ex, hcC, hfC⟩ := hoC.cellAt n hn
       injection ex with ex
       injection ex with ex
       subst ex
       rw [← hy] at hcC
       have hoD := hoC.stored n z
       obtain ⟨wD, hwD⟩ : ∃ wD, wD = wC.setCell ⟨g7, n, none⟩ (.int .u8 (z.toNat : Int)) := ⟨_, rfl⟩
       rw [← hwD] at hoD
       have kD : Kept [g7] wC wD := by rw [hwD]; exact (Kept.refl _ _).setCell _ _ (.inl (by simp))
       have hzC : B < wC.heap.size ∧ B + 1 < wC.heap.size := by have := HS.out; have := HKW.out.size; have := kC.size; omega
       have hbD := (kD.block B hzC.1 (by simp; omega)).trans hbC
       have hzD := (kD.block (B + 1) hzC.2 (by simp; omega)).trans ((kC.block (B + 1) (by have := HS.out; have := HKW.out.size; omega) (by simp)).trans ((HKW.out.block (B + 1) (by have := HS.out; omega) (by have := HS.out; simp; omega)).trans HZ.out))
       have HBD := hide hbD
       have HZD := hide hzD
       have HOD := hide hoD
       have HKD := hide (And.intro kC kD)
       have HY := hide hy
       rw [hwC] at hcC hfC
       obtain ⟨g0, g1, g2, g3, g4, g5, g6⟩ := seven hb7
       obtain ⟨f0, f1, f2, f3, f4, f5, f6⟩ := seven_free hb7
       obtain ⟨p0, p1, p2, p3, p4, p5, p6⟩ := seven hbD
       rw [hwD, hwC] at p0 p1 p2 p3 p4 p5 p6
       have hzE := hzD
       rw [hwD, hwC] at hzE
       have HZE := hide hzE
       have HWC := hide hwC
       have HWD := hide hwD
       clear hz hzE hb7 hbC hoC hoD hwD hwC kC kD hbD hzD hzC hy hfz hcell ho6 hk6 hb6 hkW
       clear e0 e1 e2 e3 e4 e4' e5 e6)
    | (refine wpList_store_whole rfl 46 (.tmp 8) (.tmp 45) rfl rfl (B + 1) _ rfl rfl 46 _ HZE.out (by kernel_rfl) rfl (by simp [Value.oneCell']) ?_
       intro wE hE hkE hsE
       obtain ⟨r0, r1, r2, r3, r4, r5, r6⟩ := seven hE
       have HE := hide (And.intro hE (And.intro hkE hsE))
       clear hE hkE hsE p0 p1 p2 p3 p4 p5 p6 g0 g1 g2 g3 g4 g5 g6 f0 f1 f2 f3 f4 f5 f6)
    | fail)
  (try simp only [Exit.inBlock, Exit.then])
  refine bodyPost_ret (by simp [results, Try.results23, go_sem, *]; try rfl) rfl ?_
  have hkE := HE.out.2.1
  rw [← HWC.out, ← HWD.out] at hkE
  have hBe := HBe.out
  have hWs := HS.out
  have K6 : Kept [] w w6 := HK.out.new HKW.out (by simp; omega)
  have KC : Kept [] w wC := K6.new HKD.out.1 (by simp; omega)
  have KD : Kept [] w wD := KC.new HKD.out.2 (by simp; omega)
  have KE : Kept [] w wE := KD.new hkE (by simp; omega)
  have hoE := HOD.out.keep hkE (by simp [blk]; omega)
  have hC := HC.out.keep KE (by simp)
  refine ⟨_, rfl, ⟨A0, some ⟨g7, 0, none⟩, A2, A3, c0, c6, c2, c3, ?_, ?_⟩, KE⟩
  · simp [rv, LS.spoil, HQ.out]
  · have e : (st.spoil 0 n m).q0 = q.set n z := by
      simp only [LS.spoil, if_true, ← HQ.out, List.getD_eq_getElem?_getD, List.getElem?_eq_getElem hn, Option.getD_some, ← HY.out, ← HZZ.out]
    refine ⟨?_, ?_, ?_, ?_⟩
    · exact hC.s0.mono (fun k hk => .inl hk)
    · rw [e]; exact hoE.src.mono (fun k hk => .inr (by simp [blk] at hk; omega))
    · exact hC.s1.mono (fun k hk => .inl hk)
    · exact hC.q1.mono (fun k hk => .inl hk)
set_option maxHeartbeats 2000000 in
theorem rspoil_1 {w : World} {D : Nat → Prop} {v : Value} {st : LS} (h : RefV w D v st) (hok : st.Ok) (n : Nat) (m : UInt8) (hn : n < st.q1.length) :
    Calls Try.prog 23 #[v, .int .i64 1, .int .i64 n, .int .u8 m.toNat] w fun e w' => ∃ v', e = .returned (.tuple #[v', .int .i64 0]) ∧ RefV w' (fun k => D k ∨ w.heap.size ≤ k) v' (st.spoil 1 n m) ∧ Kept [] w w' := by
  obtain ⟨A0, A1, A2, A3, c0, c1, c2, c3, rfl, hc⟩ := h
  have hlen : st.q1.length ≤ 140737488355328 := by have := wait_le hok 1; simp only [LS.wait, if_neg (show ¬ (1 : Int) = 0 by omega), if_true] at this; omega
  obtain ⟨q, hq⟩ : ∃ q, q = st.q1 := ⟨_, rfl⟩
  obtain ⟨cc0, hcc⟩ : ∃ cc : RefC w D st A0 A1 A2 A3 c0 c1 c2 c3, True := ⟨hc, trivial⟩
  have HC := hide hc
  clear hc cc0 hcc hok
  have hn0 : ¬ (n : Int) < 0 := by omega
  rw [← hq] at hn hlen
  have hn1 : ¬ (q.length : Int) ≤ (n : Int) := by omega
  have hsq : Src w D A3 q := by rw [hq]; exact HC.out.q1
  have HQ := hide hq
  have HSQ := hide hsq
  unfold rv
  rw [← hq]
  clear hq hsq
  go_enter Try.func23, Try.ntmps23
  go_wp2_with fail
  refine (rside_yes _ _ (by omega)).mono ?_
  rintro e W ⟨rfl, hW⟩
  obtain ⟨hB, hZ, hK, hS⟩ := two_new hW
  obtain ⟨B, hBe⟩ : ∃ B, B = w.heap.size := ⟨_, rfl⟩
  rw [← hBe] at hB hZ hS ⊢
  have HB := hide hB
  have HZ := hide hZ
  have HK := hide hK
  have HS := hide hS
  have HBe := hide hBe
  clear hW hB hZ hK hS hBe
  have hoE : Own (W.alloc (.cells #[] 5)) (some ⟨W.heap.size, 0, none⟩) 0 [] := own_empty W
  have hsW : Src (W.alloc (.cells #[] 5)) D A3 q := HSQ.out.keep (HK.out.alloc _) (by simp)
  have HOE := hide hoE
  have HSW := hide hsW
  clear hoE hsW
  obtain ⟨e0, e1, e2, e3, e4, e5, e6⟩ := seven HB.out
  have e4' : (W.alloc (.cells #[] 5)).cell? ⟨B, 5, none⟩ = some (.slice A3 q.length c3) := (World.cell?_alloc_lt _ _ _ (World.block_lt_of_cell? W _ e5)).trans e5
  obtain ⟨i0, hi, hz0, hz1, hz2⟩ := info_parts info5
  go_wp2_with (first
    | (refine wpList_append_src rfl (.tmp 27) (.tmp 31) rfl Try.underlying22 hi hz0 hz1 hz2 HOE.out HSW.out (n := 0) rfl rfl rfl rfl (by simp; omega) ?_
       intro A6 c6 w6 ho6 hk6 hb6
       have hkW : Kept [W.heap.size] W w6 := ((Kept.refl [W.heap.size] W).alloc (.cells #[] 5)).trans hk6 (fun _ h => h) (by intro x hx; simp [blk] at hx; exact .inl (by simp [hx]))
       have HKW := hide hkW
       have HB6 := hide ((hkW.block B (by have := HS.out; omega) (by have := HS.out; simp; omega)).trans HB.out)
       rw [List.nil_append] at ho6
       obtain ⟨g7, rfl, hcell, hfz⟩ := ho6.cellAt n hn
       have hg7 : B + 1 < g7 := by
         have := HS.out
         rcases hb6 g7 (by simp [blk]) with h | h
         · simp [blk] at h; omega
         · simp at h; omega
       obtain ⟨y, hy⟩ : ∃ y, y = q[n] := ⟨_, rfl⟩
       rw [← hy] at hcell
       have hxor := xor_u8 y m
       obtain ⟨z, hz⟩ : ∃ z, z = y ^^^ m := ⟨_, rfl⟩
       rw [← hz] at hxor
       have HZZ := hide hz
       have hb7 : w6.heap[B]? = some (.cells #[Value.int IntKind.i64 st.budget, Value.int IntKind.i64 st.cut, Value.slice A0 st.s0.length c0, Value.slice A2 st.s1.length c2, Value.slice A1 st.q0.length c1, Value.slice A3 q.length c3, Value.bool st.down] 46 (0, 0)) := HB6.out
       obtain ⟨wC, hwC⟩ : ∃ wC, wC = w6.setCell ⟨B, 5, none⟩ (.slice (some ⟨g7, 0, none⟩) q.length c6) := ⟨_, rfl⟩
       have kC : Kept [B] w6 wC := by rw [hwC]; exact (Kept.refl _ _).setCell _ _ (.inl (by simp))
       have hbC := heap_setCell_same w6 B 5 _ 46 (.slice (some ⟨g7, 0, none⟩) q.length c6) hb7
       rw [← hwC] at hbC
       have hoC := ho6.keep kC (by simp [blk]; omega)
       obtain ⟨gx, ex, hcC, hfC⟩ := hoC.cellAt n hn
       injection ex with ex
       injection ex with ex
       subst ex
       rw [← hy] at hcC
       have hoD := hoC.stored n z
       obtain ⟨wD, hwD⟩ : ∃ wD, wD = wC.setCell ⟨g7, n, none⟩ (.int .u8 (z.toNat : Int)) := ⟨_, rfl⟩
       rw [← hwD] at hoD
       have kD : Kept [g7] wC wD := by rw [hwD]; exact (Kept.refl _ _).setCell _ _ (.inl (by simp))
       have hzC : B < wC.heap.size ∧ B + 1 < wC.heap.size := by have := HS.out; have := HKW.out.size; have := kC.size; omega
       have hbD := (kD.block B hzC.1 (by simp; omega)).trans hbC
       have hzD := (kD.block (B + 1) hzC.2 (by simp; omega)).trans ((kC.block (B + 1) (by have := HS.out; have := HKW.out.size; omega) (by simp)).trans ((HKW.out.block (B + 1) (by have := HS.out; omega) (by have := HS.out; simp; omega)).trans HZ.out))
       have HBD := hide hbD
       have HZD := hide hzD
       have HOD := hide hoD
       have HKD := hide (And.intro kC kD)
       have HY := hide hy
       rw [hwC] at hcC hfC
       obtain ⟨g0, g1, g2, g3, g4, g5, g6⟩ := seven hb7
       obtain ⟨f0, f1, f2, f3, f4, f5, f6⟩ := seven_free hb7
       obtain ⟨p0, p1, p2, p3, p4, p5, p6⟩ := seven hbD
       rw [hwD, hwC] at p0 p1 p2 p3 p4 p5 p6
       have hzE := hzD
       rw [hwD, hwC] at hzE
       have HZE := hide hzE
       have HWC := hide hwC
       have HWD := hide hwD
       clear hz hzE hb7 hbC hoC hoD hwD hwC kC kD hbD hzD hzC hy hfz hcell ho6 hk6 hb6 hkW
       clear e0 e1 e2 e3 e4 e4' e5 e6)
    | (refine wpList_store_whole rfl 46 (.tmp 8) (.tmp 45) rfl rfl (B + 1) _ rfl rfl 46 _ HZE.out (by kernel_rfl) rfl (by simp [Value.oneCell']) ?_
       intro wE hE hkE hsE
       obtain ⟨r0, r1, r2, r3, r4, r5, r6⟩ := seven hE
       have HE := hide (And.intro hE (And.intro hkE hsE))
       clear hE hkE hsE p0 p1 p2 p3 p4 p5 p6 g0 g1 g2 g3 g4 g5 g6 f0 f1 f2 f3 f4 f5 f6)
    | fail)
  (try simp only [Exit.inBlock, Exit.then])
  refine bodyPost_ret (by simp [results, Try.results23, go_sem, *]; try rfl) rfl ?_
  have hkE := HE.out.2.1
  rw [← HWC.out, ← HWD.out] at hkE
  have hBe := HBe.out
  have hWs := HS.out
  have K6 : Kept [] w w6 := HK.out.new HKW.out (by simp; omega)
  have KC : Kept [] w wC := K6.new HKD.out.1 (by simp; omega)
  have KD : Kept [] w wD := KC.new HKD.out.2 (by simp; omega)
  have KE : Kept [] w wE := KD.new hkE (by simp; omega)
  have hoE := HOD.out.keep hkE (by simp [blk]; omega)
  have hC := HC.out.keep KE (by simp)
  refine ⟨_, rfl, ⟨A0, A1, A2, some ⟨g7, 0, none⟩, c0, c1, c2, c6, ?_, ?_⟩, KE⟩
  · simp [rv, LS.spoil, HQ.out]
  · have e : (st.spoil 1 n m).q1 = q.set n z := by
      simp only [LS.spoil, if_neg (show ¬ (1 : Int) = 0 by omega), if_true, ← HQ.out, List.getD_eq_getElem?_getD, List.getElem?_eq_getElem hn, Option.getD_some, ← HY.out, ← HZZ.out]
    refine ⟨?_, ?_, ?_, ?_⟩
    · exact hC.s0.mono (fun k hk => .inl hk)
    · exact hC.q0.mono (fun k hk => .inl hk)
    · exact hC.s1.mono (fun k hk => .inl hk)
    · rw [e]; exact hoE.src.mono (fun k hk => .inr (by simp [blk] at hk; omega))
theorem rspoil_yes {w : World} {D : Nat → Prop} {v : Value} {st : LS} (h : RefV w D v st) (hok : st.Ok) (k : Int) (n : Nat) (m : UInt8) (hk : k = 0 ∨ k = 1) (hn : n < (st.wait k).length) :
    Calls Try.prog 23 #[v, .int .i64 k, .int .i64 n, .int .u8 m.toNat] w fun e w' => ∃ v', e = .returned (.tuple #[v', .int .i64 0]) ∧ RefV w' (fun k => D k ∨ w.heap.size ≤ k) v' (st.spoil k n m) ∧ Kept [] w w' := by
  rcases hk with rfl | rfl
  · exact rspoil_0 h hok n m hn
  · exact rspoil_1 h hok n m hn
end Go.Proofs.Ytbajpofmaffpgaa
