/- The link's Send. -/
import Derived.Test.YtbajpofmaffpgaaLinkP
import Derived.Deep.RegionLaw
namespace Go.Proofs.Ytbajpofmaffpgaa
open Go.RowKit
set_option linter.unusedSimpArgs false
set_option linter.unusedVariables false

theorem wp_named {P : Program} {c : Code} {Q : Exit → Act → World → Prop} {a : Act} {w : World} (h : ∀ w', w' = w → Code.wp P c Q a w') : Code.wp P c Q a w := h w rfl

/-- What of xs arrives. -/
def LS.arr (st : LS) (xs : List UInt8) : List UInt8 :=
  if st.down then [] else if st.budget - st.total < xs.length then [] else if 0 ≤ st.cut ∧ st.cut - st.total < xs.length then xs.take (st.cut - st.total).toNat else xs
def LS.err (st : LS) (xs : List UInt8) : Int :=
  if st.down then 15 else if st.budget - st.total < xs.length then 7 else if 0 ≤ st.cut ∧ st.cut - st.total < xs.length then 15 else 0
def LS.goes (st : LS) (xs : List UInt8) : Bool :=
  if st.down then true else if st.budget - st.total < xs.length then false else decide (0 ≤ st.cut ∧ st.cut - st.total < xs.length)
def LS.put (st : LS) (k : Int) (ys : List UInt8) (d : Bool) : LS :=
  if k = 0 then { st with s0 := st.s0 ++ ys, q1 := st.q1 ++ ys, down := d } else { st with s1 := st.s1 ++ ys, q0 := st.q0 ++ ys, down := d }
def LS.send (st : LS) (k : Int) (xs : List UInt8) : LS := st.put k (st.arr xs) (st.goes xs)

/-- What is left behind a Send: the link, and nothing else has turned. -/
def Sent (w : World) (b : Nat) (F : List Nat) (st' : LS) (w' : World) : Prop := ∃ F', LinkAt w' b F' st' ∧ Kept F w w' ∧ (∀ x ∈ F', x ∈ F ∨ (w.heap.size ≤ x ∧ x < w'.heap.size))

theorem send_bad {w : World} {b : Nat} (k : Int) (v : Value) (hk0 : (k == 0) = false) (hk1 : (k == 1) = false) :
    Calls Try.prog 12 #[.pointer (some ⟨b, 0, none⟩), .int .i64 k, v] w fun e w' => e = .returned (.tuple #[.int .i64 0, .int .i64 1]) ∧ w = w' := by
  go_enter Try.func12, Try.ntmps12
  go_wp2_with (go_at_call 25; refine (side_no _ _ hk0 hk1).mono ?_; rintro e w' ⟨rfl, rfl⟩)
  go_ret2
  exact ⟨rfl, rfl⟩

theorem send_down {w : World} {b : Nat} {F : List Nat} {st : LS} (h : LinkAt w b F st) (k : Int) (v : Value) (hk : k = 0 ∨ k = 1) (hd : st.down = true) :
    Calls Try.prog 12 #[.pointer (some ⟨b, 0, none⟩), .int .i64 k, v] w fun e w' => e = .returned (.tuple #[.int .i64 0, .int .i64 15]) ∧ w = w' := by
  obtain ⟨A0, c0, A1, c1, A2, c2, A3, c3, hb, h0, h1, h2, h3, hF, hnd⟩ := h
  have e7 : w.cell? ⟨b, 7, none⟩ = some (.bool true) := (cells_of hb 7).trans (by simp [hd])
  have HK := hide hk
  clear hb h0 h1 h2 h3 hF hnd hk hd
  go_enter Try.func12, Try.ntmps12
  go_wp2_with (go_at_call 25; refine (side_yes _ _ HK.out).mono ?_; rintro e w' ⟨rfl, rfl⟩)
  go_ret2
  exact ⟨rfl, rfl⟩

theorem send_full {w : World} {b : Nat} {F : List Nat} {st : LS} (h : LinkAt w b F st) (hok : st.Ok) (k : Int) (A : Option Addr) (n c : Nat) (hk : k = 0 ∨ k = 1) (hd : st.down = false) (hf : st.budget - st.total < n) :
    Calls Try.prog 12 #[.pointer (some ⟨b, 0, none⟩), .int .i64 k, .slice A n c] w fun e w' => e = .returned (.tuple #[.int .i64 0, .int .i64 7]) ∧ Drawn w w' := by
  have hl := h
  obtain ⟨A0, c0, A1, c1, A2, c2, A3, c3, hb, h0, h1, h2, h3, hF, hnd⟩ := h
  have e7 : w.cell? ⟨b, 7, none⟩ = some (.bool false) := (cells_of hb 7).trans (by simp [hd])
  have HK := hide hk
  have HL := hide hl
  have HO := hide hok
  clear hb h0 h1 h2 h3 hF hnd hk hd hl hok
  go_enter Try.func12, Try.ntmps12
  go_wp2_with (first | (go_at_call 25; refine (side_yes _ _ HK.out).mono ?_; rintro e w' ⟨rfl, rfl⟩) | (go_at_call 14; refine (left_calls HL.out HO.out).mono ?_; rintro e w' ⟨rfl, hw'⟩))
  go_ret2
  exact ⟨rfl, hw'⟩

set_option maxHeartbeats 1000000 in
theorem send_cut0 {w : World} {b : Nat} {F : List Nat} {st : LS} (h : LinkAt w b F st) (hok : st.Ok) {D : Nat → Prop} (A : Option Addr) (xs : List UInt8) (c m : Nat) (hs : Src w D A xs) (hD : ∀ k, D k → k ∉ F)
    (hc : xs.length ≤ c) (hd : st.down = false) (hf : ¬ st.budget - st.total < xs.length) (hc0 : 0 ≤ st.cut) (hm : st.cut - st.total = m) (hml : m < xs.length) :
    Calls Try.prog 12 #[.pointer (some ⟨b, 0, none⟩), .int .i64 0, .slice A xs.length c] w fun e w' => e = .returned (.tuple #[.int .i64 m, .int .i64 15]) ∧ Sent w b F (st.put 0 (xs.take m) true) w' := by
  have hl := h
  obtain ⟨A0, c0, A1, c1, A2, c2, A3, c3, hb, h0, h1, h2, h3, hF, hnd⟩ := h
  have k0 := hok.b0
  have k1 := hok.b1
  have k2 := hok.c1
  have e7 : w.cell? ⟨b, 7, none⟩ = some (.bool false) := (cells_of hb 7).trans (by simp [hd])
  have hDD := hide hd
  have H := hide hb
  have HF := hide hF
  have HL := hide hl
  have HO := hide hok
  have HR := hide (⟨h0, h1, h2, h3⟩ : Own w A0 c0 st.s0 ∧ Own w A1 c1 st.q0 ∧ Own w A2 c2 st.s1 ∧ Own w A3 c3 st.q1)
  have hlen0 : st.s0.length ≤ 1073741824 ∧ st.q0.length ≤ 1073741824 ∧ st.s1.length ≤ 1073741824 ∧ st.q1.length ≤ 1073741824 := by
    have := hok.q1
    have := hok.q0
    unfold LS.total at k0
    omega
  rw [hF] at hnd
  have HN := hide ((nodup_iff _ _ _ _ _).1 hnd).side0
  clear hb h0 h1 h2 h3 hF hnd hd hl hok
  have hlt : (m : Int) < (xs.length : Int) := by omega
  have hmc : m ≤ c := by omega
  obtain ⟨i0, hi, hz0, hz1, hz2⟩ := info_parts info5
  have hbl : b < w.heap.size := HL.out.lt b (by rw [HF.out]; simp)
  go_enter Try.func12, Try.ntmps12
  go_wp2_with (first
    | (go_at_call 25; refine (side_yes _ _ (by omega)).mono ?_; rintro e w' ⟨rfl, rfl⟩)
    | (go_at_call 14
       refine (left_calls HL.out HO.out).mono ?_
       rintro e w1 ⟨rfl, hw1⟩
       have hk1 := hw1.kept []
       have H1 := hide ((hk1.block b hbl (by simp)).trans H.out)
       have g5 : w1.cell? ⟨b, 5, none⟩ = some (.int .i64 st.cut) := cells_of H1.out 5
       have g6 : w1.cell? ⟨b, 6, none⟩ = some (.int .i64 st.total) := cells_of H1.out 6
       have f6 : w1.frozen? ⟨b, 6, none⟩ = false := free_of H1.out 6
       have f7 : w1.frozen? ⟨b, 7, none⟩ = false := free_of H1.out 7
       have g7 : w1.cell? ⟨b, 7, none⟩ = some (.bool false) := (hk1.cell (p := ⟨b, 7, none⟩) hbl (by simp)).trans e7))
  go_quiet (fail)
  go_wp2_with fail
  go_quiet (fail)
  go_wp2_with fail
  refine wp_named ?_
  intro wA hwA
  have HA0 : wA.heap[b]? = some (.cells #[.slice A0 st.s0.length c0, .slice A1 st.q0.length c1, .slice A2 st.s1.length c2, .slice A3 st.q1.length c3,
      .int .i64 st.budget, .int .i64 st.cut, .int .i64 ((st.total : Int) + m), .bool true] 59 (0, 0)) := by
    rw [hwA]
    exact heap_setCell_same _ b 6 _ 59 _ (heap_setCell_same _ b 7 _ 59 _ H1.out)
  have hkA : Kept [b] w wA := by
    rw [hwA]
    exact ((hk1.mono (by simp)).drewN _ |>.setCell ⟨b, 7, none⟩ _ (by simp)).setCell ⟨b, 6, none⟩ _ (by simp)
  have HA := hide HA0
  clear HA0 hwA g5 g6 f6 f7 g7 H1 hw1 hk1
  have g0 : wA.cell? ⟨b, 0, none⟩ = some (.slice A0 st.s0.length c0) := cells_of HA.out 0
  have f0 : wA.frozen? ⟨b, 0, none⟩ = false := free_of HA.out 0
  have nb := HN.out.1
  have hRA : Own wA A0 c0 st.s0 := HR.out.1.keep hkA (fun x hx hxb => nb.1 (by simp only [List.mem_singleton] at hxb; subst hxb; exact hx))
  have hSA : Own wA A3 c3 st.q1 := HR.out.2.2.2.keep hkA (fun x hx hxb => nb.2.1 (by simp only [List.mem_singleton] at hxb; subst hxb; exact hx))
  have hsA : Src wA D A (xs.take m) := (hs.take m).keep hkA (fun x hx hxb => hD x hx (by rw [HF.out]; simp only [List.mem_singleton] at hxb; subst hxb; simp))
  have hbA : b < wA.heap.size := Nat.lt_of_lt_of_le hbl hkA.size
  have hsR : st.s0.length + (xs.take m).length ≤ 140737488355328 := by simp; omega
  have hsS : st.q1.length + (xs.take m).length ≤ 140737488355328 := by simp; omega
  have hDF : ∀ k, D k → k ∉ blk A0 ∧ k ≠ b := fun k hk => ⟨fun hx => hD k hk (by rw [HF.out]; simp [hx]), fun hx => hD k hk (by rw [HF.out]; simp [hx])⟩
  go_region_law (refine step_append_src rfl (.tmp 73) (.tmp 76) rfl Try.underlying22 hi hz0 hz1 hz2 hRA.drew hsA.drew rfl (by simp; omega) rfl rfl hsR ?_; intro AB cB wB hoB hkB hbB; have HB := hide ((hkB.block b hbA nb.1).trans HA.out); have gB : wB.cell? ⟨b, 0, none⟩ = some (.slice A0 st.s0.length c0) := cells_of HB.out 0; have fB : wB.frozen? ⟨b, 0, none⟩ = false := free_of HB.out 0)
  go_wp2_with fail
  refine wp_named ?_
  intro wC hwC
  have HC0 := heap_setCell_same _ b 0 _ 59 (Value.slice AB (st.s0.length + m) cB) HB.out
  rw [← hwC] at HC0
  have HC := hide HC0
  have kC : Kept [b] wB wC := by rw [hwC]; exact (Kept.refl _ _).setCell _ _ (by simp)
  have hSC : Own wC A3 c3 st.q1 := (hSA.keep hkB.undrew (fun x hx hxr => (HN.out.2.1 x hxr).1 hx)).keep kC (fun x hx hxb => nb.2.1 (by simp only [List.mem_singleton] at hxb; subst hxb; exact hx))
  have hsC : Src wC D A (xs.take m) := (hsA.keep hkB.undrew (fun x hx => (hDF x hx).1)).keep kC (fun x hx hxb => (hDF x hx).2 (by simpa using hxb))
  have hbC : b < wC.heap.size := Nat.lt_of_lt_of_le hbA (Nat.le_trans hkB.size kC.size)
  have HWC := hide hwC
  clear HC0 hwC gB fB HB g0 f0
  have gC : wC.cell? ⟨b, 3, none⟩ = some (.slice A3 st.q1.length c3) := cells_of HC.out 3
  have fC : wC.frozen? ⟨b, 3, none⟩ = false := free_of HC.out 3
  have hwr : IntKind.i64.wrap 1 = 1 := by decide
  go_region_law (refine step_append_src rfl (.tmp 92) (.tmp 95) rfl Try.underlying22 hi hz0 hz1 hz2 hSC.drew hsC.drew rfl (by simp; omega) rfl rfl hsS ?_; intro AD cD wD hoD hkD hbD; have HE := hide ((hkD.block b hbC nb.2.1).trans HC.out); have gD : wD.cell? ⟨b, 3, none⟩ = some (.slice A3 st.q1.length c3) := cells_of HE.out 3; have fD : wD.frozen? ⟨b, 3, none⟩ = false := free_of HE.out 3)
  go_wp2_with fail
  go_ret2
  obtain ⟨q1, q2, q3, q4, q5, q6, q7, q8, q9⟩ := two_appends HN.out hbl HR.out.2.1 HR.out.2.2.1 HR.out.1.lt HR.out.2.2.2.lt hkA hoB hkB.undrew hbB HWC.out hoD hkD.undrew hbD (rfl : wD.setCell ⟨b, 3, none⟩ (.slice AD (st.q1.length + m) cD) = _)
  refine ⟨rfl, b :: (blk AB ++ blk A1 ++ blk A2 ++ blk AD), ⟨AB, cB, A1, c1, A2, c2, AD, cD, ?_, q1, q3, q4, q2, rfl, (nodup_iff _ _ _ _ _).2 q5.side0'⟩, q6.mono ?_, ?_⟩
  · have HH := heap_setCell_same _ b 3 _ 59 (Value.slice AD (st.q1.length + m) cD) HE.out
    have hl : (xs.take m).length = m := by simp; omega
    refine HH.trans ?_
    simp only [LS.put, LS.total, if_pos, List.length_append, hl]
    
    simp [LS.total]
    try omega
  · intro x hx
    rw [HF.out]
    simp only [List.mem_cons, List.mem_append] at hx ⊢
    grind
  · intro x hx
    rw [HF.out]
    simp only [List.mem_cons, List.mem_append] at hx ⊢
    grind

set_option maxHeartbeats 1000000 in
theorem send_all0 {w : World} {b : Nat} {F : List Nat} {st : LS} (h : LinkAt w b F st) (hok : st.Ok) {D : Nat → Prop} (A : Option Addr) (xs : List UInt8) (c : Nat) (hs : Src w D A xs) (hD : ∀ k, D k → k ∉ F)
    (hc : xs.length ≤ c) (hd : st.down = false) (hf : ¬ st.budget - st.total < xs.length) (hcut : st.cut < 0 ∨ (0 ≤ st.cut ∧ (xs.length : Int) ≤ st.cut - st.total)) :
    Calls Try.prog 12 #[.pointer (some ⟨b, 0, none⟩), .int .i64 0, .slice A xs.length c] w fun e w' => e = .returned (.tuple #[.int .i64 xs.length, .int .i64 0]) ∧ Sent w b F (st.put 0 xs false) w' := by
  have hl := h
  obtain ⟨A0, c0, A1, c1, A2, c2, A3, c3, hb, h0, h1, h2, h3, hF, hnd⟩ := h
  have k0 := hok.b0
  have k1 := hok.b1
  have k2 := hok.c1
  have e7 : w.cell? ⟨b, 7, none⟩ = some (.bool false) := (cells_of hb 7).trans (by simp [hd])
  have hDD := hide hd
  have H := hide hb
  have HF := hide hF
  have HL := hide hl
  have HO := hide hok
  have HR := hide (⟨h0, h1, h2, h3⟩ : Own w A0 c0 st.s0 ∧ Own w A1 c1 st.q0 ∧ Own w A2 c2 st.s1 ∧ Own w A3 c3 st.q1)
  have hlen0 : st.s0.length ≤ 1073741824 ∧ st.q0.length ≤ 1073741824 ∧ st.s1.length ≤ 1073741824 ∧ st.q1.length ≤ 1073741824 := by
    have := hok.q1
    have := hok.q0
    unfold LS.total at k0
    omega
  rw [hF] at hnd
  have HN := hide ((nodup_iff _ _ _ _ _).1 hnd).side0
  clear hb h0 h1 h2 h3 hF hnd hd hl hok
  obtain ⟨i0, hi, hz0, hz1, hz2⟩ := info_parts info5
  have hbl : b < w.heap.size := HL.out.lt b (by rw [HF.out]; simp)
  rcases hcut with hcut | ⟨hcut, hcut2⟩
  · have hge : ¬ 0 ≤ st.cut := by omega
    have hdc : decide (0 ≤ st.cut) = false := by simp; omega
    go_enter Try.func12, Try.ntmps12
    go_wp2_with (first
      | (go_at_call 25; refine (side_yes _ _ (by omega)).mono ?_; rintro e w' ⟨rfl, rfl⟩)
      | (go_at_call 14
         refine (left_calls HL.out HO.out).mono ?_
         rintro e w1 ⟨rfl, hw1⟩
         have hk1 := hw1.kept []
         have H1 := hide ((hk1.block b hbl (by simp)).trans H.out)
         have g5 : w1.cell? ⟨b, 5, none⟩ = some (.int .i64 st.cut) := cells_of H1.out 5
         have g6 : w1.cell? ⟨b, 6, none⟩ = some (.int .i64 st.total) := cells_of H1.out 6
         have f6 : w1.frozen? ⟨b, 6, none⟩ = false := free_of H1.out 6
         have f7 : w1.frozen? ⟨b, 7, none⟩ = false := free_of H1.out 7
         have g7 : w1.cell? ⟨b, 7, none⟩ = some (.bool false) := (hk1.cell (p := ⟨b, 7, none⟩) hbl (by simp)).trans e7))
    go_quiet (fail)
    go_wp2_with fail
    refine wp_named ?_
    intro wA hwA
    have HA0 : wA.heap[b]? = some (.cells #[.slice A0 st.s0.length c0, .slice A1 st.q0.length c1, .slice A2 st.s1.length c2, .slice A3 st.q1.length c3,
        .int .i64 st.budget, .int .i64 st.cut, .int .i64 ((st.total : Int) + xs.length), .bool st.down] 59 (0, 0)) := by
      rw [hwA]
      exact heap_setCell_same _ b 6 _ 59 _ H1.out
    have hkA : Kept [b] w wA := by
      rw [hwA]
      exact ((hk1.mono (by simp)).drewN _).setCell ⟨b, 6, none⟩ _ (by simp)
    have HA := hide HA0
    clear HA0 hwA g5 g6 f6 f7 g7 H1 hw1 hk1
    have g0 : wA.cell? ⟨b, 0, none⟩ = some (.slice A0 st.s0.length c0) := cells_of HA.out 0
    have f0 : wA.frozen? ⟨b, 0, none⟩ = false := free_of HA.out 0
    have nb := HN.out.1
    have hRA : Own wA A0 c0 st.s0 := HR.out.1.keep hkA (fun x hx hxb => nb.1 (by simp only [List.mem_singleton] at hxb; subst hxb; exact hx))
    have hSA : Own wA A3 c3 st.q1 := HR.out.2.2.2.keep hkA (fun x hx hxb => nb.2.1 (by simp only [List.mem_singleton] at hxb; subst hxb; exact hx))
    have hsA : Src wA D A xs := hs.keep hkA (fun x hx hxb => hD x hx (by rw [HF.out]; simp only [List.mem_singleton] at hxb; subst hxb; simp))
    have hbA : b < wA.heap.size := Nat.lt_of_lt_of_le hbl hkA.size
    have hsR : st.s0.length + xs.length ≤ 140737488355328 := by omega
    have hsS : st.q1.length + xs.length ≤ 140737488355328 := by omega
    have hDF : ∀ k, D k → k ∉ blk A0 ∧ k ≠ b := fun k hk => ⟨fun hx => hD k hk (by rw [HF.out]; simp [hx]), fun hx => hD k hk (by rw [HF.out]; simp [hx])⟩
    go_region_law (refine step_append_src rfl (.tmp 73) (.tmp 76) rfl Try.underlying22 hi hz0 hz1 hz2 hRA.drew hsA.drew rfl (by rfl) rfl rfl hsR ?_; intro AB cB wB hoB hkB hbB; have HB := hide ((hkB.block b hbA nb.1).trans HA.out); have gB : wB.cell? ⟨b, 0, none⟩ = some (.slice A0 st.s0.length c0) := cells_of HB.out 0; have fB : wB.frozen? ⟨b, 0, none⟩ = false := free_of HB.out 0)
    go_wp2_with fail
    refine wp_named ?_
    intro wC hwC
    have HC0 := heap_setCell_same _ b 0 _ 59 (Value.slice AB (st.s0.length + xs.length) cB) HB.out
    rw [← hwC] at HC0
    have HC := hide HC0
    have kC : Kept [b] wB wC := by rw [hwC]; exact (Kept.refl _ _).setCell _ _ (by simp)
    have hSC : Own wC A3 c3 st.q1 := (hSA.keep hkB.undrew (fun x hx hxr => (HN.out.2.1 x hxr).1 hx)).keep kC (fun x hx hxb => nb.2.1 (by simp only [List.mem_singleton] at hxb; subst hxb; exact hx))
    have hsC : Src wC D A xs := (hsA.keep hkB.undrew (fun x hx => (hDF x hx).1)).keep kC (fun x hx hxb => (hDF x hx).2 (by simpa using hxb))
    have hbC : b < wC.heap.size := Nat.lt_of_lt_of_le hbA (Nat.le_trans hkB.size kC.size)
    have HWC := hide hwC
    clear HC0 hwC gB fB HB g0 f0
    have gC : wC.cell? ⟨b, 3, none⟩ = some (.slice A3 st.q1.length c3) := cells_of HC.out 3
    have fC : wC.frozen? ⟨b, 3, none⟩ = false := free_of HC.out 3
    have hwr : IntKind.i64.wrap 1 = 1 := by decide
    go_region_law (refine step_append_src rfl (.tmp 92) (.tmp 95) rfl Try.underlying22 hi hz0 hz1 hz2 hSC.drew hsC.drew rfl (by rfl) rfl rfl hsS ?_; intro AD cD wD hoD hkD hbD; have HE := hide ((hkD.block b hbC nb.2.1).trans HC.out); have gD : wD.cell? ⟨b, 3, none⟩ = some (.slice A3 st.q1.length c3) := cells_of HE.out 3; have fD : wD.frozen? ⟨b, 3, none⟩ = false := free_of HE.out 3)
    go_wp2_with fail
    go_ret2
    obtain ⟨q1, q2, q3, q4, q5, q6, q7, q8, q9⟩ := two_appends HN.out hbl HR.out.2.1 HR.out.2.2.1 HR.out.1.lt HR.out.2.2.2.lt hkA hoB hkB.undrew hbB HWC.out hoD hkD.undrew hbD (rfl : wD.setCell ⟨b, 3, none⟩ (.slice AD (st.q1.length + xs.length) cD) = _)
    refine ⟨rfl, b :: (blk AB ++ blk A1 ++ blk A2 ++ blk AD), ⟨AB, cB, A1, c1, A2, c2, AD, cD, ?_, q1, q3, q4, q2, rfl, (nodup_iff _ _ _ _ _).2 q5.side0'⟩, q6.mono ?_, ?_⟩
    · have HH := heap_setCell_same _ b 3 _ 59 (Value.slice AD (st.q1.length + xs.length) cD) HE.out
      have hl : xs.length = xs.length := by rfl
      refine HH.trans ?_
      simp only [LS.put, LS.total, if_pos, List.length_append, hl]
      rw [hDD.out]
      simp [LS.total]
      try omega
    · intro x hx
      rw [HF.out]
      simp only [List.mem_cons, List.mem_append] at hx ⊢
      grind
    · intro x hx
      rw [HF.out]
      simp only [List.mem_cons, List.mem_append] at hx ⊢
      grind
  · have hlc : ¬ st.cut - st.total < xs.length := by omega
    go_enter Try.func12, Try.ntmps12
    go_wp2_with (first
      | (go_at_call 25; refine (side_yes _ _ (by omega)).mono ?_; rintro e w' ⟨rfl, rfl⟩)
      | (go_at_call 14
         refine (left_calls HL.out HO.out).mono ?_
         rintro e w1 ⟨rfl, hw1⟩
         have hk1 := hw1.kept []
         have H1 := hide ((hk1.block b hbl (by simp)).trans H.out)
         have g5 : w1.cell? ⟨b, 5, none⟩ = some (.int .i64 st.cut) := cells_of H1.out 5
         have g6 : w1.cell? ⟨b, 6, none⟩ = some (.int .i64 st.total) := cells_of H1.out 6
         have f6 : w1.frozen? ⟨b, 6, none⟩ = false := free_of H1.out 6
         have f7 : w1.frozen? ⟨b, 7, none⟩ = false := free_of H1.out 7
         have g7 : w1.cell? ⟨b, 7, none⟩ = some (.bool false) := (hk1.cell (p := ⟨b, 7, none⟩) hbl (by simp)).trans e7))
    go_quiet (fail)
    go_wp2_with fail
    refine wp_named ?_
    intro wA hwA
    have HA0 : wA.heap[b]? = some (.cells #[.slice A0 st.s0.length c0, .slice A1 st.q0.length c1, .slice A2 st.s1.length c2, .slice A3 st.q1.length c3,
        .int .i64 st.budget, .int .i64 st.cut, .int .i64 ((st.total : Int) + xs.length), .bool st.down] 59 (0, 0)) := by
      rw [hwA]
      exact heap_setCell_same _ b 6 _ 59 _ H1.out
    have hkA : Kept [b] w wA := by
      rw [hwA]
      exact ((hk1.mono (by simp)).drewN _).setCell ⟨b, 6, none⟩ _ (by simp)
    have HA := hide HA0
    clear HA0 hwA g5 g6 f6 f7 g7 H1 hw1 hk1
    have g0 : wA.cell? ⟨b, 0, none⟩ = some (.slice A0 st.s0.length c0) := cells_of HA.out 0
    have f0 : wA.frozen? ⟨b, 0, none⟩ = false := free_of HA.out 0
    have nb := HN.out.1
    have hRA : Own wA A0 c0 st.s0 := HR.out.1.keep hkA (fun x hx hxb => nb.1 (by simp only [List.mem_singleton] at hxb; subst hxb; exact hx))
    have hSA : Own wA A3 c3 st.q1 := HR.out.2.2.2.keep hkA (fun x hx hxb => nb.2.1 (by simp only [List.mem_singleton] at hxb; subst hxb; exact hx))
    have hsA : Src wA D A xs := hs.keep hkA (fun x hx hxb => hD x hx (by rw [HF.out]; simp only [List.mem_singleton] at hxb; subst hxb; simp))
    have hbA : b < wA.heap.size := Nat.lt_of_lt_of_le hbl hkA.size
    have hsR : st.s0.length + xs.length ≤ 140737488355328 := by omega
    have hsS : st.q1.length + xs.length ≤ 140737488355328 := by omega
    have hDF : ∀ k, D k → k ∉ blk A0 ∧ k ≠ b := fun k hk => ⟨fun hx => hD k hk (by rw [HF.out]; simp [hx]), fun hx => hD k hk (by rw [HF.out]; simp [hx])⟩
    go_region_law (refine step_append_src rfl (.tmp 73) (.tmp 76) rfl Try.underlying22 hi hz0 hz1 hz2 hRA.drew hsA.drew rfl (by rfl) rfl rfl hsR ?_; intro AB cB wB hoB hkB hbB; have HB := hide ((hkB.block b hbA nb.1).trans HA.out); have gB : wB.cell? ⟨b, 0, none⟩ = some (.slice A0 st.s0.length c0) := cells_of HB.out 0; have fB : wB.frozen? ⟨b, 0, none⟩ = false := free_of HB.out 0)
    go_wp2_with fail
    refine wp_named ?_
    intro wC hwC
    have HC0 := heap_setCell_same _ b 0 _ 59 (Value.slice AB (st.s0.length + xs.length) cB) HB.out
    rw [← hwC] at HC0
    have HC := hide HC0
    have kC : Kept [b] wB wC := by rw [hwC]; exact (Kept.refl _ _).setCell _ _ (by simp)
    have hSC : Own wC A3 c3 st.q1 := (hSA.keep hkB.undrew (fun x hx hxr => (HN.out.2.1 x hxr).1 hx)).keep kC (fun x hx hxb => nb.2.1 (by simp only [List.mem_singleton] at hxb; subst hxb; exact hx))
    have hsC : Src wC D A xs := (hsA.keep hkB.undrew (fun x hx => (hDF x hx).1)).keep kC (fun x hx hxb => (hDF x hx).2 (by simpa using hxb))
    have hbC : b < wC.heap.size := Nat.lt_of_lt_of_le hbA (Nat.le_trans hkB.size kC.size)
    have HWC := hide hwC
    clear HC0 hwC gB fB HB g0 f0
    have gC : wC.cell? ⟨b, 3, none⟩ = some (.slice A3 st.q1.length c3) := cells_of HC.out 3
    have fC : wC.frozen? ⟨b, 3, none⟩ = false := free_of HC.out 3
    have hwr : IntKind.i64.wrap 1 = 1 := by decide
    go_region_law (refine step_append_src rfl (.tmp 92) (.tmp 95) rfl Try.underlying22 hi hz0 hz1 hz2 hSC.drew hsC.drew rfl (by rfl) rfl rfl hsS ?_; intro AD cD wD hoD hkD hbD; have HE := hide ((hkD.block b hbC nb.2.1).trans HC.out); have gD : wD.cell? ⟨b, 3, none⟩ = some (.slice A3 st.q1.length c3) := cells_of HE.out 3; have fD : wD.frozen? ⟨b, 3, none⟩ = false := free_of HE.out 3)
    go_wp2_with fail
    go_ret2
    obtain ⟨q1, q2, q3, q4, q5, q6, q7, q8, q9⟩ := two_appends HN.out hbl HR.out.2.1 HR.out.2.2.1 HR.out.1.lt HR.out.2.2.2.lt hkA hoB hkB.undrew hbB HWC.out hoD hkD.undrew hbD (rfl : wD.setCell ⟨b, 3, none⟩ (.slice AD (st.q1.length + xs.length) cD) = _)
    refine ⟨rfl, b :: (blk AB ++ blk A1 ++ blk A2 ++ blk AD), ⟨AB, cB, A1, c1, A2, c2, AD, cD, ?_, q1, q3, q4, q2, rfl, (nodup_iff _ _ _ _ _).2 q5.side0'⟩, q6.mono ?_, ?_⟩
    · have HH := heap_setCell_same _ b 3 _ 59 (Value.slice AD (st.q1.length + xs.length) cD) HE.out
      have hl : xs.length = xs.length := by rfl
      refine HH.trans ?_
      simp only [LS.put, LS.total, if_pos, List.length_append, hl]
      rw [hDD.out]
      simp [LS.total]
      try omega
    · intro x hx
      rw [HF.out]
      simp only [List.mem_cons, List.mem_append] at hx ⊢
      grind
    · intro x hx
      rw [HF.out]
      simp only [List.mem_cons, List.mem_append] at hx ⊢
      grind

end Go.Proofs.Ytbajpofmaffpgaa
