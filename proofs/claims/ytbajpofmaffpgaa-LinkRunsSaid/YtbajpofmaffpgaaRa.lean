/- The reference's link: its value, and its functions side, New, Total, Receive. -/
import Derived.Test.YtbajpofmaffpgaaPin
namespace Go.Proofs.Ytbajpofmaffpgaa
open Go.RowKit
set_option linter.unusedSimpArgs false
set_option linter.unusedVariables false

/-- The reference's link as a value: its slices read as the link's bytes, and lie in blocks that meet D. -/
structure RefC (w : World) (D : Nat → Prop) (st : LS) (A0 A1 A2 A3 : Option Addr) (c0 c1 c2 c3 : Nat) : Prop where
  s0 : Src w D A0 st.s0
  q0 : Src w D A1 st.q0
  s1 : Src w D A2 st.s1
  q1 : Src w D A3 st.q1

def rv (st : LS) (A0 A1 A2 A3 : Option Addr) (c0 c1 c2 c3 : Nat) : Value :=
  .agg #[.int .i64 st.budget, .int .i64 st.cut, .slice A0 st.s0.length c0, .slice A2 st.s1.length c2, .slice A1 st.q0.length c1, .slice A3 st.q1.length c3, .bool st.down]

theorem RefC.keep {w w' : World} {D : Nat → Prop} {st : LS} {A0 A1 A2 A3 : Option Addr} {c0 c1 c2 c3 : Nat} (h : RefC w D st A0 A1 A2 A3 c0 c1 c2 c3) {F : List Nat} (hk : Kept F w w') (hD : ∀ k, D k → k ∉ F) : RefC w' D st A0 A1 A2 A3 c0 c1 c2 c3 :=
  ⟨h.s0.keep hk hD, h.q0.keep hk hD, h.s1.keep hk hD, h.q1.keep hk hD⟩
theorem RefC.mono {w : World} {D D' : Nat → Prop} {st : LS} {A0 A1 A2 A3 : Option Addr} {c0 c1 c2 c3 : Nat} (h : RefC w D st A0 A1 A2 A3 c0 c1 c2 c3) (hD : ∀ k, D k → D' k) : RefC w D' st A0 A1 A2 A3 c0 c1 c2 c3 :=
  ⟨h.s0.mono hD, h.q0.mono hD, h.s1.mono hD, h.q1.mono hD⟩

def RefV (w : World) (D : Nat → Prop) (v : Value) (st : LS) : Prop :=
  ∃ A0 A1 A2 A3 c0 c1 c2 c3, v = rv st A0 A1 A2 A3 c0 c1 c2 c3 ∧ RefC w D st A0 A1 A2 A3 c0 c1 c2 c3

theorem RefV.keep {w w' : World} {D : Nat → Prop} {v : Value} {st : LS} (h : RefV w D v st) {F : List Nat} (hk : Kept F w w') (hD : ∀ k, D k → k ∉ F) : RefV w' D v st := by
  obtain ⟨A0, A1, A2, A3, c0, c1, c2, c3, e, hc⟩ := h
  exact ⟨A0, A1, A2, A3, c0, c1, c2, c3, e, hc.keep hk hD⟩
theorem RefV.mono {w : World} {D D' : Nat → Prop} {v : Value} {st : LS} (h : RefV w D v st) (hD : ∀ k, D k → D' k) : RefV w D' v st := by
  obtain ⟨A0, A1, A2, A3, c0, c1, c2, c3, e, hc⟩ := h
  exact ⟨A0, A1, A2, A3, c0, c1, c2, c3, e, hc.mono hD⟩

theorem rside_yes (n : Int) (w : World) (h : n = 0 ∨ n = 1) : Calls Try.prog 27 #[.int .i64 n] w fun e w' => e = .returned (.bool true) ∧ w = w' := by
  rcases h with rfl | rfl
  · go_enter Try.func27, Try.ntmps27
    go_wp2
    go_ret
    exact ⟨rfl, rfl⟩
  · go_enter Try.func27, Try.ntmps27
    go_wp2
    go_ret
    exact ⟨rfl, rfl⟩

theorem rside_no (n : Int) (w : World) (h0 : (n == 0) = false) (h1 : (n == 1) = false) : Calls Try.prog 27 #[.int .i64 n] w fun e w' => e = .returned (.bool false) ∧ w = w' := by
  go_enter Try.func27, Try.ntmps27
  go_wp2
  go_ret
  exact ⟨rfl, rfl⟩

def rv0 : Value := .agg #[.int .i64 0, .int .i64 0, .slice none 0 0, .slice none 0 0, .slice none 0 0, .slice none 0 0, .bool false]

theorem rnew_no (budget cut : Int) (w : World) (h : budget < 0 ∨ 1073741824 < budget) :
    Calls Try.prog 20 #[.int .i64 budget, .int .i64 cut] w fun e w' => e = .returned (.tuple #[rv0, .int .i64 1]) ∧ Kept [] w w' := by
  rcases h with h | h
  · go_enter Try.func20, Try.ntmps20
    go_wp2
    (try simp only [Exit.inBlock, Exit.then])
    refine bodyPost_ret (by simp [results, Try.results20, go_sem]; try rfl) rfl ?_
    exact ⟨rfl, (Kept.refl _ _).alloc _⟩
  · have h' : ¬ budget < 0 := by omega
    go_enter Try.func20, Try.ntmps20
    go_wp2
    (try simp only [Exit.inBlock, Exit.then])
    refine bodyPost_ret (by simp [results, Try.results20, go_sem]; try rfl) rfl ?_
    exact ⟨rfl, (Kept.refl _ _).alloc _⟩

theorem rnew_yes (budget cut : Int) (w : World) (h0 : 0 ≤ budget) (h1 : budget ≤ 1073741824) :
    Calls Try.prog 20 #[.int .i64 budget, .int .i64 cut] w fun e w' => e = .returned (.tuple #[rv (LS.new budget cut) none none none none 0 0 0 0, .int .i64 0]) ∧ Kept [] w w' := by
  have h0' : ¬ budget < 0 := by omega
  have h1' : ¬ 1073741824 < budget := by omega
  go_enter Try.func20, Try.ntmps20
  go_wp2
  (try simp only [Exit.inBlock, Exit.then])
  refine bodyPost_ret (by simp [results, Try.results20, go_sem]; try rfl) rfl ?_
  exact ⟨rfl, (Kept.refl _ _).alloc _⟩

theorem rtotal_calls (st : LS) (hok : st.Ok) (A0 A1 A2 A3 : Option Addr) (c0 c1 c2 c3 : Nat) (w : World) :
    Calls Try.prog 28 #[rv st A0 A1 A2 A3 c0 c1 c2 c3] w fun e w' => e = .returned (.int .i64 (st.total : Int)) ∧ Kept [] w w' := by
  have k0 := hok.b0
  have k1 := hok.b1
  obtain ⟨n0, hn0⟩ : ∃ n, n = st.s0.length := ⟨_, rfl⟩
  obtain ⟨n1, hn1⟩ : ∃ n, n = st.s1.length := ⟨_, rfl⟩
  have ht : st.total = n0 + n1 := by rw [hn0, hn1]; rfl
  rw [ht] at k0 ⊢
  unfold rv
  rw [← hn0, ← hn1]
  clear hn0 hn1 ht hok
  go_enter Try.func28, Try.ntmps28
  go_wp2
  go_ret
  exact ⟨by simp, (Kept.refl _ _).alloc _⟩

theorem rreceive_no {w : World} {D : Nat → Prop} {v : Value} {st : LS} (h : RefV w D v st) (k : Int) (hk0 : (k == 0) = false) (hk1 : (k == 1) = false) :
    Calls Try.prog 22 #[v, .int .i64 k] w fun e w' => e = .returned (.tuple #[v, .slice none 0 0, .int .i64 1]) ∧ Kept [] w w' := by
  obtain ⟨A0, A1, A2, A3, c0, c1, c2, c3, rfl, hc⟩ := h
  clear hc
  unfold rv
  go_enter Try.func22, Try.ntmps22
  go_wp2_with (go_at_call 27; refine (rside_no _ _ hk0 hk1).mono ?_; rintro e w' ⟨rfl, rfl⟩)
  (try simp only [Exit.inBlock, Exit.then])
  refine bodyPost_ret (by simp [results, Try.results22, go_sem]; try rfl) rfl ?_
  exact ⟨rfl, ((Kept.refl _ _).alloc _).alloc _⟩

theorem rreceive_yes {w : World} {D : Nat → Prop} {v : Value} {st : LS} (h : RefV w D v st) (k : Int) (hk : k = 0 ∨ k = 1) :
    Calls Try.prog 22 #[v, .int .i64 k] w fun e w' => ∃ v' A c, e = .returned (.tuple #[v', .slice A (st.wait k).length c, .int .i64 0]) ∧ Src w' D A (st.wait k) ∧ RefV w' D v' (st.recv k) ∧ Kept [] w w' := by
  obtain ⟨A0, A1, A2, A3, c0, c1, c2, c3, rfl, hc⟩ := h
  have HC := hide hc
  clear hc
  have fin : ∀ w', Kept [] w w' → RefC w' D st A0 A1 A2 A3 c0 c1 c2 c3 := fun w' hk => HC.out.keep hk (by simp)
  rcases hk with rfl | rfl
  · unfold rv
    go_enter Try.func22, Try.ntmps22
    go_wp2_with (go_at_call 27; refine (rside_yes _ _ (by omega)).mono ?_; rintro e w' ⟨rfl, rfl⟩)
    (try simp only [Exit.inBlock, Exit.then])
    refine bodyPost_ret (by simp [results, Try.results22, go_sem]; try rfl) rfl ?_
    have K : ∀ o1 o2, Kept [] w ((w.alloc o1).alloc o2) := fun o1 o2 => ((Kept.refl _ _).alloc _).alloc _
    refine ⟨_, A1, c1, rfl, (fin _ (K _ _)).q0, ⟨A0, none, A2, A3, c0, 0, c2, c3, rfl, ?_⟩, K _ _⟩
    have f := fin _ (K (Obj.cells #[Value.int IntKind.i64 st.budget, Value.int IntKind.i64 st.cut, Value.slice A0 st.s0.length c0, Value.slice A2 st.s1.length c2, Value.slice none 0 0, Value.slice A3 st.q1.length c3, Value.bool st.down] 46)
      (Obj.cells #[Value.int IntKind.i64 st.budget, Value.int IntKind.i64 st.cut, Value.slice A0 st.s0.length c0, Value.slice A2 st.s1.length c2, Value.slice none 0 0, Value.slice A3 st.q1.length c3, Value.bool st.down] 46))
    exact ⟨f.s0, Src.nil _ _ _, f.s1, f.q1⟩
  · unfold rv
    go_enter Try.func22, Try.ntmps22
    go_wp2_with (go_at_call 27; refine (rside_yes _ _ (by omega)).mono ?_; rintro e w' ⟨rfl, rfl⟩)
    (try simp only [Exit.inBlock, Exit.then])
    refine bodyPost_ret (by simp [results, Try.results22, go_sem]; try rfl) rfl ?_
    have K : ∀ o1 o2, Kept [] w ((w.alloc o1).alloc o2) := fun o1 o2 => ((Kept.refl _ _).alloc _).alloc _
    refine ⟨_, A3, c3, rfl, (fin _ (K _ _)).q1, ⟨A0, A1, A2, none, c0, c1, c2, 0, rfl, ?_⟩, K _ _⟩
    have f := fin _ (K (Obj.cells #[Value.int IntKind.i64 st.budget, Value.int IntKind.i64 st.cut, Value.slice A0 st.s0.length c0, Value.slice A2 st.s1.length c2, Value.slice A1 st.q0.length c1, Value.slice none 0 0, Value.bool st.down] 46)
      (Obj.cells #[Value.int IntKind.i64 st.budget, Value.int IntKind.i64 st.cut, Value.slice A0 st.s0.length c0, Value.slice A2 st.s1.length c2, Value.slice A1 st.q0.length c1, Value.slice none 0 0, Value.bool st.down] 46))
    exact ⟨f.s0, f.q0, f.s1, Src.nil _ _ _⟩

theorem rspoil_bad {w : World} {D : Nat → Prop} {v : Value} {st : LS} (h : RefV w D v st) (k n m : Int) (hk0 : (k == 0) = false) (hk1 : (k == 1) = false) :
    Calls Try.prog 23 #[v, .int .i64 k, .int .i64 n, .int .u8 m] w fun e w' => e = .returned (.tuple #[v, .int .i64 1]) ∧ Kept [] w w' := by
  obtain ⟨A0, A1, A2, A3, c0, c1, c2, c3, rfl, hc⟩ := h
  clear hc
  unfold rv
  go_enter Try.func23, Try.ntmps23
  go_wp2_with (go_at_call 27; refine (rside_no _ _ hk0 hk1).mono ?_; rintro e w' ⟨rfl, rfl⟩)
  (try simp only [Exit.inBlock, Exit.then])
  refine bodyPost_ret (by simp [results, Try.results23, go_sem]; try rfl) rfl ?_
  exact ⟨rfl, ((Kept.refl _ _).alloc _).alloc _⟩

theorem rspoil_neg {w : World} {D : Nat → Prop} {v : Value} {st : LS} (h : RefV w D v st) (k n m : Int) (hk : k = 0 ∨ k = 1) (hn : n < 0) :
    Calls Try.prog 23 #[v, .int .i64 k, .int .i64 n, .int .u8 m] w fun e w' => e = .returned (.tuple #[v, .int .i64 1]) ∧ Kept [] w w' := by
  obtain ⟨A0, A1, A2, A3, c0, c1, c2, c3, rfl, hc⟩ := h
  clear hc
  have HK := hide hk
  clear hk
  unfold rv
  go_enter Try.func23, Try.ntmps23
  go_wp2_with (go_at_call 27; refine (rside_yes _ _ HK.out).mono ?_; rintro e w' ⟨rfl, rfl⟩)
  (try simp only [Exit.inBlock, Exit.then])
  refine bodyPost_ret (by simp [results, Try.results23, go_sem]; try rfl) rfl ?_
  exact ⟨rfl, ((Kept.refl _ _).alloc _).alloc _⟩

theorem rspoil_over {w : World} {D : Nat → Prop} {v : Value} {st : LS} (h : RefV w D v st) (k n m : Int) (hk : k = 0 ∨ k = 1) (hn : ¬ n < 0) (ho : ((st.wait k).length : Int) ≤ n) :
    Calls Try.prog 23 #[v, .int .i64 k, .int .i64 n, .int .u8 m] w fun e w' => e = .returned (.tuple #[v, .int .i64 4]) ∧ Kept [] w w' := by
  obtain ⟨A0, A1, A2, A3, c0, c1, c2, c3, rfl, hc⟩ := h
  clear hc
  rcases hk with rfl | rfl
  · have ho' : (st.q0.length : Int) ≤ n := ho
    clear ho
    unfold rv
    go_enter Try.func23, Try.ntmps23
    go_wp2_with (go_at_call 27; refine (rside_yes _ _ (by omega)).mono ?_; rintro e w' ⟨rfl, rfl⟩)
    (try simp only [Exit.inBlock, Exit.then])
    refine bodyPost_ret (by simp [results, Try.results23, go_sem]; try rfl) rfl ?_
    exact ⟨rfl, ((Kept.refl _ _).alloc _).alloc _⟩
  · have ho' : (st.q1.length : Int) ≤ n := ho
    clear ho
    unfold rv
    go_enter Try.func23, Try.ntmps23
    go_wp2_with (go_at_call 27; refine (rside_yes _ _ (by omega)).mono ?_; rintro e w' ⟨rfl, rfl⟩)
    (try simp only [Exit.inBlock, Exit.then])
    refine bodyPost_ret (by simp [results, Try.results23, go_sem]; try rfl) rfl ?_
    exact ⟨rfl, ((Kept.refl _ _).alloc _).alloc _⟩

end Go.Proofs.Ytbajpofmaffpgaa
