/- Send from either side, in one contract; what a Send keeps of the link's bounds. -/
import Derived.Test.YtbajpofmaffpgaaLinkE
namespace Go.Proofs.Ytbajpofmaffpgaa
open Go.RowKit
set_option linter.unusedSimpArgs false
set_option linter.unusedVariables false

theorem Sent.same {w w' : World} {b : Nat} {F : List Nat} {st : LS} (h : LinkAt w b F st) (hd : Drawn w w') : Sent w b F st w' :=
  ⟨F, h.keep (hd.kept []) (by simp), hd.kept F, fun x hx => .inl hx⟩

theorem put_nil (st : LS) (k : Int) : st.put k [] st.down = st := by
  unfold LS.put
  split <;> simp

theorem send_calls {w : World} {b : Nat} {F : List Nat} {st : LS} (h : LinkAt w b F st) (hok : st.Ok) {D : Nat → Prop} (k : Int) (hk : k = 0 ∨ k = 1) (A : Option Addr) (xs : List UInt8) (c : Nat) (hs : Src w D A xs) (hD : ∀ k, D k → k ∉ F)
    (hc : xs.length ≤ c) :
    Calls Try.prog 12 #[.pointer (some ⟨b, 0, none⟩), .int .i64 k, .slice A xs.length c] w fun e w' => e = .returned (.tuple #[.int .i64 ((st.arr xs).length : Int), .int .i64 (st.err xs)]) ∧ Sent w b F (st.send k xs) w' := by
  unfold LS.send LS.arr LS.err LS.goes
  by_cases hd : st.down = true
  · simp only [hd, if_pos]
    refine (send_down h k _ hk hd).mono ?_
    rintro e w' ⟨rfl, rfl⟩
    refine ⟨rfl, ?_⟩
    have := put_nil st k
    rw [hd] at this
    rw [this]
    exact Sent.same h (Drawn.refl _)
  · have hd' : st.down = false := by simpa using hd
    simp only [hd', Bool.false_eq_true, if_false]
    by_cases hf : st.budget - st.total < xs.length
    · simp only [hf, if_pos]
      refine (send_full h hok k A xs.length c hk hd' hf).mono ?_
      rintro e w' ⟨rfl, hw⟩
      refine ⟨rfl, ?_⟩
      have := put_nil st k
      rw [hd'] at this
      rw [this]
      exact Sent.same h hw
    · simp only [hf, if_false]
      by_cases hcut : 0 ≤ st.cut ∧ st.cut - st.total < xs.length
      · simp only [hcut, and_self, if_true, decide_true]
        obtain ⟨m, hm⟩ := Int.eq_ofNat_of_zero_le (show 0 ≤ st.cut - st.total by have := hok.c2 hcut.1; omega)
        have hml : m < xs.length := by omega
        have e1 : (xs.take (st.cut - st.total).toNat).length = m := by rw [hm]; simp; omega
        have e2 : xs.take (st.cut - st.total).toNat = xs.take m := by rw [hm]; rfl
        rw [e1, e2]
        rcases hk with rfl | rfl
        · exact send_cut0 h hok A xs c m hs hD hc hd' hf hcut.1 hm hml
        · exact send_cut1 h hok A xs c m hs hD hc hd' hf hcut.1 hm hml
      · have hcut' : st.cut < 0 ∨ (0 ≤ st.cut ∧ (xs.length : Int) ≤ st.cut - st.total) := by omega
        simp only [hcut, if_false, decide_false]
        rcases hk with rfl | rfl
        · exact send_all0 h hok A xs c hs hD hc hd' hf hcut'
        · exact send_all1 h hok A xs c hs hD hc hd' hf hcut'

theorem arr_le (st : LS) (xs : List UInt8) : (st.arr xs).length ≤ xs.length := by
  unfold LS.arr
  split
  · simp
  · split
    · simp
    · split
      · simp; omega
      · simp

theorem arr_budget {st : LS} (hok : st.Ok) (xs : List UInt8) : (st.total : Int) + (st.arr xs).length ≤ st.budget := by
  have := hok.b0
  have := arr_le st xs
  by_cases h1 : st.down = true
  · simp [LS.arr, h1]; omega
  · by_cases h2 : st.budget - st.total < xs.length
    · simp [LS.arr, h1, h2]; omega
    · omega

theorem arr_cut {st : LS} (hok : st.Ok) (xs : List UInt8) (hc : 0 ≤ st.cut) : (st.total : Int) + (st.arr xs).length ≤ st.cut := by
  have := hok.c2 hc
  by_cases h1 : st.down = true
  · simp [LS.arr, h1]; omega
  · by_cases h2 : st.budget - st.total < xs.length
    · simp [LS.arr, h1, h2]; omega
    · by_cases h3 : 0 ≤ st.cut ∧ st.cut - st.total < xs.length
      · simp only [LS.arr, h1, h2, h3, and_self, if_true, if_false, Bool.false_eq_true, List.length_take]; omega
      · simp only [LS.arr, h1, h2, h3, if_false, Bool.false_eq_true]; omega

theorem send_total (st : LS) (k : Int) (xs : List UInt8) : (st.send k xs).total = st.total + (st.arr xs).length := by
  unfold LS.send LS.put LS.total
  split <;> simp <;> omega

theorem send_keeps (st : LS) (k : Int) (xs : List UInt8) : (st.send k xs).budget = st.budget ∧ (st.send k xs).cut = st.cut := by
  unfold LS.send LS.put
  split <;> exact ⟨rfl, rfl⟩

theorem send_ok {st : LS} (hok : st.Ok) (k : Int) (xs : List UInt8) : (st.send k xs).Ok := by
  obtain ⟨e1, e2⟩ := send_keeps st k xs
  have e3 := send_total st k xs
  refine ⟨?_, ?_, ?_, ?_, ?_, ?_, ?_⟩
  · rw [e3, e1]; have := arr_budget hok xs; omega
  · rw [e1]; exact hok.b1
  · rw [e2]; exact hok.c0
  · rw [e2]; exact hok.c1
  · rw [e2, e3]; intro h; have := arr_cut hok xs h; omega
  · have := hok.q0
    unfold LS.send LS.put
    split <;> simp <;> omega
  · have := hok.q1
    unfold LS.send LS.put
    split <;> simp <;> omega
end Go.Proofs.Ytbajpofmaffpgaa
