/- Send from whatever side, and what a link's invariant says round for round. -/
import Derived.Test.YtbajpofmaffpgaaFew
namespace Go.Proofs.Ytbajpofmaffpgaa
open Go.RowKit
set_option linter.unusedSimpArgs false
set_option linter.unusedVariables false

def isSide (k : Int) : Bool := k == 0 || k == 1
def LS.nA (st : LS) (k : Int) (xs : List UInt8) : Nat := if isSide k then (st.arr xs).length else 0
def LS.eA (st : LS) (k : Int) (xs : List UInt8) : Int := if isSide k then st.err xs else 1
def LS.sendA (st : LS) (k : Int) (xs : List UInt8) : LS := if isSide k then st.send k xs else st

theorem isSide_yes {k : Int} (h : isSide k = true) : k = 0 ∨ k = 1 := by simpa [isSide] using h
theorem isSide_of {k : Int} (h : k = 0 ∨ k = 1) : isSide k = true := by rcases h with rfl | rfl <;> rfl
theorem isSide_no {k : Int} (h : isSide k = false) : (k == 0) = false ∧ (k == 1) = false := by simpa [isSide] using h

theorem sendA_calls {w : World} {b : Nat} {F : List Nat} {st : LS} (h : LinkAt w b F st) (hok : st.Ok) {D : Nat → Prop} (k : Int) (A : Option Addr) (xs : List UInt8) (c : Nat) (hs : Src w D A xs) (hD : ∀ k, D k → k ∉ F) (hc : xs.length ≤ c) :
    Calls Try.prog 12 #[.pointer (some ⟨b, 0, none⟩), .int .i64 k, .slice A xs.length c] w fun e w' => e = .returned (.tuple #[.int .i64 ((st.nA k xs : Nat) : Int), .int .i64 (st.eA k xs)]) ∧ Sent w b F (st.sendA k xs) w' := by
  unfold LS.nA LS.eA LS.sendA
  cases hk : isSide k with
  | true =>
    simp only [if_true]
    exact send_calls h hok k (isSide_yes hk) A xs c hs hD hc
  | false =>
    obtain ⟨h0, h1⟩ := isSide_no hk
    simp only [Bool.false_eq_true, if_false]
    refine (send_bad k _ h0 h1).mono ?_
    rintro e w' ⟨rfl, rfl⟩
    exact ⟨rfl, Sent.same h (Drawn.refl _)⟩

theorem sendA_ok {st : LS} (hok : st.Ok) (k : Int) (xs : List UInt8) : (st.sendA k xs).Ok := by
  unfold LS.sendA
  split
  · exact send_ok hok k xs
  · exact hok

theorem sendA_keeps (st : LS) (k : Int) (xs : List UInt8) : (st.sendA k xs).budget = st.budget ∧ (st.sendA k xs).cut = st.cut := by
  unfold LS.sendA
  split
  · exact send_keeps st k xs
  · exact ⟨rfl, rfl⟩

theorem send_down' (st : LS) (k : Int) (xs : List UInt8) : (st.send k xs).down = st.goes xs := by
  unfold LS.send LS.put
  split <;> rfl

/-- A link that is down has come to its cut. -/
def LS.Cut (st : LS) : Prop := st.down = true → (st.total : Int) = st.cut ∧ 0 ≤ st.cut

theorem sendA_cut {st : LS} (hok : st.Ok) (h : st.Cut) (k : Int) (xs : List UInt8) : (st.sendA k xs).Cut := by
  unfold LS.sendA
  cases hk : isSide k with
  | false => simpa using h
  | true =>
    simp only [if_true]
    intro hd
    rw [send_down'] at hd
    rw [send_total, (send_keeps st k xs).2]
    by_cases h1 : st.down = true
    · have := h h1
      simp only [LS.arr, h1, if_true, List.length_nil, Nat.add_zero]
      exact this
    · by_cases h2 : st.budget - st.total < xs.length
      · simp [LS.goes, h1, h2] at hd
      · by_cases h3 : 0 ≤ st.cut ∧ st.cut - st.total < xs.length
        · have := hok.c2 h3.1
          have e : (st.arr xs).length = (st.cut - st.total).toNat := by
            unfold LS.arr
            rw [if_neg h1, if_neg h2, if_pos h3, List.length_take]
            omega
          rw [e]
          omega
        · simp [LS.goes, h1, h2, h3] at hd

theorem sendA_stays (st : LS) (k : Int) (xs : List UInt8) (h : st.down = true) : (st.sendA k xs).down = true := by
  unfold LS.sendA
  split
  · rw [send_down']
    simp [LS.goes, h]
  · exact h

theorem sendA_err (st : LS) (k : Int) (xs : List UInt8) (h : st.eA k xs = 15) : (st.sendA k xs).down = true := by
  unfold LS.eA at h
  unfold LS.sendA
  cases hk : isSide k with
  | false => rw [hk] at h; simp at h
  | true =>
    rw [hk] at h
    simp only [if_true] at h ⊢
    rw [send_down']
    unfold LS.err at h
    unfold LS.goes
    split at h
    · simp [*]
    · split at h
      · omega
      · split at h
        · simp [*]
        · omega
end Go.Proofs.Ytbajpofmaffpgaa
