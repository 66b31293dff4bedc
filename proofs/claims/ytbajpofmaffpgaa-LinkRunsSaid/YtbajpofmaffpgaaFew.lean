/- few: whether calls are few. -/
import Derived.Test.YtbajpofmaffpgaaOps
namespace Go.Proofs.Ytbajpofmaffpgaa
open Go.RowKit
set_option linter.unusedSimpArgs false
set_option linter.unusedVariables false

/-- The bytes of the calls together. -/
def tot (L : List OpD) : Nat := (L.map fun d => d.X.length).sum

/-- More than 25 calls: not few, whatever the loop has added up. -/
theorem few_many (b o : Nat) (L : List OpD) (c : Nat) (w : World) (B : Nat) (h : OpsAt w B (some ⟨b, o, none⟩) L) (hL : 25 < L.length) (hm : L.length ≤ 9223372036854775807) :
    Calls Try.prog 16 #[.slice (some ⟨b, o, none⟩) L.length c] w fun e w' => e = .returned (.bool false) ∧ w = w' := by
  have HO := hide h
  have hl : ¬ (L.length : Int) ≤ 25 := by omega
  clear h
  go_enter Try.func16, Try.ntmps16
  go_wp2_with fail
  go_loop [3, 4] (fun t i => ∃ (k : Nat) (n : Int), k ≤ L.length ∧ i = .int .i64 k ∧ t = .int .i64 n) (fun _ i => L.length - (intOf i).toNat)
  case atStart => exact ⟨0, 0, Nat.zero_le _, rfl, rfl⟩
  case round =>
    obtain ⟨k, n, hk, rfl, rfl⟩ := hrel
    by_cases hlt : k < L.length
    · obtain ⟨A, cc, hat⟩ := HO.out.op hlt
      have cX := hat.X
      clear hat
      go_wp2_with fail
      go_round
      case rel => exact ⟨k + 1, _, by omega, by go_num, rfl⟩
      case measure => simp [intOf]; omega
    · go_wp2_with fail
      go_ret
      exact ⟨rfl, rfl⟩

theorem tot_take {L : List OpD} {k : Nat} (hk : k < L.length) : tot (L.take (k + 1)) = tot (L.take k) + L[k].X.length := by
  unfold tot
  rw [List.take_succ_eq_append_getElem hk]
  simp only [List.map_append, List.sum_append, List.map_cons, List.map_nil, List.sum_cons, List.sum_nil, Nat.add_zero]

theorem tot_take_le {L : List OpD} (hX : ∀ i (hi : i < L.length), L[i].X.length ≤ 140737488351232) : ∀ k, k ≤ L.length → tot (L.take k) ≤ k * 140737488351232 := by
  intro k
  induction k with
  | zero => intro _; simp [tot]
  | succ k ih =>
    intro hk
    have h1 := ih (by omega)
    have h2 := hX k (by omega)
    rw [tot_take (by omega)]
    omega

theorem few_some (b o : Nat) (L : List OpD) (c : Nat) (w : World) (B : Nat) (h : OpsAt w B (some ⟨b, o, none⟩) L) (hL : L.length ≤ 25) (hX : ∀ i (hi : i < L.length), L[i].X.length ≤ 140737488351232) :
    Calls Try.prog 16 #[.slice (some ⟨b, o, none⟩) L.length c] w fun e w' => e = .returned (.bool (decide ((tot L : Int) ≤ 300))) ∧ w = w' := by
  have HO := hide h
  have HX := hide hX
  have hl : (L.length : Int) ≤ 25 := by omega
  clear h hX
  go_enter Try.func16, Try.ntmps16
  go_wp2_with fail
  go_loop [3, 4] (fun t i => ∃ (k : Nat), k ≤ L.length ∧ i = .int .i64 k ∧ t = .int .i64 (tot (L.take k) : Int)) (fun _ i => L.length - (intOf i).toNat)
  case atStart => exact ⟨0, Nat.zero_le _, rfl, rfl⟩
  case round =>
    obtain ⟨k, hk, rfl, rfl⟩ := hrel
    have hle := tot_take_le HX.out k hk
    have hle2 : tot (L.take k) ≤ 3518437208780800 := by omega
    clear hle
    by_cases hlt : k < L.length
    · obtain ⟨A, cc, hat⟩ := HO.out.op hlt
      have cX := hat.X
      have hXk := HX.out k hlt
      have HT := hide (tot_take hlt)
      clear hat
      go_wp2_with fail
      go_round
      case rel => exact ⟨k + 1, by omega, by go_num, by rw [HT.out]; go_num⟩
      case measure => simp [intOf]; omega
    · have hkx : L.take k = L := List.take_of_length_le (by omega)
      have HK := hide hkx
      clear hkx
      by_cases h300 : (tot (L.take k) : Int) ≤ 300
      · have hd : decide ((tot L : Int) ≤ 300) = true := by rw [← HK.out]; simpa using h300
        have HD := hide hd
        clear hd
        go_wp2_with fail
        go_ret
        refine ⟨?_, rfl⟩
        rw [HD.out]
        simp
      · have hd : decide ((tot L : Int) ≤ 300) = false := by rw [← HK.out]; simpa using h300
        have HD := hide hd
        clear hd
        go_wp2_with fail
        go_ret
        refine ⟨?_, rfl⟩
        rw [HD.out]
        simp

theorem few_none (A : Option Addr) (c : Nat) (w : World) :
    Calls Try.prog 16 #[.slice A 0 c] w fun e w' => e = .returned (.bool true) ∧ w = w' := by
  go_enter Try.func16, Try.ntmps16
  go_wp2_with fail
  refine wp_loop_rounds 1 ?_
  rw [rounds_succ]
  go_wp2_with fail
  go_ret
  exact ⟨rfl, rfl⟩

/-- Whether the calls are few, as a Bool. -/
def fewB (L : List OpD) : Bool := decide (L.length ≤ 25) && decide ((tot L : Int) ≤ 300)

theorem few_calls (a : Option Addr) (L : List OpD) (c : Nat) (w : World) (B : Nat) (h : OpsAt w B a L) (hm : L.length ≤ 9223372036854775807) (hX : ∀ i (hi : i < L.length), L[i].X.length ≤ 140737488351232) :
    Calls Try.prog 16 #[.slice a L.length c] w fun e w' => e = .returned (.bool (fewB L)) ∧ w = w' := by
  by_cases h0 : L.length = 0
  · obtain rfl : L = [] := List.eq_nil_of_length_eq_zero h0
    exact few_none a c w
  · obtain ⟨b, o, rfl, _⟩ := h (by omega)
    by_cases h25 : L.length ≤ 25
    · have := few_some b o L c w B h h25 hX
      unfold fewB
      rw [decide_eq_true h25, Bool.true_and]
      exact this
    · have := few_many b o L c w B h (by omega) hm
      unfold fewB
      rw [decide_eq_false h25, Bool.false_and]
      exact this

theorem few_yes {L : List OpD} (h : fewB L = true) : L.length ≤ 25 ∧ tot L ≤ 300 := by
  unfold fewB at h
  simp at h
  omega
end Go.Proofs.Ytbajpofmaffpgaa
