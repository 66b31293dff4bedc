/- The law on blocks. -/
import Derived.Test.YtcnabgbfnaabjaaRef
namespace Go.Proofs.Ytcnabgbfnaabjaa
open Go.RowKit
set_option linter.unusedSimpArgs false
set_option linter.unusedVariables false

theorem kept2 {a b c : World} (h : Kept [] a b) (k : Kept [] b c) : Kept [] a c := h.trans k (by simp) (by simp)

theorem block_law (k n : ByteArray) (c : UInt32) (w : World) (hk : k.size ≤ maxLen) (hn : n.size ≤ maxLen) : Calls Try.prog 7 #[.string k, .string n, wd c] w fun e w' => e = .returned (.bool true) ∧ Kept [] w w' := by
  unfold maxLen at hk hn
  by_cases h1 : 100 < k.size
  · have h1' : (100 : Int) < (k.size : Int) := by omega
    go_enter Try.func7, Try.ntmps7
    go_wp2_with (first
      | (go_at_call 11; with_reducible refine (awake_calls w).mono ?_; rintro e w1 ⟨rfl, k1⟩)
      | (go_at_call 11; with_reducible refine (awake_calls w1).mono ?_; rintro e w2 ⟨rfl, k2⟩)
      | fail)
    go_ret
    exact ⟨rfl, kept2 k1 k2⟩
  · by_cases h2 : 100 < n.size
    · have h1' : ¬ (100 : Int) < (k.size : Int) := by omega
      have h2' : (100 : Int) < (n.size : Int) := by omega
      go_enter Try.func7, Try.ntmps7
      go_wp2_with (first
        | (go_at_call 11; with_reducible refine (awake_calls w).mono ?_; rintro e w1 ⟨rfl, k1⟩)
        | (go_at_call 11; with_reducible refine (awake_calls w1).mono ?_; rintro e w2 ⟨rfl, k2⟩)
        | fail)
      go_ret
      exact ⟨rfl, kept2 k1 k2⟩
    · have h1' : ¬ (100 : Int) < (k.size : Int) := by omega
      have h2' : ¬ (100 : Int) < (n.size : Int) := by omega
      by_cases hv : k.size = 32 ∧ n.size = 12
      · have hB := hide (Block_yes k n c hv.1 hv.2)
        have hR := hide (refBlock_yes k n c hv.1 hv.2)
        have HL := hide (blockOf_length k n c)
        generalize blockOf k n c = bo at *
        clear hv
        go_enter Try.func7, Try.ntmps7
        go_wp2_with (first
          | (go_at_call 11; with_reducible refine (awake_calls w).mono ?_; rintro e w1 ⟨rfl, k1⟩)
          | (go_at_call 13; with_reducible refine (hB.out _).mono ?_; rintro e w2 ⟨g, cp, rfl, ho2, k2, hg2, hc2⟩)
          | (go_at_call 17; with_reducible refine (hR.out _).mono ?_; rintro e w3 ⟨g', cp', rfl, ho3, k3, hg3, hc3⟩
             have cv1 : (convert 23 9 (.slice (some ⟨g, 0, none⟩) 64 cp)).run Try.prog w3 = .ok (.string (str bo)) w3 := by
               have := conv_str (ho2.keep k3 (by simp)).src cp
               rwa [HL.out] at this
             have cv2 : (convert 23 9 (.slice (some ⟨g', 0, none⟩) 64 cp')).run Try.prog w3 = .ok (.string (str bo)) w3 := by
               have := conv_str ho3.src cp'
               rwa [HL.out] at this)
          | fail)
        go_ret
        exact ⟨rfl, kept2 (kept2 k1 k2) k3⟩
      · have hB := hide (Block_no k n c hv)
        have hR := hide (refBlock_no k n c hv)
        have cv : ∀ w, (convert 23 9 (.slice none 0 0)).run Try.prog w = .ok (.string (str [])) w := fun w => conv_str (xs := []) (Src.nil w (fun _ => True) none) 0
        clear hv
        go_enter Try.func7, Try.ntmps7
        go_wp2_with (first
          | (go_at_call 11; with_reducible refine (awake_calls w).mono ?_; rintro e w1 ⟨rfl, k1⟩)
          | (go_at_call 13; with_reducible refine (hB.out _).mono ?_; rintro e w2 ⟨rfl, rfl⟩)
          | (go_at_call 17; with_reducible refine (hR.out _).mono ?_; rintro e w3 ⟨rfl, rfl⟩)
          | fail)
        go_ret
        exact ⟨rfl, k1⟩
end Go.Proofs.Ytcnabgbfnaabjaa
