/- The law that a block is an aligned stretch of the stream, and the law that a stretch may be had in parts. -/
import Derived.Test.YtcnabgbfnaabjaaStr
namespace Go.Proofs.Ytcnabgbfnaabjaa
open Go.RowKit
set_option linter.unusedSimpArgs false
set_option linter.unusedVariables false

theorem word_of32 (a : Int) (h : (Lit.int .u32 a).wf = true) : ∃ x : UInt32, a = (x.toNat : Int) := by
  simp [Lit.wf, IntKind.min, IntKind.max, IntKind.signed, IntKind.bits] at h
  refine ⟨UInt32.ofNat a.toNat, ?_⟩
  have e : (UInt32.ofNat a.toNat).toNat = a.toNat % 4294967296 := by simp
  rw [e]
  omega

theorem keptT {a b c : World} (h : Kept [] a b) (k : Kept [] b c) : Kept [] a c := h.trans k (by simp) (by simp)

theorem src_conv {w w' : World} {D : Nat → Prop} {A : Option Addr} {xs : List UInt8} {n c : Nat} (h : Src w D A xs) (hk : Kept [] w w') (hn : xs.length = n) : (convert 23 9 (.slice A n c)).run Try.prog w' = .ok (.string (str xs)) w' := by
  have := conv_str (h.keep hk (by simp)) c
  rwa [hn] at this

theorem aligned_law (k n : ByteArray) (c : UInt32) (w : World) (hk : k.size ≤ maxLen) (hn : n.size ≤ maxLen) : Calls Try.prog 4 #[.string k, .string n, wd c] w fun e w' => e = .returned (.bool true) ∧ Kept [] w w' := by
  unfold maxLen at hk hn
  by_cases h1 : 100 < k.size
  · have h1' : (100 : Int) < (k.size : Int) := by omega
    go_enter Try.func4, Try.ntmps4
    go_wp2_with (first
      | (go_at_call 11; with_reducible refine (awake_calls w).mono ?_; rintro e w1 ⟨rfl, k1⟩)
      | (go_at_call 11; with_reducible refine (awake_calls w1).mono ?_; rintro e w2 ⟨rfl, k2⟩)
      | fail)
    go_ret
    exact ⟨rfl, keptT k1 k2⟩
  · by_cases h2 : 100 < n.size
    · have h1' : ¬ (100 : Int) < (k.size : Int) := by omega
      have h2' : (100 : Int) < (n.size : Int) := by omega
      go_enter Try.func4, Try.ntmps4
      go_wp2_with (first
        | (go_at_call 11; with_reducible refine (awake_calls w).mono ?_; rintro e w1 ⟨rfl, k1⟩)
        | (go_at_call 11; with_reducible refine (awake_calls w1).mono ?_; rintro e w2 ⟨rfl, k2⟩)
        | fail)
      go_ret
      exact ⟨rfl, keptT k1 k2⟩
    · have h1' : ¬ (100 : Int) < (k.size : Int) := by omega
      have h2' : ¬ (100 : Int) < (n.size : Int) := by omega
      have hc := UInt32.toNat_lt c
      obtain ⟨o, ho⟩ : ∃ o, o = 64 * c.toNat := ⟨_, rfl⟩
      have ho' : (c.toNat : Int) * 64 = (o : Int) := by omega
      by_cases hv : k.size = 32 ∧ n.size = 12
      · have hB := hide (Block_yes k n c hv.1 hv.2)
        have hS : Hid (∀ w, Calls Try.prog 12 #[.string k, .string n, .int .i64 (o : Int), .int .i64 64] w fun e w' => ∃ A c, e = .returned (.tuple #[.slice A 64 c, .int .i64 0]) ∧ Src w' (w.heap.size ≤ ·) A (seg (sb k n) o 64) ∧ Kept [] w w') :=
          stream_yes k n hv.1 hv.2 o 64 (by omega) (by omega)
        have HE : Hid (seg (sb k n) o 64 = blockOf k n c) := by
          show seg (sb k n) o 64 = _
          rw [ho, seg_block, UInt32.ofNat_toNat]
        have HL := hide (blockOf_length k n c)
        clear hv ho
        go_enter Try.func4, Try.ntmps4
        go_wp2_with (first
          | (go_at_call 11; with_reducible refine (awake_calls w).mono ?_; rintro e w1 ⟨rfl, k1⟩)
          | (go_at_call 13; with_reducible refine (hB.out _).mono ?_; rintro e w2 ⟨g, cp, rfl, ho2, k2, hg2, hc2⟩)
          | (go_at_call 12; with_reducible refine (hS.out _).mono ?_; rintro e w3 ⟨A, c3, rfl, hs3, k3⟩
             have cv1 : (convert 23 9 (.slice (some ⟨g, 0, none⟩) 64 cp)).run Try.prog w3 = .ok (.string (str (blockOf k n c))) w3 := src_conv ho2.src k3 HL.out
             have cv2 : (convert 23 9 (.slice A 64 c3)).run Try.prog w3 = .ok (.string (str (blockOf k n c))) w3 := by
               have := src_conv (c := c3) hs3 (Kept.refl [] _) (seg_length _ _ _)
               rwa [HE.out] at this)
          | fail)
        go_ret
        exact ⟨rfl, keptT (keptT k1 k2) k3⟩
      · have hB := hide (Block_no k n c hv)
        have hS := hide (fun w => stream_one k n o 64 w (.inl hv))
        have cv : ∀ w, (convert 23 9 (.slice none 0 0)).run Try.prog w = .ok (.string (str [])) w := fun w => conv_str (xs := []) (Src.nil w (fun _ => True) none) 0
        clear hv ho
        go_enter Try.func4, Try.ntmps4
        go_wp2_with (first
          | (go_at_call 11; with_reducible refine (awake_calls w).mono ?_; rintro e w1 ⟨rfl, k1⟩)
          | (go_at_call 13; with_reducible refine (hB.out _).mono ?_; rintro e w2 ⟨rfl, rfl⟩)
          | (go_at_call 12; with_reducible refine (hS.out _).mono ?_; rintro e w3 ⟨rfl, rfl⟩)
          | fail)
        go_ret
        exact ⟨rfl, k1⟩
end Go.Proofs.Ytcnabgbfnaabjaa
