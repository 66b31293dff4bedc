/- The law on streams. -/
import Derived.Test.YtcnabgbfnaabjaaRst
namespace Go.Proofs.Ytcnabgbfnaabjaa
open Go.RowKit
set_option linter.unusedSimpArgs false
set_option linter.unusedVariables false

theorem wf64 {z : Int} (h : (Lit.int .i64 z).wf = true) : -9223372036854775808 ≤ z ∧ z ≤ 9223372036854775807 := by
  simp [Lit.wf, IntKind.min, IntKind.max, IntKind.signed, IntKind.bits] at h
  omega

set_option maxHeartbeats 1000000 in
theorem stream_out (k n : ByteArray) (o m : Int) (w : World) (hk : k.size ≤ maxLen) (hn : n.size ≤ maxLen) (h : 100 < k.size ∨ 100 < n.size ∨ (400 < m ∧ m ≤ 1048576)) :
    Calls Try.prog 10 #[.string k, .string n, .int .i64 o, .int .i64 m] w fun e w' => e = .returned (.bool true) ∧ Kept [] w w' := by
  unfold maxLen at hk hn
  by_cases h1 : 100 < k.size
  · have h1' : (100 : Int) < (k.size : Int) := by omega
    clear h
    go_enter Try.func10, Try.ntmps10
    go_wp2_with (first
      | (go_at_call 11; with_reducible refine (awake_calls w).mono ?_; rintro e w1 ⟨rfl, k1⟩)
      | (go_at_call 11; with_reducible refine (awake_calls w1).mono ?_; rintro e w2 ⟨rfl, k2⟩)
      | fail)
    go_ret
    exact ⟨rfl, keptT k1 k2⟩
  have h1' : ¬ (100 : Int) < (k.size : Int) := by omega
  by_cases h2 : 100 < n.size
  · have h2' : (100 : Int) < (n.size : Int) := by omega
    clear h
    go_enter Try.func10, Try.ntmps10
    go_wp2_with (first
      | (go_at_call 11; with_reducible refine (awake_calls w).mono ?_; rintro e w1 ⟨rfl, k1⟩)
      | (go_at_call 11; with_reducible refine (awake_calls w1).mono ?_; rintro e w2 ⟨rfl, k2⟩)
      | fail)
    go_ret
    exact ⟨rfl, keptT k1 k2⟩
  have h2' : ¬ (100 : Int) < (n.size : Int) := by omega
  obtain ⟨h3, h4⟩ : 400 < m ∧ m ≤ 1048576 := (h.resolve_left h1).resolve_left h2
  clear h
  go_enter Try.func10, Try.ntmps10
  go_wp2_with (first
    | (go_at_call 11; with_reducible refine (awake_calls w).mono ?_; rintro e w1 ⟨rfl, k1⟩)
    | (go_at_call 11; with_reducible refine (awake_calls w1).mono ?_; rintro e w2 ⟨rfl, k2⟩)
    | fail)
  go_ret
  exact ⟨rfl, keptT k1 k2⟩

set_option maxHeartbeats 1000000 in
/-- Both refuse alike. -/
theorem stream_err (k n : ByteArray) (o m v : Int) (w : World) (h1 : ¬ 100 < k.size) (h2 : ¬ 100 < n.size) (h3 : ¬ (400 < m ∧ m ≤ 1048576))
    (S1 : Hid (∀ w, Calls Try.prog 12 #[.string k, .string n, .int .i64 o, .int .i64 m] w fun e w' => e = .returned (.tuple #[.slice none 0 0, .int .i64 v]) ∧ w = w'))
    (S2 : Hid (∀ w, Calls Try.prog 20 #[.string k, .string n, .int .i64 o, .int .i64 m] w fun e w' => e = .returned (.tuple #[.slice none 0 0, .int .i64 v]) ∧ w = w')) :
    Calls Try.prog 10 #[.string k, .string n, .int .i64 o, .int .i64 m] w fun e w' => e = .returned (.bool true) ∧ Kept [] w w' := by
  have h1' : ¬ (100 : Int) < (k.size : Int) := by omega
  have h2' : ¬ (100 : Int) < (n.size : Int) := by omega
  have cv : ∀ w, (convert 23 9 (.slice none 0 0)).run Try.prog w = .ok (.string (str [])) w := fun w => conv_str (xs := []) (Src.nil w (fun _ => True) none) 0
  by_cases h4 : 400 < m
  · have h5 : ¬ m ≤ 1048576 := by omega
    clear h3
    go_enter Try.func10, Try.ntmps10
    go_wp2_with (first
      | (go_at_call 11; with_reducible refine (awake_calls w).mono ?_; rintro e w1 ⟨rfl, k1⟩)
      | (go_at_call 12; with_reducible refine (S1.out w1).mono ?_; rintro e w2 ⟨rfl, rfl⟩)
      | (go_at_call 20; with_reducible refine (S2.out w1).mono ?_; rintro e w3 ⟨rfl, rfl⟩)
      | fail)
    go_ret
    exact ⟨rfl, k1⟩
  · clear h3
    go_enter Try.func10, Try.ntmps10
    go_wp2_with (first
      | (go_at_call 11; with_reducible refine (awake_calls w).mono ?_; rintro e w1 ⟨rfl, k1⟩)
      | (go_at_call 12; with_reducible refine (S1.out w1).mono ?_; rintro e w2 ⟨rfl, rfl⟩)
      | (go_at_call 20; with_reducible refine (S2.out w1).mono ?_; rintro e w3 ⟨rfl, rfl⟩)
      | fail)
    go_ret
    exact ⟨rfl, k1⟩

set_option maxHeartbeats 1000000 in
theorem stream_in (k n : ByteArray) (o m : Nat) (w : World) (hv : k.size = 32 ∧ n.size = 12) (hm : m ≤ 400) (ho : o + m ≤ 274877906944) :
    Calls Try.prog 10 #[.string k, .string n, .int .i64 (o : Int), .int .i64 (m : Int)] w fun e w' => e = .returned (.bool true) ∧ Kept [] w w' := by
  have S1 := hide (stream_yes k n hv.1 hv.2 o m (by omega) (by omega))
  have S2 := hide (refstream_yes k n hv.1 hv.2 o m (by omega) (by omega))
  have h1' : ¬ (100 : Int) < (k.size : Int) := by omega
  have h2' : ¬ (100 : Int) < (n.size : Int) := by omega
  have h3' : ¬ (400 : Int) < (m : Int) := by omega
  clear hv
  go_enter Try.func10, Try.ntmps10
  go_wp2_with (first
    | (go_at_call 11; with_reducible refine (awake_calls w).mono ?_; rintro e w1 ⟨rfl, k1⟩)
    | (go_at_call 12; with_reducible refine (S1.out w1).mono ?_; rintro e w2 ⟨A2, c2, rfl, s2, k2⟩)
    | (go_at_call 20; with_reducible refine (S2.out w2).mono ?_; rintro e w3 ⟨A3, c3, rfl, s3, k3⟩
       have cv1 := src_conv (c := c2) s2 k3 (seg_length _ _ _)
       have cv2 := src_conv (c := c3) s3 (Kept.refl [] _) (seg_length _ _ _))
    | fail)
  go_ret
  exact ⟨rfl, keptT (keptT k1 k2) k3⟩

theorem stream_law (k n : ByteArray) (o m : Int) (w : World) (hk : k.size ≤ maxLen) (hn : n.size ≤ maxLen) (wm : (Lit.int .i64 m).wf = true) :
    Calls Try.prog 10 #[.string k, .string n, .int .i64 o, .int .i64 m] w fun e w' => e = .returned (.bool true) ∧ Kept [] w w' := by
  have hm := wf64 wm
  by_cases h : 100 < k.size ∨ 100 < n.size ∨ (400 < m ∧ m ≤ 1048576)
  · exact stream_out k n o m w hk hn h
  · have h1 : ¬ 100 < k.size := fun h' => h (.inl h')
    have h2 : ¬ 100 < n.size := fun h' => h (.inr (.inl h'))
    have h3 : ¬ (400 < m ∧ m ≤ 1048576) := fun h' => h (.inr (.inr h'))
    by_cases e1 : ¬ (k.size = 32 ∧ n.size = 12) ∨ o < 0 ∨ m < 0
    · exact stream_err k n o m 1 w h1 h2 h3 (fun w => stream_one k n o m w e1) (fun w => refstream_one k n o m w e1)
    · have hv : k.size = 32 ∧ n.size = 12 := Classical.not_not.1 (fun h' => e1 (.inl h'))
      have o0 : 0 ≤ o := by omega
      have m0 : 0 ≤ m := by omega
      by_cases e2 : 1048576 < m ∨ 274877906944 - m < o
      · exact stream_err k n o m 2 w h1 h2 h3 (fun w => stream_two k n o m w hv o0 m0 hm.2 e2) (fun w => refstream_two k n o m w hv o0 m0 hm.2 e2)
      · obtain ⟨o', rfl⟩ := Int.eq_ofNat_of_zero_le o0
        obtain ⟨m', rfl⟩ := Int.eq_ofNat_of_zero_le m0
        exact stream_in k n o' m' w hv (by omega) (by omega)
end Go.Proofs.Ytcnabgbfnaabjaa
