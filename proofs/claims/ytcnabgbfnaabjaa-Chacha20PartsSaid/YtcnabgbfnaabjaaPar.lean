/- The law that a stretch of the stream may be had in parts. -/
import Derived.Test.YtcnabgbfnaabjaaAli
namespace Go.Proofs.Ytcnabgbfnaabjaa
open Go.RowKit
set_option linter.unusedSimpArgs false
set_option linter.unusedVariables false

theorem str_add (xs ys : List UInt8) : str xs ++ str ys = str (xs ++ ys) := by
  apply ByteArray.ext
  simp [str]

theorem str_size (xs : List UInt8) : (str xs).size = xs.length := by
  show xs.toArray.size = _
  simp

theorem wf_i64 {z : Int} (h : (Lit.int .i64 z).wf = true) : -9223372036854775808 ≤ z ∧ z ≤ 9223372036854775807 := by
  simp [Lit.wf, IntKind.min, IntKind.max, IntKind.signed, IntKind.bits] at h
  omega

set_option maxHeartbeats 1000000 in
theorem parts_out (k n : ByteArray) (o a b : Int) (w : World) (ho : -9223372036854775808 ≤ o ∧ o ≤ 9223372036854775807) (h : a < 0 ∨ b < 0 ∨ 400 < a ∨ 400 < b ∨ o < 0 ∨ 274877906944 < o) :
    Calls Try.prog 3 #[.string k, .string n, .int .i64 o, .int .i64 a, .int .i64 b] w fun e w' => e = .returned (.bool true) ∧ Kept [] w w' := by
  have go : ∀ (P : Prop), P → P := fun _ h => h
  by_cases h1 : a < 0
  · go_enter Try.func3, Try.ntmps3
    go_wp2_with (first
      | (go_at_call 11; with_reducible refine (awake_calls w).mono ?_; rintro e w1 ⟨rfl, k1⟩)
      | (go_at_call 11; with_reducible refine (awake_calls w1).mono ?_; rintro e w2 ⟨rfl, k2⟩)
      | fail)
    go_ret
    exact ⟨rfl, keptT k1 k2⟩
  by_cases h2 : b < 0
  · go_enter Try.func3, Try.ntmps3
    go_wp2_with (first
      | (go_at_call 11; with_reducible refine (awake_calls w).mono ?_; rintro e w1 ⟨rfl, k1⟩)
      | (go_at_call 11; with_reducible refine (awake_calls w1).mono ?_; rintro e w2 ⟨rfl, k2⟩)
      | fail)
    go_ret
    exact ⟨rfl, keptT k1 k2⟩
  by_cases h3 : 400 < a
  · go_enter Try.func3, Try.ntmps3
    go_wp2_with (first
      | (go_at_call 11; with_reducible refine (awake_calls w).mono ?_; rintro e w1 ⟨rfl, k1⟩)
      | (go_at_call 11; with_reducible refine (awake_calls w1).mono ?_; rintro e w2 ⟨rfl, k2⟩)
      | fail)
    go_ret
    exact ⟨rfl, keptT k1 k2⟩
  by_cases h4 : 400 < b
  · go_enter Try.func3, Try.ntmps3
    go_wp2_with (first
      | (go_at_call 11; with_reducible refine (awake_calls w).mono ?_; rintro e w1 ⟨rfl, k1⟩)
      | (go_at_call 11; with_reducible refine (awake_calls w1).mono ?_; rintro e w2 ⟨rfl, k2⟩)
      | fail)
    go_ret
    exact ⟨rfl, keptT k1 k2⟩
  by_cases h5 : o < 0
  · go_enter Try.func3, Try.ntmps3
    go_wp2_with (first
      | (go_at_call 11; with_reducible refine (awake_calls w).mono ?_; rintro e w1 ⟨rfl, k1⟩)
      | (go_at_call 11; with_reducible refine (awake_calls w1).mono ?_; rintro e w2 ⟨rfl, k2⟩)
      | fail)
    go_ret
    exact ⟨rfl, keptT k1 k2⟩
  have h6 : 274877906944 < o := by omega
  clear h
  go_enter Try.func3, Try.ntmps3
  go_wp2_with (first
    | (go_at_call 11; with_reducible refine (awake_calls w).mono ?_; rintro e w1 ⟨rfl, k1⟩)
    | (go_at_call 11; with_reducible refine (awake_calls w1).mono ?_; rintro e w2 ⟨rfl, k2⟩)
    | fail)
  go_ret
  exact ⟨rfl, keptT k1 k2⟩

set_option maxHeartbeats 2000000 in
theorem parts_in (k n : ByteArray) (o a b : Nat) (w : World) (ha : a ≤ 400) (hb : b ≤ 400) (ho : o ≤ 274877906944) :
    Calls Try.prog 3 #[.string k, .string n, .int .i64 (o : Int), .int .i64 (a : Int), .int .i64 (b : Int)] w fun e w' => e = .returned (.bool true) ∧ Kept [] w w' := by
  have a1 : ¬ (400 : Int) < (a : Int) := by omega
  have b1 : ¬ (400 : Int) < (b : Int) := by omega
  have o1 : ¬ (274877906944 : Int) < (o : Int) := by omega
  have a2 : ¬ (a : Int) < 0 := by omega
  have b2 : ¬ (b : Int) < 0 := by omega
  have o2 : ¬ (o : Int) < 0 := by omega
  obtain ⟨p, hp⟩ : ∃ p, p = o + a := ⟨_, rfl⟩
  obtain ⟨s, hs⟩ : ∃ s, s = a + b := ⟨_, rfl⟩
  have hp' : (o : Int) + (a : Int) = (p : Int) := by omega
  have hs' : (a : Int) + (b : Int) = (s : Int) := by omega
  by_cases hv : k.size = 32 ∧ n.size = 12
  · by_cases hall : o + s ≤ 274877906944
    · have S1 := hide (stream_yes k n hv.1 hv.2 o a (by omega) (by omega))
      have S2 := hide (stream_yes k n hv.1 hv.2 p b (by omega) (by omega))
      have S3 := hide (stream_yes k n hv.1 hv.2 o s (by omega) (by omega))
      have HE : Hid (str (seg (sb k n) o a) ++ str (seg (sb k n) p b) = str (seg (sb k n) o s)) := by
        show str _ ++ str _ = _
        rw [str_add, hp, ← seg_add, hs]
      have HSZ : Hid (¬ 9223372036854775807 < (str (seg (sb k n) o a)).size + (str (seg (sb k n) p b)).size) := by
        show ¬ _ < _
        rw [str_size, str_size, seg_length, seg_length]; omega
      clear hv hp hs hall
      go_enter Try.func3, Try.ntmps3
      go_wp2_with (first
        | (go_at_call 11; with_reducible refine (awake_calls w).mono ?_; rintro e w1 ⟨rfl, k1⟩)
        | (go_at_call 12; with_reducible refine (S1.out w1).mono ?_; rintro e w2 ⟨A2, c2, rfl, s2, k2⟩)
        | (go_at_call 12; with_reducible refine (S2.out w2).mono ?_; rintro e w3 ⟨A3, c3, rfl, s3, k3⟩)
        | (go_at_call 12; with_reducible refine (S3.out w3).mono ?_; rintro e w4 ⟨A4, c4, rfl, s4, k4⟩
           have cv1 := src_conv (c := c2) s2 (keptT k3 k4) (seg_length _ _ _)
           have cv2 := src_conv (c := c3) s3 k4 (seg_length _ _ _)
           have cv3 := src_conv (c := c4) s4 (Kept.refl [] _) (seg_length _ _ _)
           have he := HE.out
           have hsz := HSZ.out)
        | fail)
      go_ret
      exact ⟨rfl, keptT (keptT (keptT k1 k2) k3) k4⟩
    · have S2 := hide (fun w => stream_two k n p b w hv (by omega) (by omega) (by omega) (.inr (by omega)))
      have S3 := hide (fun w => stream_two k n o s w hv (by omega) (by omega) (by omega) (.inr (by omega)))
      by_cases h1 : o + a ≤ 274877906944
      · have S1 := hide (stream_yes k n hv.1 hv.2 o a (by omega) (by omega))
        clear hv hp hs hall h1
        go_enter Try.func3, Try.ntmps3
        go_wp2_with (first
          | (go_at_call 11; with_reducible refine (awake_calls w).mono ?_; rintro e w1 ⟨rfl, k1⟩)
          | (go_at_call 12; with_reducible refine (S1.out w1).mono ?_; rintro e w2 ⟨A2, c2, rfl, s2, k2⟩)
          | (go_at_call 12; with_reducible refine (S2.out w2).mono ?_; rintro e w3 ⟨rfl, rfl⟩)
          | (go_at_call 12; with_reducible refine (S3.out w2).mono ?_; rintro e w4 ⟨rfl, rfl⟩)
          | fail)
        go_ret
        exact ⟨rfl, keptT k1 k2⟩
      · have S1 := hide (fun w => stream_two k n o a w hv (by omega) (by omega) (by omega) (.inr (by omega)))
        clear hv hp hs hall h1
        go_enter Try.func3, Try.ntmps3
        go_wp2_with (first
          | (go_at_call 11; with_reducible refine (awake_calls w).mono ?_; rintro e w1 ⟨rfl, k1⟩)
          | (go_at_call 12; with_reducible refine (S1.out w1).mono ?_; rintro e w2 ⟨rfl, rfl⟩)
          | (go_at_call 12; with_reducible refine (S2.out w1).mono ?_; rintro e w3 ⟨rfl, rfl⟩)
          | (go_at_call 12; with_reducible refine (S3.out w1).mono ?_; rintro e w4 ⟨rfl, rfl⟩)
          | fail)
        go_ret
        exact ⟨rfl, k1⟩
  · have S1 := hide (fun w => stream_one k n o a w (.inl hv))
    have S2 := hide (fun w => stream_one k n p b w (.inl hv))
    have S3 := hide (fun w => stream_one k n o s w (.inl hv))
    clear hv hp hs
    go_enter Try.func3, Try.ntmps3
    go_wp2_with (first
      | (go_at_call 11; with_reducible refine (awake_calls w).mono ?_; rintro e w1 ⟨rfl, k1⟩)
      | (go_at_call 12; with_reducible refine (S1.out w1).mono ?_; rintro e w2 ⟨rfl, rfl⟩)
      | (go_at_call 12; with_reducible refine (S2.out w1).mono ?_; rintro e w3 ⟨rfl, rfl⟩)
      | (go_at_call 12; with_reducible refine (S3.out w1).mono ?_; rintro e w4 ⟨rfl, rfl⟩)
      | fail)
    go_ret
    exact ⟨rfl, k1⟩

theorem parts_law (k n : ByteArray) (o a b : Int) (w : World) (wo : (Lit.int .i64 o).wf = true) :
    Calls Try.prog 3 #[.string k, .string n, .int .i64 o, .int .i64 a, .int .i64 b] w fun e w' => e = .returned (.bool true) ∧ Kept [] w w' := by
  by_cases h : a < 0 ∨ b < 0 ∨ 400 < a ∨ 400 < b ∨ o < 0 ∨ 274877906944 < o
  · exact parts_out k n o a b w (wf_i64 wo) h
  · obtain ⟨o', rfl⟩ := Int.eq_ofNat_of_zero_le (show 0 ≤ o by omega)
    obtain ⟨a', rfl⟩ := Int.eq_ofNat_of_zero_le (show 0 ≤ a by omega)
    obtain ⟨b', rfl⟩ := Int.eq_ofNat_of_zero_le (show 0 ≤ b by omega)
    exact parts_in k n o' a' b' w (by omega) (by omega) (by omega)
end Go.Proofs.Ytcnabgbfnaabjaa
