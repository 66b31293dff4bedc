/- The walk of LinkSpoils. -/
import Derived.Test.YtbajpofmaffpgaaCuts
import Derived.Deep.RegionWith
namespace Go.Proofs.Ytbajpofmaffpgaa
open Go.RowKit
set_option linter.unusedSimpArgs false
set_option linter.unusedVariables false

/-- Outside the guard: the law says awake and fine. -/
theorem spo_out (A : Option Addr) (len c : Nat) (n m : Int) (tw : Bool) (w : World) (h : 100 < len ∨ n < 0 ∨ (len : Int) ≤ n) :
    Calls Try.prog 8 #[.slice A len c, .int .i64 n, .int .u8 m, .bool tw] w fun e w' => e = .returned (.bool true) ∧ Kept [] w w' := by
  by_cases h1 : 100 < len
  · have h1' : (100 : Int) < (len : Int) := by omega
    clear h
    go_enter Try.func8, Try.ntmps8
    go_wp2_with fail
    refine (new_yes _ _ _ (by omega) (by omega)).mono ?_
    rintro e w1 ⟨rfl, hL1, hk1, hz1⟩
    go_wp2_with fail
    refine (awake_calls _).mono ?_
    rintro e w2 ⟨rfl, hk2⟩
    go_wp2_with fail
    refine (awake_calls _).mono ?_
    rintro e w3 ⟨rfl, hk3⟩
    go_wp2_with fail
    go_ret
    exact ⟨rfl, (hk1.new hk2 (by simp)).new hk3 (by simp)⟩
  · have h1' : ¬ (100 : Int) < (len : Int) := by omega
    by_cases h2 : n < 0
    · clear h
      go_enter Try.func8, Try.ntmps8
      go_wp2_with fail
      refine (new_yes _ _ _ (by omega) (by omega)).mono ?_
      rintro e w1 ⟨rfl, hL1, hk1, hz1⟩
      go_wp2_with fail
      refine (awake_calls _).mono ?_
      rintro e w2 ⟨rfl, hk2⟩
      go_wp2_with fail
      refine (awake_calls _).mono ?_
      rintro e w3 ⟨rfl, hk3⟩
      go_wp2_with fail
      go_ret
      exact ⟨rfl, (hk1.new hk2 (by simp)).new hk3 (by simp)⟩
    · have h3 : (len : Int) ≤ n := by omega
      have h2' : ¬ n < 0 := by omega
      clear h
      go_enter Try.func8, Try.ntmps8
      go_wp2_with fail
      refine (new_yes _ _ _ (by omega) (by omega)).mono ?_
      rintro e w1 ⟨rfl, hL1, hk1, hz1⟩
      go_wp2_with fail
      refine (awake_calls _).mono ?_
      rintro e w2 ⟨rfl, hk2⟩
      go_wp2_with fail
      refine (awake_calls _).mono ?_
      rintro e w3 ⟨rfl, hk3⟩
      go_wp2_with fail
      go_ret
      exact ⟨rfl, (hk1.new hk2 (by simp)).new hk3 (by simp)⟩

/-- What is received behind the spoiling. -/
def spoiled (xs : List UInt8) (n : Nat) (m : UInt8) (tw : Bool) : List UInt8 := if tw then xs else xs.set n (xs.getD n 0 ^^^ m)

theorem spoil_twice (xs : List UInt8) (n : Nat) (m : UInt8) (hn : n < xs.length) : (xs.set n (xs.getD n 0 ^^^ m)).set n ((xs.set n (xs.getD n 0 ^^^ m)).getD n 0 ^^^ m) = xs := by
  have e0 : xs.getD n 0 = xs[n] := by rw [List.getD_eq_getElem?_getD, List.getElem?_eq_getElem hn]; rfl
  have e1 : (xs.set n (xs.getD n 0 ^^^ m)).getD n 0 = xs[n] ^^^ m := by
    rw [List.getD_eq_getElem?_getD, List.getElem?_set_self (by simpa using hn), e0]
    rfl
  rw [e1, List.set_set, UInt8.xor_assoc, UInt8.xor_self, UInt8.xor_zero]
  exact List.set_getElem_self hn

theorem spoiled_len (xs : List UInt8) (n : Nat) (m : UInt8) (tw : Bool) : (spoiled xs n m tw).length = xs.length := by
  unfold spoiled
  split <;> simp

set_option maxHeartbeats 1000000 in
set_option maxRecDepth 100000 in
theorem spo_twice (b0 o : Nat) (xs : List UInt8) (c n : Nat) (m : UInt8) (w : World) (hb0 : b0 < w.heap.size) (hsx : Src w (· < w.heap.size) (some ⟨b0, o, none⟩) xs) (hcs : ∀ j (hj : j < xs.length), w.cell? ⟨b0, o + j, none⟩ = some (.int .u8 (xs[j].toNat : Int)))
    (hc : xs.length ≤ 100) (hn : n < xs.length) (hcap : xs.length ≤ c) :
    Calls Try.prog 8 #[.slice (some ⟨b0, o, none⟩) xs.length c, .int .i64 n, .int .u8 m.toNat, .bool true] w fun e w' => e = .returned (.bool true) ∧ Kept [] w w' := by
  have hl : ¬ (100 : Int) < (xs.length : Int) := by omega
  have hn0 : ¬ (n : Int) < 0 := by omega
  have hn1 : ¬ (xs.length : Int) ≤ (n : Int) := by omega
  have HCS := hide hcs
  have HSX := hide hsx
  clear hcs hsx
  obtain ⟨s0, hs0⟩ : ∃ s, s = LS.new 1000 (-1) := ⟨_, rfl⟩
  have hok : s0.Ok := by rw [hs0]; exact LS.new_ok 1000 (-1) (by omega) (by omega) (by omega) (by omega)
  have harr : s0.arr xs = xs := by
    rw [hs0]
    unfold LS.arr
    rw [if_neg (by simp [LS.new]), if_neg (by simp [LS.new, LS.total]; omega), if_neg (by simp [LS.new])]
  obtain ⟨s1, hs1⟩ : ∃ s, s = s0.send 0 xs := ⟨_, rfl⟩
  have hok1 : s1.Ok := by rw [hs1]; exact send_ok hok _ _
  have hw1 : s1.wait 1 = xs := by rw [hs1, hs0]; rw [hs0] at harr; rw [show (LS.new 1000 (-1)).send 0 xs = (LS.new 1000 (-1)).put 0 xs ((LS.new 1000 (-1)).goes xs) by unfold LS.send; rw [harr]]; simp [LS.put, LS.wait, LS.new]
  have ht1 : s1.s0 = xs := by rw [hs1, hs0]; rw [hs0] at harr; rw [show (LS.new 1000 (-1)).send 0 xs = (LS.new 1000 (-1)).put 0 xs ((LS.new 1000 (-1)).goes xs) by unfold LS.send; rw [harr]]; simp [LS.put, LS.wait, LS.new]
  have hq1 : s1.q1 = xs := by simpa [LS.wait] using hw1
  have HS := hide (And.intro hok (And.intro harr (And.intro hok1 (And.intro hw1 (And.intro ht1 (And.intro hs1 (And.intro hq1 hs0)))))))
  clear hok harr hok1 hw1 ht1 hs1 hs0 hq1
  go_enter Try.func8, Try.ntmps8
  go_wp2_with fail
  refine (new_yes _ _ _ (by omega) (by omega)).mono ?_
  rintro e w1 ⟨rfl, hL1, hk1, hz1⟩
  go_wp2_with fail
  refine (awake_calls _).mono ?_
  rintro e w2 ⟨rfl, hk2⟩
  have K2 := hk1.new hk2 (by simp)
  have hL2 := hL1.keep hk2 (by simp)
  rw [← HS.out.2.2.2.2.2.2.2] at hL2
  have HL2 := hide hL2
  clear hL1 hL2 hk1 hk2
  go_wp2_with fail
  have hsend := send_calls HL2.out HS.out.1 0 (.inl rfl) (some ⟨b0, o, none⟩) xs c (HSX.out.keep K2 (by simp)) (by simp; omega) hcap
  rw [← HS.out.2.2.2.2.2.1] at hsend
  refine hsend.mono ?_
  clear hsend
  rintro e w3 ⟨he, F3, la3, hk3, hF3⟩
  subst he
  have K3 := K2.new hk3 (by simp)
  have f3 : ∀ x ∈ F3, w.heap.size ≤ x := fun x hx => by
    have := K2.size
    rcases hF3 x hx with h | h
    · simp at h; omega
    · omega
  have HL3 := hide la3
  clear la3 hk3 hF3 HL2
  go_wp2_with fail
  refine (spoil_yes HL3.out HS.out.2.2.1 1 n m (.inr rfl) (by rw [HS.out.2.2.2.1]; exact hn)).mono ?_
  rintro e w4 ⟨rfl, la4, hk4⟩
  have K4 := K3.new hk4 f3
  have hw4 : ((s1.spoil 1 n m).spoil 1 n m).wait 1 = xs := by
    have := HS.out.2.2.2.2.2.2.1
    simp only [LS.spoil, LS.wait, if_neg (show ¬ (1 : Int) = 0 by omega), if_true, this]
    exact spoil_twice xs n m hn
  have ht4 : (((s1.spoil 1 n m).spoil 1 n m).recv 1).s0 = xs := by
    have := HS.out.2.2.2.2.1
    simpa [LS.spoil, LS.recv] using this
  have HW := hide (And.intro hw4 ht4)
  clear hw4 ht4
  have HL4 := hide la4
  clear la4
  go_wp2_with fail
  refine (spoil_yes HL4.out (spoil_ok HS.out.2.2.1 _ _ _) 1 n m (.inr rfl) (by have := HS.out.2.2.2.1; have e : ((s1.spoil 1 n m).wait 1).length = (s1.wait 1).length := (by simp [LS.spoil, LS.wait]); rw [e, this]; exact hn)).mono ?_
  rintro e w5 ⟨rfl, la5, hk5⟩
  have K5 := K4.new hk5 f3
  have HL5 := hide la5
  clear la5 hk4 hk5
  obtain ⟨Z, hZ⟩ : ∃ Z, Z = xs := ⟨_, rfl⟩
  have hrecv := receive_yes HL5.out (spoil_ok (spoil_ok HS.out.2.2.1 _ _ _) _ _ _) 1 (.inr rfl)
  rw [HW.out.1] at hrecv
  have hZl : Z.length = xs.length := by rw [hZ]
  have HZ := hide (And.intro hZ hZl)
  rw [← hZ] at hrecv
  rw [hZl] at hrecv
  clear hZ hZl
  go_wp2_with fail
  refine hrecv.mono ?_
  clear hrecv
  rintro e w6 ⟨g, F6, rfl, ho6, la6, hk6, hg6, hgl6, hF6⟩
  have K6 := K5.new hk6 f3
  have HTR : Hid (∀ wx, Kept [] w6 wx → Calls Try.prog 17 #[.pointer (some ⟨w.heap.size, 0, none⟩), .int .i64 0] wx fun e w' => ∃ g', e = .returned (.slice (some ⟨g', 0, none⟩) xs.length xs.length) ∧ Own w' (some ⟨g', 0, none⟩) xs.length xs ∧ Kept [] wx w') := fun wx hk => by
    have h := transcript_yes (la6.keep hk (by simp)) (recv_ok (spoil_ok (spoil_ok HS.out.2.2.1 _ _ _) _ _ _) 1) 0 (.inl rfl)
    have e : ((((s1.spoil 1 n m).spoil 1 n m)).recv 1).sent 0 = xs := HW.out.2
    rw [e] at h
    refine h.mono ?_
    rintro e w' ⟨g', he, ho, hk', _⟩
    exact ⟨g', he, ho, hk'⟩
  have HO6 := hide ho6
  clear ho6 la6 hk6 hF6
  have hkr : Kept [] w6 w6.drew := (Kept.refl _ _).drew
  have cvx : (convert 22 9 (.slice (some ⟨b0, o, none⟩) xs.length c)).run Try.prog w6.drew = .ok (.string (str xs)) w6.drew := conv_str (HSX.out.keep (K6.new hkr (by simp)) (by simp)) c
  go_wp2_with fail
  go_region_held (fun _ => True) (exact trivial) (first
    | (go_at_call 17; refine (HTR.out _ hkr).mono ?_; rintro e w7 ⟨g7, rfl, ho7, hk7⟩; have k67 : Kept [] w6 w7 := hkr.new hk7 (by simp); have cv7 : (convert 22 9 (.slice (some ⟨g7, 0, none⟩) xs.length xs.length)).run Try.prog w7 = .ok (.string (str xs)) w7 := conv_str ho7.src _; have cvx7 : (convert 22 9 (.slice (some ⟨b0, o, none⟩) xs.length c)).run Try.prog w7 = .ok (.string (str xs)) w7 := conv_str (HSX.out.keep (K6.new k67 (by simp)) (by simp)) c))
  all_goals
    have O7 := hide (HO6.out.keep k67 (by simp))
    have K7 := K6.new k67 (by simp)
    clear hkr cvx
    go_wp2_with fail
    go_loop [14] (fun i => ∃ k : Nat, k ≤ xs.length ∧ i = .int .i64 k) (fun i => xs.length - (intOf i).toNat)
    case atStart => exact ⟨0, Nat.zero_le _, rfl⟩
    case round =>
      obtain ⟨k, hk, rfl⟩ := hrel
      by_cases hlt : k < xs.length
      · obtain ⟨g', eg, cg, fg⟩ := O7.out.cellAt k (by rw [HZ.out.2]; exact hlt)
        injection eg with eg
        injection eg with eg
        subst eg
        have cx := (K7.cell (p := ⟨b0, o + k, none⟩) (by show b0 < _; exact hb0) (by simp)).trans (HCS.out k hlt)
        have hzv : Z[k]'(by rw [HZ.out.2]; exact hlt) = xs[k] := by simp only [HZ.out.1]
        obtain ⟨v, hv⟩ : ∃ v, v = xs[k] := ⟨_, rfl⟩
        rw [← hv] at cx
        obtain ⟨z, hz⟩ : ∃ z, z = Z[k]'(by rw [HZ.out.2]; exact hlt) := ⟨_, rfl⟩
        rw [← hz] at cg
        rw [← hz, ← hv] at hzv
        clear hz hv fg
        by_cases hkn : k = n
        · have hki : ((k : Int) == (n : Int)) = true := by rw [hkn]; simp
          subst hzv
          clear hkn
          go_wp2_with fail
          go_round
          case rel => exact ⟨k + 1, by omega, by go_num⟩
          case measure => simp [intOf]; omega
        · have hki : ((k : Int) == (n : Int)) = false := by rw [beq_eq_false_iff_ne]; omega
          subst hzv
          clear hkn
          go_wp2_with fail
          go_round
          case rel => exact ⟨k + 1, by omega, by go_num⟩
          case measure => simp [intOf]; omega
      · go_wp2_with fail
        go_ret
        exact ⟨rfl, K7⟩

set_option maxHeartbeats 1000000 in
set_option maxRecDepth 100000 in
theorem spo_once (b0 o : Nat) (xs : List UInt8) (c n : Nat) (m : UInt8) (w : World) (hb0 : b0 < w.heap.size) (hsx : Src w (· < w.heap.size) (some ⟨b0, o, none⟩) xs) (hcs : ∀ j (hj : j < xs.length), w.cell? ⟨b0, o + j, none⟩ = some (.int .u8 (xs[j].toNat : Int)))
    (hc : xs.length ≤ 100) (hn : n < xs.length) (hcap : xs.length ≤ c) :
    Calls Try.prog 8 #[.slice (some ⟨b0, o, none⟩) xs.length c, .int .i64 n, .int .u8 m.toNat, .bool false] w fun e w' => e = .returned (.bool true) ∧ Kept [] w w' := by
  have hl : ¬ (100 : Int) < (xs.length : Int) := by omega
  have hn0 : ¬ (n : Int) < 0 := by omega
  have hn1 : ¬ (xs.length : Int) ≤ (n : Int) := by omega
  have HCS := hide hcs
  have HSX := hide hsx
  clear hcs hsx
  obtain ⟨s0, hs0⟩ : ∃ s, s = LS.new 1000 (-1) := ⟨_, rfl⟩
  have hok : s0.Ok := by rw [hs0]; exact LS.new_ok 1000 (-1) (by omega) (by omega) (by omega) (by omega)
  have harr : s0.arr xs = xs := by
    rw [hs0]
    unfold LS.arr
    rw [if_neg (by simp [LS.new]), if_neg (by simp [LS.new, LS.total]; omega), if_neg (by simp [LS.new])]
  obtain ⟨s1, hs1⟩ : ∃ s, s = s0.send 0 xs := ⟨_, rfl⟩
  have hok1 : s1.Ok := by rw [hs1]; exact send_ok hok _ _
  have hw1 : s1.wait 1 = xs := by rw [hs1, hs0]; rw [hs0] at harr; rw [show (LS.new 1000 (-1)).send 0 xs = (LS.new 1000 (-1)).put 0 xs ((LS.new 1000 (-1)).goes xs) by unfold LS.send; rw [harr]]; simp [LS.put, LS.wait, LS.new]
  have ht1 : s1.s0 = xs := by rw [hs1, hs0]; rw [hs0] at harr; rw [show (LS.new 1000 (-1)).send 0 xs = (LS.new 1000 (-1)).put 0 xs ((LS.new 1000 (-1)).goes xs) by unfold LS.send; rw [harr]]; simp [LS.put, LS.wait, LS.new]
  have hq1 : s1.q1 = xs := by simpa [LS.wait] using hw1
  have HS := hide (And.intro hok (And.intro harr (And.intro hok1 (And.intro hw1 (And.intro ht1 (And.intro hs1 (And.intro hq1 hs0)))))))
  clear hok harr hok1 hw1 ht1 hs1 hs0 hq1
  go_enter Try.func8, Try.ntmps8
  go_wp2_with fail
  refine (new_yes _ _ _ (by omega) (by omega)).mono ?_
  rintro e w1 ⟨rfl, hL1, hk1, hz1⟩
  go_wp2_with fail
  refine (awake_calls _).mono ?_
  rintro e w2 ⟨rfl, hk2⟩
  have K2 := hk1.new hk2 (by simp)
  have hL2 := hL1.keep hk2 (by simp)
  rw [← HS.out.2.2.2.2.2.2.2] at hL2
  have HL2 := hide hL2
  clear hL1 hL2 hk1 hk2
  go_wp2_with fail
  have hsend := send_calls HL2.out HS.out.1 0 (.inl rfl) (some ⟨b0, o, none⟩) xs c (HSX.out.keep K2 (by simp)) (by simp; omega) hcap
  rw [← HS.out.2.2.2.2.2.1] at hsend
  refine hsend.mono ?_
  clear hsend
  rintro e w3 ⟨he, F3, la3, hk3, hF3⟩
  subst he
  have K3 := K2.new hk3 (by simp)
  have f3 : ∀ x ∈ F3, w.heap.size ≤ x := fun x hx => by
    have := K2.size
    rcases hF3 x hx with h | h
    · simp at h; omega
    · omega
  have HL3 := hide la3
  clear la3 hk3 hF3 HL2
  go_wp2_with fail
  refine (spoil_yes HL3.out HS.out.2.2.1 1 n m (.inr rfl) (by rw [HS.out.2.2.2.1]; exact hn)).mono ?_
  rintro e w4 ⟨rfl, la4, hk4⟩
  have K4 := K3.new hk4 f3
  obtain ⟨Z, hZ⟩ : ∃ Z, Z = xs.set n (xs.getD n 0 ^^^ m) := ⟨_, rfl⟩
  have hw4 : (s1.spoil 1 n m).wait 1 = Z := by
    have := HS.out.2.2.2.2.2.2.1
    simp only [LS.spoil, LS.wait, if_neg (show ¬ (1 : Int) = 0 by omega), if_true, this]
    exact hZ.symm
  have ht4 : ((s1.spoil 1 n m).recv 1).s0 = xs := by
    have := HS.out.2.2.2.2.1
    simpa [LS.spoil, LS.recv] using this
  have HW := hide (And.intro hw4 ht4)
  clear hw4 ht4
  obtain ⟨w5, hw5⟩ : ∃ w5, w5 = w4 := ⟨_, rfl⟩
  subst hw5
  have K5 := K4
  have HL5 := hide la4
  clear la4 hk4
  have hrecv := receive_yes HL5.out (spoil_ok HS.out.2.2.1 _ _ _) 1 (.inr rfl)
  rw [HW.out.1] at hrecv
  have hZl : Z.length = xs.length := by rw [hZ]; simp
  have HZ := hide (And.intro hZ hZl)
  skip
  rw [hZl] at hrecv
  clear hZ hZl
  go_wp2_with fail
  refine hrecv.mono ?_
  clear hrecv
  rintro e w6 ⟨g, F6, rfl, ho6, la6, hk6, hg6, hgl6, hF6⟩
  have K6 := K5.new hk6 f3
  have HTR : Hid (∀ wx, Kept [] w6 wx → Calls Try.prog 17 #[.pointer (some ⟨w.heap.size, 0, none⟩), .int .i64 0] wx fun e w' => ∃ g', e = .returned (.slice (some ⟨g', 0, none⟩) xs.length xs.length) ∧ Own w' (some ⟨g', 0, none⟩) xs.length xs ∧ Kept [] wx w') := fun wx hk => by
    have h := transcript_yes (la6.keep hk (by simp)) (recv_ok (spoil_ok HS.out.2.2.1 _ _ _) 1) 0 (.inl rfl)
    have e : (((s1.spoil 1 n m)).recv 1).sent 0 = xs := HW.out.2
    rw [e] at h
    refine h.mono ?_
    rintro e w' ⟨g', he, ho, hk', _⟩
    exact ⟨g', he, ho, hk'⟩
  have HO6 := hide ho6
  clear ho6 la6 hk6 hF6
  have hkr : Kept [] w6 w6.drew := (Kept.refl _ _).drew
  have cvx : (convert 22 9 (.slice (some ⟨b0, o, none⟩) xs.length c)).run Try.prog w6.drew = .ok (.string (str xs)) w6.drew := conv_str (HSX.out.keep (K6.new hkr (by simp)) (by simp)) c
  go_wp2_with fail
  go_region_held (fun _ => True) (exact trivial) (first
    | (go_at_call 17; refine (HTR.out _ hkr).mono ?_; rintro e w7 ⟨g7, rfl, ho7, hk7⟩; have k67 : Kept [] w6 w7 := hkr.new hk7 (by simp); have cv7 : (convert 22 9 (.slice (some ⟨g7, 0, none⟩) xs.length xs.length)).run Try.prog w7 = .ok (.string (str xs)) w7 := conv_str ho7.src _; have cvx7 : (convert 22 9 (.slice (some ⟨b0, o, none⟩) xs.length c)).run Try.prog w7 = .ok (.string (str xs)) w7 := conv_str (HSX.out.keep (K6.new k67 (by simp)) (by simp)) c))
  all_goals
    have O7 := hide (HO6.out.keep k67 (by simp))
    have K7 := K6.new k67 (by simp)
    clear hkr cvx
    go_wp2_with fail
    go_loop [14] (fun i => ∃ k : Nat, k ≤ xs.length ∧ i = .int .i64 k) (fun i => xs.length - (intOf i).toNat)
    case atStart => exact ⟨0, Nat.zero_le _, rfl⟩
    case round =>
      obtain ⟨k, hk, rfl⟩ := hrel
      by_cases hlt : k < xs.length
      · obtain ⟨g', eg, cg, fg⟩ := O7.out.cellAt k (by rw [HZ.out.2]; exact hlt)
        injection eg with eg
        injection eg with eg
        subst eg
        have cx := (K7.cell (p := ⟨b0, o + k, none⟩) (by show b0 < _; exact hb0) (by simp)).trans (HCS.out k hlt)
        have hzv : Z[k]'(by rw [HZ.out.2]; exact hlt) = if k = n then xs[k] ^^^ m else xs[k] := by
          simp only [HZ.out.1, List.getElem_set]
          by_cases e : n = k
          · subst e
            rw [if_pos rfl, if_pos rfl, List.getD_eq_getElem?_getD, List.getElem?_eq_getElem hn]
            rfl
          · rw [if_neg e, if_neg (fun h => e h.symm)]
        obtain ⟨v, hv⟩ : ∃ v, v = xs[k] := ⟨_, rfl⟩
        rw [← hv] at cx
        obtain ⟨z, hz⟩ : ∃ z, z = Z[k]'(by rw [HZ.out.2]; exact hlt) := ⟨_, rfl⟩
        rw [← hz] at cg
        rw [← hz, ← hv] at hzv
        clear hz hv fg
        by_cases hkn : k = n
        · have hki : ((k : Int) == (n : Int)) = true := by rw [hkn]; simp
          rw [if_pos hkn] at hzv
          have hx : bits .xor .u8 (v.toNat : Int) (m.toNat : Int) = (z.toNat : Int) := by rw [xor_u8, hzv]
          clear hzv
          clear hkn
          go_wp2_with fail
          go_round
          case rel => exact ⟨k + 1, by omega, by go_num⟩
          case measure => simp [intOf]; omega
        · have hki : ((k : Int) == (n : Int)) = false := by rw [beq_eq_false_iff_ne]; omega
          rw [if_neg hkn] at hzv
          subst hzv
          clear hkn
          go_wp2_with fail
          go_round
          case rel => exact ⟨k + 1, by omega, by go_num⟩
          case measure => simp [intOf]; omega
      · go_wp2_with fail
        go_ret
        exact ⟨rfl, K7⟩

theorem spo_calls (A : Option Addr) (xs : List UInt8) (c : Nat) (n : Int) (m : UInt8) (tw : Bool) (w : World) (hsx : Src w (· < w.heap.size) A xs) (hcap : xs.length ≤ c) :
    Calls Try.prog 8 #[.slice A xs.length c, .int .i64 n, .int .u8 m.toNat, .bool tw] w fun e w' => e = .returned (.bool true) ∧ Kept [] w w' := by
  by_cases h : 100 < xs.length ∨ n < 0 ∨ (xs.length : Int) ≤ n
  · exact spo_out A xs.length c n _ tw w h
  · obtain ⟨k, rfl⟩ := Int.eq_ofNat_of_zero_le (show 0 ≤ n by omega)
    obtain ⟨b, o, rfl, _, hb, hc⟩ := hsx.cells (by omega)
    cases tw with
    | true => exact spo_twice b o xs c k m w hb hsx hc (by omega) (by omega) hcap
    | false => exact spo_once b o xs c k m w hb hsx hc (by omega) (by omega) hcap
end Go.Proofs.Ytbajpofmaffpgaa
