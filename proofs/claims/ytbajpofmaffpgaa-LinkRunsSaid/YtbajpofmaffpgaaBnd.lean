/- The walk of LinkBounds. -/
import Derived.Test.YtbajpofmaffpgaaAny
namespace Go.Proofs.Ytbajpofmaffpgaa
open Go.RowKit
set_option linter.unusedSimpArgs false
set_option linter.unusedVariables false

/-- New fails: the law says awake and that there is no link. -/
theorem bnd_bad (budget cut : Int) (a : Option Addr) (n c : Nat) (w : World) (h : budget < 0 ∨ 1073741824 < budget) :
    Calls Try.prog 5 #[.int .i64 budget, .int .i64 cut, .slice a n c] w fun e w' => e = .returned (.bool true) ∧ Kept [] w w' := by
  have H := hide h
  clear h
  go_enter Try.func5, Try.ntmps5
  go_wp2_with fail
  refine (new_no _ _ _ H.out).mono ?_
  rintro e w1 ⟨rfl, rfl⟩
  go_wp2_with fail
  refine (awake_calls _).mono ?_
  rintro e w2 ⟨rfl, hk2⟩
  go_wp2_with fail
  refine (awake_calls _).mono ?_
  rintro e w3 ⟨rfl, hk3⟩
  go_wp2_with fail
  go_ret
  exact ⟨rfl, hk2.new hk3 (by simp)⟩

/-- The calls are many: the law says awake and that there is a link. -/
theorem bnd_many (budget cut : Int) (a : Option Addr) (L : List OpD) (c : Nat) (w : World) (h0 : 0 ≤ budget) (h1 : budget ≤ 1073741824) (hf : fewB L = false) (hops : OpsAt w w.heap.size a L) (hm : L.length ≤ 9223372036854775807)
    (hX : ∀ i (hi : i < L.length), L[i].X.length ≤ 140737488351232) :
    Calls Try.prog 5 #[.int .i64 budget, .int .i64 cut, .slice a L.length c] w fun e w' => e = .returned (.bool true) ∧ Kept [] w w' := by
  have HF := hide hf
  have HO := hide hops
  have HX := hide hX
  clear hf hops hX
  go_enter Try.func5, Try.ntmps5
  go_wp2_with fail
  refine (new_yes _ _ _ h0 h1).mono ?_
  rintro e w1 ⟨rfl, hL1, hk1, hz1⟩
  go_wp2_with fail
  refine (awake_calls _).mono ?_
  rintro e w2 ⟨rfl, hk2⟩
  have K2 := hk1.new hk2 (by simp)
  go_wp2_with fail
  have hfew := few_calls a L c w2 w.heap.size (HO.out.keep K2 (by simp)) hm HX.out
  rw [HF.out] at hfew
  refine hfew.mono ?_
  clear hfew
  rintro e w3 ⟨rfl, rfl⟩
  go_wp2_with fail
  refine (awake_calls _).mono ?_
  rintro e w3 ⟨rfl, hk3⟩
  go_wp2_with fail
  go_ret
  exact ⟨rfl, K2.new hk3 (by simp)⟩

structure BInv (budget cut : Int) (w0 wr : World) (b : Nat) (F : List Nat) (st : LS) : Prop where
  at_ : LinkAt wr b F st
  ok : st.Ok
  icut : st.Cut
  bud : st.budget = budget
  cut : st.cut = cut
  ge : ∀ x ∈ F, w0.heap.size ≤ x
  kept : Kept [] w0 wr

theorem BInv.next {budget cut : Int} {w0 wr w1 w4 : World} {b : Nat} {F : List Nat} {st : LS} (h : BInv budget cut w0 wr b F st) (k : Int) (xs : List UInt8) (h1 : Kept [] wr w1) (hs : Sent w1 b F (st.sendA k xs) w4) :
    ∃ F4, BInv budget cut w0 w4 b F4 (st.sendA k xs) := by
  obtain ⟨F4, la, hk, hF⟩ := hs
  have z1 := h.kept.size
  have z2 := h1.size
  refine ⟨F4, la, sendA_ok h.ok _ _, sendA_cut h.ok h.icut _ _, by rw [(sendA_keeps _ _ _).1]; exact h.bud, by rw [(sendA_keeps _ _ _).2]; exact h.cut, fun x hx => ?_, (h.kept.new h1 (by simp)).new hk h.ge⟩
  rcases hF x hx with h' | h'
  · exact h.ge x h'
  · omega

set_option maxHeartbeats 1000000 in
set_option maxRecDepth 100000 in
theorem bnd_main (budget cut : Int) (b0 o : Nat) (L : List OpD) (c : Nat) (w : World) (h0 : 0 ≤ budget) (h1 : budget ≤ 1073741824) (hf : fewB L = true) (hops : OpsAt w w.heap.size (some ⟨b0, o, none⟩) L) (hm : L.length ≤ 9223372036854775807)
    (hX : ∀ i (hi : i < L.length), L[i].X.length ≤ 140737488351232) (c0 : -9223372036854775808 ≤ cut) (c1 : cut ≤ 9223372036854775807) (hb0 : b0 < w.heap.size) :
    Calls Try.prog 5 #[.int .i64 budget, .int .i64 cut, .slice (some ⟨b0, o, none⟩) L.length c] w fun e w' => e = .returned (.bool true) ∧ Kept [] w w' := by
  have hl : L.length ≤ 25 := (few_yes hf).1
  have HF := hide hf
  have HO := hide hops
  have HX := hide hX
  have HOK := hide (LS.new_ok budget cut h0 h1 c0 c1)
  clear hf hops hX
  go_enter Try.func5, Try.ntmps5
  go_wp2_with fail
  refine (new_yes _ _ _ h0 h1).mono ?_
  rintro e w1 ⟨rfl, hL1, hk1, hz1⟩
  go_wp2_with fail
  refine (awake_calls _).mono ?_
  rintro e w2 ⟨rfl, hk2⟩
  have K2 := hk1.new hk2 (by simp)
  go_wp2_with fail
  have hfew := few_calls (some ⟨b0, o, none⟩) L c w2 w.heap.size (HO.out.keep K2 (by simp)) hm HX.out
  rw [HF.out] at hfew
  refine hfew.mono ?_
  clear hfew
  rintro e w3 ⟨rfl, rfl⟩
  have HI : BInv budget cut w w2 w.heap.size [w.heap.size] (LS.new budget cut) := ⟨hL1.keep hk2 (by simp), HOK.out, by intro h; simp [LS.new] at h, rfl, rfl, by simp, K2⟩
  clear hL1 hk1 hk2 hz1 K2
  go_wp2_with fail
  go_loopw [9] (fun i wr => ∃ (k : Nat) (F : List Nat) (st : LS), k ≤ L.length ∧ i = .int .i64 k ∧ Hid (BInv budget cut w wr w.heap.size F st)) (fun i _ => L.length - (intOf i).toNat)
  case atStart => exact ⟨0, _, _, Nat.zero_le _, rfl, HI⟩
  case round =>
    obtain ⟨k, F, st, hk, rfl, hinv⟩ := hrel
    by_cases hlt : k < L.length
    · have kz := hinv.out.kept.size
      obtain ⟨A, cc, hat⟩ := (HO.out.keep hinv.out.kept (by simp)).op hlt
      obtain ⟨d, hd⟩ : ∃ d, d = L[k] := ⟨_, rfl⟩
      rw [← hd] at hat
      clear hd
      have cS := hat.side
      have cX := hat.X
      have HA := hide hat
      clear hat
      have hk0 : (0 : Int) ≤ (k : Int) := by omega
      have hk1 : (k : Int) < (L.length : Int) := by omega
      obtain ⟨d0, hd0⟩ : ∃ d0, d0 = st.down := ⟨_, rfl⟩
      have HD0 := hide hd0
      clear hd0
      go_wp2_with fail
      have hdown := down_calls hinv.out.at_
      rw [← HD0.out] at hdown
      refine hdown.mono ?_
      clear hdown
      rintro e w3 ⟨rfl, rfl⟩
      have HSend := hide (sendA_calls (w := wr.drew) (hinv.out.at_.keep (G := []) (Kept.refl [] wr).drew (by simp)) hinv.out.ok d.side A d.X cc HA.out.src.drew (fun x hx hxF => by have := hinv.out.ge x hxF; omega) HA.out.cap)
      obtain ⟨n, hn⟩ : ∃ n, n = st.nA d.side d.X := ⟨_, rfl⟩
      obtain ⟨er, her⟩ : ∃ er, er = st.eA d.side d.X := ⟨_, rfl⟩
      have HN := hide (And.intro hn her)
      clear hn her
      go_wp2_with fail
      go_region_held3 (fun w' => w'.cell? ⟨b0, o + k * 5 + 1, none⟩ = some (.int .i64 d.side) ∧ w'.cell? ⟨b0, o + k * 5 + 2, none⟩ = some (.slice A d.X.length cc))
        (first | go_keep | fail)
        ((go_at_call 12
          refine (HSend.out).mono ?_
          rintro e w4 ⟨he, hs4⟩
          rw [← HN.out.1, ← HN.out.2] at he
          have HS4 := hide hs4
          have hS4 : w4.cell? ⟨b0, o + k * 5 + 1, none⟩ = some (.int .i64 d.side) ∧ w4.cell? ⟨b0, o + k * 5 + 2, none⟩ = some (.slice A d.X.length cc) := by
            obtain ⟨F4, _, hk4, _⟩ := hs4
            have q := HA.out.keep hb0 kz ((Kept.refl F wr).drew.trans hk4 (by simp) (by intro x hx; exact .inl hx) : Kept F wr w4) (fun x hx => hinv.out.ge x hx)
            exact ⟨q.side, q.X⟩
          clear hs4
          subst he))
      obtain ⟨F4, hi4⟩ := hinv.out.next d.side d.X (Kept.refl [] wr).drew HS4.out
      obtain ⟨st4, hst4⟩ : ∃ s, s = st.sendA d.side d.X := ⟨_, rfl⟩
      rw [← hst4] at hi4
      have hstay : d0 = true → st4.down = true := fun h => by rw [hst4]; exact sendA_stays _ _ _ (by rw [← HD0.out]; exact h)
      have herr : er = 15 → st4.down = true := fun h => by rw [hst4]; exact sendA_err _ _ _ (by rw [← HN.out.2]; exact h)
      have HI4 := hide hi4
      obtain ⟨n0, hn0⟩ : ∃ n0, n0 = (st4.sent 0).length := ⟨_, rfl⟩
      obtain ⟨n1, hn1⟩ : ∃ n1, n1 = (st4.sent 1).length := ⟨_, rfl⟩
      have htot : st4.total = n0 + n1 := by rw [hn0, hn1]; rfl
      have hcd : st4.down = true → ((n0 : Int) + n1 = cut ∧ 0 ≤ cut) := fun h => by
        have := hi4.icut h
        rw [htot, hi4.cut] at this
        simpa using this
      have hcc : 0 ≤ cut → (n0 : Int) + n1 ≤ cut := fun h => by
        have := hi4.ok.c2 (by rw [hi4.cut]; exact h)
        rw [htot, hi4.cut] at this
        simpa using this
      have hbb : (n0 : Int) + n1 ≤ budget := by
        have := hi4.ok.b0
        rw [htot, hi4.bud] at this
        simpa using this
      obtain ⟨d1, hd1⟩ : ∃ d1, d1 = st4.down := ⟨_, rfl⟩
      rw [← hd1] at hstay herr hcd
      have HH := hide (And.intro hn0 (And.intro hn1 (And.intro htot (And.intro hd1 (And.intro hstay (And.intro herr (And.intro hcd hcc)))))))
      clear hn0 hn1 htot hd1 hi4 hst4 hstay herr hcd hcc HS4 HSend
      have n0b : (0 : Int) ≤ n0 := by omega
      have n1b : (0 : Int) ≤ n1 := by omega
      go_wp2_with fail
      have hs0 := sent_yes HI4.out.at_ HI4.out.ok 0 (.inl rfl)
      rw [← HH.out.1] at hs0
      refine hs0.mono ?_
      clear hs0
      rintro e w5 ⟨rfl, hk5⟩
      go_wp2_with fail
      have hs1 := sent_yes (HI4.out.at_.keep hk5 (by simp)) HI4.out.ok 1 (.inr rfl)
      rw [← HH.out.2.1] at hs1
      refine hs1.mono ?_
      clear hs1
      rintro e w6 ⟨rfl, hk6⟩
      have k46 : Kept [] w4 w6 := hk5.new hk6 (by simp)
      clear hk5 hk6
      have hla : ∀ wx, Kept [] w4 wx → Calls Try.prog 14 #[.pointer (some ⟨w.heap.size, 0, none⟩)] wx fun e w' => e = .returned (.int .i64 (budget - ((n0 : Int) + n1))) ∧ Drawn wx w' := fun wx hkx => by
        have := left_calls (HI4.out.at_.keep hkx (by simp)) HI4.out.ok
        rw [HI4.out.bud, HH.out.2.2.1] at this
        simpa using this
      have hda : ∀ wx, Kept [] w4 wx → Calls Try.prog 15 #[.pointer (some ⟨w.heap.size, 0, none⟩)] wx fun e w' => e = .returned (.bool d1) ∧ wx = w' := fun wx hkx => by
        have := down_calls (HI4.out.at_.keep hkx (by simp))
        rw [← HH.out.2.2.2.1] at this
        exact this
      have HLA := hide hla
      have HDA := hide hda
      clear hla hda
      have hfin : ∀ wx, Kept [] w4 wx → Hid (BInv budget cut w wx w.heap.size F4 st4) := fun wx hkx => ⟨HI4.out.at_.keep hkx (by simp), HI4.out.ok, HI4.out.icut, HI4.out.bud, HI4.out.cut, HI4.out.ge, HI4.out.kept.new hkx (by simp)⟩
      have HFIN := hide hfin
      clear hfin
      have hwrapL : ((n0 : Int) + n1 + (budget - ((n0 : Int) + n1)) == budget) = true := by rw [beq_iff_eq]; omega
      have hwrapL' : ((n0 : Int) + n1 + (budget - ((n0 : Int) + n1)) != budget) = false := by rw [bne_eq_false_iff_eq]; omega
      go_wp2_with fail
      refine (HLA.out _ k46).mono ?_
      rintro e w7 ⟨rfl, hd7⟩
      have k47 : Kept [] w4 w7 := k46.new (hd7.kept []) (by simp)
      clear hd7
      go_wp2_with fail
      refine (HLA.out _ k47).mono ?_
      rintro e w8 ⟨rfl, hd8⟩
      have k48 : Kept [] w4 w8 := k47.new (hd8.kept []) (by simp)
      clear hd8
      cases d1 with
      | true =>
        obtain ⟨hc1, hc2⟩ := HH.out.2.2.2.2.2.2.1 rfl
        go_wp2_with (go_at_call 15; refine (HDA.out _ k48).mono ?_; rintro e w9 ⟨rfl, rfl⟩)
        all_goals
          go_roundw
          case rel => exact ⟨k + 1, F4, st4, by omega, by go_num, HFIN.out _ k48⟩
          case measure => simp [intOf]; omega
      | false =>
        have hd00 : d0 = false := by
          cases d0 with
          | false => rfl
          | true => exact absurd (HH.out.2.2.2.2.1 rfl) (by simp)
        subst hd00
        have her : (er == 15) = false := by
          rw [beq_eq_false_iff_ne]
          exact fun h => absurd (HH.out.2.2.2.2.2.1 h) (by simp)
        by_cases hcs : 0 ≤ cut
        · have hle := HH.out.2.2.2.2.2.2.2 hcs
          have hle' : ¬ cut < (n0 : Int) + n1 := by omega
          go_wp2_with (go_at_call 15; refine (HDA.out _ k48).mono ?_; rintro e w9 ⟨rfl, rfl⟩)
          all_goals
            go_roundw
            case rel => exact ⟨k + 1, F4, st4, by omega, by go_num, HFIN.out _ k48⟩
            case measure => simp [intOf]; omega
        · have hcs' : cut < 0 := by omega
          go_wp2_with (go_at_call 15; refine (HDA.out _ k48).mono ?_; rintro e w9 ⟨rfl, rfl⟩)
          all_goals
            go_roundw
            case rel => exact ⟨k + 1, F4, st4, by omega, by go_num, HFIN.out _ k48⟩
            case measure => simp [intOf]; omega
    · go_wp2_with fail
      go_ret
      exact ⟨rfl, hinv.out.kept⟩

theorem bnd_none (budget cut : Int) (a : Option Addr) (c : Nat) (w : World) (h0 : 0 ≤ budget) (h1 : budget ≤ 1073741824) :
    Calls Try.prog 5 #[.int .i64 budget, .int .i64 cut, .slice a 0 c] w fun e w' => e = .returned (.bool true) ∧ Kept [] w w' := by
  go_enter Try.func5, Try.ntmps5
  go_wp2_with fail
  refine (new_yes _ _ _ h0 h1).mono ?_
  rintro e w1 ⟨rfl, hL1, hk1, hz1⟩
  go_wp2_with fail
  refine (awake_calls _).mono ?_
  rintro e w2 ⟨rfl, hk2⟩
  go_wp2_with fail
  refine (few_none a c w2).mono ?_
  rintro e w3 ⟨rfl, rfl⟩
  go_wp2_with fail
  refine wp_loop_rounds 1 ?_
  rw [rounds_succ]
  go_wp2_with fail
  go_ret
  exact ⟨rfl, hk1.new hk2 (by simp)⟩

theorem bnd_calls (budget cut : Int) (a : Option Addr) (L : List OpD) (c : Nat) (w : World) (hops : OpsAt w w.heap.size a L) (hm : L.length ≤ 9223372036854775807)
    (hX : ∀ i (hi : i < L.length), L[i].X.length ≤ 140737488351232) (c0 : -9223372036854775808 ≤ cut) (c1 : cut ≤ 9223372036854775807) :
    Calls Try.prog 5 #[.int .i64 budget, .int .i64 cut, .slice a L.length c] w fun e w' => e = .returned (.bool true) ∧ Kept [] w w' := by
  by_cases hb : budget < 0 ∨ 1073741824 < budget
  · exact bnd_bad budget cut a L.length c w hb
  · cases hf : fewB L with
    | false => exact bnd_many budget cut a L c w (by omega) (by omega) hf hops hm hX
    | true =>
      by_cases hl : L.length = 0
      · rw [hl]
        exact bnd_none budget cut a c w (by omega) (by omega)
      · obtain ⟨b, o, rfl, hb0, _, _⟩ := hops (by omega)
        exact bnd_main budget cut b o L c w (by omega) (by omega) hf hops hm hX c0 c1 hb0
end Go.Proofs.Ytbajpofmaffpgaa
