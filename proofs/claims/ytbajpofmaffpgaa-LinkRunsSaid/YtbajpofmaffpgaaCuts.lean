/- The walk of LinkCuts. -/
import Derived.Test.YtbajpofmaffpgaaTog
namespace Go.Proofs.Ytbajpofmaffpgaa
open Go.RowKit
set_option linter.unusedSimpArgs false
set_option linter.unusedVariables false

theorem addr_add (b o j : Nat) : (⟨b, o, none⟩ : Addr).add j = ⟨b, o + j, none⟩ := by unfold Addr.add; split <;> simp_all

/-- The cells of a source, one by one. -/
theorem Src.cells {w : World} {D : Nat → Prop} {A : Option Addr} {xs : List UInt8} (h : Src w D A xs) (hn : 0 < xs.length) :
    ∃ b o, A = some ⟨b, o, none⟩ ∧ D b ∧ b < w.heap.size ∧ ∀ j (hj : j < xs.length), w.cell? ⟨b, o + j, none⟩ = some (.int .u8 (xs[j].toNat : Int)) := by
  obtain ⟨ad, rfl, hd, hc⟩ := h.at_ hn
  have h0 := hc 0 (.int .u8 (xs[0].toNat : Int)) (by rw [bs_getElem?, List.getElem?_eq_getElem hn]; rfl)
  obtain ⟨b, o, s⟩ := ad
  have hs : s = none := by simpa [Addr.add] using World.cell?_spot h0
  subst hs
  refine ⟨b, o, rfl, hd, by have := World.block_lt_of_cell? w _ h0; rwa [block_add] at this, fun j hj => ?_⟩
  have hj' := hc j (.int .u8 (xs[j].toNat : Int)) (by rw [bs_getElem?, List.getElem?_eq_getElem hj]; rfl)
  rwa [addr_add] at hj'

theorem and_one_u8 (v : UInt8) : ∃ k : Int, (k = 0 ∨ k = 1) ∧ bits .and .u8 (v.toNat : Int) 1 = k := by
  refine ⟨_, ?_, rfl⟩
  have h := u8_and_nat v.toNat 1 (UInt8.toNat_lt v) (by omega)
  rw [show ((1 : Nat) : Int) = 1 from rfl] at h
  rw [h]
  have : v.toNat &&& 1 ≤ 1 := Nat.and_le_right
  omega

structure CutInv (cut : Nat) (w0 wr : World) (b : Nat) (k : Nat) (F : List Nat) (st : LS) : Prop where
  at_ : LinkAt wr b F st
  ok : st.Ok
  tot : st.total = min k cut
  down : st.down = decide (cut < k)
  bud : st.budget = 1000
  cut : st.cut = cut
  ge : ∀ x ∈ F, w0.heap.size ≤ x
  kept : Kept [] w0 wr

theorem cut_step {cut k : Nat} {st : LS} (hk : k < 100) (tot : st.total = min k cut) (down : st.down = decide (cut < k)) (bud : st.budget = 1000) (hcut : st.cut = cut) (s : Int) (v : UInt8) :
    (st.arr [v]).length = (if k < cut then 1 else 0) ∧ st.err [v] = (if k < cut then 0 else 15) ∧ (st.send s [v]).total = min (k + 1) cut ∧ (st.send s [v]).down = decide (cut < k + 1) := by
  have hd : (st.send s [v]).down = st.goes [v] := by unfold LS.send LS.put; split <;> rfl
  rw [send_total, hd]
  unfold LS.arr LS.err LS.goes
  rw [down, bud, hcut, tot]
  by_cases h1 : k < cut
  · have e1 : min k cut = k := by omega
    have e2 : min (k + 1) cut = k + 1 := by omega
    have e3 : ¬ cut < k := by omega
    have e4 : ¬ cut < k + 1 := by omega
    have e5 : ¬ ((1000 : Int) - k < 1) := by omega
    have e6 : ¬ ((cut : Int) - k < 1) := by omega
    simp [h1, e1, e2, e3, e4, e5, e6]
  · have e1 : min k cut = cut := by omega
    have e2 : min (k + 1) cut = cut := by omega
    have e4 : cut < k + 1 := by omega
    by_cases h3 : cut < k
    · simp [h1, e1, e2, h3, e4]
    · have e5 : ¬ ((1000 : Int) - cut < 1) := by omega
      simp [h1, e1, e2, h3, e4, e5]

theorem cut_next {m : Nat} {w wr w4 : World} {b k : Nat} {F F4 : List Nat} {st : LS} {s : Int} {v : UInt8} {o : Obj} (hinv : CutInv m w wr b k F st) (q3 : (st.send s [v]).total = min (k + 1) m) (q4 : (st.send s [v]).down = decide (m < k + 1))
    (hok : st.Ok) (la : LinkAt w4 b F4 (st.send s [v])) (hk : Kept F (wr.alloc o).drew w4) (hF : ∀ x ∈ F4, x ∈ F ∨ ((wr.alloc o).drew.heap.size ≤ x ∧ x < w4.heap.size)) : CutInv m w w4 b (k + 1) F4 (st.send s [v]) := by
  have z1 := hinv.kept.size
  have z2 : (wr.alloc o).drew.heap.size = wr.heap.size + 1 := by simp
  refine ⟨la, send_ok hok _ _, q3, q4, by rw [(send_keeps _ _ _).1]; exact hinv.bud, by rw [(send_keeps _ _ _).2]; exact hinv.cut, fun x hx => ?_, ?_⟩
  · rcases hF x hx with h | h
    · exact hinv.ge x h
    · omega
  · exact ((hinv.kept.alloc o).drew).new hk hinv.ge

set_option maxHeartbeats 1000000 in
set_option maxRecDepth 100000 in
theorem cuts_main (cut : UInt8) (b0 o : Nat) (xs : List UInt8) (c : Nat) (w : World) (hb0 : b0 < w.heap.size) (hcs : ∀ j (hj : j < xs.length), w.cell? ⟨b0, o + j, none⟩ = some (.int .u8 (xs[j].toNat : Int))) (hc : xs.length ≤ 100) :
    Calls Try.prog 6 #[.int .u8 cut.toNat, .slice (some ⟨b0, o, none⟩) xs.length c] w fun e w' => e = .returned (.bool true) ∧ Kept [] w w' := by
  have hcl : cut.toNat < 256 := UInt8.toNat_lt cut
  obtain ⟨m, hm⟩ : ∃ m, m = cut.toNat := ⟨_, rfl⟩
  rw [← hm] at hcl ⊢
  have m0 : (0 : Int) ≤ (m : Int) := by omega
  have m1 : (m : Int) < 256 := by omega
  have hl : ¬ (100 : Int) < (xs.length : Int) := by omega
  clear hm
  have HCS := hide hcs
  clear hcs
  have HOK := hide (LS.new_ok 1000 m (by omega) (by omega) (by omega) (by omega))
  go_enter Try.func6, Try.ntmps6
  go_wp2_with fail
  refine (new_yes _ _ _ (by omega) (by omega)).mono ?_
  rintro e w1 ⟨rfl, hL1, hk1, hz1⟩
  go_wp2_with fail
  refine (awake_calls _).mono ?_
  rintro e w2 ⟨rfl, hk2⟩
  have HI : CutInv m w w2 w.heap.size 0 [w.heap.size] (LS.new 1000 m) := ⟨hL1.keep hk2 (by simp), HOK.out, by simp [LS.new, LS.total], by simp [LS.new], rfl, rfl, by simp, hk1.new hk2 (by simp)⟩
  clear hL1 hk1 hk2 hz1
  go_wp2_with fail
  go_loopw [7] (fun i wr => ∃ (k : Nat) (F : List Nat) (st : LS), k ≤ xs.length ∧ i = .int .i64 k ∧ Hid (CutInv m w wr w.heap.size k F st)) (fun i _ => xs.length - (intOf i).toNat)
  case atStart => exact ⟨0, _, _, Nat.zero_le _, rfl, HI⟩
  case round =>
    obtain ⟨k, F, st, hk, rfl, hinv⟩ := hrel
    by_cases hlt : k < xs.length
    · have kz := hinv.out.kept.size
      have hcell0 := (hinv.out.kept.cell (p := ⟨b0, o + k, none⟩) (by show b0 < _; exact hb0) (by simp)).trans (HCS.out k hlt)
      obtain ⟨v, hv⟩ : ∃ v, v = xs[k] := ⟨_, rfl⟩
      rw [← hv] at hcell0
      clear hv
      obtain ⟨s, hs, hsb⟩ := and_one_u8 v
      have hs0 : 0 ≤ s := by omega
      have hs1 : s ≤ 1 := by omega
      have HS := hide hs
      clear hs
      have hws : IntKind.i64.wrap s = s := IntWalk.i64_in _ (by omega)
      have hk0 : (0 : Int) ≤ (k : Int) := by omega
      have hk1 : (k : Int) < (xs.length : Int) := by omega
      obtain ⟨q1, q2, q3, q4⟩ := cut_step (cut := m) (by omega : k < 100) hinv.out.tot hinv.out.down hinv.out.bud hinv.out.cut s v
      have hbF : b0 ∉ F := fun hx => by have := hinv.out.ge b0 hx; omega
      have Q3 := hide q3
      have Q4 := hide q4
      clear q3 q4
      have HV := hide hinv.out.ok
      by_cases hkm : k < m
      · simp only [hkm, if_true] at q1 q2
        have Q1 := hide q1
        have Q2 := hide q2
        clear q1 q2
        have hkmi : (k : Int) < (m : Int) := by omega
        have HSend := hide (send_calls (w := (wr.alloc (.cells #[.int .u8 (v.toNat : Int)] 5)).drew) (xs := [v]) (hinv.out.at_.keep (G := []) ((Kept.refl [] wr).alloc _).drew (by simp)) HV.out s HS.out _ 1 ((Src.of_block (xs := [v]) (heap_alloc_new wr _)).drew) (by intro x hx hxF; have := hinv.out.at_.lt x hxF; omega) (by simp))
        go_wp2_with fail
        go_region_held3 (fun w' => w'.cell? ⟨b0, o + k, none⟩ = some (.int .u8 (v.toNat : Int)))
          (first | go_keep | fail)
          ((go_at_call 12
            refine (HSend.out).mono ?_
            rintro e w4 ⟨he, F4, la4, hk4, hF4⟩
            rw [Q1.out, Q2.out] at he
            have hS4 : w4.cell? ⟨b0, o + k, none⟩ = some (.int .u8 (v.toNat : Int)) := (hk4.cell (p := ⟨b0, o + k, none⟩) (by show b0 < _; simp; omega) hbF).trans (by go_simp)
            have HI4 : Hid (CutInv m w w4 w.heap.size (k + 1) F4 (st.send s [v])) := cut_next hinv.out Q3.out Q4.out HV.out la4 hk4 hF4
            subst he))
        go_wp2_with fail
        have hdown := down_calls HI4.out.at_
        rw [HI4.out.down, show decide (m < k + 1) = false by simp; omega] at hdown
        refine hdown.mono ?_
        clear hdown
        rintro e w5 ⟨rfl, rfl⟩
        go_wp2_with fail
        go_roundw
        case rel => exact ⟨k + 1, F4, _, by omega, by go_num, HI4⟩
        case measure => simp [intOf]; omega
      · simp only [hkm, if_false] at q1 q2
        have Q1 := hide q1
        have Q2 := hide q2
        clear q1 q2
        have hkmi : ¬ (k : Int) < (m : Int) := by omega
        have HSend := hide (send_calls (w := (wr.alloc (.cells #[.int .u8 (v.toNat : Int)] 5)).drew) (xs := [v]) (hinv.out.at_.keep (G := []) ((Kept.refl [] wr).alloc _).drew (by simp)) HV.out s HS.out _ 1 ((Src.of_block (xs := [v]) (heap_alloc_new wr _)).drew) (by intro x hx hxF; have := hinv.out.at_.lt x hxF; omega) (by simp))
        go_wp2_with fail
        go_region_held3 (fun w' => w'.cell? ⟨b0, o + k, none⟩ = some (.int .u8 (v.toNat : Int)))
          (first | go_keep | fail)
          ((go_at_call 12
            refine (HSend.out).mono ?_
            rintro e w4 ⟨he, F4, la4, hk4, hF4⟩
            rw [Q1.out, Q2.out] at he
            have hS4 : w4.cell? ⟨b0, o + k, none⟩ = some (.int .u8 (v.toNat : Int)) := (hk4.cell (p := ⟨b0, o + k, none⟩) (by show b0 < _; simp; omega) hbF).trans (by go_simp)
            have HI4 : Hid (CutInv m w w4 w.heap.size (k + 1) F4 (st.send s [v])) := cut_next hinv.out Q3.out Q4.out HV.out la4 hk4 hF4
            subst he))
        go_wp2_with fail
        have hdown := down_calls HI4.out.at_
        rw [HI4.out.down, show decide (m < k + 1) = true by simp; omega] at hdown
        refine hdown.mono ?_
        clear hdown
        rintro e w5 ⟨rfl, rfl⟩
        go_wp2_with fail
        go_roundw
        case rel => exact ⟨k + 1, F4, _, by omega, by go_num, HI4⟩
        case measure => simp [intOf]; omega
    · have hkx : k = xs.length := by omega
      have hs0 := sent_yes hinv.out.at_ hinv.out.ok 0 (.inl rfl)
      obtain ⟨n0, hn0⟩ : ∃ n0, n0 = (st.sent 0).length := ⟨_, rfl⟩
      obtain ⟨n1, hn1⟩ : ∃ n1, n1 = (st.sent 1).length := ⟨_, rfl⟩
      have hsum : n0 + n1 = min xs.length m := by
        have := hinv.out.tot
        rw [hn0, hn1, ← hkx, ← this]
        rfl
      have HS := hide hsum
      have HN := hide (And.intro hn0 (And.intro hn1 hkx))
      have l0 : n0 ≤ 100 := by omega
      have l1 : n1 ≤ 100 := by omega
      clear hsum hn0 hn1 hs0 hkx
      go_wp2_with fail
      have hs0 := sent_yes hinv.out.at_ hinv.out.ok 0 (.inl rfl)
      rw [← HN.out.1] at hs0
      refine hs0.mono ?_
      clear hs0
      rintro e w3 ⟨rfl, hk3⟩
      go_wp2_with fail
      have hs1 := sent_yes (hinv.out.at_.keep hk3 (by simp)) hinv.out.ok 1 (.inr rfl)
      rw [← HN.out.2.1] at hs1
      refine hs1.mono ?_
      clear hs1
      rintro e w4 ⟨rfl, hk4⟩
      by_cases hml : m ≤ xs.length
      · have hmi : (m : Int) ≤ (xs.length : Int) := by omega
        have hE : ((n0 : Int) + (n1 : Int) == (m : Int)) = true := by have := HS.out; rw [beq_iff_eq]; omega
        by_cases hmm : m = xs.length
        · have hE' : ((n0 : Int) + (n1 : Int) == (xs.length : Int)) = true := by rw [← hmm]; exact hE
          clear hmm
          go_wp2_with fail
          all_goals
            go_ret
            exact ⟨rfl, (hinv.out.kept.new hk3 (by simp)).new hk4 (by simp)⟩
        · have hmj : (m : Int) < (xs.length : Int) := by omega
          clear hmm
          go_wp2_with fail
          all_goals
            go_ret
            exact ⟨rfl, (hinv.out.kept.new hk3 (by simp)).new hk4 (by simp)⟩
      · have hmi : (xs.length : Int) < (m : Int) := by omega
        have hE : ((n0 : Int) + (n1 : Int) == (xs.length : Int)) = true := by have := HS.out; rw [beq_iff_eq]; omega
        go_wp2_with fail
        all_goals
          go_ret
          exact ⟨rfl, (hinv.out.kept.new hk3 (by simp)).new hk4 (by simp)⟩

theorem cuts_empty (cut : UInt8) (A : Option Addr) (c : Nat) (w : World) :
    Calls Try.prog 6 #[.int .u8 cut.toNat, .slice A 0 c] w fun e w' => e = .returned (.bool true) ∧ Kept [] w w' := by
  have hcl : cut.toNat < 256 := UInt8.toNat_lt cut
  obtain ⟨m, hm⟩ : ∃ m, m = cut.toNat := ⟨_, rfl⟩
  rw [← hm] at hcl ⊢
  have m0 : (0 : Int) ≤ (m : Int) := by omega
  have m1 : (m : Int) < 256 := by omega
  clear hm
  have HOK := hide (LS.new_ok 1000 m (by omega) (by omega) (by omega) (by omega))
  go_enter Try.func6, Try.ntmps6
  go_wp2_with fail
  refine (new_yes _ _ _ (by omega) (by omega)).mono ?_
  rintro e w1 ⟨rfl, hL1, hk1, hz1⟩
  go_wp2_with fail
  refine (awake_calls _).mono ?_
  rintro e w2 ⟨rfl, hk2⟩
  have hL2 := hL1.keep hk2 (by simp)
  go_wp2_with fail
  refine wp_loop_rounds 1 ?_
  rw [rounds_succ]
  go_wp2_with fail
  have hs0 := sent_yes hL2 HOK.out 0 (.inl rfl)
  refine hs0.mono ?_
  clear hs0
  rintro e w3 ⟨he, hk3⟩
  replace he : e = .returned (.int .i64 0) := he
  subst he
  go_wp2_with fail
  have hs1 := sent_yes (hL2.keep hk3 (by simp)) HOK.out 1 (.inr rfl)
  refine hs1.mono ?_
  clear hs1
  rintro e w4 ⟨he, hk4⟩
  replace he : e = .returned (.int .i64 0) := he
  subst he
  by_cases h0 : m = 0
  · subst h0
    go_wp2_with fail
    all_goals
      go_ret
      exact ⟨rfl, ((hk1.new hk2 (by simp)).new hk3 (by simp)).new hk4 (by simp)⟩
  · have h1 : (0 : Int) < (m : Int) := by omega
    clear h0
    go_wp2_with fail
    all_goals
      go_ret
      exact ⟨rfl, ((hk1.new hk2 (by simp)).new hk3 (by simp)).new hk4 (by simp)⟩

theorem cuts_long (cut : UInt8) (A : Option Addr) (n c : Nat) (w : World) (h : 100 < n) :
    Calls Try.prog 6 #[.int .u8 cut.toNat, .slice A n c] w fun e w' => e = .returned (.bool true) ∧ Kept [] w w' := by
  have hcl : cut.toNat < 256 := UInt8.toNat_lt cut
  obtain ⟨m, hm⟩ : ∃ m, m = cut.toNat := ⟨_, rfl⟩
  rw [← hm] at hcl ⊢
  have m0 : (0 : Int) ≤ (m : Int) := by omega
  have m1 : (m : Int) < 256 := by omega
  have hn : (100 : Int) < (n : Int) := by omega
  clear hm
  go_enter Try.func6, Try.ntmps6
  go_wp2_with fail
  refine (new_yes _ _ _ (by omega) (by omega)).mono ?_
  rintro e w1 ⟨rfl, hL1, hk1, hz1⟩
  go_wp2_with fail
  refine (awake_calls _).mono ?_
  rintro e w2 ⟨rfl, hk2⟩
  go_wp2_with fail
  refine (awake_calls _).mono ?_
  rintro e w3 ⟨rfl, hk3⟩
  go_wp2_with fail
  go_ret
  exact ⟨rfl, (hk1.new hk2 (by simp)).new hk3 (by simp)⟩

theorem cuts_calls (cut : UInt8) (A : Option Addr) (xs : List UInt8) (c : Nat) (w : World) (hs : Src w (· < w.heap.size) A xs) :
    Calls Try.prog 6 #[.int .u8 cut.toNat, .slice A xs.length c] w fun e w' => e = .returned (.bool true) ∧ Kept [] w w' := by
  by_cases h : 100 < xs.length
  · exact cuts_long cut A xs.length c w h
  · by_cases h0 : xs.length = 0
    · rw [h0]
      exact cuts_empty cut A c w
    · obtain ⟨b, o, rfl, _, hb, hc⟩ := hs.cells (by omega)
      exact cuts_main cut b o xs c w hb hc (by omega)
end Go.Proofs.Ytbajpofmaffpgaa
