/- The walk of LinkRuns. -/
import Derived.Test.YtbajpofmaffpgaaRh
namespace Go.Proofs.Ytbajpofmaffpgaa
open Go.RowKit
set_option linter.unusedSimpArgs false
set_option linter.unusedVariables false
set_option maxRecDepth 100000

/-- New fails on both sides. -/
theorem run_bad (budget cut : Int) (a : Option Addr) (L : List OpD) (c : Nat) (w : World) (h : budget < 0 ∨ 1073741824 < budget) (hops : OpsAt w w.heap.size a L) (hm : L.length ≤ 9223372036854775807)
    (hX : ∀ i (hi : i < L.length), L[i].X.length ≤ 140737488351232) :
    Calls Try.prog 9 #[.int .i64 budget, .int .i64 cut, .slice a L.length c] w fun e w' => e = .returned (.bool true) ∧ Kept [] w w' := by
  have H := hide h
  have HO := hide hops
  have HX := hide hX
  clear h hops hX
  obtain ⟨fb, hfb⟩ : ∃ fb, fb = fewB L := ⟨_, rfl⟩
  have HF := hide hfb
  clear hfb
  go_enter Try.func9, Try.ntmps9
  go_wp2_with fail
  refine (new_no _ _ _ H.out).mono ?_
  rintro e w1 ⟨rfl, rfl⟩
  go_wp2_with fail
  refine (rnew_no _ _ _ H.out).mono ?_
  rintro e w2 ⟨rfl, hk2⟩
  unfold rv0
  go_wp2_with fail
  refine (awake_calls _).mono ?_
  rintro e w3 ⟨rfl, hk3⟩
  have K3 : Kept [] w w3 := (hk2.alloc _).new hk3 (by simp)
  clear hk2 hk3
  go_wp2_with fail
  have hfew := few_calls a L c w3 w.heap.size (HO.out.keep K3 (by simp)) hm HX.out
  rw [← HF.out] at hfew
  refine hfew.mono ?_
  clear hfew
  rintro e w4 ⟨rfl, rfl⟩
  cases fb with
  | true =>
    go_wp2_with fail
    go_ret
    exact ⟨rfl, K3⟩
  | false =>
    go_wp2_with fail
    refine (awake_calls _).mono ?_
    rintro e w5 ⟨rfl, hk5⟩
    go_wp2_with fail
    go_ret
    exact ⟨rfl, K3.new hk5 (by simp)⟩

/-- The calls are many. -/
theorem run_many (budget cut : Int) (a : Option Addr) (L : List OpD) (c : Nat) (w : World) (h0 : 0 ≤ budget) (h1 : budget ≤ 1073741824) (hf : fewB L = false) (hops : OpsAt w w.heap.size a L) (hm : L.length ≤ 9223372036854775807)
    (hX : ∀ i (hi : i < L.length), L[i].X.length ≤ 140737488351232) :
    Calls Try.prog 9 #[.int .i64 budget, .int .i64 cut, .slice a L.length c] w fun e w' => e = .returned (.bool true) ∧ Kept [] w w' := by
  have HF := hide hf
  have HO := hide hops
  have HX := hide hX
  clear hf hops hX
  go_enter Try.func9, Try.ntmps9
  go_wp2_with fail
  refine (new_yes _ _ _ h0 h1).mono ?_
  rintro e w1 ⟨rfl, hL1, hk1, hz1⟩
  go_wp2_with fail
  refine (rnew_yes _ _ _ h0 h1).mono ?_
  rintro e w2 ⟨rfl, hk2⟩
  unfold rv
  go_wp2_with fail
  refine (awake_calls _).mono ?_
  rintro e w3 ⟨rfl, hk3⟩
  have K3 : Kept [] w w3 := ((hk1.new hk2 (by simp)).alloc _).new hk3 (by simp)
  clear hk1 hk2 hk3 hL1 hz1
  go_wp2_with fail
  have hfew := few_calls a L c w3 w.heap.size (HO.out.keep K3 (by simp)) hm HX.out
  rw [HF.out] at hfew
  refine hfew.mono ?_
  clear hfew
  rintro e w4 ⟨rfl, rfl⟩
  go_wp2_with fail
  refine (awake_calls _).mono ?_
  rintro e w5 ⟨rfl, hk5⟩
  go_wp2_with fail
  go_ret
  exact ⟨rfl, K3.new hk5 (by simp)⟩

theorem five {W : World} {B : Nat} {T : TypeId} {a0 a1 a2 a3 a4 : Value} (h : W.heap[B]? = some (.cells #[a0, a1, a2, a3, a4] T (0, 0))) :
    W.cell? ⟨B, 0, none⟩ = some a0 ∧ W.cell? ⟨B, 1, none⟩ = some a1 ∧ W.cell? ⟨B, 2, none⟩ = some a2 ∧ W.cell? ⟨B, 3, none⟩ = some a3 ∧ W.cell? ⟨B, 4, none⟩ = some a4 :=
  ⟨cells_of h 0, cells_of h 1, cells_of h 2, cells_of h 3, cells_of h 4⟩

set_option maxHeartbeats 4000000 in
theorem run_main (budget cut : Int) (a : Option Addr) (L : List OpD) (c : Nat) (w : World) (h0 : 0 ≤ budget) (h1 : budget ≤ 1073741824) (hf : fewB L = true) (hops : OpsAt w w.heap.size a L) (hm : L.length ≤ 9223372036854775807)
    (hX : ∀ i (hi : i < L.length), L[i].X.length ≤ 140737488351232) (cu0 : -9223372036854775808 ≤ cut) (cu1 : cut ≤ 9223372036854775807) :
    Calls Try.prog 9 #[.int .i64 budget, .int .i64 cut, .slice a L.length c] w fun e w' => e = .returned (.bool true) ∧ Kept [] w w' := by
  have hl : L.length ≤ 25 := (few_yes hf).1
  have HF := hide hf
  have HO := hide hops
  have HX := hide hX
  have HOK := hide (LS.new_ok budget cut h0 h1 cu0 cu1)
  clear hf hops hX
  go_enter Try.func9, Try.ntmps9
  go_wp2_with fail
  refine (new_yes _ _ _ h0 h1).mono ?_
  rintro e w1 ⟨rfl, hL1, hk1, hz1⟩
  go_wp2_with fail
  refine (rnew_yes _ _ _ h0 h1).mono ?_
  rintro e w2 ⟨rfl, hk2⟩
  unfold rv
  go_wp2_with fail
  refine (awake_calls _).mono ?_
  rintro e w3 ⟨rfl, hk3⟩
  have K2 : Kept [] w w2 := hk1.new hk2 (by simp)
  have K3 : Kept [] w w3 := (K2.alloc _).new hk3 (by simp)
  have hQ : QInv w w3 w.heap.size w2.heap.size [w.heap.size] (LS.new budget cut) none none none none 0 0 0 0 := by
    have z2 := hk2.size
    have hB := heap_alloc_new w2 (.cells (rcs (LS.new budget cut) none none none none 0 0 0 0) 46)
    have ka : Kept [] w1 (w2.alloc (.cells (rcs (LS.new budget cut) none none none none 0 0 0 0) 46)) := hk2.alloc _
    have hl3 : w2.heap.size < w3.heap.size := by have := hk3.size; simp at this; omega
    refine ⟨(hL1.keep ka (by simp)).keep hk3 (by simp), HOK.out, by simp, K3, (hk3.block _ (by simp) (by simp)).trans hB, ⟨Src.nil _ _ _, Src.nil _ _ _, Src.nil _ _ _, Src.nil _ _ _⟩, by simp; omega, K2.size, hl3⟩
  have HQ := hide hQ
  have HK3 := hide K3
  obtain ⟨B, hB⟩ : ∃ B, B = w2.heap.size := ⟨_, rfl⟩
  obtain ⟨b, hb⟩ : ∃ b, b = w.heap.size := ⟨_, rfl⟩
  have hbF : Hid (([w.heap.size] : List Nat) = [b]) := by show _ = _; rw [hb]
  rw [← hB, ← hb] at HQ ⊢
  clear hk1 hk2 hk3 hL1 hz1 hQ K2 K3 hB hb hbF
  go_wp2_with fail
  have hfew := few_calls a L c w3 w.heap.size (HO.out.keep HK3.out (by simp)) hm HX.out
  rw [HF.out] at hfew
  refine hfew.mono ?_
  clear hfew
  rintro e w4 ⟨rfl, rfl⟩
  go_wp2_with fail
  go_loopw [11] (fun i wr => ∃ (k : Nat) (F : List Nat) (st : LS) (A0 A1 A2 A3 : Option Addr) (c0 c1 c2 c3 : Nat), k ≤ L.length ∧ i = .int .i64 k ∧ Hid (QInv w wr b B F st A0 A1 A2 A3 c0 c1 c2 c3)) (fun i _ => L.length - (intOf i).toNat)
  case atStart => exact ⟨0, _, _, _, _, _, _, _, _, _, _, Nat.zero_le _, rfl, HQ⟩
  case round =>
    obtain ⟨k, F, st, A0, A1, A2, A3, c0, c1, c2, c3, hk, rfl, hinv⟩ := hrel
    by_cases hlt : k < L.length
    · obtain ⟨b0, o, rfl, hb0, _, _⟩ := HO.out (by omega)
      have kz := hinv.out.kept.size
      obtain ⟨A, cc, hat⟩ := (HO.out.keep hinv.out.kept (by simp)).op hlt
      have hX300 : L[k].X.length ≤ 300 := Nat.le_trans (tot_ge hlt) (few_yes HF.out).2
      obtain ⟨d, hd⟩ : ∃ d, d = L[k] := ⟨_, rfl⟩
      rw [← hd] at hat hX300
      clear hd
      have HX300 := hide hX300
      obtain ⟨q0, q1, q2, q3, q4⟩ := show _ ∧ _ ∧ _ ∧ _ ∧ _ from ⟨hat.kind, hat.side, hat.X, hat.n, hat.mask⟩
      have HA := hide hat
      clear hat hX300
      have hk0 : (0 : Int) ≤ (k : Int) := by omega
      have hk1 : (k : Int) < (L.length : Int) := by omega
      go_upto_region 11 with fail
      refine wp_named ?_
      intro wX hwX
      have kX : Kept [] wr wX := by rw [hwX]; exact (Kept.refl _ _).alloc _
      have hxb := heap_alloc_new wr (.cells #[Value.int IntKind.i64 d.kind, Value.int IntKind.i64 d.side, Value.slice A d.X.length cc, Value.int IntKind.i64 d.n, Value.int IntKind.u8 ↑d.mask.toNat] 38)
      rw [← hwX] at hxb
      have hxl : wr.heap.size < wX.heap.size := by rw [hwX]; simp
      have hxF : wr.heap.size ∉ F := fun h => by have := hinv.out.at_.lt _ h; omega
      have hxB : wr.heap.size ≠ B := by have := hinv.out.blt; omega
      have HQX := hide (hinv.out.keep kX)
      have hsX := (HA.out.src.keep kX (by simp))
      have HSX := hide hsX
      have HCAP := hide HA.out.cap
      have HGE := hide hinv.out.ge
      have HKZ := hide (Nat.le_trans kz kX.size)
      obtain ⟨X, hXe⟩ : ∃ X, X = wr.heap.size := ⟨_, rfl⟩
      rw [← hXe] at hxb hxl hxF hxB ⊢
      have HXB := hide (And.intro hxb (And.intro hxl (And.intro hxF hxB)))
      clear hwX kX hxb hxl hxF hxB hsX hXe q0 q1 q2 q3 q4 hinv HA kz
      obtain ⟨x0, x1, x2, x3, x4⟩ := five HXB.out.1
      obtain ⟨e0, e1, e2, e3, e4, e5, e6⟩ := seven HQX.out.hB
      by_cases hk1 : d.kind = 1
      · have hk1' : (d.kind == 1) = true := by rw [hk1]; rfl
        clear hk1
        go_wp2_with fail
        have hr := rsend_calls HQX.out.refv HQX.out.ok d.side HSX.out HX300.out (c := cc)
        unfold rcs at hr
        obtain ⟨n, hn⟩ : ∃ n, n = st.nA d.side d.X := ⟨_, rfl⟩
        obtain ⟨er, her⟩ : ∃ er, er = st.eA d.side d.X := ⟨_, rfl⟩
        obtain ⟨st', hst'⟩ : ∃ s, s = st.sendA d.side d.X := ⟨_, rfl⟩
        rw [← hn, ← her, ← hst'] at hr
        have HN := hide (And.intro hn (And.intro her hst'))
        clear hn her hst'
        refine hr.mono ?_
        clear hr
        rintro e w5 ⟨v', rfl, hv', k5⟩
        obtain ⟨B0, B1, B2, B3, d0, d1, d2, d3, rfl, rc⟩ := hv'
        have HRC := hide rc
        clear rc
        unfold rv
        have HK5 := hide k5
        have hx5 := (k5.block X HXB.out.2.1 (by simp)).trans HXB.out.1
        have hxa : ∀ o, (w5.alloc o).heap[X]? = some (.cells #[Value.int IntKind.i64 d.kind, Value.int IntKind.i64 d.side, Value.slice A d.X.length cc, Value.int IntKind.i64 d.n, Value.int IntKind.u8 ↑d.mask.toNat] 38 (0, 0)) := fun o => (Below.heap_alloc w5 o X (Nat.lt_of_lt_of_le HXB.out.2.1 k5.size)).trans hx5
        have y0 := fun o => (five (hxa o)).1
        have y1 := fun o => (five (hxa o)).2.1
        have y2 := fun o => (five (hxa o)).2.2.1
        have y3 := fun o => (five (hxa o)).2.2.2.1
        have y4 := fun o => (five (hxa o)).2.2.2.2
        clear hx5 hxa k5 x0 x1 x2 x3 x4 e0 e1 e2 e3 e4 e5 e6
        go_wp2_with fail
        obtain ⟨w6, hw6⟩ : ∃ w6, w6 = w5.alloc (.cells (rcs st' B0 B1 B2 B3 d0 d1 d2 d3) 46) := ⟨_, rfl⟩
        have hY6 : w6.heap[w5.heap.size]? = some (.cells (rcs st' B0 B1 B2 B3 d0 d1 d2 d3) 46 (0, 0)) := by rw [hw6]; exact heap_alloc_new w5 _
        have HW6 : Hid (w6.heap.size = w5.heap.size + 1 ∧ w6.heap[w5.heap.size]? = some (.cells (rcs st' B0 B1 B2 B3 d0 d1 d2 d3) 46 (0, 0))) := ⟨by rw [hw6]; simp, hY6⟩
        have HK6 : Hid (Kept [] w5 w6) := by show Kept [] w5 w6; rw [hw6]; exact (Kept.refl _ _).alloc _
        unfold rcs at hw6
        rw [← hw6]
        clear hw6 hY6
        have HL6 := hide ((HQX.out.at_.keep HK5.out (by simp)).keep HK6.out (by simp))
        have hs := sendA_calls HL6.out HQX.out.ok d.side A d.X cc ((HSX.out.keep HK5.out (by simp)).keep HK6.out (by simp)) (fun x hx hxF => by have h1 := HGE.out x hxF; omega) HCAP.out
        rw [← HN.out.1, ← HN.out.2.1, ← HN.out.2.2] at hs
        refine hs.mono ?_
        clear hs
        rintro e w7 ⟨rfl, F7, la7, k7, hF7⟩
        have HOK7 : Hid st'.Ok := by show st'.Ok; rw [HN.out.2.2]; exact sendA_ok HQX.out.ok _ _
        have hY7 := (k7.block w5.heap.size (by rw [HW6.out.1]; simp) (fun h => by have h1 := HQX.out.at_.lt _ h; have h2 := HK5.out.size; omega)).trans HW6.out.2
        have HB7 := hide ((k7.block B (by have h1 := HQX.out.blt; have h2 := HK5.out.size; have h3 := HK6.out.size; omega) HQX.out.bF).trans ((HK6.out.block B (by have h1 := HQX.out.blt; have h2 := HK5.out.size; omega) (by simp)).trans ((HK5.out.block B HQX.out.blt (by simp)).trans HQX.out.hB)))
        obtain ⟨t0, t1, t2, t3, t4, t5, t6⟩ := seven hY7
        have HK7 := hide k7
        have HLA := hide (And.intro la7 hF7)
        clear k7 la7 hY7 y0 y1 y2 y3 y4
        go_wp2_with (first
          | (refine wpList_store_whole rfl 46 (.tmp 9) (.tmp 131) rfl rfl B _ rfl rfl 46 _ HB7.out (by kernel_rfl) rfl (by simp [Value.oneCell']) ?_
             intro wE hE hkE hsE
             obtain ⟨r0, r1, r2, r3, r4, r5, r6⟩ := seven hE
             have HE := hide (And.intro hE hkE)
             clear hE hkE hsE t0 t1 t2 t3 t4 t5 t6)
          | fail)
        have HQE := hide (HQX.out.next HK5.out HRC.out HOK7.out HK6.out HLA.out.1 HK7.out HLA.out.2 HE.out.2 HE.out.1)
        have hsame := same_calls HQE.out.at_ HQE.out.ok HQE.out.refv
        unfold rcs at hsame
        refine hsame.mono ?_
        clear hsame
        rintro e w8 ⟨rfl, k8⟩
        have HQ8 := hide (HQE.out.keep k8)
        clear HQE k8
        go_wp2_with fail
        go_roundw
        case rel => exact ⟨k + 1, _, _, _, _, _, _, _, _, _, _, by omega, by go_num, HQ8⟩
        case measure => simp [intOf]; omega
      · by_cases hk2 : d.kind = 2
        · have hk1' : (d.kind == 1) = false := by rw [beq_eq_false_iff_ne]; exact hk1
          have hk2' : (d.kind == 2) = true := by rw [hk2]; rfl
          clear hk1 hk2
          go_wp2_with fail
          have hr := rreceive_calls HQX.out.refv d.side
          unfold rcs at hr
          obtain ⟨Z, hZ⟩ : ∃ Z, Z = st.wait d.side := ⟨_, rfl⟩
          obtain ⟨er, her⟩ : ∃ er, er = rcvE d.side := ⟨_, rfl⟩
          obtain ⟨st', hst'⟩ : ∃ s, s = st.recv d.side := ⟨_, rfl⟩
          rw [← hZ, ← her, ← hst'] at hr
          have HN := hide (And.intro hZ (And.intro her hst'))
          clear hZ her hst'
          refine hr.mono ?_
          clear hr
          rintro e w5 ⟨v', A5, c5, rfl, hs5, hv', k5⟩
          obtain ⟨B0, B1, B2, B3, d0, d1, d2, d3, rfl, rc⟩ := hv'
          have HRC := hide (rc.mono (D' := fun k => (k < wX.heap.size ∧ k ∉ F ∧ k ≠ B) ∨ wX.heap.size ≤ k) (fun k hk => .inl hk))
          have HS5 := hide hs5
          clear rc hs5
          unfold rv
          have HK5 := hide k5
          have hx5 := (k5.block X HXB.out.2.1 (by simp)).trans HXB.out.1
          have hxa : ∀ o, (w5.alloc o).heap[X]? = some (.cells #[Value.int IntKind.i64 d.kind, Value.int IntKind.i64 d.side, Value.slice A d.X.length cc, Value.int IntKind.i64 d.n, Value.int IntKind.u8 ↑d.mask.toNat] 38 (0, 0)) := fun o => (Below.heap_alloc w5 o X (Nat.lt_of_lt_of_le HXB.out.2.1 k5.size)).trans hx5
          have y0 := fun o => (five (hxa o)).1
          have y1 := fun o => (five (hxa o)).2.1
          have y2 := fun o => (five (hxa o)).2.2.1
          have y3 := fun o => (five (hxa o)).2.2.2.1
          have y4 := fun o => (five (hxa o)).2.2.2.2
          clear hx5 hxa k5 x0 x1 x2 x3 x4 e0 e1 e2 e3 e4 e5 e6
          go_wp2_with fail
          obtain ⟨w6, hw6⟩ : ∃ w6, w6 = w5.alloc (.cells (rcs st' B0 B1 B2 B3 d0 d1 d2 d3) 46) := ⟨_, rfl⟩
          have hY6 : w6.heap[w5.heap.size]? = some (.cells (rcs st' B0 B1 B2 B3 d0 d1 d2 d3) 46 (0, 0)) := by rw [hw6]; exact heap_alloc_new w5 _
          have HW6 : Hid (w6.heap.size = w5.heap.size + 1 ∧ w6.heap[w5.heap.size]? = some (.cells (rcs st' B0 B1 B2 B3 d0 d1 d2 d3) 46 (0, 0))) := ⟨by rw [hw6]; simp, hY6⟩
          have HK6 : Hid (Kept [] w5 w6) := by show Kept [] w5 w6; rw [hw6]; exact (Kept.refl _ _).alloc _
          unfold rcs at hw6
          rw [← hw6]
          clear hw6 hY6
          have HL6 := hide ((HQX.out.at_.keep HK5.out (by simp)).keep HK6.out (by simp))
          have hs := receive_calls HL6.out HQX.out.ok d.side
          rw [← HN.out.1, ← HN.out.2.1, ← HN.out.2.2] at hs
          refine hs.mono ?_
          clear hs
          rintro e w7 ⟨A7, c7, F7, rfl, hs7, la7, k7, hF7⟩
          have HOK7 : Hid st'.Ok := by show st'.Ok; rw [HN.out.2.2]; exact recv_ok HQX.out.ok _
          have cv7 : (convert 22 9 (.slice A7 Z.length c7)).run Try.prog w7 = .ok (.string (str Z)) w7 := conv_str hs7 _
          have cv5 : (convert 22 9 (.slice A5 Z.length c5)).run Try.prog w7 = .ok (.string (str Z)) w7 := conv_str ((HS5.out.keep HK6.out (by simp)).keep k7 (fun x hx => hx.2.1)) _
          clear hs7
          have hY7 := (k7.block w5.heap.size (by rw [HW6.out.1]; simp) (fun h => by have h1 := HQX.out.at_.lt _ h; have h2 := HK5.out.size; omega)).trans HW6.out.2
          have HB7 := hide ((k7.block B (by have h1 := HQX.out.blt; have h2 := HK5.out.size; have h3 := HK6.out.size; omega) HQX.out.bF).trans ((HK6.out.block B (by have h1 := HQX.out.blt; have h2 := HK5.out.size; omega) (by simp)).trans ((HK5.out.block B HQX.out.blt (by simp)).trans HQX.out.hB)))
          obtain ⟨t0, t1, t2, t3, t4, t5, t6⟩ := seven hY7
          have HK7 := hide k7
          have HLA := hide (And.intro la7 (fun x hx => Or.inl (hF7 x hx) : ∀ x ∈ F7, x ∈ F ∨ (w6.heap.size ≤ x ∧ x < w7.heap.size)))
          clear k7 la7 hY7 y0 y1 y2 y3 y4
          go_wp2_with (first
            | (refine wpList_store_whole rfl 46 (.tmp 9) (.tmp 159) rfl rfl B _ rfl rfl 46 _ HB7.out (by kernel_rfl) rfl (by simp [Value.oneCell']) ?_
               intro wE hE hkE hsE
               obtain ⟨r0, r1, r2, r3, r4, r5, r6⟩ := seven hE
               have HE := hide (And.intro hE hkE)
               clear hE hkE hsE t0 t1 t2 t3 t4 t5 t6)
            | fail)
          have HQE := hide (HQX.out.next HK5.out HRC.out HOK7.out HK6.out HLA.out.1 HK7.out HLA.out.2 HE.out.2 HE.out.1)
          have hsame := same_calls HQE.out.at_ HQE.out.ok HQE.out.refv
          unfold rcs at hsame
          refine hsame.mono ?_
          clear hsame
          rintro e w8 ⟨rfl, k8⟩
          have HQ8 := hide (HQE.out.keep k8)
          clear HQE k8
          go_wp2_with fail
          go_roundw
          case rel => exact ⟨k + 1, _, _, _, _, _, _, _, _, _, _, by omega, by go_num, HQ8⟩
          case measure => simp [intOf]; omega
        · by_cases hk3 : d.kind = 3
          · have hk1' : (d.kind == 1) = false := by rw [beq_eq_false_iff_ne]; exact hk1
            have hk2' : (d.kind == 2) = false := by rw [beq_eq_false_iff_ne]; exact hk2
            have hk3' : (d.kind == 3) = true := by rw [hk3]; rfl
            clear hk1 hk2 hk3
            go_wp2_with fail
            have hr := rspoil_calls HQX.out.refv HQX.out.ok d.side d.n d.mask
            unfold rcs at hr
            obtain ⟨er, her⟩ : ∃ er, er = st.spE d.side d.n := ⟨_, rfl⟩
            obtain ⟨st', hst'⟩ : ∃ s, s = st.spA d.side d.n d.mask := ⟨_, rfl⟩
            rw [← her, ← hst'] at hr
            have HN := hide (And.intro her hst')
            clear her hst'
            refine hr.mono ?_
            clear hr
            rintro e w5 ⟨v', rfl, hv', k5⟩
            obtain ⟨B0, B1, B2, B3, d0, d1, d2, d3, rfl, rc⟩ := hv'
            have HRC := hide rc
            clear rc
            unfold rv
            have HK5 := hide k5
            have hx5 := (k5.block X HXB.out.2.1 (by simp)).trans HXB.out.1
            have hxa : ∀ o, (w5.alloc o).heap[X]? = some (.cells #[Value.int IntKind.i64 d.kind, Value.int IntKind.i64 d.side, Value.slice A d.X.length cc, Value.int IntKind.i64 d.n, Value.int IntKind.u8 ↑d.mask.toNat] 38 (0, 0)) := fun o => (Below.heap_alloc w5 o X (Nat.lt_of_lt_of_le HXB.out.2.1 k5.size)).trans hx5
            have y0 := fun o => (five (hxa o)).1
            have y1 := fun o => (five (hxa o)).2.1
            have y2 := fun o => (five (hxa o)).2.2.1
            have y3 := fun o => (five (hxa o)).2.2.2.1
            have y4 := fun o => (five (hxa o)).2.2.2.2
            clear hx5 hxa k5 x0 x1 x2 x3 x4 e0 e1 e2 e3 e4 e5 e6
            go_wp2_with fail
            obtain ⟨w6, hw6⟩ : ∃ w6, w6 = w5.alloc (.cells (rcs st' B0 B1 B2 B3 d0 d1 d2 d3) 46) := ⟨_, rfl⟩
            have hY6 : w6.heap[w5.heap.size]? = some (.cells (rcs st' B0 B1 B2 B3 d0 d1 d2 d3) 46 (0, 0)) := by rw [hw6]; exact heap_alloc_new w5 _
            have HW6 : Hid (w6.heap.size = w5.heap.size + 1 ∧ w6.heap[w5.heap.size]? = some (.cells (rcs st' B0 B1 B2 B3 d0 d1 d2 d3) 46 (0, 0))) := ⟨by rw [hw6]; simp, hY6⟩
            have HK6 : Hid (Kept [] w5 w6) := by show Kept [] w5 w6; rw [hw6]; exact (Kept.refl _ _).alloc _
            unfold rcs at hw6
            rw [← hw6]
            clear hw6 hY6
            have HL6 := hide ((HQX.out.at_.keep HK5.out (by simp)).keep HK6.out (by simp))
            have hs := spoil_calls HL6.out HQX.out.ok d.side d.n d.mask
            rw [← HN.out.1, ← HN.out.2] at hs
            refine hs.mono ?_
            clear hs
            rintro e w7 ⟨rfl, la7, k7⟩
            have HOK7 : Hid st'.Ok := by show st'.Ok; rw [HN.out.2]; exact spA_ok HQX.out.ok _ _ _
            have hY7 := (k7.block w5.heap.size (by rw [HW6.out.1]; simp) (fun h => by have h1 := HQX.out.at_.lt _ h; have h2 := HK5.out.size; omega)).trans HW6.out.2
            have HB7 := hide ((k7.block B (by have h1 := HQX.out.blt; have h2 := HK5.out.size; have h3 := HK6.out.size; omega) HQX.out.bF).trans ((HK6.out.block B (by have h1 := HQX.out.blt; have h2 := HK5.out.size; omega) (by simp)).trans ((HK5.out.block B HQX.out.blt (by simp)).trans HQX.out.hB)))
            obtain ⟨t0, t1, t2, t3, t4, t5, t6⟩ := seven hY7
            have HK7 := hide k7
            have HLA := hide (And.intro la7 (fun x hx => Or.inl hx : ∀ x ∈ F, x ∈ F ∨ (w6.heap.size ≤ x ∧ x < w7.heap.size)))
            clear k7 la7 hY7 y0 y1 y2 y3 y4
            go_wp2_with (first
              | (refine wpList_store_whole rfl 46 (.tmp 9) (.tmp 183) rfl rfl B _ rfl rfl 46 _ HB7.out (by kernel_rfl) rfl (by simp [Value.oneCell']) ?_
                 intro wE hE hkE hsE
                 obtain ⟨r0, r1, r2, r3, r4, r5, r6⟩ := seven hE
                 have HE := hide (And.intro hE hkE)
                 clear hE hkE hsE t0 t1 t2 t3 t4 t5 t6)
              | fail)
            have HQE := hide (HQX.out.next HK5.out HRC.out HOK7.out HK6.out HLA.out.1 HK7.out HLA.out.2 HE.out.2 HE.out.1)
            have hsame := same_calls HQE.out.at_ HQE.out.ok HQE.out.refv
            unfold rcs at hsame
            refine hsame.mono ?_
            clear hsame
            rintro e w8 ⟨rfl, k8⟩
            have HQ8 := hide (HQE.out.keep k8)
            clear HQE k8
            go_wp2_with fail
            go_roundw
            case rel => exact ⟨k + 1, _, _, _, _, _, _, _, _, _, _, by omega, by go_num, HQ8⟩
            case measure => simp [intOf]; omega
          · have hk1' : (d.kind == 1) = false := by rw [beq_eq_false_iff_ne]; exact hk1
            have hk2' : (d.kind == 2) = false := by rw [beq_eq_false_iff_ne]; exact hk2
            have hk3' : (d.kind == 3) = false := by rw [beq_eq_false_iff_ne]; exact hk3
            clear hk1 hk2 hk3
            have hsame := same_calls HQX.out.at_ HQX.out.ok HQX.out.refv
            unfold rcs at hsame
            have HSAME := hide hsame
            clear hsame
            by_cases hs0 : d.side = 0
            · have hs0' : (d.side == 0) = true := by rw [hs0]; rfl
              have hs0n : (d.side != 0) = false := by rw [hs0]; rfl
              clear hs0
              go_wp2_with fail
              refine HSAME.out.mono ?_
              rintro e w8 ⟨rfl, k8⟩
              have HQ8 := hide (HQX.out.keep k8)
              go_wp2_with fail
              go_roundw
              case rel => exact ⟨k + 1, _, _, _, _, _, _, _, _, _, _, by omega, by go_num, HQ8⟩
              case measure => simp [intOf]; omega
            · have hs0' : (d.side == 0) = false := by rw [beq_eq_false_iff_ne]; exact hs0
              have hs0n : (d.side != 0) = true := by rw [bne_iff_ne]; exact hs0
              by_cases hs1 : d.side = 1
              · have hs1' : (d.side == 1) = true := by rw [hs1]; rfl
                have hs1n : (d.side != 1) = false := by rw [hs1]; rfl
                clear hs0 hs1
                go_wp2_with fail
                refine HSAME.out.mono ?_
                rintro e w8 ⟨rfl, k8⟩
                have HQ8 := hide (HQX.out.keep k8)
                go_wp2_with fail
                go_roundw
                case rel => exact ⟨k + 1, _, _, _, _, _, _, _, _, _, _, by omega, by go_num, HQ8⟩
                case measure => simp [intOf]; omega
              · have hs1' : (d.side == 1) = false := by rw [beq_eq_false_iff_ne]; exact hs1
                have hs1n : (d.side != 1) = true := by rw [bne_iff_ne]; exact hs1
                clear hs0 hs1
                have HSN : Hid (Calls Try.prog 18 #[.pointer (some ⟨b, 0, none⟩), .int .i64 d.side] wX fun e w' => e = .returned (.int .i64 0) ∧ wX = w') := sent_no d.side hs0' hs1'
                have HTN : Hid (Calls Try.prog 17 #[.pointer (some ⟨b, 0, none⟩), .int .i64 d.side] wX fun e w' => e = .returned (.slice none 0 0) ∧ wX = w') := transcript_no d.side hs0' hs1'
                go_wp2_with fail
                refine HSN.out.mono ?_
                rintro e w5 ⟨rfl, rfl⟩
                go_wp2_with fail
                refine HTN.out.mono ?_
                rintro e w5 ⟨rfl, rfl⟩
                go_wp2_with fail
                refine HSAME.out.mono ?_
                rintro e w8 ⟨rfl, k8⟩
                have HQ8 := hide (HQX.out.keep k8)
                go_wp2_with fail
                go_roundw
                case rel => exact ⟨k + 1, _, _, _, _, _, _, _, _, _, _, by omega, by go_num, HQ8⟩
                case measure => simp [intOf]; omega
    · go_wp2_with fail
      go_ret
      exact ⟨rfl, hinv.out.kept⟩

theorem run_calls (budget cut : Int) (a : Option Addr) (L : List OpD) (c : Nat) (w : World) (hops : OpsAt w w.heap.size a L) (hm : L.length ≤ 9223372036854775807)
    (hX : ∀ i (hi : i < L.length), L[i].X.length ≤ 140737488351232) (c0 : -9223372036854775808 ≤ cut) (c1 : cut ≤ 9223372036854775807) :
    Calls Try.prog 9 #[.int .i64 budget, .int .i64 cut, .slice a L.length c] w fun e w' => e = .returned (.bool true) ∧ Kept [] w w' := by
  by_cases hb : budget < 0 ∨ 1073741824 < budget
  · exact run_bad budget cut a L c w hb hops hm hX
  · cases hf : fewB L with
    | false => exact run_many budget cut a L c w (by omega) (by omega) hf hops hm hX
    | true => exact run_main budget cut a L c w (by omega) (by omega) hf hops hm hX c0 c1
end Go.Proofs.Ytbajpofmaffpgaa
