/- The reference's Send from side 1. -/
import Derived.Test.YtbajpofmaffpgaaRd
import Derived.Deep.LoopGhost
import Derived.Deep.CutRange
namespace Go.Proofs.Ytbajpofmaffpgaa
open Go.RowKit
set_option linter.unusedSimpArgs false
set_option linter.unusedVariables false
set_option maxRecDepth 100000

theorem rv_put_1 (st : LS) (ys : List UInt8) (d : Bool) (A0 A1 A2 A3 : Option Addr) (c0 c1 c2 c3 : Nat) : rv (st.put 1 ys d) A0 A1 A2 A3 c0 c1 c2 c3 =
    .agg #[Value.int IntKind.i64 st.budget, Value.int IntKind.i64 st.cut, Value.slice A0 st.s0.length c0, Value.slice A2 (st.s1 ++ ys).length c2, Value.slice A1 (st.q0 ++ ys).length c1, Value.slice A3 st.q1.length c3, Value.bool d] := by
  simp [rv, LS.put]

set_option maxHeartbeats 4000000 in
theorem rsend_go_1 {w : World} {D : Nat → Prop} {v : Value} {st : LS} (h : RefV w D v st) (hok : st.Ok) {A : Option Addr} {xs : List UInt8} {c : Nat} {DX : Nat → Prop} (hsx : Src w DX A xs) (hd : st.down = false) (hX : xs.length ≤ 300) :
    Calls Try.prog 21 #[v, .int .i64 1, .slice A xs.length c] w fun e w' => ∃ v', e = .returned (.tuple #[v', .int .i64 ((st.arr xs).length : Int), .int .i64 (st.err xs)]) ∧ RefV w' (fun k => D k ∨ w.heap.size ≤ k) v' (st.send 1 xs) ∧ Kept [] w w' := by
  obtain ⟨A0, A1, A2, A3, c0, c1, c2, c3, rfl, hc⟩ := h
  have b0 := hok.b0
  have b1 := hok.b1
  have b2 := hok.c2
  have hcc0 := hok.c0
  have hcc1 := hok.c1
  have HC := hide hc
  have HOK := hide hok
  have HB2 := hide b2
  have HSX := hide hsx
  have HD := hide hd
  have hxl : (xs.length : Int) ≤ 300 := by omega
  obtain ⟨tt, htt⟩ : ∃ t, t = st.total := ⟨_, rfl⟩
  rw [← htt] at b0
  have hlens : (st.s0.length : Int) + (st.s1.length : Int) = (tt : Int) := by rw [htt]; unfold LS.total; omega
  have HLENS := hide hlens
  have HTT := hide htt
  have hl0 : (st.s0.length : Int) ≤ 1073741824 := by omega
  have hl1 : (st.s1.length : Int) ≤ 1073741824 := by omega
  unfold rv
  rw [hd]
  clear hc hok b2 hsx hd htt
  go_enter Try.func21, Try.ntmps21
  go_wp2_with fail
  refine (rside_yes _ _ (by omega)).mono ?_
  rintro e W ⟨rfl, hW⟩
  obtain ⟨hB, hZ, hK, hWs⟩ := two_new hW
  obtain ⟨B, hBe⟩ : ∃ B, B = w.heap.size := ⟨_, rfl⟩
  rw [← hBe] at hB hZ hWs ⊢
  have HB := hide hB
  have HZ := hide hZ
  have HK := hide hK
  have HWS := hide hWs
  have HBe := hide hBe
  have HJJ : Hid (∀ wx, Kept [] W wx → JB B #[Value.int IntKind.i64 st.budget, Value.int IntKind.i64 st.cut, Value.slice A0 st.s0.length c0, Value.slice A2 st.s1.length c2, Value.slice A1 st.q0.length c1, Value.slice A3 st.q1.length c3, Value.bool false] wx) := fun wx hk => (hk.block B (by have := HWS.out; omega) (by simp)).trans HB.out
  have hkd : Kept [] W W.drew := (Kept.refl _ _).drew
  have HKD := hide hkd
  obtain ⟨e0, e1, e2, e3, e4, e5, e6⟩ := seven HB.out
  clear hW hB hZ hK hWs hBe hkd
  have hwr : IntKind.i64.wrap (st.budget - (tt : Int)) = st.budget - (tt : Int) := by rw [IntKind.wrap_i64]; omega
  clear hlens
  go_wp2_with fail
  refine wp_region_noPanic ?_
  refine begin_W 5 (JB B #[Value.int IntKind.i64 st.budget, Value.int IntKind.i64 st.cut, Value.slice A0 st.s0.length c0, Value.slice A2 st.s1.length c2, Value.slice A1 st.q0.length c1, Value.slice A3 st.q1.length c3, Value.bool false]) (by kernel_rfl) (HJJ.out _ HKD.out) (fun hS => ?_)
  clear e0 e1 e2 e3 e4 e5 e6
  generalize hWd : W.drew = Wd at *
  refine take_free (i := 0) (oi := _) (v := .slice A xs.length c) rfl (by kernel_rfl) (by kernel_rfl) (by kernel_rfl) (by kernel_rfl) (fun _ _ _ h => h) (by kernel_rfl) hS (fun w hJ => ?hy) (fun hS => ?_)
  case hy => go_simp; (try with_reducible rfl); (try (intro h; omega))
  try simp only [Act.put, List.getElem_toArray, List.getElem_cons_succ, List.getElem_cons_zero, List.setIfInBounds_toArray, List.set_cons_zero, List.set_cons_succ]
  refine take_free (i := 1) (oi := _) (v := .int .i64 (xs.length : Int)) rfl (by kernel_rfl) (by kernel_rfl) (by kernel_rfl) (by kernel_rfl) (fun _ _ _ h => h) (by kernel_rfl) hS (fun w hJ => ?hy) (fun hS => ?_)
  case hy => go_simp; (try with_reducible rfl); (try (intro h; omega))
  try simp only [Act.put, List.getElem_toArray, List.getElem_cons_succ, List.getElem_cons_zero, List.setIfInBounds_toArray, List.set_cons_zero, List.set_cons_succ]
  refine take_free (i := 2) (oi := _) (v := .pointer (some ⟨B, 0, none⟩)) rfl (by kernel_rfl) (by kernel_rfl) (by kernel_rfl) (by kernel_rfl) (fun _ _ _ h => h) (by kernel_rfl) hS (fun w hJ => ?hy) (fun hS => ?_)
  case hy => go_simp; (try with_reducible rfl); (try (intro h; omega))
  try simp only [Act.put, List.getElem_toArray, List.getElem_cons_succ, List.getElem_cons_zero, List.setIfInBounds_toArray, List.set_cons_zero, List.set_cons_succ]
  refine take_free (i := 3) (oi := _) (v := .int .i64 st.budget) rfl (by kernel_rfl) (by kernel_rfl) (by kernel_rfl) (by kernel_rfl) (fun _ _ _ h => h) (by kernel_rfl) hS (fun w hJ => ?hy) (fun hS => ?_)
  case hy => obtain ⟨e0, e1, e2, e3, e4, e5, e6⟩ := seven hJ; go_simp; (try with_reducible rfl); (try (intro h; omega))
  try simp only [Act.put, List.getElem_toArray, List.getElem_cons_succ, List.getElem_cons_zero, List.setIfInBounds_toArray, List.set_cons_zero, List.set_cons_succ]
  refine take_free (i := 4) (oi := _) (v := .agg #[Value.int IntKind.i64 st.budget, Value.int IntKind.i64 st.cut, Value.slice A0 st.s0.length c0, Value.slice A2 st.s1.length c2, Value.slice A1 st.q0.length c1, Value.slice A3 st.q1.length c3, Value.bool false]) rfl (by kernel_rfl) (by kernel_rfl) (by kernel_rfl) (by kernel_rfl) (fun _ _ _ h => h) (by kernel_rfl) hS (fun w hJ => ?hy) (fun hS => ?_)
  case hy => obtain ⟨e0, e1, e2, e3, e4, e5, e6⟩ := seven hJ; go_simp; (try with_reducible rfl); (try (intro h; omega))
  try simp only [Act.put, List.getElem_toArray, List.getElem_cons_succ, List.getElem_cons_zero, List.setIfInBounds_toArray, List.set_cons_zero, List.set_cons_succ]
  refine only_W (i := 5) rfl (by kernel_rfl) (by kernel_rfl) (fun K hK => ?_)
  go_simp
  refine (rtotal_raw _ _ (by omega) _ _ _ _ _ _ _ _ _ _).mono ?_
  rintro e w7 ⟨rfl, hk7⟩
  rw [HLENS.out]
  have K7 : Kept [] W w7 := HKD.out.new hk7 (by simp)
  refine hK _ _ (Still.later (by kernel_rfl) (HJJ.out _ K7)) (fun hS => ?_)
  clear hK K
  try simp only [Act.put, List.getElem_toArray, List.getElem_cons_succ, List.getElem_cons_zero, List.setIfInBounds_toArray, List.set_cons_zero, List.set_cons_succ]
  refine take_free (i := 6) (oi := _) (v := .int .i64 (st.budget - (tt : Int))) rfl (by kernel_rfl) (by kernel_rfl) (by kernel_rfl) (by kernel_rfl) (fun _ _ _ h => h) (by kernel_rfl) hS (fun w hJ => ?hy) (fun hS => ?_)
  case hy => go_simp; (try with_reducible rfl); (try (intro h; omega))
  try simp only [Act.put, List.getElem_toArray, List.getElem_cons_succ, List.getElem_cons_zero, List.setIfInBounds_toArray, List.set_cons_zero, List.set_cons_succ]
  by_cases hfull : st.budget - (tt : Int) < (xs.length : Int)
  · refine take_free (i := 7) (oi := _) (v := .bool true) rfl (by kernel_rfl) (by kernel_rfl) (by kernel_rfl) (by kernel_rfl) (fun _ _ _ h => h) (by kernel_rfl) hS (fun w hJ => ?hy) (fun hS => ?_)
    case hy => go_simp; (try with_reducible rfl); (try (intro h; omega))
    try simp only [Act.put, List.getElem_toArray, List.getElem_cons_succ, List.getElem_cons_zero, List.setIfInBounds_toArray, List.set_cons_zero, List.set_cons_succ]
    refine done_W (by kernel_rfl) (NoPanic.normal ?_)
    obtain ⟨e0, e1, e2, e3, e4, e5, e6⟩ := seven (HJJ.out _ K7)
    have HZ7 := hide ((K7.block (B + 1) (by have := HWS.out; omega) (by simp)).trans HZ.out)
    clear hS
    go_wp2_with (first
      | (refine wpList_store_whole rfl 46 (.tmp 6) (.tmp 25) rfl rfl (B + 1) _ rfl rfl 46 _ HZ7.out (by kernel_rfl) rfl (by simp [Value.oneCell']) ?_
         intro wE hE hkE hsE
         obtain ⟨r0, r1, r2, r3, r4, r5, r6⟩ := seven hE
         have HE := hide (And.intro hE (And.intro hkE hsE))
         clear hE hkE hsE e0 e1 e2 e3 e4 e5 e6)
      | fail)
    (try simp only [Exit.inBlock, Exit.then])
    refine bodyPost_ret (by simp [results, Try.results21, go_sem, *]; try rfl) rfl ?_
    have hf' : st.budget - (st.total : Int) < xs.length := by rw [← HTT.out]; exact hfull
    have d1 := HD.out
    have s1 : st.arr xs = [] := by simp [LS.arr, d1, hf']
    have s2 : st.err xs = 7 := by simp [LS.err, d1, hf']
    have s3 : st.send 1 xs = st := by
      unfold LS.send
      rw [s1, show st.goes xs = st.down from by simp [LS.goes, d1, hf'], put_nil]
    rw [s1, s2, s3]
    have KE : Kept [] w wE := (HK.out.new K7 (by simp)).new HE.out.2.1 (by have := HBe.out; simp; omega)
    exact ⟨_, rfl, ⟨A0, A1, A2, A3, c0, c1, c2, c3, by simp [rv, d1], (HC.out.keep KE (by simp)).mono (fun k hk => .inl hk)⟩, KE⟩
  · refine take_free (i := 7) (oi := _) (v := .bool false) rfl (by kernel_rfl) (by kernel_rfl) (by kernel_rfl) (by kernel_rfl) (fun _ _ _ h => h) (by kernel_rfl) hS (fun w hJ => ?hy) (fun hS => ?_)
    case hy => go_simp; (try with_reducible rfl); (try (intro h; omega))
    try simp only [Act.put, List.getElem_toArray, List.getElem_cons_succ, List.getElem_cons_zero, List.setIfInBounds_toArray, List.set_cons_zero, List.set_cons_succ]
    refine done_W (by kernel_rfl) (NoPanic.normal ?_)
    have hfull' : (tt : Int) + xs.length ≤ st.budget := by omega
    have HFU := hide hfull
    have HI0 : Hid (RI D w w7 B #[Value.int IntKind.i64 st.budget, Value.int IntKind.i64 st.cut, Value.slice A0 st.s0.length c0, Value.slice A2 st.s1.length c2, Value.slice A1 st.q0.length c1, Value.slice A3 st.q1.length c3, Value.bool false] A2 A1 st.s1 st.q0) := by
      have hKw := HK.out.new K7 (by simp)
      have hcl := (HC.out.lt.keep hKw (by simp)).mono (D' := RE D w) (fun k hk => .inl hk)
      exact ⟨HJJ.out _ K7, (K7.block (B + 1) (by have := HWS.out; omega) (by simp)).trans HZ.out, hKw, hcl.s1, hcl.q0, HBe.out, by have := K7.size; have := HWS.out; omega⟩
    clear hS hk7 K7 hfull HJJ HB HZ HK HKD hWd HWS
    go_wp2_with fail
    go_loopg [9] xs.length (fun g i wr => ∃ (k : Nat) (s q : List UInt8) (S : Option Addr) (cS : Nat) (Qa : Option Addr) (cQ n m : Nat), k ≤ xs.length ∧ g = xs.length - k ∧ i = .int .i64 k ∧
      Hid (RI D w wr B #[Value.int IntKind.i64 st.budget, Value.int IntKind.i64 st.cut, Value.slice A0 st.s0.length c0, Value.slice S n cS, Value.slice Qa m cQ, Value.slice A3 st.q1.length c3, Value.bool false] S Qa s q ∧ s = st.s1 ++ xs.take k ∧ q = st.q0 ++ xs.take k ∧ n = s.length ∧ m = q.length ∧ (0 ≤ st.cut → (st.total : Int) + k ≤ st.cut)))
    case atStart => exact ⟨0, st.s1, st.q0, A2, c2, A1, c1, st.s1.length, st.q0.length, Nat.zero_le _, by simp, rfl, HI0.out, by simp, by simp, rfl, rfl, by simpa using HB2.out⟩
    case round =>
      clear HI0
      obtain ⟨k, s, q, S, cS, Qa, cQ, n, m, hk, rfl, rfl, hinv⟩ := hrel
      have hnk : (st.s0.length : Int) + (n : Int) = (tt : Int) + k := by
        have h1 := hinv.out.2.2.2.1
        rw [hinv.out.2.1, List.length_append, List.length_take, Nat.min_eq_left hk] at h1
        have := HLENS.out
        omega
      have hn31 : (n : Int) ≤ 2147483648 := by omega
      have hq31 : m ≤ 2147483648 := by
        have h1 := hinv.out.2.2.2.2.1
        rw [hinv.out.2.2.1, List.length_append, List.length_take, Nat.min_eq_left hk] at h1
        have := HOK.out.q0
        omega
      have HNK := hide hnk
      clear hnk
      by_cases hlt : k < xs.length
      · obtain ⟨ad, rfl, _, hcX⟩ := HSX.out.at_ (by omega)
        obtain ⟨x, hx⟩ : ∃ x, x = xs[k] := ⟨_, rfl⟩
        have hcx : w.cell? (ad.add k) = some (.int .u8 (x.toNat : Int)) := hcX k _ (by rw [bs_getElem?, List.getElem?_eq_getElem hlt, hx]; rfl)
        have HCX : Hid (∀ wx, Kept [] wr wx → wx.cell? (ad.add k) = some (.int .u8 (x.toNat : Int))) := fun wx hkx => ((hinv.out.1.k.new hkx (by simp)).cell (World.block_lt_of_cell? w _ hcx) (by simp)).trans hcx
        have HCW : Hid (∀ wx, Kept [] w wx → wx.cell? (ad.add k) = some (.int .u8 (x.toNat : Int))) := fun wx hkx => (hkx.cell (World.block_lt_of_cell? w _ hcx) (by simp)).trans hcx
        have HADB : Hid ((ad.add k).block < w.heap.size) := World.block_lt_of_cell? w _ hcx
        have HX := hide hx
        clear hcX hcx hx
        have hk0 : (0 : Int) ≤ (k : Int) := by omega
        have hk1 : (k : Int) < (xs.length : Int) := by omega
        obtain ⟨bb, hbb⟩ : ∃ bb : Bool, bb = decide (0 ≤ st.cut ∧ st.cut ≤ (tt : Int) + k) := ⟨_, rfl⟩
        have HBB := hide hbb
        clear hbb
        go_wp2_with fail
        go_cut [41] from 26 to 76 (fun v wx => v = .bool bb ∧ Hid (Kept [] wr wx))
        case first =>
          have hkd : Kept [] wr wr.drew := (Kept.refl _ _).drew
          by_cases hc0 : 0 ≤ st.cut
          · have HJ0 : Hid (∀ wx, Kept [] wr wx → JB B #[Value.int IntKind.i64 st.budget, Value.int IntKind.i64 st.cut, Value.slice A0 st.s0.length c0, Value.slice S n cS, Value.slice Qa m cQ, Value.slice A3 st.q1.length c3, Value.bool false] wx) := fun wx hkx => (hinv.out.1.keep hkx).hB
            have HKD := hide hkd
            clear hkd
            refine wp_region_noPanic ?_
            refine begin_W 5 (JB B #[Value.int IntKind.i64 st.budget, Value.int IntKind.i64 st.cut, Value.slice A0 st.s0.length c0, Value.slice S n cS, Value.slice Qa m cQ, Value.slice A3 st.q1.length c3, Value.bool false]) (by kernel_rfl) (HJ0.out _ HKD.out) (fun hS => ?_)
            generalize hWd : wr.drew = Wd at *
            refine take_free (i := 0) (oi := _) (v := .pointer (some ⟨B, 1, none⟩)) rfl (by kernel_rfl) (by kernel_rfl) (by kernel_rfl) (by kernel_rfl) (fun _ _ _ h => h) (by kernel_rfl) hS (fun w hJ => ?hy) (fun hS => ?_)
            case hy => go_simp; (try with_reducible rfl); (try (intro h; omega))
            try simp only [Act.put, List.getElem_toArray, List.getElem_cons_succ, List.getElem_cons_zero, List.setIfInBounds_toArray, List.set_cons_zero, List.set_cons_succ]
            refine take_free (i := 1) (oi := _) (v := .int .i64 st.cut) rfl (by kernel_rfl) (by kernel_rfl) (by kernel_rfl) (by kernel_rfl) (fun _ _ _ h => h) (by kernel_rfl) hS (fun w hJ => ?hy) (fun hS => ?_)
            case hy => obtain ⟨e0, e1, e2, e3, e4, e5, e6⟩ := seven hJ; go_simp; (try with_reducible rfl); (try (intro h; omega))
            try simp only [Act.put, List.getElem_toArray, List.getElem_cons_succ, List.getElem_cons_zero, List.setIfInBounds_toArray, List.set_cons_zero, List.set_cons_succ]
            refine take_free (i := 2) (oi := _) (v := .bool true) rfl (by kernel_rfl) (by kernel_rfl) (by kernel_rfl) (by kernel_rfl) (fun _ _ _ h => h) (by kernel_rfl) hS (fun w hJ => ?hy) (fun hS => ?_)
            case hy => go_simp; (try with_reducible rfl); (try (intro h; omega))
            try simp only [Act.put, List.getElem_toArray, List.getElem_cons_succ, List.getElem_cons_zero, List.setIfInBounds_toArray, List.set_cons_zero, List.set_cons_succ]
            refine take_free (i := 3) (oi := _) (v := .bool true) rfl (by kernel_rfl) (by kernel_rfl) (by kernel_rfl) (by kernel_rfl) (fun _ _ _ h => h) (by kernel_rfl) hS (fun w hJ => ?hy) (fun hS => ?_)
            case hy => go_simp; (try with_reducible rfl); (try (intro h; omega))
            try simp only [Act.put, List.getElem_toArray, List.getElem_cons_succ, List.getElem_cons_zero, List.setIfInBounds_toArray, List.set_cons_zero, List.set_cons_succ]
            refine take_free (i := 4) (oi := _) (v := .agg #[Value.int IntKind.i64 st.budget, Value.int IntKind.i64 st.cut, Value.slice A0 st.s0.length c0, Value.slice S n cS, Value.slice Qa m cQ, Value.slice A3 st.q1.length c3, Value.bool false]) rfl (by kernel_rfl) (by kernel_rfl) (by kernel_rfl) (by kernel_rfl) (fun _ _ _ h => h) (by kernel_rfl) hS (fun w hJ => ?hy) (fun hS => ?_)
            case hy => obtain ⟨e0, e1, e2, e3, e4, e5, e6⟩ := seven hJ; go_simp; (try with_reducible rfl); (try (intro h; omega))
            try simp only [Act.put, List.getElem_toArray, List.getElem_cons_succ, List.getElem_cons_zero, List.setIfInBounds_toArray, List.set_cons_zero, List.set_cons_succ]
            refine take_free (i := 6) (oi := _) (v := .pointer (some ⟨B, 1, none⟩)) rfl (by kernel_rfl) (by kernel_rfl) (by kernel_rfl) (by kernel_rfl) (fun _ _ _ h => h) (by kernel_rfl) hS (fun w hJ => ?hy) (fun hS => ?_)
            case hy => go_simp; (try with_reducible rfl); (try (intro h; omega))
            try simp only [Act.put, List.getElem_toArray, List.getElem_cons_succ, List.getElem_cons_zero, List.setIfInBounds_toArray, List.set_cons_zero, List.set_cons_succ]
            refine take_free (i := 7) (oi := _) (v := .int .i64 st.cut) rfl (by kernel_rfl) (by kernel_rfl) (by kernel_rfl) (by kernel_rfl) (fun _ _ _ h => h) (by kernel_rfl) hS (fun w hJ => ?hy) (fun hS => ?_)
            case hy => obtain ⟨e0, e1, e2, e3, e4, e5, e6⟩ := seven hJ; go_simp; (try with_reducible rfl); (try (intro h; omega))
            try simp only [Act.put, List.getElem_toArray, List.getElem_cons_succ, List.getElem_cons_zero, List.setIfInBounds_toArray, List.set_cons_zero, List.set_cons_succ]
            refine only_W (i := 5) rfl (by kernel_rfl) (by kernel_rfl) (fun K hK => ?_)
            go_simp
            refine (rtotal_raw _ _ (by omega) _ _ _ _ _ _ _ _ _ _).mono ?_
            rintro e w7 ⟨rfl, hk7⟩
            rw [HNK.out]
            have K7 : Kept [] wr w7 := HKD.out.new hk7 (by simp)
            refine hK _ _ (Still.later (by kernel_rfl) (HJ0.out _ K7)) (fun hS => ?_)
            clear hK K
            try simp only [Act.put, List.getElem_toArray, List.getElem_cons_succ, List.getElem_cons_zero, List.setIfInBounds_toArray, List.set_cons_zero, List.set_cons_succ]
            have HB1 : Hid (bb = decide (st.cut ≤ (tt : Int) + k)) := by
              show bb = _
              rw [HBB.out]
              simp [hc0]
            by_cases hcc : st.cut ≤ (tt : Int) + k
            · have hbt : bb = true := by rw [HB1.out]; simpa using hcc
              refine take_free (i := 8) (oi := _) (v := .bool true) rfl (by kernel_rfl) (by kernel_rfl) (by kernel_rfl) (by kernel_rfl) (fun _ _ _ h => h) (by kernel_rfl) hS (fun w hJ => ?hy) (fun hS => ?_)
              case hy => go_simp; (try with_reducible rfl); (try (intro h; omega))
              try simp only [Act.put, List.getElem_toArray, List.getElem_cons_succ, List.getElem_cons_zero, List.setIfInBounds_toArray, List.set_cons_zero, List.set_cons_succ]
              refine take_free (i := 9) (oi := _) (v := .bool true) rfl (by kernel_rfl) (by kernel_rfl) (by kernel_rfl) (by kernel_rfl) (fun _ _ _ h => h) (by kernel_rfl) hS (fun w hJ => ?hy) (fun hS => ?_)
              case hy => go_simp; (try with_reducible rfl); (try (intro h; omega))
              try simp only [Act.put, List.getElem_toArray, List.getElem_cons_succ, List.getElem_cons_zero, List.setIfInBounds_toArray, List.set_cons_zero, List.set_cons_succ]
              refine done_W (by kernel_rfl) (NoPanic.normal ?_)
              go_wp2_with fail
              go_meet
              exact ⟨by rw [hbt], K7⟩
            · have hbt : bb = false := by rw [HB1.out]; simpa using hcc
              refine take_free (i := 8) (oi := _) (v := .bool false) rfl (by kernel_rfl) (by kernel_rfl) (by kernel_rfl) (by kernel_rfl) (fun _ _ _ h => h) (by kernel_rfl) hS (fun w hJ => ?hy) (fun hS => ?_)
              case hy => go_simp; (try with_reducible rfl); (try (intro h; omega))
              try simp only [Act.put, List.getElem_toArray, List.getElem_cons_succ, List.getElem_cons_zero, List.setIfInBounds_toArray, List.set_cons_zero, List.set_cons_succ]
              refine take_free (i := 9) (oi := _) (v := .bool false) rfl (by kernel_rfl) (by kernel_rfl) (by kernel_rfl) (by kernel_rfl) (fun _ _ _ h => h) (by kernel_rfl) hS (fun w hJ => ?hy) (fun hS => ?_)
              case hy => go_simp; (try with_reducible rfl); (try (intro h; omega))
              try simp only [Act.put, List.getElem_toArray, List.getElem_cons_succ, List.getElem_cons_zero, List.setIfInBounds_toArray, List.set_cons_zero, List.set_cons_succ]
              refine done_W (by kernel_rfl) (NoPanic.normal ?_)
              go_wp2_with fail
              go_meet
              exact ⟨by rw [hbt], K7⟩
          · have hbt : bb = false := by rw [HBB.out]; simp [hc0]
            obtain ⟨e0, e1, e2, e3, e4, e5, e6⟩ := seven hinv.out.1.hB
            go_quiet (fail)
            go_wp2_with fail
            go_meet
            exact ⟨by rw [hbt], (Kept.refl _ _).drewN _⟩
        case rest =>
          obtain ⟨rfl, hkx⟩ := hcut
          cases bb with
          | true =>
            have hcut' : 0 ≤ st.cut ∧ st.cut ≤ (tt : Int) + k := by have := HBB.out; simpa using this
            have hIc := hinv.out.1.keep hkx.out
            have hbC : (wc.setCell ⟨B, 6, none⟩ (.bool true)).heap[B]? = some (.cells #[Value.int IntKind.i64 st.budget, Value.int IntKind.i64 st.cut, Value.slice A0 st.s0.length c0, Value.slice S n cS, Value.slice Qa m cQ, Value.slice A3 st.q1.length c3, Value.bool true] 46 (0, 0)) := heap_setCell_same wc B 6 _ 46 (.bool true) hIc.hB
            have kC : Kept [B] wc (wc.setCell ⟨B, 6, none⟩ (.bool true)) := (Kept.refl _ _).setCell _ _ (.inl (by simp))
            have HZC := hide ((kC.block (B + 1) (by have := hIc.z; omega) (by simp)).trans hIc.hZ)
            have HIC := hide hIc
            have HKC := hide kC
            obtain ⟨g0, g1, g2, g3, g4, g5, g6⟩ := seven hIc.hB
            obtain ⟨f0, f1, f2, f3, f4, f5, f6⟩ := seven_free hIc.hB
            obtain ⟨p0, p1, p2, p3, p4, p5, p6⟩ := seven hbC
            clear hIc hbC kC g0 g1 g2 g3 g4 g5 f0 f1 f2 f3 f4 f5
            go_wp2_with (first
              | (refine wpList_store_whole rfl 46 (.tmp 6) (.tmp 43) rfl rfl (B + 1) _ rfl rfl 46 _ HZC.out (by kernel_rfl) rfl (by simp [Value.oneCell']) ?_
                 intro wE hE hkE hsE
                 obtain ⟨r0, r1, r2, r3, r4, r5, r6⟩ := seven hE
                 have HE := hide hkE
                 clear hE hkE hsE p0 p1 p2 p3 p4 p5 p6 g6 f6)
              | fail)
            (try simp only [Exit.inBlock, Exit.then])
            refine bodyPost_ret (by simp [results, Try.results21, go_sem, *]; try rfl) rfl ?_
            obtain ⟨fs, fq, fk⟩ := HIC.out.fin (HKC.out.trans HE.out (H := [B, B + 1]) (by simp) (by simp))
            have d1 := HD.out
            have hF : ¬ st.budget - (st.total : Int) < xs.length := by have h1 := HFU.out; rw [← HTT.out]; omega
            have hc : 0 ≤ st.cut ∧ st.cut - (st.total : Int) < xs.length := ⟨hcut'.1, by rw [← HTT.out]; omega⟩
            have hck := hinv.out.2.2.2.2.2 hcut'.1
            rw [← HTT.out] at hck
            have s1 : st.arr xs = xs.take k := by
              unfold LS.arr
              rw [if_neg (by rw [d1]; simp), if_neg hF, if_pos hc]
              congr 1
              rw [← HTT.out]
              omega
            have s2 : st.err xs = 15 := by unfold LS.err; rw [if_neg (by rw [d1]; simp), if_neg hF, if_pos hc]
            have s3 : st.goes xs = true := by unfold LS.goes; rw [if_neg (by rw [d1]; simp), if_neg hF]; simpa using hc
            have s4 : st.send 1 xs = st.put 1 (xs.take k) true := by unfold LS.send; rw [s1, s3]
            rw [s2, s4, s1, List.length_take, Nat.min_eq_left hk]
            have hn1 := hinv.out.2.2.2.1
            have hm1 := hinv.out.2.2.2.2.1
            have hs1 := hinv.out.2.1
            have hq1 := hinv.out.2.2.1
            rw [hs1] at hn1 fs
            rw [hq1] at hm1 fq
            have hC := (HC.out.keep fk (by simp)).mono (D' := fun k => D k ∨ w.heap.size ≤ k) (fun k hk => .inl hk)
            refine ⟨_, rfl, ⟨A0, Qa, S, A3, c0, cQ, cS, c3, ?_, ?_⟩, fk⟩
            · rw [rv_put_1, ← hn1, ← hm1]
            · simp only [LS.put, if_neg (show ¬ (1 : Int) = 0 by omega)]
              exact ⟨hC.s0, fq, fs, hC.q1⟩
          | false =>
            have hnc : ¬ (0 ≤ st.cut ∧ st.cut ≤ (tt : Int) + k) := by have := HBB.out; simpa using this
            have HNC := hide hnc
            have HIC := hide (hinv.out.1.keep hkx.out)
            have HCc : Hid (∀ wx, Kept [] wc wx → JB B #[Value.int IntKind.i64 st.budget, Value.int IntKind.i64 st.cut, Value.slice A0 st.s0.length c0, Value.slice S n cS, Value.slice Qa m cQ, Value.slice A3 st.q1.length c3, Value.bool false] wx ∧ wx.cell? (ad.add k) = some (.int .u8 (x.toNat : Int))) := fun wx hk' => ⟨(HIC.out.keep hk').hB, HCX.out wx (hkx.out.new hk' (by simp))⟩
            have hnS := hinv.out.2.2.2.1
            have hmS := hinv.out.2.2.2.2.1
            have HLS := hide (And.intro hnS.symm hmS.symm)
            clear hnS hmS hnc
            obtain ⟨i0, hi, hz0, hz1, hz2⟩ := info_parts info5
            go_wp2_with fail
            go_cut [] from 26 to 76 (fun wx => ∃ (S' : Option Addr) (cS' : Nat), Hid (RI D w wx B #[Value.int IntKind.i64 st.budget, Value.int IntKind.i64 st.cut, Value.slice A0 st.s0.length c0, Value.slice S' (n + 1) cS', Value.slice Qa m cQ, Value.slice A3 st.q1.length c3, Value.bool false] S' Qa (s ++ [x]) q))
            case first =>
              have hkd : Kept [] wc wc.drew := (Kept.refl _ _).drew
              have HKD := hide hkd
              clear hkd
              refine wp_region_noPanic ?_
              refine Orx.begin_W 15 (JB B #[Value.int IntKind.i64 st.budget, Value.int IntKind.i64 st.cut, Value.slice A0 st.s0.length c0, Value.slice S n cS, Value.slice Qa m cQ, Value.slice A3 st.q1.length c3, Value.bool false]) (fun wx => wx.cell? (ad.add k) = some (.int .u8 (x.toNat : Int))) (by kernel_rfl) (HCc.out _ HKD.out).1 (HCc.out _ HKD.out).2 (fun hS => ?_)
              generalize hWd : wc.drew = Wd at *
              refine Orx.take_free (i := 0) (oi := _) (v := .int .i64 1) rfl (by kernel_rfl) (by kernel_rfl) (by kernel_rfl) (by kernel_rfl) (fun _ _ _ h => h) (by kernel_rfl) hS (fun w hJ => ?hy) (fun hS => ?_)
              case hy => go_simp; (try with_reducible rfl); (try (intro h; omega)); (try (simp [IntKind.wrap_i64]))
              try simp only [Act.put, Nat.zero_add, List.getElem_toArray, List.getElem_cons_succ, List.getElem_cons_zero, List.setIfInBounds_toArray, List.set_cons_zero, List.set_cons_succ]
              refine Orx.take_free (i := 2) (oi := _) (v := .int .i64 1) rfl (by kernel_rfl) (by kernel_rfl) (by kernel_rfl) (by kernel_rfl) (fun _ _ _ h => h) (by kernel_rfl) hS (fun w hJ => ?hy) (fun hS => ?_)
              case hy => go_simp; (try with_reducible rfl); (try (intro h; omega)); (try (simp [IntKind.wrap_i64]))
              try simp only [Act.put, Nat.zero_add, List.getElem_toArray, List.getElem_cons_succ, List.getElem_cons_zero, List.setIfInBounds_toArray, List.set_cons_zero, List.set_cons_succ]
              refine Orx.take_free (i := 3) (oi := _) (v := .pointer (some ⟨B, 2, none⟩)) rfl (by kernel_rfl) (by kernel_rfl) (by kernel_rfl) (by kernel_rfl) (fun _ _ _ h => h) (by kernel_rfl) hS (fun w hJ => ?hy) (fun hS => ?_)
              case hy => go_simp; (try with_reducible rfl); (try (intro h; omega)); (try (simp [IntKind.wrap_i64]))
              try simp only [Act.put, Nat.zero_add, List.getElem_toArray, List.getElem_cons_succ, List.getElem_cons_zero, List.setIfInBounds_toArray, List.set_cons_zero, List.set_cons_succ]
              refine Orx.take_free (i := 4) (oi := _) (v := .pointer (some ⟨B, 3, none⟩)) rfl (by kernel_rfl) (by kernel_rfl) (by kernel_rfl) (by kernel_rfl) (fun _ _ _ h => h) (by kernel_rfl) hS (fun w hJ => ?hy) (fun hS => ?_)
              case hy => go_simp; (try with_reducible rfl); (try (intro h; omega)); (try (simp [IntKind.wrap_i64]))
              try simp only [Act.put, Nat.zero_add, List.getElem_toArray, List.getElem_cons_succ, List.getElem_cons_zero, List.setIfInBounds_toArray, List.set_cons_zero, List.set_cons_succ]
              refine Orx.take_load (i := 5) (oi := _) (v := .slice S n cS) rfl (by kernel_rfl) (by kernel_rfl) (by kernel_rfl) (by kernel_rfl) (by rfl) (fun _ _ _ h => h) (by kernel_rfl) hS (fun w hJ => ?hy) (fun hS => ?_)
              case hy => obtain ⟨e0, e1, e2, e3, e4, e5, e6⟩ := seven hJ; go_simp; (try with_reducible rfl); (try (intro h; omega)); (try (simp [IntKind.wrap_i64]))
              try simp only [Act.put, Nat.zero_add, List.getElem_toArray, List.getElem_cons_succ, List.getElem_cons_zero, List.setIfInBounds_toArray, List.set_cons_zero, List.set_cons_succ]
              refine Orx.take_free (i := 7) (oi := _) (v := .slice (some ad) xs.length c) rfl (by kernel_rfl) (by kernel_rfl) (by kernel_rfl) (by kernel_rfl) (fun _ _ _ h => h) (by kernel_rfl) hS (fun w hJ => ?hy) (fun hS => ?_)
              case hy => go_simp; (try with_reducible rfl); (try (intro h; omega)); (try (simp [IntKind.wrap_i64]))
              try simp only [Act.put, Nat.zero_add, List.getElem_toArray, List.getElem_cons_succ, List.getElem_cons_zero, List.setIfInBounds_toArray, List.set_cons_zero, List.set_cons_succ]
              refine Orx.take_free (i := 8) (oi := _) (v := .int .i64 (k : Int)) rfl (by kernel_rfl) (by kernel_rfl) (by kernel_rfl) (by kernel_rfl) (fun _ _ _ h => h) (by kernel_rfl) hS (fun w hJ => ?hy) (fun hS => ?_)
              case hy => go_simp; (try with_reducible rfl); (try (intro h; omega)); (try (simp [IntKind.wrap_i64]))
              try simp only [Act.put, Nat.zero_add, List.getElem_toArray, List.getElem_cons_succ, List.getElem_cons_zero, List.setIfInBounds_toArray, List.set_cons_zero, List.set_cons_succ]
              refine Orx.take_free (i := 9) (oi := _) (v := .pointer (some (ad.add k))) rfl (by kernel_rfl) (by kernel_rfl) (by kernel_rfl) (by kernel_rfl) (fun _ _ _ h => h) (by kernel_rfl) hS (fun w hJ => ?hy) (fun hS => ?_)
              case hy => go_simp; (try with_reducible rfl); (try (intro h; omega)); (try (simp [IntKind.wrap_i64]))
              try simp only [Act.put, Nat.zero_add, List.getElem_toArray, List.getElem_cons_succ, List.getElem_cons_zero, List.setIfInBounds_toArray, List.set_cons_zero, List.set_cons_succ]
              refine Orx.take_free (i := 10) (oi := _) (v := .int .u8 (x.toNat : Int)) rfl (by kernel_rfl) (by kernel_rfl) (by kernel_rfl) (by kernel_rfl) (fun _ _ _ h => h) (by kernel_rfl) hS (fun w hJ => ?hy) (fun hS => ?_)
              case hy => go_simp; (try with_reducible rfl); (try (intro h; omega)); (try (simp [IntKind.wrap_i64]))
              try simp only [Act.put, Nat.zero_add, List.getElem_toArray, List.getElem_cons_succ, List.getElem_cons_zero, List.setIfInBounds_toArray, List.set_cons_zero, List.set_cons_succ]
              refine Orx.take_free (i := 13) (oi := _) (v := .pointer (some ⟨B, 2, none⟩)) rfl (by kernel_rfl) (by kernel_rfl) (by kernel_rfl) (by kernel_rfl) (fun _ _ _ h => h) (by kernel_rfl) hS (fun w hJ => ?hy) (fun hS => ?_)
              case hy => go_simp; (try with_reducible rfl); (try (intro h; omega)); (try (simp [IntKind.wrap_i64]))
              try simp only [Act.put, Nat.zero_add, List.getElem_toArray, List.getElem_cons_succ, List.getElem_cons_zero, List.setIfInBounds_toArray, List.set_cons_zero, List.set_cons_succ]
              refine Orx.both_W (i := 1) (j := 11) rfl rfl (by kernel_rfl) (by kernel_rfl) (by kernel_rfl) (fun K hK => ?_) (fun K hK => ?_)
              · go_simp
                obtain ⟨W1, hW1⟩ : ∃ Wnew : World, Wnew = Wd.alloc (.cells #[] 5) := ⟨_, rfl⟩
                rw [← hW1]
                have K1 : Kept [] wc W1 := by rw [hW1]; exact HKD.out.alloc _
                have hO1 : Own W1 (some ⟨Wd.heap.size, 0, none⟩) 0 [] := by rw [hW1]; exact own_empty Wd
                have hWW : Hid (W1.heap.size = Wd.heap.size + 1) := by show _ = _; rw [hW1]; simp
                clear hW1
                refine hK _ _ (Orx.Still.same (HCc.out _ K1).1 (HCc.out _ K1).2) (fun hS => ?_)
                clear hK K
                try simp only [Act.put, Nat.zero_add, List.getElem_toArray, List.getElem_cons_succ, List.getElem_cons_zero, List.setIfInBounds_toArray, List.set_cons_zero, List.set_cons_succ]
                refine Orx.both_W (i := 6) (j := 11) rfl rfl (by kernel_rfl) (by kernel_rfl) (by kernel_rfl) (fun K hK => ?_) (fun K hK => ?_)
                · have hs1 : Src W1 (RE D w) S s := HIC.out.s.keep K1 (by simp)
                  refine wp_append_src (.tmp 46) (.tmp 50) rfl Try.underlying22 hi hz0 hz1 hz2 hO1 hs1 (n := 0) rfl HLS.out.1 rfl rfl (by have := HLS.out.1; simp; omega) ?_
                  intro A6 c6 w6 ho6 hk6 hb6
                  rw [List.nil_append] at ho6
                  have K6 : Kept [] wc w6 := K1.new hk6 (by intro y hy; simp [blk] at hy; have := HKD.out.size; have := K1.size; have := K1.size; omega)
                  have hb6' : ∀ y ∈ blk A6, wc.heap.size ≤ y := fun y hy => by
                    have h1 := HKD.out.size
                    have h2 := K1.size
                    have h3 := K1.size
                    rcases hb6 y hy with h | h
                    · simp [blk] at h; omega
                    · omega
                  refine hK _ _ (Orx.Still.same (HCc.out _ K6).1 (HCc.out _ K6).2) (fun hS => ?_)
                  clear hK K
                  try simp only [Act.put, Nat.zero_add, List.getElem_toArray, List.getElem_cons_succ, List.getElem_cons_zero, List.setIfInBounds_toArray, List.set_cons_zero, List.set_cons_succ]
                  refine Orx.only_W (i := 11) rfl (by kernel_rfl) (by kernel_rfl) (fun K hK => ?_)
                  go_simp
                  obtain ⟨W3, hW3⟩ : ∃ Wnew : World, Wnew = w6.alloc (.cells #[.int .u8 (x.toNat : Int)] 5) := ⟨_, rfl⟩
                  rw [← hW3]
                  have K3 : Kept [] wc W3 := by rw [hW3]; exact K6.alloc _
                  have hN3 : Src W3 (· = w6.heap.size) (some ⟨w6.heap.size, 0, none⟩) [x] := by rw [hW3]; exact src_one w6 x
                  have hO3 : Own W3 A6 c6 s := by rw [hW3]; exact ho6.keep ((Kept.refl [] w6).alloc _) (by simp)
                  clear hW3
                  refine hK _ _ (Orx.Still.same (HCc.out _ K3).1 (HCc.out _ K3).2) (fun hS => ?_)
                  clear hK K
                  try simp only [Act.put, Nat.zero_add, List.getElem_toArray, List.getElem_cons_succ, List.getElem_cons_zero, List.setIfInBounds_toArray, List.set_cons_zero, List.set_cons_succ]
                  refine Orx.only_W (i := 12) rfl (by kernel_rfl) (by kernel_rfl) (fun K hK => ?_)
                  refine wp_append_src (.tmp 51) (.tmp 56) rfl Try.underlying22 hi hz0 hz1 hz2 hO3 hN3 HLS.out.1 rfl rfl rfl (by have := HLS.out.1; simp; omega) ?_
                  intro A7 c7 w7 ho7 hk7 hb7
                  have hb7' : ∀ y ∈ blk A7, wc.heap.size ≤ y := fun y hy => by
                    have h2 := K3.size
                    rcases hb7 y hy with h | h
                    · exact hb6' y h
                    · omega
                  have K7 : Kept [] wc w7 := K3.new hk7 hb6'
                  refine hK _ _ (Orx.Still.same (HCc.out _ K7).1 (HCc.out _ K7).2) (fun hS => ?_)
                  clear hK K
                  try simp only [Act.put, Nat.zero_add, List.getElem_toArray, List.getElem_cons_succ, List.getElem_cons_zero, List.setIfInBounds_toArray, List.set_cons_zero, List.set_cons_succ]
                  refine Orx.take_free (i := 14) (oi := _) (v := .pointer (some ⟨B, 3, none⟩)) rfl (by kernel_rfl) (by kernel_rfl) (by kernel_rfl) (by kernel_rfl) (fun _ _ _ h => h) (by kernel_rfl) hS (fun w hJ => ?hy) (fun hS => ?_)
                  case hy => go_simp; (try with_reducible rfl); (try (intro h; omega)); (try (simp [IntKind.wrap_i64]))
                  try simp only [Act.put, Nat.zero_add, List.getElem_toArray, List.getElem_cons_succ, List.getElem_cons_zero, List.setIfInBounds_toArray, List.set_cons_zero, List.set_cons_succ]
                  obtain ⟨e0, e1, e2, e3, e4, e5, e6⟩ := seven (HCc.out _ K7).1
                  obtain ⟨f0, f1, f2, f3, f4, f5, f6⟩ := seven_free (HCc.out _ K7).1
                  refine Orx.only_W (i := 15) rfl (by kernel_rfl) (by kernel_rfl) (fun K hK => ?_)
                  go_simp
                  refine hK _ _ (Orx.Still.later (by kernel_rfl) ?_) (fun hS => ?_)
                  · have k8 : Kept [B] w7 (w7.setCell ⟨B, 3, none⟩ (.slice A7 (n + 1) c7)) := (Kept.refl _ _).setCell _ _ (.inl (by simp))
                    exact (k8.cell (World.block_lt_of_cell? w7 _ (HCc.out _ K7).2) (by have h1 := HIC.out.b; have h2 := HADB.out; simp; omega)).trans (HCc.out _ K7).2
                  clear hK K e0 e1 e2 e3 e4 e5 e6 f0 f1 f2 f3 f4 f5 f6
                  refine Orx.done_W (by kernel_rfl) (NoPanic.normal ?_)
                  have HNEW := hide ((HIC.out.store K7 ho7 hb7' 3 (.slice A7 (n + 1) c7)).1)
                  go_wp2_with fail
                  go_meet
                  exact ⟨A7, c7, HNEW⟩
                · go_simp
                  obtain ⟨W2, hW2⟩ : ∃ Wnew : World, Wnew = W1.alloc (.cells #[.int .u8 (x.toNat : Int)] 5) := ⟨_, rfl⟩
                  rw [← hW2]
                  have K2 : Kept [] wc W2 := by rw [hW2]; exact K1.alloc _
                  have hN2 : Src W2 (· = W1.heap.size) (some ⟨W1.heap.size, 0, none⟩) [x] := by rw [hW2]; exact src_one W1 x
                  have hO2 : Own W2 (some ⟨Wd.heap.size, 0, none⟩) 0 [] := by rw [hW2]; exact hO1.keep ((Kept.refl [] W1).alloc _) (by simp)
                  clear hW2
                  refine hK _ _ (Orx.Still.same (HCc.out _ K2).1 (HCc.out _ K2).2) (fun hS => ?_)
                  clear hK K
                  try simp only [Act.put, Nat.zero_add, List.getElem_toArray, List.getElem_cons_succ, List.getElem_cons_zero, List.setIfInBounds_toArray, List.set_cons_zero, List.set_cons_succ]
                  refine Orx.only_W (i := 6) rfl (by kernel_rfl) (by kernel_rfl) (fun K hK => ?_)
                  have hs1 : Src W2 (RE D w) S s := HIC.out.s.keep K2 (by simp)
                  refine wp_append_src (.tmp 46) (.tmp 50) rfl Try.underlying22 hi hz0 hz1 hz2 hO2 hs1 (n := 0) rfl HLS.out.1 rfl rfl (by have := HLS.out.1; simp; omega) ?_
                  intro A6 c6 w6 ho6 hk6 hb6
                  rw [List.nil_append] at ho6
                  have K6 : Kept [] wc w6 := K2.new hk6 (by intro y hy; simp [blk] at hy; have := HKD.out.size; have := K1.size; have := K2.size; omega)
                  have hb6' : ∀ y ∈ blk A6, wc.heap.size ≤ y := fun y hy => by
                    have h1 := HKD.out.size
                    have h2 := K2.size
                    have h3 := K1.size
                    rcases hb6 y hy with h | h
                    · simp [blk] at h; omega
                    · omega
                  have hN3 := hN2.keep hk6 (by intro y hy; have := hWW.out; simp [blk]; omega)
                  refine hK _ _ (Orx.Still.same (HCc.out _ K6).1 (HCc.out _ K6).2) (fun hS => ?_)
                  clear hK K
                  try simp only [Act.put, Nat.zero_add, List.getElem_toArray, List.getElem_cons_succ, List.getElem_cons_zero, List.setIfInBounds_toArray, List.set_cons_zero, List.set_cons_succ]
                  refine Orx.only_W (i := 12) rfl (by kernel_rfl) (by kernel_rfl) (fun K hK => ?_)
                  refine wp_append_src (.tmp 51) (.tmp 56) rfl Try.underlying22 hi hz0 hz1 hz2 ho6 hN3 HLS.out.1 rfl rfl rfl (by have := HLS.out.1; simp; omega) ?_
                  intro A7 c7 w7 ho7 hk7 hb7
                  have hb7' : ∀ y ∈ blk A7, wc.heap.size ≤ y := fun y hy => by
                    have h2 := K6.size
                    rcases hb7 y hy with h | h
                    · exact hb6' y h
                    · omega
                  have K7 : Kept [] wc w7 := K6.new hk7 hb6'
                  refine hK _ _ (Orx.Still.same (HCc.out _ K7).1 (HCc.out _ K7).2) (fun hS => ?_)
                  clear hK K
                  try simp only [Act.put, Nat.zero_add, List.getElem_toArray, List.getElem_cons_succ, List.getElem_cons_zero, List.setIfInBounds_toArray, List.set_cons_zero, List.set_cons_succ]
                  refine Orx.take_free (i := 14) (oi := _) (v := .pointer (some ⟨B, 3, none⟩)) rfl (by kernel_rfl) (by kernel_rfl) (by kernel_rfl) (by kernel_rfl) (fun _ _ _ h => h) (by kernel_rfl) hS (fun w hJ => ?hy) (fun hS => ?_)
                  case hy => go_simp; (try with_reducible rfl); (try (intro h; omega)); (try (simp [IntKind.wrap_i64]))
                  try simp only [Act.put, Nat.zero_add, List.getElem_toArray, List.getElem_cons_succ, List.getElem_cons_zero, List.setIfInBounds_toArray, List.set_cons_zero, List.set_cons_succ]
                  obtain ⟨e0, e1, e2, e3, e4, e5, e6⟩ := seven (HCc.out _ K7).1
                  obtain ⟨f0, f1, f2, f3, f4, f5, f6⟩ := seven_free (HCc.out _ K7).1
                  refine Orx.only_W (i := 15) rfl (by kernel_rfl) (by kernel_rfl) (fun K hK => ?_)
                  go_simp
                  refine hK _ _ (Orx.Still.later (by kernel_rfl) ?_) (fun hS => ?_)
                  · have k8 : Kept [B] w7 (w7.setCell ⟨B, 3, none⟩ (.slice A7 (n + 1) c7)) := (Kept.refl _ _).setCell _ _ (.inl (by simp))
                    exact (k8.cell (World.block_lt_of_cell? w7 _ (HCc.out _ K7).2) (by have h1 := HIC.out.b; have h2 := HADB.out; simp; omega)).trans (HCc.out _ K7).2
                  clear hK K e0 e1 e2 e3 e4 e5 e6 f0 f1 f2 f3 f4 f5 f6
                  refine Orx.done_W (by kernel_rfl) (NoPanic.normal ?_)
                  have HNEW := hide ((HIC.out.store K7 ho7 hb7' 3 (.slice A7 (n + 1) c7)).1)
                  go_wp2_with fail
                  go_meet
                  exact ⟨A7, c7, HNEW⟩
              · go_simp
                obtain ⟨W1, hW1⟩ : ∃ Wnew : World, Wnew = Wd.alloc (.cells #[.int .u8 (x.toNat : Int)] 5) := ⟨_, rfl⟩
                rw [← hW1]
                have K1 : Kept [] wc W1 := by rw [hW1]; exact HKD.out.alloc _
                have hN1 : Src W1 (· = Wd.heap.size) (some ⟨Wd.heap.size, 0, none⟩) [x] := by rw [hW1]; exact src_one Wd x
                have hWW : Hid (W1.heap.size = Wd.heap.size + 1) := by show _ = _; rw [hW1]; simp
                clear hW1
                refine hK _ _ (Orx.Still.same (HCc.out _ K1).1 (HCc.out _ K1).2) (fun hS => ?_)
                clear hK K
                try simp only [Act.put, Nat.zero_add, List.getElem_toArray, List.getElem_cons_succ, List.getElem_cons_zero, List.setIfInBounds_toArray, List.set_cons_zero, List.set_cons_succ]
                refine Orx.only_W (i := 1) rfl (by kernel_rfl) (by kernel_rfl) (fun K hK => ?_)
                go_simp
                obtain ⟨W2, hW2⟩ : ∃ Wnew : World, Wnew = W1.alloc (.cells #[] 5) := ⟨_, rfl⟩
                rw [← hW2]
                have K2 : Kept [] wc W2 := by rw [hW2]; exact K1.alloc _
                have hO2 : Own W2 (some ⟨W1.heap.size, 0, none⟩) 0 [] := by rw [hW2]; exact own_empty W1
                have hN2 : Src W2 (· = Wd.heap.size) (some ⟨Wd.heap.size, 0, none⟩) [x] := by rw [hW2]; exact hN1.keep ((Kept.refl [] W1).alloc _) (by simp)
                clear hW2
                refine hK _ _ (Orx.Still.same (HCc.out _ K2).1 (HCc.out _ K2).2) (fun hS => ?_)
                clear hK K
                try simp only [Act.put, Nat.zero_add, List.getElem_toArray, List.getElem_cons_succ, List.getElem_cons_zero, List.setIfInBounds_toArray, List.set_cons_zero, List.set_cons_succ]
                refine Orx.only_W (i := 6) rfl (by kernel_rfl) (by kernel_rfl) (fun K hK => ?_)
                have hs1 : Src W2 (RE D w) S s := HIC.out.s.keep K2 (by simp)
                refine wp_append_src (.tmp 46) (.tmp 50) rfl Try.underlying22 hi hz0 hz1 hz2 hO2 hs1 (n := 0) rfl HLS.out.1 rfl rfl (by have := HLS.out.1; simp; omega) ?_
                intro A6 c6 w6 ho6 hk6 hb6
                rw [List.nil_append] at ho6
                have K6 : Kept [] wc w6 := K2.new hk6 (by intro y hy; simp [blk] at hy; have := HKD.out.size; have := K1.size; have := K2.size; omega)
                have hb6' : ∀ y ∈ blk A6, wc.heap.size ≤ y := fun y hy => by
                  have h1 := HKD.out.size
                  have h2 := K2.size
                  have h3 := K1.size
                  rcases hb6 y hy with h | h
                  · simp [blk] at h; omega
                  · omega
                have hN3 := hN2.keep hk6 (by intro y hy; have := hWW.out; simp [blk]; omega)
                refine hK _ _ (Orx.Still.same (HCc.out _ K6).1 (HCc.out _ K6).2) (fun hS => ?_)
                clear hK K
                try simp only [Act.put, Nat.zero_add, List.getElem_toArray, List.getElem_cons_succ, List.getElem_cons_zero, List.setIfInBounds_toArray, List.set_cons_zero, List.set_cons_succ]
                refine Orx.only_W (i := 12) rfl (by kernel_rfl) (by kernel_rfl) (fun K hK => ?_)
                refine wp_append_src (.tmp 51) (.tmp 56) rfl Try.underlying22 hi hz0 hz1 hz2 ho6 hN3 HLS.out.1 rfl rfl rfl (by have := HLS.out.1; simp; omega) ?_
                intro A7 c7 w7 ho7 hk7 hb7
                have hb7' : ∀ y ∈ blk A7, wc.heap.size ≤ y := fun y hy => by
                  have h2 := K6.size
                  rcases hb7 y hy with h | h
                  · exact hb6' y h
                  · omega
                have K7 : Kept [] wc w7 := K6.new hk7 hb6'
                refine hK _ _ (Orx.Still.same (HCc.out _ K7).1 (HCc.out _ K7).2) (fun hS => ?_)
                clear hK K
                try simp only [Act.put, Nat.zero_add, List.getElem_toArray, List.getElem_cons_succ, List.getElem_cons_zero, List.setIfInBounds_toArray, List.set_cons_zero, List.set_cons_succ]
                refine Orx.take_free (i := 14) (oi := _) (v := .pointer (some ⟨B, 3, none⟩)) rfl (by kernel_rfl) (by kernel_rfl) (by kernel_rfl) (by kernel_rfl) (fun _ _ _ h => h) (by kernel_rfl) hS (fun w hJ => ?hy) (fun hS => ?_)
                case hy => go_simp; (try with_reducible rfl); (try (intro h; omega)); (try (simp [IntKind.wrap_i64]))
                try simp only [Act.put, Nat.zero_add, List.getElem_toArray, List.getElem_cons_succ, List.getElem_cons_zero, List.setIfInBounds_toArray, List.set_cons_zero, List.set_cons_succ]
                obtain ⟨e0, e1, e2, e3, e4, e5, e6⟩ := seven (HCc.out _ K7).1
                obtain ⟨f0, f1, f2, f3, f4, f5, f6⟩ := seven_free (HCc.out _ K7).1
                refine Orx.only_W (i := 15) rfl (by kernel_rfl) (by kernel_rfl) (fun K hK => ?_)
                go_simp
                refine hK _ _ (Orx.Still.later (by kernel_rfl) ?_) (fun hS => ?_)
                · have k8 : Kept [B] w7 (w7.setCell ⟨B, 3, none⟩ (.slice A7 (n + 1) c7)) := (Kept.refl _ _).setCell _ _ (.inl (by simp))
                  exact (k8.cell (World.block_lt_of_cell? w7 _ (HCc.out _ K7).2) (by have h1 := HIC.out.b; have h2 := HADB.out; simp; omega)).trans (HCc.out _ K7).2
                clear hK K e0 e1 e2 e3 e4 e5 e6 f0 f1 f2 f3 f4 f5 f6
                refine Orx.done_W (by kernel_rfl) (NoPanic.normal ?_)
                have HNEW := hide ((HIC.out.store K7 ho7 hb7' 3 (.slice A7 (n + 1) c7)).1)
                go_wp2_with fail
                go_meet
                exact ⟨A7, c7, HNEW⟩
            case rest =>
              obtain ⟨S', cS', hI2⟩ := hcut
              have HCd : Hid (∀ wx, Kept [] wc wx → JB B #[Value.int IntKind.i64 st.budget, Value.int IntKind.i64 st.cut, Value.slice A0 st.s0.length c0, Value.slice S' (n + 1) cS', Value.slice Qa m cQ, Value.slice A3 st.q1.length c3, Value.bool false] wx ∧ wx.cell? (ad.add k) = some (.int .u8 (x.toNat : Int))) := fun wx hk' => ⟨(hI2.out.keep hk').hB, HCW.out wx ((hI2.out.keep hk').k)⟩
              have htk : xs.take (k + 1) = xs.take k ++ [x] := by rw [List.take_succ_eq_append_getElem hlt, ← HX.out]
              have hR : (s ++ [x] = st.s1 ++ xs.take (k + 1)) ∧ (q ++ [x] = st.q0 ++ xs.take (k + 1)) ∧ n + 1 = (s ++ [x]).length ∧ m + 1 = (q ++ [x]).length ∧ (0 ≤ st.cut → (st.total : Int) + (k + 1 : Nat) ≤ st.cut) := by
                refine ⟨by rw [htk, ← List.append_assoc, ← hinv.out.2.1], by rw [htk, ← List.append_assoc, ← hinv.out.2.2.1], by simp [HLS.out.1], by simp [HLS.out.2], fun h => ?_⟩
                have h1 := hinv.out.2.2.2.2.2 h
                have h2 := HNC.out
                have h3 := HTT.out
                omega
              have HR := hide hR
              clear htk hR
              go_wp2_with fail
              have hkd : Kept [] wc wc.drew := (Kept.refl _ _).drew
              have HKD := hide hkd
              clear hkd
              refine wp_region_noPanic ?_
              refine Orx.begin_W 17 (JB B #[Value.int IntKind.i64 st.budget, Value.int IntKind.i64 st.cut, Value.slice A0 st.s0.length c0, Value.slice S' (n + 1) cS', Value.slice Qa m cQ, Value.slice A3 st.q1.length c3, Value.bool false]) (fun wx => wx.cell? (ad.add k) = some (.int .u8 (x.toNat : Int))) (by kernel_rfl) (HCd.out _ HKD.out).1 (HCd.out _ HKD.out).2 (fun hS => ?_)
              generalize hWd : wc.drew = Wd at *
              refine Orx.take_free (i := 0) (oi := _) (v := .int .i64 1) rfl (by kernel_rfl) (by kernel_rfl) (by kernel_rfl) (by kernel_rfl) (fun _ _ _ h => h) (by kernel_rfl) hS (fun w hJ => ?hy) (fun hS => ?_)
              case hy => go_simp; (try with_reducible rfl); (try (intro h; omega)); (try (simp [IntKind.wrap_i64]))
              try simp only [Act.put, Nat.zero_add, List.getElem_toArray, List.getElem_cons_succ, List.getElem_cons_zero, List.setIfInBounds_toArray, List.set_cons_zero, List.set_cons_succ]
              refine Orx.take_free (i := 1) (oi := _) (v := .int .i64 0) rfl (by kernel_rfl) (by kernel_rfl) (by kernel_rfl) (by kernel_rfl) (fun _ _ _ h => h) (by kernel_rfl) hS (fun w hJ => ?hy) (fun hS => ?_)
              case hy => go_simp; (try with_reducible rfl); (try (intro h; omega)); (try (simp [IntKind.wrap_i64]))
              try simp only [Act.put, Nat.zero_add, List.getElem_toArray, List.getElem_cons_succ, List.getElem_cons_zero, List.setIfInBounds_toArray, List.set_cons_zero, List.set_cons_succ]
              refine Orx.take_free (i := 3) (oi := _) (v := .int .i64 1) rfl (by kernel_rfl) (by kernel_rfl) (by kernel_rfl) (by kernel_rfl) (fun _ _ _ h => h) (by kernel_rfl) hS (fun w hJ => ?hy) (fun hS => ?_)
              case hy => go_simp; (try with_reducible rfl); (try (intro h; omega)); (try (simp [IntKind.wrap_i64]))
              try simp only [Act.put, Nat.zero_add, List.getElem_toArray, List.getElem_cons_succ, List.getElem_cons_zero, List.setIfInBounds_toArray, List.set_cons_zero, List.set_cons_succ]
              refine Orx.take_free (i := 4) (oi := _) (v := .int .i64 0) rfl (by kernel_rfl) (by kernel_rfl) (by kernel_rfl) (by kernel_rfl) (fun _ _ _ h => h) (by kernel_rfl) hS (fun w hJ => ?hy) (fun hS => ?_)
              case hy => go_simp; (try with_reducible rfl); (try (intro h; omega)); (try (simp [IntKind.wrap_i64]))
              try simp only [Act.put, Nat.zero_add, List.getElem_toArray, List.getElem_cons_succ, List.getElem_cons_zero, List.setIfInBounds_toArray, List.set_cons_zero, List.set_cons_succ]
              refine Orx.take_free (i := 5) (oi := _) (v := .pointer (some ⟨B, 4, none⟩)) rfl (by kernel_rfl) (by kernel_rfl) (by kernel_rfl) (by kernel_rfl) (fun _ _ _ h => h) (by kernel_rfl) hS (fun w hJ => ?hy) (fun hS => ?_)
              case hy => go_simp; (try with_reducible rfl); (try (intro h; omega)); (try (simp [IntKind.wrap_i64]))
              try simp only [Act.put, Nat.zero_add, List.getElem_toArray, List.getElem_cons_succ, List.getElem_cons_zero, List.setIfInBounds_toArray, List.set_cons_zero, List.set_cons_succ]
              refine Orx.take_free (i := 6) (oi := _) (v := .pointer (some ⟨B, 4, none⟩)) rfl (by kernel_rfl) (by kernel_rfl) (by kernel_rfl) (by kernel_rfl) (fun _ _ _ h => h) (by kernel_rfl) hS (fun w hJ => ?hy) (fun hS => ?_)
              case hy => go_simp; (try with_reducible rfl); (try (intro h; omega)); (try (simp [IntKind.wrap_i64]))
              try simp only [Act.put, Nat.zero_add, List.getElem_toArray, List.getElem_cons_succ, List.getElem_cons_zero, List.setIfInBounds_toArray, List.set_cons_zero, List.set_cons_succ]
              refine Orx.take_load (i := 7) (oi := _) (v := .slice Qa m cQ) rfl (by kernel_rfl) (by kernel_rfl) (by kernel_rfl) (by kernel_rfl) (by rfl) (fun _ _ _ h => h) (by kernel_rfl) hS (fun w hJ => ?hy) (fun hS => ?_)
              case hy => obtain ⟨e0, e1, e2, e3, e4, e5, e6⟩ := seven hJ; go_simp; (try with_reducible rfl); (try (intro h; omega)); (try (simp [IntKind.wrap_i64]))
              try simp only [Act.put, Nat.zero_add, List.getElem_toArray, List.getElem_cons_succ, List.getElem_cons_zero, List.setIfInBounds_toArray, List.set_cons_zero, List.set_cons_succ]
              refine Orx.take_free (i := 9) (oi := _) (v := .slice (some ad) xs.length c) rfl (by kernel_rfl) (by kernel_rfl) (by kernel_rfl) (by kernel_rfl) (fun _ _ _ h => h) (by kernel_rfl) hS (fun w hJ => ?hy) (fun hS => ?_)
              case hy => go_simp; (try with_reducible rfl); (try (intro h; omega)); (try (simp [IntKind.wrap_i64]))
              try simp only [Act.put, Nat.zero_add, List.getElem_toArray, List.getElem_cons_succ, List.getElem_cons_zero, List.setIfInBounds_toArray, List.set_cons_zero, List.set_cons_succ]
              refine Orx.take_free (i := 10) (oi := _) (v := .int .i64 (k : Int)) rfl (by kernel_rfl) (by kernel_rfl) (by kernel_rfl) (by kernel_rfl) (fun _ _ _ h => h) (by kernel_rfl) hS (fun w hJ => ?hy) (fun hS => ?_)
              case hy => go_simp; (try with_reducible rfl); (try (intro h; omega)); (try (simp [IntKind.wrap_i64]))
              try simp only [Act.put, Nat.zero_add, List.getElem_toArray, List.getElem_cons_succ, List.getElem_cons_zero, List.setIfInBounds_toArray, List.set_cons_zero, List.set_cons_succ]
              refine Orx.take_free (i := 11) (oi := _) (v := .pointer (some (ad.add k))) rfl (by kernel_rfl) (by kernel_rfl) (by kernel_rfl) (by kernel_rfl) (fun _ _ _ h => h) (by kernel_rfl) hS (fun w hJ => ?hy) (fun hS => ?_)
              case hy => go_simp; (try with_reducible rfl); (try (intro h; omega)); (try (simp [IntKind.wrap_i64]))
              try simp only [Act.put, Nat.zero_add, List.getElem_toArray, List.getElem_cons_succ, List.getElem_cons_zero, List.setIfInBounds_toArray, List.set_cons_zero, List.set_cons_succ]
              refine Orx.take_free (i := 12) (oi := _) (v := .int .u8 (x.toNat : Int)) rfl (by kernel_rfl) (by kernel_rfl) (by kernel_rfl) (by kernel_rfl) (fun _ _ _ h => h) (by kernel_rfl) hS (fun w hJ => ?hy) (fun hS => ?_)
              case hy => go_simp; (try with_reducible rfl); (try (intro h; omega)); (try (simp [IntKind.wrap_i64]))
              try simp only [Act.put, Nat.zero_add, List.getElem_toArray, List.getElem_cons_succ, List.getElem_cons_zero, List.setIfInBounds_toArray, List.set_cons_zero, List.set_cons_succ]
              refine Orx.take_free (i := 15) (oi := _) (v := .pointer (some ⟨B, 4, none⟩)) rfl (by kernel_rfl) (by kernel_rfl) (by kernel_rfl) (by kernel_rfl) (fun _ _ _ h => h) (by kernel_rfl) hS (fun w hJ => ?hy) (fun hS => ?_)
              case hy => go_simp; (try with_reducible rfl); (try (intro h; omega)); (try (simp [IntKind.wrap_i64]))
              try simp only [Act.put, Nat.zero_add, List.getElem_toArray, List.getElem_cons_succ, List.getElem_cons_zero, List.setIfInBounds_toArray, List.set_cons_zero, List.set_cons_succ]
              refine Orx.both_W (i := 2) (j := 13) rfl rfl (by kernel_rfl) (by kernel_rfl) (by kernel_rfl) (fun K hK => ?_) (fun K hK => ?_)
              · go_simp
                obtain ⟨W1, hW1⟩ : ∃ Wnew : World, Wnew = Wd.alloc (.cells #[] 5) := ⟨_, rfl⟩
                rw [← hW1]
                have K1 : Kept [] wc W1 := by rw [hW1]; exact HKD.out.alloc _
                have hO1 : Own W1 (some ⟨Wd.heap.size, 0, none⟩) 0 [] := by rw [hW1]; exact own_empty Wd
                have hWW : Hid (W1.heap.size = Wd.heap.size + 1) := by show _ = _; rw [hW1]; simp
                clear hW1
                refine hK _ _ (Orx.Still.same (HCd.out _ K1).1 (HCd.out _ K1).2) (fun hS => ?_)
                clear hK K
                try simp only [Act.put, Nat.zero_add, List.getElem_toArray, List.getElem_cons_succ, List.getElem_cons_zero, List.setIfInBounds_toArray, List.set_cons_zero, List.set_cons_succ]
                refine Orx.both_W (i := 8) (j := 13) rfl rfl (by kernel_rfl) (by kernel_rfl) (by kernel_rfl) (fun K hK => ?_) (fun K hK => ?_)
                · have hs1 : Src W1 (RE D w) Qa q := hI2.out.q.keep K1 (by simp)
                  refine wp_append_src (.tmp 62) (.tmp 67) rfl Try.underlying22 hi hz0 hz1 hz2 hO1 hs1 (n := 0) rfl HLS.out.2 rfl rfl (by have := HLS.out.2; simp; omega) ?_
                  intro A6 c6 w6 ho6 hk6 hb6
                  rw [List.nil_append] at ho6
                  have K6 : Kept [] wc w6 := K1.new hk6 (by intro y hy; simp [blk] at hy; have := HKD.out.size; have := K1.size; have := K1.size; omega)
                  have hb6' : ∀ y ∈ blk A6, wc.heap.size ≤ y := fun y hy => by
                    have h1 := HKD.out.size
                    have h2 := K1.size
                    have h3 := K1.size
                    rcases hb6 y hy with h | h
                    · simp [blk] at h; omega
                    · omega
                  refine hK _ _ (Orx.Still.same (HCd.out _ K6).1 (HCd.out _ K6).2) (fun hS => ?_)
                  clear hK K
                  try simp only [Act.put, Nat.zero_add, List.getElem_toArray, List.getElem_cons_succ, List.getElem_cons_zero, List.setIfInBounds_toArray, List.set_cons_zero, List.set_cons_succ]
                  refine Orx.only_W (i := 13) rfl (by kernel_rfl) (by kernel_rfl) (fun K hK => ?_)
                  go_simp
                  obtain ⟨W3, hW3⟩ : ∃ Wnew : World, Wnew = w6.alloc (.cells #[.int .u8 (x.toNat : Int)] 5) := ⟨_, rfl⟩
                  rw [← hW3]
                  have K3 : Kept [] wc W3 := by rw [hW3]; exact K6.alloc _
                  have hN3 : Src W3 (· = w6.heap.size) (some ⟨w6.heap.size, 0, none⟩) [x] := by rw [hW3]; exact src_one w6 x
                  have hO3 : Own W3 A6 c6 q := by rw [hW3]; exact ho6.keep ((Kept.refl [] w6).alloc _) (by simp)
                  clear hW3
                  refine hK _ _ (Orx.Still.same (HCd.out _ K3).1 (HCd.out _ K3).2) (fun hS => ?_)
                  clear hK K
                  try simp only [Act.put, Nat.zero_add, List.getElem_toArray, List.getElem_cons_succ, List.getElem_cons_zero, List.setIfInBounds_toArray, List.set_cons_zero, List.set_cons_succ]
                  refine Orx.only_W (i := 14) rfl (by kernel_rfl) (by kernel_rfl) (fun K hK => ?_)
                  refine wp_append_src (.tmp 68) (.tmp 73) rfl Try.underlying22 hi hz0 hz1 hz2 hO3 hN3 HLS.out.2 rfl rfl rfl (by have := HLS.out.2; simp; omega) ?_
                  intro A7 c7 w7 ho7 hk7 hb7
                  have hb7' : ∀ y ∈ blk A7, wc.heap.size ≤ y := fun y hy => by
                    have h2 := K3.size
                    rcases hb7 y hy with h | h
                    · exact hb6' y h
                    · omega
                  have K7 : Kept [] wc w7 := K3.new hk7 hb6'
                  refine hK _ _ (Orx.Still.same (HCd.out _ K7).1 (HCd.out _ K7).2) (fun hS => ?_)
                  clear hK K
                  try simp only [Act.put, Nat.zero_add, List.getElem_toArray, List.getElem_cons_succ, List.getElem_cons_zero, List.setIfInBounds_toArray, List.set_cons_zero, List.set_cons_succ]
                  refine Orx.take_free (i := 16) (oi := _) (v := .pointer (some ⟨B, 4, none⟩)) rfl (by kernel_rfl) (by kernel_rfl) (by kernel_rfl) (by kernel_rfl) (fun _ _ _ h => h) (by kernel_rfl) hS (fun w hJ => ?hy) (fun hS => ?_)
                  case hy => go_simp; (try with_reducible rfl); (try (intro h; omega)); (try (simp [IntKind.wrap_i64]))
                  try simp only [Act.put, Nat.zero_add, List.getElem_toArray, List.getElem_cons_succ, List.getElem_cons_zero, List.setIfInBounds_toArray, List.set_cons_zero, List.set_cons_succ]
                  obtain ⟨e0, e1, e2, e3, e4, e5, e6⟩ := seven (HCd.out _ K7).1
                  obtain ⟨f0, f1, f2, f3, f4, f5, f6⟩ := seven_free (HCd.out _ K7).1
                  refine Orx.only_W (i := 17) rfl (by kernel_rfl) (by kernel_rfl) (fun K hK => ?_)
                  go_simp
                  refine hK _ _ (Orx.Still.later (by kernel_rfl) ?_) (fun hS => ?_)
                  · have k8 : Kept [B] w7 (w7.setCell ⟨B, 4, none⟩ (.slice A7 (m + 1) c7)) := (Kept.refl _ _).setCell _ _ (.inl (by simp))
                    exact (k8.cell (World.block_lt_of_cell? w7 _ (HCd.out _ K7).2) (by have h1 := HIC.out.b; have h2 := HADB.out; simp; omega)).trans (HCd.out _ K7).2
                  clear hK K e0 e1 e2 e3 e4 e5 e6 f0 f1 f2 f3 f4 f5 f6
                  refine Orx.done_W (by kernel_rfl) (NoPanic.normal ?_)
                  have HNEW := hide ((hI2.out.store K7 ho7 hb7' 4 (.slice A7 (m + 1) c7)).2)
                  go_wp2_with fail
                  go_roundg (xs.length - (k + 1))
                  case measure => omega
                  case rel => exact ⟨k + 1, s ++ [x], q ++ [x], S', cS', A7, c7, n + 1, m + 1, by omega, rfl, by go_num, ⟨HNEW.out, HR.out⟩⟩
                · go_simp
                  obtain ⟨W2, hW2⟩ : ∃ Wnew : World, Wnew = W1.alloc (.cells #[.int .u8 (x.toNat : Int)] 5) := ⟨_, rfl⟩
                  rw [← hW2]
                  have K2 : Kept [] wc W2 := by rw [hW2]; exact K1.alloc _
                  have hN2 : Src W2 (· = W1.heap.size) (some ⟨W1.heap.size, 0, none⟩) [x] := by rw [hW2]; exact src_one W1 x
                  have hO2 : Own W2 (some ⟨Wd.heap.size, 0, none⟩) 0 [] := by rw [hW2]; exact hO1.keep ((Kept.refl [] W1).alloc _) (by simp)
                  clear hW2
                  refine hK _ _ (Orx.Still.same (HCd.out _ K2).1 (HCd.out _ K2).2) (fun hS => ?_)
                  clear hK K
                  try simp only [Act.put, Nat.zero_add, List.getElem_toArray, List.getElem_cons_succ, List.getElem_cons_zero, List.setIfInBounds_toArray, List.set_cons_zero, List.set_cons_succ]
                  refine Orx.only_W (i := 8) rfl (by kernel_rfl) (by kernel_rfl) (fun K hK => ?_)
                  have hs1 : Src W2 (RE D w) Qa q := hI2.out.q.keep K2 (by simp)
                  refine wp_append_src (.tmp 62) (.tmp 67) rfl Try.underlying22 hi hz0 hz1 hz2 hO2 hs1 (n := 0) rfl HLS.out.2 rfl rfl (by have := HLS.out.2; simp; omega) ?_
                  intro A6 c6 w6 ho6 hk6 hb6
                  rw [List.nil_append] at ho6
                  have K6 : Kept [] wc w6 := K2.new hk6 (by intro y hy; simp [blk] at hy; have := HKD.out.size; have := K1.size; have := K2.size; omega)
                  have hb6' : ∀ y ∈ blk A6, wc.heap.size ≤ y := fun y hy => by
                    have h1 := HKD.out.size
                    have h2 := K2.size
                    have h3 := K1.size
                    rcases hb6 y hy with h | h
                    · simp [blk] at h; omega
                    · omega
                  have hN3 := hN2.keep hk6 (by intro y hy; have := hWW.out; simp [blk]; omega)
                  refine hK _ _ (Orx.Still.same (HCd.out _ K6).1 (HCd.out _ K6).2) (fun hS => ?_)
                  clear hK K
                  try simp only [Act.put, Nat.zero_add, List.getElem_toArray, List.getElem_cons_succ, List.getElem_cons_zero, List.setIfInBounds_toArray, List.set_cons_zero, List.set_cons_succ]
                  refine Orx.only_W (i := 14) rfl (by kernel_rfl) (by kernel_rfl) (fun K hK => ?_)
                  refine wp_append_src (.tmp 68) (.tmp 73) rfl Try.underlying22 hi hz0 hz1 hz2 ho6 hN3 HLS.out.2 rfl rfl rfl (by have := HLS.out.2; simp; omega) ?_
                  intro A7 c7 w7 ho7 hk7 hb7
                  have hb7' : ∀ y ∈ blk A7, wc.heap.size ≤ y := fun y hy => by
                    have h2 := K6.size
                    rcases hb7 y hy with h | h
                    · exact hb6' y h
                    · omega
                  have K7 : Kept [] wc w7 := K6.new hk7 hb6'
                  refine hK _ _ (Orx.Still.same (HCd.out _ K7).1 (HCd.out _ K7).2) (fun hS => ?_)
                  clear hK K
                  try simp only [Act.put, Nat.zero_add, List.getElem_toArray, List.getElem_cons_succ, List.getElem_cons_zero, List.setIfInBounds_toArray, List.set_cons_zero, List.set_cons_succ]
                  refine Orx.take_free (i := 16) (oi := _) (v := .pointer (some ⟨B, 4, none⟩)) rfl (by kernel_rfl) (by kernel_rfl) (by kernel_rfl) (by kernel_rfl) (fun _ _ _ h => h) (by kernel_rfl) hS (fun w hJ => ?hy) (fun hS => ?_)
                  case hy => go_simp; (try with_reducible rfl); (try (intro h; omega)); (try (simp [IntKind.wrap_i64]))
                  try simp only [Act.put, Nat.zero_add, List.getElem_toArray, List.getElem_cons_succ, List.getElem_cons_zero, List.setIfInBounds_toArray, List.set_cons_zero, List.set_cons_succ]
                  obtain ⟨e0, e1, e2, e3, e4, e5, e6⟩ := seven (HCd.out _ K7).1
                  obtain ⟨f0, f1, f2, f3, f4, f5, f6⟩ := seven_free (HCd.out _ K7).1
                  refine Orx.only_W (i := 17) rfl (by kernel_rfl) (by kernel_rfl) (fun K hK => ?_)
                  go_simp
                  refine hK _ _ (Orx.Still.later (by kernel_rfl) ?_) (fun hS => ?_)
                  · have k8 : Kept [B] w7 (w7.setCell ⟨B, 4, none⟩ (.slice A7 (m + 1) c7)) := (Kept.refl _ _).setCell _ _ (.inl (by simp))
                    exact (k8.cell (World.block_lt_of_cell? w7 _ (HCd.out _ K7).2) (by have h1 := HIC.out.b; have h2 := HADB.out; simp; omega)).trans (HCd.out _ K7).2
                  clear hK K e0 e1 e2 e3 e4 e5 e6 f0 f1 f2 f3 f4 f5 f6
                  refine Orx.done_W (by kernel_rfl) (NoPanic.normal ?_)
                  have HNEW := hide ((hI2.out.store K7 ho7 hb7' 4 (.slice A7 (m + 1) c7)).2)
                  go_wp2_with fail
                  go_roundg (xs.length - (k + 1))
                  case measure => omega
                  case rel => exact ⟨k + 1, s ++ [x], q ++ [x], S', cS', A7, c7, n + 1, m + 1, by omega, rfl, by go_num, ⟨HNEW.out, HR.out⟩⟩
              · go_simp
                obtain ⟨W1, hW1⟩ : ∃ Wnew : World, Wnew = Wd.alloc (.cells #[.int .u8 (x.toNat : Int)] 5) := ⟨_, rfl⟩
                rw [← hW1]
                have K1 : Kept [] wc W1 := by rw [hW1]; exact HKD.out.alloc _
                have hN1 : Src W1 (· = Wd.heap.size) (some ⟨Wd.heap.size, 0, none⟩) [x] := by rw [hW1]; exact src_one Wd x
                have hWW : Hid (W1.heap.size = Wd.heap.size + 1) := by show _ = _; rw [hW1]; simp
                clear hW1
                refine hK _ _ (Orx.Still.same (HCd.out _ K1).1 (HCd.out _ K1).2) (fun hS => ?_)
                clear hK K
                try simp only [Act.put, Nat.zero_add, List.getElem_toArray, List.getElem_cons_succ, List.getElem_cons_zero, List.setIfInBounds_toArray, List.set_cons_zero, List.set_cons_succ]
                refine Orx.only_W (i := 2) rfl (by kernel_rfl) (by kernel_rfl) (fun K hK => ?_)
                go_simp
                obtain ⟨W2, hW2⟩ : ∃ Wnew : World, Wnew = W1.alloc (.cells #[] 5) := ⟨_, rfl⟩
                rw [← hW2]
                have K2 : Kept [] wc W2 := by rw [hW2]; exact K1.alloc _
                have hO2 : Own W2 (some ⟨W1.heap.size, 0, none⟩) 0 [] := by rw [hW2]; exact own_empty W1
                have hN2 : Src W2 (· = Wd.heap.size) (some ⟨Wd.heap.size, 0, none⟩) [x] := by rw [hW2]; exact hN1.keep ((Kept.refl [] W1).alloc _) (by simp)
                clear hW2
                refine hK _ _ (Orx.Still.same (HCd.out _ K2).1 (HCd.out _ K2).2) (fun hS => ?_)
                clear hK K
                try simp only [Act.put, Nat.zero_add, List.getElem_toArray, List.getElem_cons_succ, List.getElem_cons_zero, List.setIfInBounds_toArray, List.set_cons_zero, List.set_cons_succ]
                refine Orx.only_W (i := 8) rfl (by kernel_rfl) (by kernel_rfl) (fun K hK => ?_)
                have hs1 : Src W2 (RE D w) Qa q := hI2.out.q.keep K2 (by simp)
                refine wp_append_src (.tmp 62) (.tmp 67) rfl Try.underlying22 hi hz0 hz1 hz2 hO2 hs1 (n := 0) rfl HLS.out.2 rfl rfl (by have := HLS.out.2; simp; omega) ?_
                intro A6 c6 w6 ho6 hk6 hb6
                rw [List.nil_append] at ho6
                have K6 : Kept [] wc w6 := K2.new hk6 (by intro y hy; simp [blk] at hy; have := HKD.out.size; have := K1.size; have := K2.size; omega)
                have hb6' : ∀ y ∈ blk A6, wc.heap.size ≤ y := fun y hy => by
                  have h1 := HKD.out.size
                  have h2 := K2.size
                  have h3 := K1.size
                  rcases hb6 y hy with h | h
                  · simp [blk] at h; omega
                  · omega
                have hN3 := hN2.keep hk6 (by intro y hy; have := hWW.out; simp [blk]; omega)
                refine hK _ _ (Orx.Still.same (HCd.out _ K6).1 (HCd.out _ K6).2) (fun hS => ?_)
                clear hK K
                try simp only [Act.put, Nat.zero_add, List.getElem_toArray, List.getElem_cons_succ, List.getElem_cons_zero, List.setIfInBounds_toArray, List.set_cons_zero, List.set_cons_succ]
                refine Orx.only_W (i := 14) rfl (by kernel_rfl) (by kernel_rfl) (fun K hK => ?_)
                refine wp_append_src (.tmp 68) (.tmp 73) rfl Try.underlying22 hi hz0 hz1 hz2 ho6 hN3 HLS.out.2 rfl rfl rfl (by have := HLS.out.2; simp; omega) ?_
                intro A7 c7 w7 ho7 hk7 hb7
                have hb7' : ∀ y ∈ blk A7, wc.heap.size ≤ y := fun y hy => by
                  have h2 := K6.size
                  rcases hb7 y hy with h | h
                  · exact hb6' y h
                  · omega
                have K7 : Kept [] wc w7 := K6.new hk7 hb6'
                refine hK _ _ (Orx.Still.same (HCd.out _ K7).1 (HCd.out _ K7).2) (fun hS => ?_)
                clear hK K
                try simp only [Act.put, Nat.zero_add, List.getElem_toArray, List.getElem_cons_succ, List.getElem_cons_zero, List.setIfInBounds_toArray, List.set_cons_zero, List.set_cons_succ]
                refine Orx.take_free (i := 16) (oi := _) (v := .pointer (some ⟨B, 4, none⟩)) rfl (by kernel_rfl) (by kernel_rfl) (by kernel_rfl) (by kernel_rfl) (fun _ _ _ h => h) (by kernel_rfl) hS (fun w hJ => ?hy) (fun hS => ?_)
                case hy => go_simp; (try with_reducible rfl); (try (intro h; omega)); (try (simp [IntKind.wrap_i64]))
                try simp only [Act.put, Nat.zero_add, List.getElem_toArray, List.getElem_cons_succ, List.getElem_cons_zero, List.setIfInBounds_toArray, List.set_cons_zero, List.set_cons_succ]
                obtain ⟨e0, e1, e2, e3, e4, e5, e6⟩ := seven (HCd.out _ K7).1
                obtain ⟨f0, f1, f2, f3, f4, f5, f6⟩ := seven_free (HCd.out _ K7).1
                refine Orx.only_W (i := 17) rfl (by kernel_rfl) (by kernel_rfl) (fun K hK => ?_)
                go_simp
                refine hK _ _ (Orx.Still.later (by kernel_rfl) ?_) (fun hS => ?_)
                · have k8 : Kept [B] w7 (w7.setCell ⟨B, 4, none⟩ (.slice A7 (m + 1) c7)) := (Kept.refl _ _).setCell _ _ (.inl (by simp))
                  exact (k8.cell (World.block_lt_of_cell? w7 _ (HCd.out _ K7).2) (by have h1 := HIC.out.b; have h2 := HADB.out; simp; omega)).trans (HCd.out _ K7).2
                clear hK K e0 e1 e2 e3 e4 e5 e6 f0 f1 f2 f3 f4 f5 f6
                refine Orx.done_W (by kernel_rfl) (NoPanic.normal ?_)
                have HNEW := hide ((hI2.out.store K7 ho7 hb7' 4 (.slice A7 (m + 1) c7)).2)
                go_wp2_with fail
                go_roundg (xs.length - (k + 1))
                case measure => omega
                case rel => exact ⟨k + 1, s ++ [x], q ++ [x], S', cS', A7, c7, n + 1, m + 1, by omega, rfl, by go_num, ⟨HNEW.out, HR.out⟩⟩
      · skip
        have hIc := hinv.out.1
        have hkl : k = xs.length := by omega
        have htake : xs.take k = xs := by rw [hkl]; simp
        have HZC := hide hIc.hZ
        have HIC := hide hIc
        obtain ⟨p0, p1, p2, p3, p4, p5, p6⟩ := seven hIc.hB
        have HKL := hide (And.intro hkl htake)
        clear hIc hkl htake
        go_wp2_with (first
          | (refine wpList_store_whole rfl 46 (.tmp 6) (.tmp 77) rfl rfl (B + 1) _ rfl rfl 46 _ HZC.out (by kernel_rfl) rfl (by simp [Value.oneCell']) ?_
             intro wE hE hkE hsE
             obtain ⟨r0, r1, r2, r3, r4, r5, r6⟩ := seven hE
             have HE := hide hkE
             clear hE hkE hsE p0 p1 p2 p3 p4 p5 p6)
          | fail)
        (try simp only [Exit.inBlock, Exit.then])
        refine bodyPost_ret (by simp [results, Try.results21, go_sem, *]; try rfl) rfl ?_
        obtain ⟨fs, fq, fk⟩ := HIC.out.fin (HE.out.mono (H := [B, B + 1]) (by simp))
        have d1 := HD.out
        have hF : ¬ st.budget - (st.total : Int) < xs.length := by have h1 := HFU.out; rw [← HTT.out]; omega
        have hc : ¬ (0 ≤ st.cut ∧ st.cut - (st.total : Int) < xs.length) := fun h => by
          have h1 := hinv.out.2.2.2.2.2 h.1
          have h2 := HKL.out.1
          omega
        have s1 : st.arr xs = xs := by
          unfold LS.arr
          rw [if_neg (by rw [d1]; simp), if_neg hF, if_neg hc]
        have s2 : st.err xs = 0 := by unfold LS.err; rw [if_neg (by rw [d1]; simp), if_neg hF, if_neg hc]
        have s3 : st.goes xs = false := by unfold LS.goes; rw [if_neg (by rw [d1]; simp), if_neg hF]; simpa using hc
        have s4 : st.send 1 xs = st.put 1 xs false := by unfold LS.send; rw [s1, s3]
        rw [s2, s4, s1]
        have hn1 := hinv.out.2.2.2.1
        have hm1 := hinv.out.2.2.2.2.1
        have hs1 := hinv.out.2.1
        have hq1 := hinv.out.2.2.1
        rw [HKL.out.2] at hs1 hq1
        rw [hs1] at hn1 fs
        rw [hq1] at hm1 fq
        have hC := (HC.out.keep fk (by simp)).mono (D' := fun k => D k ∨ w.heap.size ≤ k) (fun k hk => .inl hk)
        refine ⟨_, rfl, ⟨A0, Qa, S, A3, c0, cQ, cS, c3, ?_, ?_⟩, fk⟩
        · rw [rv_put_1, ← hn1, ← hm1]
        · simp only [LS.put, if_neg (show ¬ (1 : Int) = 0 by omega)]
          exact ⟨hC.s0, fq, fs, hC.q1⟩
end Go.Proofs.Ytbajpofmaffpgaa
