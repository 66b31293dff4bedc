/- The walk of LinkPrefix. -/
import Derived.Test.YtbajpofmaffpgaaPin
namespace Go.Proofs.Ytbajpofmaffpgaa
open Go.RowKit
set_option linter.unusedSimpArgs false
set_option linter.unusedVariables false
set_option maxRecDepth 100000

/-- Two cells that hold slices, each of which reads as s. -/
def JP (p q : Addr) (u v : Value) (s : ByteArray) (w : World) : Prop :=
  w.cell? p = some u ∧ w.cell? q = some v ∧ (convert 22 9 u).run Try.prog w = .ok (.string s) w ∧ (convert 22 9 v).run Try.prog w = .ok (.string s) w

/-- New fails: the law says awake and that there is no link. -/
theorem pre_bad (budget cut : Int) (a : Option Addr) (n c : Nat) (w : World) (h : budget < 0 ∨ 1073741824 < budget) :
    Calls Try.prog 4 #[.int .i64 budget, .int .i64 cut, .slice a n c] w fun e w' => e = .returned (.bool true) ∧ Kept [] w w' := by
  have H := hide h
  clear h
  go_enter Try.func4, Try.ntmps4
  go_wp2_with fail
  refine (new_no _ _ _ H.out).mono ?_
  rintro e w1 ⟨rfl, rfl⟩
  go_wp2_with fail
  refine (awake_calls _).mono ?_
  rintro e w2 ⟨rfl, hk2⟩
  go_wp2_with fail
  refine (awake_calls _).mono ?_
  rintro e w3 ⟨rfl, hk3⟩
  go_wp2_with fail
  go_ret
  exact ⟨rfl, hk2.new hk3 (by simp)⟩

/-- The calls are many: the law says awake and that there is a link. -/
theorem pre_many (budget cut : Int) (a : Option Addr) (L : List OpD) (c : Nat) (w : World) (h0 : 0 ≤ budget) (h1 : budget ≤ 1073741824) (hf : fewB L = false) (hops : OpsAt w w.heap.size a L) (hm : L.length ≤ 9223372036854775807)
    (hX : ∀ i (hi : i < L.length), L[i].X.length ≤ 140737488351232) :
    Calls Try.prog 4 #[.int .i64 budget, .int .i64 cut, .slice a L.length c] w fun e w' => e = .returned (.bool true) ∧ Kept [] w w' := by
  have HF := hide hf
  have HO := hide hops
  have HX := hide hX
  clear hf hops hX
  go_enter Try.func4, Try.ntmps4
  go_wp2_with fail
  refine (new_yes _ _ _ h0 h1).mono ?_
  rintro e w1 ⟨rfl, hL1, hk1, hz1⟩
  go_wp2_with fail
  refine (awake_calls _).mono ?_
  rintro e w2 ⟨rfl, hk2⟩
  have K2 := hk1.new hk2 (by simp)
  go_wp2_with fail
  have hfew := few_calls a L c w2 w.heap.size (HO.out.keep K2 (by simp)) hm HX.out
  rw [HF.out] at hfew
  refine hfew.mono ?_
  clear hfew
  rintro e w3 ⟨rfl, rfl⟩
  go_wp2_with fail
  refine (awake_calls _).mono ?_
  rintro e w3 ⟨rfl, hk3⟩
  go_wp2_with fail
  go_ret
  exact ⟨rfl, K2.new hk3 (by simp)⟩

set_option maxHeartbeats 4000000 in
theorem pre_main (budget cut : Int) (a : Option Addr) (L : List OpD) (c : Nat) (w : World) (h0 : 0 ≤ budget) (h1 : budget ≤ 1073741824) (hf : fewB L = true) (hops : OpsAt w w.heap.size a L) (hm : L.length ≤ 9223372036854775807)
    (hX : ∀ i (hi : i < L.length), L[i].X.length ≤ 140737488351232) (c0 : -9223372036854775808 ≤ cut) (c1 : cut ≤ 9223372036854775807) :
    Calls Try.prog 4 #[.int .i64 budget, .int .i64 cut, .slice a L.length c] w fun e w' => e = .returned (.bool true) ∧ Kept [] w w' := by
  have hl : L.length ≤ 25 := (few_yes hf).1
  have HF := hide hf
  have HO := hide hops
  have HX := hide hX
  have HOK := hide (LS.new_ok budget cut h0 h1 c0 c1)
  clear hf hops hX
  go_enter Try.func4, Try.ntmps4
  go_wp2_with fail
  refine (new_yes _ _ _ h0 h1).mono ?_
  rintro e w1 ⟨rfl, hL1, hk1, hz1⟩
  go_wp2_with fail
  refine (awake_calls _).mono ?_
  rintro e w2 ⟨rfl, hk2⟩
  have K2 := hk1.new hk2 (by simp)
  go_wp2_with fail
  have hfew := few_calls a L c w2 w.heap.size (HO.out.keep K2 (by simp)) hm HX.out
  rw [HF.out] at hfew
  refine hfew.mono ?_
  clear hfew
  rintro e w3 ⟨rfl, rfl⟩
  have HI : BInv budget cut w w2 w.heap.size [w.heap.size] (LS.new budget cut) := ⟨hL1.keep hk2 (by simp), HOK.out, by intro h; simp [LS.new] at h, rfl, rfl, by simp, K2⟩
  clear hL1 hk1 hk2 hz1 K2
  go_wp2_with fail
  obtain ⟨BS, hBS⟩ : ∃ n, n = w2.heap.size := ⟨_, rfl⟩
  rw [← hBS]
  obtain ⟨wx, hwx⟩ : ∃ wx, wx = (w2.alloc (Obj.cells #[Value.slice none 0 0, Value.slice none 0 0] 36)).alloc (Obj.cells #[Value.slice none 0 0, Value.slice none 0 0] 36) := ⟨_, rfl⟩
  rw [← hwx]
  have hkx : Kept [] w2 wx := by rw [hwx]; exact ((Kept.refl _ _).alloc _).alloc _
  have hbs : wx.heap[BS]? = some (Obj.cells #[Value.slice none 0 0, Value.slice none 0 0] 36 (0, 0)) := by
    rw [hwx, Below.heap_alloc _ _ BS (by simp [hBS]), hBS]
    exact heap_alloc_new w2 _
  have hbg : wx.heap[BS + 1]? = some (Obj.cells #[Value.slice none 0 0, Value.slice none 0 0] 36 (0, 0)) := by
    have := heap_alloc_new (w2.alloc (Obj.cells #[Value.slice none 0 0, Value.slice none 0 0] 36)) (Obj.cells #[Value.slice none 0 0, Value.slice none 0 0] 36)
    rw [← hwx] at this
    simpa [hBS] using this
  have hP0 : PInv budget cut w wx w.heap.size BS (BS + 1) [w.heap.size] [BS] [BS + 1] (LS.new budget cut) (fun _ => []) true := by
    have hz := HI.kept.size
    have hlt := HI.at_.lt w.heap.size (by simp)
    refine ⟨⟨HI.at_.keep hkx (by simp), HI.ok, HI.icut, HI.bud, HI.cut, HI.ge, HI.kept.new hkx (by simp)⟩, ⟨none, none, 0, 0, hbs, Own.nil _, Own.nil _, by simp [blk], by simp⟩, ⟨none, none, 0, 0, hbg, Own.nil _, Own.nil _, by simp [blk], by simp⟩,
      by simp; omega, by simp; omega, by simp; omega, by simp; omega, by simp, ?_, by simp⟩
    intro i hi
    obtain rfl | rfl : i = 0 ∨ i = 1 := by omega
    · rfl
    · rfl
  have HP0 := hide hP0
  clear HI hP0 hbs hbg hkx hwx hBS
  obtain ⟨b, hb⟩ : ∃ n, n = w.heap.size := ⟨_, rfl⟩
  rw [← hb] at HP0 ⊢
  obtain ⟨BG, hBG⟩ : ∃ n, n = BS + 1 := ⟨_, rfl⟩
  rw [← hBG] at HP0 ⊢
  have HBG := hide (And.intro hb hBG)
  clear hb hBG
  go_loopw [12, 11] (fun i ok wr => ∃ (k : Nat) (okb : Bool) (F ES EG : List Nat) (st : LS) (g : Nat → List UInt8), k ≤ L.length ∧ i = .int .i64 k ∧ ok = .bool okb ∧ Hid (PInv budget cut w wr b BS BG F ES EG st g okb)) (fun i _ _ => L.length - (intOf i).toNat)
  case atStart => exact ⟨0, true, _, _, _, _, _, Nat.zero_le _, rfl, rfl, HP0⟩
  case round =>
    obtain ⟨k, okb, F, ES, EG, st, g, hk, rfl, rfl, hinv⟩ := hrel
    by_cases hlt : k < L.length
    · obtain ⟨b0, o, rfl, hb0, _, _⟩ := HO.out (by omega)
      have kz := hinv.out.B.kept.size
      obtain ⟨A, cc, hat⟩ := (HO.out.keep hinv.out.B.kept (by simp)).op hlt
      have hX300 : L[k].X.length ≤ 300 := Nat.le_trans (tot_ge hlt) (few_yes HF.out).2
      obtain ⟨d, hd⟩ : ∃ d, d = L[k] := ⟨_, rfl⟩
      rw [← hd] at hat hX300
      clear hd
      obtain ⟨s, hs, hsb⟩ := and_one d.side hat.wf.s0 hat.wf.s1
      obtain ⟨u, t, hut, rfl⟩ : ∃ u t : Nat, u + t = 1 ∧ s = (u : Int) := by
        rcases hs with rfl | rfl
        · exact ⟨0, 1, rfl, rfl⟩
        · exact ⟨1, 0, rfl, rfl⟩
      have hu0 : (0 : Int) ≤ (u : Int) := by omega
      have hu1 : (u : Int) < 2 := by omega
      have hu2 : (u : Int) ≤ 1 := by omega
      have htu : (1 : Int) - (u : Int) = (t : Int) := by omega
      have ht0 : (0 : Int) ≤ (t : Int) := by omega
      have ht1 : (t : Int) < 2 := by omega
      have HU := hide (And.intro hs hut)
      clear hs hut
      have cK := hat.kind
      have cS := hat.side
      have HA := hide hat
      have HX300 := hide hX300
      clear hat hX300
      have hk0 : (0 : Int) ≤ (k : Int) := by omega
      have hk1 : (k : Int) < (L.length : Int) := by omega
      by_cases hk2 : d.kind = 2
      · have hk2' : (d.kind == 2) = true := by rw [hk2]; rfl
        clear hk2
        go_wp2_with fail
        refine (receive_yes hinv.out.B.at_ hinv.out.B.ok (u : Int) HU.out.1).mono ?_
        rintro e w5 ⟨g5, F5, rfl, ho5, la5, k5, hg5, hgl5, hF5⟩
        have hG5 := hinv.out.G.keep k5 (fun x hx hf => hinv.out.fg x hf hx)
        obtain ⟨A1, c1', cG, fG, oG, mG, hGst⟩ := hG5.side t (by have := HU.out.2; omega)
        have hlen := hinv.out.len_recv u t HU.out.2
        obtain ⟨Z, hZ⟩ : ∃ Z, Z = st.wait (u : Int) := ⟨_, rfl⟩
        rw [← hZ] at ho5 hlen
        have HREC := hide (fun wz EG' h1 h2 h3 => hinv.out.recv (wz := wz) (EG' := EG') u t HU.out.2 la5 k5 hF5 h1 h2 h3)
        have HO5 := hide ho5
        have HZ := hide hZ
        rw [← hZ]
        clear ho5 la5 k5 hF5 hZ
        obtain ⟨x, hx⟩ : ∃ x, x = g t := ⟨_, rfl⟩
        rw [← hx] at cG oG hlen
        have HOG := hide oG
        have HGS := hide hGst
        have HXX := hide hx
        have HMG := hide mG
        clear oG hGst hx mG hG5
        obtain ⟨i0, hi, hz0, hz1, hz2⟩ := info_parts info5
        go_wp2_with (first
          | (refine wpList_append_src rfl (.tmp 83) (.tmp 84) rfl Try.underlying22 hi hz0 hz1 hz2 HOG.out HO5.out.src rfl rfl rfl rfl hlen ?_
             intro A6 c6 w6 ho6 hk6 hb6
             obtain ⟨fG6, cG6, hGst6⟩ := HGS.out Z A6 c6 w6 (by rw [← HXX.out]; exact ho6) hk6 hb6
             have HGS6 := hide hGst6
             clear hGst6)
          | fail)
        have HGS7 := HGS6.out
        rw [← HXX.out] at HGS7
        obtain ⟨EG6, hA6, kz6, hE6⟩ := HGS7
        have HR6 := hide (HREC.out _ EG6 (by rw [← HXX.out, ← HZ.out]; exact hA6) kz6 hE6)
        clear hA6 kz6 hE6
        go_roundw
        case rel => exact ⟨k + 1, okb, F5, ES, EG6, _, _, by omega, by go_num, rfl, HR6⟩
        case measure => simp [intOf]; omega
      · have hk2' : (d.kind == 2) = false := by rw [beq_eq_false_iff_ne]; exact hk2
        clear hk2
        have cX := HA.out.X
        go_wp2_with fail
        refine (send_calls hinv.out.B.at_ hinv.out.B.ok (u : Int) HU.out.1 A d.X cc HA.out.src (fun x hx hxF => by have := hinv.out.B.ge x hxF; omega) HA.out.cap).mono ?_
        rintro e w4 ⟨he, F4, la4, k4, hF4⟩
        have hcap := HA.out.cap
        have HA4 := hide (HA.out.keep hb0 kz k4 hinv.out.B.ge)
        obtain ⟨A1, c1', cS', fS', oS', mS', hSst⟩ := (hinv.out.S.keep k4 (fun x hx hf => hinv.out.fs x hf hx)).side u (by have := HU.out.2; omega)
        have hlen := hinv.out.len_send u (by have := HU.out.2; omega) d.X
        have PS := hide (fun wz ES' okb' h1 h2 h3 h4 => hinv.out.send (okb' := okb') (wz := wz) (ES' := ES') u (by have := HU.out.2; omega) d.X HX300.out la4 k4 hF4 h1 h2 h3 h4)
        obtain ⟨n, hn⟩ : ∃ n, n = (st.arr d.X).length := ⟨_, rfl⟩
        obtain ⟨er, her⟩ : ∃ er, er = st.err d.X := ⟨_, rfl⟩
        have hnle : n ≤ d.X.length := by rw [hn]; exact arr_le _ _
        have hfull : er = 0 → n = d.X.length := fun h => by rw [hn]; exact err_zero (by rw [← her]; exact h)
        have hsrc : Src w4 (· < w.heap.size) A (st.arr d.X) := by
          rw [arr_take st d.X]
          exact HA4.out.src.take _
        rw [← hn, ← her] at he
        obtain ⟨Y, hY⟩ : ∃ Y, Y = st.arr d.X := ⟨_, rfl⟩
        rw [← hY] at hsrc hlen hn
        obtain ⟨x, hx⟩ : ∃ x, x = SF st u := ⟨_, rfl⟩
        rw [← hx] at cS' oS' hlen
        have HER := hide her
        have HY := hide hY
        have HN := hide hn
        have HSRC := hide hsrc
        have HOS := hide oS'
        have HXX := hide hx
        have HSS := hide hSst
        subst he
        clear her hY hn hsrc oS' hx hSst la4 k4 hF4 mS'
        clear cK cS cX
        have cX := HA4.out.X
        have hn0 : ¬ (n : Int) < 0 := by omega
        have hn1 : ¬ (d.X.length : Int) < (n : Int) := by omega
        have hn2 : (0 : Int) ≤ (n : Int) := by omega
        have hn3 : (n : Int) ≤ (d.X.length : Int) := by omega
        have hn4 : (n : Int) ≤ (cc : Int) := by omega
        obtain ⟨i0, hi, hz0, hz1, hz2⟩ := info_parts info5
        by_cases he0 : er = 0
        · subst he0
          have hnX := hfull rfl
          have hnX' : ((n : Int) != (d.X.length : Int)) = false := by rw [bne_eq_false_iff_eq, hnX]
          clear hfull hnX
          go_wp2_with fail
          go_region_law (refine step_append_src rfl (.tmp 129) (.tmp 136) rfl Try.underlying22 hi hz0 hz1 hz2 HOS.out.drew HSRC.out.drew rfl HN.out.symm rfl rfl hlen ?_; intro A6 c6 w6 ho6 hk6 hb6; obtain ⟨fG6, cG6, hGst6⟩ := HSS.out Y A6 c6 w6 (by rw [← HXX.out]; exact ho6) hk6.undrew hb6; have HGS6 := hide hGst6; clear hGst6)
          all_goals
            go_wp2_with fail
            have HGS7 := HGS6.out
            rw [← HXX.out, ← HN.out] at HGS7
            obtain ⟨ES6, hA6, kz6, hE6⟩ := HGS7
            have HR6 := hide (PS.out _ ES6 okb (by rw [← HXX.out, ← HY.out]; exact hA6) kz6 hE6 (fun h => .inl h))
            clear hA6 kz6 hE6
            go_roundw
            case rel => exact ⟨k + 1, okb, F4, ES6, EG, _, _, by omega, by go_num, rfl, HR6⟩
            case measure => simp [intOf]; omega
        · have he1 : (er == 0) = false := by rw [beq_eq_false_iff_ne]; exact he0
          have HE0 := hide he0
          clear hfull he0
          go_wp2_with fail
          go_region_law (refine step_append_src rfl (.tmp 129) (.tmp 136) rfl Try.underlying22 hi hz0 hz1 hz2 HOS.out.drew HSRC.out.drew rfl HN.out.symm rfl rfl hlen ?_; intro A6 c6 w6 ho6 hk6 hb6; obtain ⟨fG6, cG6, hGst6⟩ := HSS.out Y A6 c6 w6 (by rw [← HXX.out]; exact ho6) hk6.undrew hb6; have HGS6 := hide hGst6; clear hGst6)
          all_goals
            go_wp2_with fail
            have HGS7 := HGS6.out
            rw [← HXX.out, ← HN.out] at HGS7
            obtain ⟨ES6, hA6, kz6, hE6⟩ := HGS7
            have HR6 := hide (PS.out _ ES6 false (by rw [← HXX.out, ← HY.out]; exact hA6) kz6 hE6 (fun _ => .inr (by rw [← HER.out]; exact HE0.out)))
            clear hA6 kz6 hE6
            go_roundw
            case rel => exact ⟨k + 1, false, F4, ES6, EG, _, _, by omega, by go_num, rfl, HR6⟩
            case measure => simp [intOf]; omega
    · obtain ⟨wl, hwl⟩ : ∃ wl, wl = wr := ⟨_, rfl⟩
      rw [← hwl] at hinv ⊢
      clear hwl
      go_wp2_with fail
      go_loopw [18] (fun i wr => ∃ (k : Nat) (F ES EG : List Nat) (st : LS) (g : Nat → List UInt8), k ≤ 2 ∧ i = .int .i64 k ∧ Hid (PInv budget cut w wr b BS BG F ES EG st g okb)) (fun i _ => 2 - (intOf i).toNat)
      case atStart => exact ⟨0, _, _, _, _, _, by omega, rfl, hinv⟩
      case round =>
        clear hinv hk hlt
        obtain ⟨k, F, ES, EG, st, g, hk, rfl, hinv⟩ := hrel
        by_cases hlt : k < 2
        · obtain ⟨u, hu⟩ : ∃ u, u + k = 1 := ⟨1 - k, by omega⟩
          have hu0 : (0 : Int) ≤ (u : Int) := by omega
          have hu1 : (u : Int) ≤ 1 := by omega
          have hk0 : (0 : Int) ≤ (k : Int) := by omega
          have hk1 : (k : Int) < 2 := by omega
          have hk2 : (k : Int) ≤ 1 := by omega
          have htu : (1 : Int) - (k : Int) = (u : Int) := by omega
          have HU := hide hu
          clear hu
          go_wp2_with fail
          refine (receive_yes hinv.out.B.at_ hinv.out.B.ok (u : Int) (by omega)).mono ?_
          rintro e w5 ⟨g5, F5, rfl, ho5, la5, k5, hg5, hgl5, hF5⟩
          have hG5 := hinv.out.G.keep k5 (fun x hx hf => hinv.out.fg x hf hx)
          obtain ⟨A1, c1', cG, fG, oG, mG, hGst⟩ := hG5.side k hlt
          have hlen := hinv.out.len_recv u k HU.out
          obtain ⟨Z, hZ⟩ : ∃ Z, Z = st.wait (u : Int) := ⟨_, rfl⟩
          rw [← hZ] at ho5 hlen
          have HREC := hide (fun wz EG' h1 h2 h3 => hinv.out.recv (wz := wz) (EG' := EG') u k HU.out la5 k5 hF5 h1 h2 h3)
          have HO5 := hide ho5
          have HZ := hide hZ
          rw [← hZ]
          clear ho5 la5 k5 hF5 hZ
          obtain ⟨x, hx⟩ : ∃ x, x = g k := ⟨_, rfl⟩
          rw [← hx] at cG oG hlen
          have HOG := hide oG
          have HGS := hide hGst
          have HXX := hide hx
          clear oG hGst hx mG hG5
          obtain ⟨i0, hi, hz0, hz1, hz2⟩ := info_parts info5
          go_wp2_with (first
            | (refine wpList_append_src rfl (.tmp 153) (.tmp 154) rfl Try.underlying22 hi hz0 hz1 hz2 HOG.out HO5.out.src rfl rfl rfl rfl hlen ?_
               intro A6 c6 w6 ho6 hk6 hb6
               obtain ⟨fG6, cG6, hGst6⟩ := HGS.out Z A6 c6 w6 (by rw [← HXX.out]; exact ho6) hk6 hb6
               have HGS6 := hide hGst6
               clear hGst6)
            | fail)
          refine wp_named ?_
          intro wz hwz
          have HGS7 := HGS6.out
          rw [← HXX.out, ← hwz] at HGS7
          obtain ⟨EG6, hA6, kz6, hE6⟩ := HGS7
          have HR6 := HREC.out _ EG6 (by rw [← HXX.out, ← HZ.out]; exact hA6) kz6 hE6
          obtain ⟨st6, hst6⟩ : ∃ s, s = st.recv (u : Int) := ⟨_, rfl⟩
          obtain ⟨g6, hg6⟩ : ∃ s, s = upd g k (g k ++ st.wait (u : Int)) := ⟨_, rfl⟩
          rw [← hst6, ← hg6] at HR6
          obtain ⟨T, hT⟩ : ∃ T, T = SF st6 k := ⟨_, rfl⟩
          have hgT : g6 k = T := by
            have hfl := HR6.flow k hlt
            have hq : QF st6 (1 - k) = [] := by
              have h1 : 1 - k = u := by have := HU.out; omega
              rw [hst6, QF_recv st u (by omega) (1 - k) (by omega), h1, upd_same]
            rw [hq, List.append_nil] at hfl
            rw [hfl, hT]
          have HR := hide HR6
          clear hA6 kz6 hE6 HR6 HGS6 HGS HOG HO5 HREC cG fG cG6 fG6 hwz ho6 hk6 hb6
          obtain ⟨A8, c8, c8a, _, c8o, _, _⟩ := HR.out.G.side k hlt
          obtain ⟨A9, c9, c9a, _, c9o, _, _⟩ := HR.out.S.side k hlt
          rw [hgT] at c8a c8o
          rw [← hT] at c9a c9o
          have HTR : Hid (∀ wx, Kept [] wz wx → Calls Try.prog 17 #[.pointer (some ⟨b, 0, none⟩), .int .i64 (k : Int)] wx fun e w' => ∃ g, e = .returned (.slice (some ⟨g, 0, none⟩) T.length T.length) ∧ Own w' (some ⟨g, 0, none⟩) T.length T ∧ Kept [] wx w' ∧ wx.heap.size ≤ g ∧ g < w'.heap.size) := fun wx hkx => by
            have h := transcript_yes (HR.out.B.at_.keep hkx (by simp)) HR.out.B.ok (k : Int) (by omega)
            rw [sent_SF st6 k hlt, ← hT] at h
            exact h
          have HJJ : Hid (∀ wx, Kept [] wz wx → JP ⟨BG, k, none⟩ ⟨BS, k, none⟩ (.slice A8 T.length c8) (.slice A9 T.length c9) (str T) wx) := fun wx hkx =>
            ⟨(hkx.cell (World.block_lt_of_cell? wz _ c8a) (by simp)).trans c8a, (hkx.cell (World.block_lt_of_cell? wz _ c9a) (by simp)).trans c9a, conv_str (c8o.keep hkx (by simp)).src _, conv_str (c9o.keep hkx (by simp)).src _⟩
          clear c8a c8o c9a c9o hgT hT hst6 hg6
          obtain ⟨m, hm'⟩ : ∃ m, m = T.length := ⟨_, rfl⟩
          rw [← hm'] at HTR HJJ
          have HM := hide hm'
          clear hm'
          have hkd : Kept [] wz wz.drew := (Kept.refl _ _).drew
          go_wp2_with fail
          refine wp_region_noPanic ?_
          refine begin_W 12 (JP ⟨BG, k, none⟩ ⟨BS, k, none⟩ (.slice A8 m c8) (.slice A9 m c9) (str T)) (by kernel_rfl) (HJJ.out _ hkd) (fun hS => ?_)
          have HTD := hide (HTR.out _ hkd)
          have HKD := hide hkd
          clear HTR hkd
          generalize wz.drew = W at *
          refine take_free (i := 0) (oi := _) (v := .int .i64 (k : Int)) rfl (by kernel_rfl) (by kernel_rfl) (by kernel_rfl) (by kernel_rfl) (fun _ _ _ h => h) (by rfl) hS (fun w hJ => ?hy) (fun hS => ?_)
          case hy => go_simp; (try with_reducible rfl); (try (intro h; omega))
          simp only [Act.put, List.setIfInBounds_toArray, List.set_cons_zero, List.set_cons_succ]
          refine take_free (i := 1) (oi := _) (v := .pointer (some ⟨BG, k, none⟩)) rfl (by kernel_rfl) (by kernel_rfl) (by kernel_rfl) (by kernel_rfl) (fun _ _ _ h => h) (by rfl) hS (fun w hJ => ?hy) (fun hS => ?_)
          case hy => go_simp; (try with_reducible rfl); (try (intro h; omega))
          simp only [Act.put, List.setIfInBounds_toArray, List.set_cons_zero, List.set_cons_succ]
          refine take_free (i := 2) (oi := _) (v := .slice A8 m c8) rfl (by kernel_rfl) (by kernel_rfl) (by kernel_rfl) (by kernel_rfl) (fun _ _ _ h => h) (by rfl) hS (fun w hJ => ?hy) (fun hS => ?_)
          case hy => obtain ⟨j0, j1, j2, j3⟩ := hJ; go_simp; (try with_reducible rfl); (try (intro h; omega))
          simp only [Act.put, List.setIfInBounds_toArray, List.set_cons_zero, List.set_cons_succ]
          refine take_free (i := 3) (oi := _) (v := .string (str T)) rfl (by kernel_rfl) (by kernel_rfl) (by kernel_rfl) (by kernel_rfl) (fun _ _ _ h => h) (by rfl) hS (fun w hJ => ?hy) (fun hS => ?_)
          case hy => obtain ⟨j0, j1, j2, j3⟩ := hJ; go_simp; (try with_reducible rfl); (try (intro h; omega))
          simp only [Act.put, List.setIfInBounds_toArray, List.set_cons_zero, List.set_cons_succ]
          refine take_free (i := 4) (oi := _) (v := .int .i64 (k : Int)) rfl (by kernel_rfl) (by kernel_rfl) (by kernel_rfl) (by kernel_rfl) (fun _ _ _ h => h) (by rfl) hS (fun w hJ => ?hy) (fun hS => ?_)
          case hy => go_simp; (try with_reducible rfl); (try (intro h; omega))
          simp only [Act.put, List.setIfInBounds_toArray, List.set_cons_zero, List.set_cons_succ]
          refine take_free (i := 5) (oi := _) (v := .pointer (some ⟨BS, k, none⟩)) rfl (by kernel_rfl) (by kernel_rfl) (by kernel_rfl) (by kernel_rfl) (fun _ _ _ h => h) (by rfl) hS (fun w hJ => ?hy) (fun hS => ?_)
          case hy => go_simp; (try with_reducible rfl); (try (intro h; omega))
          simp only [Act.put, List.setIfInBounds_toArray, List.set_cons_zero, List.set_cons_succ]
          refine take_free (i := 6) (oi := _) (v := .slice A9 m c9) rfl (by kernel_rfl) (by kernel_rfl) (by kernel_rfl) (by kernel_rfl) (fun _ _ _ h => h) (by rfl) hS (fun w hJ => ?hy) (fun hS => ?_)
          case hy => obtain ⟨j0, j1, j2, j3⟩ := hJ; go_simp; (try with_reducible rfl); (try (intro h; omega))
          simp only [Act.put, List.setIfInBounds_toArray, List.set_cons_zero, List.set_cons_succ]
          refine take_free (i := 7) (oi := _) (v := .string (str T)) rfl (by kernel_rfl) (by kernel_rfl) (by kernel_rfl) (by kernel_rfl) (fun _ _ _ h => h) (by rfl) hS (fun w hJ => ?hy) (fun hS => ?_)
          case hy => obtain ⟨j0, j1, j2, j3⟩ := hJ; go_simp; (try with_reducible rfl); (try (intro h; omega))
          simp only [Act.put, List.setIfInBounds_toArray, List.set_cons_zero, List.set_cons_succ]
          refine take_free (i := 8) (oi := _) (v := .bool false) rfl (by kernel_rfl) (by kernel_rfl) (by kernel_rfl) (by kernel_rfl) (fun _ _ _ h => h) (by rfl) hS (fun w hJ => ?hy) (fun hS => ?_)
          case hy => go_simp; (try with_reducible rfl); (try (intro h; omega))
          simp only [Act.put, List.setIfInBounds_toArray, List.set_cons_zero, List.set_cons_succ]
          refine take_free (i := 9) (oi := _) (v := .bool false) rfl (by kernel_rfl) (by kernel_rfl) (by kernel_rfl) (by kernel_rfl) (fun _ _ _ h => h) (by rfl) hS (fun w hJ => ?hy) (fun hS => ?_)
          case hy => go_simp; (try with_reducible rfl); (try (intro h; omega))
          simp only [Act.put, List.setIfInBounds_toArray, List.set_cons_zero, List.set_cons_succ]
          refine take_free (i := 10) (oi := _) (v := .pointer (some ⟨b, 0, none⟩)) rfl (by kernel_rfl) (by kernel_rfl) (by kernel_rfl) (by kernel_rfl) (fun _ _ _ h => h) (by kernel_rfl) hS (fun w hJ => ?hy) (fun hS => ?_)
          case hy => go_simp; (try with_reducible rfl); (try (intro h; omega))
          simp only [Act.put, List.setIfInBounds_toArray, List.set_cons_zero, List.set_cons_succ]
          refine take_free (i := 11) (oi := _) (v := .int .i64 (k : Int)) rfl (by kernel_rfl) (by kernel_rfl) (by kernel_rfl) (by kernel_rfl) (fun _ _ _ h => h) (by kernel_rfl) hS (fun w hJ => ?hy) (fun hS => ?_)
          case hy => go_simp; (try with_reducible rfl); (try (intro h; omega))
          simp only [Act.put, List.setIfInBounds_toArray, List.set_cons_zero, List.set_cons_succ]
          refine take_free (i := 14) (oi := _) (v := .int .i64 (k : Int)) rfl (by kernel_rfl) (by kernel_rfl) (by kernel_rfl) (by kernel_rfl) (fun _ _ _ h => h) (by kernel_rfl) hS (fun w hJ => ?hy) (fun hS => ?_)
          case hy => go_simp; (try with_reducible rfl); (try (intro h; omega))
          simp only [Act.put, List.setIfInBounds_toArray, List.set_cons_zero, List.set_cons_succ]
          refine take_free (i := 15) (oi := _) (v := .pointer (some ⟨BS, k, none⟩)) rfl (by kernel_rfl) (by kernel_rfl) (by kernel_rfl) (by kernel_rfl) (fun _ _ _ h => h) (by kernel_rfl) hS (fun w hJ => ?hy) (fun hS => ?_)
          case hy => go_simp; (try with_reducible rfl); (try (intro h; omega))
          simp only [Act.put, List.setIfInBounds_toArray, List.set_cons_zero, List.set_cons_succ]
          refine take_free (i := 16) (oi := _) (v := .slice A9 m c9) rfl (by kernel_rfl) (by kernel_rfl) (by kernel_rfl) (by kernel_rfl) (fun _ _ _ h => h) (by kernel_rfl) hS (fun w hJ => ?hy) (fun hS => ?_)
          case hy => obtain ⟨j0, j1, j2, j3⟩ := hJ; go_simp; (try with_reducible rfl); (try (intro h; omega))
          simp only [Act.put, List.setIfInBounds_toArray, List.set_cons_zero, List.set_cons_succ]
          refine take_free (i := 17) (oi := _) (v := .string (str T)) rfl (by kernel_rfl) (by kernel_rfl) (by kernel_rfl) (by kernel_rfl) (fun _ _ _ h => h) (by kernel_rfl) hS (fun w hJ => ?hy) (fun hS => ?_)
          case hy => obtain ⟨j0, j1, j2, j3⟩ := hJ; go_simp; (try with_reducible rfl); (try (intro h; omega))
          simp only [Act.put, List.setIfInBounds_toArray, List.set_cons_zero, List.set_cons_succ]
          refine only_W (i := 12) rfl (by kernel_rfl) (by kernel_rfl) (fun K hK => ?_)
          go_simp
          refine (HTD.out).mono ?_
          rintro e w7 ⟨g7, rfl, ho7, hk7, _, _⟩
          have hk7z : Kept [] wz w7 := HKD.out.new hk7 (by simp)
          have cv7 : (convert 22 9 (.slice (some ⟨g7, 0, none⟩) m m)).run Try.prog w7 = .ok (.string (str T)) w7 := by
            have := conv_str ho7.src m
            rw [← HM.out] at this
            exact this
          refine hK _ _ (Still.later (by kernel_rfl) (HJJ.out _ hk7z)) (fun hS => ?_)
          clear hK K
          try simp only [Act.put, List.setIfInBounds_toArray, List.set_cons_zero, List.set_cons_succ]
          refine only_W (i := 13) rfl (by kernel_rfl) (by kernel_rfl) (fun K hK => ?_)
          go_simp
          refine hK _ _ hS (fun hS => ?_)
          clear hK K cv7
          try simp only [Act.put, List.setIfInBounds_toArray, List.set_cons_zero, List.set_cons_succ]
          refine take_free (i := 18) (oi := _) (v := .bool false) rfl (by kernel_rfl) (by kernel_rfl) (by kernel_rfl) (by kernel_rfl) (fun _ _ _ h => h) (by kernel_rfl) hS (fun w hJ => ?hy) (fun hS => ?_)
          case hy => go_simp; (try with_reducible rfl); (try (intro h; omega))
          try simp only [Act.put, List.setIfInBounds_toArray, List.set_cons_zero, List.set_cons_succ]
          refine take_free (i := 19) (oi := _) (v := .bool false) rfl (by kernel_rfl) (by kernel_rfl) (by kernel_rfl) (by kernel_rfl) (fun _ _ _ h => h) (by kernel_rfl) hS (fun w hJ => ?hy) (fun hS => ?_)
          case hy => go_simp; (try with_reducible rfl); (try (intro h; omega))
          try simp only [Act.put, List.setIfInBounds_toArray, List.set_cons_zero, List.set_cons_succ]
          refine done_W (by kernel_rfl) (NoPanic.normal ?_)
          have HR7 := hide (HR.out.keep hk7z)
          clear hS HTD HKD HJJ HR hk7 hk7z ho7
          go_wp2_with fail
          go_roundw
          case rel => exact ⟨k + 1, _, _, _, _, _, by omega, by go_num, HR7⟩
          case measure => simp [intOf]; omega
        · obtain ⟨wl2, hwl2⟩ : ∃ wl2, wl2 = wr := ⟨_, rfl⟩
          rw [← hwl2] at hinv ⊢
          clear hwl2
          have hwh := hinv.out.whole
          obtain ⟨dn, hdn⟩ : ∃ dn, dn = st.down := ⟨_, rfl⟩
          obtain ⟨V, hV⟩ : ∃ V, V = st.budget - (st.total : Int) := ⟨_, rfl⟩
          have hV2 : budget - (st.total : Int) = V := by rw [hV, hinv.out.B.bud]
          rw [← hdn, hV2] at hwh
          have HDA : Hid (Calls Try.prog 15 #[.pointer (some ⟨b, 0, none⟩)] wl2 fun e w' => e = .returned (.bool dn) ∧ wl2 = w') := by
            have := down_calls hinv.out.B.at_
            rw [← hdn] at this
            exact this
          have HLA : Hid (Calls Try.prog 14 #[.pointer (some ⟨b, 0, none⟩)] wl2 fun e w' => e = .returned (.int .i64 V) ∧ Drawn wl2 w') := by
            have := left_calls hinv.out.B.at_ hinv.out.B.ok
            rw [← hV] at this
            exact this
          have HK := hide hinv.out.B.kept
          clear hdn hV hV2 hinv
          cases okb with
          | true =>
            clear hwh
            go_wp2_with fail
            go_ret
            exact ⟨rfl, HK.out⟩
          | false =>
            have hwh := hwh rfl
            cases dn with
            | true =>
              clear hwh
              go_wp2_with fail
              refine (HDA.out).mono ?_
              rintro e w9 ⟨rfl, rfl⟩
              go_wp2_with fail
              go_ret
              exact ⟨rfl, HK.out⟩
            | false =>
              have hV300 : V < 300 := by simpa using hwh
              clear hwh
              go_wp2_with fail
              refine (HDA.out).mono ?_
              rintro e w9 ⟨rfl, rfl⟩
              go_wp2_with fail
              refine (HLA.out).mono ?_
              rintro e w9 ⟨rfl, hd9⟩
              go_wp2_with fail
              go_ret
              exact ⟨rfl, HK.out.new (hd9.kept []) (by simp)⟩

theorem pre_calls (budget cut : Int) (a : Option Addr) (L : List OpD) (c : Nat) (w : World) (hops : OpsAt w w.heap.size a L) (hm : L.length ≤ 9223372036854775807)
    (hX : ∀ i (hi : i < L.length), L[i].X.length ≤ 140737488351232) (c0 : -9223372036854775808 ≤ cut) (c1 : cut ≤ 9223372036854775807) :
    Calls Try.prog 4 #[.int .i64 budget, .int .i64 cut, .slice a L.length c] w fun e w' => e = .returned (.bool true) ∧ Kept [] w w' := by
  by_cases hb : budget < 0 ∨ 1073741824 < budget
  · exact pre_bad budget cut a L.length c w hb
  · cases hf : fewB L with
    | false => exact pre_many budget cut a L c w (by omega) (by omega) hf hops hm hX
    | true => exact pre_main budget cut a L c w (by omega) (by omega) hf hops hm hX c0 c1
end Go.Proofs.Ytbajpofmaffpgaa
