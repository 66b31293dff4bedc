/- The walk of LinkSides. -/
import Derived.Test.YtbajpofmaffpgaaAny
import Derived.Deep.RegionWith
namespace Go.Proofs.Ytbajpofmaffpgaa
open Go.RowKit
set_option linter.unusedSimpArgs false
set_option linter.unusedVariables false

/-- The link with its sides exchanged. -/
def LS.mirror (st : LS) : LS := ⟨st.s1, st.q1, st.s0, st.q0, st.budget, st.cut, st.down⟩

theorem mirror_total (st : LS) : st.mirror.total = st.total := by unfold LS.mirror LS.total; simp; omega
theorem mirror_ok {st : LS} (h : st.Ok) : st.mirror.Ok :=
  ⟨by rw [mirror_total]; exact h.b0, h.b1, h.c0, h.c1, by rw [mirror_total]; exact h.c2, h.q1, h.q0⟩
theorem mirror_arr (st : LS) (xs : List UInt8) : st.mirror.arr xs = st.arr xs := by
  unfold LS.arr; rw [mirror_total]; rfl
theorem mirror_err (st : LS) (xs : List UInt8) : st.mirror.err xs = st.err xs := by
  unfold LS.err; rw [mirror_total]; rfl
theorem mirror_goes (st : LS) (xs : List UInt8) : st.mirror.goes xs = st.goes xs := by
  unfold LS.goes; rw [mirror_total]; rfl
theorem mirror_send (st : LS) (k : Int) (hk : k = 0 ∨ k = 1) (xs : List UInt8) : st.mirror.send (1 - k) xs = (st.send k xs).mirror := by
  unfold LS.send
  rw [mirror_arr, mirror_goes]
  rcases hk with rfl | rfl <;> simp [LS.put, LS.mirror]
theorem mirror_recv (st : LS) (k : Int) (hk : k = 0 ∨ k = 1) : st.mirror.recv (1 - k) = (st.recv k).mirror := by
  rcases hk with rfl | rfl <;> simp [LS.recv, LS.mirror]
theorem mirror_wait (st : LS) (k : Int) (hk : k = 0 ∨ k = 1) : st.mirror.wait (1 - k) = st.wait k := by
  rcases hk with rfl | rfl <;> simp [LS.wait, LS.mirror]

theorem sid_bad (budget cut : Int) (a : Option Addr) (n c : Nat) (w : World) (h : budget < 0 ∨ 1073741824 < budget) :
    Calls Try.prog 7 #[.int .i64 budget, .int .i64 cut, .slice a n c] w fun e w' => e = .returned (.bool true) ∧ Kept [] w w' := by
  have H := hide h
  clear h
  go_enter Try.func7, Try.ntmps7
  go_wp2_with fail
  refine (new_no _ _ _ H.out).mono ?_
  rintro e w1 ⟨rfl, rfl⟩
  go_wp2_with fail
  refine (new_no _ _ _ H.out).mono ?_
  rintro e w1 ⟨rfl, rfl⟩
  go_wp2_with fail
  refine (awake_calls _).mono ?_
  rintro e w2 ⟨rfl, hk2⟩
  go_wp2_with fail
  refine (awake_calls _).mono ?_
  rintro e w3 ⟨rfl, hk3⟩
  go_wp2_with fail
  go_ret
  exact ⟨rfl, hk2.new hk3 (by simp)⟩

theorem sid_many (budget cut : Int) (a : Option Addr) (L : List OpD) (c : Nat) (w : World) (h0 : 0 ≤ budget) (h1 : budget ≤ 1073741824) (hf : fewB L = false) (hops : OpsAt w w.heap.size a L) (hm : L.length ≤ 9223372036854775807)
    (hX : ∀ i (hi : i < L.length), L[i].X.length ≤ 140737488351232) :
    Calls Try.prog 7 #[.int .i64 budget, .int .i64 cut, .slice a L.length c] w fun e w' => e = .returned (.bool true) ∧ Kept [] w w' := by
  have HF := hide hf
  have HO := hide hops
  have HX := hide hX
  clear hf hops hX
  go_enter Try.func7, Try.ntmps7
  go_wp2_with fail
  refine (new_yes _ _ _ h0 h1).mono ?_
  rintro e w0 ⟨rfl, hL0, hk0, hz0⟩
  go_wp2_with fail
  refine (new_yes _ _ _ h0 h1).mono ?_
  rintro e w1 ⟨rfl, hL1, hk1, hz1⟩
  go_wp2_with fail
  refine (awake_calls _).mono ?_
  rintro e w2 ⟨rfl, hk2⟩
  have K2 := (hk0.new hk1 (by simp)).new hk2 (by simp)
  go_wp2_with fail
  have hfew := few_calls a L c w2 w.heap.size (HO.out.keep K2 (by simp)) hm HX.out
  rw [HF.out] at hfew
  refine hfew.mono ?_
  clear hfew
  rintro e w3 ⟨rfl, rfl⟩
  go_wp2_with fail
  refine (awake_calls _).mono ?_
  rintro e w3 ⟨rfl, hk3⟩
  go_wp2_with fail
  go_ret
  exact ⟨rfl, K2.new hk3 (by simp)⟩

/-- Two links, the one the other's mirror. -/
structure SInv (w0 wr : World) (a b : Nat) (Fa Fb : List Nat) (st : LS) : Prop where
  ata : LinkAt wr a Fa st
  atb : LinkAt wr b Fb st.mirror
  ok : st.Ok
  gea : ∀ x ∈ Fa, w0.heap.size ≤ x
  geb : ∀ x ∈ Fb, w0.heap.size ≤ x
  dis : ∀ x ∈ Fa, x ∉ Fb
  kept : Kept [] w0 wr

theorem SInv.two {w0 wr w3 w4 : World} {a b : Nat} {Fa Fb : List Nat} {st st' : LS} (h : SInv w0 wr a b Fa Fb st) (ok' : st'.Ok) (ha : Sent wr a Fa st' w3) (hb : Sent w3 b Fb st'.mirror w4) :
    ∃ Fa' Fb', SInv w0 w4 a b Fa' Fb' st' := by
  obtain ⟨Fa', la, ka, fa⟩ := ha
  obtain ⟨Fb', lb, kb, fb⟩ := hb
  have z1 := h.kept.size
  have z2 := ka.size
  have z3 := kb.size
  have lta := la.lt
  have ltb := h.atb.lt
  refine ⟨Fa', Fb', la.keep kb (fun x hx hxb => ?_), lb, ok', fun x hx => ?_, fun x hx => ?_, fun x hx hxb => ?_, (h.kept.new ka h.gea).new kb h.geb⟩
  · rcases fa x hx with h1 | h1
    · exact h.dis x h1 hxb
    · have := ltb x hxb; omega
  · rcases fa x hx with h1 | h1
    · exact h.gea x h1
    · omega
  · rcases fb x hx with h1 | h1
    · exact h.geb x h1
    · omega
  · have := lta x hx
    rcases fb x hxb with h1 | h1
    · rcases fa x hx with h2 | h2
      · exact h.dis x h2 h1
      · have := ltb x h1; omega
    · omega

set_option maxHeartbeats 1000000 in
set_option maxRecDepth 100000 in
theorem sid_main (budget cut : Int) (b0 o : Nat) (L : List OpD) (c : Nat) (w : World) (h0 : 0 ≤ budget) (h1 : budget ≤ 1073741824) (hf : fewB L = true) (hops : OpsAt w w.heap.size (some ⟨b0, o, none⟩) L) (hm : L.length ≤ 9223372036854775807)
    (hX : ∀ i (hi : i < L.length), L[i].X.length ≤ 140737488351232) (c0 : -9223372036854775808 ≤ cut) (c1 : cut ≤ 9223372036854775807) (hb0 : b0 < w.heap.size) :
    Calls Try.prog 7 #[.int .i64 budget, .int .i64 cut, .slice (some ⟨b0, o, none⟩) L.length c] w fun e w' => e = .returned (.bool true) ∧ Kept [] w w' := by
  have hl : L.length ≤ 25 := (few_yes hf).1
  have HF := hide hf
  have HO := hide hops
  have HX := hide hX
  have HOK := hide (LS.new_ok budget cut h0 h1 c0 c1)
  clear hf hops hX
  go_enter Try.func7, Try.ntmps7
  go_wp2_with fail
  refine (new_yes _ _ _ h0 h1).mono ?_
  rintro e w0 ⟨rfl, hL0, hk0, hz0⟩
  go_wp2_with fail
  refine (new_yes _ _ _ h0 h1).mono ?_
  rintro e w1 ⟨rfl, hL1, hk1, hz1⟩
  go_wp2_with fail
  refine (awake_calls _).mono ?_
  rintro e w2 ⟨rfl, hk2⟩
  have K2 := (hk0.new hk1 (by simp)).new hk2 (by simp)
  go_wp2_with fail
  have hfew := few_calls (some ⟨b0, o, none⟩) L c w2 w.heap.size (HO.out.keep K2 (by simp)) hm HX.out
  rw [HF.out] at hfew
  refine hfew.mono ?_
  clear hfew
  rintro e w3 ⟨rfl, rfl⟩
  obtain ⟨bb, hbb⟩ : ∃ bb, bb = w0.heap.size := ⟨_, rfl⟩
  have HI : SInv w w2 w.heap.size w0.heap.size [w.heap.size] [w0.heap.size] (LS.new budget cut) := ⟨(hL0.keep hk1 (by simp)).keep hk2 (by simp), hL1.keep hk2 (by simp), HOK.out, by simp, by simp; omega, by simp; omega, K2⟩
  clear hL0 hk0 hz0 hL1 hk1 hk2 hz1 K2 hbb
  go_wp2_with fail
  go_loopw [11] (fun i wr => ∃ (k : Nat) (Fa Fb : List Nat) (st : LS), k ≤ L.length ∧ i = .int .i64 k ∧ Hid (SInv w wr w.heap.size w0.heap.size Fa Fb st)) (fun i _ => L.length - (intOf i).toNat)
  case atStart => exact ⟨0, _, _, _, Nat.zero_le _, rfl, HI⟩
  case round =>
    obtain ⟨k, Fa, Fb, st, hk, rfl, hinv⟩ := hrel
    by_cases hlt : k < L.length
    · have kz := hinv.out.kept.size
      obtain ⟨A, cc, hat⟩ := (HO.out.keep hinv.out.kept (by simp)).op hlt
      obtain ⟨d, hd⟩ : ∃ d, d = L[k] := ⟨_, rfl⟩
      rw [← hd] at hat
      clear hd
      obtain ⟨s, hs, hsb⟩ := and_one d.side hat.wf.s0 hat.wf.s1
      have hs0 : 0 ≤ s := by omega
      have hs1 : s ≤ 1 := by omega
      have HS := hide hs
      clear hs
      have cK := hat.kind
      have cS := hat.side
      have cX := hat.X
      have HA := hide hat
      clear hat
      have hk0 : (0 : Int) ≤ (k : Int) := by omega
      have hk1 : (k : Int) < (L.length : Int) := by omega
      go_wp2_with fail
      refine (send_calls hinv.out.ata hinv.out.ok s HS.out A d.X cc HA.out.src (fun x hx hxF => by have := hinv.out.gea x hxF; omega) HA.out.cap).mono ?_
      rintro e w3 ⟨he, hs3⟩
      obtain ⟨n, hn⟩ : ∃ n, n = (st.arr d.X).length := ⟨_, rfl⟩
      obtain ⟨er, her⟩ : ∃ er, er = st.err d.X := ⟨_, rfl⟩
      rw [← hn, ← her] at he
      have HN := hide (And.intro hn her)
      clear hn her
      subst he
      have hk3 : Kept Fa wr w3 := by obtain ⟨_, _, hh, _⟩ := hs3; exact hh
      have z3 := hk3.size
      have HA3 := hide (HA.out.keep hb0 kz hk3 hinv.out.gea)
      have HS3 := hide hs3
      clear hs3
      have lb3 := hide (hinv.out.atb.keep hk3 (fun x hx hxa => hinv.out.dis x hxa hx))
      clear hk3
      clear cK cS cX
      have cK := HA3.out.kind
      have cX := HA3.out.X
      go_wp2_with fail
      have hsend := send_calls lb3.out (mirror_ok hinv.out.ok) (1 - s) (by have := HS.out; omega) A d.X cc HA3.out.src (fun x hx hxF => by have := hinv.out.geb x hxF; omega) HA3.out.cap
      rw [mirror_arr, mirror_err, mirror_send _ _ HS.out, ← HN.out.1, ← HN.out.2] at hsend
      refine hsend.mono ?_
      clear hsend
      rintro e w4 ⟨rfl, hs4⟩
      have hk4 : Kept Fb w3 w4 := by obtain ⟨_, _, hh, _⟩ := hs4; exact hh
      have z4 := hk4.size
      have HA4 := hide (HA3.out.keep hb0 (Nat.le_trans kz z3) hk4 hinv.out.geb)
      obtain ⟨Fa4, Fb4, hi4⟩ := hinv.out.two (send_ok hinv.out.ok s d.X) HS3.out hs4
      clear hs4 hk4 HS3 lb3 cK cX
      obtain ⟨st4, hst4⟩ : ∃ s4, s4 = st.send s d.X := ⟨_, rfl⟩
      rw [← hst4] at hi4
      clear hst4
      have HI4 := hide hi4
      clear hi4
      have cK := HA4.out.kind
      by_cases hk2 : d.kind = 2
      · have hk2' : (d.kind == 2) = true := by rw [hk2]; rfl
        clear hk2
        go_wp2_with fail
        refine (receive_yes HI4.out.ata HI4.out.ok s HS.out).mono ?_
        rintro e w5 ⟨g5, Fa5, rfl, ho5, la5, k5, hg5, hgl5, hF5⟩
        have ltb4 := HI4.out.atb.lt
        have lb5 := hide (HI4.out.atb.keep k5 (fun x hx hxa => HI4.out.dis x hxa hx))
        have HO5 := hide ho5
        have HLA5 := hide (And.intro la5 (And.intro k5 hF5))
        have z5 := k5.size
        clear ho5 la5 k5 hF5
        go_wp2_with fail
        have hrecv := receive_yes lb5.out (mirror_ok HI4.out.ok) (1 - s) (by have := HS.out; omega)
        rw [mirror_wait _ _ HS.out, mirror_recv _ _ HS.out] at hrecv
        refine hrecv.mono ?_
        clear hrecv
        rintro e w6 ⟨g6, Fb6, rfl, ho6, lb6, k6, hg6, hgl6, hF6⟩
        obtain ⟨Z, hZ⟩ : ∃ Z, Z = st4.wait s := ⟨_, rfl⟩
        rw [← hZ] at ho6
        have ho56 : Own w6 (some ⟨g5, 0, none⟩) Z.length Z := by
          have := HO5.out
          rw [← hZ] at this
          exact this.keep k6 (by simp [blk]; intro h; have := ltb4 _ h; omega)
        have cv5 : (convert 22 9 (.slice (some ⟨g5, 0, none⟩) Z.length Z.length)).run Try.prog w6 = .ok (.string (str Z)) w6 := conv_str ho56.src _
        have cv6 : (convert 22 9 (.slice (some ⟨g6, 0, none⟩) Z.length Z.length)).run Try.prog w6 = .ok (.string (str Z)) w6 := conv_str ho6.src _
        rw [← hZ]
        clear hZ
        have HI6 : Hid (SInv w w6 w.heap.size w0.heap.size Fa5 Fb6 (st4.recv s)) := by
          obtain ⟨la5, k5, hF5⟩ := HLA5.out
          exact ⟨la5.keep k6 (fun x hx hxb => HI4.out.dis x (hF5 x hx) hxb), lb6, recv_ok HI4.out.ok _, fun x hx => HI4.out.gea x (hF5 x hx), fun x hx => HI4.out.geb x (hF6 x hx), fun x hx hxb => HI4.out.dis x (hF5 x hx) (hF6 x hxb),
            (HI4.out.kept.new k5 HI4.out.gea).new k6 HI4.out.geb⟩
        clear HLA5 lb5 HO5 ho56 ho6 lb6 k6 hF6
        go_wp2_with fail
        go_roundw
        case rel => exact ⟨k + 1, Fa5, Fb6, st4.recv s, by omega, by go_num, HI6⟩
        case measure => simp [intOf]; omega
      · have hk2' : (d.kind == 2) = false := by rw [beq_eq_false_iff_ne]; exact hk2
        clear hk2
        go_wp2_with fail
        go_roundw
        case rel => exact ⟨k + 1, Fa4, Fb4, st4, by omega, by go_num, HI4⟩
        case measure => simp [intOf]; omega
    · obtain ⟨V, hV⟩ : ∃ V, V = st.budget - (st.total : Int) := ⟨_, rfl⟩
      obtain ⟨n, hn⟩ : ∃ n, n = (st.sent 0).length := ⟨_, rfl⟩
      obtain ⟨T, hT⟩ : ∃ T, T = st.sent 1 := ⟨_, rfl⟩
      have hlefta : ∀ wx, Kept [] wr wx → Calls Try.prog 14 #[.pointer (some ⟨w.heap.size, 0, none⟩)] wx fun e w' => e = .returned (.int .i64 V) ∧ Drawn wx w' := fun wx hk => by
        have := left_calls (hinv.out.ata.keep hk (by simp)) hinv.out.ok
        rwa [← hV] at this
      have hleftb : ∀ wx, Kept [] wr wx → Calls Try.prog 14 #[.pointer (some ⟨w0.heap.size, 0, none⟩)] wx fun e w' => e = .returned (.int .i64 V) ∧ Drawn wx w' := fun wx hk => by
        have := left_calls (hinv.out.atb.keep hk (by simp)) (mirror_ok hinv.out.ok)
        rw [mirror_total] at this
        rw [hV]
        exact this
      have hsenta : ∀ wx, Kept [] wr wx → Calls Try.prog 18 #[.pointer (some ⟨w.heap.size, 0, none⟩), .int .i64 0] wx fun e w' => e = .returned (.int .i64 n) ∧ Kept [] wx w' := fun wx hk => by
        have := sent_yes (hinv.out.ata.keep hk (by simp)) hinv.out.ok 0 (.inl rfl)
        rwa [← hn] at this
      have hsentb : ∀ wx, Kept [] wr wx → Calls Try.prog 18 #[.pointer (some ⟨w0.heap.size, 0, none⟩), .int .i64 1] wx fun e w' => e = .returned (.int .i64 n) ∧ Kept [] wx w' := fun wx hk => by
        have := sent_yes (hinv.out.atb.keep hk (by simp)) (mirror_ok hinv.out.ok) 1 (.inr rfl)
        rw [hn]
        exact this
      have htra : ∀ wx, Kept [] wr wx → Calls Try.prog 17 #[.pointer (some ⟨w.heap.size, 0, none⟩), .int .i64 1] wx fun e w' => ∃ g, e = .returned (.slice (some ⟨g, 0, none⟩) T.length T.length) ∧ Own w' (some ⟨g, 0, none⟩) T.length T ∧ Kept [] wx w' ∧ wx.heap.size ≤ g ∧ g < w'.heap.size := fun wx hk => by
        have := transcript_yes (hinv.out.ata.keep hk (by simp)) hinv.out.ok 1 (.inr rfl)
        rwa [← hT] at this
      have htrb : ∀ wx, Kept [] wr wx → Calls Try.prog 17 #[.pointer (some ⟨w0.heap.size, 0, none⟩), .int .i64 0] wx fun e w' => ∃ g, e = .returned (.slice (some ⟨g, 0, none⟩) T.length T.length) ∧ Own w' (some ⟨g, 0, none⟩) T.length T ∧ Kept [] wx w' ∧ wx.heap.size ≤ g ∧ g < w'.heap.size := fun wx hk => by
        have := transcript_yes (hinv.out.atb.keep hk (by simp)) (mirror_ok hinv.out.ok) 0 (.inl rfl)
        rw [hT]
        exact this
      have HLA := hide hlefta
      have HLB := hide hleftb
      have HSA := hide hsenta
      have HSB := hide hsentb
      have HTA := hide htra
      have HTB := hide htrb
      clear hlefta hleftb hsenta hsentb htra htrb hV hn hT
      have hkr : Kept [] wr wr.drew := (Kept.refl _ _).drew
      go_wp2_with fail
      go_region_with (first
        | (go_at_call 14; with_reducible refine (HLA.out _ hkr).mono ?_; rintro e wa ⟨rfl, hda⟩; have hka : Kept [] wr wa := hkr.new (hda.kept []) (by simp))
        | (go_at_call 14; with_reducible refine (HLB.out _ hka).mono ?_; rintro e wb ⟨rfl, hdb⟩; have hkb : Kept [] wr wb := hka.new (hdb.kept []) (by simp))
        | (go_at_call 18; with_reducible refine (HSA.out _ hkb).mono ?_; rintro e wc ⟨rfl, hdc⟩; have hkc : Kept [] wr wc := hkb.new hdc (by simp))
        | (go_at_call 18; with_reducible refine (HSB.out _ hkc).mono ?_; rintro e wd ⟨rfl, hdd⟩; have hkd : Kept [] wr wd := hkc.new hdd (by simp))
        | (go_at_call 17; with_reducible refine (HTA.out _ hkd).mono ?_; rintro e we ⟨g1, rfl, ho1, hde, hg1, hl1⟩; have hke : Kept [] wr we := hkd.new hde (by simp); have cv1 : (convert 22 9 (.slice (some ⟨g1, 0, none⟩) T.length T.length)).run Try.prog we = .ok (.string (str T)) we := conv_str ho1.src _)
        | (go_at_call 17; with_reducible refine (HTB.out _ hke).mono ?_; rintro e wf ⟨g2, rfl, ho2, hdf, hg2, hl2⟩; have hkf : Kept [] wr wf := hke.new hdf (by simp); have cv2 : (convert 22 9 (.slice (some ⟨g2, 0, none⟩) T.length T.length)).run Try.prog wf = .ok (.string (str T)) wf := conv_str ho2.src _; have cv3 : (convert 22 9 (.slice (some ⟨g1, 0, none⟩) T.length T.length)).run Try.prog wf = .ok (.string (str T)) wf := conv_str (ho1.keep hdf (by simp)).src _))
      all_goals
        go_wp2_with fail
        go_ret
        exact ⟨by first | rfl | simp [Act.put], hinv.out.kept.new hkf (by simp)⟩

set_option maxHeartbeats 1000000 in
set_option maxRecDepth 100000 in
theorem sid_none (budget cut : Int) (a : Option Addr) (c : Nat) (w : World) (h0 : 0 ≤ budget) (h1 : budget ≤ 1073741824) (c0 : -9223372036854775808 ≤ cut) (c1 : cut ≤ 9223372036854775807) :
    Calls Try.prog 7 #[.int .i64 budget, .int .i64 cut, .slice a 0 c] w fun e w' => e = .returned (.bool true) ∧ Kept [] w w' := by
  have HOK := hide (LS.new_ok budget cut h0 h1 c0 c1)
  go_enter Try.func7, Try.ntmps7
  go_wp2_with fail
  refine (new_yes _ _ _ h0 h1).mono ?_
  rintro e w0 ⟨rfl, hL0, hk0, hz0⟩
  go_wp2_with fail
  refine (new_yes _ _ _ h0 h1).mono ?_
  rintro e w1 ⟨rfl, hL1, hk1, hz1⟩
  go_wp2_with fail
  refine (awake_calls _).mono ?_
  rintro e w2 ⟨rfl, hk2⟩
  have K2 := (hk0.new hk1 (by simp)).new hk2 (by simp)
  have HA2 := hide ((hL0.keep hk1 (by simp)).keep hk2 (by simp))
  have HB2 := hide (hL1.keep hk2 (by simp))
  clear hL0 hk0 hz0 hL1 hk1 hz1 hk2
  go_wp2_with fail
  refine (few_none a c w2).mono ?_
  rintro e w3 ⟨rfl, rfl⟩
  go_wp2_with fail
  refine wp_loop_rounds 1 ?_
  rw [rounds_succ]
  have hlefta : ∀ wx, Kept [] w2 wx → Calls Try.prog 14 #[.pointer (some ⟨w.heap.size, 0, none⟩)] wx fun e w' => e = .returned (.int .i64 budget) ∧ Drawn wx w' := fun wx hk => by
    have := left_calls (HA2.out.keep hk (by simp)) HOK.out
    simpa [LS.new, LS.total] using this
  have hleftb : ∀ wx, Kept [] w2 wx → Calls Try.prog 14 #[.pointer (some ⟨w0.heap.size, 0, none⟩)] wx fun e w' => e = .returned (.int .i64 budget) ∧ Drawn wx w' := fun wx hk => by
    have := left_calls (HB2.out.keep hk (by simp)) HOK.out
    simpa [LS.new, LS.total] using this
  have hsenta : ∀ wx, Kept [] w2 wx → Calls Try.prog 18 #[.pointer (some ⟨w.heap.size, 0, none⟩), .int .i64 0] wx fun e w' => e = .returned (.int .i64 0) ∧ Kept [] wx w' := fun wx hk => by
    have := sent_yes (HA2.out.keep hk (by simp)) HOK.out 0 (.inl rfl)
    simpa [LS.new, LS.sent] using this
  have hsentb : ∀ wx, Kept [] w2 wx → Calls Try.prog 18 #[.pointer (some ⟨w0.heap.size, 0, none⟩), .int .i64 1] wx fun e w' => e = .returned (.int .i64 0) ∧ Kept [] wx w' := fun wx hk => by
    have := sent_yes (HB2.out.keep hk (by simp)) HOK.out 1 (.inr rfl)
    simpa [LS.new, LS.sent] using this
  have htra : ∀ wx, Kept [] w2 wx → Calls Try.prog 17 #[.pointer (some ⟨w.heap.size, 0, none⟩), .int .i64 1] wx fun e w' => ∃ g, e = .returned (.slice (some ⟨g, 0, none⟩) 0 0) ∧ Own w' (some ⟨g, 0, none⟩) 0 [] ∧ Kept [] wx w' := fun wx hk => by
    refine (transcript_yes (HA2.out.keep hk (by simp)) HOK.out 1 (.inr rfl)).mono ?_
    rintro e w' ⟨g, he, ho, hk', _⟩
    exact ⟨g, he, ho, hk'⟩
  have htrb : ∀ wx, Kept [] w2 wx → Calls Try.prog 17 #[.pointer (some ⟨w0.heap.size, 0, none⟩), .int .i64 0] wx fun e w' => ∃ g, e = .returned (.slice (some ⟨g, 0, none⟩) 0 0) ∧ Own w' (some ⟨g, 0, none⟩) 0 [] ∧ Kept [] wx w' := fun wx hk => by
    refine (transcript_yes (HB2.out.keep hk (by simp)) HOK.out 0 (.inl rfl)).mono ?_
    rintro e w' ⟨g, he, ho, hk', _⟩
    exact ⟨g, he, ho, hk'⟩
  have HLA := hide hlefta
  have HLB := hide hleftb
  have HSA := hide hsenta
  have HSB := hide hsentb
  have HTA := hide htra
  have HTB := hide htrb
  clear hlefta hleftb hsenta hsentb htra htrb
  have hkr : Kept [] w2 w2.drew := (Kept.refl _ _).drew
  go_wp2_with fail
  go_region_with (first
    | (go_at_call 14; with_reducible refine (HLA.out _ hkr).mono ?_; rintro e wa ⟨rfl, hda⟩; have hka : Kept [] w2 wa := hkr.new (hda.kept []) (by simp))
    | (go_at_call 14; with_reducible refine (HLB.out _ hka).mono ?_; rintro e wb ⟨rfl, hdb⟩; have hkb : Kept [] w2 wb := hka.new (hdb.kept []) (by simp))
    | (go_at_call 18; with_reducible refine (HSA.out _ hkb).mono ?_; rintro e wc ⟨rfl, hdc⟩; have hkc : Kept [] w2 wc := hkb.new hdc (by simp))
    | (go_at_call 18; with_reducible refine (HSB.out _ hkc).mono ?_; rintro e wd ⟨rfl, hdd⟩; have hkd : Kept [] w2 wd := hkc.new hdd (by simp))
    | (go_at_call 17; with_reducible refine (HTA.out _ hkd).mono ?_; rintro e we ⟨g1, rfl, ho1, hde⟩; have hke : Kept [] w2 we := hkd.new hde (by simp); have cv1 : (convert 22 9 (.slice (some ⟨g1, 0, none⟩) 0 0)).run Try.prog we = .ok (.string (str [])) we := conv_str ho1.src _)
    | (go_at_call 17; with_reducible refine (HTB.out _ hke).mono ?_; rintro e wf ⟨g2, rfl, ho2, hdf⟩; have hkf : Kept [] w2 wf := hke.new hdf (by simp); have cv2 : (convert 22 9 (.slice (some ⟨g2, 0, none⟩) 0 0)).run Try.prog wf = .ok (.string (str [])) wf := conv_str ho2.src _; have cv3 : (convert 22 9 (.slice (some ⟨g1, 0, none⟩) 0 0)).run Try.prog wf = .ok (.string (str [])) wf := conv_str (ho1.keep hdf (by simp)).src _))
  all_goals
    go_wp2_with fail
    go_ret
    exact ⟨by first | rfl | simp [Act.put], K2.new hkf (by simp)⟩

theorem sid_calls (budget cut : Int) (a : Option Addr) (L : List OpD) (c : Nat) (w : World) (hops : OpsAt w w.heap.size a L) (hm : L.length ≤ 9223372036854775807)
    (hX : ∀ i (hi : i < L.length), L[i].X.length ≤ 140737488351232) (c0 : -9223372036854775808 ≤ cut) (c1 : cut ≤ 9223372036854775807) :
    Calls Try.prog 7 #[.int .i64 budget, .int .i64 cut, .slice a L.length c] w fun e w' => e = .returned (.bool true) ∧ Kept [] w w' := by
  by_cases hb : budget < 0 ∨ 1073741824 < budget
  · exact sid_bad budget cut a L.length c w hb
  · cases hf : fewB L with
    | false => exact sid_many budget cut a L c w (by omega) (by omega) hf hops hm hX
    | true =>
      by_cases hl : L.length = 0
      · rw [hl]
        exact sid_none budget cut a c w (by omega) (by omega) c0 c1
      · obtain ⟨b, o, rfl, hb0, _, _⟩ := hops (by omega)
        exact sid_main budget cut b o L c w (by omega) (by omega) hf hops hm hX c0 c1 hb0
end Go.Proofs.Ytbajpofmaffpgaa
