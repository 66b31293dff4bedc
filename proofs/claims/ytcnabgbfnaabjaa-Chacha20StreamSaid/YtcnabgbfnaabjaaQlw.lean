/- The law on quarter rounds, and the law that inverts one. -/
import Derived.Test.YtcnabgbfnaabjaaAwk
namespace Go.Proofs.Ytcnabgbfnaabjaa
open Go.RowKit
set_option linter.unusedSimpArgs false
set_option linter.unusedVariables false

theorem word_of (a : Int) (h : (Lit.int .u32 a).wf = true) : ∃ x : UInt32, a = (x.toNat : Int) := by
  simp [Lit.wf, IntKind.min, IntKind.max, IntKind.signed, IntKind.bits] at h
  refine ⟨UInt32.ofNat a.toNat, ?_⟩
  have e : (UInt32.ofNat a.toNat).toNat = a.toNat % 4294967296 := by simp
  rw [e]
  omega

theorem refquarter_four (a b c d : UInt32) (w : World) : Calls Try.prog 15 #[wd a, wd b, wd c, wd d] w fun e w' =>
    e = .returned (.tuple #[wd (quarter a b c d).1, wd (quarter a b c d).2.1, wd (quarter a b c d).2.2.1, wd (quarter a b c d).2.2.2]) ∧ Drawn w w' := refquarter_calls a b c d w

theorem quarter_law (a b c d : UInt32) (w : World) : Calls Try.prog 5 #[wd a, wd b, wd c, wd d] w fun e w' => e = .returned (.bool true) ∧ Kept [] w w' := by
  have hq := quarter_calls a b c d
  have hr := refquarter_four a b c d
  generalize (quarter a b c d).1 = p1 at *
  generalize (quarter a b c d).2.1 = p2 at *
  generalize (quarter a b c d).2.2.1 = p3 at *
  generalize (quarter a b c d).2.2.2 = p4 at *
  go_enter Try.func5, Try.ntmps5
  go_wp2_with (first
    | (go_at_call 14; refine (hq _).mono ?_; rintro e w1 ⟨rfl, rfl⟩)
    | (go_at_call 15; refine (hr _).mono ?_; rintro e w2 ⟨rfl, hd⟩)
    | (go_at_call 11; refine (awake_calls _).mono ?_; rintro e w3 ⟨rfl, hk⟩)
    | fail)
  go_ret
  exact ⟨rfl, (hd.kept []).trans hk (H := []) (by simp) (by simp)⟩

theorem rr7_rl7 (x : UInt32) : rl7 x >>> 7 ||| rl7 x <<< 25 = x := by
  apply UInt32.eq_of_toBitVec_eq
  simp [rl7]
  ext i hi
  simp
  have e0 : x.toBitVec.getLsbD (25 + (7 + i)) = false := BitVec.getLsbD_of_ge _ _ (by omega)
  have e1 : x.toBitVec.getLsbD i = x.toBitVec[i] := BitVec.getLsbD_eq_getElem hi
  by_cases h : i < 25
  · have h1 : 7 + i < 32 := by omega
    simp [h, e0, e1, h1]
  · have h1 : ¬ 7 + i < 32 := by omega
    have h2 : 25 + (i - 25) = i := by omega
    have h3 : i - 25 < 7 := by omega
    simp [h, e0, e1, h1, h2, h3]

theorem rr8_rl8 (x : UInt32) : rl8 x >>> 8 ||| rl8 x <<< 24 = x := by
  apply UInt32.eq_of_toBitVec_eq
  simp [rl8]
  ext i hi
  simp
  have e0 : x.toBitVec.getLsbD (24 + (8 + i)) = false := BitVec.getLsbD_of_ge _ _ (by omega)
  have e1 : x.toBitVec.getLsbD i = x.toBitVec[i] := BitVec.getLsbD_eq_getElem hi
  by_cases h : i < 24
  · have h1 : 8 + i < 32 := by omega
    simp [h, e0, e1, h1]
  · have h1 : ¬ 8 + i < 32 := by omega
    have h2 : 24 + (i - 24) = i := by omega
    have h3 : i - 24 < 8 := by omega
    simp [h, e0, e1, h1, h2, h3]

theorem rr12_rl12 (x : UInt32) : rl12 x >>> 12 ||| rl12 x <<< 20 = x := by
  apply UInt32.eq_of_toBitVec_eq
  simp [rl12]
  ext i hi
  simp
  have e0 : x.toBitVec.getLsbD (20 + (12 + i)) = false := BitVec.getLsbD_of_ge _ _ (by omega)
  have e1 : x.toBitVec.getLsbD i = x.toBitVec[i] := BitVec.getLsbD_eq_getElem hi
  by_cases h : i < 20
  · have h1 : 12 + i < 32 := by omega
    simp [h, e0, e1, h1]
  · have h1 : ¬ 12 + i < 32 := by omega
    have h2 : 20 + (i - 20) = i := by omega
    have h3 : i - 20 < 12 := by omega
    simp [h, e0, e1, h1, h2, h3]

theorem rr16_rl16 (x : UInt32) : rl16 x >>> 16 ||| rl16 x <<< 16 = x := by
  apply UInt32.eq_of_toBitVec_eq
  simp [rl16]
  ext i hi
  simp
  have e0 : x.toBitVec.getLsbD (16 + (16 + i)) = false := BitVec.getLsbD_of_ge _ _ (by omega)
  have e1 : x.toBitVec.getLsbD i = x.toBitVec[i] := BitVec.getLsbD_eq_getElem hi
  by_cases h : i < 16
  · have h1 : 16 + i < 32 := by omega
    simp [h, e0, e1, h1]
  · have h1 : ¬ 16 + i < 32 := by omega
    have h2 : 16 + (i - 16) = i := by omega
    have h3 : i - 16 < 16 := by omega
    simp [h, e0, e1, h1, h2, h3]

theorem bits_rr7 (x : UInt32) : bits .or .u32 ((x.toNat : Int) / 128) ((x.toNat : Int) * 33554432 % 4294967296) = ((x >>> 7 ||| x <<< 25).toNat : Int) := by
  have h1 := toNat_sr x 7 (by decide)
  have h2 := toNat_sl x 25 (by decide)
  have hx := UInt32.toNat_lt x
  have := u32_or_nat (x.toNat / 128) (x.toNat * 33554432 % 4294967296) (by omega) (by omega)
  rw [UInt32.toNat_or, h1, h2]
  exact this
theorem rotr7 (y x : UInt32) (h : y = rl7 x) (w : World) : Calls Try.prog 16 #[wd y, .int .i64 7] w fun e w' => e = .returned (wd x) ∧ Drawn w w' := by
  have hx : y.toNat < 4294967296 := UInt32.toNat_lt y
  have hr := bits_rr7 y
  rw [show y >>> 7 ||| y <<< 25 = x by rw [h, rr7_rl7]] at hr
  clear h
  go_enter Try.func16, Try.ntmps16
  go_wp2
  go_quiet (fail)
  go_wp2
  go_ret
  exact ⟨rfl, _, rfl⟩

theorem bits_rr8 (x : UInt32) : bits .or .u32 ((x.toNat : Int) / 256) ((x.toNat : Int) * 16777216 % 4294967296) = ((x >>> 8 ||| x <<< 24).toNat : Int) := by
  have h1 := toNat_sr x 8 (by decide)
  have h2 := toNat_sl x 24 (by decide)
  have hx := UInt32.toNat_lt x
  have := u32_or_nat (x.toNat / 256) (x.toNat * 16777216 % 4294967296) (by omega) (by omega)
  rw [UInt32.toNat_or, h1, h2]
  exact this
theorem rotr8 (y x : UInt32) (h : y = rl8 x) (w : World) : Calls Try.prog 16 #[wd y, .int .i64 8] w fun e w' => e = .returned (wd x) ∧ Drawn w w' := by
  have hx : y.toNat < 4294967296 := UInt32.toNat_lt y
  have hr := bits_rr8 y
  rw [show y >>> 8 ||| y <<< 24 = x by rw [h, rr8_rl8]] at hr
  clear h
  go_enter Try.func16, Try.ntmps16
  go_wp2
  go_quiet (fail)
  go_wp2
  go_ret
  exact ⟨rfl, _, rfl⟩

theorem bits_rr12 (x : UInt32) : bits .or .u32 ((x.toNat : Int) / 4096) ((x.toNat : Int) * 1048576 % 4294967296) = ((x >>> 12 ||| x <<< 20).toNat : Int) := by
  have h1 := toNat_sr x 12 (by decide)
  have h2 := toNat_sl x 20 (by decide)
  have hx := UInt32.toNat_lt x
  have := u32_or_nat (x.toNat / 4096) (x.toNat * 1048576 % 4294967296) (by omega) (by omega)
  rw [UInt32.toNat_or, h1, h2]
  exact this
theorem rotr12 (y x : UInt32) (h : y = rl12 x) (w : World) : Calls Try.prog 16 #[wd y, .int .i64 12] w fun e w' => e = .returned (wd x) ∧ Drawn w w' := by
  have hx : y.toNat < 4294967296 := UInt32.toNat_lt y
  have hr := bits_rr12 y
  rw [show y >>> 12 ||| y <<< 20 = x by rw [h, rr12_rl12]] at hr
  clear h
  go_enter Try.func16, Try.ntmps16
  go_wp2
  go_quiet (fail)
  go_wp2
  go_ret
  exact ⟨rfl, _, rfl⟩

theorem bits_rr16 (x : UInt32) : bits .or .u32 ((x.toNat : Int) / 65536) ((x.toNat : Int) * 65536 % 4294967296) = ((x >>> 16 ||| x <<< 16).toNat : Int) := by
  have h1 := toNat_sr x 16 (by decide)
  have h2 := toNat_sl x 16 (by decide)
  have hx := UInt32.toNat_lt x
  have := u32_or_nat (x.toNat / 65536) (x.toNat * 65536 % 4294967296) (by omega) (by omega)
  rw [UInt32.toNat_or, h1, h2]
  exact this
theorem rotr16 (y x : UInt32) (h : y = rl16 x) (w : World) : Calls Try.prog 16 #[wd y, .int .i64 16] w fun e w' => e = .returned (wd x) ∧ Drawn w w' := by
  have hx : y.toNat < 4294967296 := UInt32.toNat_lt y
  have hr := bits_rr16 y
  rw [show y >>> 16 ||| y <<< 16 = x by rw [h, rr16_rl16]] at hr
  clear h
  go_enter Try.func16, Try.ntmps16
  go_wp2
  go_quiet (fail)
  go_wp2
  go_ret
  exact ⟨rfl, _, rfl⟩

theorem sub_wd (a b : UInt32) : ((a.toNat : Int) - (b.toNat : Int)) % 4294967296 = ((a - b).toNat : Int) := by
  have ha := UInt32.toNat_lt a
  have hb := UInt32.toNat_lt b
  rw [UInt32.toNat_sub]; omega
theorem xor_back (a b : UInt32) : a ^^^ b ^^^ b = a := by rw [UInt32.xor_assoc, UInt32.xor_self, UInt32.xor_zero]
theorem add_back (a b : UInt32) : a + b - b = a := UInt32.add_sub_cancel a b

theorem inverts_law (a b c d : UInt32) (w : World) : Calls Try.prog 6 #[wd a, wd b, wd c, wd d] w fun e w' => e = .returned (.bool true) ∧ Kept [] w w' := by
  have hq := quarter_calls a b c d
  obtain ⟨a1, ha1⟩ : ∃ x, x = a + b := ⟨_, rfl⟩
  obtain ⟨x1, hx1⟩ : ∃ x, x = d ^^^ a1 := ⟨_, rfl⟩
  obtain ⟨d1, hd1⟩ : ∃ x, x = rl16 x1 := ⟨_, rfl⟩
  obtain ⟨c1, hc1⟩ : ∃ x, x = c + d1 := ⟨_, rfl⟩
  obtain ⟨y1, hy1⟩ : ∃ x, x = b ^^^ c1 := ⟨_, rfl⟩
  obtain ⟨b1, hb1⟩ : ∃ x, x = rl12 y1 := ⟨_, rfl⟩
  obtain ⟨a2, ha2⟩ : ∃ x, x = a1 + b1 := ⟨_, rfl⟩
  obtain ⟨x2, hx2⟩ : ∃ x, x = d1 ^^^ a2 := ⟨_, rfl⟩
  obtain ⟨d2, hd2⟩ : ∃ x, x = rl8 x2 := ⟨_, rfl⟩
  obtain ⟨c2, hc2⟩ : ∃ x, x = c1 + d2 := ⟨_, rfl⟩
  obtain ⟨y2, hy2⟩ : ∃ x, x = b1 ^^^ c2 := ⟨_, rfl⟩
  obtain ⟨b2, hb2⟩ : ∃ x, x = rl7 y2 := ⟨_, rfl⟩
  have hQ : quarter a b c d = (a2, b2, c2, d2) := by
    unfold quarter
    simp only [ha1, hx1, hd1, hc1, hy1, hb1, ha2, hx2, hd2, hc2, hy2, hb2]
  rw [hQ] at hq
  have r1 := rotr7 b2 y2 hb2
  have r2 := rotr8 d2 x2 hd2
  have r3 := rotr12 b1 y1 hb1
  have r4 := rotr16 d1 x1 hd1
  have e1 : bits .xor .u32 (y2.toNat : Int) (c2.toNat : Int) = (b1.toNat : Int) := by rw [xor_wd, hy2, xor_back]
  have e2 : ((c2.toNat : Int) - (d2.toNat : Int)) % 4294967296 = (c1.toNat : Int) := by rw [sub_wd, hc2, add_back]
  have e3 : bits .xor .u32 (x2.toNat : Int) (a2.toNat : Int) = (d1.toNat : Int) := by rw [xor_wd, hx2, xor_back]
  have e4 : ((a2.toNat : Int) - (b1.toNat : Int)) % 4294967296 = (a1.toNat : Int) := by rw [sub_wd, ha2, add_back]
  have e5 : bits .xor .u32 (y1.toNat : Int) (c1.toNat : Int) = (b.toNat : Int) := by rw [xor_wd, hy1, xor_back]
  have e6 : ((c1.toNat : Int) - (d1.toNat : Int)) % 4294967296 = (c.toNat : Int) := by rw [sub_wd, hc1, add_back]
  have e7 : bits .xor .u32 (x1.toNat : Int) (a1.toNat : Int) = (d.toNat : Int) := by rw [xor_wd, hx1, xor_back]
  have e8 : ((a1.toNat : Int) - (b.toNat : Int)) % 4294967296 = (a.toNat : Int) := by rw [sub_wd, ha1, add_back]
  clear hQ ha1 hx1 hd1 hc1 hy1 hb1 ha2 hx2 hd2 hc2 hy2 hb2
  go_enter Try.func6, Try.ntmps6
  go_wp2_with (first
    | (go_at_call 14; refine (hq _).mono ?_; rintro e w1 ⟨rfl, rfl⟩)
    | (go_at_call 16; with_reducible refine (r1 _).mono ?_; rintro e w2 ⟨rfl, k2⟩)
    | (go_at_call 16; with_reducible refine (r2 _).mono ?_; rintro e w3 ⟨rfl, k3⟩)
    | (go_at_call 16; with_reducible refine (r3 _).mono ?_; rintro e w4 ⟨rfl, k4⟩)
    | (go_at_call 16; with_reducible refine (r4 _).mono ?_; rintro e w5 ⟨rfl, k5⟩)
    | (go_at_call 11; refine (awake_calls _).mono ?_; rintro e w6 ⟨rfl, hk⟩)
    | fail)
  go_ret
  exact ⟨rfl, (((k2.trans k3).trans k4).trans k5).kept [] |>.trans hk (H := []) (by simp) (by simp)⟩
end Go.Proofs.Ytcnabgbfnaabjaa
