/- The rotations and the quarter rounds: what they compute. -/
import Derived.Test.YtcnabgbfnaabjaaProg
import Derived.Test.YtcnabgbfnaabjaaBase
import Derived.Deep.RegionHeld3
import Derived.BigQuiet
import Derived.Deep.QuietTactic
import Derived.WalkSpells
import Derived.WalkLawsBesides
import Derived.KernelRfl
namespace Go.Proofs.Ytcnabgbfnaabjaa
open Go.RowKit
set_option linter.unusedSimpArgs false
set_option linter.unusedVariables false

/-- A world that differs by draws alone. -/
def Drawn (w w' : World) : Prop := ∃ n, w' = w.drewN n
theorem Drawn.refl (w : World) : Drawn w w := ⟨0, rfl⟩
theorem Drawn.kept {w w' : World} (h : Drawn w w') (F : List Nat) : Kept F w w' := by obtain ⟨n, rfl⟩ := h; exact (Kept.refl _ _).drewN n
theorem Drawn.trans {a b c : World} (h : Drawn a b) (k : Drawn b c) : Drawn a c := by
  obtain ⟨n, rfl⟩ := h; obtain ⟨m, rfl⟩ := k; exact ⟨n + m, by rw [World.drewN_drewN]⟩

/-- A word as a value. -/
abbrev wd (x : UInt32) : Value := .int .u32 (x.toNat : Int)

def rl16 (x : UInt32) : UInt32 := x <<< 16 ||| x >>> 16
def rl12 (x : UInt32) : UInt32 := x <<< 12 ||| x >>> 20
def rl8 (x : UInt32) : UInt32 := x <<< 8 ||| x >>> 24
def rl7 (x : UInt32) : UInt32 := x <<< 7 ||| x >>> 25

theorem toNat_sl (x k : UInt32) (h : k.toNat < 32) : (x <<< k).toNat = x.toNat * 2 ^ k.toNat % 4294967296 := by
  rw [UInt32.toNat_shiftLeft, Nat.mod_eq_of_lt h, Nat.shiftLeft_eq]
theorem toNat_sr (x k : UInt32) (h : k.toNat < 32) : (x >>> k).toNat = x.toNat / 2 ^ k.toNat := by
  rw [UInt32.toNat_shiftRight, Nat.mod_eq_of_lt h, Nat.shiftRight_eq_div_pow]

theorem bits_rl16 (x : UInt32) : bits .or .u32 ((x.toNat : Int) * 65536 % 4294967296) ((x.toNat : Int) / 65536) = ((rl16 x).toNat : Int) := by
  have h1 := toNat_sl x 16 (by decide)
  have h2 := toNat_sr x 16 (by decide)
  have hx := UInt32.toNat_lt x
  have := u32_or_nat (x.toNat * 65536 % 4294967296) (x.toNat / 65536) (by omega) (by omega)
  unfold rl16
  rw [UInt32.toNat_or, h1, h2]
  exact this
theorem bits_rl12 (x : UInt32) : bits .or .u32 ((x.toNat : Int) * 4096 % 4294967296) ((x.toNat : Int) / 1048576) = ((rl12 x).toNat : Int) := by
  have h1 := toNat_sl x 12 (by decide)
  have h2 := toNat_sr x 20 (by decide)
  have hx := UInt32.toNat_lt x
  have := u32_or_nat (x.toNat * 4096 % 4294967296) (x.toNat / 1048576) (by omega) (by omega)
  unfold rl12
  rw [UInt32.toNat_or, h1, h2]
  exact this
theorem bits_rl8 (x : UInt32) : bits .or .u32 ((x.toNat : Int) * 256 % 4294967296) ((x.toNat : Int) / 16777216) = ((rl8 x).toNat : Int) := by
  have h1 := toNat_sl x 8 (by decide)
  have h2 := toNat_sr x 24 (by decide)
  have hx := UInt32.toNat_lt x
  have := u32_or_nat (x.toNat * 256 % 4294967296) (x.toNat / 16777216) (by omega) (by omega)
  unfold rl8
  rw [UInt32.toNat_or, h1, h2]
  exact this
theorem bits_rl7 (x : UInt32) : bits .or .u32 ((x.toNat : Int) * 128 % 4294967296) ((x.toNat : Int) / 33554432) = ((rl7 x).toNat : Int) := by
  have h1 := toNat_sl x 7 (by decide)
  have h2 := toNat_sr x 25 (by decide)
  have hx := UInt32.toNat_lt x
  have := u32_or_nat (x.toNat * 128 % 4294967296) (x.toNat / 33554432) (by omega) (by omega)
  unfold rl7
  rw [UInt32.toNat_or, h1, h2]
  exact this

theorem rot16 (x : UInt32) (w : World) : Calls Try.prog 23 #[wd x, .int .i64 16] w fun e w' => e = .returned (wd (rl16 x)) ∧ w = w' := by
  have hx : x.toNat < 4294967296 := UInt32.toNat_lt x
  have hb : bits .and .u64 16 31 = 16 := by decide
  have hr := bits_rl16 x
  go_enter Try.func23, Try.ntmps23
  go_wp2
  go_ret
  exact ⟨rfl, rfl⟩
theorem rot12 (x : UInt32) (w : World) : Calls Try.prog 23 #[wd x, .int .i64 12] w fun e w' => e = .returned (wd (rl12 x)) ∧ w = w' := by
  have hx : x.toNat < 4294967296 := UInt32.toNat_lt x
  have hb : bits .and .u64 12 31 = 12 := by decide
  have hr := bits_rl12 x
  go_enter Try.func23, Try.ntmps23
  go_wp2
  go_ret
  exact ⟨rfl, rfl⟩
theorem rot8 (x : UInt32) (w : World) : Calls Try.prog 23 #[wd x, .int .i64 8] w fun e w' => e = .returned (wd (rl8 x)) ∧ w = w' := by
  have hx : x.toNat < 4294967296 := UInt32.toNat_lt x
  have hb : bits .and .u64 8 31 = 8 := by decide
  have hr := bits_rl8 x
  go_enter Try.func23, Try.ntmps23
  go_wp2
  go_ret
  exact ⟨rfl, rfl⟩
theorem rot7 (x : UInt32) (w : World) : Calls Try.prog 23 #[wd x, .int .i64 7] w fun e w' => e = .returned (wd (rl7 x)) ∧ w = w' := by
  have hx : x.toNat < 4294967296 := UInt32.toNat_lt x
  have hb : bits .and .u64 7 31 = 7 := by decide
  have hr := bits_rl7 x
  go_enter Try.func23, Try.ntmps23
  go_wp2
  go_ret
  exact ⟨rfl, rfl⟩

theorem rotl16 (x : UInt32) (w : World) : Calls Try.prog 24 #[wd x, .int .i64 16] w fun e w' => e = .returned (wd (rl16 x)) ∧ Drawn w w' := by
  have hx : x.toNat < 4294967296 := UInt32.toNat_lt x
  have hr := bits_rl16 x
  go_enter Try.func24, Try.ntmps24
  go_wp2
  go_quiet (fail)
  go_wp2
  go_ret
  exact ⟨rfl, _, rfl⟩
theorem rotl12 (x : UInt32) (w : World) : Calls Try.prog 24 #[wd x, .int .i64 12] w fun e w' => e = .returned (wd (rl12 x)) ∧ Drawn w w' := by
  have hx : x.toNat < 4294967296 := UInt32.toNat_lt x
  have hr := bits_rl12 x
  go_enter Try.func24, Try.ntmps24
  go_wp2
  go_quiet (fail)
  go_wp2
  go_ret
  exact ⟨rfl, _, rfl⟩
theorem rotl8 (x : UInt32) (w : World) : Calls Try.prog 24 #[wd x, .int .i64 8] w fun e w' => e = .returned (wd (rl8 x)) ∧ Drawn w w' := by
  have hx : x.toNat < 4294967296 := UInt32.toNat_lt x
  have hr := bits_rl8 x
  go_enter Try.func24, Try.ntmps24
  go_wp2
  go_quiet (fail)
  go_wp2
  go_ret
  exact ⟨rfl, _, rfl⟩
theorem rotl7 (x : UInt32) (w : World) : Calls Try.prog 24 #[wd x, .int .i64 7] w fun e w' => e = .returned (wd (rl7 x)) ∧ Drawn w w' := by
  have hx : x.toNat < 4294967296 := UInt32.toNat_lt x
  have hr := bits_rl7 x
  go_enter Try.func24, Try.ntmps24
  go_wp2
  go_quiet (fail)
  go_wp2
  go_ret
  exact ⟨rfl, _, rfl⟩

/-- The quarter round. -/
def quarter (a b c d : UInt32) : UInt32 × UInt32 × UInt32 × UInt32 :=
  let a := a + b
  let d := rl16 (d ^^^ a)
  let c := c + d
  let b := rl12 (b ^^^ c)
  let a := a + b
  let d := rl8 (d ^^^ a)
  let c := c + d
  let b := rl7 (b ^^^ c)
  (a, b, c, d)

theorem add_wd (a b : UInt32) : ((a.toNat : Int) + (b.toNat : Int)) % 4294967296 = ((a + b).toNat : Int) := by
  rw [UInt32.toNat_add]; omega
theorem xor_wd (a b : UInt32) : bits .xor .u32 (a.toNat : Int) (b.toNat : Int) = ((a ^^^ b).toNat : Int) := by
  rw [u32_xor_nat _ _ (UInt32.toNat_lt a) (UInt32.toNat_lt b), UInt32.toNat_xor]

theorem four_results {fn : Func} {t u v x : Tmp} (h : fn.results = #[.tmp t, .tmp u, .tmp v, .tmp x]) (tmps : Array Value) (P : Program) (w : World) :
    (results fn tmps).run P w = .ok (.tuple #[tmps.getD t undef, tmps.getD u undef, tmps.getD v undef, tmps.getD x undef]) w := by simp [results, h]

theorem quarter_calls (a b c d : UInt32) (w : World) : Calls Try.prog 14 #[wd a, wd b, wd c, wd d] w fun e w' =>
    e = .returned (.tuple #[wd (quarter a b c d).1, wd (quarter a b c d).2.1, wd (quarter a b c d).2.2.1, wd (quarter a b c d).2.2.2]) ∧ w = w' := by
  obtain ⟨a1, ha1⟩ : ∃ x, x = a + b := ⟨_, rfl⟩
  obtain ⟨x1, hx1⟩ : ∃ x, x = d ^^^ a1 := ⟨_, rfl⟩
  obtain ⟨d1, hd1⟩ : ∃ x, x = rl16 x1 := ⟨_, rfl⟩
  obtain ⟨c1, hc1⟩ : ∃ x, x = c + d1 := ⟨_, rfl⟩
  obtain ⟨y1, hy1⟩ : ∃ x, x = b ^^^ c1 := ⟨_, rfl⟩
  obtain ⟨b1, hb1⟩ : ∃ x, x = rl12 y1 := ⟨_, rfl⟩
  obtain ⟨a2, ha2⟩ : ∃ x, x = a1 + b1 := ⟨_, rfl⟩
  obtain ⟨x2, hx2⟩ : ∃ x, x = d1 ^^^ a2 := ⟨_, rfl⟩
  obtain ⟨d2, hd2⟩ : ∃ x, x = rl8 x2 := ⟨_, rfl⟩
  obtain ⟨c2, hc2⟩ : ∃ x, x = c1 + d2 := ⟨_, rfl⟩
  obtain ⟨y2, hy2⟩ : ∃ x, x = b1 ^^^ c2 := ⟨_, rfl⟩
  obtain ⟨b2, hb2⟩ : ∃ x, x = rl7 y2 := ⟨_, rfl⟩
  have hq : quarter a b c d = (a2, b2, c2, d2) := by
    unfold quarter
    simp only [ha1, hx1, hd1, hc1, hy1, hb1, ha2, hx2, hd2, hc2, hy2, hb2]
  rw [hq]
  have e1 : ((a.toNat : Int) + (b.toNat : Int)) % 4294967296 = (a1.toNat : Int) := by rw [add_wd, ha1]
  have e2 : bits .xor .u32 (d.toNat : Int) (a1.toNat : Int) = (x1.toNat : Int) := by rw [xor_wd, hx1]
  have e3 : ((c.toNat : Int) + (d1.toNat : Int)) % 4294967296 = (c1.toNat : Int) := by rw [add_wd, hc1]
  have e4 : bits .xor .u32 (b.toNat : Int) (c1.toNat : Int) = (y1.toNat : Int) := by rw [xor_wd, hy1]
  have e5 : ((a1.toNat : Int) + (b1.toNat : Int)) % 4294967296 = (a2.toNat : Int) := by rw [add_wd, ha2]
  have e6 : bits .xor .u32 (d1.toNat : Int) (a2.toNat : Int) = (x2.toNat : Int) := by rw [xor_wd, hx2]
  have e7 : ((c1.toNat : Int) + (d2.toNat : Int)) % 4294967296 = (c2.toNat : Int) := by rw [add_wd, hc2]
  have e8 : bits .xor .u32 (b1.toNat : Int) (c2.toNat : Int) = (y2.toNat : Int) := by rw [xor_wd, hy2]
  have R := hide (And.intro hd1 (And.intro hb1 (And.intro hd2 hb2)))
  clear hq ha1 hx1 hd1 hc1 hy1 hb1 ha2 hx2 hd2 hc2 hy2 hb2
  go_enter Try.func14, Try.ntmps14
  go_wp2_with fail
  have h := rot16 x1 w
  rw [← R.out.1] at h
  refine h.mono ?_
  clear h
  rintro e w' ⟨rfl, rfl⟩
  go_wp2_with fail
  have h := rot12 y1 w
  rw [← R.out.2.1] at h
  refine h.mono ?_
  clear h
  rintro e w' ⟨rfl, rfl⟩
  go_wp2_with fail
  have h := rot8 x2 w
  rw [← R.out.2.2.1] at h
  refine h.mono ?_
  clear h
  rintro e w' ⟨rfl, rfl⟩
  go_wp2_with fail
  have h := rot7 y2 w
  rw [← R.out.2.2.2] at h
  refine h.mono ?_
  clear h
  rintro e w' ⟨rfl, rfl⟩
  go_wp2_with fail
  refine bodyPost_ret (four_results rfl _ _ _) rfl ?_
  exact ⟨rfl, rfl⟩

theorem refquarter_calls (a b c d : UInt32) (w : World) : Calls Try.prog 15 #[wd a, wd b, wd c, wd d] w fun e w' =>
    e = .returned (.tuple #[wd (quarter a b c d).1, wd (quarter a b c d).2.1, wd (quarter a b c d).2.2.1, wd (quarter a b c d).2.2.2]) ∧ Drawn w w' := by
  obtain ⟨a1, ha1⟩ : ∃ x, x = a + b := ⟨_, rfl⟩
  obtain ⟨x1, hx1⟩ : ∃ x, x = d ^^^ a1 := ⟨_, rfl⟩
  obtain ⟨d1, hd1⟩ : ∃ x, x = rl16 x1 := ⟨_, rfl⟩
  obtain ⟨c1, hc1⟩ : ∃ x, x = c + d1 := ⟨_, rfl⟩
  obtain ⟨y1, hy1⟩ : ∃ x, x = b ^^^ c1 := ⟨_, rfl⟩
  obtain ⟨b1, hb1⟩ : ∃ x, x = rl12 y1 := ⟨_, rfl⟩
  obtain ⟨a2, ha2⟩ : ∃ x, x = a1 + b1 := ⟨_, rfl⟩
  obtain ⟨x2, hx2⟩ : ∃ x, x = d1 ^^^ a2 := ⟨_, rfl⟩
  obtain ⟨d2, hd2⟩ : ∃ x, x = rl8 x2 := ⟨_, rfl⟩
  obtain ⟨c2, hc2⟩ : ∃ x, x = c1 + d2 := ⟨_, rfl⟩
  obtain ⟨y2, hy2⟩ : ∃ x, x = b1 ^^^ c2 := ⟨_, rfl⟩
  obtain ⟨b2, hb2⟩ : ∃ x, x = rl7 y2 := ⟨_, rfl⟩
  have hq : quarter a b c d = (a2, b2, c2, d2) := by
    unfold quarter
    simp only [ha1, hx1, hd1, hc1, hy1, hb1, ha2, hx2, hd2, hc2, hy2, hb2]
  rw [hq]
  have e1 : ((a.toNat : Int) + (b.toNat : Int)) % 4294967296 = (a1.toNat : Int) := by rw [add_wd, ha1]
  have e2 : bits .xor .u32 (d.toNat : Int) (a1.toNat : Int) = (x1.toNat : Int) := by rw [xor_wd, hx1]
  have e3 : ((c.toNat : Int) + (d1.toNat : Int)) % 4294967296 = (c1.toNat : Int) := by rw [add_wd, hc1]
  have e4 : bits .xor .u32 (b.toNat : Int) (c1.toNat : Int) = (y1.toNat : Int) := by rw [xor_wd, hy1]
  have e5 : ((a1.toNat : Int) + (b1.toNat : Int)) % 4294967296 = (a2.toNat : Int) := by rw [add_wd, ha2]
  have e6 : bits .xor .u32 (d1.toNat : Int) (a2.toNat : Int) = (x2.toNat : Int) := by rw [xor_wd, hx2]
  have e7 : ((c1.toNat : Int) + (d2.toNat : Int)) % 4294967296 = (c2.toNat : Int) := by rw [add_wd, hc2]
  have e8 : bits .xor .u32 (b1.toNat : Int) (c2.toNat : Int) = (y2.toNat : Int) := by rw [xor_wd, hy2]
  have R := hide (And.intro hd1 (And.intro hb1 (And.intro hd2 hb2)))
  clear hq ha1 hx1 hd1 hc1 hy1 hb1 ha2 hx2 hd2 hc2 hy2 hb2
  go_enter Try.func15, Try.ntmps15
  go_wp2_with fail
  have h := rotl16 x1 w
  rw [← R.out.1] at h
  refine h.mono ?_
  clear h
  rintro e w1 ⟨rfl, kw1⟩
  go_wp2_with fail
  have h := rotl12 y1 w1
  rw [← R.out.2.1] at h
  refine h.mono ?_
  clear h
  rintro e w2 ⟨rfl, kw2⟩
  go_wp2_with fail
  have h := rotl8 x2 w2
  rw [← R.out.2.2.1] at h
  refine h.mono ?_
  clear h
  rintro e w3 ⟨rfl, kw3⟩
  go_wp2_with fail
  have h := rotl7 y2 w3
  rw [← R.out.2.2.2] at h
  refine h.mono ?_
  clear h
  rintro e w4 ⟨rfl, kw4⟩
  go_wp2_with fail
  refine bodyPost_ret (four_results rfl _ _ _) rfl ?_
  exact ⟨rfl, ((kw1.trans kw2).trans kw3).trans kw4⟩

end Go.Proofs.Ytcnabgbfnaabjaa
