/- Reading a word: what word computes, twice. -/
import Derived.Test.YtcnabgbfnaabjaaQuar
import Derived.Lib.Strings
namespace Go.Proofs.Ytcnabgbfnaabjaa
open Go.RowKit
set_option linter.unusedSimpArgs false
set_option linter.unusedVariables false

/-- A string's byte. -/
def bAt (s : ByteArray) (j : Nat) : UInt8 := s.data.toList.getD j 0

theorem run_at (s : ByteArray) (j : Nat) (h : j < s.size) (w : World) : (Instr.index 9 (.string s) (.int .i64 (j : Int))).run Try.prog w = .ok (.int .u8 ((bAt s j).toNat : Int)) w := by
  rw [run_index_string w 9 s .i64 j Try.underlying9, dif_pos (by omega)]
  congr 3
  unfold bAt
  simp only [Int.toNat_natCast]
  rw [List.getD_eq_getElem?_getD, List.getElem?_eq_getElem (by simpa using h)]
  rfl

/-- A word of four bytes. -/
def wordOf (b0 b1 b2 b3 : UInt8) : UInt32 := b0.toUInt32 ||| b1.toUInt32 <<< 8 ||| b2.toUInt32 <<< 16 ||| b3.toUInt32 <<< 24

theorem bits_word (b0 b1 b2 b3 : UInt8) :
    bits .or .u32 (bits .or .u32 (bits .or .u32 (b0.toNat : Int) ((b1.toNat : Int) * 256)) ((b2.toNat : Int) * 65536)) ((b3.toNat : Int) * 16777216) = ((wordOf b0 b1 b2 b3).toNat : Int) := by
  have h0 := UInt8.toNat_lt b0
  have h1 := UInt8.toNat_lt b1
  have h2 := UInt8.toNat_lt b2
  have h3 := UInt8.toNat_lt b3
  have e1 := toNat_sl b1.toUInt32 8 (by decide)
  have e2 := toNat_sl b2.toUInt32 16 (by decide)
  have e3 := toNat_sl b3.toUInt32 24 (by decide)
  have f0 : b0.toUInt32.toNat = b0.toNat := by simp
  have f1 : b1.toUInt32.toNat = b1.toNat := by simp
  have f2 : b2.toUInt32.toNat = b2.toNat := by simp
  have f3 : b3.toUInt32.toNat = b3.toNat := by simp
  rw [f1, show (2 : Nat) ^ (8 : UInt32).toNat = 256 by decide, Nat.mod_eq_of_lt (by omega)] at e1
  rw [f2, show (2 : Nat) ^ (16 : UInt32).toNat = 65536 by decide, Nat.mod_eq_of_lt (by omega)] at e2
  rw [f3, show (2 : Nat) ^ (24 : UInt32).toNat = 16777216 by decide, Nat.mod_eq_of_lt (by omega)] at e3
  have g1 := u32_or_nat b0.toNat (b1.toNat * 256) (by omega) (by omega)
  have l1 : b0.toNat ||| b1.toNat * 256 < 4294967296 := Nat.or_lt_two_pow (n := 32) (by omega) (by omega)
  have g2 := u32_or_nat (b0.toNat ||| b1.toNat * 256) (b2.toNat * 65536) l1 (by omega)
  have l2 : b0.toNat ||| b1.toNat * 256 ||| b2.toNat * 65536 < 4294967296 := Nat.or_lt_two_pow (n := 32) l1 (by omega)
  have g3 := u32_or_nat (b0.toNat ||| b1.toNat * 256 ||| b2.toNat * 65536) (b3.toNat * 16777216) l2 (by omega)
  rw [show ((b1.toNat : Int) * 256) = ((b1.toNat * 256 : Nat) : Int) by simp, g1, show ((b2.toNat : Int) * 65536) = ((b2.toNat * 65536 : Nat) : Int) by simp, g2,
    show ((b3.toNat : Int) * 16777216) = ((b3.toNat * 16777216 : Nat) : Int) by simp, g3]
  unfold wordOf
  rw [UInt32.toNat_or, UInt32.toNat_or, UInt32.toNat_or, e1, e2, e3, f0]

/-- The word that begins at byte j. -/
def wAt (s : ByteArray) (j : Nat) : UInt32 := wordOf (bAt s j) (bAt s (j + 1)) (bAt s (j + 2)) (bAt s (j + 3))

theorem word_calls (s : ByteArray) (h : 4 ≤ s.size) (w : World) : Calls Try.prog 28 #[.string s] w fun e w' => e = .returned (wd (wAt s 0)) ∧ Drawn w w' := by
  have r0 : ∀ w, (Instr.index 9 (.string s) (.int .i64 0)).run Try.prog w = .ok (.int .u8 ((bAt s 0).toNat : Int)) w := fun w => run_at s 0 (by omega) w
  have r1 : ∀ w, (Instr.index 9 (.string s) (.int .i64 1)).run Try.prog w = .ok (.int .u8 ((bAt s 1).toNat : Int)) w := fun w => run_at s 1 (by omega) w
  have r2 : ∀ w, (Instr.index 9 (.string s) (.int .i64 2)).run Try.prog w = .ok (.int .u8 ((bAt s 2).toNat : Int)) w := fun w => run_at s 2 (by omega) w
  have r3 : ∀ w, (Instr.index 9 (.string s) (.int .i64 3)).run Try.prog w = .ok (.int .u8 ((bAt s 3).toNat : Int)) w := fun w => run_at s 3 (by omega) w
  have hw : wAt s 0 = wordOf (bAt s 0) (bAt s 1) (bAt s 2) (bAt s 3) := rfl
  rw [hw]
  have hb := bits_word (bAt s 0) (bAt s 1) (bAt s 2) (bAt s 3)
  have h0 := UInt8.toNat_lt (bAt s 0)
  have h1 := UInt8.toNat_lt (bAt s 1)
  have h2 := UInt8.toNat_lt (bAt s 2)
  have h3 := UInt8.toNat_lt (bAt s 3)
  generalize bAt s 0 = b0 at *
  generalize bAt s 1 = b1 at *
  generalize bAt s 2 = b2 at *
  generalize bAt s 3 = b3 at *
  clear hw
  go_enter Try.func28, Try.ntmps28
  go_wp2
  go_quiet (fail)
  go_wp2
  go_ret
  exact ⟨rfl, _, rfl⟩

theorem refword_calls (s : ByteArray) (i : Nat) (h : 4 * i + 4 ≤ s.size) (hm : s.size ≤ 100) (w : World) : Calls Try.prog 25 #[.string s, .int .i64 i] w fun e w' => e = .returned (wd (wAt s (4 * i))) ∧ Drawn w w' := by
  have r0 : ∀ w, (Instr.index 9 (.string s) (.int .i64 (4 * (i : Int)))).run Try.prog w = .ok (.int .u8 ((bAt s (4 * i)).toNat : Int)) w := fun w => by
    have := run_at s (4 * i) (by omega) w
    rwa [show ((4 * i : Nat) : Int) = 4 * (i : Int) by omega] at this
  have r1 : ∀ w, (Instr.index 9 (.string s) (.int .i64 (4 * (i : Int) + 1))).run Try.prog w = .ok (.int .u8 ((bAt s (4 * i + 1)).toNat : Int)) w := fun w => by
    have := run_at s (4 * i + 1) (by omega) w
    rwa [show ((4 * i + 1 : Nat) : Int) = 4 * (i : Int) + 1 by omega] at this
  have r2 : ∀ w, (Instr.index 9 (.string s) (.int .i64 (4 * (i : Int) + 2))).run Try.prog w = .ok (.int .u8 ((bAt s (4 * i + 2)).toNat : Int)) w := fun w => by
    have := run_at s (4 * i + 2) (by omega) w
    rwa [show ((4 * i + 2 : Nat) : Int) = 4 * (i : Int) + 2 by omega] at this
  have r3 : ∀ w, (Instr.index 9 (.string s) (.int .i64 (4 * (i : Int) + 3))).run Try.prog w = .ok (.int .u8 ((bAt s (4 * i + 3)).toNat : Int)) w := fun w => by
    have := run_at s (4 * i + 3) (by omega) w
    rwa [show ((4 * i + 3 : Nat) : Int) = 4 * (i : Int) + 3 by omega] at this
  have hw : wAt s (4 * i) = wordOf (bAt s (4 * i)) (bAt s (4 * i + 1)) (bAt s (4 * i + 2)) (bAt s (4 * i + 3)) := rfl
  rw [hw]
  have hb := bits_word (bAt s (4 * i)) (bAt s (4 * i + 1)) (bAt s (4 * i + 2)) (bAt s (4 * i + 3))
  have h0 := UInt8.toNat_lt (bAt s (4 * i))
  have h1 := UInt8.toNat_lt (bAt s (4 * i + 1))
  have h2 := UInt8.toNat_lt (bAt s (4 * i + 2))
  have h3 := UInt8.toNat_lt (bAt s (4 * i + 3))
  generalize bAt s (4 * i) = b0 at *
  generalize bAt s (4 * i + 1) = b1 at *
  generalize bAt s (4 * i + 2) = b2 at *
  generalize bAt s (4 * i + 3) = b3 at *
  have w0 : IntKind.i64.wrap (4 * (i : Int)) = 4 * (i : Int) := IntWalk.i64_in _ (by omega)
  have w1 : IntKind.i64.wrap (4 * (i : Int) + 1) = 4 * (i : Int) + 1 := IntWalk.i64_in _ (by omega)
  have w2 : IntKind.i64.wrap (4 * (i : Int) + 2) = 4 * (i : Int) + 2 := IntWalk.i64_in _ (by omega)
  have w3 : IntKind.i64.wrap (4 * (i : Int) + 3) = 4 * (i : Int) + 3 := IntWalk.i64_in _ (by omega)
  clear hw
  go_enter Try.func25, Try.ntmps25
  go_wp2
  go_quiet (fail)
  go_wp2
  go_ret
  exact ⟨rfl, _, rfl⟩

end Go.Proofs.Ytcnabgbfnaabjaa
