/- The link's small functions: side, copied, New, Left, Down: what a call returns and what it does to memory. -/
import Derived.Test.YtbajpofmaffpgaaProg
import Derived.Test.YtbajpofmaffpgaaBase
import Derived.Deep.RegionHeld3
import Derived.BigQuiet
import Derived.Deep.QuietTactic
import Derived.WalkSpells
import Derived.WalkLawsBesides
import Derived.KernelRfl
namespace Go.Proofs.Ytbajpofmaffpgaa
open Go.RowKit
set_option linter.unusedSimpArgs false
set_option linter.unusedVariables false

theorem info5 : (Try.prog.info? 5).map (fun i => (i.zero, i.size, i.bytes)) = some (some (.int .u8 0), 1, 1) := by kernel_rfl

/-! ### side, twice -/
theorem side_yes (n : Int) (w : World) (h : n = 0 ∨ n = 1) : Calls Try.prog 25 #[.int .i64 n] w fun e w' => e = .returned (.bool true) ∧ w = w' := by
  rcases h with rfl | rfl
  · go_enter Try.func25, Try.ntmps25
    go_wp2
    go_ret
    exact ⟨rfl, rfl⟩
  · go_enter Try.func25, Try.ntmps25
    go_wp2
    go_ret
    exact ⟨rfl, rfl⟩

theorem side_no (n : Int) (w : World) (h0 : (n == 0) = false) (h1 : (n == 1) = false) : Calls Try.prog 25 #[.int .i64 n] w fun e w' => e = .returned (.bool false) ∧ w = w' := by
  go_enter Try.func25, Try.ntmps25
  go_wp2
  go_ret
  exact ⟨rfl, rfl⟩

/-! ### copied -/
theorem copied_calls (w : World) (D : Nat → Prop) (A : Option Addr) (c : Nat) (xs : List UInt8) (hs : Src w D A xs) (hx : xs.length ≤ 140737488355328) :
    Calls Try.prog 26 #[.slice A xs.length c] w fun e w' => e = .returned (.slice (some ⟨w.heap.size, 0, none⟩) xs.length xs.length) ∧ Own w' (some ⟨w.heap.size, 0, none⟩) xs.length xs ∧ Kept [] w w' ∧ w.heap.size < w'.heap.size := by
  obtain ⟨i0, hi, hz0, hz1, hz2⟩ := info_parts info5
  have hn0 : (0 : Int) ≤ (xs.length : Int) := by omega
  go_enter Try.func26, Try.ntmps26
  go_wp2_with (first
    | (refine wpList_make_full _ rfl (.tmp 5) (.tmp 5) 22 rfl 0 5 i0 (.int .u8 0) 1 Try.underlying22 hi hz0 hz1 .i64 .i64 xs.length xs.length xs.length rfl rfl rfl rfl (by rw [hz2]; omega) (by unfold maxLen; omega) (Nat.zero_le _) ?_
       intro w1 hown1 hgrow1
       have hs1 : Src w1 D A xs := hs.keep (F := []) ⟨hgrow1.os, hgrow1.tape, hgrow1.output, hgrow1.size, fun k hk _ => hgrow1.block k hk (by simp)⟩ (by simp))
    | (refine wpList_copy_src rfl (.tmp 7) (.tmp 8) rfl Try.underlying22 (by kernel_rfl) hown1 hs1 rfl rfl rfl ?_
       intro w2 hown2 hk2 hz2)
    | fail)
  go_ret
  have hlt : w.heap.size < w1.heap.size := (World.ownsRow.lt hown1 w.heap.size rfl).2
  exact ⟨rfl, hown2, Kept.trans (F := []) ⟨hgrow1.os, hgrow1.tape, hgrow1.output, hgrow1.size, fun k hk _ => hgrow1.block k hk (by simp)⟩ hk2 (by simp) (by simp), by omega⟩

/-! ### the link in memory -/
/-- What a link holds: the bytes sent and waiting at both sides, its budget, its cut, and whether it is down. -/
structure LS where
  s0 : List UInt8
  q0 : List UInt8
  s1 : List UInt8
  q1 : List UInt8
  budget : Int
  cut : Int
  down : Bool
def LS.total (st : LS) : Nat := st.s0.length + st.s1.length

structure LS.Ok (st : LS) : Prop where
  b0 : (st.total : Int) ≤ st.budget
  b1 : st.budget ≤ 1073741824
  c0 : -9223372036854775808 ≤ st.cut
  c1 : st.cut ≤ 9223372036854775807
  c2 : 0 ≤ st.cut → (st.total : Int) ≤ st.cut
  q0 : st.q0.length ≤ st.s1.length
  q1 : st.q1.length ≤ st.s0.length

def LinkAt (w : World) (b : Nat) (F : List Nat) (st : LS) : Prop :=
  ∃ A0 c0 A1 c1 A2 c2 A3 c3, w.heap[b]? = some (.cells #[.slice A0 st.s0.length c0, .slice A1 st.q0.length c1, .slice A2 st.s1.length c2, .slice A3 st.q1.length c3,
      .int .i64 st.budget, .int .i64 st.cut, .int .i64 (st.total : Int), .bool st.down] 59 (0, 0)) ∧
    Own w A0 c0 st.s0 ∧ Own w A1 c1 st.q0 ∧ Own w A2 c2 st.s1 ∧ Own w A3 c3 st.q1 ∧ F = b :: (blk A0 ++ blk A1 ++ blk A2 ++ blk A3) ∧ F.Nodup

theorem LinkAt.keep {w w' : World} {b : Nat} {F G : List Nat} {st : LS} (h : LinkAt w b F st) (hk : Kept G w w') (hd : ∀ k ∈ F, k ∉ G) : LinkAt w' b F st := by
  obtain ⟨A0, c0, A1, c1, A2, c2, A3, c3, hb, h0, h1, h2, h3, hF, hn⟩ := h
  have hbl : b < w.heap.size := (Array.getElem?_eq_some_iff.1 hb).1
  refine ⟨A0, c0, A1, c1, A2, c2, A3, c3, by rw [hk.block b hbl (hd b (by simp [hF]))]; exact hb, h0.keep hk ?_, h1.keep hk ?_, h2.keep hk ?_, h3.keep hk ?_, hF, hn⟩ <;>
    (intro k hkk; exact hd k (by rw [hF]; simp [hkk]))

theorem LinkAt.lt {w : World} {b : Nat} {F : List Nat} {st : LS} (h : LinkAt w b F st) : ∀ k ∈ F, k < w.heap.size := by
  obtain ⟨A0, c0, A1, c1, A2, c2, A3, c3, hb, h0, h1, h2, h3, hF, hn⟩ := h
  subst hF
  have hbl : b < w.heap.size := (Array.getElem?_eq_some_iff.1 hb).1
  intro k hk
  simp only [List.mem_cons, List.mem_append] at hk
  rcases hk with rfl | ((hk | hk) | hk) | hk
  · exact hbl
  · exact h0.lt k hk
  · exact h1.lt k hk
  · exact h2.lt k hk
  · exact h3.lt k hk

theorem LinkAt.nodup {w : World} {b : Nat} {F : List Nat} {st : LS} (h : LinkAt w b F st) : F.Nodup := by
  obtain ⟨A0, c0, A1, c1, A2, c2, A3, c3, hb, h0, h1, h2, h3, hF, hn⟩ := h
  exact hn

def LS.new (budget cut : Int) : LS := ⟨[], [], [], [], budget, cut, false⟩
theorem LS.new_ok (budget cut : Int) (h0 : 0 ≤ budget) (h1 : budget ≤ 1073741824) (h2 : -9223372036854775808 ≤ cut) (h3 : cut ≤ 9223372036854775807) : (LS.new budget cut).Ok :=
  ⟨by simpa [LS.new, LS.total] using h0, h1, h2, h3, by intro h; simpa [LS.new, LS.total] using h, by simp [LS.new], by simp [LS.new]⟩

/-! ### New -/
theorem new_no (budget cut : Int) (w : World) (h : budget < 0 ∨ 1073741824 < budget) :
    Calls Try.prog 10 #[.int .i64 budget, .int .i64 cut] w fun e w' => e = .returned (.tuple #[.pointer none, .int .i64 1]) ∧ w = w' := by
  rcases h with h | h
  · go_enter Try.func10, Try.ntmps10
    go_wp2
    go_ret2
    exact ⟨rfl, rfl⟩
  · have h' : ¬ budget < 0 := by omega
    go_enter Try.func10, Try.ntmps10
    go_wp2
    go_ret2
    exact ⟨rfl, rfl⟩

theorem new_yes (budget cut : Int) (w : World) (h0 : 0 ≤ budget) (h1 : budget ≤ 1073741824) :
    Calls Try.prog 10 #[.int .i64 budget, .int .i64 cut] w fun e w' => e = .returned (.tuple #[.pointer (some ⟨w.heap.size, 0, none⟩), .int .i64 0]) ∧ LinkAt w' w.heap.size [w.heap.size] (LS.new budget cut) ∧ Kept [] w w' ∧ w.heap.size < w'.heap.size := by
  have h0' : ¬ budget < 0 := by omega
  have h1' : ¬ 1073741824 < budget := by omega
  go_enter Try.func10, Try.ntmps10
  go_wp2
  go_ret2
  refine ⟨rfl, ⟨none, 0, none, 0, none, 0, none, 0, ?_, Own.nil _, Own.nil _, Own.nil _, Own.nil _, by simp [blk], by simp⟩, Kept.alloc (Kept.refl _ _) _, by simp⟩
  exact heap_alloc_new w _

/-! ### Left, Down -/
theorem cells_of {w : World} {b : Nat} {cs : Array Value} {T : TypeId} (hb : w.heap[b]? = some (.cells cs T (0, 0))) (i : Nat) : w.cell? ⟨b, i, none⟩ = cs[i]? := cell_of_row w b i cs T (0, 0) hb
theorem free_of {w : World} {b : Nat} {cs : Array Value} {T : TypeId} (hb : w.heap[b]? = some (.cells cs T (0, 0))) (i : Nat) : w.frozen? ⟨b, i, none⟩ = false := frozen_of_row w b i cs T hb

/-- A world that differs by draws alone. -/
def Drawn (w w' : World) : Prop := ∃ n, w' = w.drewN n
theorem Drawn.refl (w : World) : Drawn w w := ⟨0, rfl⟩
theorem Drawn.kept {w w' : World} (h : Drawn w w') (F : List Nat) : Kept F w w' := by obtain ⟨n, rfl⟩ := h; exact (Kept.refl _ _).drewN n
theorem Drawn.size {w w' : World} (h : Drawn w w') : w'.heap.size = w.heap.size := by obtain ⟨n, rfl⟩ := h; rfl

theorem left_calls {w : World} {b : Nat} {F : List Nat} {st : LS} (h : LinkAt w b F st) (hok : st.Ok) :
    Calls Try.prog 14 #[.pointer (some ⟨b, 0, none⟩)] w fun e w' => e = .returned (.int .i64 (st.budget - st.total)) ∧ Drawn w w' := by
  obtain ⟨A0, c0, A1, c1, A2, c2, A3, c3, hb, h0, h1, h2, h3, hF, hn⟩ := h
  have k0 := hok.b0
  have k1 := hok.b1
  have e4 : w.cell? ⟨b, 4, none⟩ = some (.int .i64 st.budget) := cells_of hb 4
  have e6 : w.cell? ⟨b, 6, none⟩ = some (.int .i64 (st.total : Int)) := cells_of hb 6
  clear hb h0 h1 h2 h3 hF hn hok
  go_enter Try.func14, Try.ntmps14
  go_wp2
  go_quiet (fail)
  go_wp2
  go_ret
  exact ⟨rfl, ⟨_, rfl⟩⟩

theorem down_calls {w : World} {b : Nat} {F : List Nat} {st : LS} (h : LinkAt w b F st) :
    Calls Try.prog 15 #[.pointer (some ⟨b, 0, none⟩)] w fun e w' => e = .returned (.bool st.down) ∧ w = w' := by
  obtain ⟨A0, c0, A1, c1, A2, c2, A3, c3, hb, h0, h1, h2, h3, hF, hn⟩ := h
  have e7 : w.cell? ⟨b, 7, none⟩ = some (.bool st.down) := cells_of hb 7
  clear hb h0 h1 h2 h3 hF hn
  go_enter Try.func15, Try.ntmps15
  go_wp2
  go_ret
  exact ⟨rfl, rfl⟩

/-! ### Transcript, Sent -/
def LS.sent (st : LS) (k : Int) : List UInt8 := if k = 0 then st.s0 else if k = 1 then st.s1 else []
theorem sent_le {st : LS} (hok : st.Ok) (k : Int) : (st.sent k).length ≤ 1073741824 := by
  have h0 := hok.b0
  have h1 := hok.b1
  unfold LS.total at h0
  unfold LS.sent
  split
  · omega
  · split
    · omega
    · simp

theorem transcript_yes {w : World} {b : Nat} {F : List Nat} {st : LS} (h : LinkAt w b F st) (hok : st.Ok) (k : Int) (hk : k = 0 ∨ k = 1) :
    Calls Try.prog 17 #[.pointer (some ⟨b, 0, none⟩), .int .i64 k] w fun e w' => ∃ g, e = .returned (.slice (some ⟨g, 0, none⟩) (st.sent k).length (st.sent k).length) ∧
      Own w' (some ⟨g, 0, none⟩) (st.sent k).length (st.sent k) ∧ Kept [] w w' ∧ w.heap.size ≤ g ∧ g < w'.heap.size := by
  have hle := sent_le hok k
  obtain ⟨A0, c0, A1, c1, A2, c2, A3, c3, hb, h0, h1, h2, h3, hF, hn⟩ := h
  have e0 : w.cell? ⟨b, 0, none⟩ = some (.slice A0 st.s0.length c0) := cells_of hb 0
  have e2 : w.cell? ⟨b, 2, none⟩ = some (.slice A2 st.s1.length c2) := cells_of hb 2
  rcases hk with rfl | rfl
  · have hs := h0.src
    clear hb h0 h1 h2 h3 hF hn hok
    simp only [LS.sent, if_pos] at *
    go_enter Try.func17, Try.ntmps17
    go_wp2_with (first | (go_at_call 25; refine (side_yes _ _ (by omega)).mono ?_; rintro e w' ⟨rfl, rfl⟩) | (go_at_call 26; refine (copied_calls _ _ _ _ _ hs (by omega)).mono ?_; rintro e w1 ⟨rfl, ho1, hk1, hz1⟩))
    go_ret
    exact ⟨_, rfl, ho1, hk1, Nat.le_refl _, hz1⟩
  · have hs := h2.src
    clear hb h0 h1 h2 h3 hF hn hok
    simp only [LS.sent, if_pos, if_neg (show ¬ (1 : Int) = 0 by omega)] at *
    go_enter Try.func17, Try.ntmps17
    go_wp2_with (first | (go_at_call 25; refine (side_yes _ _ (by omega)).mono ?_; rintro e w' ⟨rfl, rfl⟩) | (go_at_call 26; refine (copied_calls _ _ _ _ _ hs (by omega)).mono ?_; rintro e w1 ⟨rfl, ho1, hk1, hz1⟩))
    go_ret
    exact ⟨_, rfl, ho1, hk1, Nat.le_refl _, hz1⟩
end Go.Proofs.Ytbajpofmaffpgaa
