/- sized, Block, and awake: the example of the chapter holds. -/
import Derived.Test.YtcnabgbfnaabjaaBlk
import Derived.Lib.SlBytesConst
namespace Go.Proofs.Ytcnabgbfnaabjaa
open Go.RowKit
set_option linter.unusedSimpArgs false
set_option linter.unusedVariables false

/-- Bytes as a string. -/
def str (xs : List UInt8) : ByteArray := ⟨xs.toArray⟩

theorem fold_str (xs : List UInt8) : ∀ s : ByteArray, (xs.map fun b => (b.toNat : Int)).foldl (fun r n => r.push (UInt8.ofNat n.toNat)) s = ⟨(s.data.toList ++ xs).toArray⟩ := by
  induction xs with
  | nil => intro s; simp
  | cons x xs ih =>
    intro s
    simp only [List.map_cons, List.foldl_cons]
    rw [ih]
    simp [ByteArray.push]

theorem run_str {P : Program} {w : World} {D : Nat → Prop} {A : Option Addr} {xs : List UInt8} (h : Src w D A xs) (c : Nat) :
    (Conv.bytesToString (.slice A xs.length c)).run P w = .ok (.string (str xs)) w := by
  by_cases h0 : xs.length = 0
  · obtain rfl : xs = [] := List.eq_nil_of_length_eq_zero h0
    cases A <;> simp [Conv.bytesToString, loadCells, loadCellsFrom, str]
    all_goals rfl
  · obtain ⟨ad, rfl, _, hc⟩ := h.at_ (by omega)
    have hl : (loadCells ad xs.length).run P w = .ok ((xs.map fun b => (b.toNat : Int)).map (Value.int .u8)).toArray w := by
      have := run_loadCells_list (P := P) w ad (bs xs) hc
      rw [bs_length] at this
      rw [this]
      congr 2
      simp [bs]
    rw [run_bytesToString w ad xs.length c _ hl, fold_str]
    rfl

/-- The bytes that stand in a block, as a source. -/
theorem Src.of_block {w : World} {g : Nat} {xs : List UInt8} {T : TypeId} {fr : Nat × Nat} (h : w.heap[g]? = some (.cells (bs xs).toArray T fr)) : Src w (· = g) (some ⟨g, 0, none⟩) xs :=
  ⟨fun _ => ⟨_, rfl, rfl, fun j u hu => by
    have ha : (⟨g, 0, none⟩ : Addr).add j = ⟨g, j, none⟩ := by unfold Addr.add; split <;> simp_all
    rw [ha, cell_of_row w g j _ T fr h]
    simpa using hu⟩⟩

theorem conv_str {w : World} {D : Nat → Prop} {A : Option Addr} {xs : List UInt8} (h : Src w D A xs) (c : Nat) : (convert 23 9 (.slice A xs.length c)).run Try.prog w = .ok (.string (str xs)) w := by
  rw [run_convert_bytes_string w 23 9 5 A xs.length c Try.underlying23 Try.underlying5 Try.underlying9]
  exact run_str h c

theorem sized_calls (k n : ByteArray) (w : World) : Calls Try.prog 21 #[.string k, .string n] w fun e w' => e = .returned (.bool (decide (k.size = 32) && decide (n.size = 12))) ∧ w = w' := by
  by_cases h1 : k.size = 32
  · by_cases h2 : n.size = 12
    · have hr : (decide (k.size = 32) && decide (n.size = 12)) = true := by simp [h1, h2]
      rw [hr]
      go_enter Try.func21, Try.ntmps21
      go_wp2
      go_ret
      exact ⟨rfl, rfl⟩
    · have hr : (decide (k.size = 32) && decide (n.size = 12)) = false := by simp [h2]
      rw [hr]
      have h2' : ((n.size : Int) == 12) = false := by simp; omega
      go_enter Try.func21, Try.ntmps21
      go_wp2
      go_ret
      exact ⟨rfl, rfl⟩
  · have hr : (decide (k.size = 32) && decide (n.size = 12)) = false := by simp [h1]
    rw [hr]
    have h1' : ((k.size : Int) == 32) = false := by simp; omega
    go_enter Try.func21, Try.ntmps21
    go_wp2
    go_ret
    exact ⟨rfl, rfl⟩

theorem blockOf_length (k n : ByteArray) (c : UInt32) : (blockOf k n c).length = 64 := sums_length _ _ 16

theorem Own.form {w : World} {A : Option Addr} {c : Nat} {xs : List UInt8} (h : Own w A c xs) (hp : 0 < xs.length) : ∃ g, A = some ⟨g, 0, none⟩ := by
  obtain ⟨g, hg, _⟩ := h.cellAt 0 hp
  exact ⟨g, hg⟩

theorem Block_yes (k n : ByteArray) (c : UInt32) (hk : k.size = 32) (hn : n.size = 12) (w : World) :
    Calls Try.prog 13 #[.string k, .string n, wd c] w fun e w' => ∃ g cap, e = .returned (.tuple #[.slice (some ⟨g, 0, none⟩) 64 cap, .int .i64 0]) ∧ Own w' (some ⟨g, 0, none⟩) cap (blockOf k n c) ∧ Kept [] w w' ∧ w.heap.size ≤ g ∧ 64 ≤ cap := by
  have hb := block_calls k n c hk hn w
  have hs := sized_calls k n w
  rw [show (decide (k.size = 32) && decide (n.size = 12)) = true by simp [hk, hn]] at hs
  go_enter Try.func13, Try.ntmps13
  go_wp2_with (first
    | (go_at_call 21; refine hs.mono ?_; rintro e w1 ⟨rfl, rfl⟩)
    | (go_at_call 22; refine hb.mono ?_; rintro e w1 ⟨A, cap, rfl, ho, hk1, hge⟩)
    | fail)
  go_ret2
  have hl := blockOf_length k n c
  obtain ⟨g, rfl⟩ := ho.form (by omega)
  exact ⟨g, cap, rfl, ho, hk1, hge g (by simp [blk]), by have := ho.cap_ge; omega⟩

theorem Block_no (k n : ByteArray) (c : UInt32) (h : ¬ (k.size = 32 ∧ n.size = 12)) (w : World) :
    Calls Try.prog 13 #[.string k, .string n, wd c] w fun e w' => e = .returned (.tuple #[.slice none 0 0, .int .i64 1]) ∧ w = w' := by
  have hs := sized_calls k n w
  rw [show (decide (k.size = 32) && decide (n.size = 12)) = false by simpa using h] at hs
  go_enter Try.func13, Try.ntmps13
  go_wp2_with (first
    | (go_at_call 21; refine hs.mono ?_; rintro e w1 ⟨rfl, rfl⟩)
    | fail)
  go_ret2
  exact ⟨rfl, rfl⟩

def keyW : List UInt8 := (List.range 32).map fun i => UInt8.ofNat i
def keyB (i : Nat) : List UInt8 := (List.range i).map fun i => UInt8.ofNat i
theorem keyB_succ (i : Nat) : keyB (i + 1) = keyB i ++ [UInt8.ofNat i] := by simp [keyB, List.range_succ]
theorem keyB_length (i : Nat) : (keyB i).length = i := by simp [keyB]
theorem quarter_example : quarter 286331153 16909060 2609737539 19088743 = (3928658676, 3407673550, 1166100270, 1484899515) := by decide +kernel
theorem block_example : (blockOf (str (keyB 32)) ⟨#[0, 0, 0, 9, 0, 0, 0, 74, 0, 0, 0, 0]⟩ 1).take 8 = [16, 241, 231, 228, 209, 59, 89, 21] := by decide +kernel
set_option maxHeartbeats 1000000 in
theorem awake_calls (w : World) : Calls Try.prog 11 #[] w fun e w' => e = .returned (.bool true) ∧ Kept [] w w' := by
  have hq := fun w => quarter_calls 286331153 16909060 2609737539 19088743 w
  rw [quarter_example] at hq
  go_enter Try.func11, Try.ntmps11
  go_wp2_with (first
    | (go_at_call 14; refine (hq _).mono ?_; rintro e w1 ⟨rfl, rfl⟩)
    | fail)
  have HS := hide (own_empty w)
  have HK := hide ((Kept.refl [] w).alloc (.cells #[] 5))
  have HC := hide hq
  clear hq
  go_loopw [6, 5] (fun i o wr => ∃ (j : Nat) (A : Option Addr) (cp : Nat), j ≤ 32 ∧ i = .int .u8 j ∧ o = .slice A j cp ∧ Hid (Own wr A cp (keyB j) ∧ (∀ g ∈ blk A, w.heap.size ≤ g) ∧ Kept [] w wr)) (fun i _ _ => 32 - (intOf i).toNat)
  case atStart => exact ⟨0, _, _, by omega, rfl, rfl, HS.out, by simp [blk], HK.out⟩
  case round =>
    clear HS HK
    obtain ⟨j, A, cp, hj, rfl, rfl, hinv⟩ := hrel
    by_cases hlt : j < 32
    · have HOW := hide (hinv.out.1.keep ((Kept.refl [] wr).alloc (.cells #[.int .u8 (j : Int)] 5)) (by simp))
      have HSR : Hid (Src (wr.alloc (.cells #[.int .u8 (j : Int)] 5)) (· = wr.heap.size) (some ⟨wr.heap.size, 0, none⟩) [UInt8.ofNat j]) := by
        refine Src.of_block (T := 5) (fr := (0, 0)) ?_
        have e : (UInt8.ofNat j).toNat = j := by simp; omega
        simp only [bs, List.map_cons, List.map_nil, e]
        exact heap_alloc_new wr _
      obtain ⟨i5, h51, h52, h53, h54⟩ := info5
      have H5 := hide (And.intro h51 (And.intro h52 (And.intro h53 h54)))
      clear h51 h52 h53 h54
      go_wp2_with (first
        | (refine wpList_append_src rfl (.tmp 20) (.tmp 22) rfl Try.underlying23 H5.out.1 H5.out.2.1 H5.out.2.2.1 H5.out.2.2.2 HOW.out HSR.out (n := j) (m := 1) (keyB_length _) rfl rfl rfl (by rw [keyB_length]; simp; omega) ?_
           intro A' cp' w' ho' hk' hb'
           have HO' := hide (And.intro ho' (And.intro hk' hb'))
           clear ho' hk' hb')
        | fail)
      obtain ⟨ho', hk', hb'⟩ := HO'.out
      obtain ⟨hown, hge, hkw⟩ := hinv.out
      have hz0 := hkw.size
      refine ⟨⟨j + 1, A', cp', by omega, by simp, rfl, ?_, ?_, ?_⟩, ?_⟩
      · rw [keyB_succ]; exact ho'
      · intro g hg
        rcases hb' g hg with h | h
        · exact hge g h
        · have := hk'.size
          simp at h
          omega
      · exact ((hkw.alloc _).trans hk' (H := []) (by simp) (fun g hg => .inr (hge g hg)))
      · simp only [intOf]; omega
    · obtain rfl : j = 32 := by omega
      have hcv := conv_str hinv.out.1.src cp
      rw [keyB_length] at hcv
      have hsz : (str (keyB 32)).size = 32 := rfl
      have hB := Block_yes (str (keyB 32)) ⟨#[0, 0, 0, 9, 0, 0, 0, 74, 0, 0, 0, 0]⟩ 1 hsz rfl wr
      go_wp2_with (first
        | (go_at_call 13; refine hB.mono ?_; rintro e w1 ⟨g, cap, rfl, ho1, hk1, hge1, hcap⟩
           have hc8 : (convert 23 9 (.slice (some ⟨g, 0, none⟩) 8 cap)).run Try.prog w1 = .ok (.string ⟨#[16, 241, 231, 228, 209, 59, 89, 21]⟩) w1 := by
             have := conv_str (ho1.src.take 8) cap
             rw [block_example] at this
             exact this)
        | fail)
      go_ret
      exact ⟨rfl, hinv.out.2.2.trans hk1 (H := []) (by simp) (by simp)⟩
end Go.Proofs.Ytcnabgbfnaabjaa
