/- The state as it is laid out first. -/
import Derived.Test.YtcnabgbfnaabjaaRnd
import Derived.Laws.Tables
import Derived.Deep.WholeRow
namespace Go.Proofs.Ytcnabgbfnaabjaa
open Go.RowKit
set_option linter.unusedSimpArgs false
set_option linter.unusedVariables false

def base : List UInt32 := [1634760805, 857760878, 2036477234, 1797285236, 0, 0, 0, 0, 0, 0, 0, 0, 0, 0, 0, 0]
/-- With the first i words of the key. -/
def keyed (k : ByteArray) (i : Nat) : List UInt32 := (List.range i).foldl (fun t j => t.set (4 + j) (wAt k (4 * j))) base
/-- With the counter, and the first i words of the nonce. -/
def nonced (k n : ByteArray) (c : UInt32) (i : Nat) : List UInt32 := (List.range i).foldl (fun t j => t.set (13 + j) (wAt n (4 * j))) ((keyed k 8).set 12 c)
def ini (k n : ByteArray) (c : UInt32) : List UInt32 := nonced k n c 3

theorem foldl_set_length {α : Type} (f : Nat → Nat) (g : Nat → α) : ∀ (l : List Nat) (t : List α), (l.foldl (fun t j => t.set (f j) (g j)) t).length = t.length
  | [], _ => rfl
  | x :: l, t => by rw [List.foldl_cons, foldl_set_length f g l]; simp
theorem keyed_length (k : ByteArray) (i : Nat) : (keyed k i).length = 16 := by unfold keyed; rw [foldl_set_length]; rfl
theorem nonced_length (k n : ByteArray) (c : UInt32) (i : Nat) : (nonced k n c i).length = 16 := by unfold nonced; rw [foldl_set_length]; simp [keyed_length]
theorem keyed_succ (k : ByteArray) (i : Nat) : keyed k (i + 1) = (keyed k i).set (4 + i) (wAt k (4 * i)) := by simp [keyed, List.range_succ]
theorem nonced_succ (k n : ByteArray) (c : UInt32) (i : Nat) : nonced k n c (i + 1) = (nonced k n c i).set (13 + i) (wAt n (4 * i)) := by simp [nonced, List.range_succ]

theorem bAt_tail (s : ByteArray) (a j : Nat) : bAt (s.extract a s.size) j = bAt s (a + j) := by
  unfold bAt
  rw [Lib.extract_data, List.getD_eq_getElem?_getD, List.getD_eq_getElem?_getD, List.take_of_length_le (by simp), List.getElem?_drop]
theorem wAt_tail (s : ByteArray) (a : Nat) : wAt (s.extract a s.size) 0 = wAt s a := by
  unfold wAt
  simp only [bAt_tail, Nat.zero_add, Nat.add_zero]

theorem ws_size (s : List UInt32) : (ws s).size = s.length := by simp [ws]
theorem ws_one (s : List UInt32) : (ws s).all (·.oneCell') = true := by
  rw [Array.all_eq_true_iff_forall_mem]
  intro v hv
  simp only [ws, List.mem_toArray, List.mem_map] at hv
  obtain ⟨x, _, rfl⟩ := hv
  rfl

theorem Kept.setRow {F : List Nat} {a b : World} (h : Kept F a b) (g : Nat) (cs : Array Value) (hp : g ∈ F ∨ a.heap.size ≤ g) : Kept F a (b.setRow g cs) :=
  ⟨h.os, h.tape, h.output, by simpa using h.size, fun x hx hn => (setRow_other b g x cs (fun e => by
    subst e
    rcases hp with hp | hp
    · exact hn hp
    · omega)).trans (h.block x hx hn)⟩

set_option maxHeartbeats 2000000 in
set_option maxRecDepth 100000 in
theorem initial_calls (k n : ByteArray) (c : UInt32) (hk : k.size = 32) (hn : n.size = 12) (w : World) :
    Calls Try.prog 26 #[.string k, .string n, wd c] w fun e w' => e = .returned (.agg (ws (ini k n c))) ∧ Kept [] w w' := by
  have HB := hide hk
  have HS := hide hn
  go_enter Try.func26, Try.ntmps26
  go_wp2_with fail
  have hnew := heap_alloc2_new w (.cells #[.int .u32 0, .int .u32 0, .int .u32 0, .int .u32 0, .int .u32 0, .int .u32 0, .int .u32 0, .int .u32 0, .int .u32 0, .int .u32 0, .int .u32 0, .int .u32 0, .int .u32 0, .int .u32 0, .int .u32 0, .int .u32 0] 45) (.cells #[.int .u32 1634760805, .int .u32 857760878, .int .u32 2036477234, .int .u32 1797285236, .int .u32 0, .int .u32 0, .int .u32 0, .int .u32 0, .int .u32 0, .int .u32 0, .int .u32 0, .int .u32 0, .int .u32 0, .int .u32 0, .int .u32 0, .int .u32 0] 45)
  have hold := heap_alloc2_old w (.cells #[.int .u32 0, .int .u32 0, .int .u32 0, .int .u32 0, .int .u32 0, .int .u32 0, .int .u32 0, .int .u32 0, .int .u32 0, .int .u32 0, .int .u32 0, .int .u32 0, .int .u32 0, .int .u32 0, .int .u32 0, .int .u32 0] 45) (.cells #[.int .u32 1634760805, .int .u32 857760878, .int .u32 2036477234, .int .u32 1797285236, .int .u32 0, .int .u32 0, .int .u32 0, .int .u32 0, .int .u32 0, .int .u32 0, .int .u32 0, .int .u32 0, .int .u32 0, .int .u32 0, .int .u32 0, .int .u32 0] 45)
  have hz : ws (List.replicate 16 0) = #[.int .u32 0, .int .u32 0, .int .u32 0, .int .u32 0, .int .u32 0, .int .u32 0, .int .u32 0, .int .u32 0, .int .u32 0, .int .u32 0, .int .u32 0, .int .u32 0, .int .u32 0, .int .u32 0, .int .u32 0, .int .u32 0] := rfl
  have hb : ws (keyed k 0) = #[.int .u32 1634760805, .int .u32 857760878, .int .u32 2036477234, .int .u32 1797285236, .int .u32 0, .int .u32 0, .int .u32 0, .int .u32 0, .int .u32 0, .int .u32 0, .int .u32 0, .int .u32 0, .int .u32 0, .int .u32 0, .int .u32 0, .int .u32 0] := rfl
  rw [← hz, ← hb] at hnew hold
  have HA := hide (And.intro hnew hold)
  clear hnew hold hz hb
  go_loopw [11] (fun i wr => ∃ (j : Nat), j ≤ 8 ∧ i = .int .i64 j ∧ Hid (wr.heap[w.heap.size + 1]? = some (.cells (ws (keyed k j)) 45 (0, 0)) ∧ wr.heap[w.heap.size]? = some (.cells (ws (List.replicate 16 0)) 45 (0, 0)) ∧ Kept [] w wr)) (fun i _ => 8 - (intOf i).toNat)
  case atStart => exact ⟨0, by omega, rfl, HA.out.1, HA.out.2, ((Kept.refl _ _).alloc _).alloc _⟩
  case round =>
    obtain ⟨j, hj, rfl, hinv⟩ := hrel
    by_cases hlt : j < 8
    · have hc := word_calls (k.extract (4 * j) 32) (by simp [HB.out]; omega) wr
      have ht := wAt_tail k (4 * j)
      rw [HB.out] at ht
      rw [ht] at hc
      clear ht
      go_wp2_with fail
      refine hc.mono ?_
      rintro e w' ⟨rfl, n', rfl⟩
      have hw' : (wr.drewN n').heap[w.heap.size + 1]? = some (.cells (ws (keyed k j)) 45 (0, 0)) := hinv.out.1
      have gg := ws_cell hw' (4 + j) (by rw [keyed_length]; omega)
      have ff := frozen_of_row _ _ (4 + j) _ _ hw'
      have HN := hide (ws_store hw' (4 + j) (wAt k (4 * j)))
      clear hw'
      rw [← keyed_succ] at HN
      have HO := hide ((heap_setCell_other (wr.drewN n') ⟨w.heap.size + 1, 4 + j, none⟩ w.heap.size (wd (wAt k (4 * j))) (by simp)).trans hinv.out.2.1)
      have HK := hide ((hinv.out.2.2.drewN n').setCell ⟨w.heap.size + 1, 4 + j, none⟩ (wd (wAt k (4 * j))) (.inr (by simp)))
      go_wp2_with fail
      refine ⟨⟨j + 1, by omega, by simp, HN.out, HO.out, HK.out⟩, ?_⟩
      simp only [intOf]; omega
    · obtain rfl : j = 8 := by omega
      have gg := ws_cell hinv.out.1 12 (by rw [keyed_length]; omega)
      have ff := frozen_of_row _ _ 12 _ _ hinv.out.1
      have HN := hide (ws_store hinv.out.1 12 c)
      have HO := hide ((heap_setCell_other wr ⟨w.heap.size + 1, 12, none⟩ w.heap.size (wd c) (by simp)).trans hinv.out.2.1)
      have HK := hide (hinv.out.2.2.setCell ⟨w.heap.size + 1, 12, none⟩ (wd c) (.inr (by simp)))
      clear hinv
      go_wp2_with fail
      have hn0 : (ws ((keyed k 8).set 12 c)) = ws (nonced k n c 0) := rfl
      rw [hn0] at HN
      clear hn0 gg ff
      have HH := hide (And.intro HN.out (And.intro HO.out HK.out))
      clear HN HO HK HA
      go_loopw [25] (fun i wr => ∃ (j : Nat), j ≤ 3 ∧ i = .int .i64 j ∧ Hid (wr.heap[w.heap.size + 1]? = some (.cells (ws (nonced k n c j)) 45 (0, 0)) ∧ wr.heap[w.heap.size]? = some (.cells (ws (List.replicate 16 0)) 45 (0, 0)) ∧ Kept [] w wr)) (fun i _ => 3 - (intOf i).toNat)
      case atStart => exact ⟨0, by omega, rfl, HH.out⟩
      case round =>
        clear HH
        obtain ⟨j, hj, rfl, hinv⟩ := hrel
        by_cases hlt : j < 3
        · have hc := word_calls (n.extract (4 * j) 12) (by simp [HS.out]; omega) wr
          have ht := wAt_tail n (4 * j)
          rw [HS.out] at ht
          rw [ht] at hc
          clear ht
          go_wp2_with fail
          refine hc.mono ?_
          rintro e w' ⟨rfl, n', rfl⟩
          have hw' : (wr.drewN n').heap[w.heap.size + 1]? = some (.cells (ws (nonced k n c j)) 45 (0, 0)) := hinv.out.1
          have gg := ws_cell hw' (13 + j) (by rw [nonced_length]; omega)
          have ff := frozen_of_row _ _ (13 + j) _ _ hw'
          have HN := hide (ws_store hw' (13 + j) (wAt n (4 * j)))
          clear hw'
          rw [← nonced_succ] at HN
          have HO := hide ((heap_setCell_other (wr.drewN n') ⟨w.heap.size + 1, 13 + j, none⟩ w.heap.size (wd (wAt n (4 * j))) (by simp)).trans hinv.out.2.1)
          have HK := hide ((hinv.out.2.2.drewN n').setCell ⟨w.heap.size + 1, 13 + j, none⟩ (wd (wAt n (4 * j))) (.inr (by simp)))
          go_wp2_with fail
          refine ⟨⟨_, _, _, _, _, _, _, _, _, _, _, _, _, ⟨j + 1, by omega, by simp, HN.out, HO.out, HK.out⟩, rfl⟩, ?_⟩
          simp [intOf]; omega
        · obtain rfl : j = 3 := by omega
          have hi45 : (Try.prog.info? 45).map (·.size) = some 16 := by kernel_rfl
          have hl : (ws (nonced k n c 3)).size = 16 := by rw [ws_size, nonced_length]
          have hlz : (ws (List.replicate 16 0)).size = 16 := rfl
          go_wp2_with (first
            | refine wpList_load_row rfl 45 (.tmp 7) rfl (w.heap.size + 1) rfl 45 (ws (nonced k n c 3)) (0, 0) _ hinv.out.1 Try.underlying45 rfl (by rw [hl]; exact hi45) ?_
            | refine wpList_store_row rfl 45 (.tmp 6) (.tmp 37) rfl w.heap.size (ws (nonced k n c 3)) rfl rfl 45 (ws (List.replicate 16 0)) hinv.out.2.1 (by rw [hl]; exact hi45) (by rw [hl]; rfl) (ws_one _) ?_)
          refine bodyPost_ret (v := .agg (ws (nonced k n c 3))) ?_ rfl ⟨rfl, ?_⟩
          · refine results_cell_row (ty := 45) rfl _ _ w.heap.size 45 (ws (nonced k n c 3)) (0, 0) _ rfl (setRow_heap wr w.heap.size _ _ 45 (0, 0) hinv.out.2.1) Try.underlying45 rfl (by rw [hl]; exact hi45)
          · exact hinv.out.2.2.setRow _ _ (.inr (Nat.le_refl _))
end Go.Proofs.Ytcnabgbfnaabjaa
