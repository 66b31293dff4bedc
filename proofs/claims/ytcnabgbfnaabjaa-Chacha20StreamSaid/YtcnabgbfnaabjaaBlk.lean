/- One block of the key stream. -/
import Derived.Test.YtcnabgbfnaabjaaIni
import Derived.Laws.MakeOwn
namespace Go.Proofs.Ytcnabgbfnaabjaa
open Go.RowKit
set_option linter.unusedSimpArgs false
set_option linter.unusedVariables false

def rnds : Nat → List UInt32 → List UInt32
  | 0, s => s
  | n + 1, s => rnd (rnds n s)
theorem foldl_qr_length : ∀ (l : List (Nat × Nat × Nat × Nat)) (s : List UInt32), (l.foldl qr s).length = s.length
  | [], _ => rfl
  | q :: l, s => by rw [List.foldl_cons, foldl_qr_length l, qr_length]
theorem rnd_length (s : List UInt32) : (rnd s).length = s.length := foldl_qr_length _ _
theorem rnds_length (n : Nat) (s : List UInt32) : (rnds n s).length = s.length := by
  induction n with
  | zero => rfl
  | succ n ih => rw [rnds, rnd_length, ih]

/-- A word's four bytes. -/
def le4 (x : UInt32) : List UInt8 := [x.toUInt8, (x >>> 8).toUInt8, (x >>> 16).toUInt8, (x >>> 24).toUInt8]
/-- The bytes of the first i sums. -/
def sums (t s : List UInt32) (i : Nat) : List UInt8 := (List.range i).flatMap fun j => le4 (t.getD j 0 + s.getD j 0)
def blockOf (k n : ByteArray) (c : UInt32) : List UInt8 := sums (rnds 10 (ini k n c)) (ini k n c) 16
theorem sums_succ (t s : List UInt32) (i : Nat) : sums t s (i + 1) = sums t s i ++ le4 (t.getD i 0 + s.getD i 0) := by simp [sums, List.range_succ]
theorem sums_length (t s : List UInt32) (i : Nat) : (sums t s i).length = 4 * i := by
  induction i with
  | zero => rfl
  | succ n ih => rw [sums_succ, List.length_append, ih]; simp [le4]; omega
theorem ini_length (k n : ByteArray) (c : UInt32) : (ini k n c).length = 16 := nonced_length _ _ _ _

theorem own_empty (w : World) : Own (w.alloc (.cells #[] 5)) (some ⟨w.heap.size, 0, none⟩) 0 [] :=
  ⟨rfl, .inr ⟨w.heap.size, 0, #[], rfl, Nat.zero_le _, heap_alloc_new w _, Nat.le_refl _, by unfold maxLen; omega, rfl, rfl⟩⟩
theorem own_made (w : World) (c : Nat) (cs : Array Value) (h : cs.size = c) (hc : c ≤ maxLen) : Own (w.alloc (.cells cs 5)) (some ⟨w.heap.size, 0, none⟩) c [] :=
  ⟨rfl, .inr ⟨w.heap.size, c, cs, rfl, Nat.zero_le _, heap_alloc_new w _, Nat.zero_le _, hc, by omega, by simp [bs]⟩⟩

theorem idx_ws (s : List UInt32) (j : Nat) (hj : j < 16) (hs : s.length = 16) (w : World) : (Instr.index 45 (.agg (ws s)) (.int .i64 (j : Int))).run Try.prog w = .ok (wd (s.getD j 0)) w := by
  have hn : (0 : Int) ≤ (j : Int) ∧ (j : Int) < 16 := by omega
  simp [Instr.index, run_underlying Try.underlying45, asIntOf, hn, go_sem]
  have hl : (ws s)[j]? = some (wd (s.getD j 0)) := by
    rw [List.getD_eq_getElem?_getD, List.getElem?_eq_getElem (by omega)]
    simp [ws, hs, hj]
  rw [hl, if_pos hj]
  simp

theorem info5 : ∃ i, Try.prog.info? 5 = some i ∧ i.zero = some (.int .u8 0) ∧ i.size = 1 ∧ i.bytes = 1 := by
  have h : (Try.prog.info? 5).map (fun i => (i.zero, i.size, i.bytes)) = some (some (.int .u8 0), 1, 1) := by kernel_rfl
  obtain ⟨i, hi, he⟩ := Option.map_eq_some_iff.1 h
  injection he with h0 h1
  injection h1 with h1 h2
  exact ⟨i, hi, h0, h1, h2⟩

theorem run_make23 (c : Nat) (hc : c ≤ 4096) (w : World) : (Instr.makeSlice 23 (.int .i64 0) (.int .i64 (c : Int))).run Try.prog w = .ok (.slice (some ⟨w.heap.size, 0, none⟩) 0 c) (w.alloc (.cells (madeCells #[.int .u8 0] c) 5)) := by
  obtain ⟨i, hi, hz, hs, hb⟩ := info5
  have := run_makeSlice (P := Try.prog) w 23 5 i (.int .u8 0) Try.underlying23 hi hz .i64 .i64 0 (c : Int) (by omega) (by omega) (by rw [hs]; omega) (by rw [hb]; omega) (by omega)
  simpa [hs, Value.cells] using this

theorem src_le4 (w : World) (x : UInt32) : Src (w.alloc (.cells #[.int .u8 ((x.toNat : Int) % 256), .int .u8 ((x.toNat : Int) / 256 % 256), .int .u8 ((x.toNat : Int) / 65536 % 256), .int .u8 ((x.toNat : Int) / 16777216)] 5)) (· = w.heap.size) (some ⟨w.heap.size, 0, none⟩) (le4 x) := by
  refine ⟨fun _ => ⟨_, rfl, rfl, fun j u hu => ?_⟩⟩
  have ha : (⟨w.heap.size, 0, none⟩ : Addr).add j = ⟨w.heap.size, j, none⟩ := by unfold Addr.add; split <;> simp_all
  rw [ha, cell_of_row _ _ j _ 5 (0, 0) (heap_alloc_new w _), ← hu]
  have h0 : ((x.toUInt8.toNat : Nat) : Int) = (x.toNat : Int) % 256 := by simp
  have h1 : (((x >>> 8).toUInt8.toNat : Nat) : Int) = (x.toNat : Int) / 256 % 256 := by
    rw [UInt32.toNat_toUInt8, toNat_sr x 8 (by decide)]; rfl
  have h2 : (((x >>> 16).toUInt8.toNat : Nat) : Int) = (x.toNat : Int) / 65536 % 256 := by
    rw [UInt32.toNat_toUInt8, toNat_sr x 16 (by decide)]; rfl
  have h3 : (((x >>> 24).toUInt8.toNat : Nat) : Int) = (x.toNat : Int) / 16777216 := by
    have hx := UInt32.toNat_lt x
    rw [UInt32.toNat_toUInt8, toNat_sr x 24 (by decide), show (2 : Nat) ^ (24 : UInt32).toNat = 16777216 by decide]; omega
  simp only [bs, le4, List.map_cons, List.map_nil, h0, h1, h2, h3, List.getElem?_toArray]

theorem setRow_alloc2_new (w : World) (A : Obj) (c c' : Array Value) (t : TypeId) : ((w.alloc A).alloc (.cells c t)).setRow (w.heap.size + 1) c' = (w.alloc A).alloc (.cells c' t) := by
  have := World.setRow_alloc_new (w.alloc A) c c' t
  rwa [show (w.alloc A).heap.size = w.heap.size + 1 by simp] at this

set_option maxHeartbeats 2000000 in
set_option maxRecDepth 100000 in
theorem block_calls (k n : ByteArray) (c : UInt32) (hk : k.size = 32) (hn : n.size = 12) (w : World) :
    Calls Try.prog 22 #[.string k, .string n, wd c] w fun e w' => ∃ A cap, e = .returned (.slice A 64 cap) ∧ Own w' A cap (blockOf k n c) ∧ Kept [] w w' ∧ (∀ g ∈ blk A, w.heap.size ≤ g) := by
  have hI := initial_calls k n c hk hn
  have HL := hide (ini_length k n c)
  clear hk hn
  have HBO := hide (show blockOf k n c = sums (rnds 10 (ini k n c)) (ini k n c) 16 from rfl)
  generalize blockOf k n c = bo at *
  generalize ini k n c = s at *
  have H45 := hide (show (Try.prog.info? 45).map (·.size) = some (ws s).size by rw [ws_size, HL.out]; kernel_rfl)
  go_enter Try.func22, Try.ntmps22
  go_wp2_with (first
    | (go_at_call 26; refine (hI _).mono ?_; rintro e w1 ⟨rfl, hk1⟩)
    | (refine wpList_store_row rfl 45 _ _ rfl _ (ws s) rfl rfl 45 _ (heap_alloc_new _ _) H45.out (by rw [ws_size, HL.out]; rfl) (ws_one _) ?_; rw [World.setRow_alloc_new])
    | (refine wpList_store_row rfl 45 _ _ rfl _ (ws s) rfl rfl 45 _ (heap_alloc2_new _ _ _) H45.out (by rw [ws_size, HL.out]; rfl) (ws_one _) ?_; rw [setRow_alloc2_new])
    | (refine wpList_load_row rfl 45 _ rfl _ rfl 45 (ws s) (0, 0) _ (heap_alloc_new _ _) Try.underlying45 rfl H45.out ?_))
  have hA := heap_alloc2_new w1 (.cells (ws s) 45) (.cells (ws s) 45)
  have hB := heap_alloc2_old w1 (.cells (ws s) 45) (.cells (ws s) 45)
  have HH := hide (And.intro hA (And.intro hB ((hk1.alloc (.cells (ws s) 45)).alloc (.cells (ws s) 45))))
  have hs1 := hk1.size
  clear hA hB hk1 hI
  go_loopw [17] (fun i wr => ∃ (j : Nat), j ≤ 10 ∧ i = .int .i64 j ∧ Hid (wr.heap[w1.heap.size + 1]? = some (.cells (ws (rnds j s)) 45 (0, 0)) ∧ wr.heap[w1.heap.size]? = some (.cells (ws s) 45 (0, 0)) ∧ Kept [] w wr)) (fun i _ => 10 - (intOf i).toNat)
  case atStart => exact ⟨0, by omega, rfl, HH.out⟩
  case round =>
    clear HH
    obtain ⟨j, hj, rfl, hinv⟩ := hrel
    by_cases hlt : j < 10
    · have hr := round_calls (w1.heap.size + 1) (rnds j s) (by rw [rnds_length]; exact HL.out) wr hinv.out.1
      go_wp2_with fail
      refine hr.mono ?_
      rintro e w' ⟨rfl, hb', hk'⟩
      have HN := hide (And.intro hb' (And.intro ((hk'.block w1.heap.size (at_lt hinv.out.2.1) (by simp)).trans hinv.out.2.1) (hinv.out.2.2.trans hk' (H := []) (by simp) (by simp; omega))))
      clear hb' hk'
      go_wp2_with fail
      refine ⟨⟨j + 1, by omega, by simp, HN.out⟩, ?_⟩
      simp only [intOf]; omega
    · obtain rfl : j = 10 := by omega
      have hmk := run_make23 64 (by omega)
      have hm64 := hide (own_made wr 64 (madeCells #[.int .u8 0] 64) (size_madeCells _ _) (by unfold maxLen; omega))
      have HL1 := hide (show (Try.prog.info? 45).map (·.size) = some (ws (rnds 10 s)).size by rw [ws_size, rnds_length, HL.out]; kernel_rfl)
      have hb1 := (heap_alloc_old wr (.cells (madeCells #[.int .u8 0] 64) 5) (at_lt hinv.out.1)).trans hinv.out.1
      have hb0 := (heap_alloc_old wr (.cells (madeCells #[.int .u8 0] 64) 5) (at_lt hinv.out.2.1)).trans hinv.out.2.1
      have hlt1 := at_lt hinv.out.1
      have HB1 := hide hb1
      have HB0 := hide hb0
      clear hb1 hb0
      simp only [Int.cast_ofNat_Int] at hmk
      go_wp2_with (first
        | (refine wpList_load_row rfl 45 _ rfl _ rfl 45 (ws (rnds 10 s)) (0, 0) _ HB1.out Try.underlying45 rfl HL1.out ?_)
        | fail)
      have HK0 := hide (hinv.out.2.2.alloc (.cells (madeCells #[.int .u8 0] 64) 5))
      clear hmk HL1 H45 hinv
      obtain ⟨t, ht⟩ : ∃ t, t = rnds 10 s := ⟨_, rfl⟩
      have HT := hide ht
      have HTL := hide (show t.length = 16 by rw [ht, rnds_length]; exact HL.out)
      rw [← ht]
      clear ht
      have hg := hlt1
      generalize wr.heap.size = G at *
      generalize wr.alloc (.cells (madeCells #[.int .u8 0] 64) 5) = wx at *
      go_loopw [23, 9] (fun i o wr => ∃ (j : Nat) (A : Option Addr) (cp : Nat), j ≤ 16 ∧ i = .int .i64 j ∧ o = .slice A (4 * j) cp ∧ Hid (Own wr A cp (sums t s j) ∧ (∀ g ∈ blk A, w1.heap.size + 2 ≤ g) ∧ wr.heap[w1.heap.size]? = some (.cells (ws s) 45 (0, 0)) ∧ Kept [] w wr)) (fun i _ _ => 16 - (intOf i).toNat)
      case atStart => exact ⟨0, _, _, by omega, rfl, rfl, hm64.out, by simp [blk]; omega, HB0.out, HK0.out⟩
      case round =>
        clear hm64 HB0 HB1 HK0
        obtain ⟨j, A, cp, hj, rfl, rfl, hinv⟩ := hrel
        by_cases hlt : j < 16
        · have hix := idx_ws t j hlt HTL.out
          have gg := ws_cell hinv.out.2.2.1 j (by rw [HL.out]; omega)
          generalize hx : t.getD j 0 = x at *
          generalize hy : s.getD j 0 = y at *
          have hadd := add_wd x y
          have HXY := hide (And.intro hx hy)
          clear hx hy
          go_wp2_with fail
          rw [hadd]
          clear hadd gg hix
          obtain ⟨z, hz⟩ : ∃ z, z = x + y := ⟨_, rfl⟩
          rw [← hz]
          have hzl : z.toNat < 4294967296 := UInt32.toNat_lt z
          have HZ := hide hz
          clear hz
          have HOW := hide (hinv.out.1.keep ((Kept.refl [] wr).alloc (.cells #[.int .u8 ((z.toNat : Int) % 256), .int .u8 ((z.toNat : Int) / 256 % 256), .int .u8 ((z.toNat : Int) / 65536 % 256), .int .u8 ((z.toNat : Int) / 16777216)] 5)) (by simp))
          have HSR := hide (src_le4 wr z)
          obtain ⟨i5, h51, h52, h53, h54⟩ := info5
          have H5 := hide (And.intro h51 (And.intro h52 (And.intro h53 h54)))
          clear h51 h52 h53 h54
          go_wp2_with (first
            | (refine wpList_append_src rfl (.tmp 32) (.tmp 44) rfl Try.underlying23 H5.out.1 H5.out.2.1 H5.out.2.2.1 H5.out.2.2.2 HOW.out HSR.out (n := 4 * j) (m := 4) (sums_length _ _ _) rfl rfl rfl (by rw [sums_length]; simp [le4]; omega) ?_
               intro A' cp' w' ho' hk' hb'
               have HO' := hide (And.intro ho' (And.intro hk' hb'))
               clear ho' hk' hb')
            | fail)
          obtain ⟨ho', hk', hb'⟩ := HO'.out
          obtain ⟨hown, hge, hrow, hkw⟩ := hinv.out
          have hz0 := hkw.size
          have hlt0 := at_lt hrow
          have hn0 : w1.heap.size ∉ blk A := fun h => by have := hge _ h; omega
          refine ⟨⟨j + 1, A', cp', by omega, by simp, by rw [Nat.mul_add], ?_, ?_, ?_, ?_⟩, ?_⟩
          · have e := sums_succ t s j
            rw [HXY.out.1, HXY.out.2, ← HZ.out] at e
            rw [e]; exact ho'
          · intro g hg
            rcases hb' g hg with h | h
            · exact hge g h
            · have := hk'.size
              simp at h
              omega
          · rw [hk'.block w1.heap.size (by simp; omega) hn0]
            exact (heap_alloc_old wr _ hlt0).trans hrow
          · exact ((hkw.alloc _).trans hk' (H := []) (by simp) (fun g hg => .inr (by have := hge g hg; omega)))
          · simp only [intOf]; omega
        · obtain rfl : j = 16 := by omega
          go_wp2_with fail
          obtain ⟨hown, hge, hrow, hkw⟩ := hinv.out
          go_ret
          refine ⟨A, cp, rfl, ?_, hkw, fun g hg => by have := hge g hg; omega⟩
          rw [HBO.out, ← HT.out]; exact hown
end Go.Proofs.Ytcnabgbfnaabjaa
