/- The reference's Stream, and the law on streams. -/
import Derived.Test.YtcnabgbfnaabjaaAli
import Derived.Test.YtcnabgbfnaabjaaRef
namespace Go.Proofs.Ytcnabgbfnaabjaa
open Go.RowKit
set_option linter.unusedSimpArgs false
set_option linter.unusedVariables false

set_option maxHeartbeats 2000000 in
set_option maxRecDepth 100000 in
theorem refstream_yes (k n : ByteArray) (hk : k.size = 32) (hn : n.size = 12) (o m : Nat) (hm : m ≤ 1048576) (ho : o + m ≤ 274877906944) (w : World) :
    Calls Try.prog 20 #[.string k, .string n, .int .i64 o, .int .i64 m] w fun e w' => ∃ A c, e = .returned (.tuple #[.slice A m c, .int .i64 0]) ∧ Src w' (w.heap.size ≤ ·) A (seg (sb k n) o m) ∧ Kept [] w w' := by
  have HB := hide (fun c => refBlock_yes k n c hk hn)
  have hk' : ((k.size : Int) == 32) = true := by simp [hk]
  have hn' : ((n.size : Int) == 12) = true := by simp [hn]
  have hm1 : (m : Int) ≤ 1048576 := by omega
  have ho1 : (o : Int) ≤ 274877906944 - (m : Int) := by omega
  have HN := hide (own_empty w)
  have HK := hide ((Kept.refl [] w).alloc (.cells #[] 5))
  go_enter Try.func20, Try.ntmps20
  go_wp2_with fail
  clear hk' hn' hm1 ho1
  go_loopw [11, 10] (fun i v wr => ∃ (j : Nat) (A : Option Addr) (c : Nat), j ≤ m ∧ i = .int .i64 ((o + j : Nat) : Int) ∧ v = .slice A j c ∧ Hid (Own wr A c (seg (sb k n) o j) ∧ (∀ g ∈ blk A, w.heap.size ≤ g) ∧ Kept [] w wr)) (fun i _ _ => o + m - (intOf i).toNat)
  case atStart => exact ⟨0, _, _, by omega, rfl, rfl, HN.out, by simp [blk], HK.out⟩
  case round =>
    clear HN HK
    obtain ⟨j, A, c, hj, rfl, rfl, hinv⟩ := hrel
    by_cases hlt : j < m
    · obtain ⟨p, hp⟩ : ∃ p, p = o + j := ⟨_, rfl⟩
      rw [← hp]
      have hli : (p : Int) < (o : Int) + (m : Int) := by omega
      have hq0 : (p : Int).tdiv 64 = ((p / 64 : Nat) : Int) := by simp
      have hr0 : (p : Int).tmod 64 = ((p % 64 : Nat) : Int) := rfl
      obtain ⟨q, hq⟩ : ∃ q, q = p / 64 := ⟨_, rfl⟩
      obtain ⟨r, hr⟩ : ∃ r, r = p % 64 := ⟨_, rfl⟩
      rw [← hq] at hq0
      rw [← hr] at hr0
      have hqr : 64 * q + r = p := by omega
      have hr64 : r < 64 := by omega
      clear hq hr
      obtain ⟨u, hu⟩ : ∃ u, u = UInt32.ofNat q := ⟨_, rfl⟩
      have hqu : wd u = .int .u32 (q : Int) := by
        have e : u.toNat = q % 4294967296 := by rw [hu]; simp
        show Value.int .u32 (u.toNat : Int) = _
        rw [show (u.toNat : Int) = (q : Int) by omega]
      have HU := hide hu
      have HP := hide hp
      clear hu hp
      have hb := HB.out u wr
      rw [hqu] at hb
      clear hqu
      obtain ⟨i5, h51, h52, h53, h54⟩ := info5
      have H5 := hide (And.intro h51 (And.intro h52 (And.intro h53 h54)))
      clear h51 h52 h53 h54
      have hrl : (r : Int) ≤ 64 := by omega
      by_cases hcut : m - j < 64 - r
      · have hdd : (o : Int) + (m : Int) - (p : Int) = ((m - j : Nat) : Int) := by have := HP.out; omega
        have hgt : ((m - j : Nat) : Int) < ((64 - r : Nat) : Int) := by omega
        have HSG : Hid (((blockOf k n u).drop r).take (m - j) = seg (sb k n) p (m - j)) := by
          show ((blockOf k n u).drop r).take (m - j) = _
          rw [HU.out, ← seg_block, seg_part _ _ _ _ _ (by omega), hqr]
        have hcl : ((64 - r : Nat) : Int) = 64 - (r : Int) := by omega
        go_wp2_with (first
          | (go_at_call 17; with_reducible refine hb.mono ?_; rintro e w1 ⟨g1, c1, rfl, ho1, hk1, hg1, hc1⟩; have HO1 := hide (And.intro ho1 (And.intro hk1 hg1)); clear ho1 hk1 hg1; have hcr : ¬ c1 - r = 0 := by omega)
          | (refine wpList_append_src rfl (.tmp 74) (.tmp 75) rfl Try.underlying23 H5.out.1 H5.out.2.1 H5.out.2.2.1 H5.out.2.2.2 (hinv.out.1.keep HO1.out.2.1 (by simp)) ((HO1.out.1.src.drop r).take (m - j)) (n := j) (m := m - j) (seg_length _ _ _) (by rw [HSG.out, seg_length]) rfl rfl (by rw [HSG.out, seg_length, seg_length]; omega) ?_
             intro A' cp' w' ho' hk' hb'
             have HO' := hide (And.intro ho' (And.intro hk' hb'))
             clear ho' hk' hb')
          | fail)
        obtain ⟨ho', hk', hb'⟩ := HO'.out
        obtain ⟨hown, hge, hkw⟩ := hinv.out
        have hz0 := hkw.size
        have hz1 := HO1.out.2.1.size
        have hpp := HP.out
        rw [HSG.out, hpp, ← seg_add] at ho'
        refine ⟨⟨j + (m - j), A', cp', by omega, by simp; omega, by first | rfl | (congr 1; omega), ho', ?_, ?_⟩, ?_⟩
        · intro g hg
          rcases hb' g hg with h | h
          · exact hge g h
          · omega
        · exact (keptT hkw HO1.out.2.1).trans hk' (by simp) (fun g hg => .inr (hge g hg))
        · simp only [intOf]; omega
      · have hdd : (o : Int) + (m : Int) - (p : Int) = ((m - j : Nat) : Int) := by have := HP.out; omega
        have hgt : ¬ ((m - j : Nat) : Int) < ((64 - r : Nat) : Int) := by omega
        have HSG : Hid (((blockOf k n u).drop r).take (64 - r) = seg (sb k n) p (64 - r)) := by
          show ((blockOf k n u).drop r).take (64 - r) = _
          rw [HU.out, ← seg_block, seg_part _ _ _ _ _ (by omega), hqr]
        have hcl : ((64 - r : Nat) : Int) = 64 - (r : Int) := by omega
        go_wp2_with (first
          | (go_at_call 17; with_reducible refine hb.mono ?_; rintro e w1 ⟨g1, c1, rfl, ho1, hk1, hg1, hc1⟩; have HO1 := hide (And.intro ho1 (And.intro hk1 hg1)); clear ho1 hk1 hg1; have hcr : ¬ c1 - r = 0 := by omega)
          | (refine wpList_append_src rfl (.tmp 74) (.tmp 75) rfl Try.underlying23 H5.out.1 H5.out.2.1 H5.out.2.2.1 H5.out.2.2.2 (hinv.out.1.keep HO1.out.2.1 (by simp)) ((HO1.out.1.src.drop r).take (64 - r)) (n := j) (m := 64 - r) (seg_length _ _ _) (by rw [HSG.out, seg_length]) rfl rfl (by rw [HSG.out, seg_length, seg_length]; omega) ?_
             intro A' cp' w' ho' hk' hb'
             have HO' := hide (And.intro ho' (And.intro hk' hb'))
             clear ho' hk' hb')
          | fail)
        obtain ⟨ho', hk', hb'⟩ := HO'.out
        obtain ⟨hown, hge, hkw⟩ := hinv.out
        have hz0 := hkw.size
        have hz1 := HO1.out.2.1.size
        have hpp := HP.out
        rw [HSG.out, hpp, ← seg_add] at ho'
        refine ⟨⟨j + (64 - r), A', cp', by omega, by simp; omega, by first | rfl | (congr 1; omega), ho', ?_, ?_⟩, ?_⟩
        · intro g hg
          rcases hb' g hg with h | h
          · exact hge g h
          · omega
        · exact (keptT hkw HO1.out.2.1).trans hk' (by simp) (fun g hg => .inr (hge g hg))
        · simp only [intOf]; omega
    · obtain rfl : j = m := by omega
      go_wp2_with fail
      go_ret2
      exact ⟨A, c, rfl, hinv.out.1.src.mono hinv.out.2.1, hinv.out.2.2⟩

theorem refstream_one (k n : ByteArray) (o m : Int) (w : World) (h : ¬ (k.size = 32 ∧ n.size = 12) ∨ o < 0 ∨ m < 0) :
    Calls Try.prog 20 #[.string k, .string n, .int .i64 o, .int .i64 m] w fun e w' => e = .returned (.tuple #[.slice none 0 0, .int .i64 1]) ∧ w = w' := by
  by_cases h1 : k.size = 32
  · have h1' : ((k.size : Int) == 32) = true := by simp [h1]
    by_cases h2 : n.size = 12
    · have h2' : ((n.size : Int) == 12) = true := by simp [h2]
      have hom : o < 0 ∨ m < 0 := h.resolve_left (fun hh => hh ⟨h1, h2⟩)
      clear h
      by_cases h3 : o < 0
      · go_enter Try.func20, Try.ntmps20
        go_wp2
        go_ret2
        exact ⟨rfl, rfl⟩
      · have h4 : m < 0 := hom.resolve_left h3
        clear hom
        go_enter Try.func20, Try.ntmps20
        go_wp2
        go_ret2
        exact ⟨rfl, rfl⟩
    · have h2' : ((n.size : Int) == 12) = false := by simp; omega
      clear h
      go_enter Try.func20, Try.ntmps20
      go_wp2
      go_ret2
      exact ⟨rfl, rfl⟩
  · have h1' : ((k.size : Int) == 32) = false := by simp; omega
    clear h
    go_enter Try.func20, Try.ntmps20
    go_wp2
    go_ret2
    exact ⟨rfl, rfl⟩

theorem refstream_two (k n : ByteArray) (o m : Int) (w : World) (h1 : k.size = 32 ∧ n.size = 12) (h2 : 0 ≤ o) (h3 : 0 ≤ m) (hm : m ≤ 9223372036854775807) (h : 1048576 < m ∨ 274877906944 - m < o) :
    Calls Try.prog 20 #[.string k, .string n, .int .i64 o, .int .i64 m] w fun e w' => e = .returned (.tuple #[.slice none 0 0, .int .i64 2]) ∧ w = w' := by
  have hk' : ((k.size : Int) == 32) = true := by simp [h1.1]
  have hn' : ((n.size : Int) == 12) = true := by simp [h1.2]
  have h2' : ¬ o < 0 := by omega
  have h3' : ¬ m < 0 := by omega
  by_cases h4 : 1048576 < m
  · clear h
    go_enter Try.func20, Try.ntmps20
    go_wp2
    go_ret2
    exact ⟨rfl, rfl⟩
  · have h5 : 274877906944 - m < o := by omega
    clear h
    go_enter Try.func20, Try.ntmps20
    go_wp2
    go_ret2
    exact ⟨rfl, rfl⟩
end Go.Proofs.Ytcnabgbfnaabjaa
