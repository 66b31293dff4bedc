/- The key stream: what Stream computes. -/
import Derived.Test.YtcnabgbfnaabjaaAwk
namespace Go.Proofs.Ytcnabgbfnaabjaa
open Go.RowKit
set_option linter.unusedSimpArgs false
set_option linter.unusedVariables false

/-- n values from s on. -/
def seg (f : Nat → UInt8) (s n : Nat) : List UInt8 := (List.range n).map fun i => f (s + i)
theorem seg_length (f : Nat → UInt8) (s n : Nat) : (seg f s n).length = n := by simp [seg]
theorem seg_add (f : Nat → UInt8) (s a b : Nat) : seg f s (a + b) = seg f s a ++ seg f (s + a) b := by
  simp [seg, List.range_add, Nat.add_assoc, Function.comp_def]
theorem seg_part (f : Nat → UInt8) (s L r n : Nat) (h : r + n ≤ L) : ((seg f s L).drop r).take n = seg f (s + r) n := by
  have e : L = r + (n + (L - r - n)) := by omega
  rw [e, seg_add, seg_add, List.drop_append_of_le_length (by rw [seg_length]; exact Nat.le_refl _), List.drop_of_length_le (by rw [seg_length]; exact Nat.le_refl _), List.nil_append,
    List.take_append_of_le_length (by rw [seg_length]; exact Nat.le_refl _), List.take_of_length_le (by rw [seg_length]; exact Nat.le_refl _)]

/-- The key stream's byte at p. -/
def sb (k n : ByteArray) (p : Nat) : UInt8 := (blockOf k n (UInt32.ofNat (p / 64))).getD (p % 64) 0
theorem seg_block (k n : ByteArray) (t : Nat) : seg (sb k n) (64 * t) 64 = blockOf k n (UInt32.ofNat t) := by
  apply List.ext_getElem?
  intro i
  by_cases hi : i < 64
  · have e1 : (64 * t + i) / 64 = t := by omega
    have e2 : (64 * t + i) % 64 = i := by omega
    simp only [seg, List.getElem?_map, List.getElem?_range hi, Option.map_some, sb, e1, e2]
    rw [List.getD_eq_getElem?_getD, List.getElem?_eq_getElem (by rw [blockOf_length]; exact hi)]
    rfl
  · rw [List.getElem?_eq_none (by rw [seg_length]; omega), List.getElem?_eq_none (by rw [blockOf_length]; omega)]

theorem Src.drop {w : World} {D : Nat → Prop} {g : Nat} {xs : List UInt8} (h : Src w D (some ⟨g, 0, none⟩) xs) (r : Nat) : Src w D (some ⟨g, r, none⟩) (xs.drop r) :=
  ⟨fun hn => by
    obtain ⟨ad, e, hd, hc⟩ := h.at_ (by simp at hn; omega)
    injection e with e
    subst e
    refine ⟨_, rfl, hd, fun j u hu => ?_⟩
    have e1 : (⟨g, r, none⟩ : Addr).add j = (⟨g, 0, none⟩ : Addr).add (r + j) := by unfold Addr.add; split <;> simp_all
    rw [e1]
    refine hc _ _ ?_
    rw [bs_getElem?] at hu ⊢
    rwa [List.getElem?_drop] at hu⟩

set_option maxHeartbeats 1000000 in
theorem stream_yes (k n : ByteArray) (hk : k.size = 32) (hn : n.size = 12) (o m : Nat) (hm : m ≤ 1048576) (ho : o + m ≤ 274877906944) (w : World) :
    Calls Try.prog 12 #[.string k, .string n, .int .i64 o, .int .i64 m] w fun e w' => ∃ A c, e = .returned (.tuple #[.slice A m c, .int .i64 0]) ∧ Src w' (w.heap.size ≤ ·) A (seg (sb k n) o m) ∧ Kept [] w w' := by
  have hs := sized_calls k n w
  rw [show (decide (k.size = 32) && decide (n.size = 12)) = true by simp [hk, hn]] at hs
  have HB := hide (fun c => block_calls k n c hk hn)
  clear hk hn
  have hm1 : (m : Int) ≤ 1048576 := by omega
  have ho1 : (o : Int) ≤ 274877906944 - (m : Int) := by omega
  have hq0 : (o : Int).tdiv 64 = ((o / 64 : Nat) : Int) := by simp
  have hr0 : (o : Int).tmod 64 = ((o % 64 : Nat) : Int) := rfl
  obtain ⟨q, hq⟩ : ∃ q, q = o / 64 := ⟨_, rfl⟩
  obtain ⟨r, hr⟩ : ∃ r, r = o % 64 := ⟨_, rfl⟩
  rw [← hq] at hq0
  rw [← hr] at hr0
  have hqo : 64 * q + r = o := by omega
  have hr64 : r < 64 := by omega
  clear hq hr
  go_enter Try.func12, Try.ntmps12
  go_wp2_with (first
    | (go_at_call 21; refine hs.mono ?_; rintro e w1 ⟨rfl, rfl⟩)
    | fail)
  have HN := hide (Own.nil w)
  have HK := hide (Kept.refl [] w)
  clear hs hm1 ho1 hq0
  go_loopw [11, 10] (fun i v wr => ∃ (j : Nat) (A : Option Addr) (c : Nat), 64 * j ≤ r + m + 63 ∧ i = .int .i64 ((q + j : Nat) : Int) ∧ v = .slice A (64 * j) c ∧ Hid (Own wr A c (seg (sb k n) (64 * q) (64 * j)) ∧ (∀ g ∈ blk A, w.heap.size ≤ g) ∧ Kept [] w wr)) (fun i _ _ => r + m + 64 - 64 * ((intOf i).toNat - q))
  case atStart => exact ⟨0, none, 0, by omega, rfl, rfl, HN.out, by simp [blk], HK.out⟩
  case round =>
    clear HN HK
    obtain ⟨j, A, c, hj, rfl, rfl, hinv⟩ := hrel
    have hrm : IntKind.i64.wrap ((r : Int) + (m : Int)) = (r : Int) + (m : Int) := by rw [IntKind.wrap_i64]; omega
    by_cases hlt : 64 * j < r + m
    · have hli : ((64 * j : Nat) : Int) < (r : Int) + (m : Int) := by omega
      obtain ⟨t, ht⟩ : ∃ t, t = q + j := ⟨_, rfl⟩
      rw [← ht]
      have htm : (t : Int) % 4294967296 = ((UInt32.ofNat t).toNat : Int) := by
        have e : (UInt32.ofNat t).toNat = t % 4294967296 := by simp
        rw [e]; omega
      have htb : t ≤ 4294967296 := by omega
      have HT := hide ht
      clear ht
      have hu : ∃ u, u = UInt32.ofNat t := ⟨_, rfl⟩
      obtain ⟨u, hu⟩ := hu
      rw [← hu] at htm
      have HU := hide hu
      clear hu
      have hb := HB.out u wr
      obtain ⟨i5, h51, h52, h53, h54⟩ := info5
      have H5 := hide (And.intro h51 (And.intro h52 (And.intro h53 h54)))
      clear h51 h52 h53 h54
      go_wp2_with (first
        | (go_at_call 22; refine hb.mono ?_; rintro e w1 ⟨A1, c1, rfl, ho1, hk1, hg1⟩; have HO1 := hide (And.intro ho1 (And.intro hk1 hg1)); clear ho1 hk1 hg1)
        | (refine wpList_append_src rfl (.tmp 43) (.tmp 48) rfl Try.underlying23 H5.out.1 H5.out.2.1 H5.out.2.2.1 H5.out.2.2.2 (hinv.out.1.keep HO1.out.2.1 (by simp)) HO1.out.1.src (n := 64 * j) (m := 64) (seg_length _ _ _) (blockOf_length _ _ _) rfl rfl (by rw [seg_length, blockOf_length]; omega) ?_
           intro A' cp' w' ho' hk' hb'
           have HO' := hide (And.intro ho' (And.intro hk' hb'))
           clear ho' hk' hb')
        | fail)
      obtain ⟨ho', hk', hb'⟩ := HO'.out
      obtain ⟨hown, hge, hkw⟩ := hinv.out
      have ht : t = q + j := HT.out
      have hz0 := hkw.size
      have hz1 := HO1.out.2.1.size
      rw [HU.out, ← seg_block, show 64 * t = 64 * q + 64 * j by omega, ← seg_add] at ho'
      refine ⟨⟨j + 1, A', cp', by omega, by rw [ht]; simp; omega, by rw [Nat.mul_add], ?_, ?_, ?_⟩, ?_⟩
      · rw [show 64 * (j + 1) = 64 * j + 64 by omega]; exact ho'
      · intro g hg
        rcases hb' g hg with h | h
        · exact hge g h
        · omega
      · exact (hkw.trans HO1.out.2.1 (H := []) (by simp) (by simp)).trans hk' (by simp) (fun g hg => .inr (hge g hg))
      · rw [ht]; simp only [intOf]; omega
    · obtain ⟨hown, hge, hkw⟩ := hinv.out
      have hli : ¬ ((64 * j : Nat) : Int) < (r : Int) + (m : Int) := by omega
      by_cases hm0 : m = 0
      · subst hm0
        go_wp2_with fail
        go_ret2
        exact ⟨none, ⟨0, rfl⟩, Src.nil _ _ _, hkw⟩
      · have hcap := hown.cap_ge
        rw [seg_length] at hcap
        obtain ⟨g, rfl⟩ := hown.form (by rw [seg_length]; omega)
        have hm1 : ((m : Int) == 0) = false := by simp; omega
        have hr1 : (r : Int) ≤ ((64 * j : Nat) : Int) := by omega
        have hr2 : r ≤ 64 * j := by omega
        have hr3 : ¬ c - r = 0 := by omega
        have hm2 : m ≤ 64 * j - r := by omega
        have hm3 : m ≤ c - r := by omega
        have hm4 : (m : Int) ≤ ((c - r : Nat) : Int) := by omega
        go_wp2_with fail
        go_ret2
        refine ⟨some ⟨g, r, none⟩, ⟨m, rfl⟩, ?_, hkw⟩
        have hsr := ((hown.src.drop r).take m).mono hge
        rwa [seg_part _ _ _ _ _ (by omega), hqo] at hsr

theorem stream_one (k n : ByteArray) (o m : Int) (w : World) (h : ¬ (k.size = 32 ∧ n.size = 12) ∨ o < 0 ∨ m < 0) :
    Calls Try.prog 12 #[.string k, .string n, .int .i64 o, .int .i64 m] w fun e w' => e = .returned (.tuple #[.slice none 0 0, .int .i64 1]) ∧ w = w' := by
  have hs := sized_calls k n w
  by_cases h1 : k.size = 32 ∧ n.size = 12
  · rw [show (decide (k.size = 32) && decide (n.size = 12)) = true by simp [h1]] at hs
    have hom : o < 0 ∨ m < 0 := h.resolve_left (fun hh => hh h1)
    clear h1 h
    by_cases h2 : o < 0
    · go_enter Try.func12, Try.ntmps12
      go_wp2_with (first
        | (go_at_call 21; refine hs.mono ?_; rintro e w1 ⟨rfl, rfl⟩)
        | fail)
      go_ret2
      exact ⟨rfl, rfl⟩
    · have h3 : m < 0 := hom.resolve_left h2
      clear hom
      go_enter Try.func12, Try.ntmps12
      go_wp2_with (first
        | (go_at_call 21; refine hs.mono ?_; rintro e w1 ⟨rfl, rfl⟩)
        | fail)
      go_ret2
      exact ⟨rfl, rfl⟩
  · rw [show (decide (k.size = 32) && decide (n.size = 12)) = false by simpa using h1] at hs
    clear h1 h
    go_enter Try.func12, Try.ntmps12
    go_wp2_with (first
      | (go_at_call 21; refine hs.mono ?_; rintro e w1 ⟨rfl, rfl⟩)
      | fail)
    go_ret2
    exact ⟨rfl, rfl⟩

theorem stream_two (k n : ByteArray) (o m : Int) (w : World) (h1 : k.size = 32 ∧ n.size = 12) (h2 : 0 ≤ o) (h3 : 0 ≤ m) (hm : m ≤ 9223372036854775807) (h : 1048576 < m ∨ 274877906944 - m < o) :
    Calls Try.prog 12 #[.string k, .string n, .int .i64 o, .int .i64 m] w fun e w' => e = .returned (.tuple #[.slice none 0 0, .int .i64 2]) ∧ w = w' := by
  have hs := sized_calls k n w
  rw [show (decide (k.size = 32) && decide (n.size = 12)) = true by simp [h1]] at hs
  have h2' : ¬ o < 0 := by omega
  have h3' : ¬ m < 0 := by omega
  clear h1
  by_cases h4 : 1048576 < m
  · clear h
    go_enter Try.func12, Try.ntmps12
    go_wp2_with (first
      | (go_at_call 21; refine hs.mono ?_; rintro e w1 ⟨rfl, rfl⟩)
      | fail)
    go_ret2
    exact ⟨rfl, rfl⟩
  · have h5 : 274877906944 - m < o := by omega
    clear h
    go_enter Try.func12, Try.ntmps12
    go_wp2_with (first
      | (go_at_call 21; refine hs.mono ?_; rintro e w1 ⟨rfl, rfl⟩)
      | fail)
    go_ret2
    exact ⟨rfl, rfl⟩
end Go.Proofs.Ytcnabgbfnaabjaa
