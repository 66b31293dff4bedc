/- The link's Sent, Transcript at a bad side, Receive, Spoil. -/
import Derived.Test.YtbajpofmaffpgaaLinkA
namespace Go.Proofs.Ytbajpofmaffpgaa
open Go.RowKit
set_option linter.unusedSimpArgs false
set_option linter.unusedVariables false

theorem transcript_no {w : World} {b : Nat} (k : Int) (hk0 : (k == 0) = false) (hk1 : (k == 1) = false) :
    Calls Try.prog 17 #[.pointer (some ⟨b, 0, none⟩), .int .i64 k] w fun e w' => e = .returned (.slice none 0 0) ∧ w = w' := by
  go_enter Try.func17, Try.ntmps17
  go_wp2_with (go_at_call 25; refine (side_no _ _ hk0 hk1).mono ?_; rintro e w' ⟨rfl, rfl⟩)
  go_ret
  exact ⟨rfl, rfl⟩

theorem sent_no {w : World} {b : Nat} (k : Int) (hk0 : (k == 0) = false) (hk1 : (k == 1) = false) :
    Calls Try.prog 18 #[.pointer (some ⟨b, 0, none⟩), .int .i64 k] w fun e w' => e = .returned (.int .i64 0) ∧ w = w' := by
  go_enter Try.func18, Try.ntmps18
  go_wp2_with (go_at_call 17; refine (transcript_no _ hk0 hk1).mono ?_; rintro e w' ⟨rfl, rfl⟩)
  go_ret
  exact ⟨rfl, rfl⟩

theorem sent_yes {w : World} {b : Nat} {F : List Nat} {st : LS} (h : LinkAt w b F st) (hok : st.Ok) (k : Int) (hk : k = 0 ∨ k = 1) :
    Calls Try.prog 18 #[.pointer (some ⟨b, 0, none⟩), .int .i64 k] w fun e w' => e = .returned (.int .i64 (st.sent k).length) ∧ Kept [] w w' := by
  go_enter Try.func18, Try.ntmps18
  go_wp2_with (go_at_call 17; refine (transcript_yes h hok _ hk).mono ?_; rintro e w1 ⟨g, rfl, ho, hk1, hg, hg1⟩)
  go_ret
  exact ⟨rfl, hk1⟩

/-! ### Receive -/
def LS.wait (st : LS) (k : Int) : List UInt8 := if k = 0 then st.q0 else if k = 1 then st.q1 else []
def LS.recv (st : LS) (k : Int) : LS := if k = 0 then { st with q0 := [] } else if k = 1 then { st with q1 := [] } else st
theorem recv_ok {st : LS} (hok : st.Ok) (k : Int) : (st.recv k).Ok := by
  unfold LS.recv
  split
  · exact ⟨hok.b0, hok.b1, hok.c0, hok.c1, hok.c2, by simp, hok.q1⟩
  · split
    · exact ⟨hok.b0, hok.b1, hok.c0, hok.c1, hok.c2, hok.q0, by simp⟩
    · exact hok
theorem wait_le {st : LS} (hok : st.Ok) (k : Int) : (st.wait k).length ≤ 1073741824 := by
  have h0 := hok.b0
  have h1 := hok.b1
  have h2 := hok.q0
  have h3 := hok.q1
  unfold LS.total at h0
  unfold LS.wait
  split
  · omega
  · split
    · omega
    · simp

theorem receive_no {w : World} {b : Nat} (k : Int) (hk0 : (k == 0) = false) (hk1 : (k == 1) = false) :
    Calls Try.prog 13 #[.pointer (some ⟨b, 0, none⟩), .int .i64 k] w fun e w' => e = .returned (.tuple #[.slice none 0 0, .int .i64 1]) ∧ w = w' := by
  go_enter Try.func13, Try.ntmps13
  go_wp2_with (go_at_call 25; refine (side_no _ _ hk0 hk1).mono ?_; rintro e w' ⟨rfl, rfl⟩)
  go_ret2
  exact ⟨rfl, rfl⟩

theorem receive_yes {w : World} {b : Nat} {F : List Nat} {st : LS} (h : LinkAt w b F st) (hok : st.Ok) (k : Int) (hk : k = 0 ∨ k = 1) :
    Calls Try.prog 13 #[.pointer (some ⟨b, 0, none⟩), .int .i64 k] w fun e w' => ∃ g F', e = .returned (.tuple #[.slice (some ⟨g, 0, none⟩) (st.wait k).length (st.wait k).length, .int .i64 0]) ∧
      Own w' (some ⟨g, 0, none⟩) (st.wait k).length (st.wait k) ∧ LinkAt w' b F' (st.recv k) ∧ Kept F w w' ∧ w.heap.size ≤ g ∧ g < w'.heap.size ∧ (∀ x ∈ F', x ∈ F) := by
  have hle := wait_le hok k
  have hlt := h.lt
  obtain ⟨A0, c0, A1, c1, A2, c2, A3, c3, hb, h0, h1, h2, h3, hF, hn⟩ := h
  have hbF : b ∈ F := by rw [hF]; simp
  have hbl := hlt b hbF
  have e1 : w.cell? ⟨b, 1, none⟩ = some (.slice A1 st.q0.length c1) := cells_of hb 1
  have e3 : w.cell? ⟨b, 3, none⟩ = some (.slice A3 st.q1.length c3) := cells_of hb 3
  rcases hk with rfl | rfl
  · have hs := h1.src
    simp only [LS.wait, LS.recv, if_pos] at *
    have H : Hid (w.heap[b]? = some (.cells #[.slice A0 st.s0.length c0, .slice A1 st.q0.length c1, .slice A2 st.s1.length c2, .slice A3 st.q1.length c3,
      .int .i64 st.budget, .int .i64 st.cut, .int .i64 (st.total : Int), .bool st.down] 59 (0, 0))) := hb
    have HF := hide hF
    clear hF hb hok
    go_enter Try.func13, Try.ntmps13
    go_wp2_with (first
      | (go_at_call 25; refine (side_yes _ _ (by omega)).mono ?_; rintro e w' ⟨rfl, rfl⟩)
      | (go_at_call 26; refine (copied_calls _ _ _ _ _ hs (by omega)).mono ?_; rintro e w1 ⟨rfl, ho1, hk1, hz1⟩; have g1 : w1.cell? ⟨b, 1, none⟩ = some (.slice A1 st.q0.length c1) := (hk1.cell hbl (by simp)).trans e1; have f1 : w1.frozen? ⟨b, 1, none⟩ = false := (hk1.frozen (p := ⟨b, 1, none⟩) hbl (by simp)).trans (free_of H.out 1)))
    go_ret2
    have hb1 : w1.heap[b]? = _ := (hk1.block b hbl (by simp)).trans H.out
    have HF := HF.out
    have hkk : Kept [b] w1 (w1.setCell ⟨b, 1, none⟩ (.slice none 0 0)) := (Kept.refl _ _).setCell _ _ (by simp)
    have hkw : Kept [b] w (w1.setCell ⟨b, 1, none⟩ (.slice none 0 0)) := hk1.trans hkk (by simp) (by simp)
    have nb : ∀ x ∈ blk A0 ++ blk A1 ++ blk A2 ++ blk A3, x ∉ [b] := by
      intro x hx hxb
      rw [HF] at hn
      simp only [List.mem_singleton] at hxb
      subst hxb
      exact (List.nodup_cons.1 hn).1 hx
    refine ⟨_, b :: (blk A0 ++ blk none ++ blk A2 ++ blk A3), rfl, ho1.keep hkk (by simp [blk]; omega), ?_, hkw.mono (by simp [hbF]), Nat.le_refl _, by simpa [World.setCell] using hz1, ?_⟩
    · refine ⟨A0, c0, none, 0, A2, c2, A3, c3, ?_, h0.keep hkw (fun x hx => nb x (by simp [hx])), Own.nil _, h2.keep hkw (fun x hx => nb x (by simp [hx])), h3.keep hkw (fun x hx => nb x (by simp [hx])), rfl, ?_⟩
      · exact heap_setCell_same w1 b 1 _ 59 _ hb1
      · rw [HF] at hn
        refine hn.sublist ?_
        refine List.Sublist.cons_cons b (List.Sublist.append (List.Sublist.append (List.Sublist.append (List.Sublist.refl _) (by simp [blk])) (List.Sublist.refl _)) (List.Sublist.refl _))
    · rw [HF]
      intro x hx
      simp only [blk, Option.map_none, Option.toList_none, List.append_nil, List.mem_cons, List.mem_append] at hx ⊢
      rcases hx with hx | (hx | hx) | hx <;> simp [hx]
  · have hs := h3.src
    simp only [LS.wait, LS.recv, if_pos, if_neg (show ¬ (1 : Int) = 0 by omega)] at *
    have H : Hid (w.heap[b]? = some (.cells #[.slice A0 st.s0.length c0, .slice A1 st.q0.length c1, .slice A2 st.s1.length c2, .slice A3 st.q1.length c3,
      .int .i64 st.budget, .int .i64 st.cut, .int .i64 (st.total : Int), .bool st.down] 59 (0, 0))) := hb
    have HF := hide hF
    clear hF hb hok
    go_enter Try.func13, Try.ntmps13
    go_wp2_with (first
      | (go_at_call 25; refine (side_yes _ _ (by omega)).mono ?_; rintro e w' ⟨rfl, rfl⟩)
      | (go_at_call 26; refine (copied_calls _ _ _ _ _ hs (by omega)).mono ?_; rintro e w1 ⟨rfl, ho1, hk1, hz1⟩; have g1 : w1.cell? ⟨b, 3, none⟩ = some (.slice A3 st.q1.length c3) := (hk1.cell hbl (by simp)).trans e3; have f1 : w1.frozen? ⟨b, 3, none⟩ = false := (hk1.frozen (p := ⟨b, 3, none⟩) hbl (by simp)).trans (free_of H.out 3)))
    go_ret2
    have hb1 : w1.heap[b]? = _ := (hk1.block b hbl (by simp)).trans H.out
    have HF := HF.out
    have hkk : Kept [b] w1 (w1.setCell ⟨b, 3, none⟩ (.slice none 0 0)) := (Kept.refl _ _).setCell _ _ (by simp)
    have hkw : Kept [b] w (w1.setCell ⟨b, 3, none⟩ (.slice none 0 0)) := hk1.trans hkk (by simp) (by simp)
    have nb : ∀ x ∈ blk A0 ++ blk A1 ++ blk A2 ++ blk A3, x ∉ [b] := by
      intro x hx hxb
      rw [HF] at hn
      simp only [List.mem_singleton] at hxb
      subst hxb
      exact (List.nodup_cons.1 hn).1 hx
    refine ⟨_, b :: (blk A0 ++ blk A1 ++ blk A2 ++ blk none), rfl, ho1.keep hkk (by simp [blk]; omega), ?_, hkw.mono (by simp [hbF]), Nat.le_refl _, by simpa [World.setCell] using hz1, ?_⟩
    · refine ⟨A0, c0, A1, c1, A2, c2, none, 0, ?_, h0.keep hkw (fun x hx => nb x (by simp [hx])), h1.keep hkw (fun x hx => nb x (by simp [hx])), h2.keep hkw (fun x hx => nb x (by simp [hx])), Own.nil _, rfl, ?_⟩
      · exact heap_setCell_same w1 b 3 _ 59 _ hb1
      · rw [HF] at hn
        refine hn.sublist ?_
        refine List.Sublist.cons_cons b (List.Sublist.append (List.Sublist.refl _) (by simp [blk]))
    · rw [HF]
      intro x hx
      simp only [blk, Option.map_none, Option.toList_none, List.append_nil, List.mem_cons, List.mem_append] at hx ⊢
      rcases hx with hx | (hx | hx) | hx <;> simp [hx]
end Go.Proofs.Ytbajpofmaffpgaa
