/- The link's Spoil. -/
import Derived.Test.YtbajpofmaffpgaaLinkB
namespace Go.Proofs.Ytbajpofmaffpgaa
open Go.RowKit
set_option linter.unusedSimpArgs false
set_option linter.unusedVariables false

theorem spoil_bad {w : World} {b : Nat} (k n m : Int) (hk0 : (k == 0) = false) (hk1 : (k == 1) = false) :
    Calls Try.prog 19 #[.pointer (some ⟨b, 0, none⟩), .int .i64 k, .int .i64 n, .int .u8 m] w fun e w' => e = .returned (.int .i64 1) ∧ w = w' := by
  go_enter Try.func19, Try.ntmps19
  go_wp2_with (go_at_call 25; refine (side_no _ _ hk0 hk1).mono ?_; rintro e w' ⟨rfl, rfl⟩)
  go_ret
  exact ⟨rfl, rfl⟩

theorem spoil_neg {w : World} {b : Nat} (k n m : Int) (hk : k = 0 ∨ k = 1) (hn : n < 0) :
    Calls Try.prog 19 #[.pointer (some ⟨b, 0, none⟩), .int .i64 k, .int .i64 n, .int .u8 m] w fun e w' => e = .returned (.int .i64 1) ∧ w = w' := by
  have HK := hide hk
  clear hk
  go_enter Try.func19, Try.ntmps19
  go_wp2_with (go_at_call 25; refine (side_yes _ _ HK.out).mono ?_; rintro e w' ⟨rfl, rfl⟩)
  go_ret
  exact ⟨rfl, rfl⟩

theorem spoil_over {w : World} {b : Nat} {F : List Nat} {st : LS} (h : LinkAt w b F st) (hok : st.Ok) (k n m : Int) (hk : k = 0 ∨ k = 1) (hn : ¬ n < 0) (ho : ((st.wait k).length : Int) ≤ n) :
    Calls Try.prog 19 #[.pointer (some ⟨b, 0, none⟩), .int .i64 k, .int .i64 n, .int .u8 m] w fun e w' => e = .returned (.int .i64 4) ∧ w = w' := by
  obtain ⟨A0, c0, A1, c1, A2, c2, A3, c3, hb, h0, h1, h2, h3, hF, hn⟩ := h
  have e1 : w.cell? ⟨b, 1, none⟩ = some (.slice A1 st.q0.length c1) := cells_of hb 1
  have e3 : w.cell? ⟨b, 3, none⟩ = some (.slice A3 st.q1.length c3) := cells_of hb 3
  clear hb h0 h1 h2 h3 hF hn hok
  rcases hk with rfl | rfl
  · simp only [LS.wait, if_pos] at *
    go_enter Try.func19, Try.ntmps19
    go_wp2_with (go_at_call 25; refine (side_yes _ _ (by omega)).mono ?_; rintro e w' ⟨rfl, rfl⟩)
    go_ret
    exact ⟨rfl, rfl⟩
  · simp only [LS.wait, if_pos, if_neg (show ¬ (1 : Int) = 0 by omega)] at *
    go_enter Try.func19, Try.ntmps19
    go_wp2_with (go_at_call 25; refine (side_yes _ _ (by omega)).mono ?_; rintro e w' ⟨rfl, rfl⟩)
    go_ret
    exact ⟨rfl, rfl⟩

def LS.spoil (st : LS) (k : Int) (n : Nat) (m : UInt8) : LS :=
  if k = 0 then { st with q0 := st.q0.set n (st.q0.getD n 0 ^^^ m) } else if k = 1 then { st with q1 := st.q1.set n (st.q1.getD n 0 ^^^ m) } else st
theorem spoil_ok {st : LS} (hok : st.Ok) (k : Int) (n : Nat) (m : UInt8) : (st.spoil k n m).Ok := by
  unfold LS.spoil
  split
  · exact ⟨hok.b0, hok.b1, hok.c0, hok.c1, hok.c2, by simpa using hok.q0, hok.q1⟩
  · split
    · exact ⟨hok.b0, hok.b1, hok.c0, hok.c1, hok.c2, hok.q0, by simpa using hok.q1⟩
    · exact hok

theorem Own.stored {w : World} {g c : Nat} {xs : List UInt8} (h : Own w (some ⟨g, 0, none⟩) c xs) (n : Nat) (y : UInt8) : Own (w.setCell ⟨g, n, none⟩ (.int .u8 (y.toNat : Int))) (some ⟨g, 0, none⟩) c (xs.set n y) := by
  have hh := (World.ownsRow.stored h n (.int .u8 (y.toNat : Int))).1
  unfold Own
  rw [List.length_set]
  have e : bs (xs.set n y) = (bs xs).set n (.int .u8 (y.toNat : Int)) := by simp [bs, List.map_set]
  rw [e]
  exact hh

theorem xor_u8 (x m : UInt8) : bits .xor .u8 (x.toNat : Int) (m.toNat : Int) = ((x ^^^ m).toNat : Int) := by
  rw [u8_xor_nat _ _ (UInt8.toNat_lt x) (UInt8.toNat_lt m), UInt8.toNat_xor]

theorem spoil_yes {w : World} {b : Nat} {F : List Nat} {st : LS} (h : LinkAt w b F st) (hok : st.Ok) (k : Int) (n : Nat) (m : UInt8) (hk : k = 0 ∨ k = 1) (hn : n < (st.wait k).length) :
    Calls Try.prog 19 #[.pointer (some ⟨b, 0, none⟩), .int .i64 k, .int .i64 n, .int .u8 m.toNat] w fun e w' => e = .returned (.int .i64 0) ∧ LinkAt w' b F (st.spoil k n m) ∧ Kept F w w' := by
  have hle := wait_le hok k
  have hlt := h.lt
  obtain ⟨A0, c0, A1, c1, A2, c2, A3, c3, hb, h0, h1, h2, h3, hF, hnd⟩ := h
  have hbF : b ∈ F := by rw [hF]; simp
  have hbl := hlt b hbF
  have e1 : w.cell? ⟨b, 1, none⟩ = some (.slice A1 st.q0.length c1) := cells_of hb 1
  have e3 : w.cell? ⟨b, 3, none⟩ = some (.slice A3 st.q1.length c3) := cells_of hb 3
  have hn0 : (0 : Int) ≤ (n : Int) := by omega
  rcases hk with rfl | rfl
  · simp only [LS.wait, LS.spoil, if_pos] at *
    have hlt : (n : Int) < (st.q0.length : Int) := by omega
    obtain ⟨g, rfl, hc, hf⟩ := h1.cellAt n hn
    have H := hide hb
    have HF := hide hF
    clear hF hb hok
    go_enter Try.func19, Try.ntmps19
    go_wp2_with (go_at_call 25; refine (side_yes _ _ (by omega)).mono ?_; rintro e w' ⟨rfl, rfl⟩)
    go_ret
    have HF := HF.out
    have hgF : g ∈ F := by rw [HF]; simp [blk]
    have hkw : Kept [g] w (w.setCell ⟨g, n, none⟩ (.int .u8 ((st.q0.getD n 0 ^^^ m).toNat : Int))) := (Kept.refl _ _).setCell _ _ (by simp)
    rw [xor_u8, show st.q0[n] = st.q0.getD n 0 from by rw [List.getD_eq_getElem?_getD, List.getElem?_eq_getElem hn]; rfl]
    rw [HF] at hnd
    have hbg : b ≠ g := by rintro rfl; exact (List.nodup_cons.1 hnd).1 (by simp [blk])
    refine ⟨rfl, ⟨A0, c0, some ⟨g, 0, none⟩, c1, A2, c2, A3, c3, ?_, h0.keep hkw ?_, h1.stored n _, h2.keep hkw ?_, h3.keep hkw ?_, HF, by rw [HF]; exact hnd⟩, hkw.mono (by simp [hgF])⟩
    · simp only [List.length_set, LS.total]
      rw [hkw.block b hbl (by simpa using hbg)]
      exact H.out
    · intro x hx hxg
      simp only [List.mem_singleton] at hxg
      subst hxg
      have := (List.nodup_cons.1 hnd).2
      simp only [blk, Option.map_some, Option.toList_some, List.append_assoc, List.nodup_append, List.mem_append, List.mem_cons] at this hx
      grind
    · intro x hx hxg
      simp only [List.mem_singleton] at hxg
      subst hxg
      have := (List.nodup_cons.1 hnd).2
      simp only [blk, Option.map_some, Option.toList_some, List.append_assoc, List.nodup_append, List.mem_append, List.mem_cons] at this hx
      grind
    · intro x hx hxg
      simp only [List.mem_singleton] at hxg
      subst hxg
      have := (List.nodup_cons.1 hnd).2
      simp only [blk, Option.map_some, Option.toList_some, List.append_assoc, List.nodup_append, List.mem_append, List.mem_cons] at this hx
      grind
  · simp only [LS.wait, LS.spoil, if_pos, if_neg (show ¬ (1 : Int) = 0 by omega)] at *
    have hlt : (n : Int) < (st.q1.length : Int) := by omega
    obtain ⟨g, rfl, hc, hf⟩ := h3.cellAt n hn
    have H := hide hb
    have HF := hide hF
    clear hF hb hok
    go_enter Try.func19, Try.ntmps19
    go_wp2_with (go_at_call 25; refine (side_yes _ _ (by omega)).mono ?_; rintro e w' ⟨rfl, rfl⟩)
    go_ret
    have HF := HF.out
    have hgF : g ∈ F := by rw [HF]; simp [blk]
    have hkw : Kept [g] w (w.setCell ⟨g, n, none⟩ (.int .u8 ((st.q1.getD n 0 ^^^ m).toNat : Int))) := (Kept.refl _ _).setCell _ _ (by simp)
    rw [xor_u8, show st.q1[n] = st.q1.getD n 0 from by rw [List.getD_eq_getElem?_getD, List.getElem?_eq_getElem hn]; rfl]
    rw [HF] at hnd
    have hbg : b ≠ g := by rintro rfl; exact (List.nodup_cons.1 hnd).1 (by simp [blk])
    refine ⟨rfl, ⟨A0, c0, A1, c1, A2, c2, some ⟨g, 0, none⟩, c3, ?_, h0.keep hkw ?_, h1.keep hkw ?_, h2.keep hkw ?_, h3.stored n _, HF, by rw [HF]; exact hnd⟩, hkw.mono (by simp [hgF])⟩
    · simp only [List.length_set, LS.total]
      rw [hkw.block b hbl (by simpa using hbg)]
      exact H.out
    · intro x hx hxg
      simp only [List.mem_singleton] at hxg
      subst hxg
      have := (List.nodup_cons.1 hnd).2
      simp only [blk, Option.map_some, Option.toList_some, List.append_assoc, List.nodup_append, List.mem_append, List.mem_cons] at this hx
      grind
    · intro x hx hxg
      simp only [List.mem_singleton] at hxg
      subst hxg
      have := (List.nodup_cons.1 hnd).2
      simp only [blk, Option.map_some, Option.toList_some, List.append_assoc, List.nodup_append, List.mem_append, List.mem_cons] at this hx
      grind
    · intro x hx hxg
      simp only [List.mem_singleton] at hxg
      subst hxg
      have := (List.nodup_cons.1 hnd).2
      simp only [blk, Option.map_some, Option.toList_some, List.append_assoc, List.nodup_append, List.mem_append, List.mem_cons] at this hx
      grind
end Go.Proofs.Ytbajpofmaffpgaa
