/- The reference's calls and the link's, from whatever side. -/
import Derived.Test.YtbajpofmaffpgaaRe
import Derived.Test.YtbajpofmaffpgaaRf
import Derived.Test.YtbajpofmaffpgaaRg
namespace Go.Proofs.Ytbajpofmaffpgaa
open Go.RowKit
set_option linter.unusedSimpArgs false
set_option linter.unusedVariables false

theorem rsend_calls {w : World} {D : Nat → Prop} {v : Value} {st : LS} (h : RefV w D v st) (hok : st.Ok) {A : Option Addr} {xs : List UInt8} {c : Nat} {DX : Nat → Prop} (k : Int) (hsx : Src w DX A xs) (hX : xs.length ≤ 300) :
    Calls Try.prog 21 #[v, .int .i64 k, .slice A xs.length c] w fun e w' => ∃ v', e = .returned (.tuple #[v', .int .i64 ((st.nA k xs : Nat) : Int), .int .i64 (st.eA k xs)]) ∧ RefV w' (fun k => D k ∨ w.heap.size ≤ k) v' (st.sendA k xs) ∧ Kept [] w w' := by
  unfold LS.nA LS.eA LS.sendA
  cases hk : isSide k with
  | false =>
    obtain ⟨h0, h1⟩ := isSide_no hk
    simp only [Bool.false_eq_true, if_false]
    refine (rsend_no h k _ h0 h1).mono ?_
    rintro e w' ⟨rfl, hk'⟩
    exact ⟨v, rfl, (h.keep hk' (by simp)).mono (fun k hk => .inl hk), hk'⟩
  | true =>
    have hk2 := isSide_yes hk
    simp only [if_true]
    by_cases hd : st.down = true
    · have s1 : st.arr xs = [] := by simp [LS.arr, hd]
      have s2 : st.err xs = 15 := by simp [LS.err, hd]
      have s3 : st.send k xs = st := by
        unfold LS.send
        rw [s1, show st.goes xs = st.down from by simp [LS.goes, hd], put_nil]
      rw [s1, s2, s3]
      refine (rsend_down h k _ hk2 hd).mono ?_
      rintro e w' ⟨rfl, hk'⟩
      exact ⟨v, rfl, (h.keep hk' (by simp)).mono (fun k hk => .inl hk), hk'⟩
    · have hd' : st.down = false := by simpa using hd
      rcases hk2 with rfl | rfl
      · exact rsend_go_0 h hok hsx hd' hX
      · exact rsend_go_1 h hok hsx hd' hX

def rcvE (k : Int) : Int := if isSide k then 0 else 1
theorem wait_no (st : LS) {k : Int} (h : isSide k = false) : st.wait k = [] := by
  obtain ⟨h0, h1⟩ := isSide_no h
  rw [beq_eq_false_iff_ne] at h0 h1
  simp [LS.wait, h0, h1]
theorem recv_no (st : LS) {k : Int} (h : isSide k = false) : st.recv k = st := by
  obtain ⟨h0, h1⟩ := isSide_no h
  rw [beq_eq_false_iff_ne] at h0 h1
  simp [LS.recv, h0, h1]

theorem rreceive_calls {w : World} {D : Nat → Prop} {v : Value} {st : LS} (h : RefV w D v st) (k : Int) :
    Calls Try.prog 22 #[v, .int .i64 k] w fun e w' => ∃ v' A c, e = .returned (.tuple #[v', .slice A (st.wait k).length c, .int .i64 (rcvE k)]) ∧ Src w' D A (st.wait k) ∧ RefV w' D v' (st.recv k) ∧ Kept [] w w' := by
  unfold rcvE
  cases hk : isSide k with
  | false =>
    obtain ⟨h0, h1⟩ := isSide_no hk
    rw [wait_no st hk, recv_no st hk]
    simp only [Bool.false_eq_true, if_false]
    refine (rreceive_no h k h0 h1).mono ?_
    rintro e w' ⟨rfl, hk'⟩
    exact ⟨v, none, 0, rfl, Src.nil _ _ _, h.keep hk' (by simp), hk'⟩
  | true =>
    simp only [if_true]
    exact rreceive_yes h k (isSide_yes hk)

theorem receive_calls {w : World} {b : Nat} {F : List Nat} {st : LS} (h : LinkAt w b F st) (hok : st.Ok) (k : Int) :
    Calls Try.prog 13 #[.pointer (some ⟨b, 0, none⟩), .int .i64 k] w fun e w' => ∃ A c F', e = .returned (.tuple #[.slice A (st.wait k).length c, .int .i64 (rcvE k)]) ∧
      Src w' (fun _ => True) A (st.wait k) ∧ LinkAt w' b F' (st.recv k) ∧ Kept F w w' ∧ (∀ x ∈ F', x ∈ F) := by
  unfold rcvE
  cases hk : isSide k with
  | false =>
    obtain ⟨h0, h1⟩ := isSide_no hk
    rw [wait_no st hk, recv_no st hk]
    simp only [Bool.false_eq_true, if_false]
    refine (receive_no k h0 h1).mono ?_
    rintro e w' ⟨rfl, rfl⟩
    exact ⟨none, 0, F, rfl, Src.nil _ _ _, h, Kept.refl _ _, fun x hx => hx⟩
  | true =>
    simp only [if_true]
    refine (receive_yes h hok k (isSide_yes hk)).mono ?_
    rintro e w' ⟨g, F', rfl, ho, la, hk', _, _, hF⟩
    exact ⟨_, _, F', rfl, ho.src.mono (fun _ _ => trivial), la, hk', hF⟩

/-- What Spoil answers, and what it leaves. -/
def LS.spE (st : LS) (k n : Int) : Int := if isSide k then (if n < 0 then 1 else if ((st.wait k).length : Int) ≤ n then 4 else 0) else 1
def LS.spA (st : LS) (k n : Int) (m : UInt8) : LS := if isSide k then (if n < 0 then st else if ((st.wait k).length : Int) ≤ n then st else st.spoil k n.toNat m) else st

theorem spA_ok {st : LS} (hok : st.Ok) (k n : Int) (m : UInt8) : (st.spA k n m).Ok := by
  unfold LS.spA
  split
  · split
    · exact hok
    · split
      · exact hok
      · exact spoil_ok hok _ _ _
  · exact hok

theorem rspoil_calls {w : World} {D : Nat → Prop} {v : Value} {st : LS} (h : RefV w D v st) (hok : st.Ok) (k n : Int) (m : UInt8) :
    Calls Try.prog 23 #[v, .int .i64 k, .int .i64 n, .int .u8 m.toNat] w fun e w' => ∃ v', e = .returned (.tuple #[v', .int .i64 (st.spE k n)]) ∧ RefV w' (fun k => D k ∨ w.heap.size ≤ k) v' (st.spA k n m) ∧ Kept [] w w' := by
  have same : ∀ {e : Ending} {w' : World} {r : Int}, (e = .returned (.tuple #[v, .int .i64 r]) ∧ Kept [] w w') → ∃ v', e = .returned (.tuple #[v', .int .i64 r]) ∧ RefV w' (fun k => D k ∨ w.heap.size ≤ k) v' st ∧ Kept [] w w' := by
    rintro e w' r ⟨rfl, hk'⟩
    exact ⟨v, rfl, (h.keep hk' (by simp)).mono (fun k hk => .inl hk), hk'⟩
  unfold LS.spE LS.spA
  cases hk : isSide k with
  | false =>
    obtain ⟨h0, h1⟩ := isSide_no hk
    simp only [Bool.false_eq_true, if_false]
    exact (rspoil_bad h k n _ h0 h1).mono fun e w' hh => same hh
  | true =>
    simp only [if_true]
    have hk2 := isSide_yes hk
    by_cases hn : n < 0
    · rw [if_pos hn, if_pos hn]
      exact (rspoil_neg h k n _ hk2 hn).mono fun e w' hh => same hh
    · rw [if_neg hn, if_neg hn]
      by_cases ho : ((st.wait k).length : Int) ≤ n
      · rw [if_pos ho, if_pos ho]
        exact (rspoil_over h k n _ hk2 hn ho).mono fun e w' hh => same hh
      · rw [if_neg ho, if_neg ho]
        obtain ⟨j, rfl⟩ : ∃ j : Nat, n = (j : Int) := ⟨n.toNat, by omega⟩
        simp only [Int.toNat_natCast]
        exact rspoil_yes h hok k j m hk2 (by omega)

theorem spoil_calls {w : World} {b : Nat} {F : List Nat} {st : LS} (h : LinkAt w b F st) (hok : st.Ok) (k n : Int) (m : UInt8) :
    Calls Try.prog 19 #[.pointer (some ⟨b, 0, none⟩), .int .i64 k, .int .i64 n, .int .u8 m.toNat] w fun e w' => e = .returned (.int .i64 (st.spE k n)) ∧ LinkAt w' b F (st.spA k n m) ∧ Kept F w w' := by
  have same : ∀ {e : Ending} {w' : World} {r : Int}, (e = .returned (.int .i64 r) ∧ w = w') → e = .returned (.int .i64 r) ∧ LinkAt w' b F st ∧ Kept F w w' := by
    rintro e w' r ⟨rfl, rfl⟩
    exact ⟨rfl, h, Kept.refl _ _⟩
  unfold LS.spE LS.spA
  cases hk : isSide k with
  | false =>
    obtain ⟨h0, h1⟩ := isSide_no hk
    simp only [Bool.false_eq_true, if_false]
    exact (spoil_bad k n _ h0 h1).mono fun e w' hh => same hh
  | true =>
    simp only [if_true]
    have hk2 := isSide_yes hk
    by_cases hn : n < 0
    · rw [if_pos hn, if_pos hn]
      exact (spoil_neg k n _ hk2 hn).mono fun e w' hh => same hh
    · rw [if_neg hn, if_neg hn]
      by_cases ho : ((st.wait k).length : Int) ≤ n
      · rw [if_pos ho, if_pos ho]
        exact (spoil_over h hok k n _ hk2 hn ho).mono fun e w' hh => same hh
      · rw [if_neg ho, if_neg ho]
        obtain ⟨j, rfl⟩ : ∃ j : Nat, n = (j : Int) := ⟨n.toNat, by omega⟩
        simp only [Int.toNat_natCast]
        exact spoil_yes h hok k j m hk2 (by omega)

def rcs (st : LS) (A0 A1 A2 A3 : Option Addr) (c0 c1 c2 c3 : Nat) : Array Value :=
  #[.int .i64 st.budget, .int .i64 st.cut, .slice A0 st.s0.length c0, .slice A2 st.s1.length c2, .slice A1 st.q0.length c1, .slice A3 st.q1.length c3, .bool st.down]

/-- What LinkRuns keeps round for round: the link, and the reference's link in a variable of the law's own. -/
structure QInv (w0 wr : World) (b B : Nat) (F : List Nat) (st : LS) (A0 A1 A2 A3 : Option Addr) (c0 c1 c2 c3 : Nat) : Prop where
  at_ : LinkAt wr b F st
  ok : st.Ok
  ge : ∀ x ∈ F, w0.heap.size ≤ x
  kept : Kept [] w0 wr
  hB : JB B (rcs st A0 A1 A2 A3 c0 c1 c2 c3) wr
  ref : RefC wr (fun k => k < wr.heap.size ∧ k ∉ F ∧ k ≠ B) st A0 A1 A2 A3 c0 c1 c2 c3
  bF : B ∉ F
  bge : w0.heap.size ≤ B
  blt : B < wr.heap.size

theorem QInv.keep {w0 wr wx : World} {b B : Nat} {F : List Nat} {st : LS} {A0 A1 A2 A3 : Option Addr} {c0 c1 c2 c3 : Nat} (h : QInv w0 wr b B F st A0 A1 A2 A3 c0 c1 c2 c3) (hk : Kept [] wr wx) : QInv w0 wx b B F st A0 A1 A2 A3 c0 c1 c2 c3 :=
  ⟨h.at_.keep hk (by simp), h.ok, h.ge, h.kept.new hk (by simp), (hk.block B h.blt (by simp)).trans h.hB, (h.ref.keep hk (by simp)).mono (fun k hk' => ⟨Nat.lt_of_lt_of_le hk'.1 hk.size, hk'.2⟩), h.bF, h.bge, Nat.lt_of_lt_of_le h.blt hk.size⟩

/-- Both have gone on: the reference in new memory, the link in its own; then the variable holds the reference's new value. -/
theorem QInv.next {w0 wr w5 w6 w7 wE : World} {b B : Nat} {F : List Nat} {st : LS} {A0 A1 A2 A3 : Option Addr} {c0 c1 c2 c3 : Nat} (h : QInv w0 wr b B F st A0 A1 A2 A3 c0 c1 c2 c3) (k5 : Kept [] wr w5) {st' : LS} {B0 B1 B2 B3 : Option Addr} {d0 d1 d2 d3 : Nat}
    (rc : RefC w5 (fun k => (k < wr.heap.size ∧ k ∉ F ∧ k ≠ B) ∨ wr.heap.size ≤ k) st' B0 B1 B2 B3 d0 d1 d2 d3) (ok' : st'.Ok) (k6 : Kept [] w5 w6) {F' : List Nat} (la : LinkAt w7 b F' st') (k7 : Kept F w6 w7)
    (hF : ∀ x ∈ F', x ∈ F ∨ (w6.heap.size ≤ x ∧ x < w7.heap.size)) (kE : Kept [B] w7 wE) (hE : JB B (rcs st' B0 B1 B2 B3 d0 d1 d2 d3) wE) : QInv w0 wE b B F' st' B0 B1 B2 B3 d0 d1 d2 d3 := by
  have z5 := k5.size
  have z6 := k6.size
  have z7 := k7.size
  have zE := kE.size
  have z0 := h.kept.size
  have ltF := h.at_.lt
  have bF := h.bF
  have blt := h.blt
  have bF' : B ∉ F' := fun hb => by
    rcases hF B hb with h1 | h1
    · exact bF h1
    · omega
  have k56 : Kept [] wr w6 := k5.new k6 (by simp)
  refine ⟨la.keep kE (fun x hx hxb => by simp at hxb; subst hxb; exact bF' hx), ok', fun x hx => ?_, ((h.kept.new k56 (by simp)).new k7 h.ge).new kE (by simp; exact h.bge), hE, ?_, bF', h.bge, by omega⟩
  · rcases hF x hx with h1 | h1
    · exact h.ge x h1
    · omega
  · have r6 := rc.lt.keep k6 (by simp)
    have hd : ∀ k, (((k < wr.heap.size ∧ k ∉ F ∧ k ≠ B) ∨ wr.heap.size ≤ k) ∧ k < w5.heap.size) → k ∉ F ∧ k ≠ B ∧ k ∉ F' ∧ k < w5.heap.size := fun k hk => by
      have h1 : k ∉ F := by
        rcases hk.1 with h1 | h1
        · exact h1.2.1
        · intro hf; have := ltF k hf; omega
      have h2 : k ≠ B := by
        rcases hk.1 with h1 | h1
        · exact h1.2.2
        · omega
      refine ⟨h1, h2, fun hf => ?_, hk.2⟩
      rcases hF k hf with h3 | h3
      · exact h1 h3
      · have := hk.2; omega
    have r7 := r6.keep k7 (fun k hk => (hd k hk).1)
    have r8 := r7.keep kE (fun k hk => by simpa using (hd k hk).2.1)
    exact r8.mono (fun k hk => by obtain ⟨a1, a2, a3, a4⟩ := hd k hk; exact ⟨by omega, a3, a2⟩)

theorem QInv.refv {w0 wr : World} {b B : Nat} {F : List Nat} {st : LS} {A0 A1 A2 A3 : Option Addr} {c0 c1 c2 c3 : Nat} (h : QInv w0 wr b B F st A0 A1 A2 A3 c0 c1 c2 c3) : RefV wr (fun k => k < wr.heap.size ∧ k ∉ F ∧ k ≠ B) (.agg (rcs st A0 A1 A2 A3 c0 c1 c2 c3)) st :=
  ⟨A0, A1, A2, A3, c0, c1, c2, c3, rfl, h.ref⟩
end Go.Proofs.Ytbajpofmaffpgaa
