/- What LinkPrefix keeps round for round: the link, the two arrays, and that what is got and what waits make what was sent. -/
import Derived.Test.YtbajpofmaffpgaaLor
import Derived.Test.YtbajpofmaffpgaaBnd
namespace Go.Proofs.Ytbajpofmaffpgaa
open Go.RowKit
set_option linter.unusedSimpArgs false
set_option linter.unusedVariables false

theorem recv_total (st : LS) (k : Int) : (st.recv k).total = st.total := by
  unfold LS.recv
  split
  · rfl
  · split <;> rfl
theorem recv_keeps (st : LS) (k : Int) : (st.recv k).budget = st.budget ∧ (st.recv k).cut = st.cut ∧ (st.recv k).down = st.down := by
  unfold LS.recv
  split
  · exact ⟨rfl, rfl, rfl⟩
  · split <;> exact ⟨rfl, rfl, rfl⟩
theorem recv_cut {st : LS} (h : st.Cut) (k : Int) : (st.recv k).Cut := by
  intro hd
  rw [recv_total, (recv_keeps st k).2.1]
  rw [(recv_keeps st k).2.2] at hd
  exact h hd

theorem arr_take (st : LS) (xs : List UInt8) : st.arr xs = xs.take (st.arr xs).length := by
  unfold LS.arr
  split
  · simp
  · split
    · simp
    · split
      · simp [List.take_take]
      · simp

theorem err_zero {st : LS} {xs : List UInt8} (h : st.err xs = 0) : (st.arr xs).length = xs.length := by
  unfold LS.err at h
  unfold LS.arr
  split at h
  · omega
  · split at h
    · omega
    · split at h
      · omega
      · simp [*]

structure PInv (budget cut : Int) (w0 wr : World) (b bS bG : Nat) (F ES EG : List Nat) (st : LS) (g : Nat → List UInt8) (okb : Bool) : Prop where
  B : BInv budget cut w0 wr b F st
  S : Arr wr bS ES (SF st)
  G : Arr wr bG EG g
  sge : ∀ x ∈ ES, w0.heap.size ≤ x
  gge : ∀ x ∈ EG, w0.heap.size ≤ x
  fs : ∀ x ∈ F, x ∉ ES
  fg : ∀ x ∈ F, x ∉ EG
  sg : ∀ x ∈ ES, x ∉ EG
  flow : ∀ i, i < 2 → g i ++ QF st (1 - i) = SF st i
  whole : okb = false → st.down = true ∨ budget - st.total < 300

variable {budget cut : Int} {w0 wr : World} {b bS bG : Nat} {F ES EG : List Nat} {st : LS} {g : Nat → List UInt8} {okb : Bool}

theorem PInv.keep (h : PInv budget cut w0 wr b bS bG F ES EG st g okb) {w' : World} (hk : Kept [] wr w') : PInv budget cut w0 w' b bS bG F ES EG st g okb :=
  ⟨⟨h.B.at_.keep hk (by simp), h.B.ok, h.B.icut, h.B.bud, h.B.cut, h.B.ge, h.B.kept.new hk (by simp)⟩, h.S.keep hk (by simp), h.G.keep hk (by simp), h.sge, h.gge, h.fs, h.fg, h.sg, h.flow, h.whole⟩

theorem PInv.recv (h : PInv budget cut w0 wr b bS bG F ES EG st g okb) (u t : Nat) (hu : u + t = 1) {w5 wz : World} {F5 EG' : List Nat} (la : LinkAt w5 b F5 (st.recv (u : Int))) (k5 : Kept F wr w5) (hF : ∀ x ∈ F5, x ∈ F)
    (hA : Arr wz bG EG' (upd g t (g t ++ st.wait (u : Int)))) (kz : Kept EG w5 wz) (hE : ∀ k ∈ EG', k ∈ EG ∨ (w5.heap.size ≤ k ∧ k < wz.heap.size)) :
    PInv budget cut w0 wz b bS bG F5 ES EG' (st.recv (u : Int)) (upd g t (g t ++ st.wait (u : Int))) okb := by
  have z1 := h.B.kept.size
  have z5 := k5.size
  have ltF := la.lt
  have ltS := h.S.lt
  obtain ⟨r1, r2, r3⟩ := recv_keeps st (u : Int)
  refine ⟨⟨la.keep kz (fun x hx => h.fg x (hF x hx)), recv_ok h.B.ok _, recv_cut h.B.icut _, by rw [r1]; exact h.B.bud, by rw [r2]; exact h.B.cut, fun x hx => h.B.ge x (hF x hx), (h.B.kept.new k5 h.B.ge).new kz h.gge⟩,
    ((h.S.keep k5 (fun x hx hf => h.fs x hf hx)).keep kz h.sg).congr (SF_recv st u (by omega)), hA, h.sge, ?_, fun x hx => h.fs x (hF x hx), ?_, ?_, ?_, ?_⟩
  · intro x hx
    rcases hE x hx with h1 | h1
    · exact h.gge x h1
    · omega
  · intro x hx hg
    rcases hE x hg with h1 | h1
    · exact h.fg x (hF x hx) h1
    · have := ltF x hx; omega
  · intro x hx hg
    rcases hE x hg with h1 | h1
    · exact h.sg x hx h1
    · have := ltS x hx; omega
  · intro i hi
    rw [SF_recv st u (by omega) i hi, QF_recv st u (by omega) (1 - i) (by omega), wait_QF st u (by omega)]
    by_cases hit : i = t
    · subst hit
      have : 1 - i = u := by omega
      rw [this, upd_same, upd_same, List.append_nil]
      have hfl := h.flow i hi
      rw [this] at hfl
      exact hfl
    · rw [upd_other _ _ hit, upd_other _ _ (by omega)]
      exact h.flow i hi
  · intro hw
    rw [r3, recv_total]
    exact h.whole hw

theorem sendA_side (st : LS) (u : Nat) (hu : u < 2) (xs : List UInt8) : st.sendA (u : Int) xs = st.send (u : Int) xs := by
  have : isSide (u : Int) = true := isSide_of (by omega)
  unfold LS.sendA
  rw [this]
  rfl

theorem send_whole {st : LS} {xs : List UInt8} (k : Int) (hx : xs.length ≤ 300) (hok : st.Ok) (h : (st.down = true ∨ st.budget - st.total < 300) ∨ st.err xs ≠ 0) : (st.send k xs).down = true ∨ st.budget - (st.send k xs).total < 300 := by
  rw [send_down', send_total]
  by_cases h1 : st.down = true
  · left; simp [LS.goes, h1]
  · rcases h with (h | h) | h
    · exact absurd h h1
    · right; omega
    · by_cases h2 : st.budget - st.total < xs.length
      · right; omega
      · by_cases h3 : 0 ≤ st.cut ∧ st.cut - st.total < xs.length
        · left; simp [LS.goes, h1, h2, h3]
        · exact absurd (by simp [LS.err, h1, h2]; omega) h

theorem PInv.send (h : PInv budget cut w0 wr b bS bG F ES EG st g okb) (u : Nat) (hu : u < 2) (xs : List UInt8) (hx : xs.length ≤ 300) {w4 wz : World} {F4 ES' : List Nat} (la : LinkAt w4 b F4 (st.send (u : Int) xs)) (k4 : Kept F wr w4)
    (hF : ∀ x ∈ F4, x ∈ F ∨ (wr.heap.size ≤ x ∧ x < w4.heap.size))
    (hA : Arr wz bS ES' (upd (SF st) u (SF st u ++ st.arr xs))) (kz : Kept ES w4 wz) (hE : ∀ k ∈ ES', k ∈ ES ∨ (w4.heap.size ≤ k ∧ k < wz.heap.size)) {okb' : Bool} (hokb : okb' = false → okb = false ∨ st.err xs ≠ 0) :
    PInv budget cut w0 wz b bS bG F4 ES' EG (st.send (u : Int) xs) g okb' := by
  have z1 := h.B.kept.size
  have z4 := k4.size
  have ltF := la.lt
  have ltS := h.S.lt
  have ltG := h.G.lt
  have fs4 : ∀ x ∈ F4, x ∉ ES := fun x hx hs => by
    rcases hF x hx with h1 | h1
    · exact h.fs x h1 hs
    · have := ltS x hs; omega
  have fg4 : ∀ x ∈ F4, x ∉ EG := fun x hx hs => by
    rcases hF x hx with h1 | h1
    · exact h.fg x h1 hs
    · have := ltG x hs; omega
  obtain ⟨r1, r2⟩ := send_keeps st (u : Int) xs
  refine ⟨⟨la.keep kz fs4, send_ok h.B.ok _ _, by rw [← sendA_side st u hu]; exact sendA_cut h.B.ok h.B.icut _ _, by rw [r1]; exact h.B.bud, by rw [r2]; exact h.B.cut, ?_, (h.B.kept.new k4 h.B.ge).new kz h.sge⟩,
    hA.congr (SF_send st xs u hu), (h.G.keep k4 (fun x hx hf => h.fg x hf hx)).keep kz (fun x hx hs => h.sg x hs hx), ?_, h.gge, ?_, fg4, ?_, ?_, ?_⟩
  · intro x hx
    rcases hF x hx with h1 | h1
    · exact h.B.ge x h1
    · omega
  · intro x hx
    rcases hE x hx with h1 | h1
    · exact h.sge x h1
    · omega
  · intro x hx hs
    rcases hE x hs with h1 | h1
    · exact fs4 x hx h1
    · have := ltF x hx; omega
  · intro x hs hg
    rcases hE x hs with h1 | h1
    · exact h.sg x h1 hg
    · have := ltG x hg; omega
  · intro i hi
    rw [SF_send st xs u hu i hi, QF_send st xs u hu (1 - i) (by omega)]
    by_cases hit : i = u
    · subst hit
      rw [upd_same, upd_same, ← List.append_assoc, h.flow i hi]
    · rw [upd_other _ _ hit, upd_other _ _ (by omega)]
      exact h.flow i hi
  · intro hw
    have hb := h.B.bud
    have := send_whole (st := st) (xs := xs) (u : Int) hx h.B.ok (by
      rcases hokb hw with h1 | h1
      · left
        have := h.whole h1
        rw [hb]
        exact this
      · exact .inr h1)
    rw [hb] at this
    exact this

theorem tot_ge {L : List OpD} {k : Nat} (hk : k < L.length) : L[k].X.length ≤ tot L := by
  unfold tot
  induction L generalizing k with
  | nil => simp at hk
  | cons d L ih =>
    cases k with
    | zero => simp
    | succ k =>
      have := ih (k := k) (by simpa using hk)
      simp only [List.map_cons, List.sum_cons, List.getElem_cons_succ]
      omega

theorem PInv.len_recv (h : PInv budget cut w0 wr b bS bG F ES EG st g okb) (u t : Nat) (hu : u + t = 1) : (g t).length + (st.wait (u : Int)).length ≤ 140737488355328 := by
  have h1 := h.flow t (by omega)
  have h2 : 1 - t = u := by omega
  rw [h2] at h1
  rw [wait_QF st u (by omega)]
  have h3 := congrArg List.length h1
  rw [List.length_append] at h3
  have h4 := sent_le h.B.ok (t : Int)
  rw [sent_SF st t (by omega)] at h4
  omega

theorem PInv.len_send (h : PInv budget cut w0 wr b bS bG F ES EG st g okb) (u : Nat) (hu : u < 2) (xs : List UInt8) : (SF st u).length + (st.arr xs).length ≤ 140737488355328 := by
  have h4 := sent_le (send_ok h.B.ok (u : Int) xs) (u : Int)
  rw [sent_SF _ u hu, SF_send st xs u hu u hu, upd_same, List.length_append] at h4
  omega
end Go.Proofs.Ytbajpofmaffpgaa
