/- The like of Ord, for a region that calls a function which draws: till the first store comes up the world meets I (it is not one and the same world). -/
import Derived.Test.YtbajpofmaffpgaaLor
import Derived.OrdersHeld
namespace Go.Proofs.Ytbajpofmaffpgaa.Orx
open Go.RowKit
set_option linter.unusedSimpArgs false
set_option linter.unusedVariables false

section
variable {P : Program} {ops : Array Oper} {Q : Exit → Act → World → Prop} {md : Region.Mode} {st : Nat} {I : World → Prop} {J : World → Prop}

/-- The world is w0 till 'st' has come up; J holds throughout. -/
def Still (st : Nat) (I : World → Prop) (J : World → Prop) (listed : Array Bool) (w : World) : Prop := (listed.getD st false = false → I w) ∧ J w

theorem Still.later {st : Nat} {I : World → Prop} {J : World → Prop} {listed : Array Bool} {w : World} (hl : listed.getD st false = true) (hJ : J w) : Still st I J listed w := ⟨fun h => (by rw [hl] at h; cases h), hJ⟩
theorem Still.same {st : Nat} {I : World → Prop} {J : World → Prop} {listed : Array Bool} {w : World} (hI : I w) (hJ : J w) : Still st I J listed w := ⟨fun _ => hI, hJ⟩

/-- Whatever order is picked from here on; as long as 'st' has not come up the world is w0, and J holds throughout. -/
def wpAnyW (P : Program) (md : Region.Mode) (ops : Array Oper) (Q : Exit → Act → World → Prop) (st : Nat) (I : World → Prop) (J : World → Prop) : Nat → Array Bool → Act → World → Prop
  | 0, listed, a, w => Region.ready md ops listed = [] ∧ Q .normal a w
  | fuel + 1, listed, a, w =>
    (Region.ready md ops listed = [] → Q .normal a w) ∧
    ∀ i ∈ Region.ready md ops listed, wpOp P ops Q i (fun a' w' => Still st I J (listed.setIfInBounds i true) w' ∧ wpAnyW P md ops Q st I J fuel (listed.setIfInBounds i true) a' w') a w

theorem wpAny_of_W : ∀ (fuel : Nat) (listed : Array Bool) (a : Act) (w : World), wpAnyW P md ops Q st I J fuel listed a w → wpAny P md ops Q fuel listed a w
  | 0, _, _, _, h => h
  | fuel + 1, _, _, _, h => ⟨h.1, fun i hi => wpOp_mono (fun a' w' h' => wpAny_of_W fuel _ a' w' h'.2) (h.2 i hi)⟩

theorem not_listed {listed : Array Bool} {i : Nat} (h : listed.getD i true = false) : listed.getD i false = false := by
  rcases Nat.lt_or_ge i listed.size with h' | h'
  · simp [h'] at h ⊢; exact h
  · simp [Array.getElem?_eq_none h'] at h

/-- An operation that yields its value in the world w0 may be taken first, if 'st' waits for it (or, with S anything, if it yields its value in whatever world). -/
theorem first_W {i : Nat} {oi ost : Oper} {v : Value} {S : World → Prop} (hi : ops[i]? = some oi) (hst : ops[st]? = some ost) (hsel : ∀ (j : Nat) (o : Oper) cs b, ops[j]? = some o → o.op ≠ .select cs b) (hne : i ≠ st)
    (hwait : (∀ w, J w → S w) ∨ ((∀ w, I w → S w) ∧ ∃ e ∈ ost.after, Region.binds md e = true ∧ e.on = i))
    (hQ : ∀ c a w, Q (.panic c) (a.put oi.dst v) w → Q (.panic c) a w) :
    ∀ (fuel : Nat) (listed : Array Bool) (a : Act) (w : World),
      (∀ j oj, ops[j]? = some oj → j ≠ i → listed.getD j true = false → (∀ e ∈ oj.after, Region.binds md e = true → e.on ≠ i) → oi.apart ops oj = true) →
      i ∈ Region.ready md ops listed → YieldsIf P ops S oi v a → Still st I J listed w → ((∀ w, J w → S w) ∨ listed.getD st false = false) →
      wpAnyW P md ops Q st I J fuel (listed.setIfInBounds i true) (a.put oi.dst v) w → wpAnyW P md ops Q st I J (fuel + 1) listed a w := by
  have hS : ∀ (listed : Array Bool) (w : World), Still st I J listed w → ((∀ w, J w → S w) ∨ listed.getD st false = false) → S w := fun listed w h h' => by
    rcases h' with h' | h'
    · exact h' w h.2
    · rcases hwait with h2 | h2
      · exact h2 w h.2
      · exact h2.1 w (h.1 h')
  have hsame : ∀ (listed : Array Bool), (listed.setIfInBounds i true).getD st false = listed.getD st false := fun listed => getD_set_ne false hne
  intro fuel
  induction fuel with
  | zero =>
    intro listed a w _ hr hy hw0 hs0 H
    refine ⟨fun h => (by rw [h] at hr; cases hr), fun j hj => ?_⟩
    by_cases hji : j = i
    · subst hji; exact hy.wpOp hi (hS listed w hw0 hs0) ⟨⟨fun h => hw0.1 (by rw [← hsame]; exact h), hw0.2⟩, H⟩
    · have := ready_mono hj hji
      rw [H.1] at this
      cases this
  | succ fuel ih =>
    intro listed a w hfree hr hy hw0 hs0 H
    refine ⟨fun h => (by rw [h] at hr; cases hr), fun j hj => ?_⟩
    by_cases hji : j = i
    · subst hji; exact hy.wpOp hi (hS listed w hw0 hs0) ⟨⟨fun h => hw0.1 (by rw [← hsame]; exact h), hw0.2⟩, H⟩
    · have h1 := H.2 j (ready_mono hj hji)
      obtain ⟨hjun, oj, hoj, hall⟩ := mem_ready.1 hj
      have hnot : ∀ e ∈ oj.after, Region.binds md e = true → e.on ≠ i := fun e he hb heq => by
        have h1 := hall e he hb
        rw [heq, not_listed (mem_ready.1 hr).1] at h1
        cases h1
      have hjst : (∀ w, J w → S w) ∨ j ≠ st := by
        rcases hwait with h2 | ⟨_, e, he, hb, hon⟩
        · exact .inl h2
        · refine .inr (fun hj2 => ?_)
          subst hj2
          have : oj = ost := Option.some.inj (hoj.symm.trans hst)
          subst this
          exact hnot e he hb hon
      have h2 := wpOp_putIf hoj (hfree j oj hoj hji hjun hnot) (fun cs b => hsel i oi cs b hi) (fun cs b => hsel j oj cs b hoj) hQ hy h1
      have hfree' : ∀ k ok, ops[k]? = some ok → k ≠ i → (listed.setIfInBounds j true).getD k true = false →
          (∀ e ∈ ok.after, Region.binds md e = true → e.on ≠ i) → oi.apart ops ok = true := fun k ok hk hki hun hno => by
        refine hfree k ok hk hki ?_ hno
        by_cases hjk : j = k
        · subst hjk; exact hjun
        · rw [getD_set_ne true hjk] at hun; exact hun
      have hcom : ∀ (l : Array Bool), ((l.setIfInBounds i true).setIfInBounds j true).getD st false = (l.setIfInBounds j true).getD st false := fun l => by
        rw [Array.setIfInBounds_comm _ _ (Ne.symm hji), getD_set_ne false hne]
      refine wpOp_mono (fun a' w' h3 => ⟨⟨fun h => h3.2.1.1 (by rw [hcom]; exact h), h3.2.1.2⟩, ih (listed.setIfInBounds j true) a' w' hfree' (ready_mono hr (Ne.symm hji)) h3.1 ⟨fun h => h3.2.1.1 (by rw [hcom]; exact h), h3.2.1.2⟩ ?_ ?_⟩) h2
      · rcases hjst with h4 | h4
        · exact .inl h4
        · rcases hs0 with h5 | h5
          · exact .inl h5
          · exact .inr (by rw [getD_set_ne false h4]; exact h5)
      · rw [Array.setIfInBounds_comm _ _ hji]
        exact h3.2.2

/-- 'st' waits for number i: for the kernel. -/
def waitsB (md : Region.Mode) (ops : Array Oper) (st i : Nat) : Bool :=
  match ops[st]? with
  | some o => o.after.any fun e => Region.binds md e && e.on == i
  | none => false

theorem take_free {i : Nat} {oi : Oper} {v : Value} {fuel : Nat} {listed : Array Bool} {a : Act} {w : World} (hi : ops[i]? = some oi) (hb : (decide (i ≠ st) && decide (st < ops.size)) = true)
    (hs : Region.noSelect ops = true) (hf : Region.free md ops listed i = true) (hr : (Region.ready md ops listed).contains i = true)
    (hQ : ∀ c a w, Q (.panic c) (a.put oi.dst v) w → Q (.panic c) a w) (hw : Region.wanted oi (yielded ops a.tmps) = true) (hS : Still st I J listed w) (hy : ∀ w, J w → (execOp a.eval oi).run P w = .ok (.value v) w)
    (h : Still st I J (listed.setIfInBounds i true) w → wpAnyW P md ops Q st I J fuel (listed.setIfInBounds i true) (a.put oi.dst v) w) : wpAnyW P md ops Q st I J (fuel + 1) listed a w := by
  simp only [Bool.and_eq_true, decide_eq_true_eq] at hb
  obtain ⟨ost, hst⟩ : ∃ o, ops[st]? = some o := ⟨_, Array.getElem?_eq_getElem hb.2⟩
  have hS' : Still st I J (listed.setIfInBounds i true) w := ⟨fun h => hS.1 (by rw [getD_set_ne false hb.1] at h; exact h), hS.2⟩
  exact first_W (S := J) hi hst (Region.noSelect_spec hs) hb.1 (.inl fun _ h => h) hQ fuel listed a w (Region.free_spec hi hf) (by simpa using hr) (.inl ⟨hw, hy⟩) hS (.inl fun _ h => h) (h hS')

theorem take_load {i : Nat} {oi : Oper} {v : Value} {fuel : Nat} {listed : Array Bool} {a : Act} {w : World} (hi : ops[i]? = some oi) (hb : (decide (i ≠ st) && waitsB md ops st i) = true)
    (hs : Region.noSelect ops = true) (hf : Region.free md ops listed i = true) (hr : (Region.ready md ops listed).contains i = true) (hl : listed.getD st false = false)
    (hQ : ∀ c a w, Q (.panic c) (a.put oi.dst v) w → Q (.panic c) a w) (hw : Region.wanted oi (yielded ops a.tmps) = true) (hS : Still st I J listed w) (hy : ∀ w, I w → (execOp a.eval oi).run P w = .ok (.value v) w)
    (h : Still st I J (listed.setIfInBounds i true) w → wpAnyW P md ops Q st I J fuel (listed.setIfInBounds i true) (a.put oi.dst v) w) : wpAnyW P md ops Q st I J (fuel + 1) listed a w := by
  simp only [Bool.and_eq_true, decide_eq_true_eq] at hb
  obtain ⟨hne, hb⟩ := hb
  have hS' : Still st I J (listed.setIfInBounds i true) w := ⟨fun h => hS.1 (by rw [getD_set_ne false hne] at h; exact h), hS.2⟩
  unfold waitsB at hb
  split at hb
  · rename_i ost hst
    obtain ⟨e, he, hbb⟩ := Array.any_eq_true'.1 hb
    simp only [Bool.and_eq_true, beq_iff_eq] at hbb
    exact first_W (S := I) hi hst (Region.noSelect_spec hs) hne (.inr ⟨fun _ h => h, e, he, hbb.1, hbb.2⟩) hQ fuel listed a w (Region.free_spec hi hf) (by simpa using hr) (.inl ⟨hw, hy⟩) hS (.inr hl) (h hS')
  · cases hb

/-- One operation alone may come up: it is carried out. -/
theorem only_W {i : Nat} {oi : Oper} {fuel : Nat} {listed : Array Bool} {a : Act} {w : World} (hi : ops[i]? = some oi) (hr : Region.ready md ops listed = [i]) (hw : Region.wanted oi (yielded ops a.tmps) = true)
    (h : ∀ K : Act → World → Prop, (∀ a' w', Still st I J (listed.setIfInBounds i true) w' → (Still st I J (listed.setIfInBounds i true) w' → wpAnyW P md ops Q st I J fuel (listed.setIfInBounds i true) a' w') → K a' w') → oi.wp P a w K Q) : wpAnyW P md ops Q st I J (fuel + 1) listed a w := by
  refine ⟨fun h0 => (by rw [hr] at h0; cases h0), fun j hj => ?_⟩
  rw [hr] at hj
  obtain rfl : j = i := by simpa using hj
  unfold wpOp
  simp only [hi, hw, if_true]
  exact .inl (h _ fun a' w' hs hk => ⟨hs, hk hs⟩)

/-- Two operations may come up: each is carried out. -/
theorem both_W {i j : Nat} {oi oj : Oper} {fuel : Nat} {listed : Array Bool} {a : Act} {w : World} (hi : ops[i]? = some oi) (hj : ops[j]? = some oj) (hr : Region.ready md ops listed = [i, j])
    (hwi : Region.wanted oi (yielded ops a.tmps) = true) (hwj : Region.wanted oj (yielded ops a.tmps) = true)
    (h1 : ∀ K : Act → World → Prop, (∀ a' w', Still st I J (listed.setIfInBounds i true) w' → (Still st I J (listed.setIfInBounds i true) w' → wpAnyW P md ops Q st I J fuel (listed.setIfInBounds i true) a' w') → K a' w') → oi.wp P a w K Q)
    (h2 : ∀ K : Act → World → Prop, (∀ a' w', Still st I J (listed.setIfInBounds j true) w' → (Still st I J (listed.setIfInBounds j true) w' → wpAnyW P md ops Q st I J fuel (listed.setIfInBounds j true) a' w') → K a' w') → oj.wp P a w K Q) :
    wpAnyW P md ops Q st I J (fuel + 1) listed a w := by
  refine ⟨fun h0 => (by rw [hr] at h0; cases h0), fun m hm => ?_⟩
  rw [hr] at hm
  simp only [List.mem_cons, List.not_mem_nil, or_false] at hm
  rcases hm with rfl | rfl
  · unfold wpOp
    simp only [hi, hwi, if_true]
    exact .inl (h1 _ fun a' w' hs hk => ⟨hs, hk hs⟩)
  · unfold wpOp
    simp only [hj, hwj, if_true]
    exact .inl (h2 _ fun a' w' hs hk => ⟨hs, hk hs⟩)

theorem done_W {fuel : Nat} {listed : Array Bool} {a : Act} {w : World} (hr : Region.ready md ops listed = []) (h : Q .normal a w) : wpAnyW P md ops Q st I J fuel listed a w := by
  cases fuel with
  | zero => exact ⟨hr, h⟩
  | succ n => exact ⟨fun _ => h, by rw [hr]; simp⟩

theorem begin_W {id : Nat} {a : Act} {w : World} (st : Nat) (I J : World → Prop) (hm : P.follows .mixedOrders = true) (hI : I w.drew) (hJ : J w.drew)
    (h : Still st I J (Array.replicate ops.size false) w.drew → wpAnyW P .any ops Q st I J ops.size (Array.replicate ops.size false) a w.drew) : (Code.region id ops true).wp P Q a w :=
  wp_region_any hm (wpAny_of_W _ _ _ _ (h ⟨fun _ => hI, hJ⟩))
end
end Go.Proofs.Ytbajpofmaffpgaa.Orx
