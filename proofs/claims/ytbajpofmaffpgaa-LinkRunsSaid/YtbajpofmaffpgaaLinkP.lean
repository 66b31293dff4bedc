/- What two appends and two stores of a Send leave, on worlds alone. -/
import Derived.Test.YtbajpofmaffpgaaLinkC
namespace Go.Proofs.Ytbajpofmaffpgaa
open Go.RowKit
set_option linter.unusedSimpArgs false
set_option linter.unusedVariables false

theorem Kept.undrew {F : List Nat} {a b : World} (h : Kept F a.drew b) : Kept F a b := ⟨h.os, h.tape, h.output, h.size, h.block⟩

theorem blk_nodup (A : Option Addr) : (blk A).Nodup := by cases A <;> simp [blk]

/-- No two of the link's blocks are one. -/
def Apart5 (b : Nat) (R S X Y : Option Addr) : Prop :=
  (b ∉ blk R ∧ b ∉ blk S ∧ b ∉ blk X ∧ b ∉ blk Y) ∧ (∀ k ∈ blk R, k ∉ blk S ∧ k ∉ blk X ∧ k ∉ blk Y) ∧ (∀ k ∈ blk S, k ∉ blk X ∧ k ∉ blk Y) ∧ (∀ k ∈ blk X, k ∉ blk Y)

theorem nodup_iff (b : Nat) (R S X Y : Option Addr) : (b :: (blk R ++ blk S ++ blk X ++ blk Y)).Nodup ↔ Apart5 b R S X Y := by
  have h0 := blk_nodup R
  have h1 := blk_nodup S
  have h2 := blk_nodup X
  have h3 := blk_nodup Y
  simp only [List.nodup_cons, List.nodup_append, List.mem_append, Apart5]
  constructor
  · rintro ⟨a, ⟨⟨c, d, e⟩, f, g⟩, i, j⟩
    grind
  · rintro ⟨a, c, d, e⟩
    grind

theorem Apart5.side0 {b : Nat} {A0 A1 A2 A3 : Option Addr} (h : Apart5 b A0 A1 A2 A3) : Apart5 b A0 A3 A1 A2 := by unfold Apart5 at *; grind
theorem Apart5.side0' {b : Nat} {A0 A1 A2 A3 : Option Addr} (h : Apart5 b A0 A3 A1 A2) : Apart5 b A0 A1 A2 A3 := by unfold Apart5 at *; grind
theorem Apart5.side1 {b : Nat} {A0 A1 A2 A3 : Option Addr} (h : Apart5 b A0 A1 A2 A3) : Apart5 b A2 A1 A0 A3 := by unfold Apart5 at *; grind
theorem Apart5.side1' {b : Nat} {A0 A1 A2 A3 : Option Addr} (h : Apart5 b A2 A1 A0 A3) : Apart5 b A0 A1 A2 A3 := by unfold Apart5 at *; grind

theorem two_appends {w wA wB wC wD wE : World} {b : Nat} {R S X Y R' S' : Option Addr} {cX cY cR cS : Nat} {xX xY xR xS : List UInt8} {u u' : Value} {oR oS : Nat}
    (hap : Apart5 b R S X Y) (hbl : b < w.heap.size) (hX : Own w X cX xX) (hY : Own w Y cY xY) (lR : ∀ k ∈ blk R, k < w.heap.size) (lS : ∀ k ∈ blk S, k < w.heap.size)
    (hkA : Kept [b] w wA) (hR : Own wB R' cR xR) (hkB : Kept (blk R) wA wB) (hbB : ∀ k ∈ blk R', k ∈ blk R ∨ (wA.heap.size ≤ k ∧ k < wB.heap.size))
    (hC : wC = wB.setCell ⟨b, oR, none⟩ u) (hS : Own wD S' cS xS) (hkD : Kept (blk S) wC wD) (hbD : ∀ k ∈ blk S', k ∈ blk S ∨ (wC.heap.size ≤ k ∧ k < wD.heap.size))
    (hE : wE = wD.setCell ⟨b, oS, none⟩ u') :
    Own wE R' cR xR ∧ Own wE S' cS xS ∧ Own wE X cX xX ∧ Own wE Y cY xY ∧ Apart5 b R' S' X Y ∧ Kept (b :: (blk R ++ blk S)) w wE ∧
      (∀ k ∈ blk R', k ∈ blk R ∨ (w.heap.size ≤ k ∧ k < wE.heap.size)) ∧ (∀ k ∈ blk S', k ∈ blk S ∨ (w.heap.size ≤ k ∧ k < wE.heap.size)) ∧ w.heap.size ≤ wE.heap.size := by
  have zC : wC.heap.size = wB.heap.size := by rw [hC]; simp [World.setCell]
  have zE : wE.heap.size = wD.heap.size := by rw [hE]; simp [World.setCell]
  have z1 := hkA.size
  have z2 := hkB.size
  have z3 := hkD.size
  have lX := hX.lt
  have lY := hY.lt
  have kC : Kept [b] wB wC := by rw [hC]; exact (Kept.refl _ _).setCell _ _ (by simp)
  have kE : Kept [b] wD wE := by rw [hE]; exact (Kept.refl _ _).setCell _ _ (by simp)
  have kBE : Kept (b :: blk S) wB wE := (kC.trans hkD (H := b :: blk S) (by simp) (by intro x hx; simp [hx])).trans kE (by simp) (by simp)
  have kAll : Kept (b :: (blk R ++ blk S)) w wE := (hkA.trans hkB (H := b :: blk R) (by simp) (by intro x hx; simp [hx])).trans kBE (by intro x hx; simp at hx ⊢; grind) (by intro x hx; simp at hx ⊢; grind)
  obtain ⟨⟨a1, a2, a3, a4⟩, a5, a6, a7⟩ := hap
  have nR : ∀ k ∈ blk R', k ≠ b ∧ k ∉ blk S ∧ k ∉ blk X ∧ k ∉ blk Y := by
    intro k hk
    rcases hbB k hk with h | ⟨h, _⟩
    · exact ⟨fun e => a1 (e ▸ h), a5 k h⟩
    · exact ⟨by omega, fun hs => by have := lS k hs; omega, fun hs => by have := lX k hs; omega, fun hs => by have := lY k hs; omega⟩
  have nS : ∀ k ∈ blk S', k ≠ b ∧ k ∉ blk R' ∧ k ∉ blk X ∧ k ∉ blk Y := by
    intro k hk
    rcases hbD k hk with h | ⟨h, _⟩
    · exact ⟨fun e => a2 (e ▸ h), fun hr => (nR k hr).2.1 h, a6 k h⟩
    · exact ⟨by omega, (fun hr => by
        rcases hbB k hr with h' | ⟨_, h'⟩
        · have := lR k h'; omega
        · omega), fun hs => by have := lX k hs; omega, fun hs => by have := lY k hs; omega⟩
  refine ⟨hR.keep kBE ?_, hS.keep kE ?_, hX.keep kAll ?_, hY.keep kAll ?_, ⟨⟨fun h => (nR b h).1 rfl, fun h => (nS b h).1 rfl, a3, a4⟩, fun k hk => ⟨fun hs => (nS k hs).2.1 hk, (nR k hk).2.2⟩, fun k hk => (nS k hk).2.2, a7⟩, kAll, ?_, ?_, kAll.size⟩
  · intro k hk
    have := nR k hk
    simp [this.1, this.2.1]
  · intro k hk
    have := nS k hk
    simp [this.1]
  · intro k hk
    have e1 : k ≠ b := fun e => a3 (e ▸ hk)
    simp only [List.mem_cons, List.mem_append, e1, false_or]
    rintro (h | h)
    · exact (a5 k h).2.1 hk
    · exact (a6 k h).1 hk
  · intro k hk
    have e1 : k ≠ b := fun e => a4 (e ▸ hk)
    simp only [List.mem_cons, List.mem_append, e1, false_or]
    rintro (h | h)
    · exact (a5 k h).2.2 hk
    · exact (a6 k h).2 hk
  · intro k hk
    rcases hbB k hk with h | ⟨h, h'⟩
    · exact .inl h
    · right; omega
  · intro k hk
    rcases hbD k hk with h | ⟨h, h'⟩
    · exact .inl h
    · right; omega
end Go.Proofs.Ytbajpofmaffpgaa
