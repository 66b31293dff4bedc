/- What the reference's Send keeps round for round. -/
import Derived.Test.YtbajpofmaffpgaaRc
namespace Go.Proofs.Ytbajpofmaffpgaa
open Go.RowKit
set_option linter.unusedSimpArgs false
set_option linter.unusedVariables false

def JB (B : Nat) (cs : Array Value) (w : World) : Prop := w.heap[B]? = some (.cells cs 46 (0, 0))

/-- The blocks that the reference's slices may lie in: those of its argument, and new ones. -/
def RE (D : Nat → Prop) (w : World) : Nat → Prop := fun k => (D k ∧ k < w.heap.size) ∨ w.heap.size + 2 ≤ k

def zero46 : Array Value := #[.int .i64 0, .int .i64 0, .slice none 0 0, .slice none 0 0, .slice none 0 0, .slice none 0 0, .bool false]

structure RI (D : Nat → Prop) (w wr : World) (B : Nat) (cs : Array Value) (S Qa : Option Addr) (s q : List UInt8) : Prop where
  hB : JB B cs wr
  hZ : JB (B + 1) zero46 wr
  k : Kept [] w wr
  s : Src wr (RE D w) S s
  q : Src wr (RE D w) Qa q
  b : B = w.heap.size
  z : B + 2 ≤ wr.heap.size

theorem RI.keep {D : Nat → Prop} {w wr wx : World} {B : Nat} {cs : Array Value} {S Qa : Option Addr} {s q : List UInt8} (h : RI D w wr B cs S Qa s q) (hk : Kept [] wr wx) : RI D w wx B cs S Qa s q := by
  have hz := h.z
  have hs := hk.size
  exact ⟨(hk.block B (by omega) (by simp)).trans h.hB, (hk.block (B + 1) (by omega) (by simp)).trans h.hZ, h.k.new hk (by simp), h.s.keep hk (by simp), h.q.keep hk (by simp), h.b, by omega⟩

/-- A new row is stored for the one that was sent, or for the one that waits. -/
theorem RI.store {D : Nat → Prop} {w wr w7 : World} {B : Nat} {cs : Array Value} {S Qa : Option Addr} {s q : List UInt8} (h : RI D w wr B cs S Qa s q) (hk : Kept [] wr w7) {A7 : Option Addr} {c7 : Nat} {z : List UInt8} (ho : Own w7 A7 c7 z)
    (hb : ∀ k ∈ blk A7, wr.heap.size ≤ k) (off : Nat) (v : Value) :
    RI D w (w7.setCell ⟨B, off, none⟩ v) B (cs.setIfInBounds off v) A7 Qa z q ∧ RI D w (w7.setCell ⟨B, off, none⟩ v) B (cs.setIfInBounds off v) S A7 s z := by
  have h7 := h.keep hk
  have hz := h.z
  have hbb := h.b
  have k7 : Kept [B] w7 (w7.setCell ⟨B, off, none⟩ v) := (Kept.refl _ _).setCell _ _ (.inl (by simp))
  have hRE : ∀ k, RE D w k → k ∉ [B] := fun k hk' => by
    rcases hk' with ⟨_, h1⟩ | h1
    · simp; omega
    · simp; omega
  have hS : Src (w7.setCell ⟨B, off, none⟩ v) (RE D w) A7 z := (ho.src.mono (fun k hk' => .inr (by have := hb k hk'; omega))).keep k7 hRE
  have hB : JB B (cs.setIfInBounds off v) (w7.setCell ⟨B, off, none⟩ v) := heap_setCell_same w7 B off _ 46 v h7.hB
  have hZ : JB (B + 1) zero46 (w7.setCell ⟨B, off, none⟩ v) := (k7.block (B + 1) (by have := h7.z; omega) (by simp)).trans h7.hZ
  have hK : Kept [] w (w7.setCell ⟨B, off, none⟩ v) := h7.k.new k7 (by simp; omega)
  have hZz : B + 2 ≤ (w7.setCell ⟨B, off, none⟩ v).heap.size := by have := h7.z; have := k7.size; omega
  exact ⟨⟨hB, hZ, hK, hS, h7.q.keep k7 hRE, h.b, hZz⟩, ⟨hB, hZ, hK, h7.s.keep k7 hRE, hS, h.b, hZz⟩⟩

theorem RI.fin {D : Nat → Prop} {w wr wE : World} {B : Nat} {cs : Array Value} {S Qa : Option Addr} {s q : List UInt8} (h : RI D w wr B cs S Qa s q) (hk : Kept [B, B + 1] wr wE) :
    Src wE (fun k => D k ∨ w.heap.size ≤ k) S s ∧ Src wE (fun k => D k ∨ w.heap.size ≤ k) Qa q ∧ Kept [] w wE := by
  have hb := h.b
  have hRE : ∀ k, RE D w k → k ∉ [B, B + 1] := fun k hk' => by
    rcases hk' with ⟨_, h1⟩ | h1
    · simp; omega
    · simp; omega
  have hm : ∀ k, RE D w k → (D k ∨ w.heap.size ≤ k) := fun k hk' => by
    rcases hk' with ⟨h0, _⟩ | h1
    · exact .inl h0
    · exact .inr (by omega)
  exact ⟨(h.s.keep hk hRE).mono hm, (h.q.keep hk hRE).mono hm, h.k.new hk (by simp; omega)⟩
end Go.Proofs.Ytbajpofmaffpgaa
