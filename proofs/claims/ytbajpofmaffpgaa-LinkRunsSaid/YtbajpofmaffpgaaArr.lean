/- An array of two byte slices in memory, and the link's bytes as functions of the side. -/
import Derived.Test.YtbajpofmaffpgaaAny
namespace Go.Proofs.Ytbajpofmaffpgaa
open Go.RowKit
set_option linter.unusedSimpArgs false
set_option linter.unusedVariables false

def upd (x : Nat → List UInt8) (i : Nat) (v : List UInt8) : Nat → List UInt8 := fun j => if j = i then v else x j
theorem upd_same (x : Nat → List UInt8) (i : Nat) (v : List UInt8) : upd x i v i = v := by simp [upd]
theorem upd_other (x : Nat → List UInt8) {i j : Nat} (v : List UInt8) (h : j ≠ i) : upd x i v j = x j := by simp [upd, h]

/-- Two slices at block b, each a row of one's own; E: all of their blocks. -/
def Arr (w : World) (b : Nat) (E : List Nat) (x : Nat → List UInt8) : Prop :=
  ∃ (A0 A1 : Option Addr) (c0 c1 : Nat), w.heap[b]? = some (.cells #[.slice A0 (x 0).length c0, .slice A1 (x 1).length c1] 36 (0, 0)) ∧
    Own w A0 c0 (x 0) ∧ Own w A1 c1 (x 1) ∧ E = b :: (blk A0 ++ blk A1) ∧ E.Nodup

theorem Arr.lt {w : World} {b : Nat} {E : List Nat} {x : Nat → List UInt8} (h : Arr w b E x) : ∀ k ∈ E, k < w.heap.size := by
  obtain ⟨A0, A1, c0, c1, hb, h0, h1, rfl, hn⟩ := h
  intro k hk
  simp only [List.mem_cons, List.mem_append] at hk
  rcases hk with rfl | hk | hk
  · exact (Array.getElem?_eq_some_iff.1 hb).1
  · exact h0.lt k hk
  · exact h1.lt k hk
theorem Arr.mem {w : World} {b : Nat} {E : List Nat} {x : Nat → List UInt8} (h : Arr w b E x) : b ∈ E := by
  obtain ⟨A0, A1, c0, c1, hb, h0, h1, rfl, hn⟩ := h
  simp
theorem Arr.keep {w w' : World} {b : Nat} {E G : List Nat} {x : Nat → List UInt8} (h : Arr w b E x) (hk : Kept G w w') (hd : ∀ k ∈ E, k ∉ G) : Arr w' b E x := by
  obtain ⟨A0, A1, c0, c1, hb, h0, h1, hE, hn⟩ := h
  have hbl : b < w.heap.size := (Array.getElem?_eq_some_iff.1 hb).1
  refine ⟨A0, A1, c0, c1, by rw [hk.block b hbl (hd b (by simp [hE]))]; exact hb, h0.keep hk ?_, h1.keep hk ?_, hE, hn⟩ <;>
    (intro k hkk; exact hd k (by rw [hE]; simp [hkk]))

/-- One of the two: what is read there, and what an append and a store leave. -/
theorem Arr.side {w : World} {b : Nat} {E : List Nat} {x : Nat → List UInt8} (h : Arr w b E x) (u : Nat) (hu : u < 2) :
    ∃ A c, w.cell? ⟨b, u, none⟩ = some (.slice A (x u).length c) ∧ w.frozen? ⟨b, u, none⟩ = false ∧ Own w A c (x u) ∧ (∀ k ∈ blk A, k ∈ E ∧ k ≠ b) ∧
      ∀ (ys : List UInt8) (A' : Option Addr) (c' : Nat) (wB : World), Own wB A' c' (x u ++ ys) → Kept (blk A) w wB → (∀ k ∈ blk A', k ∈ blk A ∨ (w.heap.size ≤ k ∧ k < wB.heap.size)) →
        wB.frozen? ⟨b, u, none⟩ = false ∧ wB.cell? ⟨b, u, none⟩ = some (.slice A (x u).length c) ∧
        ∃ E', Arr (wB.setCell ⟨b, u, none⟩ (.slice A' ((x u).length + ys.length) c')) b E' (upd x u (x u ++ ys)) ∧ Kept E w (wB.setCell ⟨b, u, none⟩ (.slice A' ((x u).length + ys.length) c')) ∧
          (∀ k ∈ E', k ∈ E ∨ (w.heap.size ≤ k ∧ k < (wB.setCell ⟨b, u, none⟩ (.slice A' ((x u).length + ys.length) c')).heap.size)) := by
  have hlt := h.lt
  obtain ⟨A0, A1, c0, c1, hb, h0, h1, hE, hn⟩ := h
  rw [hE] at hn
  simp only [List.nodup_cons, List.nodup_append, List.mem_append, not_or] at hn
  obtain ⟨⟨nb0, nb1⟩, n0, n1, nd⟩ := hn
  have hbl : b < w.heap.size := hlt b (by simp [hE])
  obtain rfl | rfl : u = 0 ∨ u = 1 := by omega
  · refine ⟨A0, c0, cells_of hb 0, free_of hb 0, h0, fun k hk => ⟨by rw [hE]; simp [hk], fun e => nb0 (e ▸ hk)⟩, fun ys A' c' wB ho hk hf => ?_⟩
    have hbB : wB.heap[b]? = some (.cells #[.slice A0 (x 0).length c0, .slice A1 (x 1).length c1] 36 (0, 0)) := (hk.block b hbl nb0).trans hb
    have hk2 : Kept [b] wB (wB.setCell ⟨b, 0, none⟩ (.slice A' ((x 0).length + ys.length) c')) := (Kept.refl _ _).setCell _ _ (.inl (by simp))
    have hzB := hk.size
    have hA' : ∀ k ∈ blk A', k ≠ b ∧ k ∉ blk A1 := fun k hkk => by
      rcases hf k hkk with h | h
      · exact ⟨fun e => nb0 (e ▸ h), fun h' => nd k h k h' rfl⟩
      · exact ⟨by omega, fun h' => by have := h1.lt k h'; omega⟩
    refine ⟨free_of hbB 0, cells_of hbB 0, b :: (blk A' ++ blk A1), ⟨A', A1, c', c1, ?_, ?_, ?_, rfl, ?_⟩, ?_, ?_⟩
    · rw [heap_setCell_same wB b 0 _ 36 _ hbB]
      simp [upd]
    · exact (by simpa [upd] using ho.keep hk2 (by intro k hkk; simpa using (hA' k hkk).1))
    · have := (h1.keep hk (by intro k hkk hh; exact nd k hh k hkk rfl)).keep hk2 (by intro k hkk; simp; rintro rfl; exact nb1 hkk)
      simpa [upd] using this
    · simp only [List.nodup_cons, List.nodup_append, List.mem_append, not_or]
      exact ⟨⟨fun h => (hA' b h).1 rfl, nb1⟩, blk_nodup _, blk_nodup _, fun k hk1 k' hk2' e => by subst e; exact (hA' k hk1).2 hk2'⟩
    · exact hk.trans hk2 (by intro k hkk; rw [hE]; simp [hkk]) (by intro k hkk; rw [hE]; simp at hkk; simp [hkk])
    · intro k hkk
      have hz := hk2.size
      simp only [List.mem_cons, List.mem_append] at hkk
      rcases hkk with rfl | hkk | hkk
      · exact .inl (by rw [hE]; simp)
      · rcases hf k hkk with h | h
        · exact .inl (by rw [hE]; simp [h])
        · exact .inr ⟨h.1, by omega⟩
      · exact .inl (by rw [hE]; simp [hkk])
  · refine ⟨A1, c1, cells_of hb 1, free_of hb 1, h1, fun k hk => ⟨by rw [hE]; simp [hk], fun e => nb1 (e ▸ hk)⟩, fun ys A' c' wB ho hk hf => ?_⟩
    have hbB : wB.heap[b]? = some (.cells #[.slice A0 (x 0).length c0, .slice A1 (x 1).length c1] 36 (0, 0)) := (hk.block b hbl nb1).trans hb
    have hk2 : Kept [b] wB (wB.setCell ⟨b, 1, none⟩ (.slice A' ((x 1).length + ys.length) c')) := (Kept.refl _ _).setCell _ _ (.inl (by simp))
    have hzB := hk.size
    have hA' : ∀ k ∈ blk A', k ≠ b ∧ k ∉ blk A0 := fun k hkk => by
      rcases hf k hkk with h | h
      · exact ⟨fun e => nb1 (e ▸ h), fun h' => nd k h' k h rfl⟩
      · exact ⟨by omega, fun h' => by have := h0.lt k h'; omega⟩
    refine ⟨free_of hbB 1, cells_of hbB 1, b :: (blk A0 ++ blk A'), ⟨A0, A', c0, c', ?_, ?_, ?_, rfl, ?_⟩, ?_, ?_⟩
    · rw [heap_setCell_same wB b 1 _ 36 _ hbB]
      simp [upd]
    · have := (h0.keep hk (by intro k hkk hh; exact nd k hkk k hh rfl)).keep hk2 (by intro k hkk; simp; rintro rfl; exact nb0 hkk)
      simpa [upd] using this
    · exact (by simpa [upd] using ho.keep hk2 (by intro k hkk; simpa using (hA' k hkk).1))
    · simp only [List.nodup_cons, List.nodup_append, List.mem_append, not_or]
      exact ⟨⟨nb0, fun h => (hA' b h).1 rfl⟩, blk_nodup _, blk_nodup _, fun k hk1 k' hk2' e => by subst e; exact (hA' k hk2').2 hk1⟩
    · exact hk.trans hk2 (by intro k hkk; rw [hE]; simp [hkk]) (by intro k hkk; rw [hE]; simp at hkk; simp [hkk])
    · intro k hkk
      have hz := hk2.size
      simp only [List.mem_cons, List.mem_append] at hkk
      rcases hkk with rfl | hkk | hkk
      · exact .inl (by rw [hE]; simp)
      · exact .inl (by rw [hE]; simp [hkk])
      · rcases hf k hkk with h | h
        · exact .inl (by rw [hE]; simp [h])
        · exact .inr ⟨h.1, by omega⟩

def SF (st : LS) : Nat → List UInt8 := fun i => if i = 0 then st.s0 else st.s1
def QF (st : LS) : Nat → List UInt8 := fun i => if i = 0 then st.q0 else st.q1
theorem sent_SF (st : LS) (s : Nat) (hs : s < 2) : st.sent (s : Int) = SF st s := by
  obtain rfl | rfl : s = 0 ∨ s = 1 := by omega
  · rfl
  · rfl
theorem wait_QF (st : LS) (s : Nat) (hs : s < 2) : st.wait (s : Int) = QF st s := by
  obtain rfl | rfl : s = 0 ∨ s = 1 := by omega
  · rfl
  · rfl
theorem SF_send (st : LS) (xs : List UInt8) (s : Nat) (hs : s < 2) : ∀ i, i < 2 → SF (st.send (s : Int) xs) i = upd (SF st) s (SF st s ++ st.arr xs) i := by
  intro i hi
  obtain rfl | rfl : s = 0 ∨ s = 1 := by omega
  · obtain rfl | rfl : i = 0 ∨ i = 1 := by omega
    · rfl
    · rfl
  · obtain rfl | rfl : i = 0 ∨ i = 1 := by omega
    · rfl
    · rfl
theorem QF_send (st : LS) (xs : List UInt8) (s : Nat) (hs : s < 2) : ∀ i, i < 2 → QF (st.send (s : Int) xs) i = upd (QF st) (1 - s) (QF st (1 - s) ++ st.arr xs) i := by
  intro i hi
  obtain rfl | rfl : s = 0 ∨ s = 1 := by omega
  · obtain rfl | rfl : i = 0 ∨ i = 1 := by omega
    · rfl
    · rfl
  · obtain rfl | rfl : i = 0 ∨ i = 1 := by omega
    · rfl
    · rfl
theorem SF_recv (st : LS) (s : Nat) (hs : s < 2) : ∀ i, i < 2 → SF (st.recv (s : Int)) i = SF st i := by
  intro i hi
  obtain rfl | rfl : s = 0 ∨ s = 1 := by omega
  · obtain rfl | rfl : i = 0 ∨ i = 1 := by omega
    · rfl
    · rfl
  · obtain rfl | rfl : i = 0 ∨ i = 1 := by omega
    · rfl
    · rfl
theorem QF_recv (st : LS) (s : Nat) (hs : s < 2) : ∀ i, i < 2 → QF (st.recv (s : Int)) i = upd (QF st) s [] i := by
  intro i hi
  obtain rfl | rfl : s = 0 ∨ s = 1 := by omega
  · obtain rfl | rfl : i = 0 ∨ i = 1 := by omega
    · rfl
    · rfl
  · obtain rfl | rfl : i = 0 ∨ i = 1 := by omega
    · rfl
    · rfl

theorem Arr.congr {w : World} {b : Nat} {E : List Nat} {x y : Nat → List UInt8} (h : Arr w b E x) (he : ∀ i, i < 2 → y i = x i) : Arr w b E y := by
  obtain ⟨A0, A1, c0, c1, hb, h0, h1, hE, hn⟩ := h
  refine ⟨A0, A1, c0, c1, ?_, ?_, ?_, hE, hn⟩
  · rw [he 0 (by omega), he 1 (by omega)]; exact hb
  · rw [he 0 (by omega)]; exact h0
  · rw [he 1 (by omega)]; exact h1
end Go.Proofs.Ytbajpofmaffpgaa
