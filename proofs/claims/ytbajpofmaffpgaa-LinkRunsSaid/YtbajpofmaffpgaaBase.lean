/- Plain words on worlds, bytes, rows of the call's own, and the append of bytes: no program in sight. -/
import Derived.WalkKit
import Derived.Deep.AppendLies
import Derived.Laws.CopyOwn
import Derived.Deep.Draws
namespace Go.Proofs.Ytbajpofmaffpgaa
open Go.RowKit
set_option linter.unusedSimpArgs false
set_option linter.unusedVariables false

/-- A fact that the walk shall not use. -/
theorem hide {p : Prop} (h : p) : Hid p := h

/-- Bytes as cells. -/
def bs (xs : List UInt8) : List Value := xs.map fun b => .int .u8 (b.toNat : Int)

theorem bs_length (xs : List UInt8) : (bs xs).length = xs.length := by simp [bs]
theorem bs_append (xs ys : List UInt8) : bs (xs ++ ys) = bs xs ++ bs ys := by simp [bs]
theorem bs_one (xs : List UInt8) : ∀ u ∈ bs xs, u.oneCell' = true := by
  intro u hu
  simp only [bs, List.mem_map] at hu
  obtain ⟨b, _, rfl⟩ := hu
  rfl
theorem bs_take (xs : List UInt8) (n : Nat) : (bs xs).take n = bs (xs.take n) := by simp [bs]
theorem bs_getElem? (xs : List UInt8) (j : Nat) : (bs xs)[j]? = (xs[j]?).map fun b => .int .u8 (b.toNat : Int) := by simp [bs]

/-- The blocks outside F are as they were. -/
structure Kept (F : List Nat) (w w' : World) : Prop where
  os : w'.os = w.os
  tape : w'.tape = w.tape
  output : w'.output = w.output
  size : w.heap.size ≤ w'.heap.size
  block : ∀ k, k < w.heap.size → k ∉ F → w'.heap[k]? = w.heap[k]?

namespace Kept
theorem refl (F : List Nat) (w : World) : Kept F w w := ⟨rfl, rfl, rfl, Nat.le_refl _, fun _ _ _ => rfl⟩
theorem trans {F G H : List Nat} {a b c : World} (h : Kept F a b) (k : Kept G b c) (hF : ∀ x ∈ F, x ∈ H) (hG : ∀ x ∈ G, x ∈ H ∨ a.heap.size ≤ x) : Kept H a c :=
  ⟨k.os.trans h.os, k.tape.trans h.tape, k.output.trans h.output, Nat.le_trans h.size k.size, fun x hx hn =>
    (k.block x (Nat.lt_of_lt_of_le hx h.size) (fun hg => (hG x hg).elim hn (fun hge => by omega))).trans (h.block x hx (fun hf => hn (hF x hf)))⟩
theorem new {G : List Nat} {a b c : World} (h : Kept [] a b) (k : Kept G b c) (hG : ∀ x ∈ G, a.heap.size ≤ x) : Kept [] a c :=
  h.trans k (by simp) (fun x hx => .inr (hG x hx))
theorem mono {F H : List Nat} {a b : World} (h : Kept F a b) (hF : ∀ x ∈ F, x ∈ H ∨ a.heap.size ≤ x) : Kept H a b :=
  ⟨h.os, h.tape, h.output, h.size, fun x hx hn => h.block x hx (fun hf => (hF x hf).elim hn (fun hge => by omega))⟩
theorem drew {F : List Nat} {a b : World} (h : Kept F a b) : Kept F a b.drew := ⟨h.os, h.tape, h.output, h.size, h.block⟩
theorem drewN {F : List Nat} {a b : World} (h : Kept F a b) (n : Nat) : Kept F a (b.drewN n) := ⟨h.os, h.tape, h.output, h.size, h.block⟩
theorem alloc {F : List Nat} {a b : World} (h : Kept F a b) (o : Obj) : Kept F a (b.alloc o) :=
  ⟨h.os, h.tape, h.output, Nat.le_trans h.size (by simp), fun x hx hn => (Below.heap_alloc b o x (Nat.lt_of_lt_of_le hx h.size)).trans (h.block x hx hn)⟩
theorem setCell {F : List Nat} {a b : World} (h : Kept F a b) (p : Addr) (u : Value) (hp : p.block ∈ F ∨ a.heap.size ≤ p.block) : Kept F a (b.setCell p u) :=
  ⟨h.os, h.tape, h.output, by simpa [World.setCell] using h.size, fun x hx hn => (Below.heap_setCell b p u x (fun e => by
    subst e
    rcases hp with hp | hp
    · exact hn hp
    · omega)).trans (h.block x hx hn)⟩
theorem grown {F : List Nat} {a b c : World} {row : Option Nat} (h : Kept F a b) (hg : b.grownBy c row) (hr : ∀ k, row = some k → k ∈ F ∨ a.heap.size ≤ k) : Kept F a c :=
  ⟨hg.os.trans h.os, hg.tape.trans h.tape, hg.output.trans h.output, Nat.le_trans h.size hg.size, fun x hx hn =>
    (hg.block x (Nat.lt_of_lt_of_le hx h.size) (fun e => (hr x e.symm).elim hn (fun hge => by omega))).trans (h.block x hx hn)⟩
theorem below {F : List Nat} {a b : World} (h : Kept F a b) {B : Nat} (hB : B ≤ a.heap.size) (hF : ∀ x ∈ F, B ≤ x) : Below B a b :=
  ⟨h.os, h.tape, h.output, h.size, fun k hk => h.block k (by omega) (fun hf => by have := hF k hf; omega)⟩
theorem cell {F : List Nat} {a b : World} (h : Kept F a b) {p : Addr} (hp : p.block < a.heap.size) (hn : p.block ∉ F) : b.cell? p = a.cell? p :=
  World.cell?_of_block (h.block p.block hp hn)
theorem frozen {F : List Nat} {a b : World} (h : Kept F a b) {p : Addr} (hp : p.block < a.heap.size) (hn : p.block ∉ F) : b.frozen? p = a.frozen? p :=
  World.frozen?_of_block (h.block p.block hp hn)
end Kept

/-- The block of an address, if there is one. -/
def blk (A : Option Addr) : List Nat := (A.map (·.block)).toList

/-- A slice value over bytes that reads as xs: its block meets D. -/
structure Src (w : World) (D : Nat → Prop) (A : Option Addr) (xs : List UInt8) : Prop where
  at_ : 0 < xs.length → ∃ ad, A = some ad ∧ D ad.block ∧ ∀ j u, (bs xs)[j]? = some u → w.cell? (ad.add j) = some u

theorem block_add (a : Addr) (k : Nat) : (a.add k).block = a.block := by unfold Addr.add; split <;> rfl

namespace Src
variable {w w' : World} {D D' : Nat → Prop} {A : Option Addr} {xs : List UInt8}
theorem nil (w : World) (D : Nat → Prop) (A : Option Addr) : Src w D A [] := ⟨fun h => absurd h (by simp)⟩
theorem keep (h : Src w D A xs) {F : List Nat} (hk : Kept F w w') (hD : ∀ k, D k → k ∉ F) : Src w' D A xs :=
  ⟨fun hn => by
    obtain ⟨ad, e, hd, hc⟩ := h.at_ hn
    refine ⟨ad, e, hd, fun j u hu => ?_⟩
    have hcj := hc j u hu
    have hlt := World.block_lt_of_cell? w _ hcj
    rw [hk.cell hlt (by rw [block_add]; exact hD _ hd)]
    exact hcj⟩
theorem mono (h : Src w D A xs) (hD : ∀ k, D k → D' k) : Src w D' A xs :=
  ⟨fun hn => by
    obtain ⟨ad, e, hd, hc⟩ := h.at_ hn
    exact ⟨ad, e, hD _ hd, hc⟩⟩
theorem take (h : Src w D A xs) (n : Nat) : Src w D A (xs.take n) :=
  ⟨fun hn => by
    obtain ⟨ad, e, hd, hc⟩ := h.at_ (by simp at hn; omega)
    refine ⟨ad, e, hd, fun j u hu => hc j u ?_⟩
    rw [← bs_take, List.getElem?_take] at hu
    split at hu
    · exact hu
    · cases hu⟩
theorem drew (h : Src w D A xs) : Src w.drew D A xs := ⟨h.at_⟩
end Src

/-- A row of the call's own that holds just xs. -/
def Own (w : World) (A : Option Addr) (c : Nat) (xs : List UInt8) : Prop := w.ownsRow 0 5 1 (.slice A xs.length c) xs.length (bs xs)

theorem ownBlock_slice (A : Option Addr) (n c : Nat) : (Value.slice A n c).ownBlock = A.map (·.block) := by
  cases A <;> rfl

namespace Own
variable {w w' : World} {A : Option Addr} {c : Nat} {xs : List UInt8}
theorem nil (w : World) : Own w none 0 [] := World.ownsRow_nil w 0 5 1
theorem keep (h : Own w A c xs) {F : List Nat} (hk : Kept F w w') (hF : ∀ k ∈ blk A, k ∉ F) : Own w' A c xs := by
  refine ⟨h.1, ?_⟩
  rcases h.2 with hn | ⟨g, cap, cur, e, hb, hg, rest⟩
  · exact .inl hn
  · refine .inr ⟨g, cap, cur, e, hb, ?_, rest⟩
    injection e with e1 e2 e3
    subst e1
    rw [hk.block g (Array.getElem?_eq_some_iff.1 hg).1 (hF g (by simp [blk]))]
    exact hg
theorem drew (h : Own w A c xs) : Own w.drew A c xs := h
theorem lt (h : Own w A c xs) : ∀ k ∈ blk A, k < w.heap.size := by
  intro k hk
  rcases h.2 with ⟨e, _⟩ | ⟨g, cap, cur, e, hb, hg, rest⟩
  · injection e with e1; subst e1; simp [blk] at hk
  · injection e with e1; subst e1; simp [blk] at hk; subst hk
    exact (Array.getElem?_eq_some_iff.1 hg).1
theorem cap_ge (h : Own w A c xs) : xs.length ≤ c := by
  rcases h.2 with ⟨e, h0⟩ | ⟨g, cap, cur, e, hb, hg, hnc, rest⟩
  · injection e with e1 e2 e3; omega
  · injection e with e1 e2 e3; omega
theorem src (h : Own w A c xs) : Src w (· ∈ blk A) A xs :=
  ⟨fun hn => by
    rcases h.2 with ⟨e, h0⟩ | ⟨g, cap, cur, e, hb, hg, hnc, rest⟩
    · omega
    · injection e with e1 e2 e3
      subst e1
      exact ⟨_, rfl, by simp [blk], fun j u hu => World.ownsRow.cells h (g := g) rfl j u hu⟩⟩
/-- One cell of it. -/
theorem cellAt (h : Own w A c xs) (j : Nat) (hj : j < xs.length) : ∃ g, A = some ⟨g, 0, none⟩ ∧ w.cell? ⟨g, j, none⟩ = some (.int .u8 (xs[j].toNat : Int)) ∧ w.frozen? ⟨g, j, none⟩ = false := by
  rcases h.2 with ⟨e, h0⟩ | ⟨g, cap, cur, e, hb, hg, hnc, rest⟩
  · omega
  · injection e with e1 e2 e3
    subst e1
    refine ⟨g, rfl, ?_, ?_⟩
    · have hh := World.ownsRow.cells h (g := g) rfl j (.int .u8 (xs[j].toNat : Int)) (by rw [bs_getElem?, List.getElem?_eq_getElem hj]; rfl)
      have ha : (⟨g, 0, none⟩ : Addr).add j = ⟨g, j, none⟩ := by unfold Addr.add; split <;> simp_all
      rwa [ha] at hh
    · exact frozen_of_row w g j cur 5 hg
end Own

section
variable {P : Program}

/-- append of bytes onto a row of the call's own, whatever the source. -/
theorem run_append_src {T ty : TypeId} {i : TypeInfo} (ht : P.underlying T = some (.slice 5)) (hi : P.info? 5 = some i) (hz : i.zero = some (.int .u8 0)) (hsize : i.size = 1) (hby : i.bytes = 1)
    {w : World} {A : Option Addr} {c : Nat} {xs : List UInt8} (ho : Own w A c xs) {D : Nat → Prop} {B : Option Addr} {ys : List UInt8} (hs : Src w D B ys) (d : Nat)
    (hn : xs.length + ys.length ≤ 140737488355328) :
    ∃ A' c' w', (Builtin.append_ #[T, T] ty #[.slice A xs.length c, .slice B ys.length d]).run P w = .ok (.slice A' (xs.length + ys.length) c') w' ∧
      Own w' A' c' (xs ++ ys) ∧ Kept (blk A) w w' ∧ (∀ k ∈ blk A', k ∈ blk A ∨ (w.heap.size ≤ k ∧ k < w'.heap.size)) := by
  have shape : ∀ (v' : Value) (w' : World), w'.ownsRow 0 5 1 v' (xs.length + ys.length) (bs xs ++ bs ys) → ∃ A' c', v' = .slice A' (xs.length + ys.length) c' ∧ Own w' A' c' (xs ++ ys) := by
    intro v' w' h
    rcases h.2 with ⟨rfl, h0⟩ | ⟨g, cap, cur, rfl, hb, hg, rest⟩
    · refine ⟨none, 0, by rw [h0], ?_⟩
      have hx : xs = [] := List.eq_nil_of_length_eq_zero (by omega)
      have hy : ys = [] := List.eq_nil_of_length_eq_zero (by omega)
      subst hx; subst hy
      exact Own.nil w'
    · refine ⟨_, _, rfl, ?_⟩
      unfold Own
      rw [List.length_append, bs_append]
      exact h
  by_cases h0 : ys.length = 0
  · obtain rfl : ys = [] := List.eq_nil_of_length_eq_zero h0
    rcases ho.2 with ⟨e, hx0⟩ | ⟨g, cap, cur, e, hb, hg, hnc, rest⟩
    · injection e with e1 e2 e3
      subst e1; subst e3
      obtain rfl : xs = [] := List.eq_nil_of_length_eq_zero hx0
      refine ⟨none, 0, w, ?_, by simpa using ho, Kept.refl _ _, fun k hk => .inl hk⟩
      simp [Builtin.append_, run_underlying ht, sizeOf, typeInfo, hi, Builtin.lenOf, Builtin.firstCells]
      cases B <;> simp [Builtin.firstCells, loadCells, loadCellsFrom]
    · injection e with e1 e2 e3
      subst e1; subst e3
      refine ⟨_, c, w, ?_, by simpa using ho, Kept.refl _ _, fun k hk => .inl hk⟩
      have hh : xs.length ≤ c := hnc
      cases B <;> simp [Builtin.append_, run_underlying ht, sizeOf, typeInfo, hi, Builtin.lenOf, Builtin.firstCells, hh, loadCells, loadCellsFrom, storeCells]
  · obtain ⟨ad, rfl, hd, hc⟩ := hs.at_ (by omega)
    obtain ⟨v', w', hr, h2, h3, _, h5⟩ := run_append_own_at (P := P) w 0 T ty 5 i (.int .u8 0) 1 1 ht hi hz hsize hby rfl (by omega) (.slice A xs.length c) xs.length (bs xs) ho ad ys.length d (bs ys)
      (by rw [bs_length]; omega) hc (bs_one ys) (by unfold maxLen; omega) (by omega) (Nat.zero_le _)
    obtain ⟨A', c', rfl, ho'⟩ := shape v' w' h2
    refine ⟨A', c', w', hr, ho', ⟨h3.os, h3.tape, h3.output, h3.size, fun k hk hn => h3.block k hk (fun e => hn ?_)⟩, fun k hk => ?_⟩
    · rw [ownBlock_slice] at e
      simp [blk, ← e]
    · rw [ownBlock_slice, ownBlock_slice] at h5
      rcases h5 with h5 | h5
      · left; unfold blk at hk ⊢; rwa [h5] at hk
      · right
        have hlt := ho'.lt k hk
        unfold blk at hk
        rw [h5] at hk
        simp at hk
        omega

theorem step_append_src {T : TypeId} {i : TypeInfo} {ops : Array Oper} {o : Oper} {a : Act} {K : Act → World → Prop} {Q : Exit → Act → World → Prop} {E : Prop} (hgd : o.guard = none) (s x : Operand)
    (ho : o.op = .call { callee := .builtin .append, args := #[s, x], argTypes := #[T, T] })
    (ht : P.underlying T = some (.slice 5)) (hi : P.info? 5 = some i) (hz : i.zero = some (.int .u8 0)) (hsize : i.size = 1) (hby : i.bytes = 1)
    {w : World} {A : Option Addr} {c : Nat} {xs : List UInt8} (hown : Own w A c xs) {D : Nat → Prop} {B : Option Addr} {ys : List UInt8} (hsrc : Src w D B ys) {d : Nat} {n m : Nat} (hxs : xs.length = n) (hys : ys.length = m)
    (hs : a.eval s = .slice A n c) (hx : a.eval x = .slice B m d) (hn : xs.length + ys.length ≤ 140737488355328)
    (h : ∀ A' c' w', Own w' A' c' (xs ++ ys) → Kept (blk A) w w' → (∀ k ∈ blk A', k ∈ blk A ∨ (w.heap.size ≤ k ∧ k < w'.heap.size)) → K (a.put o.dst (.slice A' (n + m) c')) w') :
    if Region.wanted o (yielded ops a.tmps) = true then Oper.wp P o a w K Q else E := by
  have hw : Region.wanted o (yielded ops a.tmps) = true := by simp [Region.wanted, hgd]
  rw [if_pos hw]
  subst hxs; subst hys
  obtain ⟨A', c', w', hr, h2, h3, h4⟩ := run_append_src (P := P) (ty := o.type) ht hi hz hsize hby hown hsrc d hn
  unfold Oper.wp execOp
  simp only [ho, resolve, invoke, builtin, Sem.run_bind, Sem.run_pure, Result.andThen_ok, List.map_toArray, List.map_cons, List.map_nil, hs, hx, hr]
  exact h A' c' w' h2 h3 h4

theorem wpList_append_src {T : TypeId} {i : TypeInfo} {ops : Array Oper} {rest : List Oper} {o : Oper} {a : Act} {Q : Exit → Act → World → Prop} (hgd : o.guard = none) (s x : Operand)
    (ho : o.op = .call { callee := .builtin .append, args := #[s, x], argTypes := #[T, T] })
    (ht : P.underlying T = some (.slice 5)) (hi : P.info? 5 = some i) (hz : i.zero = some (.int .u8 0)) (hsize : i.size = 1) (hby : i.bytes = 1)
    {w : World} {A : Option Addr} {c : Nat} {xs : List UInt8} (hown : Own w A c xs) {D : Nat → Prop} {B : Option Addr} {ys : List UInt8} (hsrc : Src w D B ys) {d : Nat} {n m : Nat} (hxs : xs.length = n) (hys : ys.length = m)
    (hs : a.eval s = .slice A n c) (hx : a.eval x = .slice B m d) (hn : xs.length + ys.length ≤ 140737488355328)
    (h : ∀ A' c' w', Own w' A' c' (xs ++ ys) → Kept (blk A) w w' → (∀ k ∈ blk A', k ∈ blk A ∨ (w.heap.size ≤ k ∧ k < w'.heap.size)) → wpList P ops Q rest (a.put o.dst (.slice A' (n + m) c')) w') :
    wpList P ops Q (o :: rest) a w := by
  refine wpList_plain hgd fun K hK => ?_
  subst hxs; subst hys
  obtain ⟨A', c', w', hr, h2, h3, h4⟩ := run_append_src (P := P) (ty := o.type) ht hi hz hsize hby hown hsrc d hn
  unfold Oper.wp execOp
  simp only [ho, resolve, invoke, builtin, Sem.run_bind, Sem.run_pure, Result.andThen_ok, List.map_toArray, List.map_cons, List.map_nil, hs, hx, hr]
  exact hK _ _ (h A' c' w' h2 h3 h4)
/-- copy of a whole source into a row of the same length that the call has just made. -/
theorem wpList_copy_src {T : TypeId} {ops : Array Oper} {rest : List Oper} {o : Oper} {a : Act} {Q : Exit → Act → World → Prop} (hgd : o.guard = none) (d s : Operand)
    (ho : o.op = .call { callee := .builtin .copy, args := #[d, s], argTypes := #[T, T] })
    (ht : P.underlying T = some (.slice 5)) (hsz : (P.info? 5).map (·.size) = some 1)
    {w : World} {g n c : Nat} {Z : List Value} (hrow : w.ownsRow 0 5 1 (.slice (some ⟨g, 0, none⟩) n c) n Z) {D : Nat → Prop} {B : Option Addr} {ys : List UInt8} (hsrc : Src w D B ys) {dc : Nat} (hys : ys.length = n)
    (hd : a.eval d = .slice (some ⟨g, 0, none⟩) n c) (hs : a.eval s = .slice B n dc)
    (h : ∀ w', Own w' (some ⟨g, 0, none⟩) c ys → Kept [g] w w' → w'.heap.size = w.heap.size → wpList P ops Q rest (a.put o.dst (.int .i64 n)) w') :
    wpList P ops Q (o :: rest) a w := by
  subst hys
  by_cases h0 : ys.length = 0
  · obtain rfl : ys = [] := List.eq_nil_of_length_eq_zero h0
    have hZ : Z = [] := List.eq_nil_of_length_eq_zero (by simpa using hrow.1)
    subst hZ
    exact wpList_copy_nothing hgd d s T T ho 5 ht hsz (some ⟨g, 0, none⟩) B 0 c 0 dc hd hs rfl (h w hrow (Kept.refl _ _) rfl)
  · obtain ⟨ad, rfl, _, hc⟩ := hsrc.at_ (by omega)
    rcases hrow.2 with ⟨e, _⟩ | ⟨g', cap, cur, e, hb, hg, hnc, hcm, hcs, htake⟩
    · injection e with e1; cases e1
    · injection e with e1 e2 e3
      injection e1 with e1
      injection e1 with e1
      subst e1; subst e3
      have hfit : 0 + (bs ys).length ≤ cur.size := by rw [bs_length, hcs]; omega
      refine wpList_copy_own hgd d s T T ho 5 ht hsz g 0 ys.length c ad ys.length dc hd hs cur 5 hg (bs ys) (by rw [bs_length]; simp) hc hfit (bs_one ys) ?_
      rw [bs_length]
      refine h _ ⟨by simp [bs_length], .inr ⟨g, c, _, rfl, hb, setRow_heap w g cur _ 5 _ hg, hnc, hcm, ?_, ?_⟩⟩ ⟨rfl, rfl, rfl, by simp [World.setRow], fun k _ hn => setRow_other w g k _ (by simpa using hn)⟩ (by simp [World.setRow])
      · simp [bs_length, hcs]; omega
      · simp [bs_length]
end

#print axioms step_append_src
end Go.Proofs.Ytbajpofmaffpgaa
