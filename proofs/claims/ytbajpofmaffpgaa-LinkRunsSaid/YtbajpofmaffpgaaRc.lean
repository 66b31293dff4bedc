/- An append as one operation, what a source's blocks are, and the reference's Send where it sends nothing. -/
import Derived.Test.YtbajpofmaffpgaaRb
import Derived.Test.YtbajpofmaffpgaaLox
namespace Go.Proofs.Ytbajpofmaffpgaa
open Go.RowKit
set_option linter.unusedSimpArgs false
set_option linter.unusedVariables false

section
variable {P : Program} {ops : Array Oper} {Q : Exit → Act → World → Prop} {md : Region.Mode} {st : Nat} {w0 : World} {J : World → Prop}

/-- append of bytes from whatever source onto a row of one's own, as one operation. -/
theorem wp_append_src {T : TypeId} {i : TypeInfo} {o : Oper} {a : Act} {K : Act → World → Prop} (s x : Operand)
    (ho : o.op = .call { callee := .builtin .append, args := #[s, x], argTypes := #[T, T] })
    (ht : P.underlying T = some (.slice 5)) (hi : P.info? 5 = some i) (hz : i.zero = some (.int .u8 0)) (hsize : i.size = 1) (hby : i.bytes = 1)
    {w : World} {A : Option Addr} {c : Nat} {xs : List UInt8} (hown : Own w A c xs) {D : Nat → Prop} {B : Option Addr} {ys : List UInt8} (hsrc : Src w D B ys) {d : Nat} {n m : Nat} (hxs : xs.length = n) (hys : ys.length = m)
    (hs : a.eval s = .slice A n c) (hx : a.eval x = .slice B m d) (hn : xs.length + ys.length ≤ 140737488355328)
    (h : ∀ A' c' w', Own w' A' c' (xs ++ ys) → Kept (blk A) w w' → (∀ k ∈ blk A', k ∈ blk A ∨ (w.heap.size ≤ k ∧ k < w'.heap.size)) → K (a.put o.dst (.slice A' (n + m) c')) w') :
    o.wp P a w K Q := by
  subst hxs; subst hys
  obtain ⟨A', c', w', hr, h2, h3, h4⟩ := run_append_src (P := P) (ty := o.type) ht hi hz hsize hby hown hsrc d hn
  unfold Oper.wp execOp
  simp only [ho, resolve, invoke, builtin, Sem.run_bind, Sem.run_pure, Result.andThen_ok, List.map_toArray, List.map_cons, List.map_nil, hs, hx, hr]
  exact h A' c' w' h2 h3 h4
end

theorem Src.lt {w : World} {D : Nat → Prop} {A : Option Addr} {xs : List UInt8} (h : Src w D A xs) : Src w (fun k => D k ∧ k < w.heap.size) A xs :=
  ⟨fun hn => by
    obtain ⟨ad, e, hd, hc⟩ := h.at_ hn
    refine ⟨ad, e, ⟨hd, ?_⟩, hc⟩
    have hx : (bs xs)[0]? = some (.int .u8 (xs[0].toNat : Int)) := by rw [bs_getElem?, List.getElem?_eq_getElem hn]; rfl
    have := World.block_lt_of_cell? w _ (hc 0 _ hx)
    rwa [block_add] at this⟩

theorem RefC.lt {w : World} {D : Nat → Prop} {st : LS} {A0 A1 A2 A3 : Option Addr} {c0 c1 c2 c3 : Nat} (h : RefC w D st A0 A1 A2 A3 c0 c1 c2 c3) : RefC w (fun k => D k ∧ k < w.heap.size) st A0 A1 A2 A3 c0 c1 c2 c3 :=
  ⟨h.s0.lt, h.q0.lt, h.s1.lt, h.q1.lt⟩

theorem src_one (w : World) (x : UInt8) : Src (w.alloc (.cells #[.int .u8 (x.toNat : Int)] 5)) (· = w.heap.size) (some ⟨w.heap.size, 0, none⟩) [x] :=
  Src.of_block (T := 5) (fr := (0, 0)) (heap_alloc_new w _)

theorem rtotal_raw (n0 n1 : Nat) (hb : (n0 : Int) + n1 ≤ 4611686018427387904) (v0 v1 v4 v5 v6 : Value) (A0 A1 : Option Addr) (c0 c1 : Nat) (w : World) :
    Calls Try.prog 28 #[.agg #[v0, v1, .slice A0 n0 c0, .slice A1 n1 c1, v4, v5, v6]] w fun e w' => e = .returned (.int .i64 ((n0 : Int) + n1)) ∧ Kept [] w w' := by
  go_enter Try.func28, Try.ntmps28
  go_wp2
  go_ret
  exact ⟨by simp, (Kept.refl _ _).alloc _⟩

theorem rsend_no {w : World} {D : Nat → Prop} {v : Value} {st : LS} (h : RefV w D v st) (k : Int) (x : Value) (hk0 : (k == 0) = false) (hk1 : (k == 1) = false) :
    Calls Try.prog 21 #[v, .int .i64 k, x] w fun e w' => e = .returned (.tuple #[v, .int .i64 0, .int .i64 1]) ∧ Kept [] w w' := by
  obtain ⟨A0, A1, A2, A3, c0, c1, c2, c3, rfl, hc⟩ := h
  clear hc
  unfold rv
  go_enter Try.func21, Try.ntmps21
  go_wp2_with (go_at_call 27; refine (rside_no _ _ hk0 hk1).mono ?_; rintro e w' ⟨rfl, rfl⟩)
  (try simp only [Exit.inBlock, Exit.then])
  refine bodyPost_ret (by simp [results, Try.results21, go_sem]; try rfl) rfl ?_
  exact ⟨rfl, ((Kept.refl _ _).alloc _).alloc _⟩

theorem rsend_down {w : World} {D : Nat → Prop} {v : Value} {st : LS} (h : RefV w D v st) (k : Int) (x : Value) (hk : k = 0 ∨ k = 1) (hd : st.down = true) :
    Calls Try.prog 21 #[v, .int .i64 k, x] w fun e w' => e = .returned (.tuple #[v, .int .i64 0, .int .i64 15]) ∧ Kept [] w w' := by
  obtain ⟨A0, A1, A2, A3, c0, c1, c2, c3, rfl, hc⟩ := h
  clear hc
  have HK := hide hk
  clear hk
  unfold rv
  rw [hd]
  go_enter Try.func21, Try.ntmps21
  go_wp2_with (go_at_call 27; refine (rside_yes _ _ HK.out).mono ?_; rintro e w' ⟨rfl, rfl⟩)
  (try simp only [Exit.inBlock, Exit.then])
  refine bodyPost_ret (by simp [results, Try.results21, go_sem]; try rfl) rfl ?_
  exact ⟨rfl, ((Kept.refl _ _).alloc _).alloc _⟩
end Go.Proofs.Ytbajpofmaffpgaa
