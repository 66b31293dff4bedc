/- A slice of calls (Op) that came in, opened once: its cells, call by call. -/
import Derived.Test.YtbajpofmaffpgaaCuts
import Derived.ProofKit
import Derived.Deep.Slices
import Derived.SizedLaws
namespace Go.Proofs.Ytbajpofmaffpgaa
open Go.RowKit Go.Deep
open Go.ChangeShapes Go.WideShapes
set_option linter.unusedSimpArgs false
set_option linter.unusedVariables false

/-- A call on a link, as the law's argument says it. -/
structure OpD where
  kind : Int
  side : Int
  X : List UInt8
  n : Int
  mask : UInt8

structure OpD.Wf (o : OpD) : Prop where
  s0 : -9223372036854775808 ≤ o.side
  s1 : o.side ≤ 9223372036854775807
  k0 : -9223372036854775808 ≤ o.kind
  k1 : o.kind ≤ 9223372036854775807
  n0 : -9223372036854775808 ≤ o.n
  n1 : o.n ≤ 9223372036854775807

/-- One call's five cells. -/
structure OpAt (w : World) (B : Nat) (b o : Nat) (d : OpD) (A : Option Addr) (c : Nat) : Prop where
  kind : w.cell? ⟨b, o, none⟩ = some (.int .i64 d.kind)
  side : w.cell? ⟨b, o + 1, none⟩ = some (.int .i64 d.side)
  X : w.cell? ⟨b, o + 2, none⟩ = some (.slice A d.X.length c)
  n : w.cell? ⟨b, o + 3, none⟩ = some (.int .i64 d.n)
  mask : w.cell? ⟨b, o + 4, none⟩ = some (.int .u8 (d.mask.toNat : Int))
  src : Src w (· < B) A d.X
  cap : d.X.length ≤ c
  wf : d.Wf

def OpsAt (w : World) (B : Nat) (a : Option Addr) (L : List OpD) : Prop :=
  0 < L.length → ∃ b o, a = some ⟨b, o, none⟩ ∧ b < B ∧ B ≤ w.heap.size ∧ ∀ i (hi : i < L.length), ∃ A c, OpAt w B b (o + i * 5) L[i] A c

theorem OpAt.keep {w w' : World} {B b o : Nat} {d : OpD} {A : Option Addr} {c : Nat} (h : OpAt w B b o d A c) (hb : b < B) (hB : B ≤ w.heap.size) {F : List Nat} (hk : Kept F w w') (hF : ∀ x ∈ F, B ≤ x) : OpAt w' B b o d A c := by
  have hn : b ∉ F := fun hx => by have := hF b hx; omega
  have hc : ∀ j, w'.cell? ⟨b, j, none⟩ = w.cell? ⟨b, j, none⟩ := fun j => hk.cell (p := ⟨b, j, none⟩) (by show b < _; omega) hn
  exact ⟨(hc _).trans h.kind, (hc _).trans h.side, (hc _).trans h.X, (hc _).trans h.n, (hc _).trans h.mask, h.src.keep hk (fun x hx hf => by have := hF x hf; omega), h.cap, h.wf⟩

theorem OpsAt.keep {w w' : World} {B : Nat} {a : Option Addr} {L : List OpD} (h : OpsAt w B a L) {F : List Nat} (hk : Kept F w w') (hF : ∀ x ∈ F, B ≤ x) : OpsAt w' B a L := fun hn => by
  obtain ⟨b, o, ha, hb, hB, hi⟩ := h hn
  refine ⟨b, o, ha, hb, Nat.le_trans hB hk.size, fun i hl => ?_⟩
  obtain ⟨A, c, hat⟩ := hi i hl
  exact ⟨A, c, hat.keep hb hB hk hF⟩

section
variable {H : Type} {enc : TypeId × Value → H}
theorem cells38 : Try.prog.cellsOf 38 = 5 := by kernel_rfl
theorem cells3 : Try.prog.cellsOf 3 = 1 := by kernel_rfl
theorem cells22 : Try.prog.cellsOf 22 = 1 := by kernel_rfl
theorem cells5 : Try.prog.cellsOf 5 = 1 := by kernel_rfl

theorem bytes5 : Try.prog.bytesOf 5 = 1 := by kernel_rfl

theorem op_of_trod {W : World} {fuel : Nat} {ad : Addr} {cs : List Value} {x : DataW H × List MemPlace} (hc : W.cells? 0 ad 5 = some cs) (h : DataW.trod enc Try.prog W 0 (fun _ => true) true fuel 38 cs = some x)
    (hsz : ∀ n ∈ DataW.weights Try.prog 38 x.1, n ≤ 140737488351232) :
    ad.spot = none ∧ ∃ d A c, OpAt W W.heap.size ad.block ad.off d A c ∧ d.X.length ≤ 140737488351232 := by
  obtain ⟨_, hlen, hcell⟩ := World.cells?_some hc
  obtain ⟨xs, n, _, hx1, _, hxl, hf⟩ := DataW.trod_struct Try.underlying38 h
  match cs, hlen with
  | [v0, v1, v2, v3, v4], _ =>
    obtain ⟨b, o, s⟩ := ad
    have g0 : W.cell? (Addr.add ⟨b, o, s⟩ 0) = some v0 := hcell 0 (by omega)
    have hs : s = none := by simpa [Addr.add] using World.cell?_spot g0
    subst hs
    have c0 : W.cell? ⟨b, o, none⟩ = some v0 := by have := hcell 0 (by omega); rwa [addr_add] at this
    have c1 : W.cell? ⟨b, o + 1, none⟩ = some v1 := by have := hcell 1 (by omega); rwa [addr_add] at this
    have c2 : W.cell? ⟨b, o + 2, none⟩ = some v2 := by have := hcell 2 (by omega); rwa [addr_add] at this
    have c3 : W.cell? ⟨b, o + 3, none⟩ = some v3 := by have := hcell 3 (by omega); rwa [addr_add] at this
    have c4 : W.cell? ⟨b, o + 4, none⟩ = some v4 := by have := hcell 4 (by omega); rwa [addr_add] at this
    have f0 := hf 0 _ rfl
    have f1 := hf 1 _ rfl
    have f2 := hf 2 _ rfl
    have f3 := hf 3 _ rfl
    have f4 := hf 4 _ rfl
    match xs, hxl with
    | [y0, y1, y2, y3, y4], _ =>
      simp [cells3, cells22, cells5] at f0 f1 f2 f3 f4
      obtain ⟨n0, e0, _, w0⟩ := DataW.trod_int Try.underlying3 f0
      obtain ⟨n1, e1, _, w1⟩ := DataW.trod_int Try.underlying3 f1
      obtain ⟨n3, e3, _, w3⟩ := DataW.trod_int Try.underlying3 f3
      obtain ⟨n4, e4, _, w4⟩ := DataW.trod_int Try.underlying5 f4
      simp only [List.cons.injEq, and_true] at e0 e1 e3 e4
      subst e0; subst e1; subst e3; subst e4
      have hm := wf_u8 w4
      have hX : ∃ A c X, v2 = .slice A (List.length X) c ∧ Src W (· < W.heap.size) A X ∧ X.length ≤ c ∧ X.length ≤ 140737488351232 := by
        rcases open_ints Try.underlying22 Try.underlying5 cells5 f2 with ⟨hcs, _⟩ | ⟨a, l, c, zs, hcs, _, hl, hmx, hz, hy2, hcell', hwz⟩
        · simp only [List.cons.injEq, and_true] at hcs
          exact ⟨none, 0, [], hcs, Src.nil _ _ _, Nat.le_refl _, by simp⟩
        · simp only [List.cons.injEq, and_true] at hcs
          simp only [if_true] at hz
          obtain ⟨s1, s2⟩ := src_ints (n := l) (by omega) hcell' hwz
          refine ⟨some a, c, bytesOf zs l, by rw [hcs, s2], s1, by omega, ?_⟩
          have hw := hsz (((zs.take l).length + (zs.drop l).length) * 1) (by
            rw [hx1, hy2]
            simp [DataW.weights, DataW.weightsEach, Try.underlying38, Try.underlying22, bytes5, lits])
          simp at hw
          omega
      obtain ⟨A, c, X, rfl, hs1, hs2, hs3⟩ := hX
      have b0 := wf_i64 w0
      have b1 := wf_i64 w1
      have b3 := wf_i64 w3
      refine ⟨rfl, ⟨n0, n1, X, n3, UInt8.ofNat n4.toNat⟩, A, c, ⟨c0, c1, c2, c3, ?_, hs1, hs2, ⟨b1.1, b1.2, b0.1, b0.2, b3.1, b3.2⟩⟩, hs3⟩
      rw [c4]
      simp only [Option.some.injEq, Value.int.injEq, true_and]
      rw [UInt8.toNat_ofNat_of_lt' (by simp [UInt8.size]; omega)]
      omega

theorem weightsAll_mem {P : Program} {e : TypeId} {d : DataW H} {n : Nat} : ∀ {l : List (DataW H)}, d ∈ l → n ∈ DataW.weights P e d → n ∈ DataW.weightsAll P e l
  | x :: r, hd, hn => by
    simp only [DataW.weightsAll, List.mem_append]
    rcases List.mem_cons.1 hd with rfl | hd
    · exact .inl hn
    · exact .inr (weightsAll_mem hd hn)

theorem ops_of_trod {W : World} {fuel : Nat} {a : Option Addr} {len cap : Nat} {x : DataW H × List MemPlace} (h : DataW.trod enc Try.prog W 0 (fun _ => true) true fuel 34 [.slice a len cap] = some x)
    (hsz : ∀ n ∈ DataW.weights Try.prog 34 x.1, n ≤ 140737488351232) :
    ∃ L : List OpD, L.length = len ∧ OpsAt W W.heap.size a L ∧ (∀ i (hi : i < L.length), L[i].X.length ≤ 140737488351232) ∧ L.length ≤ 9223372036854775807 := by
  rcases open_slice Try.underlying34 h with ⟨hcs, _⟩ | ⟨ad, l, c, m, n, D, Pl, hcs, _, hl, hm, hme, hxx, hel⟩
  · simp only [List.cons.injEq, and_true, Value.slice.injEq] at hcs
    obtain ⟨rfl, rfl, rfl⟩ := hcs
    exact ⟨[], rfl, fun h0 => absurd h0 (by simp), fun i hi => absurd hi (by simp), by simp⟩
  · simp only [List.cons.injEq, and_true, Value.slice.injEq] at hcs
    obtain ⟨rfl, rfl, rfl⟩ := hcs
    simp only [if_true] at hme
    subst hme
    rw [cells38] at hel
    rcases Nat.eq_zero_or_pos len with h0 | hpos
    · exact ⟨[], by simp [h0], fun h0 => absurd h0 (by simp), fun i hi => absurd hi (by simp), by simp⟩
    · have hszi : ∀ i, i < len → ∀ n ∈ DataW.weights Try.prog 38 (D i), n ≤ 140737488351232 := by
        intro i hi n hn
        refine hsz n ?_
        rw [hxx]
        simp only [DataW.weights, Try.underlying34, List.mem_cons, List.mem_append]
        refine .inr (.inl ?_)
        exact weightsAll_mem (List.mem_map.2 ⟨i, List.mem_range.2 hi, rfl⟩) hn
      have hsp : ad.spot = none := by
        obtain ⟨cs', h1, h2⟩ := hel 0 (by omega)
        have e : ad.add (0 * 5) = ad := by simp [Addr.add]
        rw [e] at h1
        exact (op_of_trod h1 h2 (hszi 0 hpos)).1
      have hel' : ∀ i, i < len → ∃ d A c, OpAt W W.heap.size ad.block (ad.off + i * 5) d A c ∧ d.X.length ≤ 140737488351232 := by
        intro i hi
        obtain ⟨cs', h1, h2⟩ := hel i (by omega)
        obtain ⟨h3, d, A, c, h4, h5⟩ := op_of_trod h1 h2 (hszi i hi)
        have e : (ad.add (i * 5)).block = ad.block ∧ (ad.add (i * 5)).off = ad.off + i * 5 := by
          unfold Addr.add
          split
          · rename_i hz; exact ⟨rfl, by omega⟩
          · exact ⟨rfl, rfl⟩
        rw [e.1, e.2] at h4
        exact ⟨d, A, c, h4, h5⟩
      classical
      refine ⟨List.ofFn (n := len) fun i => Classical.choose (hel' i.1 i.2), by simp, fun _ => ⟨ad.block, ad.off, ?_, ?_, Nat.le_refl _, fun i hi => ?_⟩, fun i hi => ?_, ?_⟩
      · obtain ⟨b, o, s⟩ := ad
        simp at hsp
        subst hsp
        rfl
      · obtain ⟨d, A, c, h4, _⟩ := hel' 0 hpos
        exact World.block_lt_of_cell? W ⟨ad.block, ad.off + 0 * 5, none⟩ h4.kind
      · have hi' : i < len := by simpa using hi
        obtain ⟨A, c, h4, _⟩ := Classical.choose_spec (hel' i hi')
        exact ⟨A, c, by simpa using h4⟩
      · have hi' : i < len := by simpa using hi
        obtain ⟨A, c, _, h5⟩ := Classical.choose_spec (hel' i hi')
        simpa using h5
      · simp
        unfold maxLen at hm
        omega
end

theorem OpsAt.op {w : World} {B b o : Nat} {L : List OpD} (h : OpsAt w B (some ⟨b, o, none⟩) L) {i : Nat} (hi : i < L.length) : ∃ A c, OpAt w B b (o + i * 5) L[i] A c := by
  obtain ⟨b', o', e, _, _, hh⟩ := h (by omega)
  injection e with e
  injection e with e1 e2
  subst e1; subst e2
  exact hh i hi
end Go.Proofs.Ytbajpofmaffpgaa
