/- The walk of LinkTogether. -/
import Derived.Test.YtbajpofmaffpgaaLinkW
namespace Go.Proofs.Ytbajpofmaffpgaa
open Go.RowKit
set_option linter.unusedSimpArgs false
set_option linter.unusedVariables false

theorem and_one (n : Int) (h0 : -9223372036854775808 ≤ n) (h1 : n ≤ 9223372036854775807) : ∃ k : Int, (k = 0 ∨ k = 1) ∧ bits .and .i64 n 1 = k := by
  refine ⟨_, ?_, rfl⟩
  show IntKind.i64.wrap ((BitVec.ofInt 64 n &&& BitVec.ofInt 64 1).toNat : Int) = 0 ∨ IntKind.i64.wrap ((BitVec.ofInt 64 n &&& BitVec.ofInt 64 1).toNat : Int) = 1
  have hb : (BitVec.ofInt 64 n &&& BitVec.ofInt 64 1).toNat ≤ 1 := by
    rw [BitVec.toNat_and]
    exact Nat.le_trans Nat.and_le_right (by decide)
  rw [IntKind.wrap_i64]
  omega

/-- The numbers of a row that came in, as bytes. -/
def bytesOf (zs : List Int) (n : Nat) : List UInt8 := (zs.take n).map fun z => UInt8.ofNat z.toNat

theorem wf_u8 {z : Int} (h : (Lit.int .u8 z).wf = true) : 0 ≤ z ∧ z < 256 := by
  simp [Lit.wf, IntKind.min, IntKind.max, IntKind.signed, IntKind.bits] at h
  omega

theorem src_ints {w : World} {x : Addr} {n : Nat} {zs : List Int} (hl : n ≤ zs.length) (hcell : ∀ i, i < zs.length → w.cell? (x.add i) = some (.int .u8 (zs.getD i 0))) (hwz : ∀ z ∈ zs, (Lit.int .u8 z).wf = true) :
    Src w (· < w.heap.size) (some x) (bytesOf zs n) ∧ (bytesOf zs n).length = n := by
  have hlen : (bytesOf zs n).length = n := by simp [bytesOf]; omega
  refine ⟨⟨fun hn => ⟨x, rfl, ?_, fun j u hu => ?_⟩⟩, hlen⟩
  · have := World.block_lt_of_cell? w _ (hcell 0 (by omega))
    rwa [block_add] at this
  · rw [bs_getElem?] at hu
    simp only [bytesOf, List.getElem?_map, List.getElem?_take] at hu
    split at hu
    · rename_i hj
      have hj' : j < zs.length := by omega
      rw [List.getElem?_eq_getElem hj'] at hu
      simp only [Option.map_some, Option.some.injEq] at hu
      rw [hcell j hj', ← hu]
      have hz := wf_u8 (hwz zs[j] (List.getElem_mem hj'))
      have e1 : zs.getD j 0 = zs[j] := by rw [List.getD_eq_getElem?_getD, List.getElem?_eq_getElem hj']; rfl
      have e2 : ((UInt8.ofNat zs[j].toNat).toNat : Int) = zs[j] := by
        rw [UInt8.toNat_ofNat_of_lt' (by simp [UInt8.size]; omega)]
        omega
      rw [e1, e2]
    · simp at hu

theorem src_of_row {w : World} {a : Option Addr} {len cap : Nat} {zs : List Int}
    (h : (a = none ∧ len = 0 ∧ cap = 0 ∧ zs = []) ∨ ∃ x, a = some x ∧ len ≤ cap ∧ cap ≤ maxLen ∧ zs.length = cap ∧ (∀ i, i < zs.length → w.cell? (x.add i) = some (.int .u8 (zs.getD i 0))) ∧ ∀ n ∈ zs, (Lit.int .u8 n).wf = true) :
    ∃ xs : List UInt8, xs.length = len ∧ Src w (· < w.heap.size) a xs ∧ xs.length ≤ cap := by
  rcases h with ⟨rfl, rfl, rfl, rfl⟩ | ⟨x, rfl, h1, h2, h3, h4, h5⟩
  · exact ⟨[], rfl, Src.nil _ _ _, Nat.le_refl _⟩
  · obtain ⟨e1, e2⟩ := src_ints (n := len) (by omega) h4 h5
    exact ⟨_, e2, e1, by omega⟩

theorem wf_i64 {z : Int} (h : (Lit.int .i64 z).wf = true) : -9223372036854775808 ≤ z ∧ z ≤ 9223372036854775807 := by
  simp [Lit.wf, IntKind.min, IntKind.max, IntKind.signed, IntKind.bits] at h
  omega

theorem together (cut k : Int) (x y : List UInt8) (hx : x.length ≤ 150) (hy : y.length ≤ 150) :
    let st := LS.new 300 cut
    let st1 := st.send k x
    st.arr x ++ st1.arr y = st.arr (x ++ y) ∧ (st1.send k y).down = (st.send k (x ++ y)).down ∧ (st1.err y = st.err (x ++ y) ∨ y.length = 0) := by
  have t0 : (LS.new 300 cut).total = 0 := rfl
  have e1 := send_total (LS.new 300 cut) k x
  obtain ⟨e2, e3⟩ := send_keeps (LS.new 300 cut) k x
  have hd : ∀ (st : LS) (k : Int) (x : List UInt8), (st.send k x).down = st.goes x := by
    intro st k x
    unfold LS.send LS.put
    split <;> rfl
  have d0 : (LS.new 300 cut).down = false := rfl
  have b0 : (LS.new 300 cut).budget = 300 := rfl
  have c0 : (LS.new 300 cut).cut = cut := rfl
  simp only
  simp only [hd]
  have f1 : ¬ ((300 : Int) - (0 : Nat) < x.length) := by omega
  have f2 : ¬ ((300 : Int) - (0 : Nat) < (x ++ y).length) := by simp; omega
  by_cases h1 : 0 ≤ cut ∧ cut - (0 : Nat) < x.length
  · have h2 : 0 ≤ cut ∧ cut - (0 : Nat) < (x ++ y).length := by simp; omega
    have g1 : (LS.new 300 cut).goes x = true := by unfold LS.goes; rw [d0, b0, c0, t0]; simp only [f1, h1]; simp
    have a1 : (LS.new 300 cut).arr x = x.take cut.toNat := by unfold LS.arr; rw [d0, b0, c0, t0]; simp only [f1, h1]; simp
    have a2 : (LS.new 300 cut).arr (x ++ y) = (x ++ y).take cut.toNat := by unfold LS.arr; rw [d0, b0, c0, t0]; simp only [f2, h2]; simp
    have g2 : (LS.new 300 cut).goes (x ++ y) = true := by unfold LS.goes; rw [d0, b0, c0, t0]; simp only [f2, h2]; simp
    have r2 : (LS.new 300 cut).err (x ++ y) = 15 := by unfold LS.err; rw [d0, b0, c0, t0]; simp only [f2, h2]; simp
    have dd : ((LS.new 300 cut).send k x).down = true := by rw [hd]; exact g1
    have a3 : ((LS.new 300 cut).send k x).arr y = [] := by unfold LS.arr; simp [dd]
    have g3 : ((LS.new 300 cut).send k x).goes y = true := by unfold LS.goes; simp [dd]
    have r3 : ((LS.new 300 cut).send k x).err y = 15 := by unfold LS.err; simp [dd]
    rw [a1, a2, a3, g2, g3, r2, r3]
    refine ⟨?_, rfl, .inl rfl⟩
    rw [List.append_nil, List.take_append_of_le_length (by omega)]
  · have g1 : (LS.new 300 cut).goes x = false := by unfold LS.goes; rw [d0, b0, c0, t0]; simp only [f1, h1]; simp
    have a1 : (LS.new 300 cut).arr x = x := by unfold LS.arr; rw [d0, b0, c0, t0]; simp only [f1, h1]; simp
    have dd : ((LS.new 300 cut).send k x).down = false := by rw [hd]; exact g1
    rw [a1, t0] at e1
    rw [b0] at e2
    rw [c0] at e3
    have f3 : ¬ ((300 : Int) - ((0 + x.length : Nat) : Int) < y.length) := by omega
    by_cases h2 : 0 ≤ cut ∧ cut - ((0 + x.length : Nat) : Int) < y.length
    · have h3 : 0 ≤ cut ∧ cut - (0 : Nat) < (x ++ y).length := by simp; omega
      have a2 : (LS.new 300 cut).arr (x ++ y) = (x ++ y).take cut.toNat := by unfold LS.arr; rw [d0, b0, c0, t0]; simp only [f2, h3]; simp
      have g2 : (LS.new 300 cut).goes (x ++ y) = true := by unfold LS.goes; rw [d0, b0, c0, t0]; simp only [f2, h3]; simp
      have r2 : (LS.new 300 cut).err (x ++ y) = 15 := by unfold LS.err; rw [d0, b0, c0, t0]; simp only [f2, h3]; simp
      have a3 : ((LS.new 300 cut).send k x).arr y = y.take (cut - x.length).toNat := by unfold LS.arr; rw [dd, e1, e2, e3]; simp only [f3, h2]; simp
      have g3 : ((LS.new 300 cut).send k x).goes y = true := by unfold LS.goes; rw [dd, e1, e2, e3]; simp only [f3, h2]; simp
      have r3 : ((LS.new 300 cut).send k x).err y = 15 := by unfold LS.err; rw [dd, e1, e2, e3]; simp only [f3, h2]; simp
      rw [a1, a2, a3, g2, g3, r2, r3]
      refine ⟨?_, rfl, .inl rfl⟩
      have q1 : x.length ≤ cut.toNat := by omega
      have q2 : cut.toNat - x.length = (cut - x.length).toNat := by omega
      rw [List.take_append, List.take_of_length_le q1, q2]
    · have h3 : ¬ (0 ≤ cut ∧ cut - (0 : Nat) < (x ++ y).length) := by simp; omega
      have a2 : (LS.new 300 cut).arr (x ++ y) = x ++ y := by unfold LS.arr; rw [d0, b0, c0, t0]; simp only [f2, h3]; simp
      have g2 : (LS.new 300 cut).goes (x ++ y) = false := by unfold LS.goes; rw [d0, b0, c0, t0]; simp only [f2, h3]; simp
      have r2 : (LS.new 300 cut).err (x ++ y) = 0 := by unfold LS.err; rw [d0, b0, c0, t0]; simp only [f2, h3]; simp
      have a3 : ((LS.new 300 cut).send k x).arr y = y := by unfold LS.arr; rw [dd, e1, e2, e3]; simp only [f3, h2]; simp
      have g3 : ((LS.new 300 cut).send k x).goes y = false := by unfold LS.goes; rw [dd, e1, e2, e3]; simp only [f3, h2]; simp
      have r3 : ((LS.new 300 cut).send k x).err y = 0 := by unfold LS.err; rw [dd, e1, e2, e3]; simp only [f3, h2]; simp
      rw [a1, a2, a3, g2, g3, r2, r3]
      exact ⟨rfl, rfl, .inl rfl⟩

theorem sent_wait (st : LS) (k : Int) (hk : k = 0 ∨ k = 1) (xs : List UInt8) : (st.send k xs).wait (1 - k) = st.wait (1 - k) ++ st.arr xs := by
  rcases hk with rfl | rfl
  · simp [LS.send, LS.put, LS.wait]
  · simp [LS.send, LS.put, LS.wait]

/-- Too long: the law says awake and fine. -/
theorem tog_long (cut side : Int) (A B : Option Addr) (n c m d : Nat) (w : World) (h : 150 < n ∨ 150 < m) :
    Calls Try.prog 3 #[.int .i64 cut, .int .i64 side, .slice A n c, .slice B m d] w fun e w' => e = .returned (.bool true) ∧ Kept [] w w' := by
  have go : ∀ e w1 w2 w3 w4 : World, True := fun _ _ _ _ _ => trivial
  clear go
  by_cases h1 : 150 < n
  · clear h
    have h1' : (150 : Int) < (n : Int) := by omega
    go_enter Try.func3, Try.ntmps3
    go_wp2_with fail
    refine (new_yes _ _ _ (by omega) (by omega)).mono ?_
    rintro e w1 ⟨rfl, hL1, hk1, hz1⟩
    go_wp2_with fail
    refine (new_yes _ _ _ (by omega) (by omega)).mono ?_
    rintro e w2 ⟨rfl, hL2, hk2, hz2⟩
    go_wp2_with fail
    refine (awake_calls _).mono ?_
    rintro e w3 ⟨rfl, hk3⟩
    go_wp2_with fail
    refine (awake_calls _).mono ?_
    rintro e w4 ⟨rfl, hk4⟩
    go_wp2_with fail
    go_ret
    exact ⟨rfl, ((hk1.new hk2 (by simp)).new hk3 (by simp)).new hk4 (by simp)⟩
  · have h2 : 150 < m := by omega
    clear h
    have h1' : ¬ (150 : Int) < (n : Int) := by omega
    have h2' : (150 : Int) < (m : Int) := by omega
    go_enter Try.func3, Try.ntmps3
    go_wp2_with fail
    refine (new_yes _ _ _ (by omega) (by omega)).mono ?_
    rintro e w1 ⟨rfl, hL1, hk1, hz1⟩
    go_wp2_with fail
    refine (new_yes _ _ _ (by omega) (by omega)).mono ?_
    rintro e w2 ⟨rfl, hL2, hk2, hz2⟩
    go_wp2_with fail
    refine (awake_calls _).mono ?_
    rintro e w3 ⟨rfl, hk3⟩
    go_wp2_with fail
    refine (awake_calls _).mono ?_
    rintro e w4 ⟨rfl, hk4⟩
    go_wp2_with fail
    go_ret
    exact ⟨rfl, ((hk1.new hk2 (by simp)).new hk3 (by simp)).new hk4 (by simp)⟩

theorem own_empty (w : World) : Own (w.alloc (.cells #[] 5)) (some ⟨w.heap.size, 0, none⟩) 0 [] :=
  ⟨rfl, .inr ⟨w.heap.size, 0, #[], rfl, Nat.zero_le _, heap_alloc_new w _, Nat.le_refl _, by unfold maxLen; omega, rfl, rfl⟩⟩

theorem recv_left (st : LS) (k : Int) : (st.recv k).budget = st.budget ∧ (st.recv k).total = st.total ∧ (st.recv k).down = st.down ∧ (st.recv k).cut = st.cut := by
  unfold LS.recv LS.total
  split
  · exact ⟨rfl, rfl, rfl, rfl⟩
  · split <;> exact ⟨rfl, rfl, rfl, rfl⟩

set_option maxHeartbeats 1000000 in
theorem tog_main (cut side : Int) (A B : Option Addr) (x y : List UInt8) (c d : Nat) (w : World) (hcx : x.length ≤ c) (hcy : y.length ≤ d) (hsx : Src w (· < w.heap.size) A x) (hsy : Src w (· < w.heap.size) B y)
    (c0 : -9223372036854775808 ≤ cut) (c1 : cut ≤ 9223372036854775807) (s0 : -9223372036854775808 ≤ side) (s1 : side ≤ 9223372036854775807) (hx : x.length ≤ 150) (hy : y.length ≤ 150) :
    Calls Try.prog 3 #[.int .i64 cut, .int .i64 side, .slice A x.length c, .slice B y.length d] w fun e w' => e = .returned (.bool true) ∧ Kept [] w w' := by
  obtain ⟨k, hk, hbits⟩ := and_one side s0 s1
  obtain ⟨st, hst⟩ : ∃ st, st = LS.new 300 cut := ⟨_, rfl⟩
  have hok := LS.new_ok 300 cut (by omega) (by omega) c0 c1
  have k0 : 0 ≤ k := by omega
  have k1 : k ≤ 1 := by omega
  have hx' : ¬ (150 : Int) < (x.length : Int) := by omega
  have hy' : ¬ (150 : Int) < (y.length : Int) := by omega
  obtain ⟨p1, p2, p3⟩ := together cut k x y hx hy
  rw [← hst] at p1 p2 p3 hok
  have hw0 : ∀ j, st.wait j = [] := by intro j; rw [hst]; unfold LS.new LS.wait; split; rfl; split <;> rfl
  have hb0 : st.budget = 300 := by rw [hst]; rfl
  have ht0 : st.total = 0 := by rw [hst]; rfl
  obtain ⟨Z, hZ⟩ : ∃ Z, Z = st.arr (x ++ y) := ⟨_, rfl⟩
  obtain ⟨dn, hdn⟩ : ∃ dn, dn = (st.send k (x ++ y)).down := ⟨_, rfl⟩
  have wb : (st.send k (x ++ y)).wait (1 - k) = Z := by rw [sent_wait _ _ hk, hw0, hZ]; rfl
  have wa : ((st.send k x).send k y).wait (1 - k) = Z := by rw [sent_wait _ _ hk, sent_wait _ _ hk, hw0, hZ, ← p1]; simp
  have lb : ((st.send k (x ++ y)).recv (1 - k)).budget - (((st.send k (x ++ y)).recv (1 - k)).total : Int) = 300 - (Z.length : Int) := by
    obtain ⟨r1, r2, _⟩ := recv_left (st.send k (x ++ y)) (1 - k)
    rw [r1, r2, (send_keeps _ _ _).1, send_total, hb0, ht0, hZ]
    omega
  have la : (((st.send k x).send k y).recv (1 - k)).budget - ((((st.send k x).send k y).recv (1 - k)).total : Int) = 300 - (Z.length : Int) := by
    obtain ⟨r1, r2, _⟩ := recv_left ((st.send k x).send k y) (1 - k)
    rw [r1, r2, (send_keeps _ _ _).1, (send_keeps _ _ _).1, send_total, send_total, hb0, ht0, hZ, ← p1]
    simp
  have db : ((st.send k (x ++ y)).recv (1 - k)).down = dn := by rw [(recv_left _ _).2.2.1, hdn]
  have da : (((st.send k x).send k y).recv (1 - k)).down = dn := by rw [(recv_left _ _).2.2.1, hdn, p2]
  obtain ⟨nx, hnx⟩ : ∃ nx, nx = (st.arr x).length := ⟨_, rfl⟩
  obtain ⟨ny, hny⟩ : ∃ ny, ny = ((st.send k x).arr y).length := ⟨_, rfl⟩
  have hsum : (nx : Int) + (ny : Int) = (Z.length : Int) := by rw [hZ, ← p1, hnx, hny]; simp
  have bx : nx ≤ 150 := by rw [hnx]; exact Nat.le_trans (arr_le st x) hx
  have byy : ny ≤ 150 := by rw [hny]; exact Nat.le_trans (arr_le _ y) hy
  have bz : Z.length ≤ 300 := by omega
  obtain ⟨ex, hex⟩ : ∃ ex, ex = st.err x := ⟨_, rfl⟩
  obtain ⟨ey, hey⟩ : ∃ ey, ey = (st.send k x).err y := ⟨_, rfl⟩
  obtain ⟨ez, hez⟩ : ∃ ez, ez = st.err (x ++ y) := ⟨_, rfl⟩
  rw [← hey, ← hez] at p3
  have F := hide (And.intro hk (And.intro hok (And.intro wb (And.intro wa (And.intro lb (And.intro la (And.intro db (And.intro da (And.intro hst (And.intro hnx (And.intro hny (And.intro hex (And.intro hey (And.intro hez (And.intro hZ (And.intro p3 hsum))))))))))))))))
  clear hk hok wb wa lb la db da hst hnx hny hex hey hez hZ p1 p2 p3 hw0 hb0 ht0 hdn hsum
  obtain ⟨i0, hi, iz0, iz1, iz2⟩ := info_parts info5
  have HI := hide (And.intro hi (And.intro iz0 (And.intro iz1 iz2)))
  clear hi iz0 iz1 iz2
  go_enter Try.func3, Try.ntmps3
  go_wp2_with fail
  refine (new_yes _ _ _ (by omega) (by omega)).mono ?_
  rintro e w1 ⟨rfl, hL1, hk1, hz1⟩
  go_wp2_with fail
  refine (new_yes _ _ _ (by omega) (by omega)).mono ?_
  rintro e w2 ⟨rfl, hL2, hk2, hz2⟩
  go_wp2_with fail
  refine (awake_calls _).mono ?_
  rintro e w3 ⟨rfl, hk3⟩
  have K3 : Kept [] w w3 := (hk1.new hk2 (by simp)).new hk3 (by simp)
  have la3 := (hL1.keep hk2 (by simp)).keep hk3 (by simp)
  have lb3 := hL2.keep hk3 (by simp)
  rw [← F.out.2.2.2.2.2.2.2.2.1] at la3 lb3
  have z23 := hk2.size
  have z33 := hk3.size
  clear hL1 hL2 hk1 hk2 hk3
  go_wp2_with fail
  refine (send_calls la3 F.out.2.1 k F.out.1 A x c (hsx.keep K3 (by simp)) (by simp; omega) hcx).mono ?_
  rintro e w4 ⟨he, Fa, la4, hk4, hFa⟩
  rw [← F.out.2.2.2.2.2.2.2.2.2.1, ← F.out.2.2.2.2.2.2.2.2.2.2.2.1] at he
  subst he
  have K4 : Kept [] w w4 := K3.new hk4 (by simp)
  have fa4 : ∀ x ∈ Fa, w.heap.size ≤ x := fun x hx => by
    rcases hFa x hx with h | h
    · simp at h; omega
    · omega
  have lb4 := lb3.keep hk4 (by simp; omega)
  have nb4 : w1.heap.size ∉ Fa := fun h => by
    rcases hFa _ h with h | h
    · simp at h; omega
    · omega
  have z44 := hk4.size
  clear hk4 lb3
  go_wp2_with fail
  refine (send_calls la4 (send_ok F.out.2.1 _ _) k F.out.1 B y d (hsy.keep K4 (by simp)) (by intro j hj h; have := fa4 j h; omega) hcy).mono ?_
  rintro e w5 ⟨he, Fb, la5, hk5, hFb⟩
  rw [← F.out.2.2.2.2.2.2.2.2.2.2.1, ← F.out.2.2.2.2.2.2.2.2.2.2.2.2.1] at he
  subst he
  have K5 : Kept [] w w5 := K4.new hk5 fa4
  have fb5 : ∀ x ∈ Fb, w.heap.size ≤ x := fun x hx => by
    rcases hFb x hx with h | h
    · exact fa4 x h
    · omega
  have nb5 : w1.heap.size ∉ Fb := fun h => by
    rcases hFb _ h with h | h
    · exact nb4 h
    · omega
  have lb5 := lb4.keep hk5 (by simp; exact nb4)
  have z55 := hk5.size
  clear hk5 lb4 hFb hFa fa4 nb4
  have sx5 := hsx.keep K5 (by simp)
  have sy5 := hsy.keep K5 (by simp)
  go_wp2_with (first
    | (refine wpList_append_src rfl (.tmp 90) (.tmp 91) rfl Try.underlying22 HI.out.1 HI.out.2.1 HI.out.2.2.1 HI.out.2.2.2 (own_empty w5) (sx5.keep ((Kept.refl [] _).alloc _) (by simp)) (n := 0) rfl rfl rfl rfl (by simp; omega) ?_
       intro A6 c6 w6 ho6 hk6 hb6
       have ho6' : Own w6 A6 c6 x := by simpa using ho6
       have sy6 := (sy5.keep ((Kept.refl [] _).alloc (.cells #[] 5)) (by simp)).keep hk6 (by simp [blk]; omega))
    | (refine wpList_append_src rfl (.tmp 92) (.tmp 93) rfl Try.underlying22 HI.out.1 HI.out.2.1 HI.out.2.2.1 HI.out.2.2.2 ho6' sy6 rfl rfl rfl rfl (by omega) ?_
       intro A7 c7 w7 ho7 hk7 hb7)
    | fail)
  have z66 := hk6.size
  have z77 := hk7.size
  simp at z66
  have g7 : ∀ k ∈ blk A6, w5.heap.size ≤ k ∧ k < w6.heap.size := fun j hj => by
    rcases hb6 j hj with h | h
    · simp [blk] at h; omega
    · simp at h; omega
  have g8 : ∀ k ∈ blk A7, w5.heap.size ≤ k ∧ k < w7.heap.size := fun j hj => by
    rcases hb7 j hj with h | h
    · have := g7 j h; omega
    · omega
  have k57 : Kept [] w5 w7 := ((((Kept.refl [] w5).alloc _).new hk6 (by simp [blk])).new hk7 (fun j hj => (g7 j hj).1))
  have K7 : Kept [] w w7 := K5.new k57 (by simp)
  have la7 := la5.keep k57 (by simp)
  have lb7 := lb5.keep k57 (by simp)
  have so7 := ho7.src
  have cc7 := ho7.cap_ge
  have lb5lt := lb5.lt w1.heap.size (by simp)
  have fb5lt := la5.lt
  have hsend := send_calls lb7 F.out.2.1 k F.out.1 A7 (x ++ y) c7 so7 (by intro j hj h; have := g8 j hj; simp at h; omega) cc7
  rw [show (x ++ y).length = x.length + y.length by simp] at hsend
  refine hsend.mono ?_
  clear hsend
  rintro e w8 ⟨he, Fc, lb8, hk8, hFc⟩
  rw [← F.out.2.2.2.2.2.2.2.2.2.2.2.2.2.1, ← F.out.2.2.2.2.2.2.2.2.2.2.2.2.2.2.1] at he
  subst he
  have fw1 : w.heap.size ≤ w1.heap.size := by omega
  have K8 : Kept [] w w8 := K7.new hk8 (by simp; omega)
  have la8 := la7.keep hk8 (by simp; exact fun j hj e => nb5 (e ▸ hj))
  have fc8 : ∀ j ∈ Fc, j ∉ Fb ∧ w.heap.size ≤ j := fun j hj => by
    rcases hFc j hj with h | h
    · simp at h; subst h; exact ⟨nb5, fw1⟩
    · exact ⟨fun hb => by have := fb5lt j hb; omega, by omega⟩
  clear ho7 hk7 hb7 ho6 ho6' hk6 hb6 so7 sy6 sx5 sy5 la5 lb5 la7 lb7 hk8 hFc k57 K5 K7 g7 g8
  go_wp2_with fail
  have hrecv := receive_yes la8 (send_ok (send_ok F.out.2.1 _ _) _ _) (1 - k) (by have := F.out.1; omega)
  rw [F.out.2.2.2.1] at hrecv
  refine hrecv.mono ?_
  clear hrecv
  rintro e w9 ⟨g9, Fd, rfl, ho9, la9, hk9, hg9, hgl9, hFd⟩
  have K9 : Kept [] w w9 := K8.new hk9 fb5
  have lb9 := lb8.keep hk9 (fun j hj => (fc8 j hj).1)
  go_wp2_with fail
  have hrecv := receive_yes lb9 (send_ok F.out.2.1 _ _) (1 - k) (by have := F.out.1; omega)
  rw [F.out.2.2.1] at hrecv
  refine hrecv.mono ?_
  clear hrecv
  rintro e wa ⟨ga, Fe, rfl, hoa, lba, hka, hga, hgla, hFe⟩
  have Ka : Kept [] w wa := K9.new hka (fun j hj => (fc8 j hj).2)
  have laa := la9.keep hka (fun j hj h => (fc8 j h).1 (hFd j hj))
  have o9a : Own wa (some ⟨g9, 0, none⟩) Z.length Z := ho9.keep hka (by simp [blk]; intro h; have := lb8.lt _ h; omega)
  have cv9 : (convert 22 9 (.slice (some ⟨g9, 0, none⟩) Z.length Z.length)).run Try.prog wa = .ok (.string (str Z)) wa := conv_str o9a.src _
  have cva : (convert 22 9 (.slice (some ⟨ga, 0, none⟩) Z.length Z.length)).run Try.prog wa = .ok (.string (str Z)) wa := conv_str hoa.src _
  have hsum' := F.out.2.2.2.2.2.2.2.2.2.2.2.2.2.2.2.2
  go_wp2_with fail
  have hleft := left_calls laa (recv_ok (send_ok (send_ok F.out.2.1 _ _) _ _) _)
  rw [F.out.2.2.2.2.2.1] at hleft
  refine hleft.mono ?_
  clear hleft
  rintro e wb ⟨rfl, hdb⟩
  have lbb := lba.keep (hdb.kept []) (by simp)
  go_wp2_with fail
  have hleft := left_calls lbb (recv_ok (send_ok F.out.2.1 _ _) _)
  rw [F.out.2.2.2.2.1] at hleft
  refine hleft.mono ?_
  clear hleft
  rintro e wc ⟨rfl, hdc⟩
  have lac := (laa.keep (hdb.kept []) (by simp)).keep (hdc.kept []) (by simp)
  have lbc := lbb.keep (hdc.kept []) (by simp)
  have Kc : Kept [] w wc := (Ka.new (hdb.kept []) (by simp)).new (hdc.kept []) (by simp)
  go_wp2_with fail
  have hdown := down_calls lac
  rw [F.out.2.2.2.2.2.2.2.1] at hdown
  refine hdown.mono ?_
  clear hdown
  rintro e wd ⟨rfl, rfl⟩
  go_wp2_with fail
  have hdown := down_calls lbc
  rw [F.out.2.2.2.2.2.2.1] at hdown
  refine hdown.mono ?_
  clear hdown
  rintro e wd ⟨rfl, rfl⟩
  by_cases hE : (ey == ez) = true
  · go_wp2_with fail
    go_ret
    exact ⟨rfl, Kc⟩
  · have hE' : (ey == ez) = false := by simpa using hE
    have hy0 : ((y.length : Int) == 0) = true := by
      rcases F.out.2.2.2.2.2.2.2.2.2.2.2.2.2.2.2.1 with h | h
      · rw [h] at hE; simp at hE
      · rw [h]; rfl
    clear hE
    go_wp2_with fail
    go_ret
    exact ⟨rfl, Kc⟩
end Go.Proofs.Ytbajpofmaffpgaa
