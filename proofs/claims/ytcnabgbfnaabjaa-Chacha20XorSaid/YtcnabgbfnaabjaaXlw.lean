/- The laws on Xor. -/
import Derived.Test.YtcnabgbfnaabjaaXor
namespace Go.Proofs.Ytcnabgbfnaabjaa
open Go.RowKit
set_option linter.unusedSimpArgs false
set_option linter.unusedVariables false

/-- The numbers of a row that came in, as bytes. -/
def bytesOf (zs : List Int) (n : Nat) : List UInt8 := (zs.take n).map fun z => UInt8.ofNat z.toNat

theorem wf_u8 {z : Int} (h : (Lit.int .u8 z).wf = true) : 0 ≤ z ∧ z < 256 := by
  simp [Lit.wf, IntKind.min, IntKind.max, IntKind.signed, IntKind.bits] at h
  omega

theorem src_ints {w : World} {x : Addr} {n : Nat} {zs : List Int} (hl : n ≤ zs.length) (hcell : ∀ i, i < zs.length → w.cell? (x.add i) = some (.int .u8 (zs.getD i 0))) (hwz : ∀ z ∈ zs, (Lit.int .u8 z).wf = true) :
    Src w (· < w.heap.size) (some x) (bytesOf zs n) ∧ (bytesOf zs n).length = n := by
  have hlen : (bytesOf zs n).length = n := by simp [bytesOf]; omega
  refine ⟨⟨fun hn => ⟨x, rfl, ?_, fun j u hu => ?_⟩⟩, hlen⟩
  · have := World.block_lt_of_cell? w _ (hcell 0 (by omega))
    rwa [block_add] at this
  · rw [bs_getElem?] at hu
    simp only [bytesOf, List.getElem?_map, List.getElem?_take] at hu
    split at hu
    · rename_i hj
      have hj' : j < zs.length := by omega
      rw [List.getElem?_eq_getElem hj'] at hu
      simp only [Option.map_some, Option.some.injEq] at hu
      rw [hcell j hj', ← hu]
      have hz := wf_u8 (hwz zs[j] (List.getElem_mem hj'))
      have e1 : zs.getD j 0 = zs[j] := by rw [List.getD_eq_getElem?_getD, List.getElem?_eq_getElem hj']; rfl
      have e2 : ((UInt8.ofNat zs[j].toNat).toNat : Int) = zs[j] := by
        rw [UInt8.toNat_ofNat_of_lt' (by simp [UInt8.size]; omega)]
        omega
      rw [e1, e2]
    · simp at hu

theorem src_of_row {w : World} {a : Option Addr} {len cap : Nat} {zs : List Int}
    (h : (a = none ∧ len = 0 ∧ cap = 0 ∧ zs = []) ∨ ∃ x, a = some x ∧ len ≤ cap ∧ cap ≤ maxLen ∧ zs.length = cap ∧ (∀ i, i < zs.length → w.cell? (x.add i) = some (.int .u8 (zs.getD i 0))) ∧ ∀ n ∈ zs, (Lit.int .u8 n).wf = true) :
    ∃ xs : List UInt8, xs.length = len ∧ Src w (· < w.heap.size) a xs ∧ xs.length ≤ cap := by
  rcases h with ⟨rfl, rfl, rfl, rfl⟩ | ⟨x, rfl, h1, h2, h3, h4, h5⟩
  · exact ⟨[], rfl, Src.nil _ _ _, Nat.le_refl _⟩
  · obtain ⟨e1, e2⟩ := src_ints (n := len) (by omega) h4 h5
    exact ⟨_, e2, e1, by omega⟩

theorem row_len {w : World} {a : Option Addr} {len cap : Nat} {zs : List Int}
    (h : (a = none ∧ len = 0 ∧ cap = 0 ∧ zs = []) ∨ ∃ x, a = some x ∧ len ≤ cap ∧ cap ≤ maxLen ∧ zs.length = cap ∧ (∀ i, i < zs.length → w.cell? (x.add i) = some (.int .u8 (zs.getD i 0))) ∧ ∀ n ∈ zs, (Lit.int .u8 n).wf = true) : len ≤ 9223372036854775807 := by
  rcases h with ⟨rfl, rfl, rfl, rfl⟩ | ⟨x, rfl, h1, h2, _⟩
  · omega
  · unfold maxLen at h2; omega

theorem kept2 {a b c : World} (h : Kept [] a b) (k : Kept [] b c) : Kept [] a c := h.trans k (by simp) (by simp)

theorem xr_comm (x y : List UInt8) : xr x y = xr y x := by
  unfold xr
  rw [List.zipWith_comm]
  congr 1
  funext a b
  exact UInt8.xor_comm b a
theorem xr_back : ∀ (x y : List UInt8), x.length = y.length → xr (xr x y) y = x
  | [], [], _ => rfl
  | a :: x, b :: y, h => by
    have ih := xr_back x y (by simpa using h)
    unfold xr at ih ⊢
    simp only [List.zipWith_cons_cons, ih]
    rw [UInt8.xor_assoc, UInt8.xor_self, UInt8.xor_zero]
  | [], _ :: _, h => by cases h
  | _ :: _, [], h => by cases h

theorem src_lift {w w' : World} {A : Option Addr} {x : List UInt8} (h : Src w (· < w.heap.size) A x) (hk : Kept [] w w') : Src w' (· < w'.heap.size) A x :=
  (h.keep hk (by simp)).mono (fun k hk' => Nat.lt_of_lt_of_le hk' hk.size)

theorem xor_law (A B : Option Addr) (x y : List UInt8) (n m c d : Nat) (w : World) (hx : x.length = n) (hy : y.length = m) (hnc : n ≤ 9223372036854775807) (hmd : m ≤ 9223372036854775807) (sx : Src w (· < w.heap.size) A x) (sy : Src w (· < w.heap.size) B y) :
    Calls Try.prog 8 #[.slice A n c, .slice B m d] w fun e w' => e = .returned (.bool true) ∧ Kept [] w w' := by
  by_cases h1 : 300 < n
  · have h1' : (300 : Int) < (n : Int) := by omega
    go_enter Try.func8, Try.ntmps8
    go_wp2_with (first
      | (go_at_call 11; with_reducible refine (awake_calls w).mono ?_; rintro e w1 ⟨rfl, k1⟩)
      | (go_at_call 11; with_reducible refine (awake_calls w1).mono ?_; rintro e w2 ⟨rfl, k2⟩)
      | fail)
    go_ret
    exact ⟨rfl, kept2 k1 k2⟩
  · have h1' : ¬ (300 : Int) < (n : Int) := by omega
    by_cases h2 : 300 < m
    · have h2' : (300 : Int) < (m : Int) := by omega
      go_enter Try.func8, Try.ntmps8
      go_wp2_with (first
        | (go_at_call 11; with_reducible refine (awake_calls w).mono ?_; rintro e w1 ⟨rfl, k1⟩)
        | (go_at_call 11; with_reducible refine (awake_calls w1).mono ?_; rintro e w2 ⟨rfl, k2⟩)
        | fail)
      go_ret
      exact ⟨rfl, kept2 k1 k2⟩
    · have h2' : ¬ (300 : Int) < (m : Int) := by omega
      by_cases hv : n = m
      · subst hv
        have HX := hide (And.intro hx hy)
        have HS := hide (And.intro sx sy)
        have HL : Hid ((xr x y).length = n) := by show (xr x y).length = n; rw [xr_length x y (by omega)]; exact hx
        clear hx hy sx sy
        go_enter Try.func8, Try.ntmps8
        go_wp2_with (first
          | (go_at_call 11; with_reducible refine (awake_calls w).mono ?_; rintro e w1 ⟨rfl, k1⟩)
          | (go_at_call 18; with_reducible refine (xor_yes A B x y n c d w1 HX.out.1 HX.out.2 (by omega) (src_lift HS.out.1 k1) (src_lift HS.out.2 k1)).mono ?_; rintro e w2 ⟨rfl, ho2, k2⟩)
          | (go_at_call 19; with_reducible refine (refxor_yes A B x y n c d w2 HX.out.1 HX.out.2 (by omega) (src_lift HS.out.1 (kept2 k1 k2)) (src_lift HS.out.2 (kept2 k1 k2))).mono ?_; rintro e w3 ⟨g, cp, rfl, ho3, k3, hg3⟩
             have cv1 : (convert 23 9 (.slice (some ⟨w1.heap.size, 0, none⟩) n n)).run Try.prog w3 = .ok (.string (str (xr x y))) w3 := by
               have := conv_str (ho2.keep k3 (by simp)).src n
               rwa [HL.out] at this
             have cv2 : (convert 23 9 (.slice (some ⟨g, 0, none⟩) n cp)).run Try.prog w3 = .ok (.string (str (xr x y))) w3 := by
               have := conv_str ho3.src cp
               rwa [HL.out] at this)
          | fail)
        go_ret
        exact ⟨rfl, kept2 (kept2 k1 k2) k3⟩
      · have cv : ∀ w, (convert 23 9 (.slice none 0 0)).run Try.prog w = .ok (.string (str [])) w := fun w => conv_str (xs := []) (Src.nil w (fun _ => True) none) 0
        clear hx hy sx sy
        have HV := hide hv
        clear hv
        go_enter Try.func8, Try.ntmps8
        go_wp2_with (first
          | (go_at_call 11; with_reducible refine (awake_calls w).mono ?_; rintro e w1 ⟨rfl, k1⟩)
          | (go_at_call 18; with_reducible refine (xor_no A B n m c d w1 HV.out (by omega) (by omega)).mono ?_; rintro e w2 ⟨rfl, rfl⟩)
          | (go_at_call 19; with_reducible refine (refxor_no A B n m c d w1 HV.out (by omega) (by omega)).mono ?_; rintro e w3 ⟨rfl, rfl⟩)
          | fail)
        go_ret
        exact ⟨rfl, k1⟩

theorem twice_law (A B : Option Addr) (x y : List UInt8) (n m c d : Nat) (w : World) (hx : x.length = n) (hy : y.length = m) (hnc : n ≤ 9223372036854775807) (hmd : m ≤ 9223372036854775807) (sx : Src w (· < w.heap.size) A x) (sy : Src w (· < w.heap.size) B y) :
    Calls Try.prog 9 #[.slice A n c, .slice B m d] w fun e w' => e = .returned (.bool true) ∧ Kept [] w w' := by
  by_cases h1 : 300 < n
  · have h1' : (300 : Int) < (n : Int) := by omega
    go_enter Try.func9, Try.ntmps9
    go_wp2_with (first
      | (go_at_call 11; with_reducible refine (awake_calls w).mono ?_; rintro e w1 ⟨rfl, k1⟩)
      | (go_at_call 11; with_reducible refine (awake_calls w1).mono ?_; rintro e w2 ⟨rfl, k2⟩)
      | fail)
    go_ret
    exact ⟨rfl, kept2 k1 k2⟩
  · have h1' : ¬ (300 : Int) < (n : Int) := by omega
    by_cases hv : n = m
    · subst hv
      have HX := hide (And.intro hx hy)
      have HS := hide (And.intro sx sy)
      have HL : Hid ((xr x y).length = n) := by show (xr x y).length = n; rw [xr_length x y (by omega)]; exact hx
      have HC := hide (xr_comm y x)
      have HB := hide (xr_back x y (by omega))
      clear hx hy sx sy
      go_enter Try.func9, Try.ntmps9
      go_wp2_with (first
        | (go_at_call 11; with_reducible refine (awake_calls w).mono ?_; rintro e w1 ⟨rfl, k1⟩)
        | (go_at_call 18; with_reducible refine (xor_yes A B x y n c d w1 HX.out.1 HX.out.2 (by omega) (src_lift HS.out.1 k1) (src_lift HS.out.2 k1)).mono ?_; rintro e w2 ⟨rfl, ho2, k2⟩)
        | (go_at_call 18; with_reducible refine (xor_yes B A y x n d c w2 HX.out.2 HX.out.1 (by omega) (src_lift HS.out.2 (kept2 k1 k2)) (src_lift HS.out.1 (kept2 k1 k2))).mono ?_; rintro e w3 ⟨rfl, ho3, k3⟩)
        | (go_at_call 18; with_reducible refine (xor_yes (some ⟨w1.heap.size, 0, none⟩) B (xr x y) y n n d w3 HL.out HX.out.2 (by omega) (((ho2.keep k3 (by simp)).src).mono (fun k hk => (ho2.keep k3 (by simp)).lt k hk)) (src_lift HS.out.2 (kept2 (kept2 k1 k2) k3))).mono ?_; rintro e w4 ⟨rfl, ho4, k4⟩
           have cv1 : (convert 23 9 (.slice (some ⟨w1.heap.size, 0, none⟩) n n)).run Try.prog w4 = .ok (.string (str (xr x y))) w4 := by
             have := conv_str (ho2.keep (kept2 k3 k4) (by simp)).src n
             rwa [HL.out] at this
           have cv2 : (convert 23 9 (.slice (some ⟨w2.heap.size, 0, none⟩) n n)).run Try.prog w4 = .ok (.string (str (xr x y))) w4 := by
             have := conv_str (ho3.keep k4 (by simp)).src n
             rwa [HC.out, HL.out] at this
           have cv3 : (convert 23 9 (.slice (some ⟨w3.heap.size, 0, none⟩) n n)).run Try.prog w4 = .ok (.string (str x)) w4 := by
             have := conv_str ho4.src n
             rwa [HB.out, HX.out.1] at this
           have cv4 : (convert 23 9 (.slice A n c)).run Try.prog w4 = .ok (.string (str x)) w4 := by
             have := conv_str (src_lift HS.out.1 (kept2 (kept2 (kept2 k1 k2) k3) k4)) c
             rwa [HX.out.1] at this)
        | fail)
      go_ret
      exact ⟨rfl, kept2 (kept2 (kept2 k1 k2) k3) k4⟩
    · have hv' : ((n : Int) == (m : Int)) = false := by simp; omega
      have hv2 : ((n : Int) != (m : Int)) = true := by simp; omega
      go_enter Try.func9, Try.ntmps9
      go_wp2_with (first
        | (go_at_call 11; with_reducible refine (awake_calls w).mono ?_; rintro e w1 ⟨rfl, k1⟩)
        | (go_at_call 11; with_reducible refine (awake_calls w1).mono ?_; rintro e w2 ⟨rfl, k2⟩)
        | fail)
      go_ret
      exact ⟨rfl, kept2 k1 k2⟩
end Go.Proofs.Ytcnabgbfnaabjaa
