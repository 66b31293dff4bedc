/- The law's same: the link is as the reference says. -/
import Derived.Test.YtbajpofmaffpgaaRd
namespace Go.Proofs.Ytbajpofmaffpgaa
open Go.RowKit
set_option linter.unusedSimpArgs false
set_option linter.unusedVariables false
set_option maxRecDepth 100000

/-- A cell that holds a slice which reads as s. -/
def JS (p : Addr) (u : Value) (s : ByteArray) (w : World) : Prop := w.cell? p = some u ∧ (convert 22 9 u).run Try.prog w = .ok (.string s) w

set_option maxHeartbeats 2000000 in
theorem same_calls {w : World} {b : Nat} {F : List Nat} {st : LS} (h : LinkAt w b F st) (hok : st.Ok) {D : Nat → Prop} {v : Value} (hv : RefV w D v st) :
    Calls Try.prog 24 #[.pointer (some ⟨b, 0, none⟩), v] w fun e w' => e = .returned (.bool true) ∧ Kept [] w w' := by
  obtain ⟨A0, A1, A2, A3, c0, c1, c2, c3, rfl, hc⟩ := hv
  have b0 := hok.b0
  have b1 := hok.b1
  have HL := hide h
  have HC := hide hc
  have HOK := hide hok
  unfold rv
  clear h hc hok
  go_enter Try.func24, Try.ntmps24
  go_wp2_with fail
  refine wp_named ?_
  intro W hW
  obtain ⟨B, hB⟩ : ∃ B, B = w.heap.size := ⟨_, rfl⟩
  have hBW : JB B #[Value.int IntKind.i64 st.budget, Value.int IntKind.i64 st.cut, Value.slice A0 st.s0.length c0, Value.slice A2 st.s1.length c2, Value.slice A1 st.q0.length c1, Value.slice A3 st.q1.length c3, Value.bool st.down] W := by rw [hW, hB]; exact heap_alloc_new w _
  have hKW : Kept [] w W := by rw [hW]; exact (Kept.refl _ _).alloc _
  have hBl : B < W.heap.size := by rw [hW, hB]; simp
  rw [← hB]
  have HB := hide (And.intro hBW (And.intro hKW hBl))
  clear hW hB hBW hKW hBl
  go_loopw [5] (fun i wr => ∃ k : Nat, k ≤ 2 ∧ i = .int .i64 k ∧ Hid (Kept [] W wr)) (fun i _ => 2 - (intOf i).toNat)
  case atStart => exact ⟨0, by omega, rfl, Kept.refl _ _⟩
  case round =>
    obtain ⟨k, hk, rfl, hkr⟩ := hrel
    have hBr : JB B #[Value.int IntKind.i64 st.budget, Value.int IntKind.i64 st.cut, Value.slice A0 st.s0.length c0, Value.slice A2 st.s1.length c2, Value.slice A1 st.q0.length c1, Value.slice A3 st.q1.length c3, Value.bool st.down] wr := (hkr.out.block B HB.out.2.2 (by simp)).trans HB.out.1
    have hLr : LinkAt wr b F st := (HL.out.keep HB.out.2.1 (by simp)).keep hkr.out (by simp)
    have hCr := HC.out.keep (HB.out.2.1.new hkr.out (by simp)) (by simp)
    by_cases hlt : k < 2
    · have hk0 : (0 : Int) ≤ (k : Int) := by omega
      have hk1 : (k : Int) < 2 := by omega
      obtain ⟨A8, c8, e8, s8⟩ : ∃ A c, wr.cell? ⟨B, 2 + k, none⟩ = some (.slice A (SF st k).length c) ∧ Src wr D A (SF st k) := by
        obtain ⟨e0, e1, e2, e3, e4, e5, e6⟩ := seven hBr
        obtain rfl | rfl : k = 0 ∨ k = 1 := by omega
        · exact ⟨A0, c0, e2, hCr.s0⟩
        · exact ⟨A2, c2, e3, hCr.s1⟩
      obtain ⟨T, hT⟩ : ∃ T, T = SF st k := ⟨_, rfl⟩
      rw [← hT] at e8 s8
      have HTR : Hid (∀ wx, Kept [] wr wx → Calls Try.prog 17 #[.pointer (some ⟨b, 0, none⟩), .int .i64 (k : Int)] wx fun e w' => ∃ g, e = .returned (.slice (some ⟨g, 0, none⟩) T.length T.length) ∧ Own w' (some ⟨g, 0, none⟩) T.length T ∧ Kept [] wx w' ∧ wx.heap.size ≤ g ∧ g < w'.heap.size) := fun wx hkx => by
        have h := transcript_yes (hLr.keep hkx (by simp)) HOK.out (k : Int) (by omega)
        rw [sent_SF st k hlt, ← hT] at h
        exact h
      have HSE : Hid (∀ wx, Kept [] wr wx → Calls Try.prog 18 #[.pointer (some ⟨b, 0, none⟩), .int .i64 (k : Int)] wx fun e w' => e = .returned (.int .i64 T.length) ∧ Kept [] wx w') := fun wx hkx => by
        have h := sent_yes (hLr.keep hkx (by simp)) HOK.out (k : Int) (by omega)
        rw [sent_SF st k hlt, ← hT] at h
        exact h
      have HJJ : Hid (∀ wx, Kept [] wr wx → JS ⟨B, 2 + k, none⟩ (.slice A8 T.length c8) (str T) wx) := fun wx hkx =>
        ⟨(hkx.cell (World.block_lt_of_cell? wr _ e8) (by simp)).trans e8, conv_str (s8.keep hkx (by simp)) _⟩
      clear e8 s8 hBr hLr hCr hT
      obtain ⟨m, hm'⟩ : ∃ m, m = T.length := ⟨_, rfl⟩
      rw [← hm'] at HTR HSE HJJ
      have HM := hide hm'
      clear hm'
      have hkd : Kept [] wr wr.drew := (Kept.refl _ _).drew
      have HKD := hide hkd
      clear hkd
      go_wp2_with fail
      refine wp_region_noPanic ?_
      refine begin_W 2 (JS ⟨B, 2 + k, none⟩ (.slice A8 m c8) (str T)) (by kernel_rfl) (HJJ.out _ HKD.out) (fun hS => ?_)
      generalize hWd : wr.drew = Wd at *
      refine take_free (i := 0) (oi := _) (v := .pointer (some ⟨b, 0, none⟩)) rfl (by kernel_rfl) (by kernel_rfl) (by kernel_rfl) (by kernel_rfl) (fun _ _ _ h => h) (by kernel_rfl) hS (fun w hJ => ?hy) (fun hS => ?_)
      case hy => go_simp; (try with_reducible rfl); (try (intro h; omega)); (try (simp [IntKind.wrap_i64]))
      try simp only [Act.put, List.getElem_toArray, List.getElem_cons_succ, List.getElem_cons_zero, List.setIfInBounds_toArray, List.set_cons_zero, List.set_cons_succ]
      refine take_free (i := 1) (oi := _) (v := .int .i64 (k : Int)) rfl (by kernel_rfl) (by kernel_rfl) (by kernel_rfl) (by kernel_rfl) (fun _ _ _ h => h) (by kernel_rfl) hS (fun w hJ => ?hy) (fun hS => ?_)
      case hy => go_simp; (try with_reducible rfl); (try (intro h; omega)); (try (simp [IntKind.wrap_i64]))
      try simp only [Act.put, List.getElem_toArray, List.getElem_cons_succ, List.getElem_cons_zero, List.setIfInBounds_toArray, List.set_cons_zero, List.set_cons_succ]
      refine take_free (i := 3) (oi := _) (v := .int .i64 (k : Int)) rfl (by kernel_rfl) (by kernel_rfl) (by kernel_rfl) (by kernel_rfl) (fun _ _ _ h => h) (by kernel_rfl) hS (fun w hJ => ?hy) (fun hS => ?_)
      case hy => go_simp; (try with_reducible rfl); (try (intro h; omega)); (try (simp [IntKind.wrap_i64]))
      try simp only [Act.put, List.getElem_toArray, List.getElem_cons_succ, List.getElem_cons_zero, List.setIfInBounds_toArray, List.set_cons_zero, List.set_cons_succ]
      refine take_free (i := 4) (oi := _) (v := .pointer (some ⟨B, 2, none⟩)) rfl (by kernel_rfl) (by kernel_rfl) (by kernel_rfl) (by kernel_rfl) (fun _ _ _ h => h) (by kernel_rfl) hS (fun w hJ => ?hy) (fun hS => ?_)
      case hy => go_simp; (try with_reducible rfl); (try (intro h; omega)); (try (simp [IntKind.wrap_i64]))
      try simp only [Act.put, List.getElem_toArray, List.getElem_cons_succ, List.getElem_cons_zero, List.setIfInBounds_toArray, List.set_cons_zero, List.set_cons_succ]
      refine take_free (i := 5) (oi := _) (v := .pointer (some ⟨B, 2 + k, none⟩)) rfl (by kernel_rfl) (by kernel_rfl) (by kernel_rfl) (by kernel_rfl) (fun _ _ _ h => h) (by kernel_rfl) hS (fun w hJ => ?hy) (fun hS => ?_)
      case hy => go_simp; (try with_reducible rfl); (try (intro h; omega)); (try (simp [IntKind.wrap_i64]))
      try simp only [Act.put, List.getElem_toArray, List.getElem_cons_succ, List.getElem_cons_zero, List.setIfInBounds_toArray, List.set_cons_zero, List.set_cons_succ]
      refine take_free (i := 6) (oi := _) (v := .slice A8 m c8) rfl (by kernel_rfl) (by kernel_rfl) (by kernel_rfl) (by kernel_rfl) (fun _ _ _ h => h) (by kernel_rfl) hS (fun w hJ => ?hy) (fun hS => ?_)
      case hy => obtain ⟨j0, j1⟩ := hJ; go_simp; (try with_reducible rfl); (try (intro h; omega)); (try (simp [IntKind.wrap_i64]))
      try simp only [Act.put, List.getElem_toArray, List.getElem_cons_succ, List.getElem_cons_zero, List.setIfInBounds_toArray, List.set_cons_zero, List.set_cons_succ]
      refine take_free (i := 7) (oi := _) (v := .int .i64 (m : Int)) rfl (by kernel_rfl) (by kernel_rfl) (by kernel_rfl) (by kernel_rfl) (fun _ _ _ h => h) (by kernel_rfl) hS (fun w hJ => ?hy) (fun hS => ?_)
      case hy => go_simp; (try with_reducible rfl); (try (intro h; omega)); (try (simp [IntKind.wrap_i64]))
      try simp only [Act.put, List.getElem_toArray, List.getElem_cons_succ, List.getElem_cons_zero, List.setIfInBounds_toArray, List.set_cons_zero, List.set_cons_succ]
      refine only_W (i := 2) rfl (by kernel_rfl) (by kernel_rfl) (fun K hK => ?_)
      go_simp
      refine (HSE.out _ HKD.out).mono ?_
      rintro e w5 ⟨rfl, hk5⟩
      have K5 : Kept [] wr w5 := HKD.out.new hk5 (by simp)
      refine hK _ _ (Still.later (by kernel_rfl) (HJJ.out _ K5)) (fun hS => ?_)
      clear hK K
      try simp only [Act.put, List.getElem_toArray, List.getElem_cons_succ, List.getElem_cons_zero, List.setIfInBounds_toArray, List.set_cons_zero, List.set_cons_succ]
      refine take_free (i := 8) (oi := _) (v := .bool false) rfl (by kernel_rfl) (by kernel_rfl) (by kernel_rfl) (by kernel_rfl) (fun _ _ _ h => h) (by kernel_rfl) hS (fun w hJ => ?hy) (fun hS => ?_)
      case hy => go_simp; (try with_reducible rfl); (try (intro h; omega)); (try (simp [IntKind.wrap_i64]))
      try simp only [Act.put, List.getElem_toArray, List.getElem_cons_succ, List.getElem_cons_zero, List.setIfInBounds_toArray, List.set_cons_zero, List.set_cons_succ]
      refine take_free (i := 9) (oi := _) (v := .bool false) rfl (by kernel_rfl) (by kernel_rfl) (by kernel_rfl) (by kernel_rfl) (fun _ _ _ h => h) (by kernel_rfl) hS (fun w hJ => ?hy) (fun hS => ?_)
      case hy => go_simp; (try with_reducible rfl); (try (intro h; omega)); (try (simp [IntKind.wrap_i64]))
      try simp only [Act.put, List.getElem_toArray, List.getElem_cons_succ, List.getElem_cons_zero, List.setIfInBounds_toArray, List.set_cons_zero, List.set_cons_succ]
      refine take_free (i := 10) (oi := _) (v := .pointer (some ⟨b, 0, none⟩)) rfl (by kernel_rfl) (by kernel_rfl) (by kernel_rfl) (by kernel_rfl) (fun _ _ _ h => h) (by kernel_rfl) hS (fun w hJ => ?hy) (fun hS => ?_)
      case hy => go_simp; (try with_reducible rfl); (try (intro h; omega)); (try (simp [IntKind.wrap_i64]))
      try simp only [Act.put, List.getElem_toArray, List.getElem_cons_succ, List.getElem_cons_zero, List.setIfInBounds_toArray, List.set_cons_zero, List.set_cons_succ]
      refine take_free (i := 11) (oi := _) (v := .int .i64 (k : Int)) rfl (by kernel_rfl) (by kernel_rfl) (by kernel_rfl) (by kernel_rfl) (fun _ _ _ h => h) (by kernel_rfl) hS (fun w hJ => ?hy) (fun hS => ?_)
      case hy => go_simp; (try with_reducible rfl); (try (intro h; omega)); (try (simp [IntKind.wrap_i64]))
      try simp only [Act.put, List.getElem_toArray, List.getElem_cons_succ, List.getElem_cons_zero, List.setIfInBounds_toArray, List.set_cons_zero, List.set_cons_succ]
      refine take_free (i := 14) (oi := _) (v := .int .i64 (k : Int)) rfl (by kernel_rfl) (by kernel_rfl) (by kernel_rfl) (by kernel_rfl) (fun _ _ _ h => h) (by kernel_rfl) hS (fun w hJ => ?hy) (fun hS => ?_)
      case hy => go_simp; (try with_reducible rfl); (try (intro h; omega)); (try (simp [IntKind.wrap_i64]))
      try simp only [Act.put, List.getElem_toArray, List.getElem_cons_succ, List.getElem_cons_zero, List.setIfInBounds_toArray, List.set_cons_zero, List.set_cons_succ]
      refine take_free (i := 15) (oi := _) (v := .pointer (some ⟨B, 2, none⟩)) rfl (by kernel_rfl) (by kernel_rfl) (by kernel_rfl) (by kernel_rfl) (fun _ _ _ h => h) (by kernel_rfl) hS (fun w hJ => ?hy) (fun hS => ?_)
      case hy => go_simp; (try with_reducible rfl); (try (intro h; omega)); (try (simp [IntKind.wrap_i64]))
      try simp only [Act.put, List.getElem_toArray, List.getElem_cons_succ, List.getElem_cons_zero, List.setIfInBounds_toArray, List.set_cons_zero, List.set_cons_succ]
      refine take_free (i := 16) (oi := _) (v := .pointer (some ⟨B, 2 + k, none⟩)) rfl (by kernel_rfl) (by kernel_rfl) (by kernel_rfl) (by kernel_rfl) (fun _ _ _ h => h) (by kernel_rfl) hS (fun w hJ => ?hy) (fun hS => ?_)
      case hy => go_simp; (try with_reducible rfl); (try (intro h; omega)); (try (simp [IntKind.wrap_i64]))
      try simp only [Act.put, List.getElem_toArray, List.getElem_cons_succ, List.getElem_cons_zero, List.setIfInBounds_toArray, List.set_cons_zero, List.set_cons_succ]
      refine take_free (i := 17) (oi := _) (v := .slice A8 m c8) rfl (by kernel_rfl) (by kernel_rfl) (by kernel_rfl) (by kernel_rfl) (fun _ _ _ h => h) (by kernel_rfl) hS (fun w hJ => ?hy) (fun hS => ?_)
      case hy => obtain ⟨j0, j1⟩ := hJ; go_simp; (try with_reducible rfl); (try (intro h; omega)); (try (simp [IntKind.wrap_i64]))
      try simp only [Act.put, List.getElem_toArray, List.getElem_cons_succ, List.getElem_cons_zero, List.setIfInBounds_toArray, List.set_cons_zero, List.set_cons_succ]
      refine take_free (i := 18) (oi := _) (v := .string (str T)) rfl (by kernel_rfl) (by kernel_rfl) (by kernel_rfl) (by kernel_rfl) (fun _ _ _ h => h) (by kernel_rfl) hS (fun w hJ => ?hy) (fun hS => ?_)
      case hy => obtain ⟨j0, j1⟩ := hJ; go_simp; (try with_reducible rfl); (try (intro h; omega)); (try (simp [IntKind.wrap_i64]))
      try simp only [Act.put, List.getElem_toArray, List.getElem_cons_succ, List.getElem_cons_zero, List.setIfInBounds_toArray, List.set_cons_zero, List.set_cons_succ]
      refine only_W (i := 12) rfl (by kernel_rfl) (by kernel_rfl) (fun K hK => ?_)
      go_simp
      refine (HTR.out _ K5).mono ?_
      rintro e w7 ⟨g7, rfl, ho7, hk7, _, _⟩
      have K7 : Kept [] wr w7 := K5.new hk7 (by simp)
      have cv7 : (convert 22 9 (.slice (some ⟨g7, 0, none⟩) m m)).run Try.prog w7 = .ok (.string (str T)) w7 := by
        have := conv_str ho7.src m
        rw [← HM.out] at this
        exact this
      refine hK _ _ (Still.later (by kernel_rfl) (HJJ.out _ K7)) (fun hS => ?_)
      clear hK K
      try simp only [Act.put, List.getElem_toArray, List.getElem_cons_succ, List.getElem_cons_zero, List.setIfInBounds_toArray, List.set_cons_zero, List.set_cons_succ]
      refine only_W (i := 13) rfl (by kernel_rfl) (by kernel_rfl) (fun K hK => ?_)
      go_simp
      refine hK _ _ hS (fun hS => ?_)
      clear hK K cv7
      try simp only [Act.put, List.getElem_toArray, List.getElem_cons_succ, List.getElem_cons_zero, List.setIfInBounds_toArray, List.set_cons_zero, List.set_cons_succ]
      refine take_free (i := 19) (oi := _) (v := .bool false) rfl (by kernel_rfl) (by kernel_rfl) (by kernel_rfl) (by kernel_rfl) (fun _ _ _ h => h) (by kernel_rfl) hS (fun w hJ => ?hy) (fun hS => ?_)
      case hy => go_simp; (try with_reducible rfl); (try (intro h; omega)); (try (simp [IntKind.wrap_i64]))
      try simp only [Act.put, List.getElem_toArray, List.getElem_cons_succ, List.getElem_cons_zero, List.setIfInBounds_toArray, List.set_cons_zero, List.set_cons_succ]
      refine take_free (i := 20) (oi := _) (v := .bool false) rfl (by kernel_rfl) (by kernel_rfl) (by kernel_rfl) (by kernel_rfl) (fun _ _ _ h => h) (by kernel_rfl) hS (fun w hJ => ?hy) (fun hS => ?_)
      case hy => go_simp; (try with_reducible rfl); (try (intro h; omega)); (try (simp [IntKind.wrap_i64]))
      try simp only [Act.put, List.getElem_toArray, List.getElem_cons_succ, List.getElem_cons_zero, List.setIfInBounds_toArray, List.set_cons_zero, List.set_cons_succ]
      refine done_W (by kernel_rfl) (NoPanic.normal ?_)
      have HK7 := hide (hkr.out.new K7 (by simp))
      clear hS
      go_wp2_with fail
      go_roundw
      case rel => exact ⟨k + 1, by omega, by go_num, HK7⟩
      case measure => simp [intOf]; omega
    · have HJJ : Hid (∀ wx, Kept [] wr wx → JB B #[Value.int IntKind.i64 st.budget, Value.int IntKind.i64 st.cut, Value.slice A0 st.s0.length c0, Value.slice A2 st.s1.length c2, Value.slice A1 st.q0.length c1, Value.slice A3 st.q1.length c3, Value.bool st.down] wx) := fun wx hkx => (hkx.block B (Nat.lt_of_lt_of_le HB.out.2.2 hkr.out.size) (by simp)).trans hBr
      obtain ⟨V, hV⟩ : ∃ V, V = st.budget - (st.total : Int) := ⟨_, rfl⟩
      have HLE : Hid (∀ wx, Kept [] wr wx → Calls Try.prog 14 #[.pointer (some ⟨b, 0, none⟩)] wx fun e w' => e = .returned (.int .i64 V) ∧ Drawn wx w') := fun wx hkx => by
        have h := left_calls (hLr.keep hkx (by simp)) HOK.out
        rw [← hV] at h
        exact h
      have HDO : Hid (∀ wx, Kept [] wr wx → Calls Try.prog 15 #[.pointer (some ⟨b, 0, none⟩)] wx fun e w' => e = .returned (.bool st.down) ∧ wx = w') := fun wx hkx => down_calls (hLr.keep hkx (by simp))
      obtain ⟨tt, htt⟩ : ∃ t, t = st.total := ⟨_, rfl⟩
      have hlens : (st.s0.length : Int) + (st.s1.length : Int) = (tt : Int) := by rw [htt]; unfold LS.total; omega
      rw [← htt] at hV b0
      have hwr : IntKind.i64.wrap (st.budget - (tt : Int)) = V := by rw [hV, IntKind.wrap_i64]; omega
      have hl0 : (st.s0.length : Int) + (st.s1.length : Int) ≤ 4611686018427387904 := by omega
      have HLENS := hide hlens
      have HL0 := hide hl0
      have hkd : Kept [] wr wr.drew := (Kept.refl _ _).drew
      have HKD := hide hkd
      obtain ⟨e0, e1, e2, e3, e4, e5, e6⟩ := seven hBr
      clear hBr hLr hCr hkd hV htt hlens hl0
      go_wp2_with fail
      refine wp_region_noPanic ?_
      refine begin_W 1 (JB B #[Value.int IntKind.i64 st.budget, Value.int IntKind.i64 st.cut, Value.slice A0 st.s0.length c0, Value.slice A2 st.s1.length c2, Value.slice A1 st.q0.length c1, Value.slice A3 st.q1.length c3, Value.bool st.down]) (by kernel_rfl) (HJJ.out _ HKD.out) (fun hS => ?_)
      clear e0 e1 e2 e3 e4 e5 e6
      generalize hWd : wr.drew = Wd at *
      refine take_free (i := 0) (oi := _) (v := .pointer (some ⟨b, 0, none⟩)) rfl (by kernel_rfl) (by kernel_rfl) (by kernel_rfl) (by kernel_rfl) (fun _ _ _ h => h) (by kernel_rfl) hS (fun w hJ => ?hy) (fun hS => ?_)
      case hy => go_simp; (try with_reducible rfl); (try (intro h; omega)); (try (simp [IntKind.wrap_i64]))
      try simp only [Act.put, List.getElem_toArray, List.getElem_cons_succ, List.getElem_cons_zero, List.setIfInBounds_toArray, List.set_cons_zero, List.set_cons_succ]
      refine take_free (i := 2) (oi := _) (v := .pointer (some ⟨B, 0, none⟩)) rfl (by kernel_rfl) (by kernel_rfl) (by kernel_rfl) (by kernel_rfl) (fun _ _ _ h => h) (by kernel_rfl) hS (fun w hJ => ?hy) (fun hS => ?_)
      case hy => go_simp; (try with_reducible rfl); (try (intro h; omega)); (try (simp [IntKind.wrap_i64]))
      try simp only [Act.put, List.getElem_toArray, List.getElem_cons_succ, List.getElem_cons_zero, List.setIfInBounds_toArray, List.set_cons_zero, List.set_cons_succ]
      refine take_free (i := 3) (oi := _) (v := .int .i64 st.budget) rfl (by kernel_rfl) (by kernel_rfl) (by kernel_rfl) (by kernel_rfl) (fun _ _ _ h => h) (by kernel_rfl) hS (fun w hJ => ?hy) (fun hS => ?_)
      case hy => obtain ⟨e0, e1, e2, e3, e4, e5, e6⟩ := seven hJ; go_simp; (try with_reducible rfl); (try (intro h; omega)); (try (simp [IntKind.wrap_i64]))
      try simp only [Act.put, List.getElem_toArray, List.getElem_cons_succ, List.getElem_cons_zero, List.setIfInBounds_toArray, List.set_cons_zero, List.set_cons_succ]
      refine take_free (i := 4) (oi := _) (v := .agg #[Value.int IntKind.i64 st.budget, Value.int IntKind.i64 st.cut, Value.slice A0 st.s0.length c0, Value.slice A2 st.s1.length c2, Value.slice A1 st.q0.length c1, Value.slice A3 st.q1.length c3, Value.bool st.down]) rfl (by kernel_rfl) (by kernel_rfl) (by kernel_rfl) (by kernel_rfl) (fun _ _ _ h => h) (by kernel_rfl) hS (fun w hJ => ?hy) (fun hS => ?_)
      case hy => obtain ⟨e0, e1, e2, e3, e4, e5, e6⟩ := seven hJ; go_simp; (try with_reducible rfl); (try (intro h; omega)); (try (simp [IntKind.wrap_i64]))
      try simp only [Act.put, List.getElem_toArray, List.getElem_cons_succ, List.getElem_cons_zero, List.setIfInBounds_toArray, List.set_cons_zero, List.set_cons_succ]
      refine only_W (i := 1) rfl (by kernel_rfl) (by kernel_rfl) (fun K hK => ?_)
      go_simp
      refine (HLE.out _ HKD.out).mono ?_
      rintro e w5 ⟨rfl, hd5⟩
      have K5 : Kept [] wr w5 := HKD.out.new (hd5.kept []) (by simp)
      refine hK _ _ (Still.later (by kernel_rfl) (HJJ.out _ K5)) (fun hS => ?_)
      clear hK K
      try simp only [Act.put, List.getElem_toArray, List.getElem_cons_succ, List.getElem_cons_zero, List.setIfInBounds_toArray, List.set_cons_zero, List.set_cons_succ]
      refine only_W (i := 5) rfl (by kernel_rfl) (by kernel_rfl) (fun K hK => ?_)
      go_simp
      refine (rtotal_raw _ _ HL0.out _ _ _ _ _ _ _ _ _ _).mono ?_
      rintro e w7 ⟨rfl, hk7⟩
      rw [HLENS.out]
      have K7 : Kept [] wr w7 := K5.new hk7 (by simp)
      refine hK _ _ (Still.later (by kernel_rfl) (HJJ.out _ K7)) (fun hS => ?_)
      clear hK K
      try simp only [Act.put, List.getElem_toArray, List.getElem_cons_succ, List.getElem_cons_zero, List.setIfInBounds_toArray, List.set_cons_zero, List.set_cons_succ]
      refine take_free (i := 6) (oi := _) (v := .int .i64 V) rfl (by kernel_rfl) (by kernel_rfl) (by kernel_rfl) (by kernel_rfl) (fun _ _ _ h => h) (by kernel_rfl) hS (fun w hJ => ?hy) (fun hS => ?_)
      case hy => go_simp; (try with_reducible rfl); (try (intro h; omega)); (try (simp [IntKind.wrap_i64]))
      try simp only [Act.put, List.getElem_toArray, List.getElem_cons_succ, List.getElem_cons_zero, List.setIfInBounds_toArray, List.set_cons_zero, List.set_cons_succ]
      refine take_free (i := 7) (oi := _) (v := .bool true) rfl (by kernel_rfl) (by kernel_rfl) (by kernel_rfl) (by kernel_rfl) (fun _ _ _ h => h) (by kernel_rfl) hS (fun w hJ => ?hy) (fun hS => ?_)
      case hy => go_simp; (try with_reducible rfl); (try (intro h; omega)); (try (simp [IntKind.wrap_i64]))
      try simp only [Act.put, List.getElem_toArray, List.getElem_cons_succ, List.getElem_cons_zero, List.setIfInBounds_toArray, List.set_cons_zero, List.set_cons_succ]
      refine take_free (i := 8) (oi := _) (v := .bool true) rfl (by kernel_rfl) (by kernel_rfl) (by kernel_rfl) (by kernel_rfl) (fun _ _ _ h => h) (by kernel_rfl) hS (fun w hJ => ?hy) (fun hS => ?_)
      case hy => go_simp; (try with_reducible rfl); (try (intro h; omega)); (try (simp [IntKind.wrap_i64]))
      try simp only [Act.put, List.getElem_toArray, List.getElem_cons_succ, List.getElem_cons_zero, List.setIfInBounds_toArray, List.set_cons_zero, List.set_cons_succ]
      refine take_free (i := 9) (oi := _) (v := .pointer (some ⟨b, 0, none⟩)) rfl (by kernel_rfl) (by kernel_rfl) (by kernel_rfl) (by kernel_rfl) (fun _ _ _ h => h) (by kernel_rfl) hS (fun w hJ => ?hy) (fun hS => ?_)
      case hy => go_simp; (try with_reducible rfl); (try (intro h; omega)); (try (simp [IntKind.wrap_i64]))
      try simp only [Act.put, List.getElem_toArray, List.getElem_cons_succ, List.getElem_cons_zero, List.setIfInBounds_toArray, List.set_cons_zero, List.set_cons_succ]
      refine take_free (i := 11) (oi := _) (v := .pointer (some ⟨B, 6, none⟩)) rfl (by kernel_rfl) (by kernel_rfl) (by kernel_rfl) (by kernel_rfl) (fun _ _ _ h => h) (by kernel_rfl) hS (fun w hJ => ?hy) (fun hS => ?_)
      case hy => go_simp; (try with_reducible rfl); (try (intro h; omega)); (try (simp [IntKind.wrap_i64]))
      try simp only [Act.put, List.getElem_toArray, List.getElem_cons_succ, List.getElem_cons_zero, List.setIfInBounds_toArray, List.set_cons_zero, List.set_cons_succ]
      refine take_free (i := 12) (oi := _) (v := .bool st.down) rfl (by kernel_rfl) (by kernel_rfl) (by kernel_rfl) (by kernel_rfl) (fun _ _ _ h => h) (by kernel_rfl) hS (fun w hJ => ?hy) (fun hS => ?_)
      case hy => obtain ⟨e0, e1, e2, e3, e4, e5, e6⟩ := seven hJ; go_simp; (try with_reducible rfl); (try (intro h; omega)); (try (simp [IntKind.wrap_i64]))
      try simp only [Act.put, List.getElem_toArray, List.getElem_cons_succ, List.getElem_cons_zero, List.setIfInBounds_toArray, List.set_cons_zero, List.set_cons_succ]
      refine only_W (i := 10) rfl (by kernel_rfl) (by kernel_rfl) (fun K hK => ?_)
      go_simp
      refine (HDO.out _ K7).mono ?_
      rintro e w8 ⟨rfl, rfl⟩
      refine hK _ _ (Still.later (by kernel_rfl) (HJJ.out _ K7)) (fun hS => ?_)
      clear hK K
      try simp only [Act.put, List.getElem_toArray, List.getElem_cons_succ, List.getElem_cons_zero, List.setIfInBounds_toArray, List.set_cons_zero, List.set_cons_succ]
      refine take_free (i := 13) (oi := _) (v := .bool true) rfl (by kernel_rfl) (by kernel_rfl) (by kernel_rfl) (by kernel_rfl) (fun _ _ _ h => h) (by kernel_rfl) hS (fun w hJ => ?hy) (fun hS => ?_)
      case hy => go_simp; (try with_reducible rfl); (try (intro h; omega)); (try (simp [IntKind.wrap_i64]))
      try simp only [Act.put, List.getElem_toArray, List.getElem_cons_succ, List.getElem_cons_zero, List.setIfInBounds_toArray, List.set_cons_zero, List.set_cons_succ]
      refine take_free (i := 14) (oi := _) (v := .bool true) rfl (by kernel_rfl) (by kernel_rfl) (by kernel_rfl) (by kernel_rfl) (fun _ _ _ h => h) (by kernel_rfl) hS (fun w hJ => ?hy) (fun hS => ?_)
      case hy => go_simp; (try with_reducible rfl); (try (intro h; omega)); (try (simp [IntKind.wrap_i64]))
      try simp only [Act.put, List.getElem_toArray, List.getElem_cons_succ, List.getElem_cons_zero, List.setIfInBounds_toArray, List.set_cons_zero, List.set_cons_succ]
      refine take_free (i := 15) (oi := _) (v := .bool true) rfl (by kernel_rfl) (by kernel_rfl) (by kernel_rfl) (by kernel_rfl) (fun _ _ _ h => h) (by kernel_rfl) hS (fun w hJ => ?hy) (fun hS => ?_)
      case hy => go_simp; (try with_reducible rfl); (try (intro h; omega)); (try (simp [IntKind.wrap_i64]))
      try simp only [Act.put, List.getElem_toArray, List.getElem_cons_succ, List.getElem_cons_zero, List.setIfInBounds_toArray, List.set_cons_zero, List.set_cons_succ]
      refine done_W (by kernel_rfl) (NoPanic.normal ?_)
      clear hS
      go_wp2_with fail
      go_ret
      exact ⟨rfl, (HB.out.2.1.new hkr.out (by simp)).new K7 (by simp)⟩
end Go.Proofs.Ytbajpofmaffpgaa
