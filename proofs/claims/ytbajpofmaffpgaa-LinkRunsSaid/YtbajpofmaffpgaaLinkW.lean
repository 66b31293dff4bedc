/- awake: the example of the chapter holds. -/
import Derived.Test.YtbajpofmaffpgaaLinkS
import Derived.Lib.SlBytesConst
namespace Go.Proofs.Ytbajpofmaffpgaa
open Go.RowKit
set_option linter.unusedSimpArgs false
set_option linter.unusedVariables false

/-- Bytes as a string. -/
def str (xs : List UInt8) : ByteArray := ⟨xs.toArray⟩

theorem fold_str (xs : List UInt8) : ∀ s : ByteArray, (xs.map fun b => (b.toNat : Int)).foldl (fun r n => r.push (UInt8.ofNat n.toNat)) s = ⟨(s.data.toList ++ xs).toArray⟩ := by
  induction xs with
  | nil => intro s; simp
  | cons x xs ih =>
    intro s
    simp only [List.map_cons, List.foldl_cons]
    rw [ih]
    simp [ByteArray.push]

theorem run_str {P : Program} {w : World} {D : Nat → Prop} {A : Option Addr} {xs : List UInt8} (h : Src w D A xs) (c : Nat) :
    (Conv.bytesToString (.slice A xs.length c)).run P w = .ok (.string (str xs)) w := by
  by_cases h0 : xs.length = 0
  · obtain rfl : xs = [] := List.eq_nil_of_length_eq_zero h0
    cases A <;> simp [Conv.bytesToString, loadCells, loadCellsFrom, str]
    all_goals rfl
  · obtain ⟨ad, rfl, _, hc⟩ := h.at_ (by omega)
    have hl : (loadCells ad xs.length).run P w = .ok ((xs.map fun b => (b.toNat : Int)).map (Value.int .u8)).toArray w := by
      have := run_loadCells_list (P := P) w ad (bs xs) hc
      rw [bs_length] at this
      rw [this]
      congr 2
      simp [bs]
    rw [run_bytesToString w ad xs.length c _ hl, fold_str]
    rfl

/-- The bytes that stand in a block, as a source. -/
theorem Src.of_block {w : World} {g : Nat} {xs : List UInt8} {T : TypeId} {fr : Nat × Nat} (h : w.heap[g]? = some (.cells (bs xs).toArray T fr)) : Src w (· = g) (some ⟨g, 0, none⟩) xs :=
  ⟨fun _ => ⟨_, rfl, rfl, fun j u hu => by
    have ha : (⟨g, 0, none⟩ : Addr).add j = ⟨g, j, none⟩ := by unfold Addr.add; split <;> simp_all
    rw [ha, cell_of_row w g j _ T fr h]
    simpa using hu⟩⟩

theorem conv_str {w : World} {D : Nat → Prop} {A : Option Addr} {xs : List UInt8} (h : Src w D A xs) (c : Nat) : (convert 22 9 (.slice A xs.length c)).run Try.prog w = .ok (.string (str xs)) w := by
  rw [run_convert_bytes_string w 22 9 5 A xs.length c Try.underlying22 Try.underlying5 Try.underlying9]
  exact run_str h c

def L0 : LS := LS.new 10 5
def L1 : LS := L0.send 0 [97, 98, 99]
def L2 : LS := L1.send 1 [120, 121, 122]
theorem L0_ok : L0.Ok := LS.new_ok _ _ (by omega) (by omega) (by omega) (by omega)

theorem awake_calls (w : World) : Calls Try.prog 11 #[] w fun e w' => e = .returned (.bool true) ∧ Kept [] w w' := by
  have kc := fun (w : World) (C : Array Value) (n c : Nat) => Lib.run_convert_bytes_const (P := Try.prog) w 22 5 C n c Try.underlying22 Try.underlying5
  go_enter Try.func11, Try.ntmps11
  go_wp2_with (first
    | (go_at_call 10; refine (new_yes _ _ _ (by omega) (by omega)).mono ?_; rintro e w1 ⟨rfl, hL1, hk1, hz1⟩)
    | fail)
  refine (send_calls (st := L0) (xs := [97, 98, 99]) (hL1.keep (G := []) ((Kept.refl _ _).alloc _) (by simp)) L0_ok 0 (.inl rfl) _ _ (Src.of_block (xs := [97, 98, 99]) (heap_alloc_new w1 _)) (by simp; omega) (by simp)).mono ?_
  rintro e w2 ⟨he, F2, hL2, hk2, hF2⟩
  replace he : e = .returned (.tuple #[.int .i64 3, .int .i64 0]) := he
  subst he
  go_wp2_with fail
  refine (send_calls (st := L1) (xs := [120, 121, 122]) (hL2.keep (G := []) ((Kept.refl _ _).alloc _) (by simp)) (send_ok L0_ok _ _) 1 (.inr rfl) _ _ (Src.of_block (xs := [120, 121, 122]) (heap_alloc_new w2 _)) (by simp; intro h; have := hL2.lt _ h; omega) (by simp)).mono ?_
  rintro e w3 ⟨he, F3, hL3, hk3, hF3⟩
  replace he : e = .returned (.tuple #[.int .i64 2, .int .i64 15]) := he
  subst he
  have hok2 : L2.Ok := send_ok (send_ok L0_ok _ _) _ _
  go_wp2_with fail
  refine (receive_yes (st := L2) hL3 hok2 1 (.inr rfl)).mono ?_
  rintro e w4 ⟨g4, F4, he, ho4, hL4, hk4, hg4, hgl4, hF4⟩
  replace he : e = .returned (.tuple #[.slice (some ⟨g4, 0, none⟩) 3 3, .int .i64 0]) := he
  subst he
  go_wp2_with fail
  refine (receive_yes hL4 (recv_ok hok2 1) 0 (.inl rfl)).mono ?_
  rintro e w5 ⟨g5, F5, he, ho5, hL5, hk5, hg5, hgl5, hF5⟩
  replace he : e = .returned (.tuple #[.slice (some ⟨g5, 0, none⟩) 2 2, .int .i64 0]) := he
  subst he
  have hs4 : Src w5 (· ∈ blk (some ⟨g4, 0, none⟩)) (some ⟨g4, 0, none⟩) [97, 98, 99] := ho4.src.keep hk5 (by simp [blk]; intro h; have := hL3.lt _ (hF4 _ h); omega)
  have hs5 : Src w5 (· ∈ blk (some ⟨g5, 0, none⟩)) (some ⟨g5, 0, none⟩) [120, 121] := ho5.src
  have c4 : (convert 22 9 (.slice (some ⟨g4, 0, none⟩) 3 3)).run Try.prog w5 = .ok (.string ⟨#[97, 98, 99]⟩) w5 := conv_str hs4 3
  have c5 : (convert 22 9 (.slice (some ⟨g5, 0, none⟩) 2 2)).run Try.prog w5 = .ok (.string ⟨#[120, 121]⟩) w5 := conv_str hs5 2
  go_wp2_with fail
  refine (left_calls hL5 (recv_ok (recv_ok hok2 1) 0)).mono ?_
  rintro e w6 ⟨he, hd6⟩
  replace he : e = .returned (.int .i64 5) := he
  subst he
  have hL6 := hL5.keep (hd6.kept []) (by simp)
  go_wp2_with fail
  refine (down_calls hL6).mono ?_
  rintro e w7 ⟨he, rfl⟩
  replace he : e = .returned (.bool true) := he
  subst he
  go_wp2_with fail
  go_ret
  have z1 := hk1.size
  have z2 := hk2.size
  have z3 := hk3.size
  simp at z2 z3
  have f2 : ∀ x ∈ F2, w.heap.size ≤ x := fun x hx => by
    rcases hF2 x hx with h | h
    · simp at h; omega
    · simp at h; omega
  have f3 : ∀ x ∈ F3, w.heap.size ≤ x := fun x hx => by
    rcases hF3 x hx with h | h
    · exact f2 x h
    · simp at h; omega
  have f4 : ∀ x ∈ F4, w.heap.size ≤ x := fun x hx => f3 x (hF4 x hx)
  exact ⟨rfl, ((((((hk1.alloc _).new hk2 (by simp)).alloc _).new hk3 f2).new hk4 f3).new hk5 f4).new (hd6.kept []) (by simp)⟩
end Go.Proofs.Ytbajpofmaffpgaa
