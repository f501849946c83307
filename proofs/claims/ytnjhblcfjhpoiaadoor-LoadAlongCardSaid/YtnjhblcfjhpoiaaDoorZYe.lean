/-
  LoadAlong: for all inputs the law returns true, and leaves its arguments as they were; the card.
  No condition.
-/
import Derived.Test.YtnjhblcfjhpoiaaDoorZYep2
import Derived.SevenTiedAt
set_option linter.all false

namespace Go.Qg
open Go.Proofs
set_option maxRecDepth 100000
section
open Tryd
theorem cells_int : Tryd.prog.cellsOf 3 = 1 := by kernel_rfl
theorem t_ints {n : Nat} {ps : List PV} (h : Typ Tryd.prog (n + 2) 32 ps) : ∃ l : List Int, ps = [ints l] ∧ l.length ≤ 9223372036854775807 := by
  obtain ⟨m, f, h1, h2, h3, h4⟩ := t_slice Tryd.underlying32 cells_int h
  obtain ⟨l, g1, g2, _⟩ := sl_list (α := Int) (fun x => [.v (.int .i64 x)]) (fun _ => True) (fun i hi => (t_int (h3 i hi)).elim fun r h => ⟨r, h, trivial⟩) (fun i hi => (h4 i hi).trans d_int)
  refine ⟨l, ?_, by omega⟩
  rw [h1, g2, ← g1]; rfl
theorem d_ints {n : Nat} : tdef Tryd.prog (n + 2) 32 = [ints []] := by
  rw [d_slice Tryd.underlying32 cells_int]
  simp only [d_int]; rfl
theorem cells_spn : Tryd.prog.cellsOf 29 = 2 := by kernel_rfl
theorem d_spns {n : Nat} : tdef Tryd.prog (n + 3) 71 = [spnL []] := by
  rw [d_slice Tryd.underlying71 cells_spn]
  simp only [d_spn]; rfl
theorem d_psn {n : Nat} : tdef Tryd.prog (n + 3) 78 = (default : Psn).cells := by
  rw [d_struct Tryd.underlying78]; simp [d_int, d_spn]; rfl
end
end Go.Qg


namespace Go.Qg
open Go.Proofs
set_option maxRecDepth 100000
section
open Tryd
theorem cells_ints : Tryd.prog.cellsOf 32 = 1 := by kernel_rfl
theorem t_inl {n : Nat} {ps : List PV} (h : Typ Tryd.prog (n + 3) 31 ps) : ∃ l : List (List Int), ps = [inlL l] ∧ l.length ≤ 9223372036854775807 ∧ ∀ k, k < l.length → (inlAt l k).length ≤ 9223372036854775807 := by
  obtain ⟨m, f, h1, h2, h3, h4⟩ := t_slice Tryd.underlying31 cells_ints h
  obtain ⟨l, g1, g2, g3⟩ := sl_list (α := List Int) (fun l => [ints l]) (fun l => l.length ≤ 9223372036854775807) (fun i hi => t_ints (h3 i hi)) (fun i hi => (h4 i hi).trans d_ints)
  refine ⟨l, ?_, by omega, fun k hk => g3 _ (by simp [inlAt, hk])⟩
  rw [h1, g2, ← g1]; rfl
theorem a_flt {n : Nat} {p : PV} (h : ArgP Tryd.prog (n + 4) 34 p) : ∃ f : Flt, p = .agg f.cells ∧ FltLen f := by
  obtain ⟨ps, rfl, g⟩ := a_struct Tryd.underlying34 h
  obtain ⟨p0, q0, rfl, h0, p1, q1, rfl, h1, p2, q2, rfl, h2, p3, q3, rfl, h3, rfl⟩ := t_struct Tryd.underlying34 g
  obtain ⟨x0, rfl, k0, j0⟩ := t_inl h0
  obtain ⟨x1, rfl⟩ := t_int h1
  obtain ⟨x2, rfl, k2⟩ := t_ints h2
  obtain ⟨x3, rfl, k3, j3⟩ := t_inl h3
  exact ⟨⟨x0, x1, x2, x3⟩, rfl, ⟨k0, k2, k3, j0, j3⟩⟩
end
end Go.Qg


namespace Go.Proofs.YtnjhblcfjhpoiaaDoor.lawLoadAlong
open Go.Qg Go.ChangeAt Go.RowKit
set_option maxRecDepth 100000
theorem spec (args : List PV) (hl : Tryd.f3.params.toList.length = args.length) (h : ∀ (j : Nat) t p, Tryd.f3.params.toList[j]? = some t → args[j]? = some p → ArgP Tryd.prog 6 t p) : Qg.Spec Tryd.prog 3 args (.v (.bool true)) := by
  rw [Tryd.params3] at hl h
  match args, hl with
  | [a0, a1, a2, a3, a4], _ =>
    obtain ⟨P0, rfl, hP0⟩ := a_pln (h 0 _ a0 rfl rfl)
    obtain ⟨s1, rfl⟩ := a_spn (h 1 _ a1 rfl rfl)
    obtain ⟨l2, rfl, hl2, hi2⟩ := a_legs (h 2 _ a2 rfl rfl)
    obtain ⟨f3, rfl, hf3⟩ := a_flt (h 3 _ a3 rfl rfl)
    obtain ⟨x4, rfl⟩ := a_int (h 4 _ a4 rfl rfl)
    exact LoadAlong_spec P0 s1 l2 f3 x4 hP0 ⟨hl2, hi2⟩ hf3
theorem lifted (os : Os) (started : os.Started) (H : Type) (enc : TypeId × Value → H) :
    ReturnsInHanded {} Tryd.checked os 3 .any (fun w args => (Rows.loadAlongSpec.pre enc Tryd.prog Tryd.f3 Rows.loadAlongRow.domain false w args ∧ laidMet Tryd.prog laidL w) ∧ sizedMet enc Tryd.prog Tryd.f3 (OpenSpec.ofChange Rows.loadAlongSpec) false w args) (Rows.loadAlongSpec.post enc Tryd.prog Tryd.f3 false true false false) := by
  refine law_lifted (C := Tryd.checked) 6 (tb := 4) (laid := laidL) tabs_of_laid ownKnob_ started (by kernel_rfl) Tryd.func3
    (ChangeSpec.witness_at (enc := enc) (C := Tryd.checked) (os := os) (X := fun w _ => laidMet Tryd.prog laidL w) false (laidWorld os) #[.agg #[.int .i64 0, .int .i64 0, .int .i64 0, .int .i64 0, .slice none 0 0, .slice none 0 0, .int .i64 0, .int .i64 0, .int .i64 0, .slice none 0 0], .agg #[.int .i64 0, .int .i64 0], .slice none 0 0, .agg #[.slice none 0 0, .int .i64 0, .slice none 0 0, .slice none 0 0], .int .i64 0] 8 rfl (by kernel_rfl) (by kernel_rfl) (by kernel_rfl) (by kernel_rfl) (by kernel_rfl) (laid_met os _)) laidOut_ rfl (by kernel_rfl) (by kernel_rfl) Tryd.underlying4 ?_ spec
  intro ds hds
  match ds, hds with
  | [_, _, _, _, _], _ => exact ⟨rfl, rfl, rfl⟩
theorem LoadAlong_holds : Rows.LoadAlongSaid :=
  OpenClaim.holds_of_wide 3 Tryd.f3 rfl rfl rfl rfl rfl rfl rfl ⟨rfl, rfl, rfl, rfl, rfl⟩ rfl rfl rfl rfl rfl (by kernel_rfl) Tryd.func3 (by kernel_rfl)
    (of_decide_eq_true (by kernel_rfl)) (by unfold Func.isWrapper; first | (rw [if_pos (by decide +kernel)]; kernel_rfl) | (rw [if_neg (by decide +kernel)]; exact ⟨rfl, rfl⟩))
    (fun os started H enc _ => lifted os started H enc)
theorem LoadAlong_card : Rows.LoadAlongCardSaid :=
  Claim7.holds_tied_plain_at .later [] [.data, .data, .data] true (true, "e2a92ffffc748d4c5d0a11da87f696f3479846fd54a3a437b368b01b198bb327") false
    LoadAlong_holds (fun _ h => by cases h) (by kernel_rfl) (fun _ h => by cases h) loadAlong_row_tie rfl ⟨rfl, rfl⟩ (by kernel_rfl) rfl
    (fun f fn hf hfn => by
      obtain rfl : f = 3 := Option.some.inj ((show Tryd.prog.funcNamed "windsock/windsocklaw02.LoadAlong" = some 3 by kernel_rfl).symm.trans hf) |>.symm
      obtain rfl : fn = Tryd.f3 := (Option.some.inj (Tryd.func3.symm.trans hfn)).symm
      exact ⟨by kernel_rfl, fun j t ht => by
        rw [Tryd.params3] at ht
        have hm : t ∈ [27, 29, 30, 34, 3] := by simpa using Array.mem_of_getElem? ht
        have hall : ([27, 29, 30, 34, 3].all fun u => !Tryd.prog.wantsStandIn u) = true := by kernel_rfl
        have h := List.all_eq_true.1 hall t hm
        exact (show Tryd.prog.wantsStandIn t = false by simpa using h)⟩)
    (by kernel_rfl)
end Go.Proofs.YtnjhblcfjhpoiaaDoor.lawLoadAlong

