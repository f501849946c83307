/-
  LoadSeats: for all inputs the law returns true, and leaves its arguments as they were; the card.
  No condition.
-/
import Derived.Test.YtnjhblcfjhpoiaaGreatDoorZYlp2
import Derived.SevenTiedAt
set_option linter.all false

namespace Go.Qg
open Go.Proofs
set_option maxRecDepth 100000
section
open Tryz
theorem cells_int : Tryz.prog.cellsOf 3 = 1 := by kernel_rfl
theorem d_ints {n : Nat} : tdef Tryz.prog (n + 2) 41 = [ints []] := by
  rw [d_slice Tryz.underlying41 cells_int]
  simp only [d_int]; rfl
theorem cells_spn : Tryz.prog.cellsOf 37 = 2 := by kernel_rfl
theorem t_spns {n : Nat} {ps : List PV} (h : Typ Tryz.prog (n + 3) 64 ps) : ∃ l : List Spn, ps = [spnL l] ∧ l.length ≤ 9223372036854775807 := by
  obtain ⟨m, f, h1, h2, h3, h4⟩ := t_slice Tryz.underlying64 cells_spn h
  obtain ⟨l, g1, g2, _⟩ := sl_list Spn.cells (fun _ => True) (fun i hi => (t_spn (h3 i hi)).elim fun r h => ⟨r, h, trivial⟩) (fun i hi => (h4 i hi).trans d_spn)
  refine ⟨l, ?_, by omega⟩
  rw [h1, g2, ← g1]; rfl
theorem d_spns {n : Nat} : tdef Tryz.prog (n + 3) 64 = [spnL []] := by
  rw [d_slice Tryz.underlying64 cells_spn]
  simp only [d_spn]; rfl
theorem a_spns {n : Nat} {p : PV} (h : ArgP Tryz.prog (n + 3) 64 p) : ∃ l : List Spn, p = spnL l ∧ l.length ≤ 9223372036854775807 := by
  obtain ⟨l, h1, h2⟩ := t_spns (a_slice Tryz.underlying64 h)
  exact ⟨l, List.singleton_inj.1 h1, h2⟩
theorem d_psn {n : Nat} : tdef Tryz.prog (n + 3) 123 = (default : Psn).cells := by
  rw [d_struct Tryz.underlying123]; simp [d_int, d_spn]; rfl
end
end Go.Qg


namespace Go.Proofs.YtnjhblcfjhpoiaaGreatDoor.lawLoadSeats
open Go.Qg Go.ChangeAt Go.RowKit
set_option maxRecDepth 100000
theorem spec (args : List PV) (hl : Tryz.f9.params.toList.length = args.length) (h : ∀ (j : Nat) t p, Tryz.f9.params.toList[j]? = some t → args[j]? = some p → ArgP Tryz.prog 6 t p) : Qg.Spec Tryz.prog 9 args (.v (.bool true)) := by
  rw [Tryz.params9] at hl h
  match args, hl with
  | [a0, a1, a2, a3, a4], _ =>
    obtain ⟨P0, rfl, hP0⟩ := a_pln (h 0 _ a0 rfl rfl)
    obtain ⟨w1, rfl, hw1⟩ := a_spns (h 1 _ a1 rfl rfl)
    obtain ⟨s2, rfl⟩ := a_spn (h 2 _ a2 rfl rfl)
    obtain ⟨w3, rfl, hw3⟩ := a_spns (h 3 _ a3 rfl rfl)
    obtain ⟨b4, rfl⟩ := a_bool (h 4 _ a4 rfl rfl)
    exact LoadSeats_spec P0 w1 s2 w3 b4 hP0 hw1 hw3
theorem lifted (os : Os) (started : os.Started) (H : Type) (enc : TypeId × Value → H) :
    ReturnsInHanded {} Tryz.checked os 9 .any (fun w args => (Rows.loadSeatsSpec.pre enc Tryz.prog Tryz.f9 Rows.loadSeatsRow.domain false w args ∧ laidMet Tryz.prog laidL w) ∧ sizedMet enc Tryz.prog Tryz.f9 (OpenSpec.ofChange Rows.loadSeatsSpec) false w args) (Rows.loadSeatsSpec.post enc Tryz.prog Tryz.f9 false true false false) := by
  refine law_lifted (C := Tryz.checked) 6 (tb := 4) (laid := laidL) tabs_of_laid ownKnob_ started (by kernel_rfl) Tryz.func9
    (ChangeSpec.witness_at (enc := enc) (C := Tryz.checked) (os := os) (X := fun w _ => laidMet Tryz.prog laidL w) false (laidWorld os) #[.agg #[.int .i64 0, .int .i64 0, .int .i64 0, .int .i64 0, .slice none 0 0, .slice none 0 0, .int .i64 0, .int .i64 0, .int .i64 0, .slice none 0 0], .slice none 0 0, .agg #[.int .i64 0, .int .i64 0], .slice none 0 0, .bool false] 8 rfl (by kernel_rfl) (by kernel_rfl) (by kernel_rfl) (by kernel_rfl) (by kernel_rfl) (laid_met os _)) laidOut_ rfl (by kernel_rfl) (by kernel_rfl) Tryz.underlying4 ?_ spec
  intro ds hds
  match ds, hds with
  | [_, _, _, _, _], _ => exact ⟨rfl, rfl, rfl⟩
theorem LoadSeats_holds : Rows.LoadSeatsSaid :=
  OpenClaim.holds_of_wide 9 Tryz.f9 rfl rfl rfl rfl rfl rfl rfl ⟨rfl, rfl, rfl, rfl, rfl⟩ rfl rfl rfl rfl rfl (by kernel_rfl) Tryz.func9 (by kernel_rfl)
    (of_decide_eq_true (by kernel_rfl)) (by unfold Func.isWrapper; first | (rw [if_pos (by decide +kernel)]; kernel_rfl) | (rw [if_neg (by decide +kernel)]; exact ⟨rfl, rfl⟩))
    (fun os started H enc _ => lifted os started H enc)
theorem LoadSeats_card : Rows.LoadSeatsCardSaid :=
  Claim7.holds_tied_plain_at .later [] [.data, .data, .data] true (true, "5ead983eb76cd4f028fa487a1870d2e1f3e01aa43d232f67d0214a0db4d1ac67") true
    LoadSeats_holds (fun _ h => by cases h) (by kernel_rfl) (fun _ h => by cases h) loadSeats_row_tie rfl ⟨rfl, rfl⟩ (by kernel_rfl) rfl
    (fun f fn hf hfn => by
      obtain rfl : f = 9 := Option.some.inj ((show Tryz.prog.funcNamed "windsock/windsocklaw02.LoadSeats" = some 9 by kernel_rfl).symm.trans hf) |>.symm
      obtain rfl : fn = Tryz.f9 := (Option.some.inj (Tryz.func9.symm.trans hfn)).symm
      exact ⟨by kernel_rfl, fun j t ht => by
        rw [Tryz.params9] at ht
        have hm : t ∈ [27, 64, 37, 64, 4] := by simpa using Array.mem_of_getElem? ht
        have hall : ([27, 64, 37, 64, 4].all fun u => !Tryz.prog.wantsStandIn u) = true := by kernel_rfl
        have h := List.all_eq_true.1 hall t hm
        exact (show Tryz.prog.wantsStandIn t = false by simpa using h)⟩)
    (by kernel_rfl)
end Go.Proofs.YtnjhblcfjhpoiaaGreatDoor.lawLoadSeats

