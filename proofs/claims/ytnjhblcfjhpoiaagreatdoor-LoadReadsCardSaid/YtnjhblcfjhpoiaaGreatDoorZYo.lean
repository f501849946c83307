/-
  LoadReads: for all inputs the law returns true, and leaves its arguments as they were; the card.
  No condition.
-/
import Derived.Test.YtnjhblcfjhpoiaaGreatDoorZYop6
import Derived.SevenTiedAt
set_option linter.all false

namespace Go.Proofs.YtnjhblcfjhpoiaaGreatDoor.lawLoadReads
open Go.Qg Go.ChangeAt Go.RowKit
set_option maxRecDepth 100000
theorem spec (args : List PV) (hl : Tryz.f12.params.toList.length = args.length) (h : ∀ (j : Nat) t p, Tryz.f12.params.toList[j]? = some t → args[j]? = some p → ArgP Tryz.prog 6 t p) : Qg.Spec Tryz.prog 12 args (.v (.bool true)) := by
  rw [Tryz.params12] at hl h
  match args, hl with
  | [a0], _ =>
    obtain ⟨u0, rfl⟩ := a_str (h 0 _ a0 rfl rfl)
    exact LoadReads_spec u0
theorem lifted (os : Os) (started : os.Started) (H : Type) (enc : TypeId × Value → H) :
    ReturnsInHanded {} Tryz.checked os 12 .any (fun w args => (Rows.loadReadsSpec.pre enc Tryz.prog Tryz.f12 Rows.loadReadsRow.domain false w args ∧ laidMet Tryz.prog laidL w) ∧ sizedMet enc Tryz.prog Tryz.f12 (OpenSpec.ofChange Rows.loadReadsSpec) false w args) (Rows.loadReadsSpec.post enc Tryz.prog Tryz.f12 false true false false) := by
  refine law_lifted (C := Tryz.checked) 6 (tb := 4) (laid := laidL) tabs_of_laid ownKnob_ started (by kernel_rfl) Tryz.func12
    (ChangeSpec.witness_at (enc := enc) (C := Tryz.checked) (os := os) (X := fun w _ => laidMet Tryz.prog laidL w) false (laidWorld os) #[.string ⟨#[]⟩] 8 rfl (by kernel_rfl) (by kernel_rfl) (by kernel_rfl) (by kernel_rfl) (by kernel_rfl) (laid_met os _)) laidOut_ rfl (by kernel_rfl) (by kernel_rfl) Tryz.underlying4 ?_ spec
  intro ds hds
  match ds, hds with
  | [_], _ => exact ⟨rfl, rfl, rfl⟩
theorem LoadReads_holds : Rows.LoadReadsSaid :=
  OpenClaim.holds_of_wide 12 Tryz.f12 rfl rfl rfl rfl rfl rfl rfl ⟨rfl, rfl, rfl, rfl, rfl⟩ rfl rfl rfl rfl rfl (by kernel_rfl) Tryz.func12 (by kernel_rfl)
    (of_decide_eq_true (by kernel_rfl)) (by unfold Func.isWrapper; first | (rw [if_pos (by decide +kernel)]; kernel_rfl) | (rw [if_neg (by decide +kernel)]; exact ⟨rfl, rfl⟩))
    (fun os started H enc _ => lifted os started H enc)
theorem LoadReads_card : Rows.LoadReadsCardSaid :=
  Claim7.holds_tied_plain_at .later [] [.data, .data, .data, .data, .sentinel, .sentinel, .pinned] true (true, "5ead983eb76cd4f028fa487a1870d2e1f3e01aa43d232f67d0214a0db4d1ac67") true
    LoadReads_holds (fun _ h => by cases h) (by kernel_rfl) (fun _ h => by cases h) loadReads_row_tie rfl ⟨rfl, rfl⟩ (by kernel_rfl) rfl
    (fun f fn hf hfn => by
      obtain rfl : f = 12 := Option.some.inj ((show Tryz.prog.funcNamed "windsock/windsocklaw02.LoadReads" = some 12 by kernel_rfl).symm.trans hf) |>.symm
      obtain rfl : fn = Tryz.f12 := (Option.some.inj (Tryz.func12.symm.trans hfn)).symm
      exact ⟨by kernel_rfl, fun j t ht => by
        rw [Tryz.params12] at ht
        have hm : t ∈ [9] := by simpa using Array.mem_of_getElem? ht
        have hall : ([9].all fun u => !Tryz.prog.wantsStandIn u) = true := by kernel_rfl
        have h := List.all_eq_true.1 hall t hm
        exact (show Tryz.prog.wantsStandIn t = false by simpa using h)⟩)
    (by kernel_rfl)
end Go.Proofs.YtnjhblcfjhpoiaaGreatDoor.lawLoadReads

