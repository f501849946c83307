/-
  TopLanded: for every input the law returns true, and leaves its arguments as they were.
  No condition.
-/
import Derived.Test.YtedglnagjjplbaaGreatZTlRp3
set_option linter.all false

namespace Go.Proofs.YtedglnagjjplbaaGreat.lawTopLanded
open Go.Qg Go.ChangeAt Go.RowKit
set_option maxRecDepth 100000
theorem spec (args : List PV) (hl : Tryz.f4.params.toList.length = args.length) (h : ∀ (j : Nat) t p, Tryz.f4.params.toList[j]? = some t → args[j]? = some p → ArgP Tryz.prog 8 t p) : Qg.Spec Tryz.prog 4 args (.v (.bool true)) := by
  rw [Tryz.params4] at hl h
  match args, hl with
  | [a0, a1, a2, a3, a4, a5, a6, a7, a8, a9], _ =>
    obtain ⟨s, rfl, hs⟩ := a_sea (h 0 _ a0 rfl rfl)
    obtain ⟨l, rfl, hl⟩ := a_stps (h 1 _ a1 rfl rfl)
    obtain ⟨n, rfl, _⟩ := a_ned (h 2 _ a2 rfl rfl)
    obtain ⟨c, rfl, hc⟩ := a_crf (h 3 _ a3 rfl rfl)
    obtain ⟨m, rfl, hg, hw⟩ := a_lnd (h 4 _ a4 rfl rfl)
    obtain ⟨ar, rfl, _⟩ := a_arr (h 5 _ a5 rfl rfl)
    obtain ⟨w, rfl, wok⟩ := a_int (h 6 _ a6 rfl rfl)
    obtain ⟨at0, rfl, at0ok⟩ := a_int (h 7 _ a7 rfl rfl)
    obtain ⟨f, rfl, fok⟩ := a_int (h 8 _ a8 rfl rfl)
    obtain ⟨t, rfl, ht⟩ := a_tru (h 9 _ a9 rfl rfl)
    exact TopLanded_spec s l n c m ar w at0 f t hs hl hc hg hw ht
theorem lifted (os : Os) (started : os.Started) (H : Type) (enc : TypeId × Value → H) :
    ReturnsInHanded {} Tryz.checked os 4 .any (Rows.topLandedSpec.pre6 enc Tryz.prog Tryz.f4 Rows.topLandedRow.domain false) (Rows.topLandedSpec.post enc Tryz.prog Tryz.f4 false true false false) := by
  refine law_lifted (C := Tryz.checked) 8 (tb := 4) ownKnob_ started (by kernel_rfl) Tryz.func4
    (ChangeSpec.witness6 (enc := enc) (C := Tryz.checked) false ⟨#[], #[.agg #[.int .i64 0, .int .i64 0, .slice none 0 0, .int .i64 0, .int .i64 0, .int .i64 0, .slice none 0 0, .int .i64 0, .int .i64 0, .int .i64 0, .slice none 0 0, .int .i64 0, .int .i64 0, .int .i64 0, .slice none 0 0, .int .i64 0, .int .i64 0, .int .i64 0, .slice none 0 0, .int .i64 0, .int .i64 0, .int .i64 0, .slice none 0 0, .slice none 0 0, .slice none 0 0], .slice none 0 0, .agg #[.int .i64 0, .int .i64 0, .int .i64 0, .int .i64 0, .int .i64 0, .int .i64 0, .int .i64 0], .agg #[.slice none 0 0, .slice none 0 0, .int .i64 0, .int .i64 0, .int .i64 0, .int .i64 0, .int .i64 0, .int .i64 0, .int .i64 0, .int .i64 0, .int .i64 0, .slice none 0 0, .int .i64 0], .agg #[.int .i64 0, .int .i64 0, .slice none 0 0, .slice none 0 0, .int .i64 0], .agg #[.int .i64 0, .int .i64 0, .int .i64 0, .int .i64 0], .int .i64 0, .int .i64 0, .int .i64 0, .agg #[.int .i64 0, .int .i64 0, .int .i64 0, .int .i64 0, .int .i64 0, .int .i64 0, .slice none 0 0, .slice none 0 0]], []⟩ 8 (by kernel_rfl) (by kernel_rfl) (by kernel_rfl) (by kernel_rfl)) laidOut_ rfl (by kernel_rfl) (by kernel_rfl) Tryz.underlying4 ?_ spec
  intro ds hds
  match ds, hds with
  | [_, _, _, _, _, _, _, _, _, _], _ => exact ⟨rfl, rfl, rfl⟩
theorem TopLanded_holds : Rows.TopLandedSaid :=
  OpenClaim.holds_of_wide 4 Tryz.f4 rfl rfl rfl rfl rfl rfl rfl ⟨rfl, rfl, rfl, rfl, rfl⟩ rfl rfl rfl rfl rfl (by kernel_rfl) Tryz.func4 (by kernel_rfl)
    (of_decide_eq_true (by kernel_rfl)) (by unfold Func.isWrapper; first | (rw [if_pos (by decide +kernel)]; kernel_rfl) | (rw [if_neg (by decide +kernel)]; exact ⟨rfl, rfl⟩))
    (fun os started H enc _ => lifted os started H enc)
end Go.Proofs.YtedglnagjjplbaaGreat.lawTopLanded

