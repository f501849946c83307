/-
  TopRidden: for every input the law returns true, and leaves its arguments as they were.
  No condition.
-/
import Derived.Test.YtedglnagjjplbaaGreatZTrRp5
set_option linter.all false

namespace Go.Proofs.YtedglnagjjplbaaGreat.lawTopRidden
open Go.Qg Go.ChangeAt Go.RowKit
set_option maxRecDepth 100000
theorem spec (args : List PV) (hl : Tryz.f5.params.toList.length = args.length) (h : ∀ (j : Nat) t p, Tryz.f5.params.toList[j]? = some t → args[j]? = some p → ArgP Tryz.prog 8 t p) : Qg.Spec Tryz.prog 5 args (.v (.bool true)) := by
  rw [Tryz.params5] at hl h
  match args, hl with
  | [a0, a1, a2, a3, a4, a5, a6, a7], _ =>
    obtain ⟨s, rfl, hs⟩ := a_sea (h 0 _ a0 rfl rfl)
    obtain ⟨l, rfl, hl⟩ := a_stps (h 1 _ a1 rfl rfl)
    obtain ⟨n, rfl, _⟩ := a_ned (h 2 _ a2 rfl rfl)
    obtain ⟨tu, rfl, tulen, tuok⟩ := a_ints (h 3 _ a3 rfl rfl)
    obtain ⟨lg, rfl, hlg⟩ := a_spns (h 4 _ a4 rfl rfl)
    obtain ⟨m, rfl, mok⟩ := a_int (h 5 _ a5 rfl rfl)
    obtain ⟨fl, rfl, fllen, flok⟩ := a_ints (h 6 _ a6 rfl rfl)
    obtain ⟨t, rfl, ht⟩ := a_tru (h 7 _ a7 rfl rfl)
    exact TopRidden_spec s l n tu lg m fl t hs hl tulen hlg fllen ht
theorem lifted (os : Os) (started : os.Started) (H : Type) (enc : TypeId × Value → H) :
    ReturnsInHanded {} Tryz.checked os 5 .any (Rows.topRiddenSpec.pre6 enc Tryz.prog Tryz.f5 Rows.topRiddenRow.domain false) (Rows.topRiddenSpec.post enc Tryz.prog Tryz.f5 false true false false) := by
  refine law_lifted (C := Tryz.checked) 8 (tb := 4) ownKnob_ started (by kernel_rfl) Tryz.func5
    (ChangeSpec.witness6 (enc := enc) (C := Tryz.checked) false ⟨#[], #[.agg #[.int .i64 0, .int .i64 0, .slice none 0 0, .int .i64 0, .int .i64 0, .int .i64 0, .slice none 0 0, .int .i64 0, .int .i64 0, .int .i64 0, .slice none 0 0, .int .i64 0, .int .i64 0, .int .i64 0, .slice none 0 0, .int .i64 0, .int .i64 0, .int .i64 0, .slice none 0 0, .int .i64 0, .int .i64 0, .int .i64 0, .slice none 0 0, .slice none 0 0, .slice none 0 0], .slice none 0 0, .agg #[.int .i64 0, .int .i64 0, .int .i64 0, .int .i64 0, .int .i64 0, .int .i64 0, .int .i64 0], .slice none 0 0, .slice none 0 0, .int .i64 0, .slice none 0 0, .agg #[.int .i64 0, .int .i64 0, .int .i64 0, .int .i64 0, .int .i64 0, .int .i64 0, .slice none 0 0, .slice none 0 0]], []⟩ 8 (by kernel_rfl) (by kernel_rfl) (by kernel_rfl) (by kernel_rfl)) laidOut_ rfl (by kernel_rfl) (by kernel_rfl) Tryz.underlying4 ?_ spec
  intro ds hds
  match ds, hds with
  | [_, _, _, _, _, _, _, _], _ => exact ⟨rfl, rfl, rfl⟩
theorem TopRidden_holds : Rows.TopRiddenSaid :=
  OpenClaim.holds_of_wide 5 Tryz.f5 rfl rfl rfl rfl rfl rfl rfl ⟨rfl, rfl, rfl, rfl, rfl⟩ rfl rfl rfl rfl rfl (by kernel_rfl) Tryz.func5 (by kernel_rfl)
    (of_decide_eq_true (by kernel_rfl)) (by unfold Func.isWrapper; first | (rw [if_pos (by decide +kernel)]; kernel_rfl) | (rw [if_neg (by decide +kernel)]; exact ⟨rfl, rfl⟩))
    (fun os started H enc _ => lifted os started H enc)
end Go.Proofs.YtedglnagjjplbaaGreat.lawTopRidden

