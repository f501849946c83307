/-
  LoadSheets: for all inputs the law returns true, and leaves its arguments as they were; the card.
  No condition.
-/
import Derived.Test.YtnjhblcfjhpoiaaGreatDoorZYnp2
import Derived.SevenTiedAt
set_option linter.all false

namespace Go.Qg
open Go.Proofs Go.RowKit Go.Lib
set_option maxRecDepth 100000
set_option linter.unusedSimpArgs false
set_option maxHeartbeats 64000000
attribute [local irreducible] pwp pops pdraw pop popCall pdCall thenP blockP scopeP pspec Spec answers ppost CallW rend
end Go.Qg


namespace Go.Qg
open Go.Proofs
set_option maxRecDepth 100000
set_option maxHeartbeats 32000000
set_option linter.unusedSimpArgs false
attribute [local irreducible] pwp pops pdraw pop popCall pdCall thenP blockP scopeP pspec Spec answers ppost CallW rend
theorem rin_spec (n lo hi : Int) : Spec Tryz.prog 58 [.v (.int .i64 n), .v (.int .i64 lo), .v (.int .i64 hi)] (.v (.bool (inB n lo hi))) := by
  refine spec_of mixed Tryz.func58 (by decide) rfl Tryz.results58 Tryz.ntmps58 (by decide) 0 (by simp) ?_
  by_cases h1 : lo ≤ n
  · by_cases h2 : n ≤ hi <;> (simp [h1, h2]; refine answers_of rfl ?_; simp [inB, h1, h2])
  · simp [h1]; refine answers_of rfl ?_; simp [inB, h1]
theorem rSpan_spec (s : Spn) (lo hi : Int) : Spec Tryz.prog 52 [.agg s.cells, .v (.int .i64 lo), .v (.int .i64 hi)] (.v (.bool (spanB s lo hi))) := by
  refine spec_of mixed Tryz.func52 (by decide) rfl Tryz.results52 Tryz.ntmps52 (by decide) 0 (by simp) ?_
  simp [Spn.cells]
  refine pop_spec (rin_spec s.low lo s.high) rfl false (.inl (by simp)) (.inl rfl) rfl (by simp) ?_
  cases h1 : inB s.low lo s.high with
  | false =>
    simp
    refine answers_of rfl ?_
    have : ¬ (lo ≤ s.low ∧ s.low ≤ s.high) := fun h => by rw [inB_spec.2 h] at h1; cases h1
    simp [spanB]
    intro a b
    exact (this ⟨a, b⟩).elim
  | true =>
    have h := inB_spec.1 h1
    by_cases h2 : s.high ≤ hi
    · simp [h2]
      refine answers_of rfl ?_; simp [spanB, h, h2]
    · simp [h2]
      refine answers_of rfl ?_; simp [spanB, h2]
end Go.Qg


namespace Go.Qg
open Go.Proofs
set_option maxRecDepth 100000
set_option linter.unusedSimpArgs false
set_option maxHeartbeats 16000000
attribute [local irreducible] pwp pops pdraw pop popCall pdCall thenP blockP scopeP pspec Spec answers ppost CallW rend
def fewB (legs : List Leg) : Bool := (allN legs.length fun k => decide ((legAt legs k).items.length ≤ 20)) && decide (legs.length ≤ 12)
theorem lfew_spec (legs : List Leg) (hl : legs.length ≤ 9223372036854775807) : Spec Tryz.prog 15 [legL legs] (.v (.bool (fewB legs))) := by
  refine spec_of mixed Tryz.func15 (by decide) rfl Tryz.results15 Tryz.ntmps15 (by decide) 0 (by simp) ?_
  simp [legL]
  refine pwp_loop (fun k : Nat => [(3, .v (.int .i64 k))]) (fun k => k ≤ legs.length ∧ ∀ j, j < k → (legAt legs j).items.length ≤ 20) (fun k => legs.length - k) 0 ⟨Nat.zero_le _, fun j h => by omega⟩ (by simp; rfl) (by simp) ?_
  intro k ⟨hk, hq⟩
  by_cases hkl : k < legs.length
  · have wk := i64_wrap (show -9223372036854775808 ≤ (k : Int) + 1 ∧ _ from by omega)
    by_cases h : 20 < (legAt legs k).items.length
    · simp [hkl, Leg.cells, itmL, show (20 : Int) < (legAt legs k).items.length from by omega]
      refine answers_of rfl ?_
      have : (allN legs.length fun k => decide ((legAt legs k).items.length ≤ 20)) = false := allN_false hkl (by simp; omega)
      simp [fewB, this]
    · simp [hkl, Leg.cells, itmL, show ¬ (20 : Int) < (legAt legs k).items.length from by omega]
      refine again_of (k + 1) ⟨by omega, fun j hj => ?_⟩ (by omega) ?_
      · rcases Nat.lt_or_eq_of_le (Nat.le_of_lt_succ hj) with h' | rfl
        · exact hq j h'
        · omega
      · simp [wk]
  · obtain rfl : k = legs.length := by omega
    simp
    have : (allN legs.length fun k => decide ((legAt legs k).items.length ≤ 20)) = true := allN_spec.2 fun j hj => by simpa using hq j hj
    by_cases h : legs.length ≤ 12
    · simp [show (legs.length : Int) ≤ 12 from by omega]
      refine answers_of rfl ?_; simp [fewB, this, h]
    · simp [show ¬ (legs.length : Int) ≤ 12 from by omega]
      refine answers_of rfl ?_; simp [fewB, this, h]
theorem ritems_spec (l : List Itm) (ns : Int) (hl : l.length ≤ 9223372036854775807) (hns : 0 ≤ ns ∧ ns ≤ 9223372036854775807) : Spec Tryz.prog 86 [itmL l, .v (.int .i64 ns)] (.v (.bool (itemsB l ns))) := by
  have wn := i64_wrap (show -9223372036854775808 ≤ ns - 1 ∧ _ from by omega)
  refine spec_of mixed Tryz.func86 (by decide) rfl Tryz.results86 Tryz.ntmps86 (by decide) 0 (by simp) ?_
  simp [itmL]
  refine pwp_loop (fun k : Nat => [(5, .v (.int .i64 k))]) (fun k => k ≤ l.length ∧ ∀ j, j < k → itmB ns (itmAt l j) = true) (fun k => l.length - k) 0 ⟨Nat.zero_le _, fun j h => by omega⟩ (by simp; rfl) (by simp) ?_
  intro k ⟨hk, hq⟩
  by_cases hkl : k < l.length
  · have wk := i64_wrap (show -9223372036854775808 ≤ (k : Int) + 1 ∧ _ from by omega)
    simp [hkl, Itm.cells, wn]
    refine pop_spec (rin_spec (itmAt l k).station 0 (ns - 1)) rfl false (.inl (by simp)) (.inl rfl) rfl (by simp) ?_
    cases h1 : inB (itmAt l k).station 0 (ns - 1) with
    | false =>
      simp
      refine answers_of rfl ?_
      have : (allN l.length fun k => itmB ns (itmAt l k)) = false := allN_false hkl (by simp [itmB, h1])
      simp [itemsB, this]
    | true =>
      simp [hkl]
      refine pop_spec (rSpan_spec ⟨(itmAt l k).low, (itmAt l k).high⟩ 0 20000) rfl false (.inl (by simp [Spn.cells])) (.inl rfl) rfl (by simp) ?_
      cases h2 : spanB ⟨(itmAt l k).low, (itmAt l k).high⟩ 0 20000 with
      | false =>
        simp
        refine answers_of rfl ?_
        have : (allN l.length fun k => itmB ns (itmAt l k)) = false := allN_false hkl (by simp [itmB, h1, h2])
        simp [itemsB, this]
      | true =>
        simp
        refine again_of (k + 1) ⟨by omega, fun j hj => ?_⟩ (by omega) ?_
        · rcases Nat.lt_or_eq_of_le (Nat.le_of_lt_succ hj) with h' | rfl
          · exact hq j h'
          · simp [itmB, h1, h2]
        · simp [wk]
  · obtain rfl : k = l.length := by omega
    have : (allN l.length fun k => itmB ns (itmAt l k)) = true := allN_spec.2 hq
    by_cases h : l.length ≤ 12
    · simp [show (l.length : Int) ≤ 12 from by omega]
      refine answers_of rfl ?_; simp [itemsB, this, h]
    · simp [show ¬ (l.length : Int) ≤ 12 from by omega]
      refine answers_of rfl ?_; simp [itemsB, this, h]
def legsB (legs : List Leg) (ns : Int) : Bool := (allN legs.length fun k => legB ns (legAt legs k)) && decide (1 ≤ legs.length)
theorem rLegs_spec (legs : List Leg) (ns : Int) (hl : LegsLen legs) (hns : 0 ≤ ns ∧ ns ≤ 9223372036854775807) : Spec Tryz.prog 53 [legL legs, .v (.int .i64 ns)] (.v (.bool (legsB legs ns))) := by
  have hl0 := hl.n
  refine spec_of mixed Tryz.func53 (by decide) rfl Tryz.results53 Tryz.ntmps53 (by decide) 0 (by simp) ?_
  simp [legL]
  refine pwp_loop (fun k : Nat => [(5, .v (.int .i64 k))]) (fun k => k ≤ legs.length ∧ ∀ j, j < k → legB ns (legAt legs j) = true) (fun k => legs.length - k) 0 ⟨Nat.zero_le _, fun j h => by omega⟩ (by simp; rfl) (by simp) ?_
  intro k ⟨hk, hq⟩
  by_cases hkl : k < legs.length
  · have wk := i64_wrap (show -9223372036854775808 ≤ (k : Int) + 1 ∧ _ from by omega)
    have go : legB ns (legAt legs k) = false → legsB legs ns = false := fun h => by
      have : (allN legs.length fun k => legB ns (legAt legs k)) = false := allN_false hkl h
      simp [legsB, this]
    simp [hkl, Leg.cells, itmL]
    refine pop_spec (ritems_spec (legAt legs k).items ns (hl.i k hkl) hns) rfl false (.inl (by simp [itmL])) (.inl rfl) rfl (by simp) ?_
    cases h1 : itemsB (legAt legs k).items ns with
    | false =>
      simp
      refine answers_of rfl ?_; simp [go (by simp [legB, h1])]
    | true =>
      simp [hkl]
      refine pop_spec (rin_spec (legAt legs k).fuel 0 20000) rfl false (.inl (by simp)) (.inl rfl) rfl (by simp) ?_
      cases h2 : inB (legAt legs k).fuel 0 20000 with
      | false =>
        simp
        refine answers_of rfl ?_; simp [go (by simp [legB, h2])]
      | true =>
        simp [hkl]
        refine pop_spec (rSpan_spec (legAt legs k).burn 0 20000) rfl false (.inl (by simp [Spn.cells])) (.inl rfl) rfl (by simp) ?_
        cases h3 : spanB (legAt legs k).burn 0 20000 with
        | false =>
          simp
          refine answers_of rfl ?_; simp [go (by simp [legB, h3])]
        | true =>
          simp [hkl]
          refine pop_spec (rSpan_spec (legAt legs k).leak 0 20000) rfl false (.inl (by simp [Spn.cells])) (.inl rfl) rfl (by simp) ?_
          cases h4 : spanB (legAt legs k).leak 0 20000 with
          | false =>
            simp
            refine answers_of rfl ?_; simp [go (by simp [legB, h4])]
          | true =>
            simp
            refine again_of (k + 1) ⟨by omega, fun j hj => ?_⟩ (by omega) ?_
            · rcases Nat.lt_or_eq_of_le (Nat.le_of_lt_succ hj) with h' | rfl
              · exact hq j h'
              · simp [legB, h1, h2, h3, h4]
            · simp [wk]
  · obtain rfl : k = legs.length := by omega
    have : (allN legs.length fun k => legB ns (legAt legs k)) = true := allN_spec.2 hq
    by_cases h : 1 ≤ legs.length
    · simp [show (1 : Int) ≤ legs.length from by omega]
      refine answers_of rfl ?_; simp [legsB, this, h]
    · simp [show ¬ (1 : Int) ≤ legs.length from by omega]
      refine answers_of rfl ?_; simp [legsB, this, h]
end Go.Qg


namespace Go.Qg
open Go.Proofs
set_option maxRecDepth 100000
set_option linter.unusedSimpArgs false
set_option maxHeartbeats 32000000
attribute [local irreducible] pwp pops pdraw pop popCall pdCall thenP blockP scopeP pspec Spec answers ppost CallW rend
end Go.Qg


namespace Go.Qg
open Go.Proofs
set_option maxRecDepth 100000
set_option linter.unusedSimpArgs false
set_option maxHeartbeats 64000000
attribute [local irreducible] pwp pops pdraw pop popCall pdCall thenP blockP scopeP pspec Spec answers ppost CallW rend
end Go.Qg


namespace Go.Qg
open Go.Proofs
set_option maxRecDepth 100000
set_option linter.unusedSimpArgs false
set_option maxHeartbeats 64000000
attribute [local irreducible] pwp pops pdraw pop popCall pdCall thenP blockP scopeP pspec Spec answers ppost CallW rend
end Go.Qg


namespace Go.Qg
open Go.Proofs
set_option maxRecDepth 100000
set_option linter.unusedSimpArgs false
set_option maxHeartbeats 64000000
attribute [local irreducible] pwp pops pdraw pop popCall pdCall thenP blockP scopeP pspec Spec answers ppost CallW rend
end Go.Qg


namespace Go.Qg
open Go.Proofs
set_option maxRecDepth 100000
set_option linter.unusedSimpArgs false
set_option maxHeartbeats 64000000
attribute [local irreducible] pwp pops pdraw pop popCall pdCall thenP blockP scopeP pspec Spec answers ppost CallW rend
end Go.Qg


namespace Go.Qg
open Go.Proofs
set_option maxRecDepth 100000
set_option maxHeartbeats 32000000
set_option linter.unusedSimpArgs false
attribute [local irreducible] pwp pops pdraw pop popCall pdCall thenP blockP scopeP pspec Spec answers ppost CallW rend
end Go.Qg


namespace Go.Qg
open Go.Proofs
set_option maxRecDepth 100000
set_option linter.unusedSimpArgs false
set_option maxHeartbeats 64000000
attribute [local irreducible] pwp pops pdraw pop popCall pdCall thenP blockP scopeP pspec Spec answers ppost CallW rend
theorem rSameItems_refl (l : List Itm) (hl : l.length ≤ 1000000) : Spec Tryz.prog 79 [itmL l, itmL l] (.v (.bool true)) := by
  refine spec_of mixed Tryz.func79 (by decide) rfl Tryz.results79 Tryz.ntmps79 (by decide) 0 (by simp) ?_
  simp [itmL]
  refine pwp_loop (fun k : Nat => [(5, .v (.int .i64 k))]) (fun k => k ≤ l.length) (fun k => l.length - k) 0 (Nat.zero_le _) (by simp; rfl) (by simp) ?_
  intro k hk
  by_cases hkl : k < l.length
  · have wk := i64_wrap (show -9223372036854775808 ≤ (k : Int) + 1 ∧ _ from by omega)
    simp [hkl]
    refine pwp_draw 9 (by decide) ?_
    simp [hkl, Itm.cells]
    refine ⟨by decide, ?_⟩
    refine again_of (k + 1) (by omega) (by omega) ?_
    simp [wk]
  · obtain rfl : k = l.length := by omega
    simp
    refine answers_of rfl ?_; simp
end Go.Qg


namespace Go.Qg
open Go.Proofs
set_option maxRecDepth 100000
set_option linter.unusedSimpArgs false
set_option maxHeartbeats 64000000
attribute [local irreducible] pwp pops pdraw pop popCall pdCall thenP blockP scopeP pspec Spec answers ppost CallW rend
theorem rSameLegs_refl (l : List Leg) (hl : l.length ≤ 1000000) (hi : ∀ k, k < l.length → (legAt l k).items.length ≤ 1000000) : Spec Tryz.prog 56 [legL l, legL l] (.v (.bool true)) := by
  refine spec_of mixed Tryz.func56 (by decide) rfl Tryz.results56 Tryz.ntmps56 (by decide) 0 (by simp) ?_
  simp [legL]
  refine pwp_loop (fun k : Nat => [(5, .v (.int .i64 k))]) (fun k => k ≤ l.length) (fun k => l.length - k) 0 (Nat.zero_le _) (by simp; rfl) (by simp) ?_
  intro k hk
  by_cases hkl : k < l.length
  · have wk := i64_wrap (show -9223372036854775808 ≤ (k : Int) + 1 ∧ _ from by omega)
    have h1 := rSameItems_refl (legAt l k).items (hi k hkl)
    simp only [itmL] at h1
    simp [hkl]
    refine pwp_draw 64 (by decide) ?_
    simp (maxSteps := 5000000) [hkl, Leg.cells, itmL]
    refine pd_spec h1 (by simp) (by simp) (by simp) rfl ?_
    simp (maxSteps := 5000000) [hkl, Leg.cells, itmL]
    refine ⟨by decide +kernel, ?_⟩
    refine again_of (k + 1) (by omega) (by omega) ?_
    simp [wk]
  · obtain rfl : k = l.length := by omega
    simp
    refine answers_of rfl ?_; simp
end Go.Qg


namespace Go.Qg
open Go.Proofs Go.RowKit Go.Lib
set_option maxRecDepth 100000
set_option linter.unusedSimpArgs false
set_option maxHeartbeats 16000000
attribute [local irreducible] pwp pops pdraw pop popCall pdCall thenP blockP scopeP pspec Spec answers ppost CallW rend
theorem trip_parts {fuel : Spn} {legs : List Leg} : tripE fuel legs 8 = 0 ↔ legs.length ≤ 6 ∧ spanB fuel 0 20000 = true ∧ legsB legs 8 = true := by
  unfold tripE legsB
  split
  · rename_i h; constructor
    · intro e; omega
    · rintro ⟨e, _⟩; omega
  · rename_i h
    split
    · rename_i h2
      constructor
      · intro e; omega
      · rintro ⟨_, e1, e2⟩
        simp only [Bool.and_eq_true, decide_eq_true_eq] at e2
        rcases h2 with h2 | h2 | h2
        · omega
        · rw [e1] at h2; cases h2
        · rw [e2.1] at h2; cases h2
    · rename_i h2
      simp only [not_or, Bool.not_eq_false] at h2
      refine ⟨fun _ => ⟨by omega, h2.2.1, ?_⟩, fun _ => rfl⟩
      simp only [Bool.and_eq_true, decide_eq_true_eq]
      exact ⟨h2.2.2, by omega⟩
theorem trip_code {fuel : Spn} {legs : List Leg} (h : tripE fuel legs 8 ≠ 0) : tripE fuel legs 8 = if 6 < legs.length then 3 else 2 := by
  unfold tripE at h ⊢
  split
  · rfl
  · rename_i h1
    rw [if_neg h1] at h
    split
    · rfl
    · rename_i h2
      rw [if_neg h2] at h
      exact absurd rfl h
theorem cnt_few {fuel : Spn} {legs : List Leg} (h : tripE fuel legs 8 = 0) : cntTo legs legs.length ≤ 1000000 := by
  obtain ⟨h1, _, h3⟩ := numL_all h
  have key : ∀ k, k ≤ legs.length → cntTo legs k ≤ 13 * k := fun k => by
    induction k with
    | zero => intro _; exact Nat.zero_le _
    | succ k ih =>
      intro hk
      have := (h3 k (by omega)).n
      have := ih (by omega)
      simp only [cntTo]
      omega
  have := key legs.length (Nat.le_refl _)
  omega
theorem few_items {fuel : Spn} {legs : List Leg} (h : tripE fuel legs 8 = 0) : ∀ k, k < legs.length → (legAt legs k).items.length ≤ 1000000 := fun k hk => by
  have := ((numL_all h).2.2 k hk).n
  omega
theorem printRes_ok {fuel : Spn} {legs : List Leg} (h : tripE fuel legs 8 = 0) : printRes fuel legs = .tup [.v (.string (bytesOf (printB fuel legs))), .v (.int .i64 0)] := by rw [printRes, if_pos h]
theorem printRes_no {fuel : Spn} {legs : List Leg} (h : tripE fuel legs 8 ≠ 0) : printRes fuel legs = .tup [.v (.string (bytesOf [])), .v (.int .i64 (tripE fuel legs 8))] := by rw [printRes, if_neg h]
theorem readP_print {fuel : Spn} {legs : List Leg} (h : tripE fuel legs 8 = 0) : readP (printB fuel legs) = .tup [.agg fuel.cells, legL legs, .v (.int .i64 0)] := by
  have e : readE (printB fuel legs) = (0, fuel, legs) := read_print h
  rw [readP, e]
theorem LoadSheets_spec (fuel : Spn) (legs : List Leg) (hl : LegsLen legs) : Spec Tryz.prog 11 [.agg fuel.cells, legL legs] (.v (.bool true)) := by
  have hll := hl.n
  have hp := Print_spec fuel legs hl.n hl.i
  refine spec_of mixed Tryz.func11 (by decide) rfl Tryz.results11 Tryz.ntmps11 (by decide) 0 (by simp) ?_
  simp [Spn.cells, legL]
  refine pop_spec (lfew_spec legs hl.n) rfl false (.inl (by simp [legL])) (.inl rfl) rfl (by simp) ?_
  cases g1 : fewB legs with
  | false =>
    simp
    refine pop_spec known_spec rfl false (.inl (by simp)) (.inl rfl) rfl (by simp) ?_
    simp
    refine answers_of rfl ?_; simp
  | true =>
    simp
    by_cases he : tripE fuel legs 8 = 0
    · obtain ⟨h6, hs, hg⟩ := trip_parts.1 he
      rw [printRes_ok he] at hp
      have hlen := sheetT_len he
      have hrd := Read_spec (printB fuel legs) (by have e : printB fuel legs = sheetT fuel legs := rfl; rw [e]; omega)
      rw [readP_print he] at hrd
      have hrp := rPrint_spec fuel legs (tripR_of he) (cnt_few he)
      have hsame := rSameLegs_refl legs (by omega) (few_items he)
      simp only [Spn.cells, legL] at hrd hsame
      generalize printB fuel legs = T at *
      refine pop_spec hp rfl false (.inl (by simp [Spn.cells, legL])) (.inl rfl) rfl (by simp) ?_
      simp [show ¬ (6 : Int) < legs.length from by omega]
      refine pop_spec (rSpan_spec fuel 0 20000) rfl false (.inl (by simp [Spn.cells])) (.inl rfl) rfl (by simp) ?_
      simp [hs]
      refine pop_spec (rLegs_spec legs 8 hl (by omega)) rfl false (.inl (by simp [legL])) (.inl rfl) rfl (by simp) ?_
      simp [hg]
      refine pop_spec hrd rfl false (.inl (by simp)) (.inl rfl) rfl (by simp) ?_
      simp
      refine pop_spec hrp rfl false (.inl (by simp [Spn.cells, legL])) (.inl rfl) rfl (by simp) ?_
      simp
      refine pop_spec hsame rfl false (.inl (by simp)) (.inl rfl) rfl (by simp) ?_
      simp
      refine pop_spec known_spec rfl false (.inl (by simp)) (.inl rfl) rfl (by simp) ?_
      simp
      refine answers_of rfl ?_; simp
    · rw [printRes_no he] at hp
      have hc := trip_code he
      have hlit : (⟨#[]⟩ : ByteArray) = bytesOf [] := rfl
      by_cases h6 : 6 < legs.length
      · rw [if_pos h6] at hc
        rw [hc] at hp
        refine pop_spec hp rfl false (.inl (by simp [Spn.cells, legL])) (.inl rfl) rfl (by simp) ?_
        simp [show (6 : Int) < legs.length from by omega, hlit]
        refine pop_spec known_spec rfl false (.inl (by simp)) (.inl rfl) rfl (by simp) ?_
        simp
        refine answers_of rfl ?_; simp
      · rw [if_neg h6] at hc
        rw [hc] at hp
        refine pop_spec hp rfl false (.inl (by simp [Spn.cells, legL])) (.inl rfl) rfl (by simp) ?_
        simp [show ¬ (6 : Int) < legs.length from by omega]
        refine pop_spec (rSpan_spec fuel 0 20000) rfl false (.inl (by simp [Spn.cells])) (.inl rfl) rfl (by simp) ?_
        cases hs : spanB fuel 0 20000 with
        | false =>
          simp [hlit]
          refine pop_spec known_spec rfl false (.inl (by simp)) (.inl rfl) rfl (by simp) ?_
          simp
          refine answers_of rfl ?_; simp
        | true =>
          have hg : legsB legs 8 = false := by
            cases hg : legsB legs 8 with
            | false => rfl
            | true => exact absurd (trip_parts.2 ⟨by omega, hs, hg⟩) he
          simp
          refine pop_spec (rLegs_spec legs 8 hl (by omega)) rfl false (.inl (by simp [legL])) (.inl rfl) rfl (by simp) ?_
          simp [hg, hlit]
          refine pop_spec known_spec rfl false (.inl (by simp)) (.inl rfl) rfl (by simp) ?_
          simp
          refine answers_of rfl ?_; simp
end Go.Qg


namespace Go.Proofs.YtnjhblcfjhpoiaaGreatDoor.lawLoadSheets
open Go.Qg Go.ChangeAt Go.RowKit
set_option maxRecDepth 100000
theorem spec (args : List PV) (hl : Tryz.f11.params.toList.length = args.length) (h : ∀ (j : Nat) t p, Tryz.f11.params.toList[j]? = some t → args[j]? = some p → ArgP Tryz.prog 6 t p) : Qg.Spec Tryz.prog 11 args (.v (.bool true)) := by
  rw [Tryz.params11] at hl h
  match args, hl with
  | [a0, a1], _ =>
    obtain ⟨s0, rfl⟩ := a_spn (h 0 _ a0 rfl rfl)
    obtain ⟨l1, rfl, hl1, hi1⟩ := a_legs (h 1 _ a1 rfl rfl)
    exact LoadSheets_spec s0 l1 ⟨hl1, hi1⟩
theorem lifted (os : Os) (started : os.Started) (H : Type) (enc : TypeId × Value → H) :
    ReturnsInHanded {} Tryz.checked os 11 .any (fun w args => (Rows.loadSheetsSpec.pre enc Tryz.prog Tryz.f11 Rows.loadSheetsRow.domain false w args ∧ laidMet Tryz.prog laidL w) ∧ sizedMet enc Tryz.prog Tryz.f11 (OpenSpec.ofChange Rows.loadSheetsSpec) false w args) (Rows.loadSheetsSpec.post enc Tryz.prog Tryz.f11 false true false false) := by
  refine law_lifted (C := Tryz.checked) 6 (tb := 4) (laid := laidL) tabs_of_laid ownKnob_ started (by kernel_rfl) Tryz.func11
    (ChangeSpec.witness_at (enc := enc) (C := Tryz.checked) (os := os) (X := fun w _ => laidMet Tryz.prog laidL w) false (laidWorld os) #[.agg #[.int .i64 0, .int .i64 0], .slice none 0 0] 8 rfl (by kernel_rfl) (by kernel_rfl) (by kernel_rfl) (by kernel_rfl) (by kernel_rfl) (laid_met os _)) laidOut_ rfl (by kernel_rfl) (by kernel_rfl) Tryz.underlying4 ?_ spec
  intro ds hds
  match ds, hds with
  | [_, _], _ => exact ⟨rfl, rfl, rfl⟩
theorem LoadSheets_holds : Rows.LoadSheetsSaid :=
  OpenClaim.holds_of_wide 11 Tryz.f11 rfl rfl rfl rfl rfl rfl rfl ⟨rfl, rfl, rfl, rfl, rfl⟩ rfl rfl rfl rfl rfl (by kernel_rfl) Tryz.func11 (by kernel_rfl)
    (of_decide_eq_true (by kernel_rfl)) (by unfold Func.isWrapper; first | (rw [if_pos (by decide +kernel)]; kernel_rfl) | (rw [if_neg (by decide +kernel)]; exact ⟨rfl, rfl⟩))
    (fun os started H enc _ => lifted os started H enc)
theorem LoadSheets_card : Rows.LoadSheetsCardSaid :=
  Claim7.holds_tied_plain_at .later [] [.data, .data, .data, .data, .sentinel, .sentinel, .pinned] true (true, "5ead983eb76cd4f028fa487a1870d2e1f3e01aa43d232f67d0214a0db4d1ac67") true
    LoadSheets_holds (fun _ h => by cases h) (by kernel_rfl) (fun _ h => by cases h) loadSheets_row_tie rfl ⟨rfl, rfl⟩ (by kernel_rfl) rfl
    (fun f fn hf hfn => by
      obtain rfl : f = 11 := Option.some.inj ((show Tryz.prog.funcNamed "windsock/windsocklaw02.LoadSheets" = some 11 by kernel_rfl).symm.trans hf) |>.symm
      obtain rfl : fn = Tryz.f11 := (Option.some.inj (Tryz.func11.symm.trans hfn)).symm
      exact ⟨by kernel_rfl, fun j t ht => by
        rw [Tryz.params11] at ht
        have hm : t ∈ [37, 28] := by simpa using Array.mem_of_getElem? ht
        have hall : ([37, 28].all fun u => !Tryz.prog.wantsStandIn u) = true := by kernel_rfl
        have h := List.all_eq_true.1 hall t hm
        exact (show Tryz.prog.wantsStandIn t = false by simpa using h)⟩)
    (by kernel_rfl)
end Go.Proofs.YtnjhblcfjhpoiaaGreatDoor.lawLoadSheets

