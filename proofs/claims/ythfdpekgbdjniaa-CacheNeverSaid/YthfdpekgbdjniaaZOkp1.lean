/-
  Lemmas and contracts that hold of the whole program: 23 texts in one.
  No condition.
-/
import Derived.Test.YthfdpekgbdjniaaZ7
set_option linter.all false

namespace Go.Qg
open Go.Proofs
set_option maxRecDepth 100000
set_option linter.unusedSimpArgs false
set_option maxHeartbeats 4000000
attribute [local irreducible] pwp pops pdraw pop popCall pdCall thenP blockP scopeP pspec Spec answers ppost CallW
theorem rin_spec (n lo hi : Int) : Spec Try.prog 58 [.v (.int .i64 n), .v (.int .i64 lo), .v (.int .i64 hi)] (.v (.bool (inB n lo hi))) := by
  refine spec_of mixed Try.func58 (by decide) rfl Try.results58 Try.ntmps58 (by decide) 0 (by simp) ?_
  by_cases h1 : lo ≤ n
  · by_cases h2 : n ≤ hi <;> (simp [h1, h2]; refine answers_of rfl ?_; simp [inB, h1, h2])
  · simp [h1]; refine answers_of rfl ?_; simp [inB, h1]
theorem rspan_spec (s : Spn) (m : Int) : Spec Try.prog 66 [.agg s.cells, .v (.int .i64 m)] (.v (.bool (spanB s 0 m))) := by
  refine spec_of mixed Try.func66 (by decide) rfl Try.results66 Try.ntmps66 (by decide) 0 (by simp) ?_
  simp [Spn.cells]
  by_cases h1 : 0 ≤ s.low
  · by_cases h2 : s.low ≤ s.high
    · by_cases h3 : s.high ≤ m <;> (simp [h1, h2, h3]; refine answers_of rfl ?_; simp [spanB, h1, h2, h3])
    · simp [h1, h2, Int.not_le.1 h2]
      refine answers_of rfl ?_; simp [spanB, h1, h2]
  · simp [h1, Int.not_le.1 h1]; refine answers_of rfl ?_; simp [spanB, h1]
theorem rDay_spec (n : Int) : Spec Try.prog 15 [.v (.int .i64 n)] (.v (.bool (inB n 0 400))) := by
  refine spec_of mixed Try.func15 (by decide) rfl Try.results15 Try.ntmps15 (by decide) 0 (by simp) ?_
  simp
  refine pop_spec (rin_spec n 0 400) rfl false (.inl (by simp)) (.inl rfl) rfl (by simp) ?_
  simp
  refine answers_of rfl ?_; simp
end Go.Qg


namespace Go.Qg
open Go.Proofs
set_option maxRecDepth 100000
set_option linter.unusedSimpArgs false
set_option maxHeartbeats 4000000
attribute [local irreducible] pwp pops pdraw pop popCall pdCall thenP blockP scopeP pspec Spec answers ppost CallW
end Go.Qg


namespace Go.Qg
open Go.Proofs
set_option maxRecDepth 100000
set_option linter.unusedSimpArgs false
set_option maxHeartbeats 4000000
attribute [local irreducible] pwp pops pdraw pop popCall pdCall thenP blockP scopeP pspec Spec answers ppost CallW
end Go.Qg


namespace Go.Qg
set_option maxRecDepth 100000
end Go.Qg


namespace Go.Qg
set_option maxRecDepth 100000
end Go.Qg


namespace Go.Qg
open Go.Proofs
set_option maxRecDepth 100000
set_option linter.unusedSimpArgs false
set_option maxHeartbeats 4000000
attribute [local irreducible] pwp pops pdraw pop popCall pdCall thenP blockP scopeP pspec Spec answers ppost CallW
end Go.Qg


namespace Go.Qg
structure Hold (G : Prop) : Prop where
  h : G
theorem pwp_loopF {P : Program} {M : Nat} {c : Code} {Q : PX → PF → Prop} {fr : PF} (V : List (Nat × PV)) (hg : less M fr (apply V fr)) (h : pwp P M (.loop c) Q (apply V fr)) : pwp P M (.loop c) Q fr := fun X hX hW => hW _ _ (weak_of_less hg) (h X hX hW)
end Go.Qg


namespace Go.Qg
open Go.Proofs
set_option maxRecDepth 100000
set_option linter.unusedSimpArgs false
set_option maxHeartbeats 8000000
attribute [local irreducible] pwp pops pdraw pop popCall pdCall thenP blockP scopeP pspec Spec answers ppost CallW
end Go.Qg


namespace Go.Qg
open Go.Proofs
set_option maxRecDepth 100000
set_option linter.unusedSimpArgs false
set_option maxHeartbeats 4000000
attribute [local irreducible] pwp pops pdraw pop popCall pdCall thenP blockP scopeP pspec Spec answers ppost CallW
def partI (lo hi p : Int) : Int := lo + (hi - lo) * p / 100
theorem partI_in {lo hi p : Int} (h : lo ≤ hi) (hp : 0 ≤ p ∧ p ≤ 100) : lo ≤ partI lo hi p ∧ partI lo hi p ≤ hi := by
  have h1 : 0 ≤ (hi - lo) * p := Int.mul_nonneg (by omega) hp.1
  have h2 : (hi - lo) * p ≤ (hi - lo) * 100 := Int.mul_le_mul_of_nonneg_left hp.2 (by omega)
  unfold partI
  omega
theorem lpart_spec (s : Spn) (p : Int) (h0 : 0 ≤ s.low) (h1 : s.low ≤ s.high) (h2 : s.high ≤ 100000) (hp : 0 ≤ p ∧ p ≤ 100) : Spec Try.prog 39 [.agg s.cells, .v (.int .i64 p)] (.v (.int .i64 (partI s.low s.high p))) := by
  have g1 : 0 ≤ (s.high - s.low) * p := Int.mul_nonneg (by omega) hp.1
  have g2 : (s.high - s.low) * p ≤ (s.high - s.low) * 100 := Int.mul_le_mul_of_nonneg_left hp.2 (by omega)
  have w1 := i64_wrap (show -9223372036854775808 ≤ s.high - s.low ∧ _ from by omega)
  have w2 := i64_wrap (show -9223372036854775808 ≤ (s.high - s.low) * p ∧ _ from by omega)
  have e : ((s.high - s.low) * p).tdiv 100 = (s.high - s.low) * p / 100 := Int.tdiv_eq_ediv_of_nonneg g1
  have w3 := i64_wrap (show -9223372036854775808 ≤ (s.high - s.low) * p / 100 ∧ _ from by omega)
  have w4 := i64_wrap (show -9223372036854775808 ≤ s.low + (s.high - s.low) * p / 100 ∧ _ from by omega)
  refine spec_of mixed Try.func39 (by decide) rfl Try.results39 Try.ntmps39 (by decide) 0 (by simp) ?_
  simp [Spn.cells, w1, w2, e, w3, w4]
  refine answers_of rfl ?_; simp [partI]
end Go.Qg


namespace Go.Qg
open Go.Proofs
set_option maxRecDepth 100000
set_option linter.unusedSimpArgs false
set_option maxHeartbeats 4000000
attribute [local irreducible] pwp pops pdraw pop popCall pdCall thenP blockP scopeP pspec Spec answers ppost CallW
theorem rCache_spec (l : List Brl) (hl : l.length ≤ 9223372036854775807) : Spec Try.prog 14 [.agg [brlL l]] (.v (.bool (storedB l))) := by
  refine spec_of mixed Try.func14 (by decide) rfl Try.results14 Try.ntmps14 (by decide) 0 (by simp) ?_
  simp [brlL]
  refine pwp_loop (fun k : Nat => [(3, .v (.int .i64 k))]) (fun k => k ≤ l.length ∧ ∀ j, j < k → brlB (brlAt l j) = true) (fun k => l.length - k) 0 ⟨Nat.zero_le _, fun j hj => by omega⟩ (by simp; rfl) (by simp) ?_
  intro k ⟨hk, hp⟩
  by_cases hkl : k < l.length
  · have wk := i64_wrap (show -9223372036854775808 ≤ (k : Int) + 1 ∧ _ from by omega)
    have bad : brlB (brlAt l k) = false → storedB l = false := fun hb => by simp only [storedB, Bool.and_eq_false_iff]; exact .inr (allN_false hkl hb)
    simp [hkl, Brl.cells]
    refine pop_spec (rin_spec (brlAt l k).kilos 1 1000) rfl false (.inl (by simp)) (.inl rfl) rfl (by simp) ?_
    cases h1 : inB (brlAt l k).kilos 1 1000 with
    | false => simp; refine answers_of rfl ?_; simp [bad (by simp [brlB, h1])]
    | true =>
      simp [hkl, Brl.cells]
      refine pop_spec (rDay_spec (brlAt l k).til) rfl false (.inl (by simp)) (.inl rfl) rfl (by simp) ?_
      cases h2 : inB (brlAt l k).til 0 400 with
      | false => simp; refine answers_of rfl ?_; simp [bad (by simp [brlB, h2])]
      | true =>
        simp
        refine again_of (k + 1) ⟨by omega, fun j hj => ?_⟩ (by omega) ?_
        · rcases Nat.lt_succ_iff_lt_or_eq.1 hj with hj | rfl
          · exact hp j hj
          · simp [brlB, h1, h2]
        · simp [wk]
  · obtain rfl : k = l.length := by omega
    have h5 : (allN l.length fun k => brlB (brlAt l k)) = true := allN_spec.2 fun j hj => hp j (by omega)
    by_cases h : l.length ≤ 30
    · simp [show (l.length : Int) ≤ 30 from by omega]
      refine answers_of rfl ?_; simp [storedB, h, h5]
    · simp [show ¬ (l.length : Int) ≤ 30 from by omega]
      refine answers_of rfl ?_; simp [storedB, h]
end Go.Qg


namespace Go.Qg
open Go.Proofs
set_option maxRecDepth 100000
set_option linter.unusedSimpArgs false
set_option maxHeartbeats 4000000
attribute [local irreducible] pwp pops pdraw pop popCall pdCall thenP blockP scopeP pspec Spec answers ppost CallW
theorem lowsB_take {S : Sup} {k : Nat} (h : k < S.burns.length) : (lowsB S).take (k + 1) = (lowsB S).take k ++ [(burAt S.burns k).low] := by
  rw [List.take_add_one]; simp [lowsB, burAt, h]
theorem highsB_take {S : Sup} {k : Nat} (h : k < S.burns.length) : (highsB S).take (k + 1) = (highsB S).take k ++ [(burAt S.burns k).high] := by
  rw [List.take_add_one]; simp [highsB, burAt, h]
def hiTo (S : Sup) (k : Nat) : List Int := (highsB S).take k
def loTo (S : Sup) (k : Nat) : List Int := (lowsB S).take k
theorem hiTo_zero (S : Sup) : hiTo S 0 = [] := rfl
theorem loTo_zero (S : Sup) : loTo S 0 = [] := rfl
theorem hiTo_all (S : Sup) : hiTo S S.burns.length = highsB S := List.take_of_length_le (by rw [highsB_length]; omega)
theorem loTo_all (S : Sup) : loTo S S.burns.length = lowsB S := List.take_of_length_le (by rw [lowsB_length]; omega)
theorem hiTo_succ {S : Sup} {k : Nat} (h : k < S.burns.length) : hiTo S (k + 1) = hiTo S k ++ [(burAt S.burns k).high] := highsB_take h
theorem loTo_succ {S : Sup} {k : Nat} (h : k < S.burns.length) : loTo S (k + 1) = loTo S k ++ [(burAt S.burns k).low] := lowsB_take h
theorem hiTo_length (S : Sup) (k : Nat) : (hiTo S k).length ≤ k := by simp [hiTo]; omega
theorem loTo_length (S : Sup) (k : Nat) : (loTo S k).length ≤ k := by simp [loTo]; omega
theorem rEnds_spec (S : Sup) (hf : S.burns.length ≤ 1000000) (high : Bool) : Spec Try.prog 45 [.agg S.cells, .v (.bool high)] (ints (if high = true then highsB S else lowsB S)) := by
  refine spec_of mixed Try.func45 (by decide) rfl Try.results45 Try.ntmps45 (by decide) 0 (by simp) ?_
  simp [Sup.cells, brlL, burL, shpL]
  cases high with
  | true =>
    refine pwp_loop (fun k : Nat => [(5, .own 24 (hiTo S k).length 0 (hiTo S k).length false), (6, .v (.int .i64 k)), (23, .undef), (24, .rows none (hiTo S k).length 3 1 (rowsI (hiTo S k)))]) (fun k => k ≤ S.burns.length) (fun k => S.burns.length - k) 0 (Nat.zero_le _) (by simp; rfl) (by simp [hiTo_zero, loTo_zero]) ?_
    intro k hk
    by_cases hkl : k < S.burns.length
    · have wk := i64_wrap (show -9223372036854775808 ≤ (k : Int) + 1 ∧ _ from by omega)
      have hT := hiTo_succ hkl
      have hTl := hiTo_length S k
      generalize hiTo S k = T at hT hTl
      simp [hkl, Bur.cells, rowsI_snoc, show (T.length + 1) * 8 ≤ 140737488355328 from by omega, show T.length + 1 ≤ maxLen from by simp [maxLen]; omega]
      refine again_of (k + 1) (by omega) (by omega) ?_
      simp only [hT]
      simp [wk]
      intro y hy z hz
      rcases hy with ⟨a, _, rfl⟩ | rfl <;> (simp at hz; subst hz; rfl)
    · obtain rfl : k = S.burns.length := by omega
      rw [hiTo_all]
      simp
      refine answers_of rfl ?_
      simp [ints, highsB_length]
      intro j hj
      rw [rowsI_get (by rw [highsB_length]; exact hj)]
      simp
  | false =>
    refine pwp_loop (fun k : Nat => [(5, .own 34 (loTo S k).length 0 (loTo S k).length false), (6, .v (.int .i64 k)), (33, .undef), (34, .rows none (loTo S k).length 3 1 (rowsI (loTo S k)))]) (fun k => k ≤ S.burns.length) (fun k => S.burns.length - k) 0 (Nat.zero_le _) (by simp; rfl) (by simp [hiTo_zero, loTo_zero]) ?_
    intro k hk
    by_cases hkl : k < S.burns.length
    · have wk := i64_wrap (show -9223372036854775808 ≤ (k : Int) + 1 ∧ _ from by omega)
      have hT := loTo_succ hkl
      have hTl := loTo_length S k
      generalize loTo S k = T at hT hTl
      simp [hkl, Bur.cells, rowsI_snoc, show (T.length + 1) * 8 ≤ 140737488355328 from by omega, show T.length + 1 ≤ maxLen from by simp [maxLen]; omega]
      refine again_of (k + 1) (by omega) (by omega) ?_
      simp only [hT]
      simp [wk]
      intro y hy z hz
      rcases hy with ⟨a, _, rfl⟩ | rfl <;> (simp at hz; subst hz; rfl)
    · obtain rfl : k = S.burns.length := by omega
      rw [loTo_all]
      simp
      refine answers_of rfl ?_
      simp [ints, lowsB_length]
      intro j hj
      rw [rowsI_get (by rw [lowsB_length]; exact hj)]
      simp
end Go.Qg


namespace Go.Qg
open Go.Proofs
set_option maxRecDepth 100000
set_option linter.unusedSimpArgs false
set_option maxHeartbeats 4000000
attribute [local irreducible] pwp pops pdraw pop popCall pdCall thenP blockP scopeP pspec Spec answers ppost CallW
end Go.Qg


namespace Go.Qg
structure Bok (l : List Brl) (m : Nat) : Prop where
  n : l.length ≤ m
  each : ∀ b ∈ l, (0 < b.kilos ∧ b.kilos ≤ 1000) ∧ 0 ≤ b.til ∧ b.til ≤ 400
theorem Bok.til {l : List Brl} {m : Nat} (h : Bok l m) : ∀ b ∈ l, b.til ≤ 400 := fun b hb => (h.each b hb).2.2
theorem Bok.good {l : List Brl} {m : Nat} (h : Bok l m) (t : Int) : Bok (goodL l t) m := ⟨Nat.le_trans (List.length_filter_le _ _) h.n, fun b hb => h.each b (List.mem_filter.1 hb).1⟩
theorem Bok.first {S : Sup} (hS : SupOk S) : Bok S.barrels 30 := ⟨hS.nb, fun b hb => by have := hS.pos b hb; omega⟩
end Go.Qg


namespace Go.Qg
open Go.Proofs
set_option maxRecDepth 100000
set_option linter.unusedSimpArgs false
set_option maxHeartbeats 8000000
attribute [local irreducible] pwp pops pdraw pop popCall pdCall thenP blockP scopeP pspec Spec answers ppost CallW
theorem lshort_spec (l : List Brl) : Spec Try.prog 51 [.agg [brlL l]] (.v (.bool (decide (l.length ≤ 40)))) := by
  refine spec_of mixed Try.func51 (by decide) rfl Try.results51 Try.ntmps51 (by decide) 0 (by simp) ?_
  simp [brlL]
  by_cases h : l.length ≤ 40
  · simp [show (l.length : Int) ≤ 40 from by omega]
    refine answers_of rfl ?_; simp [h]
  · simp [show ¬ (l.length : Int) ≤ 40 from by omega]
    refine answers_of rfl ?_; simp [h]
end Go.Qg


namespace Go.Qg
open Go.Proofs
set_option maxRecDepth 100000
set_option linter.unusedSimpArgs false
set_option maxHeartbeats 4000000
attribute [local irreducible] pwp pops pdraw pop popCall pdCall thenP blockP scopeP pspec Spec answers ppost CallW
theorem rSupply_spec (S : Sup) (hl : S.barrels.length ≤ 9223372036854775807) (hf : S.burns.length ≤ 9223372036854775807) (hs : S.ships.length ≤ 9223372036854775807) :
    Spec Try.prog 22 [.agg S.cells] (.v (.bool (supB S))) := by
  refine spec_of mixed Try.func22 (by decide) rfl Try.results22 Try.ntmps22 (by decide) 0 (by simp) ?_
  simp [Sup.cells, brlL, burL, shpL]
  refine pop_spec (rCache_spec S.barrels hl) rfl false (.inl (by simp [brlL])) (.inl rfl) rfl (by simp) ?_
  cases h1 : storedB S.barrels with
  | false => simp; refine answers_of rfl ?_; simp [supB, h1]
  | true =>
    by_cases h2 : S.burns.length ≤ 40
    · by_cases h3 : S.ships.length ≤ 6
      · simp [burL, shpL, h2, h3, show ¬ (40 : Int) < S.burns.length from by omega, show ¬ (6 : Int) < S.ships.length from by omega, show (S.burns.length : Int) ≤ 40 from by omega, show (S.ships.length : Int) ≤ 6 from by omega]
        refine pop_spec (rin_spec S.kilos 1 1000) rfl false (.inl (by simp)) (.inl rfl) rfl (by simp) ?_
        cases h4 : inB S.kilos 1 1000 with
        | false => simp; refine answers_of rfl ?_; simp [supB, h4]
        | true =>
          simp
          refine pwp_loop (fun k : Nat => [(3, .v (.int .i64 k))]) (fun k => k ≤ S.burns.length ∧ ∀ j, j < k → burB S.burns j = true) (fun k => S.burns.length - k) 0 ⟨Nat.zero_le _, fun j hj => by omega⟩ (by simp; rfl) (by simp) ?_
          intro k ⟨hk, hp⟩
          have wk := i64_wrap (show -9223372036854775808 ≤ (k : Int) + 1 ∧ _ from by omega)
          by_cases hkl : k < S.burns.length
          · have bad : burB S.burns k = false → supB S = false := fun hb => by simp [supB, allN_false hkl hb]
            simp [hkl, Bur.cells]
            refine pwp_draw 26 (by decide) ?_
            simp
            refine pd_spec (rDay_spec (burAt S.burns k).day) rfl (by simp) (by simp) rfl ?_
            cases q1 : inB (burAt S.burns k).day 0 400 with
            | false =>
              simp
              refine ⟨by decide, ?_⟩
              refine answers_of rfl ?_; simp [bad (by simp [burB, q1])]
            | true =>
              simp
              refine pd_spec (rspan_spec ⟨(burAt S.burns k).low, (burAt S.burns k).high⟩ 30000) (by simp [Spn.cells]) (by simp) (by simp [Spn.cells]) rfl ?_
              cases q3 : spanB ⟨(burAt S.burns k).low, (burAt S.burns k).high⟩ 0 30000 with
              | false =>
                simp
                refine ⟨by decide, ?_⟩
                refine answers_of rfl ?_; simp [bad (by simp [burB, q3])]
              | true =>
                by_cases h0 : k = 0
                · subst h0
                  simp
                  refine ⟨by decide, ?_⟩
                  refine again_of 1 ⟨by omega, fun j hj => ?_⟩ (by omega) ?_
                  · obtain rfl : j = 0 := by omega
                    simp [burB, q1, q3]
                  · simp [wk]
                · have e1 : IntKind.i64.wrap ((k : Int) - 1) = ((k - 1 : Nat) : Int) := by rw [i64_wrap (by omega)]; omega
                  by_cases q2 : (burAt S.burns (k - 1)).day ≤ (burAt S.burns k).day
                  · simp [h0, e1, show k - 1 < S.burns.length from by omega, q2, Int.not_lt.2 q2, show 0 < k from by omega, Bur.cells]
                    refine ⟨by decide, ?_⟩
                    refine again_of (k + 1) ⟨by omega, fun j hj => ?_⟩ (by omega) ?_
                    · rcases Nat.lt_or_eq_of_le (Nat.le_of_lt_succ hj) with h | rfl
                      · exact hp j h
                      · simp [burB, q1, q2, q3]
                    · simp [wk]
                  · simp [h0, e1, show k - 1 < S.burns.length from by omega, q2, Int.not_le.1 q2, show 0 < k from by omega, Bur.cells]
                    refine ⟨by decide, ?_⟩
                    refine answers_of rfl ?_; simp [bad (by simp [burB, q2, h0])]
          · have h5 : allN S.burns.length (burB S.burns) = true := allN_spec.2 fun j hj => hp j (by omega)
            obtain rfl : k = S.burns.length := by omega
            clear hp wk hkl hk
            simp
            refine pwp_loop (fun k : Nat => [(5, .v (.int .i64 k))]) (fun k => k ≤ S.ships.length ∧ ∀ j, j < k → shpB S.ships j = true) (fun k => S.ships.length - k) 0 ⟨Nat.zero_le _, fun j hj => by omega⟩ (by simp; rfl) (by simp) ?_
            intro k ⟨hk, hp⟩
            have wk := i64_wrap (show -9223372036854775808 ≤ (k : Int) + 1 ∧ _ from by omega)
            by_cases hkl : k < S.ships.length
            · have bad : shpB S.ships k = false → supB S = false := fun hb => by simp [supB, allN_false hkl hb]
              simp [hkl, Shp.cells]
              refine pwp_draw 44 (by decide) ?_
              simp (config := { maxSteps := 4000000 })
              refine pd_spec (rDay_spec (shpAt S.ships k).day) rfl (by simp) (by simp) rfl ?_
              cases q1 : inB (shpAt S.ships k).day 0 400 with
              | false =>
                simp (config := { maxSteps := 4000000 })
                refine ⟨by decide, ?_⟩
                refine answers_of rfl ?_; simp [bad (by simp [shpB, q1])]
              | true =>
                simp (config := { maxSteps := 4000000 })
                refine pd_spec (rin_spec (shpAt S.ships k).room 0 9) rfl (by simp) (by simp) rfl ?_
                cases r1 : inB (shpAt S.ships k).room 0 9 with
                | false =>
                  simp (config := { maxSteps := 4000000 })
                  refine ⟨by decide, ?_⟩
                  refine answers_of rfl ?_; simp [bad (by simp [shpB, r1])]
                | true =>
                  simp (config := { maxSteps := 4000000 })
                  refine pd_spec (rin_spec (shpAt S.ships k).cost 0 100000) rfl (by simp) (by simp) rfl ?_
                  cases r2 : inB (shpAt S.ships k).cost 0 100000 with
                  | false =>
                    simp (config := { maxSteps := 4000000 })
                    refine ⟨by decide, ?_⟩
                    refine answers_of rfl ?_; simp [bad (by simp [shpB, r2])]
                  | true =>
                    simp (config := { maxSteps := 4000000 })
                    refine pd_spec (rin_spec (shpAt S.ships k).each 0 100000) rfl (by simp) (by simp) rfl ?_
                    cases r3 : inB (shpAt S.ships k).each 0 100000 with
                    | false =>
                      simp (config := { maxSteps := 4000000 })
                      refine ⟨by decide, ?_⟩
                      refine answers_of rfl ?_; simp [bad (by simp [shpB, r3])]
                    | true =>
                      simp (config := { maxSteps := 4000000 })
                      refine pd_spec (rDay_spec (shpAt S.ships k).good) rfl (by simp) (by simp) rfl ?_
                      cases r4 : inB (shpAt S.ships k).good 0 400 with
                      | false =>
                        simp (config := { maxSteps := 4000000 })
                        refine ⟨by decide, ?_⟩
                        refine answers_of rfl ?_; simp [bad (by simp [shpB, r4])]
                      | true =>
                        by_cases h0 : k = 0
                        · subst h0
                          simp (config := { maxSteps := 4000000 })
                          refine ⟨by decide, ?_⟩
                          refine again_of 1 ⟨by omega, fun j hj => ?_⟩ (by omega) ?_
                          · obtain rfl : j = 0 := by omega
                            simp [shpB, q1, r1, r2, r3, r4]
                          · simp [wk]
                        · have e1 : IntKind.i64.wrap ((k : Int) - 1) = ((k - 1 : Nat) : Int) := by rw [i64_wrap (by omega)]; omega
                          by_cases q2 : (shpAt S.ships (k - 1)).day < (shpAt S.ships k).day
                          · simp (config := { maxSteps := 4000000 }) [h0, e1, show k - 1 < S.ships.length from by omega, q2, Int.not_le.2 q2, show 0 < k from by omega, Shp.cells]
                            refine ⟨by decide, ?_⟩
                            refine again_of (k + 1) ⟨by omega, fun j hj => ?_⟩ (by omega) ?_
                            · rcases Nat.lt_or_eq_of_le (Nat.le_of_lt_succ hj) with h | rfl
                              · exact hp j h
                              · simp [shpB, q1, q2, r1, r2, r3, r4]
                            · simp [wk]
                          · simp (config := { maxSteps := 4000000 }) [h0, e1, show k - 1 < S.ships.length from by omega, q2, Int.not_lt.1 q2, show 0 < k from by omega, Shp.cells]
                            refine ⟨by decide, ?_⟩
                            refine answers_of rfl ?_; simp [bad (by simp [shpB, q2, h0])]
            · have h6 : allN S.ships.length (shpB S.ships) = true := allN_spec.2 fun j hj => hp j (by omega)
              obtain rfl : k = S.ships.length := by omega
              simp
              refine answers_of rfl ?_; simp [supB, h1, h2, h3, h4, h5, h6]
      · simp [burL, shpL, h2, h3, show ¬ (40 : Int) < S.burns.length from by omega, show (6 : Int) < S.ships.length from by omega, show (S.burns.length : Int) ≤ 40 from by omega]
        refine answers_of rfl ?_; simp [supB, h3]
    · simp [burL, h2, show (40 : Int) < S.burns.length from by omega]
      refine answers_of rfl ?_; simp [supB, h2]
theorem rplan_false {S : Sup} {pl : List Int} {k : Nat} (h1 : k < pl.length) (h2 : k < S.ships.length) (h : inB (geti pl k) 0 (shpAt S.ships k).room = false) : plannedB S pl = false := by
  simp only [plannedB, Bool.and_eq_false_iff]
  exact .inl (allN_false h1 (by simp [planB, h]))
theorem rplan_end {S : Sup} {pl : List Int} {k : Nat} (hk : ¬ (k < pl.length ∧ k < S.ships.length)) (hp : ∀ j, j < k → inB (geti pl j) 0 (shpAt S.ships j).room = true) (h1 : k ≤ pl.length) (h2 : k ≤ S.ships.length) : plannedB S pl = decide (pl.length = S.ships.length) := by
  by_cases he : pl.length = S.ships.length
  · have : k = pl.length := by omega
    subst this
    simp only [plannedB, he, decide_true, Bool.and_true]
    rw [← he]
    refine allN_spec.2 fun j hj => ?_
    simp only [planB, Bool.and_eq_true, decide_eq_true_eq]
    exact ⟨by omega, hp j hj⟩
  · simp [plannedB, he]
theorem beq_nat (a b : Nat) : ((a : Int) == (b : Int)) = decide (a = b) := by
  by_cases h : a = b
  · simp [h]
  · have : ¬ (a : Int) = b := by omega
    simp [h, this]
theorem rPlan_spec (S : Sup) (pl : List Int) (hp : pl.length ≤ 9223372036854775807) (hs : S.ships.length ≤ 9223372036854775807) :
    Spec Try.prog 23 [.agg S.cells, ints pl] (.v (.bool (plannedB S pl))) := by
  refine spec_of mixed Try.func23 (by decide) rfl Try.results23 Try.ntmps23 (by decide) 0 (by simp) ?_
  simp [Sup.cells, brlL, burL, shpL, ints]
  refine pwp_loop (fun k : Nat => [(5, .v (.int .i64 k))]) (fun k => k ≤ pl.length ∧ k ≤ S.ships.length ∧ ∀ j, j < k → inB (geti pl j) 0 (shpAt S.ships j).room = true) (fun k => pl.length - k) 0 ⟨Nat.zero_le _, Nat.zero_le _, fun j hj => by omega⟩ (by simp; rfl) (by simp) ?_
  intro k ⟨hk1, hk2, hq⟩
  by_cases c1 : k < pl.length
  · by_cases c2 : k < S.ships.length
    · have wk := i64_wrap (show -9223372036854775808 ≤ (k : Int) + 1 ∧ _ from by omega)
      simp [c1, c2]
      refine pwp_draw 12 (by decide) ?_
      simp [c1, c2, Shp.cells]
      refine pd_spec (rin_spec (geti pl k) 0 (shpAt S.ships k).room) rfl (by simp) (by simp) rfl ?_
      cases hb : inB (geti pl k) 0 (shpAt S.ships k).room with
      | false =>
        simp
        refine ⟨by decide, ?_⟩
        refine answers_of rfl ?_; simp [rplan_false c1 c2 hb]
      | true =>
        simp
        refine ⟨by decide, ?_⟩
        refine again_of (k + 1) ⟨by omega, by omega, fun j hj => ?_⟩ (by omega) ?_
        · rcases Nat.lt_or_eq_of_le (Nat.le_of_lt_succ hj) with h | rfl
          · exact hq j h
          · exact hb
        · simp [wk]
    · simp [c1, c2]
      refine answers_of rfl ?_; simp [rplan_end (fun h => c2 h.2) hq hk1 hk2, beq_nat]
  · simp [c1]
    refine answers_of rfl ?_; simp [rplan_end (fun h => c1 h.1) hq hk1 hk2, beq_nat]
end Go.Qg


namespace Go.Qg
open Go.Proofs
set_option maxRecDepth 100000
set_option linter.unusedSimpArgs false
set_option maxHeartbeats 8000000
attribute [local irreducible] pwp pops pdraw pop popCall pdCall thenP blockP scopeP pspec Spec answers ppost CallW
end Go.Qg


namespace Go.Qg
open Go.Proofs
set_option maxRecDepth 100000
set_option linter.unusedSimpArgs false
set_option maxHeartbeats 8000000
attribute [local irreducible] pwp pops pdraw pop popCall pdCall thenP blockP scopeP pspec Spec answers ppost CallW
def briefB (S : Sup) : Bool := decide (S.barrels.length ≤ 40) && decide (S.burns.length ≤ 50) && decide (S.ships.length ≤ 16)
theorem lbrief_spec (S : Sup) : Spec Try.prog 20 [.agg S.cells] (.v (.bool (briefB S))) := by
  refine spec_of mixed Try.func20 (by decide) rfl Try.results20 Try.ntmps20 (by decide) 0 (by simp) ?_
  simp [Sup.cells, brlL, burL, shpL]
  refine pop_spec (lshort_spec S.barrels) rfl false (.inl (by simp [brlL])) (.inl rfl) rfl (by simp) ?_
  by_cases h1 : S.barrels.length ≤ 40
  · by_cases h2 : S.burns.length ≤ 50
    · by_cases h3 : S.ships.length ≤ 16
      · simp [h1, h2, h3, burL, shpL, show (S.burns.length : Int) ≤ 50 from by omega, show (S.ships.length : Int) ≤ 16 from by omega]
        refine answers_of rfl ?_; simp [briefB, h1, h2, h3]
      · simp [h1, h2, h3, burL, shpL, show ¬ S.ships.length ≤ 16 from h3, show (16:Int) < (S.ships.length : Int) from by omega, show 16 < S.ships.length from by omega, show (S.burns.length : Int) ≤ 50 from by omega, show ¬ (S.ships.length : Int) ≤ 16 from by omega]
        refine answers_of rfl ?_; simp [briefB, h1, h2, h3]
    · simp [h1, h2, burL, shpL, show (50:Int) < (S.burns.length : Int) from by omega, show 50 < S.burns.length from by omega, show ¬ (S.burns.length : Int) ≤ 50 from by omega]
      refine answers_of rfl ?_; simp [briefB, h1, h2]
  · simp [h1]
    refine answers_of rfl ?_; simp [briefB, h1]
end Go.Qg


namespace Go.Qg
set_option maxRecDepth 100000
def lackOf (S : Sup) (plan b : List Int) : Int := lackI (runP S plan b (days S)).2 (runP S plan b (days S)).1.flight
end Go.Qg


namespace Go.Qg
open Go.Proofs
set_option maxRecDepth 100000
set_option linter.unusedSimpArgs false
set_option maxHeartbeats 8000000
attribute [local irreducible] pwp pops pdraw pop popCall pdCall thenP blockP scopeP pspec Spec answers ppost CallW
theorem burns_of {S : Sup} {b : List Int} (h : BurnsOk S b) : burnsB S b = true := by
  have hl := h.len
  simp only [burnsB, anyN_not, Bool.not_not, Bool.and_eq_true, decide_eq_true_eq]
  refine ⟨hl, allN_spec.2 fun k hk => ?_⟩
  have := h.each k (by omega)
  rw [gi_geti] at this
  exact inB_spec.2 this
theorem playRes_ok {S : Sup} {plan b : List Int} (h : playB S plan b = true) : playRes S plan b = .tup [.agg (stockC (sumK S.barrels) (runP S plan b (days S)).1.came (runP S plan b (days S)).1.drawn (runP S plan b (days S)).1.waste (sumK (runP S plan b (days S)).1.barrels)), .agg [brlL (runP S plan b (days S)).1.barrels], .v (.int .i64 (lackOf S plan b)), .v (.int .i64 0)] := by simp [playRes, h, lackOf]
end Go.Qg


namespace Go.Qg
open Go.Proofs
set_option maxRecDepth 100000
set_option linter.unusedSimpArgs false
set_option maxHeartbeats 8000000
attribute [local irreducible] pwp pops pdraw pop popCall pdCall thenP blockP scopeP pspec Spec answers ppost CallW
end Go.Qg


namespace Go.Qg
open Go.Proofs
set_option maxRecDepth 100000
set_option linter.unusedSimpArgs false
set_option maxHeartbeats 8000000
attribute [local irreducible] pwp pops pdraw pop popCall pdCall thenP blockP scopeP pspec Spec answers ppost CallW
end Go.Qg


namespace Go.Qg
set_option maxRecDepth 100000
end Go.Qg


namespace Go.Qg
open Go.Proofs
set_option maxRecDepth 100000
set_option linter.unusedSimpArgs false
set_option maxHeartbeats 8000000
attribute [local irreducible] pwp pops pdraw pop popCall pdCall thenP blockP scopeP pspec Spec answers ppost CallW
theorem planned_of {S : Sup} {plan : List Int} (h : PlanOk S plan) : plannedB S plan = true := by
  have hl := h.len
  simp only [plannedB, Bool.and_eq_true, decide_eq_true_eq]
  refine ⟨allN_spec.2 fun k hk => ?_, hl⟩
  have := h.each k (by omega)
  rw [gi_geti] at this
  simp only [planB, Bool.and_eq_true, decide_eq_true_eq]
  exact ⟨by omega, inB_spec.2 this⟩
end Go.Qg

