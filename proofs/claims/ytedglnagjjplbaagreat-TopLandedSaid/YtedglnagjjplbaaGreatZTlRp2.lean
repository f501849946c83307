/-
  Lemmas and contracts that hold of the whole program: 10 texts in one.
  No condition.
-/
import Derived.Test.YtedglnagjjplbaaGreatZTlRp1
set_option linter.all false

namespace Go.Qg
open Go.Proofs
set_option maxRecDepth 100000
set_option maxHeartbeats 32000000
attribute [local simp 2000] List.getElem?_cons_succ List.getElem?_cons_zero
attribute [local irreducible] pwp pops pdraw pop popCall pdCall thenP blockP scopeP pspec Spec answers ppost CallW rend
theorem t1Times_spec (s : Spn) : Spec Tryz.prog 124 [.agg s.cells] (.v (.bool (spanB s 0 1440))) := by
  refine spec_of mixed Tryz.func124 (by decide) rfl Tryz.results124 Tryz.ntmps124 (by decide) 0 (by simp) ?_
  simp [Spn.cells]
  refine pop_spec (t1Span_spec s 0 1440) rfl false (.inl (by simp [Spn.cells])) (.inl rfl) rfl (by simp) ?_
  simp
  refine answers_of rfl ?_; simp
theorem t1Way_spec (w : Int) : Spec Tryz.prog 60 [.v (.int .i64 w)] (.v (.bool (wayB w))) := by
  refine spec_of mixed Tryz.func60 (by decide) rfl Tryz.results60 Tryz.ntmps60 (by decide) 0 (by simp) ?_
  by_cases h1 : 1 ≤ w
  · by_cases h2 : w ≤ 8 <;> (simp [h1, h2]; refine answers_of rfl ?_; simp [wayB, h1, h2])
  · simp [h1]; refine answers_of rfl ?_; simp [wayB, h1]
theorem t1Steps_spec (w : Int) (hw : 1 ≤ w ∧ w ≤ 8) : Spec Tryz.prog 61 [.v (.int .i64 w)] (.tup [.v (.int .i64 (stepX w)), .v (.int .i64 (stepY w))]) := by
  obtain rfl | rfl | rfl | rfl | rfl | rfl | rfl | rfl : w = 1 ∨ w = 2 ∨ w = 3 ∨ w = 4 ∨ w = 5 ∨ w = 6 ∨ w = 7 ∨ w = 8 := by omega
  all_goals
    refine spec_of mixed Tryz.func61 (by decide) rfl Tryz.results61 Tryz.ntmps61 (by decide) 0 (by simp) ?_
    simp
    refine pwp_draw 12 (by decide) ?_
    simp
    refine ⟨by decide, ?_⟩
    refine answers_of rfl ?_
    simp [stepX, stepY]
theorem t1Sea_spec (s : SeaD) (hs : SeaMem s) : Spec Tryz.prog 47 [.agg s.cells] (.v (.bool (seaB s))) := by
  have hwt := t1Weather_spec ⟨s.tide, s.east, s.north, s.wave, s.swell⟩ ⟨hs.tide, hs.east, hs.north, hs.wave, hs.swell⟩
  rw [show weatherB ⟨s.tide, s.east, s.north, s.wave, s.swell⟩ = weatherS s from rfl] at hwt
  simp only [Wth.cells, wthC, rdgL] at hwt
  refine spec_of mixed Tryz.func47 (by decide) rfl Tryz.results47 Tryz.ntmps47 (by decide) 0 (by simp) ?_
  simp [SeaD.cells, rdgL, spnL, boaL, glaL]
  refine pop_spec (t1in_spec s.wide 1 12) rfl false (.inl (by simp)) (.inl rfl) rfl (by simp) ?_
  cases h1 : inB s.wide 1 12 with
  | false => simp; refine answers_of rfl ?_; simp [seaB, h1]
  | true =>
  simp
  refine pop_spec (t1in_spec s.deep 1 12) rfl false (.inl (by simp)) (.inl rfl) rfl (by simp) ?_
  cases h2 : inB s.deep 1 12 with
  | false => simp; refine answers_of rfl ?_; simp [seaB, h2]
  | true =>
  have g1 := inB_spec.1 h1
  have g2 := inB_spec.1 h2
  have hm : s.wide * s.deep ≤ 144 := Int.le_trans (Int.mul_le_mul g1.2 g2.2 (by omega) (by omega)) (by omega)
  have hm0 : 0 ≤ s.wide * s.deep := Int.mul_nonneg (by omega) (by omega)
  have wm := i64_wrap (show -9223372036854775808 ≤ s.wide * s.deep ∧ _ from by omega)
  have ww := i64_wrap (show -9223372036854775808 ≤ s.wide - 1 ∧ _ from by omega)
  have wd := i64_wrap (show -9223372036854775808 ≤ s.deep - 1 ∧ _ from by omega)
  by_cases h3 : (s.depths.length : Int) = s.wide * s.deep
  rotate_left
  · simp [wm, h3]; refine answers_of rfl ?_; simp [seaB, h3]
  simp [wm, eq_true h3]
  refine pop_spec hwt rfl false (.inl (by simp)) (.inl rfl) rfl (by simp) ?_
  cases h6 : weatherS s with
  | false => simp [wm, eq_true h3]; refine answers_of rfl ?_; simp [seaB, h6]
  | true =>
  by_cases h4 : s.boats.length ≤ 12
  rotate_left
  · simp [wm, eq_true h3, show (12 : Int) < s.boats.length from by omega]; refine answers_of rfl ?_; simp [seaB, h4]
  by_cases h5 : s.glares.length ≤ 6
  rotate_left
  · simp [wm, eq_true h3, show (s.boats.length : Int) ≤ 12 from by omega, show ¬ (12 : Int) < s.boats.length from by omega, show (6 : Int) < s.glares.length from by omega]; refine answers_of rfl ?_; simp [seaB, h5]
  simp [wm, eq_true h3, show (s.boats.length : Int) ≤ 12 from by omega, show ¬ (12 : Int) < s.boats.length from by omega, show (s.glares.length : Int) ≤ 6 from by omega, show ¬ (6 : Int) < s.glares.length from by omega]
  refine pwp_loop (fun k : Nat => [(3, .v (.int .i64 k))]) (fun k => k ≤ s.depths.length ∧ ∀ j, j < k → spanB (spnAt s.depths j) (-5000) 5000 = true) (fun k => s.depths.length - k) 0 ⟨Nat.zero_le _, fun j hj => by omega⟩ (by simp; rfl) (by simp) ?_
  intro k ⟨hk, hp⟩
  by_cases hkl : k < s.depths.length
  · have hsc : (spnAt s.depths k).cells = [.v (.int .i64 (spnAt s.depths k).low), .v (.int .i64 (spnAt s.depths k).high)] := rfl
    simp [hkl, hsc]
    refine pop_spec (t1Span_spec (spnAt s.depths k) (-5000) 5000) rfl false (.inl (by simp [hsc])) (.inl rfl) rfl (by simp) ?_
    cases h7 : spanB (spnAt s.depths k) (-5000) 5000 with
    | false =>
      simp
      refine answers_of rfl ?_
      simp [seaB, allN_false (p := fun k => spanB (spnAt s.depths k) (-5000) 5000) hkl h7]
    | true =>
      simp
      refine again_of (k + 1) ⟨by omega, fun j hj => ?_⟩ (by omega) ?_
      · rcases Nat.lt_succ_iff_lt_or_eq.1 hj with hj | rfl
        · exact hp j hj
        · exact h7
      · simp [i64_wrap (show -9223372036854775808 ≤ (k : Int) + 1 ∧ _ from by omega)]
  · obtain rfl : k = s.depths.length := by omega
    have ha := allN_spec.2 hp
    simp
    refine pwp_loop (fun k : Nat => [(4, .v (.int .i64 k))]) (fun k => k ≤ s.boats.length ∧ ∀ j, j < k → boaB s (boaAt s.boats j) = true) (fun k => s.boats.length - k) 0 ⟨Nat.zero_le _, fun j hj => by omega⟩ (by simp; rfl) (by simp) ?_
    intro k ⟨hk, hp⟩
    by_cases hkl : k < s.boats.length
    · have no : boaB s (boaAt s.boats k) = false → seaB s = false := fun h => by simp [seaB, allN_false (p := fun k => boaB s (boaAt s.boats k)) hkl h]
      simp [hkl, Boa.cells, ww]
      refine pop_spec (t1Span_spec (boaAt s.boats k).x 0 (s.wide - 1)) rfl false (.inl (by simp [Spn.cells])) (.inl rfl) rfl (by simp) ?_
      cases h8 : spanB (boaAt s.boats k).x 0 (s.wide - 1) with
      | false => simp; refine answers_of rfl ?_; simp [no (by simp [boaB, h8])]
      | true =>
      simp [wd]
      refine pop_spec (t1Span_spec (boaAt s.boats k).y 0 (s.deep - 1)) rfl false (.inl (by simp [Spn.cells])) (.inl rfl) rfl (by simp) ?_
      cases h9 : spanB (boaAt s.boats k).y 0 (s.deep - 1) with
      | false => simp; refine answers_of rfl ?_; simp [no (by simp [boaB, h9])]
      | true =>
      simp
      refine pop_spec (t1Times_spec (boaAt s.boats k).times) rfl false (.inl (by simp [Spn.cells])) (.inl rfl) rfl (by simp) ?_
      cases h10 : spanB (boaAt s.boats k).times 0 1440 with
      | false => simp; refine answers_of rfl ?_; simp [no (by simp [boaB, h10])]
      | true =>
      simp
      refine again_of (k + 1) ⟨by omega, fun j hj => ?_⟩ (by omega) ?_
      · rcases Nat.lt_succ_iff_lt_or_eq.1 hj with hj | rfl
        · exact hp j hj
        · simp [boaB, h8, h9, h10]
      · simp [i64_wrap (show -9223372036854775808 ≤ (k : Int) + 1 ∧ _ from by omega)]
    · obtain rfl : k = s.boats.length := by omega
      have hb := allN_spec.2 hp
      simp
      refine pwp_loop (fun k : Nat => [(6, .v (.int .i64 k))]) (fun k => k ≤ s.glares.length ∧ ∀ j, j < k → glaB (glaAt s.glares j) = true) (fun k => s.glares.length - k) 0 ⟨Nat.zero_le _, fun j hj => by omega⟩ (by simp; rfl) (by simp) ?_
      intro k ⟨hk, hp⟩
      by_cases hkl : k < s.glares.length
      · have no : glaB (glaAt s.glares k) = false → seaB s = false := fun h => by simp [seaB, allN_false (p := fun k => glaB (glaAt s.glares k)) hkl h]
        simp [hkl, Gla.cells]
        refine pop_spec (t1Way_spec (glaAt s.glares k).way) rfl false (.inl (by simp)) (.inl rfl) rfl (by simp) ?_
        cases h11 : wayB (glaAt s.glares k).way with
        | false => simp; refine answers_of rfl ?_; simp [no (by simp [glaB, h11])]
        | true =>
        simp [hkl, Gla.cells]
        refine pop_spec (t1Times_spec (glaAt s.glares k).times) rfl false (.inl (by simp [Spn.cells])) (.inl rfl) rfl (by simp) ?_
        cases h12 : spanB (glaAt s.glares k).times 0 1440 with
        | false => simp; refine answers_of rfl ?_; simp [no (by simp [glaB, h12])]
        | true =>
        simp
        refine again_of (k + 1) ⟨by omega, fun j hj => ?_⟩ (by omega) ?_
        · rcases Nat.lt_succ_iff_lt_or_eq.1 hj with hj | rfl
          · exact hp j hj
          · simp [glaB, h11, h12]
        · simp [i64_wrap (show -9223372036854775808 ≤ (k : Int) + 1 ∧ _ from by omega)]
      · obtain rfl : k = s.glares.length := by omega
        have hc := allN_spec.2 hp
        simp
        refine answers_of rfl ?_
        simp [seaB, h1, h2, h3, h4, h5, h6, ha, hb, hc]
theorem t1Strip_spec (s : SeaD) (p : Stp) (hs : SeaOk s) : Spec Tryz.prog 19 [.agg s.cells, .agg p.cells] (.v (.bool (stripB s p))) := by
  have hw := hs.wide
  have hd := hs.deep
  have ww := i64_wrap (show -9223372036854775808 ≤ s.wide - 1 ∧ _ from by omega)
  have wd := i64_wrap (show -9223372036854775808 ≤ s.deep - 1 ∧ _ from by omega)
  refine spec_of mixed Tryz.func19 (by decide) rfl Tryz.results19 Tryz.ntmps19 (by decide) 0 (by simp) ?_
  simp [SeaD.cells, rdgL, spnL, boaL, glaL, Stp.cells]
  refine pop_spec (t1Way_spec p.way) rfl false (.inl (by simp)) (.inl rfl) rfl (by simp) ?_
  cases h1 : wayB p.way with
  | false => simp; refine answers_of rfl ?_; simp [stripB, h1]
  | true =>
  simp
  refine pop_spec (t1in_spec p.cells_ 1 12) rfl false (.inl (by simp)) (.inl rfl) rfl (by simp) ?_
  cases h2 : inB p.cells_ 1 12 with
  | false => simp; refine answers_of rfl ?_; simp [stripB, h2]
  | true =>
  simp [ww]
  refine pop_spec (t1in_spec p.x 0 (s.wide - 1)) rfl false (.inl (by simp)) (.inl rfl) rfl (by simp) ?_
  cases h3 : inB p.x 0 (s.wide - 1) with
  | false => simp; refine answers_of rfl ?_; simp [stripB, h3]
  | true =>
  simp [wd]
  refine pop_spec (t1in_spec p.y 0 (s.deep - 1)) rfl false (.inl (by simp)) (.inl rfl) rfl (by simp) ?_
  cases h4 : inB p.y 0 (s.deep - 1) with
  | false => simp; refine answers_of rfl ?_; simp [stripB, h4]
  | true =>
  have g1 : 1 ≤ p.way ∧ p.way ≤ 8 := by simpa [wayB] using h1
  have g2 := inB_spec.1 h2
  have g3 := inB_spec.1 h3
  have g4 := inB_spec.1 h4
  have wc := i64_wrap (show -9223372036854775808 ≤ p.cells_ - 1 ∧ _ from by omega)
  obtain ⟨sx, sy⟩ := step_cases p.way
  have bx : -12 ≤ stepX p.way * (p.cells_ - 1) ∧ stepX p.way * (p.cells_ - 1) ≤ 12 := by rcases sx with h | h | h <;> rw [h] <;> omega
  have by' : -12 ≤ stepY p.way * (p.cells_ - 1) ∧ stepY p.way * (p.cells_ - 1) ≤ 12 := by rcases sy with h | h | h <;> rw [h] <;> omega
  have w1 := i64_wrap (show -9223372036854775808 ≤ stepX p.way * (p.cells_ - 1) ∧ _ from by omega)
  have w2 := i64_wrap (show -9223372036854775808 ≤ stepY p.way * (p.cells_ - 1) ∧ _ from by omega)
  have w3 := i64_wrap (show -9223372036854775808 ≤ p.x + stepX p.way * (p.cells_ - 1) ∧ _ from by omega)
  have w4 := i64_wrap (show -9223372036854775808 ≤ p.y + stepY p.way * (p.cells_ - 1) ∧ _ from by omega)
  simp
  refine pop_spec (t1Steps_spec p.way g1) rfl false (.inl (by simp)) (.inl rfl) rfl (by simp) ?_
  simp [ww, wc, w1, w3]
  refine pop_spec (t1in_spec (p.x + stepX p.way * (p.cells_ - 1)) 0 (s.wide - 1)) rfl false (.inl (by simp)) (.inl rfl) rfl (by simp) ?_
  cases h5 : inB (p.x + stepX p.way * (p.cells_ - 1)) 0 (s.wide - 1) with
  | false => simp; refine answers_of rfl ?_; simp [stripB, h5]
  | true =>
  simp [wd, wc, w2, w4]
  refine pop_spec (t1in_spec (p.y + stepY p.way * (p.cells_ - 1)) 0 (s.deep - 1)) rfl false (.inl (by simp)) (.inl rfl) rfl (by simp) ?_
  simp
  refine answers_of rfl ?_; simp [stripB, h1, h2, h3, h4, h5]
theorem t1Need_spec (n : Ned) : Spec Tryz.prog 14 [.agg n.cells] (.v (.bool (needB n))) := by
  have hsp : spanB ⟨n.calm, n.wave⟩ 0 2000 = (inB n.calm 0 n.wave && decide (n.wave ≤ 2000)) := rfl
  refine spec_of mixed Tryz.func14 (by decide) rfl Tryz.results14 Tryz.ntmps14 (by decide) 0 (by simp) ?_
  simp [Ned.cells]
  refine pop_spec (t1in_spec n.draught 0 5000) rfl false (.inl (by simp)) (.inl rfl) rfl (by simp) ?_
  cases h1 : inB n.draught 0 5000 with
  | false => simp; refine answers_of rfl ?_; simp [needB, h1]
  | true =>
  simp
  refine pop_spec (t1in_spec n.run 1 12) rfl false (.inl (by simp)) (.inl rfl) rfl (by simp) ?_
  cases h2 : inB n.run 1 12 with
  | false => simp; refine answers_of rfl ?_; simp [needB, h2]
  | true =>
  simp
  refine pop_spec (t1in_spec n.cross 0 300) rfl false (.inl (by simp)) (.inl rfl) rfl (by simp) ?_
  cases h3 : inB n.cross 0 300 with
  | false => simp; refine answers_of rfl ?_; simp [needB, h3]
  | true =>
  simp
  refine pop_spec (t1in_spec n.tail 0 300) rfl false (.inl (by simp)) (.inl rfl) rfl (by simp) ?_
  cases h4 : inB n.tail 0 300 with
  | false => simp; refine answers_of rfl ?_; simp [needB, h4]
  | true =>
  simp
  refine pop_spec (t1Span_spec ⟨n.calm, n.wave⟩ 0 2000) rfl false (.inl (by simp [Spn.cells])) (.inl rfl) rfl (by simp) ?_
  cases h5 : spanB ⟨n.calm, n.wave⟩ 0 2000 with
  | false =>
    rw [hsp] at h5
    have : needB n = false := by
      rw [needB, Bool.and_assoc (_ && _ && _ && _) (inB n.calm 0 n.wave), h5]
      simp
    simp; refine answers_of rfl ?_; simp [this]
  | true =>
  rw [hsp, Bool.and_eq_true] at h5
  simp
  refine pop_spec (t1in_spec n.swell 0 2000) rfl false (.inl (by simp)) (.inl rfl) rfl (by simp) ?_
  simp
  refine answers_of rfl ?_; simp [needB, h1, h2, h3, h4, h5.1, h5.2]
  first | done | (have := h5.2; simp at this; simp [this])
end Go.Qg


namespace Go.Qg
open Go.Proofs
set_option maxRecDepth 100000
set_option maxHeartbeats 32000000
attribute [local simp 2000] List.getElem?_cons_succ List.getElem?_cons_zero
attribute [local irreducible] pwp pops pdraw pop popCall pdCall thenP blockP scopeP pspec Spec answers ppost CallW rend
theorem range_20 : List.range 20 = [0, 1, 2, 3, 4, 5, 6, 7, 8, 9, 10, 11, 12, 13, 14, 15, 16, 17, 18, 19] := rfl
theorem t1gap_spec (a b : Int) (ha : Small 1000000 a) (hb : Small 1000000 b) : Spec Tryz.prog 128 [.v (.int .i64 a), .v (.int .i64 b)] (.v (.int .i64 (farI a b))) := by
  simp only [Small] at ha hb
  have w1 := i64_wrap (show -9223372036854775808 ≤ a - b ∧ _ from by omega)
  have w2 := i64_wrap (show -9223372036854775808 ≤ b - a ∧ _ from by omega)
  refine spec_of mixed Tryz.func128 (by decide) rfl Tryz.results128 Tryz.ntmps128 (by decide) 0 (by simp) ?_
  simp [w1, w2]
  refine answers_of rfl ?_
  simp [farI]
  first | done | omega | (split <;> omega)
theorem t1At_spec (g : Gge) (t : Int) (hg : GgeOk g) (ht : 0 ≤ t ∧ t ≤ 1440) : Spec Tryz.prog 59 [.agg g.cells, .v (.int .i64 t)] (.agg (atS g t).cells) := by
  have hn := hg.n
  refine spec_of mixed Tryz.func59 (by decide) rfl Tryz.results59 Tryz.ntmps59 (by decide) 0 (by simp) ?_
  simp [Gge.cells, rdgL]
  refine pwp_loop (fun k : Nat => [(5, .box true [.v (.int .i64 (loK g t k)), .v (.int .i64 (hiK g t k))]), (6, .v (.int .i64 k))]) (fun k => k ≤ g.readings.length) (fun k => g.readings.length - k) 0 (Nat.zero_le _) (by simp; rfl) (by simp [loK, hiK]) ?_
  intro k hk
  by_cases hkl : k < g.readings.length
  · have hd := drop_small hg ht hkl
    have hr := hg.rd k hkl
    have hK := K_small hg ht hk
    simp only [Small] at hK
    have e1 := loK_succ (g := g) (t := t) hkl
    have e2 := (hiK_succ (g := g) (t := t) hkl).trans (Int.min_comm _ _)
    have w1 := i64_wrap (show -9223372036854775808 ≤ g.rate * farI (rdgAt g.readings k).minute t ∧ _ from by omega)
    have w2 := i64_wrap (show -9223372036854775808 ≤ (rdgAt g.readings k).low - g.rate * farI (rdgAt g.readings k).minute t ∧ _ from by omega)
    have w3 := i64_wrap (show -9223372036854775808 ≤ (rdgAt g.readings k).high + g.rate * farI (rdgAt g.readings k).minute t ∧ _ from by omega)
    simp [hkl, Rdg.cells]
    refine pwp_draw 8 (by decide) ?_
    simp
    refine pd_spec (t1gap_spec (rdgAt g.readings k).minute t (by simp only [Small]; omega) (by simp only [Small]; omega)) (by simp) (by simp) (by simp) rfl ?_
    simp
    refine ⟨by decide, ?_⟩
    simp [w1]
    refine pwp_draw 20 (by decide) ?_
    simp [w2, w3, max_if, max_if', max_le, min_if, min_if', min_le]
    refine ⟨by decide, ?_⟩
    refine again_of (k + 1) (by omega) (by omega) ?_
    simp [i64_wrap (show -9223372036854775808 ≤ (k : Int) + 1 ∧ _ from by omega), e1, e2]
  · obtain rfl : k = g.readings.length := by omega
    rw [loK_end, hiK_end]
    simp
    refine answers_of (x := .agg (atS g t).cells) (by simp [Spn.cells, atS]) ?_
    simp [Spn.cells]
theorem t1Clash_spec (g : Gge) (hg : GgeOk g) : Spec Tryz.prog 125 [.agg g.cells] (.tup (clashR g)) := by
  have hn := hg.n
  refine spec_of mixed Tryz.func125 (by decide) rfl Tryz.results125 Tryz.ntmps125 (by decide) 0 (by simp) ?_
  simp [Gge.cells, rdgL]
  refine pwp_loop (fun k : Nat => [(5, .v (.int .i64 k))]) (fun k => k ≤ g.readings.length ∧ firstI g k = none) (fun k => g.readings.length - k) 0 ⟨Nat.zero_le _, rfl⟩ (by simp; rfl) (by simp) ?_
  intro i ⟨hi, hf⟩
  by_cases hil : i < g.readings.length
  · have wi := i64_wrap (show -9223372036854775808 ≤ (i : Int) + 1 ∧ _ from by omega)
    have fin : ∀ j, (if oneC g i = true then some (i, i) else (firstJ g i g.readings.length).map fun j => (i, j)) = some (i, j) → clashR g = [.v (.int .i64 i), .v (.int .i64 j), .v (.bool true)] := fun j hj => by
      have : firstI g (i + 1) = some (i, j) := by simp only [firstI, hf]; exact hj
      simp only [clashR, firstI_some (show i + 1 ≤ g.readings.length by omega) this]
    by_cases c1 : g.most < (rdgAt g.readings i).low
    · simp [hil, Rdg.cells, c1]
      refine answers_of rfl ?_
      rw [fin i (by simp [oneC, c1])]
      simp
    · by_cases c2 : (rdgAt g.readings i).high < g.least
      · simp [hil, Rdg.cells, c1, c2]
        refine answers_of rfl ?_
        rw [fin i (by simp [oneC, c2])]
        simp
      · have ho : oneC g i = false := by simp [oneC]; omega
        rw [ho] at fin
        simp only [Bool.false_eq_true, if_false] at fin
        simp [hil, Rdg.cells, c1, c2, show ¬ g.most < (rdgAt g.readings i).low from c1]
        rw [wi]
        refine pwp_loop (fun j : Nat => [(7, .v (.int .i64 j))]) (fun j => i < j ∧ j ≤ g.readings.length ∧ firstJ g i j = none) (fun j => g.readings.length - j) (i + 1) ⟨by omega, by omega, firstJ_none.2 fun j h1 h2 => by omega⟩ (by simp; rfl) (by simp) ?_
        intro j ⟨hij, hj, hfj⟩
        by_cases hjl : j < g.readings.length
        · have wj := i64_wrap (show -9223372036854775808 ≤ (j : Int) + 1 ∧ _ from by omega)
          have r1 := hg.rd i hil
          have r2 := hg.rd j hjl
          have d0 : 0 ≤ farI (rdgAt g.readings i).minute (rdgAt g.readings j).minute ∧ farI (rdgAt g.readings i).minute (rdgAt g.readings j).minute ≤ 1440 := by unfold farI; omega
          have d1 : g.rate * farI (rdgAt g.readings i).minute (rdgAt g.readings j).minute ≤ 1440000 := Int.le_trans (Int.mul_le_mul hg.rate.2 d0.2 d0.1 (by omega)) (by omega)
          have d2 := Int.mul_nonneg hg.rate.1 d0.1
          have w1 := i64_wrap (show -9223372036854775808 ≤ g.rate * farI (rdgAt g.readings i).minute (rdgAt g.readings j).minute ∧ _ from by omega)
          have w2 := i64_wrap (show -9223372036854775808 ≤ (rdgAt g.readings i).low - (rdgAt g.readings j).high ∧ _ from by omega)
          have w3 := i64_wrap (show -9223372036854775808 ≤ (rdgAt g.readings j).low - (rdgAt g.readings i).high ∧ _ from by omega)
          simp [hjl, Rdg.cells]
          refine pwp_draw 9 (by decide) ?_
          simp
          refine pd_spec (t1gap_spec (rdgAt g.readings i).minute (rdgAt g.readings j).minute (by simp only [Small]; omega) (by simp only [Small]; omega)) (by simp) (by simp) (by simp) rfl ?_
          simp [w1]
          refine ⟨by decide, ?_⟩
          have hj1 : twoC g i j = true → firstJ g i (j + 1) = some j := fun h => by simp [firstJ, hfj, hij, h]
          have hj0 : twoC g i j = false → firstJ g i (j + 1) = none := fun h => by simp [firstJ, hfj, h]
          obtain ⟨D, hD⟩ : ∃ D, g.rate * farI (rdgAt g.readings i).minute (rdgAt g.readings j).minute = D := ⟨_, rfl⟩
          obtain ⟨X, hX⟩ : ∃ X, (rdgAt g.readings i).low - (rdgAt g.readings j).high = X := ⟨_, rfl⟩
          obtain ⟨Y, hY⟩ : ∃ Y, (rdgAt g.readings j).low - (rdgAt g.readings i).high = Y := ⟨_, rfl⟩
          have htw : twoC g i j = decide (D < max X Y) := by rw [twoC, hD, hX, hY]
          rw [htw] at hj1 hj0
          rw [hX] at w2
          rw [hY] at w3
          rw [hD]
          by_cases ht1 : D < X
          · have hj' := hj1 (by simp only [decide_eq_true_eq]; omega)
            simp [w2, w3, hX, hY, ht1, show ¬ X ≤ D from by omega]
            refine answers_of rfl ?_
            rw [fin j (by rw [firstJ_some (show j + 1 ≤ g.readings.length by omega) hj']; rfl)]
            simp
          · by_cases ht2 : D < Y
            · have hj' := hj1 (by simp only [decide_eq_true_eq]; omega)
              simp [w2, w3, hX, hY, ht1, ht2, show X ≤ D from by omega, show ¬ Y ≤ D from by omega]
              refine answers_of rfl ?_
              rw [fin j (by rw [firstJ_some (show j + 1 ≤ g.readings.length by omega) hj']; rfl)]
              simp
            · have hj' := hj0 (by simp only [decide_eq_false_iff_not]; omega)
              simp [w2, w3, hX, hY, ht1, ht2, show X ≤ D from by omega, show Y ≤ D from by omega]
              refine again_of (j + 1) ⟨by omega, by omega, hj'⟩ (by omega) ?_
              simp [wj]
        · obtain rfl : j = g.readings.length := by omega
          simp
          refine again_of (i + 1) ⟨by omega, by simp [firstI, hf, ho, hfj]⟩ (by omega) ?_
          simp [wi]
  · obtain rfl : i = g.readings.length := by omega
    simp
    refine answers_of rfl ?_
    simp [clashR, hf]
theorem clashR_third (g : Gge) : ∃ x y, clashR g = [.v (.int .i64 x), .v (.int .i64 y), .v (.bool (!runsB g))] := by
  unfold clashR runsB
  cases h : firstI g g.readings.length with
  | none => exact ⟨0, 0, rfl⟩
  | some x => exact ⟨x.1, x.2, rfl⟩
theorem t1Sound_spec (w : Wth) (h1 : GgeOk w.tide) (h2 : GgeOk w.east) (h3 : GgeOk w.north) (h4 : GgeOk w.wave) (h5 : GgeOk w.swell) : Spec Tryz.prog 48 [.agg w.cells] (.v (.bool (runsB w.tide && (runsB w.east && (runsB w.north && (runsB w.wave && runsB w.swell)))))) := by
  have r1 := t1Clash_spec w.tide h1
  have r2 := t1Clash_spec w.east h2
  have r3 := t1Clash_spec w.north h3
  have r4 := t1Clash_spec w.wave h4
  have r5 := t1Clash_spec w.swell h5
  obtain ⟨x1, y1, e1⟩ := clashR_third w.tide
  obtain ⟨x2, y2, e2⟩ := clashR_third w.east
  obtain ⟨x3, y3, e3⟩ := clashR_third w.north
  obtain ⟨x4, y4, e4⟩ := clashR_third w.wave
  obtain ⟨x5, y5, e5⟩ := clashR_third w.swell
  rw [e1] at r1
  rw [e2] at r2
  rw [e3] at r3
  rw [e4] at r4
  rw [e5] at r5
  simp only [Gge.cells, rdgL] at r1 r2 r3 r4 r5
  refine spec_of mixed Tryz.func48 (by decide) rfl Tryz.results48 Tryz.ntmps48 (by decide) 0 (by simp) ?_
  simp [Wth.cells, wthC, rdgL, range_20]
  refine pwp_loop (fun k : Nat => [(4, .v (.int .i64 k))]) (fun k => k ≤ 5 ∧ (1 ≤ k → runsB w.tide = true) ∧ (2 ≤ k → runsB w.east = true) ∧ (3 ≤ k → runsB w.north = true) ∧ (4 ≤ k → runsB w.wave = true) ∧ (5 ≤ k → runsB w.swell = true)) (fun k => 5 - k) 0 ⟨by omega, by omega, by omega, by omega, by omega, by omega⟩ (by simp; rfl) (by simp) ?_
  intro k ⟨hk, q1, q2, q3, q4, q5⟩
  obtain rfl | rfl | rfl | rfl | rfl | rfl : k = 0 ∨ k = 1 ∨ k = 2 ∨ k = 3 ∨ k = 4 ∨ k = 5 := by omega
  · simp
    refine pop_spec r1 rfl false (.inl (by simp)) (.inl rfl) rfl (by simp) ?_
    cases h : runsB w.tide with
    | false => simp; refine answers_of rfl ?_; simp [h]
    | true =>
      simp
      refine again_of 1 (by simp [h]) (by omega) ?_
      simp
  · simp
    refine pop_spec r2 rfl false (.inl (by simp)) (.inl rfl) rfl (by simp) ?_
    cases h : runsB w.east with
    | false => simp; refine answers_of rfl ?_; simp [h]
    | true =>
      simp
      refine again_of 2 (by simp [q1 (by omega), h]) (by omega) ?_
      simp
  · simp
    refine pop_spec r3 rfl false (.inl (by simp)) (.inl rfl) rfl (by simp) ?_
    cases h : runsB w.north with
    | false => simp; refine answers_of rfl ?_; simp [h]
    | true =>
      simp
      refine again_of 3 (by simp [q1 (by omega), q2 (by omega), h]) (by omega) ?_
      simp
  · simp
    refine pop_spec r4 rfl false (.inl (by simp)) (.inl rfl) rfl (by simp) ?_
    cases h : runsB w.wave with
    | false => simp; refine answers_of rfl ?_; simp [h]
    | true =>
      simp
      refine again_of 4 (by simp [q1 (by omega), q2 (by omega), q3 (by omega), h]) (by omega) ?_
      simp
  · simp
    refine pop_spec r5 rfl false (.inl (by simp)) (.inl rfl) rfl (by simp) ?_
    cases h : runsB w.swell with
    | false => simp; refine answers_of rfl ?_; simp [h]
    | true =>
      simp
      refine again_of 5 (by simp [q1 (by omega), q2 (by omega), q3 (by omega), q4 (by omega), h]) (by omega) ?_
      simp
  · simp
    refine answers_of rfl ?_
    simp [q1 (by omega), q2 (by omega), q3 (by omega), q4 (by omega), q5 (by omega)]
theorem valL_all {t : Tru} : allN ([t.tide, t.east, t.north, t.wave, t.swell] ++ t.depths).length (fun k => valB (geti ([t.tide, t.east, t.north, t.wave, t.swell] ++ t.depths) k)) = (valB t.tide && valB t.east && valB t.north && valB t.wave && valB t.swell && allN t.depths.length (fun k => valB (geti t.depths k))) := by
  rw [Bool.eq_iff_iff]
  simp only [allN_spec, Bool.and_eq_true]
  constructor
  · intro h
    have g := fun k (hk : k < t.depths.length + 5) => h k (by simp; omega)
    refine ⟨⟨⟨⟨⟨by simpa [geti] using g 0 (by omega), by simpa [geti] using g 1 (by omega)⟩, by simpa [geti] using g 2 (by omega)⟩, by simpa [geti] using g 3 (by omega)⟩, by simpa [geti] using g 4 (by omega)⟩, fun k hk => ?_⟩
    have := g (k + 5) (by omega)
    simpa [geti] using this
  · rintro ⟨⟨⟨⟨⟨h0, h1⟩, h2⟩, h3⟩, h4⟩, h5⟩ k hk
    match k, hk with
    | 0, _ => simpa [geti] using h0
    | 1, _ => simpa [geti] using h1
    | 2, _ => simpa [geti] using h2
    | 3, _ => simpa [geti] using h3
    | 4, _ => simpa [geti] using h4
    | k + 5, hk => simpa [geti] using h5 k (by simp at hk; omega)
theorem t1Truth_spec (s : SeaD) (t : Tru) (ht : t.depths.length ≤ 1000000) : Spec Tryz.prog 17 [.agg s.cells, .agg t.cells] (.v (.bool (truthB s t))) := by
  obtain ⟨L, hL⟩ : ∃ L, [t.tide, t.east, t.north, t.wave, t.swell] ++ t.depths = L := ⟨_, rfl⟩
  have hlen : L.length = t.depths.length + 5 := by rw [← hL]; simp
  have hva := valL_all (t := t)
  rw [hL] at hva
  have hrows : [[PV.v (Value.int IntKind.i64 t.tide)], [PV.v (Value.int IntKind.i64 t.east)], [PV.v (Value.int IntKind.i64 t.north)], [PV.v (Value.int IntKind.i64 t.wave)], [PV.v (Value.int IntKind.i64 t.swell)]] ++ List.map (fun i => [PV.v (Value.int IntKind.i64 (geti t.depths i))]) (List.range t.depths.length) = rowsI L := by
    rw [rowsI_range, ← hL]
    simp [rowsI]
  have hfb : truthB s t = (allN L.length (fun k => valB (geti L k)) && inB t.minute 0 1440 && decide (t.depths.length = s.depths.length) && decide (t.boats.length = s.boats.length)) := by
    rw [hva, truthB, Bool.eq_iff_iff]
    simp only [Bool.and_eq_true]
    constructor
    · rintro ⟨⟨⟨⟨⟨⟨⟨⟨a, b⟩, c⟩, d⟩, e⟩, f⟩, g⟩, h⟩, i⟩; exact ⟨⟨⟨⟨⟨⟨⟨⟨b, c⟩, d⟩, e⟩, f⟩, i⟩, a⟩, g⟩, h⟩
    · rintro ⟨⟨⟨⟨⟨⟨⟨⟨b, c⟩, d⟩, e⟩, f⟩, i⟩, a⟩, g⟩, h⟩; exact ⟨⟨⟨⟨⟨⟨⟨⟨a, b⟩, c⟩, d⟩, e⟩, f⟩, g⟩, h⟩, i⟩
  have hrows' : ([PV.v (Value.int IntKind.i64 t.tide)] :: [PV.v (Value.int IntKind.i64 t.east)] :: [PV.v (Value.int IntKind.i64 t.north)] :: [PV.v (Value.int IntKind.i64 t.wave)] :: [PV.v (Value.int IntKind.i64 t.swell)] :: List.map (fun i => [PV.v (Value.int IntKind.i64 (geti t.depths i))]) (List.range t.depths.length)) = rowsI L := by simpa using hrows
  rw [hfb]
  refine spec_of mixed Tryz.func17 (by decide) rfl Tryz.results17 Tryz.ntmps17 (by decide) 0 (by simp) ?_
  simp [SeaD.cells, Tru.cells, rdgL, spnL, boaL, glaL, ints, bools, show (5 + t.depths.length) * 8 ≤ 140737488355328 from by omega, show 5 + t.depths.length ≤ maxLen from by simp [maxLen]; omega]
  rw [hrows']
  refine pwp_loop (fun k : Nat => [(6, .v (.int .i64 k))]) (fun k => k ≤ L.length ∧ ∀ j, j < k → valB (geti L j) = true) (fun k => L.length - k) 0 ⟨Nat.zero_le _, fun j hj => by omega⟩ (by simp; rfl) (by simp) ?_
  intro k ⟨hk, hp⟩
  by_cases hkl : k < L.length
  · simp [hkl, show (k : Int) < 5 + (t.depths.length : Int) from by omega, show k < 5 + t.depths.length from by omega]
    refine pop_spec (t1in_spec (geti L k) (-100000) 100000) rfl false (.inl (by simp)) (.inl rfl) rfl (by simp) ?_
    cases h1 : inB (geti L k) (-100000) 100000 with
    | false =>
      simp
      refine answers_of rfl ?_
      simp [allN_false (p := fun k => valB (geti L k)) hkl h1]
    | true =>
      simp
      refine again_of (k + 1) ⟨by omega, fun j hj => ?_⟩ (by omega) ?_
      · rcases Nat.lt_succ_iff_lt_or_eq.1 hj with hj | rfl
        · exact hp j hj
        · exact h1
      · simp [i64_wrap (show -9223372036854775808 ≤ (k : Int) + 1 ∧ _ from by omega)]
  · obtain rfl : k = L.length := by omega
    have ha := allN_spec.2 hp
    simp [hlen, show ¬ ((t.depths.length : Int) + 5 < 5 + (t.depths.length : Int)) from by omega, show (5 : Int) + (t.depths.length : Int) ≤ (t.depths.length : Int) + 5 from by omega]
    refine pop_spec (t1in_spec t.minute 0 1440) rfl false (.inl (by simp)) (.inl rfl) rfl (by simp) ?_
    cases h1 : inB t.minute 0 1440 with
    | false => simp; refine answers_of rfl ?_; simp
    | true =>
    by_cases h7 : t.depths.length = s.depths.length
    rotate_left
    · simp [show ¬ (t.depths.length : Int) = s.depths.length from by omega]; refine answers_of rfl ?_; simp [h7]
    by_cases h8 : t.boats.length = s.boats.length
    rotate_left
    · simp [eq_true (show (t.depths.length : Int) = s.depths.length from by omega), show ¬ (t.boats.length : Int) = s.boats.length from by omega]; refine answers_of rfl ?_; simp [h8, show ¬ (t.boats.length : Int) = s.boats.length from by omega]
    simp [eq_true (show (t.depths.length : Int) = s.depths.length from by omega), eq_true (show (t.boats.length : Int) = s.boats.length from by omega)]
    refine answers_of rfl ?_
    rw [← hlen, ha]
    simp [h7, h8]
def boatOk (s : SeaD) (t : Tru) (i : Nat) : Bool := if getb t.boats i = true then passB s t.minute i else !(passB s t.minute i && (boaAt s.boats i).sure)
def agreesB (s : SeaD) (t : Tru) : Bool := (inB t.tide (atLo s.tide t.minute) (atHi s.tide t.minute) && (inB t.east (atLo s.east t.minute) (atHi s.east t.minute) && (inB t.north (atLo s.north t.minute) (atHi s.north t.minute) && (inB t.wave (atLo s.wave t.minute) (atHi s.wave t.minute) && inB t.swell (atLo s.swell t.minute) (atHi s.swell t.minute))))) && allN t.depths.length (fun k => inB (geti t.depths k) (spnAt s.depths k).low (spnAt s.depths k).high) && allN t.boats.length (boatOk s t)
theorem t1Agrees_spec (s : SeaD) (t : Tru) (hs : SeaOk s) (ht : truthB s t = true) (hnd : t.depths.length ≤ 1000000) (hnb : t.boats.length ≤ 1000000) : Spec Tryz.prog 18 [.agg s.cells, .agg t.cells] (.v (.bool (agreesB s t))) := by
  obtain ⟨v1, v2, v3, v4, v5, v6, v7⟩ := truth_vals ht
  have a_tide := t1At_spec s.tide t.minute hs.tide.1 v1
  simp only [Gge.cells, rdgL, atS, Spn.cells] at a_tide
  have a_east := t1At_spec s.east t.minute hs.east.1 v1
  simp only [Gge.cells, rdgL, atS, Spn.cells] at a_east
  have a_north := t1At_spec s.north t.minute hs.north.1 v1
  simp only [Gge.cells, rdgL, atS, Spn.cells] at a_north
  have a_wave := t1At_spec s.wave t.minute hs.wave.1 v1
  simp only [Gge.cells, rdgL, atS, Spn.cells] at a_wave
  have a_swell := t1At_spec s.swell t.minute hs.swell.1 v1
  simp only [Gge.cells, rdgL, atS, Spn.cells] at a_swell
  refine spec_of mixed Tryz.func18 (by decide) rfl Tryz.results18 Tryz.ntmps18 (by decide) 0 (by simp) ?_
  simp [SeaD.cells, Tru.cells, rdgL, spnL, boaL, glaL, ints, bools, range_20]
  refine pwp_loop (fun k : Nat => [(7, .v (.int .i64 k))]) (fun k => k ≤ 5 ∧ (1 ≤ k → inB t.tide (atLo s.tide t.minute) (atHi s.tide t.minute) = true) ∧ (2 ≤ k → inB t.east (atLo s.east t.minute) (atHi s.east t.minute) = true) ∧ (3 ≤ k → inB t.north (atLo s.north t.minute) (atHi s.north t.minute) = true) ∧ (4 ≤ k → inB t.wave (atLo s.wave t.minute) (atHi s.wave t.minute) = true) ∧ (5 ≤ k → inB t.swell (atLo s.swell t.minute) (atHi s.swell t.minute) = true)) (fun k => 5 - k) 0 ⟨by omega, by omega, by omega, by omega, by omega, by omega⟩ (by simp; rfl) (by simp) ?_
  intro k ⟨hk, q1, q2, q3, q4, q5⟩
  obtain rfl | rfl | rfl | rfl | rfl | rfl : k = 0 ∨ k = 1 ∨ k = 2 ∨ k = 3 ∨ k = 4 ∨ k = 5 := by omega
  · simp
    refine pwp_draw 9 (by decide) ?_
    simp
    refine pd_spec a_tide (by simp) (by simp) (by simp) rfl ?_
    simp
    refine ⟨by decide, ?_⟩
    refine pwp_draw 10 (by decide) ?_
    simp
    refine pd_spec (t1in_spec t.tide (atLo s.tide t.minute) (atHi s.tide t.minute)) (by simp) (by simp) (by simp) rfl ?_
    simp
    refine ⟨by decide, ?_⟩
    cases h : inB t.tide (atLo s.tide t.minute) (atHi s.tide t.minute) with
    | false => simp; refine answers_of rfl ?_; simp [agreesB, h]
    | true =>
      simp
      refine again_of 1 (by simp [h]) (by omega) ?_
      simp
  · simp
    refine pwp_draw 9 (by decide) ?_
    simp
    refine pd_spec a_east (by simp) (by simp) (by simp) rfl ?_
    simp
    refine ⟨by decide, ?_⟩
    refine pwp_draw 10 (by decide) ?_
    simp
    refine pd_spec (t1in_spec t.east (atLo s.east t.minute) (atHi s.east t.minute)) (by simp) (by simp) (by simp) rfl ?_
    simp
    refine ⟨by decide, ?_⟩
    cases h : inB t.east (atLo s.east t.minute) (atHi s.east t.minute) with
    | false => simp; refine answers_of rfl ?_; simp [agreesB, h]
    | true =>
      simp
      refine again_of 2 (by simp [q1 (by omega), h]) (by omega) ?_
      simp
  · simp
    refine pwp_draw 9 (by decide) ?_
    simp
    refine pd_spec a_north (by simp) (by simp) (by simp) rfl ?_
    simp
    refine ⟨by decide, ?_⟩
    refine pwp_draw 10 (by decide) ?_
    simp
    refine pd_spec (t1in_spec t.north (atLo s.north t.minute) (atHi s.north t.minute)) (by simp) (by simp) (by simp) rfl ?_
    simp
    refine ⟨by decide, ?_⟩
    cases h : inB t.north (atLo s.north t.minute) (atHi s.north t.minute) with
    | false => simp; refine answers_of rfl ?_; simp [agreesB, h]
    | true =>
      simp
      refine again_of 3 (by simp [q1 (by omega), q2 (by omega), h]) (by omega) ?_
      simp
  · simp
    refine pwp_draw 9 (by decide) ?_
    simp
    refine pd_spec a_wave (by simp) (by simp) (by simp) rfl ?_
    simp
    refine ⟨by decide, ?_⟩
    refine pwp_draw 10 (by decide) ?_
    simp
    refine pd_spec (t1in_spec t.wave (atLo s.wave t.minute) (atHi s.wave t.minute)) (by simp) (by simp) (by simp) rfl ?_
    simp
    refine ⟨by decide, ?_⟩
    cases h : inB t.wave (atLo s.wave t.minute) (atHi s.wave t.minute) with
    | false => simp; refine answers_of rfl ?_; simp [agreesB, h]
    | true =>
      simp
      refine again_of 4 (by simp [q1 (by omega), q2 (by omega), q3 (by omega), h]) (by omega) ?_
      simp
  · simp
    refine pwp_draw 9 (by decide) ?_
    simp
    refine pd_spec a_swell (by simp) (by simp) (by simp) rfl ?_
    simp
    refine ⟨by decide, ?_⟩
    refine pwp_draw 10 (by decide) ?_
    simp
    refine pd_spec (t1in_spec t.swell (atLo s.swell t.minute) (atHi s.swell t.minute)) (by simp) (by simp) (by simp) rfl ?_
    simp
    refine ⟨by decide, ?_⟩
    cases h : inB t.swell (atLo s.swell t.minute) (atHi s.swell t.minute) with
    | false => simp; refine answers_of rfl ?_; simp [agreesB, h]
    | true =>
      simp
      refine again_of 5 (by simp [q1 (by omega), q2 (by omega), q3 (by omega), q4 (by omega), h]) (by omega) ?_
      simp
  · simp
    refine pwp_loop (fun k : Nat => [(9, .v (.int .i64 k))]) (fun k => k ≤ t.depths.length ∧ ∀ j, j < k → inB (geti t.depths j) (spnAt s.depths j).low (spnAt s.depths j).high = true) (fun k => t.depths.length - k) 0 ⟨Nat.zero_le _, fun j hj => by omega⟩ (by simp; rfl) (by simp) ?_
    intro k ⟨hk, hp⟩
    by_cases hkl : k < t.depths.length
    · have hsc : (spnAt s.depths k).cells = [.v (.int .i64 (spnAt s.depths k).low), .v (.int .i64 (spnAt s.depths k).high)] := rfl
      simp [hkl]
      refine pwp_draw 21 (by decide) ?_
      simp [hkl, show k < s.depths.length from by omega, hsc]
      refine pd_spec (t1in_spec (geti t.depths k) (spnAt s.depths k).low (spnAt s.depths k).high) (by simp) (by simp) (by simp) rfl ?_
      simp
      refine ⟨by decide, ?_⟩
      cases h1 : inB (geti t.depths k) (spnAt s.depths k).low (spnAt s.depths k).high with
      | false =>
        simp
        refine answers_of rfl ?_
        simp [agreesB, allN_false (p := fun k => inB (geti t.depths k) (spnAt s.depths k).low (spnAt s.depths k).high) hkl h1]
      | true =>
        simp
        refine again_of (k + 1) ⟨by omega, fun j hj => ?_⟩ (by omega) ?_
        · rcases Nat.lt_succ_iff_lt_or_eq.1 hj with hj | rfl
          · exact hp j hj
          · exact h1
        · simp [i64_wrap (show -9223372036854775808 ≤ (k : Int) + 1 ∧ _ from by omega)]
    · obtain rfl : k = t.depths.length := by omega
      have hd := allN_spec.2 hp
      simp
      refine pwp_loop (fun k : Nat => [(10, .v (.int .i64 k))]) (fun k => k ≤ t.boats.length ∧ ∀ j, j < k → boatOk s t j = true) (fun k => t.boats.length - k) 0 ⟨Nat.zero_le _, fun j hj => by omega⟩ (by simp; rfl) (by simp) ?_
      intro k ⟨hk, hp⟩
      by_cases hkl : k < t.boats.length
      · have wk := i64_wrap (show -9223372036854775808 ≤ (k : Int) + 1 ∧ _ from by omega)
        have no : boatOk s t k = false → agreesB s t = false := fun h => by simp [agreesB, allN_false hkl h]
        have go : boatOk s t k = true → ∀ i, i < k + 1 → boatOk s t i = true := fun hb i hi => by
          rcases Nat.lt_or_eq_of_le (Nat.le_of_lt_succ hi) with h' | rfl
          · exact hp i h'
          · exact hb
        have hksb : k < s.boats.length := by omega
        have hbc : (boaAt s.boats k).cells = [.v (.int .i64 (boaAt s.boats k).x.low), .v (.int .i64 (boaAt s.boats k).x.high), .v (.int .i64 (boaAt s.boats k).y.low), .v (.int .i64 (boaAt s.boats k).y.high), .v (.int .i64 (boaAt s.boats k).times.low), .v (.int .i64 (boaAt s.boats k).times.high), .v (.bool (boaAt s.boats k).sure)] := rfl
        have hin := t1in_spec t.minute (boaAt s.boats k).times.low (boaAt s.boats k).times.high
        rw [show inB t.minute (boaAt s.boats k).times.low (boaAt s.boats k).times.high = passB s t.minute k from rfl] at hin
        simp [hkl]
        refine pwp_draw 18 (by decide) ?_
        simp [hkl, hksb, hbc]
        refine pd_spec hin (by simp) (by simp) (by simp) rfl ?_
        simp
        refine ⟨by decide, ?_⟩
        cases h1 : getb t.boats k with
        | true =>
          cases h2 : passB s t.minute k with
          | true =>
            simp [hkl, h1, h2]
            refine again_of (k + 1) ⟨by omega, go (by simp [boatOk, h1, h2])⟩ (by omega) ?_
            simp [wk]
          | false =>
            simp [hkl, h1, h2]
            refine answers_of rfl ?_; simp [no (by simp [boatOk, h1, h2])]
        | false =>
          cases h2 : passB s t.minute k with
          | false =>
            simp [hkl, h1, h2]
            refine again_of (k + 1) ⟨by omega, go (by simp [boatOk, h1, h2])⟩ (by omega) ?_
            simp [wk]
          | true =>
            cases h3 : (boaAt s.boats k).sure with
            | false =>
              simp [hkl, hksb, hbc, h1, h2, h3]
              refine again_of (k + 1) ⟨by omega, go (by simp [boatOk, h1, h2, h3])⟩ (by omega) ?_
              simp [wk]
            | true =>
              simp [hkl, hksb, hbc, h1, h2, h3]
              refine answers_of rfl ?_; simp [no (by simp [boatOk, h1, h2, h3])]
      · obtain rfl : k = t.boats.length := by omega
        have hb := allN_spec.2 hp
        simp
        refine answers_of rfl ?_
        simp [agreesB, q1 (by omega), q2 (by omega), q3 (by omega), q4 (by omega), q5 (by omega), hd, hb]
theorem agrees_ok {s : SeaD} {t : Tru} (h1 : truthB s t = true) (h2 : agreesB s t = true) : Agr s t := by
  obtain ⟨v1, v2, v3, v4, v5, v6, v7⟩ := truth_vals h1
  simp only [agreesB, Bool.and_eq_true, inB_spec, allN_spec] at h2
  obtain ⟨⟨⟨a1, a2, a3, a4, a5⟩, a6⟩, a7⟩ := h2
  refine ⟨v1, a1, a2, a3, a4, a5, v5, v6, fun k hk => a6 k (by omega), fun i hi hb => ?_⟩
  have := a7 i (by omega)
  rw [boatOk, if_pos hb] at this
  exact this
end Go.Qg


namespace Go.Qg
open Go.Proofs
set_option maxRecDepth 100000
set_option maxHeartbeats 32000000
attribute [local simp 2000] List.getElem?_cons_succ List.getElem?_cons_zero
attribute [local irreducible] pwp pops pdraw pop popCall pdCall thenP blockP scopeP pspec Spec answers ppost CallW rend
def stepC (s : Nat × Int × Int) : List PV := [.v (.int .i64 s.1), .v (.int .i64 s.2.1), .v (.int .i64 s.2.2)]
def lenS (d : Int × Int) : Int := if d.1 ≠ 0 ∧ d.2 ≠ 0 then 14 else 10
theorem lenS_cases (d : Int × Int) : lenS d = 14 ∨ lenS d = 10 := by unfold lenS; split <;> simp
theorem rlength_spec (s : Nat × Int × Int) : Spec Tryz.prog 193 [.agg (stepC s)] (.v (.int .i64 (lenS s.2))) := by
  refine spec_of mixed Tryz.func193 (by decide) rfl Tryz.results193 Tryz.ntmps193 (by decide) 0 (by simp) ?_
  by_cases h1 : s.2.1 = 0
  · simp [stepC, h1]
    refine answers_of rfl ?_; simp [lenS, h1]
  · by_cases h2 : s.2.2 = 0
    · simp [stepC, h1, h2]
      refine answers_of rfl ?_; simp [lenS, h2]
    · simp [stepC, h1, h2]
      refine answers_of rfl ?_; simp [lenS, h1, h2]
def prtI (n k : Int) : Int := (n * k + 9) / 10
theorem rpart_spec (n k : Int) (hn : 0 ≤ n ∧ n ≤ 20000) (hk : 0 ≤ k ∧ k ≤ 14) : Spec Tryz.prog 192 [.v (.int .i64 n), .v (.int .i64 k)] (.v (.int .i64 (prtI n k))) := by
  have h1 := Int.mul_nonneg hn.1 hk.1
  have h2 := Int.mul_le_mul hn.2 hk.2 hk.1 (by omega)
  have w1 := i64_wrap (show -9223372036854775808 ≤ n * k ∧ _ from by omega)
  have w2 := i64_wrap (show -9223372036854775808 ≤ n * k + 9 ∧ _ from by omega)
  have w3 : (n * k + 9).tdiv 10 = prtI n k := by rw [Int.tdiv_eq_ediv_of_nonneg (by omega)]; rfl
  have w4 := i64_wrap (show -9223372036854775808 ≤ prtI n k ∧ _ from by unfold prtI; omega)
  refine spec_of mixed Tryz.func192 (by decide) rfl Tryz.results192 Tryz.ntmps192 (by decide) 0 (by simp) ?_
  simp [w1, w2, w3, w4]
  refine answers_of rfl ?_; simp
def wideL (l : List Int) : Spn := ⟨l.foldl min (geti l 0), l.foldl max (geti l 0)⟩
def wideK (l : List Int) (k : Nat) : Spn := ⟨(l.take k).foldl min (geti l 0), (l.take k).foldl max (geti l 0)⟩
theorem wideK_succ {l : List Int} {k : Nat} (h : k < l.length) : wideK l (k + 1) = ⟨min (wideK l k).low (geti l k), max (wideK l k).high (geti l k)⟩ := by
  have e : l.take (k + 1) = l.take k ++ [geti l k] := by rw [List.take_add_one]; simp [geti, h]
  simp only [wideK, e, List.foldl_append, List.foldl_cons, List.foldl_nil]
theorem rwide_spec (l : List Int) (h0 : 0 < l.length) (hl : l.length ≤ 9223372036854775807) : Spec Tryz.prog 234 [ints l] (.agg (wideL l).cells) := by
  refine spec_of mixed Tryz.func234 (by decide) rfl Tryz.results234 Tryz.ntmps234 (by decide) 0 (by simp) ?_
  simp [ints]
  refine pwp_draw 9 (by decide) ?_
  simp [h0]
  refine ⟨by decide, ?_⟩
  refine pwp_loop (fun k : Nat => [(3, .box true [.v (.int .i64 (wideK l k).low), .v (.int .i64 (wideK l k).high)]), (15, .v (.int .i64 k))]) (fun k => k ≤ l.length) (fun k => l.length - k) 0 (Nat.zero_le _) (by simp; rfl) (by simp [wideK]) ?_
  intro k hk
  by_cases hkl : k < l.length
  · have e := wideK_succ hkl
    have e1 : (if (wideK l k).low ≤ geti l k then (wideK l k).low else geti l k) = min (wideK l k).low (geti l k) := by split <;> omega
    have e2 : (if (wideK l k).high ≤ geti l k then geti l k else (wideK l k).high) = max (wideK l k).high (geti l k) := by split <;> omega
    simp [hkl, max_if, max_if', max_le, min_if, min_if', min_le]
    refine again_of (k + 1) (by omega) (by omega) ?_
    simp [i64_wrap (show -9223372036854775808 ≤ (k : Int) + 1 ∧ _ from by omega), e, Int.min_comm, Int.max_comm]
  · obtain rfl : k = l.length := by omega
    have e : wideK l l.length = wideL l := by simp [wideK, wideL]
    simp [e]
    refine answers_of (x := .agg (wideL l).cells) (by simp [Spn.cells]) ?_
    simp [Spn.cells]
structure ArrOk (a : Arr) : Prop where
  east : -300 ≤ a.east.low ∧ a.east.low ≤ a.east.high ∧ a.east.high ≤ 300
  north : -300 ≤ a.north.low ∧ a.north.low ≤ a.north.high ∧ a.north.high ≤ 300
structure CrfOk (c : Crf) : Prop where
  engines : 1 ≤ c.engines ∧ c.engines ≤ 2
  fall : 1 ≤ c.fall ∧ c.fall ≤ 20000
  drag : 0 ≤ c.drag ∧ c.drag ≤ 50
  sink : 0 ≤ c.sink ∧ c.sink ≤ 20000
structure LndOk (l : Lnd) : Prop where
  wide : 1 ≤ l.wide ∧ l.wide ≤ 12
  deep : 1 ≤ l.deep ∧ l.deep ≤ 12
  n : (l.ground.length : Int) = l.wide * l.deep
  water : l.water.length = l.ground.length
  ground : ∀ k, k < l.ground.length → 0 ≤ geti l.ground k ∧ geti l.ground k ≤ 20000
  clear : 0 ≤ l.clear ∧ l.clear ≤ 20000
theorem crfB_ok {c : Crf} (h : crfB c = true) : CrfOk c := by
  simp only [crfB, Bool.and_eq_true, inB_spec] at h
  obtain ⟨⟨⟨⟨⟨_, h2⟩, h3⟩, h4⟩, _⟩, h6⟩ := h
  exact ⟨h2, h3, h4, h6⟩
theorem lndB_ok {l : Lnd} (h : lndB l = true) : LndOk l := by
  simp only [lndB, Bool.and_eq_true, inB_spec, allN_spec, decide_eq_true_eq] at h
  obtain ⟨⟨⟨⟨⟨h1, h2⟩, h3⟩, h4⟩, h5⟩, h6⟩ := h
  exact ⟨h2, h3, h4, h5, h1, h6⟩
theorem arrB_ok {a : Arr} (h : arrB a = true) : ArrOk a := by
  simp only [arrB, Bool.and_eq_true, spanB_spec] at h
  exact ⟨h.1, h.2⟩
def DirOk (d : Int × Int) : Prop := (d.1 = -1 ∨ d.1 = 0 ∨ d.1 = 1) ∧ (d.2 = -1 ∨ d.2 = 0 ∨ d.2 = 1)
def aheadL (a : Arr) (d : Int × Int) : List Int := [-(a.east.low * d.1 + a.north.low * d.2), -(a.east.low * d.1 + a.north.high * d.2), -(a.east.high * d.1 + a.north.low * d.2), -(a.east.high * d.1 + a.north.high * d.2)]
theorem rdir_small {d : Int × Int} (hd : DirOk d) {x y : Int} (hx : -300 ≤ x ∧ x ≤ 300) (hy : -300 ≤ y ∧ y ≤ 300) : (-300 ≤ x * d.1 ∧ x * d.1 ≤ 300) ∧ (-300 ≤ y * d.2 ∧ y * d.2 ≤ 300) := by
  obtain ⟨h1, h2⟩ := hd
  constructor
  · rcases h1 with h | h | h <;> rw [h] <;> omega
  · rcases h2 with h | h | h <;> rw [h] <;> omega
theorem rahead_spec (c : Crf) (l : Lnd) (a : Arr) (h : Int) (s : Nat × Int × Int) (ha : ArrOk a) (hd : DirOk s.2) : Spec Tryz.prog 224 [.rp (flyC c l a h) 0, .agg (stepC s)] (.agg (wideL (aheadL a s.2)).cells) := by
  have he := ha.east
  have hn := ha.north
  obtain ⟨a1, b1⟩ := rdir_small hd (show -300 ≤ a.east.low ∧ a.east.low ≤ 300 from by omega) (show -300 ≤ a.north.low ∧ a.north.low ≤ 300 from by omega)
  obtain ⟨a2, b2⟩ := rdir_small hd (show -300 ≤ a.east.high ∧ a.east.high ≤ 300 from by omega) (show -300 ≤ a.north.high ∧ a.north.high ≤ 300 from by omega)
  have w : ∀ {x : Int}, -1000 ≤ x ∧ x ≤ 1000 → IntKind.i64.wrap x = x := fun h => i64_wrap (by omega)
  have hw := rwide_spec (aheadL a s.2) (by simp [aheadL]) (by simp [aheadL])
  refine spec_of mixed Tryz.func224 (by decide) rfl Tryz.results224 Tryz.ntmps224 (by decide) 0 (by simp) ?_
  simp [flyC, rrwL, ints, bools, stepC]
  refine pwp_draw 83 (by decide) ?_
  simp (config := { maxSteps := 5000000 }) [w (x := a.east.low * s.2.1) (by omega), w (x := a.east.high * s.2.1) (by omega), w (x := a.north.low * s.2.2) (by omega), w (x := a.north.high * s.2.2) (by omega), w (x := a.east.low * s.2.1 + a.north.low * s.2.2) (by omega), w (x := a.east.low * s.2.1 + a.north.high * s.2.2) (by omega), w (x := a.east.high * s.2.1 + a.north.low * s.2.2) (by omega), w (x := a.east.high * s.2.1 + a.north.high * s.2.2) (by omega),
    w (x := -(a.east.low * s.2.1 + a.north.low * s.2.2)) (by omega), w (x := -(a.east.low * s.2.1 + a.north.high * s.2.2)) (by omega), w (x := -(a.east.high * s.2.1 + a.north.low * s.2.2)) (by omega), w (x := -(a.east.high * s.2.1 + a.north.high * s.2.2)) (by omega)]
  refine pd_specM hw rfl (by simp) ?_ rfl rfl ?_
  · intro g hg
    have h9 := hg (.tmp 85) (by simp) 85 (by simp [deref])
    simp at h9
    refine ⟨vw_own_local h9 (by simp [aheadL]) (fun j hj => ?_), trivial⟩
    simp [aheadL] at hj
    obtain rfl | rfl | rfl | rfl : j = 0 ∨ j = 1 ∨ j = 2 ∨ j = 3 := by omega
    all_goals simp [aheadL, geti, plainL, PV.plain]
  simp [Spn.cells]
  refine ⟨by decide, ?_⟩
  refine answers_of (x := .agg (wideL (aheadL a s.2)).cells) (by simp [Spn.cells]) ?_
  simp [Spn.cells]
end Go.Qg


namespace Go.Qg
open Go.Proofs
set_option maxRecDepth 100000
set_option maxHeartbeats 32000000
attribute [local simp 2000] List.getElem?_cons_succ List.getElem?_cons_zero
attribute [local irreducible] pwp pops pdraw pop popCall pdCall thenP blockP scopeP pspec Spec answers ppost CallW rend
theorem wide_small {l : List Int} (hl : ∀ x ∈ l, -1000 ≤ x ∧ x ≤ 1000) (h0 : 0 < l.length) : (-1000 ≤ (wideL l).low ∧ (wideL l).low ≤ 1000) ∧ -1000 ≤ (wideL l).high ∧ (wideL l).high ≤ 1000 := by
  have g0 : -1000 ≤ geti l 0 ∧ geti l 0 ≤ 1000 := by
    cases l with
    | nil => simp at h0
    | cons x l => exact hl _ (by simp [geti])
  have fm : ∀ (l : List Int) (m : Int), (∀ x ∈ l, -1000 ≤ x ∧ x ≤ 1000) → -1000 ≤ m ∧ m ≤ 1000 → -1000 ≤ l.foldl min m ∧ l.foldl min m ≤ 1000 := by
    intro l
    induction l with
    | nil => intro m _ h; simpa using h
    | cons x l ih =>
      intro m h1 h2
      have := h1 x (by simp)
      exact ih _ (fun y hy => h1 y (by simp [hy])) (by omega)
  have fM : ∀ (l : List Int) (m : Int), (∀ x ∈ l, -1000 ≤ x ∧ x ≤ 1000) → -1000 ≤ m ∧ m ≤ 1000 → -1000 ≤ l.foldl max m ∧ l.foldl max m ≤ 1000 := by
    intro l
    induction l with
    | nil => intro m _ h; simpa using h
    | cons x l ih =>
      intro m h1 h2
      have := h1 x (by simp)
      exact ih _ (fun y hy => h1 y (by simp [hy])) (by omega)
  exact ⟨fm l _ hl g0, fM l _ hl g0⟩
theorem ahead_small {a : Arr} {d : Int × Int} (ha : ArrOk a) (hd : DirOk d) : ∀ x ∈ aheadL a d, -1000 ≤ x ∧ x ≤ 1000 := by
  have he := ha.east
  have hn := ha.north
  obtain ⟨a1, b1⟩ := rdir_small hd (show -300 ≤ a.east.low ∧ a.east.low ≤ 300 from by omega) (show -300 ≤ a.north.low ∧ a.north.low ≤ 300 from by omega)
  obtain ⟨a2, b2⟩ := rdir_small hd (show -300 ≤ a.east.high ∧ a.east.high ≤ 300 from by omega) (show -300 ≤ a.north.high ∧ a.north.high ≤ 300 from by omega)
  intro x hx
  simp only [aheadL, List.mem_cons, List.not_mem_nil, or_false] at hx
  rcases hx with rfl | rfl | rfl | rfl <;> omega
def lostS (c : Crf) (a : Arr) (d : Int × Int) : Spn := ⟨max 1 (prtI c.fall (lenS d) + c.drag * (wideL (aheadL a d)).low), max 1 (prtI c.fall (lenS d) + c.drag * (wideL (aheadL a d)).high)⟩
theorem prt_small {n : Int} {d : Int × Int} (hn : 0 ≤ n ∧ n ≤ 20000) : 0 ≤ prtI n (lenS d) ∧ prtI n (lenS d) ≤ 30000 := by
  unfold prtI
  rcases lenS_cases d with h | h <;> rw [h] <;> omega
theorem lost_small {c : Crf} {a : Arr} {d : Int × Int} (hc : CrfOk c) (ha : ArrOk a) (hd : DirOk d) : (1 ≤ (lostS c a d).low ∧ (lostS c a d).low ≤ 100000) ∧ 1 ≤ (lostS c a d).high ∧ (lostS c a d).high ≤ 100000 := by
  have h1 := wide_small (ahead_small ha hd) (by simp [aheadL])
  have h2 := prt_small (d := d) (show 0 ≤ c.fall ∧ c.fall ≤ 20000 from by have := hc.fall; omega)
  have s1 := mul_small (show Small 50 c.drag from by have := hc.drag; simp only [Small]; omega) (show Small 1000 (wideL (aheadL a d)).low from h1.1) (by omega) (by omega)
  have s2 := mul_small (show Small 50 c.drag from by have := hc.drag; simp only [Small]; omega) (show Small 1000 (wideL (aheadL a d)).high from h1.2) (by omega) (by omega)
  simp only [Small] at s1 s2
  simp only [lostS]
  omega
theorem rlost_spec (c : Crf) (l : Lnd) (a : Arr) (h : Int) (s : Nat × Int × Int) (hc : CrfOk c) (ha : ArrOk a) (hd : DirOk s.2) : Spec Tryz.prog 191 [.rp (flyC c l a h) 0, .agg (stepC s)] (.agg (lostS c a s.2).cells) := by
  have h1 := wide_small (ahead_small ha hd) (by simp [aheadL])
  have hf : 0 ≤ c.fall ∧ c.fall ≤ 20000 := by have := hc.fall; omega
  have h2 := prt_small (d := s.2) hf
  have s1 := mul_small (show Small 50 c.drag from by have := hc.drag; simp only [Small]; omega) (show Small 1000 (wideL (aheadL a s.2)).low from h1.1) (by omega) (by omega)
  have s2 := mul_small (show Small 50 c.drag from by have := hc.drag; simp only [Small]; omega) (show Small 1000 (wideL (aheadL a s.2)).high from h1.2) (by omega) (by omega)
  simp only [Small] at s1 s2
  have hl := rlength_spec s
  have hA := rahead_spec c l a h s ha hd
  have hp := rpart_spec c.fall (lenS s.2) hf (by rcases lenS_cases s.2 with h | h <;> rw [h] <;> omega)
  simp only [stepC] at hl hA
  have w1 := i64_wrap (show -9223372036854775808 ≤ c.drag * (wideL (aheadL a s.2)).low ∧ _ from by omega)
  have w2 := i64_wrap (show -9223372036854775808 ≤ c.drag * (wideL (aheadL a s.2)).high ∧ _ from by omega)
  have w3 := i64_wrap (show -9223372036854775808 ≤ prtI c.fall (lenS s.2) + c.drag * (wideL (aheadL a s.2)).low ∧ _ from by omega)
  have w4 := i64_wrap (show -9223372036854775808 ≤ prtI c.fall (lenS s.2) + c.drag * (wideL (aheadL a s.2)).high ∧ _ from by omega)
  refine spec_of mixed Tryz.func191 (by decide) rfl Tryz.results191 Tryz.ntmps191 (by decide) 0 (by simp) ?_
  simp [stepC]
  refine pwp_draw 14 (by decide) ?_
  simp [flyC]
  refine pd_spec hl (by simp) (by simp) (by simp) rfl ?_
  simp
  refine pd_spec hp (by simp) (by simp) (by simp) rfl ?_
  simp
  refine pd_spec hA (by simp [flyC]) (by simp) (by simp [flyC, rrwL, ints, bools]) rfl ?_
  simp [Spn.cells]
  refine ⟨by decide, ?_⟩
  refine pwp_draw 24 (by decide) ?_
  simp [w1, w2, w3, w4, max_if, max_if', max_le]
  refine ⟨by decide, ?_⟩
  refine answers_of (x := .agg (lostS c a s.2).cells) (by simp [Spn.cells, lostS]) ?_
  simp [Spn.cells, lostS]
def needF (c : Crf) (a : Arr) (h : Int) (d : Int × Int) (x : Int) : Int := if c.engines = 1 then x + (lostS c a d).high else if x ≤ h then x else x + prtI c.sink (lenS d)
def leftF (c : Crf) (a : Arr) (h : Int) (d : Int × Int) (x : Int) : Int := if c.engines = 1 then x - (lostS c a d).high else if x ≤ h then x else max h (x - prtI c.sink (lenS d))
theorem rneedOne_spec (c : Crf) (l : Lnd) (a : Arr) (h : Int) (s : Nat × Int × Int) (x : Int) (hc : CrfOk c) (ha : ArrOk a) (hd : DirOk s.2) (hx : -10000000 ≤ x ∧ x ≤ 10000000) : Spec Tryz.prog 146 [.rp (flyC c l a h) 0, .agg (stepC s), .v (.int .i64 x)] (.v (.int .i64 (x + (lostS c a s.2).high))) := by
  have hl := rlost_spec c l a h s hc ha hd
  have hs := lost_small hc ha hd
  simp only [stepC] at hl
  refine spec_of mixed Tryz.func146 (by decide) rfl Tryz.results146 Tryz.ntmps146 (by decide) 0 (by simp) ?_
  simp [stepC]
  refine pop_spec hl rfl false (.inl (by simp [flyC, rrwL, ints, bools])) (.inl rfl) rfl (by simp [Spn.cells]) ?_
  simp [Spn.cells, i64_wrap (show -9223372036854775808 ≤ x + (lostS c a s.2).high ∧ _ from by omega)]
  refine answers_of rfl ?_; simp
theorem rleftOne_spec (c : Crf) (l : Lnd) (a : Arr) (h : Int) (s : Nat × Int × Int) (x : Int) (hc : CrfOk c) (ha : ArrOk a) (hd : DirOk s.2) (hx : -100000000 ≤ x ∧ x ≤ 10000000) : Spec Tryz.prog 145 [.rp (flyC c l a h) 0, .agg (stepC s), .v (.int .i64 x)] (.v (.int .i64 (x - (lostS c a s.2).high))) := by
  have hl := rlost_spec c l a h s hc ha hd
  have hs := lost_small hc ha hd
  simp only [stepC] at hl
  refine spec_of mixed Tryz.func145 (by decide) rfl Tryz.results145 Tryz.ntmps145 (by decide) 0 (by simp) ?_
  simp [stepC]
  refine pop_spec hl rfl false (.inl (by simp [flyC, rrwL, ints, bools])) (.inl rfl) rfl (by simp [Spn.cells]) ?_
  simp [Spn.cells, i64_wrap (show -9223372036854775808 ≤ x - (lostS c a s.2).high ∧ _ from by omega)]
  refine answers_of rfl ?_; simp
theorem rneedTwo_spec (c : Crf) (l : Lnd) (a : Arr) (h : Int) (s : Nat × Int × Int) (x : Int) (hc : CrfOk c) (hx : -10000000 ≤ x ∧ x ≤ 10000000) : Spec Tryz.prog 148 [.rp (flyC c l a h) 0, .agg (stepC s), .v (.int .i64 x)] (.v (.int .i64 (if x ≤ h then x else x + prtI c.sink (lenS s.2)))) := by
  have hl := rlength_spec s
  have hp := rpart_spec c.sink (lenS s.2) hc.sink (by rcases lenS_cases s.2 with h | h <;> rw [h] <;> omega)
  have hs := prt_small (d := s.2) hc.sink
  simp only [stepC] at hl
  refine spec_of mixed Tryz.func148 (by decide) rfl Tryz.results148 Tryz.ntmps148 (by decide) 0 (by simp) ?_
  simp [stepC, flyC, rrwL, ints, bools]
  by_cases h1 : x ≤ h
  · simp [h1]
    refine answers_of rfl ?_; simp [h1]
  · simp [h1]
    refine pwp_draw 11 (by decide) ?_
    simp
    refine pd_spec hl (by simp) (by simp) (by simp) rfl ?_
    simp
    refine pd_spec hp (by simp) (by simp) (by simp) rfl ?_
    simp [i64_wrap (show -9223372036854775808 ≤ x + prtI c.sink (lenS s.2) ∧ _ from by omega)]
    refine ⟨by decide, ?_⟩
    refine answers_of rfl ?_; simp [h1]
theorem rleftTwo_spec (c : Crf) (l : Lnd) (a : Arr) (h : Int) (s : Nat × Int × Int) (x : Int) (hc : CrfOk c) (hx : -10000000 ≤ x ∧ x ≤ 10000000) : Spec Tryz.prog 147 [.rp (flyC c l a h) 0, .agg (stepC s), .v (.int .i64 x)] (.v (.int .i64 (if x ≤ h then x else max h (x - prtI c.sink (lenS s.2))))) := by
  have hl := rlength_spec s
  have hp := rpart_spec c.sink (lenS s.2) hc.sink (by rcases lenS_cases s.2 with h | h <;> rw [h] <;> omega)
  have hs := prt_small (d := s.2) hc.sink
  simp only [stepC] at hl
  refine spec_of mixed Tryz.func147 (by decide) rfl Tryz.results147 Tryz.ntmps147 (by decide) 0 (by simp) ?_
  simp [stepC, flyC, rrwL, ints, bools]
  by_cases h1 : x ≤ h
  · simp [h1]
    refine answers_of rfl ?_; simp [h1]
  · simp [h1]
    refine pwp_draw 16 (by decide) ?_
    simp
    refine pd_spec hl (by simp) (by simp) (by simp) rfl ?_
    simp
    refine pd_spec hp (by simp) (by simp) (by simp) rfl ?_
    simp [i64_wrap (show -9223372036854775808 ≤ x - prtI c.sink (lenS s.2) ∧ _ from by omega), max_if, max_if', max_le]
    refine ⟨by decide, ?_⟩
    refine answers_of rfl ?_; simp [h1, Int.max_comm]
def wayR (c : Crf) (l : Lnd) (a : Arr) (h : Int) : List PV := if c.engines = 1 then [.clo (.func 145) [.rp (flyC c l a h) 0] [], .clo (.func 146) [.rp (flyC c l a h) 0] []]
  else [.clo (.func 147) [.rp (flyC c l a h) 0] [], .clo (.func 148) [.rp (flyC c l a h) 0] []]
theorem rway_spec (c : Crf) (l : Lnd) (a : Arr) (h : Int) (hc : CrfOk c) : Spec Tryz.prog 73 [.rp (flyC c l a h) 0] (.agg (wayR c l a h)) := by
  have he := hc.engines
  refine spec_of mixed Tryz.func73 (by decide) rfl Tryz.results73 Tryz.ntmps73 (by decide) 0 (by simp) ?_
  obtain h1 | h1 : c.engines = 1 ∨ c.engines = 2 := by omega
  · simp [flyC, rrwL, ints, bools, h1]
    refine answers_of (x := .agg (wayR c l a h)) (by simp [wayR, h1, flyC, rrwL, ints, bools]) ?_
    simp [wayR, h1, flyC, rrwL, ints, bools]
  · simp [flyC, rrwL, ints, bools, h1]
    refine answers_of (x := .agg (wayR c l a h)) (by simp [wayR, h1, flyC, rrwL, ints, bools]) ?_
    simp [wayR, h1, flyC, rrwL, ints, bools]
def bareF (l : Lnd) (k : Nat) : Int := if getb l.water k = true then geti l.ground k else geti l.ground k + l.clear
theorem rbare_spec (c : Crf) (l : Lnd) (a : Arr) (h : Int) (k : Nat) (hl : LndOk l) (hk : k < l.ground.length) : Spec Tryz.prog 141 [.rp (flyC c l a h) 0, .v (.int .i64 k)] (.v (.int .i64 (bareF l k))) := by
  have hg := hl.ground k hk
  have hcl := hl.clear
  have hw := hl.water
  refine spec_of mixed Tryz.func141 (by decide) rfl Tryz.results141 Tryz.ntmps141 (by decide) 0 (by simp) ?_
  simp [flyC, rrwL, ints, bools, hw, hk]
  cases h1 : getb l.water k with
  | true =>
    simp [hk]
    refine answers_of rfl ?_; simp [bareF, h1]
  | false =>
    simp
    refine pwp_draw 15 (by decide) ?_
    simp [hk, i64_wrap (show -9223372036854775808 ≤ geti l.ground k + l.clear ∧ _ from by omega)]
    refine ⟨by decide, ?_⟩
    refine answers_of rfl ?_; simp [bareF, h1]
end Go.Qg


namespace Go.Qg
open Go.Proofs
set_option maxRecDepth 100000
set_option maxHeartbeats 32000000
def dirJ (j : Nat) : Int × Int := (((j % 3 : Nat) : Int) - 1, ((j / 3 : Nat) : Int) - 1)
def okJ (l : Lnd) (k j : Nat) : Bool := !(decide ((dirJ j).1 = 0) && decide ((dirJ j).2 = 0)) && inB ((k : Int) % l.wide + (dirJ j).1) 0 (l.wide - 1) && inB ((k : Int) / l.wide + (dirJ j).2) 0 (l.deep - 1)
def stpJ (l : Lnd) (k j : Nat) : Option (Nat × Int × Int) := if okJ l k j = true then some (((k : Int) + (dirJ j).2 * l.wide + (dirJ j).1).toNat, (dirJ j).1, (dirJ j).2) else none
def stepsTo (l : Lnd) (k m : Nat) : List (Nat × Int × Int) := (List.range m).filterMap (stpJ l k)
def stepsL (l : Lnd) (k : Nat) : List (Nat × Int × Int) := stepsTo l k 9
theorem stepsTo_succ (l : Lnd) (k m : Nat) : stepsTo l k (m + 1) = stepsTo l k m ++ (stpJ l k m).toList := by
  simp only [stepsTo, List.range_succ, List.filterMap_append]
  cases h : stpJ l k m <;> simp [List.filterMap_cons, h]
theorem stepsTo_get {l : Lnd} {k j : Nat} {s : Nat × Int × Int} (h : stpJ l k j = some s) : ∀ {m : Nat}, j < m → (stepsTo l k m)[(stepsTo l k j).length]? = some s
  | m + 1, hj => by
    rw [stepsTo_succ]
    rcases Nat.lt_succ_iff_lt_or_eq.1 hj with hj | rfl
    · have ih := stepsTo_get h hj
      have hlt := (List.getElem?_eq_some_iff.1 ih).1
      rw [List.getElem?_append_left hlt]
      exact ih
    · rw [List.getElem?_append_right (Nat.le_refl _), h]
      simp
theorem dirJ_ok {j : Nat} (h : j < 9) : DirOk (dirJ j) := by
  unfold DirOk dirJ
  omega
theorem stp_cell {l : Lnd} {k j : Nat} (hl : LndOk l) (hk : k < l.ground.length) (h : okJ l k j = true) : 0 ≤ (k : Int) + (dirJ j).2 * l.wide + (dirJ j).1 ∧ (k : Int) + (dirJ j).2 * l.wide + (dirJ j).1 < l.ground.length := by
  simp only [okJ, Bool.and_eq_true, inB_spec] at h
  obtain ⟨⟨_, h1⟩, h2⟩ := h
  have hw := hl.wide
  have hn := hl.n
  have e : (k : Int) = l.wide * ((k : Int) / l.wide) + (k : Int) % l.wide := (Int.mul_ediv_add_emod _ _).symm
  have e2 : (k : Int) + (dirJ j).2 * l.wide + (dirJ j).1 = ((k : Int) / l.wide + (dirJ j).2) * l.wide + ((k : Int) % l.wide + (dirJ j).1) := by
    rw [Int.add_mul, Int.mul_comm ((k : Int) / l.wide)]
    omega
  have h3 : 0 ≤ ((k : Int) / l.wide + (dirJ j).2) * l.wide := Int.mul_nonneg h2.1 (by omega)
  have h4 : ((k : Int) / l.wide + (dirJ j).2) * l.wide ≤ (l.deep - 1) * l.wide := Int.mul_le_mul_of_nonneg_right h2.2 (by omega)
  have h5 : (l.deep - 1) * l.wide = l.wide * l.deep - l.wide := by rw [Int.sub_mul, Int.one_mul, Int.mul_comm]
  rw [e2, hn]
  omega
theorem mem_steps {l : Lnd} {k : Nat} {s : Nat × Int × Int} (hl : LndOk l) (hk : k < l.ground.length) (h : s ∈ stepsL l k) : s.1 < l.ground.length ∧ DirOk s.2 := by
  simp only [stepsL, stepsTo, List.mem_filterMap, List.mem_range, stpJ] at h
  obtain ⟨j, hj, h⟩ := h
  split at h
  · rename_i ho
    obtain rfl := Option.some.inj h
    have hc := stp_cell hl hk ho
    exact ⟨by simp only; omega, dirJ_ok hj⟩
  · cases h
def genL (l : Lnd) (k : Nat) : List PV := (stepsL l k).map fun s => .agg (stepC s)
theorem genL_length (l : Lnd) (k : Nat) : (genL l k).length = (stepsTo l k 9).length := by simp [genL, stepsL]
theorem genL_get {l : Lnd} {k j : Nat} (h : okJ l k j = true) (hj : j < 9) : (genL l k)[(stepsTo l k j).length]? = some (.agg (stepC (((k : Int) + (dirJ j).2 * l.wide + (dirJ j).1).toNat, (dirJ j).1, (dirJ j).2))) := by
  have h1 : stpJ l k j = some (((k : Int) + (dirJ j).2 * l.wide + (dirJ j).1).toNat, (dirJ j).1, (dirJ j).2) := by simp [stpJ, h]
  have h2 := stepsTo_get h1 hj
  rw [genL, stepsL, List.getElem?_map, h2]
  rfl
theorem genL_plain (l : Lnd) (k : Nat) : ∀ p ∈ genL l k, p.plain = true ∧ p.flat = true := by
  intro p hp
  obtain ⟨s, _, rfl⟩ := List.mem_map.1 hp
  exact ⟨rfl, rfl⟩
attribute [local simp 2000] List.getElem?_cons_succ List.getElem?_cons_zero
attribute [local irreducible] pwp pops pdraw pop popCall pdCall thenP blockP scopeP pspec Spec answers ppost CallW rend
def genC (c : Crf) (l : Lnd) (a : Arr) (h : Int) (k : Nat) : PV := .clo (.func 144) [] [.rp [.v (.int .i64 k)] 0, .rp [.rp (flyC c l a h) 0] 0]
theorem rsteps_spec (c : Crf) (l : Lnd) (a : Arr) (h : Int) (k : Nat) : Spec Tryz.prog 72 [.rp (flyC c l a h) 0, .v (.int .i64 k)] (genC c l a h k) := by
  refine spec_of mixed Tryz.func72 (by decide) rfl Tryz.results72 Tryz.ntmps72 (by decide) 0 (by simp) ?_
  simp
  refine answers_of rfl ?_
  simp [genC]
theorem rsteps_gen (c : Crf) (l : Lnd) (a : Arr) (h : Int) (k : Nat) (hl : LndOk l) (hk : k < l.ground.length) : GenW Tryz.prog 144 [.rp [.v (.int .i64 k)] 0, .rp [.rp (flyC c l a h) 0] 0] (genL l k) := by
  have hw := hl.wide
  have hd := hl.deep
  have hn := hl.n
  obtain ⟨x, hx⟩ : ∃ x, (k : Int) % l.wide = x := ⟨_, rfl⟩
  obtain ⟨y, hy⟩ : ∃ y, (k : Int) / l.wide = y := ⟨_, rfl⟩
  have x0 : 0 ≤ x := by rw [← hx]; exact Int.emod_nonneg _ (by omega)
  have x1 : x < l.wide := by rw [← hx]; exact Int.emod_lt_of_pos _ (by omega)
  have y0 : 0 ≤ y := by rw [← hy]; exact Int.ediv_nonneg (by omega) (by omega)
  have y1 : y ≤ k := by rw [← hy]; exact Int.ediv_le_self _ (by omega)
  have hm : l.wide * l.deep ≤ 144 := Int.le_trans (Int.mul_le_mul hw.2 hd.2 (by omega) (by omega)) (by omega)
  have e1 : (k : Int).tmod l.wide = x := by rw [Int.tmod_eq_emod_of_nonneg (by omega), hx]
  have e2 : (k : Int).tdiv l.wide = y := by rw [Int.tdiv_eq_ediv_of_nonneg (by omega), hy]
  have wx := i64_wrap (show -9223372036854775808 ≤ x ∧ _ from by omega)
  have wy := i64_wrap (show -9223372036854775808 ≤ y ∧ _ from by omega)
  have ww := i64_wrap (show -9223372036854775808 ≤ l.wide - 1 ∧ _ from by omega)
  have wd := i64_wrap (show -9223372036854775808 ≤ l.deep - 1 ∧ _ from by omega)
  refine gen_of Tryz.func144 (by decide) rfl Tryz.results144 Tryz.ntmps144 0 (by simp) fun L Rb J henv => ?_
  have hlo : ∀ s B, GCtx 79 Rb J s B → B.lo = 79 := fun _ _ h => h.1
  refine XW_seqP mixed hlo (by decide) ?_
  simp [flyC]
  refine pwp_draw 16 (by decide) ?_
  simp [e1, e2, wx, wy, show ¬ l.wide = 0 from by omega]
  refine ⟨by decide, ?_⟩
  have small : ∀ z : Int, -5000 ≤ z ∧ z ≤ 5000 → IntKind.i64.wrap z = z := fun z hz => i64_wrap (by omega)
  refine XW_seqP mixed hlo (by decide) ?_
  simp
  refine XW_block ?_
  refine XW_loopV hlo (fun dy : Int => [(6, .v (.int .i64 dy)), (9, .undef), (10, .undef), (11, .undef), (12, .undef), (16, .undef), (17, .undef), (18, .undef), (19, .undef)]) (fun dy => GS.on (stepsTo l k (3 * (dy + 1)).toNat).length) (fun dy => -1 ≤ dy ∧ dy ≤ 2) (fun dy => (2 - dy).toNat) (-1) (by omega) (by simp [stepsTo]) (by simp; rfl) (by simp) ?_
  intro dy hdy
  refine XW_seqP mixed hlo (by decide) ?_
  by_cases hlt : dy ≤ 1
  · simp [hlt, show ¬ 1 < dy from by omega]
    refine XW_seqX (XW_block ?_)
    refine XW_seqP mixed hlo (by decide) ?_
    simp
    refine XW_block ?_
    refine XW_loopV hlo (fun dx : Int => [(7, .v (.int .i64 dx))]) (fun dx => GS.on (stepsTo l k (3 * (dy + 1) + (dx + 1)).toNat).length) (fun dx => -1 ≤ dx ∧ dx ≤ 2) (fun dx => (2 - dx).toNat) (-1) (by omega) (by simp) (by simp; rfl) (by simp) ?_
    intro dx hdx
    refine XW_seqP mixed hlo (by decide) ?_
    by_cases hlx : dx ≤ 1
    · obtain ⟨j, hj⟩ : ∃ j : Nat, (3 * (dy + 1) + (dx + 1)).toNat = j := ⟨_, rfl⟩
      have hj1 : (3 * (dy + 1) + (dx + 1 + 1)).toNat = j + 1 := by omega
      have hj9 : j < 9 := by omega
      have hdir : dirJ j = (dx, dy) := by
        unfold dirJ
        have a1 : ((j % 3 : Nat) : Int) - 1 = dx := by omega
        have a2 : ((j / 3 : Nat) : Int) - 1 = dy := by omega
        rw [a1, a2]
      have hok : okJ l k j = (!(decide (dx = 0) && decide (dy = 0)) && inB (x + dx) 0 (l.wide - 1) && inB (y + dy) 0 (l.deep - 1)) := by rw [okJ, hdir, hx, hy]
      have hno : okJ l k j = false → (stepsTo l k (j + 1)).length = (stepsTo l k j).length := fun h => by rw [stepsTo_succ]; simp [stpJ, h]
      have hyes : okJ l k j = true → (stepsTo l k (j + 1)).length = (stepsTo l k j).length + 1 := fun h => by rw [stepsTo_succ]; simp [stpJ, h]
      rw [hj]
      simp [hlx, show ¬ 1 < dx from by omega]
      refine XW_seqX (XW_block ?_)
      refine XW_seqP mixed hlo (by decide) ?_
      have b3 : -5000 ≤ dy * l.wide ∧ dy * l.wide ≤ 5000 := by
        rcases (show dy = -1 ∨ dy = 0 ∨ dy = 1 by omega) with h | h | h <;> rw [h] <;> omega
      have w1 := small (x + dx) (by omega)
      have w2 := small (y + dy) (by omega)
      by_cases h0 : dx = 0 ∧ dy = 0
      · simp [eq_true h0.1, eq_true h0.2]
        refine XW_pwp mixed hlo (by decide) ?_
        simp [small (dx + 1) (by omega)]
        refine againX_of (dx + 1) (by omega) (by omega) (by rw [hj1, hno (by rw [hok]; simp [h0.1, h0.2])]) ?_
        simp
      rcases (show dx = 0 ∧ ¬ dy = 0 ∨ ¬ dx = 0 by omega) with ⟨a1, a2⟩ | a1
      · simp [eq_true a1, a2, w1, ww]
        refine pop_spec (rin_spec (x + dx) 0 (l.wide - 1)) rfl false (.inl (by simp)) (.inl rfl) rfl (by simp) ?_
        cases h1 : inB (x + dx) 0 (l.wide - 1) with
        | false =>
          simp [eq_true a1, a2]
          refine XW_pwp mixed hlo (by decide) ?_
          simp [small (dx + 1) (by omega)]
          refine againX_of (dx + 1) (by omega) (by omega) (by rw [hj1, hno (by rw [hok, h1]; simp)]) ?_
          simp
        | true =>
        simp [eq_true a1, a2, w2, wd]
        refine pop_spec (rin_spec (y + dy) 0 (l.deep - 1)) rfl false (.inl (by simp)) (.inl rfl) rfl (by simp) ?_
        cases h2 : inB (y + dy) 0 (l.deep - 1) with
        | false =>
          simp [eq_true a1, a2]
          refine XW_pwp mixed hlo (by decide) ?_
          simp [small (dx + 1) (by omega)]
          refine againX_of (dx + 1) (by omega) (by omega) (by rw [hj1, hno (by rw [hok, h2]; simp)]) ?_
          simp
        | true =>
        have hokt : okJ l k j = true := by rw [hok, h1, h2]; simp only [Bool.and_true, Bool.not_eq_true', Bool.and_eq_false_iff, decide_eq_false_iff_not]; omega
        have hcl := stp_cell hl hk hokt
        have hel := genL_get hokt hj9
        rw [hdir] at hcl hel
        simp only at hcl hel
        obtain ⟨z, hz⟩ : ∃ z : Nat, (k : Int) + dy * l.wide + dx = z := ⟨((k : Int) + dy * l.wide + dx).toNat, by omega⟩
        rw [hz] at hel hcl
        simp [stepC] at hel
        have w3 := small (dy * l.wide) b3
        have w4 := small ((k : Int) + dy * l.wide) (by omega)
        have w5 := small (z : Int) (by omega)
        simp [eq_true a1, a2]
        refine XW_seqX (XW_yield (m := 15) mixed henv (by decide) (by decide) ?_)
        simp [w3, w4, hz, w5]
        refine ⟨by decide, ?_⟩
        simp [pyield, yargs, hel]
        refine ⟨?_, ?_⟩
        · refine XW_pwp mixed hlo (by decide) ?_
          simp
          refine XW_pwp mixed hlo (by decide) ?_
          simp [small (dx + 1) (by omega)]
          refine againX_of (dx + 1) (by omega) (by omega) (by rw [hj1, hyes (hokt)]) ?_
          simp
        · refine XW_pwp mixed hlo (by decide) ?_
          simp
      · simp [a1, w1, ww]
        refine pop_spec (rin_spec (x + dx) 0 (l.wide - 1)) rfl false (.inl (by simp)) (.inl rfl) rfl (by simp) ?_
        cases h1 : inB (x + dx) 0 (l.wide - 1) with
        | false =>
          simp [a1]
          refine XW_pwp mixed hlo (by decide) ?_
          simp [small (dx + 1) (by omega)]
          refine againX_of (dx + 1) (by omega) (by omega) (by rw [hj1, hno (by rw [hok, h1]; simp)]) ?_
          simp
        | true =>
        simp [a1, w2, wd]
        refine pop_spec (rin_spec (y + dy) 0 (l.deep - 1)) rfl false (.inl (by simp)) (.inl rfl) rfl (by simp) ?_
        cases h2 : inB (y + dy) 0 (l.deep - 1) with
        | false =>
          simp [a1]
          refine XW_pwp mixed hlo (by decide) ?_
          simp [small (dx + 1) (by omega)]
          refine againX_of (dx + 1) (by omega) (by omega) (by rw [hj1, hno (by rw [hok, h2]; simp)]) ?_
          simp
        | true =>
        have hokt : okJ l k j = true := by rw [hok, h1, h2]; simp only [Bool.and_true, Bool.not_eq_true', Bool.and_eq_false_iff, decide_eq_false_iff_not]; omega
        have hcl := stp_cell hl hk hokt
        have hel := genL_get hokt hj9
        rw [hdir] at hcl hel
        simp only at hcl hel
        obtain ⟨z, hz⟩ : ∃ z : Nat, (k : Int) + dy * l.wide + dx = z := ⟨((k : Int) + dy * l.wide + dx).toNat, by omega⟩
        rw [hz] at hel hcl
        simp [stepC] at hel
        have w3 := small (dy * l.wide) b3
        have w4 := small ((k : Int) + dy * l.wide) (by omega)
        have w5 := small (z : Int) (by omega)
        simp [a1]
        refine XW_seqX (XW_yield (m := 15) mixed henv (by decide) (by decide) ?_)
        simp [w3, w4, hz, w5]
        refine ⟨by decide, ?_⟩
        simp [pyield, yargs, hel]
        refine ⟨?_, ?_⟩
        · refine XW_pwp mixed hlo (by decide) ?_
          simp
          refine XW_pwp mixed hlo (by decide) ?_
          simp [small (dx + 1) (by omega)]
          refine againX_of (dx + 1) (by omega) (by omega) (by rw [hj1, hyes (hokt)]) ?_
          simp
        · refine XW_pwp mixed hlo (by decide) ?_
          simp
    · obtain rfl : dx = 2 := by omega
      simp
      refine XW_pwp mixed hlo (by decide) ?_
      simp [small (dy + 1) (by omega)]
      refine againX_of (dy + 1) (by omega) (by omega) (by rw [show (3 * (dy + 1 + 1)).toNat = (3 * (dy + 1) + 3).toNat from by omega]) ?_
      simp
  · obtain rfl : dy = 2 := by omega
    simp
    rw [genL_length]
end Go.Qg


namespace Go.Qg
open Go.Proofs
set_option maxRecDepth 100000
set_option maxHeartbeats 32000000
def gldOf (c : Crf) (l : Lnd) (a : Arr) (h : Int) : Gld := ⟨l.ground.length, getb l.water, bareF l, stepsL l, needF c a h, leftF c a h⟩
theorem gldOf_ok {c : Crf} {l : Lnd} {a : Arr} {h : Int} (hl : LndOk l) (hc : CrfOk c) : GldOk (gldOf c l a h) := by
  refine ⟨fun k hk => ?_, fun k hk s hs => (mem_steps hl hk hs).1, fun d x y => ?_, fun d x => ?_⟩
  · have h1 := hl.ground k hk
    have h2 := hl.clear
    simp only [gldOf, bareF]
    split <;> omega
  · have h2 := prt_small (d := d) hc.sink
    simp only [gldOf, needF, leftF]
    split
    · intro hh; omega
    · split
      · intro hh
        split <;> omega
      · intro hh
        split <;> omega
  · have h2 := prt_small (d := d) hc.sink
    have h3 : 1 ≤ (lostS c a d).high := by simp only [lostS]; omega
    simp only [gldOf, leftF]
    split
    · omega
    · split <;> omega
attribute [local simp 2000] List.getElem?_cons_succ List.getElem?_cons_zero
attribute [local irreducible] pwp pops pdraw pop popCall pdCall thenP blockP scopeP pspec Spec answers ppost CallW rend
theorem cloneInt_spec (l : List Int) (h0 : 0 < l.length) (hl : l.length ≤ 1000000) : CallW Tryz.prog 142 [ints l] [] (fun out => ∃ ep, out = .ret (.own 0 ep 0 l.length false) [.rows none ep 3 1 (rowsI l)]) := by
  refine callW_of mixed Tryz.func142 (by decide) rfl (congrArg Array.toList Tryz.results142) Tryz.ntmps142 (by decide) 8 (by simp) (by decide) ?_
  simp [ints]
  have el : (List.map (fun i => [PV.v (Value.int IntKind.i64 (geti l i))]) (List.range l.length)) = rowsI l := by
    refine List.ext_getElem (by simp) fun k h1 h2 => ?_
    simp [rowsI, geti, List.getD_eq_getElem?_getD, show k < l.length from by simpa using h1]
  simp [h0, show l.length ≠ 0 from by omega, show l.length * 8 ≤ 140737488355328 from by omega, show l.length ≤ maxLen from by simp [maxLen]; omega, el]
  refine ends_of (.own 0 1 0 l.length false) [.rows none 1 3 1 (rowsI l)] [5] rfl (by decide) ?_ ?_ ⟨1, rfl⟩
  · simp
  · simp
theorem equalInt_spec (a b : List Int) (ha : a.length ≤ 9223372036854775807) (hb : b.length ≤ 9223372036854775807) : Spec Tryz.prog 143 [ints a, ints b] (.v (.bool (decide (a = b)))) := by
  refine spec_of mixed Tryz.func143 (by decide) rfl Tryz.results143 Tryz.ntmps143 (by decide) 0 (by simp) ?_
  simp [ints]
  by_cases hl : a.length = b.length
  · simp [hl]
    refine pwp_loop (fun k : Nat => [(13, .v (.int .i64 k))]) (fun k => k ≤ b.length ∧ ∀ j, j < k → geti a j = geti b j) (fun k => b.length - k) 0 ⟨Nat.zero_le _, fun j hj => by omega⟩ (by simp; rfl) (by simp [hl]) ?_
    intro k ⟨hk, hp⟩
    by_cases hkl : k < b.length
    · have wk := i64_wrap (show -9223372036854775808 ≤ (k : Int) + 1 ∧ _ from by omega)
      simp [hkl, hl]
      refine pwp_draw 9 (by decide) ?_
      by_cases he : geti a k = geti b k
      · simp [hkl, hl, he]
        refine ⟨by decide, ?_⟩
        refine again_of (k + 1) ⟨by omega, fun j hj => ?_⟩ (by omega) ?_
        · rcases Nat.lt_succ_iff_lt_or_eq.1 hj with hj | rfl
          · exact hp j hj
          · exact he
        · simp [wk, hl]
      · simp [hkl, hl, he]
        refine ⟨by decide, ?_⟩
        have hne : ¬ a = b := fun h => he (by rw [h])
        refine answers_of rfl ?_; simp [hne]
    · simp [hkl]
      have heq : a = b := by
        refine List.ext_getElem hl fun i h1 h2 => ?_
        have := hp i (by omega)
        simpa [geti, List.getD, h1, h2] using this
      refine answers_of rfl ?_; simp [heq]
  · simp [show ¬ (a.length : Int) = b.length from by omega]
    have hne : ¬ a = b := fun h => hl (by rw [h])
    refine answers_of rfl ?_; simp [hne]
end Go.Qg


namespace Go.Qg
open Go.Proofs
set_option maxRecDepth 100000
set_option maxHeartbeats 32000000
attribute [local simp 2000] List.getElem?_cons_succ List.getElem?_cons_zero
attribute [local irreducible] pwp pops pdraw pop popCall pdCall thenP blockP scopeP pspec Spec answers ppost CallW rend
def rnd0 (g : Gld) (k : Nat) : List Int := (List.range g.n).map fun c => if c < k then if g.water c = true then g.bare c else 1000000 else 0
def rndP (g : Gld) (now : List Int) (k : Nat) : List Int := (List.range g.n).map fun c => if c < k then nextC g now c else nt now c
def withinL (g : Gld) (K : Nat) : PV := .sl 1 (K + 1) fun i => [ints (rnd g i)]
theorem rnd0_length (g : Gld) (k : Nat) : (rnd0 g k).length = g.n := by simp [rnd0]
theorem rndP_length (g : Gld) (now : List Int) (k : Nat) : (rndP g now k).length = g.n := by simp [rndP]
theorem map_set {n k : Nat} {f : Nat → Int} {x : Int} : ((List.range n).map f).set k x = (List.range n).map fun c => if c = k then x else f c := by
  refine List.ext_getElem (by simp) fun i h1 h2 => ?_
  simp only [List.length_set, List.length_map, List.length_range] at h1
  simp only [List.getElem_set, List.getElem_map, List.getElem_range]
  by_cases h : k = i
  · simp [h]
  · simp [h, show ¬ i = k from fun e => h e.symm]
theorem rnd0_set {g : Gld} {k : Nat} {x : Int} (hx : x = if g.water k = true then g.bare k else 1000000) : (rnd0 g k).set k x = rnd0 g (k + 1) := by
  rw [rnd0, map_set, rnd0]
  refine List.map_congr_left fun c _ => ?_
  by_cases h : c = k
  · subst h; simp [hx]
  · by_cases h2 : c < k
    · simp [h, h2, show c < k + 1 from by omega]
    · simp [h, h2, show ¬ c < k + 1 from by omega]
theorem rnd0_end (g : Gld) : rnd0 g g.n = rnd g 0 := by
  rw [rnd0, rnd]
  refine List.map_congr_left fun c hc => ?_
  rw [if_pos (List.mem_range.1 hc)]
theorem rndP_set {g : Gld} {now : List Int} {k : Nat} {x : Int} (hx : x = nextC g now k) : (rndP g now k).set k x = rndP g now (k + 1) := by
  rw [rndP, map_set, rndP]
  refine List.map_congr_left fun c _ => ?_
  by_cases h : c = k
  · subst h; simp [hx]
  · by_cases h2 : c < k
    · simp [h, h2, show c < k + 1 from by omega]
    · simp [h, h2, show ¬ c < k + 1 from by omega]
theorem rndP_end (g : Gld) (now : List Int) : rndP g now g.n = nextL g now := by
  rw [rndP, nextL]
  refine List.map_congr_left fun c hc => ?_
  rw [if_pos (List.mem_range.1 hc)]
theorem rndP_zero {g : Gld} {now : List Int} (h : now.length = g.n) : rndP g now 0 = now := by
  refine List.ext_getElem (by simp [rndP, h]) fun i h1 h2 => ?_
  simp [rndP, nt, h2]
theorem rows_set (l : List Int) (k : Nat) (x : Int) : (rowsI l).set k [.v (.int .i64 x)] = rowsI (l.set k x) := by simp [rowsI, List.map_set]
def rowF (g : Gld) (now : List Int) (k : Nat) (m : Int) : List Int := (rndP g now k).set k m
theorem rowF_length (g : Gld) (now : List Int) (k : Nat) (m : Int) : (rowF g now k m).length = g.n := by simp [rowF, rndP]
theorem rowF_set (g : Gld) (now : List Int) (k : Nat) (m x : Int) : (rowF g now k m).set k x = rowF g now k x := by simp [rowF]
theorem rowF_get {g : Gld} (now : List Int) {k : Nat} (m : Int) (h : k < g.n) : geti (rowF g now k m) k = m := by simp [rowF, rndP, geti, h]
theorem rowF_zero {g : Gld} {now : List Int} {k : Nat} (h : k < g.n) : rowF g now k (nt now k) = rndP g now k := by
  rw [rowF, rndP, map_set]
  refine List.map_congr_left fun c _ => ?_
  by_cases h : c = k
  · subst h; simp
  · simp [h]
def stepK (g : Gld) (now : List Int) (j n : Nat) : Int := ((g.steps j).take n).foldl (stepN g now j) (nt now j)
theorem stepK_succ {g : Gld} {now : List Int} {j n : Nat} {s : Nat × Int × Int} (h : (g.steps j)[n]? = some s) : stepK g now j (n + 1) = stepN g now j (stepK g now j n) s := by
  rw [stepK, List.take_add_one, h]
  simp [stepK]
theorem stepK_end {g : Gld} {now : List Int} {j : Nat} (hw : g.water j = false) : stepK g now j (g.steps j).length = nextC g now j := by
  simp [stepK, nextC, hw]
def wiV (c : Crf) (l : Lnd) (a : Arr) (h : Int) (g : Gld) (k ep j : Nat) (m : Int) : PF := [.undef, .rp [.rp (flyC c l a h) 0] 0, .undef, .undef, .box true [ints (rnd g k)], .undef, .own 42 k 0 (k + 1) false, .box true [.own 100 ep 0 l.ground.length false], .rp [.v (.int .i64 j)] 0, .undef, .undef, .undef, .undef, .undef, .undef, .undef, .undef, .undef, .undef, .undef, .undef, .undef, .undef, .undef, .undef, .undef, .undef, .undef, .undef, .undef, .undef, .undef, .undef, .undef, .undef, .undef, .undef, .undef, .undef, .undef, .undef, .undef, .rows none k 28 1 (rowsOf (fun i => [ints (rnd g i)]) (k + 1)), .undef, .undef, .undef, .v (.int .i64 l.ground.length), .v (.int .i64 j), .undef, .undef, .undef, .undef, .undef, .undef, .undef, .undef, .undef, .undef, .undef, .undef, .undef, .undef, .undef, .undef, .undef, .undef, .undef, .undef, .undef, .undef, .undef, .undef, .undef, .undef, .undef, .undef, .undef, .undef, .undef, .undef, .undef, .undef, .undef, .undef, .undef, .undef, .undef, .undef, .undef, .undef, .undef, .undef, .undef, .undef, .undef, .undef, .undef, .undef, .undef, .undef, .rows none ep 3 1 (rowsI (rowF g (rnd g k) j m))]
def wiA (c : Crf) (l : Lnd) (a : Arr) (h : Int) (j : Nat) : List PV := [.undef, .rp [.rp (flyC c l a h) 0] 0, .undef, .undef, .ref 0 0, .undef, .undef, .ref 1 0, .rp [.v (.int .i64 j)] 0, .undef, .undef, .undef, .undef, .undef, .undef, .undef, .undef, .undef, .undef, .undef, .undef, .undef, .undef, .undef, .undef, .undef, .undef, .undef, .undef, .undef, .undef, .undef, .undef, .undef, .undef, .undef, .undef, .undef, .undef, .undef, .undef, .undef, .undef, .undef, .undef, .undef, .undef, .undef, .undef, .undef, .undef, .undef, .undef, .undef, .undef, .undef, .undef, .undef, .undef, .undef, .undef, .undef, .undef, .undef, .undef, .undef, .undef, .undef, .undef, .undef, .undef, .undef, .undef, .undef, .undef, .undef, .undef, .undef, .undef, .undef, .undef, .undef, .undef, .undef, .undef, .undef, .undef, .undef, .undef, .undef, .undef, .undef, .undef, .undef, .undef, .undef, .undef, .undef, .undef, .undef]
def wiH (l : Lnd) (g : Gld) (k ep j : Nat) (m : Int) : PF := [.box false [ints (rnd g k)], .box false [.own 2 ep 0 l.ground.length false], .rows none ep 3 1 (rowsI (rowF g (rnd g k) j m))]
theorem within_spec (c : Crf) (l : Lnd) (a : Arr) (h : Int) (K : Nat) (hl : LndOk l) (hc : CrfOk c) (ha : ArrOk a) (hK : Stops (gldOf c l a h) K) : Spec Tryz.prog 69 [.rp (flyC c l a h) 0] (withinL (gldOf c l a h) K) := by
  have hw := hl.wide
  have hd := hl.deep
  have hn := hl.n
  have hm : l.wide * l.deep ≤ 144 := Int.le_trans (Int.mul_le_mul hw.2 hd.2 (by omega) (by omega)) (by omega)
  have hm0 : 1 * 1 ≤ l.wide * l.deep := Int.mul_le_mul hw.1 hd.1 (by omega) (by omega)
  have hwl := hl.water
  obtain ⟨g, hg⟩ : ∃ g, gldOf c l a h = g := ⟨_, rfl⟩
  have gn : g.n = l.ground.length := by rw [← hg]; rfl
  have gw : g.water = getb l.water := by rw [← hg]; rfl
  have gb : g.bare = bareF l := by rw [← hg]; rfl
  have gok : GldOk g := by rw [← hg]; exact gldOf_ok hl hc
  rw [hg] at hK ⊢
  unfold Spec
  refine callW_ofE Tryz.func69 (by decide) rfl (congrArg Array.toList Tryz.results69) Tryz.ntmps69 101 (by simp) (by decide) fun B0 hB0 hD0 => ?_
  have hlo : ∀ s B, ECtx B0 s B → B.lo = 101 := fun _ _ h => h.1.trans hB0
  refine XW_seqP mixed hlo (by decide) ?_
  simp [flyC]
  refine XW_seqP mixed hlo (by decide) ?_
  simp [ints]
  refine XW_seqP mixed hlo (by decide) ?_
  simp [show 8 * (l.ground.length : Int) ≤ 281474976710656 from by omega, show (l.ground.length : Int) ≤ 9223372036854775807 from by omega]
  have e0 : List.replicate l.ground.length [PV.v (Value.int IntKind.i64 0)] = rowsI (rnd0 g 0) := by
    refine List.ext_getElem (by simp [rnd0, gn]) fun i h1 h2 => ?_
    simp [rowsI, rnd0]
  refine XW_seqP mixed hlo (by decide) ?_
  simp
  refine pwp_loop (fun k : Nat => [(10, .undef), (11, .undef), (12, .undef), (13, .undef), (17, .rows (some (0, l.ground.length)) 0 3 1 (rowsI (rnd0 g k))), (20, .v (.int .i64 k))]) (fun k => k ≤ l.ground.length) (fun k => l.ground.length - k) 0 (Nat.zero_le _) (by simp; rfl) ?_ ?_
  · simp [e0]
  intro k hk
  have hrl := rnd0_length g k
  rw [gn] at hrl
  by_cases hkl : k < l.ground.length
  · have wk := i64_wrap (show -9223372036854775808 ≤ (k : Int) + 1 ∧ _ from by omega)
    have hb := rbare_spec c l a h k hl hkl
    simp only [flyC, ints, bools] at hb
    simp [hkl, hrl, bools, hwl]
    cases hwt : getb l.water k with
    | true =>
      simp
      refine pwp_draw 7 (by decide) ?_
      simp
      refine pd_spec hb (by simp [hwl]) (by simp) (by simp [rrwL]) rfl ?_
      simp [hkl, hrl]
      refine ⟨by decide, ?_⟩
      refine again_of (k + 1) (by omega) (by omega) ?_
      simp [wk, rows_set, rnd0_set (g := g) (k := k) (x := bareF l k) (by simp [gw, gb, hwt])]
    | false =>
      simp
      refine again_of (k + 1) (by omega) (by omega) ?_
      simp [wk, rows_set, rnd0_set (g := g) (k := k) (x := 1000000) (by simp [gw, hwt])]
  obtain rfl : k = l.ground.length := by omega
  rw [← gn, rnd0_end, gn]
  have rl := rnd_length g
  simp
  refine XW_seqP mixed hlo (by decide) ?_
  simp
  refine XW_block ?_
  refine XW_loopV hlo (fun k : Nat => [(0, .undef), (1, .rp [.rp (flyC c l a h) 0] 0), (3, .undef), (14, .undef), (15, .undef), (16, .undef), (19, .undef), (20, .undef), (21, .undef), (4, .box true [ints (rnd g k)]), (6, .own 42 k 0 (k + 1) false), (17, .undef), (18, .undef), (41, .undef), (42, .rows none k 28 1 (rowsOf (fun i => [ints (rnd g i)]) (k + 1)))]) (fun _ => ()) (fun k => k ≤ K) (fun k => K - k) 0 (Nat.zero_le _) rfl (by simp; rfl) ?_ ?_
  · simp [ints, rl, gn, rowsOf, flyC, bools]
    intro j hj
    rw [rowsI_get (by rw [rl, gn]; exact hj)]
    simp
  intro k hk
  refine XW_block ?_
  refine XW_seqP mixed hlo (by decide) ?_
  simp [ints, rl, gn]
  refine pop_callW (cloneInt_spec (rnd g k) (by rw [rl, gn]; omega) (by rw [rl, gn]; omega)) rfl [] false (by decide) trivial (.inl (by simp [ints, rl, gn])) ?_
  rintro out ⟨ep, rfl⟩
  refine ⟨[100], by simp [backOk], .inl rfl, by simp [back, backV, placeAll], ?_⟩
  simp [back, backV, placeAll]
  simp [rl, gn]
  refine XW_seqX (XW_seqP mixed hlo (by decide) ?_)
  simp
  refine XW_block ?_
  refine XW_loopV hlo (fun j : Nat => [(7, .box true [.own 100 ep 0 l.ground.length false]), (43, .undef), (44, .undef), (45, .undef), (47, .v (.int .i64 j)), (100, .rows none ep 3 1 (rowsI (rndP g (rnd g k) j)))]) (fun _ => ()) (fun j => j ≤ l.ground.length) (fun j => l.ground.length - j) 0 (Nat.zero_le _) rfl (by simp; rfl) ?_ ?_
  · simp [rndP_zero (rl k)]
  intro j hj
  have rpl := rndP_length g (rnd g k) j
  rw [gn] at rpl
  refine XW_seqP mixed hlo (by decide) ?_
  by_cases hjl : j < l.ground.length
  · have wj := i64_wrap (show -9223372036854775808 ≤ (j : Int) + 1 ∧ _ from by omega)
    simp [hjl]
    refine XW_seqP mixed hlo (by decide) ?_
    simp
    refine XW_seqX (XW_block ?_)
    refine XW_seqP mixed hlo (by decide) ?_
    simp
    refine XW_seqP mixed hlo (by decide) ?_
    simp
    refine pwp_draw 8 (by decide) ?_
    simp [flyC, bools, hwl, hjl]
    refine ⟨by decide, ?_⟩
    cases hwt : getb l.water j with
    | true =>
      have en : nextC g (rnd g k) j = nt (rnd g k) j := by rw [nextC, gw, hwt]; rfl
      have e1 : rndP g (rnd g k) (j + 1) = rndP g (rnd g k) j := by
        rw [← rndP_set en.symm]
        exact rowF_zero (by omega)
      simp
      refine XW_pwp mixed hlo (by decide) ?_
      simp [wj]
      refine againX_of (j + 1) (by omega) (by omega) rfl ?_
      simp [e1]
    | false =>
      have hst := rsteps_spec c l a h j
      simp only [flyC, ints, bools] at hst
      simp
      refine XW_seqP mixed hlo (by decide) ?_
      simp
      refine pop_spec hst rfl false (.inl (by simp [hwl, ints])) (.inl rfl) rfl (by simp [genC]) ?_
      simp [genC]
      refine XW_block ?_
      refine XW_range mixed rfl (by rfl) (rsteps_gen c l a h j hl hjl) (genL_plain l j) (by decide) (by decide) 101 (by decide) [4, 7, 100] (by decide)
        (fun n => wiV c l a h g k ep j (stepK g (rnd g k) j n)) (fun n => wiA c l a h j) (fun n => wiH l g k ep j (stepK g (rnd g k) j n)) ?_ (fun n hn => ⟨rfl, ?_, slots_view (t := 61) ?_ rfl⟩) (fun n p hp => ?_) ?_
      · rw [hB0]
        simp [wiV, flyC, ints, bools, hwl, rl, gn]
        simp [stepK, rowF_zero (g := g) (now := rnd g k) (k := j) (by omega)]
      · simp [wiV, wiH, ints]
      · simp [slots, wiV, wiA]
      · have hsn : ∃ s, (stepsL l j)[n]? = some s ∧ p = .agg (stepC s) := by
          rw [genL, List.getElem?_map] at hp
          cases hs : (stepsL l j)[n]? with
          | none => rw [hs] at hp; cases hp
          | some s => rw [hs] at hp; exact ⟨s, rfl, (Option.some.inj hp).symm⟩
        obtain ⟨s, hs, rfl⟩ := hsn
        obtain ⟨hs1, hs2⟩ := mem_steps hl hjl (List.mem_of_getElem? hs)
        have hsk := stepK_succ (g := g) (now := rnd g k) (j := j) (n := n) (s := s) (by rw [← hg]; exact hs)
        have hnn := rnd_ge gok k (c := s.1) (by rw [gn]; exact hs1)
        rw [hB0]
        have rfl1 := rowF_length g (rnd g k) j (stepK g (rnd g k) j n)
        rw [gn] at rfl1
        simp [wiA, wiH, ints, rl, gn, stepC, hs1]
        by_cases hlt : geti (rnd g k) s.1 < 1000000
        · have hb := rbare_spec c l a h j hl hjl
          have hwy := rway_spec c l a h hc
          have hcur := rowF_get (g := g) (rnd g k) (k := j) (stepK g (rnd g k) j n) (by omega)
          have hwr : wayR c l a h = [.clo (.func (if c.engines = 1 then 145 else 147)) [.rp (flyC c l a h) 0] [], .clo (.func (if c.engines = 1 then 146 else 148)) [.rp (flyC c l a h) 0] []] := by
            unfold wayR; split <;> rfl
          have hnd : Spec Tryz.prog (if c.engines = 1 then 146 else 148) [.rp (flyC c l a h) 0, .agg (stepC s), .v (.int .i64 (geti (rnd g k) s.1))] (.v (.int .i64 (needF c a h s.2 (geti (rnd g k) s.1)))) := by
            have hx : -10000000 ≤ geti (rnd g k) s.1 ∧ geti (rnd g k) s.1 ≤ 10000000 := ⟨by have : 0 ≤ geti (rnd g k) s.1 := hnn; omega, by omega⟩
            unfold needF
            split
            · exact rneedOne_spec c l a h s _ hc ha hs2 hx
            · exact rneedTwo_spec c l a h s _ hc hx
          rw [hwr] at hwy
          simp only [stepC] at hnd
          simp [hlt]
          refine pwp_draw 23 (by decide) ?_
          simp [rfl1, hjl]
          refine pd_spec hb (by simp) (by simp) (by simp [flyC, rrwL, ints, bools]) rfl ?_
          simp
          refine pd_spec hwy (by simp) (by simp) (by simp [flyC, rrwL, ints, bools]) (by simp) ?_
          simp [ints, rl, gn, hs1]
          refine pd_spec hnd (by simp) (by simp) (by simp [flyC, rrwL, ints, bools]) rfl ?_
          simp [rfl1, hjl, max_if, max_if', max_le, min_if, min_if', min_le, hcur, rows_set, rowF_set]
          refine ⟨by decide, ?_⟩
          have hsk2 : stepK g (rnd g k) j (n + 1) = min (stepK g (rnd g k) j n) (max (bareF l j) (needF c a h s.2 (geti (rnd g k) s.1))) := by
            rw [hsk, stepN, if_pos (show nt (rnd g k) s.1 < 1000000 from hlt), gb, ← hg]
            rfl
          refine rend_n (wiH l g k ep j (stepK g (rnd g k) j (n + 1))) ?_ ?_
          · simp [wiH, ints, rl, gn, hsk2, Int.min_comm]
          · simp [back, placeAll, wiV, wiH, ints]
        · have hsk' : stepK g (rnd g k) j (n + 1) = stepK g (rnd g k) j n := by
            rw [hsk, stepN, if_neg (show ¬ nt (rnd g k) s.1 < 1000000 from hlt)]
          simp [hlt]
          refine rend_n (wiH l g k ep j (stepK g (rnd g k) j n)) ?_ ?_
          · simp [wiH, ints, rl, gn]
          · simp [back, placeAll, wiV, wiH, hsk', ints]
      · have hend : stepK g (rnd g k) j (genL l j).length = nextC g (rnd g k) j := by
          rw [show (genL l j).length = (g.steps j).length from by rw [← hg]; simp [genL, gldOf]]
          exact stepK_end (by rw [gw]; exact hwt)
        have hrow : rowF g (rnd g k) j (nextC g (rnd g k) j) = rndP g (rnd g k) (j + 1) := rndP_set rfl
        rw [hend]
        simp [wiV, blockX, thenX, hrow]
        refine XW_pwp mixed hlo (by decide) ?_
        simp [wj]
        refine againX_of (j + 1) (by omega) (by omega) rfl ?_
        simp [flyC, ints, bools, rl, gn, hwl]
  · obtain rfl : j = l.ground.length := by omega
    rw [show rndP g (rnd g k) l.ground.length = rnd g (k + 1) from by rw [← gn, rndP_end]; rfl]
    have heq := equalInt_spec (rnd g k) (rnd g (k + 1)) (by rw [rl, gn]; omega) (by rw [rl, gn]; omega)
    simp [rl, gn]
    refine XW_seqP mixed hlo (by decide) ?_
    simp
    refine XW_seqP mixed hlo (by decide) ?_
    simp
    refine pop_specF [(7, .box true [ints (rnd g (k + 1))]), (92, ints (rnd g (k + 1))), (100, .undef)] ?_ heq rfl false (.inl (by simp [ints, rl, gn])) (.inl rfl) rfl (by simp) ?_
    · simp [ints, rl, gn]
      intro j hj
      rw [rowsI_get (by rw [rl, gn]; exact hj)]
      simp
    by_cases he : rnd g k = rnd g (k + 1)
    · obtain rfl : k = K := by
        rcases Nat.lt_or_eq_of_le hk with h1 | h1
        · exact (hK.2 k h1 he.symm).elim
        · exact h1
      simp [he]
      refine ends_of (withinL g k) [] [] rfl (by decide) ?_ ?_ rfl
      · simp
      · simp [withinL, ints, rl, gn]
        intro j hj
        simp [rowsOf_get hj]
    · have hkK : k < K := by
        rcases Nat.lt_or_eq_of_le hk with h1 | h1
        · exact h1
        · subst h1; exact (he hK.1.symm).elim
      have hKb := stops_le gok hK
      rw [gn] at hKb
      have er := rowsOf_snoc (g := fun i => [ints (rnd g i)]) (k := k + 1) rfl
      simp only [ints, rl, gn] at er
      simp [he]
      refine XW_seqP mixed hlo (by decide) ?_
      simp [ints, rl, gn]
      refine XW_pwp mixed hlo (by decide) ?_
      simp [show (k + 1 + 1) * 24 ≤ 140737488355328 from by omega, show k + 1 + 1 ≤ maxLen from by simp [maxLen]; omega]
      refine againX_of (k + 1) (by omega) (by omega) rfl ?_
      simp [ints, rl, gn, er, flyC]
end Go.Qg


namespace Go.Qg
open Go.Proofs
set_option maxRecDepth 100000
set_option maxHeartbeats 32000000
attribute [local simp 2000] List.getElem?_cons_succ List.getElem?_cons_zero
attribute [local irreducible] pwp pops pdraw pop popCall pdCall thenP blockP scopeP pspec Spec answers ppost CallW rend
theorem lnd_small {l : Lnd} (hl : LndOk l) : 1 ≤ (l.ground.length : Int) ∧ (l.ground.length : Int) ≤ 144 := by
  have hw := hl.wide
  have hd := hl.deep
  have hn := hl.n
  have hm : l.wide * l.deep ≤ 144 := Int.le_trans (Int.mul_le_mul hw.2 hd.2 (by omega) (by omega)) (by omega)
  have hm0 : 1 * 1 ≤ l.wide * l.deep := Int.mul_le_mul hw.1 hd.1 (by omega) (by omega)
  omega
theorem rneeds_spec (c : Crf) (l : Lnd) (a : Arr) (h : Int) (K : Nat) (hl : LndOk l) (hc : CrfOk c) (ha : ArrOk a) (hK : Stops (gldOf c l a h) K) : Spec Tryz.prog 66 [.rp (flyC c l a h) 0] (ints (rnd (gldOf c l a h) K)) := by
  have hs := lnd_small hl
  have hKb := stops_le (gldOf_ok hl hc) hK
  have gn : (gldOf c l a h).n = l.ground.length := rfl
  rw [gn] at hKb
  refine spec_of mixed Tryz.func66 (by decide) rfl Tryz.results66 Tryz.ntmps66 (by decide) 0 (by simp) ?_
  simp
  refine pop_spec (within_spec c l a h K hl hc ha hK) rfl false (.inl (by simp [flyC, rrwL, ints, bools])) (.inl rfl) rfl (by simp [withinL]) ?_
  simp [withinL, ints]
  simp [i64_wrap (show -9223372036854775808 ≤ (K : Int) ∧ _ from by omega), show (K : Int) < (K : Int) + 1 from by omega, show K < K + 1 from by omega]
  refine answers_of rfl ?_; simp [ints]
def needsR (c : Crf) (l : Lnd) (a : Arr) (w : Int) (K : Nat) : PV := if startE c l a w true = 0 then .tup [ints (rnd (gldOf c l a (saysN c.ceilings w)) K), .v (.int .i64 0)] else .tup [.nil, .v (.int .i64 (startE c l a w true))]
theorem start_ok {c : Crf} {l : Lnd} {a : Arr} {w : Int} {fine : Bool} (h : startE c l a w fine = 0) : crfB c = true ∧ lndB l = true ∧ arrB a = true ∧ fine = true := by
  unfold startE at h
  split at h
  · rename_i hh
    simp only [Bool.and_eq_true] at hh
    exact ⟨hh.1.1.1.1, hh.1.1.1.2, hh.1.1.2, hh.2⟩
  · omega
theorem Needs_spec (c : Crf) (l : Lnd) (a : Arr) (w : Int) (K : Nat) (hm : CrfMem c) (hg : l.ground.length ≤ 9223372036854775807) (hK : startE c l a w true = 0 → Stops (gldOf c l a (saysN c.ceilings w)) K) : Spec Tryz.prog 21 [.agg c.cells, .agg l.cells, .agg a.cells, .v (.int .i64 w)] (needsR c l a w K) := by
  have hst := rstart_spec c l a w true hm hg
  refine spec_of mixed Tryz.func21 (by decide) rfl Tryz.results21 Tryz.ntmps21 (by decide) 0 (by simp) ?_
  simp [Crf.cells, Lnd.cells, Arr.cells, rrwL, ints, bools]
  by_cases h0 : startE c l a w true = 0
  · obtain ⟨o1, o2, o3, _⟩ := start_ok h0
    have hnd := rneeds_spec c l a (saysN c.ceilings w) K (lndB_ok o2) (crfB_ok o1) (arrB_ok o3) (hK h0)
    rw [startR, if_pos h0] at hst
    refine pop_spec hst rfl false (.inl (by simp [Crf.cells, Lnd.cells, Arr.cells, rrwL, ints, bools])) (.inl rfl) rfl (by simp) ?_
    simp
    refine pop_spec hnd rfl false (.inl (by simp [flyC, rrwL, ints, bools])) (.inl rfl) rfl (by simp [ints]) ?_
    simp
    refine answers_of rfl ?_; simp [needsR, h0, ints]
  · rw [startR, if_neg h0] at hst
    refine pop_spec hst rfl false (.inl (by simp [Crf.cells, Lnd.cells, Arr.cells, rrwL, ints, bools])) (.inl rfl) rfl (by simp) ?_
    simp [h0]
    refine answers_of rfl ?_; simp [needsR, h0]
def cellB (l : Lnd) (n : Int) : Bool := lndB l && inB n 0 (l.ground.length - 1)
theorem rcell_spec (l : Lnd) (n : Int) (hg : l.ground.length ≤ 9223372036854775807) : Spec Tryz.prog 67 [.agg l.cells, .v (.int .i64 n)] (.v (.bool (cellB l n))) := by
  refine spec_of mixed Tryz.func67 (by decide) rfl Tryz.results67 Tryz.ntmps67 (by decide) 0 (by simp) ?_
  simp [Lnd.cells, ints, bools]
  refine pop_spec (rland_spec l hg) rfl false (.inl (by simp [Lnd.cells, ints, bools])) (.inl rfl) rfl (by simp) ?_
  cases h1 : lndB l with
  | false => simp; refine answers_of rfl ?_; simp [cellB, h1]
  | true =>
  simp [i64_wrap (show -9223372036854775808 ≤ (l.ground.length : Int) - 1 ∧ _ from by omega)]
  refine pop_spec (rin_spec n 0 (l.ground.length - 1)) rfl false (.inl (by simp)) (.inl rfl) rfl (by simp) ?_
  simp
  refine answers_of rfl ?_; simp [cellB, h1]
theorem escape1_spec (g : Gld) (K k f : Nat) (x : Int) (hk : k ≤ K) (hf : f < g.n) : Spec Tryz.prog 71 [.v (.int .i64 k), .rp [withinL g K] 0, .rp [.v (.int .i64 f)] 0, .rp [.v (.int .i64 x)] 0] (.v (.bool (decide (nt (rnd g k) f ≤ x)))) := by
  have rl := rnd_length g
  have en : geti (rnd g k) f = nt (rnd g k) f := rfl
  refine spec_of mixed Tryz.func71 (by decide) rfl Tryz.results71 Tryz.ntmps71 (by decide) 0 (by simp) ?_
  simp [withinL]
  refine pwp_draw 10 (by decide) ?_
  simp [ints, rl, hf, show k < K + 1 from by omega, show (k : Int) < (K : Int) + 1 from by omega, en]
  refine ⟨by decide, ?_⟩
  refine answers_of rfl ?_; simp
def okS (g : Gld) (w : List Int) (h : Int) (s : Nat × Int × Int) : Bool := decide (nt w s.1 ≤ g.left s.2 h)
theorem findS_none {L : List (Nat × Int × Int)} {p : Nat × Int × Int → Bool} (h : ∀ (n : Nat) (s : Nat × Int × Int), L[n]? = some s → p s = false) : L.find? p = none := by
  rw [List.find?_eq_none]
  intro s hs
  obtain ⟨n, hn⟩ := List.getElem?_of_mem hs
  simp [h n s hn]
theorem findS_some {p : Nat × Int × Int → Bool} : ∀ {L : List (Nat × Int × Int)} {n : Nat} {s : Nat × Int × Int}, L[n]? = some s → (∀ (i : Nat) (s' : Nat × Int × Int), i < n → L[i]? = some s' → p s' = false) → p s = true → L.find? p = some s
  | x :: L, 0, s, h, _, hp => by
    simp at h
    subst h
    simp [hp]
  | x :: L, n + 1, s, h, hn, hp => by
    have h0 := hn 0 x (by omega) (by simp)
    rw [List.find?_cons, h0]
    exact findS_some (n := n) (by simpa using h) (fun i s' hi hs => hn (i + 1) s' (by omega) (by simpa using hs)) hp
def noS (g : Gld) (w : List Int) (h : Int) (L : List (Nat × Int × Int)) (n : Nat) : Bool := allN n fun i => match L[i]? with
  | some s => !okS g w h s
  | none => true
theorem noS_iff {g : Gld} {w : List Int} {h : Int} {L : List (Nat × Int × Int)} {n : Nat} : noS g w h L n = true ↔ ∀ (i : Nat) (s : Nat × Int × Int), i < n → L[i]? = some s → okS g w h s = false := by
  rw [noS, allN_spec]
  constructor
  · intro hh i s hi hs
    have := hh i hi
    rw [hs] at this
    simpa using this
  · intro hh i hi
    cases hs : L[i]? with
    | none => rfl
    | some s => simp [hh i s hi hs]
def esV (c : Crf) (l : Lnd) (a : Arr) (h : Int) (g : Gld) (K k e c0 : Nat) (h0 : Int) (d : List Int) : PF := [.undef, .undef, .undef, .undef, .undef, .undef, .undef, .undef, .undef, .undef, .box true [.v (.int .i64 (c0 : Nat))], .box true [.v (.int .i64 h0)], .undef, .undef, .rp [.rp (flyC c l a h) 0] 0, .undef, .rp [withinL g K] 0, .undef, .own 51 e 0 d.length false, .rp [.v (.int .i64 (k : Nat))] 0, .undef, .undef, .undef, .undef, .undef, .undef, .undef, .undef, .undef, .undef, .undef, .undef, .undef, .undef, .undef, .undef, .undef, .undef, .undef, .undef, .undef, .undef, .undef, .undef, .undef, .undef, .undef, .undef, .undef, .undef, .undef, .rows none e 3 1 (rowsI d), .undef, .undef, .undef, .undef, .undef, .undef, .undef, .undef, .undef, .undef, .undef, .undef, .undef, .undef, .undef, .undef, .undef, .undef, .undef, .undef, .undef, .undef, .undef, .undef, .undef, .undef, .undef, .undef, .undef, .undef, .undef, .undef, .undef, .undef, .undef]
def esA (c : Crf) (l : Lnd) (a : Arr) (h : Int) (g : Gld) (K k : Nat) : List PV := [.undef, .undef, .undef, .undef, .undef, .undef, .undef, .undef, .undef, .undef, .ref 0 0, .ref 1 0, .undef, .undef, .rp [.rp (flyC c l a h) 0] 0, .undef, .rp [withinL g K] 0, .undef, .undef, .rp [.v (.int .i64 (k : Nat))] 0, .undef, .undef, .undef, .undef, .undef, .undef, .undef, .undef, .undef, .undef, .undef, .undef, .undef, .undef, .undef, .undef, .undef, .undef, .undef, .undef, .undef, .undef, .undef, .undef, .undef, .undef, .undef, .undef, .undef, .undef, .undef, .undef, .undef, .undef, .undef, .undef, .undef, .undef, .undef, .undef, .undef, .undef, .undef, .undef, .undef, .undef, .undef, .undef, .undef, .undef, .undef, .undef, .undef, .undef, .undef, .undef, .undef, .undef, .undef, .undef, .undef, .undef, .undef, .undef, .undef, .undef, .undef]
theorem rend_e {M M' : Nat} {κ : List Nat} {fr next g : PF} {Q : Unit → PX → PF → Prop} {id : Nat} (H2 : PF) (h1 : outF g (tgtAt H2 ((List.range κ.length).map (M' + ·)) fun s => !((List.range κ.length).map (M' + ·)).contains s) 8 H2 ((List.range κ.length).map (M' + ·))) (h2 : Q () (.exit id) (back fr κ H2)) : rend M M' κ fr next Q (.exit id) g := by
  unfold rend
  exact ⟨H2, h1, h2⟩
def natL (l : List Nat) : List Int := l.map fun x : Nat => (x : Int)
theorem Escape_spec (c : Crf) (l : Lnd) (a : Arr) (w : Int) (f : Nat) (x : Int) (K many : Nat) (hm : CrfMem c) (hs : startE c l a w true = 0) (hf : f < l.ground.length) (hx : 0 ≤ x ∧ x ≤ 20000) (hK : Stops (gldOf c l a (saysN c.ceilings w)) K) (hmany : firstZ (fun k => decide (nt (rnd (gldOf c l a (saysN c.ceilings w)) k.toNat) f ≤ x)) 0 (K + 1) = many) (hmK : many ≤ K) :
    Spec Tryz.prog 22 [.agg c.cells, .agg l.cells, .agg a.cells, .v (.int .i64 w), .v (.int .i64 f), .v (.int .i64 x)] (.tup [ints (natL (f :: escL (gldOf c l a (saysN c.ceilings w)) many f x)), .v (.int .i64 0)]) := by
  obtain ⟨o1, o2, o3, _⟩ := start_ok hs
  have hl := lndB_ok o2
  have hc := crfB_ok o1
  have ha := arrB_ok o3
  have hsm := lnd_small hl
  have hKb := stops_le (gldOf_ok hl hc) hK
  generalize hh : saysN c.ceilings w = h at *
  have hst := rstart_spec c l a w true hm (by omega)
  rw [startR, if_pos hs, hh] at hst
  have hwi := within_spec c l a h K hl hc ha hK
  have hce := rcell_spec l f (by omega)
  have hin := rin_spec x 0 20000
  have gn : (gldOf c l a h).n = l.ground.length := rfl
  rw [gn] at hKb
  rw [show cellB l f = true from by simp only [cellB, o2, Bool.true_and, inB_spec]; omega] at hce
  rw [show inB x 0 20000 = true from inB_spec.2 (by omega)] at hin
  have hfs := rfirst_spec 0 ((K : Int) + 1) (by omega) 71 [] [.rp [withinL (gldOf c l a h) K] 0, .rp [.v (.int .i64 f)] 0, .rp [.v (.int .i64 x)] 0] rfl (by rfl) (fun k => decide (nt (rnd (gldOf c l a h) k.toNat) f ≤ x)) fun k k0 k1 => by
    obtain ⟨j, rfl⟩ : ∃ j : Nat, k = j := ⟨k.toNat, by omega⟩
    simpa using escape1_spec (gldOf c l a h) K j f x (by omega) (by rw [gn]; exact hf)
  rw [hmany] at hfs
  have gok : GldOk (gldOf c l a h) := gldOf_ok hl hc
  unfold Spec
  refine callW_ofE Tryz.func22 (by decide) rfl (congrArg Array.toList Tryz.results22) Tryz.ntmps22 87 (by simp) (by decide) fun B0 hB0 hD0 => ?_
  have hlo : ∀ s B, ECtx B0 s B → B.lo = 87 := fun _ _ h => h.1.trans hB0
  refine XW_seqP mixed hlo (by decide) ?_
  simp [Crf.cells, Lnd.cells, Arr.cells, rrwL, ints, bools]
  refine XW_seqP mixed hlo (by decide) ?_
  refine pwp_draw 18 (by decide) ?_
  simp
  refine pd_spec hce (by simp [Lnd.cells, ints, bools]) (by simp) (by simp [Lnd.cells, ints, bools]) rfl ?_
  simp
  refine pd_spec hin (by simp) (by simp) (by simp) rfl ?_
  simp
  refine pd_spec hst (by simp [Crf.cells, Lnd.cells, Arr.cells, rrwL, ints, bools]) (by simp) (by simp [Crf.cells, Lnd.cells, Arr.cells, rrwL, ints, bools]) (by simp) ?_
  simp
  refine ⟨by decide, ?_⟩
  refine XW_seqP mixed hlo (by decide) ?_
  simp
  refine XW_seqP mixed hlo (by decide) ?_
  simp
  refine pop_spec hwi rfl false (.inl (by simp [flyC, rrwL, ints, bools])) (.inl rfl) rfl (by simp [withinL]) ?_
  simp [withinL]
  refine XW_seqP mixed hlo (by decide) ?_
  simp
  refine pop_spec hfs rfl true (.inl ?_) (.inr rfl) rfl (by simp) ?_
  · simp [withinL]
  simp [show ¬ (many : Int) = (K : Int) + 1 from by omega]
  refine XW_seqP mixed hlo (by decide) ?_
  simp [show ¬ (many : Int) = (K : Int) + 1 from by omega]
  refine XW_seqP mixed hlo (by decide) ?_
  simp
  refine XW_seqX (XW_seqP mixed hlo (by decide) ?_)
  simp [i64_wrap (show -9223372036854775808 ≤ (many : Int) - 1 ∧ _ from by omega)]
  refine XW_block ?_
  generalize hg : gldOf c l a h = g at *
  refine XW_loopV hlo (fun z : Nat × Nat × Int × List Int => [(0, .undef), (1, .undef), (2, .undef), (3, .undef), (4, .undef), (5, .undef), (6, .undef), (7, .undef), (8, .undef), (10, .box true [.v (.int .i64 (z.2.1 : Nat))]), (11, .box true [.v (.int .i64 z.2.2.1)]), (12, .undef), (13, .undef), (14, .rp [.rp (flyC c l a h) 0] 0), (15, .undef), (16, .rp [withinL g K] 0), (17, .undef), (44, .undef), (22, .undef), (23, .undef), (24, .undef), (25, .undef), (26, .undef), (27, .undef), (28, .undef), (29, .undef), (30, .undef), (31, .undef), (32, .undef), (33, .undef), (34, .undef), (35, .undef), (36, .undef), (37, .undef), (38, .undef), (39, .undef), (40, .undef), (41, .undef), (42, .undef), (43, .undef), (45, .undef), (46, .undef), (47, .undef), (48, .undef), (49, .undef), (50, .undef), (52, .undef), (53, .undef), (18, .own 51 (z.2.2.2.length - 1) 0 z.2.2.2.length false), (19, .box true [.v (.int .i64 ((z.1 : Int) - 1))]), (51, .rows none (z.2.2.2.length - 1) 3 1 (rowsI z.2.2.2))]) (fun _ => ())
    (fun z => z.1 ≤ many ∧ z.2.1 < l.ground.length ∧ (0 ≤ z.2.2.1 ∧ z.2.2.1 ≤ 20000) ∧ z.2.2.2.length = many - z.1 + 1 ∧ natL (f :: escL g many f x) = z.2.2.2 ++ natL (escL g z.1 z.2.1 z.2.2.1)) (fun z => z.1) (many, f, x, [(f : Int)]) ⟨Nat.le_refl _, hf, by simp only; omega, by simp, by simp [natL]⟩ rfl (by simp; rfl) ?_ ?_
  · simp [flyC, withinL, rrwL, ints, bools, rowsI]
  rintro ⟨i, c0, h0, d⟩ ⟨i1, i2, i3, i4, i5⟩
  simp only at i1 i2 i3 i4 i5
  obtain ⟨e, he⟩ : ∃ e, d.length = e + 1 := ⟨many - i, i4⟩
  refine XW_seqP mixed hlo (by decide) ?_
  rcases i with _ | k
  · simp [he]
    refine XW_pwp mixed hlo (by decide) ?_
    simp
    simp only [escL, natL, List.map_nil, List.append_nil] at i5
    refine ends_of (.tup [ints d, .v (.int .i64 0)]) [] [] rfl (by decide) ?_ ?_ (by rw [← i5]; rfl)
    · simp
    · simp [ints, he]
      intro j hj
      rw [rowsI_get (by omega)]
      simp
  · have gst : g.steps c0 = stepsL l c0 := by rw [← hg]; rfl
    have glf : g.left = leftF c a h := by rw [← hg]; rfl
    have gnn : g.n = l.ground.length := by rw [← hg]; rfl
    have rl := rnd_length g
    have hst := rsteps_spec c l a h c0
    have hwy := rway_spec c l a h hc
    have hwr : wayR c l a h = [.clo (.func (if c.engines = 1 then 145 else 147)) [.rp (flyC c l a h) 0] [], .clo (.func (if c.engines = 1 then 146 else 148)) [.rp (flyC c l a h) 0] []] := by
      unfold wayR; split <;> rfl
    rw [hwr] at hwy
    have hdt : d.take (e + 1) = d := List.take_of_length_le (by omega)
    have heb : e ≤ 200000000 := by omega
    have pF : plainL (flyC c l a h) = true := by simp [flyC, plainL, PV.plain, rrwL, ints, bools]
    simp [he, show (0 : Int) ≤ (k : Int) from by omega]
    refine XW_seqX (XW_block ?_)
    refine XW_seqX (XW_seqP mixed hlo (by decide) ?_)
    simp
    refine pop_spec hst rfl false (.inl (by simp [vwAll_plain pF])) (.inl rfl) rfl (by simp [genC]) ?_
    simp [genC]
    refine XW_block ?_
    refine XW_rangeI (by decide) mixed rfl (by rfl) (rsteps_gen c l a h c0 hl i2) (genL_plain l c0) (by decide) (by decide) 87 (by decide) [10, 11] (by decide)
      (fun n => if noS g (rnd g k) h0 (stepsL l c0) n = true then esV c l a h g K k e c0 h0 d else [])
      (fun n => esA c l a h g K k)
      (fun n => [.box false [.v (.int .i64 c0)], .box false [.v (.int .i64 h0)]]) ?_ (fun n hn hV => ?_) (fun n q hq hV => ?_) ?_
    · rw [hB0, if_pos (noS_iff.2 fun i s hi => absurd hi (Nat.not_lt_zero i))]
      simp [esV, he, vwAll_plain pF]
    · by_cases hs : noS g (rnd g k) h0 (stepsL l c0) n = true
      · rw [if_pos hs]
        refine ⟨rfl, ?_, slots_view (t := 61) ?_ rfl⟩
        · simp [esV]
        · simp [slots, esV, esA, vwAll_plain pF]
      · rw [if_neg hs] at hV; exact (hV rfl).elim
    · have hsn : ∃ s, (stepsL l c0)[n]? = some s ∧ q = .agg (stepC s) := by
        rw [genL, List.getElem?_map] at hq
        cases hs : (stepsL l c0)[n]? with
        | none => rw [hs] at hq; cases hq
        | some s => rw [hs] at hq; exact ⟨s, rfl, (Option.some.inj hq).symm⟩
      obtain ⟨s, hs, rfl⟩ := hsn
      obtain ⟨hs1, hs2⟩ := mem_steps hl i2 (List.mem_of_getElem? hs)
      by_cases hno : noS g (rnd g k) h0 (stepsL l c0) n = true
      · have hlf : Spec Tryz.prog (if c.engines = 1 then 145 else 147) [.rp (flyC c l a h) 0, .agg (stepC s), .v (.int .i64 h0)] (.v (.int .i64 (leftF c a h s.2 h0))) := by
          unfold leftF
          split
          · exact rleftOne_spec c l a h s _ hc ha hs2 (by omega)
          · exact rleftTwo_spec c l a h s _ hc (by omega)
        obtain ⟨h1, hh1⟩ : ∃ h1, leftF c a h s.2 h0 = h1 := ⟨_, rfl⟩
        rw [hh1] at hlf
        have hle := gok.left s.2 h0
        rw [glf, hh1] at hle
        have hokS : okS g (rnd g k) h0 s = decide (geti (rnd g k) s.1 ≤ h1) := by rw [okS, glf, hh1]; rfl
        have hge := rnd_ge gok k (c := s.1) (by rw [gnn]; exact hs1)
        have hge' : 0 ≤ geti (rnd g k) s.1 := hge
        simp only [stepC] at hlf
        rw [hB0]
        simp [esA, stepC]
        refine pwp_draw 7 (by decide) ?_
        simp
        refine pd_spec hwy (by simp) (by simp) (by simp [vwAll_plain pF]) (by simp) ?_
        simp
        refine pd_spec hlf (by simp) (by simp) (by simp [vwAll_plain pF]) rfl ?_
        simp
        refine ⟨by decide, ?_⟩
        refine pwp_draw 10 (by decide) ?_
        simp [withinL, ints, rl, gnn, hs1, show k < K + 1 from by omega, show (k : Int) < (K : Int) + 1 from by omega]
        refine ⟨by decide, ?_⟩
        by_cases hgo : geti (rnd g k) s.1 ≤ h1
        · have hfs : (stepsL l c0).find? (okS g (rnd g k) h0) = some s := findS_some hs (fun i s' hi hs' => noS_iff.1 hno i s' hi hs') (by rw [hokS]; simpa using hgo)
          have hes : escS g (rnd g k) c0 h0 = (s.1, h1) := by
            rw [escS, gst, show (fun s : Nat × Int × Int => decide (nt (rnd g k) s.1 ≤ g.left s.2 h0)) = okS g (rnd g k) h0 from rfl, hfs]
            simp only [glf, hh1]
          simp [hgo]
          refine rend_e [.box false [.v (.int .i64 (s.1 : Nat))], .box false [.v (.int .i64 h1)]] ?_ ?_
          · simp
          · rw [if_pos hno]
            simp [back, placeAll, esV, blockX, thenX]
            refine XW_pwp mixed hlo (by decide) ?_
            simp [he, show (e + 1 + 1) * 8 ≤ 140737488355328 from by omega, show e + 1 + 1 ≤ maxLen from by simp [maxLen]; omega]
            refine XW_pwp mixed hlo (by decide) ?_
            simp [i64_wrap (show -9223372036854775808 ≤ (k : Int) - 1 ∧ _ from by omega)]
            refine againX_of (k, s.1, h1, d ++ [(s.1 : Int)]) ⟨by simp only; omega, by simp only; omega, by simp only; omega, by simp [he]; omega, ?_⟩ (by simp only; omega) rfl ?_
            · simp only
              rw [i5, escL, hes]
              simp [natL]
            · simp [he, rowsI_snoc, hdt, withinL, ints, rl, gnn]
              intro r hr q hq
              rcases hr with ⟨a, _, rfl⟩ | rfl <;> (simp at hq; subst hq; rfl)
        · have hyes : noS g (rnd g k) h0 (stepsL l c0) (n + 1) = true := noS_iff.2 fun i s' hi hs' => by
            rcases Nat.lt_succ_iff_lt_or_eq.1 hi with hi | rfl
            · exact noS_iff.1 hno i s' hi hs'
            · rw [hs] at hs'
              obtain rfl := Option.some.inj hs'
              rw [hokS]; simpa using hgo
          simp [hgo]
          refine rend_n [.box false [.v (.int .i64 (c0 : Nat))], .box false [.v (.int .i64 h0)]] ?_ ?_
          · simp
          · rw [if_pos hno, if_pos hyes]
            simp [back, placeAll, esV, vwAll_plain pF]
      · rw [if_neg hno] at hV; exact (hV rfl).elim
    · intro hV
      by_cases hno : noS g (rnd g k) h0 (stepsL l c0) (genL l c0).length = true
      · rw [if_pos hno]
        have hfs : (stepsL l c0).find? (okS g (rnd g k) h0) = none := findS_none fun i s hs => noS_iff.1 hno i s (by
          have := (List.getElem?_eq_some_iff.1 hs).1
          simpa [genL] using this) hs
        have hes : escS g (rnd g k) c0 h0 = (c0, h0) := by
          rw [escS, gst, show (fun s : Nat × Int × Int => decide (nt (rnd g k) s.1 ≤ g.left s.2 h0)) = okS g (rnd g k) h0 from rfl, hfs]
        simp [esV, blockX, thenX]
        refine XW_pwp mixed hlo (by decide) ?_
        simp [he, show (e + 1 + 1) * 8 ≤ 140737488355328 from by omega, show e + 1 + 1 ≤ maxLen from by simp [maxLen]; omega]
        refine XW_pwp mixed hlo (by decide) ?_
        simp [i64_wrap (show -9223372036854775808 ≤ (k : Int) - 1 ∧ _ from by omega)]
        refine againX_of (k, c0, h0, d ++ [(c0 : Int)]) ⟨by simp only; omega, by simp only; omega, by simp only; omega, by simp [he]; omega, ?_⟩ (by simp only; omega) rfl ?_
        · simp only
          rw [i5, escL, hes]
          simp [natL]
        · simp [he, rowsI_snoc, hdt, withinL, ints, rl, gnn]
          intro r hr q hq
          rcases hr with ⟨a, _, rfl⟩ | rfl <;> (simp at hq; subst hq; rfl)
      · rw [if_neg hno] at hV; exact (hV rfl).elim
end Go.Qg


namespace Go.Qg
open Go.Proofs
set_option maxRecDepth 100000
set_option maxHeartbeats 32000000
attribute [local simp 2000] List.getElem?_cons_succ List.getElem?_cons_zero
attribute [local irreducible] pwp pops pdraw pop popCall pdCall thenP blockP scopeP pspec Spec answers ppost CallW rend
theorem t3in_spec (n lo hi : Int) : Spec Tryz.prog 127 [.v (.int .i64 n), .v (.int .i64 lo), .v (.int .i64 hi)] (.v (.bool (inB n lo hi))) := by
  refine spec_of mixed Tryz.func127 (by decide) rfl Tryz.results127 Tryz.ntmps127 (by decide) 0 (by simp) ?_
  by_cases h1 : lo ≤ n
  · by_cases h2 : n ≤ hi <;> (simp [h1, h2]; refine answers_of rfl ?_; simp [inB, h1, h2])
  · simp [h1]; refine answers_of rfl ?_; simp [inB, h1]
theorem t3table_spec (l : List Rrw) (way : Int) (hw : way = 1 ∨ way = -1) (hl : l.length ≤ 9223372036854775807) : Spec Tryz.prog 126 [rrwL l, .v (.int .i64 way)] (.v (.bool (tableB l way))) := by
  refine spec_of mixed Tryz.func126 (by decide) rfl Tryz.results126 Tryz.ntmps126 (by decide) 0 (by simp) ?_
  simp [rrwL]
  refine pwp_loop (fun k : Nat => [(5, .v (.int .i64 k))]) (fun k => k ≤ l.length ∧ ∀ j, j < k → rrwB l way j = true) (fun k => l.length - k) 0 ⟨Nat.zero_le _, fun j hj => by omega⟩ (by simp; rfl) (by simp) ?_
  intro k ⟨hk, hp⟩
  by_cases hkl : k < l.length
  · have no : rrwB l way k = false → tableB l way = false := fun h => by simp [tableB, allN_false hkl h]
    have go : rrwB l way k = true → ∀ i, i < k + 1 → rrwB l way i = true := fun hb i hi => by
      rcases Nat.lt_or_eq_of_le (Nat.le_of_lt_succ hi) with h' | rfl
      · exact hp i h'
      · exact hb
    have wk := i64_wrap (show -9223372036854775808 ≤ (k : Int) + 1 ∧ _ from by omega)
    have hel : (rrwAt l k).cells = [.v (.int .i64 (rrwAt l k).weight), .v (.int .i64 (rrwAt l k).metres)] := rfl
    simp [hkl]
    refine pwp_draw 52 (by decide) ?_
    simp [hkl, hel]
    refine pd_spec (t3in_spec (rrwAt l k).weight 0 100000) (by simp) (by simp) (by simp) rfl ?_
    cases h1 : inB (rrwAt l k).weight 0 100000 with
    | false =>
      simp
      refine ⟨by decide, ?_⟩
      refine answers_of rfl ?_; simp [no (by simp [rrwB, h1])]
    | true =>
    simp [hkl, hel]
    refine pd_spec (t3in_spec (rrwAt l k).metres 0 20000) (by simp) (by simp) (by simp) rfl ?_
    cases h2 : inB (rrwAt l k).metres 0 20000 with
    | false =>
      simp
      refine ⟨by decide, ?_⟩
      refine answers_of rfl ?_; simp [no (by simp [rrwB, h2])]
    | true =>
    have g2 := inB_spec.1 h2
    rcases Nat.eq_zero_or_pos k with h0 | h0
    · subst h0
      simp
      refine ⟨by decide, ?_⟩
      refine again_of 1 ⟨by omega, go (by simp [rrwB, h1, h2])⟩ (by omega) ?_
      simp
    · obtain ⟨j, rfl⟩ : ∃ j, k = j + 1 := ⟨k - 1, by omega⟩
      have hj := hp j (by omega)
      simp only [rrwB, Bool.and_eq_true] at hj
      have g1 := inB_spec.1 hj.1.2
      have hel2 : (rrwAt l j).cells = [.v (.int .i64 (rrwAt l j).weight), .v (.int .i64 (rrwAt l j).metres)] := rfl
      have wj := i64_wrap (show -9223372036854775808 ≤ (j : Int) ∧ _ from by omega)
      have wd := i64_wrap (show -9223372036854775808 ≤ way * (rrwAt l (j + 1)).metres ∧ _ from by rcases hw with rfl | rfl <;> omega)
      have wm := i64_wrap (show -9223372036854775808 ≤ way * (rrwAt l j).metres ∧ _ from by rcases hw with rfl | rfl <;> omega)
      have eq : (0 ≤ way * ((rrwAt l (j + 1)).metres - (rrwAt l j).metres)) ↔ ¬ way * (rrwAt l (j + 1)).metres < way * (rrwAt l j).metres := by rw [Int.mul_sub]; omega
      by_cases h3 : (rrwAt l (j + 1)).weight ≤ (rrwAt l j).weight
      · simp [show (0 : Int) ≤ (j : Int) + 1 from by omega, show (j : Int) + 1 < l.length from by omega, show (0 : Int) < (j : Int) + 1 from by omega, show ¬ (j : Int) + 1 ≤ 0 from by omega, wj, show j < l.length from by omega, hkl, hel, hel2, h3]
        refine ⟨by decide, ?_⟩
        refine answers_of rfl ?_; simp [no (by simp [rrwB]; intros; omega)]
      · by_cases h4 : way * (rrwAt l (j + 1)).metres < way * (rrwAt l j).metres
        · simp [show (0 : Int) ≤ (j : Int) + 1 from by omega, show (j : Int) + 1 < l.length from by omega, show (0 : Int) < (j : Int) + 1 from by omega, show ¬ (j : Int) + 1 ≤ 0 from by omega, wj, show j < l.length from by omega, hkl, hel, hel2, h3, wd, wm, h4]
          refine ⟨by decide, ?_⟩
          have h5 : decide (0 ≤ way * ((rrwAt l (j + 1)).metres - (rrwAt l j).metres)) = false := by rw [decide_eq_false_iff_not, eq]; omega
          refine answers_of rfl ?_; simp only [no (by simp [rrwB, h5])]; simp
        · simp [show (0 : Int) ≤ (j : Int) + 1 from by omega, show (j : Int) + 1 < l.length from by omega, show (0 : Int) < (j : Int) + 1 from by omega, show ¬ (j : Int) + 1 ≤ 0 from by omega, wj, show j < l.length from by omega, hkl, hel, hel2, h3, wd, wm, h4]
          refine ⟨by decide, ?_⟩
          have h5 : decide (0 ≤ way * ((rrwAt l (j + 1)).metres - (rrwAt l j).metres)) = true := by rw [decide_eq_true_eq, eq]; omega
          refine again_of (j + 1 + 1) ⟨by omega, go (by simp only [rrwB, h1, h2, Nat.add_sub_cancel, h5]; simp; omega)⟩ (by omega) ?_
          simp [i64_wrap (show -9223372036854775808 ≤ (j : Int) + 1 + 1 ∧ _ from by omega)]
  · obtain rfl : k = l.length := by omega
    have ha := allN_spec.2 hp
    simp
    refine pop_spec (t3in_spec l.length 1 12) rfl false (.inl (by simp)) (.inl rfl) rfl (by simp) ?_
    simp
    refine answers_of rfl ?_; simp [tableB, ha]
theorem t3Craft_spec (c : Crf) (hm : CrfMem c) : Spec Tryz.prog 50 [.agg c.cells] (.v (.bool (crfB c))) := by
  have hsp : spanB ⟨c.glass, c.rough⟩ 0 2000 = (inB c.glass 0 c.rough && decide (c.rough ≤ 2000)) := rfl
  have hno : spanB ⟨c.glass, c.rough⟩ 0 2000 = false → crfB c = false := fun h => by
    rw [hsp] at h
    rw [crfB, Bool.and_assoc (_ && _) (inB c.glass 0 c.rough), h]
    simp
  refine spec_of mixed Tryz.func50 (by decide) rfl Tryz.results50 Tryz.ntmps50 (by decide) 0 (by simp) ?_
  simp [Crf.cells, rrwL]
  refine pop_spec (t3table_spec c.off 1 (.inl rfl) hm.off) rfl false (.inl (by simp [rrwL, Spn.cells])) (.inl rfl) rfl (by simp) ?_
  cases h1 : tableB c.off 1 with
  | false => simp; refine answers_of rfl ?_; simp [crfB, h1]
  | true =>
  simp
  refine pop_spec (t3table_spec c.on 1 (.inl rfl) hm.on) rfl false (.inl (by simp [rrwL, Spn.cells])) (.inl rfl) rfl (by simp) ?_
  cases h2 : tableB c.on 1 with
  | false => simp; refine answers_of rfl ?_; simp [crfB, h2]
  | true =>
  simp
  refine pop_spec (t3table_spec c.ceilings (-1) (.inr rfl) hm.ceil) rfl false (.inl (by simp [rrwL, Spn.cells])) (.inl rfl) rfl (by simp) ?_
  cases h3 : tableB c.ceilings (-1) with
  | false => simp; refine answers_of rfl ?_; simp [crfB, h3]
  | true =>
  simp
  refine pop_spec (t1Span_spec ⟨c.glass, c.rough⟩ 0 2000) rfl false (.inl (by simp [rrwL, Spn.cells])) (.inl rfl) rfl (by simp) ?_
  cases h4 : spanB ⟨c.glass, c.rough⟩ 0 2000 with
  | false => simp; refine answers_of rfl ?_; simp [hno h4]
  | true =>
  simp
  have h4' := h4
  rw [hsp, Bool.and_eq_true, decide_eq_true_eq] at h4'
  refine pop_spec (t3in_spec c.glassBy 1000 5000) rfl false (.inl (by simp [rrwL, Spn.cells])) (.inl rfl) rfl (by simp) ?_
  cases h5 : inB c.glassBy 1000 5000 with
  | false => simp; refine answers_of rfl ?_; simp [crfB, h5]
  | true =>
  simp
  refine pop_spec (t3in_spec c.roughBy 1000 5000) rfl false (.inl (by simp [rrwL, Spn.cells])) (.inl rfl) rfl (by simp) ?_
  cases h6 : inB c.roughBy 1000 5000 with
  | false => simp; refine answers_of rfl ?_; simp [crfB, h6]
  | true =>
  simp
  refine pop_spec (t3in_spec c.head 0 50) rfl false (.inl (by simp [rrwL, Spn.cells])) (.inl rfl) rfl (by simp) ?_
  cases h7 : inB c.head 0 50 with
  | false => simp; refine answers_of rfl ?_; simp [crfB, h7]
  | true =>
  simp
  refine pop_spec (t3in_spec c.tail 0 50) rfl false (.inl (by simp [rrwL, Spn.cells])) (.inl rfl) rfl (by simp) ?_
  cases h8 : inB c.tail 0 50 with
  | false => simp; refine answers_of rfl ?_; simp [crfB, h8]
  | true =>
  simp
  refine pop_spec (t3in_spec c.engines 1 2) rfl false (.inl (by simp [rrwL, Spn.cells])) (.inl rfl) rfl (by simp) ?_
  cases h9 : inB c.engines 1 2 with
  | false => simp; refine answers_of rfl ?_; simp [crfB, h9]
  | true =>
  simp
  refine pop_spec (t3in_spec c.fall 1 20000) rfl false (.inl (by simp [rrwL, Spn.cells])) (.inl rfl) rfl (by simp) ?_
  cases h10 : inB c.fall 1 20000 with
  | false => simp; refine answers_of rfl ?_; simp [crfB, h10]
  | true =>
  simp
  refine pop_spec (t3in_spec c.drag 0 50) rfl false (.inl (by simp [rrwL, Spn.cells])) (.inl rfl) rfl (by simp) ?_
  cases h11 : inB c.drag 0 50 with
  | false => simp; refine answers_of rfl ?_; simp [crfB, h11]
  | true =>
  simp
  refine pop_spec (t3in_spec c.sink 0 20000) rfl false (.inl (by simp [rrwL, Spn.cells])) (.inl rfl) rfl (by simp) ?_
  simp
  refine answers_of rfl ?_; simp [crfB, h1, h2, h3, h4', h5, h6, h7, h8, h9, h10, h11]
theorem t3Air_spec (a : Arr) : Spec Tryz.prog 52 [.agg a.cells] (.v (.bool (arrB a))) := by
  refine spec_of mixed Tryz.func52 (by decide) rfl Tryz.results52 Tryz.ntmps52 (by decide) 0 (by simp) ?_
  simp [Arr.cells]
  refine pop_spec (t1Span_spec a.east (-300) 300) rfl false (.inl (by simp [Spn.cells])) (.inl rfl) rfl (by simp) ?_
  cases h1 : spanB a.east (-300) 300 with
  | false => simp; refine answers_of rfl ?_; simp [arrB, h1]
  | true =>
  simp
  refine pop_spec (t1Span_spec a.north (-300) 300) rfl false (.inl (by simp [Spn.cells])) (.inl rfl) rfl (by simp) ?_
  simp
  refine answers_of rfl ?_; simp [arrB, h1]
theorem t3Weight_spec (n : Int) : Spec Tryz.prog 53 [.v (.int .i64 n)] (.v (.bool (inB n 0 100000))) := by
  refine spec_of mixed Tryz.func53 (by decide) rfl Tryz.results53 Tryz.ntmps53 (by decide) 0 (by simp) ?_
  simp
  refine pop_spec (t3in_spec n 0 100000) rfl false (.inl (by simp)) (.inl rfl) rfl (by simp) ?_
  simp
  refine answers_of rfl ?_; simp
theorem t3Land_spec (l : Lnd) (hl : l.ground.length ≤ 9223372036854775807) : Spec Tryz.prog 51 [.agg l.cells] (.v (.bool (lndB l))) := by
  refine spec_of mixed Tryz.func51 (by decide) rfl Tryz.results51 Tryz.ntmps51 (by decide) 0 (by simp) ?_
  simp [Lnd.cells, ints, bools]
  refine pop_spec (t3in_spec l.wide 1 12) rfl false (.inl (by simp)) (.inl rfl) rfl (by simp) ?_
  cases h1 : inB l.wide 1 12 with
  | false => simp; refine answers_of rfl ?_; simp [lndB, h1]
  | true =>
  simp
  refine pop_spec (t3in_spec l.deep 1 12) rfl false (.inl (by simp)) (.inl rfl) rfl (by simp) ?_
  cases h2 : inB l.deep 1 12 with
  | false => simp; refine answers_of rfl ?_; simp [lndB, h2]
  | true =>
  have g1 := inB_spec.1 h1
  have g2 := inB_spec.1 h2
  have hm : l.wide * l.deep ≤ 144 := Int.le_trans (Int.mul_le_mul g1.2 g2.2 (by omega) (by omega)) (by omega)
  have hm0 : 0 ≤ l.wide * l.deep := Int.mul_nonneg (by omega) (by omega)
  have wm := i64_wrap (show -9223372036854775808 ≤ l.wide * l.deep ∧ _ from by omega)
  by_cases h3 : (l.ground.length : Int) = l.wide * l.deep
  rotate_left
  · simp [wm, h3]; refine answers_of rfl ?_; simp [lndB, h3]
  by_cases h4 : l.water.length = l.ground.length
  rotate_left
  · simp [wm, eq_true h3, show ¬ (l.water.length : Int) = l.ground.length from by omega]; refine answers_of rfl ?_; simp [lndB, h4]
  simp [wm, eq_true h3, eq_true (show (l.water.length : Int) = l.ground.length from by omega)]
  refine pop_spec (t3in_spec l.clear 0 20000) rfl false (.inl (by simp)) (.inl rfl) rfl (by simp) ?_
  cases h5 : inB l.clear 0 20000 with
  | false => simp [wm, eq_true h3, eq_true (show (l.water.length : Int) = l.ground.length from by omega)]; refine answers_of rfl ?_; simp [lndB, h5]
  | true =>
  simp [wm, eq_true h3, eq_true (show (l.water.length : Int) = l.ground.length from by omega)]
  refine pwp_loop (fun k : Nat => [(3, .v (.int .i64 k))]) (fun k => k ≤ l.ground.length ∧ ∀ j, j < k → inB (geti l.ground j) 0 20000 = true) (fun k => l.ground.length - k) 0 ⟨Nat.zero_le _, fun j hj => by omega⟩ (by simp; rfl) (by simp) ?_
  intro k ⟨hk, hp⟩
  by_cases hkl : k < l.ground.length
  · simp [hkl]
    refine pop_spec (t3in_spec (geti l.ground k) 0 20000) rfl false (.inl (by simp)) (.inl rfl) rfl (by simp) ?_
    cases h6 : inB (geti l.ground k) 0 20000 with
    | false => simp; refine answers_of rfl ?_; simp [lndB, allN_false (p := fun k => inB (geti l.ground k) 0 20000) hkl h6]
    | true =>
      simp
      refine again_of (k + 1) ⟨by omega, fun j hj => ?_⟩ (by omega) ?_
      · rcases Nat.lt_succ_iff_lt_or_eq.1 hj with hj | rfl
        · exact hp j hj
        · exact h6
      · simp [i64_wrap (show -9223372036854775808 ≤ (k : Int) + 1 ∧ _ from by omega)]
  · obtain rfl : k = l.ground.length := by omega
    have ha := allN_spec.2 hp
    simp
    refine answers_of rfl ?_; simp [lndB, ha, h1, h2, h3, h4, h5]
def saysR (l : List Rrw) (w : Int) : List PV := match findI (fun k => decide (w ≤ (rrwAt l k).weight)) l.length with
  | some k => [.v (.int .i64 (rrwAt l k).metres), .v (.bool true)]
  | none => [.v (.int .i64 0), .v (.bool false)]
theorem t3Says_spec (l : List Rrw) (w : Int) (hl : l.length ≤ 9223372036854775807) : Spec Tryz.prog 54 [rrwL l, .v (.int .i64 w)] (.tup (saysR l w)) := by
  refine spec_of mixed Tryz.func54 (by decide) rfl Tryz.results54 Tryz.ntmps54 (by decide) 0 (by simp) ?_
  simp [rrwL]
  refine pwp_loop (fun k : Nat => [(6, .v (.int .i64 k))]) (fun k => k ≤ l.length ∧ findI (fun k => decide (w ≤ (rrwAt l k).weight)) k = none) (fun k => l.length - k) 0 ⟨Nat.zero_le _, rfl⟩ (by simp; rfl) (by simp) ?_
  intro k ⟨hk, hp⟩
  by_cases hkl : k < l.length
  · have hel : (rrwAt l k).cells = [.v (.int .i64 (rrwAt l k).weight), .v (.int .i64 (rrwAt l k).metres)] := rfl
    by_cases h1 : w ≤ (rrwAt l k).weight
    · simp [hkl, hel, h1]
      refine answers_of rfl ?_
      simp [saysR, findI_some (p := fun k => decide (w ≤ (rrwAt l k).weight)) (by simpa using h1) hp hkl]
    · simp [hkl, hel, h1]
      refine again_of (k + 1) ⟨by omega, by simp [findI, hp, h1]⟩ (by omega) ?_
      simp [i64_wrap (show -9223372036854775808 ≤ (k : Int) + 1 ∧ _ from by omega)]
  · obtain rfl : k = l.length := by omega
    simp
    refine answers_of rfl ?_
    simp [saysR, hp]
theorem says_some {l : List Rrw} {w : Int} {k : Nat} (ht : tableB l (-1) = true) (h : findI (fun k => decide (w ≤ (rrwAt l k).weight)) l.length = some k) : saysB l w = true := by
  obtain ⟨hk, hw⟩ := findI_get h
  simp only [decide_eq_true_eq] at hw
  simp only [tableB, Bool.and_eq_true, allN_spec] at ht
  have up : ∀ j, k ≤ j → j < l.length → w ≤ (rrwAt l j).weight := by
    intro j
    induction j with
    | zero => intro h0 _; obtain rfl : k = 0 := by omega
              exact hw
    | succ j ih =>
      intro h0 h1
      rcases Nat.lt_or_eq_of_le h0 with h2 | rfl
      · have := ih (by omega) (by omega)
        have hr := ht.1 (j + 1) h1
        simp [rrwB] at hr
        omega
      · exact hw
  have := firstZ_lt (p := fun k : Int => decide (w ≤ (rrwAt l k.toNat).weight)) (lo := 0) (hi := l.length) (by omega) (by
    have := up (l.length - 1) (by omega) (by omega)
    simpa [show ((l.length : Int) - 1).toNat = l.length - 1 from by omega] using this)
  have h2 : saysI l w < l.length := this
  simp [saysB]
  omega
end Go.Qg


namespace Go.Qg
open Go.Proofs
set_option maxRecDepth 100000
set_option maxHeartbeats 32000000
attribute [local simp 2000] List.getElem?_cons_succ List.getElem?_cons_zero
attribute [local irreducible] pwp pops pdraw pop popCall pdCall thenP blockP scopeP pspec Spec answers ppost CallW rend
def short20B (s : SeaD) : Bool := decide (s.tide.readings.length ≤ 12) && decide (s.east.readings.length ≤ 12) && decide (s.north.readings.length ≤ 12) && decide (s.wave.readings.length ≤ 12) && decide (s.swell.readings.length ≤ 12)
def sea20B (s : SeaD) : Bool := short20B s && seaB s && soundB s
theorem sea20_spec (s : SeaD) (hs : SeaMem s) : Spec Tryz.prog 13 [.agg s.cells] (.v (.bool (sea20B s))) := by
  have hsea := t1Sea_spec s hs
  simp only [SeaD.cells, rdgL, spnL, boaL, glaL] at hsea
  refine spec_of mixed Tryz.func13 (by decide) rfl Tryz.results13 Tryz.ntmps13 (by decide) 0 (by simp) ?_
  simp [SeaD.cells, rdgL, spnL, boaL, glaL]
  by_cases h_tide : s.tide.readings.length ≤ 12
  rotate_left
  · simp [show ¬ (s.tide.readings.length : Int) ≤ 12 from by omega]
    refine answers_of rfl ?_; simp [sea20B, short20B, h_tide]
  by_cases h_east : s.east.readings.length ≤ 12
  rotate_left
  · simp [show (s.tide.readings.length : Int) ≤ 12 from by omega, show ¬ (s.east.readings.length : Int) ≤ 12 from by omega]
    refine answers_of rfl ?_; simp [sea20B, short20B, h_east]
  by_cases h_north : s.north.readings.length ≤ 12
  rotate_left
  · simp [show (s.tide.readings.length : Int) ≤ 12 from by omega, show (s.east.readings.length : Int) ≤ 12 from by omega, show ¬ (s.north.readings.length : Int) ≤ 12 from by omega]
    refine answers_of rfl ?_; simp [sea20B, short20B, h_north]
  by_cases h_wave : s.wave.readings.length ≤ 12
  rotate_left
  · simp [show (s.tide.readings.length : Int) ≤ 12 from by omega, show (s.east.readings.length : Int) ≤ 12 from by omega, show (s.north.readings.length : Int) ≤ 12 from by omega, show ¬ (s.wave.readings.length : Int) ≤ 12 from by omega]
    refine answers_of rfl ?_; simp [sea20B, short20B, h_wave]
  by_cases h_swell : s.swell.readings.length ≤ 12
  rotate_left
  · simp [show (s.tide.readings.length : Int) ≤ 12 from by omega, show (s.east.readings.length : Int) ≤ 12 from by omega, show (s.north.readings.length : Int) ≤ 12 from by omega, show (s.wave.readings.length : Int) ≤ 12 from by omega, show ¬ (s.swell.readings.length : Int) ≤ 12 from by omega]
    refine answers_of rfl ?_; simp [sea20B, short20B, h_swell]
  simp [show (s.tide.readings.length : Int) ≤ 12 from by omega, show (s.east.readings.length : Int) ≤ 12 from by omega, show (s.north.readings.length : Int) ≤ 12 from by omega, show (s.wave.readings.length : Int) ≤ 12 from by omega, show (s.swell.readings.length : Int) ≤ 12 from by omega]
  refine pop_spec hsea rfl false (.inl (by simp)) (.inl rfl) rfl (by simp) ?_
  cases h1 : seaB s with
  | false => simp; refine answers_of rfl ?_; simp [sea20B, h1]
  | true =>
  have ho := seaB_ok h1
  have hso := t1Sound_spec ⟨s.tide, s.east, s.north, s.wave, s.swell⟩ ho.tide.1 ho.east.1 ho.north.1 ho.wave.1 ho.swell.1
  simp only [Wth.cells, wthC, rdgL] at hso
  simp
  refine pop_spec hso rfl false (.inl (by simp)) (.inl rfl) rfl (by simp) ?_
  simp
  refine answers_of rfl ?_
  simp [sea20B, short20B, h1, soundB, h_tide, h_east, h_north, h_wave, h_swell]
def says20 (l : List Rrw) (w : Int) : Bool := (findI (fun k => decide (w ≤ (rrwAt l k).weight)) l.length).isSome
def craft20B (c : Crf) (l : Lnd) (a : Arr) (w : Int) : Bool := crfB c && lndB l && arrB a && inB w 0 100000 && (says20 c.ceilings w || decide (c.engines = 1))
theorem craft20_spec (c : Crf) (l : Lnd) (a : Arr) (w : Int) (hm : CrfMem c) (hg : l.ground.length ≤ 9223372036854775807) : Spec Tryz.prog 15 [.agg c.cells, .agg l.cells, .agg a.cells, .v (.int .i64 w)] (.v (.bool (craft20B c l a w))) := by
  refine spec_of mixed Tryz.func15 (by decide) rfl Tryz.results15 Tryz.ntmps15 (by decide) 0 (by simp) ?_
  simp [Crf.cells, Lnd.cells, Arr.cells, rrwL, ints, bools]
  refine pop_spec (t3Craft_spec c hm) rfl false (.inl (by simp [Crf.cells, rrwL])) (.inl rfl) rfl (by simp) ?_
  cases h1 : crfB c with
  | false => simp; refine answers_of rfl ?_; simp [craft20B, h1]
  | true =>
  simp
  refine pop_spec (t3Land_spec l hg) rfl false (.inl (by simp [Lnd.cells, ints, bools])) (.inl rfl) rfl (by simp) ?_
  cases h2 : lndB l with
  | false => simp; refine answers_of rfl ?_; simp [craft20B, h2]
  | true =>
  simp
  refine pop_spec (t3Air_spec a) rfl false (.inl (by simp [Arr.cells])) (.inl rfl) rfl (by simp) ?_
  cases h3 : arrB a with
  | false => simp; refine answers_of rfl ?_; simp [craft20B, h3]
  | true =>
  simp
  refine pop_spec (t3Weight_spec w) rfl false (.inl (by simp)) (.inl rfl) rfl (by simp) ?_
  cases h4 : inB w 0 100000 with
  | false => simp; refine answers_of rfl ?_; simp [craft20B, h4]
  | true =>
  simp
  refine pop_spec (t3Says_spec c.ceilings w hm.ceil) rfl false (.inl (by simp [rrwL])) (.inl rfl) (by unfold saysR; split <;> rfl) (by simp) ?_
  cases h5 : findI (fun k => decide (w ≤ (rrwAt c.ceilings k).weight)) c.ceilings.length with
  | some k =>
    simp [saysR, h5]
    refine answers_of rfl ?_
    simp [craft20B, h1, h2, h3, h4, says20, h5]
  | none =>
    by_cases h6 : c.engines = 1
    · simp [saysR, h5, h6]
      refine answers_of rfl ?_
      simp [craft20B, h1, h2, h3, h4, says20, h5, h6]
    · simp [saysR, h5, h6]
      refine answers_of rfl ?_
      simp [craft20B, says20, h5, h6]
theorem craft20_start {c : Crf} {l : Lnd} {a : Arr} {w : Int} (h : craft20B c l a w = true) (wat : List Bool) (hw : wat.length = l.ground.length) : startE c { l with water := wat } a w true = 0 := by
  simp only [craft20B, Bool.and_eq_true, Bool.or_eq_true, decide_eq_true_eq] at h
  obtain ⟨⟨⟨⟨h1, h2⟩, h3⟩, h4⟩, h5⟩ := h
  have h2' : lndB { l with water := wat } = true := by
    simp only [lndB, Bool.and_eq_true, decide_eq_true_eq] at h2 ⊢
    exact ⟨⟨⟨⟨⟨h2.1.1.1.1.1, h2.1.1.1.1.2⟩, h2.1.1.1.2⟩, h2.1.1.2⟩, hw⟩, h2.2⟩
  rw [startE, h1, h2', h3, h4]
  have hne : ¬ (saysB c.ceilings w = false ∧ c.engines = 2) := by
    rintro ⟨e1, e2⟩
    rcases h5 with h5 | h5
    · rw [says20, Option.isSome_iff_exists] at h5
      obtain ⟨k, hk⟩ := h5
      have ht : tableB c.ceilings (-1) = true := by
        simp only [crfB, Bool.and_eq_true] at h1
        exact h1.1.2
      rw [says_some ht hk] at e1
      cases e1
    · omega
  simp [hne]
def knCr : Crf := ⟨[⟨2500, 300⟩, ⟨3000, 420⟩, ⟨3500, 600⟩], [⟨3500, 500⟩], 5, 40, 1300, 1200, 2, 5, 1, 100, 2, [⟨3000, 200⟩, ⟨4000, 120⟩], 30⟩
def knLd : Lnd := ⟨4, 1, [0, 100, 300, 0], [true, false, false, false], 50⟩
def knAr : Arr := ⟨⟨-10, 20⟩, ⟨0, 0⟩⟩
theorem lt2k {p : Nat → Prop} (h0 : p 0) (h1 : p 1) : ∀ k, k < 2 → p k := fun k hk => by
  obtain rfl | rfl : k = 0 ∨ k = 1 := by omega
  · exact h0
  · exact h1
theorem lt3q {p : Nat → Prop} (h0 : p 0) (h1 : p 1) (h2 : p 2) : ∀ k, k < 3 → p k := fun k hk => by
  obtain rfl | rfl | rfl : k = 0 ∨ k = 1 ∨ k = 2 := by omega
  · exact h0
  · exact h1
  · exact h2
theorem knCr_spec : Spec Tryz.prog 55 [] (.agg knCr.cells) := by
  refine spec_of mixed Tryz.func55 (by decide) rfl Tryz.results55 Tryz.ntmps55 (by decide) 0 (by simp) ?_
  simp
  refine answers_of (x := .agg [.own 4 0 0 3 false, .own 6 0 0 1 false, .v (.int .i64 5), .v (.int .i64 40), .v (.int .i64 1300), .v (.int .i64 1200), .v (.int .i64 2), .v (.int .i64 5), .v (.int .i64 1), .v (.int .i64 100), .v (.int .i64 2), .own 9 0 0 2 false, .v (.int .i64 30)]) (by simp) ?_
  simp [knCr, Crf.cells, rrwL]
  refine ⟨lt3q ?_ ?_ ?_, ?_, lt2k ?_ ?_⟩ <;> simp [rrwAt, Rrw.cells]
theorem knLd_spec : Spec Tryz.prog 56 [] (.agg knLd.cells) := by
  refine spec_of mixed Tryz.func56 (by decide) rfl Tryz.results56 Tryz.ntmps56 (by decide) 0 (by simp) ?_
  simp
  refine answers_of (x := .agg [.v (.int .i64 4), .v (.int .i64 1), .own 1 0 0 4 false, .own 2 0 0 4 false, .v (.int .i64 50)]) (by simp) ?_
  simp [knLd, Lnd.cells, ints, bools]
  refine ⟨lt4k ?_ ?_ ?_ ?_, lt4k ?_ ?_ ?_ ?_⟩ <;> simp [geti, getb]
theorem knAr_spec : Spec Tryz.prog 57 [] (.agg knAr.cells) := by
  refine spec_of mixed Tryz.func57 (by decide) rfl Tryz.results57 Tryz.ntmps57 (by decide) 0 (by simp) ?_
  simp
  refine answers_of (x := .agg knAr.cells) (by simp [knAr, Arr.cells]) ?_
  simp [knAr, Arr.cells]
theorem knG_eq (h : Int) : gldOf knCr knLd knAr h = gldOf knCr knLd knAr 0 := by
  have e1 : needF knCr knAr h = needF knCr knAr 0 := by funext d x; simp [needF, knCr]
  have e2 : leftF knCr knAr h = leftF knCr knAr 0 := by funext d x; simp [leftF, knCr]
  simp only [gldOf, e1, e2]
theorem kn_rnds : rnd (gldOf knCr knLd knAr 0) 0 = [0, 1000000, 1000000, 1000000] ∧ rnd (gldOf knCr knLd knAr 0) 1 = [0, 150, 1000000, 1000000] ∧ rnd (gldOf knCr knLd knAr 0) 2 = [0, 150, 350, 1000000] ∧ rnd (gldOf knCr knLd knAr 0) 3 = [0, 150, 350, 490] ∧ rnd (gldOf knCr knLd knAr 0) 4 = [0, 150, 350, 490] := by
  refine ⟨?_, ?_, ?_, ?_, ?_⟩ <;> kernel_rfl
theorem kn_stops (h : Int) : Stops (gldOf knCr knLd knAr h) 3 := by
  rw [knG_eq]
  obtain ⟨r0, r1, r2, r3, r4⟩ := kn_rnds
  refine ⟨by rw [r4, r3], lt3q ?_ ?_ ?_⟩
  · rw [r0, r1]; decide
  · rw [r1, r2]; decide
  · rw [r2, r3]; decide
theorem kn_start : startE knCr knLd knAr 3000 true = 0 := by
  have h1 : (crfB knCr && lndB knLd && arrB knAr && inB 3000 0 100000 && true) = true := by kernel_rfl
  rw [startE, if_pos h1, if_neg]
  rintro ⟨_, h⟩
  exact absurd h (by decide)
theorem kn_needs : needsR knCr knLd knAr 3000 3 = .tup [ints [0, 150, 350, 490], .v (.int .i64 0)] := by
  rw [needsR, if_pos kn_start, knG_eq, kn_rnds.2.2.2.1]
theorem ext_getiL {a b : List Int} (hl : a.length = b.length) (h : ∀ j, j < b.length → geti a j = geti b j) : a = b := by
  refine List.ext_getElem hl fun i h1 h2 => ?_
  have := h i h2
  simpa [geti, List.getD, h1, h2] using this
theorem t1Same_spec (a b : List Int) (ha : a.length ≤ 9223372036854775807) (hb : b.length ≤ 9223372036854775807) : Spec Tryz.prog 58 [ints a, ints b] (.v (.bool (decide (a = b)))) := by
  refine spec_of mixed Tryz.func58 (by decide) rfl Tryz.results58 Tryz.ntmps58 (by decide) 0 (by simp) ?_
  simp [ints]
  by_cases hl : a.length = b.length
  · simp [hl]
    refine pwp_loop (fun k : Nat => [(5, .v (.int .i64 k))]) (fun k => k ≤ b.length ∧ ∀ j, j < k → geti a j = geti b j) (fun k => b.length - k) 0 ⟨Nat.zero_le _, fun j hj => by omega⟩ (by simp; rfl) (by simp [hl]) ?_
    intro k ⟨hk, hp⟩
    by_cases hkl : k < b.length
    · have wk := i64_wrap (show -9223372036854775808 ≤ (k : Int) + 1 ∧ _ from by omega)
      simp [hkl, hl]
      refine pwp_draw 9 (by decide) ?_
      by_cases he : geti a k = geti b k
      · simp [hkl, hl, he]
        refine ⟨by decide, ?_⟩
        refine again_of (k + 1) ⟨by omega, fun j hj => ?_⟩ (by omega) ?_
        · rcases Nat.lt_succ_iff_lt_or_eq.1 hj with hj | rfl
          · exact hp j hj
          · exact he
        · simp [wk, hl]
      · simp [hkl, hl, he]
        refine ⟨by decide, ?_⟩
        have hne : ¬ a = b := fun h => he (by rw [h])
        refine answers_of rfl ?_; simp [hne]
    · simp [hkl]
      have heq : a = b := ext_getiL hl fun j hj => hp j (by omega)
      refine answers_of rfl ?_; simp [heq]
  · simp [show ¬ (a.length : Int) = b.length from by omega]
    have hne : ¬ a = b := fun h => hl (by rw [h])
    refine answers_of rfl ?_; simp [hne]
theorem known20_spec : Spec Tryz.prog 16 [] (.v (.bool true)) := by
  have hfuel := Fuel_spec knP knT knP_fit knT_fit
  rw [k_fuel] at hfuel
  have hnd := Needs_spec knCr knLd knAr 3000 3 ⟨by simp [knCr], by simp [knCr], by simp [knCr]⟩ (by simp [knLd]) fun _ => kn_stops _
  rw [kn_needs] at hnd
  have hs := t1Same_spec [0, 150, 350, 490] [0, 150, 350, 490] (by simp) (by simp)
  have pP : plainL knP.cells = true := by simp [Pln.cells, plainL, PV.plain, cnrL, stnL]
  have oP : (∀ (x : PV), x ∈ knP.cells → x.one = true) ↔ True := ⟨fun _ => trivial, fun _ => by simp [Pln.cells, cnrL, stnL]⟩
  have pT : (PV.sl 7 knT.length fun i => (legAt knT i).cells).plain = true := by simp [PV.plain]
  have pC : plainL knCr.cells = true := by simp [Crf.cells, plainL, PV.plain, rrwL]
  have oC : (∀ (x : PV), x ∈ knCr.cells → x.one = true) ↔ True := ⟨fun _ => trivial, fun _ => by simp [Crf.cells, rrwL]⟩
  have pL : plainL knLd.cells = true := by simp [Lnd.cells, plainL, PV.plain, ints, bools]
  have oL : (∀ (x : PV), x ∈ knLd.cells → x.one = true) ↔ True := ⟨fun _ => trivial, fun _ => by simp [Lnd.cells, ints, bools]⟩
  have pA : plainL knAr.cells = true := by simp [Arr.cells, plainL, PV.plain]
  have oA : (∀ (x : PV), x ∈ knAr.cells → x.one = true) ↔ True := ⟨fun _ => trivial, fun _ => by simp [Arr.cells]⟩
  have hT := lT_spec
  simp only [legL] at hT hfuel
  refine spec_of mixed Tryz.func16 (by decide) rfl Tryz.results16 Tryz.ntmps16 (by decide) 0 (by simp) ?_
  simp
  refine pop_spec knCr_spec rfl false (.inl (by simp)) (.inl rfl) rfl (by simp) ?_
  simp
  refine pop_spec knLd_spec rfl false (.inl (by simp)) (.inl rfl) rfl (by simp) ?_
  simp
  refine pop_spec knAr_spec rfl false (.inl (by simp)) (.inl rfl) rfl (by simp) ?_
  simp
  refine pop_spec hnd rfl false (.inl (by simp [vwAll_plain pC, vwAll_plain pL, vwAll_plain pA, oC, oL, oA])) (.inl rfl) rfl (by simp [ints]) ?_
  simp
  refine pop_spec lP_spec rfl false (.inl (by simp)) (.inl rfl) rfl (by simp) ?_
  simp
  refine pop_spec hT rfl false (.inl (by simp)) (.inl rfl) rfl (by simp) ?_
  simp
  refine pop_spec hfuel rfl false (.inl (by simp [vwAll_plain pP, vw_plain pT, oP])) (.inl rfl) rfl (by simp) ?_
  simp [ints]
  simp only [ints] at hs
  refine pop_specF [(26, .sl 1 4 fun i => [.v (.int .i64 (geti [0, 150, 350, 490] i))])] ?_ hs rfl false (.inl ?_) (.inl rfl) rfl (by simp) ?_
  · simp [vwAll_plain pC, vwAll_plain pL, vwAll_plain pA, oC, oL, oA, vwAll_plain pP, vw_plain pT, oP]
    refine lt4k ?_ ?_ ?_ ?_ <;> simp [geti]
  · simp
  simp
  refine answers_of rfl ?_; simp
end Go.Qg

