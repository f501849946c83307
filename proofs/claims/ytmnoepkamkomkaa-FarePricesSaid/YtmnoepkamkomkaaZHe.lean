/-
  FarePrices: for every table, offer and person the law returns true, and leaves its arguments as they were.
  No condition.
-/
import Derived.Test.YtmnoepkamkomkaaZ5
set_option linter.all false

/-! Contracts of the reference's functions in, Sum, Lengths, Share. No condition. -/
namespace Go.Qg
open Go.Proofs
set_option maxRecDepth 100000
set_option maxHeartbeats 4000000
attribute [local irreducible] pwp pops pdraw pop popCall pdCall thenP blockP scopeP pspec Spec answers ppost CallW rend

theorem rin_spec (n lo hi : Int) : Spec Try.prog 71 [.v (.int .i64 n), .v (.int .i64 lo), .v (.int .i64 hi)] (.v (.bool (inB n lo hi))) := by
  refine spec_of mixed Try.func71 (by decide) rfl Try.results71 Try.ntmps71 (by decide) 0 (by simp) ?_
  by_cases h1 : lo ≤ n
  · by_cases h2 : n ≤ hi <;> (simp [h1, h2]; refine answers_of rfl ?_; simp [inB, h1, h2])
  · simp [h1]; refine answers_of rfl ?_; simp [inB, h1]

theorem rSum_spec (l : List Int) (hl : l.length ≤ 9223372036854775807) : Spec Try.prog 37 [ints l] (.v (.int .i64 (sumL l))) := by
  refine spec_of mixed Try.func37 (by decide) rfl Try.results37 Try.ntmps37 (by decide) 0 (by simp) ?_
  simp [ints]
  refine pwp_loop (fun k : Nat => [(3, .v (.int .i64 (sumL (l.take k)))), (4, .v (.int .i64 k))]) (fun k => k ≤ l.length) (fun k => l.length - k) 0 (Nat.zero_le _) (by simp; rfl) (by simp [sumL]) ?_
  intro k hk
  by_cases h : k < l.length
  · simp [h]
    refine again_of (k + 1) (by omega) (by omega) ?_
    have := sumL_snoc l k h
    simp [this, i64_wrap (show -9223372036854775808 ≤ (k : Int) + 1 ∧ _ from by omega)]
  · simp [h]
    rw [List.take_of_length_le (by omega)]
    refine answers_of rfl ?_; simp

theorem rLengths_spec (l : List Int) (hl : l.length ≤ 9223372036854775807) : Spec Try.prog 30 [ints l] (.v (.bool (lensB l && decide (0 < sumL l)))) := by
  refine spec_of mixed Try.func30 (by decide) rfl Try.results30 Try.ntmps30 (by decide) 0 (by simp) ?_
  simp [ints]
  refine pwp_loop (fun k : Nat => [(3, .v (.int .i64 k))]) (fun k => k ≤ l.length ∧ ∀ j, j < k → inB (geti l j) 0 10000 = true) (fun k => l.length - k) 0 ⟨Nat.zero_le _, fun j hj => by omega⟩ (by simp; rfl) (by simp) ?_
  intro k ⟨hk, hp⟩
  by_cases h : k < l.length
  · simp [h]
    refine pop_spec (rin_spec (geti l k) 0 10000) rfl false (.inl (by simp)) (.inl rfl) rfl (by simp) ?_
    cases hb : inB (geti l k) 0 10000 with
    | true =>
      simp
      refine again_of (k + 1) ⟨by omega, fun j hj => ?_⟩ (by omega) ?_
      · rcases Nat.lt_succ_iff_lt_or_eq.1 hj with hj | rfl
        · exact hp j hj
        · exact hb
      · simp [i64_wrap (show -9223372036854775808 ≤ (k : Int) + 1 ∧ _ from by omega)]
    | false =>
      simp
      have : lensB l = false := allN_false h hb
      refine answers_of rfl ?_; simp [this]
  · simp [h]
    obtain rfl : k = l.length := by omega
    have : lensB l = true := allN_spec.2 hp
    refine pop_spec (rSum_spec l hl) rfl false (.inl (by simp [ints])) (.inl rfl) rfl (by simp) ?_
    simp
    refine answers_of rfl ?_; simp [this]

theorem rShare_spec (amount : Int) (l : List Int) (h : ShareOk amount l) : Spec Try.prog 36 [.v (.int .i64 amount), ints l] (ints (shareL amount l)) := by
  have h8 := h.len
  have hw := h.whole
  refine spec_of mixed Try.func36 (by decide) rfl Try.results36 Try.ntmps36 (by decide) 0 (by simp) ?_
  simp [ints]
  refine pop_spec (rSum_spec l (by omega)) rfl false (.inl (by simp [ints])) (.inl rfl) rfl (by simp) ?_
  have hf := far_bound h.each
  rw [sumL_all fun k hk => by have := hf k hk; omega]
  simp
  refine pwp_loop (fun k : Nat => [(5, .own 35 k 0 k false), (7, .v (.int .i64 (far l k))), (8, .v (.int .i64 (shareTo amount l k))), (9, .v (.int .i64 k)), (35, .rows none k 3 1 (rowsOf (fun i => [.v (.int .i64 (shareTo amount l (i + 1) - shareTo amount l i))]) k))]) (fun k => k ≤ l.length) (fun k => l.length - k) 0 (Nat.zero_le _) (by simp; rfl) (by simp [shareTo, far]) ?_
  intro k hk
  by_cases hkl : k < l.length
  · have hk1 := hf (k + 1) hkl
    obtain ⟨a1, a2, a3, a4⟩ := h.to (k := k + 1) hkl
    obtain ⟨_, _, _, b4⟩ := h.to (k := k) hk
    have w1 : IntKind.i64.wrap (far l k + geti l k) = far l (k + 1) := i64_wrap (n := far l (k + 1)) (by omega)
    have w2 : IntKind.i64.wrap (amount * far l (k + 1)) = amount * far l (k + 1) := i64_wrap (by omega)
    have w3 : IntKind.i64.wrap ((amount * far l (k + 1)).tdiv (far l l.length)) = shareTo amount l (k + 1) := i64_quo (by omega)
    have w4 : IntKind.i64.wrap (shareTo amount l (k + 1) - shareTo amount l k) = shareTo amount l (k + 1) - shareTo amount l k := i64_wrap (by omega)
    have w5 : IntKind.i64.wrap (shareTo amount l k + (shareTo amount l (k + 1) - shareTo amount l k)) = shareTo amount l (k + 1) := by
      rw [show shareTo amount l k + (shareTo amount l (k + 1) - shareTo amount l k) = shareTo amount l (k + 1) from by omega]; exact i64_wrap (by omega)
    simp [hkl, w1, w2, w3, w4, w5, hw, show (k + 1) * 8 ≤ 140737488355328 from by omega, show k + 1 ≤ maxLen from by simp [maxLen]; omega]
    refine again_of (k + 1) (by omega) (by omega) ?_
    simp [i64_wrap (show -9223372036854775808 ≤ (k : Int) + 1 ∧ _ from by omega), rowsOf_snoc]
  · simp [hkl]
    obtain rfl : k = l.length := by omega
    refine answers_of rfl ?_
    simp [shareL]
    intro k hk; simp [geti_mk hk, rowsOf_get hk]
end Go.Qg

/-! Contracts of the reference's functions Places, Table, Person, Price, and of short. No condition. -/
namespace Go.Qg
open Go.Proofs
set_option maxRecDepth 100000
set_option maxHeartbeats 4000000
attribute [local irreducible] pwp pops pdraw pop popCall pdCall thenP blockP scopeP pspec Spec answers ppost CallW rend

theorem rPlaces_spec (l : List Int) (hl : l.length ≤ 9223372036854775807) : Spec Try.prog 61 [ints l] (.v (.bool (routeB l))) := by
  refine spec_of mixed Try.func61 (by decide) rfl Try.results61 Try.ntmps61 (by decide) 0 (by simp) ?_
  simp [ints]
  refine pwp_loop (fun k : Nat => [(3, .v (.int .i64 k))]) (fun k => k ≤ l.length ∧ ∀ j, j < k → stepB l j = true) (fun k => l.length - k) 0 ⟨Nat.zero_le _, fun j hj => by omega⟩ (by simp; rfl) (by simp) ?_
  intro k ⟨hk, hp⟩
  by_cases h : k < l.length
  · have wk := i64_wrap (show -9223372036854775808 ≤ (k : Int) + 1 ∧ _ from by omega)
    have bad : stepB l k = false → routeB l = false := fun hb => by simp [routeB, allN_false h hb]
    have good : stepB l k = true → ∀ j, j < k + 1 → stepB l j = true := fun hb j hj => by
      rcases Nat.lt_succ_iff_lt_or_eq.1 hj with hj | rfl
      · exact hp j hj
      · exact hb
    simp [h]
    refine pwp_draw 22 (by decide) ?_
    simp [h]
    refine pd_spec (rin_spec (geti l k) 0 19) (by simp) (by simp) (by simp) rfl ?_
    cases h1 : inB (geti l k) 0 19 with
    | false =>
      simp
      refine ⟨by decide, ?_⟩
      rw [bad (by simp [stepB, h1])]
      refine answers_of rfl ?_; simp
    | true =>
      by_cases h0 : k = 0
      · subst h0
        simp
        refine ⟨by decide, ?_⟩
        refine again_of 1 ⟨by omega, good (by simp [stepB, h1])⟩ (by omega) ?_
        simp
      · have w0 : IntKind.i64.wrap ((k : Int) - 1) = (k : Int) - 1 := i64_wrap (by omega)
        have w1 : ((k : Int) - 1).toNat = k - 1 := by omega
        by_cases h2 : geti l k = geti l (k - 1)
        · simp [show 0 < k from by omega, show (0 : Int) < k from by omega, w0, w1, h, show (1 : Int) ≤ k from by omega, show 1 ≤ k from by omega, show (k : Int) - 1 < l.length from by omega, show k - 1 < l.length from by omega, h2]
          refine ⟨by decide, ?_⟩
          rw [bad (by simp [stepB, h0, h2])]
          refine answers_of rfl ?_; simp
        · simp [show 0 < k from by omega, show (0 : Int) < k from by omega, w0, w1, h, show (1 : Int) ≤ k from by omega, show 1 ≤ k from by omega, show (k : Int) - 1 < l.length from by omega, show k - 1 < l.length from by omega, h2]
          refine ⟨by decide, ?_⟩
          refine again_of (k + 1) ⟨by omega, good (by simp [stepB, h1, h2])⟩ (by omega) ?_
          simp [wk]
  · simp [h]
    obtain rfl : k = l.length := by omega
    have : allN l.length (stepB l) = true := allN_spec.2 hp
    refine pop_spec (rin_spec l.length 2 9) rfl false (.inl (by simp)) (.inl rfl) rfl (by simp) ?_
    simp
    refine answers_of rfl ?_; simp [routeB, this]

theorem rPerson_spec (p : Person) : Spec Try.prog 53 [.agg p.cells] (.v (.bool (inB p.weight 0 1000))) := by
  refine spec_of mixed Try.func53 (by decide) rfl Try.results53 Try.ntmps53 (by decide) 0 (by simp) ?_
  simp [Person.cells]
  refine pop_spec (rin_spec p.weight 0 1000) rfl false (.inl (by simp)) (.inl rfl) rfl (by simp) ?_
  simp
  refine answers_of rfl ?_; simp

def shortB (t : Table) : Bool := allN t.offers.length (fun k => decide ((offerAt t.offers k).places.length ≤ 20)) && decide (t.offers.length ≤ 20) && decide (t.bands.length ≤ 20)
theorem short_spec (t : Table) (hf : TableFit t) : Spec Try.prog 17 [.agg t.cells] (.v (.bool (shortB t))) := by
  have h1 := hf.no
  refine spec_of mixed Try.func17 (by decide) rfl Try.results17 Try.ntmps17 (by decide) 0 (by simp) ?_
  simp [Table.cells, offerL, bandL]
  refine pwp_loop (fun k : Nat => [(3, .v (.int .i64 k))]) (fun k => k ≤ t.offers.length ∧ ∀ j, j < k → decide ((offerAt t.offers j).places.length ≤ 20) = true) (fun k => t.offers.length - k) 0 ⟨Nat.zero_le _, fun j hj => by omega⟩ (by simp; rfl) (by simp) ?_
  intro k ⟨hk, hp⟩
  by_cases h : k < t.offers.length
  · have wk := i64_wrap (show -9223372036854775808 ≤ (k : Int) + 1 ∧ _ from by omega)
    by_cases h2 : (offerAt t.offers k).places.length ≤ 20
    · simp [h, Offer.cells_eq (offerAt t.offers k), show ((offerAt t.offers k).places.length : Int) ≤ 20 from by omega, show ¬ (20 : Int) < (offerAt t.offers k).places.length from by omega]
      refine again_of (k + 1) ⟨by omega, fun j hj => ?_⟩ (by omega) ?_
      · rcases Nat.lt_succ_iff_lt_or_eq.1 hj with hj | rfl
        · simpa using hp j hj
        · simp [h2]
      · simp [wk]
    · simp [h, Offer.cells_eq (offerAt t.offers k), show ¬ ((offerAt t.offers k).places.length : Int) ≤ 20 from by omega, show (20 : Int) < (offerAt t.offers k).places.length from by omega]
      have : shortB t = false := by
        have := allN_false (p := fun k => decide ((offerAt t.offers k).places.length ≤ 20)) h (by simp [h2])
        simp [shortB, this]
      rw [this]
      refine answers_of rfl ?_; simp
  · obtain rfl : k = t.offers.length := by omega
    have h0 := allN_spec.2 hp
    by_cases h2 : t.offers.length ≤ 20
    · by_cases h3 : t.bands.length ≤ 20
      · simp [show (t.offers.length : Int) ≤ 20 from by omega, show (t.bands.length : Int) ≤ 20 from by omega]
        refine answers_of rfl ?_; simp [shortB, h0, h2, h3]
      · simp [show (t.offers.length : Int) ≤ 20 from by omega, show ¬ (t.bands.length : Int) ≤ 20 from by omega]
        refine answers_of rfl ?_; simp [shortB, h0, h2, h3]
    · simp [show ¬ (t.offers.length : Int) ≤ 20 from by omega]
      refine answers_of rfl ?_; simp [shortB, h0, h2]

theorem rTable_spec (t : Table) (hf : TableFit t) : Spec Try.prog 27 [.agg t.cells] (.v (.bool (validB t))) := by
  have hno := hf.no
  have hnb := hf.nb
  refine spec_of mixed Try.func27 (by decide) rfl Try.results27 Try.ntmps27 (by decide) 0 (by simp) ?_
  simp [Table.cells, offerL, bandL]
  refine pwp_loop (fun k : Nat => [(3, .v (.int .i64 k))]) (fun k => k ≤ t.offers.length ∧ ∀ j, j < k → offerB (offerAt t.offers j) = true) (fun k => t.offers.length - k) 0 ⟨Nat.zero_le _, fun j hj => by omega⟩ (by simp; rfl) (by simp) ?_
  intro k ⟨hk, hp⟩
  by_cases h : k < t.offers.length
  · have wk := i64_wrap (show -9223372036854775808 ≤ (k : Int) + 1 ∧ _ from by omega)
    have hpl := hf.np _ (offerAt_mem h)
    have bad : offerB (offerAt t.offers k) = false → validB t = false := fun hb => by
      have := allN_false (p := fun k => offerB (offerAt t.offers k)) h hb
      simp [validB, this]
    simp [h, Offer.cells_eq (offerAt t.offers k)]
    refine pop_spec (rPlaces_spec (offerAt t.offers k).places hpl) rfl false (.inl (by simp [ints])) (.inl rfl) rfl (by simp) ?_
    cases h1 : routeB (offerAt t.offers k).places with
    | false =>
      simp
      rw [bad (by simp [offerB, h1])]
      refine answers_of rfl ?_; simp
    | true =>
      simp [h, Offer.cells_eq (offerAt t.offers k)]
      refine pop_spec (rin_spec (offerAt t.offers k).cost 0 1000000000) rfl false (.inl (by simp)) (.inl rfl) rfl (by simp) ?_
      cases h2 : inB (offerAt t.offers k).cost 0 1000000000 with
      | false =>
        simp
        rw [bad (by simp [offerB, h2])]
        refine answers_of rfl ?_; simp
      | true =>
        simp
        refine again_of (k + 1) ⟨by omega, fun j hj => ?_⟩ (by omega) ?_
        · rcases Nat.lt_succ_iff_lt_or_eq.1 hj with hj | rfl
          · exact hp j hj
          · simp [offerB, h1, h2]
        · simp [wk]
  · obtain rfl : k = t.offers.length := by omega
    have ho : allN t.offers.length (fun k => offerB (offerAt t.offers k)) = true := allN_spec.2 hp
    simp
    refine pwp_loop (fun k : Nat => [(4, .v (.int .i64 k))]) (fun k => k ≤ t.bands.length ∧ ∀ j, j < k → bandB t.bands j = true) (fun k => t.bands.length - k) 0 ⟨Nat.zero_le _, fun j hj => by omega⟩ (by simp; rfl) (by simp) ?_
    intro k ⟨hk, hq⟩
    by_cases h : k < t.bands.length
    · have wk := i64_wrap (show -9223372036854775808 ≤ (k : Int) + 1 ∧ _ from by omega)
      have bad : bandB t.bands k = false → validB t = false := fun hb => by simp [validB, allN_false h hb]
      have good : bandB t.bands k = true → ∀ j, j < k + 1 → bandB t.bands j = true := fun hb j hj => by
        rcases Nat.lt_succ_iff_lt_or_eq.1 hj with hj | rfl
        · exact hq j hj
        · exact hb
      simp [h]
      refine pwp_draw 38 (by decide) ?_
      simp (config := { maxSteps := 1000000 }) [h, Band.cells]
      refine pd_spec (rin_spec (bandAt t.bands k).up 0 1000) (by simp) (by simp) (by simp) rfl ?_
      cases h1 : inB (bandAt t.bands k).up 0 1000 with
      | false =>
        simp (config := { maxSteps := 1000000 })
        refine ⟨by decide, ?_⟩
        rw [bad (by simp [bandB, h1])]
        refine answers_of rfl ?_; simp
      | true =>
        simp (config := { maxSteps := 1000000 }) [h, Band.cells]
        refine pd_spec (rin_spec (bandAt t.bands k).extra 0 1000000000) (by simp) (by simp) (by simp) rfl ?_
        cases h2 : inB (bandAt t.bands k).extra 0 1000000000 with
        | false =>
          simp (config := { maxSteps := 1000000 })
          refine ⟨by decide, ?_⟩
          rw [bad (by simp [bandB, h2])]
          refine answers_of rfl ?_; simp
        | true =>
          by_cases h0 : k = 0
          · subst h0
            simp (config := { maxSteps := 1000000 })
            refine ⟨by decide, ?_⟩
            refine again_of 1 ⟨by omega, good (by simp [bandB, h1, h2])⟩ (by omega) ?_
            simp
          · have w0 : IntKind.i64.wrap ((k : Int) - 1) = (k : Int) - 1 := i64_wrap (by omega)
            have w1 : ((k : Int) - 1).toNat = k - 1 := by omega
            by_cases h3 : (bandAt t.bands k).up ≤ (bandAt t.bands (k - 1)).up
            · simp (config := { maxSteps := 1000000 }) [show 0 < k from by omega, show (0 : Int) < k from by omega, w0, w1, h, Band.cells, show (1 : Int) ≤ k from by omega, show 1 ≤ k from by omega, show (k : Int) - 1 < t.bands.length from by omega, show k - 1 < t.bands.length from by omega, h3]
              refine ⟨by decide, ?_⟩
              rw [bad (by simp [bandB, h0, Int.not_lt.2 h3])]
              refine answers_of rfl ?_; simp
            · simp (config := { maxSteps := 1000000 }) [show 0 < k from by omega, show (0 : Int) < k from by omega, w0, w1, h, Band.cells, show (1 : Int) ≤ k from by omega, show 1 ≤ k from by omega, show (k : Int) - 1 < t.bands.length from by omega, show k - 1 < t.bands.length from by omega, h3]
              refine ⟨by decide, ?_⟩
              refine again_of (k + 1) ⟨by omega, good (by simp [bandB, h1, h2, Int.not_le.1 h3])⟩ (by omega) ?_
              simp [wk]
    · obtain rfl : k = t.bands.length := by omega
      have hb : allN t.bands.length (bandB t.bands) = true := allN_spec.2 hq
      by_cases h2 : t.offers.length ≤ 12
      · by_cases h3 : t.bands.length ≤ 8
        · simp [show (t.offers.length : Int) ≤ 12 from by omega, show (t.bands.length : Int) ≤ 8 from by omega]
          refine pop_spec (rin_spec t.less 0 1000) rfl false (.inl (by simp)) (.inl rfl) rfl (by simp) ?_
          simp
          refine answers_of rfl ?_; simp [validB, ho, hb, h2, h3]
        · simp [show (t.offers.length : Int) ≤ 12 from by omega, show ¬ (t.bands.length : Int) ≤ 8 from by omega]
          refine answers_of rfl ?_; simp [validB, h2, h3]
      · simp [show ¬ (t.offers.length : Int) ≤ 12 from by omega]
        refine answers_of rfl ?_; simp [validB, h2]

/-- The price as the reference tells it. -/
def rPriceOf (t : Table) (p : Person) (o : Offer) : Int := (priceOf t p o).getD (-1)
theorem rPrice_spec (t : Table) (i : Nat) (p : Person) (ht : TableOk t) (hi : i < t.offers.length) : Spec Try.prog 46 [.agg t.cells, .v (.int .i64 i), .agg p.cells] (.v (.int .i64 (rPriceOf t p (offerAt t.offers i)))) := by
  have hm := offerAt_mem hi
  obtain ⟨⟨c1, c2⟩, c3, c4⟩ := ht.offer _ hm
  have hl := ht.less
  have hnb := ht.nb
  refine spec_of mixed Try.func46 (by decide) rfl Try.results46 Try.ntmps46 (by decide) 0 (by simp) ?_
  simp [Table.cells, offerL, bandL, Person.cells, hi, Offer.cells_eq (offerAt t.offers i)]
  generalize offerAt t.offers i = o at *
  have e0 : 0 ≤ o.cost * t.less := Int.mul_nonneg c1 hl.1
  have e1 : o.cost * t.less ≤ 1000000000 * 1000 := Int.mul_le_mul c2 hl.2 hl.1 (by omega)
  have e2 : o.cost * t.less ≤ o.cost * 1000 := Int.mul_le_mul_of_nonneg_left hl.2 c1
  have w1 : IntKind.i64.wrap (o.cost * t.less) = o.cost * t.less := i64_wrap (by omega)
  have w2 : IntKind.i64.wrap ((o.cost * t.less).tdiv 1000) = o.cost * t.less / 1000 := i64_quo (by omega)
  have w3 : IntKind.i64.wrap (o.cost - o.cost * t.less / 1000) = o.cost - o.cost * t.less / 1000 := i64_wrap (by omega)
  have no : o.res = true → p.res = false → rPriceOf t p o = -1 := fun h1 h2 => by
    unfold rPriceOf priceOf
    cases extraOf t.bands p.weight <;> simp [h1, h2]
  have fin : (o.res && !p.res) = false → ∀ x, extraOf t.bands p.weight = some x → rPriceOf t p o = (if p.res then o.cost - o.cost * t.less / 1000 else o.cost) + x * ((o.places.length : Int) - 1) := fun h1 x hx => by
    unfold rPriceOf priceOf heavyOf lessOf
    rw [hx]
    simp only [h1, Bool.false_eq_true, if_false, Option.getD_some]
    split <;> omega
  have finN : extraOf t.bands p.weight = none → rPriceOf t p o = -1 := fun hx => by
    unfold rPriceOf priceOf
    rw [hx]; rfl
  cases hp : p.res with
  | false =>
    cases ho : o.res with
    | true =>
      simp
      rw [no ho hp]
      refine answers_of rfl ?_; simp
    | false =>
      have fin := fin (by simp [ho])
      rw [hp] at fin
      simp
      refine pwp_loop (fun k : Nat => [(9, .v (.int .i64 k))]) (fun k => k ≤ t.bands.length ∧ ∀ j, j < k → (bandAt t.bands j).up < p.weight) (fun k => t.bands.length - k) 0 ⟨Nat.zero_le _, fun j hj => by omega⟩ (by simp; rfl) (by simp) ?_
      intro k ⟨hk, hq⟩
      by_cases h : k < t.bands.length
      · have wk := i64_wrap (show -9223372036854775808 ≤ (k : Int) + 1 ∧ _ from by omega)
        simp [h]
        refine pwp_draw 9 (by decide) ?_
        by_cases h1 : p.weight ≤ (bandAt t.bands k).up
        · have hx : extraOf t.bands p.weight = some (bandAt t.bands k).extra := by
            unfold extraOf
            rw [find_at (d := default) h (fun j hj => by have := hq j hj; simp only [bandAt] at this; simp only [decide_eq_false_iff_not]; omega) (by simpa [bandAt] using h1)]
            rfl
          have hxb := extraOf_bound (w := p.weight) ht.extra
          rw [hx] at hxb
          simp only [Option.getD_some] at hxb
          rw [fin _ hx]
          generalize hxe : (bandAt t.bands k).extra = x at *
          have f0 : 0 ≤ x * ((o.places.length : Int) - 1) := Int.mul_nonneg hxb.1 (by omega)
          have f1 : x * ((o.places.length : Int) - 1) ≤ 1000000000 * 8 := Int.mul_le_mul hxb.2 (by omega) (by omega) (by omega)
          have v1 : IntKind.i64.wrap ((o.places.length : Int) - 1) = (o.places.length : Int) - 1 := i64_wrap (by omega)
          have v2 : IntKind.i64.wrap (x * ((o.places.length : Int) - 1)) = x * ((o.places.length : Int) - 1) := i64_wrap (by omega)
          have v3 : IntKind.i64.wrap (o.cost + x * ((o.places.length : Int) - 1)) = o.cost + x * ((o.places.length : Int) - 1) := i64_wrap (by omega)
          simp [h, Band.cells, h1]
          refine ⟨by decide, ?_⟩
          refine pwp_draw 14 (by decide) ?_
          simp [h, hxe, v1, v2, v3]
          refine ⟨by decide, ?_⟩
          refine answers_of rfl ?_; simp
        · simp [h, Band.cells, h1]
          refine ⟨by decide, ?_⟩
          refine again_of (k + 1) ⟨by omega, fun j hj => ?_⟩ (by omega) ?_
          · rcases Nat.lt_succ_iff_lt_or_eq.1 hj with hj | rfl
            · exact hq j hj
            · omega
          · simp [wk]
      · obtain rfl : k = t.bands.length := by omega
        have hx : extraOf t.bands p.weight = none := by
          unfold extraOf
          rw [find_no (d := default) fun j hj => by have := hq j hj; simp only [bandAt] at this; simp only [decide_eq_false_iff_not]; omega]
          rfl
        rw [finN hx]
        simp
        refine answers_of rfl ?_; simp
  | true =>
    have fin := fin (by simp [hp])
    rw [hp] at fin
    cases ho : o.res with
    | false =>
        simp [w1, w2, w3]
        refine pwp_loop (fun k : Nat => [(9, .v (.int .i64 k))]) (fun k => k ≤ t.bands.length ∧ ∀ j, j < k → (bandAt t.bands j).up < p.weight) (fun k => t.bands.length - k) 0 ⟨Nat.zero_le _, fun j hj => by omega⟩ (by simp; rfl) (by simp) ?_
        intro k ⟨hk, hq⟩
        by_cases h : k < t.bands.length
        · have wk := i64_wrap (show -9223372036854775808 ≤ (k : Int) + 1 ∧ _ from by omega)
          simp [h]
          refine pwp_draw 9 (by decide) ?_
          by_cases h1 : p.weight ≤ (bandAt t.bands k).up
          · have hx : extraOf t.bands p.weight = some (bandAt t.bands k).extra := by
              unfold extraOf
              rw [find_at (d := default) h (fun j hj => by have := hq j hj; simp only [bandAt] at this; simp only [decide_eq_false_iff_not]; omega) (by simpa [bandAt] using h1)]
              rfl
            have hxb := extraOf_bound (w := p.weight) ht.extra
            rw [hx] at hxb
            simp only [Option.getD_some] at hxb
            rw [fin _ hx]
            generalize hxe : (bandAt t.bands k).extra = x at *
            generalize hdd : o.cost * t.less / 1000 = dd at *
            have f0 : 0 ≤ x * ((o.places.length : Int) - 1) := Int.mul_nonneg hxb.1 (by omega)
            have f1 : x * ((o.places.length : Int) - 1) ≤ 1000000000 * 8 := Int.mul_le_mul hxb.2 (by omega) (by omega) (by omega)
            have v1 : IntKind.i64.wrap ((o.places.length : Int) - 1) = (o.places.length : Int) - 1 := i64_wrap (by omega)
            have v2 : IntKind.i64.wrap (x * ((o.places.length : Int) - 1)) = x * ((o.places.length : Int) - 1) := i64_wrap (by omega)
            have v3 : IntKind.i64.wrap (o.cost - dd + x * ((o.places.length : Int) - 1)) = o.cost - dd + x * ((o.places.length : Int) - 1) := i64_wrap (by omega)
            simp [h, Band.cells, h1]
            refine ⟨by decide, ?_⟩
            refine pwp_draw 14 (by decide) ?_
            simp [h, hxe, v1, v2, v3]
            refine ⟨by decide, ?_⟩
            refine answers_of rfl ?_; simp
          · simp [h, Band.cells, h1]
            refine ⟨by decide, ?_⟩
            refine again_of (k + 1) ⟨by omega, fun j hj => ?_⟩ (by omega) ?_
            · rcases Nat.lt_succ_iff_lt_or_eq.1 hj with hj | rfl
              · exact hq j hj
              · omega
            · simp [wk]
        · obtain rfl : k = t.bands.length := by omega
          have hx : extraOf t.bands p.weight = none := by
            unfold extraOf
            rw [find_no (d := default) fun j hj => by have := hq j hj; simp only [bandAt] at this; simp only [decide_eq_false_iff_not]; omega]
            rfl
          rw [finN hx]
          simp
          refine answers_of rfl ?_; simp
    | true =>
        simp [w1, w2, w3]
        refine pwp_loop (fun k : Nat => [(9, .v (.int .i64 k))]) (fun k => k ≤ t.bands.length ∧ ∀ j, j < k → (bandAt t.bands j).up < p.weight) (fun k => t.bands.length - k) 0 ⟨Nat.zero_le _, fun j hj => by omega⟩ (by simp; rfl) (by simp) ?_
        intro k ⟨hk, hq⟩
        by_cases h : k < t.bands.length
        · have wk := i64_wrap (show -9223372036854775808 ≤ (k : Int) + 1 ∧ _ from by omega)
          simp [h]
          refine pwp_draw 9 (by decide) ?_
          by_cases h1 : p.weight ≤ (bandAt t.bands k).up
          · have hx : extraOf t.bands p.weight = some (bandAt t.bands k).extra := by
              unfold extraOf
              rw [find_at (d := default) h (fun j hj => by have := hq j hj; simp only [bandAt] at this; simp only [decide_eq_false_iff_not]; omega) (by simpa [bandAt] using h1)]
              rfl
            have hxb := extraOf_bound (w := p.weight) ht.extra
            rw [hx] at hxb
            simp only [Option.getD_some] at hxb
            rw [fin _ hx]
            generalize hxe : (bandAt t.bands k).extra = x at *
            generalize hdd : o.cost * t.less / 1000 = dd at *
            have f0 : 0 ≤ x * ((o.places.length : Int) - 1) := Int.mul_nonneg hxb.1 (by omega)
            have f1 : x * ((o.places.length : Int) - 1) ≤ 1000000000 * 8 := Int.mul_le_mul hxb.2 (by omega) (by omega) (by omega)
            have v1 : IntKind.i64.wrap ((o.places.length : Int) - 1) = (o.places.length : Int) - 1 := i64_wrap (by omega)
            have v2 : IntKind.i64.wrap (x * ((o.places.length : Int) - 1)) = x * ((o.places.length : Int) - 1) := i64_wrap (by omega)
            have v3 : IntKind.i64.wrap (o.cost - dd + x * ((o.places.length : Int) - 1)) = o.cost - dd + x * ((o.places.length : Int) - 1) := i64_wrap (by omega)
            simp [h, Band.cells, h1]
            refine ⟨by decide, ?_⟩
            refine pwp_draw 14 (by decide) ?_
            simp [h, hxe, v1, v2, v3]
            refine ⟨by decide, ?_⟩
            refine answers_of rfl ?_; simp
          · simp [h, Band.cells, h1]
            refine ⟨by decide, ?_⟩
            refine again_of (k + 1) ⟨by omega, fun j hj => ?_⟩ (by omega) ?_
            · rcases Nat.lt_succ_iff_lt_or_eq.1 hj with hj | rfl
              · exact hq j hj
              · omega
            · simp [wk]
        · obtain rfl : k = t.bands.length := by omega
          have hx : extraOf t.bands p.weight = none := by
            unfold extraOf
            rw [find_no (d := default) fun j hj => by have := hq j hj; simp only [bandAt] at this; simp only [decide_eq_false_iff_not]; omega]
            rfl
          rw [finN hx]
          simp
          refine answers_of rfl ?_; simp
end Go.Qg

/-! The law FarePrices returns true. No condition. -/
namespace Go.Qg
open Go.Proofs
set_option maxRecDepth 100000
set_option maxHeartbeats 4000000
attribute [local irreducible] pwp pops pdraw pop popCall pdCall thenP blockP scopeP pspec Spec answers ppost CallW rend

theorem resident_less {t : Table} (ht : TableOk t) {o : Offer} (ho : o ∈ t.offers) {p : Person} {n : Int} (h : priceOf t p o = some n) : ∃ m, priceOf t ⟨p.weight, true⟩ o = some m ∧ m ≤ n := by
  obtain ⟨⟨c1, c2⟩, _, _⟩ := ht.offer o ho
  have hl := ht.less
  have e0 : 0 ≤ o.cost * t.less := Int.mul_nonneg c1 hl.1
  unfold priceOf at h ⊢
  cases hx : extraOf t.bands p.weight with
  | none => rw [hx] at h; cases h
  | some x =>
    rw [hx] at h
    simp only [hx, Bool.not_true, Bool.and_false, Bool.false_eq_true, if_false] at h ⊢
    refine ⟨_, rfl, ?_⟩
    split at h
    · cases h
    · obtain rfl := Option.some.inj h
      simp only [lessOf, heavyOf, if_true]
      split <;> omega
theorem rPriceOf_some {t : Table} (ht : TableOk t) {o : Offer} (ho : o ∈ t.offers) {p : Person} {n : Int} (h : priceOf t p o = some n) : rPriceOf t p o = n ∧ 0 ≤ n := by
  have := price_bound ht ho h
  exact ⟨by simp [rPriceOf, h], this.1⟩

theorem FarePrices_spec (t : Table) (offer : Int) (p : Person) (hf : TableFit t) : Spec Try.prog 14 [.agg t.cells, .v (.int .i64 offer), .agg p.cells] (.v (.bool true)) := by
  have hprice := priced_spec t offer p hf
  refine spec_of mixed Try.func14 (by decide) rfl Try.results14 Try.ntmps14 (by decide) 0 (by simp) ?_
  simp [Table.cells, offerL, bandL, Person.cells]
  refine pop_spec (short_spec t hf) rfl false (.inl (by simp [Table.cells, offerL, bandL])) (.inl rfl) rfl (by simp) ?_
  cases hs : shortB t with
  | false =>
    simp
    refine pop_spec known_spec rfl false (.inl (by simp)) (.inl rfl) rfl (by simp) ?_
    simp
    refine answers_of rfl ?_; simp
  | true =>
    have h20 : t.offers.length ≤ 20 := by
      simp only [shortB, Bool.and_eq_true, decide_eq_true_eq] at hs
      exact hs.1.2
    simp
    refine pop_spec (check_spec t hf.no hf.nb hf.np) rfl false (.inl (by simp [Table.cells, offerL, bandL])) (.inl rfl) rfl (by simp) ?_
    simp
    refine pop_spec hprice rfl false (.inl (by simp [Table.cells, offerL, bandL, Person.cells])) (.inl rfl) rfl (by simp) ?_
    simp
    refine pop_spec (rTable_spec t hf) rfl false (.inl (by simp [Table.cells, offerL, bandL])) (.inl rfl) rfl (by simp) ?_
    cases hv : validB t with
    | false =>
      have e : pricedOf t offer p = (0, 2) := by simp [pricedOf, priceBad, hv]
      rw [e]
      simp
      refine pop_spec known_spec rfl false (.inl (by simp)) (.inl rfl) rfl (by simp) ?_
      simp
      refine answers_of rfl ?_; simp
    | true =>
      have ht := valid_ok hv
      have bad : priceBad t offer p = true → pricedOf t offer p = (0, 2) := fun h => by simp [pricedOf, h]
      by_cases h0 : 0 ≤ offer
      · by_cases h1 : offer < t.offers.length
        · obtain ⟨i, rfl⟩ : ∃ i : Nat, offer = i := ⟨offer.toNat, by omega⟩
          have hi : i < t.offers.length := by omega
          have hm := offerAt_mem hi
          simp [h0, h1, hi, Int.not_le.2 h1, Nat.not_le.2 hi]
          refine pop_spec (rPerson_spec p) rfl false (.inl (by simp [Person.cells])) (.inl rfl) rfl (by simp) ?_
          cases hp : inB p.weight 0 1000 with
          | false =>
            rw [bad (by simp [priceBad, hp])]
            simp
            refine pop_spec known_spec rfl false (.inl (by simp)) (.inl rfl) rfl (by simp) ?_
            simp
            refine answers_of rfl ?_; simp
          | true =>
            have hpw := inB_spec.1 hp
            have hbad : ∀ r : Bool, priceBad t i ⟨p.weight, r⟩ = false := fun r => by simp [priceBad, hv, inB, hpw.1, hpw.2]; omega
            have hpe : p = ⟨p.weight, p.res⟩ := rfl
            simp
            refine pop_spec (rPrice_spec t i p ht hi) rfl false (.inl (by simp [Table.cells, offerL, bandL, Person.cells])) (.inl rfl) rfl (by simp) ?_
            cases hx : priceOf t p (offerAt t.offers i) with
            | none =>
              have e : pricedOf t i p = (0, 5) := by
                have := hbad p.res
                simp [pricedOf, this, hx]
              have e2 : rPriceOf t p (offerAt t.offers i) = -1 := by simp [rPriceOf, hx]
              rw [e, e2]
              simp
              refine pop_spec known_spec rfl false (.inl (by simp)) (.inl rfl) rfl (by simp) ?_
              simp
              refine answers_of rfl ?_; simp
            | some n =>
              have e : pricedOf t i p = (n, 0) := by
                have := hbad p.res
                simp [pricedOf, this, hx]
              obtain ⟨e2, hn⟩ := rPriceOf_some ht hm hx
              obtain ⟨m, hxm, hmn⟩ := resident_less ht hm hx
              have e3 : pricedOf t i ⟨p.weight, true⟩ = (m, 0) := by
                have := hbad true
                simp [pricedOf, this, hxm]
              have hprice2 := priced_spec t i ⟨p.weight, true⟩ hf
              rw [e3] at hprice2
              rw [e, e2]
              simp [hn, Int.not_lt.2 hn]
              refine pop_spec hprice2 rfl false (.inl (by simp [Table.cells, offerL, bandL, Person.cells])) (.inl rfl) rfl (by simp) ?_
              simp [hmn]
              refine pop_spec known_spec rfl false (.inl (by simp)) (.inl rfl) rfl (by simp) ?_
              simp
              refine answers_of rfl ?_; simp
        · rw [bad (by simp [priceBad, inB]; omega)]
          simp [h0, h1, Int.not_lt.1 h1]
          refine pop_spec known_spec rfl false (.inl (by simp)) (.inl rfl) rfl (by simp) ?_
          simp
          refine answers_of rfl ?_; simp
      · rw [bad (by simp [priceBad, inB]; omega)]
        simp [h0, Int.not_le.1 h0]
        refine pop_spec known_spec rfl false (.inl (by simp)) (.inl rfl) rfl (by simp) ?_
        simp
        refine answers_of rfl ?_; simp
end Go.Qg

/-! FarePrices: for every table, offer and person the law returns true, and leaves its arguments as they were. No condition. -/
namespace Go.Proofs.Ytmnoepkamkomkaa.lawFarePrices
open Go.Qg Go.ChangeAt Go.RowKit
set_option maxRecDepth 100000

theorem spec (args : List PV) (hl : Try.f14.params.toList.length = args.length) (h : ∀ (j : Nat) t p, Try.f14.params.toList[j]? = some t → args[j]? = some p → ArgP Try.prog 6 t p) : Qg.Spec Try.prog 14 args (.v (.bool true)) := by
  rw [Try.params14] at hl h
  match args, hl with
  | [a0, a1, a2], _ =>
    obtain ⟨t, rfl, ht⟩ := a_table (h 0 _ a0 rfl rfl)
    obtain ⟨x, rfl, xok⟩ := a_int (h 1 _ a1 rfl rfl)
    obtain ⟨p, rfl, hp⟩ := a_person (h 2 _ a2 rfl rfl)
    exact FarePrices_spec t x p ht

theorem lifted (os : Os) (started : os.Started) (H : Type) (enc : TypeId × Value → H) :
    ReturnsInHanded {} Try.checked os 14 .any (Rows.farePricesSpec.pre6 enc Try.prog Try.f14 Rows.farePricesRow.domain false) (Rows.farePricesSpec.post enc Try.prog Try.f14 false true false false) := by
  refine law_lifted (C := Try.checked) 6 (tb := 4) ownKnob_ started (by kernel_rfl) Try.func14
    (ChangeSpec.witness6 (enc := enc) (C := Try.checked) false ⟨#[], #[.agg #[.slice none 0 0, .slice none 0 0, .int .i64 0], .int .i64 0, .agg #[.int .i64 0, .bool false]], []⟩ 8 (by kernel_rfl) (by kernel_rfl) (by kernel_rfl) (by kernel_rfl)) laidOut_ rfl (by kernel_rfl) (by kernel_rfl) Try.underlying4 ?_ spec
  intro ds hds
  match ds, hds with
  | [_, _, _], _ => exact ⟨rfl, rfl, rfl⟩

theorem FarePrices_holds : Rows.FarePricesSaid :=
  OpenClaim.holds_of_wide 14 Try.f14 rfl rfl rfl rfl rfl rfl rfl ⟨rfl, rfl, rfl, rfl, rfl⟩ rfl rfl rfl rfl rfl (by kernel_rfl) Try.func14 (by kernel_rfl)
    (of_decide_eq_true (by kernel_rfl)) (by unfold Func.isWrapper; first | (rw [if_pos (by decide +kernel)]; kernel_rfl) | (rw [if_neg (by decide +kernel)]; exact ⟨rfl, rfl⟩))
    (fun os started H enc _ => lifted os started H enc)
end Go.Proofs.Ytmnoepkamkomkaa.lawFarePrices
