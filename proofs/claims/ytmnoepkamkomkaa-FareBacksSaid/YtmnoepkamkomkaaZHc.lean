/-
  FareBacks: for every rule, cost, all lengths and flown legs the law returns true, and leaves its arguments as they were.
  No condition.
-/
import Derived.Test.YtmnoepkamkomkaaZ5
set_option linter.all false

/-! Contracts of the reference's functions in, Sum, Lengths, Share. No condition. -/
namespace Go.Qg
open Go.Proofs
set_option maxRecDepth 100000
set_option maxHeartbeats 4000000
attribute [local irreducible] pwp pops pdraw pop popCall pdCall thenP blockP scopeP pspec Spec answers ppost CallW rend

theorem rin_spec (n lo hi : Int) : Spec Try.prog 71 [.v (.int .i64 n), .v (.int .i64 lo), .v (.int .i64 hi)] (.v (.bool (inB n lo hi))) := by
  refine spec_of mixed Try.func71 (by decide) rfl Try.results71 Try.ntmps71 (by decide) 0 (by simp) ?_
  by_cases h1 : lo ≤ n
  · by_cases h2 : n ≤ hi <;> (simp [h1, h2]; refine answers_of rfl ?_; simp [inB, h1, h2])
  · simp [h1]; refine answers_of rfl ?_; simp [inB, h1]

theorem rSum_spec (l : List Int) (hl : l.length ≤ 9223372036854775807) : Spec Try.prog 37 [ints l] (.v (.int .i64 (sumL l))) := by
  refine spec_of mixed Try.func37 (by decide) rfl Try.results37 Try.ntmps37 (by decide) 0 (by simp) ?_
  simp [ints]
  refine pwp_loop (fun k : Nat => [(3, .v (.int .i64 (sumL (l.take k)))), (4, .v (.int .i64 k))]) (fun k => k ≤ l.length) (fun k => l.length - k) 0 (Nat.zero_le _) (by simp; rfl) (by simp [sumL]) ?_
  intro k hk
  by_cases h : k < l.length
  · simp [h]
    refine again_of (k + 1) (by omega) (by omega) ?_
    have := sumL_snoc l k h
    simp [this, i64_wrap (show -9223372036854775808 ≤ (k : Int) + 1 ∧ _ from by omega)]
  · simp [h]
    rw [List.take_of_length_le (by omega)]
    refine answers_of rfl ?_; simp

theorem rLengths_spec (l : List Int) (hl : l.length ≤ 9223372036854775807) : Spec Try.prog 30 [ints l] (.v (.bool (lensB l && decide (0 < sumL l)))) := by
  refine spec_of mixed Try.func30 (by decide) rfl Try.results30 Try.ntmps30 (by decide) 0 (by simp) ?_
  simp [ints]
  refine pwp_loop (fun k : Nat => [(3, .v (.int .i64 k))]) (fun k => k ≤ l.length ∧ ∀ j, j < k → inB (geti l j) 0 10000 = true) (fun k => l.length - k) 0 ⟨Nat.zero_le _, fun j hj => by omega⟩ (by simp; rfl) (by simp) ?_
  intro k ⟨hk, hp⟩
  by_cases h : k < l.length
  · simp [h]
    refine pop_spec (rin_spec (geti l k) 0 10000) rfl false (.inl (by simp)) (.inl rfl) rfl (by simp) ?_
    cases hb : inB (geti l k) 0 10000 with
    | true =>
      simp
      refine again_of (k + 1) ⟨by omega, fun j hj => ?_⟩ (by omega) ?_
      · rcases Nat.lt_succ_iff_lt_or_eq.1 hj with hj | rfl
        · exact hp j hj
        · exact hb
      · simp [i64_wrap (show -9223372036854775808 ≤ (k : Int) + 1 ∧ _ from by omega)]
    | false =>
      simp
      have : lensB l = false := allN_false h hb
      refine answers_of rfl ?_; simp [this]
  · simp [h]
    obtain rfl : k = l.length := by omega
    have : lensB l = true := allN_spec.2 hp
    refine pop_spec (rSum_spec l hl) rfl false (.inl (by simp [ints])) (.inl rfl) rfl (by simp) ?_
    simp
    refine answers_of rfl ?_; simp [this]

theorem rShare_spec (amount : Int) (l : List Int) (h : ShareOk amount l) : Spec Try.prog 36 [.v (.int .i64 amount), ints l] (ints (shareL amount l)) := by
  have h8 := h.len
  have hw := h.whole
  refine spec_of mixed Try.func36 (by decide) rfl Try.results36 Try.ntmps36 (by decide) 0 (by simp) ?_
  simp [ints]
  refine pop_spec (rSum_spec l (by omega)) rfl false (.inl (by simp [ints])) (.inl rfl) rfl (by simp) ?_
  have hf := far_bound h.each
  rw [sumL_all fun k hk => by have := hf k hk; omega]
  simp
  refine pwp_loop (fun k : Nat => [(5, .own 35 k 0 k false), (7, .v (.int .i64 (far l k))), (8, .v (.int .i64 (shareTo amount l k))), (9, .v (.int .i64 k)), (35, .rows none k 3 1 (rowsOf (fun i => [.v (.int .i64 (shareTo amount l (i + 1) - shareTo amount l i))]) k))]) (fun k => k ≤ l.length) (fun k => l.length - k) 0 (Nat.zero_le _) (by simp; rfl) (by simp [shareTo, far]) ?_
  intro k hk
  by_cases hkl : k < l.length
  · have hk1 := hf (k + 1) hkl
    obtain ⟨a1, a2, a3, a4⟩ := h.to (k := k + 1) hkl
    obtain ⟨_, _, _, b4⟩ := h.to (k := k) hk
    have w1 : IntKind.i64.wrap (far l k + geti l k) = far l (k + 1) := i64_wrap (n := far l (k + 1)) (by omega)
    have w2 : IntKind.i64.wrap (amount * far l (k + 1)) = amount * far l (k + 1) := i64_wrap (by omega)
    have w3 : IntKind.i64.wrap ((amount * far l (k + 1)).tdiv (far l l.length)) = shareTo amount l (k + 1) := i64_quo (by omega)
    have w4 : IntKind.i64.wrap (shareTo amount l (k + 1) - shareTo amount l k) = shareTo amount l (k + 1) - shareTo amount l k := i64_wrap (by omega)
    have w5 : IntKind.i64.wrap (shareTo amount l k + (shareTo amount l (k + 1) - shareTo amount l k)) = shareTo amount l (k + 1) := by
      rw [show shareTo amount l k + (shareTo amount l (k + 1) - shareTo amount l k) = shareTo amount l (k + 1) from by omega]; exact i64_wrap (by omega)
    simp [hkl, w1, w2, w3, w4, w5, hw, show (k + 1) * 8 ≤ 140737488355328 from by omega, show k + 1 ≤ maxLen from by simp [maxLen]; omega]
    refine again_of (k + 1) (by omega) (by omega) ?_
    simp [i64_wrap (show -9223372036854775808 ≤ (k : Int) + 1 ∧ _ from by omega), rowsOf_snoc]
  · simp [hkl]
    obtain rfl : k = l.length := by omega
    refine answers_of rfl ?_
    simp [shareL]
    intro k hk; simp [geti_mk hk, rowsOf_get hk]
end Go.Qg

/-! Contracts of the reference's functions Rule, Back; the law FareBacks returns true. No condition. -/
namespace Go.Qg
open Go.Proofs
set_option maxRecDepth 100000
set_option maxHeartbeats 4000000
attribute [local irreducible] pwp pops pdraw pop popCall pdCall thenP blockP scopeP pspec Spec answers ppost CallW rend

def ruleB (r : Rule) : Bool := inB r.cash 0 1000 && inB r.voucher 0 1000 && decide (r.cash + r.voucher ≤ 1000)
theorem rRule_spec (r : Rule) : Spec Try.prog 29 [.agg r.cells] (.v (.bool (ruleB r))) := by
  refine spec_of mixed Try.func29 (by decide) rfl Try.results29 Try.ntmps29 (by decide) 0 (by simp) ?_
  simp [Rule.cells]
  refine pop_spec (rin_spec r.cash 0 1000) rfl false (.inl (by simp)) (.inl rfl) rfl (by simp) ?_
  cases h1 : inB r.cash 0 1000 with
  | false => simp; refine answers_of rfl ?_; simp [ruleB, h1]
  | true =>
    simp
    refine pop_spec (rin_spec r.voucher 0 1000) rfl false (.inl (by simp)) (.inl rfl) rfl (by simp) ?_
    cases h2 : inB r.voucher 0 1000 with
    | false => simp; refine answers_of rfl ?_; simp [ruleB, h1, h2]
    | true =>
      have b1 := inB_spec.1 h1
      have b2 := inB_spec.1 h2
      simp [i64_wrap (show -9223372036854775808 ≤ r.cash + r.voucher ∧ _ from by omega)]
      refine answers_of rfl ?_; simp [ruleB, h1, h2]

theorem rBack_spec (r : Rule) (cost : Int) (l : List Int) (fl : List Bool) (hr : ruleB r = true) (hok : ShareOk cost l) (hfl : fl.length = l.length) : Spec Try.prog 31 [.agg r.cells, .v (.int .i64 cost), ints l, bools fl] (.agg (backTo r (shareL cost l) fl l.length).cells) := by
  simp only [ruleB, Bool.and_eq_true, decide_eq_true_eq] at hr
  have b1 := inB_spec.1 hr.1.1
  have b2 := inB_spec.1 hr.1.2
  have h8 := hok.len
  refine spec_of mixed Try.func31 (by decide) rfl Try.results31 Try.ntmps31 (by decide) 0 (by simp) ?_
  simp [ints, bools, Rule.cells]
  refine pop_spec (rShare_spec cost l hok) rfl false (.inl (by simp [ints])) (.inl rfl) rfl (by simp [ints]) ?_
  have hlen : (shareL cost l).length = l.length := by simp [shareL]
  simp [ints, hlen]
  refine pwp_loop (fun k : Nat => [(9, .box true (backTo r (shareL cost l) fl k).cells), (11, .v (.int .i64 k))]) (fun k => k ≤ l.length) (fun k => l.length - k) 0 (Nat.zero_le _) (by simp; rfl) (by simp [backTo, Backs.cells]) ?_
  intro k hk
  have hB := backTo_in (r := r) (s := shareL cost l) (fl := fl) ⟨b1, b2⟩ (fun j hj => hok.el hj)
  obtain ⟨c1, c2, c3, c4⟩ := hB k hk
  by_cases hkl : k < l.length
  · have he := hok.el hkl
    have p1 := part_bound he.1 b1
    have p2 := part_bound he.1 b2
    have wk := i64_wrap (show -9223372036854775808 ≤ (k : Int) + 1 ∧ _ from by omega)
    generalize hb : backTo r (shareL cost l) fl k = b at c1 c2 c3 c4
    generalize hn : geti (shareL cost l) k = n at he p1 p2
    cases hf : getb fl k with
    | true =>
      have w1 : IntKind.i64.wrap (b.earned + n) = b.earned + n := i64_wrap (by omega)
      simp [hkl, Backs.cells, hf, show k < fl.length from by omega]
      refine pwp_draw 7 (by decide) ?_
      simp [hkl, hn, w1]
      refine ⟨by decide, ?_⟩
      refine again_of (k + 1) (by omega) (by omega) ?_
      simp [wk, backTo, backStep, hb, hn, hf, Backs.cells]
    | false =>
      have w1 : IntKind.i64.wrap (n * r.cash) = n * r.cash := i64_wrap (by omega)
      have w2 : IntKind.i64.wrap (n * r.voucher) = n * r.voucher := i64_wrap (by omega)
      have w3 : IntKind.i64.wrap ((n * r.cash).tdiv 1000) = n * r.cash / 1000 := i64_quo (by omega)
      have w4 : IntKind.i64.wrap ((n * r.voucher).tdiv 1000) = n * r.voucher / 1000 := i64_quo (by omega)
      have w5 : IntKind.i64.wrap (b.cash + n * r.cash / 1000) = b.cash + n * r.cash / 1000 := i64_wrap (by omega)
      have w6 : IntKind.i64.wrap (b.voucher + n * r.voucher / 1000) = b.voucher + n * r.voucher / 1000 := i64_wrap (by omega)
      have w7 : IntKind.i64.wrap (b.kept + n) = b.kept + n := i64_wrap (by omega)
      have w8 : IntKind.i64.wrap (b.kept + n - n * r.cash / 1000) = b.kept + n - n * r.cash / 1000 := i64_wrap (by omega)
      have w9 : IntKind.i64.wrap (b.kept + n - n * r.cash / 1000 - n * r.voucher / 1000) = b.kept + (n - n * r.cash / 1000 - n * r.voucher / 1000) := by
        rw [show b.kept + n - n * r.cash / 1000 - n * r.voucher / 1000 = b.kept + (n - n * r.cash / 1000 - n * r.voucher / 1000) from by omega]
        exact i64_wrap (by omega)
      simp [hkl, Backs.cells, hf, show k < fl.length from by omega]
      refine pwp_draw 18 (by decide) ?_
      simp [hkl, hn, w1, w2, w3, w4]
      refine ⟨by decide, ?_⟩
      refine pwp_draw 25 (by decide) ?_
      simp [hkl, hn, w5, w6, w7, w8, w9]
      refine ⟨by decide, ?_⟩
      refine again_of (k + 1) (by omega) (by omega) ?_
      simp [wk, backTo, backStep, hb, hn, hf, Backs.cells]
  · obtain rfl : k = l.length := by omega
    simp [Backs.cells]
    exact answers_plain (by simp [Backs.cells]) rfl

theorem lengths_ref {cost : Int} {l : List Int} (h8 : ¬ 8 < l.length) (h1 : 0 ≤ cost) (h2 : cost ≤ 1000000000) : lengthsE cost l = if (lensB l && decide (0 < sumL l)) = true then 0 else 2 := by
  simp only [lengthsE, h8, if_false, inB_spec.2 ⟨h1, h2⟩, Bool.true_and]
  cases h4 : lensB l with
  | false => simp
  | true =>
    have hf := far_bound (lens_spec.1 h4)
    have hs := sumL_all fun k hk => by have := hf k hk; omega
    have := (hf _ (Nat.le_refl _)).1
    rw [hs]
    simp
    by_cases h5 : far l l.length = 0
    · simp [h5]
    · simp [h5]; omega

theorem FareBacks_spec (r : Rule) (cost : Int) (l : List Int) (fl : List Bool) (hl : l.length ≤ 9223372036854775807) (hfl : fl.length ≤ 9223372036854775807) (hr1 : -9223372036854775808 ≤ r.cash ∧ r.cash ≤ 9223372036854775807) : Spec Try.prog 5 [.agg r.cells, .v (.int .i64 cost), ints l, bools fl] (.v (.bool true)) := by
  have hback := Back_spec r cost l fl hl hfl hr1
  refine spec_of mixed Try.func5 (by decide) rfl Try.results5 Try.ntmps5 (by decide) 0 (by simp) ?_
  simp [Rule.cells, ints, bools]
  by_cases h20 : 20 < l.length
  · simp [show (20 : Int) < l.length from by omega, show ¬ (l.length : Int) ≤ 20 from by omega]
    refine pop_spec known_spec rfl false (.inl (by simp)) (.inl rfl) rfl (by simp) ?_
    simp
    refine answers_of rfl ?_; simp
  by_cases h20' : 20 < fl.length
  · simp [show ¬ (20 : Int) < l.length from by omega, show (l.length : Int) ≤ 20 from by omega, show (20 : Int) < fl.length from by omega, show ¬ (fl.length : Int) ≤ 20 from by omega]
    refine pop_spec known_spec rfl false (.inl (by simp)) (.inl rfl) rfl (by simp) ?_
    simp
    refine answers_of rfl ?_; simp
  simp [show ¬ (20 : Int) < l.length from by omega, show (l.length : Int) ≤ 20 from by omega, show ¬ (20 : Int) < fl.length from by omega, show (fl.length : Int) ≤ 20 from by omega]
  refine pop_spec hback rfl false (.inl (by simp [ints, bools, Rule.cells])) (.inl rfl) rfl (by simp) ?_
  by_cases h8 : 8 < l.length
  · have hE : lengthsE cost l = 3 := by simp [lengthsE, h8]
    have hb : backOf r cost l fl = (⟨0, 0, 0, 0⟩, 3) := by simp [backOf, hE]
    rw [hb]
    simp [Backs.cells, show (8 : Int) < l.length from by omega]
    refine pop_spec known_spec rfl false (.inl (by simp)) (.inl rfl) rfl (by simp) ?_
    simp
    refine answers_of rfl ?_; simp
  have hE3 : lengthsE cost l ≠ 3 := by
    simp only [lengthsE, h8, if_false]; split <;> omega
  have bad : backBad r cost l fl = true → backOf r cost l fl = (⟨0, 0, 0, 0⟩, 2) := fun h => by simp [backOf, hE3, h]
  have hrb : ruleB r = false → backBad r cost l fl = true := fun h => by
    simp only [ruleB, Bool.and_eq_false_iff, decide_eq_false_iff_not, Int.not_le] at h
    rcases h with (h | h) | h <;> simp [backBad, h]
  simp [Backs.cells, show ¬ (8 : Int) < l.length from by omega, show (l.length : Int) ≤ 8 from by omega]
  refine pop_spec (rRule_spec r) rfl false (.inl (by simp [Rule.cells])) (.inl rfl) rfl (by simp) ?_
  cases h1 : ruleB r with
  | false =>
    rw [bad (hrb h1)]
    simp
    refine pop_spec known_spec rfl false (.inl (by simp)) (.inl rfl) rfl (by simp) ?_
    simp
    refine answers_of rfl ?_; simp
  | true =>
    by_cases h2 : 0 ≤ cost
    · by_cases h3 : cost ≤ 1000000000
      · simp [h2, h3, Int.not_lt.2 h2, Int.not_lt.2 h3]
        refine pop_spec (rLengths_spec l hl) rfl false (.inl (by simp [ints])) (.inl rfl) rfl (by simp) ?_
        have hE := lengths_ref h8 h2 h3
        cases h4 : lensB l && decide (0 < sumL l) with
        | false =>
          rw [h4] at hE
          rw [bad (by simp [backBad, hE])]
          simp
          refine pop_spec known_spec rfl false (.inl (by simp)) (.inl rfl) rfl (by simp) ?_
          simp
          refine answers_of rfl ?_; simp
        | true =>
          rw [h4] at hE
          have hE : lengthsE cost l = 0 := by simpa using hE
          by_cases h5 : fl.length = l.length
          · have hbb : backBad r cost l fl = false := by
              simp only [ruleB, Bool.and_eq_true, decide_eq_true_eq] at h1
              simp [backBad, hE, h1.1.1, h1.1.2, h5, h1.2]
            have hb : backOf r cost l fl = (backTo r (shareL cost l) fl l.length, 0) := by simp [backOf, hE, hbb]
            rw [hb]
            simp [show (fl.length : Int) = l.length from by omega]
            refine pwp_draw 15 (by decide) ?_
            simp
            refine pd_spec (rBack_spec r cost l fl h1 (share_ok hE) h5) (by simp [Rule.cells, ints, bools]) (by simp) (by simp [Rule.cells, ints, bools]) (by simp [Backs.cells]) ?_
            simp [Backs.cells]
            refine pd_spec known_spec (by simp) (by simp) (by simp) (by simp) ?_
            simp
            refine ⟨by decide, ?_⟩
            refine answers_of rfl ?_; simp
          · rw [bad (by simp [backBad, h5])]
            simp [show ¬ (fl.length : Int) = l.length from by omega]
            refine pop_spec known_spec rfl false (.inl (by simp)) (.inl rfl) rfl (by simp) ?_
            simp
            refine answers_of rfl ?_; simp
      · rw [bad (by simp [backBad, lengthsE, h8, inB, h3])]
        simp [h2, h3, Int.not_lt.2 h2, Int.not_le.1 h3]
        refine pop_spec known_spec rfl false (.inl (by simp)) (.inl rfl) rfl (by simp) ?_
        simp
        refine answers_of rfl ?_; simp
    · rw [bad (by simp [backBad, lengthsE, h8, inB, h2])]
      simp [h2, Int.not_le.1 h2]
      refine pop_spec known_spec rfl false (.inl (by simp)) (.inl rfl) rfl (by simp) ?_
      simp
      refine answers_of rfl ?_; simp
end Go.Qg

/-! FareBacks: for every rule, cost, all lengths and flown legs the law returns true, and leaves its arguments as they were. No condition. -/
namespace Go.Proofs.Ytmnoepkamkomkaa.lawFareBacks
open Go.Qg Go.ChangeAt Go.RowKit
set_option maxRecDepth 100000

theorem spec (args : List PV) (hl : Try.f5.params.toList.length = args.length) (h : ∀ (j : Nat) t p, Try.f5.params.toList[j]? = some t → args[j]? = some p → ArgP Try.prog 6 t p) : Qg.Spec Try.prog 5 args (.v (.bool true)) := by
  rw [Try.params5] at hl h
  match args, hl with
  | [a0, a1, a2, a3], _ =>
    obtain ⟨r, rfl, hr1, hr2⟩ := a_rule (h 0 _ a0 rfl rfl)
    obtain ⟨x, rfl, xok⟩ := a_int (h 1 _ a1 rfl rfl)
    obtain ⟨l, rfl, llen, lok⟩ := a_ints (h 2 _ a2 rfl rfl)
    obtain ⟨fl, rfl, fllen⟩ := a_bools (h 3 _ a3 rfl rfl)
    exact FareBacks_spec r x l fl llen fllen hr1

theorem lifted (os : Os) (started : os.Started) (H : Type) (enc : TypeId × Value → H) :
    ReturnsInHanded {} Try.checked os 5 .any (Rows.fareBacksSpec.pre6 enc Try.prog Try.f5 Rows.fareBacksRow.domain false) (Rows.fareBacksSpec.post enc Try.prog Try.f5 false true false false) := by
  refine law_lifted (C := Try.checked) 6 (tb := 4) ownKnob_ started (by kernel_rfl) Try.func5
    (ChangeSpec.witness6 (enc := enc) (C := Try.checked) false ⟨#[], #[.agg #[.int .i64 0, .int .i64 0], .int .i64 0, .slice none 0 0, .slice none 0 0], []⟩ 8 (by kernel_rfl) (by kernel_rfl) (by kernel_rfl) (by kernel_rfl)) laidOut_ rfl (by kernel_rfl) (by kernel_rfl) Try.underlying4 ?_ spec
  intro ds hds
  match ds, hds with
  | [_, _, _, _], _ => exact ⟨rfl, rfl, rfl⟩

theorem FareBacks_holds : Rows.FareBacksSaid :=
  OpenClaim.holds_of_wide 5 Try.f5 rfl rfl rfl rfl rfl rfl rfl ⟨rfl, rfl, rfl, rfl, rfl⟩ rfl rfl rfl rfl rfl (by kernel_rfl) Try.func5 (by kernel_rfl)
    (of_decide_eq_true (by kernel_rfl)) (by unfold Func.isWrapper; first | (rw [if_pos (by decide +kernel)]; kernel_rfl) | (rw [if_neg (by decide +kernel)]; exact ⟨rfl, rfl⟩))
    (fun os started H enc _ => lifted os started H enc)
end Go.Proofs.Ytmnoepkamkomkaa.lawFareBacks
