/-
  FareKept: for every rule, cost, all lengths and flown legs, and a leg more, the law returns true, and leaves its arguments as they were.
  No condition.
-/
import Derived.Test.YtmnoepkamkomkaaZ5
import Derived.Laws.CopyRow
set_option linter.all false

/-! Contracts of the reference's functions in, Sum, Lengths, Share. No condition. -/
namespace Go.Qg
open Go.Proofs
set_option maxRecDepth 100000
set_option maxHeartbeats 4000000
attribute [local irreducible] pwp pops pdraw pop popCall pdCall thenP blockP scopeP pspec Spec answers ppost CallW rend

theorem rin_spec (n lo hi : Int) : Spec Try.prog 71 [.v (.int .i64 n), .v (.int .i64 lo), .v (.int .i64 hi)] (.v (.bool (inB n lo hi))) := by
  refine spec_of mixed Try.func71 (by decide) rfl Try.results71 Try.ntmps71 (by decide) 0 (by simp) ?_
  by_cases h1 : lo ≤ n
  · by_cases h2 : n ≤ hi <;> (simp [h1, h2]; refine answers_of rfl ?_; simp [inB, h1, h2])
  · simp [h1]; refine answers_of rfl ?_; simp [inB, h1]

theorem rSum_spec (l : List Int) (hl : l.length ≤ 9223372036854775807) : Spec Try.prog 37 [ints l] (.v (.int .i64 (sumL l))) := by
  refine spec_of mixed Try.func37 (by decide) rfl Try.results37 Try.ntmps37 (by decide) 0 (by simp) ?_
  simp [ints]
  refine pwp_loop (fun k : Nat => [(3, .v (.int .i64 (sumL (l.take k)))), (4, .v (.int .i64 k))]) (fun k => k ≤ l.length) (fun k => l.length - k) 0 (Nat.zero_le _) (by simp; rfl) (by simp [sumL]) ?_
  intro k hk
  by_cases h : k < l.length
  · simp [h]
    refine again_of (k + 1) (by omega) (by omega) ?_
    have := sumL_snoc l k h
    simp [this, i64_wrap (show -9223372036854775808 ≤ (k : Int) + 1 ∧ _ from by omega)]
  · simp [h]
    rw [List.take_of_length_le (by omega)]
    refine answers_of rfl ?_; simp

theorem rLengths_spec (l : List Int) (hl : l.length ≤ 9223372036854775807) : Spec Try.prog 30 [ints l] (.v (.bool (lensB l && decide (0 < sumL l)))) := by
  refine spec_of mixed Try.func30 (by decide) rfl Try.results30 Try.ntmps30 (by decide) 0 (by simp) ?_
  simp [ints]
  refine pwp_loop (fun k : Nat => [(3, .v (.int .i64 k))]) (fun k => k ≤ l.length ∧ ∀ j, j < k → inB (geti l j) 0 10000 = true) (fun k => l.length - k) 0 ⟨Nat.zero_le _, fun j hj => by omega⟩ (by simp; rfl) (by simp) ?_
  intro k ⟨hk, hp⟩
  by_cases h : k < l.length
  · simp [h]
    refine pop_spec (rin_spec (geti l k) 0 10000) rfl false (.inl (by simp)) (.inl rfl) rfl (by simp) ?_
    cases hb : inB (geti l k) 0 10000 with
    | true =>
      simp
      refine again_of (k + 1) ⟨by omega, fun j hj => ?_⟩ (by omega) ?_
      · rcases Nat.lt_succ_iff_lt_or_eq.1 hj with hj | rfl
        · exact hp j hj
        · exact hb
      · simp [i64_wrap (show -9223372036854775808 ≤ (k : Int) + 1 ∧ _ from by omega)]
    | false =>
      simp
      have : lensB l = false := allN_false h hb
      refine answers_of rfl ?_; simp [this]
  · simp [h]
    obtain rfl : k = l.length := by omega
    have : lensB l = true := allN_spec.2 hp
    refine pop_spec (rSum_spec l hl) rfl false (.inl (by simp [ints])) (.inl rfl) rfl (by simp) ?_
    simp
    refine answers_of rfl ?_; simp [this]

theorem rShare_spec (amount : Int) (l : List Int) (h : ShareOk amount l) : Spec Try.prog 36 [.v (.int .i64 amount), ints l] (ints (shareL amount l)) := by
  have h8 := h.len
  have hw := h.whole
  refine spec_of mixed Try.func36 (by decide) rfl Try.results36 Try.ntmps36 (by decide) 0 (by simp) ?_
  simp [ints]
  refine pop_spec (rSum_spec l (by omega)) rfl false (.inl (by simp [ints])) (.inl rfl) rfl (by simp) ?_
  have hf := far_bound h.each
  rw [sumL_all fun k hk => by have := hf k hk; omega]
  simp
  refine pwp_loop (fun k : Nat => [(5, .own 35 k 0 k false), (7, .v (.int .i64 (far l k))), (8, .v (.int .i64 (shareTo amount l k))), (9, .v (.int .i64 k)), (35, .rows none k 3 1 (rowsOf (fun i => [.v (.int .i64 (shareTo amount l (i + 1) - shareTo amount l i))]) k))]) (fun k => k ≤ l.length) (fun k => l.length - k) 0 (Nat.zero_le _) (by simp; rfl) (by simp [shareTo, far]) ?_
  intro k hk
  by_cases hkl : k < l.length
  · have hk1 := hf (k + 1) hkl
    obtain ⟨a1, a2, a3, a4⟩ := h.to (k := k + 1) hkl
    obtain ⟨_, _, _, b4⟩ := h.to (k := k) hk
    have w1 : IntKind.i64.wrap (far l k + geti l k) = far l (k + 1) := i64_wrap (n := far l (k + 1)) (by omega)
    have w2 : IntKind.i64.wrap (amount * far l (k + 1)) = amount * far l (k + 1) := i64_wrap (by omega)
    have w3 : IntKind.i64.wrap ((amount * far l (k + 1)).tdiv (far l l.length)) = shareTo amount l (k + 1) := i64_quo (by omega)
    have w4 : IntKind.i64.wrap (shareTo amount l (k + 1) - shareTo amount l k) = shareTo amount l (k + 1) - shareTo amount l k := i64_wrap (by omega)
    have w5 : IntKind.i64.wrap (shareTo amount l k + (shareTo amount l (k + 1) - shareTo amount l k)) = shareTo amount l (k + 1) := by
      rw [show shareTo amount l k + (shareTo amount l (k + 1) - shareTo amount l k) = shareTo amount l (k + 1) from by omega]; exact i64_wrap (by omega)
    simp [hkl, w1, w2, w3, w4, w5, hw, show (k + 1) * 8 ≤ 140737488355328 from by omega, show k + 1 ≤ maxLen from by simp [maxLen]; omega]
    refine again_of (k + 1) (by omega) (by omega) ?_
    simp [i64_wrap (show -9223372036854775808 ≤ (k : Int) + 1 ∧ _ from by omega), rowsOf_snoc]
  · simp [hkl]
    obtain rfl : k = l.length := by omega
    refine answers_of rfl ?_
    simp [shareL]
    intro k hk; simp [geti_mk hk, rowsOf_get hk]
end Go.Qg

/-! The law FareShares returns true. No condition. -/
namespace Go.Qg
open Go.Proofs
set_option maxRecDepth 100000
set_option maxHeartbeats 4000000
attribute [local irreducible] pwp pops pdraw pop popCall pdCall thenP blockP scopeP pspec Spec answers ppost CallW rend

theorem geti_shareL {amount : Int} {l : List Int} {k : Nat} (hk : k < l.length) : geti (shareL amount l) k = shareTo amount l (k + 1) - shareTo amount l k := geti_mk hk
theorem far_shareL {amount : Int} {l : List Int} : ∀ k, k ≤ l.length → far (shareL amount l) k = shareTo amount l k
  | 0, _ => by simp [far, shareTo]
  | k + 1, hk => by
    rw [far, far_shareL k (by omega), geti_shareL hk]; omega
theorem sum_shareL {amount : Int} {l : List Int} (h : ShareOk amount l) : sumL (shareL amount l) = amount := by
  have hlen : (shareL amount l).length = l.length := by simp [shareL]
  have e : far (shareL amount l) l.length = amount := by
    rw [far_shareL l.length (Nat.le_refl _), shareTo]
    exact Int.mul_ediv_cancel _ h.whole
  rw [sumL_all fun k hk => by
    rw [hlen] at hk
    rw [far_shareL k hk]
    have := h.to hk; omega, hlen, e]
theorem share_near {amount : Int} {l : List Int} (h : ShareOk amount l) {k : Nat} (hk : k < l.length) :
    -far l l.length < geti (shareL amount l) k * far l l.length - amount * geti l k ∧ geti (shareL amount l) k * far l l.length - amount * geti l k < far l l.length ∧ 0 ≤ geti (shareL amount l) k := by
  rw [geti_shareL hk]
  have hm := h.mono hk
  have hw := (h.to (Nat.le_refl l.length)).2.1
  unfold shareTo at hm ⊢
  have e1 : amount * far l (k + 1) = amount * far l k + amount * geti l k := by rw [far, Int.mul_add]
  generalize amount * far l (k + 1) = A at *
  generalize amount * far l k = B at *
  generalize amount * geti l k = C at *
  generalize far l l.length = W at *
  have h1 := Int.emod_add_mul_ediv A W
  have h2 := Int.emod_add_mul_ediv B W
  have h3 := Int.emod_nonneg A (show W ≠ 0 by omega)
  have h4 := Int.emod_lt_of_pos A (show 0 < W by omega)
  have h5 := Int.emod_nonneg B (show W ≠ 0 by omega)
  have h6 := Int.emod_lt_of_pos B (show 0 < W by omega)
  have e2 : (A / W - B / W) * W = W * (A / W) - W * (B / W) := by rw [Int.sub_mul, Int.mul_comm, Int.mul_comm W (B / W)]
  rw [e2]
  refine ⟨?_, ?_, ?_⟩ <;> omega

theorem FareShares_spec (amount : Int) (l : List Int) (hl : l.length ≤ 9223372036854775807) : Spec Try.prog 8 [.v (.int .i64 amount), ints l] (.v (.bool true)) := by
  refine spec_of mixed Try.func8 (by decide) rfl Try.results8 Try.ntmps8 (by decide) 0 (by simp) ?_
  simp [ints]
  by_cases h20 : 20 < l.length
  · simp [show (20 : Int) < l.length from by omega]
    refine pop_spec known_spec rfl false (.inl (by simp)) (.inl rfl) rfl (by simp) ?_
    simp
    refine answers_of rfl ?_; simp
  · simp [show ¬ (20 : Int) < l.length from by omega, show (l.length : Int) ≤ 20 from by omega]
    refine pop_spec (Share_spec amount l hl) rfl false (.inl (by simp [ints])) (.inl rfl) rfl (by simp [ints]) ?_
    by_cases h8 : 8 < l.length
    · have hE : lengthsE amount l = 3 := by simp [lengthsE, h8]
      simp [hE, ints, show (8 : Int) < l.length from by omega]
      refine pop_spec known_spec rfl false (.inl (by simp)) (.inl rfl) rfl (by simp) ?_
      simp
      refine answers_of rfl ?_; simp
    · have hlb : ∀ {b : Bool}, lensB l = b → b = true → sumL l = far l l.length ∧ 0 ≤ far l l.length := fun h1 h2 => by
        have hf := far_bound (lens_spec.1 (h1.trans h2))
        exact ⟨sumL_all fun k hk => by have := hf k hk; omega, (hf _ (Nat.le_refl _)).1⟩
      by_cases h1 : 0 ≤ amount
      · by_cases h2 : amount ≤ 1000000000
        · have hin : inB amount 0 1000000000 = true := inB_spec.2 ⟨h1, h2⟩
          cases h3 : lensB l && decide (0 < sumL l) with
          | false =>
            have hE : lengthsE amount l = 2 := by
              simp only [lengthsE, h8, if_false, hin, Bool.true_and]
              cases h4 : lensB l with
              | false => simp
              | true =>
                have := hlb h4 rfl
                simp [h4] at h3
                simp; omega
            simp [hE, ints, show ¬ (8 : Int) < l.length from by omega, show (l.length : Int) ≤ 8 from by omega, h1, h2, Int.not_lt.2 h1, Int.not_lt.2 h2]
            refine pop_spec (rLengths_spec l hl) rfl false (.inl (by simp [ints])) (.inl rfl) rfl (by simp) ?_
            simp [h3]
            refine pop_spec known_spec rfl false (.inl (by simp)) (.inl rfl) rfl (by simp) ?_
            simp
            refine answers_of rfl ?_; simp
          | true =>
            have h4 : lensB l = true := by cases h4 : lensB l <;> simp [h4] at h3 ⊢
            have hsum := hlb h4 rfl
            have hpos : 0 < sumL l := by simpa [h4] using h3
            have hE : lengthsE amount l = 0 := by
              simp only [lengthsE, h8, if_false, hin, Bool.true_and, h4]
              simp; omega
            have hok := share_ok hE
            have hlen : (shareL amount l).length = l.length := by simp [shareL]
            simp [hE, ints, show ¬ (8 : Int) < l.length from by omega, show (l.length : Int) ≤ 8 from by omega, h1, h2, Int.not_lt.2 h1, Int.not_lt.2 h2]
            refine pop_spec (rLengths_spec l hl) rfl false (.inl (by simp [ints])) (.inl rfl) rfl (by simp) ?_
            simp [h3]
            refine pop_spec (rShare_spec amount l hok) rfl false (.inl (by simp [ints])) (.inl rfl) rfl (by simp [ints]) ?_
            simp [ints]
            refine pop_spec (Same_spec (shareL amount l) (shareL amount l) (by omega) (by omega)) rfl false (.inl (by simp [ints])) (.inl rfl) rfl (by simp) ?_
            simp
            refine pop_spec (rSum_spec (shareL amount l) (by omega)) rfl false (.inl (by simp [ints])) (.inl rfl) rfl (by simp) ?_
            rw [sum_shareL hok]
            simp
            refine pop_spec (rSum_spec l hl) rfl false (.inl (by simp [ints])) (.inl rfl) rfl (by simp) ?_
            rw [hsum.1]
            simp
            refine pwp_loop (fun k : Nat => [(9, .v (.int .i64 k))]) (fun k => k ≤ l.length) (fun k => l.length - k) 0 (Nat.zero_le _) (by simp; rfl) (by simp) ?_
            intro k hk
            by_cases hkl : k < l.length
            · have wk := i64_wrap (show -9223372036854775808 ≤ (k : Int) + 1 ∧ _ from by omega)
              obtain ⟨n1, n2, n3⟩ := share_near hok hkl
              obtain ⟨a1, a2, a3, a4⟩ := hok.to (k := k + 1) hkl
              obtain ⟨b1, _, _, b4⟩ := hok.to (k := k) hk
              have hg := geti_shareL (amount := amount) hkl
              have ha := hok.each k hkl
              have e1 : amount * far l (k + 1) = amount * far l k + amount * geti l k := by rw [far, Int.mul_add]
              generalize hX : geti (shareL amount l) k = x at *
              generalize hC : amount * geti l k = c at *
              generalize hW : far l l.length = W at *
              generalize hM : x * W = m at *
              have w1 : IntKind.i64.wrap m = m := i64_wrap (by omega)
              have w2 : IntKind.i64.wrap c = c := i64_wrap (by omega)
              have w3 : IntKind.i64.wrap (m - c) = m - c := i64_wrap (by omega)
              have w4 : IntKind.i64.wrap (-W) = -W := i64_wrap (by omega)
              simp [hlen, hkl]
              refine pwp_draw 14 (by decide) ?_
              simp [hlen, hkl, hX, hC, hM, w1, w2, w3, w4]
              refine ⟨by decide, ?_⟩
              simp [w4, Int.not_le.2 n1, n1, n2, Int.not_le.2 n2, hlen, hkl, hX, n3, Int.not_lt.2 n3]
              refine again_of (k + 1) (by omega) (by omega) ?_
              simp [wk]
            · simp [hlen, hkl]
              refine pop_spec known_spec rfl false (.inl (by simp)) (.inl rfl) rfl (by simp) ?_
              simp
              refine answers_of rfl ?_; simp
        · have hE : lengthsE amount l = 2 := by simp [lengthsE, h8, inB, h2]
          simp [hE, ints, show ¬ (8 : Int) < l.length from by omega, show (l.length : Int) ≤ 8 from by omega, h1, h2, Int.not_lt.2 h1, Int.not_le.1 h2]
          refine pop_spec known_spec rfl false (.inl (by simp)) (.inl rfl) rfl (by simp) ?_
          simp
          refine answers_of rfl ?_; simp
      · have hE : lengthsE amount l = 2 := by simp [lengthsE, h8, inB, h1]
        simp [hE, ints, show ¬ (8 : Int) < l.length from by omega, show (l.length : Int) ≤ 8 from by omega, h1, Int.not_le.1 h1]
        refine pop_spec known_spec rfl false (.inl (by simp)) (.inl rfl) rfl (by simp) ?_
        simp
        refine answers_of rfl ?_; simp
end Go.Qg

/-! Contracts of the reference's functions Rule, Back; the law FareBacks returns true. No condition. -/
namespace Go.Qg
open Go.Proofs
set_option maxRecDepth 100000
set_option maxHeartbeats 4000000
attribute [local irreducible] pwp pops pdraw pop popCall pdCall thenP blockP scopeP pspec Spec answers ppost CallW rend

def ruleB (r : Rule) : Bool := inB r.cash 0 1000 && inB r.voucher 0 1000 && decide (r.cash + r.voucher ≤ 1000)
theorem rRule_spec (r : Rule) : Spec Try.prog 29 [.agg r.cells] (.v (.bool (ruleB r))) := by
  refine spec_of mixed Try.func29 (by decide) rfl Try.results29 Try.ntmps29 (by decide) 0 (by simp) ?_
  simp [Rule.cells]
  refine pop_spec (rin_spec r.cash 0 1000) rfl false (.inl (by simp)) (.inl rfl) rfl (by simp) ?_
  cases h1 : inB r.cash 0 1000 with
  | false => simp; refine answers_of rfl ?_; simp [ruleB, h1]
  | true =>
    simp
    refine pop_spec (rin_spec r.voucher 0 1000) rfl false (.inl (by simp)) (.inl rfl) rfl (by simp) ?_
    cases h2 : inB r.voucher 0 1000 with
    | false => simp; refine answers_of rfl ?_; simp [ruleB, h1, h2]
    | true =>
      have b1 := inB_spec.1 h1
      have b2 := inB_spec.1 h2
      simp [i64_wrap (show -9223372036854775808 ≤ r.cash + r.voucher ∧ _ from by omega)]
      refine answers_of rfl ?_; simp [ruleB, h1, h2]

theorem rBack_spec (r : Rule) (cost : Int) (l : List Int) (fl : List Bool) (hr : ruleB r = true) (hok : ShareOk cost l) (hfl : fl.length = l.length) : Spec Try.prog 31 [.agg r.cells, .v (.int .i64 cost), ints l, bools fl] (.agg (backTo r (shareL cost l) fl l.length).cells) := by
  simp only [ruleB, Bool.and_eq_true, decide_eq_true_eq] at hr
  have b1 := inB_spec.1 hr.1.1
  have b2 := inB_spec.1 hr.1.2
  have h8 := hok.len
  refine spec_of mixed Try.func31 (by decide) rfl Try.results31 Try.ntmps31 (by decide) 0 (by simp) ?_
  simp [ints, bools, Rule.cells]
  refine pop_spec (rShare_spec cost l hok) rfl false (.inl (by simp [ints])) (.inl rfl) rfl (by simp [ints]) ?_
  have hlen : (shareL cost l).length = l.length := by simp [shareL]
  simp [ints, hlen]
  refine pwp_loop (fun k : Nat => [(9, .box true (backTo r (shareL cost l) fl k).cells), (11, .v (.int .i64 k))]) (fun k => k ≤ l.length) (fun k => l.length - k) 0 (Nat.zero_le _) (by simp; rfl) (by simp [backTo, Backs.cells]) ?_
  intro k hk
  have hB := backTo_in (r := r) (s := shareL cost l) (fl := fl) ⟨b1, b2⟩ (fun j hj => hok.el hj)
  obtain ⟨c1, c2, c3, c4⟩ := hB k hk
  by_cases hkl : k < l.length
  · have he := hok.el hkl
    have p1 := part_bound he.1 b1
    have p2 := part_bound he.1 b2
    have wk := i64_wrap (show -9223372036854775808 ≤ (k : Int) + 1 ∧ _ from by omega)
    generalize hb : backTo r (shareL cost l) fl k = b at c1 c2 c3 c4
    generalize hn : geti (shareL cost l) k = n at he p1 p2
    cases hf : getb fl k with
    | true =>
      have w1 : IntKind.i64.wrap (b.earned + n) = b.earned + n := i64_wrap (by omega)
      simp [hkl, Backs.cells, hf, show k < fl.length from by omega]
      refine pwp_draw 7 (by decide) ?_
      simp [hkl, hn, w1]
      refine ⟨by decide, ?_⟩
      refine again_of (k + 1) (by omega) (by omega) ?_
      simp [wk, backTo, backStep, hb, hn, hf, Backs.cells]
    | false =>
      have w1 : IntKind.i64.wrap (n * r.cash) = n * r.cash := i64_wrap (by omega)
      have w2 : IntKind.i64.wrap (n * r.voucher) = n * r.voucher := i64_wrap (by omega)
      have w3 : IntKind.i64.wrap ((n * r.cash).tdiv 1000) = n * r.cash / 1000 := i64_quo (by omega)
      have w4 : IntKind.i64.wrap ((n * r.voucher).tdiv 1000) = n * r.voucher / 1000 := i64_quo (by omega)
      have w5 : IntKind.i64.wrap (b.cash + n * r.cash / 1000) = b.cash + n * r.cash / 1000 := i64_wrap (by omega)
      have w6 : IntKind.i64.wrap (b.voucher + n * r.voucher / 1000) = b.voucher + n * r.voucher / 1000 := i64_wrap (by omega)
      have w7 : IntKind.i64.wrap (b.kept + n) = b.kept + n := i64_wrap (by omega)
      have w8 : IntKind.i64.wrap (b.kept + n - n * r.cash / 1000) = b.kept + n - n * r.cash / 1000 := i64_wrap (by omega)
      have w9 : IntKind.i64.wrap (b.kept + n - n * r.cash / 1000 - n * r.voucher / 1000) = b.kept + (n - n * r.cash / 1000 - n * r.voucher / 1000) := by
        rw [show b.kept + n - n * r.cash / 1000 - n * r.voucher / 1000 = b.kept + (n - n * r.cash / 1000 - n * r.voucher / 1000) from by omega]
        exact i64_wrap (by omega)
      simp [hkl, Backs.cells, hf, show k < fl.length from by omega]
      refine pwp_draw 18 (by decide) ?_
      simp [hkl, hn, w1, w2, w3, w4]
      refine ⟨by decide, ?_⟩
      refine pwp_draw 25 (by decide) ?_
      simp [hkl, hn, w5, w6, w7, w8, w9]
      refine ⟨by decide, ?_⟩
      refine again_of (k + 1) (by omega) (by omega) ?_
      simp [wk, backTo, backStep, hb, hn, hf, Backs.cells]
  · obtain rfl : k = l.length := by omega
    simp [Backs.cells]
    exact answers_plain (by simp [Backs.cells]) rfl

theorem lengths_ref {cost : Int} {l : List Int} (h8 : ¬ 8 < l.length) (h1 : 0 ≤ cost) (h2 : cost ≤ 1000000000) : lengthsE cost l = if (lensB l && decide (0 < sumL l)) = true then 0 else 2 := by
  simp only [lengthsE, h8, if_false, inB_spec.2 ⟨h1, h2⟩, Bool.true_and]
  cases h4 : lensB l with
  | false => simp
  | true =>
    have hf := far_bound (lens_spec.1 h4)
    have hs := sumL_all fun k hk => by have := hf k hk; omega
    have := (hf _ (Nat.le_refl _)).1
    rw [hs]
    simp
    by_cases h5 : far l l.length = 0
    · simp [h5]
    · simp [h5]; omega

theorem FareBacks_spec (r : Rule) (cost : Int) (l : List Int) (fl : List Bool) (hl : l.length ≤ 9223372036854775807) (hfl : fl.length ≤ 9223372036854775807) (hr1 : -9223372036854775808 ≤ r.cash ∧ r.cash ≤ 9223372036854775807) : Spec Try.prog 5 [.agg r.cells, .v (.int .i64 cost), ints l, bools fl] (.v (.bool true)) := by
  have hback := Back_spec r cost l fl hl hfl hr1
  refine spec_of mixed Try.func5 (by decide) rfl Try.results5 Try.ntmps5 (by decide) 0 (by simp) ?_
  simp [Rule.cells, ints, bools]
  by_cases h20 : 20 < l.length
  · simp [show (20 : Int) < l.length from by omega, show ¬ (l.length : Int) ≤ 20 from by omega]
    refine pop_spec known_spec rfl false (.inl (by simp)) (.inl rfl) rfl (by simp) ?_
    simp
    refine answers_of rfl ?_; simp
  by_cases h20' : 20 < fl.length
  · simp [show ¬ (20 : Int) < l.length from by omega, show (l.length : Int) ≤ 20 from by omega, show (20 : Int) < fl.length from by omega, show ¬ (fl.length : Int) ≤ 20 from by omega]
    refine pop_spec known_spec rfl false (.inl (by simp)) (.inl rfl) rfl (by simp) ?_
    simp
    refine answers_of rfl ?_; simp
  simp [show ¬ (20 : Int) < l.length from by omega, show (l.length : Int) ≤ 20 from by omega, show ¬ (20 : Int) < fl.length from by omega, show (fl.length : Int) ≤ 20 from by omega]
  refine pop_spec hback rfl false (.inl (by simp [ints, bools, Rule.cells])) (.inl rfl) rfl (by simp) ?_
  by_cases h8 : 8 < l.length
  · have hE : lengthsE cost l = 3 := by simp [lengthsE, h8]
    have hb : backOf r cost l fl = (⟨0, 0, 0, 0⟩, 3) := by simp [backOf, hE]
    rw [hb]
    simp [Backs.cells, show (8 : Int) < l.length from by omega]
    refine pop_spec known_spec rfl false (.inl (by simp)) (.inl rfl) rfl (by simp) ?_
    simp
    refine answers_of rfl ?_; simp
  have hE3 : lengthsE cost l ≠ 3 := by
    simp only [lengthsE, h8, if_false]; split <;> omega
  have bad : backBad r cost l fl = true → backOf r cost l fl = (⟨0, 0, 0, 0⟩, 2) := fun h => by simp [backOf, hE3, h]
  have hrb : ruleB r = false → backBad r cost l fl = true := fun h => by
    simp only [ruleB, Bool.and_eq_false_iff, decide_eq_false_iff_not, Int.not_le] at h
    rcases h with (h | h) | h <;> simp [backBad, h]
  simp [Backs.cells, show ¬ (8 : Int) < l.length from by omega, show (l.length : Int) ≤ 8 from by omega]
  refine pop_spec (rRule_spec r) rfl false (.inl (by simp [Rule.cells])) (.inl rfl) rfl (by simp) ?_
  cases h1 : ruleB r with
  | false =>
    rw [bad (hrb h1)]
    simp
    refine pop_spec known_spec rfl false (.inl (by simp)) (.inl rfl) rfl (by simp) ?_
    simp
    refine answers_of rfl ?_; simp
  | true =>
    by_cases h2 : 0 ≤ cost
    · by_cases h3 : cost ≤ 1000000000
      · simp [h2, h3, Int.not_lt.2 h2, Int.not_lt.2 h3]
        refine pop_spec (rLengths_spec l hl) rfl false (.inl (by simp [ints])) (.inl rfl) rfl (by simp) ?_
        have hE := lengths_ref h8 h2 h3
        cases h4 : lensB l && decide (0 < sumL l) with
        | false =>
          rw [h4] at hE
          rw [bad (by simp [backBad, hE])]
          simp
          refine pop_spec known_spec rfl false (.inl (by simp)) (.inl rfl) rfl (by simp) ?_
          simp
          refine answers_of rfl ?_; simp
        | true =>
          rw [h4] at hE
          have hE : lengthsE cost l = 0 := by simpa using hE
          by_cases h5 : fl.length = l.length
          · have hbb : backBad r cost l fl = false := by
              simp only [ruleB, Bool.and_eq_true, decide_eq_true_eq] at h1
              simp [backBad, hE, h1.1.1, h1.1.2, h5, h1.2]
            have hb : backOf r cost l fl = (backTo r (shareL cost l) fl l.length, 0) := by simp [backOf, hE, hbb]
            rw [hb]
            simp [show (fl.length : Int) = l.length from by omega]
            refine pwp_draw 15 (by decide) ?_
            simp
            refine pd_spec (rBack_spec r cost l fl h1 (share_ok hE) h5) (by simp [Rule.cells, ints, bools]) (by simp) (by simp [Rule.cells, ints, bools]) (by simp [Backs.cells]) ?_
            simp [Backs.cells]
            refine pd_spec known_spec (by simp) (by simp) (by simp) (by simp) ?_
            simp
            refine ⟨by decide, ?_⟩
            refine answers_of rfl ?_; simp
          · rw [bad (by simp [backBad, h5])]
            simp [show ¬ (fl.length : Int) = l.length from by omega]
            refine pop_spec known_spec rfl false (.inl (by simp)) (.inl rfl) rfl (by simp) ?_
            simp
            refine answers_of rfl ?_; simp
      · rw [bad (by simp [backBad, lengthsE, h8, inB, h3])]
        simp [h2, h3, Int.not_lt.2 h2, Int.not_le.1 h3]
        refine pop_spec known_spec rfl false (.inl (by simp)) (.inl rfl) rfl (by simp) ?_
        simp
        refine answers_of rfl ?_; simp
    · rw [bad (by simp [backBad, lengthsE, h8, inB, h2])]
      simp [h2, Int.not_le.1 h2]
      refine pop_spec known_spec rfl false (.inl (by simp)) (.inl rfl) rfl (by simp) ?_
      simp
      refine answers_of rfl ?_; simp
end Go.Qg

/-! What is earned, given back and kept: the sums, and what one leg more does. No condition. -/
namespace Go.Qg
open Go.Proofs
set_option maxRecDepth 100000

structure RuleOk (r : Rule) : Prop where
  c : 0 ≤ r.cash ∧ r.cash ≤ 1000
  v : 0 ≤ r.voucher ∧ r.voucher ≤ 1000
  cv : r.cash + r.voucher ≤ 1000
theorem parts {r : Rule} (h : RuleOk r) {n : Int} (hn : 0 ≤ n) : 0 ≤ n * r.cash / 1000 ∧ 0 ≤ n * r.voucher / 1000 ∧ n * r.cash / 1000 + n * r.voucher / 1000 ≤ n ∧ (r.cash + r.voucher = 1000 → n - n * r.cash / 1000 - n * r.voucher / 1000 ≤ 1) := by
  have e0 := part_bound hn h.c
  have e1 := part_bound hn h.v
  have e2 : n * r.cash + n * r.voucher = n * (r.cash + r.voucher) := (Int.mul_add ..).symm
  have e3 : n * (r.cash + r.voucher) ≤ n * 1000 := Int.mul_le_mul_of_nonneg_left h.cv hn
  refine ⟨e0.2.2.1, e1.2.2.1, by omega, fun h4 => ?_⟩
  rw [h4] at e2
  omega
/-- What holds of a part of the legs. -/
structure KeptOk (r : Rule) (s : List Int) (fl : List Bool) (k : Nat) : Prop where
  e : 0 ≤ (backTo r s fl k).earned
  c : 0 ≤ (backTo r s fl k).cash
  v : 0 ≤ (backTo r s fl k).voucher
  kp : 0 ≤ (backTo r s fl k).kept
  sum : (backTo r s fl k).earned + (backTo r s fl k).cash + (backTo r s fl k).voucher + (backTo r s fl k).kept = far s k
  few : r.cash + r.voucher = 1000 → (backTo r s fl k).kept ≤ k
theorem kept_ok {r : Rule} (h : RuleOk r) {s : List Int} {fl : List Bool} {n : Nat} (hs : ∀ k, k < n → 0 ≤ geti s k) : ∀ k, k ≤ n → KeptOk r s fl k
  | 0, _ => by constructor <;> simp [backTo, far]
  | k + 1, hk => by
    obtain ⟨h1, h2, h3, h4, h5, h6⟩ := kept_ok h (fl := fl) hs k (by omega)
    obtain ⟨p1, p2, p3, p4⟩ := parts h (hs k (by omega))
    have hsk := hs k (by omega)
    have ef : far s (k + 1) = far s k + geti s k := rfl
    cases hf : getb fl k with
    | true =>
      have eb : backTo r s fl (k + 1) = ⟨(backTo r s fl k).earned + geti s k, (backTo r s fl k).cash, (backTo r s fl k).voucher, (backTo r s fl k).kept⟩ := by simp [backTo, backStep, hf]
      constructor <;> rw [eb] <;> dsimp only
      · omega
      · exact h2
      · exact h3
      · exact h4
      · rw [ef]; omega
      · intro hcv; have := h6 hcv; omega
    | false =>
      have eb : backTo r s fl (k + 1) = ⟨(backTo r s fl k).earned, (backTo r s fl k).cash + geti s k * r.cash / 1000, (backTo r s fl k).voucher + geti s k * r.voucher / 1000, (backTo r s fl k).kept + (geti s k - geti s k * r.cash / 1000 - geti s k * r.voucher / 1000)⟩ := by simp [backTo, backStep, hf]
      constructor <;> rw [eb] <;> dsimp only
      · exact h1
      · omega
      · omega
      · omega
      · rw [ef]; omega
      · intro hcv; have := h6 hcv; have := p4 hcv; omega
theorem kept_all (r : Rule) (s : List Int) {fl : List Bool} {n : Nat} (hf : ∀ k, k < n → getb fl k = true) : ∀ k, k ≤ n → backTo r s fl k = ⟨far s k, 0, 0, 0⟩
  | 0, _ => rfl
  | k + 1, hk => by
    simp [backTo, backStep, hf k (by omega), kept_all r s hf k (by omega), far]
/-- With more legs flown no less is earned, and no more given back. -/
theorem kept_more {r : Rule} (h : RuleOk r) {s : List Int} {fl fl' : List Bool} {n : Nat} (hs : ∀ k, k < n → 0 ≤ geti s k) (hf : ∀ k, k < n → getb fl k = true → getb fl' k = true) : ∀ k, k ≤ n →
    (backTo r s fl k).earned ≤ (backTo r s fl' k).earned ∧ (backTo r s fl' k).cash ≤ (backTo r s fl k).cash ∧ (backTo r s fl' k).voucher ≤ (backTo r s fl k).voucher
  | 0, _ => ⟨Int.le_refl _, Int.le_refl _, Int.le_refl _⟩
  | k + 1, hk => by
    obtain ⟨h1, h2, h3⟩ := kept_more h hs hf k (by omega)
    obtain ⟨p1, p2, _, _⟩ := parts h (hs k (by omega))
    have hsk := hs k (by omega)
    have hfk := hf k (by omega)
    cases e1 : getb fl k with
    | true =>
      simp only [backTo, backStep, e1, hfk e1, if_true]
      omega
    | false =>
      cases e2 : getb fl' k with
      | true =>
        simp only [backTo, backStep, e1, e2, if_true, Bool.false_eq_true, if_false]
        omega
      | false =>
        simp only [backTo, backStep, e1, e2, Bool.false_eq_true, if_false]
        omega
end Go.Qg

/-! copy into a slice that the frame owns, as a frame's reading has it. No condition: lemmas that hold of every program. -/
namespace Go.Qg
open Go.RowKit (Below)

section
variable {P : Program} {N : Nat} {B : Base} {w w' : World} {R R' : Nat → Nat → Prop} {Γ Γ' : Nat → Option Loc} {a : Act} {fr fr' : PF}

/-- What copy leaves, where as much is copied as the slice holds (cells of one word). -/
theorem copy_sound (h : Sim N B R Γ a w fr) {u v : Value} {i ep n : Nat} {ff : Bool} {fl : Option (Nat × Nat)} {e : TypeId} {rs news : List (List PV)} {T T' ty el : TypeId} (ht : P.underlying T = some (.slice el)) (hz : (P.info? el).map (·.size) = some 1)
    (hs : fr[i]? = some (.rows fl ep e 1 rs)) (hu : Rep w R Γ u (.own i ep 0 n ff)) (hn : rs.length = n) (h0 : 0 < n) (hv : RowsOf w R Γ 1 news v) (hl : news.length = n) :
    ∃ w', (Builtin.copy_ #[T, T'] ty #[u, v]).run P w = .ok (goInt n) w' ∧ Sim N B R Γ a w' (fr.set i (.rows fl ep e 1 news)) := by
  obtain ⟨l, hΓ, hown, _⟩ := h.ownAt (sz := 1) (rs := rs) hu (by simp [Qg.pown, hs])
  obtain ⟨l2, hΓ2, htmp, hrow, _, hl2⟩ := h.slot i _ hs
  rw [hΓ] at hΓ2
  simp only [Option.some.injEq, Loc.rows.injEq, true_and] at hΓ2
  subst hΓ2
  cases l with
  | none => obtain ⟨_, h1, _⟩ := hown; omega
  | some bc =>
    obtain ⟨b, cap⟩ := bc
    obtain ⟨rfl, hcap⟩ := hown
    obtain ⟨vs, hh, hc1, hc2, hvs, hr⟩ := hl2
    obtain ⟨hone, A, c, rfl, hx⟩ := hv
    rcases hx with ⟨e0, _⟩ | ⟨ad, us, rfl, hat⟩
    · rw [e0] at hl; simp at hl; omega
    have hrep : ∀ (k : Nat) (r : List PV) (p : PV), news[k]? = some r → r[0]? = some p → Rep w R Γ (us k) p := fun k r p h1 h2 => by
      have := hat.rep k 0 r p h1 h2
      simpa using this
    have h1 : ∀ x ∈ (List.range n).map us, x.oneCell' = true := fun x hx => by
      obtain ⟨k, hk, rfl⟩ := List.mem_map.1 hx
      have hk := List.mem_range.1 hk
      have hkn : k < news.length := by omega
      have hg := List.getElem?_eq_getElem hkn
      obtain ⟨q1, q2⟩ := hone _ (List.mem_of_getElem? hg)
      have hp0 := List.getElem?_eq_getElem (show 0 < news[k].length by omega)
      exact (hrep k _ _ hg hp0).oneCell (q2 _ (List.mem_of_getElem? hp0))
    have hrun := run_copy_row (P := P) w T T' ty el b (0 * 1) n (if ff then n else cap - 0) ad n c vs e ((List.range n).map us) ht hz hh (by simp) (fun j x hj => by
      rw [List.getElem?_map] at hj
      obtain ⟨j', hj', rfl⟩ := Option.map_eq_some_iff.1 hj
      have hlt := lt_of_get? hj'
      simp at hlt
      rw [List.getElem?_range hlt] at hj'
      obtain rfl := Option.some.inj hj'
      exact hat.cell j (by rw [hl]; omega)) (by simp; omega) h1
    simp only [List.length_map, List.length_range] at hrun
    refine ⟨_, by rw [hl]; exact hrun, ?_⟩
    generalize hW : vs.toList.take (0 * 1) ++ (List.range n).map us ++ vs.toList.drop (0 * 1 + n) = W
    have hWg : ∀ j, j < n → W[j]? = some (us j) := fun j hj => by
      rw [← hW]
      simp only [Nat.zero_mul, List.take_zero, List.nil_append]
      rw [List.getElem?_append_left (by simpa using hj), List.getElem?_map, List.getElem?_range hj]; rfl
    have hWl : W.length = vs.size := by rw [← hW]; simp; omega
    have hg : w.grownBy (w.setRow b W.toArray) (some b) := ⟨rfl, rfl, rfl, by simp, fun k _ hne => setRow_other w b k _ (fun e => hne (by rw [e]))⟩
    have hk : ∀ b' o, R b' o → R b' o ∧ (w.setRow b W.toArray).cell? ⟨b', o, none⟩ = w.cell? ⟨b', o, none⟩ := fun b' o hbo =>
      ⟨hbo, cell?_of_heap (hg.block b' (h.bnd b' o hbo) (fun e => ((h.own i _ hΓ).2 _ rfl).2.2 o (Option.some.inj e ▸ hbo)))⟩
    have := h.setObj hΓ (Loc.le_refl _) hg (.inl rfl) (p' := .rows fl ep e 1 news) rfl (by
      rw [give_same hΓ]
      refine ⟨some (b, cap), hΓ, fun ep0 n0 e => ⟨(htmp ep0 n0 e).1, (htmp ep0 n0 e).2.keep hk⟩, hone, by omega, W.toArray, setRow_heap w b vs _ e _ hh, by omega, hc2, by simpa [hWl] using hvs, fun i' j r q x hr' hq hx => ?_⟩
      have hj : j = 0 := by have := lt_of_get? hq; rw [(hone r (List.mem_of_getElem? hr')).1] at this; omega
      subst hj
      have hi' := lt_of_get? hr'
      rw [Nat.mul_one, Nat.add_zero, List.getElem?_toArray, hWg i' (by omega)] at hx
      obtain rfl := Option.some.inj hx
      exact Rep.keep hk (hrep i' r q hr' hq))
    rwa [give_same hΓ] at this

/-- What copy comes to on readings. -/
def pcopy (P : Program) (o : Oper) (fr : PF) : Option PF :=
  match o.op with
  | .call c => match c.callee, c.args.toList, c.argTypes.toList with
    | .builtin .copy, [x, y], [T, _] => match rd fr x, prows fr (rd fr y) with
      | .own i ep 0 n _, some (1, news) => match fr[i]? with
        | some (.rows fl ep' e 1 rs) => if ep' = ep ∧ rs.length = n ∧ 0 < n ∧ news.length = n ∧ (tel P T).bind (tsz P) = some 1 then pput o.dst (.v (.int .i64 n)) (fr.set i (.rows fl ep e 1 news)) else none
        | _ => none
      | _, _ => none
    | _, _, _ => none
  | _ => none

theorem copy_step {Q : Exit → Act → World → Prop} {K : Act → World → Prop} (h : Sim N B R Γ a w fr) {o : Oper} (hN : ∀ d, o.dst = some d → d < N) (hp : pcopy P o fr = some fr') (hK : ∀ a' w', SimE N B a' w' fr' → K a' w') : o.wp P a w K Q := by
  unfold pcopy at hp
  split at hp
  case h_2 => cases hp
  rename_i c ho
  split at hp
  case h_2 => cases hp
  rename_i x y T T' hc hargs hts
  split at hp
  case h_2 => cases hp
  rename_i i ep n ff news hx hy
  split at hp
  case h_2 => cases hp
  rename_i fl ep' e rs hs
  split at hp
  case isFalse => cases hp
  rename_i hq
  obtain ⟨rfl, h1, h2, h3, h4⟩ := hq
  obtain ⟨el, he, hz⟩ := Option.bind_eq_some_iff.1 h4
  have hu := h.rd x
  rw [hx] at hu
  obtain ⟨w', hr, hs'⟩ := copy_sound (P := P) (T' := T') (ty := o.type) h (tel_some he) hz hs hu h1 h2 (h.rows (h.rd y) hy) h3
  obtain ⟨hcl, rfl⟩ := pput_some hp
  refine wp_val' (u := goInt n) (w' := w') ?_ (hK _ _ (hs'.put o.dst hN hcl (.v _ rfl)).toE)
  have e1 : c.args = #[x, y] := by rw [← Array.toArray_toList (xs := c.args), hargs]
  have e2 : c.argTypes = #[T, T'] := by rw [← Array.toArray_toList (xs := c.argTypes), hts]
  obtain ⟨callee, args, ats⟩ := c
  dsimp only at hc e1 e2
  subst hc e1 e2
  simp only [execOp, ho, resolve, invoke, builtin, Sem.run_bind, Sem.run_pure, Result.andThen_ok, List.map_toArray, List.map_cons, List.map_nil, hr]

/-- A region in order, up to its operation k. -/
theorem pre_sound {Q : Exit → Act → World → Prop} {all : List Oper} {ro : Option Nat} (ops : Array Oper) (hall : ops.toList = all) (hN : ∀ o ∈ all, ∀ d, o.dst = some d → d < N) {M : Nat} (hM : B.lo = M) {K : PF → Prop} {Kp : PV → PF → Prop} (hpan : PanUp N B Q Kp) (hout : ∀ a w, ¬ Q .outgrown a w) {r : Nat} :
    ∀ (m k : Nat), k + m ≤ all.length → (∀ a w fr, SimE N B a w fr → K fr → RegR P ro ops (List.range' (k + m) r) Q a w) → ∀ (a : Act) (w : World) (fr : PF), SimE N B a w fr → pops P M all K Kp ((all.drop k).take m) fr → RegR P ro ops (List.range' k (m + r)) Q a w
  | 0, k, hk, hQ, a, w, fr, h, hp => by
    rw [Nat.zero_add]
    simpa using hQ a w fr h (by simpa [pops] using hp)
  | m + 1, k, hk, hQ, a, w, fr, h, hp => by
    have hlt : k < all.length := by omega
    rw [List.drop_eq_getElem_cons hlt, List.take_succ_cons] at hp
    rw [show m + 1 + r = (m + r) + 1 from by omega, List.range'_succ]
    exact op_sound h hall hN hM hpan hout (List.getElem?_eq_getElem hlt) hp (K' := fun a' w' => ∃ fr', SimE N B a' w' fr' ∧ pops P M all K Kp ((all.drop (k + 1)).take m) fr') (fun a' w' fr' h1 h2 => ⟨fr', h1, h2⟩) _
      fun a' w' ⟨fr', h1, h2⟩ => pre_sound ops hall hN hM hpan hout m (k + 1) (by omega) (by rw [show k + 1 + m = k + (m + 1) from by omega]; exact hQ) a' w' fr' h1 h2
end

/-- A region whose last operation is a copy. -/
theorem XW_copy {ι : Type} {P : Program} {N M : Nat} {𝒞 : ι → Base → Prop} {i : ι} {Q : ι → PX → PF → Prop} {fr : PF} (hlo : ∀ i B, 𝒞 i B → B.lo = M) {id : Nat} {ops : Array Oper} (hd : dstsIn N (.region id ops false) = true) {o : Oper} (ho : ops.toList.getLast? = some o)
    (hp : pops P M ops.toList (fun fr => pwanted ops.toList o fr = some true ∧ ∃ fr', pcopy P o fr = some fr' ∧ Q i .normal fr') (fun p => Q i (.panic p)) ops.toList.dropLast fr) : XW P N 𝒞 i (.region id ops false) Q fr := fun B a w hC hs => by
  refine wr_mono (wr_region (Q := Up N B (Q i)) ?_) fun _ _ _ hu => ⟨i, B, hC, hu⟩
  have hN := dsts_mem hd
  obtain ⟨m, hm⟩ : ∃ m, ops.toList.length = m + 1 := by
    cases hl : ops.toList with
    | nil => rw [hl] at ho; cases ho
    | cons x l => exact ⟨l.length, rfl⟩
  have hsz : ops.size = m + 1 := by simpa using hm
  rw [List.range_eq_range', hsz]
  have hget : ops.toList[m]? = some o := by rw [List.getLast?_eq_getElem?, hm] at ho; simpa using ho
  have hdr : (ops.toList.drop 0).take m = ops.toList.dropLast := by rw [List.dropLast_eq_take, hm]; rfl
  rw [← hdr] at hp
  refine pre_sound ops rfl hN (hlo i B hC) pan_up up_out (r := 1) m 0 (by omega) (fun a w fr hs hk => ?_) a w fr hs hp
  obtain ⟨hw, fr', h1, h2⟩ := hk
  obtain ⟨R, Γ, hs⟩ := hs
  have hi : ops[0 + m]? = some o := by rw [Nat.zero_add, ← hget]; simp
  have hno : ∀ c, o.op ≠ .defer c := fun c hc => by
    unfold pcopy at h1
    rw [hc] at h1; cases h1
  rw [List.range'_one]
  exact OpR_wp hi (wanted_sound hs.toE rfl hN hw) (.inr hno) up_out (copy_step hs (hN o (List.mem_of_getElem? hget)) h1 (K := fun a' w' => SimE N B a' w' fr') fun _ _ h => h) [] fun a' w' ⟨R, Γ, hs⟩ => RegR_nil ⟨R, Γ, fr', .normal, hs, trivial, h2⟩
end Go.Qg

/-! The law FareKept returns true. No condition. -/
namespace Go.Qg
open Go.Proofs
set_option maxRecDepth 100000
set_option maxHeartbeats 4000000
attribute [local irreducible] pwp pops pdraw pop popCall pdCall thenP blockP scopeP pspec Spec answers ppost CallW rend

/-- Rows of truth values. -/
def rowsB (l : List Bool) : List (List PV) := l.map fun x => [.v (.bool x)]
@[simp] theorem rowsB_length (l : List Bool) : (rowsB l).length = l.length := by simp [rowsB]
@[simp] theorem renLL_rowsB (π : Nat → Nat) (l : List Bool) : renLL π (rowsB l) = rowsB l := by
  induction l with
  | nil => rfl
  | cons x l ih => simpa [rowsB, renLL, renL, PV.ren] using ih
@[simp] theorem namesLL_rowsB (l : List Bool) : namesLL (rowsB l) = [] := by
  induction l with
  | nil => rfl
  | cons x l ih => simpa [rowsB, namesLL, namesL, PV.names] using ih
@[simp] theorem flatLL_rowsB (l : List Bool) : flatLL (rowsB l) = true := by
  induction l with
  | nil => rfl
  | cons x l ih => simpa [rowsB, flatLL, flatL, PV.flat] using ih
@[simp] theorem vwAllL_rowsB (f : PF) (T : Tgt) (d : Nat) (a b : List Bool) : vo.vwAllL f T (d + 1) (rowsB a) (rowsB b) = (a = b) := by
  induction a generalizing b with
  | nil => cases b <;> simp [rowsB, vo.vwAllL]
  | cons x a ih =>
    cases b with
    | nil => simp [rowsB, vo.vwAllL]
    | cons y b =>
      have := ih b
      simp only [rowsB] at this
      simp [rowsB, vo.vwAllL, this]
@[simp] theorem rowsB_take (l : List Bool) (k : Nat) : (rowsB l).take k = rowsB (l.take k) := by simp [rowsB]
@[simp] theorem rowsB_one {l : List Bool} : (∀ (x : List PV), x ∈ rowsB l → ∀ (y : PV), y ∈ x → y.one = true) ↔ True := by
  refine ⟨fun _ => trivial, fun _ x hx y hy => ?_⟩
  obtain ⟨b, _, rfl⟩ := List.mem_map.1 hx
  obtain rfl := List.mem_singleton.1 hy
  rfl
@[simp] theorem rowsB_len1 {l : List Bool} : (∀ (x : List PV), x ∈ rowsB l → x.length = 1) ↔ True := by
  refine ⟨fun _ => trivial, fun _ x hx => ?_⟩
  obtain ⟨b, _, rfl⟩ := List.mem_map.1 hx
  rfl
theorem rowsB_get {l : List Bool} {k : Nat} (h : k < l.length) : (rowsB l)[k]? = some [.v (.bool (getb l k))] := by simp [rowsB, getb, h]
@[simp] theorem rowsB_getElem {l : List Bool} {k : Nat} (h : k < (rowsB l).length) : (rowsB l)[k] = [.v (.bool (getb l k))] := by
  have h2 : k < l.length := by simpa using h
  simp [rowsB, getb, h2]
theorem rowsB_set (l : List Bool) (k : Nat) (x : Bool) : (rowsB l).set k [.v (.bool x)] = rowsB (l.set k x) := by simp [rowsB, List.map_set]
theorem rowsB_rep (n : Nat) : List.replicate n [PV.v (.bool false)] = rowsB (List.replicate n false) := by simp [rowsB]
theorem rowsB_range (l : List Bool) : (List.range l.length).map (fun i => [PV.v (.bool (getb l i))]) = rowsB l := by
  refine List.ext_getElem? fun i => ?_
  rw [List.getElem?_map]
  by_cases hi : i < l.length
  · rw [List.getElem?_range hi, rowsB_get hi]; rfl
  · rw [List.getElem?_eq_none (by simpa using hi), List.getElem?_eq_none (by simpa using hi)]; rfl
/-- The first k are true. -/
def firstB (n k : Nat) : List Bool := List.replicate k true ++ List.replicate (n - k) false
theorem firstB_length {n k : Nat} (h : k ≤ n) : (firstB n k).length = n := by simp [firstB]; omega
theorem firstB_set {n k : Nat} (h : k < n) : (firstB n k).set k true = firstB n (k + 1) := by
  have e : n - k = (n - (k + 1)) + 1 := by omega
  rw [firstB, e, List.replicate_succ, List.set_append_right _ _ (by simp)]
  simp [firstB, List.replicate_succ']
theorem firstB_all (n : Nat) : firstB n n = List.replicate n true := by simp [firstB]
theorem getb_set {l : List Bool} {i k : Nat} {x : Bool} (h : i < l.length) : getb (l.set k x) i = if k = i then x else getb l i := by
  unfold getb
  rw [List.getD_eq_getElem?_getD, List.getElem?_set]
  split
  · rename_i h1; subst h1; simp [h]
  · rw [List.getD_eq_getElem?_getD]

theorem FareKept_spec (r : Rule) (cost : Int) (l : List Int) (fl : List Bool) (more : Int) (hl : l.length ≤ 9223372036854775807) (hfl : fl.length ≤ 9223372036854775807) (hr1 : -9223372036854775808 ≤ r.cash ∧ r.cash ≤ 9223372036854775807) : Spec Try.prog 6 [.agg r.cells, .v (.int .i64 cost), ints l, bools fl, .v (.int .i64 more)] (.v (.bool true)) := by
  unfold Spec
  refine callW_ofE Try.func6 (by decide) rfl (congrArg Array.toList Try.results6) Try.ntmps6 202 (by simp) (by decide) fun B0 hB0 hD0 => ?_
  have hlo : ∀ s B, ECtx B0 s B → B.lo = 202 := fun _ _ h => h.1.trans hB0
  refine XW_seqP mixed hlo (by decide) ?_
  simp [Rule.cells, ints, bools]
  refine XW_seqP mixed hlo (by decide) ?_
  by_cases h8 : 8 < l.length
  · simp [show (8 : Int) < l.length from by omega]
    refine pop_spec known_spec rfl false (.inl (by simp)) (.inl rfl) rfl (by simp) ?_
    simp
    refine ends_of (.v (.bool true)) [] [] rfl (by decide) ?_ ?_ rfl
    · simp
    · simp
  simp [show ¬ (8 : Int) < l.length from by omega, show (l.length : Int) ≤ 8 from by omega]
  refine pop_spec (rRule_spec r) rfl false (.inl (by simp [Rule.cells])) (.inl rfl) rfl (by simp) ?_
  cases h1 : ruleB r with
  | false =>
    simp
    refine pop_spec known_spec rfl false (.inl (by simp)) (.inl rfl) rfl (by simp) ?_
    simp
    refine ends_of (.v (.bool true)) [] [] rfl (by decide) ?_ ?_ rfl
    · simp
    · simp
  | true =>
  by_cases h2 : 0 ≤ cost
  rotate_left
  · simp [h2, Int.not_le.1 h2]
    refine pop_spec known_spec rfl false (.inl (by simp)) (.inl rfl) rfl (by simp) ?_
    simp
    refine ends_of (.v (.bool true)) [] [] rfl (by decide) ?_ ?_ rfl
    · simp
    · simp
  by_cases h3 : cost ≤ 1000000000
  rotate_left
  · simp [h2, Int.not_lt.2 h2, h3, Int.not_le.1 h3]
    refine pop_spec known_spec rfl false (.inl (by simp)) (.inl rfl) rfl (by simp) ?_
    simp
    refine ends_of (.v (.bool true)) [] [] rfl (by decide) ?_ ?_ rfl
    · simp
    · simp
  simp [h2, h3, Int.not_lt.2 h2, Int.not_lt.2 h3]
  refine pop_spec (rLengths_spec l hl) rfl false (.inl (by simp [ints])) (.inl rfl) rfl (by simp) ?_
  have hE := lengths_ref h8 h2 h3
  cases h4 : lensB l && decide (0 < sumL l) with
  | false =>
    simp
    refine pop_spec known_spec rfl false (.inl (by simp)) (.inl rfl) rfl (by simp) ?_
    simp
    refine ends_of (.v (.bool true)) [] [] rfl (by decide) ?_ ?_ rfl
    · simp
    · simp
  | true =>
  rw [h4] at hE
  have hE : lengthsE cost l = 0 := by simpa using hE
  by_cases h5 : fl.length = l.length
  rotate_left
  · simp [show ¬ (fl.length : Int) = l.length from by omega]
    refine pop_spec known_spec rfl false (.inl (by simp)) (.inl rfl) rfl (by simp) ?_
    simp
    refine ends_of (.v (.bool true)) [] [] rfl (by decide) ?_ ?_ rfl
    · simp
    · simp
  simp [show (fl.length : Int) = l.length from by omega]
  have hback := Back_spec r cost l fl hl hfl hr1
  have hsh := share_ok hE
  have hrk : RuleOk r := by
    simp only [ruleB, Bool.and_eq_true, decide_eq_true_eq, inB_spec] at h1
    exact ⟨h1.1.1, h1.1.2, h1.2⟩
  have hbb : ∀ f : List Bool, f.length = l.length → backOf r cost l f = (backTo r (shareL cost l) f l.length, 0) := fun f hf => by
    have h1' := h1
    simp only [ruleB, Bool.and_eq_true, decide_eq_true_eq] at h1'
    have : backBad r cost l f = false := by simp [backBad, hE, h1'.1.1, h1'.1.2, hf, h1'.2]
    simp [backOf, hE, this]
  have hs0 : ∀ k, k < l.length → 0 ≤ geti (shareL cost l) k := fun k hk => (hsh.el hk).1
  have hk := kept_ok hrk (fl := fl) hs0 l.length (Nat.le_refl _)
  have hfar : far (shareL cost l) l.length = cost := by
    rw [far_shareL l.length (Nat.le_refl _), shareTo]
    exact Int.mul_ediv_cancel _ hsh.whole
  rw [hbb fl h5] at hback
  obtain ⟨k1, k2, k3, k4, k5, k6⟩ := hk
  have hcells := Backs.cells
  rw [hfar] at k5
  refine XW_seqP mixed hlo (by decide) ?_
  simp
  refine pop_spec hback rfl false (.inl (by simp [Rule.cells, ints, bools])) (.inl rfl) rfl (by simp [Backs.cells]) ?_
  generalize hbx : backTo r (shareL cost l) fl l.length = b at *
  simp [Backs.cells]
  refine XW_seqP mixed hlo (by decide) ?_
  have w1 : IntKind.i64.wrap (b.earned + b.cash) = b.earned + b.cash := i64_wrap (by omega)
  have w2 : IntKind.i64.wrap (b.earned + b.cash + b.voucher) = b.earned + b.cash + b.voucher := i64_wrap (by omega)
  have w3 : IntKind.i64.wrap (b.earned + b.cash + b.voucher + b.kept) = cost := by rw [k5]; exact i64_wrap (by omega)
  simp (config := { maxSteps := 4000000 }) [k1, k2, k3, k4, Int.not_lt.2 k1, Int.not_lt.2 k2, Int.not_lt.2 k3, Int.not_lt.2 k4, show ¬ cost < b.earned from by omega, show b.earned ≤ cost from by omega, show ¬ cost < b.cash from by omega, show b.cash ≤ cost from by omega, show ¬ cost < b.voucher from by omega, show b.voucher ≤ cost from by omega, w1, w2, w3]
  refine XW_seqP mixed hlo (by decide) ?_
  have hlp : 1 ≤ l.length := by
    rcases Nat.eq_zero_or_pos l.length with h0 | h0
    · have := (hsh.to (k := 0) (by omega)).2.1
      rw [h0] at this; simp [far] at this
    · exact h0
  have w4 : IntKind.i64.wrap (r.cash + r.voucher) = r.cash + r.voucher := i64_wrap (by have := hrk.c; have := hrk.v; omega)
  have w5 : IntKind.i64.wrap (2 * (l.length : Int)) = 2 * (l.length : Int) := i64_wrap (by omega)
  have hlow : r.cash + r.voucher = 1000 → ¬ 2 * (l.length : Int) ≤ b.kept := fun h => by have := k6 h; omega
  have hT : ∀ k, k < l.length → getb (List.replicate l.length true) k = true := fun k hk => by simp [getb, hk]
  have hbackT := Back_spec r cost l (List.replicate l.length true) hl (by simp; omega) hr1
  rw [hbb _ (by simp), kept_all r _ hT l.length (Nat.le_refl _), hfar] at hbackT
  have wk : ∀ k : Nat, k < l.length → IntKind.i64.wrap ((k : Int) + 1) = (k : Int) + 1 := fun k hk => i64_wrap (by omega)
  by_cases h1000 : r.cash + r.voucher = 1000
  all_goals simp (config := { maxSteps := 4000000 }) [w4, w5, h1000, hlow, show IntKind.i64.wrap 1000 = 1000 from rfl]
  all_goals
    refine XW_seqP mixed hlo (by decide) ?_
    simp (config := { maxSteps := 4000000 }) [h5, rowsB_rep, show (l.length : Int) ≤ 281474976710656 from by omega, show (l.length : Int) ≤ 9223372036854775807 from by omega]
    refine XW_seqP mixed hlo (by decide) ?_
    simp
    refine pwp_loop (fun k : Nat => [(13, .own 127 0 0 l.length false), (14, .v (.int .i64 k)), (127, .rows none 0 4 1 (rowsB (firstB l.length k)))]) (fun k => k ≤ l.length) (fun k => l.length - k) 0 (Nat.zero_le _) (by simp; rfl) (by simp [firstB]) ?_
    intro k hk
    by_cases hkl : k < l.length
    · simp [hkl, firstB_length hk, rowsB_set, firstB_set hkl]
      refine again_of (k + 1) (by omega) (by omega) ?_
      simp [wk k hkl]
    · obtain rfl : k = l.length := by omega
      rw [firstB_all]
      simp
      refine XW_seqP mixed hlo (by decide) ?_
      simp
      refine pop_spec hbackT rfl true (.inl (by
        simp [Rule.cells, ints, bools]
        intro k hk
        simp [rowsB_get (l := List.replicate l.length true) (k := k) (by simpa using hk)])) (.inr (by simp [Backs.cells])) rfl (by simp [Backs.cells]) ?_
      simp [Backs.cells]
      refine XW_seqP mixed hlo (by decide) ?_
      simp
      refine XW_seqP mixed hlo (by decide) ?_
      by_cases hm0 : more < 0
      · simp [hm0]
        refine pop_spec known_spec rfl false (.inl (by simp)) (.inl rfl) rfl (by simp) ?_
        simp
        refine ends_of (.v (.bool true)) [] [] rfl (by decide) ?_ ?_ rfl
        · simp
        · simp
      by_cases hm1 : (l.length : Int) ≤ more
      · simp [hm0, Int.not_lt.1 hm0, hm1]
        refine pop_spec known_spec rfl false (.inl (by simp)) (.inl rfl) rfl (by simp) ?_
        simp
        refine ends_of (.v (.bool true)) [] [] rfl (by decide) ?_ ?_ rfl
        · simp
        · simp
      simp [hm0, Int.not_lt.1 hm0, hm1, Int.not_le.1 hm1]
      obtain ⟨m, rfl⟩ : ∃ m : Nat, more = m := ⟨more.toNat, by omega⟩
      have hml : m < l.length := by omega
      have hrange : List.map (fun i => [PV.v (.bool (getb fl i))]) (List.range l.length) = rowsB fl := by rw [← h5]; exact rowsB_range fl
      have hback3 := Back_spec r cost l (fl.set m true) hl (by simp; omega) hr1
      rw [hbb _ (by simp [h5])] at hback3
      have hmore := kept_more hrk hs0 (fl := fl) (fl' := fl.set m true) (fun k hk h => by
        rw [getb_set (by omega)]
        split
        · rfl
        · exact h) l.length (Nat.le_refl _)
      rw [hbx] at hmore
      generalize backTo r (shareL cost l) (fl.set m true) l.length = b' at *
      obtain ⟨m1, m2, m3⟩ := hmore
      refine XW_seqX (XW_copy hlo (by decide) rfl ?_)
      simp [pcopy, show 0 < l.length from hlp, hrange, h5]
      refine XW_seqP mixed hlo (by decide) ?_
      simp [hml, h5, rowsB_set]
      refine XW_seqP mixed hlo (by decide) ?_
      simp
      refine pop_spec hback3 rfl true (.inl (by
        simp [Rule.cells, ints, bools, h5]
        intro k hk
        simp [rowsB_get (l := fl.set m true) (k := k) (by simpa [h5] using hk)])) (.inr (by simp [Backs.cells])) rfl (by simp [Backs.cells]) ?_
      simp [Backs.cells]
      refine XW_seqP mixed hlo (by decide) ?_
      simp (config := { maxSteps := 4000000 }) [m1, m2, m3]
      refine pop_spec known_spec rfl false (.inl (by simp)) (.inl rfl) rfl (by simp) ?_
      simp
      refine XW_pwp mixed hlo (by decide) ?_
      simp
      refine ends_of (.v (.bool true)) [] [] rfl (by decide) ?_ ?_ rfl
      · simp
      · simp
end Go.Qg

/-! FareKept: for every rule, cost, all lengths and flown legs, and a leg more, the law returns true, and leaves its arguments as they were. No condition. -/
namespace Go.Proofs.Ytmnoepkamkomkaa.lawFareKept
open Go.Qg Go.ChangeAt Go.RowKit
set_option maxRecDepth 100000

theorem spec (args : List PV) (hl : Try.f6.params.toList.length = args.length) (h : ∀ (j : Nat) t p, Try.f6.params.toList[j]? = some t → args[j]? = some p → ArgP Try.prog 6 t p) : Qg.Spec Try.prog 6 args (.v (.bool true)) := by
  rw [Try.params6] at hl h
  match args, hl with
  | [a0, a1, a2, a3, a4], _ =>
    obtain ⟨r, rfl, hr1, hr2⟩ := a_rule (h 0 _ a0 rfl rfl)
    obtain ⟨x, rfl, xok⟩ := a_int (h 1 _ a1 rfl rfl)
    obtain ⟨l, rfl, llen, lok⟩ := a_ints (h 2 _ a2 rfl rfl)
    obtain ⟨fl, rfl, fllen⟩ := a_bools (h 3 _ a3 rfl rfl)
    obtain ⟨y, rfl, yok⟩ := a_int (h 4 _ a4 rfl rfl)
    exact FareKept_spec r x l fl y llen fllen hr1

theorem lifted (os : Os) (started : os.Started) (H : Type) (enc : TypeId × Value → H) :
    ReturnsInHanded {} Try.checked os 6 .any (Rows.fareKeptSpec.pre6 enc Try.prog Try.f6 Rows.fareKeptRow.domain false) (Rows.fareKeptSpec.post enc Try.prog Try.f6 false true false false) := by
  refine law_lifted (C := Try.checked) 6 (tb := 4) ownKnob_ started (by kernel_rfl) Try.func6
    (ChangeSpec.witness6 (enc := enc) (C := Try.checked) false ⟨#[], #[.agg #[.int .i64 0, .int .i64 0], .int .i64 0, .slice none 0 0, .slice none 0 0, .int .i64 0], []⟩ 8 (by kernel_rfl) (by kernel_rfl) (by kernel_rfl) (by kernel_rfl)) laidOut_ rfl (by kernel_rfl) (by kernel_rfl) Try.underlying4 ?_ spec
  intro ds hds
  match ds, hds with
  | [_, _, _, _, _], _ => exact ⟨rfl, rfl, rfl⟩

theorem FareKept_holds : Rows.FareKeptSaid :=
  OpenClaim.holds_of_wide 6 Try.f6 rfl rfl rfl rfl rfl rfl rfl ⟨rfl, rfl, rfl, rfl, rfl⟩ rfl rfl rfl rfl rfl (by kernel_rfl) Try.func6 (by kernel_rfl)
    (of_decide_eq_true (by kernel_rfl)) (by unfold Func.isWrapper; first | (rw [if_pos (by decide +kernel)]; kernel_rfl) | (rw [if_neg (by decide +kernel)]; exact ⟨rfl, rfl⟩))
    (fun os started H enc _ => lifted os started H enc)
end Go.Proofs.Ytmnoepkamkomkaa.lawFareKept
