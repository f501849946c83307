/-
  FareShares: for every amount and all lengths the law returns true, and leaves its arguments as they were.
  No condition.
-/
import Derived.Test.YtmnoepkamkomkaaZ5
set_option linter.all false

/-! Contracts of the reference's functions in, Sum, Lengths, Share. No condition. -/
namespace Go.Qg
open Go.Proofs
set_option maxRecDepth 100000
set_option maxHeartbeats 4000000
attribute [local irreducible] pwp pops pdraw pop popCall pdCall thenP blockP scopeP pspec Spec answers ppost CallW rend

theorem rin_spec (n lo hi : Int) : Spec Try.prog 71 [.v (.int .i64 n), .v (.int .i64 lo), .v (.int .i64 hi)] (.v (.bool (inB n lo hi))) := by
  refine spec_of mixed Try.func71 (by decide) rfl Try.results71 Try.ntmps71 (by decide) 0 (by simp) ?_
  by_cases h1 : lo ≤ n
  · by_cases h2 : n ≤ hi <;> (simp [h1, h2]; refine answers_of rfl ?_; simp [inB, h1, h2])
  · simp [h1]; refine answers_of rfl ?_; simp [inB, h1]

theorem rSum_spec (l : List Int) (hl : l.length ≤ 9223372036854775807) : Spec Try.prog 37 [ints l] (.v (.int .i64 (sumL l))) := by
  refine spec_of mixed Try.func37 (by decide) rfl Try.results37 Try.ntmps37 (by decide) 0 (by simp) ?_
  simp [ints]
  refine pwp_loop (fun k : Nat => [(3, .v (.int .i64 (sumL (l.take k)))), (4, .v (.int .i64 k))]) (fun k => k ≤ l.length) (fun k => l.length - k) 0 (Nat.zero_le _) (by simp; rfl) (by simp [sumL]) ?_
  intro k hk
  by_cases h : k < l.length
  · simp [h]
    refine again_of (k + 1) (by omega) (by omega) ?_
    have := sumL_snoc l k h
    simp [this, i64_wrap (show -9223372036854775808 ≤ (k : Int) + 1 ∧ _ from by omega)]
  · simp [h]
    rw [List.take_of_length_le (by omega)]
    refine answers_of rfl ?_; simp

theorem rLengths_spec (l : List Int) (hl : l.length ≤ 9223372036854775807) : Spec Try.prog 30 [ints l] (.v (.bool (lensB l && decide (0 < sumL l)))) := by
  refine spec_of mixed Try.func30 (by decide) rfl Try.results30 Try.ntmps30 (by decide) 0 (by simp) ?_
  simp [ints]
  refine pwp_loop (fun k : Nat => [(3, .v (.int .i64 k))]) (fun k => k ≤ l.length ∧ ∀ j, j < k → inB (geti l j) 0 10000 = true) (fun k => l.length - k) 0 ⟨Nat.zero_le _, fun j hj => by omega⟩ (by simp; rfl) (by simp) ?_
  intro k ⟨hk, hp⟩
  by_cases h : k < l.length
  · simp [h]
    refine pop_spec (rin_spec (geti l k) 0 10000) rfl false (.inl (by simp)) (.inl rfl) rfl (by simp) ?_
    cases hb : inB (geti l k) 0 10000 with
    | true =>
      simp
      refine again_of (k + 1) ⟨by omega, fun j hj => ?_⟩ (by omega) ?_
      · rcases Nat.lt_succ_iff_lt_or_eq.1 hj with hj | rfl
        · exact hp j hj
        · exact hb
      · simp [i64_wrap (show -9223372036854775808 ≤ (k : Int) + 1 ∧ _ from by omega)]
    | false =>
      simp
      have : lensB l = false := allN_false h hb
      refine answers_of rfl ?_; simp [this]
  · simp [h]
    obtain rfl : k = l.length := by omega
    have : lensB l = true := allN_spec.2 hp
    refine pop_spec (rSum_spec l hl) rfl false (.inl (by simp [ints])) (.inl rfl) rfl (by simp) ?_
    simp
    refine answers_of rfl ?_; simp [this]

theorem rShare_spec (amount : Int) (l : List Int) (h : ShareOk amount l) : Spec Try.prog 36 [.v (.int .i64 amount), ints l] (ints (shareL amount l)) := by
  have h8 := h.len
  have hw := h.whole
  refine spec_of mixed Try.func36 (by decide) rfl Try.results36 Try.ntmps36 (by decide) 0 (by simp) ?_
  simp [ints]
  refine pop_spec (rSum_spec l (by omega)) rfl false (.inl (by simp [ints])) (.inl rfl) rfl (by simp) ?_
  have hf := far_bound h.each
  rw [sumL_all fun k hk => by have := hf k hk; omega]
  simp
  refine pwp_loop (fun k : Nat => [(5, .own 35 k 0 k false), (7, .v (.int .i64 (far l k))), (8, .v (.int .i64 (shareTo amount l k))), (9, .v (.int .i64 k)), (35, .rows none k 3 1 (rowsOf (fun i => [.v (.int .i64 (shareTo amount l (i + 1) - shareTo amount l i))]) k))]) (fun k => k ≤ l.length) (fun k => l.length - k) 0 (Nat.zero_le _) (by simp; rfl) (by simp [shareTo, far]) ?_
  intro k hk
  by_cases hkl : k < l.length
  · have hk1 := hf (k + 1) hkl
    obtain ⟨a1, a2, a3, a4⟩ := h.to (k := k + 1) hkl
    obtain ⟨_, _, _, b4⟩ := h.to (k := k) hk
    have w1 : IntKind.i64.wrap (far l k + geti l k) = far l (k + 1) := i64_wrap (n := far l (k + 1)) (by omega)
    have w2 : IntKind.i64.wrap (amount * far l (k + 1)) = amount * far l (k + 1) := i64_wrap (by omega)
    have w3 : IntKind.i64.wrap ((amount * far l (k + 1)).tdiv (far l l.length)) = shareTo amount l (k + 1) := i64_quo (by omega)
    have w4 : IntKind.i64.wrap (shareTo amount l (k + 1) - shareTo amount l k) = shareTo amount l (k + 1) - shareTo amount l k := i64_wrap (by omega)
    have w5 : IntKind.i64.wrap (shareTo amount l k + (shareTo amount l (k + 1) - shareTo amount l k)) = shareTo amount l (k + 1) := by
      rw [show shareTo amount l k + (shareTo amount l (k + 1) - shareTo amount l k) = shareTo amount l (k + 1) from by omega]; exact i64_wrap (by omega)
    simp [hkl, w1, w2, w3, w4, w5, hw, show (k + 1) * 8 ≤ 140737488355328 from by omega, show k + 1 ≤ maxLen from by simp [maxLen]; omega]
    refine again_of (k + 1) (by omega) (by omega) ?_
    simp [i64_wrap (show -9223372036854775808 ≤ (k : Int) + 1 ∧ _ from by omega), rowsOf_snoc]
  · simp [hkl]
    obtain rfl : k = l.length := by omega
    refine answers_of rfl ?_
    simp [shareL]
    intro k hk; simp [geti_mk hk, rowsOf_get hk]
end Go.Qg

/-! The law FareShares returns true. No condition. -/
namespace Go.Qg
open Go.Proofs
set_option maxRecDepth 100000
set_option maxHeartbeats 4000000
attribute [local irreducible] pwp pops pdraw pop popCall pdCall thenP blockP scopeP pspec Spec answers ppost CallW rend

theorem geti_shareL {amount : Int} {l : List Int} {k : Nat} (hk : k < l.length) : geti (shareL amount l) k = shareTo amount l (k + 1) - shareTo amount l k := geti_mk hk
theorem far_shareL {amount : Int} {l : List Int} : ∀ k, k ≤ l.length → far (shareL amount l) k = shareTo amount l k
  | 0, _ => by simp [far, shareTo]
  | k + 1, hk => by
    rw [far, far_shareL k (by omega), geti_shareL hk]; omega
theorem sum_shareL {amount : Int} {l : List Int} (h : ShareOk amount l) : sumL (shareL amount l) = amount := by
  have hlen : (shareL amount l).length = l.length := by simp [shareL]
  have e : far (shareL amount l) l.length = amount := by
    rw [far_shareL l.length (Nat.le_refl _), shareTo]
    exact Int.mul_ediv_cancel _ h.whole
  rw [sumL_all fun k hk => by
    rw [hlen] at hk
    rw [far_shareL k hk]
    have := h.to hk; omega, hlen, e]
theorem share_near {amount : Int} {l : List Int} (h : ShareOk amount l) {k : Nat} (hk : k < l.length) :
    -far l l.length < geti (shareL amount l) k * far l l.length - amount * geti l k ∧ geti (shareL amount l) k * far l l.length - amount * geti l k < far l l.length ∧ 0 ≤ geti (shareL amount l) k := by
  rw [geti_shareL hk]
  have hm := h.mono hk
  have hw := (h.to (Nat.le_refl l.length)).2.1
  unfold shareTo at hm ⊢
  have e1 : amount * far l (k + 1) = amount * far l k + amount * geti l k := by rw [far, Int.mul_add]
  generalize amount * far l (k + 1) = A at *
  generalize amount * far l k = B at *
  generalize amount * geti l k = C at *
  generalize far l l.length = W at *
  have h1 := Int.emod_add_mul_ediv A W
  have h2 := Int.emod_add_mul_ediv B W
  have h3 := Int.emod_nonneg A (show W ≠ 0 by omega)
  have h4 := Int.emod_lt_of_pos A (show 0 < W by omega)
  have h5 := Int.emod_nonneg B (show W ≠ 0 by omega)
  have h6 := Int.emod_lt_of_pos B (show 0 < W by omega)
  have e2 : (A / W - B / W) * W = W * (A / W) - W * (B / W) := by rw [Int.sub_mul, Int.mul_comm, Int.mul_comm W (B / W)]
  rw [e2]
  refine ⟨?_, ?_, ?_⟩ <;> omega

theorem FareShares_spec (amount : Int) (l : List Int) (hl : l.length ≤ 9223372036854775807) : Spec Try.prog 8 [.v (.int .i64 amount), ints l] (.v (.bool true)) := by
  refine spec_of mixed Try.func8 (by decide) rfl Try.results8 Try.ntmps8 (by decide) 0 (by simp) ?_
  simp [ints]
  by_cases h20 : 20 < l.length
  · simp [show (20 : Int) < l.length from by omega]
    refine pop_spec known_spec rfl false (.inl (by simp)) (.inl rfl) rfl (by simp) ?_
    simp
    refine answers_of rfl ?_; simp
  · simp [show ¬ (20 : Int) < l.length from by omega, show (l.length : Int) ≤ 20 from by omega]
    refine pop_spec (Share_spec amount l hl) rfl false (.inl (by simp [ints])) (.inl rfl) rfl (by simp [ints]) ?_
    by_cases h8 : 8 < l.length
    · have hE : lengthsE amount l = 3 := by simp [lengthsE, h8]
      simp [hE, ints, show (8 : Int) < l.length from by omega]
      refine pop_spec known_spec rfl false (.inl (by simp)) (.inl rfl) rfl (by simp) ?_
      simp
      refine answers_of rfl ?_; simp
    · have hlb : ∀ {b : Bool}, lensB l = b → b = true → sumL l = far l l.length ∧ 0 ≤ far l l.length := fun h1 h2 => by
        have hf := far_bound (lens_spec.1 (h1.trans h2))
        exact ⟨sumL_all fun k hk => by have := hf k hk; omega, (hf _ (Nat.le_refl _)).1⟩
      by_cases h1 : 0 ≤ amount
      · by_cases h2 : amount ≤ 1000000000
        · have hin : inB amount 0 1000000000 = true := inB_spec.2 ⟨h1, h2⟩
          cases h3 : lensB l && decide (0 < sumL l) with
          | false =>
            have hE : lengthsE amount l = 2 := by
              simp only [lengthsE, h8, if_false, hin, Bool.true_and]
              cases h4 : lensB l with
              | false => simp
              | true =>
                have := hlb h4 rfl
                simp [h4] at h3
                simp; omega
            simp [hE, ints, show ¬ (8 : Int) < l.length from by omega, show (l.length : Int) ≤ 8 from by omega, h1, h2, Int.not_lt.2 h1, Int.not_lt.2 h2]
            refine pop_spec (rLengths_spec l hl) rfl false (.inl (by simp [ints])) (.inl rfl) rfl (by simp) ?_
            simp [h3]
            refine pop_spec known_spec rfl false (.inl (by simp)) (.inl rfl) rfl (by simp) ?_
            simp
            refine answers_of rfl ?_; simp
          | true =>
            have h4 : lensB l = true := by cases h4 : lensB l <;> simp [h4] at h3 ⊢
            have hsum := hlb h4 rfl
            have hpos : 0 < sumL l := by simpa [h4] using h3
            have hE : lengthsE amount l = 0 := by
              simp only [lengthsE, h8, if_false, hin, Bool.true_and, h4]
              simp; omega
            have hok := share_ok hE
            have hlen : (shareL amount l).length = l.length := by simp [shareL]
            simp [hE, ints, show ¬ (8 : Int) < l.length from by omega, show (l.length : Int) ≤ 8 from by omega, h1, h2, Int.not_lt.2 h1, Int.not_lt.2 h2]
            refine pop_spec (rLengths_spec l hl) rfl false (.inl (by simp [ints])) (.inl rfl) rfl (by simp) ?_
            simp [h3]
            refine pop_spec (rShare_spec amount l hok) rfl false (.inl (by simp [ints])) (.inl rfl) rfl (by simp [ints]) ?_
            simp [ints]
            refine pop_spec (Same_spec (shareL amount l) (shareL amount l) (by omega) (by omega)) rfl false (.inl (by simp [ints])) (.inl rfl) rfl (by simp) ?_
            simp
            refine pop_spec (rSum_spec (shareL amount l) (by omega)) rfl false (.inl (by simp [ints])) (.inl rfl) rfl (by simp) ?_
            rw [sum_shareL hok]
            simp
            refine pop_spec (rSum_spec l hl) rfl false (.inl (by simp [ints])) (.inl rfl) rfl (by simp) ?_
            rw [hsum.1]
            simp
            refine pwp_loop (fun k : Nat => [(9, .v (.int .i64 k))]) (fun k => k ≤ l.length) (fun k => l.length - k) 0 (Nat.zero_le _) (by simp; rfl) (by simp) ?_
            intro k hk
            by_cases hkl : k < l.length
            · have wk := i64_wrap (show -9223372036854775808 ≤ (k : Int) + 1 ∧ _ from by omega)
              obtain ⟨n1, n2, n3⟩ := share_near hok hkl
              obtain ⟨a1, a2, a3, a4⟩ := hok.to (k := k + 1) hkl
              obtain ⟨b1, _, _, b4⟩ := hok.to (k := k) hk
              have hg := geti_shareL (amount := amount) hkl
              have ha := hok.each k hkl
              have e1 : amount * far l (k + 1) = amount * far l k + amount * geti l k := by rw [far, Int.mul_add]
              generalize hX : geti (shareL amount l) k = x at *
              generalize hC : amount * geti l k = c at *
              generalize hW : far l l.length = W at *
              generalize hM : x * W = m at *
              have w1 : IntKind.i64.wrap m = m := i64_wrap (by omega)
              have w2 : IntKind.i64.wrap c = c := i64_wrap (by omega)
              have w3 : IntKind.i64.wrap (m - c) = m - c := i64_wrap (by omega)
              have w4 : IntKind.i64.wrap (-W) = -W := i64_wrap (by omega)
              simp [hlen, hkl]
              refine pwp_draw 14 (by decide) ?_
              simp [hlen, hkl, hX, hC, hM, w1, w2, w3, w4]
              refine ⟨by decide, ?_⟩
              simp [w4, Int.not_le.2 n1, n1, n2, Int.not_le.2 n2, hlen, hkl, hX, n3, Int.not_lt.2 n3]
              refine again_of (k + 1) (by omega) (by omega) ?_
              simp [wk]
            · simp [hlen, hkl]
              refine pop_spec known_spec rfl false (.inl (by simp)) (.inl rfl) rfl (by simp) ?_
              simp
              refine answers_of rfl ?_; simp
        · have hE : lengthsE amount l = 2 := by simp [lengthsE, h8, inB, h2]
          simp [hE, ints, show ¬ (8 : Int) < l.length from by omega, show (l.length : Int) ≤ 8 from by omega, h1, h2, Int.not_lt.2 h1, Int.not_le.1 h2]
          refine pop_spec known_spec rfl false (.inl (by simp)) (.inl rfl) rfl (by simp) ?_
          simp
          refine answers_of rfl ?_; simp
      · have hE : lengthsE amount l = 2 := by simp [lengthsE, h8, inB, h1]
        simp [hE, ints, show ¬ (8 : Int) < l.length from by omega, show (l.length : Int) ≤ 8 from by omega, h1, Int.not_le.1 h1]
        refine pop_spec known_spec rfl false (.inl (by simp)) (.inl rfl) rfl (by simp) ?_
        simp
        refine answers_of rfl ?_; simp
end Go.Qg

/-! FareShares: for every amount and all lengths the law returns true, and leaves its arguments as they were. No condition. -/
namespace Go.Proofs.Ytmnoepkamkomkaa.lawFareShares
open Go.Qg Go.ChangeAt Go.RowKit
set_option maxRecDepth 100000

theorem spec (args : List PV) (hl : Try.f8.params.toList.length = args.length) (h : ∀ (j : Nat) t p, Try.f8.params.toList[j]? = some t → args[j]? = some p → ArgP Try.prog 6 t p) : Qg.Spec Try.prog 8 args (.v (.bool true)) := by
  rw [Try.params8] at hl h
  match args, hl with
  | [a, b], _ =>
    obtain ⟨x, rfl, _⟩ := a_int (h 0 _ a rfl rfl)
    obtain ⟨l, rfl, hl, _⟩ := a_ints (h 1 _ b rfl rfl)
    exact FareShares_spec x l hl

theorem lifted (os : Os) (started : os.Started) (H : Type) (enc : TypeId × Value → H) :
    ReturnsInHanded {} Try.checked os 8 .any (Rows.fareSharesSpec.pre6 enc Try.prog Try.f8 Rows.fareSharesRow.domain false) (Rows.fareSharesSpec.post enc Try.prog Try.f8 false true false false) := by
  refine law_lifted (C := Try.checked) 6 (tb := 4) ownKnob_ started (by kernel_rfl) Try.func8
    (ChangeSpec.witness6 (enc := enc) (C := Try.checked) false ⟨#[], #[.int .i64 0, .slice none 0 0], []⟩ 8 (by kernel_rfl) (by kernel_rfl) (by kernel_rfl) (by kernel_rfl)) laidOut_ rfl (by kernel_rfl) (by kernel_rfl) Try.underlying4 ?_ spec
  intro ds hds
  match ds, hds with
  | [_, _], _ => exact ⟨rfl, rfl, rfl⟩

theorem FareShares_holds : Rows.FareSharesSaid :=
  OpenClaim.holds_of_wide 8 Try.f8 rfl rfl rfl rfl rfl rfl rfl ⟨rfl, rfl, rfl, rfl, rfl⟩ rfl rfl rfl rfl rfl (by kernel_rfl) Try.func8 (by kernel_rfl)
    (of_decide_eq_true (by kernel_rfl)) (by unfold Func.isWrapper; first | (rw [if_pos (by decide +kernel)]; kernel_rfl) | (rw [if_neg (by decide +kernel)]; exact ⟨rfl, rfl⟩))
    (fun os started H enc _ => lifted os started H enc)
end Go.Proofs.Ytmnoepkamkomkaa.lawFareShares
