/-
  FareBills: for every contract and all days the law returns true, and leaves its arguments as they were.
  No condition.
-/
import Derived.Test.YtmnoepkamkomkaaZ5
set_option linter.all false

/-! Contracts of the reference's functions in, Sum, Lengths, Share. No condition. -/
namespace Go.Qg
open Go.Proofs
set_option maxRecDepth 100000
set_option maxHeartbeats 4000000
attribute [local irreducible] pwp pops pdraw pop popCall pdCall thenP blockP scopeP pspec Spec answers ppost CallW rend

theorem rin_spec (n lo hi : Int) : Spec Try.prog 71 [.v (.int .i64 n), .v (.int .i64 lo), .v (.int .i64 hi)] (.v (.bool (inB n lo hi))) := by
  refine spec_of mixed Try.func71 (by decide) rfl Try.results71 Try.ntmps71 (by decide) 0 (by simp) ?_
  by_cases h1 : lo ≤ n
  · by_cases h2 : n ≤ hi <;> (simp [h1, h2]; refine answers_of rfl ?_; simp [inB, h1, h2])
  · simp [h1]; refine answers_of rfl ?_; simp [inB, h1]

theorem rSum_spec (l : List Int) (hl : l.length ≤ 9223372036854775807) : Spec Try.prog 37 [ints l] (.v (.int .i64 (sumL l))) := by
  refine spec_of mixed Try.func37 (by decide) rfl Try.results37 Try.ntmps37 (by decide) 0 (by simp) ?_
  simp [ints]
  refine pwp_loop (fun k : Nat => [(3, .v (.int .i64 (sumL (l.take k)))), (4, .v (.int .i64 k))]) (fun k => k ≤ l.length) (fun k => l.length - k) 0 (Nat.zero_le _) (by simp; rfl) (by simp [sumL]) ?_
  intro k hk
  by_cases h : k < l.length
  · simp [h]
    refine again_of (k + 1) (by omega) (by omega) ?_
    have := sumL_snoc l k h
    simp [this, i64_wrap (show -9223372036854775808 ≤ (k : Int) + 1 ∧ _ from by omega)]
  · simp [h]
    rw [List.take_of_length_le (by omega)]
    refine answers_of rfl ?_; simp

theorem rLengths_spec (l : List Int) (hl : l.length ≤ 9223372036854775807) : Spec Try.prog 30 [ints l] (.v (.bool (lensB l && decide (0 < sumL l)))) := by
  refine spec_of mixed Try.func30 (by decide) rfl Try.results30 Try.ntmps30 (by decide) 0 (by simp) ?_
  simp [ints]
  refine pwp_loop (fun k : Nat => [(3, .v (.int .i64 k))]) (fun k => k ≤ l.length ∧ ∀ j, j < k → inB (geti l j) 0 10000 = true) (fun k => l.length - k) 0 ⟨Nat.zero_le _, fun j hj => by omega⟩ (by simp; rfl) (by simp) ?_
  intro k ⟨hk, hp⟩
  by_cases h : k < l.length
  · simp [h]
    refine pop_spec (rin_spec (geti l k) 0 10000) rfl false (.inl (by simp)) (.inl rfl) rfl (by simp) ?_
    cases hb : inB (geti l k) 0 10000 with
    | true =>
      simp
      refine again_of (k + 1) ⟨by omega, fun j hj => ?_⟩ (by omega) ?_
      · rcases Nat.lt_succ_iff_lt_or_eq.1 hj with hj | rfl
        · exact hp j hj
        · exact hb
      · simp [i64_wrap (show -9223372036854775808 ≤ (k : Int) + 1 ∧ _ from by omega)]
    | false =>
      simp
      have : lensB l = false := allN_false h hb
      refine answers_of rfl ?_; simp [this]
  · simp [h]
    obtain rfl : k = l.length := by omega
    have : lensB l = true := allN_spec.2 hp
    refine pop_spec (rSum_spec l hl) rfl false (.inl (by simp [ints])) (.inl rfl) rfl (by simp) ?_
    simp
    refine answers_of rfl ?_; simp [this]

theorem rShare_spec (amount : Int) (l : List Int) (h : ShareOk amount l) : Spec Try.prog 36 [.v (.int .i64 amount), ints l] (ints (shareL amount l)) := by
  have h8 := h.len
  have hw := h.whole
  refine spec_of mixed Try.func36 (by decide) rfl Try.results36 Try.ntmps36 (by decide) 0 (by simp) ?_
  simp [ints]
  refine pop_spec (rSum_spec l (by omega)) rfl false (.inl (by simp [ints])) (.inl rfl) rfl (by simp) ?_
  have hf := far_bound h.each
  rw [sumL_all fun k hk => by have := hf k hk; omega]
  simp
  refine pwp_loop (fun k : Nat => [(5, .own 35 k 0 k false), (7, .v (.int .i64 (far l k))), (8, .v (.int .i64 (shareTo amount l k))), (9, .v (.int .i64 k)), (35, .rows none k 3 1 (rowsOf (fun i => [.v (.int .i64 (shareTo amount l (i + 1) - shareTo amount l i))]) k))]) (fun k => k ≤ l.length) (fun k => l.length - k) 0 (Nat.zero_le _) (by simp; rfl) (by simp [shareTo, far]) ?_
  intro k hk
  by_cases hkl : k < l.length
  · have hk1 := hf (k + 1) hkl
    obtain ⟨a1, a2, a3, a4⟩ := h.to (k := k + 1) hkl
    obtain ⟨_, _, _, b4⟩ := h.to (k := k) hk
    have w1 : IntKind.i64.wrap (far l k + geti l k) = far l (k + 1) := i64_wrap (n := far l (k + 1)) (by omega)
    have w2 : IntKind.i64.wrap (amount * far l (k + 1)) = amount * far l (k + 1) := i64_wrap (by omega)
    have w3 : IntKind.i64.wrap ((amount * far l (k + 1)).tdiv (far l l.length)) = shareTo amount l (k + 1) := i64_quo (by omega)
    have w4 : IntKind.i64.wrap (shareTo amount l (k + 1) - shareTo amount l k) = shareTo amount l (k + 1) - shareTo amount l k := i64_wrap (by omega)
    have w5 : IntKind.i64.wrap (shareTo amount l k + (shareTo amount l (k + 1) - shareTo amount l k)) = shareTo amount l (k + 1) := by
      rw [show shareTo amount l k + (shareTo amount l (k + 1) - shareTo amount l k) = shareTo amount l (k + 1) from by omega]; exact i64_wrap (by omega)
    simp [hkl, w1, w2, w3, w4, w5, hw, show (k + 1) * 8 ≤ 140737488355328 from by omega, show k + 1 ≤ maxLen from by simp [maxLen]; omega]
    refine again_of (k + 1) (by omega) (by omega) ?_
    simp [i64_wrap (show -9223372036854775808 ≤ (k : Int) + 1 ∧ _ from by omega), rowsOf_snoc]
  · simp [hkl]
    obtain rfl : k = l.length := by omega
    refine answers_of rfl ?_
    simp [shareL]
    intro k hk; simp [geti_mk hk, rowsOf_get hk]
end Go.Qg

/-! Contracts of the reference's functions Mail, Days, Ends, Fined, Bill. No condition. -/
namespace Go.Qg
open Go.Proofs
set_option maxRecDepth 100000
set_option maxHeartbeats 4000000
attribute [local irreducible] pwp pops pdraw pop popCall pdCall thenP blockP scopeP pspec Spec answers ppost CallW rend

theorem mailB_eq (m : Mail) : mailB m = (inB m.pay 0 10000000 && inB m.hour 0 10000000 && inB m.cap 0 m.pay && inB m.limit 0 10000 && inB m.miss 0 10000000 && inB m.window 1 60 && inB m.allowed 0 60 && inB m.fine 0 10000000) := by
  rw [Bool.eq_iff_iff, mail_ok]
  simp only [Bool.and_eq_true, inB_spec]
  exact ⟨fun h => ⟨⟨⟨⟨⟨⟨⟨h.pay, h.hour⟩, h.cap⟩, h.limit⟩, h.miss⟩, h.window⟩, h.allowed⟩, h.fine⟩, fun ⟨⟨⟨⟨⟨⟨⟨h1, h2⟩, h3⟩, h4⟩, h5⟩, h6⟩, h7⟩, h8⟩ => ⟨h1, h2, h5, h8, h3, h4, h6, h7⟩⟩
theorem rMail_spec (m : Mail) : Spec Try.prog 40 [.agg m.cells] (.v (.bool (mailB m))) := by
  rw [mailB_eq]
  refine spec_of mixed Try.func40 (by decide) rfl Try.results40 Try.ntmps40 (by decide) 0 (by simp) ?_
  simp [Mail.cells]
  refine pop_spec (rin_spec m.pay 0 10000000) rfl false (.inl (by simp)) (.inl rfl) rfl (by simp) ?_
  cases h0 : inB m.pay 0 10000000 with
  | false => simp; refine answers_of rfl ?_; simp
  | true =>
    simp
    refine pop_spec (rin_spec m.hour 0 10000000) rfl false (.inl (by simp)) (.inl rfl) rfl (by simp) ?_
    cases h1 : inB m.hour 0 10000000 with
    | false => simp; refine answers_of rfl ?_; simp
    | true =>
      simp
      refine pop_spec (rin_spec m.cap 0 m.pay) rfl false (.inl (by simp)) (.inl rfl) rfl (by simp) ?_
      cases h2 : inB m.cap 0 m.pay with
      | false => simp; refine answers_of rfl ?_; simp
      | true =>
        simp
        refine pop_spec (rin_spec m.limit 0 10000) rfl false (.inl (by simp)) (.inl rfl) rfl (by simp) ?_
        cases h3 : inB m.limit 0 10000 with
        | false => simp; refine answers_of rfl ?_; simp
        | true =>
          simp
          refine pop_spec (rin_spec m.miss 0 10000000) rfl false (.inl (by simp)) (.inl rfl) rfl (by simp) ?_
          cases h4 : inB m.miss 0 10000000 with
          | false => simp; refine answers_of rfl ?_; simp
          | true =>
            simp
            refine pop_spec (rin_spec m.window 1 60) rfl false (.inl (by simp)) (.inl rfl) rfl (by simp) ?_
            cases h5 : inB m.window 1 60 with
            | false => simp; refine answers_of rfl ?_; simp
            | true =>
              simp
              refine pop_spec (rin_spec m.allowed 0 60) rfl false (.inl (by simp)) (.inl rfl) rfl (by simp) ?_
              cases h6 : inB m.allowed 0 60 with
              | false => simp; refine answers_of rfl ?_; simp
              | true =>
                simp
                refine pop_spec (rin_spec m.fine 0 10000000) rfl false (.inl (by simp)) (.inl rfl) rfl (by simp) ?_
                cases h7 : inB m.fine 0 10000000 with
                | false => simp; refine answers_of rfl ?_; simp
                | true =>
                  simp
                  refine answers_of rfl ?_; simp

theorem rDays_spec (l : List Spn) (hl : l.length ≤ 9223372036854775807) : Spec Try.prog 41 [spnL l] (.v (.bool (daysB l))) := by
  refine spec_of mixed Try.func41 (by decide) rfl Try.results41 Try.ntmps41 (by decide) 0 (by simp) ?_
  simp [spnL]
  refine pwp_loop (fun k : Nat => [(3, .v (.int .i64 k))]) (fun k => k ≤ l.length ∧ ∀ j, j < k → dayB (spnAt l j) = true) (fun k => l.length - k) 0 ⟨Nat.zero_le _, fun j hj => by omega⟩ (by simp; rfl) (by simp) ?_
  intro k ⟨hk, hp⟩
  by_cases h : k < l.length
  · have wk := i64_wrap (show -9223372036854775808 ≤ (k : Int) + 1 ∧ _ from by omega)
    have bad : dayB (spnAt l k) = false → daysB l = false := fun hb => allN_false h hb
    simp [h]
    refine pwp_draw 27 (by decide) ?_
    by_cases h1 : 0 ≤ (spnAt l k).low
    · by_cases h2 : (spnAt l k).low ≤ (spnAt l k).high
      · by_cases h3 : (spnAt l k).high ≤ 10000
        · simp [h, Spn.cells, h1, h2, h3, Int.not_lt.2 h1, Int.not_lt.2 h2, Int.not_lt.2 h3]
          refine ⟨by decide, ?_⟩
          refine again_of (k + 1) ⟨by omega, fun j hj => ?_⟩ (by omega) ?_
          · rcases Nat.lt_succ_iff_lt_or_eq.1 hj with hj | rfl
            · exact hp j hj
            · simp [dayB, h1, h2, h3]
          · simp [wk]
        · simp [h, Spn.cells, h1, h2, h3, Int.not_lt.2 h1, Int.not_lt.2 h2, Int.not_le.1 h3]
          refine ⟨by decide, ?_⟩
          rw [bad (by simp [dayB, h3])]
          refine answers_of rfl ?_; simp
      · simp [h, Spn.cells, h1, h2, Int.not_lt.2 h1, Int.not_le.1 h2]
        refine ⟨by decide, ?_⟩
        rw [bad (by simp [dayB, h2])]
        refine answers_of rfl ?_; simp
    · simp [h, Spn.cells, h1, Int.not_le.1 h1]
      refine ⟨by decide, ?_⟩
      rw [bad (by simp [dayB, h1])]
      refine answers_of rfl ?_; simp
  · simp [h]
    obtain rfl : k = l.length := by omega
    have : daysB l = true := allN_spec.2 hp
    refine answers_of rfl ?_; simp [this]

theorem rEnds_spec (l : List Spn) (hi : Bool) (hl : l.length ≤ 1000000000000) : Spec Try.prog 42 [spnL l, .v (.bool hi)] (ints (if hi then highs l else lows l)) := by
  refine spec_of mixed Try.func42 (by decide) rfl Try.results42 Try.ntmps42 (by decide) 0 (by simp) ?_
  simp [spnL]
  cases hi with
  | true =>
    refine pwp_loop (fun k : Nat => [(5, .own 21 k 0 k false), (6, .v (.int .i64 k)), (21, .rows none k 3 1 (rowsOf (fun i => [.v (.int .i64 (spnAt l i).high)]) k))]) (fun k => k ≤ l.length) (fun k => l.length - k) 0 (Nat.zero_le _) (by simp; rfl) (by simp) ?_
    intro k hk
    by_cases hkl : k < l.length
    · simp [hkl, Spn.cells, show (k + 1) * 8 ≤ 140737488355328 from by omega, show k + 1 ≤ maxLen from by simp [maxLen]; omega]
      refine again_of (k + 1) (by omega) (by omega) ?_
      simp [i64_wrap (show -9223372036854775808 ≤ (k : Int) + 1 ∧ _ from by omega), rowsOf_snoc]
    · simp [hkl]
      obtain rfl : k = l.length := by omega
      refine answers_of rfl ?_
      simp [ints, highs]
      intro k hk; simp [geti_mk hk, rowsOf_get hk]
  | false =>
    refine pwp_loop (fun k : Nat => [(5, .own 29 k 0 k false), (6, .v (.int .i64 k)), (29, .rows none k 3 1 (rowsOf (fun i => [.v (.int .i64 (spnAt l i).low)]) k))]) (fun k => k ≤ l.length) (fun k => l.length - k) 0 (Nat.zero_le _) (by simp; rfl) (by simp) ?_
    intro k hk
    by_cases hkl : k < l.length
    · simp [hkl, Spn.cells, show (k + 1) * 8 ≤ 140737488355328 from by omega, show k + 1 ≤ maxLen from by simp [maxLen]; omega]
      refine again_of (k + 1) (by omega) (by omega) ?_
      simp [i64_wrap (show -9223372036854775808 ≤ (k : Int) + 1 ∧ _ from by omega), rowsOf_snoc]
    · simp [hkl]
      obtain rfl : k = l.length := by omega
      refine answers_of rfl ?_
      simp [ints, lows]
      intro k hk; simp [geti_mk hk, rowsOf_get hk]

theorem rFined_spec (m : Mail) (l : List Int) (hm : MailOk m) (hl : LateOk l) : Spec Try.prog 44 [.agg m.cells, ints l] (.v (.int .i64 (finedTo m l l.length))) := by
  have h60 := hl.len
  obtain ⟨hw1, hw2⟩ := hm.window
  refine spec_of mixed Try.func44 (by decide) rfl Try.results44 Try.ntmps44 (by decide) 0 (by simp) ?_
  simp [Mail.cells, ints]
  refine pwp_loop (fun k : Nat => [(5, .v (.int .i64 (finedTo m l k))), (6, .v (.int .i64 k))]) (fun k => k ≤ l.length) (fun k => l.length - k) 0 (Nat.zero_le _) (by simp; rfl) (by simp [finedTo]) ?_
  intro k hk
  by_cases hkl : k < l.length
  · have w1 : IntKind.i64.wrap ((k : Int) + 1) = (k : Int) + 1 := i64_wrap (by omega)
    have w2 : IntKind.i64.wrap ((k : Int) - m.window) = (k : Int) - m.window := i64_wrap (by omega)
    obtain ⟨X, hX⟩ : ∃ X : Int, X = (k : Int) - m.window + 1 := ⟨_, rfl⟩
    have w3 : IntKind.i64.wrap ((k : Int) - m.window + 1) = X := by rw [hX]; exact i64_wrap (by omega)
    have hlo : (if 0 < X then X else 0) = (winLo m k : Int) := by simp only [winLo]; split <;> omega
    have hle : winLo m k ≤ k := by simp only [winLo]; omega
    generalize hn : k + 1 - winLo m k = n
    clear hX
    simp [hkl, w2, w3, hlo]
    refine pwp_loop (fun c : Nat => [(7, .v (.int .i64 (missN m l (winLo m k) c))), (8, .v (.int .i64 ((winLo m k + c : Nat) : Int)))]) (fun c => c ≤ n) (fun c => n - c) 0 (Nat.zero_le _) (by simp; rfl) (by simp [missN]) ?_
    intro c hc
    by_cases hcn : c < n
    · have hb := missN_bound m l (winLo m k) c
      have w3 : IntKind.i64.wrap (missN m l (winLo m k) c + 1) = missN m l (winLo m k) c + 1 := i64_wrap (by omega)
      have w4 : IntKind.i64.wrap ((winLo m k : Int) + (c : Int) + 1) = (winLo m k : Int) + ((c : Int) + 1) := by rw [← Int.add_assoc]; exact i64_wrap (by omega)
      have hin : winLo m k + c < l.length := by omega
      by_cases ht : m.limit < geti l (winLo m k + c)
      · simp [show (winLo m k : Int) + (c : Int) ≤ k from by omega]
        refine pwp_draw 7 (by decide) ?_
        simp [ht, hin, show (winLo m k : Int) + (c : Int) < l.length from by omega, show (0 : Int) ≤ (winLo m k : Int) + (c : Int) from by omega, show ((winLo m k : Int) + (c : Int)).toNat = winLo m k + c from by omega]
        refine ⟨by decide, ?_⟩
        simp [w3]
        refine again_of (c + 1) (by omega) (by omega) ?_
        simp [w4, missN, ht]
      · simp [show (winLo m k : Int) + (c : Int) ≤ k from by omega]
        refine pwp_draw 7 (by decide) ?_
        simp [ht, hin, show (winLo m k : Int) + (c : Int) < l.length from by omega, show (0 : Int) ≤ (winLo m k : Int) + (c : Int) from by omega, show ((winLo m k : Int) + (c : Int)).toNat = winLo m k + c from by omega]
        refine ⟨by decide, ?_⟩
        refine again_of (c + 1) (by omega) (by omega) ?_
        simp [w4, missN, ht]
    · obtain rfl : c = n := by omega
      simp [show ¬ (winLo m k : Int) + (c : Int) ≤ k from by omega]
      have hb := finedTo_bound m l k
      have w3 : IntKind.i64.wrap (finedTo m l k + 1) = finedTo m l k + 1 := i64_wrap (by omega)
      by_cases hf : m.allowed < missN m l (winLo m k) c
      · simp [hf, w3]
        refine again_of (k + 1) (by omega) (by omega) ?_
        simp [w1, finedTo, fineAt, hn, hf]
      · simp [hf]
        refine again_of (k + 1) (by omega) (by omega) ?_
        simp [w1, finedTo, fineAt, hn, hf]
  · simp [hkl]
    obtain rfl : k = l.length := by omega
    refine answers_of rfl ?_; simp

theorem rBill_spec (m : Mail) (l : List Int) (hm : MailOk m) (hl : LateOk l) : Spec Try.prog 43 [.agg m.cells, ints l] (.v (.int .i64 (billTo m l l.length))) := by
  have h60 := hl.len
  have hf := hm.fine
  have fb := fine_bound hm hl
  refine spec_of mixed Try.func43 (by decide) rfl Try.results43 Try.ntmps43 (by decide) 0 (by simp) ?_
  simp [Mail.cells, ints]
  refine pwp_draw 8 (by decide) ?_
  simp [i64_wrap (show -9223372036854775808 ≤ -m.fine ∧ _ from by omega)]
  refine pd_spec (rFined_spec m l hm hl) (by simp [Mail.cells, ints]) (by simp) (by simp [Mail.cells, ints]) rfl ?_
  simp [i64_wrap (show -9223372036854775808 ≤ -m.fine * finedTo m l l.length ∧ _ from by omega), i64_wrap (show -9223372036854775808 ≤ -(m.fine * finedTo m l l.length) ∧ _ from by rw [← Int.neg_mul]; omega)]
  refine ⟨by decide, ?_⟩
  refine pwp_loop (fun k : Nat => [(5, .v (.int .i64 (billTo m l k))), (6, .v (.int .i64 k))]) (fun k => k ≤ l.length) (fun k => l.length - k) 0 (Nat.zero_le _) (by simp; rfl) (by simp [billTo]) ?_
  intro k hk
  by_cases hkl : k < l.length
  · have w1 : IntKind.i64.wrap ((k : Int) + 1) = (k : Int) + 1 := i64_wrap (by omega)
    have hb := billTo_bound hm hl k hk
    have ht := hl.each k hkl
    have hh := hour_bound hm ht
    have h3 := hm.miss
    have h4 := hm.pay
    have h5 := hm.cap
    generalize hbe : billTo m l k = b at hb
    generalize hte : geti l k = t at ht hh
    have w2 : IntKind.i64.wrap (b - m.miss) = b - m.miss := i64_wrap (by omega)
    have w3 : IntKind.i64.wrap (t + 59) = t + 59 := i64_wrap (by omega)
    have w4 : IntKind.i64.wrap ((t + 59).tdiv 60) = (t + 59) / 60 := i64_quo (by omega)
    have w5 : IntKind.i64.wrap (m.hour * ((t + 59) / 60)) = m.hour * ((t + 59) / 60) := i64_wrap (by omega)
    by_cases hlt : m.limit < t
    · simp [hkl]
      refine pwp_draw 7 (by decide) ?_
      simp [hkl, hte, hlt]
      refine ⟨by decide, ?_⟩
      simp [w2]
      refine again_of (k + 1) (by omega) (by omega) ?_
      simp [w1, billTo, billNext, hbe, hte, hlt]
    · have hmin : (if m.hour * ((t + 59) / 60) < m.cap then m.hour * ((t + 59) / 60) else m.cap) = min m.cap (m.hour * ((t + 59) / 60)) := by split <;> omega
      generalize hme : min m.cap (m.hour * ((t + 59) / 60)) = mn at hmin
      have w6 : IntKind.i64.wrap (b + m.pay) = b + m.pay := i64_wrap (by omega)
      have w7 : IntKind.i64.wrap (b + m.pay - mn) = b + (m.pay - mn) := by rw [show b + m.pay - mn = b + (m.pay - mn) from by omega]; exact i64_wrap (by omega)
      simp [hkl]
      refine pwp_draw 7 (by decide) ?_
      simp [hkl, hte, hlt]
      refine ⟨by decide, ?_⟩
      refine pwp_draw 18 (by decide) ?_
      simp [hkl, hte, w3, w4, w5, hmin, w6, w7]
      refine ⟨by decide, ?_⟩
      refine again_of (k + 1) (by omega) (by omega) ?_
      simp [w1, billTo, billNext, hbe, hte, hlt, hme]
  · simp [hkl]
    obtain rfl : k = l.length := by omega
    refine answers_of rfl ?_; simp
end Go.Qg

/-! The law FareBills returns true. No condition. -/
namespace Go.Qg
open Go.Proofs
set_option maxRecDepth 100000
set_option maxHeartbeats 4000000
attribute [local irreducible] pwp pops pdraw pop popCall pdCall thenP blockP scopeP pspec Spec answers ppost CallW rend

theorem FareBills_spec (m : Mail) (l : List Spn) (hl : l.length ≤ 9223372036854775807) : Spec Try.prog 9 [.agg m.cells, spnL l] (.v (.bool true)) := by
  have hbill := Bill_spec m l hl
  have hfines := Fines_spec m l hl
  refine spec_of mixed Try.func9 (by decide) rfl Try.results9 Try.ntmps9 (by decide) 0 (by simp) ?_
  simp [Mail.cells, spnL]
  by_cases hB : 20 < l.length ∧ l.length ≤ 60
  · simp [show (20 : Int) < l.length from by omega, show ¬ (l.length : Int) ≤ 20 from by omega, show ¬ (60 : Int) < l.length from by omega, show (l.length : Int) ≤ 60 from by omega]
    refine pop_spec known_spec rfl false (.inl (by simp)) (.inl rfl) rfl (by simp) ?_
    simp
    refine answers_of rfl ?_; simp
  by_cases hD : 70 < l.length
  · simp [show (20 : Int) < l.length from by omega, show ¬ (l.length : Int) ≤ 20 from by omega, show (60 : Int) < l.length from by omega, show ¬ (l.length : Int) ≤ 60 from by omega, show (70 : Int) < l.length from by omega, show ¬ (l.length : Int) ≤ 70 from by omega]
    refine pop_spec known_spec rfl false (.inl (by simp)) (.inl rfl) rfl (by simp) ?_
    simp
    refine answers_of rfl ?_; simp
  by_cases hC : 60 < l.length
  · simp [show (20 : Int) < l.length from by omega, show ¬ (l.length : Int) ≤ 20 from by omega, show ¬ (l.length : Int) ≤ 60 from by omega, show (60 : Int) < l.length from by omega, show ¬ (70 : Int) < l.length from by omega, show (l.length : Int) ≤ 70 from by omega]
    refine pop_spec hbill rfl false (.inl (by simp [spnL, Mail.cells, Spn.cells])) (.inl rfl) rfl (by simp) ?_
    have hE : billedE m l = 3 := by simp [billedE, hC]
    have e1 : billOf m l = (⟨0, 0⟩, 3) := by simp [billOf, hE]
    have e2 : finesOf m l = (⟨0, 0⟩, 3) := by simp [finesOf, hE]
    rw [e1]
    simp [Spn.cells]
    refine pop_spec hfines rfl false (.inl (by simp [spnL, Mail.cells, Spn.cells])) (.inl rfl) rfl (by simp) ?_
    rw [e2]
    simp [Spn.cells, show (60 : Int) < l.length from by omega, show ¬ (l.length : Int) ≤ 60 from by omega]
    refine pop_spec known_spec rfl false (.inl (by simp)) (.inl rfl) rfl (by simp) ?_
    simp
    refine answers_of rfl ?_; simp
  have h20 : l.length ≤ 20 := by omega
  simp [show ¬ (20 : Int) < l.length from by omega, show (l.length : Int) ≤ 20 from by omega, show ¬ (70 : Int) < l.length from by omega, show (l.length : Int) ≤ 70 from by omega]
  refine pop_spec hbill rfl false (.inl (by simp [spnL, Mail.cells, Spn.cells])) (.inl rfl) rfl (by simp) ?_
  simp [Spn.cells]
  refine pop_spec hfines rfl false (.inl (by simp [spnL, Mail.cells, Spn.cells])) (.inl rfl) rfl (by simp) ?_
  simp [Spn.cells, show ¬ (60 : Int) < l.length from by omega, show (l.length : Int) ≤ 60 from by omega]
  refine pop_spec (rMail_spec m) rfl false (.inl (by simp [Mail.cells])) (.inl rfl) rfl (by simp) ?_
  have bad : (mailB m && daysB l) = false → billOf m l = (⟨0, 0⟩, 2) ∧ finesOf m l = (⟨0, 0⟩, 2) := fun h => by
    have hE : billedE m l = 2 := by simp [billedE, show ¬ 60 < l.length from by omega, h]
    simp [billOf, finesOf, hE]
  cases h1 : mailB m with
  | false =>
    obtain ⟨e1, e2⟩ := bad (by simp [h1])
    rw [e1, e2]
    simp
    refine pop_spec known_spec rfl false (.inl (by simp)) (.inl rfl) rfl (by simp) ?_
    simp
    refine answers_of rfl ?_; simp
  | true =>
    simp
    refine pop_spec (rDays_spec l hl) rfl false (.inl (by simp [spnL, Spn.cells])) (.inl rfl) rfl (by simp) ?_
    cases h2 : daysB l with
    | false =>
      obtain ⟨e1, e2⟩ := bad (by simp [h2])
      rw [e1, e2]
      simp
      refine pop_spec known_spec rfl false (.inl (by simp)) (.inl rfl) rfl (by simp) ?_
      simp
      refine answers_of rfl ?_; simp
    | true =>
      have hm := mail_ok.1 h1
      obtain ⟨g1, g2⟩ := lates_ok (l := l) (by omega) h2
      have hE : billedE m l = 0 := by simp [billedE, show ¬ 60 < l.length from by omega, h1, h2]
      have e1 : billOf m l = (⟨billTo m (highs l) l.length, billTo m (lows l) l.length⟩, 0) := by simp [billOf, hE]
      have e2 : finesOf m l = (⟨finedTo m (lows l) l.length, finedTo m (highs l) l.length⟩, 0) := by simp [finesOf, hE]
      have l1 : (lows l).length = l.length := by simp [lows]
      have l2 : (highs l).length = l.length := by simp [highs]
      have b1 := rBill_spec m (highs l) hm g2
      have b2 := rBill_spec m (lows l) hm g1
      have f1 := rFined_spec m (lows l) hm g1
      have f2 := rFined_spec m (highs l) hm g2
      rw [l1] at b2 f1
      rw [l2] at b1 f2
      rw [e1, e2]
      simp
      refine pop_spec (rEnds_spec l false (by omega)) rfl false (.inl (by simp [spnL, Spn.cells])) (.inl rfl) rfl (by simp [ints]) ?_
      simp [ints, l1]
      refine pop_spec (rEnds_spec l true (by omega)) rfl false (.inl (by simp [spnL, Spn.cells])) (.inl rfl) rfl (by simp [ints]) ?_
      simp [ints, l2]
      refine pwp_draw 32 (by decide) ?_
      simp
      refine pd_spec b1 (by simp [Mail.cells, ints, l2]) (by simp) (by simp [Mail.cells, ints]) rfl ?_
      simp
      refine pd_spec b2 (by simp [Mail.cells, ints, l1]) (by simp) (by simp [Mail.cells, ints]) rfl ?_
      simp
      refine pd_spec f1 (by simp [Mail.cells, ints, l1]) (by simp) (by simp [Mail.cells, ints]) rfl ?_
      simp
      refine pd_spec f2 (by simp [Mail.cells, ints, l2]) (by simp) (by simp [Mail.cells, ints]) rfl ?_
      simp
      refine pd_spec known_spec (by simp) (by simp) (by simp) (by simp) ?_
      simp
      refine ⟨by decide, ?_⟩
      refine answers_of rfl ?_; simp
end Go.Qg

/-! FareBills: for every contract and all days the law returns true, and leaves its arguments as they were. No condition. -/
namespace Go.Proofs.Ytmnoepkamkomkaa.lawFareBills
open Go.Qg Go.ChangeAt Go.RowKit
set_option maxRecDepth 100000

theorem spec (args : List PV) (hl : Try.f9.params.toList.length = args.length) (h : ∀ (j : Nat) t p, Try.f9.params.toList[j]? = some t → args[j]? = some p → ArgP Try.prog 6 t p) : Qg.Spec Try.prog 9 args (.v (.bool true)) := by
  rw [Try.params9] at hl h
  match args, hl with
  | [a0, a1], _ =>
    obtain ⟨m, rfl, hm1, hm2⟩ := a_mail (h 0 _ a0 rfl rfl)
    obtain ⟨l, rfl, hl, hlok⟩ := a_spns (h 1 _ a1 rfl rfl)
    exact FareBills_spec m l hl

theorem lifted (os : Os) (started : os.Started) (H : Type) (enc : TypeId × Value → H) :
    ReturnsInHanded {} Try.checked os 9 .any (Rows.fareBillsSpec.pre6 enc Try.prog Try.f9 Rows.fareBillsRow.domain false) (Rows.fareBillsSpec.post enc Try.prog Try.f9 false true false false) := by
  refine law_lifted (C := Try.checked) 6 (tb := 4) ownKnob_ started (by kernel_rfl) Try.func9
    (ChangeSpec.witness6 (enc := enc) (C := Try.checked) false ⟨#[], #[.agg #[.int .i64 0, .int .i64 0, .int .i64 0, .int .i64 0, .int .i64 0, .int .i64 0, .int .i64 0, .int .i64 0], .slice none 0 0], []⟩ 8 (by kernel_rfl) (by kernel_rfl) (by kernel_rfl) (by kernel_rfl)) laidOut_ rfl (by kernel_rfl) (by kernel_rfl) Try.underlying4 ?_ spec
  intro ds hds
  match ds, hds with
  | [_, _], _ => exact ⟨rfl, rfl, rfl⟩

theorem FareBills_holds : Rows.FareBillsSaid :=
  OpenClaim.holds_of_wide 9 Try.f9 rfl rfl rfl rfl rfl rfl rfl ⟨rfl, rfl, rfl, rfl, rfl⟩ rfl rfl rfl rfl rfl (by kernel_rfl) Try.func9 (by kernel_rfl)
    (of_decide_eq_true (by kernel_rfl)) (by unfold Func.isWrapper; first | (rw [if_pos (by decide +kernel)]; kernel_rfl) | (rw [if_neg (by decide +kernel)]; exact ⟨rfl, rfl⟩))
    (fun os started H enc _ => lifted os started H enc)
end Go.Proofs.Ytmnoepkamkomkaa.lawFareBills
