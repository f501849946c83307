/-
  FareDue: for every contract, all days and percents the law returns true, and leaves its arguments as they were.
  No condition.
-/
import Derived.Test.YtmnoepkamkomkaaZ5
set_option linter.all false

/-! Contracts of the reference's functions in, Sum, Lengths, Share. No condition. -/
namespace Go.Qg
open Go.Proofs
set_option maxRecDepth 100000
set_option maxHeartbeats 4000000
attribute [local irreducible] pwp pops pdraw pop popCall pdCall thenP blockP scopeP pspec Spec answers ppost CallW rend

theorem rin_spec (n lo hi : Int) : Spec Try.prog 71 [.v (.int .i64 n), .v (.int .i64 lo), .v (.int .i64 hi)] (.v (.bool (inB n lo hi))) := by
  refine spec_of mixed Try.func71 (by decide) rfl Try.results71 Try.ntmps71 (by decide) 0 (by simp) ?_
  by_cases h1 : lo ≤ n
  · by_cases h2 : n ≤ hi <;> (simp [h1, h2]; refine answers_of rfl ?_; simp [inB, h1, h2])
  · simp [h1]; refine answers_of rfl ?_; simp [inB, h1]

theorem rSum_spec (l : List Int) (hl : l.length ≤ 9223372036854775807) : Spec Try.prog 37 [ints l] (.v (.int .i64 (sumL l))) := by
  refine spec_of mixed Try.func37 (by decide) rfl Try.results37 Try.ntmps37 (by decide) 0 (by simp) ?_
  simp [ints]
  refine pwp_loop (fun k : Nat => [(3, .v (.int .i64 (sumL (l.take k)))), (4, .v (.int .i64 k))]) (fun k => k ≤ l.length) (fun k => l.length - k) 0 (Nat.zero_le _) (by simp; rfl) (by simp [sumL]) ?_
  intro k hk
  by_cases h : k < l.length
  · simp [h]
    refine again_of (k + 1) (by omega) (by omega) ?_
    have := sumL_snoc l k h
    simp [this, i64_wrap (show -9223372036854775808 ≤ (k : Int) + 1 ∧ _ from by omega)]
  · simp [h]
    rw [List.take_of_length_le (by omega)]
    refine answers_of rfl ?_; simp

theorem rLengths_spec (l : List Int) (hl : l.length ≤ 9223372036854775807) : Spec Try.prog 30 [ints l] (.v (.bool (lensB l && decide (0 < sumL l)))) := by
  refine spec_of mixed Try.func30 (by decide) rfl Try.results30 Try.ntmps30 (by decide) 0 (by simp) ?_
  simp [ints]
  refine pwp_loop (fun k : Nat => [(3, .v (.int .i64 k))]) (fun k => k ≤ l.length ∧ ∀ j, j < k → inB (geti l j) 0 10000 = true) (fun k => l.length - k) 0 ⟨Nat.zero_le _, fun j hj => by omega⟩ (by simp; rfl) (by simp) ?_
  intro k ⟨hk, hp⟩
  by_cases h : k < l.length
  · simp [h]
    refine pop_spec (rin_spec (geti l k) 0 10000) rfl false (.inl (by simp)) (.inl rfl) rfl (by simp) ?_
    cases hb : inB (geti l k) 0 10000 with
    | true =>
      simp
      refine again_of (k + 1) ⟨by omega, fun j hj => ?_⟩ (by omega) ?_
      · rcases Nat.lt_succ_iff_lt_or_eq.1 hj with hj | rfl
        · exact hp j hj
        · exact hb
      · simp [i64_wrap (show -9223372036854775808 ≤ (k : Int) + 1 ∧ _ from by omega)]
    | false =>
      simp
      have : lensB l = false := allN_false h hb
      refine answers_of rfl ?_; simp [this]
  · simp [h]
    obtain rfl : k = l.length := by omega
    have : lensB l = true := allN_spec.2 hp
    refine pop_spec (rSum_spec l hl) rfl false (.inl (by simp [ints])) (.inl rfl) rfl (by simp) ?_
    simp
    refine answers_of rfl ?_; simp [this]

theorem rShare_spec (amount : Int) (l : List Int) (h : ShareOk amount l) : Spec Try.prog 36 [.v (.int .i64 amount), ints l] (ints (shareL amount l)) := by
  have h8 := h.len
  have hw := h.whole
  refine spec_of mixed Try.func36 (by decide) rfl Try.results36 Try.ntmps36 (by decide) 0 (by simp) ?_
  simp [ints]
  refine pop_spec (rSum_spec l (by omega)) rfl false (.inl (by simp [ints])) (.inl rfl) rfl (by simp) ?_
  have hf := far_bound h.each
  rw [sumL_all fun k hk => by have := hf k hk; omega]
  simp
  refine pwp_loop (fun k : Nat => [(5, .own 35 k 0 k false), (7, .v (.int .i64 (far l k))), (8, .v (.int .i64 (shareTo amount l k))), (9, .v (.int .i64 k)), (35, .rows none k 3 1 (rowsOf (fun i => [.v (.int .i64 (shareTo amount l (i + 1) - shareTo amount l i))]) k))]) (fun k => k ≤ l.length) (fun k => l.length - k) 0 (Nat.zero_le _) (by simp; rfl) (by simp [shareTo, far]) ?_
  intro k hk
  by_cases hkl : k < l.length
  · have hk1 := hf (k + 1) hkl
    obtain ⟨a1, a2, a3, a4⟩ := h.to (k := k + 1) hkl
    obtain ⟨_, _, _, b4⟩ := h.to (k := k) hk
    have w1 : IntKind.i64.wrap (far l k + geti l k) = far l (k + 1) := i64_wrap (n := far l (k + 1)) (by omega)
    have w2 : IntKind.i64.wrap (amount * far l (k + 1)) = amount * far l (k + 1) := i64_wrap (by omega)
    have w3 : IntKind.i64.wrap ((amount * far l (k + 1)).tdiv (far l l.length)) = shareTo amount l (k + 1) := i64_quo (by omega)
    have w4 : IntKind.i64.wrap (shareTo amount l (k + 1) - shareTo amount l k) = shareTo amount l (k + 1) - shareTo amount l k := i64_wrap (by omega)
    have w5 : IntKind.i64.wrap (shareTo amount l k + (shareTo amount l (k + 1) - shareTo amount l k)) = shareTo amount l (k + 1) := by
      rw [show shareTo amount l k + (shareTo amount l (k + 1) - shareTo amount l k) = shareTo amount l (k + 1) from by omega]; exact i64_wrap (by omega)
    simp [hkl, w1, w2, w3, w4, w5, hw, show (k + 1) * 8 ≤ 140737488355328 from by omega, show k + 1 ≤ maxLen from by simp [maxLen]; omega]
    refine again_of (k + 1) (by omega) (by omega) ?_
    simp [i64_wrap (show -9223372036854775808 ≤ (k : Int) + 1 ∧ _ from by omega), rowsOf_snoc]
  · simp [hkl]
    obtain rfl : k = l.length := by omega
    refine answers_of rfl ?_
    simp [shareL]
    intro k hk; simp [geti_mk hk, rowsOf_get hk]
end Go.Qg

/-! Contracts of the reference's functions Mail, Days, Ends, Fined, Bill. No condition. -/
namespace Go.Qg
open Go.Proofs
set_option maxRecDepth 100000
set_option maxHeartbeats 4000000
attribute [local irreducible] pwp pops pdraw pop popCall pdCall thenP blockP scopeP pspec Spec answers ppost CallW rend

theorem mailB_eq (m : Mail) : mailB m = (inB m.pay 0 10000000 && inB m.hour 0 10000000 && inB m.cap 0 m.pay && inB m.limit 0 10000 && inB m.miss 0 10000000 && inB m.window 1 60 && inB m.allowed 0 60 && inB m.fine 0 10000000) := by
  rw [Bool.eq_iff_iff, mail_ok]
  simp only [Bool.and_eq_true, inB_spec]
  exact ⟨fun h => ⟨⟨⟨⟨⟨⟨⟨h.pay, h.hour⟩, h.cap⟩, h.limit⟩, h.miss⟩, h.window⟩, h.allowed⟩, h.fine⟩, fun ⟨⟨⟨⟨⟨⟨⟨h1, h2⟩, h3⟩, h4⟩, h5⟩, h6⟩, h7⟩, h8⟩ => ⟨h1, h2, h5, h8, h3, h4, h6, h7⟩⟩
theorem rMail_spec (m : Mail) : Spec Try.prog 40 [.agg m.cells] (.v (.bool (mailB m))) := by
  rw [mailB_eq]
  refine spec_of mixed Try.func40 (by decide) rfl Try.results40 Try.ntmps40 (by decide) 0 (by simp) ?_
  simp [Mail.cells]
  refine pop_spec (rin_spec m.pay 0 10000000) rfl false (.inl (by simp)) (.inl rfl) rfl (by simp) ?_
  cases h0 : inB m.pay 0 10000000 with
  | false => simp; refine answers_of rfl ?_; simp
  | true =>
    simp
    refine pop_spec (rin_spec m.hour 0 10000000) rfl false (.inl (by simp)) (.inl rfl) rfl (by simp) ?_
    cases h1 : inB m.hour 0 10000000 with
    | false => simp; refine answers_of rfl ?_; simp
    | true =>
      simp
      refine pop_spec (rin_spec m.cap 0 m.pay) rfl false (.inl (by simp)) (.inl rfl) rfl (by simp) ?_
      cases h2 : inB m.cap 0 m.pay with
      | false => simp; refine answers_of rfl ?_; simp
      | true =>
        simp
        refine pop_spec (rin_spec m.limit 0 10000) rfl false (.inl (by simp)) (.inl rfl) rfl (by simp) ?_
        cases h3 : inB m.limit 0 10000 with
        | false => simp; refine answers_of rfl ?_; simp
        | true =>
          simp
          refine pop_spec (rin_spec m.miss 0 10000000) rfl false (.inl (by simp)) (.inl rfl) rfl (by simp) ?_
          cases h4 : inB m.miss 0 10000000 with
          | false => simp; refine answers_of rfl ?_; simp
          | true =>
            simp
            refine pop_spec (rin_spec m.window 1 60) rfl false (.inl (by simp)) (.inl rfl) rfl (by simp) ?_
            cases h5 : inB m.window 1 60 with
            | false => simp; refine answers_of rfl ?_; simp
            | true =>
              simp
              refine pop_spec (rin_spec m.allowed 0 60) rfl false (.inl (by simp)) (.inl rfl) rfl (by simp) ?_
              cases h6 : inB m.allowed 0 60 with
              | false => simp; refine answers_of rfl ?_; simp
              | true =>
                simp
                refine pop_spec (rin_spec m.fine 0 10000000) rfl false (.inl (by simp)) (.inl rfl) rfl (by simp) ?_
                cases h7 : inB m.fine 0 10000000 with
                | false => simp; refine answers_of rfl ?_; simp
                | true =>
                  simp
                  refine answers_of rfl ?_; simp

theorem rDays_spec (l : List Spn) (hl : l.length ≤ 9223372036854775807) : Spec Try.prog 41 [spnL l] (.v (.bool (daysB l))) := by
  refine spec_of mixed Try.func41 (by decide) rfl Try.results41 Try.ntmps41 (by decide) 0 (by simp) ?_
  simp [spnL]
  refine pwp_loop (fun k : Nat => [(3, .v (.int .i64 k))]) (fun k => k ≤ l.length ∧ ∀ j, j < k → dayB (spnAt l j) = true) (fun k => l.length - k) 0 ⟨Nat.zero_le _, fun j hj => by omega⟩ (by simp; rfl) (by simp) ?_
  intro k ⟨hk, hp⟩
  by_cases h : k < l.length
  · have wk := i64_wrap (show -9223372036854775808 ≤ (k : Int) + 1 ∧ _ from by omega)
    have bad : dayB (spnAt l k) = false → daysB l = false := fun hb => allN_false h hb
    simp [h]
    refine pwp_draw 27 (by decide) ?_
    by_cases h1 : 0 ≤ (spnAt l k).low
    · by_cases h2 : (spnAt l k).low ≤ (spnAt l k).high
      · by_cases h3 : (spnAt l k).high ≤ 10000
        · simp [h, Spn.cells, h1, h2, h3, Int.not_lt.2 h1, Int.not_lt.2 h2, Int.not_lt.2 h3]
          refine ⟨by decide, ?_⟩
          refine again_of (k + 1) ⟨by omega, fun j hj => ?_⟩ (by omega) ?_
          · rcases Nat.lt_succ_iff_lt_or_eq.1 hj with hj | rfl
            · exact hp j hj
            · simp [dayB, h1, h2, h3]
          · simp [wk]
        · simp [h, Spn.cells, h1, h2, h3, Int.not_lt.2 h1, Int.not_lt.2 h2, Int.not_le.1 h3]
          refine ⟨by decide, ?_⟩
          rw [bad (by simp [dayB, h3])]
          refine answers_of rfl ?_; simp
      · simp [h, Spn.cells, h1, h2, Int.not_lt.2 h1, Int.not_le.1 h2]
        refine ⟨by decide, ?_⟩
        rw [bad (by simp [dayB, h2])]
        refine answers_of rfl ?_; simp
    · simp [h, Spn.cells, h1, Int.not_le.1 h1]
      refine ⟨by decide, ?_⟩
      rw [bad (by simp [dayB, h1])]
      refine answers_of rfl ?_; simp
  · simp [h]
    obtain rfl : k = l.length := by omega
    have : daysB l = true := allN_spec.2 hp
    refine answers_of rfl ?_; simp [this]

theorem rEnds_spec (l : List Spn) (hi : Bool) (hl : l.length ≤ 1000000000000) : Spec Try.prog 42 [spnL l, .v (.bool hi)] (ints (if hi then highs l else lows l)) := by
  refine spec_of mixed Try.func42 (by decide) rfl Try.results42 Try.ntmps42 (by decide) 0 (by simp) ?_
  simp [spnL]
  cases hi with
  | true =>
    refine pwp_loop (fun k : Nat => [(5, .own 21 k 0 k false), (6, .v (.int .i64 k)), (21, .rows none k 3 1 (rowsOf (fun i => [.v (.int .i64 (spnAt l i).high)]) k))]) (fun k => k ≤ l.length) (fun k => l.length - k) 0 (Nat.zero_le _) (by simp; rfl) (by simp) ?_
    intro k hk
    by_cases hkl : k < l.length
    · simp [hkl, Spn.cells, show (k + 1) * 8 ≤ 140737488355328 from by omega, show k + 1 ≤ maxLen from by simp [maxLen]; omega]
      refine again_of (k + 1) (by omega) (by omega) ?_
      simp [i64_wrap (show -9223372036854775808 ≤ (k : Int) + 1 ∧ _ from by omega), rowsOf_snoc]
    · simp [hkl]
      obtain rfl : k = l.length := by omega
      refine answers_of rfl ?_
      simp [ints, highs]
      intro k hk; simp [geti_mk hk, rowsOf_get hk]
  | false =>
    refine pwp_loop (fun k : Nat => [(5, .own 29 k 0 k false), (6, .v (.int .i64 k)), (29, .rows none k 3 1 (rowsOf (fun i => [.v (.int .i64 (spnAt l i).low)]) k))]) (fun k => k ≤ l.length) (fun k => l.length - k) 0 (Nat.zero_le _) (by simp; rfl) (by simp) ?_
    intro k hk
    by_cases hkl : k < l.length
    · simp [hkl, Spn.cells, show (k + 1) * 8 ≤ 140737488355328 from by omega, show k + 1 ≤ maxLen from by simp [maxLen]; omega]
      refine again_of (k + 1) (by omega) (by omega) ?_
      simp [i64_wrap (show -9223372036854775808 ≤ (k : Int) + 1 ∧ _ from by omega), rowsOf_snoc]
    · simp [hkl]
      obtain rfl : k = l.length := by omega
      refine answers_of rfl ?_
      simp [ints, lows]
      intro k hk; simp [geti_mk hk, rowsOf_get hk]

theorem rFined_spec (m : Mail) (l : List Int) (hm : MailOk m) (hl : LateOk l) : Spec Try.prog 44 [.agg m.cells, ints l] (.v (.int .i64 (finedTo m l l.length))) := by
  have h60 := hl.len
  obtain ⟨hw1, hw2⟩ := hm.window
  refine spec_of mixed Try.func44 (by decide) rfl Try.results44 Try.ntmps44 (by decide) 0 (by simp) ?_
  simp [Mail.cells, ints]
  refine pwp_loop (fun k : Nat => [(5, .v (.int .i64 (finedTo m l k))), (6, .v (.int .i64 k))]) (fun k => k ≤ l.length) (fun k => l.length - k) 0 (Nat.zero_le _) (by simp; rfl) (by simp [finedTo]) ?_
  intro k hk
  by_cases hkl : k < l.length
  · have w1 : IntKind.i64.wrap ((k : Int) + 1) = (k : Int) + 1 := i64_wrap (by omega)
    have w2 : IntKind.i64.wrap ((k : Int) - m.window) = (k : Int) - m.window := i64_wrap (by omega)
    obtain ⟨X, hX⟩ : ∃ X : Int, X = (k : Int) - m.window + 1 := ⟨_, rfl⟩
    have w3 : IntKind.i64.wrap ((k : Int) - m.window + 1) = X := by rw [hX]; exact i64_wrap (by omega)
    have hlo : (if 0 < X then X else 0) = (winLo m k : Int) := by simp only [winLo]; split <;> omega
    have hle : winLo m k ≤ k := by simp only [winLo]; omega
    generalize hn : k + 1 - winLo m k = n
    clear hX
    simp [hkl, w2, w3, hlo]
    refine pwp_loop (fun c : Nat => [(7, .v (.int .i64 (missN m l (winLo m k) c))), (8, .v (.int .i64 ((winLo m k + c : Nat) : Int)))]) (fun c => c ≤ n) (fun c => n - c) 0 (Nat.zero_le _) (by simp; rfl) (by simp [missN]) ?_
    intro c hc
    by_cases hcn : c < n
    · have hb := missN_bound m l (winLo m k) c
      have w3 : IntKind.i64.wrap (missN m l (winLo m k) c + 1) = missN m l (winLo m k) c + 1 := i64_wrap (by omega)
      have w4 : IntKind.i64.wrap ((winLo m k : Int) + (c : Int) + 1) = (winLo m k : Int) + ((c : Int) + 1) := by rw [← Int.add_assoc]; exact i64_wrap (by omega)
      have hin : winLo m k + c < l.length := by omega
      by_cases ht : m.limit < geti l (winLo m k + c)
      · simp [show (winLo m k : Int) + (c : Int) ≤ k from by omega]
        refine pwp_draw 7 (by decide) ?_
        simp [ht, hin, show (winLo m k : Int) + (c : Int) < l.length from by omega, show (0 : Int) ≤ (winLo m k : Int) + (c : Int) from by omega, show ((winLo m k : Int) + (c : Int)).toNat = winLo m k + c from by omega]
        refine ⟨by decide, ?_⟩
        simp [w3]
        refine again_of (c + 1) (by omega) (by omega) ?_
        simp [w4, missN, ht]
      · simp [show (winLo m k : Int) + (c : Int) ≤ k from by omega]
        refine pwp_draw 7 (by decide) ?_
        simp [ht, hin, show (winLo m k : Int) + (c : Int) < l.length from by omega, show (0 : Int) ≤ (winLo m k : Int) + (c : Int) from by omega, show ((winLo m k : Int) + (c : Int)).toNat = winLo m k + c from by omega]
        refine ⟨by decide, ?_⟩
        refine again_of (c + 1) (by omega) (by omega) ?_
        simp [w4, missN, ht]
    · obtain rfl : c = n := by omega
      simp [show ¬ (winLo m k : Int) + (c : Int) ≤ k from by omega]
      have hb := finedTo_bound m l k
      have w3 : IntKind.i64.wrap (finedTo m l k + 1) = finedTo m l k + 1 := i64_wrap (by omega)
      by_cases hf : m.allowed < missN m l (winLo m k) c
      · simp [hf, w3]
        refine again_of (k + 1) (by omega) (by omega) ?_
        simp [w1, finedTo, fineAt, hn, hf]
      · simp [hf]
        refine again_of (k + 1) (by omega) (by omega) ?_
        simp [w1, finedTo, fineAt, hn, hf]
  · simp [hkl]
    obtain rfl : k = l.length := by omega
    refine answers_of rfl ?_; simp

theorem rBill_spec (m : Mail) (l : List Int) (hm : MailOk m) (hl : LateOk l) : Spec Try.prog 43 [.agg m.cells, ints l] (.v (.int .i64 (billTo m l l.length))) := by
  have h60 := hl.len
  have hf := hm.fine
  have fb := fine_bound hm hl
  refine spec_of mixed Try.func43 (by decide) rfl Try.results43 Try.ntmps43 (by decide) 0 (by simp) ?_
  simp [Mail.cells, ints]
  refine pwp_draw 8 (by decide) ?_
  simp [i64_wrap (show -9223372036854775808 ≤ -m.fine ∧ _ from by omega)]
  refine pd_spec (rFined_spec m l hm hl) (by simp [Mail.cells, ints]) (by simp) (by simp [Mail.cells, ints]) rfl ?_
  simp [i64_wrap (show -9223372036854775808 ≤ -m.fine * finedTo m l l.length ∧ _ from by omega), i64_wrap (show -9223372036854775808 ≤ -(m.fine * finedTo m l l.length) ∧ _ from by rw [← Int.neg_mul]; omega)]
  refine ⟨by decide, ?_⟩
  refine pwp_loop (fun k : Nat => [(5, .v (.int .i64 (billTo m l k))), (6, .v (.int .i64 k))]) (fun k => k ≤ l.length) (fun k => l.length - k) 0 (Nat.zero_le _) (by simp; rfl) (by simp [billTo]) ?_
  intro k hk
  by_cases hkl : k < l.length
  · have w1 : IntKind.i64.wrap ((k : Int) + 1) = (k : Int) + 1 := i64_wrap (by omega)
    have hb := billTo_bound hm hl k hk
    have ht := hl.each k hkl
    have hh := hour_bound hm ht
    have h3 := hm.miss
    have h4 := hm.pay
    have h5 := hm.cap
    generalize hbe : billTo m l k = b at hb
    generalize hte : geti l k = t at ht hh
    have w2 : IntKind.i64.wrap (b - m.miss) = b - m.miss := i64_wrap (by omega)
    have w3 : IntKind.i64.wrap (t + 59) = t + 59 := i64_wrap (by omega)
    have w4 : IntKind.i64.wrap ((t + 59).tdiv 60) = (t + 59) / 60 := i64_quo (by omega)
    have w5 : IntKind.i64.wrap (m.hour * ((t + 59) / 60)) = m.hour * ((t + 59) / 60) := i64_wrap (by omega)
    by_cases hlt : m.limit < t
    · simp [hkl]
      refine pwp_draw 7 (by decide) ?_
      simp [hkl, hte, hlt]
      refine ⟨by decide, ?_⟩
      simp [w2]
      refine again_of (k + 1) (by omega) (by omega) ?_
      simp [w1, billTo, billNext, hbe, hte, hlt]
    · have hmin : (if m.hour * ((t + 59) / 60) < m.cap then m.hour * ((t + 59) / 60) else m.cap) = min m.cap (m.hour * ((t + 59) / 60)) := by split <;> omega
      generalize hme : min m.cap (m.hour * ((t + 59) / 60)) = mn at hmin
      have w6 : IntKind.i64.wrap (b + m.pay) = b + m.pay := i64_wrap (by omega)
      have w7 : IntKind.i64.wrap (b + m.pay - mn) = b + (m.pay - mn) := by rw [show b + m.pay - mn = b + (m.pay - mn) from by omega]; exact i64_wrap (by omega)
      simp [hkl]
      refine pwp_draw 7 (by decide) ?_
      simp [hkl, hte, hlt]
      refine ⟨by decide, ?_⟩
      refine pwp_draw 18 (by decide) ?_
      simp [hkl, hte, w3, w4, w5, hmin, w6, w7]
      refine ⟨by decide, ?_⟩
      refine again_of (k + 1) (by omega) (by omega) ?_
      simp [w1, billTo, billNext, hbe, hte, hlt, hme]
  · simp [hkl]
    obtain rfl : k = l.length := by omega
    refine answers_of rfl ?_; simp
end Go.Qg

/-! What the theorem of bills comes to: plain facts on bills and fines. No condition. -/
namespace Go.Qg

@[simp] theorem rowsOf_getElem (g : Nat → List PV) (k i : Nat) (h : i < (rowsOf g k).length) : (rowsOf g k)[i] = g i := by simp [rowsOf]

/-- What the days come to, without fines. -/
def dayTo (m : Mail) (l : List Int) : Nat → Int
  | 0 => 0
  | k + 1 => billNext m (dayTo m l k) (geti l k)
theorem billNext_sub (m : Mail) (n c t : Int) : billNext m (n - c) t = billNext m n t - c := by
  unfold billNext; split <;> omega
theorem billTo_day (m : Mail) (l : List Int) : ∀ k, billTo m l k = dayTo m l k - m.fine * finedTo m l l.length
  | 0 => by simp [billTo, dayTo, Int.neg_mul]
  | k + 1 => by rw [billTo, billTo_day m l k, billNext_sub, dayTo]
/-- The bill, day by day. -/
def dueTo (m : Mail) (l : List Int) (k : Nat) : Int := dayTo m l k - m.fine * finedTo m l k
theorem dueTo_zero (m : Mail) (l : List Int) : dueTo m l 0 = 0 := by simp [dueTo, dayTo, finedTo]
theorem dueTo_succ (m : Mail) (l : List Int) (k : Nat) : dueTo m l (k + 1) = billNext m (dueTo m l k) (geti l k) - (if fineAt m l k then m.fine else 0) := by
  simp only [dueTo, dayTo, finedTo, billNext_sub]
  split
  · rw [Int.mul_add]; omega
  · simp
theorem dueTo_all (m : Mail) (l : List Int) : dueTo m l l.length = billTo m l l.length := (billTo_day m l l.length).symm
theorem billNext_bound {m : Mail} (hm : MailOk m) {n t : Int} (ht : 0 ≤ t ∧ t ≤ 10000) : n - 10000000 ≤ billNext m n t ∧ billNext m n t ≤ n + 10000000 := by
  have h2 := hour_bound hm ht
  have h3 := hm.miss
  have h4 := hm.pay
  have h5 := hm.cap
  unfold billNext
  split <;> omega
theorem dueTo_bound {m : Mail} (hm : MailOk m) {l : List Int} (hl : LateOk l) : ∀ k, k ≤ l.length → -20000000 * (k : Int) ≤ dueTo m l k ∧ dueTo m l k ≤ 10000000 * (k : Int)
  | 0, _ => by simp [dueTo_zero]
  | k + 1, hk => by
    have h1 := dueTo_bound hm hl k (by omega)
    have h2 := billNext_bound hm (n := dueTo m l k) (hl.each k hk)
    have h3 := hm.fine
    rw [dueTo_succ]
    split <;> omega

/-! ### The later, the less -/
structure Later (a b : List Int) : Prop where
  len : a.length = b.length
  each : ∀ k, k < a.length → geti a k ≤ geti b k
theorem missN_mono {m : Mail} {a b : List Int} (h : Later a b) (lo : Nat) : ∀ c, lo + c ≤ a.length → missN m a lo c ≤ missN m b lo c
  | 0, _ => by simp [missN]
  | c + 1, hc => by
    have h1 := missN_mono h lo c (m := m) (by omega)
    have h2 := h.each (lo + c) (by omega)
    simp only [missN]
    split <;> split <;> omega
theorem finedTo_mono {m : Mail} (hm : MailOk m) {a b : List Int} (h : Later a b) : ∀ k, k ≤ a.length → finedTo m a k ≤ finedTo m b k
  | 0, _ => by simp [finedTo]
  | k + 1, hk => by
    have h1 := finedTo_mono hm h k (by omega)
    have hw := hm.window
    have h2 := missN_mono h (winLo m k) (k + 1 - winLo m k) (m := m) (by unfold winLo; omega)
    simp only [finedTo, fineAt, decide_eq_true_eq]
    split <;> split <;> omega
theorem billNext_mono {m : Mail} (hm : MailOk m) {x y s t : Int} (hxy : y ≤ x) (hs : 0 ≤ s) (hst : s ≤ t) (ht : t ≤ 10000) : billNext m y t ≤ billNext m x s := by
  have h1 := hour_bound hm (t := s) ⟨hs, by omega⟩
  have h3 := hm.miss
  have h4 := hm.pay
  have h5 := hm.cap
  have h6 : m.hour * ((s + 59) / 60) ≤ m.hour * ((t + 59) / 60) := Int.mul_le_mul_of_nonneg_left (by omega) hm.hour.1
  unfold billNext
  split <;> split <;> omega
theorem dayTo_mono {m : Mail} (hm : MailOk m) {a b : List Int} (h : Later a b) (ha : LateOk a) (hb : LateOk b) : ∀ k, k ≤ a.length → dayTo m b k ≤ dayTo m a k
  | 0, _ => Int.le_refl _
  | k + 1, hk => by
    have hl := h.len
    have h1 := ha.each k hk
    have h2 := hb.each k (by omega)
    exact billNext_mono hm (dayTo_mono hm h ha hb k (by omega)) h1.1 (h.each k hk) h2.2
theorem billTo_mono {m : Mail} (hm : MailOk m) {a b : List Int} (h : Later a b) (ha : LateOk a) (hb : LateOk b) : billTo m b b.length ≤ billTo m a a.length := by
  rw [billTo_day, billTo_day, ← h.len]
  have h1 := dayTo_mono hm h ha hb a.length (Nat.le_refl _)
  have h2 := finedTo_mono hm h a.length (Nat.le_refl _)
  have h3 := Int.mul_le_mul_of_nonneg_left h2 hm.fine.1
  omega

/-- How late the mail was in truth. -/
def truth (l : List Spn) (p : List Int) : List Int := mk l.length fun i => (spnAt l i).low + ((spnAt l i).high - (spnAt l i).low) * geti p i / 100
def exactly (l : List Int) : List Spn := l.map fun x => ⟨x, x⟩
theorem spnAt_exactly {l : List Int} {k : Nat} (hk : k < l.length) : spnAt (exactly l) k = ⟨geti l k, geti l k⟩ := by simp [spnAt, exactly, geti, hk]
theorem ext_mk {n : Nat} {f : Nat → Int} {l : List Int} (hn : l.length = n) (h : ∀ k, k < n → f k = geti l k) : mk n f = l := by
  refine List.ext_getElem (by simp [hn]) fun i h1 h2 => ?_
  have := h i (by simpa using h1)
  simpa [mk, geti, h2] using this
theorem lows_exactly (l : List Int) : lows (exactly l) = l := ext_mk (by simp [exactly]) fun k hk => by
  rw [spnAt_exactly (by simpa [exactly] using hk)]
theorem highs_exactly (l : List Int) : highs (exactly l) = l := ext_mk (by simp [exactly]) fun k hk => by
  rw [spnAt_exactly (by simpa [exactly] using hk)]
theorem truth_in {l : List Spn} (hd : daysB l = true) {p : List Int} {k : Nat} (hk : k < l.length) (hp : 0 ≤ geti p k ∧ geti p k ≤ 100) :
    (spnAt l k).low ≤ geti (truth l p) k ∧ geti (truth l p) k ≤ (spnAt l k).high ∧ 0 ≤ ((spnAt l k).high - (spnAt l k).low) * geti p k ∧ ((spnAt l k).high - (spnAt l k).low) * geti p k ≤ 1000000 := by
  have h := days_ok.1 hd k hk
  rw [truth, geti_mk hk]
  have e1 : 0 ≤ ((spnAt l k).high - (spnAt l k).low) * geti p k := Int.mul_nonneg (by omega) hp.1
  have e2 : ((spnAt l k).high - (spnAt l k).low) * geti p k ≤ ((spnAt l k).high - (spnAt l k).low) * 100 := Int.mul_le_mul_of_nonneg_left hp.2 (by omega)
  omega
/-- What is taken off, hour by hour. -/
theorem off_step {cap hour : Int} (h1 : 0 ≤ cap) (h2 : 0 ≤ hour) (c : Nat) : (if min cap (hour * (c : Int)) + hour < cap then min cap (hour * (c : Int)) + hour else cap) = min cap (hour * ((c + 1 : Nat) : Int)) := by
  have e : hour * ((c + 1 : Nat) : Int) = hour * (c : Int) + hour := by rw [Int.natCast_add, Int.mul_add]; simp
  rw [e]
  split <;> omega
end Go.Qg

/-! The law FareDue returns true. No condition. -/
namespace Go.Qg
open Go.Proofs
set_option maxRecDepth 100000
set_option maxHeartbeats 4000000
attribute [local irreducible] pwp pops pdraw pop popCall pdCall thenP blockP scopeP pspec Spec answers ppost CallW rend

theorem FareDue_spec (m : Mail) (l : List Spn) (p : List Int) (hl : l.length ≤ 9223372036854775807) (hp : p.length ≤ 9223372036854775807) : Spec Try.prog 10 [.agg m.cells, spnL l, ints p] (.v (.bool true)) := by
  have hbill := Bill_spec m l hl
  have hfines := Fines_spec m l hl
  refine spec_of mixed Try.func10 (by decide) rfl Try.results10 Try.ntmps10 (by decide) 0 (by simp) ?_
  simp [Mail.cells, spnL, ints]
  by_cases h20 : 20 < l.length
  · simp [show (20 : Int) < l.length from by omega, show ¬ (l.length : Int) ≤ 20 from by omega]
    refine pop_spec known_spec rfl false (.inl (by simp)) (.inl rfl) rfl (by simp) ?_
    simp
    refine answers_of rfl ?_; simp
  simp [show ¬ (20 : Int) < l.length from by omega, show (l.length : Int) ≤ 20 from by omega]
  refine pop_spec (rMail_spec m) rfl false (.inl (by simp [Mail.cells])) (.inl rfl) rfl (by simp) ?_
  cases h1 : mailB m with
  | false =>
    simp
    refine pop_spec known_spec rfl false (.inl (by simp)) (.inl rfl) rfl (by simp) ?_
    simp
    refine answers_of rfl ?_; simp
  | true =>
    simp
    refine pop_spec (rDays_spec l hl) rfl false (.inl (by simp [spnL])) (.inl rfl) rfl (by simp) ?_
    cases h2 : daysB l with
    | false =>
      simp
      refine pop_spec known_spec rfl false (.inl (by simp)) (.inl rfl) rfl (by simp) ?_
      simp
      refine answers_of rfl ?_; simp
    | true =>
      by_cases h3 : p.length = l.length
      · have hm := mail_ok.1 h1
        have hwin := hm.window
        have hmiss := hm.miss
        have hfine := hm.fine
        have hcap := hm.cap
        have hhour := hm.hour
        have hpay := hm.pay
        have hall := hm.allowed
        simp [show (p.length : Int) = l.length from by omega]
        have hLlen : (truth l p).length = l.length := by simp [truth]
        have hLk : ∀ k, k < l.length → geti (truth l p) k = (spnAt l k).low + ((spnAt l k).high - (spnAt l k).low) * geti p k / 100 := fun k hk => by rw [truth, geti_mk hk]
        generalize hL : truth l p = L at hLlen hLk
        refine pwp_loop (fun k : Nat => [(7, .own 91 k 0 k false), (8, .v (.int .i64 (dueTo m L k))), (9, .v (.int .i64 (finedTo m L k))), (10, .own 98 k 0 k false), (11, .v (.int .i64 k)), (91, .rows none k 74 2 (rowsOf (fun i => [.v (.int .i64 (geti L i)), .v (.int .i64 (geti L i))]) k)), (98, .rows none k 4 1 (rowsOf (fun i => [.v (.bool (decide (m.limit < geti L i)))]) k))]) (fun k => k ≤ l.length ∧ ∀ j, j < k → 0 ≤ geti p j ∧ geti p j ≤ 100) (fun k => l.length - k) 0 ⟨Nat.zero_le _, fun j hj => by omega⟩ (by simp; rfl) (by simp [dueTo_zero, finedTo]) ?_
        intro k ⟨hk, hpj⟩
        have hdk : ∀ j, j < k → (spnAt l j).low ≤ geti L j ∧ geti L j ≤ (spnAt l j).high := fun j hj => by
          have := truth_in h2 (k := j) (by omega) (hpj j hj)
          rw [hL] at this
          exact ⟨this.1, this.2.1⟩
        by_cases hkl : k < l.length
        · have wk : IntKind.i64.wrap ((k : Int) + 1) = (k : Int) + 1 := i64_wrap (by omega)
          by_cases hp0 : 0 ≤ geti p k
          · by_cases hp1 : geti p k ≤ 100
            · have ht := truth_in h2 hkl ⟨hp0, hp1⟩
              rw [hL] at ht
              have hd := days_ok.1 h2 k hkl
              have hLk := hLk k hkl
              -- the bounds so far, over the list of the days up to here
              have hdue : -20000000 * (k : Int) ≤ dueTo m L k ∧ dueTo m L k ≤ 10000000 * (k : Int) := by
                have : ∀ j, j ≤ k → -20000000 * (j : Int) ≤ dueTo m L j ∧ dueTo m L j ≤ 10000000 * (j : Int) := by
                  intro j
                  induction j with
                  | zero => intro _; simp [dueTo_zero]
                  | succ j ih =>
                    intro hj
                    have g1 := ih (by omega)
                    have g2 := hdk j (by omega)
                    have g3 := days_ok.1 h2 j (by omega)
                    have g4 := billNext_bound hm (n := dueTo m L j) (t := geti L j) (by omega)
                    rw [dueTo_succ]
                    split <;> omega
                exact this k (Nat.le_refl _)
              have hfd := finedTo_bound m L k
              have ds := dueTo_succ m L k
              have fs : finedTo m L (k + 1) = finedTo m L k + (if fineAt m L k then 1 else 0) := rfl
              generalize hb : dueTo m L k = b at *
              generalize hc : finedTo m L k = c at *
              generalize hlw : (spnAt l k).low = lo at *
              generalize hhi : (spnAt l k).high = hi at *
              generalize hpp : geti p k = pk at *
              generalize htt : geti L k = t at *
              have hbn := billNext_bound hm (n := b) (t := t) (by omega)
              have w1 : IntKind.i64.wrap (hi - lo) = hi - lo := i64_wrap (by omega)
              have w2 : IntKind.i64.wrap ((hi - lo) * pk) = (hi - lo) * pk := i64_wrap (by omega)
              have w3 : IntKind.i64.wrap (((hi - lo) * pk).tdiv 100) = (hi - lo) * pk / 100 := i64_quo (by omega)
              have w4 : IntKind.i64.wrap (lo + (hi - lo) * pk / 100) = t := by rw [← hLk]; exact i64_wrap (by omega)
              simp [hkl, hp0, hp1, hpp, Int.not_lt.2 hp0, Int.not_lt.2 hp1, h3]
              refine pwp_draw 24 (by decide) ?_
              simp (config := { maxSteps := 4000000 }) [hkl, Spn.cells, hlw, hhi, hpp, h3, w1, w2, w3, w4]
              refine ⟨by decide, ?_⟩
              have hle : winLo m k ≤ k := by simp only [winLo]; omega
              have hwl : (k : Int) + 1 - m.window ≤ (winLo m k : Int) := by simp only [winLo]; omega
              generalize hn : k + 1 - winLo m k = n at *
              have hnk : ((k : Int) + 1 - (winLo m k : Int)).toNat = n := by omega
              have wkw : IntKind.i64.wrap ((k : Int) - m.window) = (k : Int) - m.window := i64_wrap (by omega)
              have hpn : ∀ j, j < k + 1 → 0 ≤ geti p j ∧ geti p j ≤ 100 := fun j hj => by
                rcases Nat.lt_succ_iff_lt_or_eq.1 hj with hj | rfl
                · exact hpj j hj
                · rw [hpp]; exact ⟨hp0, hp1⟩
              by_cases hlt : m.limit < t
              · have x1 : IntKind.i64.wrap (b - m.miss) = billNext m b t := by
                  have : billNext m b t = b - m.miss := by simp [billNext, hlt]
                  rw [this]; exact i64_wrap (by omega)
                simp (config := { maxSteps := 4000000 }) [show (k + 1) * 16 ≤ 140737488355328 from by omega, show k + 1 ≤ 140737488355328 from by omega, show k + 1 ≤ maxLen from by simp [maxLen]; omega, hlt, x1]
                refine pwp_loop (fun x : Int => [(86, .undef), (92, .undef), (10, .own 98 (k + 1) 0 (k + 1) false), (15, .v (.int .i64 (missN m L (winLo m k) n - missN m L (winLo m k) (x + 1 - winLo m k).toNat))), (16, .v (.int .i64 x)), (98, .rows none (k + 1) 4 1 (rowsOf (fun i => [.v (.bool (decide (m.limit < geti L i)))]) (k + 1)))]) (fun x => (winLo m k : Int) ≤ x + 1 ∧ x ≤ k) (fun x => (x + 1).toNat) (k : Int) ⟨by omega, Int.le_refl _⟩ (by simp; rfl) (by simp [rowsOf_snoc, htt, hlt, hn, hnk]) ?_
                intro x ⟨hx1, hx2⟩
                by_cases hxl : (winLo m k : Int) ≤ x
                · have hx0 : 0 ≤ x := by omega
                  have hxw : (k : Int) - m.window < x := by omega
                  have hxn : x.toNat < k + 1 := by omega
                  have em : missN m L (winLo m k) (x + 1 - winLo m k).toNat = missN m L (winLo m k) (x - 1 + 1 - winLo m k).toNat + (if m.limit < geti L x.toNat then 1 else 0) := by
                    have e1 : (x + 1 - (winLo m k : Int)).toNat = (x - 1 + 1 - (winLo m k : Int)).toNat + 1 := by omega
                    have e2 : winLo m k + (x - 1 + 1 - (winLo m k : Int)).toNat = x.toNat := by omega
                    rw [e1, missN, e2]
                  have mb1 := missN_bound m L (winLo m k) n
                  have mb2 := missN_bound m L (winLo m k) (x + 1 - winLo m k).toNat
                  have mb3 := missN_bound m L (winLo m k) (x - 1 + 1 - winLo m k).toNat
                  have v2 : IntKind.i64.wrap (x - 1) = x - 1 := i64_wrap (by omega)
                  generalize hA : missN m L (winLo m k) n = A at *
                  generalize hB : missN m L (winLo m k) (x + 1 - winLo m k).toNat = B at *
                  generalize hC : missN m L (winLo m k) (x - 1 + 1 - winLo m k).toNat = C at *
                  have hC2 : missN m L (winLo m k) (x.toNat - winLo m k) = C := by rw [← hC]; congr 1; omega
                  by_cases hmx : m.limit < geti L x.toNat
                  · have v1 : IntKind.i64.wrap (A - B + 1) = A - C := by
                      rw [if_pos hmx] at em
                      rw [show A - B + 1 = A - C from by omega]; exact i64_wrap (by omega)
                    simp [hx0, wkw, hxw, hxn, rowsOf_get hxn, show x < (k : Int) + 1 from by omega, hmx, v1]
                    refine again_of (x - 1) (by omega) (by omega) ?_
                    simp [v2, hC, hC2, rowsOf_snoc, htt, hlt]
                  · have v1 : A - B = A - C := by
                      rw [if_neg hmx] at em
                      omega
                    simp [hx0, wkw, hxw, hxn, rowsOf_get hxn, show x < (k : Int) + 1 from by omega, hmx, v1]
                    refine again_of (x - 1) (by omega) (by omega) ?_
                    simp [v2, hC, hC2, rowsOf_snoc, htt, hlt]
                · have hxe : x = (winLo m k : Int) - 1 := by omega
                  have e0 : missN m L (winLo m k) (x + 1 - winLo m k).toNat = 0 := by
                    rw [show (x + 1 - (winLo m k : Int)).toNat = 0 from by omega]; rfl
                  have hstop : ¬ (0 ≤ x ∧ (k : Int) - m.window < x) := by unfold winLo at hxe hxl; omega
                  have hfn : fineAt m L k = decide (m.allowed < missN m L (winLo m k) n) := by simp [fineAt, hn]
                  rw [hfn] at ds fs
                  rw [e0]
                  generalize hA : missN m L (winLo m k) n = A at *
                  have u1 : IntKind.i64.wrap (billNext m b t - m.fine) = billNext m b t - m.fine := i64_wrap (by omega)
                  have u2 : IntKind.i64.wrap (c + 1) = c + 1 := i64_wrap (by omega)
                  by_cases hx0 : 0 ≤ x
                  · have hxw : ¬ (k : Int) - m.window < x := fun h => hstop ⟨hx0, h⟩
                    by_cases hfine : m.allowed < A
                    · simp [hx0, wkw, hxw, Int.not_lt.1 hxw, hfine, u1, u2]
                      refine again_of (k + 1) ⟨by omega, hpn⟩ (by omega) ?_
                      simp [wk, rowsOf_snoc, htt, hlt, ds, fs, hfine]
                    · simp [hx0, wkw, hxw, Int.not_lt.1 hxw, hfine, Int.not_lt.1 hfine]
                      refine again_of (k + 1) ⟨by omega, hpn⟩ (by omega) ?_
                      simp [wk, rowsOf_snoc, htt, hlt, ds, fs, hfine]
                  · by_cases hfine : m.allowed < A
                    · simp [hx0, Int.not_le.1 hx0, hfine, u1, u2]
                      refine again_of (k + 1) ⟨by omega, hpn⟩ (by omega) ?_
                      simp [wk, rowsOf_snoc, htt, hlt, ds, fs, hfine]
                    · simp [hx0, Int.not_le.1 hx0, hfine, Int.not_lt.1 hfine]
                      refine again_of (k + 1) ⟨by omega, hpn⟩ (by omega) ?_
                      simp [wk, rowsOf_snoc, htt, hlt, ds, fs, hfine]
              · obtain ⟨N, hN⟩ : ∃ N : Nat, (N : Int) = (t + 59) / 60 := ⟨((t + 59) / 60).toNat, by omega⟩
                have hoff := hour_bound hm (t := t) (by omega)
                rw [← hN] at hoff
                simp (config := { maxSteps := 4000000 }) [show (k + 1) * 16 ≤ 140737488355328 from by omega, show k + 1 ≤ 140737488355328 from by omega, show k + 1 ≤ maxLen from by simp [maxLen]; omega, hlt]
                refine pwp_loop (fun c : Nat => [(86, .undef), (92, .undef), (13, .v (.int .i64 (min m.cap (m.hour * (c : Int))))), (14, .v (.int .i64 (60 * (c : Int))))]) (fun c => c ≤ N) (fun c => N - c) 0 (Nat.zero_le _) (by simp; rfl) (by simp [show min m.cap 0 = 0 from by omega, rowsOf_snoc, htt, hlt]) ?_
                intro q hq
                by_cases hqN : q < N
                · have s1 := off_step hcap.1 hhour.1 q
                  have s0 : 0 ≤ m.hour * (q : Int) := Int.mul_nonneg hhour.1 (by omega)
                  generalize hO : min m.cap (m.hour * (q : Int)) = O at *
                  have y1 : IntKind.i64.wrap (O + m.hour) = O + m.hour := i64_wrap (by omega)
                  have y2 : IntKind.i64.wrap (60 * (q : Int) + 60) = 60 * ((q : Int) + 1) := by rw [show 60 * (q : Int) + 60 = 60 * ((q : Int) + 1) from by omega]; exact i64_wrap (by omega)
                  simp [show 60 * (q : Int) < t from by omega, y1]
                  refine again_of (q + 1) (by omega) (by omega) ?_
                  simp [y2, s1, rowsOf_snoc, htt, hlt]
                · obtain rfl : q = N := by omega
                  have x2 : IntKind.i64.wrap (b + m.pay) = b + m.pay := i64_wrap (by omega)
                  have x1 : IntKind.i64.wrap (b + m.pay - min m.cap (m.hour * (q : Int))) = billNext m b t := by
                    have : billNext m b t = b + m.pay - min m.cap (m.hour * (q : Int)) := by simp only [billNext, hlt, if_false, hN]; omega
                    rw [this]; exact i64_wrap (by omega)
                  simp [show ¬ 60 * (q : Int) < t from by omega, show t ≤ 60 * (q : Int) from by omega, x1, x2]
                  refine pwp_loop (fun x : Int => [(86, .undef), (92, .undef), (10, .own 98 (k + 1) 0 (k + 1) false), (15, .v (.int .i64 (missN m L (winLo m k) n - missN m L (winLo m k) (x + 1 - winLo m k).toNat))), (16, .v (.int .i64 x)), (98, .rows none (k + 1) 4 1 (rowsOf (fun i => [.v (.bool (decide (m.limit < geti L i)))]) (k + 1)))]) (fun x => (winLo m k : Int) ≤ x + 1 ∧ x ≤ k) (fun x => (x + 1).toNat) (k : Int) ⟨by omega, Int.le_refl _⟩ (by simp; rfl) (by simp [rowsOf_snoc, htt, hlt, hn, hnk]) ?_
                  intro x ⟨hx1, hx2⟩
                  by_cases hxl : (winLo m k : Int) ≤ x
                  · have hx0 : 0 ≤ x := by omega
                    have hxw : (k : Int) - m.window < x := by omega
                    have hxn : x.toNat < k + 1 := by omega
                    have em : missN m L (winLo m k) (x + 1 - winLo m k).toNat = missN m L (winLo m k) (x - 1 + 1 - winLo m k).toNat + (if m.limit < geti L x.toNat then 1 else 0) := by
                      have e1 : (x + 1 - (winLo m k : Int)).toNat = (x - 1 + 1 - (winLo m k : Int)).toNat + 1 := by omega
                      have e2 : winLo m k + (x - 1 + 1 - (winLo m k : Int)).toNat = x.toNat := by omega
                      rw [e1, missN, e2]
                    have mb1 := missN_bound m L (winLo m k) n
                    have mb2 := missN_bound m L (winLo m k) (x + 1 - winLo m k).toNat
                    have mb3 := missN_bound m L (winLo m k) (x - 1 + 1 - winLo m k).toNat
                    have v2 : IntKind.i64.wrap (x - 1) = x - 1 := i64_wrap (by omega)
                    generalize hA : missN m L (winLo m k) n = A at *
                    generalize hB : missN m L (winLo m k) (x + 1 - winLo m k).toNat = B at *
                    generalize hC : missN m L (winLo m k) (x - 1 + 1 - winLo m k).toNat = C at *
                    have hC2 : missN m L (winLo m k) (x.toNat - winLo m k) = C := by rw [← hC]; congr 1; omega
                    by_cases hmx : m.limit < geti L x.toNat
                    · have v1 : IntKind.i64.wrap (A - B + 1) = A - C := by
                        rw [if_pos hmx] at em
                        rw [show A - B + 1 = A - C from by omega]; exact i64_wrap (by omega)
                      simp [hx0, wkw, hxw, hxn, rowsOf_get hxn, show x < (k : Int) + 1 from by omega, hmx, v1]
                      refine again_of (x - 1) (by omega) (by omega) ?_
                      simp [v2, hC, hC2, rowsOf_snoc, htt, hlt]
                    · have v1 : A - B = A - C := by
                        rw [if_neg hmx] at em
                        omega
                      simp [hx0, wkw, hxw, hxn, rowsOf_get hxn, show x < (k : Int) + 1 from by omega, hmx, v1]
                      refine again_of (x - 1) (by omega) (by omega) ?_
                      simp [v2, hC, hC2, rowsOf_snoc, htt, hlt]
                  · have hxe : x = (winLo m k : Int) - 1 := by omega
                    have e0 : missN m L (winLo m k) (x + 1 - winLo m k).toNat = 0 := by
                      rw [show (x + 1 - (winLo m k : Int)).toNat = 0 from by omega]; rfl
                    have hstop : ¬ (0 ≤ x ∧ (k : Int) - m.window < x) := by unfold winLo at hxe hxl; omega
                    have hfn : fineAt m L k = decide (m.allowed < missN m L (winLo m k) n) := by simp [fineAt, hn]
                    rw [hfn] at ds fs
                    rw [e0]
                    generalize hA : missN m L (winLo m k) n = A at *
                    have u1 : IntKind.i64.wrap (billNext m b t - m.fine) = billNext m b t - m.fine := i64_wrap (by omega)
                    have u2 : IntKind.i64.wrap (c + 1) = c + 1 := i64_wrap (by omega)
                    by_cases hx0 : 0 ≤ x
                    · have hxw : ¬ (k : Int) - m.window < x := fun h => hstop ⟨hx0, h⟩
                      by_cases hfine : m.allowed < A
                      · simp [hx0, wkw, hxw, Int.not_lt.1 hxw, hfine, u1, u2]
                        refine again_of (k + 1) ⟨by omega, hpn⟩ (by omega) ?_
                        simp [wk, rowsOf_snoc, htt, hlt, ds, fs, hfine]
                      · simp [hx0, wkw, hxw, Int.not_lt.1 hxw, hfine, Int.not_lt.1 hfine]
                        refine again_of (k + 1) ⟨by omega, hpn⟩ (by omega) ?_
                        simp [wk, rowsOf_snoc, htt, hlt, ds, fs, hfine]
                    · by_cases hfine : m.allowed < A
                      · simp [hx0, Int.not_le.1 hx0, hfine, u1, u2]
                        refine again_of (k + 1) ⟨by omega, hpn⟩ (by omega) ?_
                        simp [wk, rowsOf_snoc, htt, hlt, ds, fs, hfine]
                      · simp [hx0, Int.not_le.1 hx0, hfine, Int.not_lt.1 hfine]
                        refine again_of (k + 1) ⟨by omega, hpn⟩ (by omega) ?_
                        simp [wk, rowsOf_snoc, htt, hlt, ds, fs, hfine]
            · simp [hkl, hp0, hp1, Int.not_lt.2 hp0, Int.not_le.1 hp1, h3]
              refine pop_spec known_spec rfl false (.inl (by simp)) (.inl rfl) rfl (by simp) ?_
              simp
              refine answers_of rfl ?_; simp
          · simp [hkl, hp0, Int.not_le.1 hp0, h3]
            refine pop_spec known_spec rfl false (.inl (by simp)) (.inl rfl) rfl (by simp) ?_
            simp
            refine answers_of rfl ?_; simp
        · obtain rfl : k = l.length := by omega
          have hlate : LateOk L := ⟨by omega, fun j hj => by
            have g1 := hdk j (by omega)
            have g2 := days_ok.1 h2 j (by omega)
            omega⟩
          obtain ⟨g1, g2⟩ := lates_ok (l := l) (by omega) h2
          have llo : (lows l).length = l.length := by simp [lows]
          have lhi : (highs l).length = l.length := by simp [highs]
          have la1 : Later (lows l) L := ⟨by omega, fun j hj => by rw [lows, geti_mk (by omega)]; exact (hdk j (by omega)).1⟩
          have la2 : Later L (highs l) := ⟨by omega, fun j hj => by rw [highs, geti_mk (by omega)]; exact (hdk j (by omega)).2⟩
          have m1 := billTo_mono hm la1 g1 hlate
          have m2 := billTo_mono hm la2 hlate g2
          have m3 := finedTo_mono hm la1 l.length (by omega)
          have m4 := finedTo_mono hm la2 l.length (by omega)
          rw [llo, hLlen] at m1
          rw [lhi, hLlen] at m2
          have hE : billedE m l = 0 := by simp [billedE, show ¬ 60 < l.length from by omega, h1, h2]
          have e1 : billOf m l = (⟨billTo m (highs l) l.length, billTo m (lows l) l.length⟩, 0) := by simp [billOf, hE]
          have e2 : finesOf m l = (⟨finedTo m (lows l) l.length, finedTo m (highs l) l.length⟩, 0) := by simp [finesOf, hE]
          have hxl : (exactly L).length = l.length := by simp [exactly, hLlen]
          have hdx : daysB (exactly L) = true := days_ok.2 fun j hj => by
            rw [spnAt_exactly (by omega)]
            have := hlate.each j (by omega)
            simp only; omega
          have hEx : billedE m (exactly L) = 0 := by simp [billedE, hxl, show ¬ 60 < l.length from by omega, h1, hdx]
          have hdue := dueTo_all m L
          rw [hLlen] at hdue
          have e3 : billOf m (exactly L) = (⟨dueTo m L l.length, dueTo m L l.length⟩, 0) := by
            rw [hdue]
            simp only [billOf, hEx, if_true, lows_exactly, highs_exactly, hxl]
          have hexact := Bill_spec m (exactly L) (by omega)
          rw [e3] at hexact
          rw [e1] at hbill
          rw [e2] at hfines
          rw [← hdue] at m1 m2
          generalize dueTo m L l.length = D at *
          generalize finedTo m L l.length = G at *
          generalize billTo m (highs l) l.length = b1 at *
          generalize billTo m (lows l) l.length = b2 at *
          generalize finedTo m (lows l) l.length = f1 at *
          generalize finedTo m (highs l) l.length = f2 at *
          simp
          refine pop_spec hbill rfl false (.inl (by simp [spnL, Mail.cells])) (.inl rfl) rfl (by simp) ?_
          simp [Spn.cells]
          refine pop_spec hfines rfl false (.inl (by simp [spnL, Mail.cells, Spn.cells])) (.inl rfl) rfl (by simp) ?_
          simp [Spn.cells]
          refine pop_spec hexact rfl true (.inl ?_) (.inr rfl) rfl (by simp) ?_
          · simp [spnL, Mail.cells, hxl]
            intro j hj
            simp [rowsOf_get hj, spnAt_exactly (show j < L.length from by omega), Spn.cells]
          simp (config := { maxSteps := 4000000 }) [Spn.cells, m1, m2, m3, m4]
          refine pop_spec known_spec rfl false (.inl (by simp)) (.inl rfl) rfl (by simp) ?_
          simp
          refine answers_of rfl ?_; simp
      · simp [show ¬ (p.length : Int) = l.length from by omega]
        refine pop_spec known_spec rfl false (.inl (by simp)) (.inl rfl) rfl (by simp) ?_
        simp
        refine answers_of rfl ?_; simp
end Go.Qg

/-! FareDue: for every contract, all days and percents the law returns true, and leaves its arguments as they were. No condition. -/
namespace Go.Proofs.Ytmnoepkamkomkaa.lawFareDue
open Go.Qg Go.ChangeAt Go.RowKit
set_option maxRecDepth 100000

theorem spec (args : List PV) (hl : Try.f10.params.toList.length = args.length) (h : ∀ (j : Nat) t p, Try.f10.params.toList[j]? = some t → args[j]? = some p → ArgP Try.prog 6 t p) : Qg.Spec Try.prog 10 args (.v (.bool true)) := by
  rw [Try.params10] at hl h
  match args, hl with
  | [a0, a1, a2], _ =>
    obtain ⟨m, rfl, hm1, hm2⟩ := a_mail (h 0 _ a0 rfl rfl)
    obtain ⟨l, rfl, hl, hlok⟩ := a_spns (h 1 _ a1 rfl rfl)
    obtain ⟨p, rfl, plen, pok⟩ := a_ints (h 2 _ a2 rfl rfl)
    exact FareDue_spec m l p hl plen

theorem lifted (os : Os) (started : os.Started) (H : Type) (enc : TypeId × Value → H) :
    ReturnsInHanded {} Try.checked os 10 .any (Rows.fareDueSpec.pre6 enc Try.prog Try.f10 Rows.fareDueRow.domain false) (Rows.fareDueSpec.post enc Try.prog Try.f10 false true false false) := by
  refine law_lifted (C := Try.checked) 6 (tb := 4) ownKnob_ started (by kernel_rfl) Try.func10
    (ChangeSpec.witness6 (enc := enc) (C := Try.checked) false ⟨#[], #[.agg #[.int .i64 0, .int .i64 0, .int .i64 0, .int .i64 0, .int .i64 0, .int .i64 0, .int .i64 0, .int .i64 0], .slice none 0 0, .slice none 0 0], []⟩ 8 (by kernel_rfl) (by kernel_rfl) (by kernel_rfl) (by kernel_rfl)) laidOut_ rfl (by kernel_rfl) (by kernel_rfl) Try.underlying4 ?_ spec
  intro ds hds
  match ds, hds with
  | [_, _, _], _ => exact ⟨rfl, rfl, rfl⟩

theorem FareDue_holds : Rows.FareDueSaid :=
  OpenClaim.holds_of_wide 10 Try.f10 rfl rfl rfl rfl rfl rfl rfl ⟨rfl, rfl, rfl, rfl, rfl⟩ rfl rfl rfl rfl rfl (by kernel_rfl) Try.func10 (by kernel_rfl)
    (of_decide_eq_true (by kernel_rfl)) (by unfold Func.isWrapper; first | (rw [if_pos (by decide +kernel)]; kernel_rfl) | (rw [if_neg (by decide +kernel)]; exact ⟨rfl, rfl⟩))
    (fun os started H enc _ => lifted os started H enc)
end Go.Proofs.Ytmnoepkamkomkaa.lawFareDue
