/-
  CacheVisits: for all coves, visits, a cove and points the law returns true, and leaves its arguments as they were.
  No condition.
-/
import Derived.Test.YthfdpekgbdjniaaZ7
set_option linter.all false

namespace Go.Qg
open Go.Proofs
set_option maxRecDepth 100000
set_option linter.unusedSimpArgs false
set_option maxHeartbeats 4000000
attribute [local irreducible] pwp pops pdraw pop popCall pdCall thenP blockP scopeP pspec Spec answers ppost CallW
theorem rin_spec (n lo hi : Int) : Spec Try.prog 58 [.v (.int .i64 n), .v (.int .i64 lo), .v (.int .i64 hi)] (.v (.bool (inB n lo hi))) := by
  refine spec_of mixed Try.func58 (by decide) rfl Try.results58 Try.ntmps58 (by decide) 0 (by simp) ?_
  by_cases h1 : lo ≤ n
  · by_cases h2 : n ≤ hi <;> (simp [h1, h2]; refine answers_of rfl ?_; simp [inB, h1, h2])
  · simp [h1]; refine answers_of rfl ?_; simp [inB, h1]
theorem rspan_spec (s : Spn) (m : Int) : Spec Try.prog 66 [.agg s.cells, .v (.int .i64 m)] (.v (.bool (spanB s 0 m))) := by
  refine spec_of mixed Try.func66 (by decide) rfl Try.results66 Try.ntmps66 (by decide) 0 (by simp) ?_
  simp [Spn.cells]
  by_cases h1 : 0 ≤ s.low
  · by_cases h2 : s.low ≤ s.high
    · by_cases h3 : s.high ≤ m <;> (simp [h1, h2, h3]; refine answers_of rfl ?_; simp [spanB, h1, h2, h3])
    · simp [h1, h2, Int.not_le.1 h2]
      refine answers_of rfl ?_; simp [spanB, h1, h2]
  · simp [h1, Int.not_le.1 h1]; refine answers_of rfl ?_; simp [spanB, h1]
theorem rDay_spec (n : Int) : Spec Try.prog 15 [.v (.int .i64 n)] (.v (.bool (inB n 0 400))) := by
  refine spec_of mixed Try.func15 (by decide) rfl Try.results15 Try.ntmps15 (by decide) 0 (by simp) ?_
  simp
  refine pop_spec (rin_spec n 0 400) rfl false (.inl (by simp)) (.inl rfl) rfl (by simp) ?_
  simp
  refine answers_of rfl ?_; simp
end Go.Qg

namespace Go.Qg
open Go.Proofs
set_option maxRecDepth 100000
set_option linter.unusedSimpArgs false
set_option maxHeartbeats 4000000
attribute [local irreducible] pwp pops pdraw pop popCall pdCall thenP blockP scopeP pspec Spec answers ppost CallW
theorem rCoves_spec (l : List Cov) (hl : l.length ≤ 9223372036854775807) (hc : ∀ k, k < l.length → (covAt l k).closed.length ≤ 9223372036854775807) : Spec Try.prog 85 [covL l] (.v (.bool (covesB l))) := by
  refine spec_of mixed Try.func85 (by decide) rfl Try.results85 Try.ntmps85 (by decide) 0 (by simp) ?_
  simp [covL]
  refine pwp_loop (fun k : Nat => [(3, .v (.int .i64 k))]) (fun k => k ≤ l.length ∧ ∀ j, j < k → covB (covAt l j) = true) (fun k => l.length - k) 0 ⟨Nat.zero_le _, fun j hj => by omega⟩ (by simp; rfl) (by simp) ?_
  intro k ⟨hk, hp⟩
  by_cases hkl : k < l.length
  · have wk := i64_wrap (show -9223372036854775808 ≤ (k : Int) + 1 ∧ _ from by omega)
    have bad : covB (covAt l k) = false → covesB l = false := fun hb => allN_false hkl hb
    have hck := hc k hkl
    have good : covB (covAt l k) = true → ∀ j, j < k + 1 → covB (covAt l j) = true := fun h j hj => by
      rcases Nat.lt_or_eq_of_le (Nat.le_of_lt_succ hj) with h' | rfl
      · exact hp j h'
      · exact h
    simp [hkl, Cov.cells, spnL]
    generalize covAt l k = c at bad hck good ⊢
    by_cases h : c.closed.length ≤ 6
    · simp [show ¬ (6 : Int) < c.closed.length from by omega, show (c.closed.length : Int) ≤ 6 from by omega]
      refine pop_spec (rin_spec c.window 1 400) rfl false (.inl (by simp)) (.inl rfl) rfl (by simp) ?_
      cases h2 : inB c.window 1 400 with
      | false => simp; refine answers_of rfl ?_; simp [bad (by simp [covB, h2])]
      | true =>
        simp
        refine pop_spec (rin_spec c.noise 0 100000) rfl false (.inl (by simp)) (.inl rfl) rfl (by simp) ?_
        cases h3 : inB c.noise 0 100000 with
        | false => simp; refine answers_of rfl ?_; simp [bad (by simp [covB, h3])]
        | true =>
          simp
          refine pop_spec (rin_spec c.visits 0 60) rfl false (.inl (by simp)) (.inl rfl) rfl (by simp) ?_
          cases h4 : inB c.visits 0 60 with
          | false => simp; refine answers_of rfl ?_; simp [bad (by simp [covB, h4])]
          | true =>
            simp
            refine pwp_loop (fun j : Nat => [(5, .v (.int .i64 j))]) (fun j => j ≤ c.closed.length ∧ ∀ i, i < j → spanB (spnAt c.closed i) 0 400 = true) (fun j => c.closed.length - j) 0 ⟨Nat.zero_le _, fun j hj => by omega⟩ (by simp; rfl) (by simp) ?_
            intro j ⟨hj, hq⟩
            by_cases hjl : j < c.closed.length
            · have wj := i64_wrap (show -9223372036854775808 ≤ (j : Int) + 1 ∧ _ from by omega)
              simp [hjl, Spn.cells]
              refine pop_spec (rspan_spec (spnAt c.closed j) 400) rfl false (.inl (by simp [Spn.cells])) (.inl rfl) rfl (by simp) ?_
              cases h5 : spanB (spnAt c.closed j) 0 400 with
              | false =>
                simp
                have : allN c.closed.length (fun k => spanB (spnAt c.closed k) 0 400) = false := allN_false hjl h5
                refine answers_of rfl ?_; simp [bad (by simp [covB, this])]
              | true =>
                simp
                refine again_of (j + 1) ⟨by omega, fun i hi => ?_⟩ (by omega) ?_
                · rcases Nat.lt_or_eq_of_le (Nat.le_of_lt_succ hi) with h' | rfl
                  · exact hq i h'
                  · exact h5
                · simp [wj]
            · obtain rfl : j = c.closed.length := by omega
              have h5 : allN c.closed.length (fun k => spanB (spnAt c.closed k) 0 400) = true := allN_spec.2 hq
              simp
              refine again_of (k + 1) ⟨by omega, good (by simp [covB, h, h2, h3, h4, h5])⟩ (by omega) ?_
              simp [wk]
    · simp [show (6 : Int) < c.closed.length from by omega, show ¬ (c.closed.length : Int) ≤ 6 from by omega]
      refine answers_of rfl ?_; simp [bad (by simp [covB, h])]
  · have h5 : covesB l = true := allN_spec.2 fun j hj => hp j (by omega)
    obtain rfl : k = l.length := by omega
    simp
    refine answers_of rfl ?_; simp [h5]
theorem rSounds_spec (l : List Cov) (s : List Snd) (hl : l.length ≤ 9223372036854775807) (hs : s.length ≤ 9223372036854775807) : Spec Try.prog 86 [covL l, sndL s] (.v (.bool (visitsB l s))) := by
  have w1 : IntKind.i64.wrap ((l.length : Int) - 1) = (l.length : Int) - 1 := i64_wrap (by omega)
  refine spec_of mixed Try.func86 (by decide) rfl Try.results86 Try.ntmps86 (by decide) 0 (by simp) ?_
  simp [covL, sndL]
  refine pwp_loop (fun k : Nat => [(5, .v (.int .i64 k))]) (fun k => k ≤ s.length ∧ ∀ j, j < k → visB l s j = true) (fun k => s.length - k) 0 ⟨Nat.zero_le _, fun j hj => by omega⟩ (by simp; rfl) (by simp) ?_
  intro k ⟨hk, hp⟩
  by_cases hkl : k < s.length
  · have wk := i64_wrap (show -9223372036854775808 ≤ (k : Int) + 1 ∧ _ from by omega)
    have bad : visB l s k = false → visitsB l s = false := fun hb => by simp [visitsB, allN_false hkl hb]
    simp [hkl, Snd.cells]
    refine pwp_draw 34 (by decide) ?_
    simp
    refine pd_spec (rDay_spec (sndAt s k).day) rfl (by simp) (by simp) rfl ?_
    cases q1 : inB (sndAt s k).day 0 400 with
    | false =>
      simp
      refine ⟨by decide, ?_⟩
      refine answers_of rfl ?_; simp [bad (by simp [visB, q1])]
    | true =>
      simp [w1]
      refine pd_spec (rin_spec (sndAt s k).cove 0 ((l.length : Int) - 1)) rfl (by simp) (by simp) rfl ?_
      cases q2 : inB (sndAt s k).cove 0 ((l.length : Int) - 1) with
      | false =>
        simp
        refine ⟨by decide, ?_⟩
        refine answers_of rfl ?_; simp [bad (by simp [visB, q2])]
      | true =>
        simp
        refine pd_spec (rspan_spec ⟨(sndAt s k).low, (sndAt s k).high⟩ 100000) (by simp [Spn.cells]) (by simp) (by simp [Spn.cells]) rfl ?_
        cases q3 : spanB ⟨(sndAt s k).low, (sndAt s k).high⟩ 0 100000 with
        | false =>
          simp
          refine ⟨by decide, ?_⟩
          refine answers_of rfl ?_; simp [bad (by simp [visB, q3])]
        | true =>
          by_cases h0 : k = 0
          · subst h0
            simp
            refine ⟨by decide, ?_⟩
            refine again_of 1 ⟨by omega, fun j hj => ?_⟩ (by omega) ?_
            · obtain rfl : j = 0 := by omega
              simp [visB, q1, q2, q3]
            · simp [wk]
          · have e1 : IntKind.i64.wrap ((k : Int) - 1) = ((k - 1 : Nat) : Int) := by rw [i64_wrap (by omega)]; omega
            by_cases q4 : (sndAt s (k - 1)).day ≤ (sndAt s k).day
            · simp [h0, e1, show k - 1 < s.length from by omega, q4, Int.not_lt.2 q4, show 0 < k from by omega, Snd.cells]
              refine ⟨by decide, ?_⟩
              refine again_of (k + 1) ⟨by omega, fun j hj => ?_⟩ (by omega) ?_
              · rcases Nat.lt_or_eq_of_le (Nat.le_of_lt_succ hj) with h | rfl
                · exact hp j h
                · simp [visB, q1, q2, q3, q4]
              · simp [wk]
            · simp [h0, e1, show k - 1 < s.length from by omega, q4, Int.not_le.1 q4, show 0 < k from by omega, Snd.cells]
              refine ⟨by decide, ?_⟩
              refine answers_of rfl ?_; simp [bad (by simp [visB, q4, h0])]
  · have h5 : allN s.length (visB l s) = true := allN_spec.2 fun j hj => hp j (by omega)
    obtain rfl : k = s.length := by omega
    simp
    refine answers_of rfl ?_; simp [visitsB, h5]
end Go.Qg

namespace Go.Qg
open Go.Proofs
set_option maxRecDepth 100000
set_option linter.unusedSimpArgs false
set_option maxHeartbeats 4000000
attribute [local irreducible] pwp pops pdraw pop popCall pdCall thenP blockP scopeP pspec Spec answers ppost CallW
def lowS (l : List Snd) : Int := lowTo l l.length
def highS (l : List Snd) : Int := highTo l l.length
theorem sndAt_left {l : List Snd} {y : Snd} {k : Nat} (h : k < l.length) : sndAt (l ++ [y]) k = sndAt l k := by simp [sndAt, List.getElem?_append_left h]
theorem lowTo_left (l : List Snd) (y : Snd) : ∀ k, k ≤ l.length → lowTo (l ++ [y]) k = lowTo l k ∧ highTo (l ++ [y]) k = highTo l k
  | 0, _ => ⟨rfl, rfl⟩
  | k + 1, hk => by
    obtain ⟨h1, h2⟩ := lowTo_left l y k (by omega)
    simp only [lowTo, highTo, h1, h2, sndAt_left (show k < l.length by omega), and_self]
theorem lowS_snoc (l : List Snd) (y : Snd) : lowS (l ++ [y]) = lowS l + y.low ∧ highS (l ++ [y]) = highS l + y.high := by
  obtain ⟨h1, h2⟩ := lowTo_left l y l.length (Nat.le_refl _)
  have e : sndAt (l ++ [y]) l.length = y := by simp [sndAt]
  simp only [lowS, highS, List.length_append, List.length_singleton, lowTo, highTo, h1, h2, e, and_self]
def winA (c : Cov) (x : Snd) (s : List Snd) : List Snd := s.filter fun y => decide (y.cove = x.cove) && decide (x.day - c.window < y.day)
theorem winA_eq (c : Cov) (x : Snd) (s : List Snd) : winA c x s = winL c (ofCove s x.cove) x.day := by
  simp only [winA, winL, ofCove, List.filter_filter, Bool.and_comm]
theorem winA_snoc (c : Cov) (x : Snd) {s : List Snd} {k : Nat} (h : k < s.length) : winA c x (s.take (k + 1)) = if (sndAt s k).cove = x.cove ∧ x.day - c.window < (sndAt s k).day then winA c x (s.take k) ++ [sndAt s k] else winA c x (s.take k) := by
  rw [snocTake h]
  simp only [winA, List.filter_append]
  by_cases h1 : (sndAt s k).cove = x.cove <;> by_cases h2 : x.day - c.window < (sndAt s k).day <;> simp [h1, h2]
theorem lastS_snoc (l : List Snd) (y : Snd) : lastS (l ++ [y]) = y := by simp [lastS, sndAt]
theorem last_cove {s : List Snd} {i : Nat} (h : i < s.length) : lastS (ofCove (s.take (i + 1)) (sndAt s i).cove) = sndAt s i := by
  rw [snocTake h, ofCove_snoc, if_pos rfl, lastS_snoc]
theorem anyN_succ (n : Nat) (p : Nat → Bool) : anyN (n + 1) p = (anyN n p || p n) := by
  rw [Bool.eq_iff_iff, Bool.or_eq_true, anyN_iff, anyN_iff]
  constructor
  · rintro ⟨k, hk, h⟩
    rcases Nat.lt_or_eq_of_le (Nat.le_of_lt_succ hk) with h' | rfl
    · exact .inl ⟨k, h', h⟩
    · exact .inr h
  · rintro (⟨k, hk, h⟩ | h)
    · exact ⟨k, by omega, h⟩
    · exact ⟨n, by omega, h⟩
theorem rBreaks_spec (l : List Cov) (s : List Snd) (i : Nat) (hi : i < s.length) (hok : SndsOk s) (hl : l.length ≤ 1000) (h0 : 0 ≤ (sndAt s i).cove) (h1 : (sndAt s i).cove.toNat < l.length) (hc : (covAt l (sndAt s i).cove.toNat).closed.length ≤ 9223372036854775807) (hw : 0 ≤ (covAt l (sndAt s i).cove.toNat).window ∧ (covAt l (sndAt s i).cove.toNat).window ≤ 400) :
    Spec Try.prog 87 [covL l, sndL s, .v (.int .i64 i)] (.tup [.v (.bool (mayAt l s i)), .v (.bool (sureAt l s i))]) := by
  have hn := hok.n
  have hx := hok.each _ (sndAt_mem hi)
  have hres : mayAt l s i = (manyB (covAt l (sndAt s i).cove.toNat) (ofCove (s.take (i + 1)) (sndAt s i).cove) || decide ((covAt l (sndAt s i).cove.toNat).noise < highS (winA (covAt l (sndAt s i).cove.toNat) (sndAt s i) (s.take (i + 1))))) ∧ sureAt l s i = (manyB (covAt l (sndAt s i).cove.toNat) (ofCove (s.take (i + 1)) (sndAt s i).cove) || decide ((covAt l (sndAt s i).cove.toNat).noise < lowS (winA (covAt l (sndAt s i).cove.toNat) (sndAt s i) (s.take (i + 1))))) ∧ manyB (covAt l (sndAt s i).cove.toNat) (ofCove (s.take (i + 1)) (sndAt s i).cove) = (clsB (covAt l (sndAt s i).cove.toNat) (sndAt s i).day || decide ((covAt l (sndAt s i).cove.toNat).visits < ((winA (covAt l (sndAt s i).cove.toNat) (sndAt s i) (s.take (i + 1))).length : Int))) := by
    simp only [mayAt, sureAt, mayB, sureB, manyB, last_cove hi, winA_eq, highS, lowS, and_self]
  obtain ⟨e1, e2, e3⟩ := hres
  rw [e1, e2, e3]
  have h2 : (sndAt s i).cove < (l.length : Int) := by omega
  refine spec_of mixed Try.func87 (by decide) rfl Try.results87 Try.ntmps87 (by decide) 0 (by simp) ?_
  simp [covL, sndL, hi, Snd.cells, h0, h2, Cov.cells, spnL]
  generalize covAt l (sndAt s i).cove.toNat = c at hc hw
  generalize hxx : sndAt s i = x at hx h0 h1 h2
  refine pwp_loop (fun k : Nat => [(10, .v (.int .i64 (winA c x (s.take k)).length)), (11, .v (.int .i64 (lowS (winA c x (s.take k))))), (12, .v (.int .i64 (highS (winA c x (s.take k))))), (13, .v (.int .i64 k))]) (fun k => k ≤ i + 1) (fun k => i + 1 - k) 0 (Nat.zero_le _) (by simp; rfl) (by simp [winA, lowS, highS, lowTo, highTo]) ?_
  intro k hk
  have wk := i64_wrap (show -9223372036854775808 ≤ (k : Int) + 1 ∧ _ from by omega)
  by_cases hkl : k < i + 1
  · have hWok : SndsOk (winA c x (s.take k)) := ⟨Nat.le_trans (List.length_filter_le _ _) (by simp; omega), fun y hy => hok.each y (List.mem_of_mem_take (List.mem_filter.1 hy).1)⟩
    have hWn := hWok.n
    have hb := hWok.to _ (Nat.le_refl _)
    have hy := hok.each _ (sndAt_mem (show k < s.length by omega))
    have hsn := winA_snoc c x (show k < s.length by omega)
    have wd := i64_wrap (show -9223372036854775808 ≤ x.day - c.window ∧ _ from by omega)
    have hb' : (0 ≤ lowS (winA c x (s.take k)) ∧ lowS (winA c x (s.take k)) ≤ 100000 * (winA c x (s.take k)).length) ∧ 0 ≤ highS (winA c x (s.take k)) ∧ highS (winA c x (s.take k)) ≤ 100000 * (winA c x (s.take k)).length := hb
    by_cases q1 : (sndAt s k).cove = x.cove
    · by_cases q2 : x.day - c.window < (sndAt s k).day
      · rw [if_pos ⟨q1, q2⟩] at hsn
        obtain ⟨f1, f2⟩ := lowS_snoc (winA c x (s.take k)) (sndAt s k)
        rw [← hsn] at f1 f2
        have f3 : (winA c x (s.take (k + 1))).length = (winA c x (s.take k)).length + 1 := by rw [hsn]; simp
        generalize winA c x (s.take k) = W at hb' f1 f2 f3 hWn
        simp [show (k : Int) ≤ i from by omega, show k < s.length from by omega, Snd.cells, q1, q2, wd]
        refine pwp_draw 15 (by decide) ?_
        simp [i64_wrap (show -9223372036854775808 ≤ (W.length : Int) + 1 ∧ _ from by omega), i64_wrap (show -9223372036854775808 ≤ lowS W + (sndAt s k).low ∧ _ from by omega), i64_wrap (show -9223372036854775808 ≤ highS W + (sndAt s k).high ∧ _ from by omega)]
        refine ⟨by decide, ?_⟩
        refine again_of (k + 1) (by omega) (by omega) ?_
        simp [wk, f1, f2, f3]
      · rw [if_neg fun h => q2 h.2] at hsn
        simp [show (k : Int) ≤ i from by omega, show k < s.length from by omega, Snd.cells, q1, q2, wd]
        refine again_of (k + 1) (by omega) (by omega) ?_
        simp [wk, hsn]
    · rw [if_neg fun h => q1 h.1] at hsn
      simp [show (k : Int) ≤ i from by omega, show k < s.length from by omega, Snd.cells, q1]
      refine again_of (k + 1) (by omega) (by omega) ?_
      simp [wk, hsn]
  · obtain rfl : k = i + 1 := by omega
    generalize winA c x (s.take (i + 1)) = W
    simp [show ¬ ((i : Int) + 1 ≤ i) from by omega]
    refine pwp_loop (fun j : Nat => [(15, .v (.bool (decide (c.visits < (W.length : Int)) || anyN j fun k => inB x.day (spnAt c.closed k).low (spnAt c.closed k).high))), (16, .v (.int .i64 j))]) (fun j => j ≤ c.closed.length) (fun j => c.closed.length - j) 0 (Nat.zero_le _) (by simp; rfl) (by simp [anyN, idxN]) ?_
    intro j hj
    by_cases hjl : j < c.closed.length
    · have wj := i64_wrap (show -9223372036854775808 ≤ (j : Int) + 1 ∧ _ from by omega)
      have e := anyN_succ j fun k => inB x.day (spnAt c.closed k).low (spnAt c.closed k).high
      simp [hjl]
      refine pwp_draw 19 (by decide) ?_
      cases hb : (decide (c.visits < (W.length : Int)) || anyN j fun k => inB x.day (spnAt c.closed k).low (spnAt c.closed k).high) with
      | true =>
        simp
        refine ⟨by decide, ?_⟩
        refine again_of (j + 1) (by omega) (by omega) ?_
        have e2 : (decide (c.visits < (W.length : Int)) || anyN (j + 1) fun k => inB x.day (spnAt c.closed k).low (spnAt c.closed k).high) = true := by rw [e, ← Bool.or_assoc, hb]; rfl
        simp [wj, e2]
      | false =>
        simp [hjl, Spn.cells]
        refine pd_spec (rin_spec x.day (spnAt c.closed j).low (spnAt c.closed j).high) rfl (by simp) (by simp) rfl ?_
        simp
        refine ⟨by decide, ?_⟩
        refine again_of (j + 1) (by omega) (by omega) ?_
        have e2 : (decide (c.visits < (W.length : Int)) || anyN (j + 1) fun k => inB x.day (spnAt c.closed k).low (spnAt c.closed k).high) = inB x.day (spnAt c.closed j).low (spnAt c.closed j).high := by rw [e, ← Bool.or_assoc, hb]; rfl
        simp [wj, e2]
    · obtain rfl : j = c.closed.length := by omega
      have ecl : (anyN c.closed.length fun k => inB x.day (spnAt c.closed k).low (spnAt c.closed k).high) = clsB c x.day := rfl
      rw [ecl]
      simp
      refine pwp_draw 16 (by decide) ?_
      cases hb : (decide (c.visits < (W.length : Int)) || clsB c x.day) with
      | true =>
        simp
        refine ⟨by decide, ?_⟩
        rw [Bool.or_comm] at hb
        refine answers_of (by simp; rfl) ?_; simp [hb]
      | false =>
        simp
        refine ⟨by decide, ?_⟩
        rw [Bool.or_comm] at hb
        refine answers_of (by simp; rfl) ?_; simp [hb]
structure CovesOk (l : List Cov) (s : List Snd) : Prop where
  ok : SndsOk s
  nl : l.length ≤ 12
  cove : ∀ k, k < s.length → 0 ≤ (sndAt s k).cove ∧ (sndAt s k).cove.toNat < l.length
  each : ∀ k, k < l.length → (covAt l k).closed.length ≤ 6 ∧ (1 ≤ (covAt l k).window ∧ (covAt l k).window ≤ 400) ∧ (0 ≤ (covAt l k).noise ∧ (covAt l k).noise ≤ 100000) ∧ 0 ≤ (covAt l k).visits ∧ (covAt l k).visits ≤ 60
theorem CovesOk.of {l : List Cov} {s : List Snd} (h1 : covesB l = true) (h2 : visitsB l s = true) (hl : l.length ≤ 12) (hs : s.length ≤ 60) : CovesOk l s := by
  obtain ⟨a, b⟩ := visits_ok h2 hs
  exact ⟨a, hl, b, coves_ok h1⟩
theorem rBreaks_ok {l : List Cov} {s : List Snd} (h : CovesOk l s) {i : Nat} (hi : i < s.length) : Spec Try.prog 87 [covL l, sndL s, .v (.int .i64 i)] (.tup [.v (.bool (mayAt l s i)), .v (.bool (sureAt l s i))]) := by
  obtain ⟨h0, h1⟩ := h.cove i hi
  have h2 := h.each _ h1
  exact rBreaks_spec l s i hi h.ok (by have := h.nl; omega) h0 h1 (by omega) (by omega)
theorem rQuiet_spec (l : List Cov) (s : List Snd) (h : CovesOk l s) : Spec Try.prog 35 [covL l, sndL s] (.tup [.v (.int .i64 (firstK (mayAt l s) s.length)), .v (.int .i64 (firstK (sureAt l s) s.length))]) := by
  have hn := h.ok.n
  refine spec_of mixed Try.func35 (by decide) rfl Try.results35 Try.ntmps35 (by decide) 0 (by simp) ?_
  simp [covL, sndL]
  refine pwp_loop (fun k : Nat => [(6, .v (.int .i64 (firstK (mayAt l s) k))), (7, .v (.int .i64 (firstK (sureAt l s) k))), (8, .v (.int .i64 k))]) (fun k => k ≤ s.length) (fun k => s.length - k) 0 (Nat.zero_le _) (by simp; rfl) (by simp [firstK]) ?_
  intro k hk
  by_cases hkl : k < s.length
  · have wk := i64_wrap (show -9223372036854775808 ≤ (k : Int) + 1 ∧ _ from by omega)
    have hbr := rBreaks_ok h hkl
    simp [hkl]
    refine pop_spec hbr rfl false (.inl (by simp [covL, sndL])) (.inl rfl) rfl (by simp) ?_
    have f1 : firstK (mayAt l s) (k + 1) = if mayAt l s k = true ∧ firstK (mayAt l s) k < 0 then (k : Int) else firstK (mayAt l s) k := rfl
    have f2 : firstK (sureAt l s) (k + 1) = if sureAt l s k = true ∧ firstK (sureAt l s) k < 0 then (k : Int) else firstK (sureAt l s) k := rfl
    cases a1 : mayAt l s k <;> cases a2 : sureAt l s k
    · simp
      refine again_of (k + 1) (by omega) (by omega) ?_
      simp [wk, f1, f2, a1, a2]
    · by_cases a4 : firstK (sureAt l s) k < 0
      · simp [a4]
        refine again_of (k + 1) (by omega) (by omega) ?_
        simp [wk, f1, f2, a1, a2, a4]
      · simp [a4]
        refine again_of (k + 1) (by omega) (by omega) ?_
        simp [wk, f1, f2, a1, a2, a4]
    · by_cases a3 : firstK (mayAt l s) k < 0
      · simp [a3]
        refine again_of (k + 1) (by omega) (by omega) ?_
        simp [wk, f1, f2, a1, a2, a3]
      · simp [a3]
        refine again_of (k + 1) (by omega) (by omega) ?_
        simp [wk, f1, f2, a1, a2, a3]
    · by_cases a3 : firstK (mayAt l s) k < 0 <;> by_cases a4 : firstK (sureAt l s) k < 0
      · simp [a3, a4]
        refine again_of (k + 1) (by omega) (by omega) ?_
        simp [wk, f1, f2, a1, a2, a3, a4]
      · simp [a3, a4]
        refine again_of (k + 1) (by omega) (by omega) ?_
        simp [wk, f1, f2, a1, a2, a3, a4]
      · simp [a3, a4]
        refine again_of (k + 1) (by omega) (by omega) ?_
        simp [wk, f1, f2, a1, a2, a3, a4]
      · simp [a3, a4]
        refine again_of (k + 1) (by omega) (by omega) ?_
        simp [wk, f1, f2, a1, a2, a3, a4]
  · obtain rfl : k = s.length := by omega
    simp
    refine answers_of (by simp; rfl) ?_; simp
end Go.Qg

namespace Go.Qg
set_option maxRecDepth 100000
theorem pre_filter {α : Type} (q : α → Bool) (L : List α) (i : Nat) (h : i < L.length) (hq : q L[i] = true) : (L.take (i + 1)).filter q = (L.filter q).take (((L.take i).filter q).length + 1) ∧ ((L.take i).filter q).length < (L.filter q).length := by
  have e : L = L.take i ++ L[i] :: L.drop (i + 1) := by
    rw [← List.drop_eq_getElem_cons h, List.take_append_drop]
  have e1 : L.filter q = (L.take i).filter q ++ L[i] :: (L.drop (i + 1)).filter q := by
    conv => lhs; rw [e]
    rw [List.filter_append, List.filter_cons, if_pos hq]
  have e2 : L.take (i + 1) = L.take i ++ [L[i]] := by rw [List.take_add_one]; simp [h]
  rw [e2, List.filter_append, e1]
  refine ⟨?_, by simp⟩
  rw [List.take_append]
  simp [hq]
  exact (List.take_of_length_le (by omega)).symm
theorem of_filter {α : Type} (q : α → Bool) : ∀ (L : List α) (k : Nat), k < (L.filter q).length → ∃ i, ∃ h : i < L.length, q L[i] = true ∧ ((L.take i).filter q).length = k
  | [], k, h => by simp at h
  | x :: L, k, h => by
    by_cases hx : q x = true
    · cases k with
      | zero => exact ⟨0, by simp, hx, rfl⟩
      | succ k =>
        rw [List.filter_cons, if_pos hx] at h
        obtain ⟨i, h1, h2, h3⟩ := of_filter q L k (by simpa using h)
        exact ⟨i + 1, by simpa using h1, by simpa using h2, by rw [List.take_succ_cons, List.filter_cons, if_pos hx]; simp [h3]⟩
    · rw [List.filter_cons, if_neg hx] at h
      obtain ⟨i, h1, h2, h3⟩ := of_filter q L k h
      exact ⟨i + 1, by simpa using h1, by simpa using h2, by rw [List.take_succ_cons, List.filter_cons, if_neg hx]; exact h3⟩
def Days (s : List Snd) : Prop := s.Pairwise fun a b => a.day ≤ b.day
theorem atTo_spec (l : List Snd) (day : Int) : ∀ k, k ≤ l.length → (∀ j, j < atTo l day k → (sndAt l j).day ≤ day) ∧ (atTo l day k < k → ¬ (sndAt l (atTo l day k)).day ≤ day)
  | 0, _ => ⟨fun j h => by simp [atTo] at h, fun h => by simp [atTo] at h⟩
  | k + 1, hk => by
    obtain ⟨h1, h2⟩ := atTo_spec l day k (by omega)
    have h3 := atTo_le l day k
    by_cases hc : atTo l day k = k ∧ (sndAt l k).day ≤ day
    · have e : atTo l day (k + 1) = k + 1 := if_pos hc
      rw [e]
      refine ⟨fun j hj => ?_, fun h => by omega⟩
      rcases Nat.lt_or_eq_of_le (Nat.le_of_lt_succ hj) with h | rfl
      · exact h1 j (by omega)
      · exact hc.2
    · have e : atTo l day (k + 1) = atTo l day k := if_neg hc
      rw [e]
      refine ⟨h1, fun _ => ?_⟩
      by_cases he : atTo l day k = k
      · rw [he]; exact fun hd => hc ⟨he, hd⟩
      · exact h2 (by omega)
theorem atL_le (l : List Snd) (day : Int) : atL l day ≤ l.length := atTo_le ..
theorem at_split {s : List Snd} (h : Days s) (d : Int) : s.take (atL s d) = s.filter (fun y => decide (y.day ≤ d)) ∧ s.drop (atL s d) = s.filter fun y => !decide (y.day ≤ d) := by
  obtain ⟨h1, h2⟩ := atTo_spec s d s.length (Nat.le_refl _)
  have hle := atL_le s d
  change (∀ j, j < atL s d → _) at h1
  change atL s d < _ → ¬ (sndAt s (atL s d)).day ≤ d at h2
  generalize atL s d = k at h1 h2 hle
  have a1 : ∀ y ∈ s.take k, y.day ≤ d := fun y hy => by
    obtain ⟨j, hj, rfl⟩ := List.getElem_of_mem hy
    have hj2 : j < k ∧ j < s.length := by rw [List.length_take] at hj; omega
    have := h1 j hj2.1
    simpa [sndAt, hj2.2] using this
  have a2 : ∀ y ∈ s.drop k, ¬ y.day ≤ d := fun y hy => by
    have hk : k < s.length := by
      rcases Nat.lt_or_ge k s.length with h | h
      · exact h
      · rw [List.drop_eq_nil_of_le h] at hy; cases hy
    have h3 := h2 hk
    have e : s.drop k = s[k] :: s.drop (k + 1) := List.drop_eq_getElem_cons hk
    have hp : (s.drop k).Pairwise fun a b => a.day ≤ b.day := h.sublist (List.drop_sublist _ _)
    rw [e] at hp hy
    have h4 : (sndAt s k) = s[k] := by simp [sndAt, hk]
    rw [h4] at h3
    rcases List.mem_cons.1 hy with rfl | h5
    · exact h3
    · have := (List.pairwise_cons.1 hp).1 y h5
      omega
  have e := List.take_append_drop k s
  have f1 : (s.take k).filter (fun y => decide (y.day ≤ d)) = s.take k := List.filter_eq_self.2 fun y hy => by simp [a1 y hy]
  have f2 : (s.drop k).filter (fun y => decide (y.day ≤ d)) = [] := List.filter_eq_nil_iff.2 fun y hy => by simp; have := a2 y hy; omega
  have f3 : (s.take k).filter (fun y => !decide (y.day ≤ d)) = [] := List.filter_eq_nil_iff.2 fun y hy => by simp [a1 y hy]
  have f4 : (s.drop k).filter (fun y => !decide (y.day ≤ d)) = s.drop k := List.filter_eq_self.2 fun y hy => by simp; have := a2 y hy; omega
  constructor
  · conv => rhs; rw [← e]
    rw [List.filter_append, f1, f2, List.append_nil]
  · conv => rhs; rw [← e]
    rw [List.filter_append, f3, f4, List.nil_append]
theorem Days.cove {s : List Snd} (h : Days s) (c : Int) : Days (ofCove s c) := h.sublist List.filter_sublist
def moreL (s : List Snd) (x : Snd) : List Snd := insL s (atL s x.day) x
theorem moreL_length (s : List Snd) (x : Snd) : (moreL s x).length = s.length + 1 := insL_length _ _ _ (atL_le ..)
theorem more_cove {s : List Snd} (h : Days s) (x : Snd) : ofCove (moreL s x) x.cove = moreL (ofCove s x.cove) x ∧ ofCove (s.take (atL s x.day)) x.cove = (ofCove s x.cove).take (atL (ofCove s x.cove) x.day) := by
  obtain ⟨a1, a2⟩ := at_split h x.day
  obtain ⟨b1, b2⟩ := at_split (h.cove x.cove) x.day
  have c1 : ofCove (s.take (atL s x.day)) x.cove = (ofCove s x.cove).take (atL (ofCove s x.cove) x.day) := by
    rw [b1, a1]; simp only [ofCove, List.filter_filter]; congr 1; funext y; exact Bool.and_comm _ _
  have c2 : ofCove (s.drop (atL s x.day)) x.cove = (ofCove s x.cove).drop (atL (ofCove s x.cove) x.day) := by
    rw [b2, a2]; simp only [ofCove, List.filter_filter]; congr 1; funext y; exact Bool.and_comm _ _
  refine ⟨?_, c1⟩
  unfold moreL insL
  rw [← c1, ← c2]
  simp [ofCove, List.filter_append]
def fitsB (l : List Cov) (s : List Snd) (x : Snd) : Bool := allN (s.length + 1) fun i => decide (i < atL s x.day) || !(mayAt l (moreL s x) i && decide ((sndAt (moreL s x) i).cove = x.cove))
theorem fits_eq (l : List Cov) {s : List Snd} (h : Days s) (x : Snd) : fitsB l s x = freeB (covAt l x.cove.toNat) (ofCove s x.cove) x := by
  obtain ⟨m1, m2⟩ := more_cove h x
  have hlen := moreL_length s x
  have hlen2 := moreL_length (ofCove s x.cove) x
  have hat := atL_le s x.day
  have hat2 := atL_le (ofCove s x.cove) x.day
  have hT : (moreL s x).take (atL s x.day) = s.take (atL s x.day) := by
    unfold moreL insL
    rw [List.append_assoc, List.take_append_of_le_length (by rw [List.length_take]; omega), List.take_take, Nat.min_self]
  have hcnt : ((moreL s x).take (atL s x.day)).filter (fun y => decide (y.cove = x.cove)) = (ofCove s x.cove).take (atL (ofCove s x.cove) x.day) := by rw [hT]; exact m2
  have hcl : (((moreL s x).take (atL s x.day)).filter (fun y => decide (y.cove = x.cove))).length = atL (ofCove s x.cove) x.day := by rw [hcnt]; simp; omega
  have mono : ∀ i k, i ≤ k → (((moreL s x).take i).filter (fun y => decide (y.cove = x.cove))).length ≤ (((moreL s x).take k).filter (fun y => decide (y.cove = x.cove))).length := fun i k hik => by
    have : (moreL s x).take i = ((moreL s x).take k).take i := by rw [List.take_take, Nat.min_eq_left hik]
    rw [this]
    exact ((List.take_sublist i _).filter _).length_le
  have hm1 : (moreL s x).filter (fun y => decide (y.cove = x.cove)) = moreL (ofCove s x.cove) x := m1
  have hfree : freeB (covAt l x.cove.toNat) (ofCove s x.cove) x = allN ((ofCove s x.cove).length + 1) fun k => decide (k < atL (ofCove s x.cove) x.day) || !mayB (covAt l x.cove.toNat) ((moreL (ofCove s x.cove) x).take (k + 1)) := rfl
  rw [hfree]
  unfold fitsB
  generalize moreL s x = L at *
  generalize moreL (ofCove s x.cove) x = M at *
  generalize atL s x.day = a at *
  generalize atL (ofCove s x.cove) x.day = a' at *
  have key : ∀ i (hi : i < L.length), (sndAt L i).cove = x.cove → mayAt l L i = mayB (covAt l x.cove.toNat) (M.take (((L.take i).filter (fun y => decide (y.cove = x.cove))).length + 1)) ∧ ((L.take i).filter (fun y => decide (y.cove = x.cove))).length < M.length := fun i hi hc => by
    have hq : decide ((L[i]'hi).cove = x.cove) = true := by simpa [sndAt, hi] using hc
    obtain ⟨p1, p2⟩ := pre_filter (fun y : Snd => decide (y.cove = x.cove)) L i hi hq
    rw [hm1] at p1 p2
    refine ⟨?_, p2⟩
    unfold mayAt
    rw [hc]
    show mayB _ ((L.take (i + 1)).filter _) = _
    rw [p1]
  rw [Bool.eq_iff_iff, allN_spec, allN_spec]
  constructor
  · intro hall k hk
    by_cases hka : k < a'
    · simp [hka]
    · obtain ⟨i, hi, hq, hik⟩ := of_filter (fun y : Snd => decide (y.cove = x.cove)) L k (by rw [hm1, hlen2]; exact hk)
      have hc : (sndAt L i).cove = x.cove := by simpa [sndAt, hi] using hq
      obtain ⟨k1, _⟩ := key i hi hc
      rw [hik] at k1
      have hia : ¬ i < a := fun h => by
        have := mono (i + 1) a h
        rw [hcl] at this
        have h2 := (pre_filter (fun y : Snd => decide (y.cove = x.cove)) L i hi hq).1
        have h3 := (pre_filter (fun y : Snd => decide (y.cove = x.cove)) L i hi hq).2
        rw [h2, hik, List.length_take] at this
        rw [hik] at h3
        omega
      have := hall i (by omega)
      simpa [hia, hc, hka, k1] using this
  · intro hall i hi
    by_cases hia : i < a
    · simp [hia]
    · by_cases hc : (sndAt L i).cove = x.cove
      · obtain ⟨k1, k2⟩ := key i (by omega) hc
        have hge := mono a i (by omega)
        rw [hcl] at hge
        have := hall (((L.take i).filter (fun y => decide (y.cove = x.cove))).length) (by omega)
        simpa [hia, hc, k1, show ¬ ((L.take i).filter (fun y => decide (y.cove = x.cove))).length < a' from by omega] using this
      · simp [hc]
theorem days_of {l : List Cov} {s : List Snd} (h : visitsB l s = true) : Days s := by
  have h1 := allN_spec.1 h
  refine List.pairwise_iff_getElem.2 fun i j hi hj hij => ?_
  have step : ∀ k, k + 1 < s.length → (sndAt s k).day ≤ (sndAt s (k + 1)).day := fun k hk => by
    have := h1 (k + 1) hk
    simp only [visB, Bool.and_eq_true, Bool.or_eq_true, decide_eq_true_eq, Nat.add_sub_cancel] at this
    omega
  have all : ∀ d, i + d < s.length → (sndAt s i).day ≤ (sndAt s (i + d)).day := by
    intro d
    induction d with
    | zero => intro _; exact Int.le_refl _
    | succ d ih => intro hd; exact Int.le_trans (ih (by omega)) (step (i + d) (by omega))
  have := all (j - i) (by omega)
  rw [show i + (j - i) = j from by omega] at this
  simpa [sndAt, hi, hj] using this
end Go.Qg

namespace Go.Qg
set_option maxRecDepth 100000
def noiseTo (s : List Snd) (pts : List Int) (c : Cov) (x : Snd) : Nat → Int
  | 0 => 0
  | k + 1 => if (sndAt s k).cove = x.cove ∧ x.day - c.window < (sndAt s k).day then noiseTo s pts c x k + geti pts k else noiseTo s pts c x k
def InP (s : List Snd) (pts : List Int) : Prop := ∀ k, k < s.length → (sndAt s k).low ≤ geti pts k ∧ geti pts k ≤ (sndAt s k).high
theorem noise_bounds {s : List Snd} {pts : List Int} (h : InP s pts) (c : Cov) (x : Snd) : ∀ k, k ≤ s.length → lowS (winA c x (s.take k)) ≤ noiseTo s pts c x k ∧ noiseTo s pts c x k ≤ highS (winA c x (s.take k))
  | 0, _ => by simp [winA, lowS, highS, lowTo, highTo, noiseTo]
  | k + 1, hk => by
    have ih := noise_bounds h c x k (by omega)
    have hb := h k (by omega)
    rw [winA_snoc c x (show k < s.length by omega)]
    by_cases hc : (sndAt s k).cove = x.cove ∧ x.day - c.window < (sndAt s k).day
    · rw [if_pos hc, noiseTo, if_pos hc]
      obtain ⟨e1, e2⟩ := lowS_snoc (winA c x (s.take k)) (sndAt s k)
      omega
    · rw [if_neg hc, noiseTo, if_neg hc]; exact ih
def loudB (l : List Cov) (s : List Snd) (pts : List Int) (i : Nat) : Bool :=
  clsB (covAt l (sndAt s i).cove.toNat) (sndAt s i).day || (decide ((covAt l (sndAt s i).cove.toNat).visits < ((winA (covAt l (sndAt s i).cove.toNat) (sndAt s i) (s.take (i + 1))).length : Int)) || decide ((covAt l (sndAt s i).cove.toNat).noise < noiseTo s pts (covAt l (sndAt s i).cove.toNat) (sndAt s i) (i + 1)))
theorem may_eq {l : List Cov} {s : List Snd} {i : Nat} (hi : i < s.length) : mayAt l s i = (clsB (covAt l (sndAt s i).cove.toNat) (sndAt s i).day || (decide ((covAt l (sndAt s i).cove.toNat).visits < ((winA (covAt l (sndAt s i).cove.toNat) (sndAt s i) (s.take (i + 1))).length : Int)) || decide ((covAt l (sndAt s i).cove.toNat).noise < highS (winA (covAt l (sndAt s i).cove.toNat) (sndAt s i) (s.take (i + 1)))))) := by
  simp only [mayAt, mayB, manyB, last_cove hi, winA_eq, highS, Bool.or_assoc]
theorem sure_eq {l : List Cov} {s : List Snd} {i : Nat} (hi : i < s.length) : sureAt l s i = (clsB (covAt l (sndAt s i).cove.toNat) (sndAt s i).day || (decide ((covAt l (sndAt s i).cove.toNat).visits < ((winA (covAt l (sndAt s i).cove.toNat) (sndAt s i) (s.take (i + 1))).length : Int)) || decide ((covAt l (sndAt s i).cove.toNat).noise < lowS (winA (covAt l (sndAt s i).cove.toNat) (sndAt s i) (s.take (i + 1)))))) := by
  simp only [sureAt, sureB, manyB, last_cove hi, winA_eq, lowS, Bool.or_assoc]
theorem not_loud {l : List Cov} {s : List Snd} {pts : List Int} {i : Nat} (h : InP s pts) (hi : i < s.length) (hm : mayAt l s i = false) : loudB l s pts i = false := by
  rw [may_eq hi] at hm
  have hb := (noise_bounds h (covAt l (sndAt s i).cove.toNat) (sndAt s i) (i + 1) (by omega)).2
  unfold loudB
  simp only [Bool.or_eq_false_iff, decide_eq_false_iff_not] at hm ⊢
  exact ⟨hm.1, hm.2.1, by omega⟩
theorem is_loud {l : List Cov} {s : List Snd} {pts : List Int} {i : Nat} (h : InP s pts) (hi : i < s.length) (hm : sureAt l s i = true) : loudB l s pts i = true := by
  rw [sure_eq hi] at hm
  have hb := (noise_bounds h (covAt l (sndAt s i).cove.toNat) (sndAt s i) (i + 1) (by omega)).1
  unfold loudB
  simp only [Bool.or_eq_true, decide_eq_true_eq] at hm ⊢
  rcases hm with hm | hm | hm
  · exact .inl hm
  · exact .inr (.inl hm)
  · exact .inr (.inr (by omega))
theorem InP.low_high {s : List Snd} {pts : List Int} (h : InP s pts) {i : Nat} (hi : i < s.length) : (sndAt s i).low ≤ (sndAt s i).high := by have := h i hi; omega
theorem sure_may {l : List Cov} {s : List Snd} {pts : List Int} (h : InP s pts) {i : Nat} (hi : i < s.length) (hs : sureAt l s i = true) : mayAt l s i = true := by
  cases hm : mayAt l s i with
  | true => rfl
  | false => have a := not_loud h hi hm; rw [is_loud h hi hs] at a; cases a
theorem firstK_spec (p : Nat → Bool) : ∀ n, (firstK p n = -1 ∧ ∀ k, k < n → p k = false) ∨ ∃ j : Nat, firstK p n = j ∧ j < n ∧ p j = true ∧ ∀ k, k < j → p k = false
  | 0 => .inl ⟨rfl, fun k h => by omega⟩
  | n + 1 => by
    rcases firstK_spec p n with ⟨h1, h2⟩ | ⟨j, h1, h2, h3, h4⟩
    · by_cases hp : p n = true
      · exact .inr ⟨n, by rw [firstK, if_pos ⟨hp, by omega⟩], by omega, hp, h2⟩
      · refine .inl ⟨by rw [firstK, if_neg (fun h => hp h.1), h1], fun k hk => ?_⟩
        rcases Nat.lt_or_eq_of_le (Nat.le_of_lt_succ hk) with h | rfl
        · exact h2 k h
        · simpa using hp
    · exact .inr ⟨j, by rw [firstK, if_neg (fun h => by omega), h1], by omega, h3, h4⟩
theorem spnAt_set {l : List Spn} {k j : Nat} {y : Spn} (h : k < l.length) : spnAt (l.set k y) j = if j = k then y else spnAt l j := by
  by_cases e : j = k
  · subst e; simp [spnAt, h]
  · rw [if_neg e]; unfold spnAt; simp [List.getElem?_set_ne (show k ≠ j from fun h => e h.symm)]
theorem spnAt_app {l : List Spn} {j : Nat} {y : Spn} : spnAt (l ++ [y]) j = if j = l.length then y else spnAt l j := by
  by_cases e : j = l.length
  · subst e; simp [spnAt]
  · rw [if_neg e]
    by_cases h : j < l.length
    · simp [spnAt, List.getElem?_append_left h]
    · simp [spnAt, List.getElem?_eq_none (show (l ++ [y]).length ≤ j by simp; omega), List.getElem?_eq_none (show l.length ≤ j by omega)]
structure SpansIs (p : Nat → Bool) (d : Nat) (out : List Spn) : Prop where
  each : ∀ i, i < out.length → 0 ≤ (spnAt out i).low ∧ (spnAt out i).low ≤ (spnAt out i).high ∧ (spnAt out i).high < d
  apart : ∀ i, i + 1 < out.length → (spnAt out i).high + 1 < (spnAt out (i + 1)).low
  all : ∀ t : Nat, (∃ i, i < out.length ∧ (spnAt out i).low ≤ t ∧ (t : Int) ≤ (spnAt out i).high) ↔ t < d ∧ p t = true
theorem spansTo_is (p : Nat → Bool) : ∀ d, SpansIs p d (spansTo p d)
  | 0 => ⟨fun i h => by simp [spansTo] at h, fun i h => by simp [spansTo] at h, fun t => by simp [spansTo]⟩
  | d + 1 => by
    obtain ⟨h1, h2, h3⟩ := spansTo_is p d
    simp only [spansTo]
    by_cases hp : p d = true
    · rw [if_pos hp]
      generalize spansTo p d = out at h1 h2 h3
      unfold spanStep
      by_cases hc : 0 < out.length ∧ (spnAt out (out.length - 1)).high = (d : Int) - 1
      · rw [if_pos hc]
        obtain ⟨c0, c1⟩ := hc
        have hlt : out.length - 1 < out.length := by omega
        refine ⟨fun i hi => ?_, fun i hi => ?_, fun t => ?_⟩
        · rw [List.length_set] at hi
          rw [spnAt_set hlt]
          have := h1 i hi
          split
          · rename_i e; subst e; simp only; omega
          · omega
        · rw [List.length_set] at hi
          rw [spnAt_set hlt, spnAt_set hlt, if_neg (by omega)]
          have := h2 i hi
          split
          · rename_i e; rw [e] at this; exact this
          · exact this
        · have ht := h3 t
          rw [List.length_set]
          constructor
          · rintro ⟨i, hi, g1, g2⟩
            rw [spnAt_set hlt] at g1 g2
            by_cases e : i = out.length - 1
            · rw [if_pos e] at g1 g2
              simp only at g1 g2
              by_cases htd : t = d
              · subst htd; exact ⟨by omega, hp⟩
              · have := ht.1 ⟨out.length - 1, hlt, g1, by omega⟩
                exact ⟨by omega, this.2⟩
            · rw [if_neg e] at g1 g2
              have := ht.1 ⟨i, hi, g1, g2⟩
              exact ⟨by omega, this.2⟩
          · rintro ⟨g1, g2⟩
            by_cases htd : t = d
            · subst htd
              refine ⟨out.length - 1, hlt, ?_⟩
              rw [spnAt_set hlt, if_pos rfl]
              have := h1 _ hlt
              simp only; omega
            · obtain ⟨i, hi, k1, k2⟩ := ht.2 ⟨by omega, g2⟩
              refine ⟨i, hi, ?_⟩
              rw [spnAt_set hlt]
              split
              · rename_i e; subst e; simp only; omega
              · exact ⟨k1, k2⟩
      · rw [if_neg hc]
        refine ⟨fun i hi => ?_, fun i hi => ?_, fun t => ?_⟩
        · rw [spnAt_app]
          split
          · simp only; omega
          · have := h1 i (by simp at hi; omega); omega
        · have hi2 : i < out.length := by simp at hi; omega
          rw [spnAt_app, spnAt_app, if_neg (by omega)]
          have := h1 i hi2
          split
          · rename_i e
            have e2 : out.length - 1 = i := by omega
            rw [e2] at hc
            simp only
            have : ¬ (spnAt out i).high = (d : Int) - 1 := fun h => hc ⟨by omega, h⟩
            omega
          · exact h2 i (by omega)
        · have ht := h3 t
          constructor
          · rintro ⟨i, hi, g1, g2⟩
            rw [spnAt_app] at g1 g2
            by_cases e : i = out.length
            · rw [if_pos e] at g1 g2
              simp only at g1 g2
              have : t = d := by omega
              subst this; exact ⟨by omega, hp⟩
            · rw [if_neg e] at g1 g2
              have := ht.1 ⟨i, by simp at hi; omega, g1, g2⟩
              exact ⟨by omega, this.2⟩
          · rintro ⟨g1, g2⟩
            by_cases htd : t = d
            · subst htd
              refine ⟨out.length, by simp, ?_⟩
              rw [spnAt_app, if_pos rfl]
              simp
            · obtain ⟨i, hi, k1, k2⟩ := ht.2 ⟨by omega, g2⟩
              refine ⟨i, by simp; omega, ?_⟩
              rw [spnAt_app, if_neg (by omega)]
              exact ⟨k1, k2⟩
    · rw [if_neg hp]
      refine ⟨fun i hi => by have := h1 i hi; omega, h2, fun t => (h3 t).trans ⟨fun h => ⟨by omega, h.2⟩, fun h => ⟨?_, h.2⟩⟩⟩
      rcases Nat.lt_or_eq_of_le (Nat.le_of_lt_succ h.1) with h4 | rfl
      · exact h4
      · exact absurd h.2 hp
theorem inP_more {s : List Snd} {pts : List Int} (h : InP s pts) (hl : pts.length = s.length) {x : Snd} {v : Int} (hv : x.low ≤ v ∧ v ≤ x.high) (a : Nat) (ha : a ≤ s.length) : InP (insL s a x) (pts.take a ++ [v] ++ pts.drop a) := fun k hk => by
  rw [insL_length s a x ha] at hk
  have e1 : sndAt (insL s a x) k = if k < a then sndAt s k else if k = a then x else sndAt s (k - 1) := by
    unfold sndAt insL
    rw [List.getD_eq_getElem?_getD, List.getD_eq_getElem?_getD, List.getD_eq_getElem?_getD]
    by_cases h1 : k < a
    · rw [if_pos h1, List.append_assoc, List.getElem?_append_left (by rw [List.length_take]; omega), List.getElem?_take_of_lt h1]
    · rw [if_neg h1, List.append_assoc, List.getElem?_append_right (by rw [List.length_take]; omega)]
      by_cases h2 : k = a
      · subst h2; simp [ha]
      · rw [if_neg h2, List.length_take, Nat.min_eq_left ha, List.singleton_append, show k - a = (k - a - 1) + 1 from by omega, List.getElem?_cons_succ, List.getElem?_drop]
        congr 2; omega
  have e2 : geti (pts.take a ++ [v] ++ pts.drop a) k = if k < a then geti pts k else if k = a then v else geti pts (k - 1) := by
    unfold geti
    rw [List.getD_eq_getElem?_getD, List.getD_eq_getElem?_getD, List.getD_eq_getElem?_getD]
    by_cases h1 : k < a
    · rw [if_pos h1, List.append_assoc, List.getElem?_append_left (by rw [List.length_take]; omega), List.getElem?_take_of_lt h1]
    · rw [if_neg h1, List.append_assoc, List.getElem?_append_right (by rw [List.length_take]; omega)]
      by_cases h2 : k = a
      · subst h2; simp [hl, ha]
      · rw [if_neg h2, List.length_take, Nat.min_eq_left (by omega), List.singleton_append, show k - a = (k - a - 1) + 1 from by omega, List.getElem?_cons_succ, List.getElem?_drop]
        congr 2; omega
  rw [e1, e2]
  by_cases h1 : k < a
  · rw [if_pos h1, if_pos h1]; exact h k (by omega)
  · rw [if_neg h1, if_neg h1]
    by_cases h2 : k = a
    · rw [if_pos h2, if_pos h2]; exact hv
    · rw [if_neg h2, if_neg h2]; exact h (k - 1) (by omega)
end Go.Qg

namespace Go.Qg
open Go.Proofs
set_option maxRecDepth 100000
set_option linter.unusedSimpArgs false
set_option maxHeartbeats 4000000
attribute [local irreducible] pwp pops pdraw pop popCall pdCall thenP blockP scopeP pspec Spec answers ppost CallW
theorem rowsSo_rangeTake (l : List Snd) (k : Nat) (h : k ≤ l.length) : (List.range k).map (fun i => (sndAt l i).cells) = rowsSo (l.take k) := by
  rw [← rowsSo_range, List.length_take, Nat.min_eq_left h]
  refine List.map_congr_left fun i hi => ?_
  rw [sndAt_takeS (List.mem_range.1 hi)]
theorem rowsSo_rangeDrop (l : List Snd) (k : Nat) : (List.range (l.length - k)).map (fun i => (sndAt l (k + i)).cells) = rowsSo (l.drop k) := by
  rw [← rowsSo_range, List.length_drop]
  refine List.map_congr_left fun i hi => ?_
  simp [sndAt]
theorem rowsSo_rangeTake' (l : List Snd) (k : Nat) (h : k ≤ l.length) : (List.range k).map (fun i => [PV.v (.int .i64 (sndAt l i).day), PV.v (.int .i64 (sndAt l i).cove), PV.v (.int .i64 (sndAt l i).low), PV.v (.int .i64 (sndAt l i).high)]) = rowsSo (l.take k) := rowsSo_rangeTake l k h
theorem rowsSo_rangeDrop' (l : List Snd) (k : Nat) : (List.range (l.length - k)).map (fun i => [PV.v (.int .i64 (sndAt l (k + i)).day), PV.v (.int .i64 (sndAt l (k + i)).cove), PV.v (.int .i64 (sndAt l (k + i)).low), PV.v (.int .i64 (sndAt l (k + i)).high)]) = rowsSo (l.drop k) := rowsSo_rangeDrop l k
theorem rowsSo_range' (l : List Snd) : (List.range l.length).map (fun i => [PV.v (.int .i64 (sndAt l i).day), PV.v (.int .i64 (sndAt l i).cove), PV.v (.int .i64 (sndAt l i).low), PV.v (.int .i64 (sndAt l i).high)]) = rowsSo l := rowsSo_range l
theorem rowsSo_app (a b : List Snd) : rowsSo a ++ rowsSo b = rowsSo (a ++ b) := by simp [rowsSo]
theorem rMore_spec (s : List Snd) (x : Snd) (hs : s.length ≤ 1000) :
    Spec Try.prog 41 [sndL s, .agg x.cells] (.tup [sndL (moreL s x), .v (.int .i64 (atL s x.day))]) := by
  refine spec_of mixed Try.func41 (by decide) rfl Try.results41 Try.ntmps41 (by decide) 0 (by simp) ?_
  simp [sndL, Snd.cells]
  refine pwp_loop (fun k : Nat => [(6, .v (.int .i64 k))]) (fun k => k ≤ s.length ∧ atTo s x.day k = k) (fun k => s.length - k) 0 ⟨Nat.zero_le _, rfl⟩ (by simp; rfl) (by simp) ?_
  intro k ⟨hk, hat⟩
  have wk := i64_wrap (show -9223372036854775808 ≤ (k : Int) + 1 ∧ _ from by omega)
  by_cases hgo : k < s.length ∧ (sndAt s k).day ≤ x.day
  · obtain ⟨g1, g2⟩ := hgo
    simp
    refine pwp_draw 14 (by decide) ?_
    simp [g1, g2, Snd.cells]
    refine ⟨by decide, ?_⟩
    simp [wk]
    refine again_of (k + 1) ⟨g1, by simp [atTo, hat, g2]⟩ (by omega) ?_
    simp
  · have hatL : atL s x.day = k := by
      by_cases g1 : k < s.length
      · exact atTo_stop hat (fun g2 => hgo ⟨g1, g2⟩) _ hk
      · obtain rfl : k = s.length := by omega
        exact hat
    have hM : moreL s x = s.take k ++ [x] ++ s.drop k := by rw [← hatL]; rfl
    have hMl := moreL_length s x
    rw [hatL]
    generalize moreL s x = M at hM hMl
    have hrows : (List.take (k + 1) (rowsSo (List.take k (List.take k s)) ++ [[PV.v (.int .i64 x.day), PV.v (.int .i64 x.cove), PV.v (.int .i64 x.low), PV.v (.int .i64 x.high)]]) ++ rowsSo (s.drop k)) = rowsSo M := by
      rw [rowsSo_snoc', rowsSo_take, rowsSo_app, List.take_take, Nat.min_self, hM, List.take_of_length_le (by rw [List.length_append, List.length_take, List.length_singleton]; omega)]
    have hget : ∀ j, j < s.length + 1 → (rowsSo M)[j]? = some [PV.v (.int .i64 (sndAt M j).day), PV.v (.int .i64 (sndAt M j).cove), PV.v (.int .i64 (sndAt M j).low), PV.v (.int .i64 (sndAt M j).high)] := fun j hj => rowsSo_get (by omega)
    simp
    refine pwp_draw 14 (by decide) ?_
    have hside : (k < s.length ∧ ¬ (sndAt s k).day ≤ x.day) ∨ k = s.length := by omega
    have b1 : k * 32 ≤ 140737488355328 ∧ k ≤ maxLen := ⟨by omega, by simp only [maxLen]; omega⟩
    have b2 : (k + 1) * 32 ≤ 140737488355328 ∧ k + 1 ≤ maxLen := ⟨by omega, by simp only [maxLen]; omega⟩
    have b3 : (k + 1 + (s.length - k)) * 32 ≤ 140737488355328 ∧ k + 1 + (s.length - k) ≤ maxLen := ⟨by omega, by simp only [maxLen]; omega⟩
    have b6 : (1 + s.length) * 32 ≤ 140737488355328 ∧ 1 + s.length ≤ maxLen := ⟨by omega, by simp only [maxLen]; omega⟩
    have b4 : 1 ≤ maxLen := by simp [maxLen]
    rcases hside with ⟨g1, g2⟩ | g3
    · simp [g1, g2, Snd.cells]
      refine ⟨by decide, ?_⟩
      refine pwp_draw 7 (by decide) ?_
      by_cases h0 : 0 < k
      · simp [h0, hk, b1, b2, b3, rowsSo_rangeTake' s k hk, rowsSo_rangeDrop' s k]
        refine ⟨by decide, ?_⟩
        refine answers_of (by simp; rfl) ?_
        simp [hMl]
        refine ⟨by omega, by omega, fun j hj => ?_⟩
        rw [hrows, hget j hj]
        simp
      · obtain rfl : k = 0 := by omega
        simp [b4, b6, rowsSo_range']
        refine ⟨by decide, ?_⟩
        refine answers_of (by simp; rfl) ?_
        simp [hMl]
        have hrows0 : [PV.v (.int .i64 x.day), PV.v (.int .i64 x.cove), PV.v (.int .i64 x.low), PV.v (.int .i64 x.high)] :: rowsSo s = rowsSo M := by rw [hM]; rfl
        refine ⟨by omega, fun j hj => ?_⟩
        rw [hrows0, hget j hj]
        simp
    · subst g3
      simp
      refine ⟨by decide, ?_⟩
      refine pwp_draw 7 (by decide) ?_
      have hdrop : s.drop s.length = [] := List.drop_of_length_le (Nat.le_refl _)
      by_cases h0 : 0 < s.length
      · simp [h0, hk, b1, b2, b3, rowsSo_range']
        refine ⟨by decide, ?_⟩
        refine answers_of (by simp; rfl) ?_
        simp [hMl]
        have hrows1 : List.take (s.length + 1) (rowsSo (List.take s.length s) ++ [[PV.v (.int .i64 x.day), PV.v (.int .i64 x.cove), PV.v (.int .i64 x.low), PV.v (.int .i64 x.high)]]) = rowsSo M := by
          rw [rowsSo_snoc', rowsSo_take, hM, hdrop, List.append_nil, List.take_of_length_le (by rw [List.length_append, List.length_take, List.length_singleton]; omega)]
        have hrows2 : rowsSo (List.take s.length s) ++ [[PV.v (.int .i64 x.day), PV.v (.int .i64 x.cove), PV.v (.int .i64 x.low), PV.v (.int .i64 x.high)]] = rowsSo M := by
          rw [rowsSo_snoc', hM, hdrop, List.append_nil]
        have hrows3 : rowsSo s ++ [[PV.v (.int .i64 x.day), PV.v (.int .i64 x.cove), PV.v (.int .i64 x.low), PV.v (.int .i64 x.high)]] = rowsSo M := by
          rw [rowsSo_snoc', hM, hdrop, List.append_nil, List.take_of_length_le (Nat.le_refl _)]
        have hrows4 : List.take (s.length + 1) (rowsSo M) = rowsSo M := List.take_of_length_le (by rw [rowsSo_length, hMl]; exact Nat.le_refl _)
        intro j hj
        first
          | (rw [hrows2, hrows4, hget j hj]; simp)
          | (rw [hrows3, hrows4, hget j hj]; simp)
          | (rw [hrows1, hget j hj]; simp)
          | (rw [hrows2, hget j hj]; simp)
          | (rw [hrows3, hget j hj]; simp)
      · obtain rfl : s = [] := List.eq_nil_of_length_eq_zero (by omega)
        simp [b4]
        refine ⟨by decide, ?_⟩
        refine answers_of (by simp; rfl) ?_
        have e : sndAt M 0 = x := by rw [hM]; rfl
        simp [show M.length = 1 from hMl, e]
theorem CovesOk.more {l : List Cov} {s : List Snd} (h : CovesOk l s) {x : Snd} (hx : (0 ≤ x.day ∧ x.day ≤ 400) ∧ (0 ≤ x.low ∧ x.low ≤ 100000) ∧ 0 ≤ x.high ∧ x.high ≤ 100000) (hc : 0 ≤ x.cove ∧ x.cove.toNat < l.length) (hn : s.length ≤ 60) : CovesOk l (moreL s x) := by
  have hlen := moreL_length s x
  have hmem : ∀ y ∈ moreL s x, y ∈ s ∨ y = x := fun y hy => by
    simp only [moreL, insL, List.mem_append, List.mem_singleton] at hy
    rcases hy with (hy | hy) | hy
    · exact .inl (List.mem_of_mem_take hy)
    · exact .inr hy
    · exact .inl (List.mem_of_mem_drop hy)
  refine ⟨⟨by omega, fun y hy => ?_⟩, h.nl, fun k hk => ?_, h.each⟩
  · rcases hmem y hy with h1 | rfl
    · exact h.ok.each y h1
    · exact hx
  · rcases hmem _ (sndAt_mem hk) with h1 | h1
    · obtain ⟨j, hj, he⟩ := List.getElem_of_mem h1
      have : sndAt s j = sndAt (moreL s x) k := by rw [← he]; simp [sndAt, hj]
      rw [← this]
      exact h.cove j hj
    · rw [h1]; exact hc
theorem rFits_spec (l : List Cov) (s : List Snd) (x : Snd) (h : CovesOk l s) (hx : (0 ≤ x.day ∧ x.day ≤ 400) ∧ (0 ≤ x.low ∧ x.low ≤ 100000) ∧ 0 ≤ x.high ∧ x.high ≤ 100000) (hc : 0 ≤ x.cove ∧ x.cove.toNat < l.length) (hn : s.length ≤ 60) :
    Spec Try.prog 90 [covL l, sndL s, .agg x.cells] (.v (.bool (fitsB l s x))) := by
  have hmore := rMore_spec s x (by omega)
  have hA := h.more hx hc hn
  have hlen := moreL_length s x
  have hat := atL_le s x.day
  have hf : fitsB l s x = allN (s.length + 1) fun i => decide (i < atL s x.day) || !(mayAt l (moreL s x) i && decide ((sndAt (moreL s x) i).cove = x.cove)) := rfl
  generalize moreL s x = A at hmore hA hlen hf
  generalize atL s x.day = a at hmore hat hf
  obtain ⟨q, hqd⟩ : ∃ q : Nat → Bool, q = fun i => mayAt l A i && decide ((sndAt A i).cove = x.cove) := ⟨_, rfl⟩
  have hqe : ∀ i, q i = (mayAt l A i && decide ((sndAt A i).cove = x.cove)) := fun i => by rw [hqd]
  have hf : fitsB l s x = allN (s.length + 1) fun i => decide (i < a) || !q i := by rw [hf]; simp only [hqe]
  rw [hf]
  refine spec_of mixed Try.func90 (by decide) rfl Try.results90 Try.ntmps90 (by decide) 0 (by simp) ?_
  simp [covL, sndL, Snd.cells]
  refine pop_spec hmore rfl false (.inl (by simp [sndL, Snd.cells])) (.inl rfl) rfl (by simp [sndL]) ?_
  simp [sndL]
  refine pwp_loop (fun i : Nat => [(9, .v (.int .i64 i))]) (fun i => a ≤ i ∧ i ≤ s.length + 1 ∧ ∀ j, a ≤ j → j < i → q j = false) (fun i => s.length + 1 - i) a ⟨Nat.le_refl _, by omega, fun j h1 h2 => by omega⟩ (by simp; rfl) (by simp) ?_
  intro i ⟨hi1, hi2, hi3⟩
  by_cases hil : i < s.length + 1
  · have wi := i64_wrap (show -9223372036854775808 ≤ (i : Int) + 1 ∧ _ from by omega)
    have hbr := rBreaks_ok hA (i := i) (by omega)
    have hnext : q i = false → ∀ j, a ≤ j → j < i + 1 → q j = false := fun h j h1 h2 => by
      rcases Nat.lt_or_eq_of_le (Nat.le_of_lt_succ h2) with h' | rfl
      · exact hi3 j h1 h'
      · exact h
    simp [show i < A.length from by omega, show (i : Int) < (A.length : Int) from by omega]
    refine pop_spec hbr rfl false (.inl (by simp [covL, sndL])) (.inl rfl) rfl (by simp) ?_
    simp
    refine pwp_draw 11 (by decide) ?_
    cases hm : mayAt l A i with
    | false =>
      simp
      refine ⟨by decide, ?_⟩
      refine again_of (i + 1) ⟨by omega, by omega, hnext (by simp [hqe, hm])⟩ (by omega) ?_
      simp [wi]
    | true =>
      by_cases hq : (sndAt A i).cove = x.cove
      · simp [show i < A.length from by omega, hq, Snd.cells]
        refine ⟨by decide, ?_⟩
        have : (allN (s.length + 1) fun i => decide (i < a) || !q i) = false := allN_false hil (by simp [hqe, hm, hq]; omega)
        refine answers_of rfl ?_; simp [this]
      · simp [show i < A.length from by omega, hq, Snd.cells]
        refine ⟨by decide, ?_⟩
        refine again_of (i + 1) ⟨by omega, by omega, hnext (by simp [hqe, hq])⟩ (by omega) ?_
        simp [wi]
  · have hall : (allN (s.length + 1) fun i => decide (i < a) || !q i) = true := allN_spec.2 fun j hj => by
      by_cases hja : j < a
      · simp [hja]
      · rw [hi3 j (by omega) (by omega)]; simp
    simp [show ¬ i < A.length from by omega, show ¬ (i : Int) < (A.length : Int) from by omega]
    refine answers_of rfl ?_; simp [hall]
theorem rFree_spec (l : List Cov) (s : List Snd) (cove : Int) (pt : Spn) (h : CovesOk l s) (hd : Days s) (hn : s.length ≤ 60) (hc : 0 ≤ cove ∧ cove.toNat < l.length) (hp : (0 ≤ pt.low ∧ pt.low ≤ 100000) ∧ 0 ≤ pt.high ∧ pt.high ≤ 100000) :
    Spec Try.prog 38 [covL l, sndL s, .v (.int .i64 cove), .agg pt.cells] (spnL (spansTo (freeP l s cove pt) 401)) := by
  refine spec_of mixed Try.func38 (by decide) rfl Try.results38 Try.ntmps38 (by decide) 1 (by simp) ?_
  simp [covL, sndL, Spn.cells]
  refine pwp_loop (fun d : Nat => [(9, .own 52 (spansTo (freeP l s cove pt) d).length 0 (spansTo (freeP l s cove pt) d).length false), (10, .v (.int .i64 d)), (49, .undef), (50, .undef), (52, .rows none (spansTo (freeP l s cove pt) d).length 60 2 (rowsSp (spansTo (freeP l s cove pt) d)))]) (fun d => d ≤ 401) (fun d => 401 - d) 0 (Nat.zero_le _) (by simp; rfl) (by simp [spansTo]) ?_
  intro d hdd
  by_cases hdl : d < 401
  · have wd := i64_wrap (show -9223372036854775808 ≤ (d : Int) + 1 ∧ _ from by omega)
    have hfits := rFits_spec l s ⟨d, cove, pt.low, pt.high⟩ h (by simp only; omega) hc hn
    rw [fits_eq l hd] at hfits
    change Spec _ _ _ (.v (.bool (freeP l s cove pt d))) at hfits
    have hn := spansTo_length (freeP l s cove pt) d
    have st : spansTo (freeP l s cove pt) (d + 1) = if freeP l s cove pt d = true then spanStep (spansTo (freeP l s cove pt) d) d else spansTo (freeP l s cove pt) d := rfl
    simp [show (d : Int) ≤ 400 from by omega]
    refine pop_spec hfits rfl false (.inl (by simp [covL, sndL, Snd.cells])) (.inl rfl) rfl (by simp) ?_
    cases hq : freeP l s cove pt d with
    | false =>
      rw [hq, if_neg (by simp)] at st
      simp
      refine again_of (d + 1) (by omega) (by omega) ?_
      simp [st, wd]
    | true =>
      rw [hq, if_pos rfl] at st
      simp
      generalize spansTo (freeP l s cove pt) d = out at hn st
      have hne : ∀ n : Nat, n + 1 ≤ 402 → (n + 1) * 16 ≤ 140737488355328 ∧ n + 1 ≤ maxLen := fun n h => ⟨by omega, by simp only [maxLen]; omega⟩
      have hb := hne out.length (by omega)
      by_cases h0 : 0 < out.length
      · have e1 : IntKind.i64.wrap ((out.length : Int) - 1) = ((out.length - 1 : Nat) : Int) := by rw [i64_wrap (by omega)]; omega
        have ed : IntKind.i64.wrap ((d : Int) - 1) = (d : Int) - 1 := i64_wrap (by omega)
        have hrow := rowsSp_get (show out.length - 1 < out.length from by omega)
        have hlt : out.length - 1 < out.length := by omega
        by_cases hh : (spnAt out (out.length - 1)).high = (d : Int) - 1
        · have hs : spanStep out d = out.set (out.length - 1) ⟨(spnAt out (out.length - 1)).low, d⟩ := if_pos ⟨h0, hh⟩
          rw [hs] at st
          simp [h0, e1, ed, hrow, Spn.cells, hh, hlt, setRange]
          refine again_of (d + 1) (by omega) (by omega) ?_
          simp [st, wd, rowsSp_set2, rowsSp_snoc2, List.length_set]
        · have hs : spanStep out d = out ++ [⟨d, d⟩] := if_neg fun h => hh h.2
          rw [hs] at st
          simp [h0, e1, ed, hrow, Spn.cells, hh, hlt, hb.1, hb.2]
          refine again_of (d + 1) (by omega) (by omega) ?_
          simp [st, wd, rowsSp_set2, rowsSp_snoc2, List.length_set]
      · have hs : spanStep out d = out ++ [⟨d, d⟩] := if_neg fun h => h0 h.1
        obtain rfl : out = [] := List.eq_nil_of_length_eq_zero (by omega)
        rw [hs] at st
        simp [show 1 ≤ maxLen from by simp [maxLen]]
        refine again_of (d + 1) (by omega) (by omega) ?_
        simp [st, wd, rowsSp, Spn.cells]
  · obtain rfl : d = 401 := by omega
    simp
    refine answers_of (by simp; rfl) ?_
    simp [spnL]
    intro k hk
    rw [rowsSp_get hk]
    simp [Spn.cells]
end Go.Qg

namespace Go.Qg
structure Hold (G : Prop) : Prop where
  h : G
theorem joinG {G X : Prop} (h1 : Hold G → X) (h2 : G) : X := h1 ⟨h2⟩
theorem joinH (H : Prop) {G X : Prop} (h1 : Hold (H → G) → X) (h2 : H → G) : X := h1 ⟨h2⟩
theorem pwp_loopF {P : Program} {M : Nat} {c : Code} {Q : PX → PF → Prop} {fr : PF} (V : List (Nat × PV)) (hg : less M fr (apply V fr)) (h : pwp P M (.loop c) Q (apply V fr)) : pwp P M (.loop c) Q fr := fun X hX hW => hW _ _ (weak_of_less hg) (h X hX hW)
end Go.Qg

namespace Go.Qg
open Go.Proofs
set_option maxRecDepth 100000
set_option linter.unusedSimpArgs false
set_option maxHeartbeats 8000000
attribute [local irreducible] pwp pops pdraw pop popCall pdCall thenP blockP scopeP pspec Spec answers ppost CallW
def mildB (l : List Cov) (s : List Snd) : Bool := allN l.length (fun k => decide ((covAt l k).closed.length ≤ 10)) && decide (l.length ≤ 17) && decide (s.length ≤ 70)
theorem lmild_spec (l : List Cov) (s : List Snd) (hl : l.length ≤ 9223372036854775807) : Spec Try.prog 32 [covL l, sndL s] (.v (.bool (mildB l s))) := by
  refine spec_of mixed Try.func32 (by decide) rfl Try.results32 Try.ntmps32 (by decide) 0 (by simp) ?_
  simp [covL, sndL]
  refine pwp_loop (fun k : Nat => [(5, .v (.int .i64 k))]) (fun k => k ≤ l.length ∧ ∀ j, j < k → (covAt l j).closed.length ≤ 10) (fun k => l.length - k) 0 ⟨Nat.zero_le _, fun j hj => by omega⟩ (by simp; rfl) (by simp) ?_
  intro k ⟨hk, hp⟩
  by_cases hkl : k < l.length
  · have wk := i64_wrap (show -9223372036854775808 ≤ (k : Int) + 1 ∧ _ from by omega)
    by_cases hc : (covAt l k).closed.length ≤ 10
    · simp [hkl, Cov.cells, spnL, show ¬ (10 : Int) < ((covAt l k).closed.length : Int) from by omega, show ((covAt l k).closed.length : Int) ≤ 10 from by omega]
      refine again_of (k + 1) ⟨by omega, fun j hj => ?_⟩ (by omega) ?_
      · rcases Nat.lt_or_eq_of_le (Nat.le_of_lt_succ hj) with h | rfl
        · exact hp j h
        · exact hc
      · simp [wk]
    · have hbad : allN l.length (fun k => decide ((covAt l k).closed.length ≤ 10)) = false := allN_false hkl (by simpa using hc)
      simp [hkl, Cov.cells, spnL, show (10 : Int) < ((covAt l k).closed.length : Int) from by omega, show ¬ ((covAt l k).closed.length : Int) ≤ 10 from by omega]
      refine answers_of rfl ?_; simp [mildB, hbad]
  · have h5 : allN l.length (fun k => decide ((covAt l k).closed.length ≤ 10)) = true := allN_spec.2 fun j hj => by simpa using hp j (by omega)
    obtain rfl : k = l.length := by omega
    simp
    by_cases g1 : l.length ≤ 17
    · by_cases g2 : s.length ≤ 70
      · simp [show (l.length : Int) ≤ 17 from by omega, show (s.length : Int) ≤ 70 from by omega]
        refine answers_of rfl ?_; simp [mildB, h5, g1, g2]
      · simp [show (l.length : Int) ≤ 17 from by omega, show ¬ (s.length : Int) ≤ 70 from by omega]
        refine answers_of rfl ?_; simp [mildB, h5, g1, g2]
    · simp [g1, show ¬ (l.length : Int) ≤ 17 from by omega]
      refine ⟨by omega, ?_⟩
      refine answers_of rfl ?_; simp [mildB, h5, g1]
def covedE (l : List Cov) (s : List Snd) (more : Nat) : Int := if 12 < l.length ∨ 60 < s.length + more then 3 else if (covesB l && visitsB l s) = true then 0 else 2
theorem lcoved_spec (l : List Cov) (s : List Snd) (more : Nat) (hm : more ≤ 1000) (hl : l.length ≤ 9223372036854775807) (hs : s.length ≤ 1000) (hc : ∀ k, k < l.length → (covAt l k).closed.length ≤ 9223372036854775807) : Spec Try.prog 34 [covL l, sndL s, .v (.int .i64 more)] (.v (.int .i64 (covedE l s more))) := by
  have w := i64_wrap (show -9223372036854775808 ≤ (s.length : Int) + more ∧ _ from by omega)
  refine spec_of mixed Try.func34 (by decide) rfl Try.results34 Try.ntmps34 (by decide) 0 (by simp) ?_
  simp [covL, sndL]
  by_cases g1 : 12 < l.length
  · simp [show (12 : Int) < (l.length : Int) from by omega, show ¬ (l.length : Int) ≤ 12 from by omega]
    refine answers_of rfl ?_; simp [covedE, g1]
  · by_cases g2 : 60 < s.length + more
    · simp [show ¬ (12 : Int) < (l.length : Int) from by omega, show (l.length : Int) ≤ 12 from by omega, w, show (60 : Int) < (s.length : Int) + more from by omega, show ¬ (s.length : Int) + more ≤ 60 from by omega]
      refine answers_of rfl ?_; simp [covedE, g2]
    · simp [show ¬ (12 : Int) < (l.length : Int) from by omega, show (l.length : Int) ≤ 12 from by omega, w, show ¬ (60 : Int) < (s.length : Int) + more from by omega, show (s.length : Int) + more ≤ 60 from by omega]
      refine pop_spec (rCoves_spec l hl hc) rfl false (.inl (by simp [covL])) (.inl rfl) rfl (by simp) ?_
      cases h1 : covesB l with
      | false =>
        simp
        refine answers_of rfl ?_; simp [covedE, g1, g2, h1]
      | true =>
        simp
        refine pop_spec (rSounds_spec l s hl (by omega)) rfl false (.inl (by simp [covL, sndL])) (.inl rfl) rfl (by simp) ?_
        cases h2 : visitsB l s with
        | false =>
          simp
          refine answers_of rfl ?_; simp [covedE, g1, g2, h1, h2]
        | true =>
          simp
          refine answers_of rfl ?_; simp [covedE, g1, g2, h1, h2]
theorem coved_quiet (l : List Cov) (s : List Snd) : covedE l s 0 = quietB l s := rfl
theorem coved_cases (l : List Cov) (s : List Snd) (more : Nat) : covedE l s more = 0 ∧ (l.length ≤ 12 ∧ s.length + more ≤ 60) ∧ covesB l = true ∧ visitsB l s = true ∨ covedE l s more = 2 ∨ covedE l s more = 3 := by
  unfold covedE
  by_cases g : 12 < l.length ∨ 60 < s.length + more
  · rw [if_pos g]; exact .inr (.inr rfl)
  · rw [if_neg g]
    cases h1 : covesB l <;> cases h2 : visitsB l s <;> simp <;> omega
theorem freeE_coved (l : List Cov) (s : List Snd) (cove : Int) (pt : Spn) : freeE l s cove pt = if covedE l s 1 = 0 ∧ (cove < 0 ∨ (l.length : Int) ≤ cove ∨ pt.low < 0 ∨ pt.high < pt.low ∨ 100000 < pt.high) then 2 else covedE l s 1 := by
  unfold freeE covedE
  by_cases g : 12 < l.length ∨ 60 < s.length + 1
  · rw [if_pos g, if_pos (by omega), if_neg (by omega)]
  · rw [if_neg g, if_neg (by omega)]
    have e1 : inB cove 0 ((l.length : Int) - 1) = true ↔ 0 ≤ cove ∧ cove < l.length := by rw [inB_spec]; omega
    have e2 := spanB_spec (s := pt) (lo := 0) (hi := 100000)
    cases h1 : covesB l <;> cases h2 : visitsB l s <;> simp
    by_cases c : cove < 0 ∨ (l.length : Int) ≤ cove ∨ pt.low < 0 ∨ pt.high < pt.low ∨ 100000 < pt.high
    · rw [if_neg, if_pos c]
      rintro ⟨a, b⟩
      rw [e1] at a; rw [e2] at b; omega
    · rw [if_pos, if_neg c]
      exact ⟨e1.2 (by omega), e2.2 (by omega)⟩
theorem CacheVisits_spec (l : List Cov) (s : List Snd) (cove : Int) (pt : Spn) (hl : l.length ≤ 9223372036854775807) (hs : s.length ≤ 9223372036854775807) (hc : ∀ k, k < l.length → (covAt l k).closed.length ≤ 9223372036854775807) :
    Spec Try.prog 7 [covL l, sndL s, .v (.int .i64 cove), .agg pt.cells] (.v (.bool true)) := by
  have hquiet := Quiet_spec l s hl hs hc
  have hfree := Free_spec l s cove pt hl hs hc
  have hfe := freeE_coved l s cove pt
  refine spec_of mixed Try.func7 (by decide) rfl Try.results7 Try.ntmps7 (by decide) 0 (by simp) ?_
  simp [covL, sndL, show pt.cells = [.v (.int .i64 pt.low), .v (.int .i64 pt.high)] from rfl]
  refine pop_spec (lmild_spec l s hl) rfl false (.inl (by simp [covL, sndL])) (.inl rfl) rfl (by simp) ?_
  cases g1 : mildB l s with
  | false =>
    simp
    refine pop_spec known_spec rfl false (.inl (by simp)) (.inl rfl) rfl (by simp) ?_
    simp
    refine answers_of rfl ?_; simp
  | true =>
    have hs70 : s.length ≤ 70 := by
      simp only [mildB, Bool.and_eq_true, decide_eq_true_eq] at g1; exact g1.2
    simp
    have hres : quietRes l s = .tup [.v (.int .i64 (if covedE l s 0 = 0 then firstK (mayAt l s) s.length else 0)), .v (.int .i64 (if covedE l s 0 = 0 then firstK (sureAt l s) s.length else 0)), .v (.int .i64 (covedE l s 0))] := by
      unfold quietRes
      rw [← coved_quiet]
      split
      · rename_i h; simp [h]
      · rename_i h; simp [h]
    rw [hres] at hquiet
    refine pop_spec hquiet rfl false (.inl (by simp [covL, sndL])) (.inl rfl) rfl (by simp) ?_
    simp
    refine pop_spec (lcoved_spec l s 0 (by omega) hl (by omega) hc) rfl false (.inl (by simp [covL, sndL])) (.inl rfl) rfl (by simp) ?_
    have hcases : covedE l s 0 = 0 ∧ CovesOk l s ∧ Days s ∧ s.length ≤ 60 ∨ covedE l s 0 = 2 ∨ covedE l s 0 = 3 := by
      rcases coved_cases l s 0 with ⟨h1, h2, h3, h4⟩ | h | h
      · exact .inl ⟨h1, CovesOk.of h3 h4 h2.1 (by omega), days_of h4, by omega⟩
      · exact .inr (.inl h)
      · exact .inr (.inr h)
    have hcases1 : covedE l s 1 = 0 ∧ (CovesOk l s ∧ Days s ∧ s.length ≤ 60) ∨ covedE l s 1 = 2 ∨ covedE l s 1 = 3 := by
      rcases coved_cases l s 1 with ⟨h1, h2, h3, h4⟩ | h | h
      · exact .inl ⟨h1, CovesOk.of h3 h4 h2.1 (by omega), days_of h4, by omega⟩
      · exact .inr (.inl h)
      · exact .inr (.inr h)
    have hcov1 := lcoved_spec l s 1 (by omega) hl (by omega) hc
    unfold freeRes at hfree
    apply joinG
    · intro hG
      have hcases' : covedE l s 0 = 0 ∧ CovesOk l s ∧ Days s ∧ s.length ≤ 60 ∨ ¬ covedE l s 0 = 0 := by
        rcases hcases with h | h | h
        · exact .inl h
        · exact .inr (by omega)
        · exact .inr (by omega)
      rcases hcases' with ⟨h0, hok, hdays, hn60⟩ | h0
      case' inl =>
        simp [h0]
        refine pop_spec (rQuiet_spec l s hok) rfl false (.inl (by simp [covL, sndL])) (.inl rfl) rfl (by simp) ?_
        simp
      case' inr => simp [h0]
      all_goals
        by_cases c0 : 20 < s.length ∧ s.length < 60
        · simp [show (20 : Int) < (s.length : Int) from by omega, show ¬ (s.length : Int) ≤ 20 from by omega, show (s.length : Int) < 60 from by omega]
          refine pop_spec known_spec rfl false (.inl (by simp)) (.inl rfl) rfl (by simp) ?_
          simp
          refine answers_of rfl ?_; simp
        have c0' : ¬ (20 < s.length) ∨ 20 < s.length ∧ ¬ s.length < 60 := by omega
        rcases c0' with c1 | ⟨c1, c2⟩
        case' inl => simp [show ¬ (20 : Int) < (s.length : Int) from by omega, show (s.length : Int) ≤ 20 from by omega]
        case' inr => simp [show (20 : Int) < (s.length : Int) from by omega, show ¬ (s.length : Int) ≤ 20 from by omega, show ¬ (s.length : Int) < 60 from by omega]
        all_goals
          refine pop_specF [(9, .undef), (10, .undef), (11, .undef), (12, .undef), (13, .undef), (14, .undef), (23, .undef), (24, .undef), (25, .undef), (26, .undef), (27, .undef), (28, .undef), (29, .undef), (30, .undef), (31, .undef), (32, .undef), (33, .undef), (34, .undef), (35, .undef), (36, .undef), (37, .undef), (38, .undef), (39, .undef), (40, .undef), (41, .undef), (42, .undef), (43, .undef), (44, .undef), (45, .undef), (46, .undef), (47, .undef), (48, .undef), (49, .undef), (50, .undef), (51, .undef), (52, .undef), (53, .undef), (54, .undef), (55, .undef), (56, .undef), (57, .undef), (58, .undef), (59, .undef), (60, .undef), (61, .undef), (62, .undef), (63, .undef), (64, .undef), (65, .undef), (66, .undef), (67, .undef), (68, .undef), (69, .undef), (70, .undef), (71, .undef)] (by simp) hfree rfl false (.inl (by simp [covL, sndL, Spn.cells])) (.inl rfl) rfl (by simp [spnL]) ?_
          simp [spnL]
          exact hG.h
    · rcases hcases1 with ⟨k0, hok, hdays, hn60⟩ | hk
      · have hsplit : cove < 0 ∨ (0 ≤ cove ∧ (l.length : Int) ≤ cove) ∨ (0 ≤ cove ∧ cove < l.length ∧ pt.low < 0) ∨ (0 ≤ cove ∧ cove < l.length ∧ 0 ≤ pt.low ∧ pt.high < pt.low) ∨ (0 ≤ cove ∧ cove < l.length ∧ 0 ≤ pt.low ∧ pt.low ≤ pt.high ∧ 100000 < pt.high) ∨ (0 ≤ cove ∧ cove < l.length ∧ 0 ≤ pt.low ∧ pt.low ≤ pt.high ∧ pt.high ≤ 100000) := by omega
        refine pop_spec hcov1 rfl false (.inl (by simp [covL, sndL])) (.inl rfl) rfl (by simp) ?_
        rcases hsplit with d | ⟨d0, d⟩ | ⟨d0, d1, d⟩ | ⟨d0, d1, d2, d⟩ | ⟨d0, d1, d2, d3, d⟩ | ⟨d0, d1, d2, d3, d⟩
        case' inr.inr.inr.inr.inr =>
          rw [if_neg (by omega), k0] at hfe
          have hrf := rFree_spec l s cove pt hok hdays hn60 (by omega) (by omega)
          simp [k0, hfe, d0, Int.not_lt.2 d0, d1, Int.not_le.2 d1, d2, Int.not_lt.2 d2, d3, Int.not_lt.2 d3, d, Int.not_lt.2 d]
          refine pop_spec hrf rfl false (.inl (by simp [covL, sndL, Spn.cells])) (.inl rfl) rfl (by simp [spnL]) ?_
          simp [spnL]
          have hsl := spansTo_length (freeP l s cove pt) 401
          refine pop_spec (SameSpans_spec (spansTo (freeP l s cove pt) 401) (spansTo (freeP l s cove pt) 401) (by omega) (by omega)) rfl false (.inl (by simp [spnL])) (.inl rfl) rfl (by simp) ?_
          simp
          refine pop_spec known_spec rfl false (.inl (by simp)) (.inl rfl) rfl (by simp) ?_
          simp
          refine answers_of rfl ?_; simp
        all_goals
          rw [if_pos (by omega)] at hfe
        case' inl => simp [k0, hfe, d, Int.not_le.2 d]
        case' inr.inl => simp [k0, hfe, d0, Int.not_lt.2 d0, d, Int.not_lt.2 d]
        case' inr.inr.inl => simp [k0, hfe, d0, Int.not_lt.2 d0, d1, Int.not_le.2 d1, d, Int.not_le.2 d]
        case' inr.inr.inr.inl => simp [k0, hfe, d0, Int.not_lt.2 d0, d1, Int.not_le.2 d1, d2, Int.not_lt.2 d2, d, Int.not_le.2 d]
        case' inr.inr.inr.inr.inl => simp [k0, hfe, d0, Int.not_lt.2 d0, d1, Int.not_le.2 d1, d2, Int.not_lt.2 d2, d3, Int.not_lt.2 d3, d, Int.not_le.2 d]
        all_goals
          refine pop_spec known_spec rfl false (.inl (by simp)) (.inl rfl) rfl (by simp) ?_
          simp
          refine answers_of rfl ?_; simp
      · have k0 : ¬ covedE l s 1 = 0 := by rcases hk with h | h <;> omega
        rw [if_neg (fun h => k0 h.1)] at hfe
        refine pop_spec hcov1 rfl false (.inl (by simp [covL, sndL])) (.inl rfl) rfl (by simp) ?_
        simp [k0, hfe]
        refine pop_spec known_spec rfl false (.inl (by simp)) (.inl rfl) rfl (by simp) ?_
        simp
        refine answers_of rfl ?_; simp
end Go.Qg

namespace Go.Proofs.Ythfdpekgbdjniaa.lawCacheVisits
open Go.Qg Go.ChangeAt Go.RowKit
set_option maxRecDepth 100000
theorem spec (args : List PV) (hl : Try.f7.params.toList.length = args.length) (h : ∀ (j : Nat) t p, Try.f7.params.toList[j]? = some t → args[j]? = some p → ArgP Try.prog 6 t p) : Qg.Spec Try.prog 7 args (.v (.bool true)) := by
  rw [Try.params7] at hl h
  match args, hl with
  | [a0, a1, a2, a3], _ =>
    obtain ⟨l, rfl, llen, lfit⟩ := a_covs (h 0 _ a0 rfl rfl)
    obtain ⟨s, rfl, slen, _⟩ := a_snds (h 1 _ a1 rfl rfl)
    obtain ⟨cove, rfl, coveok⟩ := a_int (h 2 _ a2 rfl rfl)
    obtain ⟨pt, rfl, _⟩ := a_spn (h 3 _ a3 rfl rfl)
    exact CacheVisits_spec l s cove pt llen slen lfit
theorem lifted (os : Os) (started : os.Started) (H : Type) (enc : TypeId × Value → H) :
    ReturnsInHanded {} Try.checked os 7 .any (Rows.cacheVisitsSpec.pre6 enc Try.prog Try.f7 Rows.cacheVisitsRow.domain false) (Rows.cacheVisitsSpec.post enc Try.prog Try.f7 false true false false) := by
  refine law_lifted (C := Try.checked) 6 (tb := 4) ownKnob_ started (by kernel_rfl) Try.func7
    (ChangeSpec.witness6 (enc := enc) (C := Try.checked) false ⟨#[], #[.slice none 0 0, .slice none 0 0, .int .i64 0, .agg #[.int .i64 0, .int .i64 0]], []⟩ 8 (by kernel_rfl) (by kernel_rfl) (by kernel_rfl) (by kernel_rfl)) laidOut_ rfl (by kernel_rfl) (by kernel_rfl) Try.underlying4 ?_ spec
  intro ds hds
  match ds, hds with
  | [_, _, _, _], _ => exact ⟨rfl, rfl, rfl⟩
theorem CacheVisits_holds : Rows.CacheVisitsSaid :=
  OpenClaim.holds_of_wide 7 Try.f7 rfl rfl rfl rfl rfl rfl rfl ⟨rfl, rfl, rfl, rfl, rfl⟩ rfl rfl rfl rfl rfl (by kernel_rfl) Try.func7 (by kernel_rfl)
    (of_decide_eq_true (by kernel_rfl)) (by unfold Func.isWrapper; first | (rw [if_pos (by decide +kernel)]; kernel_rfl) | (rw [if_neg (by decide +kernel)]; exact ⟨rfl, rfl⟩))
    (fun os started H enc _ => lifted os started H enc)
end Go.Proofs.Ythfdpekgbdjniaa.lawCacheVisits
