/-
  CacheTrue: for all coves, visits, percentages and a visit more the law returns true, and leaves its arguments as they were.
  No condition.
-/
import Derived.Test.YthfdpekgbdjniaaZ7
set_option linter.all false

namespace Go.Qg
open Go.Proofs
set_option maxRecDepth 100000
set_option maxHeartbeats 4000000
attribute [local irreducible] pwp pops pdraw pop popCall pdCall thenP blockP scopeP pspec Spec answers ppost CallW
theorem rin_spec (n lo hi : Int) : Spec Try.prog 58 [.v (.int .i64 n), .v (.int .i64 lo), .v (.int .i64 hi)] (.v (.bool (inB n lo hi))) := by
  refine spec_of mixed Try.func58 (by decide) rfl Try.results58 Try.ntmps58 (by decide) 0 (by simp) ?_
  by_cases h1 : lo ≤ n
  · by_cases h2 : n ≤ hi <;> (simp [h1, h2]; refine answers_of rfl ?_; simp [inB, h1, h2])
  · simp [h1]; refine answers_of rfl ?_; simp [inB, h1]
theorem rspan_spec (s : Spn) (m : Int) : Spec Try.prog 66 [.agg s.cells, .v (.int .i64 m)] (.v (.bool (spanB s 0 m))) := by
  refine spec_of mixed Try.func66 (by decide) rfl Try.results66 Try.ntmps66 (by decide) 0 (by simp) ?_
  simp [Spn.cells]
  by_cases h1 : 0 ≤ s.low
  · by_cases h2 : s.low ≤ s.high
    · by_cases h3 : s.high ≤ m <;> (simp [h1, h2, h3]; refine answers_of rfl ?_; simp [spanB, h1, h2, h3])
    · simp [h1, h2, Int.not_le.1 h2]
      refine answers_of rfl ?_; simp [spanB, h1, h2]
  · simp [h1, Int.not_le.1 h1]; refine answers_of rfl ?_; simp [spanB, h1]
theorem rDay_spec (n : Int) : Spec Try.prog 15 [.v (.int .i64 n)] (.v (.bool (inB n 0 400))) := by
  refine spec_of mixed Try.func15 (by decide) rfl Try.results15 Try.ntmps15 (by decide) 0 (by simp) ?_
  simp
  refine pop_spec (rin_spec n 0 400) rfl false (.inl (by simp)) (.inl rfl) rfl (by simp) ?_
  simp
  refine answers_of rfl ?_; simp
end Go.Qg


namespace Go.Qg
open Go.Proofs
set_option maxRecDepth 100000
set_option maxHeartbeats 4000000
attribute [local irreducible] pwp pops pdraw pop popCall pdCall thenP blockP scopeP pspec Spec answers ppost CallW
theorem rCoves_spec (l : List Cov) (hl : l.length ≤ 9223372036854775807) (hc : ∀ k, k < l.length → (covAt l k).closed.length ≤ 9223372036854775807) : Spec Try.prog 85 [covL l] (.v (.bool (covesB l))) := by
  refine spec_of mixed Try.func85 (by decide) rfl Try.results85 Try.ntmps85 (by decide) 0 (by simp) ?_
  simp [covL]
  refine pwp_loop (fun k : Nat => [(3, .v (.int .i64 k))]) (fun k => k ≤ l.length ∧ ∀ j, j < k → covB (covAt l j) = true) (fun k => l.length - k) 0 ⟨Nat.zero_le _, fun j hj => by omega⟩ (by simp; rfl) (by simp) ?_
  intro k ⟨hk, hp⟩
  by_cases hkl : k < l.length
  · have wk := i64_wrap (show -9223372036854775808 ≤ (k : Int) + 1 ∧ _ from by omega)
    have bad : covB (covAt l k) = false → covesB l = false := fun hb => allN_false hkl hb
    have hck := hc k hkl
    have good : covB (covAt l k) = true → ∀ j, j < k + 1 → covB (covAt l j) = true := fun h j hj => by
      rcases Nat.lt_or_eq_of_le (Nat.le_of_lt_succ hj) with h' | rfl
      · exact hp j h'
      · exact h
    simp [hkl, Cov.cells, spnL]
    generalize covAt l k = c at bad hck good ⊢
    by_cases h : c.closed.length ≤ 6
    · simp [show ¬ (6 : Int) < c.closed.length from by omega, show (c.closed.length : Int) ≤ 6 from by omega]
      refine pop_spec (rin_spec c.window 1 400) rfl false (.inl (by simp)) (.inl rfl) rfl (by simp) ?_
      cases h2 : inB c.window 1 400 with
      | false => simp; refine answers_of rfl ?_; simp [bad (by simp [covB, h2])]
      | true =>
        simp
        refine pop_spec (rin_spec c.noise 0 100000) rfl false (.inl (by simp)) (.inl rfl) rfl (by simp) ?_
        cases h3 : inB c.noise 0 100000 with
        | false => simp; refine answers_of rfl ?_; simp [bad (by simp [covB, h3])]
        | true =>
          simp
          refine pop_spec (rin_spec c.visits 0 60) rfl false (.inl (by simp)) (.inl rfl) rfl (by simp) ?_
          cases h4 : inB c.visits 0 60 with
          | false => simp; refine answers_of rfl ?_; simp [bad (by simp [covB, h4])]
          | true =>
            simp
            refine pwp_loop (fun j : Nat => [(5, .v (.int .i64 j))]) (fun j => j ≤ c.closed.length ∧ ∀ i, i < j → spanB (spnAt c.closed i) 0 400 = true) (fun j => c.closed.length - j) 0 ⟨Nat.zero_le _, fun j hj => by omega⟩ (by simp; rfl) (by simp) ?_
            intro j ⟨hj, hq⟩
            by_cases hjl : j < c.closed.length
            · have wj := i64_wrap (show -9223372036854775808 ≤ (j : Int) + 1 ∧ _ from by omega)
              simp [hjl, Spn.cells]
              refine pop_spec (rspan_spec (spnAt c.closed j) 400) rfl false (.inl (by simp [Spn.cells])) (.inl rfl) rfl (by simp) ?_
              cases h5 : spanB (spnAt c.closed j) 0 400 with
              | false =>
                simp
                have : allN c.closed.length (fun k => spanB (spnAt c.closed k) 0 400) = false := allN_false hjl h5
                refine answers_of rfl ?_; simp [bad (by simp [covB, this])]
              | true =>
                simp
                refine again_of (j + 1) ⟨by omega, fun i hi => ?_⟩ (by omega) ?_
                · rcases Nat.lt_or_eq_of_le (Nat.le_of_lt_succ hi) with h' | rfl
                  · exact hq i h'
                  · exact h5
                · simp [wj]
            · obtain rfl : j = c.closed.length := by omega
              have h5 : allN c.closed.length (fun k => spanB (spnAt c.closed k) 0 400) = true := allN_spec.2 hq
              simp
              refine again_of (k + 1) ⟨by omega, good (by simp [covB, h, h2, h3, h4, h5])⟩ (by omega) ?_
              simp [wk]
    · simp [show (6 : Int) < c.closed.length from by omega, show ¬ (c.closed.length : Int) ≤ 6 from by omega]
      refine answers_of rfl ?_; simp [bad (by simp [covB, h])]
  · have h5 : covesB l = true := allN_spec.2 fun j hj => hp j (by omega)
    obtain rfl : k = l.length := by omega
    simp
    refine answers_of rfl ?_; simp [h5]
theorem rSounds_spec (l : List Cov) (s : List Snd) (hl : l.length ≤ 9223372036854775807) (hs : s.length ≤ 9223372036854775807) : Spec Try.prog 86 [covL l, sndL s] (.v (.bool (visitsB l s))) := by
  have w1 : IntKind.i64.wrap ((l.length : Int) - 1) = (l.length : Int) - 1 := i64_wrap (by omega)
  refine spec_of mixed Try.func86 (by decide) rfl Try.results86 Try.ntmps86 (by decide) 0 (by simp) ?_
  simp [covL, sndL]
  refine pwp_loop (fun k : Nat => [(5, .v (.int .i64 k))]) (fun k => k ≤ s.length ∧ ∀ j, j < k → visB l s j = true) (fun k => s.length - k) 0 ⟨Nat.zero_le _, fun j hj => by omega⟩ (by simp; rfl) (by simp) ?_
  intro k ⟨hk, hp⟩
  by_cases hkl : k < s.length
  · have wk := i64_wrap (show -9223372036854775808 ≤ (k : Int) + 1 ∧ _ from by omega)
    have bad : visB l s k = false → visitsB l s = false := fun hb => by simp [visitsB, allN_false hkl hb]
    simp [hkl, Snd.cells]
    refine pwp_draw 34 (by decide) ?_
    simp
    refine pd_spec (rDay_spec (sndAt s k).day) rfl (by simp) (by simp) rfl ?_
    cases q1 : inB (sndAt s k).day 0 400 with
    | false =>
      simp
      refine ⟨by decide, ?_⟩
      refine answers_of rfl ?_; simp [bad (by simp [visB, q1])]
    | true =>
      simp [w1]
      refine pd_spec (rin_spec (sndAt s k).cove 0 ((l.length : Int) - 1)) rfl (by simp) (by simp) rfl ?_
      cases q2 : inB (sndAt s k).cove 0 ((l.length : Int) - 1) with
      | false =>
        simp
        refine ⟨by decide, ?_⟩
        refine answers_of rfl ?_; simp [bad (by simp [visB, q2])]
      | true =>
        simp
        refine pd_spec (rspan_spec ⟨(sndAt s k).low, (sndAt s k).high⟩ 100000) (by simp [Spn.cells]) (by simp) (by simp [Spn.cells]) rfl ?_
        cases q3 : spanB ⟨(sndAt s k).low, (sndAt s k).high⟩ 0 100000 with
        | false =>
          simp
          refine ⟨by decide, ?_⟩
          refine answers_of rfl ?_; simp [bad (by simp [visB, q3])]
        | true =>
          by_cases h0 : k = 0
          · subst h0
            simp
            refine ⟨by decide, ?_⟩
            refine again_of 1 ⟨by omega, fun j hj => ?_⟩ (by omega) ?_
            · obtain rfl : j = 0 := by omega
              simp [visB, q1, q2, q3]
            · simp [wk]
          · have e1 : IntKind.i64.wrap ((k : Int) - 1) = ((k - 1 : Nat) : Int) := by rw [i64_wrap (by omega)]; omega
            by_cases q4 : (sndAt s (k - 1)).day ≤ (sndAt s k).day
            · simp [h0, e1, show k - 1 < s.length from by omega, q4, Int.not_lt.2 q4, show 0 < k from by omega, Snd.cells]
              refine ⟨by decide, ?_⟩
              refine again_of (k + 1) ⟨by omega, fun j hj => ?_⟩ (by omega) ?_
              · rcases Nat.lt_or_eq_of_le (Nat.le_of_lt_succ hj) with h | rfl
                · exact hp j h
                · simp [visB, q1, q2, q3, q4]
              · simp [wk]
            · simp [h0, e1, show k - 1 < s.length from by omega, q4, Int.not_le.1 q4, show 0 < k from by omega, Snd.cells]
              refine ⟨by decide, ?_⟩
              refine answers_of rfl ?_; simp [bad (by simp [visB, q4, h0])]
  · have h5 : allN s.length (visB l s) = true := allN_spec.2 fun j hj => hp j (by omega)
    obtain rfl : k = s.length := by omega
    simp
    refine answers_of rfl ?_; simp [visitsB, h5]
end Go.Qg


namespace Go.Qg
open Go.Proofs
set_option maxRecDepth 100000
set_option maxHeartbeats 4000000
attribute [local irreducible] pwp pops pdraw pop popCall pdCall thenP blockP scopeP pspec Spec answers ppost CallW
def lowS (l : List Snd) : Int := lowTo l l.length
def highS (l : List Snd) : Int := highTo l l.length
theorem sndAt_left {l : List Snd} {y : Snd} {k : Nat} (h : k < l.length) : sndAt (l ++ [y]) k = sndAt l k := by simp [sndAt, List.getElem?_append_left h]
theorem lowTo_left (l : List Snd) (y : Snd) : ∀ k, k ≤ l.length → lowTo (l ++ [y]) k = lowTo l k ∧ highTo (l ++ [y]) k = highTo l k
  | 0, _ => ⟨rfl, rfl⟩
  | k + 1, hk => by
    obtain ⟨h1, h2⟩ := lowTo_left l y k (by omega)
    simp only [lowTo, highTo, h1, h2, sndAt_left (show k < l.length by omega), and_self]
theorem lowS_snoc (l : List Snd) (y : Snd) : lowS (l ++ [y]) = lowS l + y.low ∧ highS (l ++ [y]) = highS l + y.high := by
  obtain ⟨h1, h2⟩ := lowTo_left l y l.length (Nat.le_refl _)
  have e : sndAt (l ++ [y]) l.length = y := by simp [sndAt]
  simp only [lowS, highS, List.length_append, List.length_singleton, lowTo, highTo, h1, h2, e, and_self]
def winA (c : Cov) (x : Snd) (s : List Snd) : List Snd := s.filter fun y => decide (y.cove = x.cove) && decide (x.day - c.window < y.day)
theorem winA_eq (c : Cov) (x : Snd) (s : List Snd) : winA c x s = winL c (ofCove s x.cove) x.day := by
  simp only [winA, winL, ofCove, List.filter_filter, Bool.and_comm]
theorem winA_snoc (c : Cov) (x : Snd) {s : List Snd} {k : Nat} (h : k < s.length) : winA c x (s.take (k + 1)) = if (sndAt s k).cove = x.cove ∧ x.day - c.window < (sndAt s k).day then winA c x (s.take k) ++ [sndAt s k] else winA c x (s.take k) := by
  rw [snocTake h]
  simp only [winA, List.filter_append]
  by_cases h1 : (sndAt s k).cove = x.cove <;> by_cases h2 : x.day - c.window < (sndAt s k).day <;> simp [h1, h2]
theorem lastS_snoc (l : List Snd) (y : Snd) : lastS (l ++ [y]) = y := by simp [lastS, sndAt]
theorem last_cove {s : List Snd} {i : Nat} (h : i < s.length) : lastS (ofCove (s.take (i + 1)) (sndAt s i).cove) = sndAt s i := by
  rw [snocTake h, ofCove_snoc, if_pos rfl, lastS_snoc]
theorem anyN_succ (n : Nat) (p : Nat → Bool) : anyN (n + 1) p = (anyN n p || p n) := by
  rw [Bool.eq_iff_iff, Bool.or_eq_true, anyN_iff, anyN_iff]
  constructor
  · rintro ⟨k, hk, h⟩
    rcases Nat.lt_or_eq_of_le (Nat.le_of_lt_succ hk) with h' | rfl
    · exact .inl ⟨k, h', h⟩
    · exact .inr h
  · rintro (⟨k, hk, h⟩ | h)
    · exact ⟨k, by omega, h⟩
    · exact ⟨n, by omega, h⟩
structure CovesOk (l : List Cov) (s : List Snd) : Prop where
  ok : SndsOk s
  nl : l.length ≤ 12
  cove : ∀ k, k < s.length → 0 ≤ (sndAt s k).cove ∧ (sndAt s k).cove.toNat < l.length
  each : ∀ k, k < l.length → (covAt l k).closed.length ≤ 6 ∧ (1 ≤ (covAt l k).window ∧ (covAt l k).window ≤ 400) ∧ (0 ≤ (covAt l k).noise ∧ (covAt l k).noise ≤ 100000) ∧ 0 ≤ (covAt l k).visits ∧ (covAt l k).visits ≤ 60
theorem CovesOk.of {l : List Cov} {s : List Snd} (h1 : covesB l = true) (h2 : visitsB l s = true) (hl : l.length ≤ 12) (hs : s.length ≤ 60) : CovesOk l s := by
  obtain ⟨a, b⟩ := visits_ok h2 hs
  exact ⟨a, hl, b, coves_ok h1⟩
end Go.Qg


namespace Go.Qg
set_option maxRecDepth 100000
theorem pre_filter {α : Type} (q : α → Bool) (L : List α) (i : Nat) (h : i < L.length) (hq : q L[i] = true) : (L.take (i + 1)).filter q = (L.filter q).take (((L.take i).filter q).length + 1) ∧ ((L.take i).filter q).length < (L.filter q).length := by
  have e : L = L.take i ++ L[i] :: L.drop (i + 1) := by
    rw [← List.drop_eq_getElem_cons h, List.take_append_drop]
  have e1 : L.filter q = (L.take i).filter q ++ L[i] :: (L.drop (i + 1)).filter q := by
    conv => lhs; rw [e]
    rw [List.filter_append, List.filter_cons, if_pos hq]
  have e2 : L.take (i + 1) = L.take i ++ [L[i]] := by rw [List.take_add_one]; simp [h]
  rw [e2, List.filter_append, e1]
  refine ⟨?_, by simp⟩
  rw [List.take_append]
  simp [hq]
  exact (List.take_of_length_le (by omega)).symm
theorem of_filter {α : Type} (q : α → Bool) : ∀ (L : List α) (k : Nat), k < (L.filter q).length → ∃ i, ∃ h : i < L.length, q L[i] = true ∧ ((L.take i).filter q).length = k
  | [], k, h => by simp at h
  | x :: L, k, h => by
    by_cases hx : q x = true
    · cases k with
      | zero => exact ⟨0, by simp, hx, rfl⟩
      | succ k =>
        rw [List.filter_cons, if_pos hx] at h
        obtain ⟨i, h1, h2, h3⟩ := of_filter q L k (by simpa using h)
        exact ⟨i + 1, by simpa using h1, by simpa using h2, by rw [List.take_succ_cons, List.filter_cons, if_pos hx]; simp [h3]⟩
    · rw [List.filter_cons, if_neg hx] at h
      obtain ⟨i, h1, h2, h3⟩ := of_filter q L k h
      exact ⟨i + 1, by simpa using h1, by simpa using h2, by rw [List.take_succ_cons, List.filter_cons, if_neg hx]; exact h3⟩
def Days (s : List Snd) : Prop := s.Pairwise fun a b => a.day ≤ b.day
theorem atTo_spec (l : List Snd) (day : Int) : ∀ k, k ≤ l.length → (∀ j, j < atTo l day k → (sndAt l j).day ≤ day) ∧ (atTo l day k < k → ¬ (sndAt l (atTo l day k)).day ≤ day)
  | 0, _ => ⟨fun j h => by simp [atTo] at h, fun h => by simp [atTo] at h⟩
  | k + 1, hk => by
    obtain ⟨h1, h2⟩ := atTo_spec l day k (by omega)
    have h3 := atTo_le l day k
    by_cases hc : atTo l day k = k ∧ (sndAt l k).day ≤ day
    · have e : atTo l day (k + 1) = k + 1 := if_pos hc
      rw [e]
      refine ⟨fun j hj => ?_, fun h => by omega⟩
      rcases Nat.lt_or_eq_of_le (Nat.le_of_lt_succ hj) with h | rfl
      · exact h1 j (by omega)
      · exact hc.2
    · have e : atTo l day (k + 1) = atTo l day k := if_neg hc
      rw [e]
      refine ⟨h1, fun _ => ?_⟩
      by_cases he : atTo l day k = k
      · rw [he]; exact fun hd => hc ⟨he, hd⟩
      · exact h2 (by omega)
theorem atL_le (l : List Snd) (day : Int) : atL l day ≤ l.length := atTo_le ..
theorem at_split {s : List Snd} (h : Days s) (d : Int) : s.take (atL s d) = s.filter (fun y => decide (y.day ≤ d)) ∧ s.drop (atL s d) = s.filter fun y => !decide (y.day ≤ d) := by
  obtain ⟨h1, h2⟩ := atTo_spec s d s.length (Nat.le_refl _)
  have hle := atL_le s d
  change (∀ j, j < atL s d → _) at h1
  change atL s d < _ → ¬ (sndAt s (atL s d)).day ≤ d at h2
  generalize atL s d = k at h1 h2 hle
  have a1 : ∀ y ∈ s.take k, y.day ≤ d := fun y hy => by
    obtain ⟨j, hj, rfl⟩ := List.getElem_of_mem hy
    have hj2 : j < k ∧ j < s.length := by rw [List.length_take] at hj; omega
    have := h1 j hj2.1
    simpa [sndAt, hj2.2] using this
  have a2 : ∀ y ∈ s.drop k, ¬ y.day ≤ d := fun y hy => by
    have hk : k < s.length := by
      rcases Nat.lt_or_ge k s.length with h | h
      · exact h
      · rw [List.drop_eq_nil_of_le h] at hy; cases hy
    have h3 := h2 hk
    have e : s.drop k = s[k] :: s.drop (k + 1) := List.drop_eq_getElem_cons hk
    have hp : (s.drop k).Pairwise fun a b => a.day ≤ b.day := h.sublist (List.drop_sublist _ _)
    rw [e] at hp hy
    have h4 : (sndAt s k) = s[k] := by simp [sndAt, hk]
    rw [h4] at h3
    rcases List.mem_cons.1 hy with rfl | h5
    · exact h3
    · have := (List.pairwise_cons.1 hp).1 y h5
      omega
  have e := List.take_append_drop k s
  have f1 : (s.take k).filter (fun y => decide (y.day ≤ d)) = s.take k := List.filter_eq_self.2 fun y hy => by simp [a1 y hy]
  have f2 : (s.drop k).filter (fun y => decide (y.day ≤ d)) = [] := List.filter_eq_nil_iff.2 fun y hy => by simp; have := a2 y hy; omega
  have f3 : (s.take k).filter (fun y => !decide (y.day ≤ d)) = [] := List.filter_eq_nil_iff.2 fun y hy => by simp [a1 y hy]
  have f4 : (s.drop k).filter (fun y => !decide (y.day ≤ d)) = s.drop k := List.filter_eq_self.2 fun y hy => by simp; have := a2 y hy; omega
  constructor
  · conv => rhs; rw [← e]
    rw [List.filter_append, f1, f2, List.append_nil]
  · conv => rhs; rw [← e]
    rw [List.filter_append, f3, f4, List.nil_append]
theorem Days.cove {s : List Snd} (h : Days s) (c : Int) : Days (ofCove s c) := h.sublist List.filter_sublist
def moreL (s : List Snd) (x : Snd) : List Snd := insL s (atL s x.day) x
theorem moreL_length (s : List Snd) (x : Snd) : (moreL s x).length = s.length + 1 := insL_length _ _ _ (atL_le ..)
theorem more_cove {s : List Snd} (h : Days s) (x : Snd) : ofCove (moreL s x) x.cove = moreL (ofCove s x.cove) x ∧ ofCove (s.take (atL s x.day)) x.cove = (ofCove s x.cove).take (atL (ofCove s x.cove) x.day) := by
  obtain ⟨a1, a2⟩ := at_split h x.day
  obtain ⟨b1, b2⟩ := at_split (h.cove x.cove) x.day
  have c1 : ofCove (s.take (atL s x.day)) x.cove = (ofCove s x.cove).take (atL (ofCove s x.cove) x.day) := by
    rw [b1, a1]; simp only [ofCove, List.filter_filter]; congr 1; funext y; exact Bool.and_comm _ _
  have c2 : ofCove (s.drop (atL s x.day)) x.cove = (ofCove s x.cove).drop (atL (ofCove s x.cove) x.day) := by
    rw [b2, a2]; simp only [ofCove, List.filter_filter]; congr 1; funext y; exact Bool.and_comm _ _
  refine ⟨?_, c1⟩
  unfold moreL insL
  rw [← c1, ← c2]
  simp [ofCove, List.filter_append]
def fitsB (l : List Cov) (s : List Snd) (x : Snd) : Bool := allN (s.length + 1) fun i => decide (i < atL s x.day) || !(mayAt l (moreL s x) i && decide ((sndAt (moreL s x) i).cove = x.cove))
theorem fits_eq (l : List Cov) {s : List Snd} (h : Days s) (x : Snd) : fitsB l s x = freeB (covAt l x.cove.toNat) (ofCove s x.cove) x := by
  obtain ⟨m1, m2⟩ := more_cove h x
  have hlen := moreL_length s x
  have hlen2 := moreL_length (ofCove s x.cove) x
  have hat := atL_le s x.day
  have hat2 := atL_le (ofCove s x.cove) x.day
  have hT : (moreL s x).take (atL s x.day) = s.take (atL s x.day) := by
    unfold moreL insL
    rw [List.append_assoc, List.take_append_of_le_length (by rw [List.length_take]; omega), List.take_take, Nat.min_self]
  have hcnt : ((moreL s x).take (atL s x.day)).filter (fun y => decide (y.cove = x.cove)) = (ofCove s x.cove).take (atL (ofCove s x.cove) x.day) := by rw [hT]; exact m2
  have hcl : (((moreL s x).take (atL s x.day)).filter (fun y => decide (y.cove = x.cove))).length = atL (ofCove s x.cove) x.day := by rw [hcnt]; simp; omega
  have mono : ∀ i k, i ≤ k → (((moreL s x).take i).filter (fun y => decide (y.cove = x.cove))).length ≤ (((moreL s x).take k).filter (fun y => decide (y.cove = x.cove))).length := fun i k hik => by
    have : (moreL s x).take i = ((moreL s x).take k).take i := by rw [List.take_take, Nat.min_eq_left hik]
    rw [this]
    exact ((List.take_sublist i _).filter _).length_le
  have hm1 : (moreL s x).filter (fun y => decide (y.cove = x.cove)) = moreL (ofCove s x.cove) x := m1
  have hfree : freeB (covAt l x.cove.toNat) (ofCove s x.cove) x = allN ((ofCove s x.cove).length + 1) fun k => decide (k < atL (ofCove s x.cove) x.day) || !mayB (covAt l x.cove.toNat) ((moreL (ofCove s x.cove) x).take (k + 1)) := rfl
  rw [hfree]
  unfold fitsB
  generalize moreL s x = L at *
  generalize moreL (ofCove s x.cove) x = M at *
  generalize atL s x.day = a at *
  generalize atL (ofCove s x.cove) x.day = a' at *
  have key : ∀ i (hi : i < L.length), (sndAt L i).cove = x.cove → mayAt l L i = mayB (covAt l x.cove.toNat) (M.take (((L.take i).filter (fun y => decide (y.cove = x.cove))).length + 1)) ∧ ((L.take i).filter (fun y => decide (y.cove = x.cove))).length < M.length := fun i hi hc => by
    have hq : decide ((L[i]'hi).cove = x.cove) = true := by simpa [sndAt, hi] using hc
    obtain ⟨p1, p2⟩ := pre_filter (fun y : Snd => decide (y.cove = x.cove)) L i hi hq
    rw [hm1] at p1 p2
    refine ⟨?_, p2⟩
    unfold mayAt
    rw [hc]
    show mayB _ ((L.take (i + 1)).filter _) = _
    rw [p1]
  rw [Bool.eq_iff_iff, allN_spec, allN_spec]
  constructor
  · intro hall k hk
    by_cases hka : k < a'
    · simp [hka]
    · obtain ⟨i, hi, hq, hik⟩ := of_filter (fun y : Snd => decide (y.cove = x.cove)) L k (by rw [hm1, hlen2]; exact hk)
      have hc : (sndAt L i).cove = x.cove := by simpa [sndAt, hi] using hq
      obtain ⟨k1, _⟩ := key i hi hc
      rw [hik] at k1
      have hia : ¬ i < a := fun h => by
        have := mono (i + 1) a h
        rw [hcl] at this
        have h2 := (pre_filter (fun y : Snd => decide (y.cove = x.cove)) L i hi hq).1
        have h3 := (pre_filter (fun y : Snd => decide (y.cove = x.cove)) L i hi hq).2
        rw [h2, hik, List.length_take] at this
        rw [hik] at h3
        omega
      have := hall i (by omega)
      simpa [hia, hc, hka, k1] using this
  · intro hall i hi
    by_cases hia : i < a
    · simp [hia]
    · by_cases hc : (sndAt L i).cove = x.cove
      · obtain ⟨k1, k2⟩ := key i (by omega) hc
        have hge := mono a i (by omega)
        rw [hcl] at hge
        have := hall (((L.take i).filter (fun y => decide (y.cove = x.cove))).length) (by omega)
        simpa [hia, hc, k1, show ¬ ((L.take i).filter (fun y => decide (y.cove = x.cove))).length < a' from by omega] using this
      · simp [hc]
theorem days_of {l : List Cov} {s : List Snd} (h : visitsB l s = true) : Days s := by
  have h1 := allN_spec.1 h
  refine List.pairwise_iff_getElem.2 fun i j hi hj hij => ?_
  have step : ∀ k, k + 1 < s.length → (sndAt s k).day ≤ (sndAt s (k + 1)).day := fun k hk => by
    have := h1 (k + 1) hk
    simp only [visB, Bool.and_eq_true, Bool.or_eq_true, decide_eq_true_eq, Nat.add_sub_cancel] at this
    omega
  have all : ∀ d, i + d < s.length → (sndAt s i).day ≤ (sndAt s (i + d)).day := by
    intro d
    induction d with
    | zero => intro _; exact Int.le_refl _
    | succ d ih => intro hd; exact Int.le_trans (ih (by omega)) (step (i + d) (by omega))
  have := all (j - i) (by omega)
  rw [show i + (j - i) = j from by omega] at this
  simpa [sndAt, hi, hj] using this
end Go.Qg


namespace Go.Qg
set_option maxRecDepth 100000
def noiseTo (s : List Snd) (pts : List Int) (c : Cov) (x : Snd) : Nat → Int
  | 0 => 0
  | k + 1 => if (sndAt s k).cove = x.cove ∧ x.day - c.window < (sndAt s k).day then noiseTo s pts c x k + geti pts k else noiseTo s pts c x k
def InP (s : List Snd) (pts : List Int) : Prop := ∀ k, k < s.length → (sndAt s k).low ≤ geti pts k ∧ geti pts k ≤ (sndAt s k).high
theorem noise_bounds {s : List Snd} {pts : List Int} (h : InP s pts) (c : Cov) (x : Snd) : ∀ k, k ≤ s.length → lowS (winA c x (s.take k)) ≤ noiseTo s pts c x k ∧ noiseTo s pts c x k ≤ highS (winA c x (s.take k))
  | 0, _ => by simp [winA, lowS, highS, lowTo, highTo, noiseTo]
  | k + 1, hk => by
    have ih := noise_bounds h c x k (by omega)
    have hb := h k (by omega)
    rw [winA_snoc c x (show k < s.length by omega)]
    by_cases hc : (sndAt s k).cove = x.cove ∧ x.day - c.window < (sndAt s k).day
    · rw [if_pos hc, noiseTo, if_pos hc]
      obtain ⟨e1, e2⟩ := lowS_snoc (winA c x (s.take k)) (sndAt s k)
      omega
    · rw [if_neg hc, noiseTo, if_neg hc]; exact ih
def loudB (l : List Cov) (s : List Snd) (pts : List Int) (i : Nat) : Bool :=
  clsB (covAt l (sndAt s i).cove.toNat) (sndAt s i).day || (decide ((covAt l (sndAt s i).cove.toNat).visits < ((winA (covAt l (sndAt s i).cove.toNat) (sndAt s i) (s.take (i + 1))).length : Int)) || decide ((covAt l (sndAt s i).cove.toNat).noise < noiseTo s pts (covAt l (sndAt s i).cove.toNat) (sndAt s i) (i + 1)))
theorem may_eq {l : List Cov} {s : List Snd} {i : Nat} (hi : i < s.length) : mayAt l s i = (clsB (covAt l (sndAt s i).cove.toNat) (sndAt s i).day || (decide ((covAt l (sndAt s i).cove.toNat).visits < ((winA (covAt l (sndAt s i).cove.toNat) (sndAt s i) (s.take (i + 1))).length : Int)) || decide ((covAt l (sndAt s i).cove.toNat).noise < highS (winA (covAt l (sndAt s i).cove.toNat) (sndAt s i) (s.take (i + 1)))))) := by
  simp only [mayAt, mayB, manyB, last_cove hi, winA_eq, highS, Bool.or_assoc]
theorem sure_eq {l : List Cov} {s : List Snd} {i : Nat} (hi : i < s.length) : sureAt l s i = (clsB (covAt l (sndAt s i).cove.toNat) (sndAt s i).day || (decide ((covAt l (sndAt s i).cove.toNat).visits < ((winA (covAt l (sndAt s i).cove.toNat) (sndAt s i) (s.take (i + 1))).length : Int)) || decide ((covAt l (sndAt s i).cove.toNat).noise < lowS (winA (covAt l (sndAt s i).cove.toNat) (sndAt s i) (s.take (i + 1)))))) := by
  simp only [sureAt, sureB, manyB, last_cove hi, winA_eq, lowS, Bool.or_assoc]
theorem not_loud {l : List Cov} {s : List Snd} {pts : List Int} {i : Nat} (h : InP s pts) (hi : i < s.length) (hm : mayAt l s i = false) : loudB l s pts i = false := by
  rw [may_eq hi] at hm
  have hb := (noise_bounds h (covAt l (sndAt s i).cove.toNat) (sndAt s i) (i + 1) (by omega)).2
  unfold loudB
  simp only [Bool.or_eq_false_iff, decide_eq_false_iff_not] at hm ⊢
  exact ⟨hm.1, hm.2.1, by omega⟩
theorem is_loud {l : List Cov} {s : List Snd} {pts : List Int} {i : Nat} (h : InP s pts) (hi : i < s.length) (hm : sureAt l s i = true) : loudB l s pts i = true := by
  rw [sure_eq hi] at hm
  have hb := (noise_bounds h (covAt l (sndAt s i).cove.toNat) (sndAt s i) (i + 1) (by omega)).1
  unfold loudB
  simp only [Bool.or_eq_true, decide_eq_true_eq] at hm ⊢
  rcases hm with hm | hm | hm
  · exact .inl hm
  · exact .inr (.inl hm)
  · exact .inr (.inr (by omega))
theorem sure_may {l : List Cov} {s : List Snd} {pts : List Int} (h : InP s pts) {i : Nat} (hi : i < s.length) (hs : sureAt l s i = true) : mayAt l s i = true := by
  cases hm : mayAt l s i with
  | true => rfl
  | false => have a := not_loud h hi hm; rw [is_loud h hi hs] at a; cases a
theorem firstK_spec (p : Nat → Bool) : ∀ n, (firstK p n = -1 ∧ ∀ k, k < n → p k = false) ∨ ∃ j : Nat, firstK p n = j ∧ j < n ∧ p j = true ∧ ∀ k, k < j → p k = false
  | 0 => .inl ⟨rfl, fun k h => by omega⟩
  | n + 1 => by
    rcases firstK_spec p n with ⟨h1, h2⟩ | ⟨j, h1, h2, h3, h4⟩
    · by_cases hp : p n = true
      · exact .inr ⟨n, by rw [firstK, if_pos ⟨hp, by omega⟩], by omega, hp, h2⟩
      · refine .inl ⟨by rw [firstK, if_neg (fun h => hp h.1), h1], fun k hk => ?_⟩
        rcases Nat.lt_or_eq_of_le (Nat.le_of_lt_succ hk) with h | rfl
        · exact h2 k h
        · simpa using hp
    · exact .inr ⟨j, by rw [firstK, if_neg (fun h => by omega), h1], by omega, h3, h4⟩
theorem spnAt_set {l : List Spn} {k j : Nat} {y : Spn} (h : k < l.length) : spnAt (l.set k y) j = if j = k then y else spnAt l j := by
  by_cases e : j = k
  · subst e; simp [spnAt, h]
  · rw [if_neg e]; unfold spnAt; simp [List.getElem?_set_ne (show k ≠ j from fun h => e h.symm)]
theorem spnAt_app {l : List Spn} {j : Nat} {y : Spn} : spnAt (l ++ [y]) j = if j = l.length then y else spnAt l j := by
  by_cases e : j = l.length
  · subst e; simp [spnAt]
  · rw [if_neg e]
    by_cases h : j < l.length
    · simp [spnAt, List.getElem?_append_left h]
    · simp [spnAt, List.getElem?_eq_none (show (l ++ [y]).length ≤ j by simp; omega), List.getElem?_eq_none (show l.length ≤ j by omega)]
structure SpansIs (p : Nat → Bool) (d : Nat) (out : List Spn) : Prop where
  each : ∀ i, i < out.length → 0 ≤ (spnAt out i).low ∧ (spnAt out i).low ≤ (spnAt out i).high ∧ (spnAt out i).high < d
  apart : ∀ i, i + 1 < out.length → (spnAt out i).high + 1 < (spnAt out (i + 1)).low
  all : ∀ t : Nat, (∃ i, i < out.length ∧ (spnAt out i).low ≤ t ∧ (t : Int) ≤ (spnAt out i).high) ↔ t < d ∧ p t = true
theorem spansTo_is (p : Nat → Bool) : ∀ d, SpansIs p d (spansTo p d)
  | 0 => ⟨fun i h => by simp [spansTo] at h, fun i h => by simp [spansTo] at h, fun t => by simp [spansTo]⟩
  | d + 1 => by
    obtain ⟨h1, h2, h3⟩ := spansTo_is p d
    simp only [spansTo]
    by_cases hp : p d = true
    · rw [if_pos hp]
      generalize spansTo p d = out at h1 h2 h3
      unfold spanStep
      by_cases hc : 0 < out.length ∧ (spnAt out (out.length - 1)).high = (d : Int) - 1
      · rw [if_pos hc]
        obtain ⟨c0, c1⟩ := hc
        have hlt : out.length - 1 < out.length := by omega
        refine ⟨fun i hi => ?_, fun i hi => ?_, fun t => ?_⟩
        · rw [List.length_set] at hi
          rw [spnAt_set hlt]
          have := h1 i hi
          split
          · rename_i e; subst e; simp only; omega
          · omega
        · rw [List.length_set] at hi
          rw [spnAt_set hlt, spnAt_set hlt, if_neg (by omega)]
          have := h2 i hi
          split
          · rename_i e; rw [e] at this; exact this
          · exact this
        · have ht := h3 t
          rw [List.length_set]
          constructor
          · rintro ⟨i, hi, g1, g2⟩
            rw [spnAt_set hlt] at g1 g2
            by_cases e : i = out.length - 1
            · rw [if_pos e] at g1 g2
              simp only at g1 g2
              by_cases htd : t = d
              · subst htd; exact ⟨by omega, hp⟩
              · have := ht.1 ⟨out.length - 1, hlt, g1, by omega⟩
                exact ⟨by omega, this.2⟩
            · rw [if_neg e] at g1 g2
              have := ht.1 ⟨i, hi, g1, g2⟩
              exact ⟨by omega, this.2⟩
          · rintro ⟨g1, g2⟩
            by_cases htd : t = d
            · subst htd
              refine ⟨out.length - 1, hlt, ?_⟩
              rw [spnAt_set hlt, if_pos rfl]
              have := h1 _ hlt
              simp only; omega
            · obtain ⟨i, hi, k1, k2⟩ := ht.2 ⟨by omega, g2⟩
              refine ⟨i, hi, ?_⟩
              rw [spnAt_set hlt]
              split
              · rename_i e; subst e; simp only; omega
              · exact ⟨k1, k2⟩
      · rw [if_neg hc]
        refine ⟨fun i hi => ?_, fun i hi => ?_, fun t => ?_⟩
        · rw [spnAt_app]
          split
          · simp only; omega
          · have := h1 i (by simp at hi; omega); omega
        · have hi2 : i < out.length := by simp at hi; omega
          rw [spnAt_app, spnAt_app, if_neg (by omega)]
          have := h1 i hi2
          split
          · rename_i e
            have e2 : out.length - 1 = i := by omega
            rw [e2] at hc
            simp only
            have : ¬ (spnAt out i).high = (d : Int) - 1 := fun h => hc ⟨by omega, h⟩
            omega
          · exact h2 i (by omega)
        · have ht := h3 t
          constructor
          · rintro ⟨i, hi, g1, g2⟩
            rw [spnAt_app] at g1 g2
            by_cases e : i = out.length
            · rw [if_pos e] at g1 g2
              simp only at g1 g2
              have : t = d := by omega
              subst this; exact ⟨by omega, hp⟩
            · rw [if_neg e] at g1 g2
              have := ht.1 ⟨i, by simp at hi; omega, g1, g2⟩
              exact ⟨by omega, this.2⟩
          · rintro ⟨g1, g2⟩
            by_cases htd : t = d
            · subst htd
              refine ⟨out.length, by simp, ?_⟩
              rw [spnAt_app, if_pos rfl]
              simp
            · obtain ⟨i, hi, k1, k2⟩ := ht.2 ⟨by omega, g2⟩
              refine ⟨i, by simp; omega, ?_⟩
              rw [spnAt_app, if_neg (by omega)]
              exact ⟨k1, k2⟩
    · rw [if_neg hp]
      refine ⟨fun i hi => by have := h1 i hi; omega, h2, fun t => (h3 t).trans ⟨fun h => ⟨by omega, h.2⟩, fun h => ⟨?_, h.2⟩⟩⟩
      rcases Nat.lt_or_eq_of_le (Nat.le_of_lt_succ h.1) with h4 | rfl
      · exact h4
      · exact absurd h.2 hp
theorem inP_more {s : List Snd} {pts : List Int} (h : InP s pts) (hl : pts.length = s.length) {x : Snd} {v : Int} (hv : x.low ≤ v ∧ v ≤ x.high) (a : Nat) (ha : a ≤ s.length) : InP (insL s a x) (pts.take a ++ [v] ++ pts.drop a) := fun k hk => by
  rw [insL_length s a x ha] at hk
  have e1 : sndAt (insL s a x) k = if k < a then sndAt s k else if k = a then x else sndAt s (k - 1) := by
    unfold sndAt insL
    rw [List.getD_eq_getElem?_getD, List.getD_eq_getElem?_getD, List.getD_eq_getElem?_getD]
    by_cases h1 : k < a
    · rw [if_pos h1, List.append_assoc, List.getElem?_append_left (by rw [List.length_take]; omega), List.getElem?_take_of_lt h1]
    · rw [if_neg h1, List.append_assoc, List.getElem?_append_right (by rw [List.length_take]; omega)]
      by_cases h2 : k = a
      · subst h2; simp [ha]
      · rw [if_neg h2, List.length_take, Nat.min_eq_left ha, List.singleton_append, show k - a = (k - a - 1) + 1 from by omega, List.getElem?_cons_succ, List.getElem?_drop]
        congr 2; omega
  have e2 : geti (pts.take a ++ [v] ++ pts.drop a) k = if k < a then geti pts k else if k = a then v else geti pts (k - 1) := by
    unfold geti
    rw [List.getD_eq_getElem?_getD, List.getD_eq_getElem?_getD, List.getD_eq_getElem?_getD]
    by_cases h1 : k < a
    · rw [if_pos h1, List.append_assoc, List.getElem?_append_left (by rw [List.length_take]; omega), List.getElem?_take_of_lt h1]
    · rw [if_neg h1, List.append_assoc, List.getElem?_append_right (by rw [List.length_take]; omega)]
      by_cases h2 : k = a
      · subst h2; simp [hl, ha]
      · rw [if_neg h2, List.length_take, Nat.min_eq_left (by omega), List.singleton_append, show k - a = (k - a - 1) + 1 from by omega, List.getElem?_cons_succ, List.getElem?_drop]
        congr 2; omega
  rw [e1, e2]
  by_cases h1 : k < a
  · rw [if_pos h1, if_pos h1]; exact h k (by omega)
  · rw [if_neg h1, if_neg h1]
    by_cases h2 : k = a
    · rw [if_pos h2, if_pos h2]; exact hv
    · rw [if_neg h2, if_neg h2]; exact h (k - 1) (by omega)
end Go.Qg


namespace Go.Qg
open Go.Proofs
set_option maxRecDepth 100000
set_option maxHeartbeats 4000000
attribute [local irreducible] pwp pops pdraw pop popCall pdCall thenP blockP scopeP pspec Spec answers ppost CallW
theorem rowsSo_rangeTake (l : List Snd) (k : Nat) (h : k ≤ l.length) : (List.range k).map (fun i => (sndAt l i).cells) = rowsSo (l.take k) := by
  rw [← rowsSo_range, List.length_take, Nat.min_eq_left h]
  refine List.map_congr_left fun i hi => ?_
  rw [sndAt_takeS (List.mem_range.1 hi)]
theorem rowsSo_rangeDrop (l : List Snd) (k : Nat) : (List.range (l.length - k)).map (fun i => (sndAt l (k + i)).cells) = rowsSo (l.drop k) := by
  rw [← rowsSo_range, List.length_drop]
  refine List.map_congr_left fun i hi => ?_
  simp [sndAt]
theorem rowsSo_rangeTake' (l : List Snd) (k : Nat) (h : k ≤ l.length) : (List.range k).map (fun i => [PV.v (.int .i64 (sndAt l i).day), PV.v (.int .i64 (sndAt l i).cove), PV.v (.int .i64 (sndAt l i).low), PV.v (.int .i64 (sndAt l i).high)]) = rowsSo (l.take k) := rowsSo_rangeTake l k h
theorem rowsSo_rangeDrop' (l : List Snd) (k : Nat) : (List.range (l.length - k)).map (fun i => [PV.v (.int .i64 (sndAt l (k + i)).day), PV.v (.int .i64 (sndAt l (k + i)).cove), PV.v (.int .i64 (sndAt l (k + i)).low), PV.v (.int .i64 (sndAt l (k + i)).high)]) = rowsSo (l.drop k) := rowsSo_rangeDrop l k
theorem rowsSo_range' (l : List Snd) : (List.range l.length).map (fun i => [PV.v (.int .i64 (sndAt l i).day), PV.v (.int .i64 (sndAt l i).cove), PV.v (.int .i64 (sndAt l i).low), PV.v (.int .i64 (sndAt l i).high)]) = rowsSo l := rowsSo_range l
theorem rowsSo_app (a b : List Snd) : rowsSo a ++ rowsSo b = rowsSo (a ++ b) := by simp [rowsSo]
theorem rMore_spec (s : List Snd) (x : Snd) (hs : s.length ≤ 1000) :
    Spec Try.prog 41 [sndL s, .agg x.cells] (.tup [sndL (moreL s x), .v (.int .i64 (atL s x.day))]) := by
  refine spec_of mixed Try.func41 (by decide) rfl Try.results41 Try.ntmps41 (by decide) 0 (by simp) ?_
  simp [sndL, Snd.cells]
  refine pwp_loop (fun k : Nat => [(6, .v (.int .i64 k))]) (fun k => k ≤ s.length ∧ atTo s x.day k = k) (fun k => s.length - k) 0 ⟨Nat.zero_le _, rfl⟩ (by simp; rfl) (by simp) ?_
  intro k ⟨hk, hat⟩
  have wk := i64_wrap (show -9223372036854775808 ≤ (k : Int) + 1 ∧ _ from by omega)
  by_cases hgo : k < s.length ∧ (sndAt s k).day ≤ x.day
  · obtain ⟨g1, g2⟩ := hgo
    simp
    refine pwp_draw 14 (by decide) ?_
    simp [g1, g2, Snd.cells]
    refine ⟨by decide, ?_⟩
    simp [wk]
    refine again_of (k + 1) ⟨g1, by simp [atTo, hat, g2]⟩ (by omega) ?_
    simp
  · have hatL : atL s x.day = k := by
      by_cases g1 : k < s.length
      · exact atTo_stop hat (fun g2 => hgo ⟨g1, g2⟩) _ hk
      · obtain rfl : k = s.length := by omega
        exact hat
    have hM : moreL s x = s.take k ++ [x] ++ s.drop k := by rw [← hatL]; rfl
    have hMl := moreL_length s x
    rw [hatL]
    generalize moreL s x = M at hM hMl
    have hrows : (List.take (k + 1) (rowsSo (List.take k (List.take k s)) ++ [[PV.v (.int .i64 x.day), PV.v (.int .i64 x.cove), PV.v (.int .i64 x.low), PV.v (.int .i64 x.high)]]) ++ rowsSo (s.drop k)) = rowsSo M := by
      rw [rowsSo_snoc', rowsSo_take, rowsSo_app, List.take_take, Nat.min_self, hM, List.take_of_length_le (by rw [List.length_append, List.length_take, List.length_singleton]; omega)]
    have hget : ∀ j, j < s.length + 1 → (rowsSo M)[j]? = some [PV.v (.int .i64 (sndAt M j).day), PV.v (.int .i64 (sndAt M j).cove), PV.v (.int .i64 (sndAt M j).low), PV.v (.int .i64 (sndAt M j).high)] := fun j hj => rowsSo_get (by omega)
    simp
    refine pwp_draw 14 (by decide) ?_
    have hside : (k < s.length ∧ ¬ (sndAt s k).day ≤ x.day) ∨ k = s.length := by omega
    have b1 : k * 32 ≤ 140737488355328 ∧ k ≤ maxLen := ⟨by omega, by simp only [maxLen]; omega⟩
    have b2 : (k + 1) * 32 ≤ 140737488355328 ∧ k + 1 ≤ maxLen := ⟨by omega, by simp only [maxLen]; omega⟩
    have b3 : (k + 1 + (s.length - k)) * 32 ≤ 140737488355328 ∧ k + 1 + (s.length - k) ≤ maxLen := ⟨by omega, by simp only [maxLen]; omega⟩
    have b6 : (1 + s.length) * 32 ≤ 140737488355328 ∧ 1 + s.length ≤ maxLen := ⟨by omega, by simp only [maxLen]; omega⟩
    have b4 : 1 ≤ maxLen := by simp [maxLen]
    rcases hside with ⟨g1, g2⟩ | g3
    · simp [g1, g2, Snd.cells]
      refine ⟨by decide, ?_⟩
      refine pwp_draw 7 (by decide) ?_
      by_cases h0 : 0 < k
      · simp [h0, hk, b1, b2, b3, rowsSo_rangeTake' s k hk, rowsSo_rangeDrop' s k]
        refine ⟨by decide, ?_⟩
        refine answers_of (by simp; rfl) ?_
        simp [hMl]
        refine ⟨by omega, by omega, fun j hj => ?_⟩
        rw [hrows, hget j hj]
        simp
      · obtain rfl : k = 0 := by omega
        simp [b4, b6, rowsSo_range']
        refine ⟨by decide, ?_⟩
        refine answers_of (by simp; rfl) ?_
        simp [hMl]
        have hrows0 : [PV.v (.int .i64 x.day), PV.v (.int .i64 x.cove), PV.v (.int .i64 x.low), PV.v (.int .i64 x.high)] :: rowsSo s = rowsSo M := by rw [hM]; rfl
        refine ⟨by omega, fun j hj => ?_⟩
        rw [hrows0, hget j hj]
        simp
    · subst g3
      simp
      refine ⟨by decide, ?_⟩
      refine pwp_draw 7 (by decide) ?_
      have hdrop : s.drop s.length = [] := List.drop_of_length_le (Nat.le_refl _)
      by_cases h0 : 0 < s.length
      · simp [h0, hk, b1, b2, b3, rowsSo_range']
        refine ⟨by decide, ?_⟩
        refine answers_of (by simp; rfl) ?_
        simp [hMl]
        have hrows1 : List.take (s.length + 1) (rowsSo (List.take s.length s) ++ [[PV.v (.int .i64 x.day), PV.v (.int .i64 x.cove), PV.v (.int .i64 x.low), PV.v (.int .i64 x.high)]]) = rowsSo M := by
          rw [rowsSo_snoc', rowsSo_take, hM, hdrop, List.append_nil, List.take_of_length_le (by rw [List.length_append, List.length_take, List.length_singleton]; omega)]
        have hrows2 : rowsSo (List.take s.length s) ++ [[PV.v (.int .i64 x.day), PV.v (.int .i64 x.cove), PV.v (.int .i64 x.low), PV.v (.int .i64 x.high)]] = rowsSo M := by
          rw [rowsSo_snoc', hM, hdrop, List.append_nil]
        have hrows3 : rowsSo s ++ [[PV.v (.int .i64 x.day), PV.v (.int .i64 x.cove), PV.v (.int .i64 x.low), PV.v (.int .i64 x.high)]] = rowsSo M := by
          rw [rowsSo_snoc', hM, hdrop, List.append_nil, List.take_of_length_le (Nat.le_refl _)]
        have hrows4 : List.take (s.length + 1) (rowsSo M) = rowsSo M := List.take_of_length_le (by rw [rowsSo_length, hMl]; exact Nat.le_refl _)
        intro j hj
        first
          | (rw [hrows2, hrows4, hget j hj]; simp)
          | (rw [hrows3, hrows4, hget j hj]; simp)
          | (rw [hrows1, hget j hj]; simp)
          | (rw [hrows2, hget j hj]; simp)
          | (rw [hrows3, hget j hj]; simp)
      · obtain rfl : s = [] := List.eq_nil_of_length_eq_zero (by omega)
        simp [b4]
        refine ⟨by decide, ?_⟩
        refine answers_of (by simp; rfl) ?_
        have e : sndAt M 0 = x := by rw [hM]; rfl
        simp [show M.length = 1 from hMl, e]
theorem CovesOk.more {l : List Cov} {s : List Snd} (h : CovesOk l s) {x : Snd} (hx : (0 ≤ x.day ∧ x.day ≤ 400) ∧ (0 ≤ x.low ∧ x.low ≤ 100000) ∧ 0 ≤ x.high ∧ x.high ≤ 100000) (hc : 0 ≤ x.cove ∧ x.cove.toNat < l.length) (hn : s.length ≤ 60) : CovesOk l (moreL s x) := by
  have hlen := moreL_length s x
  have hmem : ∀ y ∈ moreL s x, y ∈ s ∨ y = x := fun y hy => by
    simp only [moreL, insL, List.mem_append, List.mem_singleton] at hy
    rcases hy with (hy | hy) | hy
    · exact .inl (List.mem_of_mem_take hy)
    · exact .inr hy
    · exact .inl (List.mem_of_mem_drop hy)
  refine ⟨⟨by omega, fun y hy => ?_⟩, h.nl, fun k hk => ?_, h.each⟩
  · rcases hmem y hy with h1 | rfl
    · exact h.ok.each y h1
    · exact hx
  · rcases hmem _ (sndAt_mem hk) with h1 | h1
    · obtain ⟨j, hj, he⟩ := List.getElem_of_mem h1
      have : sndAt s j = sndAt (moreL s x) k := by rw [← he]; simp [sndAt, hj]
      rw [← this]
      exact h.cove j hj
    · rw [h1]; exact hc
end Go.Qg



namespace Go.Qg
open Go.Proofs
set_option maxRecDepth 100000
set_option maxHeartbeats 8000000
attribute [local irreducible] pwp pops pdraw pop popCall pdCall thenP blockP scopeP pspec Spec answers ppost CallW
def mildB (l : List Cov) (s : List Snd) : Bool := allN l.length (fun k => decide ((covAt l k).closed.length ≤ 10)) && decide (l.length ≤ 17) && decide (s.length ≤ 70)
theorem lmild_spec (l : List Cov) (s : List Snd) (hl : l.length ≤ 9223372036854775807) : Spec Try.prog 32 [covL l, sndL s] (.v (.bool (mildB l s))) := by
  refine spec_of mixed Try.func32 (by decide) rfl Try.results32 Try.ntmps32 (by decide) 0 (by simp) ?_
  simp [covL, sndL]
  refine pwp_loop (fun k : Nat => [(5, .v (.int .i64 k))]) (fun k => k ≤ l.length ∧ ∀ j, j < k → (covAt l j).closed.length ≤ 10) (fun k => l.length - k) 0 ⟨Nat.zero_le _, fun j hj => by omega⟩ (by simp; rfl) (by simp) ?_
  intro k ⟨hk, hp⟩
  by_cases hkl : k < l.length
  · have wk := i64_wrap (show -9223372036854775808 ≤ (k : Int) + 1 ∧ _ from by omega)
    by_cases hc : (covAt l k).closed.length ≤ 10
    · simp [hkl, Cov.cells, spnL, show ¬ (10 : Int) < ((covAt l k).closed.length : Int) from by omega, show ((covAt l k).closed.length : Int) ≤ 10 from by omega]
      refine again_of (k + 1) ⟨by omega, fun j hj => ?_⟩ (by omega) ?_
      · rcases Nat.lt_or_eq_of_le (Nat.le_of_lt_succ hj) with h | rfl
        · exact hp j h
        · exact hc
      · simp [wk]
    · have hbad : allN l.length (fun k => decide ((covAt l k).closed.length ≤ 10)) = false := allN_false hkl (by simpa using hc)
      simp [hkl, Cov.cells, spnL, show (10 : Int) < ((covAt l k).closed.length : Int) from by omega, show ¬ ((covAt l k).closed.length : Int) ≤ 10 from by omega]
      refine answers_of rfl ?_; simp [mildB, hbad]
  · have h5 : allN l.length (fun k => decide ((covAt l k).closed.length ≤ 10)) = true := allN_spec.2 fun j hj => by simpa using hp j (by omega)
    obtain rfl : k = l.length := by omega
    simp
    by_cases g1 : l.length ≤ 17
    · by_cases g2 : s.length ≤ 70
      · simp [show (l.length : Int) ≤ 17 from by omega, show (s.length : Int) ≤ 70 from by omega]
        refine answers_of rfl ?_; simp [mildB, h5, g1, g2]
      · simp [show (l.length : Int) ≤ 17 from by omega, show ¬ (s.length : Int) ≤ 70 from by omega]
        refine answers_of rfl ?_; simp [mildB, h5, g1, g2]
    · simp [g1, show ¬ (l.length : Int) ≤ 17 from by omega]
      refine ⟨by omega, ?_⟩
      refine answers_of rfl ?_; simp [mildB, h5, g1]
def covedE (l : List Cov) (s : List Snd) (more : Nat) : Int := if 12 < l.length ∨ 60 < s.length + more then 3 else if (covesB l && visitsB l s) = true then 0 else 2
theorem lcoved_spec (l : List Cov) (s : List Snd) (more : Nat) (hm : more ≤ 1000) (hl : l.length ≤ 9223372036854775807) (hs : s.length ≤ 1000) (hc : ∀ k, k < l.length → (covAt l k).closed.length ≤ 9223372036854775807) : Spec Try.prog 34 [covL l, sndL s, .v (.int .i64 more)] (.v (.int .i64 (covedE l s more))) := by
  have w := i64_wrap (show -9223372036854775808 ≤ (s.length : Int) + more ∧ _ from by omega)
  refine spec_of mixed Try.func34 (by decide) rfl Try.results34 Try.ntmps34 (by decide) 0 (by simp) ?_
  simp [covL, sndL]
  by_cases g1 : 12 < l.length
  · simp [show (12 : Int) < (l.length : Int) from by omega, show ¬ (l.length : Int) ≤ 12 from by omega]
    refine answers_of rfl ?_; simp [covedE, g1]
  · by_cases g2 : 60 < s.length + more
    · simp [show ¬ (12 : Int) < (l.length : Int) from by omega, show (l.length : Int) ≤ 12 from by omega, w, show (60 : Int) < (s.length : Int) + more from by omega, show ¬ (s.length : Int) + more ≤ 60 from by omega]
      refine answers_of rfl ?_; simp [covedE, g2]
    · simp [show ¬ (12 : Int) < (l.length : Int) from by omega, show (l.length : Int) ≤ 12 from by omega, w, show ¬ (60 : Int) < (s.length : Int) + more from by omega, show (s.length : Int) + more ≤ 60 from by omega]
      refine pop_spec (rCoves_spec l hl hc) rfl false (.inl (by simp [covL])) (.inl rfl) rfl (by simp) ?_
      cases h1 : covesB l with
      | false =>
        simp
        refine answers_of rfl ?_; simp [covedE, g1, g2, h1]
      | true =>
        simp
        refine pop_spec (rSounds_spec l s hl (by omega)) rfl false (.inl (by simp [covL, sndL])) (.inl rfl) rfl (by simp) ?_
        cases h2 : visitsB l s with
        | false =>
          simp
          refine answers_of rfl ?_; simp [covedE, g1, g2, h1, h2]
        | true =>
          simp
          refine answers_of rfl ?_; simp [covedE, g1, g2, h1, h2]
theorem coved_cases (l : List Cov) (s : List Snd) (more : Nat) : covedE l s more = 0 ∧ (l.length ≤ 12 ∧ s.length + more ≤ 60) ∧ covesB l = true ∧ visitsB l s = true ∨ covedE l s more = 2 ∨ covedE l s more = 3 := by
  unfold covedE
  by_cases g : 12 < l.length ∨ 60 < s.length + more
  · rw [if_pos g]; exact .inr (.inr rfl)
  · rw [if_neg g]
    cases h1 : covesB l <;> cases h2 : visitsB l s <;> simp <;> omega
theorem freeE_coved (l : List Cov) (s : List Snd) (cove : Int) (pt : Spn) : freeE l s cove pt = if covedE l s 1 = 0 ∧ (cove < 0 ∨ (l.length : Int) ≤ cove ∨ pt.low < 0 ∨ pt.high < pt.low ∨ 100000 < pt.high) then 2 else covedE l s 1 := by
  unfold freeE covedE
  by_cases g : 12 < l.length ∨ 60 < s.length + 1
  · rw [if_pos g, if_pos (by omega), if_neg (by omega)]
  · rw [if_neg g, if_neg (by omega)]
    have e1 : inB cove 0 ((l.length : Int) - 1) = true ↔ 0 ≤ cove ∧ cove < l.length := by rw [inB_spec]; omega
    have e2 := spanB_spec (s := pt) (lo := 0) (hi := 100000)
    cases h1 : covesB l <;> cases h2 : visitsB l s <;> simp
    by_cases c : cove < 0 ∨ (l.length : Int) ≤ cove ∨ pt.low < 0 ∨ pt.high < pt.low ∨ 100000 < pt.high
    · rw [if_neg, if_pos c]
      rintro ⟨a, b⟩
      rw [e1] at a; rw [e2] at b; omega
    · rw [if_pos, if_neg c]
      exact ⟨e1.2 (by omega), e2.2 (by omega)⟩
end Go.Qg


namespace Go.Qg
open Go.Proofs
set_option maxRecDepth 100000
set_option maxHeartbeats 4000000
attribute [local irreducible] pwp pops pdraw pop popCall pdCall thenP blockP scopeP pspec Spec answers ppost CallW
def partI (lo hi p : Int) : Int := lo + (hi - lo) * p / 100
theorem partI_in {lo hi p : Int} (h : lo ≤ hi) (hp : 0 ≤ p ∧ p ≤ 100) : lo ≤ partI lo hi p ∧ partI lo hi p ≤ hi := by
  have h1 : 0 ≤ (hi - lo) * p := Int.mul_nonneg (by omega) hp.1
  have h2 : (hi - lo) * p ≤ (hi - lo) * 100 := Int.mul_le_mul_of_nonneg_left hp.2 (by omega)
  unfold partI
  omega
theorem lpart_spec (s : Spn) (p : Int) (h0 : 0 ≤ s.low) (h1 : s.low ≤ s.high) (h2 : s.high ≤ 100000) (hp : 0 ≤ p ∧ p ≤ 100) : Spec Try.prog 39 [.agg s.cells, .v (.int .i64 p)] (.v (.int .i64 (partI s.low s.high p))) := by
  have g1 : 0 ≤ (s.high - s.low) * p := Int.mul_nonneg (by omega) hp.1
  have g2 : (s.high - s.low) * p ≤ (s.high - s.low) * 100 := Int.mul_le_mul_of_nonneg_left hp.2 (by omega)
  have w1 := i64_wrap (show -9223372036854775808 ≤ s.high - s.low ∧ _ from by omega)
  have w2 := i64_wrap (show -9223372036854775808 ≤ (s.high - s.low) * p ∧ _ from by omega)
  have e : ((s.high - s.low) * p).tdiv 100 = (s.high - s.low) * p / 100 := Int.tdiv_eq_ediv_of_nonneg g1
  have w3 := i64_wrap (show -9223372036854775808 ≤ (s.high - s.low) * p / 100 ∧ _ from by omega)
  have w4 := i64_wrap (show -9223372036854775808 ≤ s.low + (s.high - s.low) * p / 100 ∧ _ from by omega)
  refine spec_of mixed Try.func39 (by decide) rfl Try.results39 Try.ntmps39 (by decide) 0 (by simp) ?_
  simp [Spn.cells, w1, w2, e, w3, w4]
  refine answers_of rfl ?_; simp [partI]
theorem high_bounds {s : List Snd} (h : SndsOk s) (c : Cov) (x : Snd) (k : Nat) : (0 ≤ lowS (winA c x (s.take k)) ∧ highS (winA c x (s.take k)) ≤ 100000000) ∧ (winA c x (s.take k)).length ≤ k := by
  have hlen : (winA c x (s.take k)).length ≤ k ∧ (winA c x (s.take k)).length ≤ s.length := by
    have := List.length_filter_le (fun y : Snd => decide (y.cove = x.cove) && decide (x.day - c.window < y.day)) (s.take k)
    have h2 : (s.take k).length = min k s.length := List.length_take
    unfold winA
    omega
  have hn := h.n
  have hW : SndsOk (winA c x (s.take k)) := ⟨by omega, fun y hy => h.each y (List.mem_of_mem_take (List.mem_filter.1 hy).1)⟩
  have hb := hW.to _ (Nat.le_refl _)
  have hb' : (0 ≤ lowS (winA c x (s.take k)) ∧ lowS (winA c x (s.take k)) ≤ 100000 * (winA c x (s.take k)).length) ∧ 0 ≤ highS (winA c x (s.take k)) ∧ highS (winA c x (s.take k)) ≤ 100000 * (winA c x (s.take k)).length := hb
  omega
theorem loud_spec (l : List Cov) (s : List Snd) (pts : List Int) (i : Nat) (hi : i < s.length) (h : CovesOk l s) (hin : InP s pts) (hpl : s.length = pts.length) :
    Spec Try.prog 40 [covL l, sndL s, ints pts, .v (.int .i64 i)] (.v (.bool (loudB l s pts i))) := by
  have hn := h.ok.n
  obtain ⟨h0, h1⟩ := h.cove i hi
  have hcv := h.each _ h1
  have hx := h.ok.each _ (sndAt_mem hi)
  have h2 : (sndAt s i).cove < (l.length : Int) := by have := h.nl; omega
  unfold loudB
  refine spec_of mixed Try.func40 (by decide) rfl Try.results40 Try.ntmps40 (by decide) 0 (by simp) ?_
  simp [covL, sndL, ints, hi, Snd.cells, h0, h2, Cov.cells, spnL]
  generalize covAt l (sndAt s i).cove.toNat = c at hcv
  generalize hxx : sndAt s i = x at hx h0 h1 h2
  refine pwp_loop (fun k : Nat => [(11, .v (.int .i64 k))]) (fun k => k ≤ c.closed.length ∧ ∀ j, j < k → inB x.day (spnAt c.closed j).low (spnAt c.closed j).high = false) (fun k => c.closed.length - k) 0 ⟨Nat.zero_le _, fun j hj => by omega⟩ (by simp; rfl) (by simp) ?_
  intro k ⟨hk, hp⟩
  by_cases hkl : k < c.closed.length
  · have wk := i64_wrap (show -9223372036854775808 ≤ (k : Int) + 1 ∧ _ from by omega)
    simp [hkl]
    refine pwp_draw 20 (by decide) ?_
    by_cases q1 : (spnAt c.closed k).low ≤ x.day
    · by_cases q2 : x.day ≤ (spnAt c.closed k).high
      · have hcl : clsB c x.day = true := anyN_iff.2 ⟨k, hkl, by simp [inB, q1, q2]⟩
        simp [hkl, Spn.cells, q1, q2]
        refine ⟨by decide, ?_⟩
        refine answers_of rfl ?_; simp [hcl]
      · simp [hkl, Spn.cells, q1, q2]
        refine ⟨by decide, ?_⟩
        refine again_of (k + 1) ⟨by omega, fun j hj => ?_⟩ (by omega) ?_
        · rcases Nat.lt_or_eq_of_le (Nat.le_of_lt_succ hj) with h' | rfl
          · exact hp j h'
          · simp [inB, q2]
        · simp [wk]
    · simp [hkl, Spn.cells, q1]
      refine ⟨by decide, ?_⟩
      refine again_of (k + 1) ⟨by omega, fun j hj => ?_⟩ (by omega) ?_
      · rcases Nat.lt_or_eq_of_le (Nat.le_of_lt_succ hj) with h' | rfl
        · exact hp j h'
        · simp [inB, q1]
      · simp [wk]
  · obtain rfl : k = c.closed.length := by omega
    have hcl : clsB c x.day = false := by
      cases hc : clsB c x.day with
      | false => rfl
      | true =>
        obtain ⟨j, hj, hj2⟩ := anyN_iff.1 hc
        rw [hp j hj] at hj2; cases hj2
    simp
    refine pwp_loop (fun k : Nat => [(12, .v (.int .i64 (winA c x (s.take k)).length)), (13, .v (.int .i64 (noiseTo s pts c x k))), (14, .v (.int .i64 k))]) (fun k => k ≤ i + 1) (fun k => i + 1 - k) 0 (Nat.zero_le _) (by simp; rfl) (by simp [winA, noiseTo]) ?_
    intro k hk
    have wk := i64_wrap (show -9223372036854775808 ≤ (k : Int) + 1 ∧ _ from by omega)
    obtain ⟨b1, b2⟩ := high_bounds h.ok c x k
    have b3 := noise_bounds hin c x k (by omega)
    by_cases hkl : k < i + 1
    · have hy := h.ok.each _ (sndAt_mem (show k < s.length by omega))
      have hpk := hin k (by omega)
      have hsn := winA_snoc c x (show k < s.length by omega)
      have wd := i64_wrap (show -9223372036854775808 ≤ (sndAt s k).day + c.window ∧ _ from by omega)
      have hno : noiseTo s pts c x (k + 1) = if (sndAt s k).cove = x.cove ∧ x.day - c.window < (sndAt s k).day then noiseTo s pts c x k + geti pts k else noiseTo s pts c x k := rfl
      simp [show (k : Int) ≤ i from by omega]
      refine pwp_draw 21 (by decide) ?_
      by_cases q1 : (sndAt s k).cove = x.cove
      · by_cases q2 : x.day < (sndAt s k).day + c.window
        · rw [if_pos ⟨q1, by omega⟩] at hsn hno
          have f3 : (winA c x (s.take (k + 1))).length = (winA c x (s.take k)).length + 1 := by rw [hsn]; simp
          have w3 := i64_wrap (show -9223372036854775808 ≤ ((winA c x (s.take k)).length : Int) + 1 ∧ _ from by omega)
          have w4 := i64_wrap (show -9223372036854775808 ≤ noiseTo s pts c x k + geti pts k ∧ _ from by omega)
          simp [show k < s.length from by omega, q1, q2, Snd.cells, wd]
          refine ⟨by decide, ?_⟩
          refine pwp_draw 10 (by decide) ?_
          simp [show k < pts.length from by omega, w3, w4]
          refine ⟨by decide, ?_⟩
          refine again_of (k + 1) (by omega) (by omega) ?_
          simp [wk, f3, hno]
        · rw [if_neg fun hh => q2 (by omega)] at hsn hno
          simp [show k < s.length from by omega, q1, q2, Snd.cells, wd]
          refine ⟨by decide, ?_⟩
          refine again_of (k + 1) (by omega) (by omega) ?_
          simp [wk, hsn, hno]
      · rw [if_neg fun hh => q1 hh.1] at hsn hno
        simp [show k < s.length from by omega, q1, Snd.cells, wd]
        refine ⟨by decide, ?_⟩
        refine again_of (k + 1) (by omega) (by omega) ?_
        simp [wk, hsn, hno]
    · obtain rfl : k = i + 1 := by omega
      simp [show ¬ ((i : Int) + 1 ≤ i) from by omega, Cov.cells]
      by_cases q1 : c.visits < ((winA c x (s.take (i + 1))).length : Int)
      · simp [q1, Int.not_le.2 q1]
        refine answers_of (by simp; rfl) ?_; simp [hcl, q1]
      · simp [q1, Int.not_lt.1 q1]
        refine answers_of (by simp; rfl) ?_; simp [hcl, q1]
end Go.Qg


namespace Go.Qg
open Go.Proofs
set_option maxRecDepth 100000
def tlN : Nat → Code → Code
  | 0, c => c
  | n + 1, .seq _ b => tlN n b
  | _ + 1, c => c
noncomputable def ctBody : Code := (Try.f8.body).getD .skip
def ctG7 (l : List Cov) (s : List Snd) (w : List Int) (x : Snd) (P : List Int) (a b : Int) : PF := [covL l, sndL s, ints w, .undef, .undef, .undef, .undef, .box true [.v (.int .i64 x.day), .v (.int .i64 x.cove), .v (.int .i64 x.low), .v (.int .i64 x.high)], .undef, ints P, .undef, .v (.int .i64 a), .v (.int .i64 b), .undef, .undef, .undef, .undef, .undef, .undef, .undef, .undef, .undef, .undef, .undef, .undef, .undef, .undef, .undef, .undef, .undef, .undef, .undef, .undef, .undef, .undef, .undef, .undef, .undef, .undef, .undef, .undef, .undef, .undef, .undef, .undef, .undef, .undef, .undef, .undef, .undef, .undef, .undef, .undef, .undef, .undef, .undef, .undef, .undef, .undef, .undef, .undef, .undef, .undef, .undef, .undef, .undef, .undef, .undef, .undef, .undef, .undef, .undef, .undef, .undef, .undef, .undef, .undef, .undef, .undef, .undef, .undef, .undef, .undef, .undef, .undef, .undef, .undef, .undef, .undef, .undef, .undef, .undef, .undef, .undef, .undef, .undef, .undef, .undef, .undef, .undef, .undef, .undef, .undef, .undef, .undef, .undef, .undef, .undef, .undef, .undef, .undef, .undef, .undef, .undef, .undef, .undef, .undef, .undef, .undef, .undef, .undef, .undef, .undef, .undef, .undef, .undef, .undef, .undef, .undef, .undef, .undef, .undef, .undef, .undef, .undef, .undef, .undef, .undef, .undef, .undef, .undef, .undef, .undef, .undef, .undef, .undef, .undef, .undef, .undef, .undef, .undef, .undef, .undef, .undef, .undef, .undef, .undef, .undef, .undef, .undef, .undef, .undef, .undef, .undef, .undef, .undef, .undef, .undef, .undef, .undef, .undef, .undef, .undef, .undef, .undef, .undef, .undef, .undef, .undef, .undef, .undef, .undef, .undef, .undef, .undef, .undef, .undef, .undef, .undef, .undef, .undef, .undef, .undef, .undef, .undef, .undef, .undef, .undef, .undef, .undef, .undef, .undef, .undef, .undef, .undef, .undef, .undef, .undef, .undef, .undef, .undef, .undef, .undef, .undef, .undef, .undef, .undef, .undef, .undef, .undef, .undef, .undef, .undef, .undef, .undef, .undef, .undef, .undef, .undef, .undef, .undef, .undef, .undef, .undef, .undef, .undef, .undef, .undef, .undef, .undef, .undef, .undef, .undef, .undef, .undef, .undef, .undef, .undef, .undef, .undef, .undef, .undef, .undef, .undef, .undef, .undef, .undef, .undef, .undef, .undef, .undef, .undef, .undef, .undef, .undef, .undef, .undef, .undef, .undef, .undef, .undef, .undef, .undef, .undef, .undef, .undef, .undef, .undef, .undef, .undef, .undef, .undef, .undef, .undef, .undef, .undef, .undef, .undef, .undef, .undef, .undef, .undef, .undef, .undef, .undef, .undef, .undef, .undef, .undef, .undef, .undef, .undef, .undef, .undef, .undef, .undef, .undef, .undef, .undef, .undef, .undef, .undef, .undef, .undef, .undef, .undef, .undef, .undef, .undef]
def ctG9 (l : List Cov) (s : List Snd) (w : List Int) (x : Snd) (P : List Int) : PF := [covL l, sndL s, ints w, .undef, .undef, .undef, .undef, .box true [.v (.int .i64 x.day), .v (.int .i64 x.cove), .v (.int .i64 x.low), .v (.int .i64 x.high)], .undef, ints P, .undef, .undef, .undef, .undef, .undef, .v (.int .i64 (geti w s.length)), .undef, .undef, .undef, .undef, .undef, .undef, .undef, .undef, .undef, .undef, .undef, .undef, .undef, .undef, .undef, .undef, .undef, .undef, .undef, .undef, .undef, .undef, .undef, .undef, .undef, .undef, .undef, .undef, .undef, .undef, .undef, .undef, .undef, .undef, .undef, .undef, .undef, .undef, .undef, .undef, .undef, .undef, .undef, .undef, .undef, .undef, .undef, .undef, .undef, .undef, .undef, .undef, .undef, .undef, .undef, .undef, .undef, .undef, .undef, .undef, .undef, .undef, .undef, .undef, .undef, .undef, .undef, .undef, .undef, .undef, .undef, .undef, .undef, .undef, .undef, .undef, .undef, .undef, .undef, .undef, .undef, .undef, .undef, .undef, .undef, .undef, .undef, .undef, .undef, .undef, .undef, .undef, .undef, .undef, .undef, .undef, .undef, .undef, .undef, .undef, .undef, .undef, .undef, .undef, .undef, .undef, .undef, .undef, .undef, .undef, .undef, .undef, .undef, .undef, .undef, .undef, .undef, .undef, .undef, .undef, .undef, .undef, .undef, .undef, .undef, .undef, .undef, .undef, .undef, .undef, .undef, .undef, .undef, .undef, .undef, .undef, .undef, .undef, .undef, .undef, .undef, .undef, .undef, .undef, .undef, .undef, .undef, .undef, .undef, .undef, .undef, .undef, .undef, .undef, .undef, .undef, .undef, .undef, .undef, .undef, .undef, .undef, .undef, .undef, .undef, .undef, .undef, .undef, .undef, .undef, .undef, .undef, .undef, .undef, .undef, .undef, .undef, .undef, .undef, .undef, .undef, .undef, .undef, .undef, .undef, .undef, .undef, .undef, .undef, .undef, .undef, .undef, .undef, .undef, .undef, .undef, .undef, .undef, .undef, .undef, .undef, .undef, .undef, .undef, .undef, .undef, .undef, .undef, .undef, .undef, .undef, .undef, .undef, .undef, .undef, .undef, .undef, .undef, .undef, .undef, .undef, .undef, .undef, .undef, .undef, .undef, .undef, .undef, .undef, .undef, .undef, .undef, .undef, .undef, .undef, .undef, .undef, .undef, .undef, .undef, .undef, .undef, .undef, .undef, .undef, .undef, .undef, .undef, .undef, .undef, .undef, .undef, .undef, .undef, .undef, .undef, .undef, .undef, .undef, .undef, .undef, .undef, .undef, .undef, .undef, .undef, .undef, .undef, .undef, .undef, .undef, .undef, .undef, .undef, .undef, .undef, .undef, .undef, .undef, .undef, .undef, .undef, .undef, .undef, .undef, .undef, .undef, .undef, .undef, .undef, .undef, .undef, .undef, .undef, .undef, .undef, .undef, .undef, .undef, .undef, .undef, .undef, .undef]
def ctG11 (l : List Cov) (s : List Snd) (w : List Int) (x : Snd) (P : List Int) (F : List Spn) : PF := [covL l, sndL s, ints w, .undef, .undef, .undef, .undef, .box true [.v (.int .i64 x.day), .v (.int .i64 x.cove), .v (.int .i64 x.low), .v (.int .i64 x.high)], .undef, ints P, .undef, .undef, .undef, .undef, .undef, .v (.int .i64 (geti w s.length)), spnL F, .v (.int .i64 0), .undef, .undef, .undef, .undef, .undef, .undef, .undef, .undef, .undef, .undef, .undef, .undef, .undef, .undef, .undef, .undef, .undef, .undef, .undef, .undef, .undef, .undef, .undef, .undef, .undef, .undef, .undef, .undef, .undef, .undef, .undef, .undef, .undef, .undef, .undef, .undef, .undef, .undef, .undef, .undef, .undef, .undef, .undef, .undef, .undef, .undef, .undef, .undef, .undef, .undef, .undef, .undef, .undef, .undef, .undef, .undef, .undef, .undef, .undef, .undef, .undef, .undef, .undef, .undef, .undef, .undef, .undef, .undef, .undef, .undef, .undef, .undef, .undef, .undef, .undef, .undef, .undef, .undef, .undef, .undef, .undef, .undef, .undef, .undef, .undef, .undef, .undef, .undef, .undef, .undef, .undef, .undef, .undef, .undef, .undef, .undef, .undef, .undef, .undef, .undef, .undef, .undef, .undef, .undef, .undef, .undef, .undef, .undef, .undef, .undef, .undef, .undef, .undef, .undef, .undef, .undef, .undef, .undef, .undef, .undef, .undef, .undef, .undef, .undef, .undef, .undef, .undef, .undef, .undef, .undef, .undef, .undef, .undef, .undef, .undef, .undef, .undef, .undef, .undef, .undef, .undef, .undef, .undef, .undef, .undef, .undef, .undef, .undef, .undef, .undef, .undef, .undef, .undef, .undef, .undef, .undef, .undef, .undef, .undef, .undef, .undef, .undef, .undef, .undef, .undef, .undef, .undef, .undef, .undef, .undef, .undef, .undef, .undef, .undef, .undef, .undef, .undef, .undef, .undef, .undef, .undef, .undef, .undef, .undef, .undef, .undef, .undef, .undef, .undef, .undef, .undef, .undef, .undef, .undef, .undef, .undef, .undef, .undef, .undef, .undef, .undef, .undef, .undef, .undef, .undef, .undef, .undef, .undef, .undef, .undef, .undef, .undef, .undef, .undef, .undef, .undef, .undef, .undef, .undef, .undef, .undef, .undef, .undef, .undef, .undef, .undef, .undef, .undef, .undef, .undef, .undef, .undef, .undef, .undef, .undef, .undef, .undef, .undef, .undef, .undef, .undef, .undef, .undef, .undef, .undef, .undef, .undef, .undef, .undef, .undef, .undef, .undef, .undef, .undef, .undef, .undef, .undef, .undef, .undef, .undef, .undef, .undef, .undef, .undef, .undef, .undef, .undef, .undef, .undef, .undef, .undef, .undef, .undef, .undef, .undef, .undef, .undef, .undef, .undef, .undef, .undef, .undef, .undef, .undef, .undef, .undef, .undef, .undef, .undef, .undef, .undef, .undef, .undef, .undef, .undef, .undef, .undef, .undef, .undef, .undef, .undef]
def ctG17 (l : List Cov) (s : List Snd) (w : List Int) (x : Snd) (A : List Snd) (N : List Int) (a1 : Nat) : PF := [covL l, sndL s, ints w, .undef, .undef, .undef, .undef, .box true [.v (.int .i64 x.day), .v (.int .i64 x.cove), .v (.int .i64 x.low), .v (.int .i64 x.high)], .undef, .undef, .undef, .undef, .undef, .undef, .undef, .undef, .undef, .undef, .undef, .undef, sndL A, .v (.int .i64 a1), ints N, .undef, .undef, .undef, .undef, .undef, .undef, .undef, .undef, .undef, .undef, .undef, .undef, .undef, .undef, .undef, .undef, .undef, .undef, .undef, .undef, .undef, .undef, .undef, .undef, .undef, .undef, .undef, .undef, .undef, .undef, .undef, .undef, .undef, .undef, .undef, .undef, .undef, .undef, .undef, .undef, .undef, .undef, .undef, .undef, .undef, .undef, .undef, .undef, .undef, .undef, .undef, .undef, .undef, .undef, .undef, .undef, .undef, .undef, .undef, .undef, .undef, .undef, .undef, .undef, .undef, .undef, .undef, .undef, .undef, .undef, .undef, .undef, .undef, .undef, .undef, .undef, .undef, .undef, .undef, .undef, .undef, .undef, .undef, .undef, .undef, .undef, .undef, .undef, .undef, .undef, .undef, .undef, .undef, .undef, .undef, .undef, .undef, .undef, .undef, .undef, .undef, .undef, .undef, .undef, .undef, .undef, .undef, .undef, .undef, .undef, .undef, .undef, .undef, .undef, .undef, .undef, .undef, .undef, .undef, .undef, .undef, .undef, .undef, .undef, .undef, .undef, .undef, .undef, .undef, .undef, .undef, .undef, .undef, .undef, .undef, .undef, .undef, .undef, .undef, .undef, .undef, .undef, .undef, .undef, .undef, .undef, .undef, .undef, .undef, .undef, .undef, .undef, .undef, .undef, .undef, .undef, .undef, .undef, .undef, .undef, .undef, .undef, .undef, .undef, .undef, .undef, .undef, .undef, .undef, .undef, .undef, .undef, .undef, .undef, .undef, .undef, .undef, .undef, .undef, .undef, .undef, .undef, .undef, .undef, .undef, .undef, .undef, .undef, .undef, .undef, .undef, .undef, .undef, .undef, .undef, .undef, .undef, .undef, .undef, .undef, .undef, .undef, .undef, .undef, .undef, .undef, .undef, .undef, .undef, .undef, .undef, .undef, .undef, .undef, .undef, .undef, .undef, .undef, .undef, .undef, .undef, .undef, .undef, .undef, .undef, .undef, .undef, .undef, .undef, .undef, .undef, .undef, .undef, .undef, .undef, .undef, .undef, .undef, .undef, .undef, .undef, .undef, .undef, .undef, .undef, .undef, .undef, .undef, .undef, .undef, .undef, .undef, .undef, .undef, .undef, .undef, .undef, .undef, .undef, .undef, .undef, .undef, .undef, .undef, .undef, .undef, .undef, .undef, .undef, .undef, .undef, .undef, .undef, .undef, .undef, .undef, .undef, .undef, .undef, .undef, .undef, .undef, .undef, .undef, .undef, .undef, .undef, .undef, .undef, .undef, .undef, .undef, .undef, .undef, .undef, .undef]
def ptsL (s : List Snd) (w : List Int) (k : Nat) : List Int := (List.range k).map fun j => partI (sndAt s j).low (sndAt s j).high (geti w j)
theorem ptsL_length (s : List Snd) (w : List Int) (k : Nat) : (ptsL s w k).length = k := by simp [ptsL]
theorem ptsL_succ (s : List Snd) (w : List Int) (k : Nat) : ptsL s w k ++ [partI (sndAt s k).low (sndAt s k).high (geti w k)] = ptsL s w (k + 1) := by simp [ptsL, List.range_succ]
theorem ptsL_get {s : List Snd} {w : List Int} {k j : Nat} (h : j < k) : geti (ptsL s w k) j = partI (sndAt s j).low (sndAt s j).high (geti w j) := by simp [ptsL, geti, h]
theorem ptsL_in {s : List Snd} {w : List Int} (hs : ∀ j, j < s.length → (sndAt s j).low ≤ (sndAt s j).high) (hw : ∀ j, j < s.length → 0 ≤ geti w j ∧ geti w j ≤ 100) : InP s (ptsL s w s.length) := fun k hk => by
  rw [ptsL_get hk]
  exact partI_in (hs k hk) (hw k hk)
theorem visits_low {l : List Cov} {s : List Snd} (h : visitsB l s = true) : ∀ j, j < s.length → 0 ≤ (sndAt s j).low ∧ (sndAt s j).low ≤ (sndAt s j).high ∧ (sndAt s j).high ≤ 100000 := fun j hj => by
  have := allN_spec.1 h j hj
  simp only [visB, Bool.and_eq_true, spanB_spec] at this
  exact this.2
theorem rowsI_rangeTake (l : List Int) (k : Nat) (h : k ≤ l.length) : (List.range k).map (fun i => [PV.v (.int .i64 (geti l i))]) = rowsI (l.take k) := by
  rw [← rowsI_range, List.length_take, Nat.min_eq_left h]
  refine List.map_congr_left fun i hi => ?_
  simp [geti, List.getElem?_take_of_lt (List.mem_range.1 hi)]
theorem rowsI_rangeDrop (l : List Int) (k : Nat) : (List.range (l.length - k)).map (fun i => [PV.v (.int .i64 (geti l (k + i)))]) = rowsI (l.drop k) := by
  rw [← rowsI_range, List.length_drop]
  refine List.map_congr_left fun i hi => ?_
  simp [geti]
theorem rowsI_app (a b : List Int) : rowsI a ++ rowsI b = rowsI (a ++ b) := by simp [rowsI]
def insI (l : List Int) (a : Nat) (v : Int) : List Int := l.take a ++ [v] ++ l.drop a
theorem insI_length (l : List Int) (a : Nat) (v : Int) (h : a ≤ l.length) : (insI l a v).length = l.length + 1 := by simp [insI]; omega
abbrev ctQ : Unit → PX → PF → Prop := fun _ x fr => (x = .normal ∨ x = .ret) ∧ ppost Try.prog 319 0 [.tmp 8] (fun out => out = .ret (.v (.bool true)) []) x fr
end Go.Qg


namespace Go.Qg
open Go.Proofs
set_option maxRecDepth 100000
set_option maxHeartbeats 200000000
attribute [local irreducible] pwp pops pdraw pop popCall pdCall thenP blockP scopeP pspec Spec answers ppost CallW XW
theorem ct17 (l : List Cov) (s : List Snd) (w : List Int) (x : Snd) (A : List Snd) (N : List Int) (a1 : Nat) (hs70 : s.length ≤ 70) (hat : a1 ≤ s.length) (hml : A.length = s.length + 1) (hNl : N.length = s.length + 1)
    (hloud : ∀ i : Nat, i < s.length + 1 → Spec Try.prog 40 [covL l, sndL A, ints N, .v (.int .i64 i)] (.v (.bool (loudB l A N i))))
    (hfit : ∀ i, a1 ≤ i → i < s.length + 1 → (sndAt A i).cove = x.cove → loudB l A N i = false)
    (B0 : Base) (hB0 : B0.lo = 319) : XW Try.prog 318 (ECtx B0) () (tlN 17 ctBody) ctQ (ctG17 l s w x A N a1) := by
  have hlo : ∀ s B, ECtx B0 s B → B.lo = 319 := fun _ _ h => h.1.trans hB0
  refine XW_seqP mixed hlo (by decide) ?_
  simp [ctG17, covL, sndL, ints]
  refine pwp_loop (fun i : Nat => [(23, .v (.int .i64 i))]) (fun i => a1 ≤ i ∧ i ≤ s.length + 1) (fun i => s.length + 1 - i) a1 ⟨Nat.le_refl _, by omega⟩ (by simp; rfl) (by simp) ?_
  intro i ⟨hi1, hi2⟩
  by_cases hil : i < s.length + 1
  · have wi := i64_wrap (show -9223372036854775808 ≤ (i : Int) + 1 ∧ _ from by omega)
    have hiA : i < A.length := by omega
    simp [hiA]
    refine pwp_draw 15 (by decide) ?_
    by_cases hq : (sndAt A i).cove = x.cove
    · have hlo := hloud i hil
      rw [hfit i hi1 hil hq] at hlo
      simp [hiA, hq, Snd.cells]
      refine pd_spec hlo (by simp [covL, sndL, ints, Snd.cells]) (by simp) (by simp [covL, sndL, ints]) rfl ?_
      simp
      refine ⟨by decide, ?_⟩
      refine again_of (i + 1) (by omega) (by omega) ?_
      simp [wi]
    · simp (config := { maxSteps := 4000000 }) [hiA, hq, Snd.cells]
      refine ⟨by decide, ?_⟩
      refine again_of (i + 1) (by omega) (by omega) ?_
      simp [wi]
  · simp [show ¬ i < A.length from by omega]
    refine XW_pwp mixed hlo (by decide) ?_
    simp
    refine pop_spec known_spec rfl false (.inl (by simp)) (.inl rfl) rfl (by simp) ?_
    simp [ctQ]
    refine ends_of (.v (.bool true)) [] [] (x := .v (.bool true)) (by simp) (by decide) ?_ ?_ rfl <;> simp
end Go.Qg


namespace Go.Qg
open Go.Proofs
set_option maxRecDepth 100000
set_option maxHeartbeats 200000000
attribute [local simp 2000] List.getElem?_cons_succ List.getElem?_cons_zero
attribute [local irreducible] pwp pops pdraw pop popCall pdCall thenP blockP scopeP pspec Spec answers ppost CallW XW
def ctG14 (l : List Cov) (s : List Snd) (w : List Int) (x : Snd) (P : List Int) (b : Bool) : PF := [covL l, sndL s, ints w, .undef, .undef, .undef, .undef, .box true [.v (.int .i64 x.day), .v (.int .i64 x.cove), .v (.int .i64 x.low), .v (.int .i64 x.high)], .undef, ints P, .undef, .undef, .undef, .undef, .undef, .v (.int .i64 (geti w s.length)), .undef, .undef, .v (.bool b), .undef, .undef, .undef, .undef, .undef, .undef, .undef, .undef, .undef, .undef, .undef, .undef, .undef, .undef, .undef, .undef, .undef, .undef, .undef, .undef, .undef, .undef, .undef, .undef, .undef, .undef, .undef, .undef, .undef, .undef, .undef, .undef, .undef, .undef, .undef, .undef, .undef, .undef, .undef, .undef, .undef, .undef, .undef, .undef, .undef, .undef, .undef, .undef, .undef, .undef, .undef, .undef, .undef, .undef, .undef, .undef, .undef, .undef, .undef, .undef, .undef, .undef, .undef, .undef, .undef, .undef, .undef, .undef, .undef, .undef, .undef, .undef, .undef, .undef, .undef, .undef, .undef, .undef, .undef, .undef, .undef, .undef, .undef, .undef, .undef, .undef, .undef, .undef, .undef, .undef, .undef, .undef, .undef, .undef, .undef, .undef, .undef, .undef, .undef, .undef, .undef, .undef, .undef, .undef, .undef, .undef, .undef, .undef, .undef, .undef, .undef, .undef, .undef, .undef, .undef, .undef, .undef, .undef, .undef, .undef, .undef, .undef, .undef, .undef, .undef, .undef, .undef, .undef, .undef, .undef, .undef, .undef, .undef, .undef, .undef, .undef, .undef, .undef, .undef, .undef, .undef, .undef, .undef, .undef, .undef, .undef, .undef, .undef, .undef, .undef, .undef, .undef, .undef, .undef, .undef, .undef, .undef, .undef, .undef, .undef, .undef, .undef, .undef, .undef, .undef, .undef, .undef, .undef, .undef, .undef, .undef, .undef, .undef, .undef, .undef, .undef, .undef, .undef, .undef, .undef, .undef, .undef, .undef, .undef, .undef, .undef, .undef, .undef, .undef, .undef, .undef, .undef, .undef, .undef, .undef, .undef, .undef, .undef, .undef, .undef, .undef, .undef, .undef, .undef, .undef, .undef, .undef, .undef, .undef, .undef, .undef, .undef, .undef, .undef, .undef, .undef, .undef, .undef, .undef, .undef, .undef, .undef, .undef, .undef, .undef, .undef, .undef, .undef, .undef, .undef, .undef, .undef, .undef, .undef, .undef, .undef, .undef, .undef, .undef, .undef, .undef, .undef, .undef, .undef, .undef, .undef, .undef, .undef, .undef, .undef, .undef, .undef, .undef, .undef, .undef, .undef, .undef, .undef, .undef, .undef, .undef, .undef, .undef, .undef, .undef, .undef, .undef, .undef, .undef, .undef, .undef, .undef, .undef, .undef, .undef, .undef, .undef, .undef, .undef, .undef, .undef, .undef, .undef, .undef, .undef, .undef, .undef, .undef, .undef, .undef, .undef, .undef, .undef, .undef, .undef, .undef, .undef, .undef, .undef, .undef]
theorem ct14 (l : List Cov) (s : List Snd) (w : List Int) (x : Snd) (P : List Int) (hl : l.length ≤ 9223372036854775807) (hs : s.length ≤ 9223372036854775807) (hc : ∀ k, k < l.length → (covAt l k).closed.length ≤ 9223372036854775807) (hwl : w.length ≤ 9223372036854775807)
    (hs70 : s.length ≤ 70) (h0 : covedE l s 1 = 0) (hw : w.length = s.length + 1) (hin : InP s P) (hpl : P.length = s.length)
    (hE : freeE l s x.cove ⟨x.low, x.high⟩ = 0) (hday : 0 ≤ x.day ∧ x.day ≤ 400) (hlast : 0 ≤ geti w s.length ∧ geti w s.length ≤ 100)
    (F : List Spn) (hF : F = spansTo (freeP l s x.cove ⟨x.low, x.high⟩) 401) (B0 : Base) (hB0 : B0.lo = 319) : XW Try.prog 318 (ECtx B0) () (tlN 14 ctBody) ctQ (ctG14 l s w x P (anyN F.length fun i => inB x.day (spnAt F i).low (spnAt F i).high)) := by
  have hlo : ∀ s B, ECtx B0 s B → B.lo = 319 := fun _ _ h => h.1.trans hB0
  have hall : (l.length ≤ 12 ∧ s.length + 1 ≤ 60) ∧ covesB l = true ∧ visitsB l s = true := by
    rcases coved_cases l s 1 with ⟨_, h⟩ | h | h
    · exact h
    · omega
    · omega
  obtain ⟨⟨n1, n2⟩, hcB, hvB⟩ := hall
  have hok := CovesOk.of hcB hvB n1 (by omega)
  have hdays := days_of hvB
  have hlow := visits_low hvB
  have hP2 : P.length = s.length := hpl
  have hfe := freeE_coved l s x.cove ⟨x.low, x.high⟩
  simp only at hfe
  have hx : (0 ≤ x.cove ∧ x.cove < l.length) ∧ 0 ≤ x.low ∧ x.low ≤ x.high ∧ x.high ≤ 100000 := by
    rw [hfe] at hE
    split at hE
    · omega
    · rename_i hh
      have h1 : ¬ x.cove < 0 := fun h => hh ⟨h0, .inl h⟩
      have h2 : ¬ (l.length : Int) ≤ x.cove := fun h => hh ⟨h0, .inr (.inl h)⟩
      have h3 : ¬ x.low < 0 := fun h => hh ⟨h0, .inr (.inr (.inl h))⟩
      have h4 : ¬ x.high < x.low := fun h => hh ⟨h0, .inr (.inr (.inr (.inl h)))⟩
      have h5 : ¬ 100000 < x.high := fun h => hh ⟨h0, .inr (.inr (.inr (.inr h)))⟩
      exact ⟨⟨by omega, by omega⟩, by omega, by omega, by omega⟩
  have hxo : (0 ≤ x.day ∧ x.day ≤ 400) ∧ (0 ≤ x.low ∧ x.low ≤ 100000) ∧ 0 ≤ x.high ∧ x.high ≤ 100000 := ⟨hday, ⟨hx.2.1, by omega⟩, by omega, by omega⟩
  have hok2 := hok.more hxo (by omega) (by omega)
  have hat := atL_le s x.day
  have hml := moreL_length s x
  have hmore := rMore_spec s x (by omega)
  have hpv := lpart_spec ⟨x.low, x.high⟩ (geti w s.length) hx.2.1 hx.2.2.1 hx.2.2.2 hlast
  simp only at hpv
  have hFi := spansTo_is (freeP l s x.cove ⟨x.low, x.high⟩) 401
  have hFl := spansTo_length (freeP l s x.cove ⟨x.low, x.high⟩) 401
  have hfit : (∃ i, i < F.length ∧ (spnAt F i).low ≤ x.day ∧ x.day ≤ (spnAt F i).high) → ∀ i, atL s x.day ≤ i → i < s.length + 1 → (sndAt (moreL s x) i).cove = x.cove → mayAt l (moreL s x) i = false := by
    rintro ⟨i, hi, h1, h2⟩ j hj1 hj2 hj3
    rw [hF] at hi h1 h2
    have ht : ((x.day.toNat : Nat) : Int) = x.day := by omega
    have := (hFi.all x.day.toNat).1 ⟨i, hi, by omega, by omega⟩
    have h3 : freeB (covAt l x.cove.toNat) (ofCove s x.cove) ⟨x.day.toNat, x.cove, x.low, x.high⟩ = true := this.2
    rw [ht] at h3
    have h4 : fitsB l s x = true := (fits_eq l hdays x).trans h3
    have h5 := allN_spec.1 h4 j hj2
    cases hm : mayAt l (moreL s x) j with
    | false => rfl
    | true => simp [hm, hj3] at h5; omega
  rw [← hF] at hFi hFl
  have heach := hFi.each
  have hapart := hFi.apart
  refine XW_seqP mixed hlo (by decide) ?_
  simp only [ctG14, covL, sndL, ints]
  by_cases hb : (anyN F.length fun i => inB x.day (spnAt F i).low (spnAt F i).high) = true
  case neg =>
    simp [hb]
    refine pop_spec known_spec rfl false (.inl (by simp)) (.inl rfl) rfl (by simp) ?_
    simp [ctQ]
    refine ends_of (.v (.bool true)) [] [] (x := .v (.bool true)) (by simp) (by decide) ?_ ?_ rfl <;> simp
  obtain ⟨i0, hi0, hi1⟩ := anyN_iff.1 hb
  rw [inB_spec] at hi1
  have hfit2 := hfit ⟨i0, hi0, hi1⟩
  simp [hb]
  refine XW_seqP mixed hlo (by decide) ?_
  simp
  refine pop_spec hmore rfl false (.inl (by simp [sndL, Snd.cells])) (.inl rfl) rfl (by simp [sndL]) ?_
  simp [sndL]
  have hv := partI_in hx.2.2.1 hlast
  have hinN : InP (moreL s x) (insI P (atL s x.day) (partI x.low x.high (geti w s.length))) := inP_more (x := x) hin hpl hv (atL s x.day) hat
  have hNl := insI_length P (atL s x.day) (partI x.low x.high (geti w s.length)) (by omega)
  obtain ⟨N, hN⟩ : ∃ N, N = insI P (atL s x.day) (partI x.low x.high (geti w s.length)) := ⟨_, rfl⟩
  rw [← hN] at hinN hNl
  have hloud := fun (i : Nat) (hi : i < s.length + 1) => loud_spec l (moreL s x) N i (by omega) hok2 hinN (by omega)
  have hno := fun (i : Nat) (hi : i < s.length + 1) (hm : mayAt l (moreL s x) i = false) => not_loud hinN (show i < (moreL s x).length by omega) hm
  have h17 := ct17 l s w x (moreL s x) N (atL s x.day) hs70 hat hml (by omega) hloud (fun i h1 h2 h3 => hno i h2 (hfit2 i h1 h2 h3)) B0 hB0
  generalize partI x.low x.high (geti w s.length) = v at *
  generalize moreL s x = A at *
  generalize atL s x.day = a1 at *
  have b1 : a1 * 8 ≤ 140737488355328 ∧ a1 ≤ maxLen := ⟨by omega, by simp only [maxLen]; omega⟩
  have b2 : (a1 + 1) * 8 ≤ 140737488355328 ∧ a1 + 1 ≤ maxLen := ⟨by omega, by simp only [maxLen]; omega⟩
  have b3 : (a1 + 1 + (s.length - a1)) * 8 ≤ 140737488355328 ∧ a1 + 1 + (s.length - a1) ≤ maxLen := ⟨by omega, by simp only [maxLen]; omega⟩
  have b6 : (1 + s.length) * 8 ≤ 140737488355328 ∧ 1 + s.length ≤ maxLen := ⟨by omega, by simp only [maxLen]; omega⟩
  have b4 : 1 ≤ maxLen := by simp [maxLen]
  have hrA : rowsI (List.take a1 P) ++ [[.v (.int .i64 v)]] = rowsI (P.take a1 ++ [v]) := rowsI_snoc _ _
  have hrB : rowsI (P.take a1 ++ [v]) ++ rowsI (P.drop a1) = rowsI N := by rw [rowsI_app, hN]; rfl
  have hNk : ∀ k, k < N.length → (rowsI N)[k]? = some [.v (.int .i64 (geti N k))] := fun k hk => rowsI_get hk
  refine XW_seqP mixed hlo (by decide) ?_
  refine pwp_draw 14 (by decide) ?_
  have hb : (0 < a1 ∧ a1 < s.length) ∨ (0 < a1 ∧ a1 = s.length) ∨ (a1 = 0 ∧ 0 < s.length) ∨ (a1 = 0 ∧ s.length = 0) := by omega
  rcases hb with ⟨c1, c2⟩ | ⟨c1, c2⟩ | ⟨c1, c2⟩ | ⟨c1, c2⟩
  · simp [c1, hat, hP2, b1, b2, b3, ints]
    refine pd_spec hpv (by simp [Spn.cells]) (by simp) (by simp [Spn.cells]) rfl ?_
    simp [c1, c2, hat, hP2, b1, b2, b3, rowsI_rangeTake P a1 (by omega)]
    refine ⟨by decide, ?_⟩
    refine XW_weak hlo ?_ h17
    have hd := rowsI_rangeDrop P a1
    rw [hP2] at hd
    have hR : List.take (a1 + 1) (rowsI (List.take a1 (List.take a1 P)) ++ [[PV.v (.int .i64 v)]]) ++ List.map (fun i => [PV.v (.int .i64 (geti P (a1 + i)))]) (List.range (s.length - a1)) = rowsI N := by
      rw [List.take_take, Nat.min_self, hrA, hd, ← hrB, List.take_of_length_le (by simp; omega)]
    simp [ctG17, covL, sndL, ints]
    refine ⟨by omega, by omega, fun k hk => ?_⟩
    rw [hR, hNk k hk]
    simp
  · simp [c1, hat, hP2, b1, b2, b3, ints]
    refine pd_spec hpv (by simp [Spn.cells]) (by simp) (by simp [Spn.cells]) rfl ?_
    have hR2 : rowsI (List.take s.length (List.take s.length P)) ++ [[PV.v (.int .i64 v)]] = rowsI N := by
      rw [List.take_take, Nat.min_self, ← c2, hrA, ← hrB, List.drop_of_length_le (by omega)]
      simp
    have hR3 : List.take (s.length + 1) (rowsI N) = rowsI N := List.take_of_length_le (by simp; omega)
    simp [c1, c2, hat, hP2, show (s.length + 1) * 8 ≤ 140737488355328 from by omega, show s.length + 1 ≤ maxLen from by simp only [maxLen]; omega, show s.length * 8 ≤ 140737488355328 from by omega, show s.length ≤ maxLen from by simp only [maxLen]; omega, rowsI_rangeTake P s.length (by omega)]
    refine ⟨by decide, ?_⟩
    refine XW_weak hlo ?_ h17
    simp [ctG17, covL, sndL, ints, c2]
    first | refine ⟨by omega, by omega, fun k hk => ?_⟩ | refine ⟨by omega, fun k hk => ?_⟩ | intro k hk
    first
      | (rw [hR2, hNk k hk]; simp)
      | (rw [hR2, hR3, hNk k hk]; simp)
  · have hR : [PV.v (.int .i64 v)] :: List.map (fun i => [PV.v (.int .i64 (geti P i))]) (List.range s.length) = rowsI N := by
      have hr := rowsI_range P
      rw [hP2] at hr
      rw [hr, hN, c1]
      simp [insI, rowsI]
    simp [c1, hat, hP2, b4, b6, ints]
    refine pd_spec hpv (by simp [Spn.cells]) (by simp) (by simp [Spn.cells]) rfl ?_
    simp [c1, c2, hat, hP2, b4, b6]
    refine ⟨by decide, ?_⟩
    refine XW_weak hlo ?_ h17
    simp [ctG17, covL, sndL, ints, c1]
    refine ⟨by omega, by omega, fun k hk => ?_⟩
    rw [hR, hNk k hk]
    simp
  · have hN0 : N = [v] := by
      rw [hN, List.eq_nil_of_length_eq_zero (hP2.trans c2)]
      simp [insI]
    simp [c1, hat, hP2, b4, b6, ints]
    refine pd_spec hpv (by simp [Spn.cells]) (by simp) (by simp [Spn.cells]) rfl ?_
    simp [c1, c2, hat, hP2, b4, b6]
    refine ⟨by decide, ?_⟩
    refine XW_weak hlo ?_ h17
    simp [ctG17, covL, sndL, ints, c1, c2, hN0, geti]
end Go.Qg


namespace Go.Qg
open Go.Proofs
set_option maxRecDepth 100000
set_option maxHeartbeats 200000000
attribute [local simp 2000] List.getElem?_cons_succ List.getElem?_cons_zero
attribute [local irreducible] pwp pops pdraw pop popCall pdCall thenP blockP scopeP pspec Spec answers ppost CallW XW
theorem ct11 (l : List Cov) (s : List Snd) (w : List Int) (x : Snd) (P : List Int) (hl : l.length ≤ 9223372036854775807) (hs : s.length ≤ 9223372036854775807) (hc : ∀ k, k < l.length → (covAt l k).closed.length ≤ 9223372036854775807) (hwl : w.length ≤ 9223372036854775807)
    (hs70 : s.length ≤ 70) (h0 : covedE l s 1 = 0) (hw : w.length = s.length + 1) (hin : InP s P) (hpl : P.length = s.length)
    (hE : freeE l s x.cove ⟨x.low, x.high⟩ = 0) (hday : 0 ≤ x.day ∧ x.day ≤ 400) (hlast : 0 ≤ geti w s.length ∧ geti w s.length ≤ 100)
    (B0 : Base) (hB0 : B0.lo = 319) : XW Try.prog 318 (ECtx B0) () (tlN 11 ctBody) ctQ (ctG11 l s w x P (spansTo (freeP l s x.cove ⟨x.low, x.high⟩) 401)) := by
  have hlo : ∀ s B, ECtx B0 s B → B.lo = 319 := fun _ _ h => h.1.trans hB0
  have hall : (l.length ≤ 12 ∧ s.length + 1 ≤ 60) ∧ covesB l = true ∧ visitsB l s = true := by
    rcases coved_cases l s 1 with ⟨_, h⟩ | h | h
    · exact h
    · omega
    · omega
  obtain ⟨⟨n1, n2⟩, hcB, hvB⟩ := hall
  have hok := CovesOk.of hcB hvB n1 (by omega)
  have hdays := days_of hvB
  have hlow := visits_low hvB
  have hP2 : P.length = s.length := hpl
  have hfe := freeE_coved l s x.cove ⟨x.low, x.high⟩
  simp only at hfe
  have hx : (0 ≤ x.cove ∧ x.cove < l.length) ∧ 0 ≤ x.low ∧ x.low ≤ x.high ∧ x.high ≤ 100000 := by
    rw [hfe] at hE
    split at hE
    · omega
    · rename_i hh
      have h1 : ¬ x.cove < 0 := fun h => hh ⟨h0, .inl h⟩
      have h2 : ¬ (l.length : Int) ≤ x.cove := fun h => hh ⟨h0, .inr (.inl h)⟩
      have h3 : ¬ x.low < 0 := fun h => hh ⟨h0, .inr (.inr (.inl h))⟩
      have h4 : ¬ x.high < x.low := fun h => hh ⟨h0, .inr (.inr (.inr (.inl h)))⟩
      have h5 : ¬ 100000 < x.high := fun h => hh ⟨h0, .inr (.inr (.inr (.inr h)))⟩
      exact ⟨⟨by omega, by omega⟩, by omega, by omega, by omega⟩
  have hxo : (0 ≤ x.day ∧ x.day ≤ 400) ∧ (0 ≤ x.low ∧ x.low ≤ 100000) ∧ 0 ≤ x.high ∧ x.high ≤ 100000 := ⟨hday, ⟨hx.2.1, by omega⟩, by omega, by omega⟩
  have hok2 := hok.more hxo (by omega) (by omega)
  have hat := atL_le s x.day
  have hml := moreL_length s x
  have hmore := rMore_spec s x (by omega)
  have hpv := lpart_spec ⟨x.low, x.high⟩ (geti w s.length) hx.2.1 hx.2.2.1 hx.2.2.2 hlast
  simp only at hpv
  obtain ⟨F, hF⟩ : ∃ F, F = spansTo (freeP l s x.cove ⟨x.low, x.high⟩) 401 := ⟨_, rfl⟩
  have hFi := spansTo_is (freeP l s x.cove ⟨x.low, x.high⟩) 401
  have hFl := spansTo_length (freeP l s x.cove ⟨x.low, x.high⟩) 401
  have hfit : (∃ i, i < F.length ∧ (spnAt F i).low ≤ x.day ∧ x.day ≤ (spnAt F i).high) → ∀ i, atL s x.day ≤ i → i < s.length + 1 → (sndAt (moreL s x) i).cove = x.cove → mayAt l (moreL s x) i = false := by
    rintro ⟨i, hi, h1, h2⟩ j hj1 hj2 hj3
    rw [hF] at hi h1 h2
    have ht : ((x.day.toNat : Nat) : Int) = x.day := by omega
    have := (hFi.all x.day.toNat).1 ⟨i, hi, by omega, by omega⟩
    have h3 : freeB (covAt l x.cove.toNat) (ofCove s x.cove) ⟨x.day.toNat, x.cove, x.low, x.high⟩ = true := this.2
    rw [ht] at h3
    have h4 : fitsB l s x = true := (fits_eq l hdays x).trans h3
    have h5 := allN_spec.1 h4 j hj2
    cases hm : mayAt l (moreL s x) j with
    | false => rfl
    | true => simp [hm, hj3] at h5; omega
  rw [← hF] at hFi hFl
  have heach := hFi.each
  have hapart := hFi.apart
  rw [← hF]
  refine XW_seqP mixed hlo (by decide) ?_
  simp [ctG11, covL, sndL, ints, spnL]
  refine XW_seqP mixed hlo (by decide) ?_
  simp
  refine XW_seqP mixed hlo (by decide) ?_
  simp
  refine pwp_loop (fun k : Nat => [(18, .v (.bool (anyN k fun i => inB x.day (spnAt F i).low (spnAt F i).high))), (19, .v (.int .i64 k))]) (fun k => k ≤ F.length) (fun k => F.length - k) 0 (Nat.zero_le _) (by simp; rfl) (by simp [anyN, idxN]) ?_
  intro k hk
  by_cases hkl : k < F.length
  · have wk := i64_wrap (show -9223372036854775808 ≤ (k : Int) + 1 ∧ _ from by omega)
    have he := heach k hkl
    have hsucc := anyN_succ k fun i => inB x.day (spnAt F i).low (spnAt F i).high
    have hlo : ¬ (spnAt F k).high < (spnAt F k).low := by omega
    simp [hkl]
    refine pwp_draw 21 (by decide) ?_
    have hbr : (anyN k fun i => inB x.day (spnAt F i).low (spnAt F i).high) = true ∨ (anyN k fun i => inB x.day (spnAt F i).low (spnAt F i).high) = false ∧ ((spnAt F k).low ≤ x.day ∧ x.day ≤ (spnAt F k).high ∨ (spnAt F k).low ≤ x.day ∧ ¬ x.day ≤ (spnAt F k).high ∨ ¬ (spnAt F k).low ≤ x.day) := by
      cases (anyN k fun i => inB x.day (spnAt F i).low (spnAt F i).high)
      · exact .inr ⟨rfl, by omega⟩
      · exact .inl rfl
    rcases hbr with hb | ⟨hb, hq⟩
    rotate_left
    rcases hq with ⟨q1, q2⟩ | ⟨q1, q2⟩ | q1
    rotate_right
    case' inl =>
      have hn : (anyN (k + 1) fun i => inB x.day (spnAt F i).low (spnAt F i).high) = true := by rw [hsucc, hb]; rfl
      simp (config := { maxSteps := 10000000 }) [hb]
    case' inr.inl =>
      have hn : (anyN (k + 1) fun i => inB x.day (spnAt F i).low (spnAt F i).high) = true := by rw [hsucc, hb]; simp [inB, q1, q2]
      simp (config := { maxSteps := 10000000 }) [hb, hkl, Spn.cells, q1, q2]
    case' inr.inr.inl =>
      have hn : (anyN (k + 1) fun i => inB x.day (spnAt F i).low (spnAt F i).high) = false := by rw [hsucc, hb]; simp [inB, q1, q2]
      simp (config := { maxSteps := 10000000 }) [hb, hkl, Spn.cells, q1, q2]
    case' inr.inr.inr =>
      have hn : (anyN (k + 1) fun i => inB x.day (spnAt F i).low (spnAt F i).high) = false := by rw [hsucc, hb]; simp [inB, q1]
      simp (config := { maxSteps := 10000000 }) [hb, hkl, Spn.cells, q1]
    all_goals
      refine ⟨by decide, ?_⟩
      refine pwp_draw 30 (by decide) ?_
      by_cases k0 : 0 < k
      · have e3 : IntKind.i64.wrap ((k : Int) - 1) = ((k - 1 : Nat) : Int) := by rw [i64_wrap (by omega)]; omega
        have hap := hapart (k - 1) (by omega)
        rw [show k - 1 + 1 = k from by omega] at hap
        have hep := heach (k - 1) (by omega)
        have w5 := i64_wrap (show -9223372036854775808 ≤ (spnAt F (k - 1)).high + 1 ∧ _ from by omega)
        simp (config := { maxSteps := 20000000 }) [hkl, Spn.cells, hlo, Int.not_lt.1 hlo, k0, e3, show k - 1 < F.length from by omega, w5, show ¬ (spnAt F k).low ≤ (spnAt F (k - 1)).high + 1 from by omega]
        refine ⟨by decide, ?_⟩
        refine again_of (k + 1) (by omega) (by omega) ?_
        simp [wk, hn]
      · obtain rfl : k = 0 := by omega
        simp (config := { maxSteps := 20000000 }) [hkl, Spn.cells, hlo, Int.not_lt.1 hlo]
        refine ⟨by decide, ?_⟩
        refine again_of 1 (by omega) (by omega) ?_
        simp [wk, hn]
  · obtain rfl : k = F.length := by omega
    simp
    refine XW_weak hlo ?_ (ct14 l s w x P hl hs hc hwl hs70 h0 hw hin hpl hE hday hlast F hF B0 hB0)
    simp [ctG14, covL, sndL, ints, spnL]
end Go.Qg


namespace Go.Qg
open Go.Proofs
set_option maxRecDepth 100000
set_option maxHeartbeats 200000000
attribute [local simp 2000] List.getElem?_cons_succ List.getElem?_cons_zero
attribute [local irreducible] pwp pops pdraw pop popCall pdCall thenP blockP scopeP pspec Spec answers ppost CallW XW
theorem ct9 (l : List Cov) (s : List Snd) (w : List Int) (x : Snd) (P : List Int) (hl : l.length ≤ 9223372036854775807) (hs : s.length ≤ 9223372036854775807) (hc : ∀ k, k < l.length → (covAt l k).closed.length ≤ 9223372036854775807) (hwl : w.length ≤ 9223372036854775807)
    (hs70 : s.length ≤ 70) (h0 : covedE l s 1 = 0) (hw : w.length = s.length + 1) (hin : InP s P) (hpl : P.length = s.length)
    (B0 : Base) (hB0 : B0.lo = 319) : XW Try.prog 318 (ECtx B0) () (tlN 9 ctBody) ctQ (ctG9 l s w x P) := by
  have hlo : ∀ s B, ECtx B0 s B → B.lo = 319 := fun _ _ h => h.1.trans hB0
  have hall : (l.length ≤ 12 ∧ s.length + 1 ≤ 60) ∧ covesB l = true ∧ visitsB l s = true := by
    rcases coved_cases l s 1 with ⟨_, h⟩ | h | h
    · exact h
    · omega
    · omega
  obtain ⟨⟨n1, n2⟩, hcB, hvB⟩ := hall
  have hok := CovesOk.of hcB hvB n1 (by omega)
  have hdays := days_of hvB
  have hlow := visits_low hvB
  have hP2 : P.length = s.length := hpl
  have hfe := freeE_coved l s x.cove ⟨x.low, x.high⟩
  simp only at hfe
  have hfree := Free_spec l s x.cove ⟨x.low, x.high⟩ hl hs hc
  unfold freeRes at hfree
  refine XW_seqP mixed hlo (by decide) ?_
  by_cases d0 : x.day < 0
  · have n0 : ¬ (0 ≤ x.day) := by omega
    simp (config := { maxSteps := 10000000 }) [ctG9, covL, d0, n0]
    refine pop_spec known_spec rfl false (.inl (by simp)) (.inl rfl) rfl (by simp) ?_
    simp [ctQ]
    refine ends_of (.v (.bool true)) [] [] (x := .v (.bool true)) (by simp) (by decide) ?_ ?_ rfl <;> simp
  have n0 : 0 ≤ x.day := by omega
  by_cases d1 : 400 < x.day
  · have n1 : ¬ (x.day ≤ 400) := by omega
    simp (config := { maxSteps := 10000000 }) [ctG9, covL, d0, n0, d1, n1]
    refine pop_spec known_spec rfl false (.inl (by simp)) (.inl rfl) rfl (by simp) ?_
    simp [ctQ]
    refine ends_of (.v (.bool true)) [] [] (x := .v (.bool true)) (by simp) (by decide) ?_ ?_ rfl <;> simp
  have n1 : x.day ≤ 400 := by omega
  by_cases d2 : x.cove < 0
  · have n2 : ¬ (0 ≤ x.cove) := by omega
    simp (config := { maxSteps := 10000000 }) [ctG9, covL, d0, n0, d1, n1, d2, n2]
    refine pop_spec known_spec rfl false (.inl (by simp)) (.inl rfl) rfl (by simp) ?_
    simp [ctQ]
    refine ends_of (.v (.bool true)) [] [] (x := .v (.bool true)) (by simp) (by decide) ?_ ?_ rfl <;> simp
  have n2 : 0 ≤ x.cove := by omega
  by_cases d3 : (l.length : Int) ≤ x.cove
  · have n3 : ¬ (x.cove < l.length) := by omega
    simp (config := { maxSteps := 10000000 }) [ctG9, covL, d0, n0, d1, n1, d2, n2, d3, n3]
    refine pop_spec known_spec rfl false (.inl (by simp)) (.inl rfl) rfl (by simp) ?_
    simp [ctQ]
    refine ends_of (.v (.bool true)) [] [] (x := .v (.bool true)) (by simp) (by decide) ?_ ?_ rfl <;> simp
  have n3 : x.cove < l.length := by omega
  by_cases d4 : x.low < 0
  · have n4 : ¬ (0 ≤ x.low) := by omega
    simp (config := { maxSteps := 10000000 }) [ctG9, covL, d0, n0, d1, n1, d2, n2, d3, n3, d4, n4]
    refine pop_spec known_spec rfl false (.inl (by simp)) (.inl rfl) rfl (by simp) ?_
    simp [ctQ]
    refine ends_of (.v (.bool true)) [] [] (x := .v (.bool true)) (by simp) (by decide) ?_ ?_ rfl <;> simp
  have n4 : 0 ≤ x.low := by omega
  by_cases d5 : x.high < x.low
  · have n5 : ¬ (x.low ≤ x.high) := by omega
    simp (config := { maxSteps := 10000000 }) [ctG9, covL, d0, n0, d1, n1, d2, n2, d3, n3, d4, n4, d5, n5]
    refine pop_spec known_spec rfl false (.inl (by simp)) (.inl rfl) rfl (by simp) ?_
    simp [ctQ]
    refine ends_of (.v (.bool true)) [] [] (x := .v (.bool true)) (by simp) (by decide) ?_ ?_ rfl <;> simp
  have n5 : x.low ≤ x.high := by omega
  by_cases d6 : 100000 < x.high
  · have n6 : ¬ (x.high ≤ 100000) := by omega
    simp (config := { maxSteps := 10000000 }) [ctG9, covL, d0, n0, d1, n1, d2, n2, d3, n3, d4, n4, d5, n5, d6, n6]
    refine pop_spec known_spec rfl false (.inl (by simp)) (.inl rfl) rfl (by simp) ?_
    simp [ctQ]
    refine ends_of (.v (.bool true)) [] [] (x := .v (.bool true)) (by simp) (by decide) ?_ ?_ rfl <;> simp
  have n6 : x.high ≤ 100000 := by omega
  by_cases d7 : geti w s.length < 0
  · have n7 : ¬ (0 ≤ geti w s.length) := by omega
    simp (config := { maxSteps := 10000000 }) [ctG9, covL, d0, n0, d1, n1, d2, n2, d3, n3, d4, n4, d5, n5, d6, n6, d7, n7]
    refine pop_spec known_spec rfl false (.inl (by simp)) (.inl rfl) rfl (by simp) ?_
    simp [ctQ]
    refine ends_of (.v (.bool true)) [] [] (x := .v (.bool true)) (by simp) (by decide) ?_ ?_ rfl <;> simp
  have n7 : 0 ≤ geti w s.length := by omega
  by_cases d8 : 100 < geti w s.length
  · have n8 : ¬ (geti w s.length ≤ 100) := by omega
    simp (config := { maxSteps := 10000000 }) [ctG9, covL, d0, n0, d1, n1, d2, n2, d3, n3, d4, n4, d5, n5, d6, n6, d7, n7, d8, n8]
    refine pop_spec known_spec rfl false (.inl (by simp)) (.inl rfl) rfl (by simp) ?_
    simp [ctQ]
    refine ends_of (.v (.bool true)) [] [] (x := .v (.bool true)) (by simp) (by decide) ?_ ?_ rfl <;> simp
  have n8 : geti w s.length ≤ 100 := by omega
  simp (config := { maxSteps := 10000000 }) [ctG9, covL, d0, n0, d1, n1, d2, n2, d3, n3, d4, n4, d5, n5, d6, n6, d7, n7, d8, n8]
  have hE : freeE l s x.cove ⟨x.low, x.high⟩ = 0 := by rw [hfe, if_neg (by omega)]; exact h0
  have h11 := ct11 l s w x P hl hs hc hwl hs70 h0 hw hin hpl hE ⟨by omega, by omega⟩ ⟨by omega, by omega⟩ B0 hB0
  refine XW_seqP mixed hlo (by decide) ?_
  simp
  refine pop_spec hfree rfl false (.inl (by simp [covL, sndL, Spn.cells])) (.inl rfl) rfl (by simp [spnL]) ?_
  simp [hE, spnL]
  refine XW_weak hlo ?_ h11
  simp [ctG11, covL, sndL, ints, spnL]
theorem ct7 (l : List Cov) (s : List Snd) (w : List Int) (x : Snd) (P : List Int) (hl : l.length ≤ 9223372036854775807) (hs : s.length ≤ 9223372036854775807) (hc : ∀ k, k < l.length → (covAt l k).closed.length ≤ 9223372036854775807) (hwl : w.length ≤ 9223372036854775807)
    (hs70 : s.length ≤ 70) (h0 : covedE l s 1 = 0) (hw : w.length = s.length + 1) (hin : InP s P) (hpl : P.length = s.length) (a b : Int) (hb : b < 0 ∨ ∃ bi : Nat, b = bi ∧ bi < s.length ∧ loudB l s P bi = true)
    (B0 : Base) (hB0 : B0.lo = 319) : XW Try.prog 318 (ECtx B0) () (tlN 7 ctBody) ctQ (ctG7 l s w x P a b) := by
  have hlo : ∀ s B, ECtx B0 s B → B.lo = 319 := fun _ _ h => h.1.trans hB0
  have hall : (l.length ≤ 12 ∧ s.length + 1 ≤ 60) ∧ covesB l = true ∧ visitsB l s = true := by
    rcases coved_cases l s 1 with ⟨_, h⟩ | h | h
    · exact h
    · omega
    · omega
  obtain ⟨⟨n1, n2⟩, hcB, hvB⟩ := hall
  have hok := CovesOk.of hcB hvB n1 (by omega)
  have hdays := days_of hvB
  have hlow := visits_low hvB
  have hP2 : P.length = s.length := hpl
  have hfe := freeE_coved l s x.cove ⟨x.low, x.high⟩
  simp only at hfe
  have h9 := ct9 l s w x P hl hs hc hwl hs70 h0 hw hin hpl B0 hB0
  have e0 : (w.length : Int) = (s.length : Int) + 1 := by omega
  have e1 : s.length < w.length := by omega
  have e2 : IntKind.i64.wrap (s.length : Int) = (s.length : Int) := i64_wrap (by omega)
  have e4 : (s.length : Int) < (s.length : Int) + 1 := by omega
  refine XW_seqP mixed hlo (by decide) ?_
  rcases hb with b0 | ⟨bi, hbi, hbl, hbt⟩
  · simp (config := { maxSteps := 10000000 }) [ctG7, b0, show ¬ 0 ≤ b from by omega]
    refine XW_seqP mixed hlo (by decide) ?_
    simp [ints, e0, e1, e2, e4]
    refine XW_weak hlo ?_ h9
    simp [ctG9, covL, sndL, ints]
  · have hlb := loud_spec l s P bi hbl hok hin hpl.symm
    rw [hbt, ← hbi] at hlb
    simp (config := { maxSteps := 10000000 }) [ctG7, show 0 ≤ b from by omega, show ¬ b < 0 from by omega]
    refine pop_spec hlb rfl false (.inl (by simp [covL, sndL, ints, hP2])) (.inl rfl) rfl (by simp) ?_
    simp
    refine XW_seqP mixed hlo (by decide) ?_
    simp [ints, e0, e1, e2, e4]
    refine XW_weak hlo ?_ h9
    simp [ctG9, covL, sndL, ints]
end Go.Qg


namespace Go.Qg
open Go.Proofs
set_option maxRecDepth 100000
set_option maxHeartbeats 200000000
attribute [local simp 2000] List.getElem?_cons_succ List.getElem?_cons_zero
attribute [local irreducible] pwp pops pdraw pop popCall pdCall thenP blockP scopeP pspec Spec answers ppost CallW XW
theorem CacheTrue_spec (l : List Cov) (s : List Snd) (w : List Int) (x : Snd) (hl : l.length ≤ 9223372036854775807) (hs : s.length ≤ 9223372036854775807) (hc : ∀ k, k < l.length → (covAt l k).closed.length ≤ 9223372036854775807) (hwl : w.length ≤ 9223372036854775807) :
    Spec Try.prog 8 [covL l, sndL s, ints w, .agg x.cells] (.v (.bool true)) := by
  have hquiet := Quiet_spec l s hl hs hc
  unfold Spec
  refine callW_ofE Try.func8 (by decide) rfl (congrArg Array.toList Try.results8) Try.ntmps8 319 (by simp) (by decide) fun B0 hB0 hD0 => ?_
  have hlo : ∀ s B, ECtx B0 s B → B.lo = 319 := fun _ _ h => h.1.trans hB0
  refine XW_seqP mixed hlo (by decide) ?_
  simp [covL, sndL, ints, show x.cells = [.v (.int .i64 x.day), .v (.int .i64 x.cove), .v (.int .i64 x.low), .v (.int .i64 x.high)] from rfl]
  refine XW_seqP mixed hlo (by decide) ?_
  simp [covL, sndL, ints]
  refine pop_spec (lmild_spec l s hl) rfl false (.inl (by simp [covL, sndL])) (.inl rfl) rfl (by simp) ?_
  cases g1 : mildB l s with
  | false =>
    simp
    refine pop_spec known_spec rfl false (.inl (by simp)) (.inl rfl) rfl (by simp) ?_
    simp
    refine ends_of (.v (.bool true)) [] [] (x := .v (.bool true)) (by simp) (by decide) ?_ ?_ rfl <;> simp
  | true =>
    have hs70 : s.length ≤ 70 := by
      simp only [mildB, Bool.and_eq_true, decide_eq_true_eq] at g1; exact g1.2
    simp
    refine pop_spec (lcoved_spec l s 1 (by omega) hl (by omega) hc) rfl false (.inl (by simp [covL, sndL])) (.inl rfl) rfl (by simp) ?_
    by_cases h0 : covedE l s 1 = 0
    case neg =>
      simp [h0]
      refine pop_spec known_spec rfl false (.inl (by simp)) (.inl rfl) rfl (by simp) ?_
      simp
      refine ends_of (.v (.bool true)) [] [] (x := .v (.bool true)) (by simp) (by decide) ?_ ?_ rfl <;> simp
    have hall : (l.length ≤ 12 ∧ s.length + 1 ≤ 60) ∧ covesB l = true ∧ visitsB l s = true := by
      rcases coved_cases l s 1 with ⟨_, h⟩ | h | h
      · exact h
      · omega
      · omega
    obtain ⟨⟨n1, n2⟩, hcB, hvB⟩ := hall
    have hok := CovesOk.of hcB hvB n1 (by omega)
    have hdays := days_of hvB
    have hlow := visits_low hvB
    have w1 := i64_wrap (show -9223372036854775808 ≤ (s.length : Int) + 1 ∧ _ from by omega)
    by_cases hw : w.length = s.length + 1
    case neg =>
      simp [h0, w1, show ¬ (w.length : Int) = (s.length : Int) + 1 from by omega]
      refine pop_spec known_spec rfl false (.inl (by simp)) (.inl rfl) rfl (by simp) ?_
      simp
      refine ends_of (.v (.bool true)) [] [] (x := .v (.bool true)) (by simp) (by decide) ?_ ?_ rfl <;> simp
    simp [h0, w1, show (w.length : Int) = (s.length : Int) + 1 from by omega]
    refine XW_seqP mixed hlo (by decide) ?_
    simp
    refine XW_seqP mixed hlo (by decide) ?_
    simp
    refine pwp_loop (fun k : Nat => [(9, .own 318 k 0 k false), (10, .v (.int .i64 k)), (73, .undef), (74, .undef), (318, .rows none k 3 1 (rowsI (ptsL s w k)))]) (fun k => k ≤ s.length ∧ ∀ j, j < k → 0 ≤ geti w j ∧ geti w j ≤ 100) (fun k => s.length - k) 0 ⟨Nat.zero_le _, fun j hj => by omega⟩ (by simp; rfl) (by simp [ptsL]) ?_
    intro k ⟨hk, hp⟩
    by_cases hkl : k < s.length
    · have wk := i64_wrap (show -9223372036854775808 ≤ (k : Int) + 1 ∧ _ from by omega)
      by_cases q1 : geti w k < 0
      · simp [hkl, show k < w.length from by omega, q1]
        refine pop_spec known_spec rfl false (.inl (by simp)) (.inl rfl) rfl (by simp) ?_
        simp
        refine ends_of (.v (.bool true)) [] [] (x := .v (.bool true)) (by simp) (by decide) ?_ ?_ rfl <;> simp
      by_cases q2 : 100 < geti w k
      · simp [hkl, show k < w.length from by omega, q1, Int.not_lt.1 q1, q2]
        refine pop_spec known_spec rfl false (.inl (by simp)) (.inl rfl) rfl (by simp) ?_
        simp
        refine ends_of (.v (.bool true)) [] [] (x := .v (.bool true)) (by simp) (by decide) ?_ ?_ rfl <;> simp
      have hlk := hlow k hkl
      have hpart := lpart_spec ⟨(sndAt s k).low, (sndAt s k).high⟩ (geti w k) hlk.1 hlk.2.1 hlk.2.2 (by omega)
      simp only at hpart
      simp [hkl, show k < w.length from by omega, q1, Int.not_lt.1 q1, q2, Int.not_lt.1 q2]
      refine pwp_draw 13 (by decide) ?_
      simp [hkl, show k < w.length from by omega, Snd.cells]
      refine pd_spec hpart (by simp [Spn.cells]) (by simp) (by simp [Spn.cells]) rfl ?_
      simp [ptsL_length, show (k + 1) * 8 ≤ 140737488355328 from by omega, show k + 1 ≤ maxLen from by simp [maxLen]; omega]
      refine ⟨by decide, ?_⟩
      refine again_of (k + 1) ⟨by omega, fun j hj => ?_⟩ (by omega) ?_
      · rcases Nat.lt_or_eq_of_le (Nat.le_of_lt_succ hj) with h' | rfl
        · exact hp j h'
        · omega
      · have er := rowsI_snoc (ptsL s w k) (partI (sndAt s k).low (sndAt s k).high (geti w k))
        rw [ptsL_succ] at er
        have et : List.take k (ptsL s w k) = ptsL s w k := List.take_of_length_le (by rw [ptsL_length]; exact Nat.le_refl _)
        simp [wk, er, et]
    · obtain rfl : k = s.length := by omega
      have hin := ptsL_in (fun j hj => (hlow j hj).2.1) hp
      have hpl := ptsL_length s w s.length
      have hres : quietRes l s = .tup [.v (.int .i64 (firstK (mayAt l s) s.length)), .v (.int .i64 (firstK (sureAt l s) s.length)), .v (.int .i64 0)] := by
        have hq : quietB l s = 0 := by simp [quietB, hcB, hvB]; omega
        simp [quietRes, hq]
      rw [hres] at hquiet
      generalize hP : ptsL s w s.length = P at hin hpl
      have hA := firstK_spec (mayAt l s) s.length
      have hB := firstK_spec (sureAt l s) s.length
      have hab : firstK (sureAt l s) s.length = -1 ∨ 0 ≤ firstK (mayAt l s) s.length ∧ firstK (mayAt l s) s.length ≤ firstK (sureAt l s) s.length := by
        rcases hB with ⟨e, _⟩ | ⟨j, e, hj, hj2, _⟩
        · exact .inl e
        · have hm := sure_may hin hj hj2
          rcases hA with ⟨_, e2⟩ | ⟨i, e2, _, _, e3⟩
          · rw [e2 j hj] at hm; cases hm
          · refine .inr ?_
            rw [e, e2]
            refine ⟨by omega, ?_⟩
            rcases Nat.lt_or_ge j i with h | h
            · rw [e3 j h] at hm; cases hm
            · omega
      have hquiet' : ∀ i, i < s.length → (firstK (mayAt l s) s.length < 0 ∨ (i : Int) < firstK (mayAt l s) s.length) → loudB l s P i = false := fun i hi h => by
        refine not_loud hin hi ?_
        rcases hA with ⟨_, e2⟩ | ⟨j, e2, _, _, e3⟩
        · exact e2 i hi
        · exact e3 i (by omega)
      have hloud' : ∀ i : Nat, firstK (sureAt l s) s.length = i → i < s.length ∧ loudB l s P i = true := fun i hi => by
        rcases hB with ⟨e, _⟩ | ⟨j, e, hj, hj2, _⟩
        · omega
        · obtain rfl : j = i := by omega
          exact ⟨hj, is_loud hin hj hj2⟩
      have ha1 : -1 ≤ firstK (mayAt l s) s.length ∧ firstK (mayAt l s) s.length < s.length := by rcases hA with ⟨e, _⟩ | ⟨j, e, hj, _⟩ <;> omega
      have hb1 : -1 ≤ firstK (sureAt l s) s.length ∧ firstK (sureAt l s) s.length < s.length := by rcases hB with ⟨e, _⟩ | ⟨j, e, hj, _⟩ <;> omega
      generalize firstK (mayAt l s) s.length = a at *
      generalize firstK (sureAt l s) s.length = b at *
      simp
      refine XW_seqP mixed hlo (by decide) ?_
      simp
      refine pop_specF [(9, ints P), (318, .undef), (41, .undef), (42, .undef)] ?_ hquiet rfl false (.inl (by simp [covL, sndL])) (.inl rfl) rfl (by simp) ?_
      · simp [ints, hpl, hP]
        intro k hk
        rw [rowsI_get (by omega)]
        simp
      have hP2 : P.length = s.length := hpl
      have loud := fun (i : Nat) (hi : i < s.length) => loud_spec l s P i hi hok hin hpl.symm
      have h7 := ct7 l s w x P hl hs hc hwl hs70 h0 hw hin hpl a b (by
        by_cases hbn : b < 0
        · exact .inl hbn
        · exact .inr ⟨b.toNat, by omega, hloud' b.toNat (by omega)⟩) B0 hB0
      simp
      refine XW_seqP mixed hlo (by decide) ?_
      by_cases a0 : a < 0
      · have b0 : b < 0 := by omega
        simp [ints, hP2, a0, b0, show ¬ a < -1 from by omega, show -1 ≤ a from by omega, show ¬ (s.length : Int) ≤ a from by omega, show a < (s.length : Int) from by omega, show ¬ b < -1 from by omega, show -1 ≤ b from by omega, show ¬ (s.length : Int) ≤ b from by omega, show b < (s.length : Int) from by omega, show ¬ 0 ≤ b from by omega, show ¬ 0 ≤ a from by omega]
        refine XW_seqP mixed hlo (by decide) ?_
        simp
        refine pwp_loop (fun k : Nat => [(14, .v (.int .i64 k))]) (fun k => k ≤ s.length) (fun k => s.length - k) 0 (Nat.zero_le _) (by simp; rfl) (by simp) ?_
        intro k hk
        by_cases hkl : k < s.length
        · have wk := i64_wrap (show -9223372036854775808 ≤ (k : Int) + 1 ∧ _ from by omega)
          have hlk := loud k hkl
          rw [hquiet' k hkl (.inl a0)] at hlk
          simp [hkl, a0, show ¬ 0 ≤ a from by omega]
          refine pop_spec hlk rfl false (.inl (by simp [covL, sndL, ints, hP2])) (.inl rfl) rfl (by simp) ?_
          simp
          refine again_of (k + 1) (by omega) (by omega) ?_
          simp [wk]
        · obtain rfl : k = s.length := by omega
          simp
          refine XW_weak hlo ?_ h7
          simp [ctG7, covL, sndL, ints, hP2]
      · have hbb : b < 0 ∨ 0 ≤ b ∧ a ≤ b := by omega
        rcases hbb with b0 | ⟨b0, b1⟩
        case' inl => simp [ints, hP2, a0, b0, show ¬ a < -1 from by omega, show -1 ≤ a from by omega, show ¬ (s.length : Int) ≤ a from by omega, show a < (s.length : Int) from by omega, show ¬ b < -1 from by omega, show -1 ≤ b from by omega, show ¬ (s.length : Int) ≤ b from by omega, show b < (s.length : Int) from by omega, show ¬ 0 ≤ b from by omega, show 0 ≤ a from by omega]
        case' inr => simp [ints, hP2, a0, b0, b1, show ¬ a < -1 from by omega, show -1 ≤ a from by omega, show ¬ (s.length : Int) ≤ a from by omega, show a < (s.length : Int) from by omega, show ¬ b < -1 from by omega, show -1 ≤ b from by omega, show ¬ (s.length : Int) ≤ b from by omega, show b < (s.length : Int) from by omega, show ¬ b < 0 from by omega, show ¬ b < a from by omega, show 0 ≤ a from by omega]
        all_goals
          refine XW_seqP mixed hlo (by decide) ?_
          simp
          refine pwp_loop (fun k : Nat => [(14, .v (.int .i64 k))]) (fun k => (k : Int) ≤ a) (fun k => s.length - k) 0 (by omega) (by simp; rfl) (by simp) ?_
          intro k hk
          have hkl : k < s.length := by omega
          by_cases hka : (k : Int) < a
          · have wk := i64_wrap (show -9223372036854775808 ≤ (k : Int) + 1 ∧ _ from by omega)
            have hlk := loud k hkl
            rw [hquiet' k hkl (.inr hka)] at hlk
            simp [hkl, a0, Int.not_lt.1 a0, hka]
            refine pop_spec hlk rfl false (.inl (by simp [covL, sndL, ints, hP2])) (.inl rfl) rfl (by simp) ?_
            simp
            refine again_of (k + 1) (by omega) (by omega) ?_
            simp [wk]
          · simp [hkl, a0, Int.not_lt.1 a0, hka, show a ≤ (k : Int) from by omega]
            refine XW_weak hlo ?_ h7
            simp [ctG7, covL, sndL, ints, hP2]
end Go.Qg


namespace Go.Proofs.Ythfdpekgbdjniaa.lawCacheTrue
open Go.Qg Go.ChangeAt Go.RowKit
set_option maxRecDepth 100000
theorem spec (args : List PV) (hl : Try.f8.params.toList.length = args.length) (h : ∀ (j : Nat) t p, Try.f8.params.toList[j]? = some t → args[j]? = some p → ArgP Try.prog 6 t p) : Qg.Spec Try.prog 8 args (.v (.bool true)) := by
  rw [Try.params8] at hl h
  match args, hl with
  | [a0, a1, a2, a3], _ =>
    obtain ⟨l, rfl, llen, lfit⟩ := a_covs (h 0 _ a0 rfl rfl)
    obtain ⟨s, rfl, slen, _⟩ := a_snds (h 1 _ a1 rfl rfl)
    obtain ⟨w, rfl, wlen, wok⟩ := a_ints (h 2 _ a2 rfl rfl)
    obtain ⟨x, rfl, _⟩ := a_snd (h 3 _ a3 rfl rfl)
    exact CacheTrue_spec l s w x llen slen lfit wlen
theorem lifted (os : Os) (started : os.Started) (H : Type) (enc : TypeId × Value → H) :
    ReturnsInHanded {} Try.checked os 8 .any (Rows.cacheTrueSpec.pre6 enc Try.prog Try.f8 Rows.cacheTrueRow.domain false) (Rows.cacheTrueSpec.post enc Try.prog Try.f8 false true false false) := by
  refine law_lifted (C := Try.checked) 6 (tb := 4) ownKnob_ started (by kernel_rfl) Try.func8
    (ChangeSpec.witness6 (enc := enc) (C := Try.checked) false ⟨#[], #[.slice none 0 0, .slice none 0 0, .slice none 0 0, .agg #[.int .i64 0, .int .i64 0, .int .i64 0, .int .i64 0]], []⟩ 8 (by kernel_rfl) (by kernel_rfl) (by kernel_rfl) (by kernel_rfl)) laidOut_ rfl (by kernel_rfl) (by kernel_rfl) Try.underlying4 ?_ spec
  intro ds hds
  match ds, hds with
  | [_, _, _, _], _ => exact ⟨rfl, rfl, rfl⟩
theorem CacheTrue_holds : Rows.CacheTrueSaid :=
  OpenClaim.holds_of_wide 8 Try.f8 rfl rfl rfl rfl rfl rfl rfl ⟨rfl, rfl, rfl, rfl, rfl⟩ rfl rfl rfl rfl rfl (by kernel_rfl) Try.func8 (by kernel_rfl)
    (of_decide_eq_true (by kernel_rfl)) (by unfold Func.isWrapper; first | (rw [if_pos (by decide +kernel)]; kernel_rfl) | (rw [if_neg (by decide +kernel)]; exact ⟨rfl, rfl⟩))
    (fun os started H enc _ => lifted os started H enc)
end Go.Proofs.Ythfdpekgbdjniaa.lawCacheTrue

