/-
  Lemmas and contracts that hold of the whole program: 1 texts in one.
  No condition.
-/
import Derived.Test.YtedglnagjjplbaaGreatZ6
set_option linter.all false

namespace Go.Qg
open Go.Proofs
set_option maxRecDepth 100000
set_option maxHeartbeats 32000000
set_option linter.unusedSimpArgs false
attribute [local irreducible] pwp pops pdraw pop popCall pdCall thenP blockP scopeP pspec Spec answers ppost CallW rend
theorem win_spec (n lo hi : Int) : Spec Tryz.prog 84 [.v (.int .i64 n), .v (.int .i64 lo), .v (.int .i64 hi)] (.v (.bool (inB n lo hi))) := by
  refine spec_of mixed Tryz.func84 (by decide) rfl Tryz.results84 Tryz.ntmps84 (by decide) 0 (by simp) ?_
  by_cases h1 : lo ≤ n
  · by_cases h2 : n ≤ hi <;> (simp [h1, h2]; refine answers_of rfl ?_; simp [inB, h1, h2])
  · simp [h1]; refine answers_of rfl ?_; simp [inB, h1]
theorem wspan_spec (s : Spn) (lo hi : Int) : Spec Tryz.prog 112 [.agg s.cells, .v (.int .i64 lo), .v (.int .i64 hi)] (.v (.bool (spanB s lo hi))) := by
  refine spec_of mixed Tryz.func112 (by decide) rfl Tryz.results112 Tryz.ntmps112 (by decide) 0 (by simp) ?_
  simp [Spn.cells]
  by_cases h1 : lo ≤ s.low
  · by_cases h2 : s.low ≤ s.high
    · by_cases h3 : s.high ≤ hi <;> (simp [h1, h2, h3]; refine answers_of rfl ?_; simp [spanB, h1, h2, h3])
    · simp [h1, h2, Int.not_le.1 h2]
      refine answers_of rfl ?_; simp [spanB, h1, h2]
  · simp [h1, Int.not_le.1 h1]; refine answers_of rfl ?_; simp [spanB, h1]
theorem max_if (a b : Int) : (if a < b then b else a) = max a b := by split <;> omega
theorem max_if' (a b : Int) : (if b < a then a else b) = max a b := by split <;> omega
theorem min_if (a b : Int) : (if a < b then a else b) = min a b := by split <;> omega
theorem min_if' (a b : Int) : (if b < a then b else a) = min a b := by split <;> omega
theorem max_le (a b : Int) : (if a ≤ b then b else a) = max a b := by split <;> omega
theorem min_le (a b : Int) : (if a ≤ b then a else b) = min a b := by split <;> omega
theorem far_spec (a b : Int) (ha : Small 1000000 a) (hb : Small 1000000 b) : Spec Tryz.prog 114 [.v (.int .i64 a), .v (.int .i64 b)] (.v (.int .i64 (farI a b))) := by
  simp only [Small] at ha hb
  have w1 := i64_wrap (show -9223372036854775808 ≤ a - b ∧ _ from by omega)
  have w2 := i64_wrap (show -9223372036854775808 ≤ b - a ∧ _ from by omega)
  refine spec_of mixed Tryz.func114 (by decide) rfl Tryz.results114 Tryz.ntmps114 (by decide) 0 (by simp) ?_
  simp [w1, w2]
  refine answers_of rfl ?_
  simp [farI]
  first | done | omega | (split <;> omega)
def rdgB (r : Rdg) : Bool := inB r.minute 0 1440 && spanB ⟨r.low, r.high⟩ (-100000) 100000 && inB r.source 0 7
def gaugeB (g : Gge) : Bool := allN g.readings.length (fun k => rdgB (rdgAt g.readings k)) && (inB g.rate 0 1000 && spanB ⟨g.least, g.most⟩ (-100000) 100000 && decide (g.readings.length ≤ 30))
structure GgeOk (g : Gge) : Prop where
  n : g.readings.length ≤ 30
  rate : 0 ≤ g.rate ∧ g.rate ≤ 1000
  least : -100000 ≤ g.least ∧ g.least ≤ g.most ∧ g.most ≤ 100000
  rd : ∀ k, k < g.readings.length → (0 ≤ (rdgAt g.readings k).minute ∧ (rdgAt g.readings k).minute ≤ 1440) ∧ (-100000 ≤ (rdgAt g.readings k).low ∧ (rdgAt g.readings k).low ≤ (rdgAt g.readings k).high ∧ (rdgAt g.readings k).high ≤ 100000) ∧ 0 ≤ (rdgAt g.readings k).source ∧ (rdgAt g.readings k).source ≤ 7
theorem gaugeB_iff {g : Gge} : gaugeB g = true ↔ GgeOk g := by
  simp only [gaugeB, rdgB, allN_spec, Bool.and_eq_true, inB_spec, spanB_spec, decide_eq_true_eq]
  exact ⟨fun ⟨h1, ⟨h2, h3⟩, h4⟩ => ⟨h4, h2, h3, fun k hk => ⟨(h1 k hk).1.1, (h1 k hk).1.2, (h1 k hk).2⟩⟩, fun h => ⟨fun k hk => ⟨⟨(h.rd k hk).1, (h.rd k hk).2.1⟩, (h.rd k hk).2.2⟩, ⟨h.rate, h.least⟩, h.n⟩⟩
theorem gauge_spec (g : Gge) (hl : g.readings.length ≤ 9223372036854775807) : Spec Tryz.prog 39 [.agg g.cells] (.v (.bool (gaugeB g))) := by
  refine spec_of mixed Tryz.func39 (by decide) rfl Tryz.results39 Tryz.ntmps39 (by decide) 0 (by simp) ?_
  simp [Gge.cells, rdgL]
  refine pwp_loop (fun k : Nat => [(8, .v (.int .i64 k))]) (fun k => k ≤ g.readings.length ∧ ∀ j, j < k → rdgB (rdgAt g.readings j) = true) (fun k => g.readings.length - k) 0 ⟨Nat.zero_le _, fun j hj => by omega⟩ (by simp; rfl) (by simp) ?_
  intro k ⟨hk, hp⟩
  by_cases hkl : k < g.readings.length
  · have fin : ∀ {b : Bool}, rdgB (rdgAt g.readings k) = b → b = false → gaugeB g = false := fun h1 h2 => by
      simp [gaugeB, allN_false (p := fun k => rdgB (rdgAt g.readings k)) hkl (h1.trans h2)]
    simp [hkl, Rdg.cells]
    refine pop_spec (win_spec (rdgAt g.readings k).minute 0 1440) rfl false (.inl (by simp)) (.inl rfl) rfl (by simp) ?_
    cases h1 : inB (rdgAt g.readings k).minute 0 1440 with
    | false => simp; refine answers_of rfl ?_; simp [fin (b := false) (by simp [rdgB, h1]) rfl]
    | true =>
    simp
    refine pop_spec (wspan_spec ⟨(rdgAt g.readings k).low, (rdgAt g.readings k).high⟩ (-100000) 100000) rfl false (.inl (by simp [Spn.cells])) (.inl rfl) rfl (by simp) ?_
    cases h2 : spanB ⟨(rdgAt g.readings k).low, (rdgAt g.readings k).high⟩ (-100000) 100000 with
    | false => simp; refine answers_of rfl ?_; simp [fin (b := false) (by simp [rdgB, h1, h2]) rfl]
    | true =>
    simp
    refine pop_spec (win_spec (rdgAt g.readings k).source 0 7) rfl false (.inl (by simp)) (.inl rfl) rfl (by simp) ?_
    cases h3 : inB (rdgAt g.readings k).source 0 7 with
    | false => simp; refine answers_of rfl ?_; simp [fin (b := false) (by simp [rdgB, h1, h2, h3]) rfl]
    | true =>
    simp
    refine again_of (k + 1) ⟨by omega, fun j hj => ?_⟩ (by omega) ?_
    · rcases Nat.lt_succ_iff_lt_or_eq.1 hj with hj | rfl
      · exact hp j hj
      · simp [rdgB, h1, h2, h3]
    · simp [i64_wrap (show -9223372036854775808 ≤ (k : Int) + 1 ∧ _ from by omega)]
  · obtain rfl : k = g.readings.length := by omega
    have ha := allN_spec.2 hp
    simp
    refine pop_spec (win_spec g.rate 0 1000) rfl false (.inl (by simp)) (.inl rfl) rfl (by simp) ?_
    cases h1 : inB g.rate 0 1000 with
    | false => simp; refine answers_of rfl ?_; simp [gaugeB, h1]
    | true =>
    simp
    refine pop_spec (wspan_spec ⟨g.least, g.most⟩ (-100000) 100000) rfl false (.inl (by simp [Spn.cells])) (.inl rfl) rfl (by simp) ?_
    cases h2 : spanB ⟨g.least, g.most⟩ (-100000) 100000 with
    | false => simp; refine answers_of rfl ?_; simp [gaugeB, h2]
    | true =>
    simp
    refine answers_of rfl ?_; simp [gaugeB, h1, h2, ha]; omega
def loK (g : Gge) (t : Int) (k : Nat) : Int := (g.readings.take k).foldl (fun m r => max m (r.low - g.rate * farI r.minute t)) g.least
def hiK (g : Gge) (t : Int) (k : Nat) : Int := (g.readings.take k).foldl (fun m r => min m (r.high + g.rate * farI r.minute t)) g.most
theorem take_snoc_at {l : List Rdg} {k : Nat} (h : k < l.length) : l.take (k + 1) = l.take k ++ [rdgAt l k] := by
  rw [List.take_succ]
  simp [rdgAt, h]
theorem loK_succ {g : Gge} {t : Int} {k : Nat} (h : k < g.readings.length) : loK g t (k + 1) = max (loK g t k) ((rdgAt g.readings k).low - g.rate * farI (rdgAt g.readings k).minute t) := by
  simp [loK, take_snoc_at h]
theorem hiK_succ {g : Gge} {t : Int} {k : Nat} (h : k < g.readings.length) : hiK g t (k + 1) = min (hiK g t k) ((rdgAt g.readings k).high + g.rate * farI (rdgAt g.readings k).minute t) := by
  simp [hiK, take_snoc_at h]
theorem loK_end (g : Gge) (t : Int) : loK g t g.readings.length = atLo g t := by simp [loK, atLo]
theorem hiK_end (g : Gge) (t : Int) : hiK g t g.readings.length = atHi g t := by simp [hiK, atHi]
theorem drop_small {g : Gge} (hg : GgeOk g) {t : Int} (ht : 0 ≤ t ∧ t ≤ 1440) {k : Nat} (hk : k < g.readings.length) : 0 ≤ farI (rdgAt g.readings k).minute t ∧ farI (rdgAt g.readings k).minute t ≤ 1440 ∧ 0 ≤ g.rate * farI (rdgAt g.readings k).minute t ∧ g.rate * farI (rdgAt g.readings k).minute t ≤ 1440000 := by
  have h1 := (hg.rd k hk).1
  have h2 : 0 ≤ farI (rdgAt g.readings k).minute t ∧ farI (rdgAt g.readings k).minute t ≤ 1440 := by unfold farI; omega
  refine ⟨h2.1, h2.2, Int.mul_nonneg hg.rate.1 h2.1, ?_⟩
  exact Int.le_trans (Int.mul_le_mul hg.rate.2 h2.2 h2.1 (by omega)) (by omega)
theorem K_small {g : Gge} (hg : GgeOk g) {t : Int} (ht : 0 ≤ t ∧ t ≤ 1440) : ∀ {k : Nat}, k ≤ g.readings.length → Small 2000000 (loK g t k) ∧ Small 2000000 (hiK g t k)
  | 0, _ => by
    have := hg.least
    simp only [loK, hiK, List.take_zero, List.foldl_nil, Small]
    omega
  | k + 1, hk => by
    have ih := K_small hg ht (k := k) (by omega)
    have h1 := drop_small hg ht (k := k) (by omega)
    have h2 := (hg.rd k (by omega)).2.1
    rw [loK_succ (by omega), hiK_succ (by omega)]
    simp only [Small] at *
    omega
theorem at_small {g : Gge} (hg : GgeOk g) {t : Int} (ht : 0 ≤ t ∧ t ≤ 1440) : (g.least ≤ atLo g t ∧ atLo g t ≤ 2000000) ∧ -2000000 ≤ atHi g t ∧ atHi g t ≤ g.most := by
  have h := K_small hg ht (Nat.le_refl _)
  rw [loK_end, hiK_end] at h
  exact ⟨⟨atLo_ge g t, h.1.2⟩, h.2.1, atHi_le g t⟩
def atS (g : Gge) (t : Int) : Spn := ⟨atLo g t, atHi g t⟩
theorem at_spec (g : Gge) (t : Int) (hg : GgeOk g) (ht : 0 ≤ t ∧ t ≤ 1440) : Spec Tryz.prog 42 [.agg g.cells, .v (.int .i64 t)] (.agg (atS g t).cells) := by
  have hn := hg.n
  refine spec_of mixed Tryz.func42 (by decide) rfl Tryz.results42 Tryz.ntmps42 (by decide) 0 (by simp) ?_
  simp [Gge.cells, rdgL]
  refine pwp_loop (fun k : Nat => [(5, .box true [.v (.int .i64 (loK g t k)), .v (.int .i64 (hiK g t k))]), (17, .v (.int .i64 k))]) (fun k => k ≤ g.readings.length) (fun k => g.readings.length - k) 0 (Nat.zero_le _) (by simp; rfl) (by simp [loK, hiK]) ?_
  intro k hk
  by_cases hkl : k < g.readings.length
  · have hd := drop_small hg ht hkl
    have hr := hg.rd k hkl
    have hK := K_small hg ht hk
    simp only [Small] at hK
    have e1 := loK_succ (g := g) (t := t) hkl
    have e2 := (hiK_succ (g := g) (t := t) hkl).trans (Int.min_comm _ _)
    have w1 := i64_wrap (show -9223372036854775808 ≤ g.rate * farI (rdgAt g.readings k).minute t ∧ _ from by omega)
    have w2 := i64_wrap (show -9223372036854775808 ≤ (rdgAt g.readings k).low - g.rate * farI (rdgAt g.readings k).minute t ∧ _ from by omega)
    have w3 := i64_wrap (show -9223372036854775808 ≤ (rdgAt g.readings k).high + g.rate * farI (rdgAt g.readings k).minute t ∧ _ from by omega)
    simp [hkl, Rdg.cells]
    refine pwp_draw 7 (by decide) ?_
    simp
    refine pd_spec (far_spec (rdgAt g.readings k).minute t (by simp only [Small]; omega) (by simp only [Small]; omega)) (by simp) (by simp) (by simp) rfl ?_
    simp
    refine ⟨by decide, ?_⟩
    simp [w1]
    refine pwp_draw 20 (by decide) ?_
    simp [w2, w3, max_if, max_if', max_le, min_if, min_if', min_le]
    refine ⟨by decide, ?_⟩
    refine again_of (k + 1) (by omega) (by omega) ?_
    simp [i64_wrap (show -9223372036854775808 ≤ (k : Int) + 1 ∧ _ from by omega), e1, e2]
  · obtain rfl : k = g.readings.length := by omega
    rw [loK_end, hiK_end]
    simp
    refine answers_of (x := .agg (atS g t).cells) (by simp [Spn.cells, atS]) ?_
    simp [Spn.cells]
def oneC (g : Gge) (i : Nat) : Bool := decide (g.most < (rdgAt g.readings i).low) || decide ((rdgAt g.readings i).high < g.least)
def twoC (g : Gge) (i j : Nat) : Bool := decide (g.rate * farI (rdgAt g.readings i).minute (rdgAt g.readings j).minute < max ((rdgAt g.readings i).low - (rdgAt g.readings j).high) ((rdgAt g.readings j).low - (rdgAt g.readings i).high))
def firstJ (g : Gge) (i : Nat) : Nat → Option Nat
  | 0 => none
  | k + 1 => match firstJ g i k with
    | some j => some j
    | none => if i < k ∧ twoC g i k = true then some k else none
def firstI (g : Gge) : Nat → Option (Nat × Nat)
  | 0 => none
  | i + 1 => match firstI g i with
    | some x => some x
    | none => if oneC g i = true then some (i, i) else (firstJ g i g.readings.length).map fun j => (i, j)
theorem firstJ_some {g : Gge} {i j : Nat} : ∀ {k m : Nat}, k ≤ m → firstJ g i k = some j → firstJ g i m = some j
  | k, 0, h, h1 => by
    obtain rfl : k = 0 := by omega
    exact h1
  | k, m + 1, h, h1 => by
    rcases Nat.lt_or_eq_of_le h with h | rfl
    · simp only [firstJ, firstJ_some (show k ≤ m by omega) h1]
    · exact h1
theorem firstI_some {g : Gge} {x : Nat × Nat} : ∀ {k m : Nat}, k ≤ m → firstI g k = some x → firstI g m = some x
  | k, 0, h, h1 => by
    obtain rfl : k = 0 := by omega
    exact h1
  | k, m + 1, h, h1 => by
    rcases Nat.lt_or_eq_of_le h with h | rfl
    · simp only [firstI, firstI_some (show k ≤ m by omega) h1]
    · exact h1
theorem firstJ_none {g : Gge} {i : Nat} : ∀ {k : Nat}, firstJ g i k = none ↔ ∀ j, i < j → j < k → twoC g i j = false
  | 0 => by simp [firstJ]
  | k + 1 => by
    have ih := firstJ_none (g := g) (i := i) (k := k)
    constructor
    · intro h j h1 h2
      unfold firstJ at h
      split at h
      · cases h
      · rename_i hn
        split at h
        · cases h
        · rename_i hc
          rcases Nat.lt_succ_iff_lt_or_eq.1 h2 with h2 | rfl
          · exact ih.1 hn j h1 h2
          · cases ht : twoC g i j with
            | false => rfl
            | true => exact (hc ⟨h1, ht⟩).elim
    · intro h
      have hn := ih.2 fun j h1 h2 => h j h1 (by omega)
      unfold firstJ
      rw [hn]
      simp only
      rw [if_neg]
      rintro ⟨h1, h2⟩
      rw [h k h1 (by omega)] at h2
      cases h2
theorem firstI_none {g : Gge} : ∀ {k : Nat}, firstI g k = none ↔ ∀ i, i < k → oneC g i = false ∧ firstJ g i g.readings.length = none
  | 0 => by simp [firstI]
  | k + 1 => by
    have ih := firstI_none (g := g) (k := k)
    constructor
    · intro h i h1
      unfold firstI at h
      split at h
      · cases h
      · rename_i hn
        split at h
        · cases h
        · rename_i hc
          rcases Nat.lt_succ_iff_lt_or_eq.1 h1 with h1 | rfl
          · exact ih.1 hn i h1
          · exact ⟨by simpa using hc, by simpa using h⟩
    · intro h
      have hn := ih.2 fun i h1 => h i (by omega)
      obtain ⟨h1, h2⟩ := h k (by omega)
      unfold firstI
      rw [hn]
      simp [h1, h2]
def runsB (g : Gge) : Bool := (firstI g g.readings.length).isNone
theorem runsB_iff {g : Gge} : runsB g = true ↔ Clear g := by
  have e : ∀ i, g.readings.getD i default = rdgAt g.readings i := fun i => rfl
  rw [runsB, Option.isNone_iff_eq_none, firstI_none]
  constructor
  · intro h
    refine ⟨fun i hi => ?_, fun i j hij hj => ?_⟩
    · have := (h i hi).1
      simp [oneC] at this
      simp only [e]
      omega
    · have := firstJ_none.1 (h i (by omega)).2 j hij hj
      simp only [twoC, decide_eq_false_iff_not, Int.not_lt] at this
      simp only [e]
      omega
  · rintro ⟨h1, h2⟩ i hi
    refine ⟨?_, firstJ_none.2 fun j hij hj => ?_⟩
    · have := h1 i hi
      simp only [e] at this
      simp [oneC]
      omega
    · have := h2 i j hij hj
      simp only [e] at this
      simp only [twoC, decide_eq_false_iff_not, Int.not_lt]
      omega
def clashR (g : Gge) : List PV := match firstI g g.readings.length with
  | some (i, j) => [.v (.int .i64 i), .v (.int .i64 j), .v (.bool true)]
  | none => [.v (.int .i64 0), .v (.int .i64 0), .v (.bool false)]
theorem clash_spec (g : Gge) (hg : GgeOk g) : Spec Tryz.prog 113 [.agg g.cells] (.tup (clashR g)) := by
  have hn := hg.n
  refine spec_of mixed Tryz.func113 (by decide) rfl Tryz.results113 Tryz.ntmps113 (by decide) 0 (by simp) ?_
  simp [Gge.cells, rdgL]
  refine pwp_loop (fun k : Nat => [(12, .v (.int .i64 k))]) (fun k => k ≤ g.readings.length ∧ firstI g k = none) (fun k => g.readings.length - k) 0 ⟨Nat.zero_le _, rfl⟩ (by simp; rfl) (by simp) ?_
  intro i ⟨hi, hf⟩
  by_cases hil : i < g.readings.length
  · have wi := i64_wrap (show -9223372036854775808 ≤ (i : Int) + 1 ∧ _ from by omega)
    have fin : ∀ j, (if oneC g i = true then some (i, i) else (firstJ g i g.readings.length).map fun j => (i, j)) = some (i, j) → clashR g = [.v (.int .i64 i), .v (.int .i64 j), .v (.bool true)] := fun j hj => by
      have : firstI g (i + 1) = some (i, j) := by simp only [firstI, hf]; exact hj
      simp only [clashR, firstI_some (show i + 1 ≤ g.readings.length by omega) this]
    by_cases c1 : g.most < (rdgAt g.readings i).low
    · simp [hil, Rdg.cells, c1]
      refine answers_of rfl ?_
      rw [fin i (by simp [oneC, c1])]
      simp
    · by_cases c2 : (rdgAt g.readings i).high < g.least
      · simp [hil, Rdg.cells, c1, c2]
        refine answers_of rfl ?_
        rw [fin i (by simp [oneC, c2])]
        simp
      · have ho : oneC g i = false := by simp [oneC]; omega
        rw [ho] at fin
        simp only [Bool.false_eq_true, if_false] at fin
        simp [hil, Rdg.cells, c1, c2, show ¬ g.most < (rdgAt g.readings i).low from c1]
        rw [wi]
        refine pwp_loop (fun j : Nat => [(7, .v (.int .i64 j))]) (fun j => i < j ∧ j ≤ g.readings.length ∧ firstJ g i j = none) (fun j => g.readings.length - j) (i + 1) ⟨by omega, by omega, firstJ_none.2 fun j h1 h2 => by omega⟩ (by simp; rfl) (by simp) ?_
        intro j ⟨hij, hj, hfj⟩
        by_cases hjl : j < g.readings.length
        · have wj := i64_wrap (show -9223372036854775808 ≤ (j : Int) + 1 ∧ _ from by omega)
          have r1 := hg.rd i hil
          have r2 := hg.rd j hjl
          have d0 : 0 ≤ farI (rdgAt g.readings i).minute (rdgAt g.readings j).minute ∧ farI (rdgAt g.readings i).minute (rdgAt g.readings j).minute ≤ 1440 := by unfold farI; omega
          have d1 : g.rate * farI (rdgAt g.readings i).minute (rdgAt g.readings j).minute ≤ 1440000 := Int.le_trans (Int.mul_le_mul hg.rate.2 d0.2 d0.1 (by omega)) (by omega)
          have d2 := Int.mul_nonneg hg.rate.1 d0.1
          have w1 := i64_wrap (show -9223372036854775808 ≤ g.rate * farI (rdgAt g.readings i).minute (rdgAt g.readings j).minute ∧ _ from by omega)
          have w2 := i64_wrap (show -9223372036854775808 ≤ (rdgAt g.readings i).low - (rdgAt g.readings j).high ∧ _ from by omega)
          have w3 := i64_wrap (show -9223372036854775808 ≤ (rdgAt g.readings j).low - (rdgAt g.readings i).high ∧ _ from by omega)
          simp [hjl, Rdg.cells]
          refine pwp_draw 24 (by decide) ?_
          simp
          refine pd_spec (far_spec (rdgAt g.readings i).minute (rdgAt g.readings j).minute (by simp only [Small]; omega) (by simp only [Small]; omega)) (by simp) (by simp) (by simp) rfl ?_
          by_cases ht : g.rate * farI (rdgAt g.readings i).minute (rdgAt g.readings j).minute < max ((rdgAt g.readings i).low - (rdgAt g.readings j).high) ((rdgAt g.readings j).low - (rdgAt g.readings i).high)
          · have hj' : firstJ g i (j + 1) = some j := by simp [firstJ, hfj, hij, twoC, ht]
            simp [w1, w2, w3, max_if, max_if', max_le, ht]
            refine ⟨by decide, ?_⟩
            refine answers_of rfl ?_
            rw [fin j (by rw [firstJ_some (show j + 1 ≤ g.readings.length by omega) hj']; rfl)]
            simp
          · have hj' : firstJ g i (j + 1) = none := by simp only [firstJ, hfj]; rw [if_neg]; simp [twoC]; intro; omega
            simp [w1, w2, w3, max_if, max_if', max_le, ht]
            refine ⟨by decide, ?_⟩
            refine again_of (j + 1) ⟨by omega, by omega, hj'⟩ (by omega) ?_
            simp [wj]
        · obtain rfl : j = g.readings.length := by omega
          simp
          refine again_of (i + 1) ⟨by omega, by simp [firstI, hf, ho, hfj]⟩ (by omega) ?_
          simp [wi]
  · obtain rfl : i = g.readings.length := by omega
    simp
    refine answers_of rfl ?_
    simp [clashR, hf]
theorem runs_spec (g : Gge) (hg : GgeOk g) : Spec Tryz.prog 40 [.agg g.cells] (.v (.bool (runsB g))) := by
  refine spec_of mixed Tryz.func40 (by decide) rfl Tryz.results40 Tryz.ntmps40 (by decide) 0 (by simp) ?_
  simp [Gge.cells, rdgL]
  refine pop_spec (clash_spec g hg) rfl false (.inl (by simp [Gge.cells, rdgL])) (.inl rfl) (by unfold clashR; split <;> rfl) (by simp) ?_
  cases h : firstI g g.readings.length with
  | none =>
    simp [clashR, h]
    refine answers_of rfl ?_
    simp [runsB, h]
  | some x =>
    obtain ⟨i, j⟩ := x
    simp [clashR, h]
    refine answers_of rfl ?_
    simp [runsB, h]
def minL : List PV := (List.range 1441).map fun t : Nat => .v (.int .i64 (t : Int))
theorem minL_length : minL.length = 1441 := by simp [minL]
theorem minL_get {k : Nat} (h : k < 1441) : minL[k]? = some (.v (.int .i64 k)) := by simp [minL, h]
theorem minL_plain : ∀ p ∈ minL, p.plain = true ∧ p.flat = true := by
  intro p hp
  obtain ⟨t, _, rfl⟩ := List.mem_map.1 hp
  exact ⟨rfl, rfl⟩
theorem minutes_gen : GenW Tryz.prog 41 [] minL := by
  refine gen_of Tryz.func41 (by decide) rfl Tryz.results41 Tryz.ntmps41 0 (by simp) fun l Rb J henv => ?_
  have hlo : ∀ s B, GCtx 11 Rb J s B → B.lo = 11 := fun _ _ h => h.1
  refine XW_seqP mixed hlo (by decide) ?_
  simp
  refine XW_block ?_
  refine XW_loopV hlo (fun k : Nat => [(3, .v (.int .i64 k))]) (fun k => GS.on k) (fun k => k ≤ 1441) (fun k => 1441 - k) 0 (Nat.zero_le _) rfl (by simp; rfl) (by simp) ?_
  intro k hk
  refine XW_seqP mixed hlo (by decide) ?_
  by_cases hlt : k < 1441
  · have wk := i64_wrap (show -9223372036854775808 ≤ (k : Int) + 1 ∧ _ from by omega)
    have hel := minL_get hlt
    simp [show (k : Int) < 1441 from by omega]
    refine XW_seqP mixed hlo (by decide) ?_
    simp
    refine XW_seqX (XW_block ?_)
    refine XW_seqP mixed hlo (by decide) ?_
    simp
    refine XW_seqX (XW_yieldS (m := 2) henv (by decide) (by decide) ?_)
    simp
    simp [pyield, yargs, hel]
    refine ⟨?_, ?_⟩
    · refine XW_pwp mixed hlo (by decide) ?_
      simp
      refine XW_pwp mixed hlo (by decide) ?_
      simp [wk]
      refine againX_of (k + 1) (by omega) (by omega) rfl ?_
      simp
    · refine XW_pwp mixed hlo (by decide) ?_
      simp
  · obtain rfl : k = 1441 := by omega
    simp
    refine XW_pwp mixed hlo (by decide) ?_
    simp [minL_length]
def boundsL (g : Gge) (n : Nat) : List Spn := (List.range n).map fun t : Nat => atS g (t : Int)
@[simp] theorem boundsL_length (g : Gge) (n : Nat) : (boundsL g n).length = n := by simp [boundsL]
theorem boundsL_succ (g : Gge) (n : Nat) : boundsL g (n + 1) = boundsL g n ++ [atS g n] := by simp [boundsL, List.range_succ]
theorem boundsL_at {g : Gge} {n k : Nat} (h : k < n) : spnAt (boundsL g n) k = atS g k := by simp [spnAt, boundsL, h]
def boundsR (g : Gge) : PV := if gaugeB g = true then if runsB g = true then .tup [spnL (boundsL g 1441), .v (.int .i64 0)] else .tup [.nil, .v (.int .i64 5)] else .tup [.nil, .v (.int .i64 2)]
theorem Bounds_spec (g : Gge) (hl : g.readings.length ≤ 9223372036854775807) : Spec Tryz.prog 9 [.agg g.cells] (boundsR g) := by
  unfold Spec
  refine callW_ofE Tryz.func9 (by decide) rfl (congrArg Array.toList Tryz.results9) Tryz.ntmps9 21 (by simp) (by decide) fun B0 hB0 hD0 => ?_
  have hlo : ∀ s B, ECtx B0 s B → B.lo = 21 := fun _ _ h => h.1.trans hB0
  refine XW_seqP mixed hlo (by decide) ?_
  simp [Gge.cells, rdgL]
  refine XW_seqP mixed hlo (by decide) ?_
  simp
  refine pop_spec (gauge_spec g hl) rfl false (.inl (by simp [Gge.cells, rdgL])) (.inl rfl) rfl (by simp) ?_
  cases hg : gaugeB g with
  | false =>
    simp
    refine ends_of (.tup [.nil, .v (.int .i64 2)]) [] [] rfl (by decide) ?_ ?_ (by simp [boundsR, hg])
    · simp
    · simp
  | true =>
  have hgo := gaugeB_iff.1 hg
  simp
  refine XW_seqP mixed hlo (by decide) ?_
  simp
  refine pop_spec (runs_spec g hgo) rfl false (.inl (by simp [Gge.cells, rdgL])) (.inl rfl) rfl (by simp) ?_
  cases hr : runsB g with
  | false =>
    simp
    refine ends_of (.tup [.nil, .v (.int .i64 5)]) [] [] rfl (by decide) ?_ ?_ (by simp [boundsR, hg, hr])
    · simp
    · simp
  | true =>
  simp
  refine XW_seqP mixed hlo (by decide) ?_
  simp
  refine XW_seqX (XW_block ?_)
  refine XW_range mixed rfl (by rfl) minutes_gen minL_plain (by decide) (by decide) 21 (by decide) [4, 20] (by decide)
    (fun n => [.undef, .rp g.cells 0, .undef, .undef, .box true [.own 20 n 0 n false], .undef, .undef, .undef, .undef, .undef, .undef, .undef, .undef, .undef, .undef, .undef, .undef, .undef, .undef, .undef, .rows none n 37 2 (rowsSp (boundsL g n))])
    (fun n => [.undef, .rp g.cells 0, .undef, .undef, .ref 0 0, .undef, .undef, .undef, .undef, .undef, .undef, .undef, .undef, .undef, .undef, .undef, .undef, .undef, .undef, .undef])
    (fun n => [.box false [.own 1 n 0 n false], .rows none n 37 2 (rowsSp (boundsL g n))]) ?_ (fun n hn => ⟨rfl, ?_, slots_view (t := 12) ?_ rfl⟩) (fun n p hp => ?_) ?_
  · rw [hB0]
    simp [Gge.cells, rdgL, boundsL]
  · simp
  · simp [slots]
  · have hn : n < 1441 := by
      have := (List.getElem?_eq_some_iff.1 hp).1
      rwa [minL_length] at this
    rw [minL_get hn] at hp
    obtain rfl := Option.some.inj hp
    rw [hB0]
    have er := rowsSp_snoc (boundsL g n) (atS g n)
    rw [← boundsL_succ] at er
    simp only [Spn.cells] at er
    have et : (boundsL g n).take n = boundsL g n := List.take_of_length_le (by simp)
    simp [show (n + 1) * 16 ≤ 140737488355328 from by omega, show n + 1 ≤ maxLen from by simp [maxLen]; omega]
    refine pwp_draw 7 (by decide) ?_
    simp [Gge.cells, rdgL]
    refine pd_spec (at_spec g n hgo (by omega)) (by simp [Gge.cells, rdgL]) (by simp) (by simp [Gge.cells, rdgL]) rfl ?_
    simp [Spn.cells, show (n + 1) * 16 ≤ 140737488355328 from by omega, show n + 1 ≤ maxLen from by simp [maxLen]; omega]
    refine ⟨by decide, ?_⟩
    refine rend_n [.box false [.own 1 (n + 1) 0 (n + 1) false], .rows none (n + 1) 37 2 (rowsSp (boundsL g (n + 1)))] ?_ ?_
    · simp [er, et]
    · simp [back, placeAll]
  · simp [minL_length]
    refine XW_pwp mixed hlo (by decide) ?_
    simp
    refine ends_of (.tup [spnL (boundsL g 1441), .v (.int .i64 0)]) [] [] rfl (by decide) ?_ ?_ (by simp [boundsR, hg, hr])
    · simp
    · simp [spnL]
      intro k hk
      rw [rowsSp_get (by simpa using hk)]
      simp [Spn.cells]
end Go.Qg
