/-
  CacheBest: for every supply the law returns true, and leaves its argument as it was.
  No condition.
-/
import Derived.Test.YthfdpekgbdjniaaZ7
set_option linter.all false

namespace Go.Qg
open Go.Proofs
set_option maxRecDepth 100000
set_option linter.unusedSimpArgs false
set_option maxHeartbeats 4000000
attribute [local irreducible] pwp pops pdraw pop popCall pdCall thenP blockP scopeP pspec Spec answers ppost CallW
theorem rin_spec (n lo hi : Int) : Spec Try.prog 58 [.v (.int .i64 n), .v (.int .i64 lo), .v (.int .i64 hi)] (.v (.bool (inB n lo hi))) := by
  refine spec_of mixed Try.func58 (by decide) rfl Try.results58 Try.ntmps58 (by decide) 0 (by simp) ?_
  by_cases h1 : lo ≤ n
  · by_cases h2 : n ≤ hi <;> (simp [h1, h2]; refine answers_of rfl ?_; simp [inB, h1, h2])
  · simp [h1]; refine answers_of rfl ?_; simp [inB, h1]
theorem rspan_spec (s : Spn) (m : Int) : Spec Try.prog 66 [.agg s.cells, .v (.int .i64 m)] (.v (.bool (spanB s 0 m))) := by
  refine spec_of mixed Try.func66 (by decide) rfl Try.results66 Try.ntmps66 (by decide) 0 (by simp) ?_
  simp [Spn.cells]
  by_cases h1 : 0 ≤ s.low
  · by_cases h2 : s.low ≤ s.high
    · by_cases h3 : s.high ≤ m <;> (simp [h1, h2, h3]; refine answers_of rfl ?_; simp [spanB, h1, h2, h3])
    · simp [h1, h2, Int.not_le.1 h2]
      refine answers_of rfl ?_; simp [spanB, h1, h2]
  · simp [h1, Int.not_le.1 h1]; refine answers_of rfl ?_; simp [spanB, h1]
theorem rDay_spec (n : Int) : Spec Try.prog 15 [.v (.int .i64 n)] (.v (.bool (inB n 0 400))) := by
  refine spec_of mixed Try.func15 (by decide) rfl Try.results15 Try.ntmps15 (by decide) 0 (by simp) ?_
  simp
  refine pop_spec (rin_spec n 0 400) rfl false (.inl (by simp)) (.inl rfl) rfl (by simp) ?_
  simp
  refine answers_of rfl ?_; simp
end Go.Qg

namespace Go.Qg
open Go.Proofs
set_option maxRecDepth 100000
set_option linter.unusedSimpArgs false
set_option maxHeartbeats 4000000
attribute [local irreducible] pwp pops pdraw pop popCall pdCall thenP blockP scopeP pspec Spec answers ppost CallW
theorem rCache_spec (l : List Brl) (hl : l.length ≤ 9223372036854775807) : Spec Try.prog 14 [.agg [brlL l]] (.v (.bool (storedB l))) := by
  refine spec_of mixed Try.func14 (by decide) rfl Try.results14 Try.ntmps14 (by decide) 0 (by simp) ?_
  simp [brlL]
  refine pwp_loop (fun k : Nat => [(3, .v (.int .i64 k))]) (fun k => k ≤ l.length ∧ ∀ j, j < k → brlB (brlAt l j) = true) (fun k => l.length - k) 0 ⟨Nat.zero_le _, fun j hj => by omega⟩ (by simp; rfl) (by simp) ?_
  intro k ⟨hk, hp⟩
  by_cases hkl : k < l.length
  · have wk := i64_wrap (show -9223372036854775808 ≤ (k : Int) + 1 ∧ _ from by omega)
    have bad : brlB (brlAt l k) = false → storedB l = false := fun hb => by simp only [storedB, Bool.and_eq_false_iff]; exact .inr (allN_false hkl hb)
    simp [hkl, Brl.cells]
    refine pop_spec (rin_spec (brlAt l k).kilos 1 1000) rfl false (.inl (by simp)) (.inl rfl) rfl (by simp) ?_
    cases h1 : inB (brlAt l k).kilos 1 1000 with
    | false => simp; refine answers_of rfl ?_; simp [bad (by simp [brlB, h1])]
    | true =>
      simp [hkl, Brl.cells]
      refine pop_spec (rDay_spec (brlAt l k).til) rfl false (.inl (by simp)) (.inl rfl) rfl (by simp) ?_
      cases h2 : inB (brlAt l k).til 0 400 with
      | false => simp; refine answers_of rfl ?_; simp [bad (by simp [brlB, h2])]
      | true =>
        simp
        refine again_of (k + 1) ⟨by omega, fun j hj => ?_⟩ (by omega) ?_
        · rcases Nat.lt_succ_iff_lt_or_eq.1 hj with hj | rfl
          · exact hp j hj
          · simp [brlB, h1, h2]
        · simp [wk]
  · obtain rfl : k = l.length := by omega
    have h5 : (allN l.length fun k => brlB (brlAt l k)) = true := allN_spec.2 fun j hj => hp j (by omega)
    by_cases h : l.length ≤ 30
    · simp [show (l.length : Int) ≤ 30 from by omega]
      refine answers_of rfl ?_; simp [storedB, h, h5]
    · simp [show ¬ (l.length : Int) ≤ 30 from by omega]
      refine answers_of rfl ?_; simp [storedB, h]
def hasTo (l : List Brl) (day : Int) : Nat → Int
  | 0 => 0
  | k + 1 => if day ≤ (brlAt l k).til then hasTo l day k + (brlAt l k).kilos else hasTo l day k
theorem take_snocB {l : List Brl} {k : Nat} (h : k < l.length) : l.take (k + 1) = l.take k ++ [brlAt l k] := by rw [List.take_add_one]; simp [brlAt, h]
theorem hasTo_take (l : List Brl) (day : Int) : ∀ k, k ≤ l.length → hasTo l day k = hasL (l.take k) day
  | 0, _ => rfl
  | k + 1, hk => by
    rw [hasTo, hasTo_take l day k (by omega), take_snocB (show k < l.length by omega)]
    simp only [hasL, goodL, List.filter_append, sumK_append]
    by_cases h : day ≤ (brlAt l k).til
    · simp [h, sumK]
    · simp [h, sumK]
theorem hasTo_all (l : List Brl) (day : Int) : hasTo l day l.length = hasL l day := by rw [hasTo_take l day _ (Nat.le_refl _), List.take_length]
theorem hasTo_bound {l : List Brl} (h : KilOk l) (day : Int) : ∀ k, k ≤ l.length → -1000000 * (k : Int) ≤ hasTo l day k ∧ hasTo l day k ≤ 1000000 * (k : Int)
  | 0, _ => by simp [hasTo]
  | k + 1, hk => by
    have h1 := hasTo_bound h day k (by omega)
    have h2 := h.each _ (brlAt_mem (show k < l.length by omega))
    simp only [hasTo]; push_cast; split <;> omega
theorem rHas_spec (l : List Brl) (day : Int) (h : KilOk l) : Spec Try.prog 56 [.agg [brlL l], .v (.int .i64 day)] (.v (.int .i64 (hasL l day))) := by
  have hn := h.n
  refine spec_of mixed Try.func56 (by decide) rfl Try.results56 Try.ntmps56 (by decide) 0 (by simp) ?_
  simp [brlL]
  refine pwp_loop (fun k : Nat => [(5, .v (.int .i64 (hasTo l day k))), (6, .v (.int .i64 k))]) (fun k => k ≤ l.length) (fun k => l.length - k) 0 (Nat.zero_le _) (by simp; rfl) (by simp [hasTo]) ?_
  intro k hk
  by_cases hkl : k < l.length
  · have wk := i64_wrap (show -9223372036854775808 ≤ (k : Int) + 1 ∧ _ from by omega)
    have hb := hasTo_bound h day (k + 1) (by omega)
    have e1 : hasTo l day (k + 1) = if day ≤ (brlAt l k).til then hasTo l day k + (brlAt l k).kilos else hasTo l day k := rfl
    by_cases hd : day ≤ (brlAt l k).til
    · rw [if_pos hd] at e1
      rw [e1] at hb
      have w1 := i64_wrap (show -9223372036854775808 ≤ hasTo l day k + (brlAt l k).kilos ∧ _ from by omega)
      simp [hkl, Brl.cells, hd, w1]
      refine again_of (k + 1) (by omega) (by omega) ?_
      simp [wk, e1]
    · rw [if_neg hd] at e1
      simp [hkl, Brl.cells, hd]
      refine again_of (k + 1) (by omega) (by omega) ?_
      simp [wk, e1]
  · obtain rfl : k = l.length := by omega
    rw [hasTo_all]
    simp
    refine answers_of rfl ?_; simp
theorem rnext_spec (l : List Brl) (day : Int) (hl : l.length ≤ 1000000) : Spec Try.prog 94 [.agg [brlL l], .v (.int .i64 day)] (.v (.int .i64 (nextTo l day l.length))) := by
  refine spec_of mixed Try.func94 (by decide) rfl Try.results94 Try.ntmps94 (by decide) 0 (by simp) ?_
  simp [brlL]
  refine pwp_loop (fun k : Nat => [(5, .v (.int .i64 (nextTo l day k))), (6, .v (.int .i64 k))]) (fun k => k ≤ l.length) (fun k => l.length - k) 0 (Nat.zero_le _) (by simp; rfl) (by simp [nextTo]) ?_
  intro k hk
  by_cases hkl : k < l.length
  · have wk := i64_wrap (show -9223372036854775808 ≤ (k : Int) + 1 ∧ _ from by omega)
    have e1 : nextTo l day (k + 1) = if day ≤ (brlAt l k).til ∧ (nextTo l day k < 0 ∨ (brlAt l k).til < (brlAt l (nextTo l day k).toNat).til) then (k : Int) else nextTo l day k := rfl
    simp [hkl, Brl.cells]
    refine pwp_draw 19 (by decide) ?_
    by_cases hd : day ≤ (brlAt l k).til
    · rcases nextTo_spec l day k with ⟨h1, _⟩ | ⟨i, h1, h2, _⟩
      · rw [h1, if_pos ⟨hd, .inl (by omega)⟩] at e1
        simp [hd, h1]
        refine ⟨by decide, ?_⟩
        refine again_of (k + 1) (by omega) (by omega) ?_
        simp [wk, e1]
      · rw [h1] at e1
        by_cases hlt : (brlAt l k).til < (brlAt l i).til
        · rw [if_pos ⟨hd, .inr (by simpa using hlt)⟩] at e1
          simp [hd, h1, show ¬ (i : Int) < 0 from by omega, show i < l.length from by omega, Brl.cells, hlt]
          refine ⟨by decide, ?_⟩
          refine again_of (k + 1) (by omega) (by omega) ?_
          simp [wk, e1]
        · rw [if_neg (by rintro ⟨_, h | h⟩; · omega
                         · exact hlt (by simpa using h))] at e1
          simp [hd, h1, show ¬ (i : Int) < 0 from by omega, show i < l.length from by omega, Brl.cells, hlt]
          refine ⟨by decide, ?_⟩
          refine again_of (k + 1) (by omega) (by omega) ?_
          simp [wk, e1]
    · rw [if_neg fun h => hd h.1] at e1
      simp [hd]
      refine ⟨by decide, ?_⟩
      refine again_of (k + 1) (by omega) (by omega) ?_
      simp [wk, e1]
  · obtain rfl : k = l.length := by omega
    simp
    refine answers_of rfl ?_; simp
theorem sumK_split (l : List Brl) (day : Int) : sumK l - sumK (goodL l day) = sumK (l.filter fun b => !decide (day ≤ b.til)) := by
  induction l with
  | nil => rfl
  | cons b l ih =>
    simp only [goodL, List.filter_cons] at ih ⊢
    by_cases h : day ≤ b.til
    · simp only [h, decide_true, if_true, Bool.not_true, Bool.false_eq_true, if_false, sumK]; omega
    · simp only [h, decide_false, Bool.false_eq_true, if_false, Bool.not_false, if_true, sumK]; omega
theorem goodL_snoc {l : List Brl} {day : Int} {k : Nat} (h : k < l.length) : goodL (l.take (k + 1)) day = if day ≤ (brlAt l k).til then goodL (l.take k) day ++ [brlAt l k] else goodL (l.take k) day := by
  rw [take_snocB h]
  simp only [goodL, List.filter_append]
  by_cases hd : day ≤ (brlAt l k).til <;> simp [hd]
def lostTo (l : List Brl) (day : Int) : Nat → Int
  | 0 => 0
  | k + 1 => if day ≤ (brlAt l k).til then lostTo l day k else lostTo l day k + (brlAt l k).kilos
theorem lostTo_take (l : List Brl) (day : Int) : ∀ k, k ≤ l.length → lostTo l day k = sumK (l.take k) - sumK (goodL (l.take k) day)
  | 0, _ => rfl
  | k + 1, hk => by
    rw [lostTo, lostTo_take l day k (by omega), goodL_snoc (show k < l.length by omega), take_snocB (show k < l.length by omega), sumK_append]
    split
    · rw [sumK_append]; simp [sumK]; omega
    · simp [sumK]; omega
theorem lostTo_bound {l : List Brl} (h : KilOk l) (day : Int) : ∀ k, k ≤ l.length → -1000000 * (k : Int) ≤ lostTo l day k ∧ lostTo l day k ≤ 1000000 * (k : Int)
  | 0, _ => by simp [lostTo]
  | k + 1, hk => by
    have h1 := lostTo_bound h day k (by omega)
    have h2 := h.each _ (brlAt_mem (show k < l.length by omega))
    simp only [lostTo]; push_cast; split <;> omega
theorem rClear_spec (l : List Brl) (day : Int) (h : KilOk l) : Spec Try.prog 55 [.agg [brlL l], .v (.int .i64 day)] (.tup [.agg [brlL (goodL l day)], .v (.int .i64 (sumK l - sumK (goodL l day)))]) := by
  have hn := h.n
  refine spec_of mixed Try.func55 (by decide) rfl Try.results55 Try.ntmps55 (by decide) 0 (by simp) ?_
  simp [brlL]
  refine pwp_loop (fun k : Nat => [(6, .box true [.own 32 (goodL (l.take k) day).length 0 (goodL (l.take k) day).length false]), (7, .v (.int .i64 (lostTo l day k))), (8, .v (.int .i64 k)), (25, .undef), (31, .undef), (32, .rows none (goodL (l.take k) day).length 54 2 (rowsBr (goodL (l.take k) day)))]) (fun k => k ≤ l.length) (fun k => l.length - k) 0 (Nat.zero_le _) (by simp; rfl) (by simp [lostTo, goodL]) ?_
  intro k hk
  by_cases hkl : k < l.length
  · have wk := i64_wrap (show -9223372036854775808 ≤ (k : Int) + 1 ∧ _ from by omega)
    have hb := lostTo_bound h day (k + 1) (by omega)
    have hle : (goodL (l.take k) day).length ≤ k := Nat.le_trans (List.length_filter_le _ _) (by simp; omega)
    have e1 : lostTo l day (k + 1) = if day ≤ (brlAt l k).til then lostTo l day k else lostTo l day k + (brlAt l k).kilos := rfl
    have e2 := goodL_snoc (day := day) hkl
    by_cases hd : day ≤ (brlAt l k).til
    · rw [if_pos hd] at e1 e2
      simp [hkl, Brl.cells, hd]
      refine pwp_draw 11 (by decide) ?_
      simp [hkl, Brl.cells, rowsBr_snoc', show ((goodL (l.take k) day).length + 1) * 16 ≤ 140737488355328 from by omega, show (goodL (l.take k) day).length + 1 ≤ maxLen from by simp [maxLen]; omega]
      refine ⟨by decide, ?_⟩
      refine again_of (k + 1) (by omega) (by omega) ?_
      simp [wk, e1, e2]
    · rw [if_neg hd] at e1 e2
      rw [e1] at hb
      have w1 := i64_wrap (show -9223372036854775808 ≤ lostTo l day k + (brlAt l k).kilos ∧ _ from by omega)
      simp [hkl, Brl.cells, hd, w1]
      refine again_of (k + 1) (by omega) (by omega) ?_
      simp [wk, e1, e2]
  · obtain rfl : k = l.length := by omega
    rw [lostTo_take l day _ (Nat.le_refl _), List.take_length]
    simp
    refine answers_of (by simp; rfl) ?_
    simp
    intro j hj
    rw [rowsBr_get hj]
    simp [Brl.cells]
end Go.Qg

namespace Go.Qg
open Go.Proofs
set_option maxRecDepth 100000
set_option linter.unusedSimpArgs false
set_option maxHeartbeats 4000000
attribute [local irreducible] pwp pops pdraw pop popCall pdCall thenP blockP scopeP pspec Spec answers ppost CallW
def bmax (S : Sup) : Nat → Int
  | 0 => -1
  | k + 1 => max (bmax S k) (burAt S.burns k).day
def smax (S : Sup) : Nat → Int
  | 0 => bmax S S.burns.length
  | k + 1 => max (smax S k) (shpAt S.ships k).day
theorem bmax_eq {S : Sup} (hS : SupOk S) : ∀ k, k ≤ S.burns.length → bmax S k = if 0 < k then (burAt S.burns (k - 1)).day else -1
  | 0, _ => rfl
  | k + 1, hk => by
    have h1 := hS.burn k (by omega)
    rw [bmax, bmax_eq hS k (by omega), if_pos (Nat.succ_pos k), Nat.add_sub_cancel]
    split
    · have := hS.burn_le (show k - 1 ≤ k by omega) (by omega)
      omega
    · omega
theorem smax_eq {S : Sup} (hS : SupOk S) : ∀ k, k ≤ S.ships.length → smax S k = if 0 < k then max (bmax S S.burns.length) (shpAt S.ships (k - 1)).day else bmax S S.burns.length
  | 0, _ => rfl
  | k + 1, hk => by
    have h1 := hS.ship k (by omega)
    rw [smax, smax_eq hS k (by omega), if_pos (Nat.succ_pos k), Nat.add_sub_cancel]
    split
    · have := hS.ship_lt (show k - 1 < k by omega) (by omega)
      omega
    · rfl
theorem smax_last {S : Sup} (hS : SupOk S) : smax S S.ships.length = lastD S := by
  rw [smax_eq hS _ (Nat.le_refl _), bmax_eq hS _ (Nat.le_refl _)]; rfl
theorem max_ite (a b : Int) : (if a < b then b else a) = max a b := by split <;> omega
theorem min_ite (a b : Int) : (if b < a then b else a) = min a b := by split <;> omega
theorem rlast_spec (S : Sup) (hS : SupOk S) : Spec Try.prog 91 [.agg S.cells] (.v (.int .i64 (lastD S))) := by
  have hnf := hS.nf
  have hns := hS.ns
  refine spec_of mixed Try.func91 (by decide) rfl Try.results91 Try.ntmps91 (by decide) 0 (by simp) ?_
  simp [Sup.cells, brlL, burL, shpL]
  refine pwp_loop (fun k : Nat => [(3, .v (.int .i64 (bmax S k))), (4, .v (.int .i64 k))]) (fun k => k ≤ S.burns.length) (fun k => S.burns.length - k) 0 (Nat.zero_le _) (by simp; rfl) (by simp [bmax]) ?_
  intro k hk
  have wk := i64_wrap (show -9223372036854775808 ≤ (k : Int) + 1 ∧ _ from by omega)
  by_cases hkl : k < S.burns.length
  · have e1 : bmax S (k + 1) = max (bmax S k) (burAt S.burns k).day := rfl
    simp [hkl, Bur.cells]
    refine again_of (k + 1) (by omega) (by omega) ?_
    simp [wk, e1, max_ite]
  · obtain rfl : k = S.burns.length := by omega
    clear wk hk
    simp
    refine pwp_loop (fun k : Nat => [(3, .v (.int .i64 (smax S k))), (5, .v (.int .i64 k))]) (fun k => k ≤ S.ships.length) (fun k => S.ships.length - k) 0 (Nat.zero_le _) (by simp; rfl) (by simp [smax]) ?_
    intro k hk
    have wk := i64_wrap (show -9223372036854775808 ≤ (k : Int) + 1 ∧ _ from by omega)
    by_cases hkl : k < S.ships.length
    · have e1 : smax S (k + 1) = max (smax S k) (shpAt S.ships k).day := rfl
      simp [hkl, Shp.cells]
      refine again_of (k + 1) (by omega) (by omega) ?_
      simp [wk, e1, max_ite]
    · obtain rfl : k = S.ships.length := by omega
      rw [smax_last hS]
      simp
      refine answers_of rfl ?_; simp
theorem rep_snoc {α : Type} (n : Nat) (a : α) : List.replicate n a ++ [a] = List.replicate (n + 1) a := by rw [List.replicate_succ']
theorem brought_spec (S : Sup) (c : List Brl) (x : Shp) (many : Int) (hc : c.length ≤ 1000) (hm : 0 ≤ many ∧ many ≤ 1000) (h1 : 0 ≤ x.day ∧ x.day ≤ 400) (h2 : 0 ≤ x.good ∧ x.good ≤ 400) :
    Spec Try.prog 92 [.agg S.cells, .agg [brlL c], .agg x.cells, .v (.int .i64 many)] (.agg [brlL (c ++ List.replicate many.toNat ⟨S.kilos, min 400 (x.day + x.good)⟩)]) := by
  obtain ⟨m, rfl⟩ : ∃ m : Nat, many = (m : Int) := ⟨many.toNat, by omega⟩
  simp only [Int.toNat_natCast]
  obtain ⟨B, hB⟩ : ∃ B : Brl, B = ⟨S.kilos, min 400 (x.day + x.good)⟩ := ⟨_, rfl⟩
  rw [← hB]
  have w1 := i64_wrap (show -9223372036854775808 ≤ x.day + x.good ∧ _ from by omega)
  by_cases hne : c = []
  · subst hne
    refine spec_of mixed Try.func92 (by decide) rfl Try.results92 Try.ntmps92 (by decide) 0 (by simp) ?_
    simp [Sup.cells, brlL, burL, shpL, Shp.cells]
    refine pwp_loop (fun s : Nat × Nat => [(9, .box true [.own 13 s.2 0 s.1 false]), (10, .v (.int .i64 s.1)), (13, .rows none s.2 54 2 (rowsBr (List.replicate s.1 B))), (14, .undef), (21, .undef), (31, .undef), (32, .undef)]) (fun s => s.1 ≤ m) (fun s => m - s.1) (0, 0) (Nat.zero_le _) (by simp; rfl) (by simp) ?_
    rintro ⟨k, e⟩ hk
    simp only at hk ⊢
    by_cases hkm : k < m
    · have wk := i64_wrap (show -9223372036854775808 ≤ (k : Int) + 1 ∧ _ from by omega)
      have eB : B.cells = [.v (.int .i64 S.kilos), .v (.int .i64 (if x.day + x.good < 400 then x.day + x.good else 400))] := by rw [hB, Brl.cells, min_ite]
      simp [hkm, w1, show (k + 1) * 16 ≤ 140737488355328 from by omega, show k + 1 ≤ maxLen from by simp [maxLen]; omega]
      refine again_of (k + 1, e + 1) (by simp only; omega) (by simp only; omega) ?_
      have er : rowsBr (List.replicate k B) ++ [B.cells] = rowsBr (List.replicate (k + 1) B) := by rw [rowsBr_snoc, rep_snoc]
      rw [eB] at er
      simp [wk, er]
    · obtain rfl : k = m := by omega
      simp
      refine answers_of (by simp; rfl) ?_
      simp
      intro j hj
      rw [rowsBr_get (by simpa using hj)]
      simp [Brl.cells]
  · have h0 : 0 < c.length := by cases c with | nil => exact absurd rfl hne | cons => simp
    refine spec_of mixed Try.func92 (by decide) rfl Try.results92 Try.ntmps92 (by decide) 0 (by simp) ?_
    simp [Sup.cells, brlL, burL, shpL, Shp.cells, h0, rowsBr_range, show c.length * 16 ≤ 140737488355328 from by omega, show c.length ≤ maxLen from by simp [maxLen]; omega]
    refine pwp_loop (fun s : Nat × Nat => [(9, .box true [.own 13 s.2 0 (c.length + s.1) false]), (10, .v (.int .i64 s.1)), (13, .rows none s.2 54 2 (rowsBr (c ++ List.replicate s.1 B))), (14, .undef), (21, .undef), (31, .undef), (32, .undef)]) (fun s => s.1 ≤ m) (fun s => m - s.1) (0, 0) (Nat.zero_le _) (by simp; rfl) (by simp) ?_
    rintro ⟨k, e⟩ hk
    simp only at hk ⊢
    by_cases hkm : k < m
    · have wk := i64_wrap (show -9223372036854775808 ≤ (k : Int) + 1 ∧ _ from by omega)
      have eB : B.cells = [.v (.int .i64 S.kilos), .v (.int .i64 (if x.day + x.good < 400 then x.day + x.good else 400))] := by rw [hB, Brl.cells, min_ite]
      simp [hkm, w1, show (c.length + k + 1) * 16 ≤ 140737488355328 from by omega, show c.length + k + 1 ≤ maxLen from by simp [maxLen]; omega]
      refine again_of (k + 1, e + 1) (by simp only; omega) (by simp only; omega) ?_
      have er : rowsBr (c ++ List.replicate k B) ++ [B.cells] = rowsBr (c ++ List.replicate (k + 1) B) := by rw [rowsBr_snoc, List.append_assoc, rep_snoc]
      rw [eB] at er
      have hTk : List.take (c.length + k) (c ++ List.replicate k B) = c ++ List.replicate k B := List.take_of_length_le (by simp)
      simp [wk, er, Nat.add_assoc, hTk]
    · obtain rfl : k = m := by omega
      simp
      refine answers_of (by simp; rfl) ?_
      simp
      intro j hj
      rw [rowsBr_get (by simpa using hj)]
      simp [Brl.cells]
theorem lowsB_take {S : Sup} {k : Nat} (h : k < S.burns.length) : (lowsB S).take (k + 1) = (lowsB S).take k ++ [(burAt S.burns k).low] := by
  rw [List.take_add_one]; simp [lowsB, burAt, h]
theorem highsB_take {S : Sup} {k : Nat} (h : k < S.burns.length) : (highsB S).take (k + 1) = (highsB S).take k ++ [(burAt S.burns k).high] := by
  rw [List.take_add_one]; simp [highsB, burAt, h]
def hiTo (S : Sup) (k : Nat) : List Int := (highsB S).take k
def loTo (S : Sup) (k : Nat) : List Int := (lowsB S).take k
theorem hiTo_zero (S : Sup) : hiTo S 0 = [] := rfl
theorem loTo_zero (S : Sup) : loTo S 0 = [] := rfl
theorem hiTo_all (S : Sup) : hiTo S S.burns.length = highsB S := List.take_of_length_le (by rw [highsB_length]; omega)
theorem loTo_all (S : Sup) : loTo S S.burns.length = lowsB S := List.take_of_length_le (by rw [lowsB_length]; omega)
theorem hiTo_succ {S : Sup} {k : Nat} (h : k < S.burns.length) : hiTo S (k + 1) = hiTo S k ++ [(burAt S.burns k).high] := highsB_take h
theorem loTo_succ {S : Sup} {k : Nat} (h : k < S.burns.length) : loTo S (k + 1) = loTo S k ++ [(burAt S.burns k).low] := lowsB_take h
theorem hiTo_length (S : Sup) (k : Nat) : (hiTo S k).length ≤ k := by simp [hiTo]; omega
theorem loTo_length (S : Sup) (k : Nat) : (loTo S k).length ≤ k := by simp [loTo]; omega
theorem rEnds_spec (S : Sup) (hf : S.burns.length ≤ 1000000) (high : Bool) : Spec Try.prog 45 [.agg S.cells, .v (.bool high)] (ints (if high = true then highsB S else lowsB S)) := by
  refine spec_of mixed Try.func45 (by decide) rfl Try.results45 Try.ntmps45 (by decide) 0 (by simp) ?_
  simp [Sup.cells, brlL, burL, shpL]
  cases high with
  | true =>
    refine pwp_loop (fun k : Nat => [(5, .own 24 (hiTo S k).length 0 (hiTo S k).length false), (6, .v (.int .i64 k)), (23, .undef), (24, .rows none (hiTo S k).length 3 1 (rowsI (hiTo S k)))]) (fun k => k ≤ S.burns.length) (fun k => S.burns.length - k) 0 (Nat.zero_le _) (by simp; rfl) (by simp [hiTo_zero, loTo_zero]) ?_
    intro k hk
    by_cases hkl : k < S.burns.length
    · have wk := i64_wrap (show -9223372036854775808 ≤ (k : Int) + 1 ∧ _ from by omega)
      have hT := hiTo_succ hkl
      have hTl := hiTo_length S k
      generalize hiTo S k = T at hT hTl
      simp [hkl, Bur.cells, rowsI_snoc, show (T.length + 1) * 8 ≤ 140737488355328 from by omega, show T.length + 1 ≤ maxLen from by simp [maxLen]; omega]
      refine again_of (k + 1) (by omega) (by omega) ?_
      simp only [hT]
      simp [wk]
      intro y hy z hz
      rcases hy with ⟨a, _, rfl⟩ | rfl <;> (simp at hz; subst hz; rfl)
    · obtain rfl : k = S.burns.length := by omega
      rw [hiTo_all]
      simp
      refine answers_of rfl ?_
      simp [ints, highsB_length]
      intro j hj
      rw [rowsI_get (by rw [highsB_length]; exact hj)]
      simp
  | false =>
    refine pwp_loop (fun k : Nat => [(5, .own 34 (loTo S k).length 0 (loTo S k).length false), (6, .v (.int .i64 k)), (33, .undef), (34, .rows none (loTo S k).length 3 1 (rowsI (loTo S k)))]) (fun k => k ≤ S.burns.length) (fun k => S.burns.length - k) 0 (Nat.zero_le _) (by simp; rfl) (by simp [hiTo_zero, loTo_zero]) ?_
    intro k hk
    by_cases hkl : k < S.burns.length
    · have wk := i64_wrap (show -9223372036854775808 ≤ (k : Int) + 1 ∧ _ from by omega)
      have hT := loTo_succ hkl
      have hTl := loTo_length S k
      generalize loTo S k = T at hT hTl
      simp [hkl, Bur.cells, rowsI_snoc, show (T.length + 1) * 8 ≤ 140737488355328 from by omega, show T.length + 1 ≤ maxLen from by simp [maxLen]; omega]
      refine again_of (k + 1) (by omega) (by omega) ?_
      simp only [hT]
      simp [wk]
      intro y hy z hz
      rcases hy with ⟨a, _, rfl⟩ | rfl <;> (simp at hz; subst hz; rfl)
    · obtain rfl : k = S.burns.length := by omega
      rw [loTo_all]
      simp
      refine answers_of rfl ?_
      simp [ints, lowsB_length]
      intro j hj
      rw [rowsI_get (by rw [lowsB_length]; exact hj)]
      simp
end Go.Qg

namespace Go.Qg
open Go.Proofs
set_option maxRecDepth 100000
set_option linter.unusedSimpArgs false
set_option maxHeartbeats 4000000
attribute [local irreducible] pwp pops pdraw pop popCall pdCall thenP blockP scopeP pspec Spec answers ppost CallW
theorem rDraw_spec (l : List Brl) (day n : Int) (hk : KilOk l) (hp : PosS l) (ht : ∀ b ∈ l, b.til ≤ 400) (hn : 0 ≤ n ∧ n ≤ 1000000) :
    Spec Try.prog 57 [.agg [brlL l], .v (.int .i64 day), .v (.int .i64 n)] (.tup [.agg [brlL (if n ≤ hasL l day then drawL l day n else [])], .v (.bool (decide (n ≤ hasL l day)))]) := by
  have hlen := hk.n
  refine spec_of mixed Try.func57 (by decide) rfl Try.results57 Try.ntmps57 (by decide) 1 (by simp) ?_
  simp [brlL]
  refine pop_spec (rHas_spec l day hk) rfl false (.inl (by simp [brlL])) (.inl rfl) rfl (by simp) ?_
  by_cases h1 : hasL l day < n
  · simp [h1]
    refine answers_of (by simp; rfl) ?_; simp [show ¬ n ≤ hasL l day from by omega]
  · have h2 : n ≤ hasL l day := by omega
    rw [if_pos h2]
    obtain ⟨T, hT⟩ : ∃ T, T = drawL l day n := ⟨_, rfl⟩
    have st0 : Steps1 day T l n := ⟨hp, ht, hn.1, h2, hT.symm⟩
    rw [← hT]
    by_cases hne : l = []
    · subst hne
      have hn0 : n = 0 := by have : hasL [] day = 0 := rfl
                             omega
      subst hn0
      have hT0 := steps1_end st0
      rw [← hT0]
      simp [h1]
      refine pwp_loop (fun _ : Nat => [(2, .v (.int .i64 0)), (8, .box true [.own 19 0 0 0 false]), (19, .rows none 0 54 2 [])]) (fun _ => True) (fun _ => 0) 0 trivial (by simp; rfl) (by simp) ?_
      intro _ _
      simp
      refine answers_of (by simp; rfl) ?_
      simp [h2]
    · have h0 : 0 < l.length := by cases l with | nil => exact absurd rfl hne | cons => simp
      simp [h1, h0, rowsBr_range, show l.length * 16 ≤ 140737488355328 from by omega, show l.length ≤ maxLen from by simp [maxLen]; omega]
      refine pwp_loopM (fun st : List Brl × Int × Nat => [(2, .v (.int .i64 st.2.1)), (8, .box true [.own 70 st.2.2 0 st.1.length false]), (19, .undef), (20, .undef), (70, .rows none st.2.2 54 2 (rowsBr st.1))]) (fun st => Steps1 day T st.1 st.2.1 ∧ KilOk st.1 ∧ st.2.1 ≤ 1000000) (fun st => st.2.1.toNat) (l, n, 0) ⟨st0, hk, hn.2⟩ (by simp; rfl) ?_ ?_
      · refine weak_mv 19 70 (by simp [objAt]) (by simp [objAt]) (by simp) (by omega) ?_
        simp [mv, ren1, PV.bareOf, PV.ren, renL, renLL]
      · rintro ⟨out, r, e⟩ ⟨hS, hko, hr⟩
        simp only at hS hko hr
        have hon := hko.n
        by_cases hr0 : 0 < r
        · obtain ⟨i, e1, e2, e3, e4⟩ := steps1_step hS hr0
          have hnext := rnext_spec out day (by omega)
          rw [e1] at hnext
          have hki := hko.each _ (brlAt_mem e2)
          have wm := min_ite r (brlAt out i).kilos
          have w1 := i64_wrap (show -9223372036854775808 ≤ (brlAt out i).kilos - min r (brlAt out i).kilos ∧ _ from by omega)
          have w2 := i64_wrap (show -9223372036854775808 ≤ r - min r (brlAt out i).kilos ∧ _ from by omega)
          have w3 := i64_wrap (show -9223372036854775808 ≤ (i : Int) + 1 ∧ _ from by omega)
          have hrow := rowsBr_get e2
          have ei : ((i : Int)).toNat = i := by simp
          simp [hr0]
          refine pop_spec hnext rfl true (.inl ?_) (.inr rfl) rfl (by simp) ?_
          · simp [brlL]
            intro j hj
            rw [rowsBr_get hj]
            simp [Brl.cells]
          simp [e2, hrow, Brl.cells, wm]
          refine pwp_draw 14 (by decide) ?_
          simp [e2, hrow, Brl.cells, w1, setRange]
          refine ⟨by decide, ?_⟩
          simp [w2, e2, rowsBr_set']
          have hnew : ∀ b ∈ step1 out i r, b ∈ out ∨ b = ⟨(brlAt out i).kilos - min r (brlAt out i).kilos, (brlAt out i).til⟩ := fun b hb => by
            have hsub : b ∈ out.set i ⟨(brlAt out i).kilos - min r (brlAt out i).kilos, (brlAt out i).til⟩ := by
              unfold step1 at hb
              split at hb
              · rcases List.mem_append.1 hb with hb | hb
                · exact List.mem_of_mem_take hb
                · exact List.mem_of_mem_drop hb
              · exact hb
            exact List.mem_or_eq_of_mem_set hsub
          have hlen1 : (step1 out i r).length ≤ out.length := by
            unfold step1 drop1
            split
            · simp; omega
            · simp
          have hko' : KilOk (step1 out i r) := ⟨by omega, fun b hb => by
            rcases hnew b hb with hb | rfl
            · exact hko.each b hb
            · simp only; have := hS.pos _ (brlAt_mem e2); omega⟩
          by_cases hz : (brlAt out i).kilos - min r (brlAt out i).kilos = 0
          · have hd : step1 out i r = drop1 (out.set i ⟨(brlAt out i).kilos - min r (brlAt out i).kilos, (brlAt out i).til⟩) i := if_pos hz
            rw [hd] at e4 hko'
            have hOl : (out.set i ⟨(brlAt out i).kilos - min r (brlAt out i).kilos, (brlAt out i).til⟩).length = out.length := by simp
            generalize out.set i ⟨(brlAt out i).kilos - min r (brlAt out i).kilos, (brlAt out i).til⟩ = O at hOl e4 hko'
            simp [hz]
            refine pwp_draw 13 (by decide) ?_
            by_cases hi0 : i = 0
            · subst hi0
              by_cases hl1 : out.length = 1
              · simp [hl1, w3]
                refine ⟨by decide, ?_⟩
                have ed : drop1 O 0 = [] := by
                  have : O.length = 1 := by omega
                  match O, this with
                  | [_], _ => rfl
                refine againW_weak (drop1 O 0, r - min r (brlAt out 0).kilos, 1) ⟨e4, hko', by simp only; omega⟩ (by simp only; omega) (weak_dmv 61 70 ?_ ?_ ?_ ?_ (by omega) ?_)
                all_goals simp [dropO, PV.names, namesL, objAt, mv, ren1, PV.bareOf, PV.ren, renL, renLL, ed]
              · simp [hOl, hl1, w3, show 1 < out.length from by omega, show (1 : Int) < out.length from by omega, show (1 : Int) ≤ out.length from by omega, show (out.length - 1) * 16 ≤ 140737488355328 from by omega, show out.length - 1 ≤ maxLen from by simp [maxLen]; omega, show 0 < out.length - 1 from by omega, show ¬ out.length - 1 = 0 from by omega, show 1 + (out.length - 1) ≤ out.length from by omega]
                refine ⟨by decide, ?_⟩
                have er : List.take (out.length - 1) (rowsBr O).tail = rowsBr (drop1 O 0) := by
                  rw [List.take_of_length_le (by simp [rowsBr]; omega)]
                  simp [rowsBr, drop1, List.map_tail]
                have el : (drop1 O 0).length = out.length - 1 := by simp [drop1]; omega
                refine againW_weak (drop1 O 0, r - min r (brlAt out 0).kilos, 1) ⟨e4, hko', by simp only; omega⟩ (by simp only; omega) (weak_dmv 61 70 ?_ ?_ ?_ ?_ (by omega) ?_)
                all_goals simp [dropO, PV.names, namesL, objAt, mv, ren1, PV.bareOf, PV.ren, renL, renLL, er, el]
            · by_cases hl1 : i + 1 = out.length
              · simp [hOl, w3, show 0 < i from by omega, hi0, show i ≤ out.length from by omega, show (i : Int) + 1 ≤ out.length from by omega, show ¬ (i : Int) + 1 < out.length from by omega, show ¬ (i : Int) + 1 = 0 from by omega, show ((i : Int) + 1).toNat = i + 1 from by omega, show 0 ≤ (i : Int) + 1 from by omega, show i * 16 ≤ 140737488355328 from by omega, show i ≤ maxLen from by simp [maxLen]; omega]
                refine ⟨by decide, ?_⟩
                have er : drop1 O i = O.take i := by rw [drop1, List.drop_of_length_le (by omega), List.append_nil]
                have el : (drop1 O i).length = i := by rw [er]; simp; omega
                refine againW_weak (drop1 O i, r - min r (brlAt out i).kilos, 1) ⟨e4, hko', by simp only; omega⟩ (by simp only; omega) (weak_dmv 61 70 ?_ ?_ ?_ ?_ (by omega) ?_)
                all_goals simp [dropO, PV.names, namesL, objAt, mv, ren1, PV.bareOf, PV.ren, renL, renLL, er, el, hOl, List.take_take, show min i out.length = i from by omega]
              · simp [hOl, w3, show 0 < i from by omega, hi0, show i ≤ out.length from by omega, show (i : Int) + 1 ≤ out.length from by omega, show (i : Int) + 1 < out.length from by omega, show ¬ (i : Int) + 1 = 0 from by omega, show ((i : Int) + 1).toNat = i + 1 from by omega, show 0 ≤ (i : Int) + 1 from by omega, show i * 16 ≤ 140737488355328 from by omega, show i ≤ maxLen from by simp [maxLen]; omega, show (i + (out.length - (i + 1))) * 16 ≤ 140737488355328 from by omega, show i + (out.length - (i + 1)) ≤ maxLen from by simp [maxLen]; omega, show i + 1 + (out.length - (i + 1)) ≤ out.length from by omega, show ¬ out.length - (i + 1) = 0 from by omega, show 0 < out.length - (i + 1) from by omega]
                refine ⟨by decide, ?_⟩
                have er : rowsBr (List.take i O) ++ List.take (out.length - (i + 1)) (List.drop (i + 1) (rowsBr O)) = rowsBr (drop1 O i) := by
                  rw [List.take_of_length_le (l := List.drop (i + 1) (rowsBr O)) (by simp [rowsBr]; omega)]
                  simp [rowsBr, drop1, List.map_drop]
                have el : (drop1 O i).length = i + (out.length - (i + 1)) := by simp [drop1]; omega
                refine againW_weak (drop1 O i, r - min r (brlAt out i).kilos, 1) ⟨e4, hko', by simp only; omega⟩ (by simp only; omega) (weak_dmv 61 70 ?_ ?_ ?_ ?_ (by omega) ?_)
                all_goals simp [dropO, PV.names, namesL, objAt, mv, ren1, PV.bareOf, PV.ren, renL, renLL, er, el, List.take_take]
          · have hd : step1 out i r = out.set i ⟨(brlAt out i).kilos - min r (brlAt out i).kilos, (brlAt out i).til⟩ := if_neg hz
            simp [hz]
            refine againW_weak (step1 out i r, r - min r (brlAt out i).kilos, e) ⟨e4, hko', by simp only; omega⟩ (by simp only; omega) (weak_of_less ?_)
            simp [hd, e2]
        · obtain rfl : r = 0 := by have := hS.n0; omega
          obtain rfl := steps1_end hS
          simp
          refine answers_of (by simp; rfl) ?_
          simp [h2]
          intro j hj
          rw [rowsBr_get hj]
          simp [Brl.cells]
end Go.Qg

namespace Go.Qg
structure Bok (l : List Brl) (m : Nat) : Prop where
  n : l.length ≤ m
  each : ∀ b ∈ l, (0 < b.kilos ∧ b.kilos ≤ 1000) ∧ 0 ≤ b.til ∧ b.til ≤ 400
theorem Bok.kil {l : List Brl} {m : Nat} (h : Bok l m) (hm : m ≤ 1000) : KilOk l := ⟨by have := h.n; omega, fun b hb => by have := h.each b hb; omega⟩
theorem Bok.posS {l : List Brl} {m : Nat} (h : Bok l m) : PosS l := fun b hb => (h.each b hb).1.1
theorem Bok.til {l : List Brl} {m : Nat} (h : Bok l m) : ∀ b ∈ l, b.til ≤ 400 := fun b hb => (h.each b hb).2.2
theorem Bok.good {l : List Brl} {m : Nat} (h : Bok l m) (t : Int) : Bok (goodL l t) m := ⟨Nat.le_trans (List.length_filter_le _ _) h.n, fun b hb => h.each b (List.mem_filter.1 hb).1⟩
theorem Bok.mono {l : List Brl} {m m' : Nat} (h : Bok l m) (hm : m ≤ m') : Bok l m' := ⟨Nat.le_trans h.n hm, h.each⟩
theorem Bok.first {S : Sup} (hS : SupOk S) : Bok S.barrels 30 := ⟨hS.nb, fun b hb => by have := hS.pos b hb; omega⟩
theorem Bok.comes {S : Sup} (hS : SupOk S) {plan : List Int} (hpl : PlanOk S plan) {l : List Brl} {m i : Nat} (h : Bok l m) (hi : i < S.ships.length) : Bok (l ++ comes S plan i) (m + 9) := by
  have h1 := hpl.each i hi
  have h2 := hS.ship i hi
  have h3 := hS.k
  refine ⟨?_, fun b hb => ?_⟩
  · have := h.n
    simp only [Qg.comes, List.length_append, List.length_replicate]; omega
  · rcases List.mem_append.1 hb with hb | hb
    · exact h.each b hb
    · obtain rfl := List.eq_of_mem_replicate hb
      simp only; omega
theorem pass_le (u : Int) : ∀ {l : List Brl} {n c : Int}, Pos l → 0 ≤ n → (∀ b ∈ l, b.kilos ≤ c) → ∀ b ∈ (pass u l n).1, b.kilos ≤ c
  | [], _, _, _, _, _, b, hb => by cases hb
  | x :: l, n, c, hp, hn, h, b, hb => by
    have hx := hp.head
    have hc := h x List.mem_cons_self
    simp only [pass] at hb
    split at hb
    · rcases List.mem_cons.1 hb with rfl | hb
      · simp only; omega
      · exact pass_le u hp.tail (by omega) (fun b hb => h b (List.mem_cons_of_mem _ hb)) b hb
    · rcases List.mem_cons.1 hb with rfl | hb
      · exact hc
      · exact pass_le u hp.tail hn (fun b hb => h b (List.mem_cons_of_mem _ hb)) b hb
theorem sweep_le : ∀ (k : Nat) (u : Int) {l : List Brl} {n c : Int}, Pos l → 0 ≤ n → (∀ b ∈ l, b.kilos ≤ c) → ∀ b ∈ (sweep k u l n).1, b.kilos ≤ c
  | 0, _, _, _, _, _, _, h, b, hb => h b hb
  | k + 1, u, l, n, c, hp, hn, h, b, hb => by
    have h1 := pass_ok u hp hn
    exact sweep_le k (u + 1) h1.1 (by rw [h1.2]; omega) (pass_le u hp hn h) b hb
theorem Bok.draw {l : List Brl} {m : Nat} (h : Bok l m) {t n : Int} (hn : 0 ≤ n) : Bok (drawL l t n) m := by
  refine ⟨Nat.le_trans (drawL_length _ _ _) h.n, fun b hb => ?_⟩
  have hf := full_posS _ b hb
  have hb' := (List.mem_filter.1 hb).1
  have h1 := sweep_le (days400 t) t h.posS.pos hn (fun b hb => (h.each b hb).1.2) b hb'
  have : b.til ∈ l.map (·.til) := by rw [← sweep_til (days400 t) t l n]; exact List.mem_map_of_mem hb'
  obtain ⟨x, hx, he⟩ := List.mem_map.1 this
  have h2 := h.each x hx
  have he : x.til = b.til := he
  omega
theorem hasL_all {l : List Brl} (h : ∀ b ∈ l, 0 ≤ b.til) : hasL l 0 = sumK l := by
  have : goodL l 0 = l := List.filter_eq_self.2 fun b hb => by simpa using h b hb
  rw [hasL, this]
theorem rload_bok {S : Sup} (hS : SupOk S) {plan : List Int} (hpl : PlanOk S plan) {t : Int} {q : Rp} {m : Nat} (h : Bok q.barrels m) : ∀ k, k ≤ S.ships.length → (Bok (rload S plan t k q).barrels (m + 9)) ∧ ((∀ i, i < k → (shpAt S.ships i).day ≠ t) → rload S plan t k q = q)
  | 0, _ => ⟨h.mono (by omega), fun _ => rfl⟩
  | k + 1, hk => by
    obtain ⟨h1, h2⟩ := rload_bok hS hpl (t := t) h k (by omega)
    refine ⟨?_, fun hno => rload_skip S plan t q (k + 1) hno⟩
    simp only [rload]
    split
    · rename_i hd
      have e : rload S plan t k q = q := h2 fun i hi he => by
        have := hS.ship_lt hi (by omega)
        omega
      rw [e]
      exact h.comes hS hpl (by omega)
    · exact h1
theorem rload_num {S : Sup} (hS : SupOk S) {plan : List Int} (hpl : PlanOk S plan) {t : Int} {q : Rp} : ∀ k, k ≤ S.ships.length → (q.came ≤ (rload S plan t k q).came ∧ (rload S plan t k q).came ≤ q.came + 9000 * k) ∧ (rload S plan t k q).counts.length ≤ q.counts.length + k ∧ (rload S plan t k q).drawn = q.drawn ∧ (rload S plan t k q).waste = q.waste ∧ (rload S plan t k q).lacks = q.lacks
  | 0, _ => by simp [rload]
  | k + 1, hk => by
    obtain ⟨h1, h2, h3, h4, h5⟩ := rload_num hS hpl (t := t) (q := q) k (by omega)
    have g1 := hpl.each k (by omega)
    have g2 := hS.ship k (by omega)
    have g3 := hS.k
    have g4 : 0 ≤ gi plan k * S.kilos ∧ gi plan k * S.kilos ≤ 9 * 1000 := ⟨Int.mul_nonneg g1.1 (by omega), Int.mul_le_mul (by omega) (by omega) (by omega) (by omega)⟩
    simp only [rload]
    split
    · refine ⟨?_, ?_, h3, h4, h5⟩
      · simp only; omega
      · simp only [List.length_append, List.length_singleton]; omega
    · exact ⟨by omega, by omega, h3, h4, h5⟩
theorem rfly_bok {S : Sup} {b : List Int} (hb : BurnsOk S b) {t : Int} {q : Rp} {m : Nat} (h : Bok q.barrels m) : ∀ k, k ≤ S.burns.length → Bok (rfly S b t k q).barrels m
  | 0, _ => h
  | k + 1, hk => by
    have h1 := rfly_bok hb (t := t) h k (by omega)
    simp only [rfly]
    split
    · exact h1
    · split
      · exact h1
      · split
        · exact h1
        · exact h1.draw (hb.each k (by omega)).1
theorem rfly_num {S : Sup} {b : List Int} (hb : BurnsOk S b) {t : Int} {q : Rp} : ∀ k, k ≤ S.burns.length → (q.drawn ≤ (rfly S b t k q).drawn ∧ (rfly S b t k q).drawn ≤ q.drawn + 30000 * k) ∧ (rfly S b t k q).came = q.came ∧ (rfly S b t k q).waste = q.waste ∧ (rfly S b t k q).counts = q.counts
  | 0, _ => by simp [rfly]
  | k + 1, hk => by
    obtain ⟨h1, h2, h3, h4⟩ := rfly_num hb (t := t) (q := q) k (by omega)
    have g1 := hb.each k (by omega)
    simp only [rfly]
    split
    · exact ⟨by omega, h2, h3, h4⟩
    · split
      · exact ⟨by omega, h2, h3, h4⟩
      · split
        · exact ⟨by simp only; omega, h2, h3, h4⟩
        · exact ⟨by simp only; omega, h2, h3, h4⟩
theorem rrun_each {S : Sup} (hS : SupOk S) {plan b : List Int} (hpl : PlanOk S plan) (hb : BurnsOk S b) : ∀ n, ∃ m, Bok (rrun S plan b n).barrels m
  | 0 => ⟨30, Bok.first hS⟩
  | n + 1 => by
    obtain ⟨m, h⟩ := rrun_each hS hpl hb n
    simp only [rrun]
    split
    · exact ⟨m, h⟩
    · exact ⟨m + 9, rfly_bok hb ((rload_bok hS hpl (q := rclear n (rrun S plan b n)) (h.good n) _ (Nat.le_refl _)).1) _ (Nat.le_refl _)⟩
theorem rrun_bok {S : Sup} (hS : SupOk S) {plan b : List Int} (hpl : PlanOk S plan) (hb : BurnsOk S b) (n : Nat) : Bok (rrun S plan b n).barrels 84 := by
  obtain ⟨m, h⟩ := rrun_each hS hpl hb n
  refine ⟨?_, h.each⟩
  rw [(run_alike hS plan b n).1.b]
  exact ((playOk_run hS hpl hb n).num hS hpl hb).n
theorem rrun_num {S : Sup} (hS : SupOk S) {plan b : List Int} (hpl : PlanOk S plan) (hb : BurnsOk S b) (n : Nat) : (0 ≤ (rrun S plan b n).came ∧ (rrun S plan b n).came ≤ 1000000) ∧ (0 ≤ (rrun S plan b n).drawn ∧ (rrun S plan b n).drawn ≤ 2000000) ∧ 0 ≤ (rrun S plan b n).waste ∧ (rrun S plan b n).waste ≤ 1000000 := by
  have h1 := (playOk_run hS hpl hb n).num hS hpl hb
  have h2 := (run_alike hS plan b n).1
  rw [h2.c, h2.d, h2.w]
  exact ⟨h1.came, h1.drawn, h1.waste⟩
theorem rclear_num {S : Sup} (hS : SupOk S) {plan b : List Int} (hpl : PlanOk S plan) (hb : BurnsOk S b) (n : Nat) : 0 ≤ (rclear n (rrun S plan b n)).waste ∧ (rclear n (rrun S plan b n)).waste ≤ 1000000 := by
  have h1 := (playOk_clear (playOk_run hS hpl hb n) n).num hS hpl hb
  have h2 := clear_alike (t := n) (run_alike hS plan b n).1
  rw [h2.w]
  exact h1.waste
theorem rrun_counts {S : Sup} (hS : SupOk S) {plan b : List Int} (hpl : PlanOk S plan) (hb : BurnsOk S b) : ∀ n, (rrun S plan b n).counts.length ≤ 6 * n
  | 0 => Nat.le_refl _
  | n + 1 => by
    have h := rrun_counts hS hpl hb n
    have hns := hS.ns
    simp only [rrun]
    split
    · omega
    · have h1 := (rload_num hS hpl (t := n) (q := rclear n (rrun S plan b n)) _ (Nat.le_refl _)).2.1
      have h2 := (rfly_num hb (t := n) (q := rload S plan n S.ships.length (rclear n (rrun S plan b n))) _ (Nat.le_refl _)).2.2.2
      have h3 : (rclear n (rrun S plan b n)).counts = (rrun S plan b n).counts := rfl
      rw [h3] at h1
      simp only [rday]
      rw [h2]; omega
theorem rrun_stays (S : Sup) (plan b : List Int) {n : Nat} (h : 0 ≤ (rrun S plan b n).lacks) : ∀ m, n ≤ m → rrun S plan b m = rrun S plan b n
  | 0, hm => by obtain rfl : n = 0 := by omega
                rfl
  | m + 1, hm => by
    rcases Nat.lt_or_eq_of_le hm with h1 | rfl
    · have e := rrun_stays S plan b h m (by omega)
      rw [rrun, e, if_pos h]
    · rfl
end Go.Qg

namespace Go.Qg
open Go.Proofs
set_option maxRecDepth 100000
set_option linter.unusedSimpArgs false
set_option maxHeartbeats 8000000
attribute [local irreducible] pwp pops pdraw pop popCall pdCall thenP blockP scopeP pspec Spec answers ppost CallW
def rpV (first left : Int) (q : Rp) (c : PV) : List PV := [.v (.int .i64 first), .v (.int .i64 q.came), .v (.int .i64 q.drawn), .v (.int .i64 q.waste), .v (.int .i64 left), brlL q.barrels, .v (.int .i64 q.lacks), c]
def playQ (S : Sup) (plan b : List Int) : Rp := rrun S plan b (days S)
def rPlayRes (S : Sup) (plan b : List Int) : PV := .agg (rpV (sumK S.barrels) (sumK (playQ S plan b).barrels) (playQ S plan b) (ints (playQ S plan b).counts))
theorem rPlay_spec (S : Sup) (hS : SupOk S) (plan b : List Int) (hpl : PlanOk S plan) (hb : BurnsOk S b) :
    Spec Try.prog 43 [.agg S.cells, ints plan, ints b] (rPlayRes S plan b) := by
  have hnf := hS.nf
  have hns := hS.ns
  have hlast := lastD_bound hS
  have hB0 := Bok.first hS
  have hhas0 := rHas_spec S.barrels 0 (hB0.kil (by omega))
  rw [hasL_all fun x hx => (hB0.each x hx).2.1] at hhas0
  have hlst := rlast_spec S hS
  refine spec_of mixed Try.func43 (by decide) rfl Try.results43 Try.ntmps43 (by decide) 0 (by simp) ?_
  simp [Sup.cells, brlL, burL, shpL, ints]
  refine pop_spec hhas0 rfl false (.inl (by simp [brlL])) (.inl rfl) rfl (by simp) ?_
  simp
  refine pwp_loop (fun n : Nat => [(7, .box true (rpV (sumK S.barrels) 0 (rrun S plan b n) (.own 99 (rrun S plan b n).counts.length 0 (rrun S plan b n).counts.length false))), (8, .v (.int .i64 n)), (93, .undef), (98, .undef), (99, .rows none (rrun S plan b n).counts.length 3 1 (rowsI (rrun S plan b n).counts))]) (fun n => n ≤ days S) (fun n => days S - n) 0 (Nat.zero_le _) (by simp; rfl) (by simp [rpV, rrun, brlL]) ?_
  intro n hn
  have hdays : days S = (lastD S + 1).toNat := rfl
  have wn := i64_wrap (show -9223372036854775808 ≤ (n : Int) + 1 ∧ _ from by omega)
  simp [rpV, brlL]
  refine pop_spec hlst rfl false (.inl (by simp [Sup.cells, brlL, burL, shpL])) (.inl rfl) rfl (by simp) ?_
  by_cases hnd : n < days S
  · by_cases hlk : (rrun S plan b n).lacks < 0
    · have c1 : (n : Int) ≤ lastD S := by omega
      have hB := rrun_bok hS hpl hb n
      have hclr := rClear_spec (rrun S plan b n).barrels n (hB.kil (by omega))
      simp [c1, hlk]
      refine pop_spec hclr rfl false (.inl (by simp [brlL])) (.inl rfl) rfl (by simp [brlL]) ?_
      simp [brlL]
      obtain ⟨q0, hq0⟩ : ∃ q, q = rclear n (rrun S plan b n) := ⟨_, rfl⟩
      have hw0 := rclear_num hS hpl hb n
      have hnum := rrun_num hS hpl hb n
      have hcn := rrun_counts hS hpl hb n
      have hB0' : Bok q0.barrels 84 := by rw [hq0]; exact hB.good n
      have e0 : goodL (rrun S plan b n).barrels n = q0.barrels ∧ (rrun S plan b n).waste + (sumK (rrun S plan b n).barrels - sumK (goodL (rrun S plan b n).barrels n)) = q0.waste ∧ (rrun S plan b n).came = q0.came ∧ (rrun S plan b n).drawn = q0.drawn ∧ (rrun S plan b n).lacks = q0.lacks ∧ (rrun S plan b n).counts = q0.counts := by rw [hq0]; exact ⟨rfl, rfl, rfl, rfl, rfl, rfl⟩
      obtain ⟨e01, e02, e03, e04, e05, e06⟩ := e0
      rw [← hq0] at hw0
      rw [e03, e04] at hnum
      rw [e06] at hcn
      have hnext : rrun S plan b (n + 1) = rfly S b n S.burns.length (rload S plan n S.ships.length q0) := by rw [hq0, rrun, if_neg (by omega)]; rfl
      have ww := i64_wrap (show -9223372036854775808 ≤ q0.waste ∧ _ from by omega)
      rw [← e02] at ww
      have hlk0 : q0.lacks < 0 := by rw [← e05]; exact hlk
      simp only [e01, e03, e04, e05, e06]
      rw [e01] at e02 ww
      rw [ww, e02]
      refine pwp_loop (fun k : Nat => [(7, .box true (rpV (sumK S.barrels) 0 (rload S plan n k q0) (.own 99 (rload S plan n k q0).counts.length 0 (rload S plan n k q0).counts.length false))), (11, .v (.int .i64 k)), (93, .undef), (98, .undef), (99, .rows none (rload S plan n k q0).counts.length 3 1 (rowsI (rload S plan n k q0).counts))]) (fun k => k ≤ S.ships.length) (fun k => S.ships.length - k) 0 (Nat.zero_le _) (by simp; rfl) (by simp [rpV, rload, brlL]) ?_
      intro k hk
      have wk := i64_wrap (show -9223372036854775808 ≤ (k : Int) + 1 ∧ _ from by omega)
      by_cases hkl : k < S.ships.length
      · have hs := hS.ship k hkl
        have hp := hpl.each k hkl
        have hkil := hS.k
        rw [gi_geti] at hp
        obtain ⟨hQB, _⟩ := rload_bok hS hpl (t := n) hB0' k hk
        have hQn := rload_num hS hpl (t := n) (q := q0) k hk
        have hmul : 0 ≤ geti plan k * S.kilos ∧ geti plan k * S.kilos ≤ 9 * 1000 := ⟨Int.mul_nonneg hp.1 (by omega), Int.mul_le_mul (by omega) (by omega) (by omega) (by omega)⟩
        by_cases hd : (shpAt S.ships k).day = n
        · have e : rload S plan n (k + 1) q0 = { rload S plan n k q0 with barrels := (rload S plan n k q0).barrels ++ comes S plan k, came := (rload S plan n k q0).came + gi plan k * S.kilos, counts := (rload S plan n k q0).counts ++ [(((rload S plan n k q0).barrels ++ comes S plan k).length : Int)] } := by rw [rload, if_pos hd]
          have hbr := brought_spec S (rload S plan n k q0).barrels (shpAt S.ships k) (geti plan k) (by have := hQB.n; omega) (by omega) hs.1 hs.2.2.2.2
          have ec : (rload S plan n k q0).barrels ++ List.replicate (geti plan k).toNat ⟨S.kilos, min 400 ((shpAt S.ships k).day + (shpAt S.ships k).good)⟩ = (rload S plan n k q0).barrels ++ comes S plan k := by rw [comes, gi_geti]
          rw [ec] at hbr
          rw [gi_geti] at e
          generalize rload S plan n k q0 = Q at e hbr hQB hQn
          generalize Q.barrels ++ comes S plan k = B' at e hbr
          have hQl := hQB.n
          simp [rpV, brlL, hkl, Shp.cells, hd]
          refine pwp_draw 15 (by decide) ?_
          simp [hkl, Shp.cells, show k < plan.length from by rw [hpl.len]; exact hkl]
          refine pd_spec hbr (by simp [Sup.cells, brlL, burL, shpL, Shp.cells, hd]) (by simp) (by simp [Sup.cells, brlL, burL, shpL, Shp.cells]) (by simp [brlL]) ?_
          simp [brlL]
          refine ⟨by decide, ?_⟩
          have w1 := i64_wrap (show -9223372036854775808 ≤ geti plan k * S.kilos ∧ _ from by omega)
          have w2 := i64_wrap (show -9223372036854775808 ≤ Q.came + geti plan k * S.kilos ∧ _ from by omega)
          refine pwp_draw 14 (by decide) ?_
          simp [hkl, show k < plan.length from by rw [hpl.len]; exact hkl, w1, w2]
          refine ⟨by decide, ?_⟩
          simp [rowsI_snoc, show (Q.counts.length + 1) * 8 ≤ 140737488355328 from by have := hdays; omega, show Q.counts.length + 1 ≤ maxLen from by simp [maxLen]; omega]
          refine again_of (k + 1) (by omega) (by omega) ?_
          simp [wk, e, brlL]
          intro y hy z hz
          rcases hy with ⟨a, _, rfl⟩ | rfl <;> (simp at hz; subst hz; rfl)
        · have e : rload S plan n (k + 1) q0 = rload S plan n k q0 := by rw [rload, if_neg hd]
          simp [rpV, brlL, hkl, Shp.cells, hd]
          refine again_of (k + 1) (by omega) (by omega) ?_
          simp [wk, e, brlL]
      · obtain rfl : k = S.ships.length := by omega
        obtain ⟨q1, hq1⟩ : ∃ q, q = rload S plan n S.ships.length q0 := ⟨_, rfl⟩
        have hB1 : Bok q1.barrels 93 := by rw [hq1]; exact (rload_bok hS hpl (t := n) hB0' _ (Nat.le_refl _)).1
        have hn1 := rload_num hS hpl (t := n) (q := q0) S.ships.length (Nat.le_refl _)
        rw [← hq1] at hn1
        rw [← hq1] at hnext
        have hlk1 : q1.lacks < 0 := by rw [hn1.2.2.2.2]; exact hlk0
        rw [← hq1]
        clear wk
        simp [rpV, brlL]
        refine pwp_loop (fun k : Nat => [(7, .box true (rpV (sumK S.barrels) 0 (rfly S b n k q1) (.own 99 q1.counts.length 0 q1.counts.length false))), (12, .v (.int .i64 k)), (13, .undef)]) (fun k => k ≤ S.burns.length) (fun k => S.burns.length - k) 0 (Nat.zero_le _) (by simp; rfl) (by simp [rpV, rfly, brlL]) ?_
        intro k hk
        have wk := i64_wrap (show -9223372036854775808 ≤ (k : Int) + 1 ∧ _ from by omega)
        have hQB := rfly_bok hb (t := n) hB1 k hk
        have hQn := rfly_num hb (t := n) (q := q1) k hk
        by_cases hkl : k < S.burns.length
        · by_cases hlk2 : (rfly S b n k q1).lacks < 0
          · by_cases hd : (burAt S.burns k).day = n
            · have hbk := hb.each k hkl
              rw [gi_geti] at hbk
              have hdr := rDraw_spec (rfly S b n k q1).barrels n (geti b k) (hQB.kil (by omega)) hQB.posS hQB.til (by omega)
              by_cases hh : geti b k ≤ hasL (rfly S b n k q1).barrels n
              · have e : rfly S b n (k + 1) q1 = { rfly S b n k q1 with barrels := drawL (rfly S b n k q1).barrels n (geti b k), drawn := (rfly S b n k q1).drawn + geti b k } := by
                  rw [rfly, if_neg (by omega), if_neg (by omega), gi_geti, if_neg (by omega)]
                rw [if_pos hh] at hdr
                simp only [hh, decide_true] at hdr
                generalize rfly S b n k q1 = Q at e hdr hQB hQn hlk2 hh
                have w1 := i64_wrap (show -9223372036854775808 ≤ Q.drawn + geti b k ∧ _ from by omega)
                simp [rpV, brlL, hkl, hlk2, Bur.cells, hd]
                refine pwp_draw 14 (by decide) ?_
                simp [hkl, show k < b.length from by rw [hb.len]; exact hkl]
                refine pd_spec hdr (by simp [brlL]) (by simp) (by simp [brlL]) (by simp [brlL]) ?_
                simp [brlL]
                refine ⟨by decide, ?_⟩
                refine pwp_draw 14 (by decide) ?_
                simp [hkl, show k < b.length from by rw [hb.len]; exact hkl, w1]
                refine ⟨by decide, ?_⟩
                refine again_of (k + 1) (by omega) (by omega) ?_
                simp [wk, e, brlL]
              · have e : rfly S b n (k + 1) q1 = { rfly S b n k q1 with lacks := k } := by
                  rw [rfly, if_neg (by omega), if_neg (by omega), gi_geti, if_pos (by omega)]
                rw [if_neg hh] at hdr
                simp only [hh, decide_false] at hdr
                generalize rfly S b n k q1 = Q at e hdr hQB hQn hlk2 hh
                simp [rpV, brlL, hkl, hlk2, Bur.cells, hd]
                refine pwp_draw 14 (by decide) ?_
                simp [hkl, show k < b.length from by rw [hb.len]; exact hkl]
                refine pd_spec hdr (by simp [brlL]) (by simp) (by simp [brlL]) (by simp [brlL]) ?_
                simp [brlL]
                refine ⟨by decide, ?_⟩
                refine again_of (k + 1) (by omega) (by omega) ?_
                simp [wk, e, brlL]
            · have e : rfly S b n (k + 1) q1 = rfly S b n k q1 := by rw [rfly, if_neg (by omega), if_pos hd]
              simp [rpV, brlL, hkl, hlk2, Bur.cells, hd]
              refine again_of (k + 1) (by omega) (by omega) ?_
              simp [wk, e, brlL]
          · have e : rfly S b n S.burns.length q1 = rfly S b n k q1 := rfly_late S b n q1 k _ hk (.inl (by omega))
            rw [e] at hnext
            simp [rpV, brlL, hkl, hlk2]
            refine again_of (n + 1) (by omega) (by omega) ?_
            simp [wn, hnext, rpV, brlL, hQn.2.2.2]
        · obtain rfl : k = S.burns.length := by omega
          simp [rpV, brlL]
          refine again_of (n + 1) (by omega) (by omega) ?_
          simp [wn, hnext, rpV, brlL, hQn.2.2.2]
    · have hfin : rrun S plan b (days S) = rrun S plan b n := rrun_stays S plan b (by omega) _ (by omega)
      have hB := rrun_bok hS hpl hb n
      have hhas := rHas_spec (rrun S plan b n).barrels 0 (hB.kil (by omega))
      rw [hasL_all fun x hx => (hB.each x hx).2.1] at hhas
      simp [hlk, show (n : Int) ≤ lastD S from by omega]
      refine pop_spec hhas rfl false (.inl (by simp [brlL])) (.inl rfl) rfl (by simp) ?_
      simp
      refine answers_of (by simp; rfl) ?_
      simp [rPlayRes, playQ, rpV, hfin, brlL, ints]
      intro j hj
      rw [rowsI_get hj]
      simp
  · obtain rfl : n = days S := by omega
    have hB := rrun_bok hS hpl hb (days S)
    have hhas := rHas_spec (rrun S plan b (days S)).barrels 0 (hB.kil (by omega))
    rw [hasL_all fun x hx => (hB.each x hx).2.1] at hhas
    simp [show ¬ ((days S : Nat) : Int) ≤ lastD S from by omega]
    refine pop_spec hhas rfl false (.inl (by simp [brlL])) (.inl rfl) rfl (by simp) ?_
    simp
    refine answers_of (by simp; rfl) ?_
    simp [rPlayRes, playQ, rpV, brlL, ints]
    intro j hj
    rw [rowsI_get hj]
    simp
end Go.Qg

namespace Go.Qg
open Go.Proofs
set_option maxRecDepth 100000
set_option linter.unusedSimpArgs false
set_option maxHeartbeats 8000000
attribute [local irreducible] pwp pops pdraw pop popCall pdCall thenP blockP scopeP pspec Spec answers ppost CallW
theorem costTo_bound {S : Sup} (hS : SupOk S) {plan : List Int} (hpl : plan.length ≤ S.ships.length) (he : ∀ i, i < plan.length → 0 ≤ gi plan i ∧ gi plan i ≤ 9) : ∀ k, k ≤ plan.length → 0 ≤ costTo S plan k ∧ costTo S plan k ≤ 1000000 * k
  | 0, _ => by simp [costTo]
  | k + 1, hk => by
    have h1 := costTo_bound hS hpl he k (by omega)
    have h2 := he k (by omega)
    have h3 := hS.ship k (by omega)
    have h4 : 0 ≤ gi plan k * (shpAt S.ships k).each ∧ gi plan k * (shpAt S.ships k).each ≤ 9 * 100000 := ⟨Int.mul_nonneg h2.1 h3.2.2.2.1.1, Int.mul_le_mul h2.2 h3.2.2.2.1.2 h3.2.2.2.1.1 (by omega)⟩
    simp only [costTo]
    split <;> omega
theorem rCost_spec (S : Sup) (hS : SupOk S) (plan : List Int) (hpl : plan.length ≤ S.ships.length) (he : ∀ i, i < plan.length → 0 ≤ gi plan i ∧ gi plan i ≤ 9) :
    Spec Try.prog 49 [.agg S.cells, ints plan] (.v (.int .i64 (costL S plan))) := by
  have hns := hS.ns
  have bnd := costTo_bound hS hpl he
  refine spec_of mixed Try.func49 (by decide) rfl Try.results49 Try.ntmps49 (by decide) 0 (by simp) ?_
  simp [Sup.cells, brlL, burL, shpL, ints]
  refine pwp_loop (fun k : Nat => [(5, .v (.int .i64 (costTo S plan k))), (6, .v (.int .i64 k))]) (fun k => k ≤ plan.length) (fun k => plan.length - k) 0 (Nat.zero_le _) (by simp; rfl) (by simp [costTo]) ?_
  intro k hk
  by_cases hkl : k < plan.length
  · have b0 := bnd k (by omega)
    have b1 := bnd (k + 1) (by omega)
    have h2 := he k (by omega)
    have h3 := hS.ship k (by omega)
    have h4 : 0 ≤ gi plan k * (shpAt S.ships k).each ∧ gi plan k * (shpAt S.ships k).each ≤ 9 * 100000 := ⟨Int.mul_nonneg h2.1 h3.2.2.2.1.1, Int.mul_le_mul h2.2 h3.2.2.2.1.2 h3.2.2.2.1.1 (by omega)⟩
    have wk := i64_wrap (show -9223372036854775808 ≤ (k : Int) + 1 ∧ _ from by omega)
    have w1 := i64_wrap (show -9223372036854775808 ≤ (shpAt S.ships k).each * geti plan k ∧ _ from by rw [Int.mul_comm, ← gi_geti]; omega)
    have w2 := i64_wrap (show -9223372036854775808 ≤ costTo S plan k + (shpAt S.ships k).each * geti plan k ∧ _ from by rw [Int.mul_comm, ← gi_geti]; omega)
    have w3 := i64_wrap (show -9223372036854775808 ≤ costTo S plan k + (shpAt S.ships k).each * geti plan k + (shpAt S.ships k).cost ∧ _ from by rw [Int.mul_comm, ← gi_geti]; omega)
    have e : costTo S plan (k + 1) = if 0 < geti plan k then costTo S plan k + (shpAt S.ships k).each * geti plan k + (shpAt S.ships k).cost else costTo S plan k + (shpAt S.ships k).each * geti plan k := by
      rw [← gi_geti, costTo]
      by_cases h5 : 0 < gi plan k
      · rw [if_pos h5, if_pos h5, Int.mul_comm (shpAt S.ships k).each]; omega
      · have h6 : gi plan k = 0 := by omega
        rw [if_neg h5, if_neg h5, h6]; simp
    simp [hkl]
    refine pwp_draw 13 (by decide) ?_
    simp [hkl, show k < S.ships.length from by omega, Shp.cells, w1, w2]
    refine ⟨by decide, ?_⟩
    by_cases h5 : 0 < geti plan k
    · rw [if_pos h5] at e
      simp [hkl, h5, show k < S.ships.length from by omega, Shp.cells, w3]
      refine again_of (k + 1) (by omega) (by omega) ?_
      simp [wk, e]
    · rw [if_neg h5] at e
      simp [hkl, h5]
      refine again_of (k + 1) (by omega) (by omega) ?_
      simp [wk, e]
  · obtain rfl : k = plan.length := by omega
    simp
    refine answers_of rfl ?_; simp [costL]
def fullAt (S : Sup) (counts : List Int) (lacks : Int) (j : Nat) : Prop := j < counts.length ∧ 30 < gi counts j ∧ (lacks < 0 ∨ (shpAt S.ships j).day ≤ (burAt S.burns lacks.toNat).day)
theorem rfull_found {S : Sup} {counts : List Int} {lacks : Int} {k : Nat} (hk : k < S.ships.length) (h : fullAt S counts lacks k) (hp : ∀ j, j < k → ¬ fullAt S counts lacks j) : rfull S counts lacks S.ships.length 0 = k := by
  rcases rfull_spec S counts lacks S.ships.length 0 with ⟨_, h2⟩ | ⟨m, h1, _, h3, h4, h5⟩
  · exact absurd h (h2 k (Nat.zero_le _) (by omega))
  · rcases Nat.lt_trichotomy m k with h6 | rfl | h6
    · exact absurd h4 (hp m h6)
    · exact h1
    · exact absurd h (h5 k (Nat.zero_le _) h6)
theorem rfull_none {S : Sup} {counts : List Int} {lacks : Int} (hp : ∀ j, j < S.ships.length → ¬ fullAt S counts lacks j) : rfull S counts lacks S.ships.length 0 = -1 := by
  rcases rfull_spec S counts lacks S.ships.length 0 with ⟨h1, _⟩ | ⟨m, h1, _, h3, h4, h5⟩
  · exact h1
  · exact absurd h4 (hp m (by omega))
theorem rHolds_spec (S : Sup) (hS : SupOk S) (plan : List Int) (hpl : PlanOk S plan) :
    Spec Try.prog 48 [.agg S.cells, ints plan] (.agg (fltV (holdsR S plan))) := by
  have hns := hS.ns
  have hnf := hS.nf
  have hlast := lastD_bound hS
  have hdays : days S = (lastD S + 1).toNat := rfl
  have hhi := rEnds_spec S (by omega) true
  have hlo := rEnds_spec S (by omega) false
  have hbh := (inB_high hS).ok hS
  have hbl := (inB_low hS).ok hS
  have hph := rPlay_spec S hS plan (highsB S) hpl hbh
  have hpw := rPlay_spec S hS plan (lowsB S) hpl hbl
  have hcn := rrun_counts hS hpl hbl (days S)
  obtain ⟨_, hl, hf, _⟩ := run_alike hS plan (highsB S) (days S)
  have hlk : 0 ≤ (rrun S plan (highsB S) (days S)).lacks → (rrun S plan (highsB S) (days S)).lacks.toNat < S.burns.length ∧ (rrun S plan (highsB S) (days S)).lacks = ((rrun S plan (highsB S) (days S)).lacks.toNat : Int) := by
    intro h
    cases h2 : (runP S plan (highsB S) (days S)).2 with
    | true =>
      rw [h2] at hl
      have := hf h2
      rw [hl]; simp only [lackI]; omega
    | false => rw [h2] at hl; rw [hl] at h; simp [lackI] at h
  have hneg : ¬ 0 ≤ (rrun S plan (highsB S) (days S)).lacks → (rrun S plan (highsB S) (days S)).lacks < 0 := by omega
  simp only [rPlayRes, playQ, rpV] at hph hpw
  have hR : holdsR S plan = if 0 ≤ rfull S (rrun S plan (lowsB S) (days S)).counts (rrun S plan (highsB S) (days S)).lacks S.ships.length 0 then ⟨3, rfull S (rrun S plan (lowsB S) (days S)).counts (rrun S plan (highsB S) (days S)).lacks S.ships.length 0⟩ else if 0 ≤ (rrun S plan (highsB S) (days S)).lacks then ⟨2, (rrun S plan (highsB S) (days S)).lacks⟩ else ⟨1, 0⟩ := rfl
  rw [hR]
  clear hR hl hf
  generalize rrun S plan (highsB S) (days S) = H at *
  generalize rrun S plan (lowsB S) (days S) = W at *
  obtain ⟨Hb, Hc, Hd, Hw, L, Hn⟩ := H
  obtain ⟨Wb, Wc, Wd, Ww, WL, C⟩ := W
  simp only at hph hpw hcn hlk hneg ⊢
  refine spec_of mixed Try.func48 (by decide) rfl Try.results48 Try.ntmps48 (by decide) 0 (by simp) ?_
  simp [Sup.cells, brlL, burL, shpL, ints]
  refine pwp_draw 12 (by decide) ?_
  simp
  refine pd_spec hhi (by simp [Sup.cells, brlL, burL, shpL, ints]) (by simp) (by simp [Sup.cells, brlL, burL, shpL]) (by simp [ints]) ?_
  simp [ints]
  refine pd_spec hph (by simp [Sup.cells, brlL, burL, shpL, ints]) (by simp) (by simp [Sup.cells, brlL, burL, shpL, ints]) (by simp [brlL, ints]) ?_
  simp
  refine pd_spec hlo (by simp [Sup.cells, brlL, burL, shpL, ints]) (by simp) (by simp [Sup.cells, brlL, burL, shpL]) (by simp [ints]) ?_
  simp [ints]
  refine pd_spec hpw (by simp [Sup.cells, brlL, burL, shpL, ints]) (by simp) (by simp [Sup.cells, brlL, burL, shpL, ints]) (by simp [brlL, ints]) ?_
  simp [brlL, ints]
  refine ⟨by decide, ?_⟩
  have hcl : C.length ≤ 1000000 := by have := hcn; omega
  refine pwp_loop (fun k : Nat => [(7, .v (.int .i64 k))]) (fun k => k ≤ S.ships.length ∧ ∀ j, j < k → ¬ fullAt S C L j) (fun k => S.ships.length - k) 0 ⟨Nat.zero_le _, fun j hj => by omega⟩ (by simp; rfl) (by simp) ?_
  intro k ⟨hk, hq⟩
  by_cases hkl : k < S.ships.length
  · have wk := i64_wrap (show -9223372036854775808 ≤ (k : Int) + 1 ∧ _ from by omega)
    have next : ¬ fullAt S C L k → ∀ j, j < k + 1 → ¬ fullAt S C L j := fun h j hj => by
      rcases Nat.lt_or_eq_of_le (Nat.le_of_lt_succ hj) with h1 | rfl
      · exact hq j h1
      · exact h
    simp [hkl]
    refine pwp_draw 34 (by decide) ?_
    by_cases h1 : k < C.length
    · by_cases h2 : 30 < geti C k
      · by_cases h3 : L < 0
        · have hfull : fullAt S C L k := ⟨h1, by rw [gi_geti]; exact h2, .inl h3⟩
          rw [rfull_found hkl hfull hq]
          simp [h1, h2, h3]
          refine ⟨by decide, ?_⟩
          refine answers_of (by simp; rfl) ?_
          simp [fltV, show (0 : Int) ≤ (k : Int) from by omega]
        · obtain ⟨l1, l2⟩ := hlk (by omega)
          by_cases h4 : (shpAt S.ships k).day ≤ (burAt S.burns L.toNat).day
          · have hfull : fullAt S C L k := ⟨h1, by rw [gi_geti]; exact h2, .inr h4⟩
            rw [rfull_found hkl hfull hq]
            simp [h1, h2, h3, hkl, show 0 ≤ L from by omega, l1, show L < (S.burns.length : Int) from by omega, h4, Shp.cells, Bur.cells]
            refine ⟨by decide, ?_⟩
            refine answers_of (by simp; rfl) ?_
            simp [fltV, show (0 : Int) ≤ (k : Int) from by omega]
          · simp [h1, h2, h3, hkl, show 0 ≤ L from by omega, l1, show L < (S.burns.length : Int) from by omega, h4, Shp.cells, Bur.cells]
            refine ⟨by decide, ?_⟩
            refine again_of (k + 1) ⟨by omega, next fun h => by rcases h.2.2 with h | h <;> omega⟩ (by omega) ?_
            simp [wk]
      · simp [h1, h2]
        refine ⟨by decide, ?_⟩
        refine again_of (k + 1) ⟨by omega, next fun h => h2 (by rw [← gi_geti]; exact h.2.1)⟩ (by omega) ?_
        simp [wk]
    · simp [h1]
      refine ⟨by decide, ?_⟩
      refine again_of (k + 1) ⟨by omega, next fun h => h1 h.1⟩ (by omega) ?_
      simp [wk]
  · obtain rfl : k = S.ships.length := by omega
    rw [rfull_none hq]
    by_cases h3 : L < 0
    · simp [h3, show ¬ 0 ≤ L from by omega]
      refine answers_of (by simp; rfl) ?_
      simp [fltV]
    · simp [h3, show 0 ≤ L from by omega]
      refine answers_of (by simp; rfl) ?_
      simp [fltV]
end Go.Qg

namespace Go.Qg
open Go.Proofs
set_option maxRecDepth 100000
set_option linter.unusedSimpArgs false
set_option maxHeartbeats 8000000
attribute [local irreducible] pwp pops pdraw pop popCall pdCall thenP blockP scopeP pspec Spec answers ppost CallW
theorem lshort_spec (l : List Brl) : Spec Try.prog 51 [.agg [brlL l]] (.v (.bool (decide (l.length ≤ 40)))) := by
  refine spec_of mixed Try.func51 (by decide) rfl Try.results51 Try.ntmps51 (by decide) 0 (by simp) ?_
  simp [brlL]
  by_cases h : l.length ≤ 40
  · simp [show (l.length : Int) ≤ 40 from by omega]
    refine answers_of rfl ?_; simp [h]
  · simp [show ¬ (l.length : Int) ≤ 40 from by omega]
    refine answers_of rfl ?_; simp [h]
theorem bok_stored {l : List Brl} (h : storedB l = true) : Bok l 30 := by
  obtain ⟨h1, h2⟩ := stored_ok h
  exact ⟨h1, fun b hb => by have := h2 b hb; omega⟩
theorem CacheDraws_spec (l : List Brl) (day n : Int) (hl : l.length ≤ 9223372036854775807) : Spec Try.prog 13 [.agg [brlL l], .v (.int .i64 day), .v (.int .i64 n)] (.v (.bool true)) := by
  have hdraw := Draw_spec l day n hl
  have hhas := Has_spec l day hl
  have hclr := Clear_spec l day hl
  refine spec_of mixed Try.func13 (by decide) rfl Try.results13 Try.ntmps13 (by decide) 0 (by simp) ?_
  simp [brlL]
  refine pop_spec (lshort_spec l) rfl false (.inl (by simp [brlL])) (.inl rfl) rfl (by simp) ?_
  by_cases h40 : l.length ≤ 40
  case neg =>
    simp [h40]
    refine pop_spec known_spec rfl false (.inl (by simp)) (.inl rfl) rfl (by simp) ?_
    simp
    refine answers_of rfl ?_; simp
  simp [h40]
  refine pop_spec (rCache_spec l hl) rfl false (.inl (by simp [brlL])) (.inl rfl) rfl (by simp) ?_
  simp
  refine pop_spec (Check_spec l hl) rfl false (.inl (by simp [brlL])) (.inl rfl) rfl (by simp) ?_
  cases h1 : storedB l with
  | false =>
    rw [h1] at hdraw hhas hclr
    simp only [Bool.false_and, Bool.false_eq_true, if_false] at hdraw hhas hclr
    simp
    refine pop_spec hhas rfl false (.inl (by simp [brlL])) (.inl rfl) rfl (by simp) ?_
    simp
    refine pop_spec hdraw rfl false (.inl (by simp [brlL])) (.inl rfl) rfl (by simp) ?_
    simp [brlL]
    refine pop_spec hclr rfl false (.inl (by simp [brlL])) (.inl rfl) rfl (by simp) ?_
    simp [brlL]
    refine pop_spec known_spec rfl false (.inl (by simp)) (.inl rfl) rfl (by simp) ?_
    simp
    refine answers_of rfl ?_; simp
  | true =>
    have hB := bok_stored h1
    have hk := hB.kil (by omega)
    simp
    cases h2 : inB day 0 400 with
    | false =>
      rw [h1, h2] at hdraw hhas hclr
      simp only [Bool.true_and, Bool.false_and, Bool.false_eq_true, if_false] at hdraw hhas hclr
      refine pop_spec hhas rfl false (.inl (by simp [brlL])) (.inl rfl) rfl (by simp) ?_
      simp
      refine pop_spec hdraw rfl false (.inl (by simp [brlL])) (.inl rfl) rfl (by simp) ?_
      simp [brlL]
      refine pop_spec hclr rfl false (.inl (by simp [brlL])) (.inl rfl) rfl (by simp) ?_
      simp [brlL]
      refine pop_spec (rDay_spec day) rfl false (.inl (by simp)) (.inl rfl) rfl (by simp) ?_
      rw [h2]
      simp
      refine pop_spec known_spec rfl false (.inl (by simp)) (.inl rfl) rfl (by simp) ?_
      simp
      refine answers_of rfl ?_; simp
    | true =>
      rw [h1, h2] at hdraw hhas hclr
      simp only [Bool.true_and, if_true] at hdraw hhas hclr
      refine pop_spec hhas rfl false (.inl (by simp [brlL])) (.inl rfl) rfl (by simp) ?_
      simp
      cases h3 : inB n 0 30000 with
      | false =>
        rw [h3] at hdraw
        simp only [Bool.false_eq_true, if_false] at hdraw
        have h3' : n < 0 ∨ 30000 < n := by
          have := mt inB_spec.2 (by rw [h3]; simp : ¬ inB n 0 30000 = true)
          omega
        refine pop_spec hdraw rfl false (.inl (by simp [brlL])) (.inl rfl) rfl (by simp) ?_
        simp [brlL]
        refine pop_spec hclr rfl false (.inl (by simp [brlL])) (.inl rfl) rfl (by simp) ?_
        simp [brlL]
        refine pop_spec (rDay_spec day) rfl false (.inl (by simp)) (.inl rfl) rfl (by simp) ?_
        rw [h2]
        simp
        refine pop_spec (rClear_spec l day hk) rfl false (.inl (by simp [brlL])) (.inl rfl) rfl (by simp) ?_
        simp [brlL]
        refine pop_spec (rHas_spec l day hk) rfl false (.inl (by simp [brlL])) (.inl rfl) rfl (by simp) ?_
        simp
        refine pop_spec (SameCache_spec (goodL l day) (goodL l day) (by have := (hB.good day).n; omega) (by have := (hB.good day).n; omega)) rfl false (.inl (by simp [brlL])) (.inl rfl) rfl (by simp) ?_
        simp
        rcases h3' with h3' | h3'
        · simp [h3', show ¬ 0 ≤ n from by omega]
          refine pop_spec known_spec rfl false (.inl (by simp)) (.inl rfl) rfl (by simp) ?_
          simp
          refine answers_of rfl ?_; simp
        · simp [h3', show ¬ n < 0 from by omega, show 0 ≤ n from by omega]
          refine pop_spec known_spec rfl false (.inl (by simp)) (.inl rfl) rfl (by simp) ?_
          simp
          refine answers_of rfl ?_; simp
      | true =>
        rw [h3] at hdraw
        rw [inB_spec] at h3
        simp only [if_true] at hdraw
        have hrd := rDraw_spec l day n hk hB.posS hB.til ⟨h3.1, by omega⟩
        by_cases h4 : n ≤ hasL l day
        · rw [if_pos h4] at hdraw hrd
          refine pop_spec hdraw rfl false (.inl (by simp [brlL])) (.inl rfl) rfl (by simp) ?_
          simp [brlL]
          refine pop_spec hclr rfl false (.inl (by simp [brlL])) (.inl rfl) rfl (by simp) ?_
          simp [brlL]
          refine pop_spec (rDay_spec day) rfl false (.inl (by simp)) (.inl rfl) rfl (by simp) ?_
          rw [h2]
          simp
          refine pop_spec (rClear_spec l day hk) rfl false (.inl (by simp [brlL])) (.inl rfl) rfl (by simp) ?_
          simp [brlL]
          refine pop_spec (rHas_spec l day hk) rfl false (.inl (by simp [brlL])) (.inl rfl) rfl (by simp) ?_
          simp
          refine pop_spec (SameCache_spec (goodL l day) (goodL l day) (by have := (hB.good day).n; omega) (by have := (hB.good day).n; omega)) rfl false (.inl (by simp [brlL])) (.inl rfl) rfl (by simp) ?_
          simp [show ¬ n < 0 from by omega, show ¬ 30000 < n from by omega, show 0 ≤ n from by omega, show n ≤ 30000 from by omega]
          refine pop_spec hrd rfl false (.inl (by simp [brlL])) (.inl rfl) rfl (by simp) ?_
          simp [h4, brlL]
          refine pop_spec (SameCache_spec (drawL l day n) (drawL l day n) (by have := (hB.draw (t := day) h3.1).n; omega) (by have := (hB.draw (t := day) h3.1).n; omega)) rfl false (.inl (by simp [brlL])) (.inl rfl) rfl (by simp) ?_
          simp
          refine pop_spec known_spec rfl false (.inl (by simp)) (.inl rfl) rfl (by simp) ?_
          simp
          refine answers_of rfl ?_; simp
        · rw [if_neg h4] at hdraw hrd
          refine pop_spec hdraw rfl false (.inl (by simp [brlL])) (.inl rfl) rfl (by simp) ?_
          simp [brlL]
          refine pop_spec hclr rfl false (.inl (by simp [brlL])) (.inl rfl) rfl (by simp) ?_
          simp [brlL]
          refine pop_spec (rDay_spec day) rfl false (.inl (by simp)) (.inl rfl) rfl (by simp) ?_
          rw [h2]
          simp
          refine pop_spec (rClear_spec l day hk) rfl false (.inl (by simp [brlL])) (.inl rfl) rfl (by simp) ?_
          simp [brlL]
          refine pop_spec (rHas_spec l day hk) rfl false (.inl (by simp [brlL])) (.inl rfl) rfl (by simp) ?_
          simp
          refine pop_spec (SameCache_spec (goodL l day) (goodL l day) (by have := (hB.good day).n; omega) (by have := (hB.good day).n; omega)) rfl false (.inl (by simp [brlL])) (.inl rfl) rfl (by simp) ?_
          simp [show ¬ n < 0 from by omega, show ¬ 30000 < n from by omega, show 0 ≤ n from by omega, show n ≤ 30000 from by omega]
          refine pop_spec hrd rfl false (.inl (by simp [brlL])) (.inl rfl) rfl (by simp) ?_
          simp [h4, brlL]
          refine pop_spec known_spec rfl false (.inl (by simp)) (.inl rfl) rfl (by simp) ?_
          simp
          refine answers_of rfl ?_; simp
end Go.Qg

namespace Go.Qg
open Go.Proofs
set_option maxRecDepth 100000
set_option linter.unusedSimpArgs false
set_option maxHeartbeats 4000000
attribute [local irreducible] pwp pops pdraw pop popCall pdCall thenP blockP scopeP pspec Spec answers ppost CallW
theorem rSupply_spec (S : Sup) (hl : S.barrels.length ≤ 9223372036854775807) (hf : S.burns.length ≤ 9223372036854775807) (hs : S.ships.length ≤ 9223372036854775807) :
    Spec Try.prog 22 [.agg S.cells] (.v (.bool (supB S))) := by
  refine spec_of mixed Try.func22 (by decide) rfl Try.results22 Try.ntmps22 (by decide) 0 (by simp) ?_
  simp [Sup.cells, brlL, burL, shpL]
  refine pop_spec (rCache_spec S.barrels hl) rfl false (.inl (by simp [brlL])) (.inl rfl) rfl (by simp) ?_
  cases h1 : storedB S.barrels with
  | false => simp; refine answers_of rfl ?_; simp [supB, h1]
  | true =>
    by_cases h2 : S.burns.length ≤ 40
    · by_cases h3 : S.ships.length ≤ 6
      · simp [burL, shpL, h2, h3, show ¬ (40 : Int) < S.burns.length from by omega, show ¬ (6 : Int) < S.ships.length from by omega, show (S.burns.length : Int) ≤ 40 from by omega, show (S.ships.length : Int) ≤ 6 from by omega]
        refine pop_spec (rin_spec S.kilos 1 1000) rfl false (.inl (by simp)) (.inl rfl) rfl (by simp) ?_
        cases h4 : inB S.kilos 1 1000 with
        | false => simp; refine answers_of rfl ?_; simp [supB, h4]
        | true =>
          simp
          refine pwp_loop (fun k : Nat => [(3, .v (.int .i64 k))]) (fun k => k ≤ S.burns.length ∧ ∀ j, j < k → burB S.burns j = true) (fun k => S.burns.length - k) 0 ⟨Nat.zero_le _, fun j hj => by omega⟩ (by simp; rfl) (by simp) ?_
          intro k ⟨hk, hp⟩
          have wk := i64_wrap (show -9223372036854775808 ≤ (k : Int) + 1 ∧ _ from by omega)
          by_cases hkl : k < S.burns.length
          · have bad : burB S.burns k = false → supB S = false := fun hb => by simp [supB, allN_false hkl hb]
            simp [hkl, Bur.cells]
            refine pwp_draw 26 (by decide) ?_
            simp
            refine pd_spec (rDay_spec (burAt S.burns k).day) rfl (by simp) (by simp) rfl ?_
            cases q1 : inB (burAt S.burns k).day 0 400 with
            | false =>
              simp
              refine ⟨by decide, ?_⟩
              refine answers_of rfl ?_; simp [bad (by simp [burB, q1])]
            | true =>
              simp
              refine pd_spec (rspan_spec ⟨(burAt S.burns k).low, (burAt S.burns k).high⟩ 30000) (by simp [Spn.cells]) (by simp) (by simp [Spn.cells]) rfl ?_
              cases q3 : spanB ⟨(burAt S.burns k).low, (burAt S.burns k).high⟩ 0 30000 with
              | false =>
                simp
                refine ⟨by decide, ?_⟩
                refine answers_of rfl ?_; simp [bad (by simp [burB, q3])]
              | true =>
                by_cases h0 : k = 0
                · subst h0
                  simp
                  refine ⟨by decide, ?_⟩
                  refine again_of 1 ⟨by omega, fun j hj => ?_⟩ (by omega) ?_
                  · obtain rfl : j = 0 := by omega
                    simp [burB, q1, q3]
                  · simp [wk]
                · have e1 : IntKind.i64.wrap ((k : Int) - 1) = ((k - 1 : Nat) : Int) := by rw [i64_wrap (by omega)]; omega
                  by_cases q2 : (burAt S.burns (k - 1)).day ≤ (burAt S.burns k).day
                  · simp [h0, e1, show k - 1 < S.burns.length from by omega, q2, Int.not_lt.2 q2, show 0 < k from by omega, Bur.cells]
                    refine ⟨by decide, ?_⟩
                    refine again_of (k + 1) ⟨by omega, fun j hj => ?_⟩ (by omega) ?_
                    · rcases Nat.lt_or_eq_of_le (Nat.le_of_lt_succ hj) with h | rfl
                      · exact hp j h
                      · simp [burB, q1, q2, q3]
                    · simp [wk]
                  · simp [h0, e1, show k - 1 < S.burns.length from by omega, q2, Int.not_le.1 q2, show 0 < k from by omega, Bur.cells]
                    refine ⟨by decide, ?_⟩
                    refine answers_of rfl ?_; simp [bad (by simp [burB, q2, h0])]
          · have h5 : allN S.burns.length (burB S.burns) = true := allN_spec.2 fun j hj => hp j (by omega)
            obtain rfl : k = S.burns.length := by omega
            clear hp wk hkl hk
            simp
            refine pwp_loop (fun k : Nat => [(5, .v (.int .i64 k))]) (fun k => k ≤ S.ships.length ∧ ∀ j, j < k → shpB S.ships j = true) (fun k => S.ships.length - k) 0 ⟨Nat.zero_le _, fun j hj => by omega⟩ (by simp; rfl) (by simp) ?_
            intro k ⟨hk, hp⟩
            have wk := i64_wrap (show -9223372036854775808 ≤ (k : Int) + 1 ∧ _ from by omega)
            by_cases hkl : k < S.ships.length
            · have bad : shpB S.ships k = false → supB S = false := fun hb => by simp [supB, allN_false hkl hb]
              simp [hkl, Shp.cells]
              refine pwp_draw 44 (by decide) ?_
              simp (config := { maxSteps := 4000000 })
              refine pd_spec (rDay_spec (shpAt S.ships k).day) rfl (by simp) (by simp) rfl ?_
              cases q1 : inB (shpAt S.ships k).day 0 400 with
              | false =>
                simp (config := { maxSteps := 4000000 })
                refine ⟨by decide, ?_⟩
                refine answers_of rfl ?_; simp [bad (by simp [shpB, q1])]
              | true =>
                simp (config := { maxSteps := 4000000 })
                refine pd_spec (rin_spec (shpAt S.ships k).room 0 9) rfl (by simp) (by simp) rfl ?_
                cases r1 : inB (shpAt S.ships k).room 0 9 with
                | false =>
                  simp (config := { maxSteps := 4000000 })
                  refine ⟨by decide, ?_⟩
                  refine answers_of rfl ?_; simp [bad (by simp [shpB, r1])]
                | true =>
                  simp (config := { maxSteps := 4000000 })
                  refine pd_spec (rin_spec (shpAt S.ships k).cost 0 100000) rfl (by simp) (by simp) rfl ?_
                  cases r2 : inB (shpAt S.ships k).cost 0 100000 with
                  | false =>
                    simp (config := { maxSteps := 4000000 })
                    refine ⟨by decide, ?_⟩
                    refine answers_of rfl ?_; simp [bad (by simp [shpB, r2])]
                  | true =>
                    simp (config := { maxSteps := 4000000 })
                    refine pd_spec (rin_spec (shpAt S.ships k).each 0 100000) rfl (by simp) (by simp) rfl ?_
                    cases r3 : inB (shpAt S.ships k).each 0 100000 with
                    | false =>
                      simp (config := { maxSteps := 4000000 })
                      refine ⟨by decide, ?_⟩
                      refine answers_of rfl ?_; simp [bad (by simp [shpB, r3])]
                    | true =>
                      simp (config := { maxSteps := 4000000 })
                      refine pd_spec (rDay_spec (shpAt S.ships k).good) rfl (by simp) (by simp) rfl ?_
                      cases r4 : inB (shpAt S.ships k).good 0 400 with
                      | false =>
                        simp (config := { maxSteps := 4000000 })
                        refine ⟨by decide, ?_⟩
                        refine answers_of rfl ?_; simp [bad (by simp [shpB, r4])]
                      | true =>
                        by_cases h0 : k = 0
                        · subst h0
                          simp (config := { maxSteps := 4000000 })
                          refine ⟨by decide, ?_⟩
                          refine again_of 1 ⟨by omega, fun j hj => ?_⟩ (by omega) ?_
                          · obtain rfl : j = 0 := by omega
                            simp [shpB, q1, r1, r2, r3, r4]
                          · simp [wk]
                        · have e1 : IntKind.i64.wrap ((k : Int) - 1) = ((k - 1 : Nat) : Int) := by rw [i64_wrap (by omega)]; omega
                          by_cases q2 : (shpAt S.ships (k - 1)).day < (shpAt S.ships k).day
                          · simp (config := { maxSteps := 4000000 }) [h0, e1, show k - 1 < S.ships.length from by omega, q2, Int.not_le.2 q2, show 0 < k from by omega, Shp.cells]
                            refine ⟨by decide, ?_⟩
                            refine again_of (k + 1) ⟨by omega, fun j hj => ?_⟩ (by omega) ?_
                            · rcases Nat.lt_or_eq_of_le (Nat.le_of_lt_succ hj) with h | rfl
                              · exact hp j h
                              · simp [shpB, q1, q2, r1, r2, r3, r4]
                            · simp [wk]
                          · simp (config := { maxSteps := 4000000 }) [h0, e1, show k - 1 < S.ships.length from by omega, q2, Int.not_lt.1 q2, show 0 < k from by omega, Shp.cells]
                            refine ⟨by decide, ?_⟩
                            refine answers_of rfl ?_; simp [bad (by simp [shpB, q2, h0])]
            · have h6 : allN S.ships.length (shpB S.ships) = true := allN_spec.2 fun j hj => hp j (by omega)
              obtain rfl : k = S.ships.length := by omega
              simp
              refine answers_of rfl ?_; simp [supB, h1, h2, h3, h4, h5, h6]
      · simp [burL, shpL, h2, h3, show ¬ (40 : Int) < S.burns.length from by omega, show (6 : Int) < S.ships.length from by omega, show (S.burns.length : Int) ≤ 40 from by omega]
        refine answers_of rfl ?_; simp [supB, h3]
    · simp [burL, h2, show (40 : Int) < S.burns.length from by omega]
      refine answers_of rfl ?_; simp [supB, h2]
theorem rplan_false {S : Sup} {pl : List Int} {k : Nat} (h1 : k < pl.length) (h2 : k < S.ships.length) (h : inB (geti pl k) 0 (shpAt S.ships k).room = false) : plannedB S pl = false := by
  simp only [plannedB, Bool.and_eq_false_iff]
  exact .inl (allN_false h1 (by simp [planB, h]))
theorem rplan_end {S : Sup} {pl : List Int} {k : Nat} (hk : ¬ (k < pl.length ∧ k < S.ships.length)) (hp : ∀ j, j < k → inB (geti pl j) 0 (shpAt S.ships j).room = true) (h1 : k ≤ pl.length) (h2 : k ≤ S.ships.length) : plannedB S pl = decide (pl.length = S.ships.length) := by
  by_cases he : pl.length = S.ships.length
  · have : k = pl.length := by omega
    subst this
    simp only [plannedB, he, decide_true, Bool.and_true]
    rw [← he]
    refine allN_spec.2 fun j hj => ?_
    simp only [planB, Bool.and_eq_true, decide_eq_true_eq]
    exact ⟨by omega, hp j hj⟩
  · simp [plannedB, he]
theorem beq_nat (a b : Nat) : ((a : Int) == (b : Int)) = decide (a = b) := by
  by_cases h : a = b
  · simp [h]
  · have : ¬ (a : Int) = b := by omega
    simp [h, this]
theorem rPlan_spec (S : Sup) (pl : List Int) (hp : pl.length ≤ 9223372036854775807) (hs : S.ships.length ≤ 9223372036854775807) :
    Spec Try.prog 23 [.agg S.cells, ints pl] (.v (.bool (plannedB S pl))) := by
  refine spec_of mixed Try.func23 (by decide) rfl Try.results23 Try.ntmps23 (by decide) 0 (by simp) ?_
  simp [Sup.cells, brlL, burL, shpL, ints]
  refine pwp_loop (fun k : Nat => [(5, .v (.int .i64 k))]) (fun k => k ≤ pl.length ∧ k ≤ S.ships.length ∧ ∀ j, j < k → inB (geti pl j) 0 (shpAt S.ships j).room = true) (fun k => pl.length - k) 0 ⟨Nat.zero_le _, Nat.zero_le _, fun j hj => by omega⟩ (by simp; rfl) (by simp) ?_
  intro k ⟨hk1, hk2, hq⟩
  by_cases c1 : k < pl.length
  · by_cases c2 : k < S.ships.length
    · have wk := i64_wrap (show -9223372036854775808 ≤ (k : Int) + 1 ∧ _ from by omega)
      simp [c1, c2]
      refine pwp_draw 12 (by decide) ?_
      simp [c1, c2, Shp.cells]
      refine pd_spec (rin_spec (geti pl k) 0 (shpAt S.ships k).room) rfl (by simp) (by simp) rfl ?_
      cases hb : inB (geti pl k) 0 (shpAt S.ships k).room with
      | false =>
        simp
        refine ⟨by decide, ?_⟩
        refine answers_of rfl ?_; simp [rplan_false c1 c2 hb]
      | true =>
        simp
        refine ⟨by decide, ?_⟩
        refine again_of (k + 1) ⟨by omega, by omega, fun j hj => ?_⟩ (by omega) ?_
        · rcases Nat.lt_or_eq_of_le (Nat.le_of_lt_succ hj) with h | rfl
          · exact hq j h
          · exact hb
        · simp [wk]
    · simp [c1, c2]
      refine answers_of rfl ?_; simp [rplan_end (fun h => c2 h.2) hq hk1 hk2, beq_nat]
  · simp [c1]
    refine answers_of rfl ?_; simp [rplan_end (fun h => c1 h.1) hq hk1 hk2, beq_nat]
theorem rBurns_spec (S : Sup) (b : List Int) (hb : b.length ≤ 9223372036854775807) (hf : S.burns.length ≤ 9223372036854775807) :
    Spec Try.prog 24 [.agg S.cells, ints b] (.v (.bool (burnsB S b))) := by
  refine spec_of mixed Try.func24 (by decide) rfl Try.results24 Try.ntmps24 (by decide) 0 (by simp) ?_
  simp [Sup.cells, brlL, burL, shpL, ints]
  refine pwp_loop (fun k : Nat => [(5, .v (.int .i64 k))]) (fun k => k ≤ b.length ∧ ∀ j, j < k → inB (geti b j) 0 30000 = true) (fun k => b.length - k) 0 ⟨Nat.zero_le _, fun j hj => by omega⟩ (by simp; rfl) (by simp) ?_
  intro k ⟨hk, hq⟩
  by_cases hkl : k < b.length
  · have wk := i64_wrap (show -9223372036854775808 ≤ (k : Int) + 1 ∧ _ from by omega)
    simp [hkl]
    refine pop_spec (rin_spec (geti b k) 0 30000) rfl false (.inl (by simp)) (.inl rfl) rfl (by simp) ?_
    cases h : inB (geti b k) 0 30000 with
    | false =>
      simp
      have : burnsB S b = false := by rw [burnsB, anyN_not, Bool.not_not, allN_false hkl h, Bool.and_false]
      refine answers_of rfl ?_; simp [this]
    | true =>
      simp
      refine again_of (k + 1) ⟨by omega, fun j hj => ?_⟩ (by omega) ?_
      · rcases Nat.lt_or_eq_of_le (Nat.le_of_lt_succ hj) with h' | rfl
        · exact hq j h'
        · exact h
      · simp [wk]
  · obtain rfl : k = b.length := by omega
    have h5 : (allN b.length fun k => inB (geti b k) 0 30000) = true := allN_spec.2 hq
    have : burnsB S b = decide (b.length = S.burns.length) := by rw [burnsB, anyN_not, Bool.not_not, h5, Bool.and_true]
    simp
    refine answers_of rfl ?_; simp [this, beq_nat]
end Go.Qg

namespace Go.Qg
open Go.Proofs
set_option maxRecDepth 100000
set_option linter.unusedSimpArgs false
set_option maxHeartbeats 8000000
attribute [local irreducible] pwp pops pdraw pop popCall pdCall thenP blockP scopeP pspec Spec answers ppost CallW
def briefB (S : Sup) : Bool := decide (S.barrels.length ≤ 40) && decide (S.burns.length ≤ 50) && decide (S.ships.length ≤ 16)
def fewB (p b : List Int) : Bool := decide (p.length ≤ 20) && decide (b.length ≤ 60)
theorem lbrief_spec (S : Sup) : Spec Try.prog 20 [.agg S.cells] (.v (.bool (briefB S))) := by
  refine spec_of mixed Try.func20 (by decide) rfl Try.results20 Try.ntmps20 (by decide) 0 (by simp) ?_
  simp [Sup.cells, brlL, burL, shpL]
  refine pop_spec (lshort_spec S.barrels) rfl false (.inl (by simp [brlL])) (.inl rfl) rfl (by simp) ?_
  by_cases h1 : S.barrels.length ≤ 40
  · by_cases h2 : S.burns.length ≤ 50
    · by_cases h3 : S.ships.length ≤ 16
      · simp [h1, h2, h3, burL, shpL, show (S.burns.length : Int) ≤ 50 from by omega, show (S.ships.length : Int) ≤ 16 from by omega]
        refine answers_of rfl ?_; simp [briefB, h1, h2, h3]
      · simp [h1, h2, h3, burL, shpL, show ¬ S.ships.length ≤ 16 from h3, show (16:Int) < (S.ships.length : Int) from by omega, show 16 < S.ships.length from by omega, show (S.burns.length : Int) ≤ 50 from by omega, show ¬ (S.ships.length : Int) ≤ 16 from by omega]
        refine answers_of rfl ?_; simp [briefB, h1, h2, h3]
    · simp [h1, h2, burL, shpL, show (50:Int) < (S.burns.length : Int) from by omega, show 50 < S.burns.length from by omega, show ¬ (S.burns.length : Int) ≤ 50 from by omega]
      refine answers_of rfl ?_; simp [briefB, h1, h2]
  · simp [h1]
    refine answers_of rfl ?_; simp [briefB, h1]
theorem lfew_spec (p b : List Int) : Spec Try.prog 21 [ints p, ints b] (.v (.bool (fewB p b))) := by
  refine spec_of mixed Try.func21 (by decide) rfl Try.results21 Try.ntmps21 (by decide) 0 (by simp) ?_
  simp [ints]
  by_cases h1 : p.length ≤ 20
  · by_cases h2 : b.length ≤ 60
    · simp [h1, h2, show (p.length : Int) ≤ 20 from by omega, show (b.length : Int) ≤ 60 from by omega]
      refine answers_of rfl ?_; simp [fewB, h1, h2]
    · simp [h1, h2, show (60:Int) < (b.length : Int) from by omega, show 60 < b.length from by omega, show (p.length : Int) ≤ 20 from by omega, show ¬ (b.length : Int) ≤ 60 from by omega]
      refine answers_of rfl ?_; simp [fewB, h1, h2]
  · simp [h1, show (20:Int) < (p.length : Int) from by omega, show 20 < p.length from by omega, show ¬ (p.length : Int) ≤ 20 from by omega]
    refine answers_of rfl ?_; simp [fewB, h1]
theorem rPlay_eq {S : Sup} (hS : SupOk S) (plan b : List Int) : rPlayRes S plan b = .agg (rpV (sumK S.barrels) (sumK (runP S plan b (days S)).1.barrels) ⟨(runP S plan b (days S)).1.barrels, (runP S plan b (days S)).1.came, (runP S plan b (days S)).1.drawn, (runP S plan b (days S)).1.waste, lackI (runP S plan b (days S)).2 (runP S plan b (days S)).1.flight, []⟩ (ints (playQ S plan b).counts)) := by
  obtain ⟨h, hl, _⟩ := run_alike hS plan b (days S)
  simp only [rPlayRes, rpV, playQ, h.b, h.c, h.d, h.w, hl]
theorem CachePlays_spec (S : Sup) (plan b : List Int) (hl : S.barrels.length ≤ 9223372036854775807) (hf : S.burns.length ≤ 9223372036854775807) (hs : S.ships.length ≤ 9223372036854775807) (hp : plan.length ≤ 9223372036854775807) (hb : b.length ≤ 9223372036854775807) :
    Spec Try.prog 9 [.agg S.cells, ints plan, ints b] (.v (.bool true)) := by
  have hplay := Play_spec S plan b hl hf hs hp hb
  refine spec_of mixed Try.func9 (by decide) rfl Try.results9 Try.ntmps9 (by decide) 0 (by simp) ?_
  simp [Sup.cells, brlL, burL, shpL, ints]
  refine pop_spec (lbrief_spec S) rfl false (.inl (by simp [Sup.cells, brlL, burL, shpL])) (.inl rfl) rfl (by simp) ?_
  cases g1 : briefB S with
  | false =>
    simp
    refine pop_spec known_spec rfl false (.inl (by simp)) (.inl rfl) rfl (by simp) ?_
    simp
    refine answers_of rfl ?_; simp
  | true =>
    simp
    refine pop_spec (lfew_spec plan b) rfl false (.inl (by simp [ints])) (.inl rfl) rfl (by simp) ?_
    cases g2 : fewB plan b with
    | false =>
      simp
      refine pop_spec known_spec rfl false (.inl (by simp)) (.inl rfl) rfl (by simp) ?_
      simp
      refine answers_of rfl ?_; simp
    | true =>
      simp
      refine pop_spec (rSupply_spec S hl hf hs) rfl false (.inl (by simp [Sup.cells, brlL, burL, shpL])) (.inl rfl) rfl (by simp) ?_
      simp
      refine pop_spec (KnownC_spec S hl hf hs) rfl false (.inl (by simp [Sup.cells, brlL, burL, shpL])) (.inl rfl) rfl (by simp) ?_
      cases h1 : supB S with
      | false =>
        have hres : playRes S plan b = .tup [.agg (stockC 0 0 0 0 0), .agg [brlL []], .v (.int .i64 0), .v (.int .i64 2)] := by simp [playRes, playB, h1]
        rw [hres] at hplay
        simp
        refine pop_spec hplay rfl false (.inl (by simp [Sup.cells, brlL, burL, shpL, ints])) (.inl rfl) rfl (by simp [brlL]) ?_
        simp [brlL, stockC]
        refine pop_spec known_spec rfl false (.inl (by simp)) (.inl rfl) rfl (by simp) ?_
        simp
        refine answers_of rfl ?_; simp
      | true =>
        simp
        cases h2 : plannedB S plan with
        | false =>
          have hres : playRes S plan b = .tup [.agg (stockC 0 0 0 0 0), .agg [brlL []], .v (.int .i64 0), .v (.int .i64 2)] := by simp [playRes, playB, h2]
          rw [hres] at hplay
          refine pop_spec hplay rfl false (.inl (by simp [Sup.cells, brlL, burL, shpL, ints])) (.inl rfl) rfl (by simp [brlL]) ?_
          simp [brlL, stockC]
          refine pop_spec (rPlan_spec S plan hp hs) rfl false (.inl (by simp [Sup.cells, brlL, burL, shpL, ints])) (.inl rfl) rfl (by simp) ?_
          rw [h2]
          simp
          refine pop_spec known_spec rfl false (.inl (by simp)) (.inl rfl) rfl (by simp) ?_
          simp
          refine answers_of rfl ?_; simp
        | true =>
          cases h3 : burnsB S b with
          | false =>
            have hres : playRes S plan b = .tup [.agg (stockC 0 0 0 0 0), .agg [brlL []], .v (.int .i64 0), .v (.int .i64 2)] := by simp [playRes, playB, h3]
            rw [hres] at hplay
            refine pop_spec hplay rfl false (.inl (by simp [Sup.cells, brlL, burL, shpL, ints])) (.inl rfl) rfl (by simp [brlL]) ?_
            simp [brlL, stockC]
            refine pop_spec (rPlan_spec S plan hp hs) rfl false (.inl (by simp [Sup.cells, brlL, burL, shpL, ints])) (.inl rfl) rfl (by simp) ?_
            rw [h2]
            simp
            refine pop_spec (rBurns_spec S b hb hf) rfl false (.inl (by simp [Sup.cells, brlL, burL, shpL, ints])) (.inl rfl) rfl (by simp) ?_
            rw [h3]
            simp
            refine pop_spec known_spec rfl false (.inl (by simp)) (.inl rfl) rfl (by simp) ?_
            simp
            refine answers_of rfl ?_; simp
          | true =>
            have hS := supB_ok h1
            have hpl := planned_ok h2
            have hbo := burns_ok h3
            have hB : Bok (runP S plan b (days S)).1.barrels 84 := by rw [← (run_alike hS plan b (days S)).1.b]; exact rrun_bok hS hpl hbo _
            have hrp := rPlay_spec S hS plan b hpl hbo
            rw [rPlay_eq hS] at hrp
            have hres : playRes S plan b = .tup [.agg (stockC (sumK S.barrels) (runP S plan b (days S)).1.came (runP S plan b (days S)).1.drawn (runP S plan b (days S)).1.waste (sumK (runP S plan b (days S)).1.barrels)), .agg [brlL (runP S plan b (days S)).1.barrels], .v (.int .i64 (lackI (runP S plan b (days S)).2 (runP S plan b (days S)).1.flight)), .v (.int .i64 0)] := by simp [playRes, playB, h1, h2, h3]
            rw [hres] at hplay
            have hnB := hB.n
            generalize lackI (runP S plan b (days S)).2 (runP S plan b (days S)).1.flight = L at hplay hrp
            generalize (playQ S plan b).counts = C at hrp
            generalize (runP S plan b (days S)).1 = P at hplay hrp hnB
            refine pop_spec hplay rfl false (.inl (by simp [Sup.cells, brlL, burL, shpL, ints])) (.inl rfl) rfl (by simp [brlL]) ?_
            simp [brlL, stockC]
            refine pop_spec (rPlan_spec S plan hp hs) rfl false (.inl (by simp [Sup.cells, brlL, burL, shpL, ints])) (.inl rfl) rfl (by simp) ?_
            rw [h2]
            simp
            refine pop_spec (rBurns_spec S b hb hf) rfl false (.inl (by simp [Sup.cells, brlL, burL, shpL, ints])) (.inl rfl) rfl (by simp) ?_
            rw [h3]
            simp
            refine pop_spec hrp rfl false (.inl (by simp [Sup.cells, brlL, burL, shpL, ints])) (.inl rfl) rfl (by simp) ?_
            simp [rpV, brlL, ints]
            refine pop_spec (SameCache_spec P.barrels P.barrels (by omega) (by omega)) rfl false (.inl (by simp [brlL])) (.inl rfl) rfl (by simp) ?_
            simp
            refine pop_spec known_spec rfl false (.inl (by simp)) (.inl rfl) rfl (by simp) ?_
            simp
            refine answers_of rfl ?_; simp
end Go.Qg

namespace Go.Qg
set_option maxRecDepth 100000
def beforeB : List Int → List Int → Bool
  | a :: l, b :: m => if a = b then beforeB l m else decide (a < b)
  | _, _ => false
theorem before_self : ∀ l : List Int, beforeB l l = false
  | [] => rfl
  | a :: l => by simp [beforeB, before_self l]
theorem before_not : ∀ {l m : List Int}, beforeB l m = true → beforeB m l = false
  | [], _, h => by simp [beforeB] at h
  | _ :: _, [], h => by simp [beforeB] at h
  | a :: l, b :: m, h => by
    by_cases hab : a = b
    · subst hab
      simp only [beforeB, if_true] at h ⊢
      exact before_not h
    · have hba : ¬ b = a := fun h => hab h.symm
      simp only [beforeB, if_neg hab, decide_eq_true_eq] at h
      simp only [beforeB, if_neg hba, decide_eq_false_iff_not]
      omega
theorem before_pre (p : List Int) (l m : List Int) : beforeB (p ++ l) (p ++ m) = beforeB l m := by
  induction p with
  | nil => rfl
  | cons a p ih => simp [beforeB, ih]
theorem ext_sorted {S : Sup} : ∀ (c : Nat) (p : List Int), (ext S c p).Pairwise fun x y => beforeB x y = true
  | 0, p => by simp [ext]
  | c + 1, p => by
    simp only [ext]
    rw [List.pairwise_flatMap]
    refine ⟨fun n _ => ext_sorted c _, ?_⟩
    refine List.Pairwise.imp ?_ List.pairwise_lt_range
    intro n m hnm x hx y hy
    obtain ⟨q, rfl, _⟩ := ext_spec c hx
    obtain ⟨q', rfl, _⟩ := ext_spec c hy
    rw [List.append_assoc, List.append_assoc, before_pre]
    simp only [List.cons_append, List.nil_append, beforeB]
    rw [if_neg (by omega)]
    simp; omega
theorem ext_mem {S : Sup} : ∀ (q p : List Int), (∀ i, i < q.length → 0 ≤ gi q i ∧ gi q i ≤ (shpAt S.ships (p.length + i)).room) → p ++ q ∈ ext S q.length p
  | [], p, _ => by simp [ext]
  | a :: q, p, h => by
    simp only [List.length_cons, ext, List.mem_flatMap]
    have h0 := h 0 (by simp)
    simp only [gi, List.getD_cons_zero, Nat.add_zero] at h0
    refine ⟨a.toNat, List.mem_range.2 (by omega), ?_⟩
    have e : ((a.toNat : Nat) : Int) = a := by omega
    rw [e]
    have := ext_mem q (p ++ [a]) fun i hi => by
      have := h (i + 1) (by simp; omega)
      simp only [gi, List.getD_cons_succ] at this
      rw [show (p ++ [a]).length + i = p.length + (i + 1) from by simp; omega]
      exact this
    rwa [List.append_assoc] at this
theorem planOk_mem {S : Sup} {plan : List Int} (h : PlanOk S plan) : plan ∈ ext S S.ships.length [] := by
  have := ext_mem (S := S) plan [] fun i hi => by have := h.len; have := h.each i (by omega); simpa using this
  rw [h.len] at this
  exact this
theorem mem_planOk {S : Sup} {x : List Int} (h : x ∈ ext S S.ships.length []) : PlanOk S x := by
  obtain ⟨q, e, h1, h2⟩ := ext_spec _ h
  rw [List.nil_append] at e
  subst e
  exact ⟨h1, fun i hi => h2 i (Nat.zero_le _) (by simpa using hi)⟩
def FoundB (S : Sup) (seen : List (List Int)) (st : BestSt) : Prop :=
  (st.2 < 0 ∧ ∀ y ∈ seen, fineB S y = false) ∨
  (0 ≤ st.2 ∧ st.1 ∈ seen ∧ fineB S st.1 = true ∧ costL S st.1 = st.2 ∧ ∀ y ∈ seen, fineB S y = true → st.2 ≤ costL S y ∧ (beforeB y st.1 = true → st.2 < costL S y))
theorem found_step {S : Sup} {seen : List (List Int)} {st : BestSt} {x : List Int} (h : FoundB S seen st) (hc : 0 ≤ costL S x) (hs : ∀ y ∈ seen, beforeB y x = true) : FoundB S (seen ++ [x]) (tryB S st x) := by
  unfold tryB
  by_cases ht : (st.2 < 0 ∨ costL S x < st.2) ∧ fineB S x = true
  · rw [if_pos ht]
    refine .inr ⟨hc, by simp, ht.2, rfl, fun y hy hf => ?_⟩
    rcases List.mem_append.1 hy with hy | hy
    · rcases h with ⟨_, h2⟩ | ⟨h1, _, _, _, h5⟩
      · rw [h2 y hy] at hf; cases hf
      · have := (h5 y hy hf).1
        have h6 : costL S x < st.2 := ht.1.resolve_left (by omega)
        exact ⟨by simp only; omega, fun _ => by simp only; omega⟩
    · obtain rfl : y = x := by simpa using hy
      exact ⟨Int.le_refl _, fun h => by rw [before_self] at h; cases h⟩
  · rw [if_neg ht]
    rcases h with ⟨h1, h2⟩ | ⟨h1, h2, h3, h4, h5⟩
    · refine .inl ⟨h1, fun y hy => ?_⟩
      rcases List.mem_append.1 hy with hy | hy
      · exact h2 y hy
      · obtain rfl : y = x := by simpa using hy
        cases hf : fineB S y with
        | false => rfl
        | true => exact absurd ⟨.inl h1, hf⟩ ht
    · refine .inr ⟨h1, List.mem_append_left _ h2, h3, h4, fun y hy hf => ?_⟩
      rcases List.mem_append.1 hy with hy | hy
      · exact h5 y hy hf
      · obtain rfl : y = x := by simpa using hy
        have : ¬ costL S y < st.2 := fun h => ht ⟨.inr h, hf⟩
        exact ⟨by omega, fun hb => by rw [before_not (hs _ h2)] at hb; cases hb⟩
theorem found_fold {S : Sup} : ∀ (l seen : List (List Int)) {st : BestSt}, FoundB S seen st → (∀ x ∈ l, 0 ≤ costL S x) → (seen ++ l).Pairwise (fun x y => beforeB x y = true) → FoundB S (seen ++ l) (l.foldl (tryB S) st)
  | [], seen, st, h, _, _ => by rw [List.append_nil]; exact h
  | x :: l, seen, st, h, hc, hp => by
    rw [List.foldl_cons, show seen ++ x :: l = (seen ++ [x]) ++ l from by simp]
    refine found_fold l (seen ++ [x]) (found_step h (hc x (by simp)) fun y hy => ?_) (fun y hy => hc y (by simp [hy])) (by simpa using hp)
    exact (List.pairwise_append.1 hp).2.2 y hy x (by simp)
theorem best_found {S : Sup} (hS : SupOk S) : FoundB S (ext S S.ships.length []) (srchC S S.ships.length [] ([], -1)) := by
  rw [srch_eq hS S.ships.length ([], -1) (fun i hi => by simp at hi) (by simp)]
  have := found_fold (S := S) (ext S S.ships.length []) [] (st := ([], -1)) (.inl ⟨by simp, by simp⟩) (fun x hx => by
    have h := mem_planOk hx
    have hl := h.len
    exact (costTo_mono hS (a := x) (fun i hi => (h.each i (by omega)).1) (n := x.length) (by omega) (Nat.le_refl _) (Nat.le_refl _)).1) (by simpa using ext_sorted _ _)
  simpa using this
end Go.Qg

namespace Go.Qg
open Go.Proofs
set_option maxRecDepth 100000
set_option linter.unusedSimpArgs false
set_option maxHeartbeats 8000000
attribute [local irreducible] pwp pops pdraw pop popCall pdCall thenP blockP scopeP pspec Spec answers ppost CallW
theorem manyTo_bound {S : Sup} (hS : SupOk S) : ∀ k, k ≤ S.ships.length → 1 ≤ manyTo S k ∧ manyTo S k ≤ ((10 ^ k : Nat) : Int)
  | 0, _ => by simp [manyTo]
  | k + 1, hk => by
    have h1 := manyTo_bound hS k (by omega)
    have h2 := (hS.ship k (by omega)).2.1
    have h3 : 1 * 1 ≤ manyTo S k * ((shpAt S.ships k).room + 1) := Int.mul_le_mul h1.1 (by omega) (by omega) (by omega)
    have h4 : manyTo S k * ((shpAt S.ships k).room + 1) ≤ ((10 ^ k : Nat) : Int) * 10 := Int.mul_le_mul h1.2 (by omega) (by omega) (by omega)
    simp only [manyTo]
    rw [Nat.pow_succ]; push_cast at h4 ⊢; omega
theorem manyTo_million {S : Sup} (hS : SupOk S) {k : Nat} (hk : k ≤ S.ships.length) : 1 ≤ manyTo S k ∧ manyTo S k ≤ 1000000 := by
  have h1 := manyTo_bound hS k hk
  have hns := hS.ns
  have h2 : 10 ^ k ≤ 10 ^ 6 := Nat.pow_le_pow_right (by decide) (by omega)
  have h3 : (10 : Nat) ^ 6 = 1000000 := rfl
  omega
theorem rMany_spec (S : Sup) (hS : SupOk S) : Spec Try.prog 27 [.agg S.cells] (.v (.int .i64 (manyTo S S.ships.length))) := by
  have hns := hS.ns
  refine spec_of mixed Try.func27 (by decide) rfl Try.results27 Try.ntmps27 (by decide) 0 (by simp) ?_
  simp [Sup.cells, brlL, burL, shpL]
  refine pwp_loop (fun k : Nat => [(3, .v (.int .i64 (manyTo S k))), (4, .v (.int .i64 k))]) (fun k => k ≤ S.ships.length) (fun k => S.ships.length - k) 0 (Nat.zero_le _) (by simp; rfl) (by simp [manyTo]) ?_
  intro k hk
  by_cases hkl : k < S.ships.length
  · have wk := i64_wrap (show -9223372036854775808 ≤ (k : Int) + 1 ∧ _ from by omega)
    have hb := manyTo_million hS (show k + 1 ≤ S.ships.length from hkl)
    have hr := (hS.ship k hkl).2.1
    have e : manyTo S (k + 1) = manyTo S k * ((shpAt S.ships k).room + 1) := rfl
    rw [e] at hb
    have w1 := i64_wrap (show -9223372036854775808 ≤ (shpAt S.ships k).room + 1 ∧ _ from by omega)
    have w2 := i64_wrap (show -9223372036854775808 ≤ manyTo S k * ((shpAt S.ships k).room + 1) ∧ _ from by omega)
    simp [hkl, Shp.cells, w1, w2]
    refine again_of (k + 1) (by omega) (by omega) ?_
    simp [wk, e]
  · obtain rfl : k = S.ships.length := by omega
    simp
    refine answers_of rfl ?_; simp
theorem before_drop {a b : List Int} {k : Nat} (ha : k < a.length) (hb : k < b.length) : beforeB (a.drop k) (b.drop k) = if geti a k = geti b k then beforeB (a.drop (k + 1)) (b.drop (k + 1)) else decide (geti a k < geti b k) := by
  have e1 : geti a k = a[k] := by simp [geti, ha]
  have e2 : geti b k = b[k] := by simp [geti, hb]
  rw [List.drop_eq_getElem_cons ha, List.drop_eq_getElem_cons hb, beforeB, e1, e2]
theorem before_short {a b : List Int} {k : Nat} (h : a.length ≤ k ∨ b.length ≤ k) : beforeB (a.drop k) (b.drop k) = false := by
  rcases h with h | h
  · rw [List.drop_eq_nil_of_le h]; simp [beforeB]
  · rw [List.drop_eq_nil_of_le h]; cases a.drop k <;> simp [beforeB]
theorem lbefore_spec (a b : List Int) (ha : a.length ≤ 9223372036854775807) : Spec Try.prog 50 [ints a, ints b] (.v (.bool (beforeB a b))) := by
  refine spec_of mixed Try.func50 (by decide) rfl Try.results50 Try.ntmps50 (by decide) 0 (by simp) ?_
  simp [ints]
  refine pwp_loop (fun k : Nat => [(5, .v (.int .i64 k))]) (fun k => (k ≤ a.length ∧ k ≤ b.length) ∧ beforeB a b = beforeB (a.drop k) (b.drop k)) (fun k => a.length - k) 0 ⟨⟨Nat.zero_le _, Nat.zero_le _⟩, by simp⟩ (by simp; rfl) (by simp) ?_
  intro k ⟨⟨hk, hk2⟩, he⟩
  by_cases h1 : k < a.length
  · by_cases h2 : k < b.length
    · have wk := i64_wrap (show -9223372036854775808 ≤ (k : Int) + 1 ∧ _ from by omega)
      rw [before_drop h1 h2] at he
      simp [h1, h2]
      refine pwp_draw 9 (by decide) ?_
      by_cases h3 : geti a k = geti b k
      · rw [if_pos h3] at he
        simp [h1, h2, h3]
        refine ⟨by decide, ?_⟩
        refine again_of (k + 1) ⟨by omega, he⟩ (by omega) ?_
        simp [wk]
      · rw [if_neg h3] at he
        simp [h1, h2, h3]
        refine ⟨by decide, ?_⟩
        refine pwp_draw 9 (by decide) ?_
        simp [h1, h2, h3]
        refine ⟨by decide, ?_⟩
        refine answers_of rfl ?_; simp [he]
    · rw [before_short (.inr (by omega))] at he
      simp [h1, h2]
      refine answers_of rfl ?_; simp [he]
  · rw [before_short (.inl (by omega))] at he
    simp [h1]
    refine answers_of rfl ?_; simp [he]
theorem planned_of {S : Sup} {plan : List Int} (h : PlanOk S plan) : plannedB S plan = true := by
  have hl := h.len
  simp only [plannedB, Bool.and_eq_true, decide_eq_true_eq]
  refine ⟨allN_spec.2 fun k hk => ?_, hl⟩
  have := h.each k (by omega)
  rw [gi_geti] at this
  simp only [planB, Bool.and_eq_true, decide_eq_true_eq]
  exact ⟨by omega, inB_spec.2 this⟩
theorem CacheCheapest_spec (S : Sup) (plan : List Int) (hl : S.barrels.length ≤ 9223372036854775807) (hf : S.burns.length ≤ 9223372036854775807) (hs : S.ships.length ≤ 9223372036854775807) (hp : plan.length ≤ 9223372036854775807) :
    Spec Try.prog 12 [.agg S.cells, ints plan] (.v (.bool true)) := by
  have hholds := Holds_spec S plan hl hf hs hp
  have hcost := Cost_spec S plan hl hf hs hp
  have hbest := Best_spec S hl hf hs
  refine spec_of mixed Try.func12 (by decide) rfl Try.results12 Try.ntmps12 (by decide) 0 (by simp) ?_
  simp [Sup.cells, brlL, burL, shpL, ints]
  refine pop_spec (lbrief_spec S) rfl false (.inl (by simp [Sup.cells, brlL, burL, shpL])) (.inl rfl) rfl (by simp) ?_
  cases g1 : briefB S with
  | false =>
    simp
    refine pop_spec known_spec rfl false (.inl (by simp)) (.inl rfl) rfl (by simp) ?_
    simp
    refine answers_of rfl ?_; simp
  | true =>
    simp
    refine pop_spec (rSupply_spec S hl hf hs) rfl false (.inl (by simp [Sup.cells, brlL, burL, shpL])) (.inl rfl) rfl (by simp) ?_
    cases h1 : supB S with
    | false =>
      simp
      refine pop_spec known_spec rfl false (.inl (by simp)) (.inl rfl) rfl (by simp) ?_
      simp
      refine answers_of rfl ?_; simp
    | true =>
      have hS := supB_ok h1
      have hns := hS.ns
      simp
      refine pop_spec (rMany_spec S hS) rfl false (.inl (by simp [Sup.cells, brlL, burL, shpL])) (.inl rfl) rfl (by simp) ?_
      generalize manyTo S S.ships.length = M
      by_cases g2 : M ≤ 5000
      case neg =>
        simp [g2, show 5000 < M from by omega]
        refine pop_spec known_spec rfl false (.inl (by simp)) (.inl rfl) rfl (by simp) ?_
        simp
        refine answers_of rfl ?_; simp
      simp [g2, show ¬ 5000 < M from by omega]
      refine pop_spec (rPlan_spec S plan hp hs) rfl false (.inl (by simp [Sup.cells, brlL, burL, shpL, ints])) (.inl rfl) rfl (by simp) ?_
      cases h2 : plannedB S plan with
      | false =>
        simp
        refine pop_spec known_spec rfl false (.inl (by simp)) (.inl rfl) rfl (by simp) ?_
        simp
        refine answers_of rfl ?_; simp
      | true =>
        have hpl := planned_ok h2
        have hmem := planOk_mem hpl
        have hfound : FoundB S (ext S S.ships.length []) (bestP S) := best_found hS
        rw [h1, h2] at hholds hcost
        simp only [Bool.true_and, if_true] at hholds hcost
        simp only [bestRes, h1, if_true] at hbest
        have hfine : fineB S plan = decide ((holdsP S plan).rule = 1) := rfl
        rcases hfound with ⟨f1, f2⟩ | ⟨f1, f2, f3, f4, f5⟩
        · rw [if_pos f1] at hbest
          rw [f2 plan hmem] at hfine
          generalize holdsP S plan = F at hholds hfine
          generalize costL S plan = c at hcost
          have hF : ¬ F.rule = 1 := by simpa using hfine.symm
          simp
          refine pop_spec hbest rfl false (.inl (by simp [Sup.cells, brlL, burL, shpL])) (.inl rfl) rfl (by simp [ints]) ?_
          simp [ints]
          refine pop_spec hholds rfl false (.inl (by simp [Sup.cells, brlL, burL, shpL, ints])) (.inl rfl) rfl (by simp [fltV]) ?_
          simp [fltV]
          refine pop_spec hcost rfl false (.inl (by simp [Sup.cells, brlL, burL, shpL, ints])) (.inl rfl) rfl (by simp) ?_
          simp [hF]
          refine pop_spec known_spec rfl false (.inl (by simp)) (.inl rfl) rfl (by simp) ?_
          simp
          refine answers_of rfl ?_; simp [hF]
        · rw [if_neg (show ¬ (bestP S).2 < 0 by omega)] at hbest
          have hpb := mem_planOk f2
          have hlen := hpb.len
          have hpb2 := planned_of hpb
          have hholds2 := Holds_spec S (bestP S).1 hl hf hs (by omega)
          have hcost2 := Cost_spec S (bestP S).1 hl hf hs (by omega)
          rw [h1, hpb2] at hholds2 hcost2
          simp only [Bool.true_and, if_true] at hholds2 hcost2
          rw [f4] at hcost2
          have hfine2 : fineB S (bestP S).1 = decide ((holdsP S (bestP S).1).rule = 1) := rfl
          rw [f3] at hfine2
          have f5 := f5 plan hmem
          have hbef := lbefore_spec plan (bestP S).1 hp
          have hrp := rPlan_spec S (bestP S).1 (by omega) hs
          rw [hpb2] at hrp
          rw [hfine] at f5
          clear f2 f3 f4 hpb hpb2 hfine
          generalize holdsP S (bestP S).1 = G at hholds2 hfine2
          generalize holdsP S plan = F at hholds f5
          generalize costL S plan = c at hcost f5
          generalize bestP S = st at *
          obtain ⟨p, n⟩ := st
          simp only at *
          have hG : G.rule = 1 := by simpa using hfine2.symm
          simp
          refine pop_spec hbest rfl false (.inl (by simp [Sup.cells, brlL, burL, shpL])) (.inl rfl) rfl (by simp [ints]) ?_
          simp [ints]
          refine pop_spec hholds rfl false (.inl (by simp [Sup.cells, brlL, burL, shpL, ints])) (.inl rfl) rfl (by simp [fltV]) ?_
          simp [fltV]
          refine pop_spec hcost rfl false (.inl (by simp [Sup.cells, brlL, burL, shpL, ints])) (.inl rfl) rfl (by simp) ?_
          simp
          refine pop_spec hrp rfl false (.inl (by simp [Sup.cells, brlL, burL, shpL, ints])) (.inl rfl) rfl (by simp) ?_
          simp
          refine pop_spec hholds2 rfl false (.inl (by simp [Sup.cells, brlL, burL, shpL, ints])) (.inl rfl) rfl (by simp [fltV]) ?_
          simp [fltV]
          refine pop_spec hcost2 rfl false (.inl (by simp [Sup.cells, brlL, burL, shpL, ints])) (.inl rfl) rfl (by simp) ?_
          by_cases hF : F.rule = 1
          · have f6 := f5 (by simp [hF])
            by_cases hc : n < c
            · simp [hF, hG, hc]
              refine pop_spec known_spec rfl false (.inl (by simp)) (.inl rfl) rfl (by simp) ?_
              simp
              refine answers_of rfl ?_; simp
            · obtain rfl : c = n := by omega
              have hb : beforeB plan p = false := by
                cases h : beforeB plan p with
                | false => rfl
                | true => have := f6.2 h; omega
              rw [hb] at hbef
              simp [hF, hG]
              refine pop_spec hbef rfl false (.inl (by simp [ints])) (.inl rfl) rfl (by simp) ?_
              simp
              refine pop_spec known_spec rfl false (.inl (by simp)) (.inl rfl) rfl (by simp) ?_
              simp
              refine answers_of rfl ?_; simp
          · simp [hF, hG]
            refine pop_spec known_spec rfl false (.inl (by simp)) (.inl rfl) rfl (by simp) ?_
            simp
            refine answers_of rfl ?_; simp
end Go.Qg

namespace Go.Qg
set_option maxRecDepth 100000
def rm (S : Sup) (k : Nat) : Nat := ((shpAt S.ships k).room + 1).toNat
def prodTo (S : Sup) (k : Nat) : Nat → Nat
  | 0 => 1
  | i + 1 => prodTo S k i * rm S (k + i)
theorem prodTo_head (S : Sup) (k : Nat) : ∀ i, prodTo S k (i + 1) = rm S k * prodTo S (k + 1) i
  | 0 => by simp [prodTo]
  | i + 1 => by
    rw [prodTo, prodTo_head S k i, prodTo, Nat.mul_assoc, show k + (i + 1) = k + 1 + i from by omega]
theorem manyOf_split (S : Sup) (c : Nat) : ∀ (i k : Nat), manyOf S (i + c) k = prodTo S k i * manyOf S c (k + i)
  | 0, k => by simp [prodTo]
  | i + 1, k => by
    rw [show i + 1 + c = (i + c) + 1 from by omega, manyOf, manyOf_split S c i (k + 1), prodTo_head, show k + 1 + i = k + (i + 1) from by omega, ← Nat.mul_assoc]
    rfl
theorem planOf_length (S : Sup) : ∀ (c k n : Nat), (planOf S c k n).length = c
  | 0, _, _ => rfl
  | c + 1, k, n => by simp [planOf, planOf_length S c]
theorem planOf_at (S : Sup) : ∀ (c k n i : Nat), i < c → gi (planOf S c k n) i = ((n / manyOf S (c - 1 - i) (k + i + 1) % rm S (k + i) : Nat) : Int)
  | 0, _, _, _, h => by omega
  | c + 1, k, n, 0, _ => by simp [planOf, gi, rm]
  | c + 1, k, n, i + 1, h => by
    have h1 := planOf_at S c (k + 1) (n % manyOf S c (k + 1)) i (by omega)
    have e : gi (planOf S (c + 1) k n) (i + 1) = gi (planOf S c (k + 1) (n % manyOf S c (k + 1))) i := by simp [planOf, gi]
    rw [e, h1, show c + 1 - 1 - (i + 1) = c - 1 - i from by omega, show k + 1 + i + 1 = k + (i + 1) + 1 from by omega, show k + 1 + i = k + (i + 1) from by omega]
    have e2 : manyOf S c (k + 1) = prodTo S (k + 1) i * rm S (k + (i + 1)) * manyOf S (c - 1 - i) (k + (i + 1) + 1) := by
      have := manyOf_split S (c - 1 - i) (i + 1) (k + 1)
      rw [show i + 1 + (c - 1 - i) = c from by omega, prodTo, show k + 1 + i = k + (i + 1) from by omega, show k + 1 + (i + 1) = k + (i + 1) + 1 from by omega] at this
      exact this
    rw [e2, Nat.mod_mul_left_div_self, Nat.mod_mul_left_mod]
end Go.Qg

namespace Go.Qg
open Go.Proofs
set_option maxRecDepth 100000
set_option linter.unusedSimpArgs false
set_option maxHeartbeats 8000000
attribute [local irreducible] pwp pops pdraw pop popCall pdCall thenP blockP scopeP pspec Spec answers ppost CallW
def outAt (S : Sup) (n m : Nat) : List Int := (List.range S.ships.length).map fun j => if S.ships.length ≤ j + m then gi (planOf S S.ships.length 0 n) j else 0
theorem outAt_length (S : Sup) (n m : Nat) : (outAt S n m).length = S.ships.length := by simp [outAt]
theorem outAt_zero (S : Sup) (n : Nat) : outAt S n 0 = List.replicate S.ships.length 0 := by
  apply List.ext_getElem (by simp [outAt])
  intro j h1 h2
  simp [outAt] at h1 ⊢
  omega
theorem outAt_step (S : Sup) (n : Nat) {m : Nat} (hm : m < S.ships.length) : (outAt S n m).set (S.ships.length - 1 - m) ((n / manyOf S m (S.ships.length - m) % rm S (S.ships.length - 1 - m) : Nat) : Int) = outAt S n (m + 1) := by
  have hd := planOf_at S S.ships.length 0 n (S.ships.length - 1 - m) (by omega)
  rw [show S.ships.length - 1 - (S.ships.length - 1 - m) = m from by omega, show 0 + (S.ships.length - 1 - m) + 1 = S.ships.length - m from by omega, Nat.zero_add] at hd
  rw [← hd]
  apply List.ext_getElem (by simp [outAt])
  intro j h1 h2
  have hj : j < S.ships.length := by simpa [outAt] using h2
  rw [List.getElem_set]
  simp only [outAt, List.getElem_map, List.getElem_range]
  by_cases e : S.ships.length - 1 - m = j
  · subst e; rw [if_pos rfl, if_pos (by omega)]
  · rw [if_neg e]
    by_cases c : S.ships.length ≤ j + m
    · rw [if_pos c, if_pos (by omega)]
    · rw [if_neg c, if_neg (by omega)]
theorem outAt_all (S : Sup) (n : Nat) : outAt S n S.ships.length = planOf S S.ships.length 0 n := by
  apply List.ext_getElem (by simp [outAt, planOf_length])
  intro j h1 h2
  simp [outAt, gi, h2]
theorem num_step (S : Sup) (n : Nat) {m : Nat} (hm : m < S.ships.length) : n / manyOf S (m + 1) (S.ships.length - (m + 1)) = n / manyOf S m (S.ships.length - m) / rm S (S.ships.length - 1 - m) := by
  rw [Nat.div_div_eq_div_mul, manyOf, show S.ships.length - (m + 1) + 1 = S.ships.length - m from by omega, show S.ships.length - (m + 1) = S.ships.length - 1 - m from by omega, Nat.mul_comm]
  rfl
def numAt (S : Sup) (n m : Nat) : Nat := n / manyOf S m (S.ships.length - m)
theorem rplan_spec (S : Sup) (hS : SupOk S) (n : Nat) (hn : n ≤ 1000000) : Spec Try.prog 80 [.agg S.cells, .v (.int .i64 n)] (ints (planOf S S.ships.length 0 n)) := by
  have hns := hS.ns
  refine spec_of mixed Try.func80 (by decide) rfl Try.results80 Try.ntmps80 (by decide) 0 (by simp) ?_
  have w0 := i64_wrap (show -9223372036854775808 ≤ (S.ships.length : Int) - 1 ∧ _ from by omega)
  simp [Sup.cells, brlL, burL, shpL, w0, show 8 * (S.ships.length : Int) ≤ 281474976710656 from by omega, show (S.ships.length : Int) ≤ 9223372036854775807 from by omega]
  refine pwp_loop (fun m : Nat => [(1, .v (.int .i64 (numAt S n m : Nat))), (6, .v (.int .i64 ((S.ships.length : Int) - 1 - m))), (10, .rows (some (0, S.ships.length)) 0 3 1 (rowsI (outAt S n m)))]) (fun m => m ≤ S.ships.length) (fun m => S.ships.length - m) 0 (Nat.zero_le _) (by simp; rfl) (by simp [numAt, manyOf, outAt_zero, rowsI_rep]) ?_
  intro m hm
  by_cases hml : m < S.ships.length
  · have hr := (hS.ship (S.ships.length - 1 - m) (by omega)).2.1
    have w1 := i64_wrap (show -9223372036854775808 ≤ (shpAt S.ships (S.ships.length - 1 - m)).room + 1 ∧ _ from by omega)
    have er : (shpAt S.ships (S.ships.length - 1 - m)).room + 1 = ((rm S (S.ships.length - 1 - m) : Nat) : Int) := by rw [rm]; omega
    have ei : (S.ships.length : Int) - 1 - m = ((S.ships.length - 1 - m : Nat) : Int) := by omega
    have hrm : 0 < rm S (S.ships.length - 1 - m) := by rw [rm]; omega
    have hT : ((numAt S n m : Nat) : Int).tmod ((rm S (S.ships.length - 1 - m) : Nat) : Int) = ((numAt S n m % rm S (S.ships.length - 1 - m) : Nat) : Int) := (Int.ofNat_tmod _ _).symm
    have hD : ((numAt S n m : Nat) : Int).tdiv ((rm S (S.ships.length - 1 - m) : Nat) : Int) = ((numAt S n m / rm S (S.ships.length - 1 - m) : Nat) : Int) := (Int.ofNat_tdiv _ _).symm
    have hst : (outAt S n m).set (S.ships.length - 1 - m) ((numAt S n m % rm S (S.ships.length - 1 - m) : Nat) : Int) = outAt S n (m + 1) := outAt_step S n hml
    have hns2 : numAt S n (m + 1) = numAt S n m / rm S (S.ships.length - 1 - m) := num_step S n hml
    have hnb : numAt S n m ≤ 1000000 := Nat.le_trans (Nat.div_le_self _ _) hn
    have hmo : numAt S n m % rm S (S.ships.length - 1 - m) ≤ numAt S n m := Nat.mod_le _ _
    have hdi : numAt S n m / rm S (S.ships.length - 1 - m) ≤ numAt S n m := Nat.div_le_self _ _
    have hil : S.ships.length - 1 - m < S.ships.length := by omega
    rw [er] at w1
    generalize hR : rm S (S.ships.length - 1 - m) = R at *
    generalize hI : S.ships.length - 1 - m = i at *
    generalize numAt S n m = N at *
    have wq := i64_wrap (show -9223372036854775808 ≤ ((N / R : Nat) : Int) ∧ _ from by omega)
    have wr := i64_wrap (show -9223372036854775808 ≤ ((N % R : Nat) : Int) ∧ _ from by omega)
    have wi := i64_wrap (show -9223372036854775808 ≤ (i : Int) - 1 ∧ _ from by omega)
    simp [ei, er, w1, hil, Shp.cells, hT, hD, show ¬ R = 0 from by omega, wq, wr, rowsI_set, hst, rowsI_get (l := outAt S n m) (k := i) (by rw [outAt_length]; exact hil)]
    refine again_of (m + 1) (by omega) (by omega) ?_
    simp [wi, hns2, hst]
    exact ⟨by have h := wq; push_cast at h; exact h.symm, by omega, by have h := hst; push_cast at h; exact h.symm⟩
  · obtain rfl : m = S.ships.length := by omega
    simp [show ¬ (S.ships.length : Int) ≤ (S.ships.length : Int) - 1 from by omega, show ((S.ships.length : Int) - 1 - (S.ships.length : Int)) = -1 from by omega]
    rw [← outAt_all]
    have hlen := outAt_length S n S.ships.length
    refine answers_of (by simp; rfl) ?_
    simp [ints, hlen]
    intro j hj
    rw [rowsI_get (by rw [hlen]; exact hj)]
    simp
end Go.Qg

namespace Go.Qg
open Go.Proofs
set_option maxRecDepth 100000
set_option linter.unusedSimpArgs false
set_option maxHeartbeats 8000000
attribute [local irreducible] pwp pops pdraw pop popCall pdCall thenP blockP scopeP pspec Spec answers ppost CallW
def triedR (S : Sup) : Nat → BestSt
  | 0 => ([], -1)
  | n + 1 => tryB S (triedR S n) (planOf S S.ships.length 0 n)
theorem tried_fold (S : Sup) : ∀ n, triedR S n = ((List.range n).map fun n : Nat => planOf S S.ships.length 0 n).foldl (tryB S) ([], -1)
  | 0 => rfl
  | n + 1 => by rw [List.range_succ, List.map_append, List.foldl_append, ← tried_fold S n]; rfl
theorem manyTo_prod {S : Sup} (hS : SupOk S) : ∀ i, i ≤ S.ships.length → manyTo S i = (prodTo S 0 i : Nat)
  | 0, _ => rfl
  | i + 1, h => by
    have := (hS.ship i (by omega)).2.1
    rw [manyTo, manyTo_prod hS i (by omega), prodTo, Nat.zero_add, rm]; push_cast; congr 1; omega
theorem manyTo_all {S : Sup} (hS : SupOk S) : manyTo S S.ships.length = (manyOf S S.ships.length 0 : Nat) := by
  have := manyOf_split S 0 S.ships.length 0
  rw [Nat.add_zero] at this
  rw [manyTo_prod hS _ (Nat.le_refl _), this, manyOf, Nat.mul_one]
theorem tried_best {S : Sup} (hS : SupOk S) : triedR S (manyOf S S.ships.length 0) = bestP S := by
  have h := srch_eq hS S.ships.length (p := []) ([], -1) (fun i hi => by simp at hi) (by simp)
  rw [tried_fold, bestP, h, ext_plans hS S.ships.length [] (by simp)]
  simp
theorem planOf_ok {S : Sup} (hS : SupOk S) (n : Nat) : PlanOk S (planOf S S.ships.length 0 n) := by
  refine ⟨planOf_length S _ _ _, fun i hi => ?_⟩
  have hr := (hS.ship i hi).2.1
  rw [planOf_at S _ _ _ _ hi, Nat.zero_add]
  have h0 : 0 < rm S i := by rw [rm]; omega
  have := Nat.mod_lt (n / manyOf S (S.ships.length - 1 - i) (i + 1)) h0
  have h1 : ((rm S i : Nat) : Int) = (shpAt S.ships i).room + 1 := by rw [rm]; omega
  omega
theorem tried_bound {S : Sup} (hS : SupOk S) : ∀ n, (triedR S n).1.length ≤ 6 ∧ -1 ≤ (triedR S n).2 ∧ (triedR S n).2 ≤ 6000000
  | 0 => by simp [triedR]
  | n + 1 => by
    have ih := tried_bound hS n
    have hp := planOf_ok hS n
    have hl := hp.len
    have hns := hS.ns
    have hc := costTo_bound hS (plan := planOf S S.ships.length 0 n) (by omega) (fun i hi => by have := hp.each i (by omega); have := hS.ship i (by omega); omega) _ (Nat.le_refl _)
    rw [triedR, tryB]
    split
    · simp only [costL]; omega
    · exact ih
theorem rBest_spec (S : Sup) (hS : SupOk S) : Spec Try.prog 29 [.agg S.cells] (.tup [ints (bestP S).1, .v (.int .i64 (if (bestP S).2 < 0 then 0 else (bestP S).2)), .v (.bool (decide (0 ≤ (bestP S).2)))]) := by
  have hns := hS.ns
  have hmany := rMany_spec S hS
  have hmil := manyTo_million hS (Nat.le_refl S.ships.length)
  rw [manyTo_all hS] at hmany hmil
  rw [← tried_best hS]
  generalize manyOf S S.ships.length 0 = M at *
  refine spec_of mixed Try.func29 (by decide) rfl Try.results29 Try.ntmps29 (by decide) 0 (by simp) ?_
  simp [Sup.cells, brlL, burL, shpL]
  refine pwp_loop (fun n : Nat => [(5, ints (triedR S n).1), (6, .v (.int .i64 (if (triedR S n).2 < 0 then 0 else (triedR S n).2))), (7, .v (.bool (decide (0 ≤ (triedR S n).2)))), (8, .v (.int .i64 n))]) (fun n => n ≤ M) (fun n => M - n) 0 (Nat.zero_le _) (by simp; rfl) (by simp [triedR, ints]) ?_
  intro n hn
  have hb := tried_bound hS n
  simp [ints]
  refine pop_spec hmany rfl false (.inl (by simp [Sup.cells, brlL, burL, shpL])) (.inl rfl) rfl (by simp) ?_
  by_cases hnl : n < M
  · have wn := i64_wrap (show -9223372036854775808 ≤ (n : Int) + 1 ∧ _ from by omega)
    have hpo := planOf_ok hS n
    have hlen := hpo.len
    have hplan := rplan_spec S hS n (by omega)
    have hcost := rCost_spec S hS (planOf S S.ships.length 0 n) (by omega) (fun i hi => by have := hpo.each i (by omega); have := hS.ship i (by omega); omega)
    have hhold := rHolds_spec S hS (planOf S S.ships.length 0 n) hpo
    rw [← holds_eq hS] at hhold
    have hc0 := costTo_bound hS (plan := planOf S S.ships.length 0 n) (by omega) (fun i hi => by have := hpo.each i (by omega); have := hS.ship i (by omega); omega) _ (Nat.le_refl _)
    have hc : 0 ≤ costL S (planOf S S.ships.length 0 n) := hc0.1
    have hfine : fineB S (planOf S S.ships.length 0 n) = decide ((holdsP S (planOf S S.ships.length 0 n)).rule = 1) := rfl
    have hnext : triedR S (n + 1) = tryB S (triedR S n) (planOf S S.ships.length 0 n) := rfl
    rw [tryB, hfine] at hnext
    generalize planOf S S.ships.length 0 n = pl at *
    generalize holdsP S pl = F at *
    generalize costL S pl = c at *
    generalize triedR S n = st at *
    obtain ⟨bs, k⟩ := st
    simp only at *
    simp [hnl]
    refine pop_spec hplan rfl false (.inl (by simp [Sup.cells, brlL, burL, shpL])) (.inl rfl) rfl (by simp [ints]) ?_
    simp [ints]
    refine pop_spec hcost rfl false (.inl (by simp [Sup.cells, brlL, burL, shpL, ints])) (.inl rfl) rfl (by simp) ?_
    have hgo : (k < 0 ∨ c < k) ∨ ¬ (k < 0 ∨ c < k) := Classical.em _
    rcases hgo with hgo | hgo
    · have hcond : (0 ≤ k → c < (if k < 0 then 0 else k)) := fun h => by rw [if_neg (by omega)]; omega
      by_cases h0 : 0 ≤ k
      · have hck := hgo.resolve_left (by omega)
        simp [h0, show ¬ k < 0 from by omega, hck]
        refine pop_spec hhold rfl false (.inl (by simp [Sup.cells, brlL, burL, shpL, ints])) (.inl rfl) rfl (by simp [fltV]) ?_
        simp [fltV]
        by_cases hF : F.rule = 1
        · rw [if_pos ⟨hgo, by simp [hF]⟩] at hnext
          simp [hF]
          refine again_of (n + 1) (by omega) (by omega) ?_
          simp [hnext, wn, ints, hc, show ¬ c < 0 from by omega]
        · rw [if_neg (by simp [hF])] at hnext
          simp [hF]
          refine again_of (n + 1) (by omega) (by omega) ?_
          simp [hnext, wn, ints, h0, show ¬ k < 0 from by omega]
      · simp [h0, show k < 0 from by omega]
        refine pop_spec hhold rfl false (.inl (by simp [Sup.cells, brlL, burL, shpL, ints])) (.inl rfl) rfl (by simp [fltV]) ?_
        simp [fltV]
        by_cases hF : F.rule = 1
        · rw [if_pos ⟨hgo, by simp [hF]⟩] at hnext
          simp [hF]
          refine again_of (n + 1) (by omega) (by omega) ?_
          simp [hnext, wn, ints, hc, show ¬ c < 0 from by omega]
        · rw [if_neg (by simp [hF])] at hnext
          simp [hF]
          refine again_of (n + 1) (by omega) (by omega) ?_
          simp [hnext, wn, ints, h0, show k < 0 from by omega]
    · rw [if_neg fun h => hgo h.1] at hnext
      have h0 : 0 ≤ k := by omega
      simp [h0, show ¬ k < 0 from by omega, show ¬ c < k from by omega]
      refine again_of (n + 1) (by omega) (by omega) ?_
      simp [hnext, wn, ints, h0, show ¬ k < 0 from by omega]
  · obtain rfl : n = M := by omega
    simp
    refine answers_of rfl ?_
    simp [ints]
end Go.Qg

namespace Go.Qg
open Go.Proofs
set_option maxRecDepth 100000
set_option linter.unusedSimpArgs false
set_option maxHeartbeats 8000000
attribute [local irreducible] pwp pops pdraw pop popCall pdCall thenP blockP scopeP pspec Spec answers ppost CallW
theorem CacheBest_spec (S : Sup) (hl : S.barrels.length ≤ 9223372036854775807) (hf : S.burns.length ≤ 9223372036854775807) (hs : S.ships.length ≤ 9223372036854775807) :
    Spec Try.prog 5 [.agg S.cells] (.v (.bool true)) := by
  have hbest := Best_spec S hl hf hs
  refine spec_of mixed Try.func5 (by decide) rfl Try.results5 Try.ntmps5 (by decide) 0 (by simp) ?_
  simp [Sup.cells, brlL, burL, shpL]
  refine pop_spec (lbrief_spec S) rfl false (.inl (by simp [Sup.cells, brlL, burL, shpL])) (.inl rfl) rfl (by simp) ?_
  cases g1 : briefB S with
  | false =>
    simp
    refine pop_spec known_spec rfl false (.inl (by simp)) (.inl rfl) rfl (by simp) ?_
    simp
    refine answers_of rfl ?_; simp
  | true =>
    simp
    refine pop_spec (rSupply_spec S hl hf hs) rfl false (.inl (by simp [Sup.cells, brlL, burL, shpL])) (.inl rfl) rfl (by simp) ?_
    cases h1 : supB S with
    | false =>
      simp only [bestRes, h1, Bool.false_eq_true, if_false] at hbest
      simp
      refine pop_spec hbest rfl false (.inl (by simp [Sup.cells, brlL, burL, shpL])) (.inl rfl) rfl (by simp [ints]) ?_
      simp [ints]
      refine pop_spec (rSupply_spec S hl hf hs) rfl false (.inl (by simp [Sup.cells, brlL, burL, shpL])) (.inl rfl) rfl (by simp) ?_
      rw [h1]
      simp
      refine pop_spec known_spec rfl false (.inl (by simp)) (.inl rfl) rfl (by simp) ?_
      simp
      refine answers_of rfl ?_; simp
    | true =>
      have hS := supB_ok h1
      have hrb := rBest_spec S hS
      have hbl := tried_bound hS (manyOf S S.ships.length 0)
      rw [tried_best hS] at hbl
      simp only [bestRes, h1, if_true] at hbest
      simp
      refine pop_spec (rMany_spec S hS) rfl false (.inl (by simp [Sup.cells, brlL, burL, shpL])) (.inl rfl) rfl (by simp) ?_
      generalize manyTo S S.ships.length = M
      generalize bestP S = st at *
      obtain ⟨p, n⟩ := st
      simp only at *
      by_cases g2 : M ≤ 200
      case neg =>
        simp [g2, show 200 < M from by omega]
        refine pop_spec known_spec rfl false (.inl (by simp)) (.inl rfl) rfl (by simp) ?_
        simp
        refine answers_of rfl ?_; simp
      simp [g2, show ¬ 200 < M from by omega]
      by_cases hn : n < 0
      · rw [if_pos hn] at hbest
        rw [if_pos hn, show decide (0 ≤ n) = false from by simp; omega] at hrb
        refine pop_spec hbest rfl false (.inl (by simp [Sup.cells, brlL, burL, shpL])) (.inl rfl) rfl (by simp [ints]) ?_
        simp [ints]
        refine pop_spec (rSupply_spec S hl hf hs) rfl false (.inl (by simp [Sup.cells, brlL, burL, shpL])) (.inl rfl) rfl (by simp) ?_
        rw [h1]
        simp
        refine pop_spec hrb rfl false (.inl (by simp [Sup.cells, brlL, burL, shpL])) (.inl rfl) rfl (by simp [ints]) ?_
        simp [ints]
        refine pop_spec known_spec rfl false (.inl (by simp)) (.inl rfl) rfl (by simp) ?_
        simp
        refine answers_of rfl ?_; simp
      · rw [if_neg hn] at hbest
        rw [if_neg hn, show decide (0 ≤ n) = true from by simp; omega] at hrb
        refine pop_spec hbest rfl false (.inl (by simp [Sup.cells, brlL, burL, shpL])) (.inl rfl) rfl (by simp [ints]) ?_
        simp [ints]
        refine pop_spec (rSupply_spec S hl hf hs) rfl false (.inl (by simp [Sup.cells, brlL, burL, shpL])) (.inl rfl) rfl (by simp) ?_
        rw [h1]
        simp
        refine pop_spec hrb rfl false (.inl (by simp [Sup.cells, brlL, burL, shpL])) (.inl rfl) rfl (by simp [ints]) ?_
        simp [ints]
        refine pop_spec (Same_spec p p (by omega) (by omega)) rfl false (.inl (by simp [ints])) (.inl rfl) rfl (by simp) ?_
        simp
        refine pop_spec known_spec rfl false (.inl (by simp)) (.inl rfl) rfl (by simp) ?_
        simp
        refine answers_of rfl ?_; simp
end Go.Qg

namespace Go.Proofs.Ythfdpekgbdjniaa.lawCacheBest
open Go.Qg Go.ChangeAt Go.RowKit
set_option maxRecDepth 100000
theorem spec (args : List PV) (hl : Try.f5.params.toList.length = args.length) (h : ∀ (j : Nat) t p, Try.f5.params.toList[j]? = some t → args[j]? = some p → ArgP Try.prog 6 t p) : Qg.Spec Try.prog 5 args (.v (.bool true)) := by
  rw [Try.params5] at hl h
  match args, hl with
  | [a0], _ =>
    obtain ⟨S, rfl, hfit⟩ := a_supply (h 0 _ a0 rfl rfl)
    exact CacheBest_spec S hfit.l hfit.f hfit.s
theorem lifted (os : Os) (started : os.Started) (H : Type) (enc : TypeId × Value → H) :
    ReturnsInHanded {} Try.checked os 5 .any (Rows.cacheBestSpec.pre6 enc Try.prog Try.f5 Rows.cacheBestRow.domain false) (Rows.cacheBestSpec.post enc Try.prog Try.f5 false true false false) := by
  refine law_lifted (C := Try.checked) 6 (tb := 4) ownKnob_ started (by kernel_rfl) Try.func5
    (ChangeSpec.witness6 (enc := enc) (C := Try.checked) false ⟨#[], #[.agg #[.slice none 0 0, .slice none 0 0, .slice none 0 0, .int .i64 0]], []⟩ 8 (by kernel_rfl) (by kernel_rfl) (by kernel_rfl) (by kernel_rfl)) laidOut_ rfl (by kernel_rfl) (by kernel_rfl) Try.underlying4 ?_ spec
  intro ds hds
  match ds, hds with
  | [_], _ => exact ⟨rfl, rfl, rfl⟩
theorem CacheBest_holds : Rows.CacheBestSaid :=
  OpenClaim.holds_of_wide 5 Try.f5 rfl rfl rfl rfl rfl rfl rfl ⟨rfl, rfl, rfl, rfl, rfl⟩ rfl rfl rfl rfl rfl (by kernel_rfl) Try.func5 (by kernel_rfl)
    (of_decide_eq_true (by kernel_rfl)) (by unfold Func.isWrapper; first | (rw [if_pos (by decide +kernel)]; kernel_rfl) | (rw [if_neg (by decide +kernel)]; exact ⟨rfl, rfl⟩))
    (fun os started H enc _ => lifted os started H enc)
end Go.Proofs.Ythfdpekgbdjniaa.lawCacheBest
