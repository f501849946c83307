/-
  CacheKeeps: for every cache, day and two amounts the law returns true, and leaves its arguments as they were.
  No condition.
-/
import Derived.Test.YthfdpekgbdjniaaZ7
set_option linter.all false

namespace Go.Qg
open Go.Proofs
set_option maxRecDepth 100000
set_option linter.unusedSimpArgs false
set_option maxHeartbeats 4000000
attribute [local irreducible] pwp pops pdraw pop popCall pdCall thenP blockP scopeP pspec Spec answers ppost CallW
theorem rin_spec (n lo hi : Int) : Spec Try.prog 58 [.v (.int .i64 n), .v (.int .i64 lo), .v (.int .i64 hi)] (.v (.bool (inB n lo hi))) := by
  refine spec_of mixed Try.func58 (by decide) rfl Try.results58 Try.ntmps58 (by decide) 0 (by simp) ?_
  by_cases h1 : lo ≤ n
  · by_cases h2 : n ≤ hi <;> (simp [h1, h2]; refine answers_of rfl ?_; simp [inB, h1, h2])
  · simp [h1]; refine answers_of rfl ?_; simp [inB, h1]
theorem rspan_spec (s : Spn) (m : Int) : Spec Try.prog 66 [.agg s.cells, .v (.int .i64 m)] (.v (.bool (spanB s 0 m))) := by
  refine spec_of mixed Try.func66 (by decide) rfl Try.results66 Try.ntmps66 (by decide) 0 (by simp) ?_
  simp [Spn.cells]
  by_cases h1 : 0 ≤ s.low
  · by_cases h2 : s.low ≤ s.high
    · by_cases h3 : s.high ≤ m <;> (simp [h1, h2, h3]; refine answers_of rfl ?_; simp [spanB, h1, h2, h3])
    · simp [h1, h2, Int.not_le.1 h2]
      refine answers_of rfl ?_; simp [spanB, h1, h2]
  · simp [h1, Int.not_le.1 h1]; refine answers_of rfl ?_; simp [spanB, h1]
theorem rDay_spec (n : Int) : Spec Try.prog 15 [.v (.int .i64 n)] (.v (.bool (inB n 0 400))) := by
  refine spec_of mixed Try.func15 (by decide) rfl Try.results15 Try.ntmps15 (by decide) 0 (by simp) ?_
  simp
  refine pop_spec (rin_spec n 0 400) rfl false (.inl (by simp)) (.inl rfl) rfl (by simp) ?_
  simp
  refine answers_of rfl ?_; simp
end Go.Qg

namespace Go.Qg
open Go.Proofs
set_option maxRecDepth 100000
set_option linter.unusedSimpArgs false
set_option maxHeartbeats 4000000
attribute [local irreducible] pwp pops pdraw pop popCall pdCall thenP blockP scopeP pspec Spec answers ppost CallW
theorem rCache_spec (l : List Brl) (hl : l.length ≤ 9223372036854775807) : Spec Try.prog 14 [.agg [brlL l]] (.v (.bool (storedB l))) := by
  refine spec_of mixed Try.func14 (by decide) rfl Try.results14 Try.ntmps14 (by decide) 0 (by simp) ?_
  simp [brlL]
  refine pwp_loop (fun k : Nat => [(3, .v (.int .i64 k))]) (fun k => k ≤ l.length ∧ ∀ j, j < k → brlB (brlAt l j) = true) (fun k => l.length - k) 0 ⟨Nat.zero_le _, fun j hj => by omega⟩ (by simp; rfl) (by simp) ?_
  intro k ⟨hk, hp⟩
  by_cases hkl : k < l.length
  · have wk := i64_wrap (show -9223372036854775808 ≤ (k : Int) + 1 ∧ _ from by omega)
    have bad : brlB (brlAt l k) = false → storedB l = false := fun hb => by simp only [storedB, Bool.and_eq_false_iff]; exact .inr (allN_false hkl hb)
    simp [hkl, Brl.cells]
    refine pop_spec (rin_spec (brlAt l k).kilos 1 1000) rfl false (.inl (by simp)) (.inl rfl) rfl (by simp) ?_
    cases h1 : inB (brlAt l k).kilos 1 1000 with
    | false => simp; refine answers_of rfl ?_; simp [bad (by simp [brlB, h1])]
    | true =>
      simp [hkl, Brl.cells]
      refine pop_spec (rDay_spec (brlAt l k).til) rfl false (.inl (by simp)) (.inl rfl) rfl (by simp) ?_
      cases h2 : inB (brlAt l k).til 0 400 with
      | false => simp; refine answers_of rfl ?_; simp [bad (by simp [brlB, h2])]
      | true =>
        simp
        refine again_of (k + 1) ⟨by omega, fun j hj => ?_⟩ (by omega) ?_
        · rcases Nat.lt_succ_iff_lt_or_eq.1 hj with hj | rfl
          · exact hp j hj
          · simp [brlB, h1, h2]
        · simp [wk]
  · obtain rfl : k = l.length := by omega
    have h5 : (allN l.length fun k => brlB (brlAt l k)) = true := allN_spec.2 fun j hj => hp j (by omega)
    by_cases h : l.length ≤ 30
    · simp [show (l.length : Int) ≤ 30 from by omega]
      refine answers_of rfl ?_; simp [storedB, h, h5]
    · simp [show ¬ (l.length : Int) ≤ 30 from by omega]
      refine answers_of rfl ?_; simp [storedB, h]
def hasTo (l : List Brl) (day : Int) : Nat → Int
  | 0 => 0
  | k + 1 => if day ≤ (brlAt l k).til then hasTo l day k + (brlAt l k).kilos else hasTo l day k
theorem take_snocB {l : List Brl} {k : Nat} (h : k < l.length) : l.take (k + 1) = l.take k ++ [brlAt l k] := by rw [List.take_add_one]; simp [brlAt, h]
theorem hasTo_take (l : List Brl) (day : Int) : ∀ k, k ≤ l.length → hasTo l day k = hasL (l.take k) day
  | 0, _ => rfl
  | k + 1, hk => by
    rw [hasTo, hasTo_take l day k (by omega), take_snocB (show k < l.length by omega)]
    simp only [hasL, goodL, List.filter_append, sumK_append]
    by_cases h : day ≤ (brlAt l k).til
    · simp [h, sumK]
    · simp [h, sumK]
theorem hasTo_all (l : List Brl) (day : Int) : hasTo l day l.length = hasL l day := by rw [hasTo_take l day _ (Nat.le_refl _), List.take_length]
theorem hasTo_bound {l : List Brl} (h : KilOk l) (day : Int) : ∀ k, k ≤ l.length → -1000000 * (k : Int) ≤ hasTo l day k ∧ hasTo l day k ≤ 1000000 * (k : Int)
  | 0, _ => by simp [hasTo]
  | k + 1, hk => by
    have h1 := hasTo_bound h day k (by omega)
    have h2 := h.each _ (brlAt_mem (show k < l.length by omega))
    simp only [hasTo]; push_cast; split <;> omega
theorem rHas_spec (l : List Brl) (day : Int) (h : KilOk l) : Spec Try.prog 56 [.agg [brlL l], .v (.int .i64 day)] (.v (.int .i64 (hasL l day))) := by
  have hn := h.n
  refine spec_of mixed Try.func56 (by decide) rfl Try.results56 Try.ntmps56 (by decide) 0 (by simp) ?_
  simp [brlL]
  refine pwp_loop (fun k : Nat => [(5, .v (.int .i64 (hasTo l day k))), (6, .v (.int .i64 k))]) (fun k => k ≤ l.length) (fun k => l.length - k) 0 (Nat.zero_le _) (by simp; rfl) (by simp [hasTo]) ?_
  intro k hk
  by_cases hkl : k < l.length
  · have wk := i64_wrap (show -9223372036854775808 ≤ (k : Int) + 1 ∧ _ from by omega)
    have hb := hasTo_bound h day (k + 1) (by omega)
    have e1 : hasTo l day (k + 1) = if day ≤ (brlAt l k).til then hasTo l day k + (brlAt l k).kilos else hasTo l day k := rfl
    by_cases hd : day ≤ (brlAt l k).til
    · rw [if_pos hd] at e1
      rw [e1] at hb
      have w1 := i64_wrap (show -9223372036854775808 ≤ hasTo l day k + (brlAt l k).kilos ∧ _ from by omega)
      simp [hkl, Brl.cells, hd, w1]
      refine again_of (k + 1) (by omega) (by omega) ?_
      simp [wk, e1]
    · rw [if_neg hd] at e1
      simp [hkl, Brl.cells, hd]
      refine again_of (k + 1) (by omega) (by omega) ?_
      simp [wk, e1]
  · obtain rfl : k = l.length := by omega
    rw [hasTo_all]
    simp
    refine answers_of rfl ?_; simp
theorem rnext_spec (l : List Brl) (day : Int) (hl : l.length ≤ 1000000) : Spec Try.prog 94 [.agg [brlL l], .v (.int .i64 day)] (.v (.int .i64 (nextTo l day l.length))) := by
  refine spec_of mixed Try.func94 (by decide) rfl Try.results94 Try.ntmps94 (by decide) 0 (by simp) ?_
  simp [brlL]
  refine pwp_loop (fun k : Nat => [(5, .v (.int .i64 (nextTo l day k))), (6, .v (.int .i64 k))]) (fun k => k ≤ l.length) (fun k => l.length - k) 0 (Nat.zero_le _) (by simp; rfl) (by simp [nextTo]) ?_
  intro k hk
  by_cases hkl : k < l.length
  · have wk := i64_wrap (show -9223372036854775808 ≤ (k : Int) + 1 ∧ _ from by omega)
    have e1 : nextTo l day (k + 1) = if day ≤ (brlAt l k).til ∧ (nextTo l day k < 0 ∨ (brlAt l k).til < (brlAt l (nextTo l day k).toNat).til) then (k : Int) else nextTo l day k := rfl
    simp [hkl, Brl.cells]
    refine pwp_draw 19 (by decide) ?_
    by_cases hd : day ≤ (brlAt l k).til
    · rcases nextTo_spec l day k with ⟨h1, _⟩ | ⟨i, h1, h2, _⟩
      · rw [h1, if_pos ⟨hd, .inl (by omega)⟩] at e1
        simp [hd, h1]
        refine ⟨by decide, ?_⟩
        refine again_of (k + 1) (by omega) (by omega) ?_
        simp [wk, e1]
      · rw [h1] at e1
        by_cases hlt : (brlAt l k).til < (brlAt l i).til
        · rw [if_pos ⟨hd, .inr (by simpa using hlt)⟩] at e1
          simp [hd, h1, show ¬ (i : Int) < 0 from by omega, show i < l.length from by omega, Brl.cells, hlt]
          refine ⟨by decide, ?_⟩
          refine again_of (k + 1) (by omega) (by omega) ?_
          simp [wk, e1]
        · rw [if_neg (by rintro ⟨_, h | h⟩; · omega
                         · exact hlt (by simpa using h))] at e1
          simp [hd, h1, show ¬ (i : Int) < 0 from by omega, show i < l.length from by omega, Brl.cells, hlt]
          refine ⟨by decide, ?_⟩
          refine again_of (k + 1) (by omega) (by omega) ?_
          simp [wk, e1]
    · rw [if_neg fun h => hd h.1] at e1
      simp [hd]
      refine ⟨by decide, ?_⟩
      refine again_of (k + 1) (by omega) (by omega) ?_
      simp [wk, e1]
  · obtain rfl : k = l.length := by omega
    simp
    refine answers_of rfl ?_; simp
theorem sumK_split (l : List Brl) (day : Int) : sumK l - sumK (goodL l day) = sumK (l.filter fun b => !decide (day ≤ b.til)) := by
  induction l with
  | nil => rfl
  | cons b l ih =>
    simp only [goodL, List.filter_cons] at ih ⊢
    by_cases h : day ≤ b.til
    · simp only [h, decide_true, if_true, Bool.not_true, Bool.false_eq_true, if_false, sumK]; omega
    · simp only [h, decide_false, Bool.false_eq_true, if_false, Bool.not_false, if_true, sumK]; omega
theorem goodL_snoc {l : List Brl} {day : Int} {k : Nat} (h : k < l.length) : goodL (l.take (k + 1)) day = if day ≤ (brlAt l k).til then goodL (l.take k) day ++ [brlAt l k] else goodL (l.take k) day := by
  rw [take_snocB h]
  simp only [goodL, List.filter_append]
  by_cases hd : day ≤ (brlAt l k).til <;> simp [hd]
def lostTo (l : List Brl) (day : Int) : Nat → Int
  | 0 => 0
  | k + 1 => if day ≤ (brlAt l k).til then lostTo l day k else lostTo l day k + (brlAt l k).kilos
theorem lostTo_take (l : List Brl) (day : Int) : ∀ k, k ≤ l.length → lostTo l day k = sumK (l.take k) - sumK (goodL (l.take k) day)
  | 0, _ => rfl
  | k + 1, hk => by
    rw [lostTo, lostTo_take l day k (by omega), goodL_snoc (show k < l.length by omega), take_snocB (show k < l.length by omega), sumK_append]
    split
    · rw [sumK_append]; simp [sumK]; omega
    · simp [sumK]; omega
theorem lostTo_bound {l : List Brl} (h : KilOk l) (day : Int) : ∀ k, k ≤ l.length → -1000000 * (k : Int) ≤ lostTo l day k ∧ lostTo l day k ≤ 1000000 * (k : Int)
  | 0, _ => by simp [lostTo]
  | k + 1, hk => by
    have h1 := lostTo_bound h day k (by omega)
    have h2 := h.each _ (brlAt_mem (show k < l.length by omega))
    simp only [lostTo]; push_cast; split <;> omega
theorem rClear_spec (l : List Brl) (day : Int) (h : KilOk l) : Spec Try.prog 55 [.agg [brlL l], .v (.int .i64 day)] (.tup [.agg [brlL (goodL l day)], .v (.int .i64 (sumK l - sumK (goodL l day)))]) := by
  have hn := h.n
  refine spec_of mixed Try.func55 (by decide) rfl Try.results55 Try.ntmps55 (by decide) 0 (by simp) ?_
  simp [brlL]
  refine pwp_loop (fun k : Nat => [(6, .box true [.own 32 (goodL (l.take k) day).length 0 (goodL (l.take k) day).length false]), (7, .v (.int .i64 (lostTo l day k))), (8, .v (.int .i64 k)), (25, .undef), (31, .undef), (32, .rows none (goodL (l.take k) day).length 54 2 (rowsBr (goodL (l.take k) day)))]) (fun k => k ≤ l.length) (fun k => l.length - k) 0 (Nat.zero_le _) (by simp; rfl) (by simp [lostTo, goodL]) ?_
  intro k hk
  by_cases hkl : k < l.length
  · have wk := i64_wrap (show -9223372036854775808 ≤ (k : Int) + 1 ∧ _ from by omega)
    have hb := lostTo_bound h day (k + 1) (by omega)
    have hle : (goodL (l.take k) day).length ≤ k := Nat.le_trans (List.length_filter_le _ _) (by simp; omega)
    have e1 : lostTo l day (k + 1) = if day ≤ (brlAt l k).til then lostTo l day k else lostTo l day k + (brlAt l k).kilos := rfl
    have e2 := goodL_snoc (day := day) hkl
    by_cases hd : day ≤ (brlAt l k).til
    · rw [if_pos hd] at e1 e2
      simp [hkl, Brl.cells, hd]
      refine pwp_draw 11 (by decide) ?_
      simp [hkl, Brl.cells, rowsBr_snoc', show ((goodL (l.take k) day).length + 1) * 16 ≤ 140737488355328 from by omega, show (goodL (l.take k) day).length + 1 ≤ maxLen from by simp [maxLen]; omega]
      refine ⟨by decide, ?_⟩
      refine again_of (k + 1) (by omega) (by omega) ?_
      simp [wk, e1, e2]
    · rw [if_neg hd] at e1 e2
      rw [e1] at hb
      have w1 := i64_wrap (show -9223372036854775808 ≤ lostTo l day k + (brlAt l k).kilos ∧ _ from by omega)
      simp [hkl, Brl.cells, hd, w1]
      refine again_of (k + 1) (by omega) (by omega) ?_
      simp [wk, e1, e2]
  · obtain rfl : k = l.length := by omega
    rw [lostTo_take l day _ (Nat.le_refl _), List.take_length]
    simp
    refine answers_of (by simp; rfl) ?_
    simp
    intro j hj
    rw [rowsBr_get hj]
    simp [Brl.cells]
end Go.Qg

namespace Go.Qg
open Go.Proofs
set_option maxRecDepth 100000
set_option linter.unusedSimpArgs false
set_option maxHeartbeats 4000000
attribute [local irreducible] pwp pops pdraw pop popCall pdCall thenP blockP scopeP pspec Spec answers ppost CallW
def bmax (S : Sup) : Nat → Int
  | 0 => -1
  | k + 1 => max (bmax S k) (burAt S.burns k).day
def smax (S : Sup) : Nat → Int
  | 0 => bmax S S.burns.length
  | k + 1 => max (smax S k) (shpAt S.ships k).day
theorem bmax_eq {S : Sup} (hS : SupOk S) : ∀ k, k ≤ S.burns.length → bmax S k = if 0 < k then (burAt S.burns (k - 1)).day else -1
  | 0, _ => rfl
  | k + 1, hk => by
    have h1 := hS.burn k (by omega)
    rw [bmax, bmax_eq hS k (by omega), if_pos (Nat.succ_pos k), Nat.add_sub_cancel]
    split
    · have := hS.burn_le (show k - 1 ≤ k by omega) (by omega)
      omega
    · omega
theorem smax_eq {S : Sup} (hS : SupOk S) : ∀ k, k ≤ S.ships.length → smax S k = if 0 < k then max (bmax S S.burns.length) (shpAt S.ships (k - 1)).day else bmax S S.burns.length
  | 0, _ => rfl
  | k + 1, hk => by
    have h1 := hS.ship k (by omega)
    rw [smax, smax_eq hS k (by omega), if_pos (Nat.succ_pos k), Nat.add_sub_cancel]
    split
    · have := hS.ship_lt (show k - 1 < k by omega) (by omega)
      omega
    · rfl
theorem smax_last {S : Sup} (hS : SupOk S) : smax S S.ships.length = lastD S := by
  rw [smax_eq hS _ (Nat.le_refl _), bmax_eq hS _ (Nat.le_refl _)]; rfl
theorem max_ite (a b : Int) : (if a < b then b else a) = max a b := by split <;> omega
theorem min_ite (a b : Int) : (if b < a then b else a) = min a b := by split <;> omega
theorem rlast_spec (S : Sup) (hS : SupOk S) : Spec Try.prog 91 [.agg S.cells] (.v (.int .i64 (lastD S))) := by
  have hnf := hS.nf
  have hns := hS.ns
  refine spec_of mixed Try.func91 (by decide) rfl Try.results91 Try.ntmps91 (by decide) 0 (by simp) ?_
  simp [Sup.cells, brlL, burL, shpL]
  refine pwp_loop (fun k : Nat => [(3, .v (.int .i64 (bmax S k))), (4, .v (.int .i64 k))]) (fun k => k ≤ S.burns.length) (fun k => S.burns.length - k) 0 (Nat.zero_le _) (by simp; rfl) (by simp [bmax]) ?_
  intro k hk
  have wk := i64_wrap (show -9223372036854775808 ≤ (k : Int) + 1 ∧ _ from by omega)
  by_cases hkl : k < S.burns.length
  · have e1 : bmax S (k + 1) = max (bmax S k) (burAt S.burns k).day := rfl
    simp [hkl, Bur.cells]
    refine again_of (k + 1) (by omega) (by omega) ?_
    simp [wk, e1, max_ite]
  · obtain rfl : k = S.burns.length := by omega
    clear wk hk
    simp
    refine pwp_loop (fun k : Nat => [(3, .v (.int .i64 (smax S k))), (5, .v (.int .i64 k))]) (fun k => k ≤ S.ships.length) (fun k => S.ships.length - k) 0 (Nat.zero_le _) (by simp; rfl) (by simp [smax]) ?_
    intro k hk
    have wk := i64_wrap (show -9223372036854775808 ≤ (k : Int) + 1 ∧ _ from by omega)
    by_cases hkl : k < S.ships.length
    · have e1 : smax S (k + 1) = max (smax S k) (shpAt S.ships k).day := rfl
      simp [hkl, Shp.cells]
      refine again_of (k + 1) (by omega) (by omega) ?_
      simp [wk, e1, max_ite]
    · obtain rfl : k = S.ships.length := by omega
      rw [smax_last hS]
      simp
      refine answers_of rfl ?_; simp
theorem rep_snoc {α : Type} (n : Nat) (a : α) : List.replicate n a ++ [a] = List.replicate (n + 1) a := by rw [List.replicate_succ']
theorem brought_spec (S : Sup) (c : List Brl) (x : Shp) (many : Int) (hc : c.length ≤ 1000) (hm : 0 ≤ many ∧ many ≤ 1000) (h1 : 0 ≤ x.day ∧ x.day ≤ 400) (h2 : 0 ≤ x.good ∧ x.good ≤ 400) :
    Spec Try.prog 92 [.agg S.cells, .agg [brlL c], .agg x.cells, .v (.int .i64 many)] (.agg [brlL (c ++ List.replicate many.toNat ⟨S.kilos, min 400 (x.day + x.good)⟩)]) := by
  obtain ⟨m, rfl⟩ : ∃ m : Nat, many = (m : Int) := ⟨many.toNat, by omega⟩
  simp only [Int.toNat_natCast]
  obtain ⟨B, hB⟩ : ∃ B : Brl, B = ⟨S.kilos, min 400 (x.day + x.good)⟩ := ⟨_, rfl⟩
  rw [← hB]
  have w1 := i64_wrap (show -9223372036854775808 ≤ x.day + x.good ∧ _ from by omega)
  by_cases hne : c = []
  · subst hne
    refine spec_of mixed Try.func92 (by decide) rfl Try.results92 Try.ntmps92 (by decide) 0 (by simp) ?_
    simp [Sup.cells, brlL, burL, shpL, Shp.cells]
    refine pwp_loop (fun s : Nat × Nat => [(9, .box true [.own 13 s.2 0 s.1 false]), (10, .v (.int .i64 s.1)), (13, .rows none s.2 54 2 (rowsBr (List.replicate s.1 B))), (14, .undef), (21, .undef), (31, .undef), (32, .undef)]) (fun s => s.1 ≤ m) (fun s => m - s.1) (0, 0) (Nat.zero_le _) (by simp; rfl) (by simp) ?_
    rintro ⟨k, e⟩ hk
    simp only at hk ⊢
    by_cases hkm : k < m
    · have wk := i64_wrap (show -9223372036854775808 ≤ (k : Int) + 1 ∧ _ from by omega)
      have eB : B.cells = [.v (.int .i64 S.kilos), .v (.int .i64 (if x.day + x.good < 400 then x.day + x.good else 400))] := by rw [hB, Brl.cells, min_ite]
      simp [hkm, w1, show (k + 1) * 16 ≤ 140737488355328 from by omega, show k + 1 ≤ maxLen from by simp [maxLen]; omega]
      refine again_of (k + 1, e + 1) (by simp only; omega) (by simp only; omega) ?_
      have er : rowsBr (List.replicate k B) ++ [B.cells] = rowsBr (List.replicate (k + 1) B) := by rw [rowsBr_snoc, rep_snoc]
      rw [eB] at er
      simp [wk, er]
    · obtain rfl : k = m := by omega
      simp
      refine answers_of (by simp; rfl) ?_
      simp
      intro j hj
      rw [rowsBr_get (by simpa using hj)]
      simp [Brl.cells]
  · have h0 : 0 < c.length := by cases c with | nil => exact absurd rfl hne | cons => simp
    refine spec_of mixed Try.func92 (by decide) rfl Try.results92 Try.ntmps92 (by decide) 0 (by simp) ?_
    simp [Sup.cells, brlL, burL, shpL, Shp.cells, h0, rowsBr_range, show c.length * 16 ≤ 140737488355328 from by omega, show c.length ≤ maxLen from by simp [maxLen]; omega]
    refine pwp_loop (fun s : Nat × Nat => [(9, .box true [.own 13 s.2 0 (c.length + s.1) false]), (10, .v (.int .i64 s.1)), (13, .rows none s.2 54 2 (rowsBr (c ++ List.replicate s.1 B))), (14, .undef), (21, .undef), (31, .undef), (32, .undef)]) (fun s => s.1 ≤ m) (fun s => m - s.1) (0, 0) (Nat.zero_le _) (by simp; rfl) (by simp) ?_
    rintro ⟨k, e⟩ hk
    simp only at hk ⊢
    by_cases hkm : k < m
    · have wk := i64_wrap (show -9223372036854775808 ≤ (k : Int) + 1 ∧ _ from by omega)
      have eB : B.cells = [.v (.int .i64 S.kilos), .v (.int .i64 (if x.day + x.good < 400 then x.day + x.good else 400))] := by rw [hB, Brl.cells, min_ite]
      simp [hkm, w1, show (c.length + k + 1) * 16 ≤ 140737488355328 from by omega, show c.length + k + 1 ≤ maxLen from by simp [maxLen]; omega]
      refine again_of (k + 1, e + 1) (by simp only; omega) (by simp only; omega) ?_
      have er : rowsBr (c ++ List.replicate k B) ++ [B.cells] = rowsBr (c ++ List.replicate (k + 1) B) := by rw [rowsBr_snoc, List.append_assoc, rep_snoc]
      rw [eB] at er
      have hTk : List.take (c.length + k) (c ++ List.replicate k B) = c ++ List.replicate k B := List.take_of_length_le (by simp)
      simp [wk, er, Nat.add_assoc, hTk]
    · obtain rfl : k = m := by omega
      simp
      refine answers_of (by simp; rfl) ?_
      simp
      intro j hj
      rw [rowsBr_get (by simpa using hj)]
      simp [Brl.cells]
theorem lowsB_take {S : Sup} {k : Nat} (h : k < S.burns.length) : (lowsB S).take (k + 1) = (lowsB S).take k ++ [(burAt S.burns k).low] := by
  rw [List.take_add_one]; simp [lowsB, burAt, h]
theorem highsB_take {S : Sup} {k : Nat} (h : k < S.burns.length) : (highsB S).take (k + 1) = (highsB S).take k ++ [(burAt S.burns k).high] := by
  rw [List.take_add_one]; simp [highsB, burAt, h]
def hiTo (S : Sup) (k : Nat) : List Int := (highsB S).take k
def loTo (S : Sup) (k : Nat) : List Int := (lowsB S).take k
theorem hiTo_zero (S : Sup) : hiTo S 0 = [] := rfl
theorem loTo_zero (S : Sup) : loTo S 0 = [] := rfl
theorem hiTo_all (S : Sup) : hiTo S S.burns.length = highsB S := List.take_of_length_le (by rw [highsB_length]; omega)
theorem loTo_all (S : Sup) : loTo S S.burns.length = lowsB S := List.take_of_length_le (by rw [lowsB_length]; omega)
theorem hiTo_succ {S : Sup} {k : Nat} (h : k < S.burns.length) : hiTo S (k + 1) = hiTo S k ++ [(burAt S.burns k).high] := highsB_take h
theorem loTo_succ {S : Sup} {k : Nat} (h : k < S.burns.length) : loTo S (k + 1) = loTo S k ++ [(burAt S.burns k).low] := lowsB_take h
theorem hiTo_length (S : Sup) (k : Nat) : (hiTo S k).length ≤ k := by simp [hiTo]; omega
theorem loTo_length (S : Sup) (k : Nat) : (loTo S k).length ≤ k := by simp [loTo]; omega
theorem rEnds_spec (S : Sup) (hf : S.burns.length ≤ 1000000) (high : Bool) : Spec Try.prog 45 [.agg S.cells, .v (.bool high)] (ints (if high = true then highsB S else lowsB S)) := by
  refine spec_of mixed Try.func45 (by decide) rfl Try.results45 Try.ntmps45 (by decide) 0 (by simp) ?_
  simp [Sup.cells, brlL, burL, shpL]
  cases high with
  | true =>
    refine pwp_loop (fun k : Nat => [(5, .own 24 (hiTo S k).length 0 (hiTo S k).length false), (6, .v (.int .i64 k)), (23, .undef), (24, .rows none (hiTo S k).length 3 1 (rowsI (hiTo S k)))]) (fun k => k ≤ S.burns.length) (fun k => S.burns.length - k) 0 (Nat.zero_le _) (by simp; rfl) (by simp [hiTo_zero, loTo_zero]) ?_
    intro k hk
    by_cases hkl : k < S.burns.length
    · have wk := i64_wrap (show -9223372036854775808 ≤ (k : Int) + 1 ∧ _ from by omega)
      have hT := hiTo_succ hkl
      have hTl := hiTo_length S k
      generalize hiTo S k = T at hT hTl
      simp [hkl, Bur.cells, rowsI_snoc, show (T.length + 1) * 8 ≤ 140737488355328 from by omega, show T.length + 1 ≤ maxLen from by simp [maxLen]; omega]
      refine again_of (k + 1) (by omega) (by omega) ?_
      simp only [hT]
      simp [wk]
      intro y hy z hz
      rcases hy with ⟨a, _, rfl⟩ | rfl <;> (simp at hz; subst hz; rfl)
    · obtain rfl : k = S.burns.length := by omega
      rw [hiTo_all]
      simp
      refine answers_of rfl ?_
      simp [ints, highsB_length]
      intro j hj
      rw [rowsI_get (by rw [highsB_length]; exact hj)]
      simp
  | false =>
    refine pwp_loop (fun k : Nat => [(5, .own 34 (loTo S k).length 0 (loTo S k).length false), (6, .v (.int .i64 k)), (33, .undef), (34, .rows none (loTo S k).length 3 1 (rowsI (loTo S k)))]) (fun k => k ≤ S.burns.length) (fun k => S.burns.length - k) 0 (Nat.zero_le _) (by simp; rfl) (by simp [hiTo_zero, loTo_zero]) ?_
    intro k hk
    by_cases hkl : k < S.burns.length
    · have wk := i64_wrap (show -9223372036854775808 ≤ (k : Int) + 1 ∧ _ from by omega)
      have hT := loTo_succ hkl
      have hTl := loTo_length S k
      generalize loTo S k = T at hT hTl
      simp [hkl, Bur.cells, rowsI_snoc, show (T.length + 1) * 8 ≤ 140737488355328 from by omega, show T.length + 1 ≤ maxLen from by simp [maxLen]; omega]
      refine again_of (k + 1) (by omega) (by omega) ?_
      simp only [hT]
      simp [wk]
      intro y hy z hz
      rcases hy with ⟨a, _, rfl⟩ | rfl <;> (simp at hz; subst hz; rfl)
    · obtain rfl : k = S.burns.length := by omega
      rw [loTo_all]
      simp
      refine answers_of rfl ?_
      simp [ints, lowsB_length]
      intro j hj
      rw [rowsI_get (by rw [lowsB_length]; exact hj)]
      simp
end Go.Qg

namespace Go.Qg
open Go.Proofs
set_option maxRecDepth 100000
set_option linter.unusedSimpArgs false
set_option maxHeartbeats 4000000
attribute [local irreducible] pwp pops pdraw pop popCall pdCall thenP blockP scopeP pspec Spec answers ppost CallW
theorem rDraw_spec (l : List Brl) (day n : Int) (hk : KilOk l) (hp : PosS l) (ht : ∀ b ∈ l, b.til ≤ 400) (hn : 0 ≤ n ∧ n ≤ 1000000) :
    Spec Try.prog 57 [.agg [brlL l], .v (.int .i64 day), .v (.int .i64 n)] (.tup [.agg [brlL (if n ≤ hasL l day then drawL l day n else [])], .v (.bool (decide (n ≤ hasL l day)))]) := by
  have hlen := hk.n
  refine spec_of mixed Try.func57 (by decide) rfl Try.results57 Try.ntmps57 (by decide) 1 (by simp) ?_
  simp [brlL]
  refine pop_spec (rHas_spec l day hk) rfl false (.inl (by simp [brlL])) (.inl rfl) rfl (by simp) ?_
  by_cases h1 : hasL l day < n
  · simp [h1]
    refine answers_of (by simp; rfl) ?_; simp [show ¬ n ≤ hasL l day from by omega]
  · have h2 : n ≤ hasL l day := by omega
    rw [if_pos h2]
    obtain ⟨T, hT⟩ : ∃ T, T = drawL l day n := ⟨_, rfl⟩
    have st0 : Steps1 day T l n := ⟨hp, ht, hn.1, h2, hT.symm⟩
    rw [← hT]
    by_cases hne : l = []
    · subst hne
      have hn0 : n = 0 := by have : hasL [] day = 0 := rfl
                             omega
      subst hn0
      have hT0 := steps1_end st0
      rw [← hT0]
      simp [h1]
      refine pwp_loop (fun _ : Nat => [(2, .v (.int .i64 0)), (8, .box true [.own 19 0 0 0 false]), (19, .rows none 0 54 2 [])]) (fun _ => True) (fun _ => 0) 0 trivial (by simp; rfl) (by simp) ?_
      intro _ _
      simp
      refine answers_of (by simp; rfl) ?_
      simp [h2]
    · have h0 : 0 < l.length := by cases l with | nil => exact absurd rfl hne | cons => simp
      simp [h1, h0, rowsBr_range, show l.length * 16 ≤ 140737488355328 from by omega, show l.length ≤ maxLen from by simp [maxLen]; omega]
      refine pwp_loopM (fun st : List Brl × Int × Nat => [(2, .v (.int .i64 st.2.1)), (8, .box true [.own 70 st.2.2 0 st.1.length false]), (19, .undef), (20, .undef), (70, .rows none st.2.2 54 2 (rowsBr st.1))]) (fun st => Steps1 day T st.1 st.2.1 ∧ KilOk st.1 ∧ st.2.1 ≤ 1000000) (fun st => st.2.1.toNat) (l, n, 0) ⟨st0, hk, hn.2⟩ (by simp; rfl) ?_ ?_
      · refine weak_mv 19 70 (by simp [objAt]) (by simp [objAt]) (by simp) (by omega) ?_
        simp [mv, ren1, PV.bareOf, PV.ren, renL, renLL]
      · rintro ⟨out, r, e⟩ ⟨hS, hko, hr⟩
        simp only at hS hko hr
        have hon := hko.n
        by_cases hr0 : 0 < r
        · obtain ⟨i, e1, e2, e3, e4⟩ := steps1_step hS hr0
          have hnext := rnext_spec out day (by omega)
          rw [e1] at hnext
          have hki := hko.each _ (brlAt_mem e2)
          have wm := min_ite r (brlAt out i).kilos
          have w1 := i64_wrap (show -9223372036854775808 ≤ (brlAt out i).kilos - min r (brlAt out i).kilos ∧ _ from by omega)
          have w2 := i64_wrap (show -9223372036854775808 ≤ r - min r (brlAt out i).kilos ∧ _ from by omega)
          have w3 := i64_wrap (show -9223372036854775808 ≤ (i : Int) + 1 ∧ _ from by omega)
          have hrow := rowsBr_get e2
          have ei : ((i : Int)).toNat = i := by simp
          simp [hr0]
          refine pop_spec hnext rfl true (.inl ?_) (.inr rfl) rfl (by simp) ?_
          · simp [brlL]
            intro j hj
            rw [rowsBr_get hj]
            simp [Brl.cells]
          simp [e2, hrow, Brl.cells, wm]
          refine pwp_draw 14 (by decide) ?_
          simp [e2, hrow, Brl.cells, w1, setRange]
          refine ⟨by decide, ?_⟩
          simp [w2, e2, rowsBr_set']
          have hnew : ∀ b ∈ step1 out i r, b ∈ out ∨ b = ⟨(brlAt out i).kilos - min r (brlAt out i).kilos, (brlAt out i).til⟩ := fun b hb => by
            have hsub : b ∈ out.set i ⟨(brlAt out i).kilos - min r (brlAt out i).kilos, (brlAt out i).til⟩ := by
              unfold step1 at hb
              split at hb
              · rcases List.mem_append.1 hb with hb | hb
                · exact List.mem_of_mem_take hb
                · exact List.mem_of_mem_drop hb
              · exact hb
            exact List.mem_or_eq_of_mem_set hsub
          have hlen1 : (step1 out i r).length ≤ out.length := by
            unfold step1 drop1
            split
            · simp; omega
            · simp
          have hko' : KilOk (step1 out i r) := ⟨by omega, fun b hb => by
            rcases hnew b hb with hb | rfl
            · exact hko.each b hb
            · simp only; have := hS.pos _ (brlAt_mem e2); omega⟩
          by_cases hz : (brlAt out i).kilos - min r (brlAt out i).kilos = 0
          · have hd : step1 out i r = drop1 (out.set i ⟨(brlAt out i).kilos - min r (brlAt out i).kilos, (brlAt out i).til⟩) i := if_pos hz
            rw [hd] at e4 hko'
            have hOl : (out.set i ⟨(brlAt out i).kilos - min r (brlAt out i).kilos, (brlAt out i).til⟩).length = out.length := by simp
            generalize out.set i ⟨(brlAt out i).kilos - min r (brlAt out i).kilos, (brlAt out i).til⟩ = O at hOl e4 hko'
            simp [hz]
            refine pwp_draw 13 (by decide) ?_
            by_cases hi0 : i = 0
            · subst hi0
              by_cases hl1 : out.length = 1
              · simp [hl1, w3]
                refine ⟨by decide, ?_⟩
                have ed : drop1 O 0 = [] := by
                  have : O.length = 1 := by omega
                  match O, this with
                  | [_], _ => rfl
                refine againW_weak (drop1 O 0, r - min r (brlAt out 0).kilos, 1) ⟨e4, hko', by simp only; omega⟩ (by simp only; omega) (weak_dmv 61 70 ?_ ?_ ?_ ?_ (by omega) ?_)
                all_goals simp [dropO, PV.names, namesL, objAt, mv, ren1, PV.bareOf, PV.ren, renL, renLL, ed]
              · simp [hOl, hl1, w3, show 1 < out.length from by omega, show (1 : Int) < out.length from by omega, show (1 : Int) ≤ out.length from by omega, show (out.length - 1) * 16 ≤ 140737488355328 from by omega, show out.length - 1 ≤ maxLen from by simp [maxLen]; omega, show 0 < out.length - 1 from by omega, show ¬ out.length - 1 = 0 from by omega, show 1 + (out.length - 1) ≤ out.length from by omega]
                refine ⟨by decide, ?_⟩
                have er : List.take (out.length - 1) (rowsBr O).tail = rowsBr (drop1 O 0) := by
                  rw [List.take_of_length_le (by simp [rowsBr]; omega)]
                  simp [rowsBr, drop1, List.map_tail]
                have el : (drop1 O 0).length = out.length - 1 := by simp [drop1]; omega
                refine againW_weak (drop1 O 0, r - min r (brlAt out 0).kilos, 1) ⟨e4, hko', by simp only; omega⟩ (by simp only; omega) (weak_dmv 61 70 ?_ ?_ ?_ ?_ (by omega) ?_)
                all_goals simp [dropO, PV.names, namesL, objAt, mv, ren1, PV.bareOf, PV.ren, renL, renLL, er, el]
            · by_cases hl1 : i + 1 = out.length
              · simp [hOl, w3, show 0 < i from by omega, hi0, show i ≤ out.length from by omega, show (i : Int) + 1 ≤ out.length from by omega, show ¬ (i : Int) + 1 < out.length from by omega, show ¬ (i : Int) + 1 = 0 from by omega, show ((i : Int) + 1).toNat = i + 1 from by omega, show 0 ≤ (i : Int) + 1 from by omega, show i * 16 ≤ 140737488355328 from by omega, show i ≤ maxLen from by simp [maxLen]; omega]
                refine ⟨by decide, ?_⟩
                have er : drop1 O i = O.take i := by rw [drop1, List.drop_of_length_le (by omega), List.append_nil]
                have el : (drop1 O i).length = i := by rw [er]; simp; omega
                refine againW_weak (drop1 O i, r - min r (brlAt out i).kilos, 1) ⟨e4, hko', by simp only; omega⟩ (by simp only; omega) (weak_dmv 61 70 ?_ ?_ ?_ ?_ (by omega) ?_)
                all_goals simp [dropO, PV.names, namesL, objAt, mv, ren1, PV.bareOf, PV.ren, renL, renLL, er, el, hOl, List.take_take, show min i out.length = i from by omega]
              · simp [hOl, w3, show 0 < i from by omega, hi0, show i ≤ out.length from by omega, show (i : Int) + 1 ≤ out.length from by omega, show (i : Int) + 1 < out.length from by omega, show ¬ (i : Int) + 1 = 0 from by omega, show ((i : Int) + 1).toNat = i + 1 from by omega, show 0 ≤ (i : Int) + 1 from by omega, show i * 16 ≤ 140737488355328 from by omega, show i ≤ maxLen from by simp [maxLen]; omega, show (i + (out.length - (i + 1))) * 16 ≤ 140737488355328 from by omega, show i + (out.length - (i + 1)) ≤ maxLen from by simp [maxLen]; omega, show i + 1 + (out.length - (i + 1)) ≤ out.length from by omega, show ¬ out.length - (i + 1) = 0 from by omega, show 0 < out.length - (i + 1) from by omega]
                refine ⟨by decide, ?_⟩
                have er : rowsBr (List.take i O) ++ List.take (out.length - (i + 1)) (List.drop (i + 1) (rowsBr O)) = rowsBr (drop1 O i) := by
                  rw [List.take_of_length_le (l := List.drop (i + 1) (rowsBr O)) (by simp [rowsBr]; omega)]
                  simp [rowsBr, drop1, List.map_drop]
                have el : (drop1 O i).length = i + (out.length - (i + 1)) := by simp [drop1]; omega
                refine againW_weak (drop1 O i, r - min r (brlAt out i).kilos, 1) ⟨e4, hko', by simp only; omega⟩ (by simp only; omega) (weak_dmv 61 70 ?_ ?_ ?_ ?_ (by omega) ?_)
                all_goals simp [dropO, PV.names, namesL, objAt, mv, ren1, PV.bareOf, PV.ren, renL, renLL, er, el, List.take_take]
          · have hd : step1 out i r = out.set i ⟨(brlAt out i).kilos - min r (brlAt out i).kilos, (brlAt out i).til⟩ := if_neg hz
            simp [hz]
            refine againW_weak (step1 out i r, r - min r (brlAt out i).kilos, e) ⟨e4, hko', by simp only; omega⟩ (by simp only; omega) (weak_of_less ?_)
            simp [hd, e2]
        · obtain rfl : r = 0 := by have := hS.n0; omega
          obtain rfl := steps1_end hS
          simp
          refine answers_of (by simp; rfl) ?_
          simp [h2]
          intro j hj
          rw [rowsBr_get hj]
          simp [Brl.cells]
end Go.Qg

namespace Go.Qg
structure Bok (l : List Brl) (m : Nat) : Prop where
  n : l.length ≤ m
  each : ∀ b ∈ l, (0 < b.kilos ∧ b.kilos ≤ 1000) ∧ 0 ≤ b.til ∧ b.til ≤ 400
theorem Bok.kil {l : List Brl} {m : Nat} (h : Bok l m) (hm : m ≤ 1000) : KilOk l := ⟨by have := h.n; omega, fun b hb => by have := h.each b hb; omega⟩
theorem Bok.posS {l : List Brl} {m : Nat} (h : Bok l m) : PosS l := fun b hb => (h.each b hb).1.1
theorem Bok.til {l : List Brl} {m : Nat} (h : Bok l m) : ∀ b ∈ l, b.til ≤ 400 := fun b hb => (h.each b hb).2.2
theorem Bok.good {l : List Brl} {m : Nat} (h : Bok l m) (t : Int) : Bok (goodL l t) m := ⟨Nat.le_trans (List.length_filter_le _ _) h.n, fun b hb => h.each b (List.mem_filter.1 hb).1⟩
theorem Bok.mono {l : List Brl} {m m' : Nat} (h : Bok l m) (hm : m ≤ m') : Bok l m' := ⟨Nat.le_trans h.n hm, h.each⟩
theorem Bok.first {S : Sup} (hS : SupOk S) : Bok S.barrels 30 := ⟨hS.nb, fun b hb => by have := hS.pos b hb; omega⟩
theorem Bok.comes {S : Sup} (hS : SupOk S) {plan : List Int} (hpl : PlanOk S plan) {l : List Brl} {m i : Nat} (h : Bok l m) (hi : i < S.ships.length) : Bok (l ++ comes S plan i) (m + 9) := by
  have h1 := hpl.each i hi
  have h2 := hS.ship i hi
  have h3 := hS.k
  refine ⟨?_, fun b hb => ?_⟩
  · have := h.n
    simp only [Qg.comes, List.length_append, List.length_replicate]; omega
  · rcases List.mem_append.1 hb with hb | hb
    · exact h.each b hb
    · obtain rfl := List.eq_of_mem_replicate hb
      simp only; omega
theorem pass_le (u : Int) : ∀ {l : List Brl} {n c : Int}, Pos l → 0 ≤ n → (∀ b ∈ l, b.kilos ≤ c) → ∀ b ∈ (pass u l n).1, b.kilos ≤ c
  | [], _, _, _, _, _, b, hb => by cases hb
  | x :: l, n, c, hp, hn, h, b, hb => by
    have hx := hp.head
    have hc := h x List.mem_cons_self
    simp only [pass] at hb
    split at hb
    · rcases List.mem_cons.1 hb with rfl | hb
      · simp only; omega
      · exact pass_le u hp.tail (by omega) (fun b hb => h b (List.mem_cons_of_mem _ hb)) b hb
    · rcases List.mem_cons.1 hb with rfl | hb
      · exact hc
      · exact pass_le u hp.tail hn (fun b hb => h b (List.mem_cons_of_mem _ hb)) b hb
theorem sweep_le : ∀ (k : Nat) (u : Int) {l : List Brl} {n c : Int}, Pos l → 0 ≤ n → (∀ b ∈ l, b.kilos ≤ c) → ∀ b ∈ (sweep k u l n).1, b.kilos ≤ c
  | 0, _, _, _, _, _, _, h, b, hb => h b hb
  | k + 1, u, l, n, c, hp, hn, h, b, hb => by
    have h1 := pass_ok u hp hn
    exact sweep_le k (u + 1) h1.1 (by rw [h1.2]; omega) (pass_le u hp hn h) b hb
theorem Bok.draw {l : List Brl} {m : Nat} (h : Bok l m) {t n : Int} (hn : 0 ≤ n) : Bok (drawL l t n) m := by
  refine ⟨Nat.le_trans (drawL_length _ _ _) h.n, fun b hb => ?_⟩
  have hf := full_posS _ b hb
  have hb' := (List.mem_filter.1 hb).1
  have h1 := sweep_le (days400 t) t h.posS.pos hn (fun b hb => (h.each b hb).1.2) b hb'
  have : b.til ∈ l.map (·.til) := by rw [← sweep_til (days400 t) t l n]; exact List.mem_map_of_mem hb'
  obtain ⟨x, hx, he⟩ := List.mem_map.1 this
  have h2 := h.each x hx
  have he : x.til = b.til := he
  omega
theorem hasL_all {l : List Brl} (h : ∀ b ∈ l, 0 ≤ b.til) : hasL l 0 = sumK l := by
  have : goodL l 0 = l := List.filter_eq_self.2 fun b hb => by simpa using h b hb
  rw [hasL, this]
theorem rload_bok {S : Sup} (hS : SupOk S) {plan : List Int} (hpl : PlanOk S plan) {t : Int} {q : Rp} {m : Nat} (h : Bok q.barrels m) : ∀ k, k ≤ S.ships.length → (Bok (rload S plan t k q).barrels (m + 9)) ∧ ((∀ i, i < k → (shpAt S.ships i).day ≠ t) → rload S plan t k q = q)
  | 0, _ => ⟨h.mono (by omega), fun _ => rfl⟩
  | k + 1, hk => by
    obtain ⟨h1, h2⟩ := rload_bok hS hpl (t := t) h k (by omega)
    refine ⟨?_, fun hno => rload_skip S plan t q (k + 1) hno⟩
    simp only [rload]
    split
    · rename_i hd
      have e : rload S plan t k q = q := h2 fun i hi he => by
        have := hS.ship_lt hi (by omega)
        omega
      rw [e]
      exact h.comes hS hpl (by omega)
    · exact h1
theorem rload_num {S : Sup} (hS : SupOk S) {plan : List Int} (hpl : PlanOk S plan) {t : Int} {q : Rp} : ∀ k, k ≤ S.ships.length → (q.came ≤ (rload S plan t k q).came ∧ (rload S plan t k q).came ≤ q.came + 9000 * k) ∧ (rload S plan t k q).counts.length ≤ q.counts.length + k ∧ (rload S plan t k q).drawn = q.drawn ∧ (rload S plan t k q).waste = q.waste ∧ (rload S plan t k q).lacks = q.lacks
  | 0, _ => by simp [rload]
  | k + 1, hk => by
    obtain ⟨h1, h2, h3, h4, h5⟩ := rload_num hS hpl (t := t) (q := q) k (by omega)
    have g1 := hpl.each k (by omega)
    have g2 := hS.ship k (by omega)
    have g3 := hS.k
    have g4 : 0 ≤ gi plan k * S.kilos ∧ gi plan k * S.kilos ≤ 9 * 1000 := ⟨Int.mul_nonneg g1.1 (by omega), Int.mul_le_mul (by omega) (by omega) (by omega) (by omega)⟩
    simp only [rload]
    split
    · refine ⟨?_, ?_, h3, h4, h5⟩
      · simp only; omega
      · simp only [List.length_append, List.length_singleton]; omega
    · exact ⟨by omega, by omega, h3, h4, h5⟩
theorem rfly_bok {S : Sup} {b : List Int} (hb : BurnsOk S b) {t : Int} {q : Rp} {m : Nat} (h : Bok q.barrels m) : ∀ k, k ≤ S.burns.length → Bok (rfly S b t k q).barrels m
  | 0, _ => h
  | k + 1, hk => by
    have h1 := rfly_bok hb (t := t) h k (by omega)
    simp only [rfly]
    split
    · exact h1
    · split
      · exact h1
      · split
        · exact h1
        · exact h1.draw (hb.each k (by omega)).1
theorem rfly_num {S : Sup} {b : List Int} (hb : BurnsOk S b) {t : Int} {q : Rp} : ∀ k, k ≤ S.burns.length → (q.drawn ≤ (rfly S b t k q).drawn ∧ (rfly S b t k q).drawn ≤ q.drawn + 30000 * k) ∧ (rfly S b t k q).came = q.came ∧ (rfly S b t k q).waste = q.waste ∧ (rfly S b t k q).counts = q.counts
  | 0, _ => by simp [rfly]
  | k + 1, hk => by
    obtain ⟨h1, h2, h3, h4⟩ := rfly_num hb (t := t) (q := q) k (by omega)
    have g1 := hb.each k (by omega)
    simp only [rfly]
    split
    · exact ⟨by omega, h2, h3, h4⟩
    · split
      · exact ⟨by omega, h2, h3, h4⟩
      · split
        · exact ⟨by simp only; omega, h2, h3, h4⟩
        · exact ⟨by simp only; omega, h2, h3, h4⟩
theorem rrun_each {S : Sup} (hS : SupOk S) {plan b : List Int} (hpl : PlanOk S plan) (hb : BurnsOk S b) : ∀ n, ∃ m, Bok (rrun S plan b n).barrels m
  | 0 => ⟨30, Bok.first hS⟩
  | n + 1 => by
    obtain ⟨m, h⟩ := rrun_each hS hpl hb n
    simp only [rrun]
    split
    · exact ⟨m, h⟩
    · exact ⟨m + 9, rfly_bok hb ((rload_bok hS hpl (q := rclear n (rrun S plan b n)) (h.good n) _ (Nat.le_refl _)).1) _ (Nat.le_refl _)⟩
theorem rrun_bok {S : Sup} (hS : SupOk S) {plan b : List Int} (hpl : PlanOk S plan) (hb : BurnsOk S b) (n : Nat) : Bok (rrun S plan b n).barrels 84 := by
  obtain ⟨m, h⟩ := rrun_each hS hpl hb n
  refine ⟨?_, h.each⟩
  rw [(run_alike hS plan b n).1.b]
  exact ((playOk_run hS hpl hb n).num hS hpl hb).n
theorem rrun_num {S : Sup} (hS : SupOk S) {plan b : List Int} (hpl : PlanOk S plan) (hb : BurnsOk S b) (n : Nat) : (0 ≤ (rrun S plan b n).came ∧ (rrun S plan b n).came ≤ 1000000) ∧ (0 ≤ (rrun S plan b n).drawn ∧ (rrun S plan b n).drawn ≤ 2000000) ∧ 0 ≤ (rrun S plan b n).waste ∧ (rrun S plan b n).waste ≤ 1000000 := by
  have h1 := (playOk_run hS hpl hb n).num hS hpl hb
  have h2 := (run_alike hS plan b n).1
  rw [h2.c, h2.d, h2.w]
  exact ⟨h1.came, h1.drawn, h1.waste⟩
theorem rclear_num {S : Sup} (hS : SupOk S) {plan b : List Int} (hpl : PlanOk S plan) (hb : BurnsOk S b) (n : Nat) : 0 ≤ (rclear n (rrun S plan b n)).waste ∧ (rclear n (rrun S plan b n)).waste ≤ 1000000 := by
  have h1 := (playOk_clear (playOk_run hS hpl hb n) n).num hS hpl hb
  have h2 := clear_alike (t := n) (run_alike hS plan b n).1
  rw [h2.w]
  exact h1.waste
theorem rrun_counts {S : Sup} (hS : SupOk S) {plan b : List Int} (hpl : PlanOk S plan) (hb : BurnsOk S b) : ∀ n, (rrun S plan b n).counts.length ≤ 6 * n
  | 0 => Nat.le_refl _
  | n + 1 => by
    have h := rrun_counts hS hpl hb n
    have hns := hS.ns
    simp only [rrun]
    split
    · omega
    · have h1 := (rload_num hS hpl (t := n) (q := rclear n (rrun S plan b n)) _ (Nat.le_refl _)).2.1
      have h2 := (rfly_num hb (t := n) (q := rload S plan n S.ships.length (rclear n (rrun S plan b n))) _ (Nat.le_refl _)).2.2.2
      have h3 : (rclear n (rrun S plan b n)).counts = (rrun S plan b n).counts := rfl
      rw [h3] at h1
      simp only [rday]
      rw [h2]; omega
theorem rrun_stays (S : Sup) (plan b : List Int) {n : Nat} (h : 0 ≤ (rrun S plan b n).lacks) : ∀ m, n ≤ m → rrun S plan b m = rrun S plan b n
  | 0, hm => by obtain rfl : n = 0 := by omega
                rfl
  | m + 1, hm => by
    rcases Nat.lt_or_eq_of_le hm with h1 | rfl
    · have e := rrun_stays S plan b h m (by omega)
      rw [rrun, e, if_pos h]
    · rfl
end Go.Qg

namespace Go.Qg
open Go.Proofs
set_option maxRecDepth 100000
set_option linter.unusedSimpArgs false
set_option maxHeartbeats 8000000
attribute [local irreducible] pwp pops pdraw pop popCall pdCall thenP blockP scopeP pspec Spec answers ppost CallW
theorem lshort_spec (l : List Brl) : Spec Try.prog 51 [.agg [brlL l]] (.v (.bool (decide (l.length ≤ 40)))) := by
  refine spec_of mixed Try.func51 (by decide) rfl Try.results51 Try.ntmps51 (by decide) 0 (by simp) ?_
  simp [brlL]
  by_cases h : l.length ≤ 40
  · simp [show (l.length : Int) ≤ 40 from by omega]
    refine answers_of rfl ?_; simp [h]
  · simp [show ¬ (l.length : Int) ≤ 40 from by omega]
    refine answers_of rfl ?_; simp [h]
theorem bok_stored {l : List Brl} (h : storedB l = true) : Bok l 30 := by
  obtain ⟨h1, h2⟩ := stored_ok h
  exact ⟨h1, fun b hb => by have := h2 b hb; omega⟩
theorem CacheDraws_spec (l : List Brl) (day n : Int) (hl : l.length ≤ 9223372036854775807) : Spec Try.prog 13 [.agg [brlL l], .v (.int .i64 day), .v (.int .i64 n)] (.v (.bool true)) := by
  have hdraw := Draw_spec l day n hl
  have hhas := Has_spec l day hl
  have hclr := Clear_spec l day hl
  refine spec_of mixed Try.func13 (by decide) rfl Try.results13 Try.ntmps13 (by decide) 0 (by simp) ?_
  simp [brlL]
  refine pop_spec (lshort_spec l) rfl false (.inl (by simp [brlL])) (.inl rfl) rfl (by simp) ?_
  by_cases h40 : l.length ≤ 40
  case neg =>
    simp [h40]
    refine pop_spec known_spec rfl false (.inl (by simp)) (.inl rfl) rfl (by simp) ?_
    simp
    refine answers_of rfl ?_; simp
  simp [h40]
  refine pop_spec (rCache_spec l hl) rfl false (.inl (by simp [brlL])) (.inl rfl) rfl (by simp) ?_
  simp
  refine pop_spec (Check_spec l hl) rfl false (.inl (by simp [brlL])) (.inl rfl) rfl (by simp) ?_
  cases h1 : storedB l with
  | false =>
    rw [h1] at hdraw hhas hclr
    simp only [Bool.false_and, Bool.false_eq_true, if_false] at hdraw hhas hclr
    simp
    refine pop_spec hhas rfl false (.inl (by simp [brlL])) (.inl rfl) rfl (by simp) ?_
    simp
    refine pop_spec hdraw rfl false (.inl (by simp [brlL])) (.inl rfl) rfl (by simp) ?_
    simp [brlL]
    refine pop_spec hclr rfl false (.inl (by simp [brlL])) (.inl rfl) rfl (by simp) ?_
    simp [brlL]
    refine pop_spec known_spec rfl false (.inl (by simp)) (.inl rfl) rfl (by simp) ?_
    simp
    refine answers_of rfl ?_; simp
  | true =>
    have hB := bok_stored h1
    have hk := hB.kil (by omega)
    simp
    cases h2 : inB day 0 400 with
    | false =>
      rw [h1, h2] at hdraw hhas hclr
      simp only [Bool.true_and, Bool.false_and, Bool.false_eq_true, if_false] at hdraw hhas hclr
      refine pop_spec hhas rfl false (.inl (by simp [brlL])) (.inl rfl) rfl (by simp) ?_
      simp
      refine pop_spec hdraw rfl false (.inl (by simp [brlL])) (.inl rfl) rfl (by simp) ?_
      simp [brlL]
      refine pop_spec hclr rfl false (.inl (by simp [brlL])) (.inl rfl) rfl (by simp) ?_
      simp [brlL]
      refine pop_spec (rDay_spec day) rfl false (.inl (by simp)) (.inl rfl) rfl (by simp) ?_
      rw [h2]
      simp
      refine pop_spec known_spec rfl false (.inl (by simp)) (.inl rfl) rfl (by simp) ?_
      simp
      refine answers_of rfl ?_; simp
    | true =>
      rw [h1, h2] at hdraw hhas hclr
      simp only [Bool.true_and, if_true] at hdraw hhas hclr
      refine pop_spec hhas rfl false (.inl (by simp [brlL])) (.inl rfl) rfl (by simp) ?_
      simp
      cases h3 : inB n 0 30000 with
      | false =>
        rw [h3] at hdraw
        simp only [Bool.false_eq_true, if_false] at hdraw
        have h3' : n < 0 ∨ 30000 < n := by
          have := mt inB_spec.2 (by rw [h3]; simp : ¬ inB n 0 30000 = true)
          omega
        refine pop_spec hdraw rfl false (.inl (by simp [brlL])) (.inl rfl) rfl (by simp) ?_
        simp [brlL]
        refine pop_spec hclr rfl false (.inl (by simp [brlL])) (.inl rfl) rfl (by simp) ?_
        simp [brlL]
        refine pop_spec (rDay_spec day) rfl false (.inl (by simp)) (.inl rfl) rfl (by simp) ?_
        rw [h2]
        simp
        refine pop_spec (rClear_spec l day hk) rfl false (.inl (by simp [brlL])) (.inl rfl) rfl (by simp) ?_
        simp [brlL]
        refine pop_spec (rHas_spec l day hk) rfl false (.inl (by simp [brlL])) (.inl rfl) rfl (by simp) ?_
        simp
        refine pop_spec (SameCache_spec (goodL l day) (goodL l day) (by have := (hB.good day).n; omega) (by have := (hB.good day).n; omega)) rfl false (.inl (by simp [brlL])) (.inl rfl) rfl (by simp) ?_
        simp
        rcases h3' with h3' | h3'
        · simp [h3', show ¬ 0 ≤ n from by omega]
          refine pop_spec known_spec rfl false (.inl (by simp)) (.inl rfl) rfl (by simp) ?_
          simp
          refine answers_of rfl ?_; simp
        · simp [h3', show ¬ n < 0 from by omega, show 0 ≤ n from by omega]
          refine pop_spec known_spec rfl false (.inl (by simp)) (.inl rfl) rfl (by simp) ?_
          simp
          refine answers_of rfl ?_; simp
      | true =>
        rw [h3] at hdraw
        rw [inB_spec] at h3
        simp only [if_true] at hdraw
        have hrd := rDraw_spec l day n hk hB.posS hB.til ⟨h3.1, by omega⟩
        by_cases h4 : n ≤ hasL l day
        · rw [if_pos h4] at hdraw hrd
          refine pop_spec hdraw rfl false (.inl (by simp [brlL])) (.inl rfl) rfl (by simp) ?_
          simp [brlL]
          refine pop_spec hclr rfl false (.inl (by simp [brlL])) (.inl rfl) rfl (by simp) ?_
          simp [brlL]
          refine pop_spec (rDay_spec day) rfl false (.inl (by simp)) (.inl rfl) rfl (by simp) ?_
          rw [h2]
          simp
          refine pop_spec (rClear_spec l day hk) rfl false (.inl (by simp [brlL])) (.inl rfl) rfl (by simp) ?_
          simp [brlL]
          refine pop_spec (rHas_spec l day hk) rfl false (.inl (by simp [brlL])) (.inl rfl) rfl (by simp) ?_
          simp
          refine pop_spec (SameCache_spec (goodL l day) (goodL l day) (by have := (hB.good day).n; omega) (by have := (hB.good day).n; omega)) rfl false (.inl (by simp [brlL])) (.inl rfl) rfl (by simp) ?_
          simp [show ¬ n < 0 from by omega, show ¬ 30000 < n from by omega, show 0 ≤ n from by omega, show n ≤ 30000 from by omega]
          refine pop_spec hrd rfl false (.inl (by simp [brlL])) (.inl rfl) rfl (by simp) ?_
          simp [h4, brlL]
          refine pop_spec (SameCache_spec (drawL l day n) (drawL l day n) (by have := (hB.draw (t := day) h3.1).n; omega) (by have := (hB.draw (t := day) h3.1).n; omega)) rfl false (.inl (by simp [brlL])) (.inl rfl) rfl (by simp) ?_
          simp
          refine pop_spec known_spec rfl false (.inl (by simp)) (.inl rfl) rfl (by simp) ?_
          simp
          refine answers_of rfl ?_; simp
        · rw [if_neg h4] at hdraw hrd
          refine pop_spec hdraw rfl false (.inl (by simp [brlL])) (.inl rfl) rfl (by simp) ?_
          simp [brlL]
          refine pop_spec hclr rfl false (.inl (by simp [brlL])) (.inl rfl) rfl (by simp) ?_
          simp [brlL]
          refine pop_spec (rDay_spec day) rfl false (.inl (by simp)) (.inl rfl) rfl (by simp) ?_
          rw [h2]
          simp
          refine pop_spec (rClear_spec l day hk) rfl false (.inl (by simp [brlL])) (.inl rfl) rfl (by simp) ?_
          simp [brlL]
          refine pop_spec (rHas_spec l day hk) rfl false (.inl (by simp [brlL])) (.inl rfl) rfl (by simp) ?_
          simp
          refine pop_spec (SameCache_spec (goodL l day) (goodL l day) (by have := (hB.good day).n; omega) (by have := (hB.good day).n; omega)) rfl false (.inl (by simp [brlL])) (.inl rfl) rfl (by simp) ?_
          simp [show ¬ n < 0 from by omega, show ¬ 30000 < n from by omega, show 0 ≤ n from by omega, show n ≤ 30000 from by omega]
          refine pop_spec hrd rfl false (.inl (by simp [brlL])) (.inl rfl) rfl (by simp) ?_
          simp [h4, brlL]
          refine pop_spec known_spec rfl false (.inl (by simp)) (.inl rfl) rfl (by simp) ?_
          simp
          refine answers_of rfl ?_; simp
end Go.Qg

namespace Go.Qg
open Go.Proofs
set_option maxRecDepth 100000
set_option linter.unusedSimpArgs false
set_option maxHeartbeats 8000000
attribute [local irreducible] pwp pops pdraw pop popCall pdCall thenP blockP scopeP pspec Spec answers ppost CallW
theorem goodL_pass {day u : Int} (h : day ≤ u) : ∀ (l : List Brl) (n : Int), goodL (pass u l n).1 day = (pass u (goodL l day) n).1 ∧ (pass u (goodL l day) n).2 = (pass u l n).2
  | [], n => ⟨rfl, rfl⟩
  | b :: l, n => by
    by_cases hb : b.til = u
    · have hd : day ≤ b.til := by omega
      have ih := goodL_pass h l (n - min n b.kilos)
      have e : goodL (b :: l) day = b :: goodL l day := by simp [goodL, hd]
      rw [e]
      simp only [pass, if_pos hb]
      refine ⟨?_, ih.2⟩
      rw [show goodL (⟨b.kilos - min n b.kilos, b.til⟩ :: (pass u l (n - min n b.kilos)).1) day = ⟨b.kilos - min n b.kilos, b.til⟩ :: goodL (pass u l (n - min n b.kilos)).1 day from by simp [goodL, hd], ih.1]
    · have ih := goodL_pass h l n
      by_cases hd : day ≤ b.til
      · have e : goodL (b :: l) day = b :: goodL l day := by simp [goodL, hd]
        rw [e]
        simp only [pass, if_neg hb]
        refine ⟨?_, ih.2⟩
        rw [show goodL (b :: (pass u l n).1) day = b :: goodL (pass u l n).1 day from by simp [goodL, hd], ih.1]
      · have e : goodL (b :: l) day = goodL l day := by simp [goodL, hd]
        rw [e]
        simp only [pass, if_neg hb]
        refine ⟨?_, ih.2⟩
        rw [show goodL (b :: (pass u l n).1) day = goodL (pass u l n).1 day from by simp [goodL, hd], ih.1]
theorem goodL_sweep {day : Int} : ∀ (k : Nat) {u : Int} (_ : day ≤ u) (l : List Brl) (n : Int), goodL (sweep k u l n).1 day = (sweep k u (goodL l day) n).1
  | 0, _, _, _, _ => rfl
  | k + 1, u, h, l, n => by
    simp only [sweep]
    rw [goodL_sweep k (show day ≤ u + 1 by omega), (goodL_pass h l n).1, (goodL_pass h l n).2]
theorem goodL_draw (l : List Brl) (day n : Int) : goodL (drawL l day n) day = drawL (goodL l day) day n := by
  have hc : ∀ m : List Brl, goodL (full m) day = full (goodL m day) := fun m => by simp only [goodL, full, List.filter_filter]; congr 1; funext b; exact Bool.and_comm _ _
  unfold drawL
  rw [hc, goodL_sweep _ (Int.le_refl _)]
theorem hasL_draw {l : List Brl} {day n : Int} (h : Pos l) (ht : ∀ b ∈ l, b.til ≤ 400) (hn : 0 ≤ n) (hh : n ≤ hasL l day) : hasL (drawL l day n) day = hasL l day - n := by
  have e : hasL (goodL l day) day = hasL l day := by simp [hasL, goodL, List.filter_filter]
  have hg : Pos (goodL l day) := h.filter _
  rw [hasL, goodL_draw, drawL_sum hg (fun b hb => ht b (List.mem_filter.1 hb).1) hn (by rw [e]; exact hh)]
  rfl
def sumTot (l : List Brl) : Nat → Int
  | 0 => 0
  | k + 1 => sumTot l k + totK l k
theorem sumTot_has {l : List Brl} : ∀ k : Nat, sumTot l k + hasL l k = hasL l 0
  | 0 => by simp [sumTot]
  | k + 1 => by
    have := sumTot_has (l := l) k
    have h2 := hasL_next l k
    simp only [sumTot]; push_cast; omega
theorem sumTot_bound {l : List Brl} (h : Pos l) : ∀ k : Nat, 0 ≤ sumTot l k ∧ sumTot l k ≤ hasL l 0 := fun k => by
  refine ⟨?_, by have := sumTot_has (l := l) k; have := hasL_nonneg h k; omega⟩
  induction k with
  | zero => simp [sumTot]
  | succ k ih => have := totK_nonneg h k; simp only [sumTot]; omega
def leftB (d : List Brl) (day : Int) : Nat → Bool
  | 0 => false
  | k + 1 => leftB d day k || (decide (day ≤ (k : Int)) && decide (0 < totK d k))
theorem leftB_spec {d : List Brl} {day : Int} : ∀ {k : Nat}, leftB d day k = true → ∃ v : Nat, v < k ∧ day ≤ (v : Int) ∧ 0 < totK d v
  | 0, h => by simp [leftB] at h
  | k + 1, h => by
    simp only [leftB, Bool.or_eq_true, Bool.and_eq_true, decide_eq_true_eq] at h
    rcases h with h | h
    · obtain ⟨v, h1, h2⟩ := leftB_spec h
      exact ⟨v, by omega, h2⟩
    · exact ⟨k, by omega, h⟩
structure KeepsL (l d : List Brl) (day n : Int) : Prop where
  le : ∀ u : Nat, totK d u ≤ totK l u
  past : ∀ u : Nat, (u : Int) < day → totK d u = totK l u
  order : ∀ u : Nat, leftB d day u = true → totK d u = totK l u
  all : sumTot l 401 - sumTot d 401 = n
theorem keeps_law {l : List Brl} {day n : Int} (h : Bok l 30) (hn : 0 ≤ n) (hh : n ≤ hasL l day) : KeepsL l (drawL l day n) day n := by
  have hp := h.posS
  have hp' : Pos l := fun b hb => by have := h.each b hb; omega
  have hB := h.draw (t := day) hn
  have hs := sweep_ok (days400 day) day hp' hn
  have ht : ∀ u, totK (drawL l day n) u = totK (sweep (days400 day) day l n).1 u := fun u => totK_full hs.1
  refine ⟨fun u => by rw [ht]; exact sweep_tot_le _ _ hp' hn _, fun u hu => by rw [ht]; exact sweep_tot_past _ _ hp' hn _ (.inl hu), fun u hu => ?_, ?_⟩
  · obtain ⟨v, h1, h2, h3⟩ := leftB_spec hu
    rw [ht] at h3 ⊢
    by_cases e : totK (sweep (days400 day) day l n).1 u = totK l u
    · exact e
    · have := sweep_order (days400 day) day hp' hn v u h2 (by omega) e
      omega
  · have e1 := sumTot_has (l := l) 401
    have e2 := sumTot_has (l := drawL l day n) 401
    rw [hasL_late (fun b hb => by have := h.each b hb; omega), hasL_all fun b hb => (h.each b hb).2.1] at e1
    rw [hasL_late (fun b hb => by have := hB.each b hb; omega), hasL_all fun b hb => (hB.each b hb).2.1] at e2
    have := drawL_sum hp' h.til hn hh
    omega
theorem stored_of {l : List Brl} (h : Bok l 30) : storedB l = true := by
  simp only [storedB, Bool.and_eq_true, decide_eq_true_eq]
  refine ⟨h.n, allN_spec.2 fun k hk => ?_⟩
  have := h.each _ (brlAt_mem hk)
  simp only [brlB, Bool.and_eq_true, inB_spec]
  omega
theorem totK_take {l : List Brl} {k : Nat} (u : Int) (h : k < l.length) : totK (l.take (k + 1)) u = if (brlAt l k).til = u then totK (l.take k) u + (brlAt l k).kilos else totK (l.take k) u := by
  rw [take_snocB h]
  simp only [totK, List.filter_append, sumK_append]
  by_cases h : (brlAt l k).til = u
  · simp [h, sumK]
  · simp [h, sumK]
theorem totK_take_bound {l : List Brl} (h : KilOk l) (u : Int) : ∀ k, k ≤ l.length → -1000000 * (k : Int) ≤ totK (l.take k) u ∧ totK (l.take k) u ≤ 1000000 * (k : Int)
  | 0, _ => by simp [totK, sumK]
  | k + 1, hk => by
    have h1 := totK_take_bound h u k (by omega)
    have h2 := h.each _ (brlAt_mem (show k < l.length by omega))
    rw [totK_take u (by omega)]; push_cast; split <;> omega
theorem ltotal_spec (l : List Brl) (u : Int) (h : KilOk l) : Spec Try.prog 19 [.agg [brlL l], .v (.int .i64 u)] (.v (.int .i64 (totK l u))) := by
  have hn := h.n
  refine spec_of mixed Try.func19 (by decide) rfl Try.results19 Try.ntmps19 (by decide) 0 (by simp) ?_
  simp [brlL]
  refine pwp_loop (fun k : Nat => [(5, .v (.int .i64 (totK (l.take k) u))), (6, .v (.int .i64 k))]) (fun k => k ≤ l.length) (fun k => l.length - k) 0 (Nat.zero_le _) (by simp; rfl) (by simp [totK, sumK]) ?_
  intro k hk
  by_cases hkl : k < l.length
  · have wk := i64_wrap (show -9223372036854775808 ≤ (k : Int) + 1 ∧ _ from by omega)
    have hb := totK_take_bound h u (k + 1) (by omega)
    have e1 := totK_take u hkl
    by_cases hd : (brlAt l k).til = u
    · rw [if_pos hd] at e1
      rw [e1] at hb
      have w1 := i64_wrap (show -9223372036854775808 ≤ totK (l.take k) u + (brlAt l k).kilos ∧ _ from by omega)
      simp [hkl, Brl.cells, hd, w1]
      refine again_of (k + 1) (by omega) (by omega) ?_
      simp [wk, e1]
    · rw [if_neg hd] at e1
      simp [hkl, Brl.cells, hd]
      refine again_of (k + 1) (by omega) (by omega) ?_
      simp [wk, e1]
  · obtain rfl : k = l.length := by omega
    rw [List.take_length]
    simp
    refine answers_of rfl ?_; simp
theorem sumK_upto {l : List Brl} (h : KilOk l) : ∀ k, k ≤ l.length → -1000000 * (k : Int) ≤ sumK (l.take k) ∧ sumK (l.take k) ≤ 1000000 * (k : Int)
  | 0, _ => by simp [sumK]
  | k + 1, hk => by
    have h1 := sumK_upto h k (by omega)
    have h2 := h.each _ (brlAt_mem (show k < l.length by omega))
    rw [take_snocB (by omega), sumK_append]; simp only [sumK]; push_cast; omega
theorem CacheKeeps_spec (l : List Brl) (day one two : Int) (hl : l.length ≤ 9223372036854775807) : Spec Try.prog 3 [.agg [brlL l], .v (.int .i64 day), .v (.int .i64 one), .v (.int .i64 two)] (.v (.bool true)) := by
  refine spec_of mixed Try.func3 (by decide) rfl Try.results3 Try.ntmps3 (by decide) 0 (by simp) ?_
  simp [brlL]
  refine pop_spec (rCache_spec l hl) rfl false (.inl (by simp [brlL])) (.inl rfl) rfl (by simp) ?_
  cases h1 : storedB l with
  | false =>
    simp
    refine pop_spec known_spec rfl false (.inl (by simp)) (.inl rfl) rfl (by simp) ?_
    simp
    refine answers_of rfl ?_; simp
  | true =>
    simp
    refine pop_spec (rDay_spec day) rfl false (.inl (by simp)) (.inl rfl) rfl (by simp) ?_
    cases h2 : inB day 0 400 with
    | false =>
      simp
      refine pop_spec known_spec rfl false (.inl (by simp)) (.inl rfl) rfl (by simp) ?_
      simp
      refine answers_of rfl ?_; simp
    | true =>
      have hday := inB_spec.1 h2
      by_cases hn : (0 ≤ one ∧ one ≤ 30000) ∧ 0 ≤ two ∧ two ≤ 30000 - one
      case neg =>
        by_cases c1 : one < 0
        · simp [c1]
          refine pop_spec known_spec rfl false (.inl (by simp)) (.inl rfl) rfl (by simp) ?_
          simp
          refine answers_of rfl ?_; simp
        · by_cases c2 : 30000 < one
          · simp [c1, c2]
            refine pop_spec known_spec rfl false (.inl (by simp)) (.inl rfl) rfl (by simp) ?_
            simp
            refine answers_of rfl ?_; simp
          · by_cases c3 : two < 0
            · simp [c1, c2, c3]
              refine pop_spec known_spec rfl false (.inl (by simp)) (.inl rfl) rfl (by simp) ?_
              simp
              refine answers_of rfl ?_; simp
            · have w0 := i64_wrap (show -9223372036854775808 ≤ 30000 - one ∧ _ from by omega)
              simp [c1, c2, c3, w0, show 30000 - one < two from by omega]
              refine pop_spec known_spec rfl false (.inl (by simp)) (.inl rfl) rfl (by simp) ?_
              simp
              refine answers_of rfl ?_; simp
      obtain ⟨⟨n1, n2⟩, n3, n4⟩ := hn
      have w0 := i64_wrap (show -9223372036854775808 ≤ 30000 - one ∧ _ from by omega)
      have w1 := i64_wrap (show -9223372036854775808 ≤ one + two ∧ _ from by omega)
      have hB := bok_stored h1
      have hp : Pos l := fun b hb => by have := hB.each b hb; omega
      have hd2 := Draw_spec l day (one + two) hl
      have hd1 := Draw_spec l day one hl
      rw [h1, h2, show inB (one + two) 0 30000 = true from inB_spec.2 (by omega)] at hd2
      rw [h1, h2, show inB one 0 30000 = true from inB_spec.2 (by omega)] at hd1
      simp only [Bool.true_and, if_true] at hd1 hd2
      simp [show ¬ one < 0 from by omega, show ¬ 30000 < one from by omega, show ¬ two < 0 from by omega, w0, w1, show ¬ 30000 - one < two from by omega]
      by_cases c1 : one ≤ hasL l day
      case neg =>
        rw [if_neg (show ¬ one + two ≤ hasL l day by omega)] at hd2
        rw [if_neg c1] at hd1
        refine pop_spec hd2 rfl false (.inl (by simp [brlL])) (.inl rfl) rfl (by simp [brlL]) ?_
        simp [brlL]
        refine pop_spec hd1 rfl false (.inl (by simp [brlL])) (.inl rfl) rfl (by simp [brlL]) ?_
        simp [brlL]
        refine pop_spec known_spec rfl false (.inl (by simp)) (.inl rfl) rfl (by simp) ?_
        simp
        refine answers_of rfl ?_; simp
      have hBa := hB.draw (t := day) n1
      have hasd := hasL_draw hp hB.til n1 c1
      have hd3 := Draw_spec (drawL l day one) day two (by have := hBa.n; omega)
      rw [stored_of hBa, h2, show inB two 0 30000 = true from inB_spec.2 (by omega), hasd, drawL_add hp n1 n3] at hd3
      simp only [Bool.true_and, if_true] at hd3
      rw [if_pos c1] at hd1
      by_cases c2 : one + two ≤ hasL l day
      case neg =>
        rw [if_neg c2] at hd2
        rw [if_neg (show ¬ two ≤ hasL l day - one by omega)] at hd3
        refine pop_spec hd2 rfl false (.inl (by simp [brlL])) (.inl rfl) rfl (by simp [brlL]) ?_
        simp [brlL]
        refine pop_spec hd1 rfl false (.inl (by simp [brlL])) (.inl rfl) rfl (by simp [brlL]) ?_
        simp [brlL]
        refine pop_spec hd3 rfl false (.inl (by simp [brlL])) (.inl rfl) rfl (by simp [brlL]) ?_
        simp [brlL]
        refine pop_spec known_spec rfl false (.inl (by simp)) (.inl rfl) rfl (by simp) ?_
        simp
        refine answers_of rfl ?_; simp
      rw [if_pos c2] at hd2
      rw [if_pos (show two ≤ hasL l day - one by omega)] at hd3
      have hBd := hB.draw (t := day) (show 0 ≤ one + two by omega)
      have hlaw := keeps_law hB (show 0 ≤ one + two by omega) c2
      have hBa0 := stored_of hBa
      have hBd0 := stored_of hBd
      generalize drawL l day one = a at hd1 hd3 hBa hBa0
      generalize drawL l day (one + two) = d at hd2 hd3 hBd hBd0 hlaw
      have hna := hBa.n
      have hnd := hBd.n
      have hpd : Pos d := fun b hb => by have := hBd.each b hb; omega
      refine pop_spec hd2 rfl false (.inl (by simp [brlL])) (.inl rfl) rfl (by simp [brlL]) ?_
      simp [brlL]
      refine pop_spec hd1 rfl false (.inl (by simp [brlL])) (.inl rfl) rfl (by simp [brlL]) ?_
      simp [brlL]
      refine pop_spec (rCache_spec d (by omega)) rfl false (.inl (by simp [brlL])) (.inl rfl) rfl (by simp) ?_
      rw [hBd0]
      simp
      refine pop_spec (rCache_spec a (by omega)) rfl false (.inl (by simp [brlL])) (.inl rfl) rfl (by simp) ?_
      rw [hBa0]
      simp
      refine pop_spec hd3 rfl false (.inl (by simp [brlL])) (.inl rfl) rfl (by simp [brlL]) ?_
      simp [brlL]
      refine pop_spec (SameCache_spec d d (by omega) (by omega)) rfl false (.inl (by simp [brlL])) (.inl rfl) rfl (by simp) ?_
      simp
      have hl30 := hB.n
      have hk0 := hB.kil (by omega)
      have hk1 := hBd.kil (by omega)
      have b0 : hasL l 0 ≤ 30000000 := by
        rw [hasL_all fun b hb => (hB.each b hb).2.1]
        have := sumK_upto hk0 l.length (Nat.le_refl _)
        rw [List.take_length] at this; omega
      have b1 : hasL d 0 ≤ 30000000 := by
        rw [hasL_all fun b hb => (hBd.each b hb).2.1]
        have := sumK_upto hk1 d.length (Nat.le_refl _)
        rw [List.take_length] at this; omega
      refine pwp_loop (fun k : Nat => [(17, .v (.int .i64 (sumTot l k - sumTot d k))), (18, .v (.bool (leftB d day k))), (19, .v (.int .i64 k))]) (fun k => k ≤ 401) (fun k => 401 - k) 0 (Nat.zero_le _) (by simp; rfl) (by simp [sumTot, leftB]) ?_
      intro k hk
      by_cases hkl : k < 401
      · have wk := i64_wrap (show -9223372036854775808 ≤ (k : Int) + 1 ∧ _ from by omega)
        have t0 := ltotal_spec l k hk0
        have t1 := ltotal_spec d k hk1
        have p1 := hlaw.le k
        have p2 := hlaw.past k
        have p3 := hlaw.order k
        have z0 := sumTot_bound hp (k + 1)
        have z1 := sumTot_bound hpd (k + 1)
        have y0 := sumTot_bound hp k
        have y1 := sumTot_bound hpd k
        have x0 := totK_nonneg hp k
        have x1 := totK_nonneg hpd k
        have e0 : sumTot l (k + 1) = sumTot l k + totK l k := rfl
        have e1 : sumTot d (k + 1) = sumTot d k + totK d k := rfl
        have e2 : leftB d day (k + 1) = (leftB d day k || (decide (day ≤ (k : Int)) && decide (0 < totK d k))) := rfl
        have e3 : sumTot l (k + 1) - sumTot d (k + 1) = sumTot l k - sumTot d k + totK l k - totK d k := by omega
        generalize totK l k = w at *
        generalize totK d k = i at *
        generalize sumTot l k - sumTot d k = D at *
        have w2 := i64_wrap (show -9223372036854775808 ≤ D + w ∧ _ from by omega)
        have w3 := i64_wrap (show -9223372036854775808 ≤ D + w - i ∧ _ from by omega)
        simp (config := { maxSteps := 4000000 }) [show (k : Int) ≤ 400 from by omega]
        refine pwp_draw 6 (by decide) ?_
        simp (config := { maxSteps := 4000000 })
        refine pd_spec t0 (by simp [brlL]) (by simp) (by simp [brlL]) rfl ?_
        simp (config := { maxSteps := 4000000 })
        refine pd_spec t1 (by simp [brlL]) (by simp) (by simp [brlL]) rfl ?_
        simp (config := { maxSteps := 4000000 })
        refine ⟨by decide, ?_⟩
        by_cases hu : (k : Int) < day
        · obtain rfl : i = w := p2 hu
          rw [show (decide (day ≤ (k : Int)) && decide (0 < i)) = false from by simp [show ¬ day ≤ (k : Int) from by omega], Bool.or_false] at e2
          rw [← e3] at w3
          cases hL : leftB d day k with
          | true =>
            rw [hL] at e2
            simp (config := { maxSteps := 4000000 }) [hu, w2, w3, ← e3, show ¬ day ≤ (k : Int) from by omega]
            refine again_of (k + 1) (by omega) (by omega) ?_
            simp [wk, e2]
          | false =>
            rw [hL] at e2
            simp (config := { maxSteps := 4000000 }) [hu, w2, w3, ← e3, show ¬ day ≤ (k : Int) from by omega]
            refine again_of (k + 1) (by omega) (by omega) ?_
            simp [wk, e2]
        · rw [show decide (day ≤ (k : Int)) = true from by simp; omega, Bool.true_and] at e2
          rw [← e3] at w3
          cases hL : leftB d day k with
          | true =>
            obtain rfl : i = w := p3 hL
            rw [hL, Bool.true_or] at e2
            simp (config := { maxSteps := 4000000 }) [hu, w2, w3, ← e3, show day ≤ (k : Int) from by omega]
            refine again_of (k + 1) (by omega) (by omega) ?_
            simp [wk, e2]
          | false =>
            rw [hL, Bool.false_or] at e2
            by_cases heq : i = w
            · subst heq
              by_cases hi : 0 < i
              · simp (config := { maxSteps := 4000000 }) [hu, w2, w3, ← e3, show day ≤ (k : Int) from by omega, hi]
                refine again_of (k + 1) (by omega) (by omega) ?_
                simp [wk, e2, hi]
              · simp (config := { maxSteps := 4000000 }) [hu, w2, w3, ← e3, show day ≤ (k : Int) from by omega, hi]
                refine again_of (k + 1) (by omega) (by omega) ?_
                simp [wk, e2, hi]
            · by_cases hi : 0 < i
              · simp (config := { maxSteps := 4000000 }) [hu, w2, w3, ← e3, show day ≤ (k : Int) from by omega, hi, show ¬ w < i from by omega, p1, heq, Ne.symm heq]
                refine again_of (k + 1) (by omega) (by omega) ?_
                simp [wk, e2, hi]
              · simp (config := { maxSteps := 4000000 }) [hu, w2, w3, ← e3, show day ≤ (k : Int) from by omega, hi, show ¬ w < i from by omega, p1, heq, Ne.symm heq]
                refine again_of (k + 1) (by omega) (by omega) ?_
                simp [wk, e2, hi]
      · obtain rfl : k = 401 := by omega
        have hall := hlaw.all
        simp [hall, w1]
        refine pop_spec known_spec rfl false (.inl (by simp)) (.inl rfl) rfl (by simp) ?_
        simp
        refine answers_of rfl ?_; simp
end Go.Qg

namespace Go.Proofs.Ythfdpekgbdjniaa.lawCacheKeeps
open Go.Qg Go.ChangeAt Go.RowKit
set_option maxRecDepth 100000
theorem spec (args : List PV) (hl : Try.f3.params.toList.length = args.length) (h : ∀ (j : Nat) t p, Try.f3.params.toList[j]? = some t → args[j]? = some p → ArgP Try.prog 6 t p) : Qg.Spec Try.prog 3 args (.v (.bool true)) := by
  rw [Try.params3] at hl h
  match args, hl with
  | [a0, a1, a2, a3], _ =>
    obtain ⟨l, rfl, hll⟩ := a_cache (h 0 _ a0 rfl rfl)
    obtain ⟨day, rfl, dayok⟩ := a_int (h 1 _ a1 rfl rfl)
    obtain ⟨one, rfl, oneok⟩ := a_int (h 2 _ a2 rfl rfl)
    obtain ⟨two, rfl, twook⟩ := a_int (h 3 _ a3 rfl rfl)
    exact CacheKeeps_spec l day one two hll
theorem lifted (os : Os) (started : os.Started) (H : Type) (enc : TypeId × Value → H) :
    ReturnsInHanded {} Try.checked os 3 .any (Rows.cacheKeepsSpec.pre6 enc Try.prog Try.f3 Rows.cacheKeepsRow.domain false) (Rows.cacheKeepsSpec.post enc Try.prog Try.f3 false true false false) := by
  refine law_lifted (C := Try.checked) 6 (tb := 4) ownKnob_ started (by kernel_rfl) Try.func3
    (ChangeSpec.witness6 (enc := enc) (C := Try.checked) false ⟨#[], #[.agg #[.slice none 0 0], .int .i64 0, .int .i64 0, .int .i64 0], []⟩ 8 (by kernel_rfl) (by kernel_rfl) (by kernel_rfl) (by kernel_rfl)) laidOut_ rfl (by kernel_rfl) (by kernel_rfl) Try.underlying4 ?_ spec
  intro ds hds
  match ds, hds with
  | [_, _, _, _], _ => exact ⟨rfl, rfl, rfl⟩
theorem CacheKeeps_holds : Rows.CacheKeepsSaid :=
  OpenClaim.holds_of_wide 3 Try.f3 rfl rfl rfl rfl rfl rfl rfl ⟨rfl, rfl, rfl, rfl, rfl⟩ rfl rfl rfl rfl rfl (by kernel_rfl) Try.func3 (by kernel_rfl)
    (of_decide_eq_true (by kernel_rfl)) (by unfold Func.isWrapper; first | (rw [if_pos (by decide +kernel)]; kernel_rfl) | (rw [if_neg (by decide +kernel)]; exact ⟨rfl, rfl⟩))
    (fun os started H enc _ => lifted os started H enc)
end Go.Proofs.Ythfdpekgbdjniaa.lawCacheKeeps
