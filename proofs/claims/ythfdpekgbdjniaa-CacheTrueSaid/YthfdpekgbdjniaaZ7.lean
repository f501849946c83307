/-
  Lemmas and contracts that hold of the whole program: 5 texts in one.
  No condition.
-/
import Derived.Test.YthfdpekgbdjniaaZ6
import Derived.KernelRfl
set_option linter.all false

namespace Go.Qg
open Go.Proofs
set_option maxRecDepth 100000
set_option linter.unusedSimpArgs false
set_option maxHeartbeats 4000000
attribute [local irreducible] pwp pops pdraw pop popCall pdCall thenP blockP scopeP pspec Spec answers ppost CallW
theorem best1_succ (S : Sup) (hS : SupOk S) (c : Nat) (ih : ∀ (p : List Int) (st : BestSt), p.length + c = S.ships.length → (∀ i, i < p.length → 0 ≤ gi p i ∧ gi p i ≤ (shpAt S.ships i).room) → CallW Try.prog 75 [planV p, .ref 0 0, .ref 1 0, .ref 2 0, .ref 3 0] (bestH S st) (fun out => out = .ret (.tup []) (bestH S (srchC S c p st)))) (p : List Int) (st : BestSt) (hc : p.length + (c + 1) = S.ships.length) (he : ∀ i, i < p.length → 0 ≤ gi p i ∧ gi p i ≤ (shpAt S.ships i).room) : CallW Try.prog 75 [planV p, .ref 0 0, .ref 1 0, .ref 2 0, .ref 3 0] (bestH S st) (fun out => out = .ret (.tup []) (bestH S (srchC S (c + 1) p st))) := by
  have hns := hS.ns
  suffices H : ∀ Q : Out → Prop, Q (.ret (.tup []) (bestH S (srchC S (c + 1) p st))) → CallW Try.prog 75 [planV p, .ref 0 0, .ref 1 0, .ref 2 0, .ref 3 0] (bestH S st) Q from H _ rfl
  intro Q hQ
  have he9 : ∀ i, i < p.length → 0 ≤ gi p i ∧ gi p i ≤ 9 := fun i hi => by have := he i hi; have := hS.ship i (by omega); omega
  have hul : (untilS S p.length).ships.length = p.length := by simp [untilS]; omega
  have hplu : PlanOk (untilS S p.length) p := ⟨hul.symm, fun i hi => by
    rw [hul] at hi
    have e : shpAt (untilS S p.length).ships i = shpAt S.ships i := shpAt_take hi
    rw [e]; exact he i hi⟩
  have hcost := (cost_spec S hS p (by omega) he9).nil (planV_nil p _)
  have hunt := until_spec S hS p.length (by omega)
  have hhold := (holds_spec (untilS S p.length) (supOk_until hS p.length) p hplu).nil (planV_nil p _)
  have hclone := cloneIS_spec p (by omega)
  have hpr : prune S p st = ((decide (0 ≤ st.2) && decide (st.2 ≤ costL S p)) || !decide ((holdsP (untilS S p.length) p).rule = 1)) := rfl
  clear hul hplu
  generalize holdsP (untilS S p.length) p = hh at hhold hpr
  generalize untilS S p.length = U at hunt hhold
  generalize hcs : costL S p = cs at hcost hpr
  have hs1 : prune S p st = true → srchC S (c + 1) p st = st := fun e => by simp [srchC, e]
  have hs2 : prune S p st = false → srchC S (c + 1) p st = srchN (srchC S c) p ((shpAt S.ships p.length).room + 1).toNat 0 st := fun e => by simp [srchC, e]
  obtain ⟨best, least⟩ := st
  simp only at hpr hs1 hs2
  refine callW_of mixed Try.func75 (by decide) rfl (congrArg Array.toList Try.results75) Try.ntmps75 (by decide) 59 (by simp) (by decide) ?_
  by_cases hpne : p = []
  · subst hpne
    simp (config := { maxSteps := 4000000 }) [bestH, planV, Sup.cells, brlL, burL, shpL, ints]
    refine pwp_draw 19 (by decide) ?_
    by_cases h1 : 0 ≤ least
    · simp (config := { maxSteps := 4000000 }) [h1]
      refine pd_spec hcost (by simp [planV, Sup.cells, brlL, burL, shpL, ints]) (by simp) (by simp [planV, Sup.cells, brlL, burL, shpL, ints]) rfl ?_
      by_cases h2 : least ≤ cs
      · have e : prune S [] (best, least) = true := by rw [hpr]; simp [h1, h2]
        simp (config := { maxSteps := 4000000 }) [h1, h2]
        refine ⟨by decide, ?_⟩
        refine ends_of (.tup []) (bestH S (best, least)) [] rfl (by decide) ?_ ?_ (by rw [hs1 e] at hQ; exact hQ)
        · simp (config := { maxSteps := 4000000 }) [bestH, Sup.cells, brlL, burL, shpL, ints]
        · simp
      · simp (config := { maxSteps := 4000000 }) [h1, h2]
        refine pd_spec hunt (by simp [Sup.cells, brlL, burL, shpL, ints]) (by simp) (by simp [Sup.cells, brlL, burL, shpL, ints]) (by simp [Sup.cells, brlL, burL, shpL, ints]) ?_
        simp (config := { maxSteps := 4000000 }) [Sup.cells, brlL, burL, shpL, ints]
        refine pd_spec hhold (by simp [planV, Sup.cells, brlL, burL, shpL, ints]) (by simp) (by simp [planV, Sup.cells, brlL, burL, shpL, ints]) (by simp) ?_
        by_cases h3 : hh.rule = 1
        · have e : prune S [] (best, least) = false := by rw [hpr]; simp [h2, h3]
          simp (config := { maxSteps := 4000000 }) [h3]
          refine ⟨by decide, ?_⟩
          have hlen : 0 < S.ships.length := by first | omega | (simp at hc; omega)
          have hne : ¬ S.ships = [] := fun h => by rw [h] at hlen; simp at hlen
          have hroom := hS.ship 0 hlen
          have hw := i64_wrap (show -9223372036854775808 ≤ (shpAt S.ships 0).room + 1 ∧ _ from by omega)
          rw [hs2 e] at hQ
          simp (config := { maxSteps := 4000000 }) [hlen, hne, show ¬ ((0 : Nat) : Int) = (S.ships.length : Int) from by omega, show (((0 : Nat) : Int) == (S.ships.length : Int)) = false from by simp; omega, show ¬ 0 = S.ships.length from by omega, show ¬ (0 : Int) = (S.ships.length : Int) from by omega, Shp.cells, hw]
          generalize hm : (shpAt S.ships 0).room = room at hroom hQ ⊢
          refine pwp_loop (fun x : Nat × BestSt => [(45, .v (.int .i64 x.1)), (58, .undef), (59, .box false [.v (.int .i64 x.2.2)]), (60, .box false S.cells), (61, .box false [ints x.2.1]), (62, .box false [.clo (.func 75) [] [.ref 59 0, .ref 60 0, .ref 61 0, .ref 62 0]])]) (fun x => x.1 ≤ (room + 1).toNat ∧ srchN (srchC S c) [] ((room + 1).toNat - x.1) x.1 x.2 = srchN (srchC S c) [] (room + 1).toNat 0 (best, least)) (fun x => (room + 1).toNat - x.1) (0, (best, least)) ⟨Nat.zero_le _, rfl⟩ (by simp; rfl) (by simp [Sup.cells, brlL, burL, shpL, ints, Shp.cells]) ?_
          rintro ⟨k, bs, ls⟩ ⟨hk, hsr⟩
          simp only at hk hsr
          by_cases hkl : k < (room + 1).toNat
          · have hkr : (k : Int) < room + 1 := by omega
            have hwk := i64_wrap (show -9223372036854775808 ≤ (k : Int) + 1 ∧ _ from by omega)
            obtain ⟨j, hj⟩ : ∃ j, (room + 1).toNat - k = j + 1 := ⟨(room + 1).toNat - k - 1, by omega⟩
            have hj' : (room + 1).toNat - (k + 1) = j := by omega
            rw [hj, srchN] at hsr
            simp only at hsr
            simp (config := { maxSteps := 4000000 }) [hkr, Sup.cells, brlL, burL, shpL, ints]
            by_cases hz : ls = 0
            · rw [if_pos hz] at hsr
              simp (config := { maxSteps := 4000000 }) [hz]
              refine ends_n (.tup []) (bestH S (bs, ls)) [] rfl (by decide) ?_ ?_ (by rw [← hsr] at hQ; exact hQ)
              · simp (config := { maxSteps := 4000000 }) [bestH, Sup.cells, brlL, burL, shpL, ints, hz, Shp.cells]
              · simp
            · rw [if_neg hz] at hsr
              have hrec := ih ([] ++ [(k : Int)]) (bs, ls) (by simp at hc ⊢; omega) (fun i hi => by
                obtain rfl : i = 0 := by simpa using hi
                have er : (shpAt S.ships 0).room = room := hm
                rw [er]; simp [gi]; omega)
              have hpv : planV ([] ++ [(k : Int)]) = ints ([] ++ [(k : Int)]) := by simp [planV]
              rw [hpv] at hrec
              simp (config := { maxSteps := 4000000 }) [hz]
              refine pwp_draw 6 (by decide) ?_
              simp (config := { maxSteps := 4000000 })
              refine pd_spec cloneN_spec (by simp) (by simp) (by simp) (by simp) ?_
              simp (config := { maxSteps := 4000000 }) [show 1 ≤ maxLen from by simp [maxLen]]
              refine ⟨by decide, ?_⟩
              generalize hst : srchC S c ([] ++ [(k : Int)]) (bs, ls) = st2 at hrec hsr
              obtain ⟨bs2, ls2⟩ := st2
              refine pop_callF [(52, .undef), (54, .undef), (55, ints ([] ++ [(k : Int)])), (58, .undef)] ?_ hrec rfl [59, 60, 61, 62] false (by decide) ?_ (.inl ?_) ?_
              · simp (config := { maxSteps := 4000000 }) [Sup.cells, brlL, burL, shpL, ints, Shp.cells, rowsI_snoc]
                rfl
              · simp (config := { maxSteps := 4000000 }) [bestH, Sup.cells, brlL, burL, shpL, ints, Shp.cells]
              · simp [ints]
              rintro out rfl
              refine ⟨[], ?_, by simp, ?_, ?_⟩
              · simp [backOk, bestH]
              · simp (config := { maxSteps := 4000000 }) [back, backV, placeAll, bestH, Sup.cells, brlL, burL, shpL, ints, Shp.cells]
              simp (config := { maxSteps := 4000000 }) [back, backV, placeAll, bestH, Sup.cells, brlL, burL, shpL, ints, Shp.cells]
              refine again_of (k + 1, (bs2, ls2)) ⟨by simp only; omega, by simp only; rw [hj']; exact hsr⟩ (by simp only; omega) ?_
              simp (config := { maxSteps := 4000000 }) [hwk, Sup.cells, brlL, burL, shpL, ints, Shp.cells]
          · have hkr : ¬ (k : Int) < room + 1 := by omega
            rw [show (room + 1).toNat - k = 0 from by omega, srchN] at hsr
            simp (config := { maxSteps := 4000000 }) [hkr]
            refine ends_n (.tup []) (bestH S (bs, ls)) [] rfl (by decide) ?_ ?_ (by rw [← hsr] at hQ; exact hQ)
            · simp (config := { maxSteps := 4000000 }) [bestH, Sup.cells, brlL, burL, shpL, ints, Shp.cells]
            · simp
        · have e : prune S [] (best, least) = true := by rw [hpr]; simp [h3]
          simp (config := { maxSteps := 4000000 }) [h3]
          refine ⟨by decide, ?_⟩
          refine ends_of (.tup []) (bestH S (best, least)) [] rfl (by decide) ?_ ?_ (by rw [hs1 e] at hQ; exact hQ)
          · simp (config := { maxSteps := 4000000 }) [bestH, Sup.cells, brlL, burL, shpL, ints]
          · simp
    · simp (config := { maxSteps := 4000000 }) [h1]
      refine pd_spec hunt (by simp [Sup.cells, brlL, burL, shpL, ints]) (by simp) (by simp [Sup.cells, brlL, burL, shpL, ints]) (by simp [Sup.cells, brlL, burL, shpL, ints]) ?_
      simp (config := { maxSteps := 4000000 }) [Sup.cells, brlL, burL, shpL, ints]
      refine pd_spec hhold (by simp [planV, Sup.cells, brlL, burL, shpL, ints]) (by simp) (by simp [planV, Sup.cells, brlL, burL, shpL, ints]) (by simp) ?_
      by_cases h3 : hh.rule = 1
      · have e : prune S [] (best, least) = false := by rw [hpr]; simp [h1, h3]
        simp (config := { maxSteps := 4000000 }) [h3]
        refine ⟨by decide, ?_⟩
        have hlen : 0 < S.ships.length := by first | omega | (simp at hc; omega)
        have hne : ¬ S.ships = [] := fun h => by rw [h] at hlen; simp at hlen
        have hroom := hS.ship 0 hlen
        have hw := i64_wrap (show -9223372036854775808 ≤ (shpAt S.ships 0).room + 1 ∧ _ from by omega)
        rw [hs2 e] at hQ
        simp (config := { maxSteps := 4000000 }) [hlen, hne, show ¬ ((0 : Nat) : Int) = (S.ships.length : Int) from by omega, show (((0 : Nat) : Int) == (S.ships.length : Int)) = false from by simp; omega, show ¬ 0 = S.ships.length from by omega, show ¬ (0 : Int) = (S.ships.length : Int) from by omega, Shp.cells, hw]
        generalize hm : (shpAt S.ships 0).room = room at hroom hQ ⊢
        refine pwp_loop (fun x : Nat × BestSt => [(45, .v (.int .i64 x.1)), (58, .undef), (59, .box false [.v (.int .i64 x.2.2)]), (60, .box false S.cells), (61, .box false [ints x.2.1]), (62, .box false [.clo (.func 75) [] [.ref 59 0, .ref 60 0, .ref 61 0, .ref 62 0]])]) (fun x => x.1 ≤ (room + 1).toNat ∧ srchN (srchC S c) [] ((room + 1).toNat - x.1) x.1 x.2 = srchN (srchC S c) [] (room + 1).toNat 0 (best, least)) (fun x => (room + 1).toNat - x.1) (0, (best, least)) ⟨Nat.zero_le _, rfl⟩ (by simp; rfl) (by simp [Sup.cells, brlL, burL, shpL, ints, Shp.cells]) ?_
        rintro ⟨k, bs, ls⟩ ⟨hk, hsr⟩
        simp only at hk hsr
        by_cases hkl : k < (room + 1).toNat
        · have hkr : (k : Int) < room + 1 := by omega
          have hwk := i64_wrap (show -9223372036854775808 ≤ (k : Int) + 1 ∧ _ from by omega)
          obtain ⟨j, hj⟩ : ∃ j, (room + 1).toNat - k = j + 1 := ⟨(room + 1).toNat - k - 1, by omega⟩
          have hj' : (room + 1).toNat - (k + 1) = j := by omega
          rw [hj, srchN] at hsr
          simp only at hsr
          simp (config := { maxSteps := 4000000 }) [hkr, Sup.cells, brlL, burL, shpL, ints]
          by_cases hz : ls = 0
          · rw [if_pos hz] at hsr
            simp (config := { maxSteps := 4000000 }) [hz]
            refine ends_n (.tup []) (bestH S (bs, ls)) [] rfl (by decide) ?_ ?_ (by rw [← hsr] at hQ; exact hQ)
            · simp (config := { maxSteps := 4000000 }) [bestH, Sup.cells, brlL, burL, shpL, ints, hz, Shp.cells]
            · simp
          · rw [if_neg hz] at hsr
            have hrec := ih ([] ++ [(k : Int)]) (bs, ls) (by simp at hc ⊢; omega) (fun i hi => by
              obtain rfl : i = 0 := by simpa using hi
              have er : (shpAt S.ships 0).room = room := hm
              rw [er]; simp [gi]; omega)
            have hpv : planV ([] ++ [(k : Int)]) = ints ([] ++ [(k : Int)]) := by simp [planV]
            rw [hpv] at hrec
            simp (config := { maxSteps := 4000000 }) [hz]
            refine pwp_draw 6 (by decide) ?_
            simp (config := { maxSteps := 4000000 })
            refine pd_spec cloneN_spec (by simp) (by simp) (by simp) (by simp) ?_
            simp (config := { maxSteps := 4000000 }) [show 1 ≤ maxLen from by simp [maxLen]]
            refine ⟨by decide, ?_⟩
            generalize hst : srchC S c ([] ++ [(k : Int)]) (bs, ls) = st2 at hrec hsr
            obtain ⟨bs2, ls2⟩ := st2
            refine pop_callF [(52, .undef), (54, .undef), (55, ints ([] ++ [(k : Int)])), (58, .undef)] ?_ hrec rfl [59, 60, 61, 62] false (by decide) ?_ (.inl ?_) ?_
            · simp (config := { maxSteps := 4000000 }) [Sup.cells, brlL, burL, shpL, ints, Shp.cells, rowsI_snoc]
              rfl
            · simp (config := { maxSteps := 4000000 }) [bestH, Sup.cells, brlL, burL, shpL, ints, Shp.cells]
            · simp [ints]
            rintro out rfl
            refine ⟨[], ?_, by simp, ?_, ?_⟩
            · simp [backOk, bestH]
            · simp (config := { maxSteps := 4000000 }) [back, backV, placeAll, bestH, Sup.cells, brlL, burL, shpL, ints, Shp.cells]
            simp (config := { maxSteps := 4000000 }) [back, backV, placeAll, bestH, Sup.cells, brlL, burL, shpL, ints, Shp.cells]
            refine again_of (k + 1, (bs2, ls2)) ⟨by simp only; omega, by simp only; rw [hj']; exact hsr⟩ (by simp only; omega) ?_
            simp (config := { maxSteps := 4000000 }) [hwk, Sup.cells, brlL, burL, shpL, ints, Shp.cells]
        · have hkr : ¬ (k : Int) < room + 1 := by omega
          rw [show (room + 1).toNat - k = 0 from by omega, srchN] at hsr
          simp (config := { maxSteps := 4000000 }) [hkr]
          refine ends_n (.tup []) (bestH S (bs, ls)) [] rfl (by decide) ?_ ?_ (by rw [← hsr] at hQ; exact hQ)
          · simp (config := { maxSteps := 4000000 }) [bestH, Sup.cells, brlL, burL, shpL, ints, Shp.cells]
          · simp
      · have e : prune S [] (best, least) = true := by rw [hpr]; simp [h3]
        simp (config := { maxSteps := 4000000 }) [h3]
        refine ⟨by decide, ?_⟩
        refine ends_of (.tup []) (bestH S (best, least)) [] rfl (by decide) ?_ ?_ (by rw [hs1 e] at hQ; exact hQ)
        · simp (config := { maxSteps := 4000000 }) [bestH, Sup.cells, brlL, burL, shpL, ints]
        · simp
  · have hp0 : 0 < p.length := by cases p with | nil => exact absurd rfl hpne | cons => simp
    simp (config := { maxSteps := 4000000 }) [bestH, planV, hpne, Sup.cells, brlL, burL, shpL, ints]
    refine pwp_draw 19 (by decide) ?_
    by_cases h1 : 0 ≤ least
    · simp (config := { maxSteps := 4000000 }) [h1]
      refine pd_spec hcost (by simp [planV, hpne, Sup.cells, brlL, burL, shpL, ints]) (by simp) (by simp [planV, hpne, Sup.cells, brlL, burL, shpL, ints]) rfl ?_
      by_cases h2 : least ≤ cs
      · have e : prune S p (best, least) = true := by rw [hpr]; simp [h1, h2]
        simp (config := { maxSteps := 4000000 }) [h1, h2]
        refine ⟨by decide, ?_⟩
        refine ends_of (.tup []) (bestH S (best, least)) [] rfl (by decide) ?_ ?_ (by rw [hs1 e] at hQ; exact hQ)
        · simp (config := { maxSteps := 4000000 }) [bestH, Sup.cells, brlL, burL, shpL, ints]
        · simp
      · simp (config := { maxSteps := 4000000 }) [h1, h2]
        refine pd_spec hunt (by simp [Sup.cells, brlL, burL, shpL, ints]) (by simp) (by simp [Sup.cells, brlL, burL, shpL, ints]) (by simp [Sup.cells, brlL, burL, shpL, ints]) ?_
        simp (config := { maxSteps := 4000000 }) [Sup.cells, brlL, burL, shpL, ints]
        refine pd_spec hhold (by simp [planV, hpne, Sup.cells, brlL, burL, shpL, ints]) (by simp) (by simp [planV, hpne, Sup.cells, brlL, burL, shpL, ints]) (by simp) ?_
        by_cases h3 : hh.rule = 1
        · have e : prune S p (best, least) = false := by rw [hpr]; simp [h2, h3]
          simp (config := { maxSteps := 4000000 }) [h3]
          refine ⟨by decide, ?_⟩
          have hlen : p.length < S.ships.length := by first | omega | (simp at hc; omega)
          have hne : ¬ S.ships = [] := fun h => by rw [h] at hlen; simp at hlen
          have hroom := hS.ship p.length hlen
          have hw := i64_wrap (show -9223372036854775808 ≤ (shpAt S.ships p.length).room + 1 ∧ _ from by omega)
          rw [hs2 e] at hQ
          simp (config := { maxSteps := 4000000 }) [hlen, hne, show ¬ ((p.length : Nat) : Int) = (S.ships.length : Int) from by omega, show (((p.length : Nat) : Int) == (S.ships.length : Int)) = false from by simp; omega, show ¬ p.length = S.ships.length from by omega, show ¬ (0 : Int) = (S.ships.length : Int) from by omega, Shp.cells, hw]
          generalize hm : (shpAt S.ships p.length).room = room at hroom hQ ⊢
          refine pwp_loop (fun x : Nat × BestSt => [(45, .v (.int .i64 x.1)), (58, .undef), (59, .box false [.v (.int .i64 x.2.2)]), (60, .box false S.cells), (61, .box false [ints x.2.1]), (62, .box false [.clo (.func 75) [] [.ref 59 0, .ref 60 0, .ref 61 0, .ref 62 0]])]) (fun x => x.1 ≤ (room + 1).toNat ∧ srchN (srchC S c) p ((room + 1).toNat - x.1) x.1 x.2 = srchN (srchC S c) p (room + 1).toNat 0 (best, least)) (fun x => (room + 1).toNat - x.1) (0, (best, least)) ⟨Nat.zero_le _, rfl⟩ (by simp; rfl) (by simp [Sup.cells, brlL, burL, shpL, ints, Shp.cells]) ?_
          rintro ⟨k, bs, ls⟩ ⟨hk, hsr⟩
          simp only at hk hsr
          by_cases hkl : k < (room + 1).toNat
          · have hkr : (k : Int) < room + 1 := by omega
            have hwk := i64_wrap (show -9223372036854775808 ≤ (k : Int) + 1 ∧ _ from by omega)
            obtain ⟨j, hj⟩ : ∃ j, (room + 1).toNat - k = j + 1 := ⟨(room + 1).toNat - k - 1, by omega⟩
            have hj' : (room + 1).toNat - (k + 1) = j := by omega
            rw [hj, srchN] at hsr
            simp only at hsr
            simp (config := { maxSteps := 4000000 }) [hkr, Sup.cells, brlL, burL, shpL, ints]
            by_cases hz : ls = 0
            · rw [if_pos hz] at hsr
              simp (config := { maxSteps := 4000000 }) [hz]
              refine ends_n (.tup []) (bestH S (bs, ls)) [] rfl (by decide) ?_ ?_ (by rw [← hsr] at hQ; exact hQ)
              · simp (config := { maxSteps := 4000000 }) [bestH, Sup.cells, brlL, burL, shpL, ints, hz, Shp.cells]
              · simp
            · rw [if_neg hz] at hsr
              have hrec := ih (p ++ [(k : Int)]) (bs, ls) (by simp at hc ⊢; omega) (fun i hi => by
                rcases Nat.lt_or_eq_of_le (Nat.le_of_lt_succ (by simpa using hi : i < p.length + 1)) with hi' | rfl
                · rw [gi_pre hi']; exact he i hi'
                · have eg : gi (p ++ [(k : Int)]) p.length = k := by simp [gi]
                  have er : (shpAt S.ships p.length).room = room := hm
                  rw [eg, er]; omega)
              have hpv : planV (p ++ [(k : Int)]) = ints (p ++ [(k : Int)]) := by simp [planV]
              rw [hpv] at hrec
              simp (config := { maxSteps := 4000000 }) [hz]
              refine pwp_draw 6 (by decide) ?_
              simp (config := { maxSteps := 4000000 })
              refine pd_call (cloneI_spec p hp0 (by omega)) [58] (by simp [ints]) (by simp) (by simp [ints]) (by simp [backOk]) (by simp) ?_
              simp (config := { maxSteps := 4000000 }) [back, backV, placeAll, show (p.length + 1) * 8 ≤ 140737488355328 from by omega, show p.length + 1 ≤ maxLen from by simp [maxLen]; omega]
              refine ⟨by decide, ?_⟩
              generalize hst : srchC S c (p ++ [(k : Int)]) (bs, ls) = st2 at hrec hsr
              obtain ⟨bs2, ls2⟩ := st2
              refine pop_callF [(52, .undef), (54, .undef), (55, ints (p ++ [(k : Int)])), (58, .undef)] ?_ hrec rfl [59, 60, 61, 62] false (by decide) ?_ (.inl ?_) ?_
              · simp (config := { maxSteps := 4000000 }) [Sup.cells, brlL, burL, shpL, ints, Shp.cells, rowsI_snoc]
                intro k1 hk1
                rw [rowsI_get (by simp; omega)]
                simp
              · simp (config := { maxSteps := 4000000 }) [bestH, Sup.cells, brlL, burL, shpL, ints, Shp.cells]
              · simp [ints]
              rintro out rfl
              refine ⟨[], ?_, by simp, ?_, ?_⟩
              · simp [backOk, bestH]
              · simp (config := { maxSteps := 4000000 }) [back, backV, placeAll, bestH, Sup.cells, brlL, burL, shpL, ints, Shp.cells]
              simp (config := { maxSteps := 4000000 }) [back, backV, placeAll, bestH, Sup.cells, brlL, burL, shpL, ints, Shp.cells]
              refine again_of (k + 1, (bs2, ls2)) ⟨by simp only; omega, by simp only; rw [hj']; exact hsr⟩ (by simp only; omega) ?_
              simp (config := { maxSteps := 4000000 }) [hwk, Sup.cells, brlL, burL, shpL, ints, Shp.cells]
          · have hkr : ¬ (k : Int) < room + 1 := by omega
            rw [show (room + 1).toNat - k = 0 from by omega, srchN] at hsr
            simp (config := { maxSteps := 4000000 }) [hkr]
            refine ends_n (.tup []) (bestH S (bs, ls)) [] rfl (by decide) ?_ ?_ (by rw [← hsr] at hQ; exact hQ)
            · simp (config := { maxSteps := 4000000 }) [bestH, Sup.cells, brlL, burL, shpL, ints, Shp.cells]
            · simp
        · have e : prune S p (best, least) = true := by rw [hpr]; simp [h3]
          simp (config := { maxSteps := 4000000 }) [h3]
          refine ⟨by decide, ?_⟩
          refine ends_of (.tup []) (bestH S (best, least)) [] rfl (by decide) ?_ ?_ (by rw [hs1 e] at hQ; exact hQ)
          · simp (config := { maxSteps := 4000000 }) [bestH, Sup.cells, brlL, burL, shpL, ints]
          · simp
    · simp (config := { maxSteps := 4000000 }) [h1]
      refine pd_spec hunt (by simp [Sup.cells, brlL, burL, shpL, ints]) (by simp) (by simp [Sup.cells, brlL, burL, shpL, ints]) (by simp [Sup.cells, brlL, burL, shpL, ints]) ?_
      simp (config := { maxSteps := 4000000 }) [Sup.cells, brlL, burL, shpL, ints]
      refine pd_spec hhold (by simp [planV, hpne, Sup.cells, brlL, burL, shpL, ints]) (by simp) (by simp [planV, hpne, Sup.cells, brlL, burL, shpL, ints]) (by simp) ?_
      by_cases h3 : hh.rule = 1
      · have e : prune S p (best, least) = false := by rw [hpr]; simp [h1, h3]
        simp (config := { maxSteps := 4000000 }) [h3]
        refine ⟨by decide, ?_⟩
        have hlen : p.length < S.ships.length := by first | omega | (simp at hc; omega)
        have hne : ¬ S.ships = [] := fun h => by rw [h] at hlen; simp at hlen
        have hroom := hS.ship p.length hlen
        have hw := i64_wrap (show -9223372036854775808 ≤ (shpAt S.ships p.length).room + 1 ∧ _ from by omega)
        rw [hs2 e] at hQ
        simp (config := { maxSteps := 4000000 }) [hlen, hne, show ¬ ((p.length : Nat) : Int) = (S.ships.length : Int) from by omega, show (((p.length : Nat) : Int) == (S.ships.length : Int)) = false from by simp; omega, show ¬ p.length = S.ships.length from by omega, show ¬ (0 : Int) = (S.ships.length : Int) from by omega, Shp.cells, hw]
        generalize hm : (shpAt S.ships p.length).room = room at hroom hQ ⊢
        refine pwp_loop (fun x : Nat × BestSt => [(45, .v (.int .i64 x.1)), (58, .undef), (59, .box false [.v (.int .i64 x.2.2)]), (60, .box false S.cells), (61, .box false [ints x.2.1]), (62, .box false [.clo (.func 75) [] [.ref 59 0, .ref 60 0, .ref 61 0, .ref 62 0]])]) (fun x => x.1 ≤ (room + 1).toNat ∧ srchN (srchC S c) p ((room + 1).toNat - x.1) x.1 x.2 = srchN (srchC S c) p (room + 1).toNat 0 (best, least)) (fun x => (room + 1).toNat - x.1) (0, (best, least)) ⟨Nat.zero_le _, rfl⟩ (by simp; rfl) (by simp [Sup.cells, brlL, burL, shpL, ints, Shp.cells]) ?_
        rintro ⟨k, bs, ls⟩ ⟨hk, hsr⟩
        simp only at hk hsr
        by_cases hkl : k < (room + 1).toNat
        · have hkr : (k : Int) < room + 1 := by omega
          have hwk := i64_wrap (show -9223372036854775808 ≤ (k : Int) + 1 ∧ _ from by omega)
          obtain ⟨j, hj⟩ : ∃ j, (room + 1).toNat - k = j + 1 := ⟨(room + 1).toNat - k - 1, by omega⟩
          have hj' : (room + 1).toNat - (k + 1) = j := by omega
          rw [hj, srchN] at hsr
          simp only at hsr
          simp (config := { maxSteps := 4000000 }) [hkr, Sup.cells, brlL, burL, shpL, ints]
          by_cases hz : ls = 0
          · rw [if_pos hz] at hsr
            simp (config := { maxSteps := 4000000 }) [hz]
            refine ends_n (.tup []) (bestH S (bs, ls)) [] rfl (by decide) ?_ ?_ (by rw [← hsr] at hQ; exact hQ)
            · simp (config := { maxSteps := 4000000 }) [bestH, Sup.cells, brlL, burL, shpL, ints, hz, Shp.cells]
            · simp
          · rw [if_neg hz] at hsr
            have hrec := ih (p ++ [(k : Int)]) (bs, ls) (by simp at hc ⊢; omega) (fun i hi => by
              rcases Nat.lt_or_eq_of_le (Nat.le_of_lt_succ (by simpa using hi : i < p.length + 1)) with hi' | rfl
              · rw [gi_pre hi']; exact he i hi'
              · have eg : gi (p ++ [(k : Int)]) p.length = k := by simp [gi]
                have er : (shpAt S.ships p.length).room = room := hm
                rw [eg, er]; omega)
            have hpv : planV (p ++ [(k : Int)]) = ints (p ++ [(k : Int)]) := by simp [planV]
            rw [hpv] at hrec
            simp (config := { maxSteps := 4000000 }) [hz]
            refine pwp_draw 6 (by decide) ?_
            simp (config := { maxSteps := 4000000 })
            refine pd_call (cloneI_spec p hp0 (by omega)) [58] (by simp [ints]) (by simp) (by simp [ints]) (by simp [backOk]) (by simp) ?_
            simp (config := { maxSteps := 4000000 }) [back, backV, placeAll, show (p.length + 1) * 8 ≤ 140737488355328 from by omega, show p.length + 1 ≤ maxLen from by simp [maxLen]; omega]
            refine ⟨by decide, ?_⟩
            generalize hst : srchC S c (p ++ [(k : Int)]) (bs, ls) = st2 at hrec hsr
            obtain ⟨bs2, ls2⟩ := st2
            refine pop_callF [(52, .undef), (54, .undef), (55, ints (p ++ [(k : Int)])), (58, .undef)] ?_ hrec rfl [59, 60, 61, 62] false (by decide) ?_ (.inl ?_) ?_
            · simp (config := { maxSteps := 4000000 }) [Sup.cells, brlL, burL, shpL, ints, Shp.cells, rowsI_snoc]
              intro k1 hk1
              rw [rowsI_get (by simp; omega)]
              simp
            · simp (config := { maxSteps := 4000000 }) [bestH, Sup.cells, brlL, burL, shpL, ints, Shp.cells]
            · simp [ints]
            rintro out rfl
            refine ⟨[], ?_, by simp, ?_, ?_⟩
            · simp [backOk, bestH]
            · simp (config := { maxSteps := 4000000 }) [back, backV, placeAll, bestH, Sup.cells, brlL, burL, shpL, ints, Shp.cells]
            simp (config := { maxSteps := 4000000 }) [back, backV, placeAll, bestH, Sup.cells, brlL, burL, shpL, ints, Shp.cells]
            refine again_of (k + 1, (bs2, ls2)) ⟨by simp only; omega, by simp only; rw [hj']; exact hsr⟩ (by simp only; omega) ?_
            simp (config := { maxSteps := 4000000 }) [hwk, Sup.cells, brlL, burL, shpL, ints, Shp.cells]
        · have hkr : ¬ (k : Int) < room + 1 := by omega
          rw [show (room + 1).toNat - k = 0 from by omega, srchN] at hsr
          simp (config := { maxSteps := 4000000 }) [hkr]
          refine ends_n (.tup []) (bestH S (bs, ls)) [] rfl (by decide) ?_ ?_ (by rw [← hsr] at hQ; exact hQ)
          · simp (config := { maxSteps := 4000000 }) [bestH, Sup.cells, brlL, burL, shpL, ints, Shp.cells]
          · simp
      · have e : prune S p (best, least) = true := by rw [hpr]; simp [h3]
        simp (config := { maxSteps := 4000000 }) [h3]
        refine ⟨by decide, ?_⟩
        refine ends_of (.tup []) (bestH S (best, least)) [] rfl (by decide) ?_ ?_ (by rw [hs1 e] at hQ; exact hQ)
        · simp (config := { maxSteps := 4000000 }) [bestH, Sup.cells, brlL, burL, shpL, ints]
        · simp
theorem best1_spec (S : Sup) (hS : SupOk S) : ∀ (c : Nat) (p : List Int) (st : BestSt), p.length + c = S.ships.length → (∀ i, i < p.length → 0 ≤ gi p i ∧ gi p i ≤ (shpAt S.ships i).room) → CallW Try.prog 75 [planV p, .ref 0 0, .ref 1 0, .ref 2 0, .ref 3 0] (bestH S st) (fun out => out = .ret (.tup []) (bestH S (srchC S c p st)))
  | 0, p, st, hc, he => best1_zero S hS p st hc he
  | c + 1, p, st, hc, he => best1_succ S hS c (fun p st => best1_spec S hS c p st) p st hc he
end Go.Qg

namespace Go.Qg
open Go.Proofs
set_option maxRecDepth 100000
set_option linter.unusedSimpArgs false
set_option maxHeartbeats 4000000
attribute [local irreducible] pwp pops pdraw pop popCall pdCall thenP blockP scopeP pspec Spec answers ppost CallW
def bestP (S : Sup) : BestSt := srchC S S.ships.length [] ([], -1)
def bestRes (S : Sup) : PV := if supB S = true then (if (bestP S).2 < 0 then .tup [ints [], .v (.int .i64 0), .v (.int .i64 5)] else .tup [ints (bestP S).1, .v (.int .i64 (bestP S).2), .v (.int .i64 0)]) else .tup [ints [], .v (.int .i64 0), .v (.int .i64 2)]
theorem Best_spec (S : Sup) (hl : S.barrels.length ≤ 9223372036854775807) (hf : S.burns.length ≤ 9223372036854775807) (hs : S.ships.length ≤ 9223372036854775807) :
    Spec Try.prog 28 [.agg S.cells] (bestRes S) := by
  refine spec_of mixed Try.func28 (by decide) rfl Try.results28 Try.ntmps28 (by decide) 0 (by simp) ?_
  simp [Sup.cells, brlL, burL, shpL]
  refine pop_spec (supply_spec S hl hf hs) rfl false (.inl (by simp [Sup.cells, brlL, burL, shpL])) (.inl rfl) rfl (by simp) ?_
  cases h1 : supB S with
  | false =>
    simp
    refine answers_of (by simp; rfl) ?_; simp [bestRes, h1, ints]
  | true =>
    have hS := supB_ok h1
    have hrec := best1_spec S hS S.ships.length [] ([], -1) (by simp) (fun i hi => by simp at hi)
    change CallW _ _ _ _ (fun out => out = .ret (.tup []) (bestH S (bestP S))) at hrec
    have hres : bestRes S = (if (bestP S).2 < 0 then .tup [ints [], .v (.int .i64 0), .v (.int .i64 5)] else .tup [ints (bestP S).1, .v (.int .i64 (bestP S).2), .v (.int .i64 0)]) := by rw [bestRes, if_pos h1]
    rw [hres]
    generalize bestP S = st at hrec
    obtain ⟨best, least⟩ := st
    simp
    refine pop_callW hrec rfl [6, 1, 5, 7] false (by decide) ?_ (.inl ?_) ?_
    · simp [bestH, Sup.cells, brlL, burL, shpL, ints]
    · simp [planV]
    rintro out rfl
    refine ⟨[], ?_, by simp, ?_, ?_⟩
    · simp [backOk, bestH]
    · simp [back, backV, placeAll, bestH, Sup.cells, brlL, burL, shpL, ints]
    simp [back, backV, placeAll, bestH, Sup.cells, brlL, burL, shpL, ints]
    by_cases h2 : least < 0
    · simp [h2]
      refine answers_of (by simp; rfl) ?_; simp
    · simp [h2]
      refine pwp_draw 5 (by decide) ?_
      simp
      refine ⟨by decide, ?_⟩
      refine answers_of (by simp; rfl) ?_; simp
end Go.Qg

namespace Go.Qg
open Go.Proofs
set_option maxRecDepth 100000
set_option linter.unusedSimpArgs false
set_option maxHeartbeats 4000000
attribute [local irreducible] pwp pops pdraw pop popCall pdCall thenP blockP scopeP pspec Spec answers ppost CallW
@[simp] theorem range_13 : List.range 13 = [0, 1, 2, 3, 4, 5, 6, 7, 8, 9, 10, 11, 12] := rfl
@[simp] theorem range_14 : List.range 14 = [0, 1, 2, 3, 4, 5, 6, 7, 8, 9, 10, 11, 12, 13] := rfl
@[simp] theorem range_15 : List.range 15 = [0, 1, 2, 3, 4, 5, 6, 7, 8, 9, 10, 11, 12, 13, 14] := rfl
@[simp] theorem range_16 : List.range 16 = [0, 1, 2, 3, 4, 5, 6, 7, 8, 9, 10, 11, 12, 13, 14, 15] := rfl
@[simp] theorem range_17 : List.range 17 = [0, 1, 2, 3, 4, 5, 6, 7, 8, 9, 10, 11, 12, 13, 14, 15, 16] := rfl
@[simp] theorem range_18 : List.range 18 = [0, 1, 2, 3, 4, 5, 6, 7, 8, 9, 10, 11, 12, 13, 14, 15, 16, 17] := rfl
@[simp] theorem range_19 : List.range 19 = [0, 1, 2, 3, 4, 5, 6, 7, 8, 9, 10, 11, 12, 13, 14, 15, 16, 17, 18] := rfl
@[simp] theorem range_20 : List.range 20 = [0, 1, 2, 3, 4, 5, 6, 7, 8, 9, 10, 11, 12, 13, 14, 15, 16, 17, 18, 19] := rfl
@[simp] theorem range_21 : List.range 21 = [0, 1, 2, 3, 4, 5, 6, 7, 8, 9, 10, 11, 12, 13, 14, 15, 16, 17, 18, 19, 20] := rfl
@[simp] theorem range_22 : List.range 22 = [0, 1, 2, 3, 4, 5, 6, 7, 8, 9, 10, 11, 12, 13, 14, 15, 16, 17, 18, 19, 20, 21] := rfl
@[simp] theorem range_23 : List.range 23 = [0, 1, 2, 3, 4, 5, 6, 7, 8, 9, 10, 11, 12, 13, 14, 15, 16, 17, 18, 19, 20, 21, 22] := rfl
@[simp] theorem range_24 : List.range 24 = [0, 1, 2, 3, 4, 5, 6, 7, 8, 9, 10, 11, 12, 13, 14, 15, 16, 17, 18, 19, 20, 21, 22, 23] := rfl
@[simp] theorem range_25 : List.range 25 = [0, 1, 2, 3, 4, 5, 6, 7, 8, 9, 10, 11, 12, 13, 14, 15, 16, 17, 18, 19, 20, 21, 22, 23, 24] := rfl
@[simp] theorem range_26 : List.range 26 = [0, 1, 2, 3, 4, 5, 6, 7, 8, 9, 10, 11, 12, 13, 14, 15, 16, 17, 18, 19, 20, 21, 22, 23, 24, 25] := rfl
@[simp] theorem range_27 : List.range 27 = [0, 1, 2, 3, 4, 5, 6, 7, 8, 9, 10, 11, 12, 13, 14, 15, 16, 17, 18, 19, 20, 21, 22, 23, 24, 25, 26] := rfl
@[simp] theorem range_28 : List.range 28 = [0, 1, 2, 3, 4, 5, 6, 7, 8, 9, 10, 11, 12, 13, 14, 15, 16, 17, 18, 19, 20, 21, 22, 23, 24, 25, 26, 27] := rfl
@[simp] theorem range_29 : List.range 29 = [0, 1, 2, 3, 4, 5, 6, 7, 8, 9, 10, 11, 12, 13, 14, 15, 16, 17, 18, 19, 20, 21, 22, 23, 24, 25, 26, 27, 28] := rfl
@[simp] theorem range_30 : List.range 30 = [0, 1, 2, 3, 4, 5, 6, 7, 8, 9, 10, 11, 12, 13, 14, 15, 16, 17, 18, 19, 20, 21, 22, 23, 24, 25, 26, 27, 28, 29] := rfl
@[simp] theorem range_31 : List.range 31 = [0, 1, 2, 3, 4, 5, 6, 7, 8, 9, 10, 11, 12, 13, 14, 15, 16, 17, 18, 19, 20, 21, 22, 23, 24, 25, 26, 27, 28, 29, 30] := rfl
@[simp] theorem range_32 : List.range 32 = [0, 1, 2, 3, 4, 5, 6, 7, 8, 9, 10, 11, 12, 13, 14, 15, 16, 17, 18, 19, 20, 21, 22, 23, 24, 25, 26, 27, 28, 29, 30, 31] := rfl
@[simp] theorem range_33 : List.range 33 = [0, 1, 2, 3, 4, 5, 6, 7, 8, 9, 10, 11, 12, 13, 14, 15, 16, 17, 18, 19, 20, 21, 22, 23, 24, 25, 26, 27, 28, 29, 30, 31, 32] := rfl
@[simp] theorem range_34 : List.range 34 = [0, 1, 2, 3, 4, 5, 6, 7, 8, 9, 10, 11, 12, 13, 14, 15, 16, 17, 18, 19, 20, 21, 22, 23, 24, 25, 26, 27, 28, 29, 30, 31, 32, 33] := rfl
@[simp] theorem range_35 : List.range 35 = [0, 1, 2, 3, 4, 5, 6, 7, 8, 9, 10, 11, 12, 13, 14, 15, 16, 17, 18, 19, 20, 21, 22, 23, 24, 25, 26, 27, 28, 29, 30, 31, 32, 33, 34] := rfl
theorem lt2 {p : Nat → Prop} (h0 : p 0) (h1 : p 1) : ∀ k, k < 2 → p k
  | 0, _ => h0
  | 1, _ => h1
theorem lt3 {p : Nat → Prop} (h0 : p 0) (h1 : p 1) (h2 : p 2) : ∀ k, k < 3 → p k
  | 0, _ => h0
  | 1, _ => h1
  | 2, _ => h2
theorem lt4 {p : Nat → Prop} (h0 : p 0) (h1 : p 1) (h2 : p 2) (h3 : p 3) : ∀ k, k < 4 → p k
  | 0, _ => h0
  | 1, _ => h1
  | 2, _ => h2
  | 3, _ => h3
theorem lt5 {p : Nat → Prop} (h0 : p 0) (h1 : p 1) (h2 : p 2) (h3 : p 3) (h4 : p 4) : ∀ k, k < 5 → p k
  | 0, _ => h0
  | 1, _ => h1
  | 2, _ => h2
  | 3, _ => h3
  | 4, _ => h4
theorem lt6 {p : Nat → Prop} (h0 : p 0) (h1 : p 1) (h2 : p 2) (h3 : p 3) (h4 : p 4) (h5 : p 5) : ∀ k, k < 6 → p k
  | 0, _ => h0
  | 1, _ => h1
  | 2, _ => h2
  | 3, _ => h3
  | 4, _ => h4
  | 5, _ => h5
theorem lt7 {p : Nat → Prop} (h0 : p 0) (h1 : p 1) (h2 : p 2) (h3 : p 3) (h4 : p 4) (h5 : p 5) (h6 : p 6) : ∀ k, k < 7 → p k
  | 0, _ => h0
  | 1, _ => h1
  | 2, _ => h2
  | 3, _ => h3
  | 4, _ => h4
  | 5, _ => h5
  | 6, _ => h6
theorem lt8 {p : Nat → Prop} (h0 : p 0) (h1 : p 1) (h2 : p 2) (h3 : p 3) (h4 : p 4) (h5 : p 5) (h6 : p 6) (h7 : p 7) : ∀ k, k < 8 → p k
  | 0, _ => h0
  | 1, _ => h1
  | 2, _ => h2
  | 3, _ => h3
  | 4, _ => h4
  | 5, _ => h5
  | 6, _ => h6
  | 7, _ => h7
theorem lt9 {p : Nat → Prop} (h0 : p 0) (h1 : p 1) (h2 : p 2) (h3 : p 3) (h4 : p 4) (h5 : p 5) (h6 : p 6) (h7 : p 7) (h8 : p 8) : ∀ k, k < 9 → p k
  | 0, _ => h0
  | 1, _ => h1
  | 2, _ => h2
  | 3, _ => h3
  | 4, _ => h4
  | 5, _ => h5
  | 6, _ => h6
  | 7, _ => h7
  | 8, _ => h8
theorem lt10 {p : Nat → Prop} (h0 : p 0) (h1 : p 1) (h2 : p 2) (h3 : p 3) (h4 : p 4) (h5 : p 5) (h6 : p 6) (h7 : p 7) (h8 : p 8) (h9 : p 9) : ∀ k, k < 10 → p k
  | 0, _ => h0
  | 1, _ => h1
  | 2, _ => h2
  | 3, _ => h3
  | 4, _ => h4
  | 5, _ => h5
  | 6, _ => h6
  | 7, _ => h7
  | 8, _ => h8
  | 9, _ => h9
theorem lt11 {p : Nat → Prop} (h0 : p 0) (h1 : p 1) (h2 : p 2) (h3 : p 3) (h4 : p 4) (h5 : p 5) (h6 : p 6) (h7 : p 7) (h8 : p 8) (h9 : p 9) (h10 : p 10) : ∀ k, k < 11 → p k
  | 0, _ => h0
  | 1, _ => h1
  | 2, _ => h2
  | 3, _ => h3
  | 4, _ => h4
  | 5, _ => h5
  | 6, _ => h6
  | 7, _ => h7
  | 8, _ => h8
  | 9, _ => h9
  | 10, _ => h10
theorem lt12 {p : Nat → Prop} (h0 : p 0) (h1 : p 1) (h2 : p 2) (h3 : p 3) (h4 : p 4) (h5 : p 5) (h6 : p 6) (h7 : p 7) (h8 : p 8) (h9 : p 9) (h10 : p 10) (h11 : p 11) : ∀ k, k < 12 → p k
  | 0, _ => h0
  | 1, _ => h1
  | 2, _ => h2
  | 3, _ => h3
  | 4, _ => h4
  | 5, _ => h5
  | 6, _ => h6
  | 7, _ => h7
  | 8, _ => h8
  | 9, _ => h9
  | 10, _ => h10
  | 11, _ => h11
theorem ext_geti {a b : List Int} (h : a.length = b.length) (h2 : ∀ k, k < a.length → geti a k = geti b k) : a = b := by
  refine List.ext_getElem h fun i h3 h4 => ?_
  have := h2 i h3
  simpa [geti, h3, h4] using this
theorem ext_spn {a b : List Spn} (h : a.length = b.length) (h2 : ∀ k, k < a.length → spnAt a k = spnAt b k) : a = b := by
  refine List.ext_getElem h fun i h3 h4 => ?_
  have := h2 i h3
  simpa [spnAt, h3, h4] using this
theorem ext_brl {a b : List Brl} (h : a.length = b.length) (h2 : ∀ k, k < a.length → brlAt a k = brlAt b k) : a = b := by
  refine List.ext_getElem h fun i h3 h4 => ?_
  have := h2 i h3
  simpa [brlAt, h3, h4] using this
theorem Same_spec (a b : List Int) (ha : a.length ≤ 9223372036854775807) (hb : b.length ≤ 9223372036854775807) : Spec Try.prog 30 [ints a, ints b] (.v (.bool (decide (a = b)))) := by
  refine spec_of mixed Try.func30 (by decide) rfl Try.results30 Try.ntmps30 (by decide) 0 (by simp) ?_
  simp [ints]
  by_cases hl : a.length = b.length
  · simp [hl]
    refine pwp_loop (fun k : Nat => [(5, .v (.int .i64 k))]) (fun k => k ≤ b.length ∧ ∀ j, j < k → geti a j = geti b j) (fun k => b.length - k) 0 ⟨Nat.zero_le _, fun j hj => by omega⟩ (by simp; rfl) (by simp [hl]) ?_
    intro k ⟨hk, hp⟩
    by_cases hkl : k < b.length
    · have wk := i64_wrap (show -9223372036854775808 ≤ (k : Int) + 1 ∧ _ from by omega)
      simp [hkl, hl]
      refine pwp_draw 9 (by decide) ?_
      by_cases he : geti a k = geti b k
      · simp [hkl, hl, he]
        refine ⟨by decide, ?_⟩
        refine again_of (k + 1) ⟨by omega, fun j hj => ?_⟩ (by omega) ?_
        · rcases Nat.lt_succ_iff_lt_or_eq.1 hj with hj | rfl
          · exact hp j hj
          · exact he
        · simp [wk, hl]
      · simp [hkl, hl, he]
        refine ⟨by decide, ?_⟩
        have hne : ¬ a = b := fun h => he (by rw [h])
        refine answers_of rfl ?_; simp [hne]
    · simp [hkl]
      have heq : a = b := ext_geti hl fun j hj => hp j (by omega)
      refine answers_of rfl ?_; simp [heq]
  · simp [show ¬ (a.length : Int) = b.length from by omega]
    have hne : ¬ a = b := fun h => hl (by rw [h])
    refine answers_of rfl ?_; simp [hne]
theorem SameSpans_spec (a b : List Spn) (ha : a.length ≤ 9223372036854775807) (hb : b.length ≤ 9223372036854775807) : Spec Try.prog 37 [spnL a, spnL b] (.v (.bool (decide (a = b)))) := by
  refine spec_of mixed Try.func37 (by decide) rfl Try.results37 Try.ntmps37 (by decide) 0 (by simp) ?_
  simp [spnL]
  by_cases hl : a.length = b.length
  · simp [hl]
    refine pwp_loop (fun k : Nat => [(5, .v (.int .i64 k))]) (fun k => k ≤ b.length ∧ ∀ j, j < k → spnAt a j = spnAt b j) (fun k => b.length - k) 0 ⟨Nat.zero_le _, fun j hj => by omega⟩ (by simp; rfl) (by simp [hl]) ?_
    intro k ⟨hk, hp⟩
    by_cases hkl : k < b.length
    · have wk := i64_wrap (show -9223372036854775808 ≤ (k : Int) + 1 ∧ _ from by omega)
      simp [hkl, hl]
      refine pwp_draw 9 (by decide) ?_
      by_cases he : spnAt a k = spnAt b k
      · simp [hkl, hl, he, Spn.cells]
        refine ⟨by decide, ?_⟩
        refine again_of (k + 1) ⟨by omega, fun j hj => ?_⟩ (by omega) ?_
        · rcases Nat.lt_succ_iff_lt_or_eq.1 hj with hj | rfl
          · exact hp j hj
          · exact he
        · simp [wk, hl]
      · have hne : ¬ a = b := fun h => he (by rw [h])
        rw [Spn.eq_iff] at he
        by_cases h1 : (spnAt a k).low = (spnAt b k).low
        · have h2 : ¬ (spnAt a k).high = (spnAt b k).high := fun h => he ⟨h1, h⟩
          simp [hkl, hl, h1, h2, Spn.cells]
          refine ⟨by decide, ?_⟩
          refine answers_of rfl ?_; simp [hne]
        · simp [hkl, hl, h1, Spn.cells]
          refine ⟨by decide, ?_⟩
          refine answers_of rfl ?_; simp [hne]
    · simp [hkl]
      have heq : a = b := ext_spn hl fun j hj => hp j (by omega)
      refine answers_of rfl ?_; simp [heq]
  · simp [show ¬ (a.length : Int) = b.length from by omega]
    have hne : ¬ a = b := fun h => hl (by rw [h])
    refine answers_of rfl ?_; simp [hne]
theorem SameCache_spec (a b : List Brl) (ha : a.length ≤ 9223372036854775807) (hb : b.length ≤ 9223372036854775807) : Spec Try.prog 18 [.agg [brlL a], .agg [brlL b]] (.v (.bool (decide (a = b)))) := by
  refine spec_of mixed Try.func18 (by decide) rfl Try.results18 Try.ntmps18 (by decide) 0 (by simp) ?_
  simp [brlL]
  by_cases hl : a.length = b.length
  · simp [hl]
    refine pwp_loop (fun k : Nat => [(5, .v (.int .i64 k))]) (fun k => k ≤ b.length ∧ ∀ j, j < k → brlAt a j = brlAt b j) (fun k => b.length - k) 0 ⟨Nat.zero_le _, fun j hj => by omega⟩ (by simp; rfl) (by simp [hl]) ?_
    intro k ⟨hk, hp⟩
    by_cases hkl : k < b.length
    · have wk := i64_wrap (show -9223372036854775808 ≤ (k : Int) + 1 ∧ _ from by omega)
      simp [hkl, hl]
      refine pwp_draw 11 (by decide) ?_
      by_cases he : brlAt a k = brlAt b k
      · simp [hkl, hl, he, Brl.cells]
        refine ⟨by decide, ?_⟩
        refine again_of (k + 1) ⟨by omega, fun j hj => ?_⟩ (by omega) ?_
        · rcases Nat.lt_succ_iff_lt_or_eq.1 hj with hj | rfl
          · exact hp j hj
          · exact he
        · simp [wk, hl]
      · have hne : ¬ a = b := fun h => he (by rw [h])
        rw [Brl.eq_iff] at he
        by_cases h1 : (brlAt a k).kilos = (brlAt b k).kilos
        · have h2 : ¬ (brlAt a k).til = (brlAt b k).til := fun h => he ⟨h1, h⟩
          simp [hkl, hl, h1, h2, Brl.cells]
          refine ⟨by decide, ?_⟩
          refine answers_of rfl ?_; simp [hne]
        · simp [hkl, hl, h1, Brl.cells]
          refine ⟨by decide, ?_⟩
          refine answers_of rfl ?_; simp [hne]
    · simp [hkl]
      have heq : a = b := ext_brl hl fun j hj => hp j (by omega)
      refine answers_of rfl ?_; simp [heq]
  · simp [show ¬ (a.length : Int) = b.length from by omega]
    have hne : ¬ a = b := fun h => hl (by rw [h])
    refine answers_of rfl ?_; simp [hne]
def exC : List Brl := [⟨100, 9⟩, ⟨200, 5⟩, ⟨50, 9⟩, ⟨80, 2⟩]
def exS : Sup := ⟨exC, [⟨1, 60, 80⟩, ⟨4, 150, 200⟩, ⟨8, 100, 160⟩], [⟨3, 2, 500, 100, 9⟩, ⟨7, 3, 300, 150, 9⟩], 100⟩
def exL : List Cov := [⟨[⟨10, 20⟩], 3, 100, 2⟩, ⟨[], 1, 50, 9⟩]
def exV : List Snd := [⟨4, 0, 40, 60⟩, ⟨5, 1, 60, 70⟩, ⟨6, 0, 30, 50⟩, ⟨12, 0, 0, 0⟩]
theorem lCache_spec : Spec Try.prog 59 [] (.agg [brlL exC]) := by
  refine spec_of mixed Try.func59 (by decide) rfl Try.results59 Try.ntmps59 (by decide) 0 (by simp) ?_
  simp
  refine answers_of (x := .agg [.own 5 0 0 4 false]) (by simp) ?_
  simp [exC, brlL]
  refine lt4 ?_ ?_ ?_ ?_ <;> simp [brlAt, Brl.cells]
theorem lSupply_spec : Spec Try.prog 60 [] (.agg exS.cells) := by
  refine spec_of mixed Try.func60 (by decide) rfl Try.results60 Try.ntmps60 (by decide) 0 (by simp) ?_
  simp
  refine pop_spec lCache_spec rfl false (.inl (by simp)) (.inl rfl) rfl (by simp) ?_
  simp [brlL]
  refine answers_of (x := .agg [brlL exC, .own 8 0 0 3 false, .own 11 0 0 2 false, .v (.int .i64 100)]) (by simp [brlL]) ?_
  simp [exS, Sup.cells, brlL, burL, shpL]
  refine ⟨lt3 ?_ ?_ ?_, lt2 ?_ ?_⟩ <;> simp [burAt, Bur.cells, shpAt, Shp.cells]
theorem lCoves_spec : Spec Try.prog 61 [] (covL exL) := by
  refine spec_of mixed Try.func61 (by decide) rfl Try.results61 Try.ntmps61 (by decide) 0 (by simp) ?_
  simp
  refine answers_of (x := .own 5 0 0 2 false) (by simp) ?_
  simp [exL, covL]
  refine lt2 ?_ ?_
  · simp [covAt, Cov.cells, spnL, spnAt, Spn.cells]
  · simp [covAt, Cov.cells, spnL]
theorem lSounds_spec : Spec Try.prog 62 [] (sndL exV) := by
  refine spec_of mixed Try.func62 (by decide) rfl Try.results62 Try.ntmps62 (by decide) 0 (by simp) ?_
  simp
  refine answers_of (x := .own 8 0 0 4 false) (by simp) ?_
  simp [exV, sndL]
  refine lt4 ?_ ?_ ?_ ?_ <;> simp [sndAt, Snd.cells]
end Go.Qg

namespace Go.Qg
open Go.Proofs
set_option maxRecDepth 100000
set_option linter.unusedSimpArgs false
set_option maxHeartbeats 4000000
attribute [local irreducible] pwp pops pdraw pop popCall pdCall thenP blockP scopeP pspec Spec answers ppost CallW
theorem k_draw1 : (storedB exC && inB 3 0 400 && inB 220 0 30000) = true := by kernel_rfl
theorem k_draw2 : decide (220 ≤ hasL exC 3) = true := by kernel_rfl
theorem k_draw3 : drawL exC 3 220 = [⟨80, 9⟩, ⟨50, 9⟩, ⟨80, 2⟩] := by kernel_rfl
theorem k_play : playRes exS [0, 0] [70, 180, 120] = .tup [.agg (stockC 430 0 370 30 30), .agg [brlL [⟨30, 9⟩]], .v (.int .i64 (-1)), .v (.int .i64 0)] := by
  have h1 : playB exS [0, 0] [70, 180, 120] = true := by kernel_rfl
  have h2 : runP exS [0, 0] [70, 180, 120] (days exS) = (⟨[⟨30, 9⟩], 0, 370, 30, 2, 3⟩, false) := by kernel_rfl
  rw [playRes, if_pos h1, h2]; rfl
theorem k_best : bestRes exS = .tup [ints [0, 1], .v (.int .i64 450), .v (.int .i64 0)] := by
  have h1 : supB exS = true := by kernel_rfl
  have h2 : bestP exS = ([0, 1], 450) := by kernel_rfl
  rw [bestRes, if_pos h1, h2]; rfl
theorem k_quiet : quietRes exL exV = .tup [.v (.int .i64 1), .v (.int .i64 1), .v (.int .i64 0)] := by
  have h1 : quietB exL exV = 0 := by kernel_rfl
  have h2 : firstK (mayAt exL exV) exV.length = 1 := by kernel_rfl
  have h3 : firstK (sureAt exL exV) exV.length = 1 := by kernel_rfl
  rw [quietRes, if_pos h1, h2, h3]
theorem k_free : freeRes exL [⟨4, 0, 40, 60⟩] 0 ⟨40, 50⟩ = .tup [spnL [⟨0, 1⟩, ⟨7, 9⟩, ⟨21, 400⟩], .v (.int .i64 0)] := by
  have h1 : freeE exL [⟨4, 0, 40, 60⟩] 0 ⟨40, 50⟩ = 0 := by kernel_rfl
  have h2 : spansTo (freeP exL [⟨4, 0, 40, 60⟩] 0 ⟨40, 50⟩) 401 = [⟨0, 1⟩, ⟨7, 9⟩, ⟨21, 400⟩] := by kernel_rfl
  rw [freeRes, if_pos h1, h1, h2]
theorem exS_fit : exS.barrels.length ≤ 9223372036854775807 ∧ exS.burns.length ≤ 9223372036854775807 ∧ exS.ships.length ≤ 9223372036854775807 := by simp [exS, exC]
theorem exL_fit : ∀ k, k < exL.length → (covAt exL k).closed.length ≤ 9223372036854775807 := lt2 (by simp [exL, covAt]) (by simp [exL, covAt])
theorem known_spec : Spec Try.prog 16 [] (.v (.bool true)) := by
  have hdraw := Draw_spec exC 3 220 (by simp [exC])
  rw [if_pos k_draw1, if_pos (of_decide_eq_true k_draw2), k_draw3] at hdraw
  obtain ⟨f1, f2, f3⟩ := exS_fit
  have hplay := Play_spec exS [0, 0] [70, 180, 120] f1 f2 f3 (by simp) (by simp)
  rw [k_play] at hplay
  have hbest := Best_spec exS f1 f2 f3
  rw [k_best] at hbest
  have hquiet := Quiet_spec exL exV (by simp [exL]) (by simp [exV]) exL_fit
  rw [k_quiet] at hquiet
  have hfree := Free_spec exL [⟨4, 0, 40, 60⟩] 0 ⟨40, 50⟩ (by simp [exL]) (by simp) exL_fit
  rw [k_free] at hfree
  refine spec_of mixed Try.func16 (by decide) rfl Try.results16 Try.ntmps16 (by decide) 0 (by simp) ?_
  simp
  refine pop_spec lCache_spec rfl false (.inl (by simp)) (.inl rfl) rfl (by simp) ?_
  simp [brlL]
  refine pop_spec hdraw rfl false (.inl (by simp [brlL])) (.inl rfl) rfl (by simp) ?_
  simp [brlL]
  refine pop_spec lSupply_spec rfl false (.inl (by simp)) (.inl rfl) rfl (by simp) ?_
  simp [Sup.cells, brlL, burL, shpL]
  refine pop_specF [(22, ints [0, 0]), (23, ints [70, 180, 120])] ?_ hplay rfl false (.inl ?_) (.inl rfl) rfl (by simp [brlL]) ?_
  · simp [ints]
    refine ⟨lt2 ?_ ?_, lt3 ?_ ?_ ?_⟩ <;> simp [geti]
  · simp [Sup.cells, brlL, burL, shpL, ints]
  simp [brlL, stockC]
  refine pop_spec lSupply_spec rfl false (.inl (by simp)) (.inl rfl) rfl (by simp) ?_
  simp [Sup.cells, brlL, burL, shpL]
  refine pop_spec hbest rfl false (.inl (by simp [Sup.cells, brlL, burL, shpL])) (.inl rfl) rfl (by simp [ints]) ?_
  simp [ints]
  refine pop_spec lCoves_spec rfl false (.inl (by simp)) (.inl rfl) rfl (by simp [covL]) ?_
  simp [covL]
  refine pop_spec lSounds_spec rfl false (.inl (by simp)) (.inl rfl) rfl (by simp [sndL]) ?_
  simp [sndL]
  refine pop_spec hquiet rfl false (.inl (by simp [covL, sndL])) (.inl rfl) rfl (by simp) ?_
  simp
  refine pop_spec lCoves_spec rfl false (.inl (by simp)) (.inl rfl) rfl (by simp [covL]) ?_
  simp [covL]
  refine pop_spec lSounds_spec rfl false (.inl (by simp)) (.inl rfl) rfl (by simp [sndL]) ?_
  simp [sndL, show 1 ≤ exV.length from by simp [exV], show (1 : Int) ≤ exV.length from by simp [exV]]
  refine pop_spec hfree rfl false (.inl (by simp [covL, sndL, Spn.cells]; rfl)) (.inl rfl) rfl (by simp [spnL]) ?_
  simp [spnL]
  refine pop_spec (SameCache_spec [⟨80, 9⟩, ⟨50, 9⟩, ⟨80, 2⟩] [⟨80, 9⟩, ⟨50, 9⟩, ⟨80, 2⟩] (by simp) (by simp)) rfl true (.inl ?_) (.inr rfl) rfl (by simp) ?_
  · simp [brlL]
    refine lt3 ?_ ?_ ?_ <;> simp [brlAt, Brl.cells]
  simp [stockC]
  refine pop_spec (SameCache_spec [⟨30, 9⟩] [⟨30, 9⟩] (by simp) (by simp)) rfl true (.inl ?_) (.inr rfl) rfl (by simp) ?_
  · simp [brlL, brlAt, Brl.cells]
  simp
  refine pop_spec (Same_spec [0, 1] [0, 1] (by simp) (by simp)) rfl true (.inl ?_) (.inr rfl) rfl (by simp) ?_
  · simp [ints]
    refine lt2 ?_ ?_ <;> simp [geti]
  simp
  refine pop_spec (SameSpans_spec [⟨0, 1⟩, ⟨7, 9⟩, ⟨21, 400⟩] [⟨0, 1⟩, ⟨7, 9⟩, ⟨21, 400⟩] (by simp) (by simp)) rfl true (.inl ?_) (.inr rfl) rfl (by simp) ?_
  · simp [spnL]
    refine lt3 ?_ ?_ ?_ <;> simp [spnAt, Spn.cells]
  simp
  refine answers_of rfl ?_; simp
end Go.Qg

namespace Go.Qg
def dropO (e : Nat) (fr : PF) : PF := (fr.map fun p => if p.names.contains e then .undef else p).set e .undef
theorem weak_dmv {M : Nat} {fr g : PF} (d e : Nat) (hl : less M fr (dropO e fr)) (hd : objAt (dropO e fr) d = true) (hs : objAt (dropO e fr) e = false) (hlt : e < (dropO e fr).length) (hlo : d < M) (h3 : less M (mv d e (dropO e fr)) g) : Weak M fr g :=
  (weak_of_less hl).trans ((weak_of_mv hd hs hlt hlo).trans (weak_of_less h3))
theorem weak_mv {M : Nat} {fr g : PF} (d e : Nat) (hd : objAt fr d = true) (hs : objAt fr e = false) (hlt : e < fr.length) (hlo : d < M) (h3 : less M (mv d e fr) g) : Weak M fr g :=
  (weak_of_mv hd hs hlt hlo).trans (weak_of_less h3)
theorem againW_weak {σ : Type} {M : Nat} {H : σ → PF} {I : σ → Prop} {μ : σ → Nat} {s : σ} {fr : PF} (s' : σ) (h1 : I s') (h2 : μ s' < μ s) (h3 : Weak M fr (H s')) : againW M H I μ s fr := ⟨s', h1, h2, h3⟩
theorem pwp_loopM {P : Program} {M : Nat} {c : Code} {Q : PX → PF → Prop} {fr B : PF} {σ : Type} (V : σ → List (Nat × PV)) (I : σ → Prop) (μ : σ → Nat) (s0 : σ) (h0 : I s0) (_hB : forgetAll (dsts c) fr = B) (e0 : Weak M fr (apply (V s0) B))
    (round : ∀ s, I s → pwp P M c (thenP (againW M (fun s => apply (V s) B) I μ s) Q) (apply (V s) B)) : pwp P M (.loop c) Q fr := fun X hX hW => by
  refine hW _ _ e0 ?_
  have key : ∀ n s, μ s = n → I s → X (apply (V s) B) := by
    intro n
    induction n using Nat.strongRecOn with
    | _ n ih =>
      intro s hn hI
      refine hX _ (pwp_mono c (fun e fr' he => ?_) (round s hI))
      cases e with
      | normal =>
        obtain ⟨s', h1, h2, h3⟩ := he
        exact hW _ _ h3 (ih (μ s') (hn ▸ h2) s' rfl h1)
      | _ => exact he
  exact key _ s0 rfl h0
end Go.Qg
