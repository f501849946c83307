/-
  Lemmas and contracts that hold of the whole program: 1 texts in one.
  No condition.
-/
import Derived.Test.YtnjhblcfjhpoiaaDoorZYep1
set_option linter.all false

namespace Go.Qg
open Go.Proofs
set_option maxRecDepth 100000
set_option linter.unusedSimpArgs false
set_option maxHeartbeats 64000000
attribute [local irreducible] pwp pops pdraw pop popCall pdCall thenP blockP scopeP pspec Spec answers ppost CallW rend
theorem wr64 {x : Int} (h : Small 4000000000000000000 x) : IntKind.i64.wrap x = x := i64_wrap ⟨by have := h.1; omega, by have := h.2; omega⟩
theorem LoadAlong_spec (P : Pln) (fuel : Spn) (legs : List Leg) (f : Flt) (flown : Int) (hP : PlnLen P) (hl : LegsLen legs) (hf : FltLen f) :
    Spec Tryd.prog 3 [.agg P.cells, .agg fuel.cells, legL legs, .agg f.cells, .v (.int .i64 flown)] (.v (.bool true)) := by
  have hll := hl.n
  have href := refused_spec P fuel legs hP hl
  have htrip := Trip_spec P fuel legs hP hl
  have hfits := fits_spec P legs f hll hf
  simp only [Spn.cells] at href htrip
  refine spec_of mixed Tryd.func3 (by decide) rfl Tryd.results3 Tryd.ntmps3 (by decide) 0 (by simp) ?_
  simp [Pln.cells, cnrL, stnL, Spn.cells, legL, Flt.cells, inlL, ints]
  refine pop_spec (lshort_spec P) rfl false (.inl (by simp [Pln.cells, cnrL, stnL])) (.inl rfl) rfl (by simp) ?_
  cases g1 : shortB' P with
  | false =>
    simp
    refine pop_spec known_spec rfl false (.inl (by simp)) (.inl rfl) rfl (by simp) ?_
    simp
    refine answers_of rfl ?_; simp
  | true =>
    simp
    refine pop_spec (lfew_spec legs hll) rfl false (.inl (by simp [legL])) (.inl rfl) rfl (by simp) ?_
    cases g2 : fewB legs with
    | false =>
      simp
      refine pop_spec known_spec rfl false (.inl (by simp)) (.inl rfl) rfl (by simp) ?_
      simp
      refine answers_of rfl ?_; simp
    | true =>
      simp
      refine pop_spec href rfl false (.inl (by simp [Pln.cells, cnrL, stnL, legL])) (.inl rfl) rfl (by simp) ?_
      by_cases g3 : trippedE P fuel legs = 0
      case neg =>
        simp [g3]
        refine pop_spec known_spec rfl false (.inl (by simp)) (.inl rfl) rfl (by simp) ?_
        simp
        refine answers_of rfl ?_; simp
      simp [g3]
      rcases hfits with ⟨hfi, hfits⟩ | hfits
      case inr =>
        refine pop_spec hfits rfl false (.inl (by simp [Pln.cells, cnrL, stnL, legL, Flt.cells, inlL, ints])) (.inl rfl) rfl (by simp) ?_
        simp
        refine pop_spec known_spec rfl false (.inl (by simp)) (.inl rfl) rfl (by simp) ?_
        simp
        refine answers_of rfl ?_; simp
      refine pop_spec hfits rfl false (.inl (by simp [Pln.cells, cnrL, stnL, legL, Flt.cells, inlL, ints])) (.inl rfl) rfl (by simp) ?_
      by_cases q1 : flown < 0
      · simp [q1]
        refine pop_spec known_spec rfl false (.inl (by simp)) (.inl rfl) rfl (by simp) ?_
        simp
        refine answers_of rfl ?_; simp
      by_cases q2 : 100 < flown
      · simp [q1, q2]
        refine pop_spec known_spec rfl false (.inl (by simp)) (.inl rfl) rfl (by simp) ?_
        simp
        refine answers_of rfl ?_; simp
      simp [q1, q2]
      rw [tripRes_ok g3] at htrip
      obtain ⟨hpo, hto⟩ := tripped_ok.1 g3
      have hn6 := hto.n
      have w2 := wr64 (x := 2 * (legs.length : Int)) ⟨by omega, by omega⟩
      refine pop_spec htrip rfl false (.inl (by simp [Pln.cells, cnrL, stnL, legL])) (.inl rfl) rfl (by simp) ?_
      cases ht : tripP P fuel legs with
      | some j =>
        obtain ⟨t1, t2⟩ := trip_some ht
        simp [tripN, tripR, ht, w2, t2, show ¬ ((brokenP P (ptOf P fuel legs j)).1 : Int) = 1 from by omega, show ¬ (j : Int) < 0 from by omega, show ¬ (j : Int) < -1 from by omega, show ¬ (2 * (legs.length : Int) ≤ j) from by omega]
        refine pop_spec known_spec rfl false (.inl (by simp)) (.inl rfl) rfl (by simp) ?_
        simp
        refine answers_of rfl ?_; simp
      | none =>
        have hsure := trip_none.1 ht
        have hfl := fly_ok hto hfi
        have hpt := part_spec fuel f.fuel hto.fuel hfi.fuel
        simp only [Spn.cells] at hpt
        simp [tripN, tripR, ht, w2, show ¬ (2 * (legs.length : Int) ≤ -1) from by omega]
        refine pop_spec hpt rfl false (.inl (by simp)) (.inl rfl) rfl (by simp) ?_
        have hnf := hpo.nf
        simp [guard, show 8 * (P.floats.length : Int) ≤ 281474976710656 from by omega, show (P.floats.length : Int) ≤ 9223372036854775807 from by omega]
        generalize partI fuel f.fuel = t0 at hfl
        have hz := waL_zero legs (flL legs f) P.floats.length
        refine pwp_loop (fun i : Nat => [(15, .v (.int .i64 (tkT legs t0 (flB legs f) i))), (16, .own 99 0 0 P.floats.length false), (17, .v (.int .i64 i)), (99, .rows none 0 3 1 (rowsI (waL legs (flL legs f) P.floats.length i)))]) (fun i => i ≤ legs.length) (fun i => legs.length - i) 0 (Nat.zero_le _) (by simp (config := { maxSteps := 5000000 }); rfl) (by simp (config := { maxSteps := 5000000 }) [hz, tkT, rowsI_rep]) ?_
        intro i hi
        by_cases hil : i < legs.length
        · have hn := fly_n hto hfl hil
          have hal := along_law hto hsure hfl hil (f := flown) ⟨by omega, by omega⟩
          have hlo := hto.leg i hil
          have hfit := hfi.leg i hil
          have hb := part_spec (legAt legs i).burn (geti f.burn i) hlo.burn hfit.burn
          simp only [Spn.cells] at hb
          have hib : i < f.burn.length := by have := hfi.b; omega
          have hii : i < f.items.length := by have := hfi.i; omega
          have hil2 : i < f.leak.length := by have := hfi.l; omega
          have n1 := hn.tank
          have n2 := hn.fuel
          have n3 := hn.nb
          have n4 := hpo.empty
          have n5 := hpo.moment
          have n6 := hpo.tank.1
          have wi := i64_wrap (show -9223372036854775808 ≤ (i : Int) + 1 ∧ _ from by omega)
          have hst : ∀ j, j < (legAt legs i).items.length → (itmAt (legAt legs i).items j).station.toNat < P.stations.length := fun j hj => by have := (hlo.item j hj).1; omega
          have eb : partI (legAt legs i).burn (geti f.burn i) = flB legs f i := rfl
          rw [eb] at hb
          have e1 := mul_small (x := tkT legs t0 (flB legs f) i + (legAt legs i).fuel) (y := P.tank.arm) (a := 160000) (b := 1000) (by unfold Small at *; omega) ⟨by omega, by omega⟩ (by omega) (by omega)
          have e2 := mul_small (x := flown) (y := flB legs f i) (a := 100) (b := 20000) ⟨by omega, by omega⟩ ⟨by omega, by omega⟩ (by omega) (by omega)
          have e3 := mul_small (x := flown * flB legs f i) (y := P.tank.arm) (a := 100 * 20000) (b := 1000) e2 ⟨by omega, by omega⟩ (by omega) (by omega)
          have a0 := wr64 (x := tkT legs t0 (flB legs f) i + (legAt legs i).fuel) (by unfold Small at *; omega)
          have a1 := wr64 (x := P.empty + (tkT legs t0 (flB legs f) i + (legAt legs i).fuel)) (by unfold Small at *; omega)
          have a2 := wr64 (x := 100 * (P.empty + (tkT legs t0 (flB legs f) i + (legAt legs i).fuel))) (by unfold Small at *; omega)
          have a3 := wr64 (x := flown * flB legs f i) (by unfold Small at *; omega)
          have a4 := wr64 (x := 100 * (P.empty + (tkT legs t0 (flB legs f) i + (legAt legs i).fuel)) - flown * flB legs f i) (by unfold Small at *; omega)
          have b1 := wr64 (x := (tkT legs t0 (flB legs f) i + (legAt legs i).fuel) * P.tank.arm) (by unfold Small at *; omega)
          have b2 := wr64 (x := P.moment + (tkT legs t0 (flB legs f) i + (legAt legs i).fuel) * P.tank.arm) (by unfold Small at *; omega)
          have b3 := wr64 (x := 100 * (P.moment + (tkT legs t0 (flB legs f) i + (legAt legs i).fuel) * P.tank.arm)) (by unfold Small at *; omega)
          have b4 := wr64 (x := flown * flB legs f i * P.tank.arm) (by unfold Small at *; omega)
          have b5 := wr64 (x := 100 * (P.moment + (tkT legs t0 (flB legs f) i + (legAt legs i).fuel) * P.tank.arm) - flown * flB legs f i * P.tank.arm) (by unfold Small at *; omega)
          simp [hil, hib, Leg.cells, itmL, a0]
          refine pwp_draw 9 (by decide) ?_
          simp [hib]
          refine pd_spec hb rfl (by simp) (by simp) rfl ?_
          simp
          refine ⟨by decide, ?_⟩
          refine pwp_draw 28 (by decide) ?_
          simp (config := { maxSteps := 5000000 }) [a1, a2, a3, a4, b1, b2, b3, b4, b5]
          refine ⟨by decide, ?_⟩
          refine pwp_loop (fun j : Nat => [(20, .v (.int .i64 (wIt P legs t0 (flB legs f) (flI legs f) i flown j))), (21, .v (.int .i64 (mIt P legs t0 (flB legs f) (flI legs f) i flown j))), (22, .v (.int .i64 j))]) (fun j => j ≤ (legAt legs i).items.length) (fun j => (legAt legs i).items.length - j) 0 (Nat.zero_le _) (by simp (config := { maxSteps := 5000000 }); rfl) (by simp (config := { maxSteps := 5000000 }) [wIt, mIt, sumN]) ?_
          intro j hj
          by_cases hjl : j < (legAt legs i).items.length
          · have hjl2 : j < (inlAt f.items i).length := by rw [hfit.ni]; exact hjl
            have hit := hlo.item j hjl
            obtain ⟨s, hs⟩ : ∃ s : Nat, (itmAt (legAt legs i).items j).station = (s : Int) := ⟨_, (Int.toNat_of_nonneg hit.1.1).symm⟩
            have hsl : s < P.stations.length := by have := hit.1.2; omega
            have hpi := part_spec ⟨(itmAt (legAt legs i).items j).low, (itmAt (legAt legs i).items j).high⟩ (geti (inlAt f.items i) j) hit.2 (hfit.item j hjl2)
            simp only [Spn.cells] at hpi
            have ei : partI ⟨(itmAt (legAt legs i).items j).low, (itmAt (legAt legs i).items j).high⟩ (geti (inlAt f.items i) j) = flI legs f i j := rfl
            rw [ei] at hpi
            have hni := hn.nit j hjl
            have c0 := wIt_small (f := flown) hpo hlo.n hn ⟨by omega, by omega⟩ (j := j) (by omega)
            have c1 := wIt_small (f := flown) hpo hlo.n hn ⟨by omega, by omega⟩ (j := j + 1) (by omega)
            have d0 := mIt_small (f := flown) hpo hlo.n hst hn ⟨by omega, by omega⟩ (j := j) (by omega)
            have d1 := mIt_small (f := flown) hpo hlo.n hst hn ⟨by omega, by omega⟩ (j := j + 1) (by omega)
            rw [wIt_succ] at c1
            rw [mIt_succ, hs, Int.toNat_natCast] at d1
            have sa := (hpo.station s hsl).1
            have k1 := mul_small (x := 100 * flI legs f i j) (y := (stnAt P.stations s).arm) (a := 2000000) (b := 1000) ⟨by omega, by omega⟩ ⟨by omega, by omega⟩ (by omega) (by omega)
            have f1 := wr64 (x := 100 * flI legs f i j) ⟨by omega, by omega⟩
            have f2 := wr64 (x := wIt P legs t0 (flB legs f) (flI legs f) i flown j + 100 * flI legs f i j) (by unfold Small at *; omega)
            have f3 := wr64 (x := 100 * flI legs f i j * (stnAt P.stations s).arm) (by unfold Small at *; omega)
            have f4 := wr64 (x := mIt P legs t0 (flB legs f) (flI legs f) i flown j + 100 * flI legs f i j * (stnAt P.stations s).arm) (by unfold Small at *; omega)
            have hx := hlo.n
            have wj := i64_wrap (show -9223372036854775808 ≤ (j : Int) + 1 ∧ _ from by omega)
            simp (config := { maxSteps := 5000000 }) [hil, hjl, hii, hjl2, itmL, Itm.cells]
            refine pwp_draw 16 (by decide) ?_
            simp (config := { maxSteps := 5000000 }) [hil, hjl, hii, hjl2, itmL, Itm.cells]
            refine pd_spec hpi rfl (by simp) (by simp) rfl ?_
            simp
            refine ⟨by decide, ?_⟩
            refine pwp_draw 22 (by decide) ?_
            simp (config := { maxSteps := 5000000 }) [hjl, hs, hsl, itmL, Itm.cells, Stn.cells, f1, f2, f3, f4]
            refine ⟨by decide, ?_⟩
            refine again_of (j + 1) (by omega) (by omega) ?_
            simp (config := { maxSteps := 5000000 }) [wj, wIt_succ, mIt_succ, hs]
          · obtain rfl : j = (legAt legs i).items.length := by omega
            simp (config := { maxSteps := 5000000 })
            refine pwp_loop (fun k : Nat => [(16, .own 99 0 0 P.floats.length false), (20, .v (.int .i64 (wFl P legs t0 (flB legs f) (flI legs f) (flL legs f) i flown k))), (21, .v (.int .i64 (mFl P legs t0 (flB legs f) (flI legs f) (flL legs f) i flown k))), (24, .v (.int .i64 k)), (99, .rows none 0 3 1 (rowsI (waM legs (flL legs f) P.floats.length i k)))]) (fun k => k ≤ P.floats.length) (fun k => P.floats.length - k) 0 (Nat.zero_le _) (by simp (config := { maxSteps := 5000000 }); rfl) (by simp (config := { maxSteps := 5000000 }) [waM_zero, wFl, mFl, sumN]) ?_
            intro k hk
            by_cases hkl : k < P.floats.length
            · have hkl2 : k < (inlAt f.leak i).length := by rw [hfit.nl]; exact hkl
              have hpl := part_spec (legAt legs i).leak (geti (inlAt f.leak i) k) hlo.leak (hfit.leak k hkl2)
              simp only [Spn.cells] at hpl
              have el : partI (legAt legs i).leak (geti (inlAt f.leak i) k) = flL legs f i k := rfl
              rw [el] at hpl
              have hnl := hn.nlk k hkl
              have hwa := hn.wa k hkl
              have hwg := wg_in (legs := legs) (i := i) hwa
              have gk := waM_get (legs := legs) (lk := flL legs f) (i := i) hkl
              have sk := waM_set (legs := legs) (lk := flL legs f) (i := i) hkl
              have wet := hal.wet k hkl
              have ewa : waT legs (flL legs f) (i + 1) k = wgT legs (waT legs (flL legs f) i) i k + flL legs f i k := rfl
              rw [ewa] at wet
              have c0 := wFl_small (f := flown) hpo hlo.n hn ⟨by omega, by omega⟩ (k := k) (by omega)
              have c1 := wFl_small (f := flown) hpo hlo.n hn ⟨by omega, by omega⟩ (k := k + 1) (by omega)
              have d0 := mFl_small (f := flown) hpo hlo.n hst hn ⟨by omega, by omega⟩ (k := k) (by omega)
              have d1 := mFl_small (f := flown) hpo hlo.n hst hn ⟨by omega, by omega⟩ (k := k + 1) (by omega)
              rw [wFl_succ] at c1
              rw [mFl_succ] at d1
              have wk := i64_wrap (show -9223372036854775808 ≤ (k : Int) + 1 ∧ _ from by omega)
              have hx := hpo.nf
              have hmst := (hpo.float k hkl).2
              have harm := (hpo.float k hkl).1
              have earm : armF P k = (stnAt P.floats k).arm := rfl
              rw [earm] at d1
              have k1 := mul_small (x := flown) (y := flL legs f i k) (a := 100) (b := 20000) ⟨by omega, by omega⟩ ⟨by omega, by omega⟩ (by omega) (by omega)
              generalize hG : wgT legs (waT legs (flL legs f) i) i k = G at *
              have k2 := mul_small (x := 100 * G + flown * flL legs f i k) (y := (stnAt P.floats k).arm) (a := 14000000) (b := 1000) (by unfold Small at *; omega) ⟨by omega, by omega⟩ (by omega) (by omega)
              have gk2 : geti (waM legs (flL legs f) P.floats.length i (k + 1)) k = G + flL legs f i k := by
                rw [← sk]; simp [geti, hkl]
              have u1 := wr64 (x := 100 * G) ⟨by omega, by omega⟩
              have u2 := wr64 (x := flown * flL legs f i k) (by unfold Small at *; omega)
              have u3 := wr64 (x := 100 * G + flown * flL legs f i k) (by unfold Small at *; omega)
              have u4 := wr64 (x := wFl P legs t0 (flB legs f) (flI legs f) (flL legs f) i flown k + (100 * G + flown * flL legs f i k)) (by unfold Small at *; omega)
              have u5 := wr64 (x := (100 * G + flown * flL legs f i k) * (stnAt P.floats k).arm) (by unfold Small at *; omega)
              have u6 := wr64 (x := mFl P legs t0 (flB legs f) (flI legs f) (flL legs f) i flown k + (100 * G + flown * flL legs f i k) * (stnAt P.floats k).arm) (by unfold Small at *; omega)
              have u7 := wr64 (x := G + flL legs f i k) ⟨by omega, by omega⟩
              cases hpump : (legAt legs i).pump with
              | false =>
                have eg : waT legs (flL legs f) i k = G := by rw [← hG]; simp [wgT, hpump]
                rw [eg] at gk
                simp (config := { maxSteps := 5000000 }) [hpump, hil, hil2, hkl, hkl2]
                refine pwp_draw 20 (by decide) ?_
                simp (config := { maxSteps := 5000000 }) [hkl, hil2, hkl2, gk, u1]
                refine pd_spec hpl rfl (by simp) (by simp) rfl ?_
                simp (config := { maxSteps := 5000000 }) [u2, u3]
                refine ⟨by decide +kernel, ?_⟩
                refine pwp_draw 15 (by decide) ?_
                simp (config := { maxSteps := 5000000 }) [hkl, Stn.cells, u4, u5, u6]
                refine ⟨by decide +kernel, ?_⟩
                refine pwp_draw 20 (by decide) ?_
                simp (config := { maxSteps := 5000000 }) [hkl, hil2, hkl2, gk]
                refine pd_spec hpl rfl (by simp) (by simp) rfl ?_
                simp (config := { maxSteps := 5000000 }) [hkl, u7, rowsI_set, sk]
                refine ⟨by decide +kernel, ?_⟩
                refine pwp_draw 11 (by decide) ?_
                simp (config := { maxSteps := 5000000 }) [hkl, Stn.cells, gk2, Int.not_lt.2 wet]
                refine ⟨by decide +kernel, ?_⟩
                refine again_of (k + 1) (by omega) (by omega) ?_
                simp (config := { maxSteps := 5000000 }) [wk, wFl_succ, mFl_succ, hG, earm]
              | true =>
                have eg : G = 0 := by rw [← hG]; simp [wgT, hpump]
                subst eg
                simp only [Int.mul_zero, Int.zero_add] at u1 u2 u3 u4 u5 u6 u7 sk wet gk2 c1 d1
                have gk : geti ((waM legs (flL legs f) P.floats.length i k).set k 0) k = 0 := by simp [geti, hkl]
                simp (config := { maxSteps := 5000000 }) [hpump, hil, hil2, hkl, hkl2, rowsI_set]
                refine pwp_draw 20 (by decide) ?_
                simp (config := { maxSteps := 5000000 }) [hkl, hil2, hkl2, gk, u1]
                refine pd_spec hpl rfl (by simp) (by simp) rfl ?_
                simp (config := { maxSteps := 5000000 }) [u2, u3]
                refine ⟨by decide +kernel, ?_⟩
                refine pwp_draw 15 (by decide) ?_
                simp (config := { maxSteps := 5000000 }) [hkl, Stn.cells, u4, u5, u6]
                refine ⟨by decide +kernel, ?_⟩
                refine pwp_draw 20 (by decide) ?_
                simp (config := { maxSteps := 5000000 }) [hkl, hil2, hkl2, gk]
                refine pd_spec hpl rfl (by simp) (by simp) rfl ?_
                simp (config := { maxSteps := 5000000 }) [hkl, u7, rowsI_set, sk, List.set_set]
                refine ⟨by decide +kernel, ?_⟩
                refine pwp_draw 11 (by decide) ?_
                simp (config := { maxSteps := 5000000 }) [hkl, Stn.cells, gk2, Int.not_lt.2 wet]
                refine ⟨by decide +kernel, ?_⟩
                refine again_of (k + 1) (by omega) (by omega) ?_
                simp (config := { maxSteps := 5000000 }) [wk, wFl_succ, mFl_succ, hG, earm]
            · obtain rfl : k = P.floats.length := by omega
              rw [waM_all, wFl_all, mFl_all]
              simp (config := { maxSteps := 5000000 })
              refine pwp_loop (fun e : Nat => [(26, .v (.int .i64 e))]) (fun e => e ≤ P.corners.length) (fun e => P.corners.length - e) 0 (Nat.zero_le _) (by simp (config := { maxSteps := 5000000 }); rfl) (by simp (config := { maxSteps := 5000000 })) ?_
              intro e he
              have hcr := hpo.corner
              have hn12 := hpo.n
              have hne : ¬ P.corners = [] := fun h => by rw [h] at hn12; simp at hn12
              by_cases hel : e < P.corners.length
              · obtain ⟨z, hz'⟩ : ∃ z : Nat, z = (e + 1) % P.corners.length := ⟨_, rfl⟩
                have hzi : ((e : Int) + 1).tmod (P.corners.length : Int) = (z : Int) := by rw [hz']; rfl
                have hzl : z < P.corners.length := by rw [hz']; exact Nat.mod_lt _ (by omega)
                have we := i64_wrap (show -9223372036854775808 ≤ (e : Int) + 1 ∧ _ from by omega)
                have hins := hal.inside e hel
                have hA : P.cA e = cnrAt P.corners e := rfl
                have hB : P.cB e = cnrAt P.corners z := by rw [hz']; rfl
                have hdw : P.dw e = (cnrAt P.corners z).weight - (cnrAt P.corners e).weight := by rw [Pln.dw, hA, hB]
                have hdm : P.dm e = (cnrAt P.corners z).moment - (cnrAt P.corners e).moment := by rw [Pln.dm, hA, hB]
                rw [hdw, hdm, hA] at hins
                have cz := hcr z hzl
                have ce := hcr e hel
                have cw := wFl_small (f := flown) hpo hlo.n hn ⟨by omega, by omega⟩ (Nat.le_refl P.floats.length)
                have cm := mFl_small (f := flown) hpo hlo.n hst hn ⟨by omega, by omega⟩ (Nat.le_refl P.floats.length)
                rw [wFl_all] at cw
                rw [mFl_all] at cm
                generalize w100 P legs t0 (flB legs f) (flI legs f) (flL legs f) i flown = W at *
                generalize m100 P legs t0 (flB legs f) (flI legs f) (flL legs f) i flown = M at *
                have p1 := mul_small (x := (cnrAt P.corners z).weight - (cnrAt P.corners e).weight) (y := M - 100 * (cnrAt P.corners e).moment) (a := 40000) (b := 200000000000) ⟨by omega, by omega⟩ (by unfold Small at *; omega) (by omega) (by omega)
                have p2 := mul_small (x := (cnrAt P.corners z).moment - (cnrAt P.corners e).moment) (y := W - 100 * (cnrAt P.corners e).weight) (a := 40000000) (b := 200000000) ⟨by omega, by omega⟩ (by unfold Small at *; omega) (by omega) (by omega)
                have v1 := wr64 (x := (cnrAt P.corners z).weight - (cnrAt P.corners e).weight) ⟨by omega, by omega⟩
                have v2 := wr64 (x := 100 * (cnrAt P.corners e).moment) ⟨by omega, by omega⟩
                have v3 := wr64 (x := M - 100 * (cnrAt P.corners e).moment) (by unfold Small at *; omega)
                have v4 := wr64 (x := ((cnrAt P.corners z).weight - (cnrAt P.corners e).weight) * (M - 100 * (cnrAt P.corners e).moment)) (by unfold Small at *; omega)
                have v5 := wr64 (x := (cnrAt P.corners z).moment - (cnrAt P.corners e).moment) ⟨by omega, by omega⟩
                have v6 := wr64 (x := 100 * (cnrAt P.corners e).weight) ⟨by omega, by omega⟩
                have v7 := wr64 (x := W - 100 * (cnrAt P.corners e).weight) (by unfold Small at *; omega)
                have v8 := wr64 (x := ((cnrAt P.corners z).moment - (cnrAt P.corners e).moment) * (W - 100 * (cnrAt P.corners e).weight)) (by unfold Small at *; omega)
                have v9 := wr64 (x := ((cnrAt P.corners z).weight - (cnrAt P.corners e).weight) * (M - 100 * (cnrAt P.corners e).moment) - ((cnrAt P.corners z).moment - (cnrAt P.corners e).moment) * (W - 100 * (cnrAt P.corners e).weight)) (by unfold Small at *; omega)
                have hnl := Int.not_lt.2 hins
                simp (config := { maxSteps := 5000000 }) [hel]
                refine pwp_draw 19 (by decide) ?_
                simp (config := { maxSteps := 5000000 }) [hel, we, hzi, hzl, hne, Cnr.cells, v1, v2, v3, v4, v5, v6, v7, v8, v9, hnl]
                refine ⟨by decide +kernel, ?_⟩
                refine again_of (e + 1) (by omega) (by omega) ?_
                simp (config := { maxSteps := 5000000 }) [we]
              · obtain rfl : e = P.corners.length := by omega
                have hres := hal.reserve
                have hhv := hal.heavy
                have etk : tkT legs t0 (flB legs f) (i + 1) = tkT legs t0 (flB legs f) i + (legAt legs i).fuel - flB legs f i := rfl
                rw [etk] at hres
                have cw := wFl_small (f := flown) hpo hlo.n hn ⟨by omega, by omega⟩ (Nat.le_refl P.floats.length)
                rw [wFl_all] at cw
                have x1 := wr64 (x := tkT legs t0 (flB legs f) i + (legAt legs i).fuel - flB legs f i) (by unfold Small at *; omega)
                have hto' := hpo.takeoff
                have hla := hpo.landing
                have emx : (if P.takeoff < P.landing then P.landing else P.takeoff) = max P.takeoff P.landing := by split <;> omega
                have x2 := wr64 (x := 100 * max P.takeoff P.landing) ⟨by omega, by omega⟩
                simp (config := { maxSteps := 5000000 }) [x1, Int.not_lt.2 hres, hres, emx, x2, Int.not_lt.2 hhv, hhv]
                refine again_of (i + 1) (by omega) (by omega) ?_
                simp (config := { maxSteps := 5000000 }) [wi, etk]
        · obtain rfl : i = legs.length := by omega
          simp
          refine pop_spec known_spec rfl false (.inl (by simp)) (.inl rfl) rfl (by simp) ?_
          simp
          refine answers_of rfl ?_; simp
end Go.Qg

