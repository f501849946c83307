/-
  Lemmas and contracts that hold of the whole program: 1 texts in one.
  No condition.
-/
import Derived.Test.YtedglnagjjplbaaGreatZTrRp4
set_option linter.all false

namespace Go.Qg
open Go.Proofs
set_option maxRecDepth 100000
set_option maxHeartbeats 64000000
attribute [local simp 2000] List.getElem?_cons_succ List.getElem?_cons_zero
attribute [local irreducible] pwp pops pdraw pop popCall pdCall thenP blockP scopeP pspec Spec answers ppost CallW rend
def stopF (s : SeaD) (l : List Stp) (n : Ned) (turns : List Int) (i : Nat) : Hst := ⟨sureWs s (stpAt l i) n, geti turns i⟩
def stopsL (s : SeaD) (l : List Stp) (n : Ned) (turns : List Int) (k : Nat) : List Hst := (List.range k).map (stopF s l n turns)
theorem stopsL_at {s : SeaD} {l : List Stp} {n : Ned} {turns : List Int} {k i : Nat} (h : i < k) : hstAt (stopsL s l n turns k) i = stopF s l n turns i := by simp [hstAt, stopsL, h]
theorem stopsL_length (s : SeaD) (l : List Stp) (n : Ned) (turns : List Int) (k : Nat) : (stopsL s l n turns k).length = k := by simp [stopsL]
theorem asked0 {s : SeaD} {p : Stp} {n : Ned} (h1 : seaB s = true) (h2 : stripB s p = true) (h3 : needB n = true) (h4 : soundB s = true) : askedE s p n 0 = 0 := by
  rw [askedE, h1, h2, h3, h4]; rfl
theorem sureWs_len (s : SeaD) (p : Stp) (n : Ned) : (sureWs s p n).length ≤ 1441 := spansP_length _ _
def chnD (s : SeaD) (l : List Stp) (n : Ned) (turns : List Int) (legs : List Spn) : Chn := ⟨stopsL s l n turns l.length, legs⟩
theorem ridden_law {s : SeaD} {l : List Stp} {n : Ned} {turns : List Int} {legs : List Spn} {fl : List Int} {m : Nat} (hr : rideE (chnD s l n turns legs) fl m = true) (h0 : goodR (chnD s l n turns legs) legs.length 0 m = true) :
    (rideS (chnD s l n turns legs) (goodR (chnD s l n turns legs) legs.length) fl m fl.length).2.length = 2 * legs.length ∧ ∀ j, j < 2 * legs.length → (j + 1) / 2 < l.length ∧ ∃ u : Nat, geti (rideS (chnD s l n turns legs) (goodR (chnD s l n turns legs) legs.length) fl m fl.length).2 j = u ∧ u < 1441 ∧ sureW s (stpAt l ((j + 1) / 2)) n u = true := by
  simp only [rideE, Bool.and_eq_true, decide_eq_true_eq, allN_spec] at hr
  obtain ⟨⟨⟨h1, h2⟩, h3⟩, h4⟩ := hr
  have ho := chainB_ok h1
  have hn := ho.n
  have hlg := ho.legs
  have e1 : (chnD s l n turns legs).stops.length = l.length := stopsL_length _ _ _ _ _
  have e2 : (chnD s l n turns legs).legs = legs := rfl
  rw [e1] at hn hlg
  rw [e2] at hlg h3
  have hlen := rideS_length (chnD s l n turns legs) (goodR (chnD s l n turns legs) legs.length) fl m fl.length (Nat.le_refl _)
  rw [if_neg (by omega), if_neg (by omega)] at hlen
  rw [h3] at hlen ⊢
  refine ⟨hlen, fun j hj => ?_⟩
  have hlt : (j + 1) / 2 < l.length := by omega
  have hlaw := (ride_law ho h3 h4 h0 fl.length (Nat.le_refl _)).2 j (by rw [h3]; rw [e2]; omega)
  rw [show hstAt (chnD s l n turns legs).stops ((j + 1) / 2) = stopF s l n turns ((j + 1) / 2) from stopsL_at hlt] at hlaw
  obtain ⟨u, u1, u2, u3⟩ := open_spans hlaw
  refine ⟨hlt, u, ?_, u2, u3⟩
  rw [← u1, h3, e2]
theorem TopRidden_spec (s : SeaD) (l : List Stp) (n : Ned) (turns : List Int) (legs : List Spn) (minute : Int) (fl : List Int) (t : Tru) (hs : SeaMem s) (hl : l.length ≤ 9223372036854775807) (ht : turns.length ≤ 9223372036854775807) (hlg : legs.length ≤ 9223372036854775807) (hfl : fl.length ≤ 9223372036854775807) (htm : TruMem t) :
    Spec Tryz.prog 5 [.agg s.cells, stpL l, .agg n.cells, ints turns, spnL legs, .v (.int .i64 minute), ints fl, .agg t.cells] (.v (.bool true)) := by
  have kn := known11_spec
  have h11 := small11_spec s hs
  have hnd := t1Need_spec n
  refine spec_of mixed Tryz.func5 (by decide) rfl Tryz.results5 Tryz.ntmps5 (by decide) 1 (by simp) ?_
  simp [SeaD.cells, stpL, Ned.cells, Tru.cells, rdgL, spnL, boaL, glaL, ints, bools]
  refine pop_spec h11 rfl false (.inl (by simp [SeaD.cells, rdgL, spnL, boaL, glaL])) (.inl rfl) rfl (by simp) ?_
  cases c1 : small11B s with
  | false => (simp; refine pop_spec kn rfl false (.inl (by simp)) (.inl rfl) rfl (by simp) ?_; simp; exact answers_of rfl (by simp))
  | true =>
  simp
  refine pop_spec hnd rfl false (.inl (by simp [Ned.cells])) (.inl rfl) rfl (by simp) ?_
  cases c2 : needB n with
  | false => (simp; refine pop_spec kn rfl false (.inl (by simp)) (.inl rfl) rfl (by simp) ?_; simp; exact answers_of rfl (by simp))
  | true =>
  simp only [small11B, Bool.and_eq_true] at c1
  have hso := seaB_ok c1.1.1.1.2
  have hno := needB_ok c2
  by_cases d0 : l.length ≤ 4
  rotate_left
  · (simp [show (4 : Int) < l.length from by omega, show ¬ (l.length : Int) ≤ 4 from by omega]; refine pop_spec kn rfl false (.inl (by simp)) (.inl rfl) rfl (by simp) ?_; simp; exact answers_of rfl (by simp))
  by_cases d1 : turns.length = l.length
  rotate_left
  · (simp [show (l.length : Int) ≤ 4 from by omega, show ¬ (4 : Int) < l.length from by omega, show ¬ (turns.length : Int) = l.length from by omega]; refine pop_spec kn rfl false (.inl (by simp)) (.inl rfl) rfl (by simp) ?_; simp; exact answers_of rfl (by simp))
  by_cases d2 : legs.length ≤ 4
  rotate_left
  · (simp [show (l.length : Int) ≤ 4 from by omega, show ¬ (4 : Int) < l.length from by omega, eq_true (show (turns.length : Int) = l.length from by omega), show (4 : Int) < legs.length from by omega, show ¬ (legs.length : Int) ≤ 4 from by omega]; refine pop_spec kn rfl false (.inl (by simp)) (.inl rfl) rfl (by simp) ?_; simp; exact answers_of rfl (by simp))
  by_cases d3 : fl.length ≤ 4
  rotate_left
  · (simp [show (l.length : Int) ≤ 4 from by omega, show ¬ (4 : Int) < l.length from by omega, eq_true (show (turns.length : Int) = l.length from by omega), show (legs.length : Int) ≤ 4 from by omega, show ¬ (4 : Int) < legs.length from by omega, show (4 : Int) < fl.length from by omega, show ¬ (fl.length : Int) ≤ 4 from by omega]; refine pop_spec kn rfl false (.inl (by simp)) (.inl rfl) rfl (by simp) ?_; simp; exact answers_of rfl (by simp))
  by_cases d4 : t.depths.length ≤ 30
  rotate_left
  · (simp [show (l.length : Int) ≤ 4 from by omega, show ¬ (4 : Int) < l.length from by omega, eq_true (show (turns.length : Int) = l.length from by omega), show (legs.length : Int) ≤ 4 from by omega, show ¬ (4 : Int) < legs.length from by omega, show (fl.length : Int) ≤ 4 from by omega, show ¬ (4 : Int) < fl.length from by omega, show (30 : Int) < t.depths.length from by omega, show ¬ (t.depths.length : Int) ≤ 30 from by omega]; refine pop_spec kn rfl false (.inl (by simp)) (.inl rfl) rfl (by simp) ?_; simp; exact answers_of rfl (by simp))
  by_cases d5 : t.boats.length ≤ 20
  rotate_left
  · (simp [show (l.length : Int) ≤ 4 from by omega, show ¬ (4 : Int) < l.length from by omega, eq_true (show (turns.length : Int) = l.length from by omega), show (legs.length : Int) ≤ 4 from by omega, show ¬ (4 : Int) < legs.length from by omega, show (fl.length : Int) ≤ 4 from by omega, show ¬ (4 : Int) < fl.length from by omega, show (t.depths.length : Int) ≤ 30 from by omega, show ¬ (30 : Int) < t.depths.length from by omega, show (20 : Int) < t.boats.length from by omega, show ¬ (t.boats.length : Int) ≤ 20 from by omega]; refine pop_spec kn rfl false (.inl (by simp)) (.inl rfl) rfl (by simp) ?_; simp; exact answers_of rfl (by simp))
  simp [show (l.length : Int) ≤ 4 from by omega, show ¬ (4 : Int) < l.length from by omega, eq_true (show (turns.length : Int) = l.length from by omega), show (legs.length : Int) ≤ 4 from by omega, show ¬ (4 : Int) < legs.length from by omega, show (fl.length : Int) ≤ 4 from by omega, show ¬ (4 : Int) < fl.length from by omega, show (t.depths.length : Int) ≤ 30 from by omega, show ¬ (30 : Int) < t.depths.length from by omega, show (t.boats.length : Int) ≤ 20 from by omega, show ¬ (20 : Int) < t.boats.length from by omega]
  have hstL' : ∀ i, (stpAt l i).cells = [.v (.int .i64 (stpAt l i).x), .v (.int .i64 (stpAt l i).y), .v (.int .i64 (stpAt l i).way), .v (.int .i64 (stpAt l i).cells_)] := fun _ => rfl
  refine pwp_loop (fun k : Nat => [(17, .box true [.own 207 k 0 k false, spnL legs]), (18, .v (.int .i64 k)), (207, .rows none k 88 2 (rowsOf (fun i => [spnL (sureWs s (stpAt l i) n), .v (.int .i64 (geti turns i))]) k))]) (fun k => k ≤ l.length ∧ ∀ i, i < k → stripB s (stpAt l i) = true) (fun k => l.length - k) 0 ⟨Nat.zero_le _, fun i hi => absurd hi (Nat.not_lt_zero i)⟩ (by simp; rfl) (by simp [spnL]) ?_
  intro k ⟨hk, hstp⟩
  by_cases hkl : k < l.length
  · have wk := i64_wrap (show -9223372036854775808 ≤ (k : Int) + 1 ∧ _ from by omega)
    have hel := hstL' k
    simp [hkl, spnL]
    refine pwp_draw 7 (by decide) ?_
    simp [hkl, hel]
    refine pd_spec (t1Strip_spec s (stpAt l k) hso) (by simp [SeaD.cells, hel, rdgL, spnL, boaL, glaL]) (by simp) (by simp [SeaD.cells, hel, rdgL, spnL, boaL, glaL]) rfl ?_
    simp
    refine ⟨by decide +kernel, ?_⟩
    cases c6 : stripB s (stpAt l k) with
    | false => (simp; refine pop_spec kn rfl false (.inl (by simp)) (.inl rfl) rfl (by simp) ?_; simp; exact answers_of rfl (by simp))
    | true =>
    have hW := Windows_spec s (stpAt l k) n hs
    rw [windowsR, if_pos (asked0 c1.1.1.1.2 c6 c2 c1.2)] at hW
    simp
    refine pwp_draw 14 (by decide) ?_
    simp [hkl, hel]
    refine pd_spec hW (by simp [SeaD.cells, hel, Ned.cells, rdgL, spnL, boaL, glaL]) (by simp) (by simp [SeaD.cells, hel, Ned.cells, rdgL, spnL, boaL, glaL]) (by simp [spnL]) ?_
    simp [spnL]
    refine ⟨by decide +kernel, ?_⟩
    have er := rowsOf_snoc (g := fun i => [spnL (sureWs s (stpAt l i) n), .v (.int .i64 (geti turns i))]) (k := k) rfl
    simp only [spnL] at er
    refine pwp_draw 12 (by decide) ?_
    simp [hkl, d1, show (k : Int) < turns.length from by omega, show k < turns.length from by omega, show (k + 1) * 32 ≤ 140737488355328 from by omega, show k + 1 ≤ maxLen from by simp [maxLen]; omega]
    refine ⟨by decide +kernel, ?_⟩
    refine again_of (k + 1) ⟨Nat.succ_le_of_lt hkl, fun i hi => ?_⟩ (by have := hkl; omega) ?_
    · rcases Nat.lt_succ_iff_lt_or_eq.1 hi with hi | rfl
      · exact hstp i hi
      · exact c6
    simp [wk, er]
  obtain rfl : k = l.length := Nat.le_antisymm hk (Nat.not_lt.1 hkl)
  have hcm : ChnMem (chnD s l n turns legs) := ⟨by rw [show (chnD s l n turns legs).stops.length = l.length from stopsL_length _ _ _ _ _]; exact hl, hlg, fun i hi => by
    have hi' : i < l.length := by rwa [show (chnD s l n turns legs).stops.length = l.length from stopsL_length _ _ _ _ _] at hi
    rw [show hstAt (chnD s l n turns legs).stops i = stopF s l n turns i from stopsL_at hi']
    have := sureWs_len s (stpAt l i) n
    simp only [stopF]
    omega⟩
  have hch := t4Chain_spec (chnD s l n turns legs) hcm
  have hrd := Ride_spec (chnD s l n turns legs) fl minute hcm hfl
  have hcc : (chnD s l n turns legs).cells = [hstL (stopsL s l n turns l.length), spnL legs] := rfl
  rw [hcc] at hch hrd
  simp
  refine pop_specF [(17, .box true [hstL (stopsL s l n turns l.length), spnL legs]), (207, .undef), (113, .agg [hstL (stopsL s l n turns l.length), spnL legs])] ?_ hch rfl false (.inl ?_) (.inl rfl) rfl (by simp) ?_
  · simp [hstL, spnL, stopsL_length]
    refine ⟨fun j hj => ?_, fun j hj => ?_⟩ <;> (rw [rowsOf_get hj, stopsL_at hj]; simp [stopF, Hst.cells, spnL])
  · simp [hstL, spnL, stopsL_length]
  cases c7 : chainB (chnD s l n turns legs) with
  | false => (simp; refine pop_spec kn rfl false (.inl (by simp)) (.inl rfl) rfl (by simp) ?_; simp; exact answers_of rfl (by simp))
  | true =>
  by_cases d6 : fl.length = legs.length
  rotate_left
  · (simp [hstL, spnL, stopsL_length, show ¬ (fl.length : Int) = legs.length from by omega]; refine pop_spec kn rfl false (.inl (by simp)) (.inl rfl) rfl (by simp) ?_; simp; exact answers_of rfl (by simp))
  simp [hstL, spnL, stopsL_length, eq_true (show (fl.length : Int) = legs.length from by omega)]
  cases c8 : rideE (chnD s l n turns legs) fl minute with
  | false =>
    rw [rideR, if_neg (by simp [c8])] at hrd
    refine pop_spec hrd rfl false (.inl (by simp [hstL, spnL, stopsL_length, ints])) (.inl rfl) rfl (by simp) ?_
    simp
    refine pop_spec kn rfl false (.inl (by simp)) (.inl rfl) rfl (by simp) ?_; simp; exact answers_of rfl (by simp)
  | true =>
  obtain ⟨mm, rfl⟩ : ∃ mm : Nat, minute = mm := ⟨minute.toNat, by
    simp only [rideE, Bool.and_eq_true, inB_spec] at c8
    omega⟩
  rw [rideR, if_pos c8, show (chnD s l n turns legs).legs.length = legs.length from rfl, Int.toNat_natCast] at hrd
  cases c9 : goodR (chnD s l n turns legs) legs.length 0 mm with
  | false =>
    rw [if_neg (by simp [c9])] at hrd
    refine pop_spec hrd rfl false (.inl (by simp [hstL, spnL, stopsL_length, ints])) (.inl rfl) rfl (by simp) ?_
    simp
    refine pop_spec kn rfl false (.inl (by simp)) (.inl rfl) rfl (by simp) ?_; simp; exact answers_of rfl (by simp)
  | true =>
  rw [if_pos c9] at hrd
  obtain ⟨hRl, hRu⟩ := ridden_law c8 c9
  obtain ⟨R, hR⟩ : ∃ R, (rideS (chnD s l n turns legs) (goodR (chnD s l n turns legs) legs.length) fl mm fl.length).2 = R := ⟨_, rfl⟩
  rw [hR] at hrd hRl hRu
  have w2 := i64_wrap (show -9223372036854775808 ≤ 2 * (legs.length : Int) ∧ _ from by omega)
  refine pop_spec hrd rfl false (.inl (by simp [hstL, spnL, stopsL_length, ints])) (.inl rfl) rfl (by simp [ints]) ?_
  simp [ints, hRl, w2]
  refine pwp_loop (fun k : Nat => [(24, .v (.int .i64 k))]) (fun k => k ≤ 2 * legs.length) (fun k => 2 * legs.length - k) 0 (Nat.zero_le _) (by simp; rfl) (by simp) ?_
  intro k hk
  by_cases hk2 : k < 2 * legs.length
  · obtain ⟨hq, u, hu, hu2, hu3⟩ := hRu k hk2
    obtain ⟨q, hqe⟩ : ∃ q, (k + 1) / 2 = q := ⟨_, rfl⟩
    rw [hqe] at hq hu3
    have wk := i64_wrap (show -9223372036854775808 ≤ (k : Int) + 1 ∧ _ from by omega)
    have wq := i64_wrap (show -9223372036854775808 ≤ (q : Int) ∧ _ from by omega)
    have tq : Int.tdiv ((k : Int) + 1) 2 = q := by rw [Int.tdiv_eq_ediv_of_nonneg (by omega)]; omega
    have helq := hstL' q
    have hask := asked_move (m := (u : Int)) (asked0 c1.1.1.1.2 (hstp q hq) c2 c1.2) (by omega)
    have hS := Sure_spec s (stpAt l q) n u hs
    rw [sureR, if_pos hask, if_pos hu3] at hS
    simp [hRl, hk2, show (k : Int) < 2 * (legs.length : Int) from by omega, wk, tq, wq, hq, helq, show (q : Int) < l.length from by omega]
    refine pwp_draw 13 (by decide) ?_
    simp [hRl, hk2, hu, show (k : Int) < 2 * (legs.length : Int) from by omega]
    refine pd_spec hS (by simp [SeaD.cells, helq, Ned.cells, rdgL, spnL, boaL, glaL]) (by simp) (by simp [SeaD.cells, helq, Ned.cells, rdgL, spnL, boaL, glaL]) rfl ?_
    simp
    refine ⟨by decide +kernel, ?_⟩
    refine pwp_draw 19 (by decide) ?_
    by_cases hm : (u : Int) = t.minute
    rotate_left
    · simp [hRl, hk2, hu, hm, show (k : Int) < 2 * (legs.length : Int) from by omega]
      refine ⟨by decide +kernel, ?_⟩
      refine again_of (k + 1) (by omega) (by omega) ?_
      simp [wk]
    have hT := t1Truth_spec s t (by omega)
    simp [hRl, hk2, hu, hm, show (k : Int) < 2 * (legs.length : Int) from by omega]
    refine pd_spec hT (by simp [SeaD.cells, Tru.cells, rdgL, spnL, boaL, glaL, ints, bools]) (by simp) (by simp [SeaD.cells, Tru.cells, rdgL, spnL, boaL, glaL, ints, bools]) rfl ?_
    cases c10 : truthB s t with
    | false =>
      simp
      refine ⟨by decide +kernel, ?_⟩
      refine again_of (k + 1) (by omega) (by omega) ?_
      simp [wk]
    | true =>
    simp
    refine pd_spec (t1Agrees_spec s t hso c10 (by omega) (by omega)) (by simp [SeaD.cells, Tru.cells, rdgL, spnL, boaL, glaL, ints, bools]) (by simp) (by simp [SeaD.cells, Tru.cells, rdgL, spnL, boaL, glaL, ints, bools]) rfl ?_
    cases c11 : agreesB s t with
    | false =>
      simp
      refine ⟨by decide +kernel, ?_⟩
      refine again_of (k + 1) (by omega) (by omega) ?_
      simp [wk]
    | true =>
    have hus : usableE s (stpAt l q) n t = true := by rw [usableE, c1.1.1.1.2, c10, hstp q hq, c2]; rfl
    have hU := Usable_spec s t (stpAt l q) n hs htm
    rw [usableR, if_pos hus, sure_usable hso (stripB_ok (hstp q hq)) hno (agrees_ok c10 c11) (by rw [← hm]; exact hu3)] at hU
    simp
    refine ⟨by decide +kernel, ?_⟩
    refine pop_spec hU rfl false (.inl (by simp [SeaD.cells, helq, Ned.cells, Tru.cells, rdgL, spnL, boaL, glaL, ints, bools])) (.inl rfl) rfl (by simp) ?_
    simp
    refine again_of (k + 1) (by omega) (by omega) ?_
    simp [wk]
  obtain rfl : k = 2 * legs.length := Nat.le_antisymm hk (Nat.not_lt.1 hk2)
  simp [hRl]
  refine pop_spec kn rfl false (.inl (by simp)) (.inl rfl) rfl (by simp) ?_; simp; exact answers_of rfl (by simp)
end Go.Qg

