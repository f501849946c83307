/-
  Lemmas and contracts that hold of the whole program: 7 texts in one.
  No condition.
-/
import Derived.Test.YtedglnagjjplbaaGreatZ5
set_option linter.all false

namespace Go.Qg
open Go.Qg
set_option linter.all false
section
open Go.Proofs
set_option maxRecDepth 100000
set_option maxHeartbeats 16000000
set_option linter.unusedSimpArgs false
attribute [local irreducible] pwp pops pdraw pop popCall pdCall thenP blockP scopeP pspec Spec answers ppost CallW rend
theorem allN_succ (n : Nat) (p : Nat → Bool) : allN (n + 1) p = (allN n p && p n) := by simp [allN, List.range_succ]
theorem allN_no {n : Nat} {p : Nat → Bool} (h : allN n p = false) {k : Nat} (hk : n ≤ k) : allN k p = false := by
  induction k with
  | zero => obtain rfl : n = 0 := by omega
            exact h
  | succ k ih =>
    rcases Nat.lt_or_eq_of_le hk with h1 | rfl
    · rw [allN_succ, ih (by omega)]; rfl
    · exact h
def cvxB (P : Pln) (e k : Nat) : Bool := decide (k = e) || decide (k = (e + 1) % P.corners.length) || decide (0 < P.side e (cnrAt P.corners k).weight (cnrAt P.corners k).moment)
def cvxR (P : Pln) (e : Nat) : Bool := allN P.corners.length (cvxB P e)
def convexB (P : Pln) : Bool := allN P.corners.length (cvxR P)
def cvxV (P : Pln) : PF := [.undef, .rp P.cells 0, .box true [.v (.bool false)], .undef, .undef, .undef, .undef, .undef, .undef, .undef, .undef, .undef, .undef, .undef, .undef, .undef, .undef, .undef, .undef, .undef, .undef, .undef, .undef, .undef, .undef, .undef, .undef, .undef, .undef, .undef, .undef, .undef, .undef, .undef, .undef, .undef, .undef, .undef, .undef, .undef, .undef, .undef, .undef, .undef]
def cvxA (P : Pln) : PF := [.undef, .rp P.cells 0, .ref 0 0, .undef, .undef, .undef, .undef, .undef, .undef, .undef, .undef, .undef, .undef, .undef, .undef, .undef, .undef, .undef, .undef, .undef, .undef, .undef, .undef, .undef, .undef, .undef, .undef, .undef, .undef, .undef, .undef, .undef, .undef, .undef, .undef, .undef, .undef, .undef, .undef, .undef, .undef, .undef, .undef, .undef]
theorem convex_spec (P : Pln) (hc : CnrsOk P) (hn : P.corners.length ≤ 1000000) : Spec Tryz.prog 214 [.agg P.cells] (.v (.bool (convexB P))) := by
  have hgen := edges_gen P hc hn
  unfold Spec
  refine callW_ofE Tryz.func214 (by decide) rfl (congrArg Array.toList Tryz.results214) Tryz.ntmps214 44 (by simp) (by decide) fun B0 hB0 hD0 => ?_
  have hlo : ∀ s B, ECtx B0 s B → B.lo = 44 := fun _ _ h => h.1.trans hB0
  refine XW_seqP mixed hlo (by decide) ?_
  simp [Pln.cells, cnrL, stnL]
  refine XW_seqX (XW_seqP mixed hlo (by decide) ?_)
  simp
  refine pop_spec (edges_spec P) rfl false (.inl (by simp [Pln.cells, cnrL, stnL])) (.inl rfl) rfl (by simp) ?_
  simp
  refine XW_block ?_
  refine XW_rangeI (by decide) mixed rfl (by rfl) hgen edgs_plain (by decide) (by decide) 44 (by decide) [2] (by decide)
    (fun n => if allN n (cvxR P) = true then cvxV P else [])
    (fun n => cvxA P)
    (fun n => [.box false [.v (.bool false)]]) ?_ (fun n hn hV => ?_) (fun n q hq hV => ?_) ?_
  · rw [hB0]
    simp [allN, cvxV, Pln.cells, cnrL, stnL]
  · cases hs : allN n (cvxR P) with
    | false => simp [hs] at hV
    | true =>
      refine ⟨rfl, ?_, slots_view (t := 8) ?_ rfl⟩
      · simp [cvxV, Pln.cells, cnrL, stnL]
      · simp [slots, cvxV, cvxA, Pln.cells, cnrL, stnL]
  · obtain ⟨hnl, rfl⟩ := edg_get hq
    obtain ⟨s1, s2, s3, s4⟩ := edg_small hc hnl
    rw [hB0]
    cases hs : allN n (cvxR P) with
    | false => simp [hs] at hV
    | true =>
      have hsucc := allN_succ n (cvxR P)
      have hne : ¬ P.corners = [] := fun e => by rw [e] at hnl; cases hnl
      obtain ⟨j, hj⟩ : ∃ j : Nat, j = (n + 1) % P.corners.length := ⟨_, rfl⟩
      have hji : ((n : Int) + 1).tmod (P.corners.length : Int) = (j : Int) := by rw [hj]; rfl
      have wn := i64_wrap (show -9223372036854775808 ≤ (n : Int) + 1 ∧ _ from by omega)
      simp [cvxA, edgC, Pln.cells, cnrL, stnL]
      refine pwp_loop (fun k : Nat => [(13, .v (.int .i64 k))]) (fun k => k ≤ P.corners.length ∧ ∀ i, i < k → cvxB P n i = true) (fun k => P.corners.length - k) 0 ⟨Nat.zero_le _, fun i hi => by omega⟩ (by simp; rfl) (by simp) ?_
      intro k ⟨hk, hp⟩
      by_cases hkl : k < P.corners.length
      · have wk := i64_wrap (show -9223372036854775808 ≤ (k : Int) + 1 ∧ _ from by omega)
        have go : cvxB P n k = true → ∀ i, i < k + 1 → cvxB P n i = true := fun hb i hi => by
          rcases Nat.lt_or_eq_of_le (Nat.le_of_lt_succ hi) with h' | rfl
          · exact hp i h'
          · exact hb
        by_cases c1 : k = n
        · subst c1
          simp [hkl, Cnr.cells]
          refine again_of (k + 1) ⟨by omega, go (by simp [cvxB])⟩ (by omega) ?_
          simp [wk]
        by_cases c2 : k = j
        · subst c2
          simp (config := { maxSteps := 4000000 }) [hkl, Cnr.cells, c1, show ¬ (k : Int) = n from by omega, wn, hne, hji]
          refine again_of (k + 1) ⟨by omega, go (by simp [cvxB, ← hj])⟩ (by omega) ?_
          simp [wk]
        have hck := hc k hkl
        have hside := side_spec (n : Int) (P.cA n).weight (P.cA n).moment (P.dw n) (P.dm n) (cnrAt P.corners k).weight (cnrAt P.corners k).moment s1 s2 s3 s4 (by simp only [Small]; omega) (by simp only [Small]; omega)
        rw [show P.dw n * ((cnrAt P.corners k).moment - (P.cA n).moment) - P.dm n * ((cnrAt P.corners k).weight - (P.cA n).weight) = P.side n (cnrAt P.corners k).weight (cnrAt P.corners k).moment from rfl] at hside
        have d1 : ¬ (k : Int) = n := by omega
        have d2 : ¬ (k : Int) = j := by omega
        simp (config := { maxSteps := 4000000 }) [hkl, Cnr.cells, c1, d1, wn, hne, hji, c2, d2]
        refine pop_spec hside rfl false (.inl (by simp)) (.inl rfl) rfl (by simp) ?_
        by_cases c3 : P.side n (cnrAt P.corners k).weight (cnrAt P.corners k).moment ≤ 0
        · have hb : cvxB P n k = false := by simp [cvxB, c1, ← hj, c2, c3]
          have hno : allN (n + 1) (cvxR P) = false := by rw [hsucc, show cvxR P n = false from allN_false hkl hb]; simp
          have hall : convexB P = false := allN_no hno (show n + 1 ≤ P.corners.length by omega)
          simp [c3, hno, d1, d2]
          refine rend_r [.box false [.v (.bool false)]] ?_ ?_
          · simp
          · simp [back, placeAll, cvxV, blockX, thenX]
            refine ends_of (.v (.bool false)) [] [] rfl (by decide) ?_ ?_ (by simp [hall])
            · simp
            · simp
        · simp [c3, d1, d2]
          refine again_of (k + 1) ⟨by omega, go (by simp [cvxB, Int.not_le.1 c3])⟩ (by omega) ?_
          simp [wk]
      · obtain rfl : k = P.corners.length := by omega
        have hyes : allN (n + 1) (cvxR P) = true := by rw [hsucc, hs, show cvxR P n = true from allN_spec.2 hp]; rfl
        simp [hyes]
        refine rend_n [.box false [.v (.bool false)]] ?_ ?_
        · simp
        · simp [back, placeAll, cvxV, Pln.cells, cnrL, stnL]
  · intro hV
    rw [edgs_length] at hV ⊢
    cases hs : allN P.corners.length (cvxR P) with
    | false => simp [hs] at hV
    | true =>
      simp [blockX, thenX, cvxV]
      refine XW_pwp mixed hlo (by decide) ?_
      simp
      refine ends_of (.v (.bool true)) [] [] rfl (by decide) ?_ ?_ (by rw [convexB, hs])
      · simp
      · simp
def cornersB (P : Pln) : Bool := allN P.corners.length fun k => cnrB (cnrAt P.corners k)
def stnsB (l : List Stn) : Bool := allN l.length fun k => stnB (stnAt l k)
def validB (P : Pln) : Bool :=
  inB P.empty 1 20000 && inB P.moment (-20000000) 20000000 && kilosB [P.takeoff, P.landing, P.reserve] && inB P.corners.length 3 12 && decide (P.stations.length ≤ 8) && decide (P.floats.length ≤ 2) && cornersB P && stnsB P.stations && stnB P.tank && stnsB P.floats && convexB P
theorem corners_ok {P : Pln} (h : cornersB P = true) : CnrsOk P := fun i hi => by
  have := allN_spec.1 h i hi
  simpa [cnrB, inB_spec] using this
theorem convex_ok {P : Pln} : convexB P = true ↔ ∀ e, e < P.corners.length → ∀ k, k < P.corners.length → k ≠ e → k ≠ (e + 1) % P.corners.length → 0 < P.side e (cnrAt P.corners k).weight (cnrAt P.corners k).moment := by
  simp only [convexB, cvxR, allN_spec, cvxB, Bool.or_eq_true, decide_eq_true_eq]
  constructor
  · intro h e he k hk h1 h2
    rcases h e he k hk with (h3 | h3) | h3
    · exact (h1 h3).elim
    · exact (h2 h3).elim
    · exact h3
  · intro h e he k hk
    by_cases h1 : k = e
    · exact .inl (.inl h1)
    · by_cases h2 : k = (e + 1) % P.corners.length
      · exact .inl (.inr h2)
      · exact .inr (h e he k hk h1 h2)
theorem valid_ok {P : Pln} : validB P = true ↔ PlnOk P := by
  simp only [validB, Bool.and_eq_true, decide_eq_true_eq, kilosB_three, inB_spec]
  constructor
  · rintro ⟨⟨⟨⟨⟨⟨⟨⟨⟨⟨h1, h2⟩, ⟨h3, h4⟩, h5⟩, h6⟩, h7⟩, h8⟩, h9⟩, h10⟩, h11⟩, h12⟩, h13⟩
    exact ⟨h1, h2, h3, h4, h5, by omega, h7, h8, stnB_spec.1 h11, fun i hi => stnB_spec.1 (allN_spec.1 h10 i hi), fun i hi => stnB_spec.1 (allN_spec.1 h12 i hi), corners_ok h9, convex_ok.1 h13⟩
  · intro h
    exact ⟨⟨⟨⟨⟨⟨⟨⟨⟨⟨h.empty, h.moment⟩, ⟨h.takeoff, h.landing⟩, h.reserve⟩, by have := h.n; omega⟩, h.ns⟩, h.nf⟩, allN_spec.2 fun i hi => by have := h.corner i hi; simpa [cnrB, inB_spec] using this⟩, allN_spec.2 fun i hi => stnB_spec.2 (h.station i hi)⟩, stnB_spec.2 h.tank⟩, allN_spec.2 fun i hi => stnB_spec.2 (h.float i hi)⟩, convex_ok.2 h.convex⟩
structure PlnLen (P : Pln) : Prop where
  c : P.corners.length ≤ 9223372036854775807
  s : P.stations.length ≤ 9223372036854775807
  f : P.floats.length ≤ 9223372036854775807
theorem valid_spec (P : Pln) (hl : PlnLen P) : Spec Tryz.prog 174 [.agg P.cells] (.v (.bool (validB P))) := by
  have l1 := hl.c
  have l2 := hl.s
  have l3 := hl.f
  refine spec_of mixed Tryz.func174 (by decide) rfl Tryz.results174 Tryz.ntmps174 (by decide) 0 (by simp) ?_
  simp [Pln.cells, cnrL, stnL]
  refine pop_spec (allCnr_spec P.corners l1 210 [] [] rfl rfl (fun k => cnrB (cnrAt P.corners k)) fun k hk => valid1_spec (cnrAt P.corners k)) rfl false (.inl (by simp [cnrL])) (.inl rfl) rfl (by simp) ?_
  simp
  refine pop_spec (lin_spec P.empty 1 20000) rfl false (.inl (by simp)) (.inl rfl) rfl (by simp) ?_
  cases h1 : inB P.empty 1 20000 with
  | false => simp; refine answers_of rfl ?_; simp [validB, h1]
  | true =>
  simp
  refine pop_spec (lin_spec P.moment (-20000000) 20000000) rfl false (.inl (by simp)) (.inl rfl) rfl (by simp) ?_
  cases h2 : inB P.moment (-20000000) 20000000 with
  | false => simp; refine answers_of rfl ?_; simp [validB, h2]
  | true =>
  simp
  refine pop_specF [(28, ints [P.takeoff, P.landing, P.reserve])] ?_ (lkilos_spec [P.takeoff, P.landing, P.reserve] (by simp)) rfl false (.inl (by simp [ints])) (.inl rfl) rfl (by simp) ?_
  · simp [ints, geti]
    intro k hk
    rcases k with _ | _ | _ | k
    · simp
    · simp
    · simp
    · omega
  cases h3 : kilosB [P.takeoff, P.landing, P.reserve] with
  | false => simp; refine answers_of rfl ?_; simp [validB, h3]
  | true =>
  simp
  refine pop_spec (lin_spec P.corners.length 3 12) rfl false (.inl (by simp)) (.inl rfl) rfl (by simp) ?_
  cases h4 : inB P.corners.length 3 12 with
  | false => simp; refine answers_of rfl ?_; simp [validB, h4]
  | true =>
  have h4' := inB_spec.1 h4
  by_cases h5 : P.stations.length ≤ 8
  case neg => simp [show ¬ (P.stations.length : Int) ≤ 8 from by omega]; refine answers_of rfl ?_; simp [validB, h5]
  by_cases h6 : P.floats.length ≤ 2
  case neg => simp [show (P.stations.length : Int) ≤ 8 from by omega, show ¬ (P.floats.length : Int) ≤ 2 from by omega]; refine answers_of rfl ?_; simp [validB, h6]
  cases h7 : allN P.corners.length fun k => cnrB (cnrAt P.corners k) with
  | false => simp [show (P.stations.length : Int) ≤ 8 from by omega, show (P.floats.length : Int) ≤ 2 from by omega]; refine answers_of rfl ?_; simp [validB, cornersB, h7]
  | true =>
  simp [show (P.stations.length : Int) ≤ 8 from by omega, show (P.floats.length : Int) ≤ 2 from by omega]
  refine pop_spec (allStn_spec P.stations l2 213 [] [] rfl rfl (fun k => stnB (stnAt P.stations k)) fun k hk => station_spec (stnAt P.stations k)) rfl false (.inl (by simp [stnL])) (.inl rfl) rfl (by simp) ?_
  cases h8 : allN P.stations.length fun k => stnB (stnAt P.stations k) with
  | false => simp; refine answers_of rfl ?_; simp [validB, stnsB, h8]
  | true =>
  simp
  refine pop_spec (station_spec P.tank) rfl false (.inl (by simp [Stn.cells])) (.inl rfl) rfl (by simp) ?_
  cases h9 : stnB P.tank with
  | false => simp; refine answers_of rfl ?_; simp [validB, h9]
  | true =>
  simp
  refine pop_spec (allStn_spec P.floats l3 213 [] [] rfl rfl (fun k => stnB (stnAt P.floats k)) fun k hk => station_spec (stnAt P.floats k)) rfl false (.inl (by simp [stnL])) (.inl rfl) rfl (by simp) ?_
  cases h10 : allN P.floats.length fun k => stnB (stnAt P.floats k) with
  | false => simp; refine answers_of rfl ?_; simp [validB, stnsB, h10]
  | true =>
  simp
  refine pop_spec (convex_spec P (corners_ok h7) (by omega)) rfl false (.inl (by simp [Pln.cells, cnrL, stnL])) (.inl rfl) rfl (by simp) ?_
  simp
  refine answers_of rfl ?_; simp [validB, h1, h2, h3, h4, h5, h6, cornersB, h7, stnsB, h8, h9, h10]
def trippedE (P : Pln) (fuel : Spn) (legs : List Leg) : Int := if 6 < legs.length then 3 else if validB P = true then tripE fuel legs P.stations.length else 2
theorem tripped_spec (P : Pln) (fuel : Spn) (legs : List Leg) (hP : PlnLen P) (hl : legs.length ≤ 9223372036854775807) (hi : ∀ k, k < legs.length → (legAt legs k).items.length ≤ 9223372036854775807) :
    Spec Tryz.prog 100 [.agg P.cells, .agg fuel.cells, legL legs] (.v (.int .i64 (trippedE P fuel legs))) := by
  have l2 := hP.s
  have hv := valid_spec P hP
  have ht := trip_spec fuel legs P.stations.length hl hi (by omega)
  refine spec_of mixed Tryz.func100 (by decide) rfl Tryz.results100 Tryz.ntmps100 (by decide) 0 (by simp) ?_
  simp [Pln.cells, cnrL, stnL, legL, Spn.cells]
  refine pop_spec ht rfl false (.inl (by simp [legL, Spn.cells])) (.inl rfl) rfl (by simp) ?_
  by_cases h : 6 < legs.length
  · have e : tripE fuel legs P.stations.length = 3 := by simp [tripE, h]
    rw [e]
    simp
    refine answers_of rfl ?_; simp [trippedE, h]
  · have e : ¬ tripE fuel legs P.stations.length = 3 := by
      simp only [tripE, if_neg h]
      split <;> omega
    simp [e]
    refine pop_spec hv rfl false (.inl (by simp [Pln.cells, cnrL, stnL])) (.inl rfl) rfl (by simp) ?_
    cases h2 : validB P with
    | true => simp [e]; refine answers_of rfl ?_; simp [trippedE, h, h2]
    | false => simp [e]; refine answers_of rfl ?_; simp [trippedE, h, h2]
end
section
open Go.Proofs
set_option maxRecDepth 100000
set_option maxHeartbeats 16000000
set_option linter.unusedSimpArgs false
attribute [local irreducible] pwp pops pdraw pop popCall pdCall thenP blockP scopeP pspec Spec answers ppost CallW rend
def pntC (P : Pln) (X : Pnt) : List PV := [.v (.int .i64 P.empty), .v (.int .i64 P.moment), .v (.int .i64 P.takeoff), .v (.int .i64 P.landing), cnrL P.corners, stnL P.stations, .v (.int .i64 P.tank.arm), .v (.int .i64 P.tank.most), .v (.int .i64 P.reserve), stnL P.floats, itmL X.items, .v (.int .i64 X.tank.low), .v (.int .i64 X.tank.high), spnL X.water, .v (.bool X.landing)]
structure Prt where
  kind : Int
  idx : Nat
  arm : Int
  low : Int
  high : Int
  deriving Inhabited
def Prt.cells (p : Prt) : List PV := [.v (.int .i64 p.kind), .v (.int .i64 p.idx), .v (.int .i64 p.arm), .v (.int .i64 p.low), .v (.int .i64 p.high)]
def partI' (P : Pln) (X : Pnt) (i : Nat) : Prt := ⟨0, i, armI P X i, (itmAt X.items i).low, (itmAt X.items i).high⟩
def partT (P : Pln) (X : Pnt) : Prt := ⟨1, 0, P.tank.arm, X.tank.low, X.tank.high⟩
def partF (P : Pln) (X : Pnt) (i : Nat) : Prt := ⟨2, i, armF P i, (spnAt X.water i).low, (spnAt X.water i).high⟩
def partN (P : Pln) (X : Pnt) (n : Nat) : Prt := if n < X.items.length then partI' P X n else if n = X.items.length then partT P X else partF P X (n - X.items.length - 1)
def partK (X : Pnt) : Nat := X.items.length + 1 + X.water.length
def partsL (P : Pln) (X : Pnt) : List PV := (List.range (partK X)).map fun n => .agg (partN P X n).cells
theorem partsL_length (P : Pln) (X : Pnt) : (partsL P X).length = partK X := by simp [partsL]
theorem parts_get {P : Pln} {X : Pnt} {n : Nat} {p : PV} (h : (partsL P X)[n]? = some p) : n < partK X ∧ p = .agg (partN P X n).cells := by
  have hl : n < partK X := by
    have := (List.getElem?_eq_some_iff.1 h).1
    simpa [partsL] using this
  refine ⟨hl, ?_⟩
  simp [partsL, hl] at h
  exact h.symm
theorem parts_plain {P : Pln} {X : Pnt} : ∀ p ∈ partsL P X, p.plain = true ∧ p.flat = true := fun p hp => by
  obtain ⟨e, _, rfl⟩ := List.mem_map.1 hp
  exact ⟨rfl, rfl⟩
theorem parts_at {P : Pln} {X : Pnt} {n : Nat} (h : n < partK X) : (partsL P X)[n]? = some (.agg (partN P X n).cells) := by simp [partsL, h]
theorem parts_spec (P : Pln) (X : Pnt) : Spec Tryz.prog 236 [.agg (pntC P X)] (.clo (.func 238) [] [.rp (pntC P X) 0]) := by
  refine spec_of mixed Tryz.func236 (by decide) rfl Tryz.results236 Tryz.ntmps236 (by decide) 0 (by simp) ?_
  simp [pntC, cnrL, stnL, itmL, spnL]
  refine answers_of rfl ?_; simp [pntC, cnrL, stnL, itmL, spnL]
theorem parts_gen (P : Pln) (X : Pnt) (hX : PntOk P X) (hf : P.floats.length ≤ 2) : GenW Tryz.prog 238 [.rp (pntC P X) 0] (partsL P X) := by
  have hni := hX.n
  have hnw := hX.nw
  refine gen_of Tryz.func238 (by decide) rfl Tryz.results238 Tryz.ntmps238 0 (by simp) fun l Rb J henv => ?_
  have hlo : ∀ s B, GCtx 69 Rb J s B → B.lo = 69 := fun _ _ h => h.1
  refine XW_seqX (XW_seqP mixed hlo (by decide) ?_)
  simp [pntC, cnrL, stnL, itmL, spnL]
  refine XW_block ?_
  refine XW_loopV hlo (fun k : Nat => [(11, .v (.int .i64 k))]) (fun k => GS.on k) (fun k => k ≤ X.items.length) (fun k => X.items.length - k) 0 (Nat.zero_le _) rfl (by simp; rfl) (by simp) ?_
  intro k hk
  refine XW_seqP mixed hlo (by decide) ?_
  by_cases hlt : k < X.items.length
  · have wk := i64_wrap (show -9223372036854775808 ≤ (k : Int) + 1 ∧ _ from by omega)
    have hit := hX.item k hlt
    obtain ⟨s, hs⟩ : ∃ s : Nat, (itmAt X.items k).station = s := ⟨(itmAt X.items k).station.toNat, by omega⟩
    have hsl : s < P.stations.length := by omega
    have hel : (partsL P X)[k]? = some (.agg [.v (.int .i64 0), .v (.int .i64 k), .v (.int .i64 (stnAt P.stations s).arm), .v (.int .i64 (itmAt X.items k).low), .v (.int .i64 (itmAt X.items k).high)]) := by
      rw [parts_at (by unfold partK; omega)]
      simp [partN, hlt, partI', Prt.cells, armI, hs]
    simp [hlt]
    refine XW_seqP mixed hlo (by decide) ?_
    simp
    refine XW_seqX (XW_block ?_)
    refine XW_seqP mixed hlo (by decide) ?_
    simp [hlt, Itm.cells]
    refine XW_seqX (XW_yield (m := 14) mixed henv (by decide) (by decide) ?_)
    simp [hlt, hs, hsl, Stn.cells]
    refine ⟨by decide, ?_⟩
    simp [pyield, yargs, hel]
    refine ⟨?_, ?_⟩
    · refine XW_pwp mixed hlo (by decide) ?_
      simp
      refine XW_pwp mixed hlo (by decide) ?_
      simp [wk]
      refine againX_of (k + 1) (by omega) (by omega) rfl ?_
      simp
    · refine XW_pwp mixed hlo (by decide) ?_
      simp
  · obtain rfl : k = X.items.length := by omega
    have hel : (partsL P X)[X.items.length]? = some (.agg [.v (.int .i64 1), .v (.int .i64 0), .v (.int .i64 P.tank.arm), .v (.int .i64 X.tank.low), .v (.int .i64 X.tank.high)]) := by
      rw [parts_at (by unfold partK; omega)]
      simp [partN, partT, Prt.cells]
    simp
    refine XW_pwp mixed hlo (by decide) ?_
    simp
    refine XW_seqX (XW_seqX (XW_yieldS (m := 10) henv (by decide) (by decide) ?_))
    simp
    simp [pyield, yargs, hel]
    refine ⟨?_, ?_⟩
    · refine XW_pwp mixed hlo (by decide) ?_
      simp
      refine XW_seqP mixed hlo (by decide) ?_
      simp
      refine XW_block ?_
      refine XW_loopV hlo (fun k : Nat => [(49, .v (.int .i64 k))]) (fun k => GS.on (X.items.length + 1 + k)) (fun k => k ≤ X.water.length) (fun k => X.water.length - k) 0 (Nat.zero_le _) rfl (by simp; rfl) (by simp) ?_
      intro k hk
      refine XW_seqP mixed hlo (by decide) ?_
      by_cases hlt : k < X.water.length
      · have wk := i64_wrap (show -9223372036854775808 ≤ (k : Int) + 1 ∧ _ from by omega)
        have hkf : k < P.floats.length := by omega
        have hel : (partsL P X)[X.items.length + 1 + k]? = some (.agg [.v (.int .i64 2), .v (.int .i64 k), .v (.int .i64 (stnAt P.floats k).arm), .v (.int .i64 (spnAt X.water k).low), .v (.int .i64 (spnAt X.water k).high)]) := by
          rw [parts_at (by unfold partK; omega)]
          simp [partN, show ¬ X.items.length + 1 + k < X.items.length from by omega, show ¬ X.items.length + 1 + k = X.items.length from by omega, show X.items.length + 1 + k - X.items.length - 1 = k from by omega, partF, Prt.cells, armF]
        simp [hlt]
        refine XW_seqP mixed hlo (by decide) ?_
        simp
        refine XW_seqX (XW_block ?_)
        refine XW_seqP mixed hlo (by decide) ?_
        simp [hlt, Spn.cells]
        refine XW_seqX (XW_yield (m := 12) mixed henv (by decide) (by decide) ?_)
        simp [hlt, hkf, Stn.cells]
        refine ⟨by decide, ?_⟩
        simp [pyield, yargs, hel]
        refine ⟨?_, ?_⟩
        · refine XW_pwp mixed hlo (by decide) ?_
          simp
          refine XW_pwp mixed hlo (by decide) ?_
          simp [wk]
          refine againX_of (k + 1) (by omega) (by omega) (by simp only [GS.on.injEq]; omega) ?_
          simp
        · refine XW_pwp mixed hlo (by decide) ?_
          simp
      · obtain rfl : k = X.water.length := by omega
        simp
        refine XW_pwp mixed hlo (by decide) ?_
        simp [partsL_length, partK]
    · refine XW_pwp mixed hlo (by decide) ?_
      simp
end
section
open Go.Proofs
set_option maxRecDepth 100000
set_option maxHeartbeats 16000000
set_option linter.unusedSimpArgs false
attribute [local irreducible] pwp pops pdraw pop popCall pdCall thenP blockP scopeP pspec Spec answers ppost CallW rend
theorem part_small {P : Pln} {X : Pnt} (hP : PlnOk P) (hX : PntOk P X) {n : Nat} (hn : n < partK X) : Small 1000 (partN P X n).arm ∧ Small 140000 (partN P X n).low ∧ Small 140000 (partN P X n).high := by
  have hnw := hX.nw
  unfold partN
  split
  · rename_i h
    have h1 := hX.item n h
    have h2 := hP.station (itmAt X.items n).station.toNat (by omega)
    simp only [StnOk] at h2
    simp only [partI', armI, Small]
    omega
  · split
    · have h1 := hX.tank
      have h2 := hP.tank
      simp only [StnOk] at h2
      simp only [partT, Small]
      omega
    · have hk : n - X.items.length - 1 < X.water.length := by unfold partK at hn; omega
      have h1 := hX.water _ hk
      have h2 := hP.float (n - X.items.length - 1) (by omega)
      simp only [StnOk] at h2
      simp only [partF, armF, Small]
      omega
theorem partK_le {P : Pln} {X : Pnt} (hP : PlnOk P) (hX : PntOk P X) : partK X ≤ 15 := by
  have := hX.n; have := hX.nw; have := hP.nf; unfold partK; omega
theorem sumN_small {f : Nat → Int} {b : Int} (hb : 0 ≤ b) : ∀ {n : Nat}, (∀ i, i < n → Small b (f i)) → Small (b * n) (sumN f n)
  | 0, _ => by simp [sumN, Small]
  | n + 1, h => by
    have h1 := sumN_small hb (n := n) fun i hi => h i (by omega)
    have h2 := h n (by omega)
    simp only [Small, sumN] at *
    have e : b * ((n + 1 : Nat) : Int) = b * n + b := by push_cast; rw [Int.mul_add, Int.mul_one]
    rw [e]
    omega
theorem min_small {b x y : Int} (hx : Small b x) (hy : Small b y) : Small b (min x y) ∧ Small b (max x y) := by
  simp only [Small] at *; omega
theorem sumN_parts (P : Pln) (X : Pnt) (f : Prt → Int) : sumN (fun i => f (partN P X i)) (partK X) = sumN (fun i => f (partI' P X i)) X.items.length + f (partT P X) + sumN (fun i => f (partF P X i)) X.water.length := by
  unfold partK
  rw [sumN_split, sumN]
  congr 1
  · congr 1
    · exact sumN_congr fun i hi => by simp [partN, hi]
    · simp [partN]
  · exact sumN_congr fun i hi => by simp [partN, show ¬ X.items.length + 1 + i < X.items.length from by omega, show ¬ X.items.length + 1 + i = X.items.length from by omega, show X.items.length + 1 + i - X.items.length - 1 = i from by omega]
def bW (P : Pln) (X : Pnt) (n : Nat) : Int := P.empty + sumN (fun i => (partN P X i).low) n
def bWh (P : Pln) (X : Pnt) (n : Nat) : Int := P.empty + sumN (fun i => (partN P X i).high) n
def bM (P : Pln) (X : Pnt) (n : Nat) : Int := P.moment + sumN (fun i => minS (partN P X i).arm (partN P X i).low (partN P X i).high) n
def bMh (P : Pln) (X : Pnt) (n : Nat) : Int := P.moment + sumN (fun i => maxS (partN P X i).arm (partN P X i).low (partN P X i).high) n
def bndC (P : Pln) (X : Pnt) (n : Nat) : List PV := [.v (.int .i64 (bW P X n)), .v (.int .i64 (bWh P X n)), .v (.int .i64 (bM P X n)), .v (.int .i64 (bMh P X n))]
theorem bnd_small {P : Pln} {X : Pnt} (hP : PlnOk P) (hX : PntOk P X) {n : Nat} (hn : n ≤ partK X) : Small 2200000 (bW P X n) ∧ Small 2200000 (bWh P X n) ∧ Small 2200000000 (bM P X n) ∧ Small 2200000000 (bMh P X n) := by
  have hk := partK_le hP hX
  have h1 := sumN_small (f := fun i => (partN P X i).low) (b := 140000) (by omega) (n := n) fun i hi => (part_small hP hX (by omega)).2.1
  have h2 := sumN_small (f := fun i => (partN P X i).high) (b := 140000) (by omega) (n := n) fun i hi => (part_small hP hX (by omega)).2.2
  have hms : ∀ i, i < n → Small 140000000 (minS (partN P X i).arm (partN P X i).low (partN P X i).high) ∧ Small 140000000 (maxS (partN P X i).arm (partN P X i).low (partN P X i).high) := fun i hi => by
    obtain ⟨g1, g2, g3⟩ := part_small hP hX (show i < partK X by omega)
    exact min_small (mul_small g1 g2 (by omega) (by omega)) (mul_small g1 g3 (by omega) (by omega))
  have h3 := sumN_small (b := 140000000) (by omega) (n := n) fun i hi => (hms i hi).1
  have h4 := sumN_small (b := 140000000) (by omega) (n := n) fun i hi => (hms i hi).2
  have he := hP.empty
  have hm := hP.moment
  simp only [Small, bW, bWh, bM, bMh] at *
  have hn15 : (n : Int) ≤ 15 := by omega
  refine ⟨⟨?_, ?_⟩, ⟨?_, ?_⟩, ⟨?_, ?_⟩, ?_, ?_⟩ <;> omega
def bndV (P : Pln) (X : Pnt) (n : Nat) : PF := [.undef, .undef, .box true [.v (.int .i64 0), .v (.int .i64 0), .v (.int .i64 0), .v (.int .i64 0)], .box true (bndC P X n), .undef, .undef, .undef, .undef, .undef, .undef, .undef, .undef, .undef, .undef, .undef, .undef, .undef, .undef, .undef, .undef, .undef, .undef, .undef, .undef, .undef, .undef, .undef, .undef, .undef, .undef, .undef, .undef, .undef, .undef, .undef, .undef, .undef, .undef, .undef, .undef, .undef, .undef, .undef, .undef, .undef, .undef, .undef, .undef, .undef, .undef, .undef, .undef, .undef, .undef, .undef, .undef, .undef, .undef, .undef, .undef, .undef, .undef, .undef, .undef, .undef, .undef, .undef, .undef, .undef, .undef, .undef, .undef, .undef, .undef, .undef, .undef, .undef, .undef]
def bndA : PF := [.undef, .undef, .undef, .ref 0 0, .undef, .undef, .undef, .undef, .undef, .undef, .undef, .undef, .undef, .undef, .undef, .undef, .undef, .undef, .undef, .undef, .undef, .undef, .undef, .undef, .undef, .undef, .undef, .undef, .undef, .undef, .undef, .undef, .undef, .undef, .undef, .undef, .undef, .undef, .undef, .undef, .undef, .undef, .undef, .undef, .undef, .undef, .undef, .undef, .undef, .undef, .undef, .undef, .undef, .undef, .undef, .undef, .undef, .undef, .undef, .undef, .undef, .undef, .undef, .undef, .undef, .undef, .undef, .undef, .undef, .undef, .undef, .undef, .undef, .undef, .undef, .undef, .undef, .undef]
theorem bounds_spec (P : Pln) (X : Pnt) (hP : PlnOk P) (hX : PntOk P X) : Spec Tryz.prog 231 [.agg (pntC P X)] (.agg (bndC P X (partK X))) := by
  have hgen := parts_gen P X hX hP.nf
  unfold Spec
  refine callW_ofE Tryz.func231 (by decide) rfl (congrArg Array.toList Tryz.results231) Tryz.ntmps231 78 (by simp) (by decide) fun B0 hB0 hD0 => ?_
  have hlo : ∀ s B, ECtx B0 s B → B.lo = 78 := fun _ _ h => h.1.trans hB0
  refine XW_seqP mixed hlo (by decide) ?_
  simp [pntC, cnrL, stnL, itmL, spnL]
  refine XW_seqP mixed hlo (by decide) ?_
  simp
  refine XW_seqX (XW_seqP mixed hlo (by decide) ?_)
  simp
  refine pop_spec (parts_spec P X) rfl false (.inl (by simp [pntC, cnrL, stnL, itmL, spnL])) (.inl rfl) rfl (by simp) ?_
  simp
  refine XW_block ?_
  refine XW_range mixed rfl (by rfl) hgen parts_plain (by decide) (by decide) 78 (by decide) [3] (by decide)
    (fun n => bndV P X n) (fun n => bndA) (fun n => [.box false (bndC P X n)]) ?_ (fun n hn => ⟨rfl, ?_, slots_view (t := 28) ?_ rfl⟩) (fun n q hq => ?_) ?_
  · rw [hB0]
    simp [bndV, bndC, bW, bWh, bM, bMh, sumN]
  · simp [bndV, bndC]
  · simp [slots, bndV, bndA, bndC]
  · obtain ⟨hn, rfl⟩ := parts_get hq
    obtain ⟨g1, g2, g3⟩ := part_small hP hX hn
    have hb := bnd_small hP hX (show n + 1 ≤ partK X by omega)
    have m1 := mul_small g1 g2 (by omega) (by omega)
    have m2 := mul_small g1 g3 (by omega) (by omega)
    rw [hB0]
    have e1 : bW P X (n + 1) = bW P X n + (partN P X n).low := by simp only [bW, sumN]; omega
    have e2 : bWh P X (n + 1) = bWh P X n + (partN P X n).high := by simp only [bWh, sumN]; omega
    have e3 : bM P X (n + 1) = bM P X n + min ((partN P X n).arm * (partN P X n).low) ((partN P X n).arm * (partN P X n).high) := by simp only [bM, sumN, minS]; omega
    have e4 : bMh P X (n + 1) = bMh P X n + max ((partN P X n).arm * (partN P X n).low) ((partN P X n).arm * (partN P X n).high) := by simp only [bMh, sumN, maxS]; omega
    simp only [e1, e2, e3, e4, Small] at hb m1 m2
    have k1 := i64_wrap (show -9223372036854775808 ≤ bW P X n + (partN P X n).low ∧ _ from by omega)
    have k2 := i64_wrap (show -9223372036854775808 ≤ bWh P X n + (partN P X n).high ∧ _ from by omega)
    have k3 := i64_wrap (show -9223372036854775808 ≤ bM P X n + min ((partN P X n).arm * (partN P X n).low) ((partN P X n).arm * (partN P X n).high) ∧ _ from by omega)
    have k4 := i64_wrap (show -9223372036854775808 ≤ bMh P X n + max ((partN P X n).arm * (partN P X n).low) ((partN P X n).arm * (partN P X n).high) ∧ _ from by omega)
    have k5 := i64_wrap (show -9223372036854775808 ≤ (partN P X n).arm * (partN P X n).low ∧ _ from by omega)
    have k6 := i64_wrap (show -9223372036854775808 ≤ (partN P X n).arm * (partN P X n).high ∧ _ from by omega)
    have f3 : (if (partN P X n).arm * (partN P X n).high < (partN P X n).arm * (partN P X n).low then (partN P X n).arm * (partN P X n).high else (partN P X n).arm * (partN P X n).low) = min ((partN P X n).arm * (partN P X n).low) ((partN P X n).arm * (partN P X n).high) := by split <;> omega
    have f4 : (if (partN P X n).arm * (partN P X n).low < (partN P X n).arm * (partN P X n).high then (partN P X n).arm * (partN P X n).high else (partN P X n).arm * (partN P X n).low) = max ((partN P X n).arm * (partN P X n).low) ((partN P X n).arm * (partN P X n).high) := by split <;> omega
    simp [bndA, Prt.cells, bndC]
    refine pwp_draw 14 (by decide) ?_
    simp [k5, k6]
    refine ⟨by decide, ?_⟩
    simp [k1, k2, f3, f4, k3, k4]
    refine rend_n [.box false (bndC P X (n + 1))] ?_ ?_
    · simp [bndC, e1, e2, e3, e4]
    · simp [back, placeAll, bndV, bndC, e1, e2, e3, e4]
  · rw [partsL_length]
    simp [blockX, thenX, bndV, bndC]
    refine XW_pwp mixed hlo (by decide) ?_
    simp
    refine ends_of (.agg (bndC P X (partK X))) [] [] (x := .agg (bndC P X (partK X))) (by simp [bndC]) (by decide) ?_ ?_ rfl
    · simp [bndC]
    · simp [bndC]
end
section
open Go.Proofs
set_option maxRecDepth 100000
set_option maxHeartbeats 16000000
set_option linter.unusedSimpArgs false
attribute [local irreducible] pwp pops pdraw pop popCall pdCall thenP blockP scopeP pspec Spec answers ppost CallW rend
@[simp] theorem rowsB_nil : rowsB [] = [] := rfl
theorem rowsB_snoc (l : List Bool) (x : Bool) : rowsB l ++ [[.v (.bool x)]] = rowsB (l ++ [x]) := by simp [rowsB]
def lsN (P : Pln) (X : Pnt) (e n : Nat) : Int := P.side e P.empty P.moment + sumN (fun i => minS (P.slope e (partN P X i).arm) (partN P X i).low (partN P X i).high) n
theorem lsN_all (P : Pln) (X : Pnt) (e : Nat) : lsN P X e (partK X) = leastE P X e := by
  rw [lsN, sumN_parts P X fun p => minS (P.slope e p.arm) p.low p.high, leastE]
  simp only [partI', partT, partF]
  omega
theorem slope_small {P : Pln} (hP : PlnOk P) {e : Nat} (he : e < P.corners.length) {a : Int} (ha : Small 1000 a) : Small 60000000 (P.slope e a) := by
  obtain ⟨_, _, s3, s4⟩ := edg_small hP.corner he
  have h := mul_small s3 ha (by omega) (by omega)
  simp only [Small, Pln.slope] at *
  omega
theorem side_small {P : Pln} (hP : PlnOk P) {e : Nat} (he : e < P.corners.length) : Small 3000000000000 (P.side e P.empty P.moment) := by
  obtain ⟨s1, s2, s3, s4⟩ := edg_small hP.corner he
  have h1 := hP.empty
  have h2 := hP.moment
  have h3 := mul_small s3 (show Small 40000000 (P.moment - (P.cA e).moment) by simp only [Small] at *; omega) (by omega) (by omega)
  have h4 := mul_small s4 (show Small 40000 (P.empty - (P.cA e).weight) by simp only [Small] at *; omega) (by omega) (by omega)
  simp only [Small, Pln.side] at *
  omega
theorem ls_small {P : Pln} {X : Pnt} (hP : PlnOk P) (hX : PntOk P X) {e : Nat} (he : e < P.corners.length) {n : Nat} (hn : n ≤ partK X) : Small 200000000000000 (lsN P X e n) := by
  have hk := partK_le hP hX
  have h1 := sumN_small (f := fun i => minS (P.slope e (partN P X i).arm) (partN P X i).low (partN P X i).high) (b := 8400000000000) (by omega) (n := n) fun i hi => by
    obtain ⟨g1, g2, g3⟩ := part_small hP hX (show i < partK X by omega)
    have g4 := slope_small hP he g1
    exact (min_small (mul_small g4 g2 (by omega) (by omega)) (mul_small g4 g3 (by omega) (by omega))).1
  have h2 := side_small hP he
  have hn15 : (n : Int) ≤ 15 := by omega
  simp only [Small, lsN] at *
  omega
def lsV (P : Pln) (X : Pnt) (e n : Nat) : PF := [.undef, .undef, .undef, .rp (edgC P e) 0, .undef, .box true [.v (.int .i64 (lsN P X e n))], .undef, .undef, .undef, .undef, .undef, .undef, .undef, .undef, .undef, .undef, .undef, .undef, .undef, .undef, .undef, .undef, .undef, .undef, .undef, .undef, .undef, .undef, .undef, .undef, .undef, .undef, .undef, .undef, .undef, .undef, .undef, .undef, .undef]
def lsA (P : Pln) (e : Nat) : PF := [.undef, .undef, .undef, .rp (edgC P e) 0, .undef, .ref 0 0, .undef, .undef, .undef, .undef, .undef, .undef, .undef, .undef, .undef, .undef, .undef, .undef, .undef, .undef, .undef, .undef, .undef, .undef, .undef, .undef, .undef, .undef, .undef, .undef, .undef, .undef, .undef, .undef, .undef, .undef, .undef, .undef, .undef]
theorem least_spec (P : Pln) (X : Pnt) (hP : PlnOk P) (hX : PntOk P X) (e : Nat) (he : e < P.corners.length) : Spec Tryz.prog 233 [.agg (pntC P X), .agg (edgC P e)] (.v (.int .i64 (leastE P X e))) := by
  have hgen := parts_gen P X hX hP.nf
  obtain ⟨s1, s2, s3, s4⟩ := edg_small hP.corner he
  have h1 := hP.empty
  have h2 := hP.moment
  have hside := side_spec (e : Int) (P.cA e).weight (P.cA e).moment (P.dw e) (P.dm e) P.empty P.moment s1 s2 s3 s4 (by simp only [Small]; omega) (by simp only [Small]; omega)
  rw [show P.dw e * (P.moment - (P.cA e).moment) - P.dm e * (P.empty - (P.cA e).weight) = P.side e P.empty P.moment from rfl] at hside
  unfold Spec
  refine callW_ofE Tryz.func233 (by decide) rfl (congrArg Array.toList Tryz.results233) Tryz.ntmps233 39 (by simp) (by decide) fun B0 hB0 hD0 => ?_
  have hlo : ∀ s B, ECtx B0 s B → B.lo = 39 := fun _ _ h => h.1.trans hB0
  refine XW_seqP mixed hlo (by decide) ?_
  simp [pntC, cnrL, stnL, itmL, spnL, edgC]
  refine XW_seqP mixed hlo (by decide) ?_
  simp
  refine pop_spec hside rfl false (.inl (by simp)) (.inl rfl) rfl (by simp) ?_
  simp
  refine XW_seqX (XW_seqP mixed hlo (by decide) ?_)
  simp
  refine pop_spec (parts_spec P X) rfl false (.inl (by simp [pntC, cnrL, stnL, itmL, spnL])) (.inl rfl) rfl (by simp) ?_
  simp
  refine XW_block ?_
  refine XW_range mixed rfl (by rfl) hgen parts_plain (by decide) (by decide) 39 (by decide) [5] (by decide)
    (fun n => lsV P X e n) (fun n => lsA P e) (fun n => [.box false [.v (.int .i64 (lsN P X e n))]]) ?_ (fun n hn => ⟨rfl, ?_, slots_view (t := 20) ?_ rfl⟩) (fun n q hq => ?_) ?_
  · rw [hB0]
    simp [lsV, lsN, sumN, edgC]
  · simp [lsV]
  · simp [slots, lsV, lsA]
  · obtain ⟨hn, rfl⟩ := parts_get hq
    obtain ⟨g1, g2, g3⟩ := part_small hP hX hn
    have g4 := slope_small hP he g1
    have hb := ls_small hP hX he (show n + 1 ≤ partK X by omega)
    have m1 := mul_small g4 g2 (by omega) (by omega)
    have m2 := mul_small g4 g3 (by omega) (by omega)
    have hslope := slope_spec (e : Int) (P.cA e).weight (P.cA e).moment (P.dw e) (P.dm e) (partN P X n).arm s3 s4 g1
    rw [show P.dw e * (partN P X n).arm - P.dm e = P.slope e (partN P X n).arm from rfl] at hslope
    rw [hB0]
    have e1 : lsN P X e (n + 1) = lsN P X e n + min (P.slope e (partN P X n).arm * (partN P X n).low) (P.slope e (partN P X n).arm * (partN P X n).high) := by simp only [lsN, sumN, minS]; omega
    generalize P.slope e (partN P X n).arm = sl at *
    simp only [e1, Small] at hb m1 m2
    have k3 := i64_wrap (show -9223372036854775808 ≤ lsN P X e n + min (sl * (partN P X n).low) (sl * (partN P X n).high) ∧ _ from by omega)
    have k5 := i64_wrap (show -9223372036854775808 ≤ sl * (partN P X n).low ∧ _ from by omega)
    have k6 := i64_wrap (show -9223372036854775808 ≤ sl * (partN P X n).high ∧ _ from by omega)
    have f3 : (if sl * (partN P X n).high < sl * (partN P X n).low then sl * (partN P X n).high else sl * (partN P X n).low) = min (sl * (partN P X n).low) (sl * (partN P X n).high) := by split <;> omega
    simp [lsA, Prt.cells, edgC]
    refine pop_spec hslope rfl false (.inl (by simp)) (.inl rfl) rfl (by simp) ?_
    simp [k5, k6, f3, k3]
    refine rend_n [.box false [.v (.int .i64 (lsN P X e (n + 1)))]] ?_ ?_
    · simp [e1]
    · simp [back, placeAll, lsV, e1, edgC]
  · rw [partsL_length]
    simp [blockX, thenX, lsV]
    refine XW_pwp mixed hlo (by decide) ?_
    simp
    refine ends_of (.v (.int .i64 (leastE P X e))) [] [] (x := .v (.int .i64 (lsN P X e (partK X)))) rfl (by decide) ?_ ?_ rfl
    · simp
    · simp [lsN_all]
theorem limit_spec (P : Pln) (X : Pnt) : Spec Tryz.prog 232 [.agg (pntC P X)] (.v (.int .i64 (limitP P X))) := by
  refine spec_of mixed Tryz.func232 (by decide) rfl Tryz.results232 Tryz.ntmps232 (by decide) 0 (by simp) ?_
  simp [pntC, cnrL, stnL, itmL, spnL]
  cases h : X.landing with
  | true => simp; refine answers_of rfl ?_; simp [limitP, h]
  | false => simp; refine answers_of rfl ?_; simp [limitP, h]
theorem full_spec (P : Pln) (X : Pnt) : Spec Tryz.prog 217 [.agg (pntC P X)] (bools [fullB P X]) := by
  refine spec_of mixed Tryz.func217 (by decide) rfl Tryz.results217 Tryz.ntmps217 (by decide) 0 (by simp) ?_
  simp [pntC, cnrL, stnL, itmL, spnL]
  refine answers_of rfl ?_; simp [bools, getb, fullB]
theorem short_spec (P : Pln) (X : Pnt) : Spec Tryz.prog 221 [.agg (pntC P X)] (bools [shortB P X]) := by
  refine spec_of mixed Tryz.func221 (by decide) rfl Tryz.results221 Tryz.ntmps221 (by decide) 0 (by simp) ?_
  simp [pntC, cnrL, stnL, itmL, spnL]
  cases h : X.landing with
  | true => simp; refine answers_of rfl ?_; simp [bools, getb, shortB, h]
  | false => simp; refine answers_of rfl ?_; simp [bools, getb, shortB, h]
theorem highW_eq (P : Pln) (X : Pnt) : bWh P X (partK X) = highW P X := by
  rw [bWh, sumN_parts P X fun p => p.high, highW]
  simp only [partI', partT, partF]
  omega
theorem heavy_spec (P : Pln) (X : Pnt) (hP : PlnOk P) (hX : PntOk P X) : Spec Tryz.prog 219 [.agg (pntC P X)] (bools [heavyB P X]) := by
  have hb := bounds_spec P X hP hX
  simp only [bndC, highW_eq] at hb
  refine spec_of mixed Tryz.func219 (by decide) rfl Tryz.results219 Tryz.ntmps219 (by decide) 0 (by simp) ?_
  simp [pntC, cnrL, stnL, itmL, spnL]
  refine pwp_draw 8 (by decide) ?_
  simp
  refine pd_spec hb (by simp [pntC, cnrL, stnL, itmL, spnL]) (by simp) (by simp [pntC, cnrL, stnL, itmL, spnL]) rfl ?_
  simp
  refine pd_spec (limit_spec P X) (by simp [pntC, cnrL, stnL, itmL, spnL]) (by simp) (by simp [pntC, cnrL, stnL, itmL, spnL]) rfl ?_
  simp
  refine ⟨by decide, ?_⟩
  refine answers_of rfl ?_; simp [bools, getb, heavyB]
def wetL (P : Pln) (X : Pnt) (n : Nat) : List Bool := (List.range n).map (wetB P X)
theorem wetL_length (P : Pln) (X : Pnt) (n : Nat) : (wetL P X n).length = n := by simp [wetL]
theorem wetL_succ (P : Pln) (X : Pnt) (n : Nat) : wetL P X n ++ [wetB P X n] = wetL P X (n + 1) := by simp [wetL, List.range_succ]
theorem wet_spec (P : Pln) (X : Pnt) (hf : P.floats.length ≤ 2) (hX : PntOk P X) : Spec Tryz.prog 218 [.agg (pntC P X)] (bools (wetL P X X.water.length)) := by
  have hnw := hX.nw
  refine spec_of mixed Tryz.func218 (by decide) rfl Tryz.results218 Tryz.ntmps218 (by decide) 0 (by simp) ?_
  simp [pntC, cnrL, stnL, itmL, spnL]
  refine pwp_loop (fun k : Nat => [(3, .own 28 k 0 k false), (10, .v (.int .i64 k)), (28, .rows none k 4 1 (rowsB (wetL P X k)))]) (fun k => k ≤ X.water.length) (fun k => X.water.length - k) 0 (Nat.zero_le _) (by simp; rfl) (by simp [wetL]) ?_
  intro k hk
  by_cases hkl : k < X.water.length
  · have wk := i64_wrap (show -9223372036854775808 ≤ (k : Int) + 1 ∧ _ from by omega)
    have hkf : k < P.floats.length := by omega
    have er := rowsB_snoc (wetL P X k) (wetB P X k)
    rw [wetL_succ, wetB] at er
    have et : (wetL P X k).take k = wetL P X k := List.take_of_length_le (by simp [wetL_length])
    simp [hkl, Spn.cells]
    refine pwp_draw 14 (by decide) ?_
    simp [hkl, hkf, Stn.cells, wetL_length, show k + 1 ≤ 140737488355328 from by omega, show k + 1 ≤ maxLen from by simp [maxLen]; omega]
    refine ⟨by decide, ?_⟩
    refine again_of (k + 1) (by omega) (by omega) ?_
    simp [wk, er, et]
  · obtain rfl : k = X.water.length := by omega
    simp
    refine answers_of rfl ?_
    simp [bools, wetL_length]
    intro k hk
    simp [rowsB_get (show k < (wetL P X X.water.length).length by rw [wetL_length]; exact hk)]
end
section
open Go.Proofs
set_option maxRecDepth 100000
set_option maxHeartbeats 16000000
set_option linter.unusedSimpArgs false
attribute [local irreducible] pwp pops pdraw pop popCall pdCall thenP blockP scopeP pspec Spec answers ppost CallW rend
def outL (P : Pln) (X : Pnt) (n : Nat) : List Bool := (List.range n).map (outB P X)
theorem outL_length (P : Pln) (X : Pnt) (n : Nat) : (outL P X n).length = n := by simp [outL]
theorem outL_succ (P : Pln) (X : Pnt) (n : Nat) : outL P X n ++ [outB P X n] = outL P X (n + 1) := by simp [outL, List.range_succ]
def outV (P : Pln) (X : Pnt) (n : Nat) : PF := [.undef, .rp (pntC P X) 0, .undef, .box true [.own 15 n 0 n false], .undef, .undef, .undef, .undef, .undef, .undef, .undef, .undef, .undef, .undef, .undef, .rows none n 4 1 (rowsB (outL P X n)), .undef]
def outA (P : Pln) (X : Pnt) : PF := [.undef, .rp (pntC P X) 0, .undef, .ref 0 0, .undef, .undef, .undef, .undef, .undef, .undef, .undef, .undef, .undef, .undef, .undef, .undef, .undef]
theorem out_spec (P : Pln) (X : Pnt) (hP : PlnOk P) (hX : PntOk P X) : Spec Tryz.prog 220 [.agg (pntC P X)] (bools (outL P X P.corners.length)) := by
  have hn12 := hP.n
  have hgen := edges_gen P hP.corner (by omega)
  unfold Spec
  refine callW_ofE Tryz.func220 (by decide) rfl (congrArg Array.toList Tryz.results220) Tryz.ntmps220 17 (by simp) (by decide) fun B0 hB0 hD0 => ?_
  have hlo : ∀ s B, ECtx B0 s B → B.lo = 17 := fun _ _ h => h.1.trans hB0
  refine XW_seqP mixed hlo (by decide) ?_
  simp [pntC, cnrL, stnL, itmL, spnL]
  refine XW_seqP mixed hlo (by decide) ?_
  simp
  refine XW_seqX (XW_seqP mixed hlo (by decide) ?_)
  simp
  refine pop_spec (edges_spec P) rfl false (.inl (by simp [Pln.cells, cnrL, stnL])) (.inl rfl) rfl (by simp) ?_
  simp
  refine XW_block ?_
  refine XW_range mixed rfl (by rfl) hgen edgs_plain (by decide) (by decide) 17 (by decide) [3, 15] (by decide)
    (fun n => outV P X n) (fun n => outA P X) (fun n => [.box false [.own 1 n 0 n false], .rows none n 4 1 (rowsB (outL P X n))]) ?_ (fun n hn => ⟨rfl, ?_, slots_view (t := 8) ?_ rfl⟩) (fun n q hq => ?_) ?_
  · rw [hB0]
    simp [outV, outL, pntC, cnrL, stnL, itmL, spnL]
  · simp [outV]
  · simp [slots, outV, outA, pntC, cnrL, stnL, itmL, spnL]
  · obtain ⟨hn, rfl⟩ := edg_get hq
    have hleast := least_spec P X hP hX n hn
    have er := rowsB_snoc (outL P X n) (outB P X n)
    rw [outL_succ, outB] at er
    have et : (outL P X n).take n = outL P X n := List.take_of_length_le (by simp [outL_length])
    rw [hB0]
    simp [outA, edgC, pntC, cnrL, stnL, itmL, spnL]
    refine pwp_draw 7 (by decide) ?_
    simp
    refine pd_spec hleast (by simp [pntC, cnrL, stnL, itmL, spnL, edgC]) (by simp) (by simp [pntC, cnrL, stnL, itmL, spnL, edgC]) rfl ?_
    simp [outL_length, show n + 1 ≤ 140737488355328 from by omega, show n + 1 ≤ maxLen from by simp [maxLen]; omega]
    refine ⟨by decide, ?_⟩
    simp [er, et]
    refine rend_n [.box false [.own 1 (n + 1) 0 (n + 1) false], .rows none (n + 1) 4 1 (rowsB (outL P X (n + 1)))] ?_ ?_
    · simp [er, et]
    · simp [back, placeAll, outV, pntC, cnrL, stnL, itmL, spnL]
  · rw [edgs_length]
    simp [blockX, thenX, outV]
    refine XW_pwp mixed hlo (by decide) ?_
    simp
    refine ends_of (bools (outL P X P.corners.length)) [] [] rfl (by decide) ?_ ?_ rfl
    · simp
    · simp [bools, outL_length]
      intro k hk
      simp [rowsB_get (show k < (outL P X P.corners.length).length by rw [outL_length]; exact hk)]
abbrev IMap := List Int × List Int
def mput (m : IMap) (x v : Int) : IMap := match dfind m.1 x 0 with
  | some j => (m.1, m.2.set j v)
  | none => (m.1 ++ [x], m.2 ++ [v])
def mget (m : IMap) (x : Int) : Int := match dfind m.1 x 0 with
  | some j => geti m.2 j
  | none => 0
theorem dfind_snoc (x y : Int) : ∀ (d : List Int) (j : Nat), dfind (d ++ [x]) y j = (match dfind d y j with
  | some i => some i
  | none => if y = x then some (j + d.length) else none)
  | [], j => by
    simp only [List.nil_append, dfind]
    by_cases h : y = x <;> simp [h]
  | z :: d, j => by
    simp only [List.cons_append, dfind]
    by_cases h : y = z
    · simp [h]
    · simp only [beq_iff_eq, h, if_false]
      rw [dfind_snoc x y d (j + 1)]
      cases dfind d y (j + 1) with
      | some i => rfl
      | none => simp only [List.length_cons]; split <;> simp; omega
theorem mput_len {m : IMap} (x v : Int) (h : m.2.length = m.1.length) : (mput m x v).2.length = (mput m x v).1.length := by
  unfold mput
  split
  · simp [h]
  · simp [h]
theorem mget_put {m : IMap} (x v y : Int) (h : m.2.length = m.1.length) : mget (mput m x v) y = if y = x then v else mget m y := by
  unfold mput
  cases hd : dfind m.1 x 0 with
  | some j =>
    obtain ⟨_, h1, h2⟩ := dfind_some hd
    simp only [Nat.sub_zero] at h1 h2
    simp only [mget]
    by_cases hy : y = x
    · subst hy
      rw [hd, if_pos rfl]
      simp only
      rw [geti_set (by omega), if_pos rfl]
    · rw [if_neg hy]
      cases he : dfind m.1 y 0 with
      | none => rfl
      | some i =>
        obtain ⟨_, h3, h4⟩ := dfind_some he
        simp only [Nat.sub_zero] at h3 h4
        simp only
        rw [geti_set (by omega), if_neg]
        intro e
        subst e
        rw [h2] at h4
        exact hy (Option.some.inj h4).symm
  | none =>
    simp only [mget, dfind_snoc]
    cases he : dfind m.1 y 0 with
    | some i =>
      obtain ⟨_, h3, _⟩ := dfind_some he
      simp only [Nat.sub_zero] at h3
      have hy : y ≠ x := fun e => by rw [e, hd] at he; cases he
      simp only [if_neg hy, geti, List.getD_eq_getElem?_getD]
      rw [List.getElem?_append_left (by omega)]
    | none =>
      by_cases hy : y = x
      · simp [hy, geti, ← h]
      · simp [hy]
theorem keysI_get {v : List Int} {j : Nat} (h : j < v.length) : (keysI v)[j]? = some (.v (.int .i64 (geti v j))) := by simp [keysI, geti, h]
theorem keysI_setv (v : List Int) (j : Nat) (x : Int) : (keysI v).set j (.v (.int .i64 x)) = keysI (v.set j x) := by simp [keysI, List.map_set]
def sumTo (l : List Itm) : Nat → IMap
  | 0 => ([], [])
  | k + 1 => mput (sumTo l k) (itmAt l k).station (mget (sumTo l k) (itmAt l k).station + (itmAt l k).high)
theorem sumTo_len (l : List Itm) : ∀ k, (sumTo l k).2.length = (sumTo l k).1.length
  | 0 => rfl
  | k + 1 => mput_len _ _ (sumTo_len l k)
def stSum (l : List Itm) (x : Int) (k : Nat) : Int := sumN (fun i => if (itmAt l i).station = x then (itmAt l i).high else 0) k
theorem sumTo_get (l : List Itm) (x : Int) : ∀ k, mget (sumTo l k) x = stSum l x k
  | 0 => rfl
  | k + 1 => by
    rw [sumTo, mget_put _ _ _ (sumTo_len l k), stSum, sumN]
    by_cases h : x = (itmAt l k).station
    · rw [if_pos h, if_pos h.symm, h, sumTo_get l _ k, stSum]
    · rw [if_neg h, if_neg (fun e => h e.symm), sumTo_get l x k, stSum]; omega
def overL (P : Pln) (X : Pnt) (n : Nat) : List Bool := (List.range n).map (overB P X)
theorem overL_length (P : Pln) (X : Pnt) (n : Nat) : (overL P X n).length = n := by simp [overL]
theorem overL_succ (P : Pln) (X : Pnt) (n : Nat) : overL P X n ++ [overB P X n] = overL P X (n + 1) := by simp [overL, List.range_succ]
theorem stSum_small {P : Pln} {X : Pnt} (hX : PntOk P X) (x : Int) {k : Nat} (hk : k ≤ X.items.length) : Small 240000 (stSum X.items x k) := by
  have hn := hX.n
  have h := sumN_small (f := fun i => if (itmAt X.items i).station = x then (itmAt X.items i).high else 0) (b := 20000) (by omega) (n := k) fun i hi => by
    have h1 := hX.item i (by omega)
    simp only [Small]
    split <;> omega
  simp only [Small, stSum] at *
  omega
theorem over_spec (P : Pln) (X : Pnt) (hX : PntOk P X) (hs : P.stations.length ≤ 8) : Spec Tryz.prog 216 [.agg (pntC P X)] (bools (overL P X P.stations.length)) := by
  have hn := hX.n
  refine spec_of mixed Tryz.func216 (by decide) rfl Tryz.results216 Tryz.ntmps216 (by decide) 0 (by simp) ?_
  simp [pntC, cnrL, stnL, itmL, spnL]
  refine pwp_loop (fun k : Nat => [(9, .map true (keysI (sumTo X.items k).1) (keysI (sumTo X.items k).2)), (14, .v (.int .i64 k))]) (fun k => k ≤ X.items.length) (fun k => X.items.length - k) 0 (Nat.zero_le _) (by simp; rfl) (by simp [sumTo]) ?_
  intro k hk
  by_cases hkl : k < X.items.length
  · have wk := i64_wrap (show -9223372036854775808 ≤ (k : Int) + 1 ∧ _ from by omega)
    have hfind := pkfind_ints (P := Tryz.prog) (t := 3) (by rfl) (sumTo X.items k).1 (itmAt X.items k).station 0
    have hkey : pkeyOk Tryz.prog 3 (.v (.int .i64 (itmAt X.items k).station)) = true := by simp [pkeyOk]
    have hlen := sumTo_len X.items k
    have hget := sumTo_get X.items (itmAt X.items k).station k
    have hsm := stSum_small hX (itmAt X.items k).station hk
    have hit := hX.item k hkl
    have hsucc : sumTo X.items (k + 1) = mput (sumTo X.items k) (itmAt X.items k).station (mget (sumTo X.items k) (itmAt X.items k).station + (itmAt X.items k).high) := rfl
    simp only [Small, ← hget] at hsm
    cases hd : dfind (sumTo X.items k).1 (itmAt X.items k).station 0 with
    | none =>
      rw [hd] at hfind
      have hz : mget (sumTo X.items k) (itmAt X.items k).station = 0 := by simp [mget, hd]
      have w1 := i64_wrap (show -9223372036854775808 ≤ (itmAt X.items k).high ∧ _ from by omega)
      simp only [mput, hd, hz, Int.zero_add] at hsucc
      simp [hkl, Itm.cells, hfind, hkey, w1]
      refine again_of (k + 1) (by omega) (by omega) ?_
      simp [wk, hsucc, keysI_snoc]
    | some j =>
      rw [hd] at hfind
      obtain ⟨_, hj1, hj2⟩ := dfind_some hd
      simp only [Nat.sub_zero] at hj1 hj2
      have hz : mget (sumTo X.items k) (itmAt X.items k).station = geti (sumTo X.items k).2 j := by simp [mget, hd]
      have hv := keysI_get (v := (sumTo X.items k).2) (j := j) (by omega)
      rw [hz] at hsm
      have w1 := i64_wrap (show -9223372036854775808 ≤ geti (sumTo X.items k).2 j + (itmAt X.items k).high ∧ _ from by omega)
      simp only [mput, hd, hz] at hsucc
      simp [hkl, Itm.cells, hfind, hkey, hv, w1]
      refine again_of (k + 1) (by omega) (by omega) ?_
      simp [wk, hsucc, keysI_set hd, keysI_setv]
  · obtain rfl : k = X.items.length := by omega
    simp
    refine pwp_loop (fun k : Nat => [(6, .own 45 k 0 k false), (32, .v (.int .i64 k)), (45, .rows none k 4 1 (rowsB (overL P X k)))]) (fun k => k ≤ P.stations.length) (fun k => P.stations.length - k) 0 (Nat.zero_le _) (by simp; rfl) (by simp [overL]) ?_
    intro k hk
    by_cases hkl : k < P.stations.length
    · have wk := i64_wrap (show -9223372036854775808 ≤ (k : Int) + 1 ∧ _ from by omega)
      have er := rowsB_snoc (overL P X k) (overB P X k)
      rw [overL_succ, overB] at er
      have et : (overL P X k).take k = overL P X k := List.take_of_length_le (by simp [overL_length])
      have hfind := pkfind_ints (P := Tryz.prog) (t := 3) (by rfl) (sumTo X.items X.items.length).1 (k : Int) 0
      have hkey : pkeyOk Tryz.prog 3 (.v (.int .i64 (k : Int))) = true := by simp [pkeyOk]
      have hlen := sumTo_len X.items X.items.length
      have hget := sumTo_get X.items (k : Int) X.items.length
      cases hd : dfind (sumTo X.items X.items.length).1 (k : Int) 0 with
      | none =>
        rw [hd] at hfind
        have hz : stSum X.items (k : Int) X.items.length = 0 := by rw [← hget]; simp [mget, hd]
        simp only [stSum] at hz
        rw [hz] at er
        simp [hkl, Stn.cells, hfind, hkey, overL_length, show k + 1 ≤ 140737488355328 from by omega, show k + 1 ≤ maxLen from by simp [maxLen]; omega]
        refine again_of (k + 1) (by omega) (by omega) ?_
        simp [wk, er, et]
      | some j =>
        rw [hd] at hfind
        obtain ⟨_, hj1, hj2⟩ := dfind_some hd
        simp only [Nat.sub_zero] at hj1 hj2
        have hv := keysI_get (v := (sumTo X.items X.items.length).2) (j := j) (by omega)
        have hz : geti (sumTo X.items X.items.length).2 j = stSum X.items (k : Int) X.items.length := by rw [← hget]; simp [mget, hd]
        rw [hz] at hv
        simp only [← stSum.eq_1] at er
        simp [hkl, Stn.cells, hfind, hkey, hv, overL_length, show k + 1 ≤ 140737488355328 from by omega, show k + 1 ≤ maxLen from by simp [maxLen]; omega]
        refine again_of (k + 1) (by omega) (by omega) ?_
        simp [wk, er, et]
    · obtain rfl : k = P.stations.length := by omega
      simp
      refine answers_of rfl ?_
      simp [bools, overL_length]
      intro k hk
      simp [rowsB_get (show k < (overL P X P.stations.length).length by rw [overL_length]; exact hk)]
end
section
open Go.Proofs
set_option maxRecDepth 100000
set_option maxHeartbeats 16000000
set_option linter.unusedSimpArgs false
attribute [local irreducible] pwp pops pdraw pop popCall pdCall thenP blockP scopeP pspec Spec answers ppost CallW rend
@[simp] theorem wrap_4 : IntKind.i64.wrap 4 = 4 := i64_wrap (by omega)
@[simp] theorem wrap_5 : IntKind.i64.wrap 5 = 5 := i64_wrap (by omega)
@[simp] theorem wrap_6 : IntKind.i64.wrap 6 = 6 := i64_wrap (by omega)
@[simp] theorem wrap_7 : IntKind.i64.wrap 7 = 7 := i64_wrap (by omega)
def rl (P : Pln) (X : Pnt) (r : Nat) : List Bool := (List.range (manyR P (r + 2))).map (canB P X (r + 2))
theorem rl_length (P : Pln) (X : Pnt) (r : Nat) : (rl P X r).length = manyR P (r + 2) := by simp [rl]
theorem rl_get {P : Pln} {X : Pnt} {r i : Nat} (h : i < manyR P (r + 2)) : getb (rl P X r) i = canB P X (r + 2) i := by simp [rl, getb, h]
def ruleF : Nat → FuncId
  | 0 => 216
  | 1 => 217
  | 2 => 218
  | 3 => 219
  | 4 => 220
  | _ => 221
theorem rule_spec (P : Pln) (X : Pnt) (hP : PlnOk P) (hX : PntOk P X) {r : Nat} (hr : r < 6) : Spec Tryz.prog (ruleF r) [.agg (pntC P X)] (bools (rl P X r)) := by
  rcases r with _ | _ | _ | _ | _ | _ | r
  · rw [show rl P X 0 = overL P X P.stations.length from rfl]; exact over_spec P X hX hP.ns
  · rw [show rl P X 1 = [fullB P X] from rfl]; exact full_spec P X
  · rw [show rl P X 2 = wetL P X X.water.length from by rw [hX.nw]; rfl]; exact wet_spec P X hP.nf hX
  · rw [show rl P X 3 = [heavyB P X] from rfl]; exact heavy_spec P X hP hX
  · rw [show rl P X 4 = outL P X P.corners.length from rfl]; exact out_spec P X hP hX
  · rw [show rl P X 5 = [shortB P X] from rfl]; exact short_spec P X
  · omega
def rulesV (P : Pln) (X : Pnt) : PV := .agg [.clo (.func (ruleF 0)) [.agg (pntC P X)] [], .clo (.func (ruleF 1)) [.agg (pntC P X)] [], .clo (.func (ruleF 2)) [.agg (pntC P X)] [], .clo (.func (ruleF 3)) [.agg (pntC P X)] [], .clo (.func (ruleF 4)) [.agg (pntC P X)] [], .clo (.func (ruleF 5)) [.agg (pntC P X)] []]
theorem rules_spec (P : Pln) (X : Pnt) : Spec Tryz.prog 176 [.agg (pntC P X)] (rulesV P X) := by
  refine spec_of mixed Tryz.func176 (by decide) rfl Tryz.results176 Tryz.ntmps176 (by decide) 0 (by simp) ?_
  simp [pntC, cnrL, stnL, itmL, spnL]
  refine answers_of (x := rulesV P X) (by simp [rulesV, pntC, cnrL, stnL, itmL, spnL, ruleF]) ?_
  simp [rulesV, pntC, cnrL, stnL, itmL, spnL, ruleF]
theorem broken_none {P : Pln} {X : Pnt} (h : ∀ q, q < 6 → ∀ i, i < manyR P (q + 2) → canB P X (q + 2) i = false) : brokenP P X = (1, 0) := by
  rcases brokenF_spec (p := canB P X) (many := manyR P) 6 2 with ⟨h1, _⟩ | ⟨q, i, h1, h2, h3, h4, _⟩
  · exact h1
  · have := h (q - 2) (by omega) i (by rw [show q - 2 + 2 = q from by omega]; exact h3)
    rw [show q - 2 + 2 = q from by omega, h4] at this; cases this
theorem broken_some {P : Pln} {X : Pnt} {r i : Nat} (hr : r < 6) (h0 : ∀ q, q < r → ∀ i, i < manyR P (q + 2) → canB P X (q + 2) i = false) (hi : i < manyR P (r + 2)) (h1 : ∀ j, j < i → canB P X (r + 2) j = false) (h2 : canB P X (r + 2) i = true) : brokenP P X = (r + 2, i) := by
  rcases brokenF_spec (p := canB P X) (many := manyR P) 6 2 with ⟨_, g⟩ | ⟨q, k, g1, g2, g3, g4, g5, g6⟩
  · have := g (r + 2) (by omega) (by omega) i hi
    rw [h2] at this; cases this
  · have hq : q = r + 2 := by
      rcases Nat.lt_trichotomy q (r + 2) with h | h | h
      · have := h0 (q - 2) (by omega) k (by rw [show q - 2 + 2 = q from by omega]; exact g3)
        rw [show q - 2 + 2 = q from by omega, g4] at this; cases this
      · exact h
      · have := g6 (r + 2) (by omega) h i hi
        rw [h2] at this; cases this
    subst hq
    have hk : k = i := by
      rcases Nat.lt_trichotomy k i with h | h | h
      · have := h1 k h; rw [g4] at this; cases this
      · exact h
      · have := g5 i h; rw [h2] at this; cases this
    subst hk
    exact g1
theorem manyR_le {P : Pln} (hP : PlnOk P) (r : Nat) : manyR P r ≤ 12 := by
  have := hP.n; have := hP.ns; have := hP.nf
  unfold manyR; split
  · omega
  · split
    · omega
    · split <;> omega
theorem broken_spec (P : Pln) (X : Pnt) (hP : PlnOk P) (hX : PntOk P X) : Spec Tryz.prog 177 [.agg (pntC P X)] (.tup [.v (.int .i64 (brokenP P X).1), .v (.int .i64 (brokenP P X).2)]) := by
  have hrs := rules_spec P X
  have hr := fun r (h : r < 6) => rule_spec P X hP hX h
  have hml := manyR_le hP
  simp only [rulesV] at hrs
  refine spec_of mixed Tryz.func177 (by decide) rfl Tryz.results177 Tryz.ntmps177 (by decide) 0 (by simp) ?_
  have hpc : pntC P X = [.v (.int .i64 P.empty), .v (.int .i64 P.moment), .v (.int .i64 P.takeoff), .v (.int .i64 P.landing), cnrL P.corners, stnL P.stations, .v (.int .i64 P.tank.arm), .v (.int .i64 P.tank.most), .v (.int .i64 P.reserve), stnL P.floats, itmL X.items, .v (.int .i64 X.tank.low), .v (.int .i64 X.tank.high), spnL X.water, .v (.bool X.landing)] := rfl
  simp [hpc, cnrL, stnL, itmL, spnL]
  refine pop_spec hrs rfl false (.inl (by simp [hpc, cnrL, stnL, itmL, spnL])) (.inl rfl) rfl (by simp [hpc, cnrL, stnL, itmL, spnL]) ?_
  simp [hpc, cnrL, stnL, itmL, spnL]
  refine pwp_loop (fun r : Nat => [(10, .v (.int .i64 r))]) (fun r => r ≤ 6 ∧ ∀ q, q < r → ∀ i, i < manyR P (q + 2) → canB P X (q + 2) i = false) (fun r => 6 - r) 0 ⟨Nat.zero_le _, fun q h => by omega⟩ (by simp; rfl) (by simp [hpc, cnrL, stnL, itmL, spnL]) ?_
  intro r ⟨hr6, hno⟩
  by_cases hlt : r < 6
  · have hcall := hr r hlt
    have hm := hml (r + 2)
    have hl := rl_length P X r
    have hg := fun i (h : i < manyR P (r + 2)) => rl_get (P := P) (X := X) (r := r) h
    have hfound := fun i => broken_some (P := P) (X := X) (r := r) (i := i) hlt hno
    have hmore : (∀ i, i < manyR P (r + 2) → canB P X (r + 2) i = false) → ∀ q, q < r + 1 → ∀ i, i < manyR P (q + 2) → canB P X (q + 2) i = false := fun h q hq => by
      rcases Nat.lt_or_eq_of_le (Nat.le_of_lt_succ hq) with h' | rfl
      · exact hno q h'
      · exact h
    generalize rl P X r = L at hcall hl hg
    have hcases : r = 0 ∨ r = 1 ∨ r = 2 ∨ r = 3 ∨ r = 4 ∨ r = 5 := by omega
    rcases hcases with rfl | rfl | rfl | rfl | rfl | rfl
    all_goals
      simp only [ruleF] at hcall
      simp [ruleF]
      refine pop_spec hcall rfl false (.inl (by simp [hpc, cnrL, stnL, itmL, spnL])) (.inl rfl) rfl (by simp [bools]) ?_
      simp [bools]
      refine pwp_loop (fun i : Nat => [(17, .v (.int .i64 i))]) (fun i => i ≤ L.length ∧ ∀ j, j < i → getb L j = false) (fun i => L.length - i) 0 ⟨Nat.zero_le _, fun j h => by omega⟩ (by simp; rfl) (by simp) ?_
      intro i ⟨hi, hf⟩
      by_cases hil : i < L.length
      · have wi := i64_wrap (show -9223372036854775808 ≤ (i : Int) + 1 ∧ _ from by omega)
        have hgi := hg i (by omega)
        cases hb : getb L i with
        | true =>
          simp [hil, hb]
          refine answers_of rfl ?_
          rw [hfound i (by omega) (fun j hj => by rw [← hg j (by omega)]; exact hf j hj) (by rw [← hgi, hb])]
          simp
        | false =>
          simp [hil, hb]
          refine again_of (i + 1) ⟨by omega, fun j hj => ?_⟩ (by omega) ?_
          · rcases Nat.lt_or_eq_of_le (Nat.le_of_lt_succ hj) with h' | rfl
            · exact hf j h'
            · exact hb
          · simp [wi]
      · obtain rfl : i = L.length := by omega
        simp
        refine again_of (_ + 1) ⟨by omega, hmore fun i hi => by rw [← hg i hi]; exact hf i (by omega)⟩ (by omega) ?_
        simp
  · obtain rfl : r = 6 := by omega
    simp
    refine answers_of rfl ?_
    rw [broken_none hno]
    simp
end
end Go.Qg

namespace Go.Qg
open Go.Qg
set_option linter.all false
section
open Go.Proofs
set_option maxRecDepth 100000
set_option maxHeartbeats 32000000
set_option linter.unusedSimpArgs false
attribute [local irreducible] pwp pops pdraw pop popCall pdCall thenP blockP scopeP pspec Spec answers ppost CallW rend
instance : Inhabited Pnt := ⟨⟨[], ⟨0, 0⟩, [], false⟩⟩
def pntAt (l : List Pnt) (i : Nat) : Pnt := l.getD i default
def pntL (l : List Pnt) : PV := .sl 5 l.length fun i => (pntAt l i).cells
def rowsPt (l : List Pnt) : List (List PV) := l.map Pnt.cells
theorem Pnt.plain (X : Pnt) : plainL X.cells = true := by simp [Pnt.cells, plainL, PV.plain, itmL, spnL]
@[simp] theorem rowsPt_length (l : List Pnt) : (rowsPt l).length = l.length := by simp [rowsPt]
@[simp] theorem rowsPt_nil : rowsPt [] = [] := rfl
@[simp] theorem renLL_rowsPt (π : Nat → Nat) (l : List Pnt) : renLL π (rowsPt l) = rowsPt l := by
  induction l with
  | nil => rfl
  | cons x l ih => simp only [rowsPt, List.map_cons, renLL, renL_plain x.plain] at *; rw [ih]
@[simp] theorem namesLL_rowsPt (l : List Pnt) : namesLL (rowsPt l) = [] := by
  induction l with
  | nil => rfl
  | cons x l ih => simp only [rowsPt, List.map_cons, namesLL, plainL_names x.plain, List.nil_append] at *; exact ih
@[simp] theorem vwAllL_rowsPt (f : PF) (T : Tgt) (d : Nat) (l : List Pnt) : vo.vwAllL f T d (rowsPt l) (rowsPt l) = True := by
  induction l with
  | nil => simp [rowsPt, vo.vwAllL]
  | cons x l ih => simp only [rowsPt, List.map_cons, vo.vwAllL, vwAll_plain x.plain, true_and] at *; exact ih
theorem vwAllL_snoc (f : PF) (T : Tgt) (d : Nat) (l : List Pnt) (x y : List PV) : vo.vwAllL f T d (rowsPt l ++ [x]) (rowsPt l ++ [y]) = vwAll (vw f T d) x y := by
  induction l with
  | nil => simp [rowsPt, vo.vwAllL]
  | cons z l ih => simp only [rowsPt, List.map_cons, List.cons_append, vo.vwAllL, vwAll_plain z.plain, true_and] at *; exact ih
@[simp] theorem rowsPt_one {l : List Pnt} : (∀ (x : List PV), x ∈ rowsPt l → ∀ (y : PV), y ∈ x → y.one = true) ↔ True := by
  refine ⟨fun _ => trivial, fun _ x hx y hy => ?_⟩
  obtain ⟨b, _, rfl⟩ := List.mem_map.1 hx
  simp [Pnt.cells] at hy
  rcases hy with rfl | rfl | rfl | rfl | rfl <;> rfl
@[simp] theorem rowsPt_len1 {l : List Pnt} : (∀ (x : List PV), x ∈ rowsPt l → x.length = 5) ↔ True := by
  refine ⟨fun _ => trivial, fun _ x hx => ?_⟩
  obtain ⟨b, _, rfl⟩ := List.mem_map.1 hx
  rfl
@[simp] theorem rowsPt_take (l : List Pnt) (k : Nat) : (rowsPt l).take k = rowsPt (l.take k) := by simp [rowsPt]
theorem rowsPt_get {l : List Pnt} {k : Nat} (h : k < l.length) : (rowsPt l)[k]? = some (pntAt l k).cells := by simp [rowsPt, pntAt, h]
theorem rowsPt_snoc (l : List Pnt) (x : Pnt) : rowsPt l ++ [x.cells] = rowsPt (l ++ [x]) := by simp [rowsPt]
theorem rowsPt_allone (l : List Pnt) : ((rowsPt l).all fun r => r.all (·.one)) = true := by
  simp [List.all_eq_true, rowsPt, Pnt.cells, PV.one, itmL, spnL]
theorem rows_itm (l : List Itm) : (List.range l.length).map (fun i => (itmAt l i).cells) = rowsIt l := rowsIt_range l
def addX (items : List Itm) (now water : Spn) (nf : Nat) (b : Bool) : Pnt := ⟨items, now, List.replicate nf water, b⟩
def addH (now water : Spn) (l : List Pnt) : PF := [.box false now.cells, .box false water.cells, .box false [.own 3 l.length 0 l.length false], .rows none l.length 242 5 (rowsPt l)]
theorem add_spec (P : Pln) (g : Leg) (b : Bool) (now water : Spn) (l : List Pnt) (hi : g.items.length ≤ 12) (hf : P.floats.length ≤ 2) (hl : l.length ≤ 100) :
    CallW Tryz.prog 215 [.agg g.cells, .v (.bool b), .ref 0 0, .rp P.cells 0, .ref 1 0, .ref 2 0] (addH now water l) (fun out => out = .ret (.tup []) (addH now water (l ++ [addX g.items now water P.floats.length b]))) := by
  refine callW_of mixed Tryz.func215 (by decide) rfl (congrArg Array.toList Tryz.results215) Tryz.ntmps215 (by decide) 34 (by simp) (by decide) ?_
  simp [addH, Leg.cells, Pln.cells, cnrL, stnL, itmL, Spn.cells]
  simp [show g.items.length * 24 ≤ 140737488355328 from by omega, show g.items.length ≤ maxLen from by simp [maxLen]; omega]
  have hrl := rowsIt_length g.items
  refine pwp_loop (fun k : Nat => [(8, .box true [.sl 3 g.items.length fun i => (itmAt g.items i).cells, .v (.int .i64 now.low), .v (.int .i64 now.high), .own 27 k 0 k false, .v (.bool b)]), (16, .undef), (21, .v (.int .i64 k)), (27, .rows none k 37 2 (rowsSp (List.replicate k water)))]) (fun k => k ≤ P.floats.length) (fun k => P.floats.length - k) 0 (Nat.zero_le _) (by simp; rfl) ?_ ?_
  · simp [rows_itm]
    intro k hk
    rw [rowsIt_get hk]
    simp [Itm.cells]
  intro k hk
  by_cases hkl : k < P.floats.length
  · have wk := i64_wrap (show -9223372036854775808 ≤ (k : Int) + 1 ∧ _ from by omega)
    have er := rowsSp_snoc (List.replicate k water) water
    rw [show List.replicate k water ++ [water] = List.replicate (k + 1) water from by rw [List.replicate_succ']] at er
    simp only [Spn.cells] at er
    have et : (List.replicate k water).take k = List.replicate k water := List.take_of_length_le (by simp)
    simp [hkl, show (k + 1) * 16 ≤ 140737488355328 from by omega, show k + 1 ≤ maxLen from by simp [maxLen]; omega]
    refine again_of (k + 1) (by omega) (by omega) ?_
    simp [wk, er, et]
  · obtain rfl : k = P.floats.length := by omega
    simp [show (l.length + 1) * 72 ≤ 140737488355328 from by omega, show l.length + 1 ≤ maxLen from by simp [maxLen]; omega]
    have et : l.take l.length = l := List.take_of_length_le (Nat.le_refl _)
    refine ends_n (.tup []) (addH now water (l ++ [addX g.items now water P.floats.length b])) [] rfl (by decide) ?_ ?_ (by simp [addH, Spn.cells])
    · simp [addH, Spn.cells, et, ← rowsPt_snoc, vwAllL_snoc, rowsPt_allone, addX, Pnt.cells, itmL, spnL]
      intro k hk
      rw [rowsSp_get (by simpa using hk)]
      simp [Spn.cells, spnAt, List.getD, hk]
    · simp
theorem ptsL_length (P : Pln) (fuel : Spn) (legs : List Leg) (n : Nat) : (ptsL P fuel legs n).length = n := by simp [ptsL]
theorem ptsL_A (P : Pln) (fuel : Spn) (legs : List Leg) (k : Nat) : ptsL P fuel legs (2 * k) ++ [ptA P fuel legs k] = ptsL P fuel legs (2 * k + 1) := by
  rw [ptsL, ptsL, List.range_succ, List.map_append, List.map_cons, ptOf_even]; rfl
theorem ptsL_B (P : Pln) (fuel : Spn) (legs : List Leg) (k : Nat) : ptsL P fuel legs (2 * k + 1) ++ [ptB P fuel legs k] = ptsL P fuel legs (2 * (k + 1)) := by
  rw [ptsL, ptsL, show 2 * (k + 1) = (2 * k + 1) + 1 from by omega, List.range_succ (n := 2 * k + 1), List.map_append (l₂ := [2 * k + 1]), List.map_cons, ptOf_odd]; rfl
theorem points_spec (P : Pln) (fuel : Spn) (legs : List Leg) (hf : P.floats.length ≤ 2) (hT : TripOk P fuel legs) : Spec Tryz.prog 175 [.agg P.cells, .agg fuel.cells, legL legs] (pntL (ptsL P fuel legs (2 * legs.length))) := by
  have hn := hT.n
  refine spec_of mixed Tryz.func175 (by decide) rfl Tryz.results175 Tryz.ntmps175 (by decide) 1 (by simp) ?_
  simp [Pln.cells, cnrL, stnL, Spn.cells, legL]
  refine pwp_loop (fun k : Nat => [(3, .rp P.cells 0), (7, .box true [.own 70 (2 * k) 0 (2 * k) false]), (8, .box true (stT fuel legs k).cells), (9, .box true (stF legs k).cells), (10, .clo (.func 215) [] [.ref 8 0, .rp P.cells 0, .ref 9 0, .ref 7 0]), (15, .undef), (18, .v (.int .i64 k)), (70, .rows none (2 * k) 242 5 (rowsPt (ptsL P fuel legs (2 * k))))]) (fun k => k ≤ legs.length) (fun k => legs.length - k) 0 (Nat.zero_le _) (by simp; rfl) ?_ ?_
  · simp [Pln.cells, cnrL, stnL, Spn.cells, stT, stF, ptsL]
  intro k hk
  by_cases hkl : k < legs.length
  · have wk := i64_wrap (show -9223372036854775808 ≤ (k : Int) + 1 ∧ _ from by omega)
    have hL := hT.leg k hkl
    have b1 := stT_bounds hT k hk
    have b2 := stF_bounds hT k hk
    have b3 := stG_bounds hT k hk
    have l1 := hL.fuel
    have l2 := hL.burn
    have l3 := hL.leak
    have l4 := hL.n
    have hlA := ptsL_length P fuel legs (2 * k)
    have hlB := ptsL_length P fuel legs (2 * k + 1)
    have eT : stT fuel legs (k + 1) = ⟨(stT fuel legs k).low + (legAt legs k).fuel - (legAt legs k).burn.high, (stT fuel legs k).high + (legAt legs k).fuel - (legAt legs k).burn.low⟩ := rfl
    have eF := stF_succ legs k
    have addA := add_spec P (legAt legs k) false ⟨(stT fuel legs k).low + (legAt legs k).fuel, (stT fuel legs k).high + (legAt legs k).fuel⟩ (stG legs k) (ptsL P fuel legs (2 * k)) l4 hf (by omega)
    have addB := add_spec P (legAt legs k) true (stT fuel legs (k + 1)) (stF legs (k + 1)) (ptsL P fuel legs (2 * k + 1)) l4 hf (by omega)
    rw [show addX (legAt legs k).items ⟨(stT fuel legs k).low + (legAt legs k).fuel, (stT fuel legs k).high + (legAt legs k).fuel⟩ (stG legs k) P.floats.length false = ptA P fuel legs k from rfl, ptsL_A] at addA
    rw [show addX (legAt legs k).items (stT fuel legs (k + 1)) (stF legs (k + 1)) P.floats.length true = ptB P fuel legs k from rfl, ptsL_B] at addB
    simp only [addH, hlA, hlB, ptsL_length, Spn.cells] at addA addB
    have w1 := i64_wrap (show -9223372036854775808 ≤ (stT fuel legs k).low + (legAt legs k).fuel ∧ _ from by omega)
    have w2 := i64_wrap (show -9223372036854775808 ≤ (stT fuel legs k).high + (legAt legs k).fuel ∧ _ from by omega)
    have w3 := i64_wrap (show -9223372036854775808 ≤ (stT fuel legs k).low + (legAt legs k).fuel - (legAt legs k).burn.high ∧ _ from by omega)
    have w4 := i64_wrap (show -9223372036854775808 ≤ (stT fuel legs k).high + (legAt legs k).fuel - (legAt legs k).burn.low ∧ _ from by omega)
    have w5 := i64_wrap (show -9223372036854775808 ≤ (stG legs k).low + (legAt legs k).leak.low ∧ _ from by omega)
    have w6 := i64_wrap (show -9223372036854775808 ≤ (stG legs k).high + (legAt legs k).leak.high ∧ _ from by omega)
    cases hp : (legAt legs k).pump with
    | true =>
      have hG : stG legs k = ⟨0, 0⟩ := by simp [stG, hp]
      rw [hG] at addA eF w5 w6
      simp only [Int.zero_add] at addA eF w5 w6
      rw [eT, eF] at addB
      simp only at addB
      simp (config := { maxSteps := 4000000 }) [hkl, Leg.cells, hp, Pln.cells, cnrL, stnL, Spn.cells, itmL, w1, w2]
      refine pop_callW addA rfl [8, 9, 7, 70] false (by decide) ?_ (.inl ?_) ?_
      · simp
      · simp [Leg.cells, hp, Pln.cells, cnrL, stnL, itmL]
      rintro out rfl
      refine ⟨[], by simp [backOk], .inl rfl, by simp [back, backV, placeAll], ?_⟩
      simp (config := { maxSteps := 4000000 }) [back, backV, placeAll, Leg.cells, hp, itmL, w3, w4, w5, w6]
      refine pop_callW addB rfl [8, 9, 7, 70] false (by decide) ?_ (.inl ?_) ?_
      · simp
      · simp [Leg.cells, hp, Pln.cells, cnrL, stnL, itmL]
      rintro out rfl
      refine ⟨[], by simp [backOk], .inl rfl, by simp [back, backV, placeAll], ?_⟩
      simp (config := { maxSteps := 4000000 }) [back, backV, placeAll]
      refine again_of (k + 1) (by omega) (by omega) ?_
      simp [wk, eT, eF, Spn.cells, Pln.cells, cnrL, stnL, show 2 * (k + 1) = 2 * k + 1 + 1 from by omega]
    | false =>
      have hG : stG legs k = stF legs k := by simp [stG, hp]
      rw [hG] at addA eF w5 w6
      rw [eT, eF] at addB
      simp only at addB
      simp (config := { maxSteps := 4000000 }) [hkl, Leg.cells, hp, Pln.cells, cnrL, stnL, Spn.cells, itmL, w1, w2]
      refine pop_callW addA rfl [8, 9, 7, 70] false (by decide) ?_ (.inl ?_) ?_
      · simp
      · simp [Leg.cells, hp, Pln.cells, cnrL, stnL, itmL]
      rintro out rfl
      refine ⟨[], by simp [backOk], .inl rfl, by simp [back, backV, placeAll], ?_⟩
      simp (config := { maxSteps := 4000000 }) [back, backV, placeAll, Leg.cells, hp, itmL, w3, w4, w5, w6]
      refine pop_callW addB rfl [8, 9, 7, 70] false (by decide) ?_ (.inl ?_) ?_
      · simp
      · simp [Leg.cells, hp, Pln.cells, cnrL, stnL, itmL]
      rintro out rfl
      refine ⟨[], by simp [backOk], .inl rfl, by simp [back, backV, placeAll], ?_⟩
      simp (config := { maxSteps := 4000000 }) [back, backV, placeAll]
      refine again_of (k + 1) (by omega) (by omega) ?_
      simp [wk, eT, eF, Spn.cells, Pln.cells, cnrL, stnL, show 2 * (k + 1) = 2 * k + 1 + 1 from by omega]
  · obtain rfl : k = legs.length := by omega
    simp
    refine answers_of rfl ?_
    simp [pntL, ptsL_length]
    intro k hk
    simp [rowsPt_get (show k < (ptsL P fuel legs (2 * legs.length)).length by rw [ptsL_length]; exact hk), vwAll_plain (pntAt (ptsL P fuel legs (2 * legs.length)) k).plain]
    intro x hx
    simp [Pnt.cells] at hx
    rcases hx with rfl | rfl | rfl | rfl | rfl <;> simp [itmL, spnL]
end
section
open Go.Proofs
set_option maxRecDepth 100000
set_option maxHeartbeats 32000000
set_option linter.unusedSimpArgs false
attribute [local irreducible] pwp pops pdraw pop popCall pdCall thenP blockP scopeP pspec Spec answers ppost CallW rend
theorem itemsB_spec {l : List Itm} {ns : Nat} : itemsB l ns = true ↔ l.length ≤ 12 ∧ ∀ i, i < l.length → (0 ≤ (itmAt l i).station ∧ (itmAt l i).station < ns) ∧ 0 ≤ (itmAt l i).low ∧ (itmAt l i).low ≤ (itmAt l i).high ∧ (itmAt l i).high ≤ 20000 := by
  simp only [itemsB, Bool.and_eq_true, decide_eq_true_eq, allN_spec, itmB, inB_spec, spanB_spec]
  constructor
  · rintro ⟨h1, h2⟩
    exact ⟨h1, fun i hi => by have := h2 i hi; omega⟩
  · rintro ⟨h1, h2⟩
    exact ⟨h1, fun i hi => by have := h2 i hi; omega⟩
def firstRes (P : Pln) (fuel : Spn) (legs : List Leg) : PV := match tripP P fuel legs with
  | some j => .tup [.v (.int .i64 j), .v (.int .i64 (brokenP P (ptOf P fuel legs j)).1), .v (.int .i64 (brokenP P (ptOf P fuel legs j)).2)]
  | none => .tup [.v (.int .i64 (-1)), .v (.int .i64 1), .v (.int .i64 0)]
theorem pntAt_ptsL {P : Pln} {fuel : Spn} {legs : List Leg} {n j : Nat} (h : j < n) : pntAt (ptsL P fuel legs n) j = ptOf P fuel legs j := by simp [pntAt, ptsL, h]
@[simp] theorem wrap_m1' : IntKind.i64.wrap (-1) = -1 := i64_wrap (by omega)
theorem first_spec (P : Pln) (fuel : Spn) (legs : List Leg) (hP : PlnOk P) (hT : TripOk P fuel legs) : Spec Tryz.prog 104 [.agg P.cells, .agg fuel.cells, legL legs] (firstRes P fuel legs) := by
  have hn := hT.n
  have hp := points_spec P fuel legs hP.nf hT
  have hat := fun j (h : j < 2 * legs.length) => pntAt_ptsL (P := P) (fuel := fuel) (legs := legs) h
  have hok := fun j (h : j < 2 * legs.length) => ptOf_ok hT h
  have hlen := ptsL_length P fuel legs (2 * legs.length)
  have hres : ∀ j, j < 2 * legs.length → sureB P (ptOf P fuel legs j) = false → (∀ i, i < j → sureB P (ptOf P fuel legs i) = true) → firstRes P fuel legs = .tup [.v (.int .i64 j), .v (.int .i64 (brokenP P (ptOf P fuel legs j)).1), .v (.int .i64 (brokenP P (ptOf P fuel legs j)).2)] := fun j h1 h2 h3 => by
    have : tripP P fuel legs = some j := fstN_some.2 ⟨h1, by simp [h2], fun k hk => by simp [h3 k hk]⟩
    simp [firstRes, this]
  have hres0 : (∀ i, i < 2 * legs.length → sureB P (ptOf P fuel legs i) = true) → firstRes P fuel legs = .tup [.v (.int .i64 (-1)), .v (.int .i64 1), .v (.int .i64 0)] := fun h => by
    have : tripP P fuel legs = none := fstN_none.2 fun k hk => by simp [h k hk]
    simp [firstRes, this]
  generalize firstRes P fuel legs = R at *
  generalize ptsL P fuel legs (2 * legs.length) = L at *
  refine spec_of mixed Tryz.func104 (by decide) rfl Tryz.results104 Tryz.ntmps104 (by decide) 0 (by simp) ?_
  simp [Pln.cells, cnrL, stnL, Spn.cells, legL]
  refine pop_spec hp rfl false (.inl (by simp [Pln.cells, cnrL, stnL, Spn.cells, legL])) (.inl rfl) rfl (by simp [pntL]) ?_
  simp [pntL, hlen]
  refine pwp_loop (fun k : Nat => [(18, .v (.int .i64 k))]) (fun k => k ≤ 2 * legs.length ∧ ∀ i, i < k → sureB P (ptOf P fuel legs i) = true) (fun k => 2 * legs.length - k) 0 ⟨Nat.zero_le _, fun i hi => by omega⟩ (by simp; rfl) (by simp [hlen]) ?_
  intro k ⟨hk, hq⟩
  by_cases hkl : k < 2 * legs.length
  · have wk := i64_wrap (show -9223372036854775808 ≤ (k : Int) + 1 ∧ _ from by omega)
    have hb := broken_spec P (ptOf P fuel legs k) hP (hok k hkl)
    have hX : pntC P (ptOf P fuel legs k) = pntC P (pntAt L k) := by rw [hat k hkl]
    rw [hX] at hb
    have hs : sureB P (ptOf P fuel legs k) = decide ((brokenP P (ptOf P fuel legs k)).1 = 1) := rfl
    have hr := hres k hkl
    generalize brokenP P (ptOf P fuel legs k) = br at *
    obtain ⟨r, i⟩ := br
    simp only at hb hs hr
    simp (config := { maxSteps := 4000000 }) [show (k : Int) < 2 * (legs.length : Int) from by omega, hlen, show k < L.length from by omega, hkl, Pnt.cells, itmL, spnL]
    refine pop_spec hb rfl false (.inl (by simp [pntC, cnrL, stnL, itmL, spnL])) (.inl rfl) rfl (by simp) ?_
    by_cases hr1 : r = 1
    · subst hr1
      simp
      refine again_of (k + 1) ⟨by omega, fun j hj => ?_⟩ (by omega) ?_
      · rcases Nat.lt_or_eq_of_le (Nat.le_of_lt_succ hj) with h' | rfl
        · exact hq j h'
        · rw [hs]; rfl
      · simp [wk, hlen]
    · simp [hr1, show ¬ (r : Int) = 1 from by omega]
      refine answers_of rfl ?_
      rw [hr (by rw [hs]; simp [hr1]) hq]
      simp
  · obtain rfl : k = 2 * legs.length := by omega
    simp [hlen]
    refine answers_of rfl ?_
    rw [hres0 hq]
    simp
theorem legsB_ok {P : Pln} {legs : List Leg} (h : (allN legs.length fun k => legB P.stations.length (legAt legs k)) = true) : ∀ i, i < legs.length → LegOk P (legAt legs i) := fun i hi => by
  have := allN_spec.1 h i hi
  simp only [legB, Bool.and_eq_true, itemsB_spec, inB_spec, spanB_spec] at this
  obtain ⟨⟨⟨⟨h1, h2⟩, h3⟩, h4⟩, h5⟩ := this
  exact ⟨h1, h2, h3, h4, h5⟩
theorem tripped_ok {P : Pln} {fuel : Spn} {legs : List Leg} : trippedE P fuel legs = 0 ↔ PlnOk P ∧ TripOk P fuel legs := by
  unfold trippedE
  constructor
  · intro h
    split at h
    · omega
    · rename_i h1
      split at h
      · rename_i h2
        simp only [tripE, if_neg h1] at h
        split at h
        · omega
        · rename_i h3
          have a1 : ¬ legs.length = 0 := fun e => h3 (.inl e)
          have a2 : spanB fuel 0 20000 = true := by
            cases he : spanB fuel 0 20000 with
            | true => rfl
            | false => exact (h3 (.inr (.inl he))).elim
          have a3 : (allN legs.length fun k => legB P.stations.length (legAt legs k)) = true := by
            cases he : allN legs.length fun k => legB P.stations.length (legAt legs k) with
            | true => rfl
            | false => exact (h3 (.inr (.inr he))).elim
          exact ⟨valid_ok.1 h2, spanB_spec.1 a2, by omega, legsB_ok a3⟩
      · omega
  · rintro ⟨h1, h2⟩
    have hn := h2.n
    rw [if_neg (by omega), if_pos (valid_ok.2 h1), tripE, if_neg (by omega), if_neg]
    rintro (h | h | h)
    · omega
    · rw [spanB_spec.2 h2.fuel] at h; cases h
    · have : (allN legs.length fun k => legB P.stations.length (legAt legs k)) = true := allN_spec.2 fun k hk => by
        have hL := h2.leg k hk
        simp only [legB, Bool.and_eq_true, itemsB_spec, inB_spec, spanB_spec]
        exact ⟨⟨⟨⟨hL.n, hL.item⟩, hL.fuel⟩, hL.burn⟩, hL.leak⟩
      rw [this] at h; cases h
structure LegsLen (legs : List Leg) : Prop where
  n : legs.length ≤ 9223372036854775807
  i : ∀ k, k < legs.length → (legAt legs k).items.length ≤ 9223372036854775807
end
section
open Go.Proofs
set_option maxRecDepth 100000
set_option maxHeartbeats 32000000
set_option linter.unusedSimpArgs false
attribute [local irreducible] pwp pops pdraw pop popCall pdCall thenP blockP scopeP pspec Spec answers ppost CallW rend
theorem rowsB_app (a b : List Bool) : rowsB a ++ rowsB b = rowsB (a ++ b) := by simp [rowsB]
def brT (P : Pln) (legs : List Leg) (n : Int) (j c : Nat) : List Bool := (idxT P j ++ idxR P j c).map (canX P legs n)
theorem brT_zero (P : Pln) (legs : List Leg) (n : Int) : brT P legs n 0 0 = [] := rfl
theorem brT_succ (P : Pln) (legs : List Leg) (n : Int) (j c : Nat) : brT P legs n j c ++ rl P (ptOf P ⟨n, n⟩ legs j) c = brT P legs n j (c + 1) := by
  simp only [brT, idxR, List.map_append, List.map_map, List.append_assoc]
  rfl
theorem brT_next (P : Pln) (legs : List Leg) (n : Int) (j : Nat) : brT P legs n j 6 = brT P legs n (j + 1) 0 := by simp [brT, idxT, idxR]
theorem brT_all (P : Pln) (legs : List Leg) (n : Int) : brT P legs n (2 * legs.length) 0 = breaksL P legs n := by simp [brT, idxR, breaksL]
theorem idxR_le {P : Pln} (hP : PlnOk P) (j : Nat) : ∀ c, (idxR P j c).length ≤ 12 * c
  | 0 => by simp [idxR]
  | c + 1 => by
    have h1 := idxR_le hP j c
    have h2 := manyR_le hP (c + 2)
    simp only [idxR, List.length_append, List.length_map, List.length_range]; omega
theorem idxT_le {P : Pln} (hP : PlnOk P) : ∀ n, (idxT P n).length ≤ 72 * n
  | 0 => by simp [idxT]
  | n + 1 => by
    have h1 := idxT_le hP n
    have h2 := idxR_le hP n 6
    simp only [idxT, List.length_append]; omega
theorem brT_le {P : Pln} (hP : PlnOk P) (legs : List Leg) (n : Int) (j c : Nat) : (brT P legs n j c).length ≤ 72 * j + 12 * c := by
  have h1 := idxT_le hP j
  have h2 := idxR_le hP j c
  simp only [brT, List.length_map, List.length_append]; omega
theorem breaks_spec (P : Pln) (legs : List Leg) (n : Int) (hP : PlnOk P) (hT : TripOk P ⟨n, n⟩ legs) : Spec Tryz.prog 101 [.agg P.cells, legL legs, .v (.int .i64 n)] (bools (breaksL P legs n)) := by
  have hn := hT.n
  have hp := points_spec P ⟨n, n⟩ legs hP.nf hT
  have hat := fun j (h : j < 2 * legs.length) => pntAt_ptsL (P := P) (fuel := ⟨n, n⟩) (legs := legs) h
  have hok := fun j (h : j < 2 * legs.length) => ptOf_ok hT h
  have hlen := ptsL_length P ⟨n, n⟩ legs (2 * legs.length)
  have hml := manyR_le hP
  simp only [Spn.cells] at hp
  generalize ptsL P ⟨n, n⟩ legs (2 * legs.length) = L at *
  refine spec_of mixed Tryz.func101 (by decide) rfl Tryz.results101 Tryz.ntmps101 (by decide) 0 (by simp) ?_
  simp [Pln.cells, cnrL, stnL, legL]
  refine pop_spec hp rfl false (.inl (by simp [Pln.cells, cnrL, stnL, legL])) (.inl rfl) rfl (by simp [pntL]) ?_
  simp [pntL, hlen]
  refine pwp_loop (fun j : Nat => [(7, .own 34 (6 * j) 0 (brT P legs n j 0).length false), (19, .v (.int .i64 j)), (34, .rows none (6 * j) 4 1 (rowsB (brT P legs n j 0)))]) (fun j => j ≤ 2 * legs.length) (fun j => 2 * legs.length - j) 0 (Nat.zero_le _) (by simp; rfl) (by simp [hlen, brT_zero]) ?_
  intro j hj
  by_cases hjl : j < 2 * legs.length
  · have wj := i64_wrap (show -9223372036854775808 ≤ (j : Int) + 1 ∧ _ from by omega)
    have hrs := rules_spec P (ptOf P ⟨n, n⟩ legs j)
    have hr := fun r (h : r < 6) => rule_spec P (ptOf P ⟨n, n⟩ legs j) hP (hok j hjl) h
    have hsucc := fun c => brT_succ P legs n j c
    have hle := fun c => brT_le hP legs n j c
    have hrll := fun c => rl_length P (ptOf P ⟨n, n⟩ legs j) c
    have hX : ptOf P ⟨n, n⟩ legs j = pntAt L j := (hat j hjl).symm
    rw [hX] at hrs hr hsucc hrll
    simp only [rulesV] at hrs
    have hpc : pntC P (pntAt L j) = [.v (.int .i64 P.empty), .v (.int .i64 P.moment), .v (.int .i64 P.takeoff), .v (.int .i64 P.landing), cnrL P.corners, stnL P.stations, .v (.int .i64 P.tank.arm), .v (.int .i64 P.tank.most), .v (.int .i64 P.reserve), stnL P.floats, itmL (pntAt L j).items, .v (.int .i64 (pntAt L j).tank.low), .v (.int .i64 (pntAt L j).tank.high), spnL (pntAt L j).water, .v (.bool (pntAt L j).landing)] := rfl
    simp (config := { maxSteps := 4000000 }) [show (j : Int) < 2 * (legs.length : Int) from by omega, hlen, show j < L.length from by omega, hjl, Pnt.cells, itmL, spnL]
    refine pop_spec hrs rfl false (.inl (by simp [hpc, cnrL, stnL, itmL, spnL])) (.inl rfl) rfl (by simp [hpc, cnrL, stnL, itmL, spnL]) ?_
    simp [hpc, cnrL, stnL, itmL, spnL]
    refine pwp_loop (fun c : Nat => [(7, .own 34 (6 * j + c) 0 (brT P legs n j c).length false), (28, .v (.int .i64 c)), (34, .rows none (6 * j + c) 4 1 (rowsB (brT P legs n j c)))]) (fun c => c ≤ 6) (fun c => 6 - c) 0 (Nat.zero_le _) (by simp; rfl) (by simp [hpc, cnrL, stnL, itmL, spnL, hlen]) ?_
    intro c hc
    by_cases hlt : c < 6
    · have hcall := hr c hlt
      have hm := hml (c + 2)
      have hrl := hrll c
      have hs := hsucc c
      have h0 := hle c
      have e1 : (brT P legs n j (c + 1)).length = (brT P legs n j c).length + (rl P (pntAt L j) c).length := by rw [← hs, List.length_append]
      have er := rowsB_app (brT P legs n j c) (rl P (pntAt L j) c)
      rw [hs] at er
      have erng := rowsB_range (rl P (pntAt L j) c)
      generalize rl P (pntAt L j) c = R at *
      generalize hB : brT P legs n j c = B at *
      have et : B.take B.length = B := List.take_of_length_le (Nat.le_refl _)
      obtain ⟨c', hc'⟩ : ∃ c', c' = c + 1 := ⟨_, rfl⟩
      have hcases : c = 0 ∨ c = 1 ∨ c = 2 ∨ c = 3 ∨ c = 4 ∨ c = 5 := by omega
      rcases hcases with rfl | rfl | rfl | rfl | rfl | rfl
      all_goals
        simp only [ruleF] at hcall
        simp [ruleF]
        refine pop_spec hcall rfl false (.inl (by simp [hpc, cnrL, stnL, itmL, spnL])) (.inl rfl) rfl (by simp [bools]) ?_
        simp [bools, show B.length + R.length ≤ 140737488355328 from by omega, show B.length + R.length ≤ maxLen from by simp [maxLen]; omega]
        refine again_of c' (by omega) (by omega) ?_
        subst hc'
        simp [hlen, e1, er, et, erng]
    · obtain rfl : c = 6 := by omega
      simp
      refine again_of (j + 1) (by omega) (by omega) ?_
      simp [wj, hlen, brT_next, show 6 * (j + 1) = 6 * j + 6 from by omega]
  · obtain rfl : j = 2 * legs.length := by omega
    simp [hlen]
    refine answers_of rfl ?_
    rw [brT_all]
    simp [bools]
    intro k hk
    simp [rowsB_get hk]
theorem end_unique {p : Int → Bool} {K : Nat} (h : p K = false) {x : Int} (hx : 0 ≤ x) (h1 : p x = false) (h2 : ∀ n : Int, 0 ≤ n → n < x → p n = true) : endOf p K = x := by
  obtain ⟨g1, g2, g3⟩ := endOf_spec h
  rcases Int.lt_trichotomy (endOf p K) x with c | c | c
  · have := h2 _ g1.1 c; rw [g2] at this; cases this
  · exact c
  · have := g3 x hx c; rw [h1] at this; cases this
theorem change_spec (f : FuncId) (first cap : List PV) (h1 : plainL first = true) (h2 : plainL cap = true) (p : Int → Bool) (hd : DownB p) (hK : p 20000 = false)
    (h : ∀ n : Int, 0 ≤ n → n ≤ 20000 → Spec Tryz.prog f (first ++ ([.v (.int .i64 n)] ++ cap)) (.v (.bool (p n)))) : Spec Tryz.prog 102 [.v (.int .i64 0), .v (.int .i64 20000), .clo (.func f) first cap] (.v (.int .i64 (endOf p (20000 : Nat)))) := by
  refine spec_of mixed Tryz.func102 (by decide) rfl Tryz.results102 Tryz.ntmps102 (by decide) 0 (by simp) ?_
  simp [renL_plain h1, renL_plain h2]
  refine pop_spec (h 20000 (by omega) (by omega)) rfl false (.inr ⟨by simp, by simp [namesL_append, plainL_names h1, plainL_names h2]⟩) (.inl rfl) rfl (by simp) ?_
  rw [hK]
  simp
  refine pwp_loop (fun s : Int × Int => [(0, .v (.int .i64 s.1)), (1, .v (.int .i64 s.2))]) (fun s => (0 ≤ s.1 ∧ s.1 ≤ s.2 ∧ s.2 ≤ 20000) ∧ p s.2 = false ∧ ∀ n : Int, 0 ≤ n → n < s.1 → p n = true) (fun s => (s.2 - s.1).toNat) (0, 20000) ⟨by simp, hK, fun n a b => by simp only at b; omega⟩ (by simp; rfl) (by simp [vwAll_plain h1, vwAll_plain h2]) ?_
  rintro ⟨lo, hi⟩ ⟨⟨a1, a2, a3⟩, a4, a5⟩
  simp only at a1 a2 a3 a4 a5 ⊢
  by_cases hlt : lo < hi
  · obtain ⟨d, hdv⟩ : ∃ d : Int, d = (hi - lo) / 2 := ⟨_, rfl⟩
    have hd0 : 0 ≤ d ∧ lo + d < hi := by omega
    have w1 := i64_wrap (show -9223372036854775808 ≤ hi - lo ∧ _ from by omega)
    have w2 : (hi - lo).tdiv 2 = d := by rw [Int.tdiv_eq_ediv_of_nonneg (by omega), hdv]
    have w3 := i64_wrap (show -9223372036854775808 ≤ d ∧ _ from by omega)
    have w4 := i64_wrap (show -9223372036854775808 ≤ lo + d ∧ _ from by omega)
    have w5 := i64_wrap (show -9223372036854775808 ≤ lo + d + 1 ∧ _ from by omega)
    simp [hlt, w1, w2, w3, w4]
    refine pop_spec (h (lo + d) (by omega) (by omega)) rfl false (.inr ⟨by simp, by simp [namesL_append, plainL_names h1, plainL_names h2]⟩) (.inl rfl) rfl (by simp) ?_
    cases hp : p (lo + d) with
    | false =>
      simp
      refine again_of (lo, lo + d) ⟨⟨a1, by omega, by omega⟩, hp, a5⟩ (by simp only; omega) ?_
      simp [vwAll_plain h1, vwAll_plain h2]
    | true =>
      simp [w5]
      refine again_of (lo + d + 1, hi) ⟨⟨by omega, by omega, a3⟩, a4, fun n b1 b2 => hd n (lo + d) (by simp only at b2; omega) hp⟩ (by simp only; omega) ?_
      simp [vwAll_plain h1, vwAll_plain h2]
  · obtain rfl : hi = lo := by omega
    simp
    refine answers_of rfl ?_
    rw [end_unique (K := 20000) hK a1 a4 a5]
    simp
theorem tripOk_fuel {P : Pln} {f g : Spn} {legs : List Leg} (h : TripOk P f legs) (hg : 0 ≤ g.low ∧ g.low ≤ g.high ∧ g.high ≤ 20000) : TripOk P g legs := ⟨hg, h.n, h.leg⟩
theorem Fuel1_spec (P : Pln) (legs : List Leg) (n : Int) (k : Nat) (hP : PlnOk P) (hT : TripOk P ⟨n, n⟩ legs) (hk : k < (idxT P (2 * legs.length)).length) :
    Spec Tryz.prog 103 [.v (.int .i64 n), .rp P.cells 0, .rp [legL legs] 0, .rp [.v (.int .i64 k)] 0] (.v (.bool (brkK P legs k n))) := by
  have hb := breaks_spec P legs n hP hT
  have hlen := breaksL_length P legs n
  have e : brkK P legs k n = getb (breaksL P legs n) k := rfl
  rw [e]
  generalize breaksL P legs n = B at *
  refine spec_of mixed Tryz.func103 (by decide) rfl Tryz.results103 Tryz.ntmps103 (by decide) 0 (by simp) ?_
  simp [Pln.cells, cnrL, stnL, legL]
  refine pwp_draw 7 (by decide) ?_
  simp
  refine pd_spec hb (by simp [Pln.cells, cnrL, stnL, legL]) (by simp) (by simp [Pln.cells, cnrL, stnL, legL]) (by simp [bools]) ?_
  simp [bools, show k < B.length from by omega]
  refine ⟨by decide, ?_⟩
  refine answers_of rfl ?_; simp
theorem fuelTo_no {p : Nat → Int → Bool} {K k : Nat} (h : fuelTo p K k = none) : ∀ {N : Nat}, k ≤ N → fuelTo p K N = none
  | 0, hk => by obtain rfl : k = 0 := by omega
                exact h
  | N + 1, hk => by
    rcases Nat.lt_or_eq_of_le hk with c | rfl
    · simp only [fuelTo, fuelTo_no h (show k ≤ N by omega)]
    · exact h
def fuelRes (P : Pln) (legs : List Leg) : PV := if trippedE P ⟨0, 0⟩ legs = 0 then (match fuelP P legs with
  | some n => .tup [.v (.int .i64 n), .v (.int .i64 0)]
  | none => .tup [.v (.int .i64 0), .v (.int .i64 5)]) else .tup [.v (.int .i64 0), .v (.int .i64 (trippedE P ⟨0, 0⟩ legs))]
theorem Fuel_spec (P : Pln) (legs : List Leg) (hP : PlnLen P) (hl : LegsLen legs) : Spec Tryz.prog 30 [.agg P.cells, legL legs] (fuelRes P legs) := by
  have ht := tripped_spec P ⟨0, 0⟩ legs hP hl.n hl.i
  simp only [Spn.cells] at ht
  unfold fuelRes
  refine spec_of mixed Tryz.func30 (by decide) rfl Tryz.results30 Tryz.ntmps30 (by decide) 0 (by simp) ?_
  simp [Pln.cells, cnrL, stnL, legL]
  refine pop_spec ht rfl false (.inl (by simp [Pln.cells, cnrL, stnL, legL])) (.inl rfl) rfl (by simp) ?_
  by_cases h : trippedE P ⟨0, 0⟩ legs = 0
  case neg =>
    simp [h]
    refine answers_of rfl ?_; simp
  obtain ⟨k1, k2⟩ := tripped_ok.1 h
  have hn := k2.n
  have hb0 := breaks_spec P legs 0 k1 k2
  have hb1 := breaks_spec P legs 20000 k1 (tripOk_fuel k2 (by simp))
  have hl0 := breaksL_length P legs 0
  have hl1 := breaksL_length P legs 20000
  have hle := idxT_le k1 (2 * legs.length)
  simp only [bools] at hb0 hb1
  simp [h]
  refine pwp_draw 8 (by decide) ?_
  simp
  refine pd_spec hb0 (by simp [Pln.cells, cnrL, stnL, legL]) (by simp) (by simp [Pln.cells, cnrL, stnL, legL]) (by simp) ?_
  simp
  refine pd_spec hb1 (by simp [Pln.cells, cnrL, stnL, legL]) (by simp) (by simp [Pln.cells, cnrL, stnL, legL]) (by simp) ?_
  simp
  refine ⟨by decide, ?_⟩
  have hshift := brk_shift P legs
  have g0 : ∀ k, getb (breaksL P legs 0) k = brkK P legs k 0 := fun k => rfl
  have g1 : ∀ k, getb (breaksL P legs 20000) k = brkK P legs k 20000 := fun k => rfl
  have hF1 := fun (n : Int) (h0 : 0 ≤ n ∧ n ≤ 20000) k hk => Fuel1_spec P legs n k k1 (tripOk_fuel (g := ⟨n, n⟩) k2 ⟨h0.1, Int.le_refl _, h0.2⟩) hk
  have hfP : ∀ N, N = (idxT P (2 * legs.length)).length → fuelP P legs = match fuelTo (brkK P legs) 20000 N with
    | none => none
    | some low => if (tripP P ⟨low, low⟩ legs).isNone = true then some low else none := fun N hN => by subst hN; rfl
  generalize hB0 : breaksL P legs 0 = B0 at *
  generalize hB1 : breaksL P legs 20000 = B1 at *
  generalize hN : (idxT P (2 * legs.length)).length = N at *
  replace hfP := hfP N rfl
  refine pwp_loop (fun s : Nat × Int => [(2, .rp P.cells 0), (3, .rp [legL legs] 0), (9, .v (.int .i64 s.2)), (29, .v (.int .i64 s.1))]) (fun s => s.1 ≤ N ∧ fuelTo (brkK P legs) 20000 s.1 = some s.2 ∧ 0 ≤ s.2 ∧ s.2 ≤ 20000) (fun s => N - s.1) (0, 0) ⟨Nat.zero_le _, rfl, by simp, by simp⟩ (by simp; rfl) (by simp [Pln.cells, cnrL, stnL, legL]) ?_
  rintro ⟨k, low⟩ ⟨hk, hf, hlo⟩
  simp only at hk hf hlo ⊢
  by_cases hkl : k < N
  · have wk := i64_wrap (show -9223372036854775808 ≤ (k : Int) + 1 ∧ _ from by omega)
    have hsucc : fuelTo (brkK P legs) 20000 (k + 1) = if brkK P legs k 0 = true ∧ brkK P legs k 20000 = true then none else if brkK P legs k 0 = true then some (max low (endOf (brkK P legs k) 20000)) else some low := by simp only [fuelTo, hf]; rfl
    have q0 := g0 k
    have q1 := g1 k
    cases c0 : brkK P legs k 0 with
    | false =>
      rw [c0] at q0 hsucc
      simp [Pln.cells, cnrL, stnL, legL, hl0, hl1, hkl, q0]
      refine again_of (k + 1, low) ⟨by simp only; omega, by simpa using hsucc, hlo⟩ (by simp only; omega) ?_
      simp [wk, Pln.cells, cnrL, stnL, legL, hl0, hl1]
    | true =>
      rw [c0] at q0 hsucc
      cases c1 : brkK P legs k 20000 with
      | true =>
        rw [c1] at q1 hsucc
        have hnone := fuelTo_no (k := k + 1) (by simpa using hsucc) (show k + 1 ≤ N by omega)
        rw [hnone] at hfP
        simp [Pln.cells, cnrL, stnL, legL, hl0, hl1, hkl, q0, q1]
        refine answers_of rfl ?_
        rw [hfP]
        simp
      | false =>
        rw [c1] at q1 hsucc
        have hdn : DownB (brkK P legs k) := (hshift k).resolve_left fun hu => by
          have := hu 0 20000 (by omega) c0
          rw [c1] at this; cases this
        have hch := change_spec 103 [] [.rp P.cells 0, .rp [legL legs] 0, .rp [.v (.int .i64 k)] 0] rfl (by simp [plainL, PV.plain, Pln.cells, cnrL, stnL, legL]) (brkK P legs k) hdn c1 fun n h0 h1 => hF1 n ⟨h0, h1⟩ k hkl
        have hend := endOf_spec (p := brkK P legs k) (K := 20000) c1
        simp only [if_true, Bool.false_eq_true, and_false, if_false] at hsucc
        generalize endOf (brkK P legs k) ((20000 : Nat) : Int).toNat = E0 at *
        generalize hE : endOf (brkK P legs k) 20000 = E at *
        simp [Pln.cells, cnrL, stnL, legL, hl0, hl1, hkl, q0, q1]
        refine pop_specF [(10, .undef), (47, .clo (.func 103) [] [.rp P.cells 0, .rp [legL legs] 0, .rp [.v (.int .i64 k)] 0])] ?_ hch rfl false (.inl ?_) (.inl rfl) rfl (by simp) ?_
        · simp [Pln.cells, cnrL, stnL, legL, hl0, hl1]
        · simp [Pln.cells, cnrL, stnL, legL]
        have hmax : (if low < E then E else low) = max low E := by split <;> omega
        simp [hmax]
        refine again_of (k + 1, max low E) ⟨by simp only; omega, hsucc, by simp only; omega⟩ (by simp only; omega) ?_
        simp [wk, Pln.cells, cnrL, stnL, legL, hl0, hl1]
  · obtain rfl : k = N := by omega
    rw [hf] at hfP
    simp only at hfP
    have hfs := first_spec P ⟨low, low⟩ legs k1 (tripOk_fuel k2 ⟨hlo.1, Int.le_refl _, hlo.2⟩)
    unfold firstRes at hfs
    simp only [Spn.cells] at hfs
    simp [Pln.cells, cnrL, stnL, legL, hl0, hl1]
    cases hj : tripP P ⟨low, low⟩ legs with
    | none =>
      rw [hj] at hfs hfP
      simp only at hfs hfP
      refine pop_spec hfs rfl false (.inl (by simp [Pln.cells, cnrL, stnL, legL])) (.inl rfl) rfl (by simp) ?_
      simp
      refine answers_of rfl ?_
      rw [hfP]
      simp
    | some j =>
      rw [hj] at hfs hfP
      simp only at hfs hfP
      refine pop_spec hfs rfl false (.inl (by simp [Pln.cells, cnrL, stnL, legL])) (.inl rfl) rfl (by simp) ?_
      simp
      refine answers_of rfl ?_
      rw [hfP]
      simp
end
section
open Go.Proofs
set_option maxRecDepth 100000
set_option linter.unusedSimpArgs false
set_option maxHeartbeats 32000000
attribute [local irreducible] pwp pops pdraw pop popCall pdCall thenP blockP scopeP pspec Spec answers ppost CallW rend
def knP : Pln := ⟨1000, 100000, 2000, 1900, [⟨1000, 95000⟩, ⟨2000, 190000⟩, ⟨2000, 230000⟩, ⟨1000, 115000⟩], [⟨90, 200⟩, ⟨200, 300⟩], ⟨120, 200⟩, 40, [⟨100, 50⟩, ⟨100, 50⟩]⟩
def knI : List Itm := [⟨0, 70, 90⟩, ⟨1, 100, 140⟩]
def knT : List Leg := [⟨knI, false, 0, ⟨30, 40⟩, ⟨0, 5⟩⟩, ⟨[⟨0, 70, 90⟩], false, 0, ⟨60, 80⟩, ⟨0, 5⟩⟩]
theorem lP_spec : Spec Tryz.prog 31 [] (.agg knP.cells) := by
  refine spec_of mixed Tryz.func31 (by decide) rfl Tryz.results31 Tryz.ntmps31 (by decide) 0 (by simp) ?_
  simp
  refine answers_of (x := .agg [.v (.int .i64 1000), .v (.int .i64 100000), .v (.int .i64 2000), .v (.int .i64 1900), .own 14 0 0 4 false, .own 9 0 0 2 false, .v (.int .i64 120), .v (.int .i64 200), .v (.int .i64 40), .own 6 0 0 2 false]) (by simp) ?_
  simp [knP, Pln.cells, cnrL, stnL]
  refine ⟨lt4 ?_ ?_ ?_ ?_, lt2 ?_ ?_, lt2 ?_ ?_⟩ <;> simp [cnrAt, Cnr.cells, stnAt, Stn.cells]
theorem lT_spec : Spec Tryz.prog 32 [] (legL knT) := by
  have r14 : List.range 14 = [0, 1, 2, 3, 4, 5, 6, 7, 8, 9, 10, 11, 12, 13] := rfl
  refine spec_of mixed Tryz.func32 (by decide) rfl Tryz.results32 Tryz.ntmps32 (by decide) 0 (by simp) ?_
  simp [r14]
  refine answers_of (x := .own 16 0 0 2 false) (by simp) ?_
  simp [knT, knI, legL, r14]
  refine lt2 ?_ ?_
  · simp [legAt, Leg.cells, itmL]
    refine lt2 ?_ ?_ <;> simp [itmAt, Itm.cells]
  · simp [legAt, Leg.cells, itmL, itmAt, Itm.cells]
theorem knP_fit : PlnLen knP := ⟨by simp [knP], by simp [knP], by simp [knP]⟩
theorem knT_fit : LegsLen knT := ⟨by simp [knT], lt2 (by simp [knT, knI, legAt]) (by simp [knT, legAt])⟩
theorem k_fuel : fuelRes knP knT = .tup [.v (.int .i64 160), .v (.int .i64 0)] := by
  have h1 : trippedE knP ⟨0, 0⟩ knT = 0 := by kernel_rfl
  have k4 : tripP knP ⟨160, 160⟩ knT = none := by kernel_rfl
  have k5 : tripP knP ⟨159, 159⟩ knT = some 3 := by kernel_rfl
  have h4 := trip_none.1 k4
  have h5 : ¬ sureT knP ⟨159, 159⟩ knT := fun h => by
    rw [trip_none.2 h] at k5
    cases k5
  have h := fuel_law knP knT
  rw [fuelRes, if_pos h1]
  cases hf : fuelP knP knT with
  | none => rw [hf] at h; exact (h 160 (by omega) (by omega) h4).elim
  | some n =>
    rw [hf] at h
    obtain ⟨g1, g2, g3⟩ := h
    have a : ¬ 160 < n := fun hl => g3 160 (by omega) hl h4
    have b : ¬ n < 160 := fun hl => h5 (fuel_span knP knT (by omega) (by omega) g2 h4)
    obtain rfl : n = 160 := by omega
    rfl
end
end Go.Qg

namespace Go.Qg
structure Rop where
  x : Int
  y : Int
  s : Int
deriving Inhabited
def dotR (u : Int × Int) (r : Rop) : Int := u.1 * r.x + u.2 * r.y
def crossP (u v : Int × Int) : Int := u.1 * v.2 - u.2 * v.1
def pullR : List Rop → Int × Int → Int
  | [], _ => 0
  | r :: l, u => r.s * max 0 (dotR u r) + pullR l u
def leftR (l : List Rop) (f : Int × Int) (u : Int × Int) : Int := pullR l u + (u.1 * f.1 + u.2 * f.2)
def sameR (u v : Int × Int) (r : Rop) : Prop := (0 ≤ dotR u r ∧ 0 ≤ dotR v r) ∨ (dotR u r ≤ 0 ∧ dotR v r ≤ 0)
theorem cross_comb (u v d : Int × Int) (r : Rop) : crossP u v * dotR d r = crossP d v * dotR u r + crossP u d * dotR v r := by
  unfold crossP dotR
  grind
theorem cross_force (u v d f : Int × Int) : crossP u v * (d.1 * f.1 + d.2 * f.2) = crossP d v * (u.1 * f.1 + u.2 * f.2) + crossP u d * (v.1 * f.1 + v.2 * f.2) := by
  unfold crossP
  grind
theorem max_comb {A B C p q z : Int} (hA : 0 ≤ A) (hB : 0 ≤ B) (hC : 0 < C) (h : C * z = A * p + B * q) (hs : (0 ≤ p ∧ 0 ≤ q) ∨ (p ≤ 0 ∧ q ≤ 0)) : C * max 0 z = A * max 0 p + B * max 0 q := by
  rcases hs with ⟨h1, h2⟩ | ⟨h1, h2⟩
  · have h3 : 0 ≤ A * p := Int.mul_nonneg hA h1
    have h4 : 0 ≤ B * q := Int.mul_nonneg hB h2
    have h5 : 0 ≤ z := by
      rcases Int.lt_or_le z 0 with hz | hz
      · have := Int.mul_neg_of_pos_of_neg hC hz
        omega
      · exact hz
    rw [Int.max_eq_right h5, Int.max_eq_right h1, Int.max_eq_right h2, h]
  · have h3 : A * p ≤ 0 := Int.mul_nonpos_of_nonneg_of_nonpos hA h1
    have h4 : B * q ≤ 0 := Int.mul_nonpos_of_nonneg_of_nonpos hB h2
    have h5 : z ≤ 0 := by
      rcases Int.lt_or_le 0 z with hz | hz
      · have := Int.mul_pos hC hz
        omega
      · exact hz
    rw [Int.max_eq_left h5, Int.max_eq_left h1, Int.max_eq_left h2]
    simp
theorem pull_comb {A B C : Int} {u v d : Int × Int} (hA : 0 ≤ A) (hB : 0 ≤ B) (hC : 0 < C) : ∀ l : List Rop, (∀ r ∈ l, C * dotR d r = A * dotR u r + B * dotR v r) → (∀ r ∈ l, sameR u v r) → C * pullR l d = A * pullR l u + B * pullR l v
  | [], _, _ => by simp [pullR]
  | r :: l, h, hs => by
    have ih := pull_comb hA hB hC l (fun q hq => h q (List.mem_cons_of_mem _ hq)) (fun q hq => hs q (List.mem_cons_of_mem _ hq))
    have h1 := max_comb hA hB hC (h r List.mem_cons_self) (hs r List.mem_cons_self)
    simp only [pullR]
    generalize max 0 (dotR d r) = m0 at *
    generalize max 0 (dotR u r) = m1 at *
    generalize max 0 (dotR v r) = m2 at *
    grind
theorem left_lin {l : List Rop} {f u v d : Int × Int} (hC : 0 < crossP u v) (hA : 0 ≤ crossP d v) (hB : 0 ≤ crossP u d) (hs : ∀ r ∈ l, sameR u v r) (hu : 0 ≤ leftR l f u) (hv : 0 ≤ leftR l f v) : 0 ≤ leftR l f d := by
  have h1 := pull_comb hA hB hC l (fun r _ => cross_comb u v d r) hs
  have h2 := cross_force u v d f
  have h3 : crossP u v * leftR l f d = crossP d v * leftR l f u + crossP u d * leftR l f v := by
    unfold leftR
    grind
  have h4 := Int.mul_nonneg hA hu
  have h5 := Int.mul_nonneg hB hv
  rcases Int.lt_or_le (leftR l f d) 0 with hz | hz
  · have := Int.mul_neg_of_pos_of_neg hC hz
    omega
  · exact hz
theorem same_left {u v b : Int × Int} {q : Rop} (hC : 0 < crossP u v) (hA : 0 ≤ crossP b v) (hB : 0 ≤ crossP u b) (h : sameR u v q) : sameR u b q ∧ sameR b v q := by
  have e := cross_comb u v b q
  rcases h with ⟨h1, h2⟩ | ⟨h1, h2⟩
  · have h3 := Int.mul_nonneg hA h1
    have h4 := Int.mul_nonneg hB h2
    have h5 : 0 ≤ dotR b q := by
      rcases Int.lt_or_le (dotR b q) 0 with hz | hz
      · have := Int.mul_neg_of_pos_of_neg hC hz
        omega
      · exact hz
    exact ⟨.inl ⟨h1, h5⟩, .inl ⟨h5, h2⟩⟩
  · have h3 := Int.mul_nonpos_of_nonneg_of_nonpos hA h1
    have h4 := Int.mul_nonpos_of_nonneg_of_nonpos hB h2
    have h5 : dotR b q ≤ 0 := by
      rcases Int.lt_or_le 0 (dotR b q) with hz | hz
      · have := Int.mul_pos hC hz
        omega
      · exact hz
    exact ⟨.inr ⟨h1, h5⟩, .inr ⟨h5, h2⟩⟩
theorem left_cone {all : List Rop} {f : Int × Int} (hD : ∀ r ∈ all, 0 ≤ leftR all f (-r.y, r.x) ∧ 0 ≤ leftR all f (r.y, -r.x)) :
    ∀ (l : List Rop), (∀ r ∈ l, r ∈ all) → ∀ u v : Int × Int, 0 ≤ leftR all f u → 0 ≤ leftR all f v → 0 < crossP u v → (∀ r ∈ all, r ∈ l ∨ sameR u v r) → ∀ d, 0 ≤ crossP u d → 0 ≤ crossP d v → 0 ≤ leftR all f d
  | [], _, u, v, hu, hv, hC, hs, d, hB, hA => left_lin hC hA hB (fun r hr => (hs r hr).resolve_left (by simp)) hu hv
  | r :: l, hl, u, v, hu, hv, hC, hs, d, hB, hA => by
    have hl' : ∀ q ∈ l, q ∈ all := fun q hq => hl q (List.mem_cons_of_mem _ hq)
    have hr : r ∈ all := hl r List.mem_cons_self
    have step : ∀ b : Int × Int, 0 ≤ leftR all f b → dotR b r = 0 → 0 < crossP u b → 0 < crossP b v → 0 ≤ leftR all f d := fun b hb hz h1 h2 => by
      have hs1 : ∀ q ∈ all, q ∈ l ∨ (sameR u b q ∧ sameR b v q) := fun q hq => by
        rcases hs q hq with h | h
        · rcases List.mem_cons.1 h with rfl | h
          · refine .inr ⟨?_, ?_⟩
            · unfold sameR; omega
            · unfold sameR; omega
          · exact .inl h
        · exact .inr (same_left hC (by omega) (by omega) h)
      rcases Int.lt_or_le (crossP d b) 0 with hz2 | hz2
      · refine left_cone hD l hl' b v hb hv h2 (fun q hq => (hs1 q hq).imp_right (·.2)) d ?_ hA
        unfold crossP at *
        grind
      · exact left_cone hD l hl' u b hu hb h1 (fun q hq => (hs1 q hq).imp_right (·.1)) d hB hz2
    rcases Int.lt_or_le 0 (dotR u r) with p1 | p1
    · rcases Int.lt_or_le (dotR v r) 0 with p2 | p2
      · refine step (-r.y, r.x) (hD r hr).1 ?_ ?_ ?_
        · unfold dotR; grind
        · unfold dotR crossP at *; grind
        · unfold dotR crossP at *; grind
      · exact left_cone hD l hl' u v hu hv hC (fun q hq => by
          rcases hs q hq with h | h
          · rcases List.mem_cons.1 h with rfl | h
            · exact .inr (.inl ⟨by omega, p2⟩)
            · exact .inl h
          · exact .inr h) d hB hA
    · rcases Int.lt_or_le 0 (dotR v r) with p2 | p2
      · rcases Int.lt_or_le (dotR u r) 0 with p3 | p3
        · refine step (r.y, -r.x) (hD r hr).2 ?_ ?_ ?_
          · unfold dotR; grind
          · unfold dotR crossP at *; grind
          · unfold dotR crossP at *; grind
        · exact left_cone hD l hl' u v hu hv hC (fun q hq => by
            rcases hs q hq with h | h
            · rcases List.mem_cons.1 h with rfl | h
              · exact .inr (.inl ⟨p3, by omega⟩)
              · exact .inl h
            · exact .inr h) d hB hA
      · exact left_cone hD l hl' u v hu hv hC (fun q hq => by
          rcases hs q hq with h | h
          · rcases List.mem_cons.1 h with rfl | h
            · exact .inr (.inr ⟨p1, p2⟩)
            · exact .inl h
          · exact .inr h) d hB hA
theorem left_all {all : List Rop} {f : Int × Int} (hD : ∀ r ∈ all, 0 ≤ leftR all f (-r.y, r.x) ∧ 0 ≤ leftR all f (r.y, -r.x)) (h1 : 0 ≤ leftR all f (1, 0)) (h2 : 0 ≤ leftR all f (-1, 0)) (h3 : 0 ≤ leftR all f (0, 1)) (h4 : 0 ≤ leftR all f (0, -1)) (d : Int × Int) : 0 ≤ leftR all f d := by
  have go := left_cone hD all (fun _ h => h)
  have ha : ∀ u v : Int × Int, ∀ r ∈ all, r ∈ all ∨ sameR u v r := fun _ _ _ h => .inl h
  obtain ⟨x, y⟩ := d
  rcases Int.lt_or_le x 0 with hx | hx <;> rcases Int.lt_or_le y 0 with hy | hy
  · exact go (-1, 0) (0, -1) h2 h4 (by decide) (ha _ _) _ (by simp [crossP]; omega) (by simp [crossP]; omega)
  · exact go (0, 1) (-1, 0) h3 h2 (by decide) (ha _ _) _ (by simp [crossP]; omega) (by simp [crossP]; omega)
  · exact go (0, -1) (1, 0) h4 h1 (by decide) (ha _ _) _ (by simp [crossP]; omega) (by simp [crossP]; omega)
  · exact go (1, 0) (0, 1) h1 h3 (by decide) (ha _ _) _ (by simp [crossP]; omega) (by simp [crossP]; omega)
theorem left_box {all : List Rop} {xl xh yl yh : Int} (h : ∀ f ∈ [(xl, yl), (xl, yh), (xh, yl), (xh, yh)], ∀ d, 0 ≤ leftR all f d) {f : Int × Int} (hx : xl ≤ f.1 ∧ f.1 ≤ xh) (hy : yl ≤ f.2 ∧ f.2 ≤ yh) (d : Int × Int) : 0 ≤ leftR all f d := by
  have key : ∀ t a b c : Int, a ≤ b → b ≤ c → t * a ≤ t * b ∨ t * c ≤ t * b := fun t a b c h1 h2 => by
    rcases Int.lt_or_le t 0 with ht | ht
    · exact .inr (Int.mul_le_mul_of_nonpos_left (by omega) h2)
    · exact .inl (Int.mul_le_mul_of_nonneg_left h1 ht)
  have c1 := h (xl, yl) (by simp) d
  have c2 := h (xl, yh) (by simp) d
  have c3 := h (xh, yl) (by simp) d
  have c4 := h (xh, yh) (by simp) d
  unfold leftR at *
  rcases key d.1 xl f.1 xh hx.1 hx.2 with k1 | k1 <;> rcases key d.2 yl f.2 yh hy.1 hy.2 with k2 | k2 <;> simp only at * <;> omega
end Go.Qg

namespace Go.Qg
structure Rdg where
  minute : Int
  low : Int
  high : Int
  source : Int
deriving Inhabited
structure Gge where
  rate : Int
  least : Int
  most : Int
  readings : List Rdg
deriving Inhabited
def farI (a b : Int) : Int := max (a - b) (b - a)
def atLo (g : Gge) (t : Int) : Int := g.readings.foldl (fun m r => max m (r.low - g.rate * farI r.minute t)) g.least
def atHi (g : Gge) (t : Int) : Int := g.readings.foldl (fun m r => min m (r.high + g.rate * farI r.minute t)) g.most
theorem foldl_max_le {α : Type} {f : α → Int} {x : Int} : ∀ (l : List α) (m : Int), m ≤ x → (∀ r ∈ l, f r ≤ x) → l.foldl (fun a r => max a (f r)) m ≤ x
  | [], _, h0, _ => h0
  | r :: l, m, h0, h => by
    have h1 := h r List.mem_cons_self
    exact foldl_max_le l _ (show max m (f r) ≤ x by omega) fun q hq => h q (List.mem_cons_of_mem _ hq)
theorem le_foldl_min {α : Type} {f : α → Int} {x : Int} : ∀ (l : List α) (m : Int), x ≤ m → (∀ r ∈ l, x ≤ f r) → x ≤ l.foldl (fun a r => min a (f r)) m
  | [], _, h0, _ => h0
  | r :: l, m, h0, h => by
    have h1 := h r List.mem_cons_self
    exact le_foldl_min l _ (show x ≤ min m (f r) by omega) fun q hq => h q (List.mem_cons_of_mem _ hq)
theorem le_foldl_max {α : Type} {f : α → Int} : ∀ (l : List α) (m : Int), m ≤ l.foldl (fun a r => max a (f r)) m
  | [], _ => Int.le_refl _
  | r :: l, m => by
    have := le_foldl_max (f := f) l (max m (f r))
    simp only [List.foldl_cons]
    omega
theorem foldl_min_le {α : Type} {f : α → Int} : ∀ (l : List α) (m : Int), l.foldl (fun a r => min a (f r)) m ≤ m
  | [], _ => Int.le_refl _
  | r :: l, m => by
    have := foldl_min_le (f := f) l (min m (f r))
    simp only [List.foldl_cons]
    omega
theorem atLo_ge (g : Gge) (t : Int) : g.least ≤ atLo g t := le_foldl_max _ _
theorem atHi_le (g : Gge) (t : Int) : atHi g t ≤ g.most := foldl_min_le _ _
structure FitsR (g : Gge) (l : Nat → Int) : Prop where
  bnd : ∀ i, i < 1441 → g.least ≤ l i ∧ l i ≤ g.most
  rate : ∀ i, i + 1 < 1441 → -g.rate ≤ l (i + 1) - l i ∧ l (i + 1) - l i ≤ g.rate
  read : ∀ r ∈ g.readings, r.low ≤ l r.minute.toNat ∧ l r.minute.toNat ≤ r.high
theorem lip {g : Gge} {l : Nat → Int} (h : FitsR g l) (m : Nat) : ∀ k : Nat, m + k < 1441 → -(g.rate * k) ≤ l (m + k) - l m ∧ l (m + k) - l m ≤ g.rate * k
  | 0, _ => by simp
  | k + 1, hk => by
    have ih := lip h m k (by omega)
    have h1 := h.rate (m + k) (by omega)
    have e : g.rate * ((k + 1 : Nat) : Int) = g.rate * k + g.rate := by
      rw [Int.natCast_add, Int.mul_add]; simp
    rw [e, ← Nat.add_assoc]
    omega
theorem lip_far {g : Gge} {l : Nat → Int} (h : FitsR g l) {a b : Nat} (ha : a < 1441) (hb : b < 1441) : l b - g.rate * farI b a ≤ l a ∧ l a ≤ l b + g.rate * farI b a := by
  rcases Nat.le_total a b with hab | hab
  · obtain ⟨k, rfl⟩ := Nat.exists_eq_add_of_le hab
    have := lip h a k hb
    have e : farI ((a + k : Nat) : Int) a = k := by unfold farI; omega
    rw [e]
    omega
  · obtain ⟨k, rfl⟩ := Nat.exists_eq_add_of_le hab
    have := lip h b k ha
    have e : farI (b : Int) ((b + k : Nat) : Int) = k := by unfold farI; omega
    rw [e]
    omega
theorem fits_at {g : Gge} {l : Nat → Int} (h : FitsR g l) (hm : ∀ r ∈ g.readings, 0 ≤ r.minute ∧ r.minute ≤ 1440) {t : Nat} (ht : t < 1441) : atLo g t ≤ l t ∧ l t ≤ atHi g t := by
  have key : ∀ r ∈ g.readings, r.low - g.rate * farI r.minute t ≤ l t ∧ l t ≤ r.high + g.rate * farI r.minute t := fun r hr => by
    have h1 := hm r hr
    have h2 := h.read r hr
    have h3 := lip_far h ht (show r.minute.toNat < 1441 by omega)
    rw [show ((r.minute.toNat : Nat) : Int) = r.minute from by omega] at h3
    omega
  exact ⟨foldl_max_le _ _ (h.bnd t ht).1 fun r hr => (key r hr).1, le_foldl_min _ _ (h.bnd t ht).2 fun r hr => (key r hr).2⟩
structure Clear (g : Gge) : Prop where
  one : ∀ i, i < g.readings.length → (g.readings.getD i default).low ≤ g.most ∧ g.least ≤ (g.readings.getD i default).high
  two : ∀ i j, i < j → j < g.readings.length → (g.readings.getD i default).low - (g.readings.getD j default).high ≤ g.rate * farI (g.readings.getD i default).minute (g.readings.getD j default).minute ∧ (g.readings.getD j default).low - (g.readings.getD i default).high ≤ g.rate * farI (g.readings.getD i default).minute (g.readings.getD j default).minute
theorem far_comm (a b : Int) : farI a b = farI b a := by unfold farI; omega
theorem far_tri (a b t : Int) : farI a b ≤ farI a t + farI b t := by unfold farI; omega
theorem far_self (a : Int) : farI a a = 0 := by unfold farI; omega
theorem at_span {g : Gge} (h : Clear g) (h0 : 0 ≤ g.rate) (hg : g.least ≤ g.most) (hs : ∀ r ∈ g.readings, r.low ≤ r.high) (t : Int) : atLo g t ≤ atHi g t := by
  have hfar : ∀ a b : Int, 0 ≤ farI a b := fun a b => by unfold farI; omega
  have pair : ∀ r ∈ g.readings, ∀ s ∈ g.readings, r.low - s.high ≤ g.rate * farI r.minute s.minute := fun r hr s hs' => by
    obtain ⟨i, hi, ei⟩ := List.mem_iff_getElem.1 hr
    obtain ⟨j, hj, ej⟩ := List.mem_iff_getElem.1 hs'
    have gi : g.readings.getD i default = r := by rw [List.getD_eq_getElem?_getD, List.getElem?_eq_getElem hi, ei]; rfl
    have gj : g.readings.getD j default = s := by rw [List.getD_eq_getElem?_getD, List.getElem?_eq_getElem hj, ej]; rfl
    rcases Nat.lt_trichotomy i j with hij | hij | hij
    · have := (h.two i j hij hj).1
      rwa [gi, gj] at this
    · subst hij
      obtain rfl : r = s := gi.symm.trans gj
      have h1 := hs r hr
      rw [far_self]
      omega
    · have := (h.two j i hij hi).2
      rw [gi, gj, far_comm] at this
      exact this
  have one : ∀ r ∈ g.readings, r.low ≤ g.most ∧ g.least ≤ r.high := fun r hr => by
    obtain ⟨i, hi, ei⟩ := List.mem_iff_getElem.1 hr
    have gi : g.readings.getD i default = r := by rw [List.getD_eq_getElem?_getD, List.getElem?_eq_getElem hi, ei]; rfl
    have := h.one i hi
    rwa [gi] at this
  refine le_foldl_min _ _ ?_ fun s hs' => ?_
  · refine foldl_max_le _ _ hg fun r hr => ?_
    have h1 := (one r hr).1
    have h2 := Int.mul_nonneg h0 (hfar r.minute t)
    omega
  · refine foldl_max_le _ _ ?_ fun r hr => ?_
    · have h1 := (one s hs').2
      have h2 := Int.mul_nonneg h0 (hfar s.minute t)
      omega
    · have h1 := pair r hr s hs'
      have h2 := Int.mul_le_mul_of_nonneg_left (far_tri r.minute s.minute t) h0
      rw [Int.mul_add] at h2
      omega
end Go.Qg

namespace Go.Qg
def longN (good : Nat → Bool) : Nat → Nat
  | 0 => 0
  | k + 1 => if good k then longN good k + 1 else 0
def runP (cells : Nat) (good : Nat → Bool) : Nat → Option Nat
  | 0 => none
  | n + 1 => match runP cells good n with
    | some o => some o
    | none => if longN good (n + 1) = cells then some (n + 1 - cells) else none
def runI (cells : Nat) (good : Nat → Bool) (n : Nat) : Int := match runP cells good n with
  | some o => o
  | none => -1
theorem longN_le (good : Nat → Bool) : ∀ k, longN good k ≤ k
  | 0 => Nat.le_refl _
  | k + 1 => by
    have := longN_le good k
    unfold longN
    split <;> omega
theorem longN_good {good : Nat → Bool} : ∀ {k i : Nat}, k - longN good k ≤ i → i < k → good i = true
  | k + 1, i, h1, h2 => by
    by_cases hg : good k
    · unfold longN at h1
      rw [if_pos hg] at h1
      by_cases hi : i = k
      · subst hi; exact hg
      · exact longN_good (k := k) (by omega) (by omega)
    · unfold longN at h1
      rw [if_neg hg] at h1
      omega
theorem longN_ge {good : Nat → Bool} : ∀ {k o : Nat}, o ≤ k → (∀ i, o ≤ i → i < k → good i = true) → k - o ≤ longN good k
  | 0, o, _, _ => by omega
  | k + 1, o, h1, h2 => by
    by_cases ho : o = k + 1
    · omega
    · have ih := longN_ge (good := good) (k := k) (o := o) (by omega) fun i h3 h4 => h2 i h3 (by omega)
      unfold longN
      rw [if_pos (h2 k (by omega) (by omega))]
      omega
theorem runP_some {cells : Nat} {good : Nat → Bool} (hc : 1 ≤ cells) : ∀ {n o : Nat}, runP cells good n = some o → o + cells ≤ n ∧ ∀ i, o ≤ i → i < o + cells → good i = true
  | n + 1, o, h => by
    unfold runP at h
    split at h
    · rename_i o' ho
      cases h
      have := runP_some hc ho
      exact ⟨by omega, this.2⟩
    · split at h
      · rename_i hl
        simp only [Option.some.injEq] at h
        have hle := longN_le good (n + 1)
        exact ⟨by omega, fun i h1 h2 => longN_good (k := n + 1) (by omega) (by omega)⟩
      · cases h
theorem runP_none {cells : Nat} {good : Nat → Bool} (hc : 1 ≤ cells) : ∀ {n : Nat}, runP cells good n = none → longN good n < cells ∧ ∀ o, o + cells ≤ n → ∃ i, o ≤ i ∧ i < o + cells ∧ good i = false
  | 0, _ => ⟨by unfold longN; omega, fun o h => by omega⟩
  | n + 1, h => by
    unfold runP at h
    split at h
    · cases h
    · rename_i hn
      split at h
      · cases h
      · rename_i hl
        have ih := runP_none hc hn
        have hlt : longN good (n + 1) < cells := by
          have : longN good (n + 1) ≤ longN good n + 1 := by
            rw [show longN good (n + 1) = if good n then longN good n + 1 else 0 from rfl]
            split <;> omega
          omega
        refine ⟨hlt, fun o ho => ?_⟩
        by_cases he : o + cells = n + 1
        · apply Classical.byContradiction
          intro hno
          have hall : ∀ i, o ≤ i → i < n + 1 → good i = true := fun i h1 h2 => by
            cases hg : good i with
            | true => rfl
            | false => exact (hno ⟨i, h1, by omega, hg⟩).elim
          have := longN_ge (k := n + 1) (o := o) (by omega) hall
          omega
        · exact ih.2 o (by omega)
theorem runP_first {cells : Nat} {good : Nat → Bool} (hc : 1 ≤ cells) : ∀ {n o : Nat}, runP cells good n = some o → ∀ q, q < o → ∃ i, q ≤ i ∧ i < q + cells ∧ good i = false
  | n + 1, o, h, q, hq => by
    unfold runP at h
    split at h
    · rename_i o' ho
      cases h
      exact runP_first hc ho q hq
    · rename_i hn
      split at h
      · rename_i hl
        simp only [Option.some.injEq] at h
        have hle := longN_le good (n + 1)
        exact (runP_none hc hn).2 q (by omega)
      · cases h
theorem runI_mono {cells : Nat} {good good' : Nat → Bool} {n : Nat} (hc : 1 ≤ cells) (hg : ∀ k, k < n → good k = true → good' k = true) (h : 0 ≤ runI cells good n) : 0 ≤ runI cells good' n := by
  unfold runI at *
  cases h1 : runP cells good n with
  | none => rw [h1] at h; simp at h
  | some o =>
    have h2 := runP_some hc h1
    cases h3 : runP cells good' n with
    | some q => simp
    | none =>
      obtain ⟨i, i1, i2, i3⟩ := (runP_none hc h3).2 o h2.1
      rw [hg i (by omega) (h2.2 i i1 i2)] at i3
      cases i3
theorem runI_ge (cells : Nat) (good : Nat → Bool) (n : Nat) : -1 ≤ runI cells good n := by
  unfold runI; split <;> omega
theorem runI_le {cells : Nat} {good : Nat → Bool} {n : Nat} (hc : 1 ≤ cells) : runI cells good n + cells ≤ n ∨ runI cells good n = -1 := by
  unfold runI
  split
  · rename_i o h
    have := (runP_some hc h).1
    omega
  · exact .inr rfl
theorem runI_eq {cells : Nat} {good : Nat → Bool} {n : Nat} (hc : 1 ≤ cells) {o : Nat} (h1 : o + cells ≤ n) (h2 : ∀ i, o ≤ i → i < o + cells → good i = true) (h3 : ∀ q, q < o → ∃ i, q ≤ i ∧ i < q + cells ∧ good i = false) : runI cells good n = o := by
  unfold runI
  cases h : runP cells good n with
  | none =>
    obtain ⟨i, i1, i2, i3⟩ := (runP_none hc h).2 o h1
    rw [h2 i i1 i2] at i3
    cases i3
  | some p =>
    have h4 := runP_some hc h
    have h5 := runP_first hc h
    rcases Nat.lt_trichotomy o p with hlt | rfl | hlt
    · obtain ⟨i, i1, i2, i3⟩ := h5 o hlt
      rw [h2 i i1 i2] at i3
      cases i3
    · rfl
    · obtain ⟨i, i1, i2, i3⟩ := h3 p hlt
      rw [h4.2 i i1 i2] at i3
      cases i3
theorem runI_none {cells : Nat} {good : Nat → Bool} {n : Nat} (hc : 1 ≤ cells) (h : ∀ o, o + cells ≤ n → ∃ i, o ≤ i ∧ i < o + cells ∧ good i = false) : runI cells good n = -1 := by
  unfold runI
  cases hr : runP cells good n with
  | none => rfl
  | some p =>
    have h4 := runP_some hc hr
    obtain ⟨i, i1, i2, i3⟩ := h p h4.1
    rw [h4.2 i i1 i2] at i3
    cases i3
theorem longN_congr {good good' : Nat → Bool} : ∀ {n : Nat}, (∀ k, k < n → good k = good' k) → longN good n = longN good' n
  | 0, _ => rfl
  | n + 1, h => by
    unfold longN
    rw [h n (by omega), longN_congr fun k hk => h k (by omega)]
theorem runP_congr {cells : Nat} {good good' : Nat → Bool} : ∀ {n : Nat}, (∀ k, k < n → good k = good' k) → runP cells good n = runP cells good' n
  | 0, _ => rfl
  | n + 1, h => by
    unfold runP
    rw [runP_congr (good' := good') fun k hk => h k (by omega), longN_congr h]
theorem runI_congr {cells : Nat} {good good' : Nat → Bool} {n : Nat} (h : ∀ k, k < n → good k = good' k) : runI cells good n = runI cells good' n := by
  unfold runI
  rw [runP_congr h]
def stepX (w : Int) : Int := if w = 2 ∨ w = 3 ∨ w = 4 then 1 else if w = 6 ∨ w = 7 ∨ w = 8 then -1 else 0
def stepY (w : Int) : Int := if w = 1 ∨ w = 2 ∨ w = 8 then 1 else if w = 4 ∨ w = 5 ∨ w = 6 then -1 else 0
def acrossI (w e n : Int) : Int := e * stepY w - n * stepX w
def alongI (w e n : Int) : Int := e * stepX w + n * stepY w
def lengthI (w : Int) : Int := stepX w * stepX w + stepY w * stepY w
def calmB (w cross tail e n : Int) : Bool := decide (acrossI w e n * acrossI w e n ≤ lengthI w * cross * cross) && (decide (alongI w e n ≤ 0) || decide (alongI w e n * alongI w e n ≤ lengthI w * tail * tail))
theorem step_cases (w : Int) : (stepX w = 0 ∨ stepX w = 1 ∨ stepX w = -1) ∧ (stepY w = 0 ∨ stepY w = 1 ∨ stepY w = -1) := by
  unfold stepX stepY
  constructor
  · split
    · exact .inr (.inl rfl)
    · split
      · exact .inr (.inr rfl)
      · exact .inl rfl
  · split
    · exact .inr (.inl rfl)
    · split
      · exact .inr (.inr rfl)
      · exact .inl rfl
theorem sq_mid {a l h K : Int} (h1 : l ≤ a) (h2 : a ≤ h) (h3 : l * l ≤ K) (h4 : h * h ≤ K) : a * a ≤ K := by
  rcases Int.le_total 0 a with ha | ha
  · have := Int.mul_le_mul h2 h2 ha (show 0 ≤ h by omega)
    omega
  · have := Int.mul_le_mul (show -a ≤ -l by omega) (show -a ≤ -l by omega) (show 0 ≤ -a by omega) (show 0 ≤ -l by omega)
    rw [Int.neg_mul_neg, Int.neg_mul_neg] at this
    omega
theorem sq_up {a h K : Int} (h2 : a ≤ h) (h3 : h ≤ 0 ∨ h * h ≤ K) : a ≤ 0 ∨ a * a ≤ K := by
  rcases Int.le_total a 0 with ha | ha
  · exact .inl ha
  · rcases h3 with h3 | h3
    · exact .inl (by omega)
    · have := Int.mul_le_mul h2 h2 ha (show 0 ≤ h by omega)
      exact .inr (by omega)
theorem calm_iff {w c t e n : Int} : calmB w c t e n = true ↔ acrossI w e n * acrossI w e n ≤ lengthI w * c * c ∧ (alongI w e n ≤ 0 ∨ alongI w e n * alongI w e n ≤ lengthI w * t * t) := by
  simp [calmB]
theorem calm_mid {w c t el eh nl nh e n : Int} (h1 : calmB w c t el nl = true) (h2 : calmB w c t el nh = true) (h3 : calmB w c t eh nl = true) (h4 : calmB w c t eh nh = true)
    (e1 : el ≤ e) (e2 : e ≤ eh) (n1 : nl ≤ n) (n2 : n ≤ nh) : calmB w c t e n = true := by
  rw [calm_iff] at *
  generalize lengthI w * c * c = K at *
  generalize lengthI w * t * t = M at *
  unfold acrossI alongI at *
  obtain ⟨hx, hy⟩ := step_cases w
  generalize stepX w = x at *
  generalize stepY w = y at *
  rcases hx with rfl | rfl | rfl <;> rcases hy with rfl | rfl | rfl
  · refine ⟨sq_mid ?_ ?_ h2.1 h3.1, sq_up ?_ h4.2⟩ <;> omega
  · refine ⟨sq_mid ?_ ?_ h2.1 h3.1, sq_up ?_ h4.2⟩ <;> omega
  · refine ⟨sq_mid ?_ ?_ h4.1 h1.1, sq_up ?_ h3.2⟩ <;> omega
  · refine ⟨sq_mid ?_ ?_ h2.1 h3.1, sq_up ?_ h4.2⟩ <;> omega
  · refine ⟨sq_mid ?_ ?_ h2.1 h3.1, sq_up ?_ h4.2⟩ <;> omega
  · refine ⟨sq_mid ?_ ?_ h4.1 h1.1, sq_up ?_ h3.2⟩ <;> omega
  · refine ⟨sq_mid ?_ ?_ h1.1 h4.1, sq_up ?_ h2.2⟩ <;> omega
  · refine ⟨sq_mid ?_ ?_ h1.1 h4.1, sq_up ?_ h2.2⟩ <;> omega
  · refine ⟨sq_mid ?_ ?_ h3.1 h2.1, sq_up ?_ h1.2⟩ <;> omega
end Go.Qg

namespace Go.Qg
open Go.Proofs
set_option maxRecDepth 100000
set_option maxHeartbeats 4000000
def rdgAt (l : List Rdg) (i : Nat) : Rdg := l.getD i default
def Rdg.cells (b : Rdg) : List PV := [.v (.int .i64 b.minute), .v (.int .i64 b.low), .v (.int .i64 b.high), .v (.int .i64 b.source)]
def rdgL (l : List Rdg) : PV := .sl 4 l.length fun i => (rdgAt l i).cells
theorem rdgAt_mem {l : List Rdg} {i : Nat} (h : i < l.length) : rdgAt l i ∈ l := by simp [rdgAt, h]
def Gge.cells (b : Gge) : List PV := [.v (.int .i64 b.rate), .v (.int .i64 b.least), .v (.int .i64 b.most), rdgL b.readings]
structure Boa where
  x : Spn
  y : Spn
  times : Spn
  sure : Bool
  deriving Inhabited
structure Gla where
  way : Int
  times : Spn
  deriving Inhabited
def boaAt (l : List Boa) (i : Nat) : Boa := l.getD i default
def Boa.cells (b : Boa) : List PV := [.v (.int .i64 b.x.low), .v (.int .i64 b.x.high), .v (.int .i64 b.y.low), .v (.int .i64 b.y.high), .v (.int .i64 b.times.low), .v (.int .i64 b.times.high), .v (.bool b.sure)]
def boaL (l : List Boa) : PV := .sl 7 l.length fun i => (boaAt l i).cells
theorem boaAt_mem {l : List Boa} {i : Nat} (h : i < l.length) : boaAt l i ∈ l := by simp [boaAt, h]
def glaAt (l : List Gla) (i : Nat) : Gla := l.getD i default
def Gla.cells (b : Gla) : List PV := [.v (.int .i64 b.way), .v (.int .i64 b.times.low), .v (.int .i64 b.times.high)]
def glaL (l : List Gla) : PV := .sl 3 l.length fun i => (glaAt l i).cells
theorem glaAt_mem {l : List Gla} {i : Nat} (h : i < l.length) : glaAt l i ∈ l := by simp [glaAt, h]
structure SeaD where
  wide : Int
  deep : Int
  depths : List Spn
  tide : Gge
  east : Gge
  north : Gge
  wave : Gge
  swell : Gge
  boats : List Boa
  glares : List Gla
  deriving Inhabited
structure Stp where
  x : Int
  y : Int
  way : Int
  cells_ : Int
  deriving Inhabited
structure Ned where
  draught : Int
  run : Int
  cross : Int
  tail : Int
  calm : Int
  wave : Int
  swell : Int
  deriving Inhabited
structure Tru where
  minute : Int
  tide : Int
  east : Int
  north : Int
  wave : Int
  swell : Int
  depths : List Int
  boats : List Bool
  deriving Inhabited
def wthC (tide east north wave swell : Gge) : List PV := [.v (.int .i64 tide.rate), .v (.int .i64 tide.least), .v (.int .i64 tide.most), rdgL tide.readings, .v (.int .i64 east.rate), .v (.int .i64 east.least), .v (.int .i64 east.most), rdgL east.readings, .v (.int .i64 north.rate), .v (.int .i64 north.least), .v (.int .i64 north.most), rdgL north.readings, .v (.int .i64 wave.rate), .v (.int .i64 wave.least), .v (.int .i64 wave.most), rdgL wave.readings, .v (.int .i64 swell.rate), .v (.int .i64 swell.least), .v (.int .i64 swell.most), rdgL swell.readings]
def SeaD.cells (s : SeaD) : List PV := [.v (.int .i64 s.wide), .v (.int .i64 s.deep), spnL s.depths, .v (.int .i64 s.tide.rate), .v (.int .i64 s.tide.least), .v (.int .i64 s.tide.most), rdgL s.tide.readings, .v (.int .i64 s.east.rate), .v (.int .i64 s.east.least), .v (.int .i64 s.east.most), rdgL s.east.readings, .v (.int .i64 s.north.rate), .v (.int .i64 s.north.least), .v (.int .i64 s.north.most), rdgL s.north.readings, .v (.int .i64 s.wave.rate), .v (.int .i64 s.wave.least), .v (.int .i64 s.wave.most), rdgL s.wave.readings, .v (.int .i64 s.swell.rate), .v (.int .i64 s.swell.least), .v (.int .i64 s.swell.most), rdgL s.swell.readings, boaL s.boats, glaL s.glares]
def stpAt (l : List Stp) (i : Nat) : Stp := l.getD i default
def Stp.cells (b : Stp) : List PV := [.v (.int .i64 b.x), .v (.int .i64 b.y), .v (.int .i64 b.way), .v (.int .i64 b.cells_)]
def stpL (l : List Stp) : PV := .sl 4 l.length fun i => (stpAt l i).cells
theorem stpAt_mem {l : List Stp} {i : Nat} (h : i < l.length) : stpAt l i ∈ l := by simp [stpAt, h]
def Ned.cells (b : Ned) : List PV := [.v (.int .i64 b.draught), .v (.int .i64 b.run), .v (.int .i64 b.cross), .v (.int .i64 b.tail), .v (.int .i64 b.calm), .v (.int .i64 b.wave), .v (.int .i64 b.swell)]
def Tru.cells (b : Tru) : List PV := [.v (.int .i64 b.minute), .v (.int .i64 b.tide), .v (.int .i64 b.east), .v (.int .i64 b.north), .v (.int .i64 b.wave), .v (.int .i64 b.swell), ints b.depths, bools b.boats]
def lookC (s : SeaD) (p : Stp) (n : Ned) (m : Int) : List PV := [.v (.int .i64 s.wide), .v (.int .i64 s.deep), spnL s.depths, .v (.int .i64 s.tide.rate), .v (.int .i64 s.tide.least), .v (.int .i64 s.tide.most), rdgL s.tide.readings, .v (.int .i64 s.east.rate), .v (.int .i64 s.east.least), .v (.int .i64 s.east.most), rdgL s.east.readings, .v (.int .i64 s.north.rate), .v (.int .i64 s.north.least), .v (.int .i64 s.north.most), rdgL s.north.readings, .v (.int .i64 s.wave.rate), .v (.int .i64 s.wave.least), .v (.int .i64 s.wave.most), rdgL s.wave.readings, .v (.int .i64 s.swell.rate), .v (.int .i64 s.swell.least), .v (.int .i64 s.swell.most), rdgL s.swell.readings, boaL s.boats, glaL s.glares, .v (.int .i64 p.x), .v (.int .i64 p.y), .v (.int .i64 p.way), .v (.int .i64 p.cells_), .v (.int .i64 n.draught), .v (.int .i64 n.run), .v (.int .i64 n.cross), .v (.int .i64 n.tail), .v (.int .i64 n.calm), .v (.int .i64 n.wave), .v (.int .i64 n.swell), .v (.int .i64 m)]
structure Hst where
  windows : List Spn
  turn : Int
  deriving Inhabited
structure Chn where
  stops : List Hst
  legs : List Spn
  deriving Inhabited
def hstAt (l : List Hst) (i : Nat) : Hst := l.getD i default
def Hst.cells (b : Hst) : List PV := [spnL b.windows, .v (.int .i64 b.turn)]
def hstL (l : List Hst) : PV := .sl 2 l.length fun i => (hstAt l i).cells
theorem hstAt_mem {l : List Hst} {i : Nat} (h : i < l.length) : hstAt l i ∈ l := by simp [hstAt, h]
def Chn.cells (b : Chn) : List PV := [hstL b.stops, spnL b.legs]
def ropAt (l : List Rop) (i : Nat) : Rop := l.getD i default
def Rop.cells (b : Rop) : List PV := [.v (.int .i64 b.x), .v (.int .i64 b.y), .v (.int .i64 b.s)]
def ropL (l : List Rop) : PV := .sl 3 l.length fun i => (ropAt l i).cells
theorem ropAt_mem {l : List Rop} {i : Nat} (h : i < l.length) : ropAt l i ∈ l := by simp [ropAt, h]
end Go.Qg

namespace Go.Qg
open Go.Proofs
set_option maxRecDepth 100000
set_option maxHeartbeats 32000000
set_option linter.unusedSimpArgs false
attribute [local irreducible] pwp pops pdraw pop popCall pdCall thenP blockP scopeP pspec Spec answers ppost CallW rend
theorem win_spec (n lo hi : Int) : Spec Tryz.prog 84 [.v (.int .i64 n), .v (.int .i64 lo), .v (.int .i64 hi)] (.v (.bool (inB n lo hi))) := by
  refine spec_of mixed Tryz.func84 (by decide) rfl Tryz.results84 Tryz.ntmps84 (by decide) 0 (by simp) ?_
  by_cases h1 : lo ≤ n
  · by_cases h2 : n ≤ hi <;> (simp [h1, h2]; refine answers_of rfl ?_; simp [inB, h1, h2])
  · simp [h1]; refine answers_of rfl ?_; simp [inB, h1]
theorem wspan_spec (s : Spn) (lo hi : Int) : Spec Tryz.prog 112 [.agg s.cells, .v (.int .i64 lo), .v (.int .i64 hi)] (.v (.bool (spanB s lo hi))) := by
  refine spec_of mixed Tryz.func112 (by decide) rfl Tryz.results112 Tryz.ntmps112 (by decide) 0 (by simp) ?_
  simp [Spn.cells]
  by_cases h1 : lo ≤ s.low
  · by_cases h2 : s.low ≤ s.high
    · by_cases h3 : s.high ≤ hi <;> (simp [h1, h2, h3]; refine answers_of rfl ?_; simp [spanB, h1, h2, h3])
    · simp [h1, h2, Int.not_le.1 h2]
      refine answers_of rfl ?_; simp [spanB, h1, h2]
  · simp [h1, Int.not_le.1 h1]; refine answers_of rfl ?_; simp [spanB, h1]
theorem max_if (a b : Int) : (if a < b then b else a) = max a b := by split <;> omega
theorem max_if' (a b : Int) : (if b < a then a else b) = max a b := by split <;> omega
theorem min_if (a b : Int) : (if a < b then a else b) = min a b := by split <;> omega
theorem min_if' (a b : Int) : (if b < a then b else a) = min a b := by split <;> omega
theorem max_le (a b : Int) : (if a ≤ b then b else a) = max a b := by split <;> omega
theorem min_le (a b : Int) : (if a ≤ b then a else b) = min a b := by split <;> omega
theorem far_spec (a b : Int) (ha : Small 1000000 a) (hb : Small 1000000 b) : Spec Tryz.prog 114 [.v (.int .i64 a), .v (.int .i64 b)] (.v (.int .i64 (farI a b))) := by
  simp only [Small] at ha hb
  have w1 := i64_wrap (show -9223372036854775808 ≤ a - b ∧ _ from by omega)
  have w2 := i64_wrap (show -9223372036854775808 ≤ b - a ∧ _ from by omega)
  refine spec_of mixed Tryz.func114 (by decide) rfl Tryz.results114 Tryz.ntmps114 (by decide) 0 (by simp) ?_
  simp [w1, w2]
  refine answers_of rfl ?_
  simp [farI]
  first | done | omega | (split <;> omega)
def rdgB (r : Rdg) : Bool := inB r.minute 0 1440 && spanB ⟨r.low, r.high⟩ (-100000) 100000 && inB r.source 0 7
def gaugeB (g : Gge) : Bool := allN g.readings.length (fun k => rdgB (rdgAt g.readings k)) && (inB g.rate 0 1000 && spanB ⟨g.least, g.most⟩ (-100000) 100000 && decide (g.readings.length ≤ 30))
structure GgeOk (g : Gge) : Prop where
  n : g.readings.length ≤ 30
  rate : 0 ≤ g.rate ∧ g.rate ≤ 1000
  least : -100000 ≤ g.least ∧ g.least ≤ g.most ∧ g.most ≤ 100000
  rd : ∀ k, k < g.readings.length → (0 ≤ (rdgAt g.readings k).minute ∧ (rdgAt g.readings k).minute ≤ 1440) ∧ (-100000 ≤ (rdgAt g.readings k).low ∧ (rdgAt g.readings k).low ≤ (rdgAt g.readings k).high ∧ (rdgAt g.readings k).high ≤ 100000) ∧ 0 ≤ (rdgAt g.readings k).source ∧ (rdgAt g.readings k).source ≤ 7
theorem gaugeB_iff {g : Gge} : gaugeB g = true ↔ GgeOk g := by
  simp only [gaugeB, rdgB, allN_spec, Bool.and_eq_true, inB_spec, spanB_spec, decide_eq_true_eq]
  exact ⟨fun ⟨h1, ⟨h2, h3⟩, h4⟩ => ⟨h4, h2, h3, fun k hk => ⟨(h1 k hk).1.1, (h1 k hk).1.2, (h1 k hk).2⟩⟩, fun h => ⟨fun k hk => ⟨⟨(h.rd k hk).1, (h.rd k hk).2.1⟩, (h.rd k hk).2.2⟩, ⟨h.rate, h.least⟩, h.n⟩⟩
theorem gauge_spec (g : Gge) (hl : g.readings.length ≤ 9223372036854775807) : Spec Tryz.prog 39 [.agg g.cells] (.v (.bool (gaugeB g))) := by
  refine spec_of mixed Tryz.func39 (by decide) rfl Tryz.results39 Tryz.ntmps39 (by decide) 0 (by simp) ?_
  simp [Gge.cells, rdgL]
  refine pwp_loop (fun k : Nat => [(8, .v (.int .i64 k))]) (fun k => k ≤ g.readings.length ∧ ∀ j, j < k → rdgB (rdgAt g.readings j) = true) (fun k => g.readings.length - k) 0 ⟨Nat.zero_le _, fun j hj => by omega⟩ (by simp; rfl) (by simp) ?_
  intro k ⟨hk, hp⟩
  by_cases hkl : k < g.readings.length
  · have fin : ∀ {b : Bool}, rdgB (rdgAt g.readings k) = b → b = false → gaugeB g = false := fun h1 h2 => by
      simp [gaugeB, allN_false (p := fun k => rdgB (rdgAt g.readings k)) hkl (h1.trans h2)]
    simp [hkl, Rdg.cells]
    refine pop_spec (win_spec (rdgAt g.readings k).minute 0 1440) rfl false (.inl (by simp)) (.inl rfl) rfl (by simp) ?_
    cases h1 : inB (rdgAt g.readings k).minute 0 1440 with
    | false => simp; refine answers_of rfl ?_; simp [fin (b := false) (by simp [rdgB, h1]) rfl]
    | true =>
    simp
    refine pop_spec (wspan_spec ⟨(rdgAt g.readings k).low, (rdgAt g.readings k).high⟩ (-100000) 100000) rfl false (.inl (by simp [Spn.cells])) (.inl rfl) rfl (by simp) ?_
    cases h2 : spanB ⟨(rdgAt g.readings k).low, (rdgAt g.readings k).high⟩ (-100000) 100000 with
    | false => simp; refine answers_of rfl ?_; simp [fin (b := false) (by simp [rdgB, h1, h2]) rfl]
    | true =>
    simp
    refine pop_spec (win_spec (rdgAt g.readings k).source 0 7) rfl false (.inl (by simp)) (.inl rfl) rfl (by simp) ?_
    cases h3 : inB (rdgAt g.readings k).source 0 7 with
    | false => simp; refine answers_of rfl ?_; simp [fin (b := false) (by simp [rdgB, h1, h2, h3]) rfl]
    | true =>
    simp
    refine again_of (k + 1) ⟨by omega, fun j hj => ?_⟩ (by omega) ?_
    · rcases Nat.lt_succ_iff_lt_or_eq.1 hj with hj | rfl
      · exact hp j hj
      · simp [rdgB, h1, h2, h3]
    · simp [i64_wrap (show -9223372036854775808 ≤ (k : Int) + 1 ∧ _ from by omega)]
  · obtain rfl : k = g.readings.length := by omega
    have ha := allN_spec.2 hp
    simp
    refine pop_spec (win_spec g.rate 0 1000) rfl false (.inl (by simp)) (.inl rfl) rfl (by simp) ?_
    cases h1 : inB g.rate 0 1000 with
    | false => simp; refine answers_of rfl ?_; simp [gaugeB, h1]
    | true =>
    simp
    refine pop_spec (wspan_spec ⟨g.least, g.most⟩ (-100000) 100000) rfl false (.inl (by simp [Spn.cells])) (.inl rfl) rfl (by simp) ?_
    cases h2 : spanB ⟨g.least, g.most⟩ (-100000) 100000 with
    | false => simp; refine answers_of rfl ?_; simp [gaugeB, h2]
    | true =>
    simp
    refine answers_of rfl ?_; simp [gaugeB, h1, h2, ha]; omega
def loK (g : Gge) (t : Int) (k : Nat) : Int := (g.readings.take k).foldl (fun m r => max m (r.low - g.rate * farI r.minute t)) g.least
def hiK (g : Gge) (t : Int) (k : Nat) : Int := (g.readings.take k).foldl (fun m r => min m (r.high + g.rate * farI r.minute t)) g.most
theorem take_snoc_at {l : List Rdg} {k : Nat} (h : k < l.length) : l.take (k + 1) = l.take k ++ [rdgAt l k] := by
  rw [List.take_succ]
  simp [rdgAt, h]
theorem loK_succ {g : Gge} {t : Int} {k : Nat} (h : k < g.readings.length) : loK g t (k + 1) = max (loK g t k) ((rdgAt g.readings k).low - g.rate * farI (rdgAt g.readings k).minute t) := by
  simp [loK, take_snoc_at h]
theorem hiK_succ {g : Gge} {t : Int} {k : Nat} (h : k < g.readings.length) : hiK g t (k + 1) = min (hiK g t k) ((rdgAt g.readings k).high + g.rate * farI (rdgAt g.readings k).minute t) := by
  simp [hiK, take_snoc_at h]
theorem loK_end (g : Gge) (t : Int) : loK g t g.readings.length = atLo g t := by simp [loK, atLo]
theorem hiK_end (g : Gge) (t : Int) : hiK g t g.readings.length = atHi g t := by simp [hiK, atHi]
theorem drop_small {g : Gge} (hg : GgeOk g) {t : Int} (ht : 0 ≤ t ∧ t ≤ 1440) {k : Nat} (hk : k < g.readings.length) : 0 ≤ farI (rdgAt g.readings k).minute t ∧ farI (rdgAt g.readings k).minute t ≤ 1440 ∧ 0 ≤ g.rate * farI (rdgAt g.readings k).minute t ∧ g.rate * farI (rdgAt g.readings k).minute t ≤ 1440000 := by
  have h1 := (hg.rd k hk).1
  have h2 : 0 ≤ farI (rdgAt g.readings k).minute t ∧ farI (rdgAt g.readings k).minute t ≤ 1440 := by unfold farI; omega
  refine ⟨h2.1, h2.2, Int.mul_nonneg hg.rate.1 h2.1, ?_⟩
  exact Int.le_trans (Int.mul_le_mul hg.rate.2 h2.2 h2.1 (by omega)) (by omega)
theorem K_small {g : Gge} (hg : GgeOk g) {t : Int} (ht : 0 ≤ t ∧ t ≤ 1440) : ∀ {k : Nat}, k ≤ g.readings.length → Small 2000000 (loK g t k) ∧ Small 2000000 (hiK g t k)
  | 0, _ => by
    have := hg.least
    simp only [loK, hiK, List.take_zero, List.foldl_nil, Small]
    omega
  | k + 1, hk => by
    have ih := K_small hg ht (k := k) (by omega)
    have h1 := drop_small hg ht (k := k) (by omega)
    have h2 := (hg.rd k (by omega)).2.1
    rw [loK_succ (by omega), hiK_succ (by omega)]
    simp only [Small] at *
    omega
theorem at_small {g : Gge} (hg : GgeOk g) {t : Int} (ht : 0 ≤ t ∧ t ≤ 1440) : (g.least ≤ atLo g t ∧ atLo g t ≤ 2000000) ∧ -2000000 ≤ atHi g t ∧ atHi g t ≤ g.most := by
  have h := K_small hg ht (Nat.le_refl _)
  rw [loK_end, hiK_end] at h
  exact ⟨⟨atLo_ge g t, h.1.2⟩, h.2.1, atHi_le g t⟩
def atS (g : Gge) (t : Int) : Spn := ⟨atLo g t, atHi g t⟩
theorem at_spec (g : Gge) (t : Int) (hg : GgeOk g) (ht : 0 ≤ t ∧ t ≤ 1440) : Spec Tryz.prog 42 [.agg g.cells, .v (.int .i64 t)] (.agg (atS g t).cells) := by
  have hn := hg.n
  refine spec_of mixed Tryz.func42 (by decide) rfl Tryz.results42 Tryz.ntmps42 (by decide) 0 (by simp) ?_
  simp [Gge.cells, rdgL]
  refine pwp_loop (fun k : Nat => [(5, .box true [.v (.int .i64 (loK g t k)), .v (.int .i64 (hiK g t k))]), (17, .v (.int .i64 k))]) (fun k => k ≤ g.readings.length) (fun k => g.readings.length - k) 0 (Nat.zero_le _) (by simp; rfl) (by simp [loK, hiK]) ?_
  intro k hk
  by_cases hkl : k < g.readings.length
  · have hd := drop_small hg ht hkl
    have hr := hg.rd k hkl
    have hK := K_small hg ht hk
    simp only [Small] at hK
    have e1 := loK_succ (g := g) (t := t) hkl
    have e2 := (hiK_succ (g := g) (t := t) hkl).trans (Int.min_comm _ _)
    have w1 := i64_wrap (show -9223372036854775808 ≤ g.rate * farI (rdgAt g.readings k).minute t ∧ _ from by omega)
    have w2 := i64_wrap (show -9223372036854775808 ≤ (rdgAt g.readings k).low - g.rate * farI (rdgAt g.readings k).minute t ∧ _ from by omega)
    have w3 := i64_wrap (show -9223372036854775808 ≤ (rdgAt g.readings k).high + g.rate * farI (rdgAt g.readings k).minute t ∧ _ from by omega)
    simp [hkl, Rdg.cells]
    refine pwp_draw 7 (by decide) ?_
    simp
    refine pd_spec (far_spec (rdgAt g.readings k).minute t (by simp only [Small]; omega) (by simp only [Small]; omega)) (by simp) (by simp) (by simp) rfl ?_
    simp
    refine ⟨by decide, ?_⟩
    simp [w1]
    refine pwp_draw 20 (by decide) ?_
    simp [w2, w3, max_if, max_if', max_le, min_if, min_if', min_le]
    refine ⟨by decide, ?_⟩
    refine again_of (k + 1) (by omega) (by omega) ?_
    simp [i64_wrap (show -9223372036854775808 ≤ (k : Int) + 1 ∧ _ from by omega), e1, e2]
  · obtain rfl : k = g.readings.length := by omega
    rw [loK_end, hiK_end]
    simp
    refine answers_of (x := .agg (atS g t).cells) (by simp [Spn.cells, atS]) ?_
    simp [Spn.cells]
def oneC (g : Gge) (i : Nat) : Bool := decide (g.most < (rdgAt g.readings i).low) || decide ((rdgAt g.readings i).high < g.least)
def twoC (g : Gge) (i j : Nat) : Bool := decide (g.rate * farI (rdgAt g.readings i).minute (rdgAt g.readings j).minute < max ((rdgAt g.readings i).low - (rdgAt g.readings j).high) ((rdgAt g.readings j).low - (rdgAt g.readings i).high))
def firstJ (g : Gge) (i : Nat) : Nat → Option Nat
  | 0 => none
  | k + 1 => match firstJ g i k with
    | some j => some j
    | none => if i < k ∧ twoC g i k = true then some k else none
def firstI (g : Gge) : Nat → Option (Nat × Nat)
  | 0 => none
  | i + 1 => match firstI g i with
    | some x => some x
    | none => if oneC g i = true then some (i, i) else (firstJ g i g.readings.length).map fun j => (i, j)
theorem firstJ_some {g : Gge} {i j : Nat} : ∀ {k m : Nat}, k ≤ m → firstJ g i k = some j → firstJ g i m = some j
  | k, 0, h, h1 => by
    obtain rfl : k = 0 := by omega
    exact h1
  | k, m + 1, h, h1 => by
    rcases Nat.lt_or_eq_of_le h with h | rfl
    · simp only [firstJ, firstJ_some (show k ≤ m by omega) h1]
    · exact h1
theorem firstI_some {g : Gge} {x : Nat × Nat} : ∀ {k m : Nat}, k ≤ m → firstI g k = some x → firstI g m = some x
  | k, 0, h, h1 => by
    obtain rfl : k = 0 := by omega
    exact h1
  | k, m + 1, h, h1 => by
    rcases Nat.lt_or_eq_of_le h with h | rfl
    · simp only [firstI, firstI_some (show k ≤ m by omega) h1]
    · exact h1
theorem firstJ_none {g : Gge} {i : Nat} : ∀ {k : Nat}, firstJ g i k = none ↔ ∀ j, i < j → j < k → twoC g i j = false
  | 0 => by simp [firstJ]
  | k + 1 => by
    have ih := firstJ_none (g := g) (i := i) (k := k)
    constructor
    · intro h j h1 h2
      unfold firstJ at h
      split at h
      · cases h
      · rename_i hn
        split at h
        · cases h
        · rename_i hc
          rcases Nat.lt_succ_iff_lt_or_eq.1 h2 with h2 | rfl
          · exact ih.1 hn j h1 h2
          · cases ht : twoC g i j with
            | false => rfl
            | true => exact (hc ⟨h1, ht⟩).elim
    · intro h
      have hn := ih.2 fun j h1 h2 => h j h1 (by omega)
      unfold firstJ
      rw [hn]
      simp only
      rw [if_neg]
      rintro ⟨h1, h2⟩
      rw [h k h1 (by omega)] at h2
      cases h2
theorem firstI_none {g : Gge} : ∀ {k : Nat}, firstI g k = none ↔ ∀ i, i < k → oneC g i = false ∧ firstJ g i g.readings.length = none
  | 0 => by simp [firstI]
  | k + 1 => by
    have ih := firstI_none (g := g) (k := k)
    constructor
    · intro h i h1
      unfold firstI at h
      split at h
      · cases h
      · rename_i hn
        split at h
        · cases h
        · rename_i hc
          rcases Nat.lt_succ_iff_lt_or_eq.1 h1 with h1 | rfl
          · exact ih.1 hn i h1
          · exact ⟨by simpa using hc, by simpa using h⟩
    · intro h
      have hn := ih.2 fun i h1 => h i (by omega)
      obtain ⟨h1, h2⟩ := h k (by omega)
      unfold firstI
      rw [hn]
      simp [h1, h2]
def runsB (g : Gge) : Bool := (firstI g g.readings.length).isNone
theorem runsB_iff {g : Gge} : runsB g = true ↔ Clear g := by
  have e : ∀ i, g.readings.getD i default = rdgAt g.readings i := fun i => rfl
  rw [runsB, Option.isNone_iff_eq_none, firstI_none]
  constructor
  · intro h
    refine ⟨fun i hi => ?_, fun i j hij hj => ?_⟩
    · have := (h i hi).1
      simp [oneC] at this
      simp only [e]
      omega
    · have := firstJ_none.1 (h i (by omega)).2 j hij hj
      simp only [twoC, decide_eq_false_iff_not, Int.not_lt] at this
      simp only [e]
      omega
  · rintro ⟨h1, h2⟩ i hi
    refine ⟨?_, firstJ_none.2 fun j hij hj => ?_⟩
    · have := h1 i hi
      simp only [e] at this
      simp [oneC]
      omega
    · have := h2 i j hij hj
      simp only [e] at this
      simp only [twoC, decide_eq_false_iff_not, Int.not_lt]
      omega
def clashR (g : Gge) : List PV := match firstI g g.readings.length with
  | some (i, j) => [.v (.int .i64 i), .v (.int .i64 j), .v (.bool true)]
  | none => [.v (.int .i64 0), .v (.int .i64 0), .v (.bool false)]
theorem clash_spec (g : Gge) (hg : GgeOk g) : Spec Tryz.prog 113 [.agg g.cells] (.tup (clashR g)) := by
  have hn := hg.n
  refine spec_of mixed Tryz.func113 (by decide) rfl Tryz.results113 Tryz.ntmps113 (by decide) 0 (by simp) ?_
  simp [Gge.cells, rdgL]
  refine pwp_loop (fun k : Nat => [(12, .v (.int .i64 k))]) (fun k => k ≤ g.readings.length ∧ firstI g k = none) (fun k => g.readings.length - k) 0 ⟨Nat.zero_le _, rfl⟩ (by simp; rfl) (by simp) ?_
  intro i ⟨hi, hf⟩
  by_cases hil : i < g.readings.length
  · have wi := i64_wrap (show -9223372036854775808 ≤ (i : Int) + 1 ∧ _ from by omega)
    have fin : ∀ j, (if oneC g i = true then some (i, i) else (firstJ g i g.readings.length).map fun j => (i, j)) = some (i, j) → clashR g = [.v (.int .i64 i), .v (.int .i64 j), .v (.bool true)] := fun j hj => by
      have : firstI g (i + 1) = some (i, j) := by simp only [firstI, hf]; exact hj
      simp only [clashR, firstI_some (show i + 1 ≤ g.readings.length by omega) this]
    by_cases c1 : g.most < (rdgAt g.readings i).low
    · simp [hil, Rdg.cells, c1]
      refine answers_of rfl ?_
      rw [fin i (by simp [oneC, c1])]
      simp
    · by_cases c2 : (rdgAt g.readings i).high < g.least
      · simp [hil, Rdg.cells, c1, c2]
        refine answers_of rfl ?_
        rw [fin i (by simp [oneC, c2])]
        simp
      · have ho : oneC g i = false := by simp [oneC]; omega
        rw [ho] at fin
        simp only [Bool.false_eq_true, if_false] at fin
        simp [hil, Rdg.cells, c1, c2, show ¬ g.most < (rdgAt g.readings i).low from c1]
        rw [wi]
        refine pwp_loop (fun j : Nat => [(7, .v (.int .i64 j))]) (fun j => i < j ∧ j ≤ g.readings.length ∧ firstJ g i j = none) (fun j => g.readings.length - j) (i + 1) ⟨by omega, by omega, firstJ_none.2 fun j h1 h2 => by omega⟩ (by simp; rfl) (by simp) ?_
        intro j ⟨hij, hj, hfj⟩
        by_cases hjl : j < g.readings.length
        · have wj := i64_wrap (show -9223372036854775808 ≤ (j : Int) + 1 ∧ _ from by omega)
          have r1 := hg.rd i hil
          have r2 := hg.rd j hjl
          have d0 : 0 ≤ farI (rdgAt g.readings i).minute (rdgAt g.readings j).minute ∧ farI (rdgAt g.readings i).minute (rdgAt g.readings j).minute ≤ 1440 := by unfold farI; omega
          have d1 : g.rate * farI (rdgAt g.readings i).minute (rdgAt g.readings j).minute ≤ 1440000 := Int.le_trans (Int.mul_le_mul hg.rate.2 d0.2 d0.1 (by omega)) (by omega)
          have d2 := Int.mul_nonneg hg.rate.1 d0.1
          have w1 := i64_wrap (show -9223372036854775808 ≤ g.rate * farI (rdgAt g.readings i).minute (rdgAt g.readings j).minute ∧ _ from by omega)
          have w2 := i64_wrap (show -9223372036854775808 ≤ (rdgAt g.readings i).low - (rdgAt g.readings j).high ∧ _ from by omega)
          have w3 := i64_wrap (show -9223372036854775808 ≤ (rdgAt g.readings j).low - (rdgAt g.readings i).high ∧ _ from by omega)
          simp [hjl, Rdg.cells]
          refine pwp_draw 24 (by decide) ?_
          simp
          refine pd_spec (far_spec (rdgAt g.readings i).minute (rdgAt g.readings j).minute (by simp only [Small]; omega) (by simp only [Small]; omega)) (by simp) (by simp) (by simp) rfl ?_
          by_cases ht : g.rate * farI (rdgAt g.readings i).minute (rdgAt g.readings j).minute < max ((rdgAt g.readings i).low - (rdgAt g.readings j).high) ((rdgAt g.readings j).low - (rdgAt g.readings i).high)
          · have hj' : firstJ g i (j + 1) = some j := by simp [firstJ, hfj, hij, twoC, ht]
            simp [w1, w2, w3, max_if, max_if', max_le, ht]
            refine ⟨by decide, ?_⟩
            refine answers_of rfl ?_
            rw [fin j (by rw [firstJ_some (show j + 1 ≤ g.readings.length by omega) hj']; rfl)]
            simp
          · have hj' : firstJ g i (j + 1) = none := by simp only [firstJ, hfj]; rw [if_neg]; simp [twoC]; intro; omega
            simp [w1, w2, w3, max_if, max_if', max_le, ht]
            refine ⟨by decide, ?_⟩
            refine again_of (j + 1) ⟨by omega, by omega, hj'⟩ (by omega) ?_
            simp [wj]
        · obtain rfl : j = g.readings.length := by omega
          simp
          refine again_of (i + 1) ⟨by omega, by simp [firstI, hf, ho, hfj]⟩ (by omega) ?_
          simp [wi]
  · obtain rfl : i = g.readings.length := by omega
    simp
    refine answers_of rfl ?_
    simp [clashR, hf]
theorem runs_spec (g : Gge) (hg : GgeOk g) : Spec Tryz.prog 40 [.agg g.cells] (.v (.bool (runsB g))) := by
  refine spec_of mixed Tryz.func40 (by decide) rfl Tryz.results40 Tryz.ntmps40 (by decide) 0 (by simp) ?_
  simp [Gge.cells, rdgL]
  refine pop_spec (clash_spec g hg) rfl false (.inl (by simp [Gge.cells, rdgL])) (.inl rfl) (by unfold clashR; split <;> rfl) (by simp) ?_
  cases h : firstI g g.readings.length with
  | none =>
    simp [clashR, h]
    refine answers_of rfl ?_
    simp [runsB, h]
  | some x =>
    obtain ⟨i, j⟩ := x
    simp [clashR, h]
    refine answers_of rfl ?_
    simp [runsB, h]
def minL : List PV := (List.range 1441).map fun t : Nat => .v (.int .i64 (t : Int))
theorem minL_length : minL.length = 1441 := by simp [minL]
theorem minL_get {k : Nat} (h : k < 1441) : minL[k]? = some (.v (.int .i64 k)) := by simp [minL, h]
theorem minL_plain : ∀ p ∈ minL, p.plain = true ∧ p.flat = true := by
  intro p hp
  obtain ⟨t, _, rfl⟩ := List.mem_map.1 hp
  exact ⟨rfl, rfl⟩
theorem minutes_gen : GenW Tryz.prog 41 [] minL := by
  refine gen_of Tryz.func41 (by decide) rfl Tryz.results41 Tryz.ntmps41 0 (by simp) fun l Rb J henv => ?_
  have hlo : ∀ s B, GCtx 11 Rb J s B → B.lo = 11 := fun _ _ h => h.1
  refine XW_seqP mixed hlo (by decide) ?_
  simp
  refine XW_block ?_
  refine XW_loopV hlo (fun k : Nat => [(3, .v (.int .i64 k))]) (fun k => GS.on k) (fun k => k ≤ 1441) (fun k => 1441 - k) 0 (Nat.zero_le _) rfl (by simp; rfl) (by simp) ?_
  intro k hk
  refine XW_seqP mixed hlo (by decide) ?_
  by_cases hlt : k < 1441
  · have wk := i64_wrap (show -9223372036854775808 ≤ (k : Int) + 1 ∧ _ from by omega)
    have hel := minL_get hlt
    simp [show (k : Int) < 1441 from by omega]
    refine XW_seqP mixed hlo (by decide) ?_
    simp
    refine XW_seqX (XW_block ?_)
    refine XW_seqP mixed hlo (by decide) ?_
    simp
    refine XW_seqX (XW_yieldS (m := 2) henv (by decide) (by decide) ?_)
    simp
    simp [pyield, yargs, hel]
    refine ⟨?_, ?_⟩
    · refine XW_pwp mixed hlo (by decide) ?_
      simp
      refine XW_pwp mixed hlo (by decide) ?_
      simp [wk]
      refine againX_of (k + 1) (by omega) (by omega) rfl ?_
      simp
    · refine XW_pwp mixed hlo (by decide) ?_
      simp
  · obtain rfl : k = 1441 := by omega
    simp
    refine XW_pwp mixed hlo (by decide) ?_
    simp [minL_length]
def boundsL (g : Gge) (n : Nat) : List Spn := (List.range n).map fun t : Nat => atS g (t : Int)
@[simp] theorem boundsL_length (g : Gge) (n : Nat) : (boundsL g n).length = n := by simp [boundsL]
theorem boundsL_succ (g : Gge) (n : Nat) : boundsL g (n + 1) = boundsL g n ++ [atS g n] := by simp [boundsL, List.range_succ]
theorem boundsL_at {g : Gge} {n k : Nat} (h : k < n) : spnAt (boundsL g n) k = atS g k := by simp [spnAt, boundsL, h]
def boundsR (g : Gge) : PV := if gaugeB g = true then if runsB g = true then .tup [spnL (boundsL g 1441), .v (.int .i64 0)] else .tup [.nil, .v (.int .i64 5)] else .tup [.nil, .v (.int .i64 2)]
theorem Bounds_spec (g : Gge) (hl : g.readings.length ≤ 9223372036854775807) : Spec Tryz.prog 9 [.agg g.cells] (boundsR g) := by
  unfold Spec
  refine callW_ofE Tryz.func9 (by decide) rfl (congrArg Array.toList Tryz.results9) Tryz.ntmps9 21 (by simp) (by decide) fun B0 hB0 hD0 => ?_
  have hlo : ∀ s B, ECtx B0 s B → B.lo = 21 := fun _ _ h => h.1.trans hB0
  refine XW_seqP mixed hlo (by decide) ?_
  simp [Gge.cells, rdgL]
  refine XW_seqP mixed hlo (by decide) ?_
  simp
  refine pop_spec (gauge_spec g hl) rfl false (.inl (by simp [Gge.cells, rdgL])) (.inl rfl) rfl (by simp) ?_
  cases hg : gaugeB g with
  | false =>
    simp
    refine ends_of (.tup [.nil, .v (.int .i64 2)]) [] [] rfl (by decide) ?_ ?_ (by simp [boundsR, hg])
    · simp
    · simp
  | true =>
  have hgo := gaugeB_iff.1 hg
  simp
  refine XW_seqP mixed hlo (by decide) ?_
  simp
  refine pop_spec (runs_spec g hgo) rfl false (.inl (by simp [Gge.cells, rdgL])) (.inl rfl) rfl (by simp) ?_
  cases hr : runsB g with
  | false =>
    simp
    refine ends_of (.tup [.nil, .v (.int .i64 5)]) [] [] rfl (by decide) ?_ ?_ (by simp [boundsR, hg, hr])
    · simp
    · simp
  | true =>
  simp
  refine XW_seqP mixed hlo (by decide) ?_
  simp
  refine XW_seqX (XW_block ?_)
  refine XW_range mixed rfl (by rfl) minutes_gen minL_plain (by decide) (by decide) 21 (by decide) [4, 20] (by decide)
    (fun n => [.undef, .rp g.cells 0, .undef, .undef, .box true [.own 20 n 0 n false], .undef, .undef, .undef, .undef, .undef, .undef, .undef, .undef, .undef, .undef, .undef, .undef, .undef, .undef, .undef, .rows none n 37 2 (rowsSp (boundsL g n))])
    (fun n => [.undef, .rp g.cells 0, .undef, .undef, .ref 0 0, .undef, .undef, .undef, .undef, .undef, .undef, .undef, .undef, .undef, .undef, .undef, .undef, .undef, .undef, .undef])
    (fun n => [.box false [.own 1 n 0 n false], .rows none n 37 2 (rowsSp (boundsL g n))]) ?_ (fun n hn => ⟨rfl, ?_, slots_view (t := 12) ?_ rfl⟩) (fun n p hp => ?_) ?_
  · rw [hB0]
    simp [Gge.cells, rdgL, boundsL]
  · simp
  · simp [slots]
  · have hn : n < 1441 := by
      have := (List.getElem?_eq_some_iff.1 hp).1
      rwa [minL_length] at this
    rw [minL_get hn] at hp
    obtain rfl := Option.some.inj hp
    rw [hB0]
    have er := rowsSp_snoc (boundsL g n) (atS g n)
    rw [← boundsL_succ] at er
    simp only [Spn.cells] at er
    have et : (boundsL g n).take n = boundsL g n := List.take_of_length_le (by simp)
    simp [show (n + 1) * 16 ≤ 140737488355328 from by omega, show n + 1 ≤ maxLen from by simp [maxLen]; omega]
    refine pwp_draw 7 (by decide) ?_
    simp [Gge.cells, rdgL]
    refine pd_spec (at_spec g n hgo (by omega)) (by simp [Gge.cells, rdgL]) (by simp) (by simp [Gge.cells, rdgL]) rfl ?_
    simp [Spn.cells, show (n + 1) * 16 ≤ 140737488355328 from by omega, show n + 1 ≤ maxLen from by simp [maxLen]; omega]
    refine ⟨by decide, ?_⟩
    refine rend_n [.box false [.own 1 (n + 1) 0 (n + 1) false], .rows none (n + 1) 37 2 (rowsSp (boundsL g (n + 1)))] ?_ ?_
    · simp [er, et]
    · simp [back, placeAll]
  · simp [minL_length]
    refine XW_pwp mixed hlo (by decide) ?_
    simp
    refine ends_of (.tup [spnL (boundsL g 1441), .v (.int .i64 0)]) [] [] rfl (by decide) ?_ ?_ (by simp [boundsR, hg, hr])
    · simp
    · simp [spnL]
      intro k hk
      rw [rowsSp_get (by simpa using hk)]
      simp [Spn.cells]
end Go.Qg
