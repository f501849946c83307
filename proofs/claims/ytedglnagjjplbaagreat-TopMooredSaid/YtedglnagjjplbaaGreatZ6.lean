/-
  Lemmas and contracts that hold of the whole program: 12 texts in one.
  No condition.
-/
import Derived.Test.YtedglnagjjplbaaGreatZ5
set_option linter.all false

namespace Go.Qg
open Go.Qg
set_option linter.all false
section
open Go.Proofs
set_option maxRecDepth 100000
set_option maxHeartbeats 16000000
set_option linter.unusedSimpArgs false
attribute [local irreducible] pwp pops pdraw pop popCall pdCall thenP blockP scopeP pspec Spec answers ppost CallW rend
theorem allN_succ (n : Nat) (p : Nat → Bool) : allN (n + 1) p = (allN n p && p n) := by simp [allN, List.range_succ]
theorem allN_no {n : Nat} {p : Nat → Bool} (h : allN n p = false) {k : Nat} (hk : n ≤ k) : allN k p = false := by
  induction k with
  | zero => obtain rfl : n = 0 := by omega
            exact h
  | succ k ih =>
    rcases Nat.lt_or_eq_of_le hk with h1 | rfl
    · rw [allN_succ, ih (by omega)]; rfl
    · exact h
def cvxB (P : Pln) (e k : Nat) : Bool := decide (k = e) || decide (k = (e + 1) % P.corners.length) || decide (0 < P.side e (cnrAt P.corners k).weight (cnrAt P.corners k).moment)
def cvxR (P : Pln) (e : Nat) : Bool := allN P.corners.length (cvxB P e)
def convexB (P : Pln) : Bool := allN P.corners.length (cvxR P)
def cvxV (P : Pln) : PF := [.undef, .rp P.cells 0, .box true [.v (.bool false)], .undef, .undef, .undef, .undef, .undef, .undef, .undef, .undef, .undef, .undef, .undef, .undef, .undef, .undef, .undef, .undef, .undef, .undef, .undef, .undef, .undef, .undef, .undef, .undef, .undef, .undef, .undef, .undef, .undef, .undef, .undef, .undef, .undef, .undef, .undef, .undef, .undef, .undef, .undef, .undef, .undef]
def cvxA (P : Pln) : PF := [.undef, .rp P.cells 0, .ref 0 0, .undef, .undef, .undef, .undef, .undef, .undef, .undef, .undef, .undef, .undef, .undef, .undef, .undef, .undef, .undef, .undef, .undef, .undef, .undef, .undef, .undef, .undef, .undef, .undef, .undef, .undef, .undef, .undef, .undef, .undef, .undef, .undef, .undef, .undef, .undef, .undef, .undef, .undef, .undef, .undef, .undef]
theorem convex_spec (P : Pln) (hc : CnrsOk P) (hn : P.corners.length ≤ 1000000) : Spec Tryz.prog 214 [.agg P.cells] (.v (.bool (convexB P))) := by
  have hgen := edges_gen P hc hn
  unfold Spec
  refine callW_ofE Tryz.func214 (by decide) rfl (congrArg Array.toList Tryz.results214) Tryz.ntmps214 44 (by simp) (by decide) fun B0 hB0 hD0 => ?_
  have hlo : ∀ s B, ECtx B0 s B → B.lo = 44 := fun _ _ h => h.1.trans hB0
  refine XW_seqP mixed hlo (by decide) ?_
  simp [Pln.cells, cnrL, stnL]
  refine XW_seqX (XW_seqP mixed hlo (by decide) ?_)
  simp
  refine pop_spec (edges_spec P) rfl false (.inl (by simp [Pln.cells, cnrL, stnL])) (.inl rfl) rfl (by simp) ?_
  simp
  refine XW_block ?_
  refine XW_rangeI (by decide) mixed rfl (by rfl) hgen edgs_plain (by decide) (by decide) 44 (by decide) [2] (by decide)
    (fun n => if allN n (cvxR P) = true then cvxV P else [])
    (fun n => cvxA P)
    (fun n => [.box false [.v (.bool false)]]) ?_ (fun n hn hV => ?_) (fun n q hq hV => ?_) ?_
  · rw [hB0]
    simp [allN, cvxV, Pln.cells, cnrL, stnL]
  · cases hs : allN n (cvxR P) with
    | false => simp [hs] at hV
    | true =>
      refine ⟨rfl, ?_, slots_view (t := 8) ?_ rfl⟩
      · simp [cvxV, Pln.cells, cnrL, stnL]
      · simp [slots, cvxV, cvxA, Pln.cells, cnrL, stnL]
  · obtain ⟨hnl, rfl⟩ := edg_get hq
    obtain ⟨s1, s2, s3, s4⟩ := edg_small hc hnl
    rw [hB0]
    cases hs : allN n (cvxR P) with
    | false => simp [hs] at hV
    | true =>
      have hsucc := allN_succ n (cvxR P)
      have hne : ¬ P.corners = [] := fun e => by rw [e] at hnl; cases hnl
      obtain ⟨j, hj⟩ : ∃ j : Nat, j = (n + 1) % P.corners.length := ⟨_, rfl⟩
      have hji : ((n : Int) + 1).tmod (P.corners.length : Int) = (j : Int) := by rw [hj]; rfl
      have wn := i64_wrap (show -9223372036854775808 ≤ (n : Int) + 1 ∧ _ from by omega)
      simp [cvxA, edgC, Pln.cells, cnrL, stnL]
      refine pwp_loop (fun k : Nat => [(13, .v (.int .i64 k))]) (fun k => k ≤ P.corners.length ∧ ∀ i, i < k → cvxB P n i = true) (fun k => P.corners.length - k) 0 ⟨Nat.zero_le _, fun i hi => by omega⟩ (by simp; rfl) (by simp) ?_
      intro k ⟨hk, hp⟩
      by_cases hkl : k < P.corners.length
      · have wk := i64_wrap (show -9223372036854775808 ≤ (k : Int) + 1 ∧ _ from by omega)
        have go : cvxB P n k = true → ∀ i, i < k + 1 → cvxB P n i = true := fun hb i hi => by
          rcases Nat.lt_or_eq_of_le (Nat.le_of_lt_succ hi) with h' | rfl
          · exact hp i h'
          · exact hb
        by_cases c1 : k = n
        · subst c1
          simp [hkl, Cnr.cells]
          refine again_of (k + 1) ⟨by omega, go (by simp [cvxB])⟩ (by omega) ?_
          simp [wk]
        by_cases c2 : k = j
        · subst c2
          simp (config := { maxSteps := 4000000 }) [hkl, Cnr.cells, c1, show ¬ (k : Int) = n from by omega, wn, hne, hji]
          refine again_of (k + 1) ⟨by omega, go (by simp [cvxB, ← hj])⟩ (by omega) ?_
          simp [wk]
        have hck := hc k hkl
        have hside := side_spec (n : Int) (P.cA n).weight (P.cA n).moment (P.dw n) (P.dm n) (cnrAt P.corners k).weight (cnrAt P.corners k).moment s1 s2 s3 s4 (by simp only [Small]; omega) (by simp only [Small]; omega)
        rw [show P.dw n * ((cnrAt P.corners k).moment - (P.cA n).moment) - P.dm n * ((cnrAt P.corners k).weight - (P.cA n).weight) = P.side n (cnrAt P.corners k).weight (cnrAt P.corners k).moment from rfl] at hside
        have d1 : ¬ (k : Int) = n := by omega
        have d2 : ¬ (k : Int) = j := by omega
        simp (config := { maxSteps := 4000000 }) [hkl, Cnr.cells, c1, d1, wn, hne, hji, c2, d2]
        refine pop_spec hside rfl false (.inl (by simp)) (.inl rfl) rfl (by simp) ?_
        by_cases c3 : P.side n (cnrAt P.corners k).weight (cnrAt P.corners k).moment ≤ 0
        · have hb : cvxB P n k = false := by simp [cvxB, c1, ← hj, c2, c3]
          have hno : allN (n + 1) (cvxR P) = false := by rw [hsucc, show cvxR P n = false from allN_false hkl hb]; simp
          have hall : convexB P = false := allN_no hno (show n + 1 ≤ P.corners.length by omega)
          simp [c3, hno, d1, d2]
          refine rend_r [.box false [.v (.bool false)]] ?_ ?_
          · simp
          · simp [back, placeAll, cvxV, blockX, thenX]
            refine ends_of (.v (.bool false)) [] [] rfl (by decide) ?_ ?_ (by simp [hall])
            · simp
            · simp
        · simp [c3, d1, d2]
          refine again_of (k + 1) ⟨by omega, go (by simp [cvxB, Int.not_le.1 c3])⟩ (by omega) ?_
          simp [wk]
      · obtain rfl : k = P.corners.length := by omega
        have hyes : allN (n + 1) (cvxR P) = true := by rw [hsucc, hs, show cvxR P n = true from allN_spec.2 hp]; rfl
        simp [hyes]
        refine rend_n [.box false [.v (.bool false)]] ?_ ?_
        · simp
        · simp [back, placeAll, cvxV, Pln.cells, cnrL, stnL]
  · intro hV
    rw [edgs_length] at hV ⊢
    cases hs : allN P.corners.length (cvxR P) with
    | false => simp [hs] at hV
    | true =>
      simp [blockX, thenX, cvxV]
      refine XW_pwp mixed hlo (by decide) ?_
      simp
      refine ends_of (.v (.bool true)) [] [] rfl (by decide) ?_ ?_ (by rw [convexB, hs])
      · simp
      · simp
def cornersB (P : Pln) : Bool := allN P.corners.length fun k => cnrB (cnrAt P.corners k)
def stnsB (l : List Stn) : Bool := allN l.length fun k => stnB (stnAt l k)
def validB (P : Pln) : Bool :=
  inB P.empty 1 20000 && inB P.moment (-20000000) 20000000 && kilosB [P.takeoff, P.landing, P.reserve] && inB P.corners.length 3 12 && decide (P.stations.length ≤ 8) && decide (P.floats.length ≤ 2) && cornersB P && stnsB P.stations && stnB P.tank && stnsB P.floats && convexB P
theorem corners_ok {P : Pln} (h : cornersB P = true) : CnrsOk P := fun i hi => by
  have := allN_spec.1 h i hi
  simpa [cnrB, inB_spec] using this
theorem convex_ok {P : Pln} : convexB P = true ↔ ∀ e, e < P.corners.length → ∀ k, k < P.corners.length → k ≠ e → k ≠ (e + 1) % P.corners.length → 0 < P.side e (cnrAt P.corners k).weight (cnrAt P.corners k).moment := by
  simp only [convexB, cvxR, allN_spec, cvxB, Bool.or_eq_true, decide_eq_true_eq]
  constructor
  · intro h e he k hk h1 h2
    rcases h e he k hk with (h3 | h3) | h3
    · exact (h1 h3).elim
    · exact (h2 h3).elim
    · exact h3
  · intro h e he k hk
    by_cases h1 : k = e
    · exact .inl (.inl h1)
    · by_cases h2 : k = (e + 1) % P.corners.length
      · exact .inl (.inr h2)
      · exact .inr (h e he k hk h1 h2)
theorem valid_ok {P : Pln} : validB P = true ↔ PlnOk P := by
  simp only [validB, Bool.and_eq_true, decide_eq_true_eq, kilosB_three, inB_spec]
  constructor
  · rintro ⟨⟨⟨⟨⟨⟨⟨⟨⟨⟨h1, h2⟩, ⟨h3, h4⟩, h5⟩, h6⟩, h7⟩, h8⟩, h9⟩, h10⟩, h11⟩, h12⟩, h13⟩
    exact ⟨h1, h2, h3, h4, h5, by omega, h7, h8, stnB_spec.1 h11, fun i hi => stnB_spec.1 (allN_spec.1 h10 i hi), fun i hi => stnB_spec.1 (allN_spec.1 h12 i hi), corners_ok h9, convex_ok.1 h13⟩
  · intro h
    exact ⟨⟨⟨⟨⟨⟨⟨⟨⟨⟨h.empty, h.moment⟩, ⟨h.takeoff, h.landing⟩, h.reserve⟩, by have := h.n; omega⟩, h.ns⟩, h.nf⟩, allN_spec.2 fun i hi => by have := h.corner i hi; simpa [cnrB, inB_spec] using this⟩, allN_spec.2 fun i hi => stnB_spec.2 (h.station i hi)⟩, stnB_spec.2 h.tank⟩, allN_spec.2 fun i hi => stnB_spec.2 (h.float i hi)⟩, convex_ok.2 h.convex⟩
structure PlnLen (P : Pln) : Prop where
  c : P.corners.length ≤ 9223372036854775807
  s : P.stations.length ≤ 9223372036854775807
  f : P.floats.length ≤ 9223372036854775807
theorem valid_spec (P : Pln) (hl : PlnLen P) : Spec Tryz.prog 174 [.agg P.cells] (.v (.bool (validB P))) := by
  have l1 := hl.c
  have l2 := hl.s
  have l3 := hl.f
  refine spec_of mixed Tryz.func174 (by decide) rfl Tryz.results174 Tryz.ntmps174 (by decide) 0 (by simp) ?_
  simp [Pln.cells, cnrL, stnL]
  refine pop_spec (allCnr_spec P.corners l1 210 [] [] rfl rfl (fun k => cnrB (cnrAt P.corners k)) fun k hk => valid1_spec (cnrAt P.corners k)) rfl false (.inl (by simp [cnrL])) (.inl rfl) rfl (by simp) ?_
  simp
  refine pop_spec (lin_spec P.empty 1 20000) rfl false (.inl (by simp)) (.inl rfl) rfl (by simp) ?_
  cases h1 : inB P.empty 1 20000 with
  | false => simp; refine answers_of rfl ?_; simp [validB, h1]
  | true =>
  simp
  refine pop_spec (lin_spec P.moment (-20000000) 20000000) rfl false (.inl (by simp)) (.inl rfl) rfl (by simp) ?_
  cases h2 : inB P.moment (-20000000) 20000000 with
  | false => simp; refine answers_of rfl ?_; simp [validB, h2]
  | true =>
  simp
  refine pop_specF [(28, ints [P.takeoff, P.landing, P.reserve])] ?_ (lkilos_spec [P.takeoff, P.landing, P.reserve] (by simp)) rfl false (.inl (by simp [ints])) (.inl rfl) rfl (by simp) ?_
  · simp [ints, geti]
    intro k hk
    rcases k with _ | _ | _ | k
    · simp
    · simp
    · simp
    · omega
  cases h3 : kilosB [P.takeoff, P.landing, P.reserve] with
  | false => simp; refine answers_of rfl ?_; simp [validB, h3]
  | true =>
  simp
  refine pop_spec (lin_spec P.corners.length 3 12) rfl false (.inl (by simp)) (.inl rfl) rfl (by simp) ?_
  cases h4 : inB P.corners.length 3 12 with
  | false => simp; refine answers_of rfl ?_; simp [validB, h4]
  | true =>
  have h4' := inB_spec.1 h4
  by_cases h5 : P.stations.length ≤ 8
  case neg => simp [show ¬ (P.stations.length : Int) ≤ 8 from by omega]; refine answers_of rfl ?_; simp [validB, h5]
  by_cases h6 : P.floats.length ≤ 2
  case neg => simp [show (P.stations.length : Int) ≤ 8 from by omega, show ¬ (P.floats.length : Int) ≤ 2 from by omega]; refine answers_of rfl ?_; simp [validB, h6]
  cases h7 : allN P.corners.length fun k => cnrB (cnrAt P.corners k) with
  | false => simp [show (P.stations.length : Int) ≤ 8 from by omega, show (P.floats.length : Int) ≤ 2 from by omega]; refine answers_of rfl ?_; simp [validB, cornersB, h7]
  | true =>
  simp [show (P.stations.length : Int) ≤ 8 from by omega, show (P.floats.length : Int) ≤ 2 from by omega]
  refine pop_spec (allStn_spec P.stations l2 213 [] [] rfl rfl (fun k => stnB (stnAt P.stations k)) fun k hk => station_spec (stnAt P.stations k)) rfl false (.inl (by simp [stnL])) (.inl rfl) rfl (by simp) ?_
  cases h8 : allN P.stations.length fun k => stnB (stnAt P.stations k) with
  | false => simp; refine answers_of rfl ?_; simp [validB, stnsB, h8]
  | true =>
  simp
  refine pop_spec (station_spec P.tank) rfl false (.inl (by simp [Stn.cells])) (.inl rfl) rfl (by simp) ?_
  cases h9 : stnB P.tank with
  | false => simp; refine answers_of rfl ?_; simp [validB, h9]
  | true =>
  simp
  refine pop_spec (allStn_spec P.floats l3 213 [] [] rfl rfl (fun k => stnB (stnAt P.floats k)) fun k hk => station_spec (stnAt P.floats k)) rfl false (.inl (by simp [stnL])) (.inl rfl) rfl (by simp) ?_
  cases h10 : allN P.floats.length fun k => stnB (stnAt P.floats k) with
  | false => simp; refine answers_of rfl ?_; simp [validB, stnsB, h10]
  | true =>
  simp
  refine pop_spec (convex_spec P (corners_ok h7) (by omega)) rfl false (.inl (by simp [Pln.cells, cnrL, stnL])) (.inl rfl) rfl (by simp) ?_
  simp
  refine answers_of rfl ?_; simp [validB, h1, h2, h3, h4, h5, h6, cornersB, h7, stnsB, h8, h9, h10]
def trippedE (P : Pln) (fuel : Spn) (legs : List Leg) : Int := if 6 < legs.length then 3 else if validB P = true then tripE fuel legs P.stations.length else 2
theorem tripped_spec (P : Pln) (fuel : Spn) (legs : List Leg) (hP : PlnLen P) (hl : legs.length ≤ 9223372036854775807) (hi : ∀ k, k < legs.length → (legAt legs k).items.length ≤ 9223372036854775807) :
    Spec Tryz.prog 100 [.agg P.cells, .agg fuel.cells, legL legs] (.v (.int .i64 (trippedE P fuel legs))) := by
  have l2 := hP.s
  have hv := valid_spec P hP
  have ht := trip_spec fuel legs P.stations.length hl hi (by omega)
  refine spec_of mixed Tryz.func100 (by decide) rfl Tryz.results100 Tryz.ntmps100 (by decide) 0 (by simp) ?_
  simp [Pln.cells, cnrL, stnL, legL, Spn.cells]
  refine pop_spec ht rfl false (.inl (by simp [legL, Spn.cells])) (.inl rfl) rfl (by simp) ?_
  by_cases h : 6 < legs.length
  · have e : tripE fuel legs P.stations.length = 3 := by simp [tripE, h]
    rw [e]
    simp
    refine answers_of rfl ?_; simp [trippedE, h]
  · have e : ¬ tripE fuel legs P.stations.length = 3 := by
      simp only [tripE, if_neg h]
      split <;> omega
    simp [e]
    refine pop_spec hv rfl false (.inl (by simp [Pln.cells, cnrL, stnL])) (.inl rfl) rfl (by simp) ?_
    cases h2 : validB P with
    | true => simp [e]; refine answers_of rfl ?_; simp [trippedE, h, h2]
    | false => simp [e]; refine answers_of rfl ?_; simp [trippedE, h, h2]
end
section
open Go.Proofs
set_option maxRecDepth 100000
set_option maxHeartbeats 16000000
set_option linter.unusedSimpArgs false
attribute [local irreducible] pwp pops pdraw pop popCall pdCall thenP blockP scopeP pspec Spec answers ppost CallW rend
def pntC (P : Pln) (X : Pnt) : List PV := [.v (.int .i64 P.empty), .v (.int .i64 P.moment), .v (.int .i64 P.takeoff), .v (.int .i64 P.landing), cnrL P.corners, stnL P.stations, .v (.int .i64 P.tank.arm), .v (.int .i64 P.tank.most), .v (.int .i64 P.reserve), stnL P.floats, itmL X.items, .v (.int .i64 X.tank.low), .v (.int .i64 X.tank.high), spnL X.water, .v (.bool X.landing)]
structure Prt where
  kind : Int
  idx : Nat
  arm : Int
  low : Int
  high : Int
  deriving Inhabited
def Prt.cells (p : Prt) : List PV := [.v (.int .i64 p.kind), .v (.int .i64 p.idx), .v (.int .i64 p.arm), .v (.int .i64 p.low), .v (.int .i64 p.high)]
def partI' (P : Pln) (X : Pnt) (i : Nat) : Prt := ⟨0, i, armI P X i, (itmAt X.items i).low, (itmAt X.items i).high⟩
def partT (P : Pln) (X : Pnt) : Prt := ⟨1, 0, P.tank.arm, X.tank.low, X.tank.high⟩
def partF (P : Pln) (X : Pnt) (i : Nat) : Prt := ⟨2, i, armF P i, (spnAt X.water i).low, (spnAt X.water i).high⟩
def partN (P : Pln) (X : Pnt) (n : Nat) : Prt := if n < X.items.length then partI' P X n else if n = X.items.length then partT P X else partF P X (n - X.items.length - 1)
def partK (X : Pnt) : Nat := X.items.length + 1 + X.water.length
def partsL (P : Pln) (X : Pnt) : List PV := (List.range (partK X)).map fun n => .agg (partN P X n).cells
theorem partsL_length (P : Pln) (X : Pnt) : (partsL P X).length = partK X := by simp [partsL]
theorem parts_get {P : Pln} {X : Pnt} {n : Nat} {p : PV} (h : (partsL P X)[n]? = some p) : n < partK X ∧ p = .agg (partN P X n).cells := by
  have hl : n < partK X := by
    have := (List.getElem?_eq_some_iff.1 h).1
    simpa [partsL] using this
  refine ⟨hl, ?_⟩
  simp [partsL, hl] at h
  exact h.symm
theorem parts_plain {P : Pln} {X : Pnt} : ∀ p ∈ partsL P X, p.plain = true ∧ p.flat = true := fun p hp => by
  obtain ⟨e, _, rfl⟩ := List.mem_map.1 hp
  exact ⟨rfl, rfl⟩
theorem parts_at {P : Pln} {X : Pnt} {n : Nat} (h : n < partK X) : (partsL P X)[n]? = some (.agg (partN P X n).cells) := by simp [partsL, h]
theorem parts_spec (P : Pln) (X : Pnt) : Spec Tryz.prog 236 [.agg (pntC P X)] (.clo (.func 238) [] [.rp (pntC P X) 0]) := by
  refine spec_of mixed Tryz.func236 (by decide) rfl Tryz.results236 Tryz.ntmps236 (by decide) 0 (by simp) ?_
  simp [pntC, cnrL, stnL, itmL, spnL]
  refine answers_of rfl ?_; simp [pntC, cnrL, stnL, itmL, spnL]
theorem parts_gen (P : Pln) (X : Pnt) (hX : PntOk P X) (hf : P.floats.length ≤ 2) : GenW Tryz.prog 238 [.rp (pntC P X) 0] (partsL P X) := by
  have hni := hX.n
  have hnw := hX.nw
  refine gen_of Tryz.func238 (by decide) rfl Tryz.results238 Tryz.ntmps238 0 (by simp) fun l Rb J henv => ?_
  have hlo : ∀ s B, GCtx 69 Rb J s B → B.lo = 69 := fun _ _ h => h.1
  refine XW_seqX (XW_seqP mixed hlo (by decide) ?_)
  simp [pntC, cnrL, stnL, itmL, spnL]
  refine XW_block ?_
  refine XW_loopV hlo (fun k : Nat => [(11, .v (.int .i64 k))]) (fun k => GS.on k) (fun k => k ≤ X.items.length) (fun k => X.items.length - k) 0 (Nat.zero_le _) rfl (by simp; rfl) (by simp) ?_
  intro k hk
  refine XW_seqP mixed hlo (by decide) ?_
  by_cases hlt : k < X.items.length
  · have wk := i64_wrap (show -9223372036854775808 ≤ (k : Int) + 1 ∧ _ from by omega)
    have hit := hX.item k hlt
    obtain ⟨s, hs⟩ : ∃ s : Nat, (itmAt X.items k).station = s := ⟨(itmAt X.items k).station.toNat, by omega⟩
    have hsl : s < P.stations.length := by omega
    have hel : (partsL P X)[k]? = some (.agg [.v (.int .i64 0), .v (.int .i64 k), .v (.int .i64 (stnAt P.stations s).arm), .v (.int .i64 (itmAt X.items k).low), .v (.int .i64 (itmAt X.items k).high)]) := by
      rw [parts_at (by unfold partK; omega)]
      simp [partN, hlt, partI', Prt.cells, armI, hs]
    simp [hlt]
    refine XW_seqP mixed hlo (by decide) ?_
    simp
    refine XW_seqX (XW_block ?_)
    refine XW_seqP mixed hlo (by decide) ?_
    simp [hlt, Itm.cells]
    refine XW_seqX (XW_yield (m := 14) mixed henv (by decide) (by decide) ?_)
    simp [hlt, hs, hsl, Stn.cells]
    refine ⟨by decide, ?_⟩
    simp [pyield, yargs, hel]
    refine ⟨?_, ?_⟩
    · refine XW_pwp mixed hlo (by decide) ?_
      simp
      refine XW_pwp mixed hlo (by decide) ?_
      simp [wk]
      refine againX_of (k + 1) (by omega) (by omega) rfl ?_
      simp
    · refine XW_pwp mixed hlo (by decide) ?_
      simp
  · obtain rfl : k = X.items.length := by omega
    have hel : (partsL P X)[X.items.length]? = some (.agg [.v (.int .i64 1), .v (.int .i64 0), .v (.int .i64 P.tank.arm), .v (.int .i64 X.tank.low), .v (.int .i64 X.tank.high)]) := by
      rw [parts_at (by unfold partK; omega)]
      simp [partN, partT, Prt.cells]
    simp
    refine XW_pwp mixed hlo (by decide) ?_
    simp
    refine XW_seqX (XW_seqX (XW_yieldS (m := 10) henv (by decide) (by decide) ?_))
    simp
    simp [pyield, yargs, hel]
    refine ⟨?_, ?_⟩
    · refine XW_pwp mixed hlo (by decide) ?_
      simp
      refine XW_seqP mixed hlo (by decide) ?_
      simp
      refine XW_block ?_
      refine XW_loopV hlo (fun k : Nat => [(49, .v (.int .i64 k))]) (fun k => GS.on (X.items.length + 1 + k)) (fun k => k ≤ X.water.length) (fun k => X.water.length - k) 0 (Nat.zero_le _) rfl (by simp; rfl) (by simp) ?_
      intro k hk
      refine XW_seqP mixed hlo (by decide) ?_
      by_cases hlt : k < X.water.length
      · have wk := i64_wrap (show -9223372036854775808 ≤ (k : Int) + 1 ∧ _ from by omega)
        have hkf : k < P.floats.length := by omega
        have hel : (partsL P X)[X.items.length + 1 + k]? = some (.agg [.v (.int .i64 2), .v (.int .i64 k), .v (.int .i64 (stnAt P.floats k).arm), .v (.int .i64 (spnAt X.water k).low), .v (.int .i64 (spnAt X.water k).high)]) := by
          rw [parts_at (by unfold partK; omega)]
          simp [partN, show ¬ X.items.length + 1 + k < X.items.length from by omega, show ¬ X.items.length + 1 + k = X.items.length from by omega, show X.items.length + 1 + k - X.items.length - 1 = k from by omega, partF, Prt.cells, armF]
        simp [hlt]
        refine XW_seqP mixed hlo (by decide) ?_
        simp
        refine XW_seqX (XW_block ?_)
        refine XW_seqP mixed hlo (by decide) ?_
        simp [hlt, Spn.cells]
        refine XW_seqX (XW_yield (m := 12) mixed henv (by decide) (by decide) ?_)
        simp [hlt, hkf, Stn.cells]
        refine ⟨by decide, ?_⟩
        simp [pyield, yargs, hel]
        refine ⟨?_, ?_⟩
        · refine XW_pwp mixed hlo (by decide) ?_
          simp
          refine XW_pwp mixed hlo (by decide) ?_
          simp [wk]
          refine againX_of (k + 1) (by omega) (by omega) (by simp only [GS.on.injEq]; omega) ?_
          simp
        · refine XW_pwp mixed hlo (by decide) ?_
          simp
      · obtain rfl : k = X.water.length := by omega
        simp
        refine XW_pwp mixed hlo (by decide) ?_
        simp [partsL_length, partK]
    · refine XW_pwp mixed hlo (by decide) ?_
      simp
end
section
open Go.Proofs
set_option maxRecDepth 100000
set_option maxHeartbeats 16000000
set_option linter.unusedSimpArgs false
attribute [local irreducible] pwp pops pdraw pop popCall pdCall thenP blockP scopeP pspec Spec answers ppost CallW rend
theorem part_small {P : Pln} {X : Pnt} (hP : PlnOk P) (hX : PntOk P X) {n : Nat} (hn : n < partK X) : Small 1000 (partN P X n).arm ∧ Small 140000 (partN P X n).low ∧ Small 140000 (partN P X n).high := by
  have hnw := hX.nw
  unfold partN
  split
  · rename_i h
    have h1 := hX.item n h
    have h2 := hP.station (itmAt X.items n).station.toNat (by omega)
    simp only [StnOk] at h2
    simp only [partI', armI, Small]
    omega
  · split
    · have h1 := hX.tank
      have h2 := hP.tank
      simp only [StnOk] at h2
      simp only [partT, Small]
      omega
    · have hk : n - X.items.length - 1 < X.water.length := by unfold partK at hn; omega
      have h1 := hX.water _ hk
      have h2 := hP.float (n - X.items.length - 1) (by omega)
      simp only [StnOk] at h2
      simp only [partF, armF, Small]
      omega
theorem partK_le {P : Pln} {X : Pnt} (hP : PlnOk P) (hX : PntOk P X) : partK X ≤ 15 := by
  have := hX.n; have := hX.nw; have := hP.nf; unfold partK; omega
theorem sumN_small {f : Nat → Int} {b : Int} (hb : 0 ≤ b) : ∀ {n : Nat}, (∀ i, i < n → Small b (f i)) → Small (b * n) (sumN f n)
  | 0, _ => by simp [sumN, Small]
  | n + 1, h => by
    have h1 := sumN_small hb (n := n) fun i hi => h i (by omega)
    have h2 := h n (by omega)
    simp only [Small, sumN] at *
    have e : b * ((n + 1 : Nat) : Int) = b * n + b := by push_cast; rw [Int.mul_add, Int.mul_one]
    rw [e]
    omega
theorem min_small {b x y : Int} (hx : Small b x) (hy : Small b y) : Small b (min x y) ∧ Small b (max x y) := by
  simp only [Small] at *; omega
theorem sumN_parts (P : Pln) (X : Pnt) (f : Prt → Int) : sumN (fun i => f (partN P X i)) (partK X) = sumN (fun i => f (partI' P X i)) X.items.length + f (partT P X) + sumN (fun i => f (partF P X i)) X.water.length := by
  unfold partK
  rw [sumN_split, sumN]
  congr 1
  · congr 1
    · exact sumN_congr fun i hi => by simp [partN, hi]
    · simp [partN]
  · exact sumN_congr fun i hi => by simp [partN, show ¬ X.items.length + 1 + i < X.items.length from by omega, show ¬ X.items.length + 1 + i = X.items.length from by omega, show X.items.length + 1 + i - X.items.length - 1 = i from by omega]
def bW (P : Pln) (X : Pnt) (n : Nat) : Int := P.empty + sumN (fun i => (partN P X i).low) n
def bWh (P : Pln) (X : Pnt) (n : Nat) : Int := P.empty + sumN (fun i => (partN P X i).high) n
def bM (P : Pln) (X : Pnt) (n : Nat) : Int := P.moment + sumN (fun i => minS (partN P X i).arm (partN P X i).low (partN P X i).high) n
def bMh (P : Pln) (X : Pnt) (n : Nat) : Int := P.moment + sumN (fun i => maxS (partN P X i).arm (partN P X i).low (partN P X i).high) n
def bndC (P : Pln) (X : Pnt) (n : Nat) : List PV := [.v (.int .i64 (bW P X n)), .v (.int .i64 (bWh P X n)), .v (.int .i64 (bM P X n)), .v (.int .i64 (bMh P X n))]
theorem bnd_small {P : Pln} {X : Pnt} (hP : PlnOk P) (hX : PntOk P X) {n : Nat} (hn : n ≤ partK X) : Small 2200000 (bW P X n) ∧ Small 2200000 (bWh P X n) ∧ Small 2200000000 (bM P X n) ∧ Small 2200000000 (bMh P X n) := by
  have hk := partK_le hP hX
  have h1 := sumN_small (f := fun i => (partN P X i).low) (b := 140000) (by omega) (n := n) fun i hi => (part_small hP hX (by omega)).2.1
  have h2 := sumN_small (f := fun i => (partN P X i).high) (b := 140000) (by omega) (n := n) fun i hi => (part_small hP hX (by omega)).2.2
  have hms : ∀ i, i < n → Small 140000000 (minS (partN P X i).arm (partN P X i).low (partN P X i).high) ∧ Small 140000000 (maxS (partN P X i).arm (partN P X i).low (partN P X i).high) := fun i hi => by
    obtain ⟨g1, g2, g3⟩ := part_small hP hX (show i < partK X by omega)
    exact min_small (mul_small g1 g2 (by omega) (by omega)) (mul_small g1 g3 (by omega) (by omega))
  have h3 := sumN_small (b := 140000000) (by omega) (n := n) fun i hi => (hms i hi).1
  have h4 := sumN_small (b := 140000000) (by omega) (n := n) fun i hi => (hms i hi).2
  have he := hP.empty
  have hm := hP.moment
  simp only [Small, bW, bWh, bM, bMh] at *
  have hn15 : (n : Int) ≤ 15 := by omega
  refine ⟨⟨?_, ?_⟩, ⟨?_, ?_⟩, ⟨?_, ?_⟩, ?_, ?_⟩ <;> omega
def bndV (P : Pln) (X : Pnt) (n : Nat) : PF := [.undef, .undef, .box true [.v (.int .i64 0), .v (.int .i64 0), .v (.int .i64 0), .v (.int .i64 0)], .box true (bndC P X n), .undef, .undef, .undef, .undef, .undef, .undef, .undef, .undef, .undef, .undef, .undef, .undef, .undef, .undef, .undef, .undef, .undef, .undef, .undef, .undef, .undef, .undef, .undef, .undef, .undef, .undef, .undef, .undef, .undef, .undef, .undef, .undef, .undef, .undef, .undef, .undef, .undef, .undef, .undef, .undef, .undef, .undef, .undef, .undef, .undef, .undef, .undef, .undef, .undef, .undef, .undef, .undef, .undef, .undef, .undef, .undef, .undef, .undef, .undef, .undef, .undef, .undef, .undef, .undef, .undef, .undef, .undef, .undef, .undef, .undef, .undef, .undef, .undef, .undef]
def bndA : PF := [.undef, .undef, .undef, .ref 0 0, .undef, .undef, .undef, .undef, .undef, .undef, .undef, .undef, .undef, .undef, .undef, .undef, .undef, .undef, .undef, .undef, .undef, .undef, .undef, .undef, .undef, .undef, .undef, .undef, .undef, .undef, .undef, .undef, .undef, .undef, .undef, .undef, .undef, .undef, .undef, .undef, .undef, .undef, .undef, .undef, .undef, .undef, .undef, .undef, .undef, .undef, .undef, .undef, .undef, .undef, .undef, .undef, .undef, .undef, .undef, .undef, .undef, .undef, .undef, .undef, .undef, .undef, .undef, .undef, .undef, .undef, .undef, .undef, .undef, .undef, .undef, .undef, .undef, .undef]
theorem bounds_spec (P : Pln) (X : Pnt) (hP : PlnOk P) (hX : PntOk P X) : Spec Tryz.prog 231 [.agg (pntC P X)] (.agg (bndC P X (partK X))) := by
  have hgen := parts_gen P X hX hP.nf
  unfold Spec
  refine callW_ofE Tryz.func231 (by decide) rfl (congrArg Array.toList Tryz.results231) Tryz.ntmps231 78 (by simp) (by decide) fun B0 hB0 hD0 => ?_
  have hlo : ∀ s B, ECtx B0 s B → B.lo = 78 := fun _ _ h => h.1.trans hB0
  refine XW_seqP mixed hlo (by decide) ?_
  simp [pntC, cnrL, stnL, itmL, spnL]
  refine XW_seqP mixed hlo (by decide) ?_
  simp
  refine XW_seqX (XW_seqP mixed hlo (by decide) ?_)
  simp
  refine pop_spec (parts_spec P X) rfl false (.inl (by simp [pntC, cnrL, stnL, itmL, spnL])) (.inl rfl) rfl (by simp) ?_
  simp
  refine XW_block ?_
  refine XW_range mixed rfl (by rfl) hgen parts_plain (by decide) (by decide) 78 (by decide) [3] (by decide)
    (fun n => bndV P X n) (fun n => bndA) (fun n => [.box false (bndC P X n)]) ?_ (fun n hn => ⟨rfl, ?_, slots_view (t := 28) ?_ rfl⟩) (fun n q hq => ?_) ?_
  · rw [hB0]
    simp [bndV, bndC, bW, bWh, bM, bMh, sumN]
  · simp [bndV, bndC]
  · simp [slots, bndV, bndA, bndC]
  · obtain ⟨hn, rfl⟩ := parts_get hq
    obtain ⟨g1, g2, g3⟩ := part_small hP hX hn
    have hb := bnd_small hP hX (show n + 1 ≤ partK X by omega)
    have m1 := mul_small g1 g2 (by omega) (by omega)
    have m2 := mul_small g1 g3 (by omega) (by omega)
    rw [hB0]
    have e1 : bW P X (n + 1) = bW P X n + (partN P X n).low := by simp only [bW, sumN]; omega
    have e2 : bWh P X (n + 1) = bWh P X n + (partN P X n).high := by simp only [bWh, sumN]; omega
    have e3 : bM P X (n + 1) = bM P X n + min ((partN P X n).arm * (partN P X n).low) ((partN P X n).arm * (partN P X n).high) := by simp only [bM, sumN, minS]; omega
    have e4 : bMh P X (n + 1) = bMh P X n + max ((partN P X n).arm * (partN P X n).low) ((partN P X n).arm * (partN P X n).high) := by simp only [bMh, sumN, maxS]; omega
    simp only [e1, e2, e3, e4, Small] at hb m1 m2
    have k1 := i64_wrap (show -9223372036854775808 ≤ bW P X n + (partN P X n).low ∧ _ from by omega)
    have k2 := i64_wrap (show -9223372036854775808 ≤ bWh P X n + (partN P X n).high ∧ _ from by omega)
    have k3 := i64_wrap (show -9223372036854775808 ≤ bM P X n + min ((partN P X n).arm * (partN P X n).low) ((partN P X n).arm * (partN P X n).high) ∧ _ from by omega)
    have k4 := i64_wrap (show -9223372036854775808 ≤ bMh P X n + max ((partN P X n).arm * (partN P X n).low) ((partN P X n).arm * (partN P X n).high) ∧ _ from by omega)
    have k5 := i64_wrap (show -9223372036854775808 ≤ (partN P X n).arm * (partN P X n).low ∧ _ from by omega)
    have k6 := i64_wrap (show -9223372036854775808 ≤ (partN P X n).arm * (partN P X n).high ∧ _ from by omega)
    have f3 : (if (partN P X n).arm * (partN P X n).high < (partN P X n).arm * (partN P X n).low then (partN P X n).arm * (partN P X n).high else (partN P X n).arm * (partN P X n).low) = min ((partN P X n).arm * (partN P X n).low) ((partN P X n).arm * (partN P X n).high) := by split <;> omega
    have f4 : (if (partN P X n).arm * (partN P X n).low < (partN P X n).arm * (partN P X n).high then (partN P X n).arm * (partN P X n).high else (partN P X n).arm * (partN P X n).low) = max ((partN P X n).arm * (partN P X n).low) ((partN P X n).arm * (partN P X n).high) := by split <;> omega
    simp [bndA, Prt.cells, bndC]
    refine pwp_draw 14 (by decide) ?_
    simp [k5, k6]
    refine ⟨by decide, ?_⟩
    simp [k1, k2, f3, f4, k3, k4]
    refine rend_n [.box false (bndC P X (n + 1))] ?_ ?_
    · simp [bndC, e1, e2, e3, e4]
    · simp [back, placeAll, bndV, bndC, e1, e2, e3, e4]
  · rw [partsL_length]
    simp [blockX, thenX, bndV, bndC]
    refine XW_pwp mixed hlo (by decide) ?_
    simp
    refine ends_of (.agg (bndC P X (partK X))) [] [] (x := .agg (bndC P X (partK X))) (by simp [bndC]) (by decide) ?_ ?_ rfl
    · simp [bndC]
    · simp [bndC]
end
section
open Go.Proofs
set_option maxRecDepth 100000
set_option maxHeartbeats 16000000
set_option linter.unusedSimpArgs false
attribute [local irreducible] pwp pops pdraw pop popCall pdCall thenP blockP scopeP pspec Spec answers ppost CallW rend
@[simp] theorem rowsB_nil : rowsB [] = [] := rfl
theorem rowsB_snoc (l : List Bool) (x : Bool) : rowsB l ++ [[.v (.bool x)]] = rowsB (l ++ [x]) := by simp [rowsB]
def lsN (P : Pln) (X : Pnt) (e n : Nat) : Int := P.side e P.empty P.moment + sumN (fun i => minS (P.slope e (partN P X i).arm) (partN P X i).low (partN P X i).high) n
theorem lsN_all (P : Pln) (X : Pnt) (e : Nat) : lsN P X e (partK X) = leastE P X e := by
  rw [lsN, sumN_parts P X fun p => minS (P.slope e p.arm) p.low p.high, leastE]
  simp only [partI', partT, partF]
  omega
theorem slope_small {P : Pln} (hP : PlnOk P) {e : Nat} (he : e < P.corners.length) {a : Int} (ha : Small 1000 a) : Small 60000000 (P.slope e a) := by
  obtain ⟨_, _, s3, s4⟩ := edg_small hP.corner he
  have h := mul_small s3 ha (by omega) (by omega)
  simp only [Small, Pln.slope] at *
  omega
theorem side_small {P : Pln} (hP : PlnOk P) {e : Nat} (he : e < P.corners.length) : Small 3000000000000 (P.side e P.empty P.moment) := by
  obtain ⟨s1, s2, s3, s4⟩ := edg_small hP.corner he
  have h1 := hP.empty
  have h2 := hP.moment
  have h3 := mul_small s3 (show Small 40000000 (P.moment - (P.cA e).moment) by simp only [Small] at *; omega) (by omega) (by omega)
  have h4 := mul_small s4 (show Small 40000 (P.empty - (P.cA e).weight) by simp only [Small] at *; omega) (by omega) (by omega)
  simp only [Small, Pln.side] at *
  omega
theorem ls_small {P : Pln} {X : Pnt} (hP : PlnOk P) (hX : PntOk P X) {e : Nat} (he : e < P.corners.length) {n : Nat} (hn : n ≤ partK X) : Small 200000000000000 (lsN P X e n) := by
  have hk := partK_le hP hX
  have h1 := sumN_small (f := fun i => minS (P.slope e (partN P X i).arm) (partN P X i).low (partN P X i).high) (b := 8400000000000) (by omega) (n := n) fun i hi => by
    obtain ⟨g1, g2, g3⟩ := part_small hP hX (show i < partK X by omega)
    have g4 := slope_small hP he g1
    exact (min_small (mul_small g4 g2 (by omega) (by omega)) (mul_small g4 g3 (by omega) (by omega))).1
  have h2 := side_small hP he
  have hn15 : (n : Int) ≤ 15 := by omega
  simp only [Small, lsN] at *
  omega
def lsV (P : Pln) (X : Pnt) (e n : Nat) : PF := [.undef, .undef, .undef, .rp (edgC P e) 0, .undef, .box true [.v (.int .i64 (lsN P X e n))], .undef, .undef, .undef, .undef, .undef, .undef, .undef, .undef, .undef, .undef, .undef, .undef, .undef, .undef, .undef, .undef, .undef, .undef, .undef, .undef, .undef, .undef, .undef, .undef, .undef, .undef, .undef, .undef, .undef, .undef, .undef, .undef, .undef]
def lsA (P : Pln) (e : Nat) : PF := [.undef, .undef, .undef, .rp (edgC P e) 0, .undef, .ref 0 0, .undef, .undef, .undef, .undef, .undef, .undef, .undef, .undef, .undef, .undef, .undef, .undef, .undef, .undef, .undef, .undef, .undef, .undef, .undef, .undef, .undef, .undef, .undef, .undef, .undef, .undef, .undef, .undef, .undef, .undef, .undef, .undef, .undef]
theorem least_spec (P : Pln) (X : Pnt) (hP : PlnOk P) (hX : PntOk P X) (e : Nat) (he : e < P.corners.length) : Spec Tryz.prog 233 [.agg (pntC P X), .agg (edgC P e)] (.v (.int .i64 (leastE P X e))) := by
  have hgen := parts_gen P X hX hP.nf
  obtain ⟨s1, s2, s3, s4⟩ := edg_small hP.corner he
  have h1 := hP.empty
  have h2 := hP.moment
  have hside := side_spec (e : Int) (P.cA e).weight (P.cA e).moment (P.dw e) (P.dm e) P.empty P.moment s1 s2 s3 s4 (by simp only [Small]; omega) (by simp only [Small]; omega)
  rw [show P.dw e * (P.moment - (P.cA e).moment) - P.dm e * (P.empty - (P.cA e).weight) = P.side e P.empty P.moment from rfl] at hside
  unfold Spec
  refine callW_ofE Tryz.func233 (by decide) rfl (congrArg Array.toList Tryz.results233) Tryz.ntmps233 39 (by simp) (by decide) fun B0 hB0 hD0 => ?_
  have hlo : ∀ s B, ECtx B0 s B → B.lo = 39 := fun _ _ h => h.1.trans hB0
  refine XW_seqP mixed hlo (by decide) ?_
  simp [pntC, cnrL, stnL, itmL, spnL, edgC]
  refine XW_seqP mixed hlo (by decide) ?_
  simp
  refine pop_spec hside rfl false (.inl (by simp)) (.inl rfl) rfl (by simp) ?_
  simp
  refine XW_seqX (XW_seqP mixed hlo (by decide) ?_)
  simp
  refine pop_spec (parts_spec P X) rfl false (.inl (by simp [pntC, cnrL, stnL, itmL, spnL])) (.inl rfl) rfl (by simp) ?_
  simp
  refine XW_block ?_
  refine XW_range mixed rfl (by rfl) hgen parts_plain (by decide) (by decide) 39 (by decide) [5] (by decide)
    (fun n => lsV P X e n) (fun n => lsA P e) (fun n => [.box false [.v (.int .i64 (lsN P X e n))]]) ?_ (fun n hn => ⟨rfl, ?_, slots_view (t := 20) ?_ rfl⟩) (fun n q hq => ?_) ?_
  · rw [hB0]
    simp [lsV, lsN, sumN, edgC]
  · simp [lsV]
  · simp [slots, lsV, lsA]
  · obtain ⟨hn, rfl⟩ := parts_get hq
    obtain ⟨g1, g2, g3⟩ := part_small hP hX hn
    have g4 := slope_small hP he g1
    have hb := ls_small hP hX he (show n + 1 ≤ partK X by omega)
    have m1 := mul_small g4 g2 (by omega) (by omega)
    have m2 := mul_small g4 g3 (by omega) (by omega)
    have hslope := slope_spec (e : Int) (P.cA e).weight (P.cA e).moment (P.dw e) (P.dm e) (partN P X n).arm s3 s4 g1
    rw [show P.dw e * (partN P X n).arm - P.dm e = P.slope e (partN P X n).arm from rfl] at hslope
    rw [hB0]
    have e1 : lsN P X e (n + 1) = lsN P X e n + min (P.slope e (partN P X n).arm * (partN P X n).low) (P.slope e (partN P X n).arm * (partN P X n).high) := by simp only [lsN, sumN, minS]; omega
    generalize P.slope e (partN P X n).arm = sl at *
    simp only [e1, Small] at hb m1 m2
    have k3 := i64_wrap (show -9223372036854775808 ≤ lsN P X e n + min (sl * (partN P X n).low) (sl * (partN P X n).high) ∧ _ from by omega)
    have k5 := i64_wrap (show -9223372036854775808 ≤ sl * (partN P X n).low ∧ _ from by omega)
    have k6 := i64_wrap (show -9223372036854775808 ≤ sl * (partN P X n).high ∧ _ from by omega)
    have f3 : (if sl * (partN P X n).high < sl * (partN P X n).low then sl * (partN P X n).high else sl * (partN P X n).low) = min (sl * (partN P X n).low) (sl * (partN P X n).high) := by split <;> omega
    simp [lsA, Prt.cells, edgC]
    refine pop_spec hslope rfl false (.inl (by simp)) (.inl rfl) rfl (by simp) ?_
    simp [k5, k6, f3, k3]
    refine rend_n [.box false [.v (.int .i64 (lsN P X e (n + 1)))]] ?_ ?_
    · simp [e1]
    · simp [back, placeAll, lsV, e1, edgC]
  · rw [partsL_length]
    simp [blockX, thenX, lsV]
    refine XW_pwp mixed hlo (by decide) ?_
    simp
    refine ends_of (.v (.int .i64 (leastE P X e))) [] [] (x := .v (.int .i64 (lsN P X e (partK X)))) rfl (by decide) ?_ ?_ rfl
    · simp
    · simp [lsN_all]
theorem limit_spec (P : Pln) (X : Pnt) : Spec Tryz.prog 232 [.agg (pntC P X)] (.v (.int .i64 (limitP P X))) := by
  refine spec_of mixed Tryz.func232 (by decide) rfl Tryz.results232 Tryz.ntmps232 (by decide) 0 (by simp) ?_
  simp [pntC, cnrL, stnL, itmL, spnL]
  cases h : X.landing with
  | true => simp; refine answers_of rfl ?_; simp [limitP, h]
  | false => simp; refine answers_of rfl ?_; simp [limitP, h]
theorem full_spec (P : Pln) (X : Pnt) : Spec Tryz.prog 217 [.agg (pntC P X)] (bools [fullB P X]) := by
  refine spec_of mixed Tryz.func217 (by decide) rfl Tryz.results217 Tryz.ntmps217 (by decide) 0 (by simp) ?_
  simp [pntC, cnrL, stnL, itmL, spnL]
  refine answers_of rfl ?_; simp [bools, getb, fullB]
theorem short_spec (P : Pln) (X : Pnt) : Spec Tryz.prog 221 [.agg (pntC P X)] (bools [shortB P X]) := by
  refine spec_of mixed Tryz.func221 (by decide) rfl Tryz.results221 Tryz.ntmps221 (by decide) 0 (by simp) ?_
  simp [pntC, cnrL, stnL, itmL, spnL]
  cases h : X.landing with
  | true => simp; refine answers_of rfl ?_; simp [bools, getb, shortB, h]
  | false => simp; refine answers_of rfl ?_; simp [bools, getb, shortB, h]
theorem highW_eq (P : Pln) (X : Pnt) : bWh P X (partK X) = highW P X := by
  rw [bWh, sumN_parts P X fun p => p.high, highW]
  simp only [partI', partT, partF]
  omega
theorem heavy_spec (P : Pln) (X : Pnt) (hP : PlnOk P) (hX : PntOk P X) : Spec Tryz.prog 219 [.agg (pntC P X)] (bools [heavyB P X]) := by
  have hb := bounds_spec P X hP hX
  simp only [bndC, highW_eq] at hb
  refine spec_of mixed Tryz.func219 (by decide) rfl Tryz.results219 Tryz.ntmps219 (by decide) 0 (by simp) ?_
  simp [pntC, cnrL, stnL, itmL, spnL]
  refine pwp_draw 8 (by decide) ?_
  simp
  refine pd_spec hb (by simp [pntC, cnrL, stnL, itmL, spnL]) (by simp) (by simp [pntC, cnrL, stnL, itmL, spnL]) rfl ?_
  simp
  refine pd_spec (limit_spec P X) (by simp [pntC, cnrL, stnL, itmL, spnL]) (by simp) (by simp [pntC, cnrL, stnL, itmL, spnL]) rfl ?_
  simp
  refine ⟨by decide, ?_⟩
  refine answers_of rfl ?_; simp [bools, getb, heavyB]
def wetL (P : Pln) (X : Pnt) (n : Nat) : List Bool := (List.range n).map (wetB P X)
theorem wetL_length (P : Pln) (X : Pnt) (n : Nat) : (wetL P X n).length = n := by simp [wetL]
theorem wetL_succ (P : Pln) (X : Pnt) (n : Nat) : wetL P X n ++ [wetB P X n] = wetL P X (n + 1) := by simp [wetL, List.range_succ]
theorem wet_spec (P : Pln) (X : Pnt) (hf : P.floats.length ≤ 2) (hX : PntOk P X) : Spec Tryz.prog 218 [.agg (pntC P X)] (bools (wetL P X X.water.length)) := by
  have hnw := hX.nw
  refine spec_of mixed Tryz.func218 (by decide) rfl Tryz.results218 Tryz.ntmps218 (by decide) 0 (by simp) ?_
  simp [pntC, cnrL, stnL, itmL, spnL]
  refine pwp_loop (fun k : Nat => [(3, .own 28 k 0 k false), (10, .v (.int .i64 k)), (28, .rows none k 4 1 (rowsB (wetL P X k)))]) (fun k => k ≤ X.water.length) (fun k => X.water.length - k) 0 (Nat.zero_le _) (by simp; rfl) (by simp [wetL]) ?_
  intro k hk
  by_cases hkl : k < X.water.length
  · have wk := i64_wrap (show -9223372036854775808 ≤ (k : Int) + 1 ∧ _ from by omega)
    have hkf : k < P.floats.length := by omega
    have er := rowsB_snoc (wetL P X k) (wetB P X k)
    rw [wetL_succ, wetB] at er
    have et : (wetL P X k).take k = wetL P X k := List.take_of_length_le (by simp [wetL_length])
    simp [hkl, Spn.cells]
    refine pwp_draw 14 (by decide) ?_
    simp [hkl, hkf, Stn.cells, wetL_length, show k + 1 ≤ 140737488355328 from by omega, show k + 1 ≤ maxLen from by simp [maxLen]; omega]
    refine ⟨by decide, ?_⟩
    refine again_of (k + 1) (by omega) (by omega) ?_
    simp [wk, er, et]
  · obtain rfl : k = X.water.length := by omega
    simp
    refine answers_of rfl ?_
    simp [bools, wetL_length]
    intro k hk
    simp [rowsB_get (show k < (wetL P X X.water.length).length by rw [wetL_length]; exact hk)]
end
section
open Go.Proofs
set_option maxRecDepth 100000
set_option maxHeartbeats 16000000
set_option linter.unusedSimpArgs false
attribute [local irreducible] pwp pops pdraw pop popCall pdCall thenP blockP scopeP pspec Spec answers ppost CallW rend
def outL (P : Pln) (X : Pnt) (n : Nat) : List Bool := (List.range n).map (outB P X)
theorem outL_length (P : Pln) (X : Pnt) (n : Nat) : (outL P X n).length = n := by simp [outL]
theorem outL_succ (P : Pln) (X : Pnt) (n : Nat) : outL P X n ++ [outB P X n] = outL P X (n + 1) := by simp [outL, List.range_succ]
def outV (P : Pln) (X : Pnt) (n : Nat) : PF := [.undef, .rp (pntC P X) 0, .undef, .box true [.own 15 n 0 n false], .undef, .undef, .undef, .undef, .undef, .undef, .undef, .undef, .undef, .undef, .undef, .rows none n 4 1 (rowsB (outL P X n)), .undef]
def outA (P : Pln) (X : Pnt) : PF := [.undef, .rp (pntC P X) 0, .undef, .ref 0 0, .undef, .undef, .undef, .undef, .undef, .undef, .undef, .undef, .undef, .undef, .undef, .undef, .undef]
theorem out_spec (P : Pln) (X : Pnt) (hP : PlnOk P) (hX : PntOk P X) : Spec Tryz.prog 220 [.agg (pntC P X)] (bools (outL P X P.corners.length)) := by
  have hn12 := hP.n
  have hgen := edges_gen P hP.corner (by omega)
  unfold Spec
  refine callW_ofE Tryz.func220 (by decide) rfl (congrArg Array.toList Tryz.results220) Tryz.ntmps220 17 (by simp) (by decide) fun B0 hB0 hD0 => ?_
  have hlo : ∀ s B, ECtx B0 s B → B.lo = 17 := fun _ _ h => h.1.trans hB0
  refine XW_seqP mixed hlo (by decide) ?_
  simp [pntC, cnrL, stnL, itmL, spnL]
  refine XW_seqP mixed hlo (by decide) ?_
  simp
  refine XW_seqX (XW_seqP mixed hlo (by decide) ?_)
  simp
  refine pop_spec (edges_spec P) rfl false (.inl (by simp [Pln.cells, cnrL, stnL])) (.inl rfl) rfl (by simp) ?_
  simp
  refine XW_block ?_
  refine XW_range mixed rfl (by rfl) hgen edgs_plain (by decide) (by decide) 17 (by decide) [3, 15] (by decide)
    (fun n => outV P X n) (fun n => outA P X) (fun n => [.box false [.own 1 n 0 n false], .rows none n 4 1 (rowsB (outL P X n))]) ?_ (fun n hn => ⟨rfl, ?_, slots_view (t := 8) ?_ rfl⟩) (fun n q hq => ?_) ?_
  · rw [hB0]
    simp [outV, outL, pntC, cnrL, stnL, itmL, spnL]
  · simp [outV]
  · simp [slots, outV, outA, pntC, cnrL, stnL, itmL, spnL]
  · obtain ⟨hn, rfl⟩ := edg_get hq
    have hleast := least_spec P X hP hX n hn
    have er := rowsB_snoc (outL P X n) (outB P X n)
    rw [outL_succ, outB] at er
    have et : (outL P X n).take n = outL P X n := List.take_of_length_le (by simp [outL_length])
    rw [hB0]
    simp [outA, edgC, pntC, cnrL, stnL, itmL, spnL]
    refine pwp_draw 7 (by decide) ?_
    simp
    refine pd_spec hleast (by simp [pntC, cnrL, stnL, itmL, spnL, edgC]) (by simp) (by simp [pntC, cnrL, stnL, itmL, spnL, edgC]) rfl ?_
    simp [outL_length, show n + 1 ≤ 140737488355328 from by omega, show n + 1 ≤ maxLen from by simp [maxLen]; omega]
    refine ⟨by decide, ?_⟩
    simp [er, et]
    refine rend_n [.box false [.own 1 (n + 1) 0 (n + 1) false], .rows none (n + 1) 4 1 (rowsB (outL P X (n + 1)))] ?_ ?_
    · simp [er, et]
    · simp [back, placeAll, outV, pntC, cnrL, stnL, itmL, spnL]
  · rw [edgs_length]
    simp [blockX, thenX, outV]
    refine XW_pwp mixed hlo (by decide) ?_
    simp
    refine ends_of (bools (outL P X P.corners.length)) [] [] rfl (by decide) ?_ ?_ rfl
    · simp
    · simp [bools, outL_length]
      intro k hk
      simp [rowsB_get (show k < (outL P X P.corners.length).length by rw [outL_length]; exact hk)]
abbrev IMap := List Int × List Int
def mput (m : IMap) (x v : Int) : IMap := match dfind m.1 x 0 with
  | some j => (m.1, m.2.set j v)
  | none => (m.1 ++ [x], m.2 ++ [v])
def mget (m : IMap) (x : Int) : Int := match dfind m.1 x 0 with
  | some j => geti m.2 j
  | none => 0
theorem dfind_snoc (x y : Int) : ∀ (d : List Int) (j : Nat), dfind (d ++ [x]) y j = (match dfind d y j with
  | some i => some i
  | none => if y = x then some (j + d.length) else none)
  | [], j => by
    simp only [List.nil_append, dfind]
    by_cases h : y = x <;> simp [h]
  | z :: d, j => by
    simp only [List.cons_append, dfind]
    by_cases h : y = z
    · simp [h]
    · simp only [beq_iff_eq, h, if_false]
      rw [dfind_snoc x y d (j + 1)]
      cases dfind d y (j + 1) with
      | some i => rfl
      | none => simp only [List.length_cons]; split <;> simp; omega
theorem mput_len {m : IMap} (x v : Int) (h : m.2.length = m.1.length) : (mput m x v).2.length = (mput m x v).1.length := by
  unfold mput
  split
  · simp [h]
  · simp [h]
theorem mget_put {m : IMap} (x v y : Int) (h : m.2.length = m.1.length) : mget (mput m x v) y = if y = x then v else mget m y := by
  unfold mput
  cases hd : dfind m.1 x 0 with
  | some j =>
    obtain ⟨_, h1, h2⟩ := dfind_some hd
    simp only [Nat.sub_zero] at h1 h2
    simp only [mget]
    by_cases hy : y = x
    · subst hy
      rw [hd, if_pos rfl]
      simp only
      rw [geti_set (by omega), if_pos rfl]
    · rw [if_neg hy]
      cases he : dfind m.1 y 0 with
      | none => rfl
      | some i =>
        obtain ⟨_, h3, h4⟩ := dfind_some he
        simp only [Nat.sub_zero] at h3 h4
        simp only
        rw [geti_set (by omega), if_neg]
        intro e
        subst e
        rw [h2] at h4
        exact hy (Option.some.inj h4).symm
  | none =>
    simp only [mget, dfind_snoc]
    cases he : dfind m.1 y 0 with
    | some i =>
      obtain ⟨_, h3, _⟩ := dfind_some he
      simp only [Nat.sub_zero] at h3
      have hy : y ≠ x := fun e => by rw [e, hd] at he; cases he
      simp only [if_neg hy, geti, List.getD_eq_getElem?_getD]
      rw [List.getElem?_append_left (by omega)]
    | none =>
      by_cases hy : y = x
      · simp [hy, geti, ← h]
      · simp [hy]
theorem keysI_get {v : List Int} {j : Nat} (h : j < v.length) : (keysI v)[j]? = some (.v (.int .i64 (geti v j))) := by simp [keysI, geti, h]
theorem keysI_setv (v : List Int) (j : Nat) (x : Int) : (keysI v).set j (.v (.int .i64 x)) = keysI (v.set j x) := by simp [keysI, List.map_set]
def sumTo (l : List Itm) : Nat → IMap
  | 0 => ([], [])
  | k + 1 => mput (sumTo l k) (itmAt l k).station (mget (sumTo l k) (itmAt l k).station + (itmAt l k).high)
theorem sumTo_len (l : List Itm) : ∀ k, (sumTo l k).2.length = (sumTo l k).1.length
  | 0 => rfl
  | k + 1 => mput_len _ _ (sumTo_len l k)
def stSum (l : List Itm) (x : Int) (k : Nat) : Int := sumN (fun i => if (itmAt l i).station = x then (itmAt l i).high else 0) k
theorem sumTo_get (l : List Itm) (x : Int) : ∀ k, mget (sumTo l k) x = stSum l x k
  | 0 => rfl
  | k + 1 => by
    rw [sumTo, mget_put _ _ _ (sumTo_len l k), stSum, sumN]
    by_cases h : x = (itmAt l k).station
    · rw [if_pos h, if_pos h.symm, h, sumTo_get l _ k, stSum]
    · rw [if_neg h, if_neg (fun e => h e.symm), sumTo_get l x k, stSum]; omega
def overL (P : Pln) (X : Pnt) (n : Nat) : List Bool := (List.range n).map (overB P X)
theorem overL_length (P : Pln) (X : Pnt) (n : Nat) : (overL P X n).length = n := by simp [overL]
theorem overL_succ (P : Pln) (X : Pnt) (n : Nat) : overL P X n ++ [overB P X n] = overL P X (n + 1) := by simp [overL, List.range_succ]
theorem stSum_small {P : Pln} {X : Pnt} (hX : PntOk P X) (x : Int) {k : Nat} (hk : k ≤ X.items.length) : Small 240000 (stSum X.items x k) := by
  have hn := hX.n
  have h := sumN_small (f := fun i => if (itmAt X.items i).station = x then (itmAt X.items i).high else 0) (b := 20000) (by omega) (n := k) fun i hi => by
    have h1 := hX.item i (by omega)
    simp only [Small]
    split <;> omega
  simp only [Small, stSum] at *
  omega
theorem over_spec (P : Pln) (X : Pnt) (hX : PntOk P X) (hs : P.stations.length ≤ 8) : Spec Tryz.prog 216 [.agg (pntC P X)] (bools (overL P X P.stations.length)) := by
  have hn := hX.n
  refine spec_of mixed Tryz.func216 (by decide) rfl Tryz.results216 Tryz.ntmps216 (by decide) 0 (by simp) ?_
  simp [pntC, cnrL, stnL, itmL, spnL]
  refine pwp_loop (fun k : Nat => [(9, .map true (keysI (sumTo X.items k).1) (keysI (sumTo X.items k).2)), (14, .v (.int .i64 k))]) (fun k => k ≤ X.items.length) (fun k => X.items.length - k) 0 (Nat.zero_le _) (by simp; rfl) (by simp [sumTo]) ?_
  intro k hk
  by_cases hkl : k < X.items.length
  · have wk := i64_wrap (show -9223372036854775808 ≤ (k : Int) + 1 ∧ _ from by omega)
    have hfind := pkfind_ints (P := Tryz.prog) (t := 3) (by rfl) (sumTo X.items k).1 (itmAt X.items k).station 0
    have hkey : pkeyOk Tryz.prog 3 (.v (.int .i64 (itmAt X.items k).station)) = true := by simp [pkeyOk]
    have hlen := sumTo_len X.items k
    have hget := sumTo_get X.items (itmAt X.items k).station k
    have hsm := stSum_small hX (itmAt X.items k).station hk
    have hit := hX.item k hkl
    have hsucc : sumTo X.items (k + 1) = mput (sumTo X.items k) (itmAt X.items k).station (mget (sumTo X.items k) (itmAt X.items k).station + (itmAt X.items k).high) := rfl
    simp only [Small, ← hget] at hsm
    cases hd : dfind (sumTo X.items k).1 (itmAt X.items k).station 0 with
    | none =>
      rw [hd] at hfind
      have hz : mget (sumTo X.items k) (itmAt X.items k).station = 0 := by simp [mget, hd]
      have w1 := i64_wrap (show -9223372036854775808 ≤ (itmAt X.items k).high ∧ _ from by omega)
      simp only [mput, hd, hz, Int.zero_add] at hsucc
      simp [hkl, Itm.cells, hfind, hkey, w1]
      refine again_of (k + 1) (by omega) (by omega) ?_
      simp [wk, hsucc, keysI_snoc]
    | some j =>
      rw [hd] at hfind
      obtain ⟨_, hj1, hj2⟩ := dfind_some hd
      simp only [Nat.sub_zero] at hj1 hj2
      have hz : mget (sumTo X.items k) (itmAt X.items k).station = geti (sumTo X.items k).2 j := by simp [mget, hd]
      have hv := keysI_get (v := (sumTo X.items k).2) (j := j) (by omega)
      rw [hz] at hsm
      have w1 := i64_wrap (show -9223372036854775808 ≤ geti (sumTo X.items k).2 j + (itmAt X.items k).high ∧ _ from by omega)
      simp only [mput, hd, hz] at hsucc
      simp [hkl, Itm.cells, hfind, hkey, hv, w1]
      refine again_of (k + 1) (by omega) (by omega) ?_
      simp [wk, hsucc, keysI_set hd, keysI_setv]
  · obtain rfl : k = X.items.length := by omega
    simp
    refine pwp_loop (fun k : Nat => [(6, .own 45 k 0 k false), (32, .v (.int .i64 k)), (45, .rows none k 4 1 (rowsB (overL P X k)))]) (fun k => k ≤ P.stations.length) (fun k => P.stations.length - k) 0 (Nat.zero_le _) (by simp; rfl) (by simp [overL]) ?_
    intro k hk
    by_cases hkl : k < P.stations.length
    · have wk := i64_wrap (show -9223372036854775808 ≤ (k : Int) + 1 ∧ _ from by omega)
      have er := rowsB_snoc (overL P X k) (overB P X k)
      rw [overL_succ, overB] at er
      have et : (overL P X k).take k = overL P X k := List.take_of_length_le (by simp [overL_length])
      have hfind := pkfind_ints (P := Tryz.prog) (t := 3) (by rfl) (sumTo X.items X.items.length).1 (k : Int) 0
      have hkey : pkeyOk Tryz.prog 3 (.v (.int .i64 (k : Int))) = true := by simp [pkeyOk]
      have hlen := sumTo_len X.items X.items.length
      have hget := sumTo_get X.items (k : Int) X.items.length
      cases hd : dfind (sumTo X.items X.items.length).1 (k : Int) 0 with
      | none =>
        rw [hd] at hfind
        have hz : stSum X.items (k : Int) X.items.length = 0 := by rw [← hget]; simp [mget, hd]
        simp only [stSum] at hz
        rw [hz] at er
        simp [hkl, Stn.cells, hfind, hkey, overL_length, show k + 1 ≤ 140737488355328 from by omega, show k + 1 ≤ maxLen from by simp [maxLen]; omega]
        refine again_of (k + 1) (by omega) (by omega) ?_
        simp [wk, er, et]
      | some j =>
        rw [hd] at hfind
        obtain ⟨_, hj1, hj2⟩ := dfind_some hd
        simp only [Nat.sub_zero] at hj1 hj2
        have hv := keysI_get (v := (sumTo X.items X.items.length).2) (j := j) (by omega)
        have hz : geti (sumTo X.items X.items.length).2 j = stSum X.items (k : Int) X.items.length := by rw [← hget]; simp [mget, hd]
        rw [hz] at hv
        simp only [← stSum.eq_1] at er
        simp [hkl, Stn.cells, hfind, hkey, hv, overL_length, show k + 1 ≤ 140737488355328 from by omega, show k + 1 ≤ maxLen from by simp [maxLen]; omega]
        refine again_of (k + 1) (by omega) (by omega) ?_
        simp [wk, er, et]
    · obtain rfl : k = P.stations.length := by omega
      simp
      refine answers_of rfl ?_
      simp [bools, overL_length]
      intro k hk
      simp [rowsB_get (show k < (overL P X P.stations.length).length by rw [overL_length]; exact hk)]
end
section
open Go.Proofs
set_option maxRecDepth 100000
set_option maxHeartbeats 16000000
set_option linter.unusedSimpArgs false
attribute [local irreducible] pwp pops pdraw pop popCall pdCall thenP blockP scopeP pspec Spec answers ppost CallW rend
@[simp] theorem wrap_4 : IntKind.i64.wrap 4 = 4 := i64_wrap (by omega)
@[simp] theorem wrap_5 : IntKind.i64.wrap 5 = 5 := i64_wrap (by omega)
@[simp] theorem wrap_6 : IntKind.i64.wrap 6 = 6 := i64_wrap (by omega)
@[simp] theorem wrap_7 : IntKind.i64.wrap 7 = 7 := i64_wrap (by omega)
def rl (P : Pln) (X : Pnt) (r : Nat) : List Bool := (List.range (manyR P (r + 2))).map (canB P X (r + 2))
theorem rl_length (P : Pln) (X : Pnt) (r : Nat) : (rl P X r).length = manyR P (r + 2) := by simp [rl]
theorem rl_get {P : Pln} {X : Pnt} {r i : Nat} (h : i < manyR P (r + 2)) : getb (rl P X r) i = canB P X (r + 2) i := by simp [rl, getb, h]
def ruleF : Nat → FuncId
  | 0 => 216
  | 1 => 217
  | 2 => 218
  | 3 => 219
  | 4 => 220
  | _ => 221
theorem rule_spec (P : Pln) (X : Pnt) (hP : PlnOk P) (hX : PntOk P X) {r : Nat} (hr : r < 6) : Spec Tryz.prog (ruleF r) [.agg (pntC P X)] (bools (rl P X r)) := by
  rcases r with _ | _ | _ | _ | _ | _ | r
  · rw [show rl P X 0 = overL P X P.stations.length from rfl]; exact over_spec P X hX hP.ns
  · rw [show rl P X 1 = [fullB P X] from rfl]; exact full_spec P X
  · rw [show rl P X 2 = wetL P X X.water.length from by rw [hX.nw]; rfl]; exact wet_spec P X hP.nf hX
  · rw [show rl P X 3 = [heavyB P X] from rfl]; exact heavy_spec P X hP hX
  · rw [show rl P X 4 = outL P X P.corners.length from rfl]; exact out_spec P X hP hX
  · rw [show rl P X 5 = [shortB P X] from rfl]; exact short_spec P X
  · omega
def rulesV (P : Pln) (X : Pnt) : PV := .agg [.clo (.func (ruleF 0)) [.agg (pntC P X)] [], .clo (.func (ruleF 1)) [.agg (pntC P X)] [], .clo (.func (ruleF 2)) [.agg (pntC P X)] [], .clo (.func (ruleF 3)) [.agg (pntC P X)] [], .clo (.func (ruleF 4)) [.agg (pntC P X)] [], .clo (.func (ruleF 5)) [.agg (pntC P X)] []]
theorem rules_spec (P : Pln) (X : Pnt) : Spec Tryz.prog 176 [.agg (pntC P X)] (rulesV P X) := by
  refine spec_of mixed Tryz.func176 (by decide) rfl Tryz.results176 Tryz.ntmps176 (by decide) 0 (by simp) ?_
  simp [pntC, cnrL, stnL, itmL, spnL]
  refine answers_of (x := rulesV P X) (by simp [rulesV, pntC, cnrL, stnL, itmL, spnL, ruleF]) ?_
  simp [rulesV, pntC, cnrL, stnL, itmL, spnL, ruleF]
theorem broken_none {P : Pln} {X : Pnt} (h : ∀ q, q < 6 → ∀ i, i < manyR P (q + 2) → canB P X (q + 2) i = false) : brokenP P X = (1, 0) := by
  rcases brokenF_spec (p := canB P X) (many := manyR P) 6 2 with ⟨h1, _⟩ | ⟨q, i, h1, h2, h3, h4, _⟩
  · exact h1
  · have := h (q - 2) (by omega) i (by rw [show q - 2 + 2 = q from by omega]; exact h3)
    rw [show q - 2 + 2 = q from by omega, h4] at this; cases this
theorem broken_some {P : Pln} {X : Pnt} {r i : Nat} (hr : r < 6) (h0 : ∀ q, q < r → ∀ i, i < manyR P (q + 2) → canB P X (q + 2) i = false) (hi : i < manyR P (r + 2)) (h1 : ∀ j, j < i → canB P X (r + 2) j = false) (h2 : canB P X (r + 2) i = true) : brokenP P X = (r + 2, i) := by
  rcases brokenF_spec (p := canB P X) (many := manyR P) 6 2 with ⟨_, g⟩ | ⟨q, k, g1, g2, g3, g4, g5, g6⟩
  · have := g (r + 2) (by omega) (by omega) i hi
    rw [h2] at this; cases this
  · have hq : q = r + 2 := by
      rcases Nat.lt_trichotomy q (r + 2) with h | h | h
      · have := h0 (q - 2) (by omega) k (by rw [show q - 2 + 2 = q from by omega]; exact g3)
        rw [show q - 2 + 2 = q from by omega, g4] at this; cases this
      · exact h
      · have := g6 (r + 2) (by omega) h i hi
        rw [h2] at this; cases this
    subst hq
    have hk : k = i := by
      rcases Nat.lt_trichotomy k i with h | h | h
      · have := h1 k h; rw [g4] at this; cases this
      · exact h
      · have := g5 i h; rw [h2] at this; cases this
    subst hk
    exact g1
theorem manyR_le {P : Pln} (hP : PlnOk P) (r : Nat) : manyR P r ≤ 12 := by
  have := hP.n; have := hP.ns; have := hP.nf
  unfold manyR; split
  · omega
  · split
    · omega
    · split <;> omega
theorem broken_spec (P : Pln) (X : Pnt) (hP : PlnOk P) (hX : PntOk P X) : Spec Tryz.prog 177 [.agg (pntC P X)] (.tup [.v (.int .i64 (brokenP P X).1), .v (.int .i64 (brokenP P X).2)]) := by
  have hrs := rules_spec P X
  have hr := fun r (h : r < 6) => rule_spec P X hP hX h
  have hml := manyR_le hP
  simp only [rulesV] at hrs
  refine spec_of mixed Tryz.func177 (by decide) rfl Tryz.results177 Tryz.ntmps177 (by decide) 0 (by simp) ?_
  have hpc : pntC P X = [.v (.int .i64 P.empty), .v (.int .i64 P.moment), .v (.int .i64 P.takeoff), .v (.int .i64 P.landing), cnrL P.corners, stnL P.stations, .v (.int .i64 P.tank.arm), .v (.int .i64 P.tank.most), .v (.int .i64 P.reserve), stnL P.floats, itmL X.items, .v (.int .i64 X.tank.low), .v (.int .i64 X.tank.high), spnL X.water, .v (.bool X.landing)] := rfl
  simp [hpc, cnrL, stnL, itmL, spnL]
  refine pop_spec hrs rfl false (.inl (by simp [hpc, cnrL, stnL, itmL, spnL])) (.inl rfl) rfl (by simp [hpc, cnrL, stnL, itmL, spnL]) ?_
  simp [hpc, cnrL, stnL, itmL, spnL]
  refine pwp_loop (fun r : Nat => [(10, .v (.int .i64 r))]) (fun r => r ≤ 6 ∧ ∀ q, q < r → ∀ i, i < manyR P (q + 2) → canB P X (q + 2) i = false) (fun r => 6 - r) 0 ⟨Nat.zero_le _, fun q h => by omega⟩ (by simp; rfl) (by simp [hpc, cnrL, stnL, itmL, spnL]) ?_
  intro r ⟨hr6, hno⟩
  by_cases hlt : r < 6
  · have hcall := hr r hlt
    have hm := hml (r + 2)
    have hl := rl_length P X r
    have hg := fun i (h : i < manyR P (r + 2)) => rl_get (P := P) (X := X) (r := r) h
    have hfound := fun i => broken_some (P := P) (X := X) (r := r) (i := i) hlt hno
    have hmore : (∀ i, i < manyR P (r + 2) → canB P X (r + 2) i = false) → ∀ q, q < r + 1 → ∀ i, i < manyR P (q + 2) → canB P X (q + 2) i = false := fun h q hq => by
      rcases Nat.lt_or_eq_of_le (Nat.le_of_lt_succ hq) with h' | rfl
      · exact hno q h'
      · exact h
    generalize rl P X r = L at hcall hl hg
    have hcases : r = 0 ∨ r = 1 ∨ r = 2 ∨ r = 3 ∨ r = 4 ∨ r = 5 := by omega
    rcases hcases with rfl | rfl | rfl | rfl | rfl | rfl
    all_goals
      simp only [ruleF] at hcall
      simp [ruleF]
      refine pop_spec hcall rfl false (.inl (by simp [hpc, cnrL, stnL, itmL, spnL])) (.inl rfl) rfl (by simp [bools]) ?_
      simp [bools]
      refine pwp_loop (fun i : Nat => [(17, .v (.int .i64 i))]) (fun i => i ≤ L.length ∧ ∀ j, j < i → getb L j = false) (fun i => L.length - i) 0 ⟨Nat.zero_le _, fun j h => by omega⟩ (by simp; rfl) (by simp) ?_
      intro i ⟨hi, hf⟩
      by_cases hil : i < L.length
      · have wi := i64_wrap (show -9223372036854775808 ≤ (i : Int) + 1 ∧ _ from by omega)
        have hgi := hg i (by omega)
        cases hb : getb L i with
        | true =>
          simp [hil, hb]
          refine answers_of rfl ?_
          rw [hfound i (by omega) (fun j hj => by rw [← hg j (by omega)]; exact hf j hj) (by rw [← hgi, hb])]
          simp
        | false =>
          simp [hil, hb]
          refine again_of (i + 1) ⟨by omega, fun j hj => ?_⟩ (by omega) ?_
          · rcases Nat.lt_or_eq_of_le (Nat.le_of_lt_succ hj) with h' | rfl
            · exact hf j h'
            · exact hb
          · simp [wi]
      · obtain rfl : i = L.length := by omega
        simp
        refine again_of (_ + 1) ⟨by omega, hmore fun i hi => by rw [← hg i hi]; exact hf i (by omega)⟩ (by omega) ?_
        simp
  · obtain rfl : r = 6 := by omega
    simp
    refine answers_of rfl ?_
    rw [broken_none hno]
    simp
end
end Go.Qg

namespace Go.Qg
open Go.Qg
set_option linter.all false
section
open Go.Proofs
set_option maxRecDepth 100000
set_option maxHeartbeats 32000000
set_option linter.unusedSimpArgs false
attribute [local irreducible] pwp pops pdraw pop popCall pdCall thenP blockP scopeP pspec Spec answers ppost CallW rend
instance : Inhabited Pnt := ⟨⟨[], ⟨0, 0⟩, [], false⟩⟩
def pntAt (l : List Pnt) (i : Nat) : Pnt := l.getD i default
def pntL (l : List Pnt) : PV := .sl 5 l.length fun i => (pntAt l i).cells
def rowsPt (l : List Pnt) : List (List PV) := l.map Pnt.cells
theorem Pnt.plain (X : Pnt) : plainL X.cells = true := by simp [Pnt.cells, plainL, PV.plain, itmL, spnL]
@[simp] theorem rowsPt_length (l : List Pnt) : (rowsPt l).length = l.length := by simp [rowsPt]
@[simp] theorem rowsPt_nil : rowsPt [] = [] := rfl
@[simp] theorem renLL_rowsPt (π : Nat → Nat) (l : List Pnt) : renLL π (rowsPt l) = rowsPt l := by
  induction l with
  | nil => rfl
  | cons x l ih => simp only [rowsPt, List.map_cons, renLL, renL_plain x.plain] at *; rw [ih]
@[simp] theorem namesLL_rowsPt (l : List Pnt) : namesLL (rowsPt l) = [] := by
  induction l with
  | nil => rfl
  | cons x l ih => simp only [rowsPt, List.map_cons, namesLL, plainL_names x.plain, List.nil_append] at *; exact ih
@[simp] theorem vwAllL_rowsPt (f : PF) (T : Tgt) (d : Nat) (l : List Pnt) : vo.vwAllL f T d (rowsPt l) (rowsPt l) = True := by
  induction l with
  | nil => simp [rowsPt, vo.vwAllL]
  | cons x l ih => simp only [rowsPt, List.map_cons, vo.vwAllL, vwAll_plain x.plain, true_and] at *; exact ih
theorem vwAllL_snoc (f : PF) (T : Tgt) (d : Nat) (l : List Pnt) (x y : List PV) : vo.vwAllL f T d (rowsPt l ++ [x]) (rowsPt l ++ [y]) = vwAll (vw f T d) x y := by
  induction l with
  | nil => simp [rowsPt, vo.vwAllL]
  | cons z l ih => simp only [rowsPt, List.map_cons, List.cons_append, vo.vwAllL, vwAll_plain z.plain, true_and] at *; exact ih
@[simp] theorem rowsPt_one {l : List Pnt} : (∀ (x : List PV), x ∈ rowsPt l → ∀ (y : PV), y ∈ x → y.one = true) ↔ True := by
  refine ⟨fun _ => trivial, fun _ x hx y hy => ?_⟩
  obtain ⟨b, _, rfl⟩ := List.mem_map.1 hx
  simp [Pnt.cells] at hy
  rcases hy with rfl | rfl | rfl | rfl | rfl <;> rfl
@[simp] theorem rowsPt_len1 {l : List Pnt} : (∀ (x : List PV), x ∈ rowsPt l → x.length = 5) ↔ True := by
  refine ⟨fun _ => trivial, fun _ x hx => ?_⟩
  obtain ⟨b, _, rfl⟩ := List.mem_map.1 hx
  rfl
@[simp] theorem rowsPt_take (l : List Pnt) (k : Nat) : (rowsPt l).take k = rowsPt (l.take k) := by simp [rowsPt]
theorem rowsPt_get {l : List Pnt} {k : Nat} (h : k < l.length) : (rowsPt l)[k]? = some (pntAt l k).cells := by simp [rowsPt, pntAt, h]
theorem rowsPt_snoc (l : List Pnt) (x : Pnt) : rowsPt l ++ [x.cells] = rowsPt (l ++ [x]) := by simp [rowsPt]
theorem rowsPt_allone (l : List Pnt) : ((rowsPt l).all fun r => r.all (·.one)) = true := by
  simp [List.all_eq_true, rowsPt, Pnt.cells, PV.one, itmL, spnL]
theorem rows_itm (l : List Itm) : (List.range l.length).map (fun i => (itmAt l i).cells) = rowsIt l := rowsIt_range l
def addX (items : List Itm) (now water : Spn) (nf : Nat) (b : Bool) : Pnt := ⟨items, now, List.replicate nf water, b⟩
def addH (now water : Spn) (l : List Pnt) : PF := [.box false now.cells, .box false water.cells, .box false [.own 3 l.length 0 l.length false], .rows none l.length 242 5 (rowsPt l)]
theorem add_spec (P : Pln) (g : Leg) (b : Bool) (now water : Spn) (l : List Pnt) (hi : g.items.length ≤ 12) (hf : P.floats.length ≤ 2) (hl : l.length ≤ 100) :
    CallW Tryz.prog 215 [.agg g.cells, .v (.bool b), .ref 0 0, .rp P.cells 0, .ref 1 0, .ref 2 0] (addH now water l) (fun out => out = .ret (.tup []) (addH now water (l ++ [addX g.items now water P.floats.length b]))) := by
  refine callW_of mixed Tryz.func215 (by decide) rfl (congrArg Array.toList Tryz.results215) Tryz.ntmps215 (by decide) 34 (by simp) (by decide) ?_
  simp [addH, Leg.cells, Pln.cells, cnrL, stnL, itmL, Spn.cells]
  simp [show g.items.length * 24 ≤ 140737488355328 from by omega, show g.items.length ≤ maxLen from by simp [maxLen]; omega]
  have hrl := rowsIt_length g.items
  refine pwp_loop (fun k : Nat => [(8, .box true [.sl 3 g.items.length fun i => (itmAt g.items i).cells, .v (.int .i64 now.low), .v (.int .i64 now.high), .own 27 k 0 k false, .v (.bool b)]), (16, .undef), (21, .v (.int .i64 k)), (27, .rows none k 37 2 (rowsSp (List.replicate k water)))]) (fun k => k ≤ P.floats.length) (fun k => P.floats.length - k) 0 (Nat.zero_le _) (by simp; rfl) ?_ ?_
  · simp [rows_itm]
    intro k hk
    rw [rowsIt_get hk]
    simp [Itm.cells]
  intro k hk
  by_cases hkl : k < P.floats.length
  · have wk := i64_wrap (show -9223372036854775808 ≤ (k : Int) + 1 ∧ _ from by omega)
    have er := rowsSp_snoc (List.replicate k water) water
    rw [show List.replicate k water ++ [water] = List.replicate (k + 1) water from by rw [List.replicate_succ']] at er
    simp only [Spn.cells] at er
    have et : (List.replicate k water).take k = List.replicate k water := List.take_of_length_le (by simp)
    simp [hkl, show (k + 1) * 16 ≤ 140737488355328 from by omega, show k + 1 ≤ maxLen from by simp [maxLen]; omega]
    refine again_of (k + 1) (by omega) (by omega) ?_
    simp [wk, er, et]
  · obtain rfl : k = P.floats.length := by omega
    simp [show (l.length + 1) * 72 ≤ 140737488355328 from by omega, show l.length + 1 ≤ maxLen from by simp [maxLen]; omega]
    have et : l.take l.length = l := List.take_of_length_le (Nat.le_refl _)
    refine ends_n (.tup []) (addH now water (l ++ [addX g.items now water P.floats.length b])) [] rfl (by decide) ?_ ?_ (by simp [addH, Spn.cells])
    · simp [addH, Spn.cells, et, ← rowsPt_snoc, vwAllL_snoc, rowsPt_allone, addX, Pnt.cells, itmL, spnL]
      intro k hk
      rw [rowsSp_get (by simpa using hk)]
      simp [Spn.cells, spnAt, List.getD, hk]
    · simp
theorem ptsL_length (P : Pln) (fuel : Spn) (legs : List Leg) (n : Nat) : (ptsL P fuel legs n).length = n := by simp [ptsL]
theorem ptsL_A (P : Pln) (fuel : Spn) (legs : List Leg) (k : Nat) : ptsL P fuel legs (2 * k) ++ [ptA P fuel legs k] = ptsL P fuel legs (2 * k + 1) := by
  rw [ptsL, ptsL, List.range_succ, List.map_append, List.map_cons, ptOf_even]; rfl
theorem ptsL_B (P : Pln) (fuel : Spn) (legs : List Leg) (k : Nat) : ptsL P fuel legs (2 * k + 1) ++ [ptB P fuel legs k] = ptsL P fuel legs (2 * (k + 1)) := by
  rw [ptsL, ptsL, show 2 * (k + 1) = (2 * k + 1) + 1 from by omega, List.range_succ (n := 2 * k + 1), List.map_append (l₂ := [2 * k + 1]), List.map_cons, ptOf_odd]; rfl
theorem points_spec (P : Pln) (fuel : Spn) (legs : List Leg) (hf : P.floats.length ≤ 2) (hT : TripOk P fuel legs) : Spec Tryz.prog 175 [.agg P.cells, .agg fuel.cells, legL legs] (pntL (ptsL P fuel legs (2 * legs.length))) := by
  have hn := hT.n
  refine spec_of mixed Tryz.func175 (by decide) rfl Tryz.results175 Tryz.ntmps175 (by decide) 1 (by simp) ?_
  simp [Pln.cells, cnrL, stnL, Spn.cells, legL]
  refine pwp_loop (fun k : Nat => [(3, .rp P.cells 0), (7, .box true [.own 70 (2 * k) 0 (2 * k) false]), (8, .box true (stT fuel legs k).cells), (9, .box true (stF legs k).cells), (10, .clo (.func 215) [] [.ref 8 0, .rp P.cells 0, .ref 9 0, .ref 7 0]), (15, .undef), (18, .v (.int .i64 k)), (70, .rows none (2 * k) 242 5 (rowsPt (ptsL P fuel legs (2 * k))))]) (fun k => k ≤ legs.length) (fun k => legs.length - k) 0 (Nat.zero_le _) (by simp; rfl) ?_ ?_
  · simp [Pln.cells, cnrL, stnL, Spn.cells, stT, stF, ptsL]
  intro k hk
  by_cases hkl : k < legs.length
  · have wk := i64_wrap (show -9223372036854775808 ≤ (k : Int) + 1 ∧ _ from by omega)
    have hL := hT.leg k hkl
    have b1 := stT_bounds hT k hk
    have b2 := stF_bounds hT k hk
    have b3 := stG_bounds hT k hk
    have l1 := hL.fuel
    have l2 := hL.burn
    have l3 := hL.leak
    have l4 := hL.n
    have hlA := ptsL_length P fuel legs (2 * k)
    have hlB := ptsL_length P fuel legs (2 * k + 1)
    have eT : stT fuel legs (k + 1) = ⟨(stT fuel legs k).low + (legAt legs k).fuel - (legAt legs k).burn.high, (stT fuel legs k).high + (legAt legs k).fuel - (legAt legs k).burn.low⟩ := rfl
    have eF := stF_succ legs k
    have addA := add_spec P (legAt legs k) false ⟨(stT fuel legs k).low + (legAt legs k).fuel, (stT fuel legs k).high + (legAt legs k).fuel⟩ (stG legs k) (ptsL P fuel legs (2 * k)) l4 hf (by omega)
    have addB := add_spec P (legAt legs k) true (stT fuel legs (k + 1)) (stF legs (k + 1)) (ptsL P fuel legs (2 * k + 1)) l4 hf (by omega)
    rw [show addX (legAt legs k).items ⟨(stT fuel legs k).low + (legAt legs k).fuel, (stT fuel legs k).high + (legAt legs k).fuel⟩ (stG legs k) P.floats.length false = ptA P fuel legs k from rfl, ptsL_A] at addA
    rw [show addX (legAt legs k).items (stT fuel legs (k + 1)) (stF legs (k + 1)) P.floats.length true = ptB P fuel legs k from rfl, ptsL_B] at addB
    simp only [addH, hlA, hlB, ptsL_length, Spn.cells] at addA addB
    have w1 := i64_wrap (show -9223372036854775808 ≤ (stT fuel legs k).low + (legAt legs k).fuel ∧ _ from by omega)
    have w2 := i64_wrap (show -9223372036854775808 ≤ (stT fuel legs k).high + (legAt legs k).fuel ∧ _ from by omega)
    have w3 := i64_wrap (show -9223372036854775808 ≤ (stT fuel legs k).low + (legAt legs k).fuel - (legAt legs k).burn.high ∧ _ from by omega)
    have w4 := i64_wrap (show -9223372036854775808 ≤ (stT fuel legs k).high + (legAt legs k).fuel - (legAt legs k).burn.low ∧ _ from by omega)
    have w5 := i64_wrap (show -9223372036854775808 ≤ (stG legs k).low + (legAt legs k).leak.low ∧ _ from by omega)
    have w6 := i64_wrap (show -9223372036854775808 ≤ (stG legs k).high + (legAt legs k).leak.high ∧ _ from by omega)
    cases hp : (legAt legs k).pump with
    | true =>
      have hG : stG legs k = ⟨0, 0⟩ := by simp [stG, hp]
      rw [hG] at addA eF w5 w6
      simp only [Int.zero_add] at addA eF w5 w6
      rw [eT, eF] at addB
      simp only at addB
      simp (config := { maxSteps := 4000000 }) [hkl, Leg.cells, hp, Pln.cells, cnrL, stnL, Spn.cells, itmL, w1, w2]
      refine pop_callW addA rfl [8, 9, 7, 70] false (by decide) ?_ (.inl ?_) ?_
      · simp
      · simp [Leg.cells, hp, Pln.cells, cnrL, stnL, itmL]
      rintro out rfl
      refine ⟨[], by simp [backOk], .inl rfl, by simp [back, backV, placeAll], ?_⟩
      simp (config := { maxSteps := 4000000 }) [back, backV, placeAll, Leg.cells, hp, itmL, w3, w4, w5, w6]
      refine pop_callW addB rfl [8, 9, 7, 70] false (by decide) ?_ (.inl ?_) ?_
      · simp
      · simp [Leg.cells, hp, Pln.cells, cnrL, stnL, itmL]
      rintro out rfl
      refine ⟨[], by simp [backOk], .inl rfl, by simp [back, backV, placeAll], ?_⟩
      simp (config := { maxSteps := 4000000 }) [back, backV, placeAll]
      refine again_of (k + 1) (by omega) (by omega) ?_
      simp [wk, eT, eF, Spn.cells, Pln.cells, cnrL, stnL, show 2 * (k + 1) = 2 * k + 1 + 1 from by omega]
    | false =>
      have hG : stG legs k = stF legs k := by simp [stG, hp]
      rw [hG] at addA eF w5 w6
      rw [eT, eF] at addB
      simp only at addB
      simp (config := { maxSteps := 4000000 }) [hkl, Leg.cells, hp, Pln.cells, cnrL, stnL, Spn.cells, itmL, w1, w2]
      refine pop_callW addA rfl [8, 9, 7, 70] false (by decide) ?_ (.inl ?_) ?_
      · simp
      · simp [Leg.cells, hp, Pln.cells, cnrL, stnL, itmL]
      rintro out rfl
      refine ⟨[], by simp [backOk], .inl rfl, by simp [back, backV, placeAll], ?_⟩
      simp (config := { maxSteps := 4000000 }) [back, backV, placeAll, Leg.cells, hp, itmL, w3, w4, w5, w6]
      refine pop_callW addB rfl [8, 9, 7, 70] false (by decide) ?_ (.inl ?_) ?_
      · simp
      · simp [Leg.cells, hp, Pln.cells, cnrL, stnL, itmL]
      rintro out rfl
      refine ⟨[], by simp [backOk], .inl rfl, by simp [back, backV, placeAll], ?_⟩
      simp (config := { maxSteps := 4000000 }) [back, backV, placeAll]
      refine again_of (k + 1) (by omega) (by omega) ?_
      simp [wk, eT, eF, Spn.cells, Pln.cells, cnrL, stnL, show 2 * (k + 1) = 2 * k + 1 + 1 from by omega]
  · obtain rfl : k = legs.length := by omega
    simp
    refine answers_of rfl ?_
    simp [pntL, ptsL_length]
    intro k hk
    simp [rowsPt_get (show k < (ptsL P fuel legs (2 * legs.length)).length by rw [ptsL_length]; exact hk), vwAll_plain (pntAt (ptsL P fuel legs (2 * legs.length)) k).plain]
    intro x hx
    simp [Pnt.cells] at hx
    rcases hx with rfl | rfl | rfl | rfl | rfl <;> simp [itmL, spnL]
end
section
open Go.Proofs
set_option maxRecDepth 100000
set_option maxHeartbeats 32000000
set_option linter.unusedSimpArgs false
attribute [local irreducible] pwp pops pdraw pop popCall pdCall thenP blockP scopeP pspec Spec answers ppost CallW rend
theorem itemsB_spec {l : List Itm} {ns : Nat} : itemsB l ns = true ↔ l.length ≤ 12 ∧ ∀ i, i < l.length → (0 ≤ (itmAt l i).station ∧ (itmAt l i).station < ns) ∧ 0 ≤ (itmAt l i).low ∧ (itmAt l i).low ≤ (itmAt l i).high ∧ (itmAt l i).high ≤ 20000 := by
  simp only [itemsB, Bool.and_eq_true, decide_eq_true_eq, allN_spec, itmB, inB_spec, spanB_spec]
  constructor
  · rintro ⟨h1, h2⟩
    exact ⟨h1, fun i hi => by have := h2 i hi; omega⟩
  · rintro ⟨h1, h2⟩
    exact ⟨h1, fun i hi => by have := h2 i hi; omega⟩
def firstRes (P : Pln) (fuel : Spn) (legs : List Leg) : PV := match tripP P fuel legs with
  | some j => .tup [.v (.int .i64 j), .v (.int .i64 (brokenP P (ptOf P fuel legs j)).1), .v (.int .i64 (brokenP P (ptOf P fuel legs j)).2)]
  | none => .tup [.v (.int .i64 (-1)), .v (.int .i64 1), .v (.int .i64 0)]
theorem pntAt_ptsL {P : Pln} {fuel : Spn} {legs : List Leg} {n j : Nat} (h : j < n) : pntAt (ptsL P fuel legs n) j = ptOf P fuel legs j := by simp [pntAt, ptsL, h]
@[simp] theorem wrap_m1' : IntKind.i64.wrap (-1) = -1 := i64_wrap (by omega)
theorem first_spec (P : Pln) (fuel : Spn) (legs : List Leg) (hP : PlnOk P) (hT : TripOk P fuel legs) : Spec Tryz.prog 104 [.agg P.cells, .agg fuel.cells, legL legs] (firstRes P fuel legs) := by
  have hn := hT.n
  have hp := points_spec P fuel legs hP.nf hT
  have hat := fun j (h : j < 2 * legs.length) => pntAt_ptsL (P := P) (fuel := fuel) (legs := legs) h
  have hok := fun j (h : j < 2 * legs.length) => ptOf_ok hT h
  have hlen := ptsL_length P fuel legs (2 * legs.length)
  have hres : ∀ j, j < 2 * legs.length → sureB P (ptOf P fuel legs j) = false → (∀ i, i < j → sureB P (ptOf P fuel legs i) = true) → firstRes P fuel legs = .tup [.v (.int .i64 j), .v (.int .i64 (brokenP P (ptOf P fuel legs j)).1), .v (.int .i64 (brokenP P (ptOf P fuel legs j)).2)] := fun j h1 h2 h3 => by
    have : tripP P fuel legs = some j := fstN_some.2 ⟨h1, by simp [h2], fun k hk => by simp [h3 k hk]⟩
    simp [firstRes, this]
  have hres0 : (∀ i, i < 2 * legs.length → sureB P (ptOf P fuel legs i) = true) → firstRes P fuel legs = .tup [.v (.int .i64 (-1)), .v (.int .i64 1), .v (.int .i64 0)] := fun h => by
    have : tripP P fuel legs = none := fstN_none.2 fun k hk => by simp [h k hk]
    simp [firstRes, this]
  generalize firstRes P fuel legs = R at *
  generalize ptsL P fuel legs (2 * legs.length) = L at *
  refine spec_of mixed Tryz.func104 (by decide) rfl Tryz.results104 Tryz.ntmps104 (by decide) 0 (by simp) ?_
  simp [Pln.cells, cnrL, stnL, Spn.cells, legL]
  refine pop_spec hp rfl false (.inl (by simp [Pln.cells, cnrL, stnL, Spn.cells, legL])) (.inl rfl) rfl (by simp [pntL]) ?_
  simp [pntL, hlen]
  refine pwp_loop (fun k : Nat => [(18, .v (.int .i64 k))]) (fun k => k ≤ 2 * legs.length ∧ ∀ i, i < k → sureB P (ptOf P fuel legs i) = true) (fun k => 2 * legs.length - k) 0 ⟨Nat.zero_le _, fun i hi => by omega⟩ (by simp; rfl) (by simp [hlen]) ?_
  intro k ⟨hk, hq⟩
  by_cases hkl : k < 2 * legs.length
  · have wk := i64_wrap (show -9223372036854775808 ≤ (k : Int) + 1 ∧ _ from by omega)
    have hb := broken_spec P (ptOf P fuel legs k) hP (hok k hkl)
    have hX : pntC P (ptOf P fuel legs k) = pntC P (pntAt L k) := by rw [hat k hkl]
    rw [hX] at hb
    have hs : sureB P (ptOf P fuel legs k) = decide ((brokenP P (ptOf P fuel legs k)).1 = 1) := rfl
    have hr := hres k hkl
    generalize brokenP P (ptOf P fuel legs k) = br at *
    obtain ⟨r, i⟩ := br
    simp only at hb hs hr
    simp (config := { maxSteps := 4000000 }) [show (k : Int) < 2 * (legs.length : Int) from by omega, hlen, show k < L.length from by omega, hkl, Pnt.cells, itmL, spnL]
    refine pop_spec hb rfl false (.inl (by simp [pntC, cnrL, stnL, itmL, spnL])) (.inl rfl) rfl (by simp) ?_
    by_cases hr1 : r = 1
    · subst hr1
      simp
      refine again_of (k + 1) ⟨by omega, fun j hj => ?_⟩ (by omega) ?_
      · rcases Nat.lt_or_eq_of_le (Nat.le_of_lt_succ hj) with h' | rfl
        · exact hq j h'
        · rw [hs]; rfl
      · simp [wk, hlen]
    · simp [hr1, show ¬ (r : Int) = 1 from by omega]
      refine answers_of rfl ?_
      rw [hr (by rw [hs]; simp [hr1]) hq]
      simp
  · obtain rfl : k = 2 * legs.length := by omega
    simp [hlen]
    refine answers_of rfl ?_
    rw [hres0 hq]
    simp
theorem legsB_ok {P : Pln} {legs : List Leg} (h : (allN legs.length fun k => legB P.stations.length (legAt legs k)) = true) : ∀ i, i < legs.length → LegOk P (legAt legs i) := fun i hi => by
  have := allN_spec.1 h i hi
  simp only [legB, Bool.and_eq_true, itemsB_spec, inB_spec, spanB_spec] at this
  obtain ⟨⟨⟨⟨h1, h2⟩, h3⟩, h4⟩, h5⟩ := this
  exact ⟨h1, h2, h3, h4, h5⟩
theorem tripped_ok {P : Pln} {fuel : Spn} {legs : List Leg} : trippedE P fuel legs = 0 ↔ PlnOk P ∧ TripOk P fuel legs := by
  unfold trippedE
  constructor
  · intro h
    split at h
    · omega
    · rename_i h1
      split at h
      · rename_i h2
        simp only [tripE, if_neg h1] at h
        split at h
        · omega
        · rename_i h3
          have a1 : ¬ legs.length = 0 := fun e => h3 (.inl e)
          have a2 : spanB fuel 0 20000 = true := by
            cases he : spanB fuel 0 20000 with
            | true => rfl
            | false => exact (h3 (.inr (.inl he))).elim
          have a3 : (allN legs.length fun k => legB P.stations.length (legAt legs k)) = true := by
            cases he : allN legs.length fun k => legB P.stations.length (legAt legs k) with
            | true => rfl
            | false => exact (h3 (.inr (.inr he))).elim
          exact ⟨valid_ok.1 h2, spanB_spec.1 a2, by omega, legsB_ok a3⟩
      · omega
  · rintro ⟨h1, h2⟩
    have hn := h2.n
    rw [if_neg (by omega), if_pos (valid_ok.2 h1), tripE, if_neg (by omega), if_neg]
    rintro (h | h | h)
    · omega
    · rw [spanB_spec.2 h2.fuel] at h; cases h
    · have : (allN legs.length fun k => legB P.stations.length (legAt legs k)) = true := allN_spec.2 fun k hk => by
        have hL := h2.leg k hk
        simp only [legB, Bool.and_eq_true, itemsB_spec, inB_spec, spanB_spec]
        exact ⟨⟨⟨⟨hL.n, hL.item⟩, hL.fuel⟩, hL.burn⟩, hL.leak⟩
      rw [this] at h; cases h
structure LegsLen (legs : List Leg) : Prop where
  n : legs.length ≤ 9223372036854775807
  i : ∀ k, k < legs.length → (legAt legs k).items.length ≤ 9223372036854775807
end
section
open Go.Proofs
set_option maxRecDepth 100000
set_option maxHeartbeats 32000000
set_option linter.unusedSimpArgs false
attribute [local irreducible] pwp pops pdraw pop popCall pdCall thenP blockP scopeP pspec Spec answers ppost CallW rend
theorem rowsB_app (a b : List Bool) : rowsB a ++ rowsB b = rowsB (a ++ b) := by simp [rowsB]
def brT (P : Pln) (legs : List Leg) (n : Int) (j c : Nat) : List Bool := (idxT P j ++ idxR P j c).map (canX P legs n)
theorem brT_zero (P : Pln) (legs : List Leg) (n : Int) : brT P legs n 0 0 = [] := rfl
theorem brT_succ (P : Pln) (legs : List Leg) (n : Int) (j c : Nat) : brT P legs n j c ++ rl P (ptOf P ⟨n, n⟩ legs j) c = brT P legs n j (c + 1) := by
  simp only [brT, idxR, List.map_append, List.map_map, List.append_assoc]
  rfl
theorem brT_next (P : Pln) (legs : List Leg) (n : Int) (j : Nat) : brT P legs n j 6 = brT P legs n (j + 1) 0 := by simp [brT, idxT, idxR]
theorem brT_all (P : Pln) (legs : List Leg) (n : Int) : brT P legs n (2 * legs.length) 0 = breaksL P legs n := by simp [brT, idxR, breaksL]
theorem idxR_le {P : Pln} (hP : PlnOk P) (j : Nat) : ∀ c, (idxR P j c).length ≤ 12 * c
  | 0 => by simp [idxR]
  | c + 1 => by
    have h1 := idxR_le hP j c
    have h2 := manyR_le hP (c + 2)
    simp only [idxR, List.length_append, List.length_map, List.length_range]; omega
theorem idxT_le {P : Pln} (hP : PlnOk P) : ∀ n, (idxT P n).length ≤ 72 * n
  | 0 => by simp [idxT]
  | n + 1 => by
    have h1 := idxT_le hP n
    have h2 := idxR_le hP n 6
    simp only [idxT, List.length_append]; omega
theorem brT_le {P : Pln} (hP : PlnOk P) (legs : List Leg) (n : Int) (j c : Nat) : (brT P legs n j c).length ≤ 72 * j + 12 * c := by
  have h1 := idxT_le hP j
  have h2 := idxR_le hP j c
  simp only [brT, List.length_map, List.length_append]; omega
theorem breaks_spec (P : Pln) (legs : List Leg) (n : Int) (hP : PlnOk P) (hT : TripOk P ⟨n, n⟩ legs) : Spec Tryz.prog 101 [.agg P.cells, legL legs, .v (.int .i64 n)] (bools (breaksL P legs n)) := by
  have hn := hT.n
  have hp := points_spec P ⟨n, n⟩ legs hP.nf hT
  have hat := fun j (h : j < 2 * legs.length) => pntAt_ptsL (P := P) (fuel := ⟨n, n⟩) (legs := legs) h
  have hok := fun j (h : j < 2 * legs.length) => ptOf_ok hT h
  have hlen := ptsL_length P ⟨n, n⟩ legs (2 * legs.length)
  have hml := manyR_le hP
  simp only [Spn.cells] at hp
  generalize ptsL P ⟨n, n⟩ legs (2 * legs.length) = L at *
  refine spec_of mixed Tryz.func101 (by decide) rfl Tryz.results101 Tryz.ntmps101 (by decide) 0 (by simp) ?_
  simp [Pln.cells, cnrL, stnL, legL]
  refine pop_spec hp rfl false (.inl (by simp [Pln.cells, cnrL, stnL, legL])) (.inl rfl) rfl (by simp [pntL]) ?_
  simp [pntL, hlen]
  refine pwp_loop (fun j : Nat => [(7, .own 34 (6 * j) 0 (brT P legs n j 0).length false), (19, .v (.int .i64 j)), (34, .rows none (6 * j) 4 1 (rowsB (brT P legs n j 0)))]) (fun j => j ≤ 2 * legs.length) (fun j => 2 * legs.length - j) 0 (Nat.zero_le _) (by simp; rfl) (by simp [hlen, brT_zero]) ?_
  intro j hj
  by_cases hjl : j < 2 * legs.length
  · have wj := i64_wrap (show -9223372036854775808 ≤ (j : Int) + 1 ∧ _ from by omega)
    have hrs := rules_spec P (ptOf P ⟨n, n⟩ legs j)
    have hr := fun r (h : r < 6) => rule_spec P (ptOf P ⟨n, n⟩ legs j) hP (hok j hjl) h
    have hsucc := fun c => brT_succ P legs n j c
    have hle := fun c => brT_le hP legs n j c
    have hrll := fun c => rl_length P (ptOf P ⟨n, n⟩ legs j) c
    have hX : ptOf P ⟨n, n⟩ legs j = pntAt L j := (hat j hjl).symm
    rw [hX] at hrs hr hsucc hrll
    simp only [rulesV] at hrs
    have hpc : pntC P (pntAt L j) = [.v (.int .i64 P.empty), .v (.int .i64 P.moment), .v (.int .i64 P.takeoff), .v (.int .i64 P.landing), cnrL P.corners, stnL P.stations, .v (.int .i64 P.tank.arm), .v (.int .i64 P.tank.most), .v (.int .i64 P.reserve), stnL P.floats, itmL (pntAt L j).items, .v (.int .i64 (pntAt L j).tank.low), .v (.int .i64 (pntAt L j).tank.high), spnL (pntAt L j).water, .v (.bool (pntAt L j).landing)] := rfl
    simp (config := { maxSteps := 4000000 }) [show (j : Int) < 2 * (legs.length : Int) from by omega, hlen, show j < L.length from by omega, hjl, Pnt.cells, itmL, spnL]
    refine pop_spec hrs rfl false (.inl (by simp [hpc, cnrL, stnL, itmL, spnL])) (.inl rfl) rfl (by simp [hpc, cnrL, stnL, itmL, spnL]) ?_
    simp [hpc, cnrL, stnL, itmL, spnL]
    refine pwp_loop (fun c : Nat => [(7, .own 34 (6 * j + c) 0 (brT P legs n j c).length false), (28, .v (.int .i64 c)), (34, .rows none (6 * j + c) 4 1 (rowsB (brT P legs n j c)))]) (fun c => c ≤ 6) (fun c => 6 - c) 0 (Nat.zero_le _) (by simp; rfl) (by simp [hpc, cnrL, stnL, itmL, spnL, hlen]) ?_
    intro c hc
    by_cases hlt : c < 6
    · have hcall := hr c hlt
      have hm := hml (c + 2)
      have hrl := hrll c
      have hs := hsucc c
      have h0 := hle c
      have e1 : (brT P legs n j (c + 1)).length = (brT P legs n j c).length + (rl P (pntAt L j) c).length := by rw [← hs, List.length_append]
      have er := rowsB_app (brT P legs n j c) (rl P (pntAt L j) c)
      rw [hs] at er
      have erng := rowsB_range (rl P (pntAt L j) c)
      generalize rl P (pntAt L j) c = R at *
      generalize hB : brT P legs n j c = B at *
      have et : B.take B.length = B := List.take_of_length_le (Nat.le_refl _)
      obtain ⟨c', hc'⟩ : ∃ c', c' = c + 1 := ⟨_, rfl⟩
      have hcases : c = 0 ∨ c = 1 ∨ c = 2 ∨ c = 3 ∨ c = 4 ∨ c = 5 := by omega
      rcases hcases with rfl | rfl | rfl | rfl | rfl | rfl
      all_goals
        simp only [ruleF] at hcall
        simp [ruleF]
        refine pop_spec hcall rfl false (.inl (by simp [hpc, cnrL, stnL, itmL, spnL])) (.inl rfl) rfl (by simp [bools]) ?_
        simp [bools, show B.length + R.length ≤ 140737488355328 from by omega, show B.length + R.length ≤ maxLen from by simp [maxLen]; omega]
        refine again_of c' (by omega) (by omega) ?_
        subst hc'
        simp [hlen, e1, er, et, erng]
    · obtain rfl : c = 6 := by omega
      simp
      refine again_of (j + 1) (by omega) (by omega) ?_
      simp [wj, hlen, brT_next, show 6 * (j + 1) = 6 * j + 6 from by omega]
  · obtain rfl : j = 2 * legs.length := by omega
    simp [hlen]
    refine answers_of rfl ?_
    rw [brT_all]
    simp [bools]
    intro k hk
    simp [rowsB_get hk]
theorem end_unique {p : Int → Bool} {K : Nat} (h : p K = false) {x : Int} (hx : 0 ≤ x) (h1 : p x = false) (h2 : ∀ n : Int, 0 ≤ n → n < x → p n = true) : endOf p K = x := by
  obtain ⟨g1, g2, g3⟩ := endOf_spec h
  rcases Int.lt_trichotomy (endOf p K) x with c | c | c
  · have := h2 _ g1.1 c; rw [g2] at this; cases this
  · exact c
  · have := g3 x hx c; rw [h1] at this; cases this
theorem change_spec (f : FuncId) (first cap : List PV) (h1 : plainL first = true) (h2 : plainL cap = true) (p : Int → Bool) (hd : DownB p) (hK : p 20000 = false)
    (h : ∀ n : Int, 0 ≤ n → n ≤ 20000 → Spec Tryz.prog f (first ++ ([.v (.int .i64 n)] ++ cap)) (.v (.bool (p n)))) : Spec Tryz.prog 102 [.v (.int .i64 0), .v (.int .i64 20000), .clo (.func f) first cap] (.v (.int .i64 (endOf p (20000 : Nat)))) := by
  refine spec_of mixed Tryz.func102 (by decide) rfl Tryz.results102 Tryz.ntmps102 (by decide) 0 (by simp) ?_
  simp [renL_plain h1, renL_plain h2]
  refine pop_spec (h 20000 (by omega) (by omega)) rfl false (.inr ⟨by simp, by simp [namesL_append, plainL_names h1, plainL_names h2]⟩) (.inl rfl) rfl (by simp) ?_
  rw [hK]
  simp
  refine pwp_loop (fun s : Int × Int => [(0, .v (.int .i64 s.1)), (1, .v (.int .i64 s.2))]) (fun s => (0 ≤ s.1 ∧ s.1 ≤ s.2 ∧ s.2 ≤ 20000) ∧ p s.2 = false ∧ ∀ n : Int, 0 ≤ n → n < s.1 → p n = true) (fun s => (s.2 - s.1).toNat) (0, 20000) ⟨by simp, hK, fun n a b => by simp only at b; omega⟩ (by simp; rfl) (by simp [vwAll_plain h1, vwAll_plain h2]) ?_
  rintro ⟨lo, hi⟩ ⟨⟨a1, a2, a3⟩, a4, a5⟩
  simp only at a1 a2 a3 a4 a5 ⊢
  by_cases hlt : lo < hi
  · obtain ⟨d, hdv⟩ : ∃ d : Int, d = (hi - lo) / 2 := ⟨_, rfl⟩
    have hd0 : 0 ≤ d ∧ lo + d < hi := by omega
    have w1 := i64_wrap (show -9223372036854775808 ≤ hi - lo ∧ _ from by omega)
    have w2 : (hi - lo).tdiv 2 = d := by rw [Int.tdiv_eq_ediv_of_nonneg (by omega), hdv]
    have w3 := i64_wrap (show -9223372036854775808 ≤ d ∧ _ from by omega)
    have w4 := i64_wrap (show -9223372036854775808 ≤ lo + d ∧ _ from by omega)
    have w5 := i64_wrap (show -9223372036854775808 ≤ lo + d + 1 ∧ _ from by omega)
    simp [hlt, w1, w2, w3, w4]
    refine pop_spec (h (lo + d) (by omega) (by omega)) rfl false (.inr ⟨by simp, by simp [namesL_append, plainL_names h1, plainL_names h2]⟩) (.inl rfl) rfl (by simp) ?_
    cases hp : p (lo + d) with
    | false =>
      simp
      refine again_of (lo, lo + d) ⟨⟨a1, by omega, by omega⟩, hp, a5⟩ (by simp only; omega) ?_
      simp [vwAll_plain h1, vwAll_plain h2]
    | true =>
      simp [w5]
      refine again_of (lo + d + 1, hi) ⟨⟨by omega, by omega, a3⟩, a4, fun n b1 b2 => hd n (lo + d) (by simp only at b2; omega) hp⟩ (by simp only; omega) ?_
      simp [vwAll_plain h1, vwAll_plain h2]
  · obtain rfl : hi = lo := by omega
    simp
    refine answers_of rfl ?_
    rw [end_unique (K := 20000) hK a1 a4 a5]
    simp
theorem tripOk_fuel {P : Pln} {f g : Spn} {legs : List Leg} (h : TripOk P f legs) (hg : 0 ≤ g.low ∧ g.low ≤ g.high ∧ g.high ≤ 20000) : TripOk P g legs := ⟨hg, h.n, h.leg⟩
theorem Fuel1_spec (P : Pln) (legs : List Leg) (n : Int) (k : Nat) (hP : PlnOk P) (hT : TripOk P ⟨n, n⟩ legs) (hk : k < (idxT P (2 * legs.length)).length) :
    Spec Tryz.prog 103 [.v (.int .i64 n), .rp P.cells 0, .rp [legL legs] 0, .rp [.v (.int .i64 k)] 0] (.v (.bool (brkK P legs k n))) := by
  have hb := breaks_spec P legs n hP hT
  have hlen := breaksL_length P legs n
  have e : brkK P legs k n = getb (breaksL P legs n) k := rfl
  rw [e]
  generalize breaksL P legs n = B at *
  refine spec_of mixed Tryz.func103 (by decide) rfl Tryz.results103 Tryz.ntmps103 (by decide) 0 (by simp) ?_
  simp [Pln.cells, cnrL, stnL, legL]
  refine pwp_draw 7 (by decide) ?_
  simp
  refine pd_spec hb (by simp [Pln.cells, cnrL, stnL, legL]) (by simp) (by simp [Pln.cells, cnrL, stnL, legL]) (by simp [bools]) ?_
  simp [bools, show k < B.length from by omega]
  refine ⟨by decide, ?_⟩
  refine answers_of rfl ?_; simp
theorem fuelTo_no {p : Nat → Int → Bool} {K k : Nat} (h : fuelTo p K k = none) : ∀ {N : Nat}, k ≤ N → fuelTo p K N = none
  | 0, hk => by obtain rfl : k = 0 := by omega
                exact h
  | N + 1, hk => by
    rcases Nat.lt_or_eq_of_le hk with c | rfl
    · simp only [fuelTo, fuelTo_no h (show k ≤ N by omega)]
    · exact h
def fuelRes (P : Pln) (legs : List Leg) : PV := if trippedE P ⟨0, 0⟩ legs = 0 then (match fuelP P legs with
  | some n => .tup [.v (.int .i64 n), .v (.int .i64 0)]
  | none => .tup [.v (.int .i64 0), .v (.int .i64 5)]) else .tup [.v (.int .i64 0), .v (.int .i64 (trippedE P ⟨0, 0⟩ legs))]
theorem Fuel_spec (P : Pln) (legs : List Leg) (hP : PlnLen P) (hl : LegsLen legs) : Spec Tryz.prog 30 [.agg P.cells, legL legs] (fuelRes P legs) := by
  have ht := tripped_spec P ⟨0, 0⟩ legs hP hl.n hl.i
  simp only [Spn.cells] at ht
  unfold fuelRes
  refine spec_of mixed Tryz.func30 (by decide) rfl Tryz.results30 Tryz.ntmps30 (by decide) 0 (by simp) ?_
  simp [Pln.cells, cnrL, stnL, legL]
  refine pop_spec ht rfl false (.inl (by simp [Pln.cells, cnrL, stnL, legL])) (.inl rfl) rfl (by simp) ?_
  by_cases h : trippedE P ⟨0, 0⟩ legs = 0
  case neg =>
    simp [h]
    refine answers_of rfl ?_; simp
  obtain ⟨k1, k2⟩ := tripped_ok.1 h
  have hn := k2.n
  have hb0 := breaks_spec P legs 0 k1 k2
  have hb1 := breaks_spec P legs 20000 k1 (tripOk_fuel k2 (by simp))
  have hl0 := breaksL_length P legs 0
  have hl1 := breaksL_length P legs 20000
  have hle := idxT_le k1 (2 * legs.length)
  simp only [bools] at hb0 hb1
  simp [h]
  refine pwp_draw 8 (by decide) ?_
  simp
  refine pd_spec hb0 (by simp [Pln.cells, cnrL, stnL, legL]) (by simp) (by simp [Pln.cells, cnrL, stnL, legL]) (by simp) ?_
  simp
  refine pd_spec hb1 (by simp [Pln.cells, cnrL, stnL, legL]) (by simp) (by simp [Pln.cells, cnrL, stnL, legL]) (by simp) ?_
  simp
  refine ⟨by decide, ?_⟩
  have hshift := brk_shift P legs
  have g0 : ∀ k, getb (breaksL P legs 0) k = brkK P legs k 0 := fun k => rfl
  have g1 : ∀ k, getb (breaksL P legs 20000) k = brkK P legs k 20000 := fun k => rfl
  have hF1 := fun (n : Int) (h0 : 0 ≤ n ∧ n ≤ 20000) k hk => Fuel1_spec P legs n k k1 (tripOk_fuel (g := ⟨n, n⟩) k2 ⟨h0.1, Int.le_refl _, h0.2⟩) hk
  have hfP : ∀ N, N = (idxT P (2 * legs.length)).length → fuelP P legs = match fuelTo (brkK P legs) 20000 N with
    | none => none
    | some low => if (tripP P ⟨low, low⟩ legs).isNone = true then some low else none := fun N hN => by subst hN; rfl
  generalize hB0 : breaksL P legs 0 = B0 at *
  generalize hB1 : breaksL P legs 20000 = B1 at *
  generalize hN : (idxT P (2 * legs.length)).length = N at *
  replace hfP := hfP N rfl
  refine pwp_loop (fun s : Nat × Int => [(2, .rp P.cells 0), (3, .rp [legL legs] 0), (9, .v (.int .i64 s.2)), (29, .v (.int .i64 s.1))]) (fun s => s.1 ≤ N ∧ fuelTo (brkK P legs) 20000 s.1 = some s.2 ∧ 0 ≤ s.2 ∧ s.2 ≤ 20000) (fun s => N - s.1) (0, 0) ⟨Nat.zero_le _, rfl, by simp, by simp⟩ (by simp; rfl) (by simp [Pln.cells, cnrL, stnL, legL]) ?_
  rintro ⟨k, low⟩ ⟨hk, hf, hlo⟩
  simp only at hk hf hlo ⊢
  by_cases hkl : k < N
  · have wk := i64_wrap (show -9223372036854775808 ≤ (k : Int) + 1 ∧ _ from by omega)
    have hsucc : fuelTo (brkK P legs) 20000 (k + 1) = if brkK P legs k 0 = true ∧ brkK P legs k 20000 = true then none else if brkK P legs k 0 = true then some (max low (endOf (brkK P legs k) 20000)) else some low := by simp only [fuelTo, hf]; rfl
    have q0 := g0 k
    have q1 := g1 k
    cases c0 : brkK P legs k 0 with
    | false =>
      rw [c0] at q0 hsucc
      simp [Pln.cells, cnrL, stnL, legL, hl0, hl1, hkl, q0]
      refine again_of (k + 1, low) ⟨by simp only; omega, by simpa using hsucc, hlo⟩ (by simp only; omega) ?_
      simp [wk, Pln.cells, cnrL, stnL, legL, hl0, hl1]
    | true =>
      rw [c0] at q0 hsucc
      cases c1 : brkK P legs k 20000 with
      | true =>
        rw [c1] at q1 hsucc
        have hnone := fuelTo_no (k := k + 1) (by simpa using hsucc) (show k + 1 ≤ N by omega)
        rw [hnone] at hfP
        simp [Pln.cells, cnrL, stnL, legL, hl0, hl1, hkl, q0, q1]
        refine answers_of rfl ?_
        rw [hfP]
        simp
      | false =>
        rw [c1] at q1 hsucc
        have hdn : DownB (brkK P legs k) := (hshift k).resolve_left fun hu => by
          have := hu 0 20000 (by omega) c0
          rw [c1] at this; cases this
        have hch := change_spec 103 [] [.rp P.cells 0, .rp [legL legs] 0, .rp [.v (.int .i64 k)] 0] rfl (by simp [plainL, PV.plain, Pln.cells, cnrL, stnL, legL]) (brkK P legs k) hdn c1 fun n h0 h1 => hF1 n ⟨h0, h1⟩ k hkl
        have hend := endOf_spec (p := brkK P legs k) (K := 20000) c1
        simp only [if_true, Bool.false_eq_true, and_false, if_false] at hsucc
        generalize endOf (brkK P legs k) ((20000 : Nat) : Int).toNat = E0 at *
        generalize hE : endOf (brkK P legs k) 20000 = E at *
        simp [Pln.cells, cnrL, stnL, legL, hl0, hl1, hkl, q0, q1]
        refine pop_specF [(10, .undef), (47, .clo (.func 103) [] [.rp P.cells 0, .rp [legL legs] 0, .rp [.v (.int .i64 k)] 0])] ?_ hch rfl false (.inl ?_) (.inl rfl) rfl (by simp) ?_
        · simp [Pln.cells, cnrL, stnL, legL, hl0, hl1]
        · simp [Pln.cells, cnrL, stnL, legL]
        have hmax : (if low < E then E else low) = max low E := by split <;> omega
        simp [hmax]
        refine again_of (k + 1, max low E) ⟨by simp only; omega, hsucc, by simp only; omega⟩ (by simp only; omega) ?_
        simp [wk, Pln.cells, cnrL, stnL, legL, hl0, hl1]
  · obtain rfl : k = N := by omega
    rw [hf] at hfP
    simp only at hfP
    have hfs := first_spec P ⟨low, low⟩ legs k1 (tripOk_fuel k2 ⟨hlo.1, Int.le_refl _, hlo.2⟩)
    unfold firstRes at hfs
    simp only [Spn.cells] at hfs
    simp [Pln.cells, cnrL, stnL, legL, hl0, hl1]
    cases hj : tripP P ⟨low, low⟩ legs with
    | none =>
      rw [hj] at hfs hfP
      simp only at hfs hfP
      refine pop_spec hfs rfl false (.inl (by simp [Pln.cells, cnrL, stnL, legL])) (.inl rfl) rfl (by simp) ?_
      simp
      refine answers_of rfl ?_
      rw [hfP]
      simp
    | some j =>
      rw [hj] at hfs hfP
      simp only at hfs hfP
      refine pop_spec hfs rfl false (.inl (by simp [Pln.cells, cnrL, stnL, legL])) (.inl rfl) rfl (by simp) ?_
      simp
      refine answers_of rfl ?_
      rw [hfP]
      simp
end
section
open Go.Proofs
set_option maxRecDepth 100000
set_option linter.unusedSimpArgs false
set_option maxHeartbeats 32000000
attribute [local irreducible] pwp pops pdraw pop popCall pdCall thenP blockP scopeP pspec Spec answers ppost CallW rend
def knP : Pln := ⟨1000, 100000, 2000, 1900, [⟨1000, 95000⟩, ⟨2000, 190000⟩, ⟨2000, 230000⟩, ⟨1000, 115000⟩], [⟨90, 200⟩, ⟨200, 300⟩], ⟨120, 200⟩, 40, [⟨100, 50⟩, ⟨100, 50⟩]⟩
def knI : List Itm := [⟨0, 70, 90⟩, ⟨1, 100, 140⟩]
def knT : List Leg := [⟨knI, false, 0, ⟨30, 40⟩, ⟨0, 5⟩⟩, ⟨[⟨0, 70, 90⟩], false, 0, ⟨60, 80⟩, ⟨0, 5⟩⟩]
theorem lP_spec : Spec Tryz.prog 31 [] (.agg knP.cells) := by
  refine spec_of mixed Tryz.func31 (by decide) rfl Tryz.results31 Tryz.ntmps31 (by decide) 0 (by simp) ?_
  simp
  refine answers_of (x := .agg [.v (.int .i64 1000), .v (.int .i64 100000), .v (.int .i64 2000), .v (.int .i64 1900), .own 14 0 0 4 false, .own 9 0 0 2 false, .v (.int .i64 120), .v (.int .i64 200), .v (.int .i64 40), .own 6 0 0 2 false]) (by simp) ?_
  simp [knP, Pln.cells, cnrL, stnL]
  refine ⟨lt4 ?_ ?_ ?_ ?_, lt2 ?_ ?_, lt2 ?_ ?_⟩ <;> simp [cnrAt, Cnr.cells, stnAt, Stn.cells]
theorem lT_spec : Spec Tryz.prog 32 [] (legL knT) := by
  have r14 : List.range 14 = [0, 1, 2, 3, 4, 5, 6, 7, 8, 9, 10, 11, 12, 13] := rfl
  refine spec_of mixed Tryz.func32 (by decide) rfl Tryz.results32 Tryz.ntmps32 (by decide) 0 (by simp) ?_
  simp [r14]
  refine answers_of (x := .own 16 0 0 2 false) (by simp) ?_
  simp [knT, knI, legL, r14]
  refine lt2 ?_ ?_
  · simp [legAt, Leg.cells, itmL]
    refine lt2 ?_ ?_ <;> simp [itmAt, Itm.cells]
  · simp [legAt, Leg.cells, itmL, itmAt, Itm.cells]
theorem knP_fit : PlnLen knP := ⟨by simp [knP], by simp [knP], by simp [knP]⟩
theorem knT_fit : LegsLen knT := ⟨by simp [knT], lt2 (by simp [knT, knI, legAt]) (by simp [knT, legAt])⟩
theorem k_fuel : fuelRes knP knT = .tup [.v (.int .i64 160), .v (.int .i64 0)] := by
  have h1 : trippedE knP ⟨0, 0⟩ knT = 0 := by kernel_rfl
  have k4 : tripP knP ⟨160, 160⟩ knT = none := by kernel_rfl
  have k5 : tripP knP ⟨159, 159⟩ knT = some 3 := by kernel_rfl
  have h4 := trip_none.1 k4
  have h5 : ¬ sureT knP ⟨159, 159⟩ knT := fun h => by
    rw [trip_none.2 h] at k5
    cases k5
  have h := fuel_law knP knT
  rw [fuelRes, if_pos h1]
  cases hf : fuelP knP knT with
  | none => rw [hf] at h; exact (h 160 (by omega) (by omega) h4).elim
  | some n =>
    rw [hf] at h
    obtain ⟨g1, g2, g3⟩ := h
    have a : ¬ 160 < n := fun hl => g3 160 (by omega) hl h4
    have b : ¬ n < 160 := fun hl => h5 (fuel_span knP knT (by omega) (by omega) g2 h4)
    obtain rfl : n = 160 := by omega
    rfl
end
end Go.Qg

namespace Go.Qg
structure Rop where
  x : Int
  y : Int
  s : Int
deriving Inhabited
def dotR (u : Int × Int) (r : Rop) : Int := u.1 * r.x + u.2 * r.y
def crossP (u v : Int × Int) : Int := u.1 * v.2 - u.2 * v.1
def pullR : List Rop → Int × Int → Int
  | [], _ => 0
  | r :: l, u => r.s * max 0 (dotR u r) + pullR l u
def leftR (l : List Rop) (f : Int × Int) (u : Int × Int) : Int := pullR l u + (u.1 * f.1 + u.2 * f.2)
def sameR (u v : Int × Int) (r : Rop) : Prop := (0 ≤ dotR u r ∧ 0 ≤ dotR v r) ∨ (dotR u r ≤ 0 ∧ dotR v r ≤ 0)
theorem cross_comb (u v d : Int × Int) (r : Rop) : crossP u v * dotR d r = crossP d v * dotR u r + crossP u d * dotR v r := by
  unfold crossP dotR
  grind
theorem cross_force (u v d f : Int × Int) : crossP u v * (d.1 * f.1 + d.2 * f.2) = crossP d v * (u.1 * f.1 + u.2 * f.2) + crossP u d * (v.1 * f.1 + v.2 * f.2) := by
  unfold crossP
  grind
theorem max_comb {A B C p q z : Int} (hA : 0 ≤ A) (hB : 0 ≤ B) (hC : 0 < C) (h : C * z = A * p + B * q) (hs : (0 ≤ p ∧ 0 ≤ q) ∨ (p ≤ 0 ∧ q ≤ 0)) : C * max 0 z = A * max 0 p + B * max 0 q := by
  rcases hs with ⟨h1, h2⟩ | ⟨h1, h2⟩
  · have h3 : 0 ≤ A * p := Int.mul_nonneg hA h1
    have h4 : 0 ≤ B * q := Int.mul_nonneg hB h2
    have h5 : 0 ≤ z := by
      rcases Int.lt_or_le z 0 with hz | hz
      · have := Int.mul_neg_of_pos_of_neg hC hz
        omega
      · exact hz
    rw [Int.max_eq_right h5, Int.max_eq_right h1, Int.max_eq_right h2, h]
  · have h3 : A * p ≤ 0 := Int.mul_nonpos_of_nonneg_of_nonpos hA h1
    have h4 : B * q ≤ 0 := Int.mul_nonpos_of_nonneg_of_nonpos hB h2
    have h5 : z ≤ 0 := by
      rcases Int.lt_or_le 0 z with hz | hz
      · have := Int.mul_pos hC hz
        omega
      · exact hz
    rw [Int.max_eq_left h5, Int.max_eq_left h1, Int.max_eq_left h2]
    simp
theorem pull_comb {A B C : Int} {u v d : Int × Int} (hA : 0 ≤ A) (hB : 0 ≤ B) (hC : 0 < C) : ∀ l : List Rop, (∀ r ∈ l, C * dotR d r = A * dotR u r + B * dotR v r) → (∀ r ∈ l, sameR u v r) → C * pullR l d = A * pullR l u + B * pullR l v
  | [], _, _ => by simp [pullR]
  | r :: l, h, hs => by
    have ih := pull_comb hA hB hC l (fun q hq => h q (List.mem_cons_of_mem _ hq)) (fun q hq => hs q (List.mem_cons_of_mem _ hq))
    have h1 := max_comb hA hB hC (h r List.mem_cons_self) (hs r List.mem_cons_self)
    simp only [pullR]
    generalize max 0 (dotR d r) = m0 at *
    generalize max 0 (dotR u r) = m1 at *
    generalize max 0 (dotR v r) = m2 at *
    grind
theorem left_lin {l : List Rop} {f u v d : Int × Int} (hC : 0 < crossP u v) (hA : 0 ≤ crossP d v) (hB : 0 ≤ crossP u d) (hs : ∀ r ∈ l, sameR u v r) (hu : 0 ≤ leftR l f u) (hv : 0 ≤ leftR l f v) : 0 ≤ leftR l f d := by
  have h1 := pull_comb hA hB hC l (fun r _ => cross_comb u v d r) hs
  have h2 := cross_force u v d f
  have h3 : crossP u v * leftR l f d = crossP d v * leftR l f u + crossP u d * leftR l f v := by
    unfold leftR
    grind
  have h4 := Int.mul_nonneg hA hu
  have h5 := Int.mul_nonneg hB hv
  rcases Int.lt_or_le (leftR l f d) 0 with hz | hz
  · have := Int.mul_neg_of_pos_of_neg hC hz
    omega
  · exact hz
theorem same_left {u v b : Int × Int} {q : Rop} (hC : 0 < crossP u v) (hA : 0 ≤ crossP b v) (hB : 0 ≤ crossP u b) (h : sameR u v q) : sameR u b q ∧ sameR b v q := by
  have e := cross_comb u v b q
  rcases h with ⟨h1, h2⟩ | ⟨h1, h2⟩
  · have h3 := Int.mul_nonneg hA h1
    have h4 := Int.mul_nonneg hB h2
    have h5 : 0 ≤ dotR b q := by
      rcases Int.lt_or_le (dotR b q) 0 with hz | hz
      · have := Int.mul_neg_of_pos_of_neg hC hz
        omega
      · exact hz
    exact ⟨.inl ⟨h1, h5⟩, .inl ⟨h5, h2⟩⟩
  · have h3 := Int.mul_nonpos_of_nonneg_of_nonpos hA h1
    have h4 := Int.mul_nonpos_of_nonneg_of_nonpos hB h2
    have h5 : dotR b q ≤ 0 := by
      rcases Int.lt_or_le 0 (dotR b q) with hz | hz
      · have := Int.mul_pos hC hz
        omega
      · exact hz
    exact ⟨.inr ⟨h1, h5⟩, .inr ⟨h5, h2⟩⟩
theorem left_cone {all : List Rop} {f : Int × Int} (hD : ∀ r ∈ all, 0 ≤ leftR all f (-r.y, r.x) ∧ 0 ≤ leftR all f (r.y, -r.x)) :
    ∀ (l : List Rop), (∀ r ∈ l, r ∈ all) → ∀ u v : Int × Int, 0 ≤ leftR all f u → 0 ≤ leftR all f v → 0 < crossP u v → (∀ r ∈ all, r ∈ l ∨ sameR u v r) → ∀ d, 0 ≤ crossP u d → 0 ≤ crossP d v → 0 ≤ leftR all f d
  | [], _, u, v, hu, hv, hC, hs, d, hB, hA => left_lin hC hA hB (fun r hr => (hs r hr).resolve_left (by simp)) hu hv
  | r :: l, hl, u, v, hu, hv, hC, hs, d, hB, hA => by
    have hl' : ∀ q ∈ l, q ∈ all := fun q hq => hl q (List.mem_cons_of_mem _ hq)
    have hr : r ∈ all := hl r List.mem_cons_self
    have step : ∀ b : Int × Int, 0 ≤ leftR all f b → dotR b r = 0 → 0 < crossP u b → 0 < crossP b v → 0 ≤ leftR all f d := fun b hb hz h1 h2 => by
      have hs1 : ∀ q ∈ all, q ∈ l ∨ (sameR u b q ∧ sameR b v q) := fun q hq => by
        rcases hs q hq with h | h
        · rcases List.mem_cons.1 h with rfl | h
          · refine .inr ⟨?_, ?_⟩
            · unfold sameR; omega
            · unfold sameR; omega
          · exact .inl h
        · exact .inr (same_left hC (by omega) (by omega) h)
      rcases Int.lt_or_le (crossP d b) 0 with hz2 | hz2
      · refine left_cone hD l hl' b v hb hv h2 (fun q hq => (hs1 q hq).imp_right (·.2)) d ?_ hA
        unfold crossP at *
        grind
      · exact left_cone hD l hl' u b hu hb h1 (fun q hq => (hs1 q hq).imp_right (·.1)) d hB hz2
    rcases Int.lt_or_le 0 (dotR u r) with p1 | p1
    · rcases Int.lt_or_le (dotR v r) 0 with p2 | p2
      · refine step (-r.y, r.x) (hD r hr).1 ?_ ?_ ?_
        · unfold dotR; grind
        · unfold dotR crossP at *; grind
        · unfold dotR crossP at *; grind
      · exact left_cone hD l hl' u v hu hv hC (fun q hq => by
          rcases hs q hq with h | h
          · rcases List.mem_cons.1 h with rfl | h
            · exact .inr (.inl ⟨by omega, p2⟩)
            · exact .inl h
          · exact .inr h) d hB hA
    · rcases Int.lt_or_le 0 (dotR v r) with p2 | p2
      · rcases Int.lt_or_le (dotR u r) 0 with p3 | p3
        · refine step (r.y, -r.x) (hD r hr).2 ?_ ?_ ?_
          · unfold dotR; grind
          · unfold dotR crossP at *; grind
          · unfold dotR crossP at *; grind
        · exact left_cone hD l hl' u v hu hv hC (fun q hq => by
            rcases hs q hq with h | h
            · rcases List.mem_cons.1 h with rfl | h
              · exact .inr (.inl ⟨p3, by omega⟩)
              · exact .inl h
            · exact .inr h) d hB hA
      · exact left_cone hD l hl' u v hu hv hC (fun q hq => by
          rcases hs q hq with h | h
          · rcases List.mem_cons.1 h with rfl | h
            · exact .inr (.inr ⟨p1, p2⟩)
            · exact .inl h
          · exact .inr h) d hB hA
theorem left_all {all : List Rop} {f : Int × Int} (hD : ∀ r ∈ all, 0 ≤ leftR all f (-r.y, r.x) ∧ 0 ≤ leftR all f (r.y, -r.x)) (h1 : 0 ≤ leftR all f (1, 0)) (h2 : 0 ≤ leftR all f (-1, 0)) (h3 : 0 ≤ leftR all f (0, 1)) (h4 : 0 ≤ leftR all f (0, -1)) (d : Int × Int) : 0 ≤ leftR all f d := by
  have go := left_cone hD all (fun _ h => h)
  have ha : ∀ u v : Int × Int, ∀ r ∈ all, r ∈ all ∨ sameR u v r := fun _ _ _ h => .inl h
  obtain ⟨x, y⟩ := d
  rcases Int.lt_or_le x 0 with hx | hx <;> rcases Int.lt_or_le y 0 with hy | hy
  · exact go (-1, 0) (0, -1) h2 h4 (by decide) (ha _ _) _ (by simp [crossP]; omega) (by simp [crossP]; omega)
  · exact go (0, 1) (-1, 0) h3 h2 (by decide) (ha _ _) _ (by simp [crossP]; omega) (by simp [crossP]; omega)
  · exact go (0, -1) (1, 0) h4 h1 (by decide) (ha _ _) _ (by simp [crossP]; omega) (by simp [crossP]; omega)
  · exact go (1, 0) (0, 1) h1 h3 (by decide) (ha _ _) _ (by simp [crossP]; omega) (by simp [crossP]; omega)
theorem left_box {all : List Rop} {xl xh yl yh : Int} (h : ∀ f ∈ [(xl, yl), (xl, yh), (xh, yl), (xh, yh)], ∀ d, 0 ≤ leftR all f d) {f : Int × Int} (hx : xl ≤ f.1 ∧ f.1 ≤ xh) (hy : yl ≤ f.2 ∧ f.2 ≤ yh) (d : Int × Int) : 0 ≤ leftR all f d := by
  have key : ∀ t a b c : Int, a ≤ b → b ≤ c → t * a ≤ t * b ∨ t * c ≤ t * b := fun t a b c h1 h2 => by
    rcases Int.lt_or_le t 0 with ht | ht
    · exact .inr (Int.mul_le_mul_of_nonpos_left (by omega) h2)
    · exact .inl (Int.mul_le_mul_of_nonneg_left h1 ht)
  have c1 := h (xl, yl) (by simp) d
  have c2 := h (xl, yh) (by simp) d
  have c3 := h (xh, yl) (by simp) d
  have c4 := h (xh, yh) (by simp) d
  unfold leftR at *
  rcases key d.1 xl f.1 xh hx.1 hx.2 with k1 | k1 <;> rcases key d.2 yl f.2 yh hy.1 hy.2 with k2 | k2 <;> simp only at * <;> omega
end Go.Qg

namespace Go.Qg
structure Rdg where
  minute : Int
  low : Int
  high : Int
  source : Int
deriving Inhabited
structure Gge where
  rate : Int
  least : Int
  most : Int
  readings : List Rdg
deriving Inhabited
def farI (a b : Int) : Int := max (a - b) (b - a)
def atLo (g : Gge) (t : Int) : Int := g.readings.foldl (fun m r => max m (r.low - g.rate * farI r.minute t)) g.least
def atHi (g : Gge) (t : Int) : Int := g.readings.foldl (fun m r => min m (r.high + g.rate * farI r.minute t)) g.most
theorem foldl_max_le {α : Type} {f : α → Int} {x : Int} : ∀ (l : List α) (m : Int), m ≤ x → (∀ r ∈ l, f r ≤ x) → l.foldl (fun a r => max a (f r)) m ≤ x
  | [], _, h0, _ => h0
  | r :: l, m, h0, h => by
    have h1 := h r List.mem_cons_self
    exact foldl_max_le l _ (show max m (f r) ≤ x by omega) fun q hq => h q (List.mem_cons_of_mem _ hq)
theorem le_foldl_min {α : Type} {f : α → Int} {x : Int} : ∀ (l : List α) (m : Int), x ≤ m → (∀ r ∈ l, x ≤ f r) → x ≤ l.foldl (fun a r => min a (f r)) m
  | [], _, h0, _ => h0
  | r :: l, m, h0, h => by
    have h1 := h r List.mem_cons_self
    exact le_foldl_min l _ (show x ≤ min m (f r) by omega) fun q hq => h q (List.mem_cons_of_mem _ hq)
theorem le_foldl_max {α : Type} {f : α → Int} : ∀ (l : List α) (m : Int), m ≤ l.foldl (fun a r => max a (f r)) m
  | [], _ => Int.le_refl _
  | r :: l, m => by
    have := le_foldl_max (f := f) l (max m (f r))
    simp only [List.foldl_cons]
    omega
theorem foldl_min_le {α : Type} {f : α → Int} : ∀ (l : List α) (m : Int), l.foldl (fun a r => min a (f r)) m ≤ m
  | [], _ => Int.le_refl _
  | r :: l, m => by
    have := foldl_min_le (f := f) l (min m (f r))
    simp only [List.foldl_cons]
    omega
theorem atLo_ge (g : Gge) (t : Int) : g.least ≤ atLo g t := le_foldl_max _ _
theorem atHi_le (g : Gge) (t : Int) : atHi g t ≤ g.most := foldl_min_le _ _
structure FitsR (g : Gge) (l : Nat → Int) : Prop where
  bnd : ∀ i, i < 1441 → g.least ≤ l i ∧ l i ≤ g.most
  rate : ∀ i, i + 1 < 1441 → -g.rate ≤ l (i + 1) - l i ∧ l (i + 1) - l i ≤ g.rate
  read : ∀ r ∈ g.readings, r.low ≤ l r.minute.toNat ∧ l r.minute.toNat ≤ r.high
theorem lip {g : Gge} {l : Nat → Int} (h : FitsR g l) (m : Nat) : ∀ k : Nat, m + k < 1441 → -(g.rate * k) ≤ l (m + k) - l m ∧ l (m + k) - l m ≤ g.rate * k
  | 0, _ => by simp
  | k + 1, hk => by
    have ih := lip h m k (by omega)
    have h1 := h.rate (m + k) (by omega)
    have e : g.rate * ((k + 1 : Nat) : Int) = g.rate * k + g.rate := by
      rw [Int.natCast_add, Int.mul_add]; simp
    rw [e, ← Nat.add_assoc]
    omega
theorem lip_far {g : Gge} {l : Nat → Int} (h : FitsR g l) {a b : Nat} (ha : a < 1441) (hb : b < 1441) : l b - g.rate * farI b a ≤ l a ∧ l a ≤ l b + g.rate * farI b a := by
  rcases Nat.le_total a b with hab | hab
  · obtain ⟨k, rfl⟩ := Nat.exists_eq_add_of_le hab
    have := lip h a k hb
    have e : farI ((a + k : Nat) : Int) a = k := by unfold farI; omega
    rw [e]
    omega
  · obtain ⟨k, rfl⟩ := Nat.exists_eq_add_of_le hab
    have := lip h b k ha
    have e : farI (b : Int) ((b + k : Nat) : Int) = k := by unfold farI; omega
    rw [e]
    omega
theorem fits_at {g : Gge} {l : Nat → Int} (h : FitsR g l) (hm : ∀ r ∈ g.readings, 0 ≤ r.minute ∧ r.minute ≤ 1440) {t : Nat} (ht : t < 1441) : atLo g t ≤ l t ∧ l t ≤ atHi g t := by
  have key : ∀ r ∈ g.readings, r.low - g.rate * farI r.minute t ≤ l t ∧ l t ≤ r.high + g.rate * farI r.minute t := fun r hr => by
    have h1 := hm r hr
    have h2 := h.read r hr
    have h3 := lip_far h ht (show r.minute.toNat < 1441 by omega)
    rw [show ((r.minute.toNat : Nat) : Int) = r.minute from by omega] at h3
    omega
  exact ⟨foldl_max_le _ _ (h.bnd t ht).1 fun r hr => (key r hr).1, le_foldl_min _ _ (h.bnd t ht).2 fun r hr => (key r hr).2⟩
structure Clear (g : Gge) : Prop where
  one : ∀ i, i < g.readings.length → (g.readings.getD i default).low ≤ g.most ∧ g.least ≤ (g.readings.getD i default).high
  two : ∀ i j, i < j → j < g.readings.length → (g.readings.getD i default).low - (g.readings.getD j default).high ≤ g.rate * farI (g.readings.getD i default).minute (g.readings.getD j default).minute ∧ (g.readings.getD j default).low - (g.readings.getD i default).high ≤ g.rate * farI (g.readings.getD i default).minute (g.readings.getD j default).minute
theorem far_comm (a b : Int) : farI a b = farI b a := by unfold farI; omega
theorem far_tri (a b t : Int) : farI a b ≤ farI a t + farI b t := by unfold farI; omega
theorem far_self (a : Int) : farI a a = 0 := by unfold farI; omega
theorem at_span {g : Gge} (h : Clear g) (h0 : 0 ≤ g.rate) (hg : g.least ≤ g.most) (hs : ∀ r ∈ g.readings, r.low ≤ r.high) (t : Int) : atLo g t ≤ atHi g t := by
  have hfar : ∀ a b : Int, 0 ≤ farI a b := fun a b => by unfold farI; omega
  have pair : ∀ r ∈ g.readings, ∀ s ∈ g.readings, r.low - s.high ≤ g.rate * farI r.minute s.minute := fun r hr s hs' => by
    obtain ⟨i, hi, ei⟩ := List.mem_iff_getElem.1 hr
    obtain ⟨j, hj, ej⟩ := List.mem_iff_getElem.1 hs'
    have gi : g.readings.getD i default = r := by rw [List.getD_eq_getElem?_getD, List.getElem?_eq_getElem hi, ei]; rfl
    have gj : g.readings.getD j default = s := by rw [List.getD_eq_getElem?_getD, List.getElem?_eq_getElem hj, ej]; rfl
    rcases Nat.lt_trichotomy i j with hij | hij | hij
    · have := (h.two i j hij hj).1
      rwa [gi, gj] at this
    · subst hij
      obtain rfl : r = s := gi.symm.trans gj
      have h1 := hs r hr
      rw [far_self]
      omega
    · have := (h.two j i hij hi).2
      rw [gi, gj, far_comm] at this
      exact this
  have one : ∀ r ∈ g.readings, r.low ≤ g.most ∧ g.least ≤ r.high := fun r hr => by
    obtain ⟨i, hi, ei⟩ := List.mem_iff_getElem.1 hr
    have gi : g.readings.getD i default = r := by rw [List.getD_eq_getElem?_getD, List.getElem?_eq_getElem hi, ei]; rfl
    have := h.one i hi
    rwa [gi] at this
  refine le_foldl_min _ _ ?_ fun s hs' => ?_
  · refine foldl_max_le _ _ hg fun r hr => ?_
    have h1 := (one r hr).1
    have h2 := Int.mul_nonneg h0 (hfar r.minute t)
    omega
  · refine foldl_max_le _ _ ?_ fun r hr => ?_
    · have h1 := (one s hs').2
      have h2 := Int.mul_nonneg h0 (hfar s.minute t)
      omega
    · have h1 := pair r hr s hs'
      have h2 := Int.mul_le_mul_of_nonneg_left (far_tri r.minute s.minute t) h0
      rw [Int.mul_add] at h2
      omega
end Go.Qg

namespace Go.Qg
def longN (good : Nat → Bool) : Nat → Nat
  | 0 => 0
  | k + 1 => if good k then longN good k + 1 else 0
def runP (cells : Nat) (good : Nat → Bool) : Nat → Option Nat
  | 0 => none
  | n + 1 => match runP cells good n with
    | some o => some o
    | none => if longN good (n + 1) = cells then some (n + 1 - cells) else none
def runI (cells : Nat) (good : Nat → Bool) (n : Nat) : Int := match runP cells good n with
  | some o => o
  | none => -1
theorem longN_le (good : Nat → Bool) : ∀ k, longN good k ≤ k
  | 0 => Nat.le_refl _
  | k + 1 => by
    have := longN_le good k
    unfold longN
    split <;> omega
theorem longN_good {good : Nat → Bool} : ∀ {k i : Nat}, k - longN good k ≤ i → i < k → good i = true
  | k + 1, i, h1, h2 => by
    by_cases hg : good k
    · unfold longN at h1
      rw [if_pos hg] at h1
      by_cases hi : i = k
      · subst hi; exact hg
      · exact longN_good (k := k) (by omega) (by omega)
    · unfold longN at h1
      rw [if_neg hg] at h1
      omega
theorem longN_ge {good : Nat → Bool} : ∀ {k o : Nat}, o ≤ k → (∀ i, o ≤ i → i < k → good i = true) → k - o ≤ longN good k
  | 0, o, _, _ => by omega
  | k + 1, o, h1, h2 => by
    by_cases ho : o = k + 1
    · omega
    · have ih := longN_ge (good := good) (k := k) (o := o) (by omega) fun i h3 h4 => h2 i h3 (by omega)
      unfold longN
      rw [if_pos (h2 k (by omega) (by omega))]
      omega
theorem runP_some {cells : Nat} {good : Nat → Bool} (hc : 1 ≤ cells) : ∀ {n o : Nat}, runP cells good n = some o → o + cells ≤ n ∧ ∀ i, o ≤ i → i < o + cells → good i = true
  | n + 1, o, h => by
    unfold runP at h
    split at h
    · rename_i o' ho
      cases h
      have := runP_some hc ho
      exact ⟨by omega, this.2⟩
    · split at h
      · rename_i hl
        simp only [Option.some.injEq] at h
        have hle := longN_le good (n + 1)
        exact ⟨by omega, fun i h1 h2 => longN_good (k := n + 1) (by omega) (by omega)⟩
      · cases h
theorem runP_none {cells : Nat} {good : Nat → Bool} (hc : 1 ≤ cells) : ∀ {n : Nat}, runP cells good n = none → longN good n < cells ∧ ∀ o, o + cells ≤ n → ∃ i, o ≤ i ∧ i < o + cells ∧ good i = false
  | 0, _ => ⟨by unfold longN; omega, fun o h => by omega⟩
  | n + 1, h => by
    unfold runP at h
    split at h
    · cases h
    · rename_i hn
      split at h
      · cases h
      · rename_i hl
        have ih := runP_none hc hn
        have hlt : longN good (n + 1) < cells := by
          have : longN good (n + 1) ≤ longN good n + 1 := by
            rw [show longN good (n + 1) = if good n then longN good n + 1 else 0 from rfl]
            split <;> omega
          omega
        refine ⟨hlt, fun o ho => ?_⟩
        by_cases he : o + cells = n + 1
        · apply Classical.byContradiction
          intro hno
          have hall : ∀ i, o ≤ i → i < n + 1 → good i = true := fun i h1 h2 => by
            cases hg : good i with
            | true => rfl
            | false => exact (hno ⟨i, h1, by omega, hg⟩).elim
          have := longN_ge (k := n + 1) (o := o) (by omega) hall
          omega
        · exact ih.2 o (by omega)
theorem runP_first {cells : Nat} {good : Nat → Bool} (hc : 1 ≤ cells) : ∀ {n o : Nat}, runP cells good n = some o → ∀ q, q < o → ∃ i, q ≤ i ∧ i < q + cells ∧ good i = false
  | n + 1, o, h, q, hq => by
    unfold runP at h
    split at h
    · rename_i o' ho
      cases h
      exact runP_first hc ho q hq
    · rename_i hn
      split at h
      · rename_i hl
        simp only [Option.some.injEq] at h
        have hle := longN_le good (n + 1)
        exact (runP_none hc hn).2 q (by omega)
      · cases h
theorem runI_mono {cells : Nat} {good good' : Nat → Bool} {n : Nat} (hc : 1 ≤ cells) (hg : ∀ k, k < n → good k = true → good' k = true) (h : 0 ≤ runI cells good n) : 0 ≤ runI cells good' n := by
  unfold runI at *
  cases h1 : runP cells good n with
  | none => rw [h1] at h; simp at h
  | some o =>
    have h2 := runP_some hc h1
    cases h3 : runP cells good' n with
    | some q => simp
    | none =>
      obtain ⟨i, i1, i2, i3⟩ := (runP_none hc h3).2 o h2.1
      rw [hg i (by omega) (h2.2 i i1 i2)] at i3
      cases i3
theorem runI_ge (cells : Nat) (good : Nat → Bool) (n : Nat) : -1 ≤ runI cells good n := by
  unfold runI; split <;> omega
theorem runI_le {cells : Nat} {good : Nat → Bool} {n : Nat} (hc : 1 ≤ cells) : runI cells good n + cells ≤ n ∨ runI cells good n = -1 := by
  unfold runI
  split
  · rename_i o h
    have := (runP_some hc h).1
    omega
  · exact .inr rfl
theorem runI_eq {cells : Nat} {good : Nat → Bool} {n : Nat} (hc : 1 ≤ cells) {o : Nat} (h1 : o + cells ≤ n) (h2 : ∀ i, o ≤ i → i < o + cells → good i = true) (h3 : ∀ q, q < o → ∃ i, q ≤ i ∧ i < q + cells ∧ good i = false) : runI cells good n = o := by
  unfold runI
  cases h : runP cells good n with
  | none =>
    obtain ⟨i, i1, i2, i3⟩ := (runP_none hc h).2 o h1
    rw [h2 i i1 i2] at i3
    cases i3
  | some p =>
    have h4 := runP_some hc h
    have h5 := runP_first hc h
    rcases Nat.lt_trichotomy o p with hlt | rfl | hlt
    · obtain ⟨i, i1, i2, i3⟩ := h5 o hlt
      rw [h2 i i1 i2] at i3
      cases i3
    · rfl
    · obtain ⟨i, i1, i2, i3⟩ := h3 p hlt
      rw [h4.2 i i1 i2] at i3
      cases i3
theorem runI_none {cells : Nat} {good : Nat → Bool} {n : Nat} (hc : 1 ≤ cells) (h : ∀ o, o + cells ≤ n → ∃ i, o ≤ i ∧ i < o + cells ∧ good i = false) : runI cells good n = -1 := by
  unfold runI
  cases hr : runP cells good n with
  | none => rfl
  | some p =>
    have h4 := runP_some hc hr
    obtain ⟨i, i1, i2, i3⟩ := h p h4.1
    rw [h4.2 i i1 i2] at i3
    cases i3
theorem longN_congr {good good' : Nat → Bool} : ∀ {n : Nat}, (∀ k, k < n → good k = good' k) → longN good n = longN good' n
  | 0, _ => rfl
  | n + 1, h => by
    unfold longN
    rw [h n (by omega), longN_congr fun k hk => h k (by omega)]
theorem runP_congr {cells : Nat} {good good' : Nat → Bool} : ∀ {n : Nat}, (∀ k, k < n → good k = good' k) → runP cells good n = runP cells good' n
  | 0, _ => rfl
  | n + 1, h => by
    unfold runP
    rw [runP_congr (good' := good') fun k hk => h k (by omega), longN_congr h]
theorem runI_congr {cells : Nat} {good good' : Nat → Bool} {n : Nat} (h : ∀ k, k < n → good k = good' k) : runI cells good n = runI cells good' n := by
  unfold runI
  rw [runP_congr h]
def stepX (w : Int) : Int := if w = 2 ∨ w = 3 ∨ w = 4 then 1 else if w = 6 ∨ w = 7 ∨ w = 8 then -1 else 0
def stepY (w : Int) : Int := if w = 1 ∨ w = 2 ∨ w = 8 then 1 else if w = 4 ∨ w = 5 ∨ w = 6 then -1 else 0
def acrossI (w e n : Int) : Int := e * stepY w - n * stepX w
def alongI (w e n : Int) : Int := e * stepX w + n * stepY w
def lengthI (w : Int) : Int := stepX w * stepX w + stepY w * stepY w
def calmB (w cross tail e n : Int) : Bool := decide (acrossI w e n * acrossI w e n ≤ lengthI w * cross * cross) && (decide (alongI w e n ≤ 0) || decide (alongI w e n * alongI w e n ≤ lengthI w * tail * tail))
theorem step_cases (w : Int) : (stepX w = 0 ∨ stepX w = 1 ∨ stepX w = -1) ∧ (stepY w = 0 ∨ stepY w = 1 ∨ stepY w = -1) := by
  unfold stepX stepY
  constructor
  · split
    · exact .inr (.inl rfl)
    · split
      · exact .inr (.inr rfl)
      · exact .inl rfl
  · split
    · exact .inr (.inl rfl)
    · split
      · exact .inr (.inr rfl)
      · exact .inl rfl
theorem sq_mid {a l h K : Int} (h1 : l ≤ a) (h2 : a ≤ h) (h3 : l * l ≤ K) (h4 : h * h ≤ K) : a * a ≤ K := by
  rcases Int.le_total 0 a with ha | ha
  · have := Int.mul_le_mul h2 h2 ha (show 0 ≤ h by omega)
    omega
  · have := Int.mul_le_mul (show -a ≤ -l by omega) (show -a ≤ -l by omega) (show 0 ≤ -a by omega) (show 0 ≤ -l by omega)
    rw [Int.neg_mul_neg, Int.neg_mul_neg] at this
    omega
theorem sq_up {a h K : Int} (h2 : a ≤ h) (h3 : h ≤ 0 ∨ h * h ≤ K) : a ≤ 0 ∨ a * a ≤ K := by
  rcases Int.le_total a 0 with ha | ha
  · exact .inl ha
  · rcases h3 with h3 | h3
    · exact .inl (by omega)
    · have := Int.mul_le_mul h2 h2 ha (show 0 ≤ h by omega)
      exact .inr (by omega)
theorem calm_iff {w c t e n : Int} : calmB w c t e n = true ↔ acrossI w e n * acrossI w e n ≤ lengthI w * c * c ∧ (alongI w e n ≤ 0 ∨ alongI w e n * alongI w e n ≤ lengthI w * t * t) := by
  simp [calmB]
theorem calm_mid {w c t el eh nl nh e n : Int} (h1 : calmB w c t el nl = true) (h2 : calmB w c t el nh = true) (h3 : calmB w c t eh nl = true) (h4 : calmB w c t eh nh = true)
    (e1 : el ≤ e) (e2 : e ≤ eh) (n1 : nl ≤ n) (n2 : n ≤ nh) : calmB w c t e n = true := by
  rw [calm_iff] at *
  generalize lengthI w * c * c = K at *
  generalize lengthI w * t * t = M at *
  unfold acrossI alongI at *
  obtain ⟨hx, hy⟩ := step_cases w
  generalize stepX w = x at *
  generalize stepY w = y at *
  rcases hx with rfl | rfl | rfl <;> rcases hy with rfl | rfl | rfl
  · refine ⟨sq_mid ?_ ?_ h2.1 h3.1, sq_up ?_ h4.2⟩ <;> omega
  · refine ⟨sq_mid ?_ ?_ h2.1 h3.1, sq_up ?_ h4.2⟩ <;> omega
  · refine ⟨sq_mid ?_ ?_ h4.1 h1.1, sq_up ?_ h3.2⟩ <;> omega
  · refine ⟨sq_mid ?_ ?_ h2.1 h3.1, sq_up ?_ h4.2⟩ <;> omega
  · refine ⟨sq_mid ?_ ?_ h2.1 h3.1, sq_up ?_ h4.2⟩ <;> omega
  · refine ⟨sq_mid ?_ ?_ h4.1 h1.1, sq_up ?_ h3.2⟩ <;> omega
  · refine ⟨sq_mid ?_ ?_ h1.1 h4.1, sq_up ?_ h2.2⟩ <;> omega
  · refine ⟨sq_mid ?_ ?_ h1.1 h4.1, sq_up ?_ h2.2⟩ <;> omega
  · refine ⟨sq_mid ?_ ?_ h3.1 h2.1, sq_up ?_ h1.2⟩ <;> omega
end Go.Qg

namespace Go.Qg
open Go.Proofs
set_option maxRecDepth 100000
set_option maxHeartbeats 4000000
def rdgAt (l : List Rdg) (i : Nat) : Rdg := l.getD i default
def Rdg.cells (b : Rdg) : List PV := [.v (.int .i64 b.minute), .v (.int .i64 b.low), .v (.int .i64 b.high), .v (.int .i64 b.source)]
def rdgL (l : List Rdg) : PV := .sl 4 l.length fun i => (rdgAt l i).cells
theorem rdgAt_mem {l : List Rdg} {i : Nat} (h : i < l.length) : rdgAt l i ∈ l := by simp [rdgAt, h]
def Gge.cells (b : Gge) : List PV := [.v (.int .i64 b.rate), .v (.int .i64 b.least), .v (.int .i64 b.most), rdgL b.readings]
structure Boa where
  x : Spn
  y : Spn
  times : Spn
  sure : Bool
  deriving Inhabited
structure Gla where
  way : Int
  times : Spn
  deriving Inhabited
def boaAt (l : List Boa) (i : Nat) : Boa := l.getD i default
def Boa.cells (b : Boa) : List PV := [.v (.int .i64 b.x.low), .v (.int .i64 b.x.high), .v (.int .i64 b.y.low), .v (.int .i64 b.y.high), .v (.int .i64 b.times.low), .v (.int .i64 b.times.high), .v (.bool b.sure)]
def boaL (l : List Boa) : PV := .sl 7 l.length fun i => (boaAt l i).cells
theorem boaAt_mem {l : List Boa} {i : Nat} (h : i < l.length) : boaAt l i ∈ l := by simp [boaAt, h]
def glaAt (l : List Gla) (i : Nat) : Gla := l.getD i default
def Gla.cells (b : Gla) : List PV := [.v (.int .i64 b.way), .v (.int .i64 b.times.low), .v (.int .i64 b.times.high)]
def glaL (l : List Gla) : PV := .sl 3 l.length fun i => (glaAt l i).cells
theorem glaAt_mem {l : List Gla} {i : Nat} (h : i < l.length) : glaAt l i ∈ l := by simp [glaAt, h]
structure SeaD where
  wide : Int
  deep : Int
  depths : List Spn
  tide : Gge
  east : Gge
  north : Gge
  wave : Gge
  swell : Gge
  boats : List Boa
  glares : List Gla
  deriving Inhabited
structure Stp where
  x : Int
  y : Int
  way : Int
  cells_ : Int
  deriving Inhabited
structure Ned where
  draught : Int
  run : Int
  cross : Int
  tail : Int
  calm : Int
  wave : Int
  swell : Int
  deriving Inhabited
structure Tru where
  minute : Int
  tide : Int
  east : Int
  north : Int
  wave : Int
  swell : Int
  depths : List Int
  boats : List Bool
  deriving Inhabited
def wthC (tide east north wave swell : Gge) : List PV := [.v (.int .i64 tide.rate), .v (.int .i64 tide.least), .v (.int .i64 tide.most), rdgL tide.readings, .v (.int .i64 east.rate), .v (.int .i64 east.least), .v (.int .i64 east.most), rdgL east.readings, .v (.int .i64 north.rate), .v (.int .i64 north.least), .v (.int .i64 north.most), rdgL north.readings, .v (.int .i64 wave.rate), .v (.int .i64 wave.least), .v (.int .i64 wave.most), rdgL wave.readings, .v (.int .i64 swell.rate), .v (.int .i64 swell.least), .v (.int .i64 swell.most), rdgL swell.readings]
def SeaD.cells (s : SeaD) : List PV := [.v (.int .i64 s.wide), .v (.int .i64 s.deep), spnL s.depths, .v (.int .i64 s.tide.rate), .v (.int .i64 s.tide.least), .v (.int .i64 s.tide.most), rdgL s.tide.readings, .v (.int .i64 s.east.rate), .v (.int .i64 s.east.least), .v (.int .i64 s.east.most), rdgL s.east.readings, .v (.int .i64 s.north.rate), .v (.int .i64 s.north.least), .v (.int .i64 s.north.most), rdgL s.north.readings, .v (.int .i64 s.wave.rate), .v (.int .i64 s.wave.least), .v (.int .i64 s.wave.most), rdgL s.wave.readings, .v (.int .i64 s.swell.rate), .v (.int .i64 s.swell.least), .v (.int .i64 s.swell.most), rdgL s.swell.readings, boaL s.boats, glaL s.glares]
def stpAt (l : List Stp) (i : Nat) : Stp := l.getD i default
def Stp.cells (b : Stp) : List PV := [.v (.int .i64 b.x), .v (.int .i64 b.y), .v (.int .i64 b.way), .v (.int .i64 b.cells_)]
def stpL (l : List Stp) : PV := .sl 4 l.length fun i => (stpAt l i).cells
theorem stpAt_mem {l : List Stp} {i : Nat} (h : i < l.length) : stpAt l i ∈ l := by simp [stpAt, h]
def Ned.cells (b : Ned) : List PV := [.v (.int .i64 b.draught), .v (.int .i64 b.run), .v (.int .i64 b.cross), .v (.int .i64 b.tail), .v (.int .i64 b.calm), .v (.int .i64 b.wave), .v (.int .i64 b.swell)]
def Tru.cells (b : Tru) : List PV := [.v (.int .i64 b.minute), .v (.int .i64 b.tide), .v (.int .i64 b.east), .v (.int .i64 b.north), .v (.int .i64 b.wave), .v (.int .i64 b.swell), ints b.depths, bools b.boats]
def lookC (s : SeaD) (p : Stp) (n : Ned) (m : Int) : List PV := [.v (.int .i64 s.wide), .v (.int .i64 s.deep), spnL s.depths, .v (.int .i64 s.tide.rate), .v (.int .i64 s.tide.least), .v (.int .i64 s.tide.most), rdgL s.tide.readings, .v (.int .i64 s.east.rate), .v (.int .i64 s.east.least), .v (.int .i64 s.east.most), rdgL s.east.readings, .v (.int .i64 s.north.rate), .v (.int .i64 s.north.least), .v (.int .i64 s.north.most), rdgL s.north.readings, .v (.int .i64 s.wave.rate), .v (.int .i64 s.wave.least), .v (.int .i64 s.wave.most), rdgL s.wave.readings, .v (.int .i64 s.swell.rate), .v (.int .i64 s.swell.least), .v (.int .i64 s.swell.most), rdgL s.swell.readings, boaL s.boats, glaL s.glares, .v (.int .i64 p.x), .v (.int .i64 p.y), .v (.int .i64 p.way), .v (.int .i64 p.cells_), .v (.int .i64 n.draught), .v (.int .i64 n.run), .v (.int .i64 n.cross), .v (.int .i64 n.tail), .v (.int .i64 n.calm), .v (.int .i64 n.wave), .v (.int .i64 n.swell), .v (.int .i64 m)]
structure Hst where
  windows : List Spn
  turn : Int
  deriving Inhabited
structure Chn where
  stops : List Hst
  legs : List Spn
  deriving Inhabited
def hstAt (l : List Hst) (i : Nat) : Hst := l.getD i default
def Hst.cells (b : Hst) : List PV := [spnL b.windows, .v (.int .i64 b.turn)]
def hstL (l : List Hst) : PV := .sl 2 l.length fun i => (hstAt l i).cells
theorem hstAt_mem {l : List Hst} {i : Nat} (h : i < l.length) : hstAt l i ∈ l := by simp [hstAt, h]
def Chn.cells (b : Chn) : List PV := [hstL b.stops, spnL b.legs]
def ropAt (l : List Rop) (i : Nat) : Rop := l.getD i default
def Rop.cells (b : Rop) : List PV := [.v (.int .i64 b.x), .v (.int .i64 b.y), .v (.int .i64 b.s)]
def ropL (l : List Rop) : PV := .sl 3 l.length fun i => (ropAt l i).cells
theorem ropAt_mem {l : List Rop} {i : Nat} (h : i < l.length) : ropAt l i ∈ l := by simp [ropAt, h]
end Go.Qg

namespace Go.Qg
open Go.Proofs
set_option maxRecDepth 100000
set_option maxHeartbeats 32000000
set_option linter.unusedSimpArgs false
def rowB (f : Nat → Bool) : List PV := (List.range 1441).map fun t => .v (.bool (f t))
@[simp] theorem rowB_length (f : Nat → Bool) : (rowB f).length = 1441 := by simp [rowB]
theorem rowB_get {f : Nat → Bool} {t : Nat} (h : t < 1441) : (rowB f)[t]? = some (.v (.bool (f t))) := by simp [rowB, h]
@[simp] theorem rowB_getElem {f : Nat → Bool} {t : Nat} (h : t < (rowB f).length) : (rowB f)[t] = .v (.bool (f t)) := by simp [rowB]
@[simp] theorem rowB_take (f : Nat → Bool) : (rowB f).take 1441 = rowB f := List.take_of_length_le (by simp)
def updB (f : Nat → Bool) (t : Nat) (b : Bool) (u : Nat) : Bool := if u = t then b else f u
@[simp] theorem rowB_set (f : Nat → Bool) (t : Nat) (b : Bool) : (rowB f).set t (.v (.bool b)) = rowB (updB f t b) := by
  refine List.ext_getElem? fun i => ?_
  by_cases hi : i < 1441
  · rw [rowB_get hi, List.getElem?_set]
    by_cases h : t = i
    · subst h; simp [hi, updB]
    · rw [if_neg h, rowB_get hi, updB, if_neg (fun e => h e.symm)]
  · rw [List.getElem?_eq_none (by simp; omega), List.getElem?_eq_none (by simp; omega)]
theorem mem_rowB {f : Nat → Bool} {p : PV} (h : p ∈ rowB f) : ∃ b, p = .v (.bool b) := by
  obtain ⟨t, _, rfl⟩ := List.mem_map.1 h
  exact ⟨_, rfl⟩
@[simp] theorem rowB_one (f : Nat → Bool) : (rowB f).all (·.one) = true := by
  rw [List.all_eq_true]
  intro p hp
  obtain ⟨b, rfl⟩ := mem_rowB hp
  rfl
theorem plainL_of {l : List PV} (h : ∀ p ∈ l, p.plain = true) : plainL l = true := by
  induction l with
  | nil => rfl
  | cons x l ih => simp only [plainL, h x List.mem_cons_self, ih fun p hp => h p (List.mem_cons_of_mem _ hp), Bool.and_self]
theorem rowB_plain (f : Nat → Bool) : plainL (rowB f) = true := plainL_of fun p hp => by
  obtain ⟨b, rfl⟩ := mem_rowB hp
  rfl
theorem flatL_of {l : List PV} (h : ∀ p ∈ l, p.flat = true) : flatL l = true := by
  induction l with
  | nil => rfl
  | cons x l ih => simp only [flatL, h x List.mem_cons_self, ih fun p hp => h p (List.mem_cons_of_mem _ hp), Bool.and_self]
@[simp] theorem flatL_rowB (f : Nat → Bool) : flatL (rowB f) = true := flatL_of fun p hp => by
  obtain ⟨b, rfl⟩ := mem_rowB hp
  rfl
@[simp] theorem namesL_rowB (f : Nat → Bool) : namesL (rowB f) = [] := plainL_names (rowB_plain f)
@[simp] theorem renL_rowB (π : Nat → Nat) (f : Nat → Bool) : renL π (rowB f) = rowB f := renL_plain (rowB_plain f)
@[simp] theorem vwAll_rowB (F : PF) (T : Tgt) (d : Nat) (f : Nat → Bool) : vwAll (vw F T d) (rowB f) (rowB f) = True := propext ⟨fun _ => trivial, fun _ => vwAll_plain (rowB_plain f)⟩
@[simp] theorem rowB_allfree (f : Nat → Bool) : (rowB f).all (fun q => q.one && q.free) = true := by
  rw [List.all_eq_true]
  intro p hp
  obtain ⟨b, rfl⟩ := mem_rowB hp
  rfl
@[simp] theorem rowB_onefree {f : Nat → Bool} : (∀ x : PV, x ∈ rowB f → x.one = true ∧ x.names = []) ↔ True := ⟨fun _ => trivial, fun _ p hp => by
  obtain ⟨b, rfl⟩ := mem_rowB hp
  exact ⟨rfl, rfl⟩⟩
@[simp] theorem rowB_ones {f : Nat → Bool} : (∀ x : PV, x ∈ rowB f → x.one = true) ↔ True := ⟨fun _ => trivial, fun _ p hp => by
  obtain ⟨b, rfl⟩ := mem_rowB hp
  rfl⟩
@[simp] theorem setRange_rowB (f g : Nat → Bool) : setRange (rowB f) 0 (rowB g) = rowB g := by
  refine List.ext_getElem? fun i => ?_
  rw [setRange_get (rowB g) (rowB f) 0 i (by simp)]
  by_cases hi : i < 1441
  · rw [if_pos ⟨Nat.zero_le _, by simpa using hi⟩]; rfl
  · rw [if_neg (by simp; omega), List.getElem?_eq_none (by simp; omega), List.getElem?_eq_none (by simp; omega)]
theorem rowB_part {f : Nat → Bool} {t : Nat} (h : t < 1441) : ((rowB f).drop t).take 1 = [.v (.bool (f t))] := by
  rw [List.drop_eq_getElem_cons (by simpa using h)]
  simp
theorem rowB_congr {f g : Nat → Bool} (h : ∀ t, t < 1441 → f t = g t) : rowB f = rowB g := by
  unfold rowB
  exact List.map_congr_left fun t ht => by rw [h t (List.mem_range.1 ht)]
theorem mem_rowB' {f : Nat → Bool} {p : PV} (h : p ∈ rowB f) : ∃ b, p = .v (.bool b) := mem_rowB h
attribute [irreducible] rowB
attribute [local irreducible] pwp pops pdraw pop popCall pdCall thenP blockP scopeP pspec Spec answers ppost CallW rend
theorem hin_spec (n lo hi : Int) : Spec Tryz.prog 94 [.v (.int .i64 n), .v (.int .i64 lo), .v (.int .i64 hi)] (.v (.bool (inB n lo hi))) := by
  refine spec_of mixed Tryz.func94 (by decide) rfl Tryz.results94 Tryz.ntmps94 (by decide) 0 (by simp) ?_
  by_cases h1 : lo ≤ n
  · by_cases h2 : n ≤ hi <;> (simp [h1, h2]; refine answers_of rfl ?_; simp [inB, h1, h2])
  · simp [h1]; refine answers_of rfl ?_; simp [inB, h1]
theorem hspan_spec (s : Spn) (hi : Int) : Spec Tryz.prog 169 [.agg s.cells, .v (.int .i64 hi)] (.v (.bool (spanB s 0 hi))) := by
  refine spec_of mixed Tryz.func169 (by decide) rfl Tryz.results169 Tryz.ntmps169 (by decide) 0 (by simp) ?_
  simp [Spn.cells]
  by_cases h1 : 0 ≤ s.low
  · by_cases h2 : s.low ≤ s.high
    · by_cases h3 : s.high ≤ hi <;> (simp [h1, h2, h3]; refine answers_of rfl ?_; simp [spanB, h1, h2, h3])
    · simp [h1, h2, Int.not_le.1 h2]
      refine answers_of rfl ?_; simp [spanB, h1, h2]
  · simp [h1, Int.not_le.1 h1]; refine answers_of rfl ?_; simp [spanB, h1]
theorem hopAllSpn_spec (l : List Spn) (hl : l.length ≤ 9223372036854775807) (f : FuncId) (first cap : List PV) (h1 : plainL first = true) (h2 : plainL cap = true) (p : Nat → Bool)
    (h : ∀ k, k < l.length → (∀ j, j < k → p j = true) → Spec Tryz.prog f (first ++ ([.v (.int .i64 k), .agg (spnAt l k).cells] ++ cap)) (.v (.bool (p k)))) : Spec Tryz.prog 167 [spnL l, .clo (.func f) first cap] (.v (.bool (allN l.length p))) := by
  refine spec_of mixed Tryz.func167 (by decide) rfl Tryz.results167 Tryz.ntmps167 (by decide) 0 (by simp) ?_
  simp [spnL, Spn.cells, renL_plain h1, renL_plain h2]
  refine pwp_loop (fun k : Nat => [(9, .v (.int .i64 k))]) (fun k => k ≤ l.length ∧ ∀ j, j < k → p j = true) (fun k => l.length - k) 0 ⟨Nat.zero_le _, fun j hj => by omega⟩ (by simp; rfl) (by simp [vwAll_plain h1, vwAll_plain h2]) ?_
  intro k ⟨hk, hp⟩
  by_cases hkl : k < l.length
  · simp [hkl, spnL, Spn.cells]
    refine pop_spec (h k hkl hp) rfl false (.inr ⟨by simp [spnL, Spn.cells], by simp [namesL_append, plainL_names h1, plainL_names h2, spnL, Spn.cells]⟩) (.inl rfl) rfl (by simp) ?_
    cases hpk : p k with
    | true =>
      simp
      refine again_of (k + 1) ⟨by omega, fun j hj => ?_⟩ (by omega) ?_
      · rcases Nat.lt_succ_iff_lt_or_eq.1 hj with hj | rfl
        · exact hp j hj
        · exact hpk
      · simp [i64_wrap (show -9223372036854775808 ≤ (k : Int) + 1 ∧ _ from by omega), vwAll_plain h1, vwAll_plain h2]
    | false =>
      simp
      refine answers_of rfl ?_; simp [allN_false hkl hpk]
  · simp [hkl]
    obtain rfl : k = l.length := by omega
    refine answers_of rfl ?_; simp [allN_spec.2 hp]
theorem hopAllHst_spec (l : List Hst) (hl : l.length ≤ 9223372036854775807) (f : FuncId) (first cap : List PV) (h1 : plainL first = true) (h2 : plainL cap = true) (p : Nat → Bool)
    (h : ∀ k, k < l.length → (∀ j, j < k → p j = true) → Spec Tryz.prog f (first ++ ([.v (.int .i64 k), .agg (hstAt l k).cells] ++ cap)) (.v (.bool (p k)))) : Spec Tryz.prog 165 [hstL l, .clo (.func f) first cap] (.v (.bool (allN l.length p))) := by
  refine spec_of mixed Tryz.func165 (by decide) rfl Tryz.results165 Tryz.ntmps165 (by decide) 0 (by simp) ?_
  simp [hstL, Hst.cells, spnL, renL_plain h1, renL_plain h2]
  refine pwp_loop (fun k : Nat => [(9, .v (.int .i64 k))]) (fun k => k ≤ l.length ∧ ∀ j, j < k → p j = true) (fun k => l.length - k) 0 ⟨Nat.zero_le _, fun j hj => by omega⟩ (by simp; rfl) (by simp [vwAll_plain h1, vwAll_plain h2]) ?_
  intro k ⟨hk, hp⟩
  by_cases hkl : k < l.length
  · simp [hkl, hstL, Hst.cells, spnL]
    refine pop_spec (h k hkl hp) rfl false (.inr ⟨by simp [hstL, Hst.cells, spnL], by simp [namesL_append, plainL_names h1, plainL_names h2, hstL, Hst.cells, spnL]⟩) (.inl rfl) rfl (by simp) ?_
    cases hpk : p k with
    | true =>
      simp
      refine again_of (k + 1) ⟨by omega, fun j hj => ?_⟩ (by omega) ?_
      · rcases Nat.lt_succ_iff_lt_or_eq.1 hj with hj | rfl
        · exact hp j hj
        · exact hpk
      · simp [i64_wrap (show -9223372036854775808 ≤ (k : Int) + 1 ∧ _ from by omega), vwAll_plain h1, vwAll_plain h2]
    | false =>
      simp
      refine answers_of rfl ?_; simp [allN_false hkl hpk]
  · simp [hkl]
    obtain rfl : k = l.length := by omega
    refine answers_of rfl ?_; simp [allN_spec.2 hp]
def wndB (ws : List Spn) (k : Nat) : Bool := spanB (spnAt ws k) 0 1440 && (decide (k = 0) || decide ((spnAt ws (k - 1)).high + 1 < (spnAt ws k).low))
theorem chained11_spec (s : Hst) (k : Nat) (hk : k < s.windows.length) (hl : s.windows.length ≤ 10) (hp : ∀ j, j < k → wndB s.windows j = true) : Spec Tryz.prog 168 [.v (.int .i64 k), .agg (spnAt s.windows k).cells, .rp s.cells 0] (.v (.bool (wndB s.windows k))) := by
  refine spec_of mixed Tryz.func168 (by decide) rfl Tryz.results168 Tryz.ntmps168 (by decide) 0 (by simp) ?_
  simp [Spn.cells, Hst.cells, spnL]
  refine pwp_draw 19 (by decide) ?_
  simp
  refine pd_spec (hspan_spec (spnAt s.windows k) 1440) (by simp [Spn.cells]) (by simp) (by simp [Spn.cells]) rfl ?_
  cases h1 : spanB (spnAt s.windows k) 0 1440 with
  | false =>
    simp
    refine ⟨by decide, ?_⟩
    refine answers_of rfl ?_; simp [wndB, h1]
  | true =>
  by_cases h0 : k = 0
  · subst h0
    simp
    refine ⟨by decide, ?_⟩
    refine answers_of rfl ?_; simp [wndB, h1]
  · have hb := hp (k - 1) (by omega)
    simp only [wndB, Bool.and_eq_true, spanB_spec] at hb
    have e1 : ((k : Int) - 1).toNat = k - 1 := by omega
    have w1 := i64_wrap (show -9223372036854775808 ≤ (k : Int) - 1 ∧ _ from by omega)
    have w2 := i64_wrap (show -9223372036854775808 ≤ (spnAt s.windows (k - 1)).high + 1 ∧ _ from by omega)
    by_cases h2 : (spnAt s.windows (k - 1)).high + 1 < (spnAt s.windows k).low
    · simp [h0, w1, e1, show (1 : Int) ≤ k from by omega, show (k : Int) - 1 < s.windows.length from by omega, show k - 1 < s.windows.length from by omega, show (0 : Int) ≤ (k : Int) - 1 from by omega, Spn.cells, w2, h2]
      refine ⟨by decide, ?_⟩
      refine answers_of rfl ?_; simp [wndB, h1, h0, h2]
    · simp [h0, w1, e1, show (1 : Int) ≤ k from by omega, show (k : Int) - 1 < s.windows.length from by omega, show k - 1 < s.windows.length from by omega, show (0 : Int) ≤ (k : Int) - 1 from by omega, Spn.cells, w2, h2]
      refine ⟨by decide, ?_⟩
      refine answers_of rfl ?_; simp [wndB, h1, h0, h2]
def hstB (s : Hst) : Bool := decide (s.windows.length ≤ 10) && inB s.turn 0 300 && allN s.windows.length (wndB s.windows)
theorem chained1_spec (k : Int) (s : Hst) (hl : s.windows.length ≤ 9223372036854775807) : Spec Tryz.prog 166 [.v (.int .i64 k), .agg s.cells] (.v (.bool (hstB s))) := by
  refine spec_of mixed Tryz.func166 (by decide) rfl Tryz.results166 Tryz.ntmps166 (by decide) 0 (by simp) ?_
  simp [Hst.cells, spnL]
  by_cases h1 : s.windows.length ≤ 10
  · simp [show (s.windows.length : Int) ≤ 10 from by omega]
    refine pop_spec (hin_spec s.turn 0 300) rfl false (.inl (by simp)) (.inl rfl) rfl (by simp) ?_
    cases h2 : inB s.turn 0 300 with
    | false => simp; refine answers_of rfl ?_; simp [hstB, h2]
    | true =>
    simp
    refine pop_specF [(3, .rp s.cells 0), (5, .undef), (10, .undef), (15, .undef), (17, .clo (.func 168) [] [.rp s.cells 0])] ?_ (hopAllSpn_spec s.windows hl 168 [] [.rp s.cells 0] rfl (by rfl) (wndB s.windows) fun j hj hp => chained11_spec s j hj h1 hp) rfl false (.inl (by simp [spnL])) (.inl rfl) rfl (by simp) ?_
    · simp [Hst.cells, spnL]
    simp
    refine answers_of rfl ?_; simp [hstB, h1, h2]
  · simp [show ¬ (s.windows.length : Int) ≤ 10 from by omega, show ¬ s.windows.length ≤ 10 from h1, show (10 : Int) < s.windows.length from by omega]
    refine answers_of rfl ?_; simp [hstB, h1]
theorem chained2_spec (k : Int) (s : Spn) : Spec Tryz.prog 170 [.v (.int .i64 k), .agg s.cells] (.v (.bool (spanB s 0 300))) := by
  refine spec_of mixed Tryz.func170 (by decide) rfl Tryz.results170 Tryz.ntmps170 (by decide) 0 (by simp) ?_
  simp [Spn.cells]
  refine pop_spec (hspan_spec s 300) rfl false (.inl (by simp [Spn.cells])) (.inl rfl) rfl (by simp) ?_
  simp
  refine answers_of rfl ?_; simp
def chainB (c : Chn) : Bool := inB c.stops.length 2 8 && decide ((c.legs.length : Int) = c.stops.length - 1) && allN c.stops.length (fun k => hstB (hstAt c.stops k)) && allN c.legs.length (fun k => spanB (spnAt c.legs k) 0 300)
def ChnMem (c : Chn) : Prop := c.stops.length ≤ 9223372036854775807 ∧ c.legs.length ≤ 9223372036854775807 ∧ ∀ k, k < c.stops.length → (hstAt c.stops k).windows.length ≤ 9223372036854775807
theorem chained_spec (c : Chn) (hc : ChnMem c) : Spec Tryz.prog 93 [.agg c.cells] (.v (.bool (chainB c))) := by
  obtain ⟨m1, m2, m3⟩ := hc
  refine spec_of mixed Tryz.func93 (by decide) rfl Tryz.results93 Tryz.ntmps93 (by decide) 0 (by simp) ?_
  simp [Chn.cells, hstL, spnL]
  refine pop_spec (hopAllHst_spec c.stops m1 166 [] [] rfl rfl (fun k => hstB (hstAt c.stops k)) fun k hk _ => chained1_spec k (hstAt c.stops k) (m3 k hk)) rfl false (.inl (by simp [hstL])) (.inl rfl) rfl (by simp) ?_
  simp
  refine pop_spec (hopAllSpn_spec c.legs m2 170 [] [] rfl rfl (fun k => spanB (spnAt c.legs k) 0 300) fun k hk _ => chained2_spec k (spnAt c.legs k)) rfl false (.inl (by simp [spnL])) (.inl rfl) rfl (by simp) ?_
  simp
  refine pop_spec (hin_spec c.stops.length 2 8) rfl false (.inl (by simp)) (.inl rfl) rfl (by simp) ?_
  cases h1 : inB c.stops.length 2 8 with
  | false => simp; refine answers_of rfl ?_; simp [chainB, h1]
  | true =>
  have g1 := inB_spec.1 h1
  have w1 := i64_wrap (show -9223372036854775808 ≤ (c.stops.length : Int) - 1 ∧ _ from by omega)
  by_cases h2 : (c.legs.length : Int) = c.stops.length - 1
  · simp [w1, h2]
    cases h3 : allN c.stops.length (fun k => hstB (hstAt c.stops k)) <;> (simp; refine answers_of rfl ?_; simp [chainB, h1, h2, h3])
  · simp [w1, h2]
    refine answers_of rfl ?_; simp [chainB, h1, h2]
structure ChnOk (c : Chn) : Prop where
  n : 2 ≤ c.stops.length ∧ c.stops.length ≤ 8
  legs : c.legs.length + 1 = c.stops.length
  leg : ∀ k, k < c.legs.length → 0 ≤ (spnAt c.legs k).low ∧ (spnAt c.legs k).low ≤ (spnAt c.legs k).high ∧ (spnAt c.legs k).high ≤ 300
  turn : ∀ k, k < c.stops.length → 0 ≤ (hstAt c.stops k).turn ∧ (hstAt c.stops k).turn ≤ 300
  wn : ∀ k, k < c.stops.length → (hstAt c.stops k).windows.length ≤ 10
theorem chainB_ok {c : Chn} (h : chainB c = true) : ChnOk c := by
  simp only [chainB, Bool.and_eq_true, inB_spec, decide_eq_true_eq, allN_spec, spanB_spec, hstB] at h
  obtain ⟨⟨⟨h1, h2⟩, h3⟩, h4⟩ := h
  exact ⟨by omega, by omega, h4, fun k hk => (h3 k hk).1.2, fun k hk => (h3 k hk).1.1⟩
def openB (ws : List Spn) (t : Int) : Bool := !(allN ws.length fun k => !(inB t (spnAt ws k).low (spnAt ws k).high))
theorem open_spec (s : Hst) (t : Int) (hl : s.windows.length ≤ 9223372036854775806) : Spec Tryz.prog 171 [.agg s.cells, .v (.int .i64 t)] (.v (.bool (openB s.windows t))) := by
  refine spec_of mixed Tryz.func171 (by decide) rfl Tryz.results171 Tryz.ntmps171 (by decide) 0 (by simp) ?_
  simp [Hst.cells, spnL]
  refine pwp_loop (fun k : Nat => [(10, .v (.int .i64 k))]) (fun k => k ≤ s.windows.length ∧ ∀ j, j < k → (!(inB t (spnAt s.windows j).low (spnAt s.windows j).high)) = true) (fun k => s.windows.length - k) 0 ⟨Nat.zero_le _, fun j hj => by omega⟩ (by simp; rfl) (by simp) ?_
  intro k ⟨hk, hp⟩
  by_cases hkl : k < s.windows.length
  · simp [hkl, Spn.cells]
    refine pop_spec (hin_spec t (spnAt s.windows k).low (spnAt s.windows k).high) rfl false (.inl (by simp)) (.inl rfl) rfl (by simp) ?_
    cases h1 : inB t (spnAt s.windows k).low (spnAt s.windows k).high with
    | true =>
      simp
      refine answers_of rfl ?_
      rw [openB, allN_false hkl (by simp [h1])]
      simp
    | false =>
      simp
      refine again_of (k + 1) ⟨by omega, fun j hj => ?_⟩ (by omega) ?_
      · rcases Nat.lt_succ_iff_lt_or_eq.1 hj with hj | rfl
        · simpa using hp j hj
        · simp [h1]
      · simp [i64_wrap (show -9223372036854775808 ≤ (k : Int) + 1 ∧ _ from by omega)]
  · obtain rfl : k = s.windows.length := by omega
    simp
    refine answers_of rfl ?_
    rw [openB, allN_spec.2 hp]
    simp
def fromN (f : Nat → Bool) : Nat → Nat → Int
  | 0, _ => -1
  | n + 1, t => if f t then t else fromN f n (t + 1)
def fromI (f : Nat → Bool) (t : Int) : Int := fromN f (1441 - (max 0 t).toNat) (max 0 t).toNat
theorem from_spec (f : Nat → Bool) (t0 : Int) (ht : Small 1000000 t0) : Spec Tryz.prog 98 [.rp (rowB f) 0, .v (.int .i64 t0)] (.v (.int .i64 (fromI f t0))) := by
  simp only [Small] at ht
  refine spec_of mixed Tryz.func98 (by decide) rfl Tryz.results98 Tryz.ntmps98 (by decide) 0 (by simp) ?_
  simp
  have em : (if t0 > 0 then t0 else 0) = (((max 0 t0).toNat : Nat) : Int) := by split <;> omega
  have em' : (if 0 < t0 then t0 else 0) = (((max 0 t0).toNat : Nat) : Int) := em
  simp only [em, em']
  generalize hs : (max 0 t0).toNat = s
  have hsl : s ≤ 1000000 := by omega
  refine pwp_loop (fun t : Nat => [(5, .v (.int .i64 t))]) (fun t => t ≤ 1000001 ∧ fromN f (1441 - t) t = fromI f t0) (fun t => 1441 - t) s ⟨by omega, by rw [fromI, hs]⟩ (by simp; rfl) (by simp) ?_
  intro t ⟨htl, hf⟩
  by_cases hlt : t < 1441
  · have e : 1441 - t = (1441 - (t + 1)) + 1 := by omega
    rw [e, fromN] at hf
    simp [show (t : Int) < 1441 from by omega, hlt]
    cases hft : f t with
    | true =>
      rw [hft] at hf
      simp
      refine answers_of rfl ?_
      rw [← hf]
      simp
    | false =>
      rw [hft] at hf
      simp
      refine again_of (t + 1) ⟨by omega, by simpa using hf⟩ (by omega) ?_
      simp [i64_wrap (show -9223372036854775808 ≤ (t : Int) + 1 ∧ _ from by omega)]
  · simp [show ¬ (t : Int) < 1441 from by omega, show (1441 : Int) ≤ t from by omega]
    refine answers_of rfl ?_
    rw [← hf, show 1441 - t = 0 from by omega]
    simp [fromN]
end Go.Qg

namespace Go.Qg
open Go.Proofs
set_option maxRecDepth 100000
set_option maxHeartbeats 32000000
set_option linter.unusedSimpArgs false
attribute [local irreducible] pwp pops pdraw pop popCall pdCall thenP blockP scopeP pspec Spec answers ppost CallW rend
def goesB (c : Chn) (f : Nat → Bool) (stop : Nat) (a : Int) : Bool := openB (hstAt c.stops (stop + 1)).windows a && (decide (stop + 1 = c.legs.length) || decide (0 ≤ fromI f (a + (hstAt c.stops (stop + 1)).turn)))
def failN (p : Int → Bool) : Nat → Int → Int
  | 0, _ => -1
  | n + 1, d => if p d then failN p n (d + 1) else d
def failsI (c : Chn) (f : Nat → Bool) (stop : Nat) (minute : Int) : Int := failN (fun d => goesB c f stop (minute + d)) ((spnAt c.legs stop).high - (spnAt c.legs stop).low + 1).toNat (spnAt c.legs stop).low
def knownL (n : Nat) (F : Nat → Nat → Bool) : PV := .sl 1441 n fun i => rowB (F i)
theorem fails1_spec (c : Chn) (hc : ChnOk c) (F : Nat → Nat → Bool) (stop : Nat) (hs : stop < c.legs.length) (a : Int) (ha : Small 100000 a) :
    Spec Tryz.prog 203 [.v (.int .i64 a), .rp c.cells 0, .rp [.v (.int .i64 stop)] 0, .rp [knownL c.legs.length F] 0] (.v (.bool (goesB c (F (stop + 1)) stop a))) := by
  have hl := hc.legs
  have hn := hc.n
  have ht := hc.turn (stop + 1) (by omega)
  have hw := hc.wn (stop + 1) (by omega)
  simp only [Small] at ha
  have w1 := i64_wrap (show -9223372036854775808 ≤ (stop : Int) + 1 ∧ _ from by omega)
  have hsc : (hstAt c.stops (stop + 1)).cells = [.sl 2 (hstAt c.stops (stop + 1)).windows.length fun i => (spnAt (hstAt c.stops (stop + 1)).windows i).cells, .v (.int .i64 (hstAt c.stops (stop + 1)).turn)] := rfl
  have w2 := i64_wrap (show -9223372036854775808 ≤ a + (hstAt c.stops (stop + 1)).turn ∧ _ from by omega)
  refine spec_of mixed Tryz.func203 (by decide) rfl Tryz.results203 Tryz.ntmps203 (by decide) 0 (by simp) ?_
  simp [Chn.cells, hstL, spnL, knownL, w1, show stop + 1 < c.stops.length from by omega, show (stop : Int) + 1 < c.stops.length from by omega, show (0 : Int) ≤ (stop : Int) + 1 from by omega, hsc]
  refine pwp_draw 23 (by decide) ?_
  simp
  refine pd_spec (open_spec (hstAt c.stops (stop + 1)) a (by omega)) (by simp [hsc]) (by simp) (by simp [hsc]) rfl ?_
  cases h1 : openB (hstAt c.stops (stop + 1)).windows a with
  | false =>
    simp
    refine ⟨by decide, ?_⟩
    refine answers_of rfl ?_; simp [goesB, h1]
  | true =>
  by_cases h2 : stop + 1 = c.legs.length
  · have h2' : (stop : Int) + 1 = (c.legs.length : Int) := by omega
    simp (config := { maxSteps := 4000000 }) [w1, eq_true h2']
    refine ⟨by decide, ?_⟩
    refine answers_of rfl ?_; simp [goesB, ← h2, h1]
  · have h2' : ¬ (stop : Int) + 1 = (c.legs.length : Int) := by omega
    simp (config := { maxSteps := 4000000 }) [w1, h2', h2, show stop + 1 < c.legs.length from by omega, show (stop : Int) + 1 < c.legs.length from by omega, show (0 : Int) ≤ (stop : Int) + 1 from by omega, w2]
    refine pd_spec (from_spec (F (stop + 1)) (a + (hstAt c.stops (stop + 1)).turn) (by simp only [Small]; omega)) (by simp [w2]) (by simp) (by simp) rfl ?_
    by_cases h3 : 0 ≤ fromI (F (stop + 1)) (a + (hstAt c.stops (stop + 1)).turn)
    · simp [h3, h2', h2]
      refine ⟨by decide, ?_⟩
      refine answers_of rfl ?_; simp [goesB, h1, h2, h3]
    · simp [h3, h2', h2]
      refine ⟨by decide, ?_⟩
      refine answers_of rfl ?_; simp [goesB, h1, h2, h3]
theorem fails_spec (c : Chn) (hc : ChnOk c) (F : Nat → Nat → Bool) (stop : Nat) (hs : stop < c.legs.length) (m : Int) (hm : Small 10000 m) :
    Spec Tryz.prog 172 [.agg c.cells, knownL c.legs.length F, .v (.int .i64 stop), .v (.int .i64 m)] (.v (.int .i64 (failsI c (F (stop + 1)) stop m))) := by
  have hl := hc.leg stop hs
  simp only [Small] at hm
  have hsc : (spnAt c.legs stop).cells = [.v (.int .i64 (spnAt c.legs stop).low), .v (.int .i64 (spnAt c.legs stop).high)] := rfl
  refine spec_of mixed Tryz.func172 (by decide) rfl Tryz.results172 Tryz.ntmps172 (by decide) 0 (by simp) ?_
  simp [Chn.cells, hstL, spnL, knownL, hs, hsc]
  refine pwp_loop (fun d : Int => [(4, .rp c.cells 0), (5, .rp [knownL c.legs.length F] 0), (6, .rp [.v (.int .i64 stop)] 0), (9, .clo (.func 203) [] [.rp c.cells 0, .rp [.v (.int .i64 stop)] 0, .rp [knownL c.legs.length F] 0]), (10, .v (.int .i64 d)), (11, .undef), (12, .undef), (16, .undef)])
    (fun d => (spnAt c.legs stop).low ≤ d ∧ d ≤ (spnAt c.legs stop).high + 1 ∧ failN (fun d => goesB c (F (stop + 1)) stop (m + d)) ((spnAt c.legs stop).high - d + 1).toNat d = failsI c (F (stop + 1)) stop m) (fun d => ((spnAt c.legs stop).high + 1 - d).toNat) (spnAt c.legs stop).low ⟨by omega, by omega, rfl⟩ (by simp; rfl) (by simp [Chn.cells, hstL, spnL, knownL]) ?_
  intro d ⟨hd1, hd2, hf⟩
  by_cases hdl : d ≤ (spnAt c.legs stop).high
  · have w1 := i64_wrap (show -9223372036854775808 ≤ m + d ∧ _ from by omega)
    have e : ((spnAt c.legs stop).high - d + 1).toNat = ((spnAt c.legs stop).high - (d + 1) + 1).toNat + 1 := by omega
    rw [e, failN] at hf
    simp [Chn.cells, hstL, spnL, hs, hsc, hdl, w1]
    refine pop_spec (fails1_spec c hc F stop hs (m + d) (by simp only [Small]; omega)) rfl false (.inl (by simp [Chn.cells, hstL, spnL, knownL])) (.inl rfl) rfl (by simp) ?_
    cases hg : goesB c (F (stop + 1)) stop (m + d) with
    | true =>
      rw [hg] at hf
      simp
      refine again_of (d + 1) ⟨by omega, by omega, by simpa using hf⟩ (by omega) ?_
      simp [i64_wrap (show -9223372036854775808 ≤ d + 1 ∧ _ from by omega), Chn.cells, hstL, spnL, knownL]
    | false =>
      rw [hg] at hf
      simp
      refine answers_of rfl ?_
      rw [← hf]
      simp
  · simp [Chn.cells, hstL, spnL, hs, hsc, hdl, show ¬ d ≤ (spnAt c.legs stop).high from hdl]
    refine answers_of rfl ?_
    rw [← hf, show ((spnAt c.legs stop).high - d + 1).toNat = 0 from by omega]
    simp [failN]
def goodR (c : Chn) : Nat → Nat → Nat → Bool
  | 0 => fun _ _ => false
  | k + 1 => fun i t => if i = c.legs.length - 1 - k then openB (hstAt c.stops i).windows t && decide (failsI c (goodR c k (i + 1)) i t < 0) else goodR c k i t
def goodT (c : Chn) (k t : Nat) (i u : Nat) : Bool := if i = c.legs.length - 1 - k ∧ u < t then goodR c (k + 1) i u else goodR c k i u
theorem replicate_rowsOf (n : Nat) (z : List PV) : List.replicate n z = rowsOf (fun _ => z) n := by
  refine List.ext_getElem? fun i => ?_
  by_cases h : i < n
  · rw [rowsOf_get h]; simp [h]
  · rw [List.getElem?_eq_none (by simp; omega), List.getElem?_eq_none (by simp; omega)]
theorem rowsOf_set {g : Nat → List PV} {n i : Nat} (x : List PV) : (rowsOf g n).set i x = rowsOf (fun j => if j = i then x else g j) n := by
  refine List.ext_getElem? fun j => ?_
  by_cases h : j < n
  · rw [rowsOf_get h, List.getElem?_set]
    by_cases hj : i = j
    · subst hj; simp [h]
    · rw [if_neg hj, rowsOf_get h, if_neg (fun e => hj e.symm)]
  · rw [List.getElem?_eq_none (by simp; omega), List.getElem?_eq_none (by simp; omega)]
def goodRows (n : Nat) (F : Nat → Nat → Bool) : List (List PV) := rowsOf (fun i => rowB (F i)) n
@[simp] theorem goodRows_length (n : Nat) (F : Nat → Nat → Bool) : (goodRows n F).length = n := by simp [goodRows]
theorem goodRows_get {n : Nat} {F : Nat → Nat → Bool} {i : Nat} (h : i < n) : (goodRows n F)[i]? = some (rowB (F i)) := rowsOf_get h
@[simp] theorem goodRows_getElem {n : Nat} {F : Nat → Nat → Bool} {i : Nat} (h : i < (goodRows n F).length) : (goodRows n F)[i] = rowB (F i) := by simp [goodRows, rowsOf]
@[simp] theorem goodRows_set (n : Nat) (F : Nat → Nat → Bool) (i : Nat) (g : Nat → Bool) : (goodRows n F).set i (rowB g) = goodRows n (fun j => if j = i then g else F j) := by
  rw [goodRows, rowsOf_set, goodRows]
  congr 1
  funext j
  split <;> rfl
@[simp] theorem goodRows_take (n : Nat) (F : Nat → Nat → Bool) : (goodRows n F).take n = goodRows n F := by simp [goodRows]
@[simp] theorem namesLL_goodRows (n : Nat) (F : Nat → Nat → Bool) : namesLL (goodRows n F) = [] := by
  have key : ∀ l : List (List PV), (∀ x ∈ l, namesL x = []) → namesLL l = [] := by
    intro l
    induction l with
    | nil => intro _; rfl
    | cons x l ih => intro h; simp only [namesLL, h x List.mem_cons_self, ih fun y hy => h y (List.mem_cons_of_mem _ hy), List.nil_append]
  refine key _ fun x hx => ?_
  obtain ⟨i, _, rfl⟩ := rowsOf_mem.1 hx
  exact namesL_rowB _
@[simp] theorem vwAllL_goodRows (f : PF) (T : Tgt) (d n : Nat) (F : Nat → Nat → Bool) : vo.vwAllL f T d (goodRows n F) (goodRows n F) = True := by
  rw [goodRows, vwAllL_rowsOf]
  simp
@[simp] theorem goodRows_allone (n : Nat) (F : Nat → Nat → Bool) : ((goodRows n F).all fun r => r.all (·.one)) = true := by
  rw [List.all_eq_true]
  intro x hx
  obtain ⟨i, _, rfl⟩ := rowsOf_mem.1 hx
  exact rowB_one _
theorem goodRows_replicate (n : Nat) (f : Nat → Bool) : List.replicate n (rowB f) = goodRows n (fun _ => f) := replicate_rowsOf _ _
@[simp] theorem goodRows_one {n : Nat} {F : Nat → Nat → Bool} : (∀ (x : List PV), x ∈ goodRows n F → ∀ (y : PV), y ∈ x → y.one = true) ↔ True := by
  refine ⟨fun _ => trivial, fun _ x hx y hy => ?_⟩
  obtain ⟨i, _, rfl⟩ := rowsOf_mem.1 hx
  obtain ⟨b, rfl⟩ := mem_rowB' hy
  rfl
@[simp] theorem goodRows_len1 {n : Nat} {F : Nat → Nat → Bool} : (∀ (x : List PV), x ∈ goodRows n F → x.length = 1441) ↔ True := by
  refine ⟨fun _ => trivial, fun _ x hx => ?_⟩
  obtain ⟨i, _, rfl⟩ := rowsOf_mem.1 hx
  simp
theorem tsz_min : tsz Tryz.prog 176 = some 1441 := by kernel_rfl
theorem tzero_min : tzero Tryz.prog 176 = some (rowB fun _ => false) := by
  unfold rowB
  kernel_rfl
theorem goodT_zero (c : Chn) (k : Nat) : goodT c k 0 = goodR c k := by
  funext i u; simp [goodT]
theorem goodT_end (c : Chn) (k : Nat) (hk : k < c.legs.length) : goodRows c.legs.length (goodT c k 1441) = goodRows c.legs.length (goodR c (k + 1)) := by
  unfold goodRows
  refine rowsOf_congr fun i hi => rowB_congr fun u hu => ?_
  by_cases h : i = c.legs.length - 1 - k
  · simp [goodT, h, hu]
  · simp [goodT, h, goodR]
theorem goodT_succ (c : Chn) (k t i : Nat) (hi : i = c.legs.length - 1 - k) : (fun j => if j = i then updB (goodT c k t i) t (openB (hstAt c.stops i).windows t && decide (failsI c (goodR c k (i + 1)) i t < 0)) else goodT c k t j) = goodT c k (t + 1) := by
  funext j u
  by_cases hj : j = i
  · subst hj
    show (if j = j then updB (goodT c k t j) t (openB (hstAt c.stops j).windows t && decide (failsI c (goodR c k (j + 1)) j t < 0)) else goodT c k t j) u = _
    rw [if_pos rfl, updB]
    rcases Nat.lt_trichotomy u t with h | h | h
    · rw [if_neg (show ¬ u = t by omega)]
      unfold goodT
      rw [if_pos ⟨hi, h⟩, if_pos ⟨hi, by omega⟩]
    · subst h
      rw [if_pos rfl]
      unfold goodT
      rw [if_pos ⟨hi, by omega⟩]
      simp only [goodR]
      rw [if_pos hi]
    · rw [if_neg (show ¬ u = t by omega)]
      unfold goodT
      rw [if_neg (fun h' => by have := h'.2; omega), if_neg (fun h' => by have := h'.2; omega)]
  · show (if j = i then _ else goodT c k t j) u = _
    rw [if_neg hj]
    unfold goodT
    rw [if_neg (fun h => hj (h.1.trans hi.symm)), if_neg (fun h => hj (h.1.trans hi.symm))]
theorem goodT_next (c : Chn) (k t i : Nat) (hi : i = c.legs.length - 1 - k) : goodT c k t (i + 1) = goodR c k (i + 1) := by
  funext u
  simp [goodT, show ¬ i + 1 = c.legs.length - 1 - k from by omega]
theorem good_spec (c : Chn) (hc : ChnOk c) : Spec Tryz.prog 97 [.agg c.cells] (knownL c.legs.length (goodR c c.legs.length)) := by
  have hn := hc.n
  have hlg := hc.legs
  have w0 := i64_wrap (show -9223372036854775808 ≤ (c.legs.length : Int) - 1 ∧ _ from by omega)
  refine spec_of mixed Tryz.func97 (by decide) rfl Tryz.results97 Tryz.ntmps97 (by decide) 0 (by simp) ?_
  simp [Chn.cells, hstL, spnL, tsz_min, tzero_min, show 1441 * (c.legs.length : Int) ≤ 281474976710656 from by omega, show (c.legs.length : Int) ≤ 9223372036854775807 from by omega, goodRows_replicate]
  refine pwp_loop (fun s : Nat => [(1, .rp c.cells 0), (4, .v (.int .i64 ((s : Int) - 1))), (6, .undef), (10, .undef), (9, .rows (some (0, c.legs.length)) 0 176 1441 (goodRows c.legs.length (goodR c (c.legs.length - s))))]) (fun s => s ≤ c.legs.length) (fun s => s) c.legs.length (Nat.le_refl _) (by simp; rfl) ?_ ?_
  · simp [Chn.cells, hstL, spnL, w0, goodR]
  intro s hs
  cases s with
  | zero =>
    simp
    refine answers_of rfl ?_
    simp [knownL]
    intro k hk
    simp [goodRows_get hk]
  | succ i =>
    have ei : ((i + 1 : Nat) : Int) - 1 = (i : Int) := by omega
    have wi := i64_wrap (show -9223372036854775808 ≤ (i : Int) - 1 ∧ _ from by omega)
    have hil : i < c.legs.length := by omega
    have hks : c.legs.length - (i + 1) + 1 = c.legs.length - i := by omega
    generalize hk : c.legs.length - (i + 1) = k at *
    have hik : i = c.legs.length - 1 - k := by omega
    simp only [ei]
    simp
    refine pwp_loop (fun t : Nat => [(18, .v (.int .i64 t)), (9, .rows (some (0, c.legs.length)) 0 176 1441 (goodRows c.legs.length (goodT c k t)))]) (fun t => t ≤ 1441) (fun t => 1441 - t) 0 (Nat.zero_le _) (by simp; rfl) ?_ ?_
    · simp [goodT_zero]
    intro t ht
    by_cases htl : t < 1441
    · have wt := i64_wrap (show -9223372036854775808 ≤ (t : Int) + 1 ∧ _ from by omega)
      have ti : (t : Int) < 1441 := by omega
      have hsc : (hstAt c.stops i).cells = [.sl 2 (hstAt c.stops i).windows.length fun j => (spnAt (hstAt c.stops i).windows j).cells, .v (.int .i64 (hstAt c.stops i).turn)] := rfl
      have hw := hc.wn i (by omega)
      have es := goodT_succ c k t i hik
      simp [show (t : Int) < 1441 from by omega]
      refine pwp_draw 20 (by decide) ?_
      simp [Chn.cells, hstL, spnL, show i < c.stops.length from by omega, hsc]
      refine pd_spec (open_spec (hstAt c.stops i) t (by omega)) (by simp [hsc]) (by simp) (by simp [hsc]) rfl ?_
      cases ho : openB (hstAt c.stops i).windows t with
      | false =>
        rw [ho] at es
        simp only [Bool.false_and] at es
        simp [hil, htl, ti, show t ≤ 1440 from by omega, goodRows_get hil]
        refine ⟨by decide, ?_⟩
        refine again_of (t + 1) (by omega) (by omega) ?_
        simp [wt, es]
      | true =>
        rw [ho] at es
        simp only [Bool.true_and] at es
        simp [Chn.cells, hstL, spnL]
        refine pd_specM (fails_spec c hc (goodT c k t) i hil t (by simp only [Small]; omega)) rfl (by simp) ?_ rfl rfl ?_
        · intro g hg
          have h9 := hg (.tmp 33) (by simp) 9 (by simp [deref])
          simp at h9
          refine ⟨vw_plain (by simp [PV.plain, plainL, Chn.cells, hstL, spnL]), vw_own_local h9 (by simp) (fun j hj => ⟨by simp [goodRows_get hj, List.getD], rowB_plain _, rowB_allfree _⟩), by simp, by simp, trivial⟩
        rw [goodT_next c k t i hik]
        by_cases hf : failsI c (goodR c k (i + 1)) i t < 0
        · simp only [hf, decide_true] at es
          simp [hil, htl, ti, show t ≤ 1440 from by omega, goodRows_get hil, hf, show ¬ 0 ≤ failsI c (goodR c k (i + 1)) i t from by omega]
          refine ⟨by decide, ?_⟩
          refine again_of (t + 1) (by omega) (by omega) ?_
          simp [wt, es]
        · simp only [hf, decide_false] at es
          simp [hil, htl, ti, show t ≤ 1440 from by omega, goodRows_get hil, hf, show 0 ≤ failsI c (goodR c k (i + 1)) i t from by omega]
          refine ⟨by decide, ?_⟩
          refine again_of (t + 1) (by omega) (by omega) ?_
          simp [wt, es]
    · obtain rfl : t = 1441 := by omega
      rw [goodT_end c k (by omega), hks]
      simp
      refine again_of i (by omega) (by omega) ?_
      simp [wi]
def lastS (l : List Spn) : Spn := spnAt l (l.length - 1)
def spansP (f : Nat → Bool) : Nat → List Spn
  | 0 => []
  | k + 1 => if f k = true then (if 0 < (spansP f k).length ∧ (lastS (spansP f k)).high = (k : Int) - 1 then (spansP f k).set ((spansP f k).length - 1) ⟨(lastS (spansP f k)).low, k⟩ else spansP f k ++ [⟨k, k⟩]) else spansP f k
theorem spansP_length (f : Nat → Bool) : ∀ k, (spansP f k).length ≤ k
  | 0 => Nat.le_refl _
  | k + 1 => by
    have := spansP_length f k
    unfold spansP
    split
    · split <;> simp <;> omega
    · omega
theorem spans_spec (f : Nat → Bool) (n : Nat) (hn : n ≤ 1441) : Spec Tryz.prog 105 [.sl 1 n fun i => [.v (.bool (f i))]] (spnL (spansP f n)) := by
  refine spec_of mixed Tryz.func105 (by decide) rfl Tryz.results105 Tryz.ntmps105 (by decide) 1 (by simp) ?_
  simp
  refine pwp_loop (fun k : Nat => [(3, .own 47 (spansP f k).length 0 (spansP f k).length false), (8, .v (.int .i64 k)), (47, .rows none (spansP f k).length 37 2 (rowsSp (spansP f k)))]) (fun k => k ≤ n) (fun k => n - k) 0 (Nat.zero_le _) (by simp; rfl) (by simp [spansP]) ?_
  intro k hk
  have hl := spansP_length f k
  by_cases hkl : k < n
  · have wk := i64_wrap (show -9223372036854775808 ≤ (k : Int) + 1 ∧ _ from by omega)
    have wk1 := i64_wrap (show -9223372036854775808 ≤ (k : Int) - 1 ∧ _ from by omega)
    cases hf : f k with
    | false =>
      have e : spansP f (k + 1) = spansP f k := by simp [spansP, hf]
      simp [show (k : Int) < n from by omega, hkl, hf]
      refine again_of (k + 1) (by omega) (by omega) ?_
      simp [wk, e]
    | true =>
      by_cases h0 : spansP f k = []
      · have e : spansP f (k + 1) = [⟨k, k⟩] := by simp [spansP, hf, h0]
        have er := rowsSp_snoc [] ⟨k, k⟩
        simp only [Spn.cells, rowsSp_nil, List.nil_append] at er
        simp [hkl, hf, h0, show (1 : Nat) ≤ maxLen from by simp [maxLen]]
        refine again_of (k + 1) (by omega) (by omega) ?_
        simp [wk, e, er]
      · obtain ⟨j, hj⟩ : ∃ j, (spansP f k).length = j + 1 := ⟨(spansP f k).length - 1, by
          have : (spansP f k).length ≠ 0 := fun h => h0 (List.eq_nil_of_length_eq_zero h)
          omega⟩
        have hlast : lastS (spansP f k) = spnAt (spansP f k) j := by simp [lastS, hj]
        have hgj : (rowsSp (spansP f k))[j]? = some (spnAt (spansP f k) j).cells := rowsSp_get (by omega)
        have wj := i64_wrap (show -9223372036854775808 ≤ (j : Int) ∧ _ from by omega)
        have cj : ((j + 1 : Nat) : Int) = (j : Int) + 1 := by omega
        by_cases h1 : (spnAt (spansP f k) j).high = (k : Int) - 1
        · have e : spansP f (k + 1) = (spansP f k).set j ⟨(spnAt (spansP f k) j).low, k⟩ := by
            rw [spansP, if_pos hf, if_pos ⟨by omega, by rw [hlast]; exact h1⟩, hlast, hj]; rfl
          have el : (spansP f (k + 1)).length = j + 1 := by rw [e]; simp [hj]
          have er := rowsSp_set (spansP f k) j ⟨(spnAt (spansP f k) j).low, k⟩
          rw [← e] at er
          simp only [Spn.cells] at er
          simp [hkl, hf, hj, hgj, Spn.cells, wk1, wj, show (j : Int) < (j : Int) + 1 from by omega, h1]
          refine again_of (k + 1) (by omega) (by omega) ?_
          simp [wk, er, el]
        · have e : spansP f (k + 1) = spansP f k ++ [⟨k, k⟩] := by
            rw [spansP, if_pos hf, if_neg]
            rintro ⟨_, h⟩
            rw [hlast] at h
            exact h1 h
          have el : (spansP f (k + 1)).length = j + 2 := by rw [e]; simp [hj]
          have er := rowsSp_snoc (spansP f k) ⟨k, k⟩
          rw [← e] at er
          simp only [Spn.cells] at er
          have et : (spansP f k).take (j + 1) = spansP f k := List.take_of_length_le (by simp [hj])
          simp [hkl, hf, hj, hgj, Spn.cells, wk1, wj, show (j : Int) < (j : Int) + 1 from by omega, h1, show (j + 1 + 1) * 16 ≤ 140737488355328 from by omega, show j + 1 + 1 ≤ maxLen from by simp [maxLen]; omega]
          refine again_of (k + 1) (by omega) (by omega) ?_
          simp [wk, er, el, et]
  · obtain rfl : k = n := by omega
    simp
    refine answers_of rfl ?_
    simp [spnL]
    intro j hj
    simp [rowsSp_get hj, Spn.cells]
end Go.Qg

namespace Go.Qg
open Go.Proofs
set_option maxRecDepth 100000
set_option maxHeartbeats 32000000
set_option linter.unusedSimpArgs false
attribute [local irreducible] pwp pops pdraw pop popCall pdCall thenP blockP scopeP pspec Spec answers ppost CallW rend
def departL (c : Chn) : PV := .sl 1 c.legs.length fun i => [spnL (spansP (goodR c c.legs.length i) 1441)]
def departR (c : Chn) : PV := if chainB c = true then .tup [departL c, .v (.int .i64 0)] else .tup [.nil, .v (.int .i64 2)]
theorem Depart_spec (c : Chn) (hc : ChnMem c) : Spec Tryz.prog 33 [.agg c.cells] (departR c) := by
  refine spec_of mixed Tryz.func33 (by decide) rfl Tryz.results33 Tryz.ntmps33 (by decide) 1 (by simp) ?_
  simp [Chn.cells, hstL, spnL]
  refine pop_spec (chained_spec c hc) rfl false (.inl (by simp [Chn.cells, hstL, spnL])) (.inl rfl) rfl (by simp) ?_
  cases hb : chainB c with
  | false =>
    simp
    refine answers_of rfl ?_
    simp [departR, hb]
  | true =>
  have ho := chainB_ok hb
  have hn := ho.n
  have hlg := ho.legs
  simp
  refine pop_spec (good_spec c ho) rfl false (.inl (by simp [Chn.cells, hstL, spnL])) (.inl rfl) rfl (by simp [knownL]) ?_
  simp [knownL]
  generalize hF : goodR c c.legs.length = F
  refine pwp_loop (fun k : Nat => [(4, .own 24 k 0 k false), (13, .v (.int .i64 k)), (24, .rows none k 32 1 (rowsOf (fun i => [spnL (spansP (F i) 1441)]) k))]) (fun k => k ≤ c.legs.length) (fun k => c.legs.length - k) 0 (Nat.zero_le _) (by simp; rfl) (by simp) ?_
  intro k hk
  by_cases hkl : k < c.legs.length
  · have wk := i64_wrap (show -9223372036854775808 ≤ (k : Int) + 1 ∧ _ from by omega)
    simp [hkl, tzero_min]
    refine popLess_of [(6, .rp (rowB (F k)) 0)] ?_ (by simp [show (1441 : Nat) ≤ maxLen from by simp [maxLen]]; rfl) ?_
    · simp [spnL]
    simp
    refine pop_spec (spans_spec (F k) 1441 (Nat.le_refl _)) rfl false (.inl ?_) (.inl rfl) rfl (by simp [spnL]) ?_
    · simp
      intro i hi
      rw [rowB_part hi]
    have er := rowsOf_snoc (g := fun i => [spnL (spansP (F i) 1441)]) (k := k) rfl
    simp only [spnL] at er
    simp [spnL, show (k + 1) * 24 ≤ 140737488355328 from by omega, show k + 1 ≤ maxLen from by simp [maxLen]; omega]
    refine again_of (k + 1) (by omega) (by omega) ?_
    simp [wk, er]
  · obtain rfl : k = c.legs.length := by omega
    simp
    refine answers_of rfl ?_
    simp [departR, hb, departL, spnL, hF]
    intro i hi
    simp [rowsOf_get hi]
end Go.Qg

namespace Go.Qg.Fr
open Go.Qg
set_option linter.all false
section
open Go.Proofs
attribute [local irreducible] pwp pops pdraw pop popCall pdCall thenP blockP scopeP pspec Spec answers ppost CallW
@[simp] theorem wrap_0 : IntKind.i64.wrap 0 = 0 := i64_wrap (by omega)
@[simp] theorem wrap_1 : IntKind.i64.wrap 1 = 1 := i64_wrap (by omega)
@[simp] theorem wrap_2 : IntKind.i64.wrap 2 = 2 := i64_wrap (by omega)
@[simp] theorem wrap_3 : IntKind.i64.wrap 3 = 3 := i64_wrap (by omega)
@[simp] theorem wrap_m1 : IntKind.i64.wrap (-1) = -1 := i64_wrap (by omega)
theorem fin_spec (n lo hi : Int) : Spec Tryz.prog 181 [.v (.int .i64 n), .v (.int .i64 lo), .v (.int .i64 hi)] (.v (.bool (decide (lo ≤ n) && decide (n ≤ hi)))) := by
  refine spec_of mixed Tryz.func181 (by decide) rfl Tryz.results181 Tryz.ntmps181 (by decide) 0 (by simp) ?_
  by_cases h1 : lo ≤ n
  · by_cases h2 : n ≤ hi <;> (simp [h1, h2]; refine answers_of rfl ?_; simp)
  · simp [h1]; refine answers_of rfl ?_; simp
def geti (l : List Int) (i : Nat) : Int := l.getD i 0
def ints (l : List Int) : PV := .sl 1 l.length fun i => [.v (.int .i64 (geti l i))]
def sumL (l : List Int) : Int := l.foldl (fun s x => IntKind.i64.wrap (s + x)) 0
theorem sumL_snoc (l : List Int) (k : Nat) (hk : k < l.length) : sumL (l.take (k + 1)) = IntKind.i64.wrap (sumL (l.take k) + geti l k) := by
  rw [List.take_succ_eq_append_getElem hk]; simp only [sumL, List.foldl_append, List.foldl_cons, List.foldl_nil, geti]; simp [hk]
theorem fsum_spec (l : List Int) (hl : l.length ≤ 9223372036854775807) : Spec Tryz.prog 182 [ints l] (.v (.int .i64 (sumL l))) := by
  refine spec_of mixed Tryz.func182 (by decide) rfl Tryz.results182 Tryz.ntmps182 (by decide) 0 (by simp) ?_
  simp [ints]
  refine pwp_loop (fun k : Nat => [(3, .v (.int .i64 (sumL (l.take k)))), (8, .v (.int .i64 k))]) (fun k => k ≤ l.length) (fun k => l.length - k) 0 (Nat.zero_le _) (by simp; rfl) (by simp [sumL]) ?_
  intro k hk
  by_cases h : k < l.length
  · simp [h]
    refine again_of (k + 1) (by omega) (by omega) ?_
    have := sumL_snoc l k h
    simp [this, i64_wrap (show -9223372036854775808 ≤ (k : Int) + 1 ∧ _ from by omega)]
  · simp [h]
    rw [List.take_of_length_le (by omega)]
    refine answers_of rfl ?_; simp
def allN (n : Nat) (p : Nat → Bool) : Bool := (List.range n).all p
theorem allN_spec {n : Nat} {p : Nat → Bool} : allN n p = true ↔ ∀ k, k < n → p k = true := by simp [allN]
theorem allN_false {n k : Nat} {p : Nat → Bool} (hk : k < n) (h : p k = false) : allN n p = false := by
  cases he : allN n p with
  | false => rfl
  | true => rw [allN_spec.1 he k hk] at h; cases h
theorem money1_spec (i n : Int) : Spec Tryz.prog 222 [.v (.int .i64 i), .v (.int .i64 n)] (.v (.bool (decide (0 ≤ n) && decide (n ≤ 1000000000)))) := by
  refine spec_of mixed Tryz.func222 (by decide) rfl Tryz.results222 Tryz.ntmps222 (by decide) 0 (by simp) ?_
  simp
  refine pop_spec (fin_spec n 0 1000000000) rfl false (.inl (by simp)) (.inl rfl) rfl (by simp) ?_
  simp
  refine answers_of rfl ?_; simp
theorem allInt_spec (l : List Int) (hl : l.length ≤ 9223372036854775807) (f : FuncId) (first cap : List PV) (h1 : plainL first = true) (h2 : plainL cap = true) (p : Nat → Bool)
    (h : ∀ k, k < l.length → Spec Tryz.prog f (first ++ ([.v (.int .i64 k), .v (.int .i64 (geti l k))] ++ cap)) (.v (.bool (p k)))) : Spec Tryz.prog 179 [ints l, .clo (.func f) first cap] (.v (.bool (allN l.length p))) := by
  refine spec_of mixed Tryz.func179 (by decide) rfl Tryz.results179 Tryz.ntmps179 (by decide) 0 (by simp) ?_
  simp [ints, renL_plain h1, renL_plain h2]
  refine pwp_loop (fun k : Nat => [(9, .v (.int .i64 k))]) (fun k => k ≤ l.length ∧ ∀ j, j < k → p j = true) (fun k => l.length - k) 0 ⟨Nat.zero_le _, fun j hj => by omega⟩ (by simp; rfl) (by simp [vwAll_plain h1, vwAll_plain h2]) ?_
  intro k ⟨hk, hp⟩
  by_cases hkl : k < l.length
  · simp [hkl]
    refine pop_spec (h k hkl) rfl false (.inr ⟨rfl, by simp [namesL_append, plainL_names h1, plainL_names h2]⟩) (.inl rfl) rfl (by simp) ?_
    cases hpk : p k with
    | true =>
      simp
      refine again_of (k + 1) ⟨by omega, fun j hj => ?_⟩ (by omega) ?_
      · rcases Nat.lt_succ_iff_lt_or_eq.1 hj with hj | rfl
        · exact hp j hj
        · exact hpk
      · simp [i64_wrap (show -9223372036854775808 ≤ (k : Int) + 1 ∧ _ from by omega), vwAll_plain h1, vwAll_plain h2]
    | false =>
      simp
      refine answers_of rfl ?_; simp [allN_false hkl hpk]
  · simp [hkl]
    obtain rfl : k = l.length := by omega
    refine answers_of rfl ?_; simp [allN_spec.2 hp]
end
section
open Go.Proofs
attribute [local irreducible] pwp pops pdraw pop popCall pdCall thenP blockP scopeP pspec Spec answers ppost CallW
def inB (n lo hi : Int) : Bool := decide (lo ≤ n) && decide (n ≤ hi)
theorem inB_spec {n lo hi : Int} : inB n lo hi = true ↔ lo ≤ n ∧ n ≤ hi := by simp [inB]
theorem in_spec (n lo hi : Int) : Spec Tryz.prog 181 [.v (.int .i64 n), .v (.int .i64 lo), .v (.int .i64 hi)] (.v (.bool (inB n lo hi))) := fin_spec n lo hi
theorem money_spec (l : List Int) (hl : l.length ≤ 9223372036854775807) : Spec Tryz.prog 178 [ints l] (.v (.bool (allN l.length fun k => inB (geti l k) 0 1000000000))) := by
  refine spec_of mixed Tryz.func178 (by decide) rfl Tryz.results178 Tryz.ntmps178 (by decide) 0 (by simp) ?_
  simp [ints]
  refine pop_spec (allInt_spec l hl 222 [] [] rfl rfl _ fun k hk => money1_spec k (geti l k)) rfl false (.inl (by simp [ints])) (.inl rfl) rfl (by simp) ?_
  simp
  refine answers_of rfl ?_; simp [inB]
@[simp] theorem allN_one (p : Nat → Bool) : allN 1 p = p 0 := by simp [allN, List.range_succ]
end
section
open Go.Proofs
set_option maxRecDepth 100000
set_option maxHeartbeats 4000000
attribute [local irreducible] pwp pops pdraw pop popCall pdCall thenP blockP scopeP pspec Spec answers ppost CallW
def far (l : List Int) : Nat → Int
  | 0 => 0
  | k + 1 => far l k + geti l k
theorem far_bound {l : List Int} {c : Int} {n : Nat} (h : ∀ k, k < n → 0 ≤ geti l k ∧ geti l k ≤ c) : ∀ k, k ≤ n → 0 ≤ far l k ∧ far l k ≤ c * k
  | 0, _ => by simp [far]
  | k + 1, hk => by
    have h1 := far_bound h k (by omega)
    have h2 := h k (by omega)
    simp only [far]
    have : c * ((k + 1 : Nat) : Int) = c * k + c := by rw [Int.natCast_add, Int.mul_add]; simp
    omega
theorem sumL_far {l : List Int} (h : ∀ k, k ≤ l.length → -9223372036854775808 ≤ far l k ∧ far l k ≤ 9223372036854775807) : ∀ k, k ≤ l.length → sumL (l.take k) = far l k
  | 0, _ => by simp [sumL, far]
  | k + 1, hk => by
    rw [sumL_snoc l k (by omega), sumL_far h k (by omega), ← far, i64_wrap (h (k + 1) hk)]
theorem sumL_all {l : List Int} (h : ∀ k, k ≤ l.length → -9223372036854775808 ≤ far l k ∧ far l k ≤ 9223372036854775807) : sumL l = far l l.length := by
  have := sumL_far h l.length (Nat.le_refl _)
  rwa [List.take_length] at this
def mk (n : Nat) (f : Nat → Int) : List Int := (List.range n).map f
@[simp] theorem mk_length (n : Nat) (f : Nat → Int) : (mk n f).length = n := by simp [mk]
theorem geti_mk {n : Nat} {f : Nat → Int} {i : Nat} (h : i < n) : geti (mk n f) i = f i := by simp [geti, mk, h]
def lensB (l : List Int) : Bool := allN l.length fun k => inB (geti l k) 0 10000
def lengthsE (amount : Int) (l : List Int) : Int :=
  if 8 < l.length then 3 else if inB amount 0 1000000000 && lensB l && decide (far l l.length ≠ 0) then 0 else 2
theorem lens_spec {l : List Int} : lensB l = true ↔ ∀ k, k < l.length → 0 ≤ geti l k ∧ geti l k ≤ 10000 := by simp only [lensB, allN_spec, inB_spec]
theorem lengths1_spec (i n : Int) : Spec Tryz.prog 180 [.v (.int .i64 i), .v (.int .i64 n)] (.v (.bool (inB n 0 10000))) := by
  refine spec_of mixed Tryz.func180 (by decide) rfl Tryz.results180 Tryz.ntmps180 (by decide) 0 (by simp) ?_
  simp
  refine pop_spec (in_spec n 0 10000) rfl false (.inl (by simp)) (.inl rfl) rfl (by simp) ?_
  simp
  refine answers_of rfl ?_; simp
theorem lengths_spec (amount : Int) (l : List Int) (hl : l.length ≤ 9223372036854775807) : Spec Tryz.prog 106 [.v (.int .i64 amount), ints l] (.v (.int .i64 (lengthsE amount l))) := by
  refine spec_of mixed Tryz.func106 (by decide) rfl Tryz.results106 Tryz.ntmps106 (by decide) 0 (by simp) ?_
  simp [ints]
  by_cases h0 : 8 < l.length
  · simp [show (8 : Int) < l.length from by omega]
    have hr : lengthsE amount l = 3 := by simp [lengthsE, h0]
    rw [hr]; exact answers_plain (by simp) rfl
  · simp [show ¬ (8 : Int) < l.length from by omega, show (l.length : Int) ≤ 8 from by omega]
    refine pop_spec (money_spec [amount] (by simp)) rfl true (.inl (by simp [ints, geti])) (.inr rfl) rfl (by simp) ?_
    cases h1 : inB amount 0 1000000000 with
    | false =>
      simp [geti, h1]
      have hr : lengthsE amount l = 2 := by simp [lengthsE, h0, h1]
      rw [hr]; exact answers_plain (by simp) rfl
    | true =>
      simp [geti, h1]
      refine pop_spec (allInt_spec l hl 180 [] [] rfl rfl _ fun k hk => lengths1_spec k (geti l k)) rfl false (.inl (by simp [ints, geti])) (.inl rfl) rfl (by simp) ?_
      have e : allN l.length (fun k => inB (geti l k) 0 10000) = lensB l := rfl
      rw [e]
      cases h2 : lensB l with
      | false =>
        simp
        have hr : lengthsE amount l = 2 := by simp [lengthsE, h0, h1, h2]
        rw [hr]; exact answers_plain (by simp) rfl
      | true =>
        simp
        refine pop_spec (fsum_spec l hl) rfl false (.inl (by simp [ints, geti])) (.inl rfl) rfl (by simp) ?_
        have hf := far_bound (lens_spec.1 h2)
        rw [sumL_all fun k hk => by have := hf k hk; omega]
        by_cases h3 : far l l.length = 0
        · simp [h3]
          have hr : lengthsE amount l = 2 := by simp [lengthsE, h0, h1, h2, h3]
          rw [hr]; exact answers_plain (by simp) rfl
        · simp [h3]
          have hr : lengthsE amount l = 0 := by simp [lengthsE, h0, h1, h2, h3]
          rw [hr]; exact answers_plain (by simp) rfl
def shareTo (amount : Int) (l : List Int) (k : Nat) : Int := amount * far l k / far l l.length
def shareL (amount : Int) (l : List Int) : List Int := mk l.length fun k => shareTo amount l (k + 1) - shareTo amount l k
structure ShareOk (amount : Int) (l : List Int) : Prop where
  amount : 0 ≤ amount ∧ amount ≤ 1000000000
  len : l.length ≤ 8
  each : ∀ k, k < l.length → 0 ≤ geti l k ∧ geti l k ≤ 10000
  whole : far l l.length ≠ 0
theorem share_ok {amount : Int} {l : List Int} (h : lengthsE amount l = 0) : ShareOk amount l := by
  unfold lengthsE at h
  split at h
  · omega
  · split at h
    · rename_i h1 h2
      simp only [Bool.and_eq_true, decide_eq_true_eq] at h2
      exact ⟨inB_spec.1 h2.1.1, by omega, lens_spec.1 h2.1.2, h2.2⟩
    · omega
theorem ShareOk.to {amount : Int} {l : List Int} (h : ShareOk amount l) {k : Nat} (hk : k ≤ l.length) : (0 ≤ amount * far l k ∧ amount * far l k ≤ 80000000000000) ∧ 1 ≤ far l l.length ∧ far l l.length ≤ 80000 ∧ 0 ≤ shareTo amount l k ∧ shareTo amount l k ≤ 80000000000000 := by
  have h1 := far_bound h.each k hk
  have h2 := far_bound h.each l.length (Nat.le_refl _)
  have h3 := h.whole
  have h4 := h.len
  have e0 : 0 ≤ amount * far l k := Int.mul_nonneg h.amount.1 h1.1
  have e1 : amount * far l k ≤ 1000000000 * 80000 := Int.mul_le_mul h.amount.2 (by omega) h1.1 (by omega)
  have e2 : 0 ≤ shareTo amount l k := Int.ediv_nonneg e0 h2.1
  have e3 : shareTo amount l k ≤ amount * far l k := Int.ediv_le_self _ e0
  omega
theorem share_spec (amount : Int) (l : List Int) (h : ShareOk amount l) : Spec Tryz.prog 107 [.v (.int .i64 amount), ints l] (ints (shareL amount l)) := by
  have h8 := h.len
  have hw := h.whole
  refine spec_of mixed Tryz.func107 (by decide) rfl Tryz.results107 Tryz.ntmps107 (by decide) 0 (by simp) ?_
  simp [ints]
  refine pop_spec (fsum_spec l (by omega)) rfl false (.inl (by simp [ints, geti])) (.inl rfl) rfl (by simp) ?_
  have hf := far_bound h.each
  rw [sumL_all fun k hk => by have := hf k hk; omega]
  simp
  refine pwp_loop (fun k : Nat => [(5, .own 31 k 0 k false), (6, .v (.int .i64 (shareTo amount l k))), (7, .v (.int .i64 (far l k))), (15, .v (.int .i64 k)), (31, .rows none k 3 1 (rowsOf (fun i => [.v (.int .i64 (shareTo amount l (i + 1) - shareTo amount l i))]) k))]) (fun k => k ≤ l.length) (fun k => l.length - k) 0 (Nat.zero_le _) (by simp; rfl) (by simp [shareTo, far]) ?_
  intro k hk
  by_cases hkl : k < l.length
  · have hk1 := hf (k + 1) hkl
    obtain ⟨a1, a2, a3, a4⟩ := h.to (k := k + 1) hkl
    obtain ⟨_, _, _, b4⟩ := h.to (k := k) hk
    have w1 : IntKind.i64.wrap (far l k + geti l k) = far l (k + 1) := i64_wrap (n := far l (k + 1)) (by omega)
    have w2 : IntKind.i64.wrap (amount * far l (k + 1)) = amount * far l (k + 1) := i64_wrap (by omega)
    have w3 : IntKind.i64.wrap ((amount * far l (k + 1)).tdiv (far l l.length)) = shareTo amount l (k + 1) := i64_quo (by omega)
    have w4 : IntKind.i64.wrap (shareTo amount l (k + 1) - shareTo amount l k) = shareTo amount l (k + 1) - shareTo amount l k := i64_wrap (by omega)
    simp [hkl, w1, w2, w3, w4, hw, show (k + 1) * 8 ≤ 140737488355328 from by omega, show k + 1 ≤ maxLen from by simp [maxLen]; omega]
    refine again_of (k + 1) (by omega) (by omega) ?_
    simp [i64_wrap (show -9223372036854775808 ≤ (k : Int) + 1 ∧ _ from by omega), rowsOf_snoc]
  · simp [hkl]
    obtain rfl : k = l.length := by omega
    refine answers_of rfl ?_
    simp [shareL]
    intro k hk; simp [geti_mk hk, rowsOf_get hk]
theorem Share_spec (amount : Int) (l : List Int) (hl : l.length ≤ 9223372036854775807) : Spec Tryz.prog 35 [.v (.int .i64 amount), ints l] (.tup [ints (if lengthsE amount l = 0 then shareL amount l else []), .v (.int .i64 (lengthsE amount l))]) := by
  refine spec_of mixed Tryz.func35 (by decide) rfl Tryz.results35 Tryz.ntmps35 (by decide) 0 (by simp) ?_
  simp [ints]
  refine pop_spec (lengths_spec amount l hl) rfl false (.inl (by simp [ints, geti])) (.inl rfl) rfl (by simp) ?_
  by_cases h : lengthsE amount l = 0
  · simp [h]
    refine pop_spec (share_spec amount l (share_ok h)) rfl false (.inl (by simp [ints, geti])) (.inl rfl) rfl (by simp [ints]) ?_
    simp [ints]
    refine answers_of rfl ?_; simp [ints]
  · simp [h]
    refine answers_of rfl ?_; simp [ints]
end
end Go.Qg.Fr

namespace Go.Qg.Ch
open Go.Qg
set_option linter.all false
section
set_option maxRecDepth 100000
structure Brl where
  kilos : Int
  til : Int
  deriving DecidableEq, Inhabited
def sumK : List Brl → Int
  | [] => 0
  | b :: l => b.kilos + sumK l
def goodL (l : List Brl) (day : Int) : List Brl := l.filter fun b => decide (day ≤ b.til)
def hasL (l : List Brl) (day : Int) : Int := sumK (goodL l day)
def Pos (l : List Brl) : Prop := ∀ b ∈ l, 0 ≤ b.kilos
theorem Pos.cons {b : Brl} {l : List Brl} (h : 0 ≤ b.kilos) (hl : Pos l) : Pos (b :: l) := fun x hx => by
  rcases List.mem_cons.1 hx with rfl | hx
  · exact h
  · exact hl x hx
theorem Pos.filter {l : List Brl} (h : Pos l) (p : Brl → Bool) : Pos (l.filter p) := fun x hx => h x (List.mem_filter.1 hx).1
inductive Dom : List Brl → List Brl → Prop
  | nil : Dom [] []
  | skip (b : Brl) {l l' : List Brl} : Dom l' l → Dom l' (b :: l)
  | keep {b b' : Brl} {l l' : List Brl} : b'.til = b.til → b'.kilos ≤ b.kilos → Dom l' l → Dom (b' :: l') (b :: l)
theorem Dom.none : ∀ (l : List Brl), Dom [] l
  | [] => .nil
  | b :: l => .skip b (Dom.none l)
theorem Dom.length {a a' : List Brl} (h : Dom a' a) : a'.length ≤ a.length := by
  induction h with
  | nil => exact Nat.le_refl _
  | skip b _ ih => simp only [List.length_cons]; omega
  | keep h1 h2 _ ih => simp only [List.length_cons]; omega
theorem Dom.good {a a' : List Brl} (h : Dom a' a) (d : Int) : Dom (goodL a' d) (goodL a d) := by
  unfold goodL
  induction h with
  | nil => exact .nil
  | skip b _ ih =>
    rw [List.filter_cons]
    split
    · exact .skip b ih
    · exact ih
  | keep h1 h2 _ ih =>
    rw [List.filter_cons, List.filter_cons, h1]
    split
    · exact .keep h1 h2 ih
    · exact ih
end
section
set_option maxRecDepth 100000
def brlAt (l : List Brl) (i : Nat) : Brl := l.getD i default
theorem brlAt_get {l : List Brl} {i : Nat} (h : i < l.length) : l[i]? = some (brlAt l i) := by simp [brlAt, h]
theorem brlAt_mem {l : List Brl} {i : Nat} (h : i < l.length) : brlAt l i ∈ l := List.mem_of_getElem? (brlAt_get h)
def PosS (l : List Brl) : Prop := ∀ b ∈ l, 0 < b.kilos
theorem PosS.pos {l : List Brl} (h : PosS l) : Pos l := fun b hb => by have := h b hb; omega
end
section
set_option maxRecDepth 100000
structure Bur where
  day : Int
  low : Int
  high : Int
  deriving DecidableEq, Inhabited
structure Shp where
  day : Int
  room : Int
  cost : Int
  each : Int
  good : Int
  deriving DecidableEq, Inhabited
structure Sup where
  barrels : List Brl
  burns : List Bur
  ships : List Shp
  kilos : Int
def burAt (l : List Bur) (i : Nat) : Bur := l.getD i default
def shpAt (l : List Shp) (i : Nat) : Shp := l.getD i default
structure Pl where
  barrels : List Brl
  came : Int
  drawn : Int
  waste : Int
  ship : Nat
  flight : Nat
def Pl.first (S : Sup) : Pl := ⟨S.barrels, 0, 0, 0, 0, 0⟩
end
section
set_option maxRecDepth 100000
theorem sumK_append (a b : List Brl) : sumK (a ++ b) = sumK a + sumK b := by
  induction a with
  | nil => simp [sumK]
  | cons x a ih => simp only [List.cons_append, sumK, ih]; omega
structure Fit (l : List Brl) : Prop where
  pos : Pos l
  til : ∀ b ∈ l, b.til ≤ 400
theorem Fit.good {l : List Brl} (h : Fit l) (t : Int) : Fit (goodL l t) := ⟨h.pos.filter _, fun b hb => h.til b (List.mem_filter.1 hb).1⟩
end
section
open Go.Proofs
set_option maxRecDepth 100000
set_option maxHeartbeats 4000000
attribute [local irreducible] pwp pops pdraw pop popCall pdCall thenP blockP scopeP pspec Spec answers ppost CallW
def idxN (p : Nat → Bool) : Nat → Int
  | 0 => -1
  | k + 1 => if 0 ≤ idxN p k then idxN p k else if p k = true then k else -1
theorem idxN_none {p : Nat → Bool} : ∀ {n : Nat}, (∀ j, j < n → p j = false) → idxN p n = -1
  | 0, _ => rfl
  | n + 1, h => by simp only [idxN, idxN_none (n := n) fun j hj => h j (by omega), h n (by omega)]; simp
theorem idxN_some {p : Nat → Bool} {k : Nat} (h1 : ∀ j, j < k → p j = false) (h2 : p k = true) : ∀ {n : Nat}, k < n → idxN p n = k
  | 0, h => by omega
  | n + 1, h => by
    rcases Nat.lt_or_eq_of_le (Nat.le_of_lt_succ h) with h3 | rfl
    · simp only [idxN, idxN_some h1 h2 h3]; rw [if_pos (by omega)]
    · simp only [idxN, idxN_none h1, h2]; simp
def anyN (n : Nat) (p : Nat → Bool) : Bool := decide (0 ≤ idxN p n)
theorem idxN_sign (p : Nat → Bool) : ∀ m, idxN p m = -1 ∨ 0 ≤ idxN p m
  | 0 => .inl rfl
  | m + 1 => by
    simp only [idxN]
    split
    · exact .inr ‹_›
    · split
      · exact .inr (by omega)
      · exact .inl rfl
theorem anyN_iff {n : Nat} {p : Nat → Bool} : anyN n p = true ↔ ∃ k, k < n ∧ p k = true := by
  unfold anyN
  rw [decide_eq_true_eq]
  by_cases h : ∃ k, k < n ∧ p k = true
  · refine ⟨fun _ => h, fun _ => ?_⟩
    rcases idxN_sign p n with h1 | h1
    · exfalso
      obtain ⟨k, hk, hp⟩ := h
      have all : ∀ m, idxN p m = -1 → ∀ j, j < m → p j = false := fun m => by
        induction m with
        | zero => intro _ j hj; omega
        | succ m ih =>
          intro hm j hj
          simp only [idxN] at hm
          split at hm
          · omega
          · rename_i hn
            split at hm
            · omega
            · rename_i hpm
              rcases Nat.lt_or_eq_of_le (Nat.le_of_lt_succ hj) with h3 | rfl
              · refine ih ?_ j h3
                rcases idxN_sign p m with h4 | h4
                · exact h4
                · omega
              · simpa using hpm
      rw [all n h1 k hk] at hp; cases hp
    · exact h1
  · refine ⟨fun h1 => ?_, fun h1 => (h h1).elim⟩
    rw [idxN_none fun j hj => by
      cases hp : p j with
      | false => rfl
      | true => exact (h ⟨j, hj, hp⟩).elim] at h1
    omega
theorem anyN_false {n : Nat} {p : Nat → Bool} : anyN n p = false ↔ ∀ k, k < n → p k = false := by
  constructor
  · intro h k hk
    cases hp : p k with
    | false => rfl
    | true => rw [anyN_iff.2 ⟨k, hk, hp⟩] at h; cases h
  · intro h
    cases hp : anyN n p with
    | false => rfl
    | true => obtain ⟨k, hk, h2⟩ := anyN_iff.1 hp; rw [h k hk] at h2; cases h2
def Brl.cells (b : Brl) : List PV := [.v (.int .i64 b.kilos), .v (.int .i64 b.til)]
def brlL (l : List Brl) : PV := .sl 2 l.length fun i => (brlAt l i).cells
theorem Brl.eq_iff {x y : Brl} : x = y ↔ x.kilos = y.kilos ∧ x.til = y.til := by
  cases x; cases y; simp
def rowsBr (l : List Brl) : List (List PV) := l.map Brl.cells
@[simp] theorem rowsBr_length (l : List Brl) : (rowsBr l).length = l.length := by simp [rowsBr]
@[simp] theorem renLL_rowsBr (π : Nat → Nat) (l : List Brl) : renLL π (rowsBr l) = rowsBr l := by
  induction l with
  | nil => rfl
  | cons x l ih => simpa [rowsBr, Brl.cells, renLL, renL, PV.ren] using ih
@[simp] theorem namesLL_rowsBr (l : List Brl) : namesLL (rowsBr l) = [] := by
  induction l with
  | nil => rfl
  | cons x l ih => simpa [rowsBr, Brl.cells, namesLL, namesL, PV.names] using ih
@[simp] theorem flatLL_rowsBr (l : List Brl) : flatLL (rowsBr l) = true := by
  induction l with
  | nil => rfl
  | cons x l ih => simpa [rowsBr, Brl.cells, flatLL, flatL, PV.flat] using ih
@[simp] theorem vwAllL_rowsBr (f : PF) (T : Tgt) (d : Nat) (a b : List Brl) : vo.vwAllL f T (d + 1) (rowsBr a) (rowsBr b) = (a = b) := by
  induction a generalizing b with
  | nil => cases b <;> simp [rowsBr, vo.vwAllL]
  | cons x a ih =>
    cases b with
    | nil => simp [rowsBr, vo.vwAllL]
    | cons y b =>
      have := ih b
      simp only [rowsBr] at this
      simp [rowsBr, vo.vwAllL, this, Brl.cells, Brl.eq_iff]
@[simp] theorem rowsBr_one {l : List Brl} : (∀ (x : List PV), x ∈ rowsBr l → ∀ (y : PV), y ∈ x → y.one = true) ↔ True := by
  refine ⟨fun _ => trivial, fun _ x hx y hy => ?_⟩
  obtain ⟨b, _, rfl⟩ := List.mem_map.1 hx
  simp [Brl.cells] at hy
  rcases hy with rfl | rfl <;> rfl
@[simp] theorem rowsBr_len1 {l : List Brl} : (∀ (x : List PV), x ∈ rowsBr l → x.length = 2) ↔ True := by
  refine ⟨fun _ => trivial, fun _ x hx => ?_⟩
  obtain ⟨b, _, rfl⟩ := List.mem_map.1 hx
  rfl
@[simp] theorem rowsBr_take (l : List Brl) (k : Nat) : (rowsBr l).take k = rowsBr (l.take k) := by simp [rowsBr]
@[simp] theorem rowsBr_nil : rowsBr [] = [] := rfl
theorem rowsBr_get {l : List Brl} {k : Nat} (h : k < l.length) : (rowsBr l)[k]? = some (brlAt l k).cells := by simp [rowsBr, brlAt, h]
@[simp] theorem rowsBr_getElem {l : List Brl} {k : Nat} (h : k < (rowsBr l).length) : (rowsBr l)[k] = (brlAt l k).cells := by
  have h2 : k < l.length := by simpa using h
  simp [rowsBr, brlAt, h2]
theorem rowsBr_snoc (l : List Brl) (x : Brl) : rowsBr l ++ [x.cells] = rowsBr (l ++ [x]) := by simp [rowsBr]
theorem rowsBr_snoc' (l : List Brl) (x : Brl) : rowsBr l ++ [[.v (.int .i64 x.kilos), .v (.int .i64 x.til)]] = rowsBr (l ++ [x]) := rowsBr_snoc l x
def Bur.cells (b : Bur) : List PV := [.v (.int .i64 b.day), .v (.int .i64 b.low), .v (.int .i64 b.high)]
def burL (l : List Bur) : PV := .sl 3 l.length fun i => (burAt l i).cells
theorem Bur.eq_iff {x y : Bur} : x = y ↔ x.day = y.day ∧ x.low = y.low ∧ x.high = y.high := by
  cases x; cases y; simp
structure Snd where
  day : Int
  cove : Int
  low : Int
  high : Int
  deriving DecidableEq, Inhabited
def Snd.cells (b : Snd) : List PV := [.v (.int .i64 b.day), .v (.int .i64 b.cove), .v (.int .i64 b.low), .v (.int .i64 b.high)]
theorem Snd.eq_iff {x y : Snd} : x = y ↔ x.day = y.day ∧ x.cove = y.cove ∧ x.low = y.low ∧ x.high = y.high := by
  cases x; cases y; simp
structure Spn where
  low : Int
  high : Int
  deriving DecidableEq, Inhabited
def spnAt (l : List Spn) (i : Nat) : Spn := l.getD i default
def Spn.cells (b : Spn) : List PV := [.v (.int .i64 b.low), .v (.int .i64 b.high)]
def spnL (l : List Spn) : PV := .sl 2 l.length fun i => (spnAt l i).cells
theorem Spn.eq_iff {x y : Spn} : x = y ↔ x.low = y.low ∧ x.high = y.high := by
  cases x; cases y; simp
structure Cov where
  closed : List Spn
  window : Int
  noise : Int
  visits : Int
  deriving DecidableEq, Inhabited
def Cov.cells (c : Cov) : List PV := [spnL c.closed, .v (.int .i64 c.window), .v (.int .i64 c.noise), .v (.int .i64 c.visits)]
def Shp.cells (x : Shp) : List PV := [.v (.int .i64 x.day), .v (.int .i64 x.room), .v (.int .i64 x.cost), .v (.int .i64 x.each), .v (.int .i64 x.good)]
def shpL (l : List Shp) : PV := .sl 5 l.length fun i => (shpAt l i).cells
def Sup.cells (S : Sup) : List PV := [brlL S.barrels, burL S.burns, shpL S.ships, .v (.int .i64 S.kilos)]
theorem idxBrl_spec (l : List Brl) (hl : l.length ≤ 9223372036854775807) (f : FuncId) (first cap : List PV) (h1 : plainL first = true) (h2 : plainL cap = true) (p : Nat → Bool)
    (h : ∀ k, k < l.length → Spec Tryz.prog f (first ++ ([.agg (brlAt l k).cells] ++ cap)) (.v (.bool (p k)))) : Spec Tryz.prog 223 [brlL l, .clo (.func f) first cap] (.v (.int .i64 (idxN p l.length))) := by
  refine spec_of mixed Tryz.func223 (by decide) rfl Tryz.results223 Tryz.ntmps223 (by decide) 0 (by simp) ?_
  simp [brlL, Brl.cells, renL_plain h1, renL_plain h2]
  refine pwp_loop (fun k : Nat => [(8, .v (.int .i64 k))]) (fun k => k ≤ l.length ∧ ∀ j, j < k → p j = false) (fun k => l.length - k) 0 ⟨Nat.zero_le _, fun j hj => by omega⟩ (by simp; rfl) (by simp [vwAll_plain h1, vwAll_plain h2]) ?_
  intro k ⟨hk, hp⟩
  by_cases hkl : k < l.length
  · simp [hkl]
    refine pop_spec (h k hkl) rfl false (.inr ⟨by simp [brlL, Brl.cells], by simp [namesL_append, plainL_names h1, plainL_names h2, brlL, Brl.cells]⟩) (.inl rfl) rfl (by simp) ?_
    cases hpk : p k with
    | false =>
      simp
      refine again_of (k + 1) ⟨by omega, fun j hj => ?_⟩ (by omega) ?_
      · rcases Nat.lt_succ_iff_lt_or_eq.1 hj with hj | rfl
        · exact hp j hj
        · exact hpk
      · simp [i64_wrap (show -9223372036854775808 ≤ (k : Int) + 1 ∧ _ from by omega), vwAll_plain h1, vwAll_plain h2]
    | true =>
      simp
      refine answers_of rfl ?_; simp [idxN_some hp hpk hkl]
  · simp [hkl]
    obtain rfl : k = l.length := by omega
    refine answers_of rfl ?_; simp [idxN_none hp]
theorem anyBrl_spec (l : List Brl) (hl : l.length ≤ 9223372036854775807) (f : FuncId) (first cap : List PV) (h1 : plainL first = true) (h2 : plainL cap = true) (p : Nat → Bool)
    (h : ∀ k, k < l.length → Spec Tryz.prog f (first ++ ([.agg (brlAt l k).cells] ++ cap)) (.v (.bool (p k)))) : Spec Tryz.prog 183 [brlL l, .clo (.func f) first cap] (.v (.bool (anyN l.length p))) := by
  refine spec_of mixed Tryz.func183 (by decide) rfl Tryz.results183 Tryz.ntmps183 (by decide) 0 (by simp) ?_
  simp [brlL, Brl.cells, renL_plain h1, renL_plain h2]
  refine pop_spec (idxBrl_spec l hl f first cap h1 h2 p h) rfl false (.inl (by simp [brlL, Brl.cells, vwAll_plain h1, vwAll_plain h2])) (.inl rfl) rfl (by simp) ?_
  simp
  refine answers_of rfl ?_; simp [anyN]
theorem take_filter_Brl (l : List Brl) (p : Brl → Bool) {k : Nat} (h : k < l.length) : (l.take (k + 1)).filter p = (l.take k).filter p ++ (if p (brlAt l k) = true then [brlAt l k] else []) := by
  rw [List.take_succ_eq_append_getElem h, List.filter_append, show l[k] = brlAt l k from by simp [brlAt, h]]
  congr 1
  by_cases hp : p (brlAt l k) = true <;> simp [hp]
theorem partBrl_spec (l : List Brl) (hl : l.length ≤ 1000000) (f : FuncId) (first cap : List PV) (h1 : plainL first = true) (h2 : plainL cap = true) (p : Brl → Bool)
    (h : ∀ k, k < l.length → Spec Tryz.prog f (first ++ ([.agg (brlAt l k).cells] ++ cap)) (.v (.bool (p (brlAt l k))))) : Spec Tryz.prog 185 [brlL l, .clo (.func f) first cap] (brlL (l.filter p)) := by
  refine spec_of mixed Tryz.func185 (by decide) rfl Tryz.results185 Tryz.ntmps185 (by decide) 0 (by simp) ?_
  simp [brlL, renL_plain h1, renL_plain h2]
  refine pwp_loop (fun k : Nat => [(5, .own 20 ((l.take k).filter p).length 0 ((l.take k).filter p).length false), (10, .v (.int .i64 k)), (20, .rows none ((l.take k).filter p).length 113 2 (rowsBr ((l.take k).filter p)))]) (fun k => k ≤ l.length) (fun k => l.length - k) 0 (Nat.zero_le _) (by simp; rfl) (by simp [vwAll_plain h1, vwAll_plain h2]) ?_
  intro k hk
  by_cases hkl : k < l.length
  · have wk := i64_wrap (show -9223372036854775808 ≤ (k : Int) + 1 ∧ _ from by omega)
    have hle : ((l.take k).filter p).length ≤ k := Nat.le_trans (List.length_filter_le _ _) (by simp; omega)
    have hs := take_filter_Brl l p hkl
    simp [hkl, Brl.cells]
    refine pop_spec (h k hkl) rfl false (.inr ⟨by simp [Brl.cells], by simp [namesL_append, plainL_names h1, plainL_names h2, Brl.cells]⟩) (.inl rfl) rfl (by simp) ?_
    cases hpk : p (brlAt l k) with
    | true =>
      rw [hpk, if_pos rfl] at hs
      simp [rowsBr_snoc', show (((l.take k).filter p).length + 1) * 16 ≤ 140737488355328 from by omega, show ((l.take k).filter p).length + 1 ≤ maxLen from by simp [maxLen]; omega]
      refine again_of (k + 1) (by omega) (by omega) ?_
      simp [wk, hs, vwAll_plain h1, vwAll_plain h2]
    | false =>
      rw [hpk, if_neg (by simp), List.append_nil] at hs
      simp
      refine again_of (k + 1) (by omega) (by omega) ?_
      simp [wk, hs, vwAll_plain h1, vwAll_plain h2]
  · obtain rfl : k = l.length := by omega
    rw [List.take_length]
    simp
    refine answers_of rfl ?_; simp [brlL]
    intro k hk
    simp [rowsBr_get hk, Brl.cells]
end
section
open Go.Proofs
set_option maxRecDepth 100000
set_option maxHeartbeats 4000000
attribute [local irreducible] pwp pops pdraw pop popCall pdCall thenP blockP scopeP pspec Spec answers ppost CallW
theorem cin_spec (n lo hi : Int) : Spec Tryz.prog 109 [.v (.int .i64 n), .v (.int .i64 lo), .v (.int .i64 hi)] (.v (.bool (inB n lo hi))) := by
  refine spec_of mixed Tryz.func109 (by decide) rfl Tryz.results109 Tryz.ntmps109 (by decide) 0 (by simp) ?_
  by_cases h1 : lo ≤ n
  · by_cases h2 : n ≤ hi <;> (simp [h1, h2]; refine answers_of rfl ?_; simp [inB, h1, h2])
  · simp [h1]; refine answers_of rfl ?_; simp [inB, h1]
def brlB (b : Brl) : Bool := inB b.kilos 1 1000 && inB b.til 0 400
theorem stored1_spec (b : Brl) : Spec Tryz.prog 184 [.agg b.cells] (.v (.bool (!brlB b))) := by
  refine spec_of mixed Tryz.func184 (by decide) rfl Tryz.results184 Tryz.ntmps184 (by decide) 0 (by simp) ?_
  simp [Brl.cells]
  refine pop_spec (cin_spec b.kilos 1 1000) rfl false (.inl (by simp)) (.inl rfl) rfl (by simp) ?_
  cases h1 : inB b.kilos 1 1000 with
  | false => simp; refine answers_of rfl ?_; simp [brlB, h1]
  | true =>
    simp
    refine pop_spec (cin_spec b.til 0 400) rfl false (.inl (by simp)) (.inl rfl) rfl (by simp) ?_
    simp
    refine answers_of rfl ?_; simp [brlB, h1]
def storedB (l : List Brl) : Bool := decide (l.length ≤ 30) && allN l.length fun k => brlB (brlAt l k)
theorem any_not {n : Nat} {p : Nat → Bool} : anyN n (fun k => !p k) = !allN n p := by
  cases h : allN n p with
  | true => rw [Bool.not_true, anyN_false]; intro k hk; simp [allN_spec.1 h k hk]
  | false =>
    rw [Bool.not_false, anyN_iff]
    cases he : anyN n (fun k => !p k) with
    | true => exact anyN_iff.1 he
    | false =>
      rw [allN_spec.2 fun k hk => by simpa using anyN_false.1 he k hk] at h; cases h
theorem stored_spec (l : List Brl) (hl : l.length ≤ 9223372036854775807) : Spec Tryz.prog 108 [.agg [brlL l]] (.v (.bool (storedB l))) := by
  refine spec_of mixed Tryz.func108 (by decide) rfl Tryz.results108 Tryz.ntmps108 (by decide) 0 (by simp) ?_
  simp [brlL]
  by_cases h : l.length ≤ 30
  · simp [show (l.length : Int) ≤ 30 from by omega]
    refine pop_spec (anyBrl_spec l hl 184 [] [] rfl rfl _ fun k hk => stored1_spec (brlAt l k)) rfl false (.inl (by simp [brlL])) (.inl rfl) rfl (by simp) ?_
    simp
    refine answers_of rfl ?_; simp [storedB, h, any_not]
  · simp [show ¬ (l.length : Int) ≤ 30 from by omega, show (30 : Int) < l.length from by omega]
    refine answers_of rfl ?_; simp [storedB, h]
theorem stored_ok {l : List Brl} (h : storedB l = true) : l.length ≤ 30 ∧ ∀ b ∈ l, (1 ≤ b.kilos ∧ b.kilos ≤ 1000) ∧ 0 ≤ b.til ∧ b.til ≤ 400 := by
  simp only [storedB, Bool.and_eq_true, decide_eq_true_eq] at h
  refine ⟨h.1, fun b hb => ?_⟩
  obtain ⟨k, hk, rfl⟩ := List.mem_iff_getElem.1 hb
  have := allN_spec.1 h.2 k hk
  rw [show brlAt l k = l[k] from by simp [brlAt, hk]] at this
  simp only [brlB, Bool.and_eq_true, inB_spec] at this
  exact this
def kilTo (l : List Brl) : Nat → Int
  | 0 => 0
  | k + 1 => kilTo l k + (brlAt l k).kilos
theorem kilTo_take (l : List Brl) : ∀ k, k ≤ l.length → kilTo l k = sumK (l.take k)
  | 0, _ => rfl
  | k + 1, hk => by
    rw [kilTo, kilTo_take l k (by omega), List.take_succ_eq_append_getElem (show k < l.length by omega), sumK_append, show l[k] = brlAt l k from by simp [brlAt, show k < l.length from by omega]]
    simp [sumK]
theorem kilTo_all (l : List Brl) : kilTo l l.length = sumK l := by rw [kilTo_take l _ (Nat.le_refl _), List.take_length]
structure KilOk (l : List Brl) : Prop where
  n : l.length ≤ 1000
  each : ∀ b ∈ l, -1000000 ≤ b.kilos ∧ b.kilos ≤ 1000000
theorem kilTo_bound {l : List Brl} (h : KilOk l) : ∀ k, k ≤ l.length → -1000000 * (k : Int) ≤ kilTo l k ∧ kilTo l k ≤ 1000000 * (k : Int)
  | 0, _ => by simp [kilTo]
  | k + 1, hk => by
    have h1 := kilTo_bound h k (by omega)
    have h2 := h.each _ (brlAt_mem (show k < l.length by omega))
    simp only [kilTo]; push_cast; omega
theorem kilos_spec (l : List Brl) (h : KilOk l) : Spec Tryz.prog 110 [brlL l] (.v (.int .i64 (sumK l))) := by
  have hn := h.n
  refine spec_of mixed Tryz.func110 (by decide) rfl Tryz.results110 Tryz.ntmps110 (by decide) 0 (by simp) ?_
  simp [brlL]
  refine pwp_loop (fun k : Nat => [(3, .v (.int .i64 (kilTo l k))), (8, .v (.int .i64 k))]) (fun k => k ≤ l.length) (fun k => l.length - k) 0 (Nat.zero_le _) (by simp; rfl) (by simp [kilTo]) ?_
  intro k hk
  by_cases hkl : k < l.length
  · have hb := kilTo_bound h (k + 1) (by omega)
    have e1 : kilTo l (k + 1) = kilTo l k + (brlAt l k).kilos := rfl
    rw [e1] at hb
    have w1 : IntKind.i64.wrap (kilTo l k + (brlAt l k).kilos) = kilTo l (k + 1) := by rw [e1]; exact i64_wrap (by omega)
    simp [hkl, Brl.cells, w1]
    refine again_of (k + 1) (by omega) (by omega) ?_
    simp [i64_wrap (show -9223372036854775808 ≤ (k : Int) + 1 ∧ _ from by omega)]
  · obtain rfl : k = l.length := by omega
    rw [kilTo_all]
    simp
    refine answers_of rfl ?_; simp
theorem good1_spec (b : Brl) (day : Int) : Spec Tryz.prog 186 [.agg b.cells, .rp [.v (.int .i64 day)] 0] (.v (.bool (decide (day ≤ b.til)))) := by
  refine spec_of mixed Tryz.func186 (by decide) rfl Tryz.results186 Tryz.ntmps186 (by decide) 0 (by simp) ?_
  simp [Brl.cells]
  refine answers_of rfl ?_; simp
theorem good_spec (l : List Brl) (day : Int) (hl : l.length ≤ 1000000) : Spec Tryz.prog 111 [brlL l, .v (.int .i64 day)] (brlL (goodL l day)) := by
  refine spec_of mixed Tryz.func111 (by decide) rfl Tryz.results111 Tryz.ntmps111 (by decide) 0 (by simp) ?_
  simp [brlL]
  refine pop_specF [(3, .undef), (6, .clo (.func 186) [] [.rp [.v (.int .i64 day)] 0])] (by simp) (partBrl_spec l hl 186 [] [.rp [.v (.int .i64 day)] 0] rfl rfl (fun b => decide (day ≤ b.til)) fun k hk => good1_spec (brlAt l k) day) rfl false (.inl (by simp [brlL])) (.inl rfl) rfl (by simp [brlL]) ?_
  simp [brlL]
  refine answers_of rfl ?_; simp [brlL, goodL]
theorem kilOk_good {l : List Brl} (h : KilOk l) (day : Int) : KilOk (goodL l day) := ⟨Nat.le_trans (List.length_filter_le _ _) h.n, fun b hb => h.each b (List.mem_filter.1 hb).1⟩
theorem kilOk_stored {l : List Brl} (h : storedB l = true) : KilOk l := by
  obtain ⟨h1, h2⟩ := stored_ok h
  exact ⟨by omega, fun b hb => by have := h2 b hb; omega⟩
theorem Has_spec (l : List Brl) (day : Int) (hl : l.length ≤ 9223372036854775807) : Spec Tryz.prog 36 [.agg [brlL l], .v (.int .i64 day)] (.tup [.v (.int .i64 (if (storedB l && inB day 0 400) = true then hasL l day else 0)), .v (.int .i64 (if (storedB l && inB day 0 400) = true then 0 else 2))]) := by
  refine spec_of mixed Tryz.func36 (by decide) rfl Tryz.results36 Tryz.ntmps36 (by decide) 0 (by simp) ?_
  simp [brlL]
  refine pop_spec (stored_spec l hl) rfl false (.inl (by simp [brlL])) (.inl rfl) rfl (by simp) ?_
  cases h : storedB l with
  | false => simp; refine answers_of rfl ?_; simp
  | true =>
    have hk := kilOk_stored h
    have hn := hk.n
    simp
    refine pop_spec (cin_spec day 0 400) rfl false (.inl (by simp)) (.inl rfl) rfl (by simp) ?_
    cases h2 : inB day 0 400 with
    | false => simp; refine answers_of rfl ?_; simp
    | true =>
      simp
      refine pop_spec (good_spec l day (by omega)) rfl false (.inl (by simp [brlL])) (.inl rfl) rfl (by simp [brlL]) ?_
      simp [brlL]
      refine pop_spec (kilos_spec (goodL l day) (kilOk_good hk day)) rfl false (.inl (by simp [brlL])) (.inl rfl) rfl (by simp) ?_
      simp
      refine answers_of rfl ?_; simp [hasL]
end
end Go.Qg.Ch

namespace Go.Qg
open Go.Proofs
set_option maxRecDepth 100000
set_option maxHeartbeats 32000000
set_option linter.unusedSimpArgs false
attribute [local irreducible] pwp pops pdraw pop popCall pdCall thenP blockP scopeP pspec Spec answers ppost CallW rend
theorem lt3k {p : Nat → Prop} (h0 : p 0) (h1 : p 1) (h2 : p 2) : ∀ k, k < 3 → p k := fun k hk => by
  obtain rfl | rfl | rfl : k = 0 ∨ k = 1 ∨ k = 2 := by omega
  · exact h0
  · exact h1
  · exact h2
def knC : Chn := ⟨[⟨[⟨480, 600⟩], 0⟩, ⟨[⟨500, 560⟩, ⟨640, 700⟩], 10⟩, ⟨[⟨520, 580⟩, ⟨690, 760⟩], 0⟩], [⟨30, 40⟩, ⟨20, 50⟩]⟩
theorem knC_spec : Spec Tryz.prog 34 [] (.agg knC.cells) := by
  refine spec_of mixed Tryz.func34 (by decide) rfl Tryz.results34 Tryz.ntmps34 (by decide) 0 (by simp) ?_
  simp
  refine answers_of (x := .agg [.own 12 0 0 3 false, .own 15 0 0 2 false]) (by simp) ?_
  simp [knC, Chn.cells, hstL, spnL]
  refine ⟨lt3k ?_ ?_ ?_, lt2 ?_ ?_⟩
  · simp [hstAt, Hst.cells, spnL]
    simp [spnAt, Spn.cells]
  · simp [hstAt, Hst.cells, spnL]
    refine lt2 ?_ ?_ <;> simp [spnAt, Spn.cells]
  · simp [hstAt, Hst.cells, spnL]
    refine lt2 ?_ ?_ <;> simp [spnAt, Spn.cells]
  · simp [spnAt, Spn.cells]
  · simp [spnAt, Spn.cells]
theorem open_one {a : Spn} {t : Int} : openB [a] t = true ↔ a.low ≤ t ∧ t ≤ a.high := by
  simp [openB, allN, spnAt, inB]
theorem open_two {a b : Spn} {t : Int} : openB [a, b] t = true ↔ (a.low ≤ t ∧ t ≤ a.high) ∨ (b.low ≤ t ∧ t ≤ b.high) := by
  simp [openB, allN, spnAt, inB, List.range, List.range.loop]
theorem failN_neg {p : Int → Bool} : ∀ {n : Nat} {d : Int}, 0 ≤ d → (failN p n d < 0 ↔ ∀ k : Nat, k < n → p (d + k) = true)
  | 0, d, _ => by simp [failN]
  | n + 1, d, hd => by
    have ih := failN_neg (p := p) (n := n) (d := d + 1) (by omega)
    unfold failN
    cases hp : p d with
    | true =>
      rw [if_pos rfl, ih]
      constructor
      · intro h k hk
        cases k with
        | zero => simpa using hp
        | succ k =>
          have := h k (by omega)
          rwa [show d + 1 + (k : Int) = d + ((k + 1 : Nat) : Int) from by omega] at this
      · intro h k hk
        have := h (k + 1) (by omega)
        rwa [show d + ((k + 1 : Nat) : Int) = d + 1 + (k : Int) from by omega] at this
    | false =>
      rw [if_neg (by simp)]
      constructor
      · intro h; omega
      · intro h
        have := h 0 (by omega)
        simp [hp] at this
theorem fails_neg {c : Chn} {f : Nat → Bool} {stop : Nat} {m : Int} (h0 : 0 ≤ (spnAt c.legs stop).low) : failsI c f stop m < 0 ↔ ∀ d, (spnAt c.legs stop).low ≤ d → d ≤ (spnAt c.legs stop).high → goesB c f stop (m + d) = true := by
  rw [failsI, failN_neg h0]
  constructor
  · intro h d h1 h2
    have := h (d - (spnAt c.legs stop).low).toNat (by omega)
    rwa [show (spnAt c.legs stop).low + ((d - (spnAt c.legs stop).low).toNat : Int) = d from by omega] at this
  · intro h k hk
    exact h _ (by omega) (by omega)
theorem fromN_pos {f : Nat → Bool} : ∀ {n t : Nat}, 0 ≤ fromN f n t ↔ ∃ u, t ≤ u ∧ u < t + n ∧ f u = true
  | 0, t => by
    simp only [fromN]
    constructor
    · intro h; omega
    · rintro ⟨u, h1, h2, _⟩; omega
  | n + 1, t => by
    have ih := fromN_pos (f := f) (n := n) (t := t + 1)
    unfold fromN
    cases hf : f t with
    | true =>
      simp only [if_true]
      exact ⟨fun _ => ⟨t, by omega, by omega, hf⟩, fun _ => by omega⟩
    | false =>
      simp only [Bool.false_eq_true, if_false]
      rw [ih]
      constructor
      · rintro ⟨u, h1, h2, h3⟩; exact ⟨u, by omega, by omega, h3⟩
      · rintro ⟨u, h1, h2, h3⟩
        refine ⟨u, ?_, by omega, h3⟩
        rcases Nat.lt_or_eq_of_le h1 with h | rfl
        · exact h
        · rw [hf] at h3; cases h3
theorem fromI_pos {f : Nat → Bool} {s : Int} (hs : 0 ≤ s) : 0 ≤ fromI f s ↔ ∃ u : Nat, s ≤ u ∧ u < 1441 ∧ f u = true := by
  rw [fromI, fromN_pos]
  constructor
  · rintro ⟨u, h1, h2, h3⟩
    refine ⟨u, by omega, ?_, h3⟩
    omega
  · rintro ⟨u, h1, h2, h3⟩
    exact ⟨u, by omega, by omega, h3⟩
theorem k_good1 (u : Nat) : goodR knC 1 1 u = true ↔ (500 ≤ u ∧ u ≤ 530) ∨ (670 ≤ u ∧ u ≤ 700) := by
  have e : goodR knC 1 1 u = (openB (hstAt knC.stops 1).windows u && decide (failsI knC (goodR knC 0 2) 1 u < 0)) := rfl
  rw [e, Bool.and_eq_true, decide_eq_true_eq, fails_neg (by decide)]
  rw [show (hstAt knC.stops 1).windows = [⟨500, 560⟩, ⟨640, 700⟩] from rfl, open_two]
  have g : ∀ d, goesB knC (goodR knC 0 2) 1 d = true ↔ (520 ≤ d ∧ d ≤ 580) ∨ (690 ≤ d ∧ d ≤ 760) := fun d => by
    rw [goesB, Bool.and_eq_true, show (hstAt knC.stops (1 + 1)).windows = [⟨520, 580⟩, ⟨690, 760⟩] from rfl, open_two]
    simp [knC]
  simp only [g]
  rw [show (spnAt knC.legs 1).low = 20 from rfl, show (spnAt knC.legs 1).high = 50 from rfl]
  constructor
  · rintro ⟨h1, h2⟩
    have a := h2 20 (by omega) (by omega)
    have b := h2 50 (by omega) (by omega)
    omega
  · intro h
    refine ⟨by omega, fun d h1 h2 => by omega⟩
theorem k_good0 (t : Nat) : goodR knC 2 0 t = true ↔ 480 ≤ t ∧ t ≤ 520 := by
  have e : goodR knC 2 0 t = (openB (hstAt knC.stops 0).windows t && decide (failsI knC (goodR knC 1 1) 0 t < 0)) := rfl
  rw [e, Bool.and_eq_true, decide_eq_true_eq, fails_neg (by decide)]
  rw [show (hstAt knC.stops 0).windows = [⟨480, 600⟩] from rfl, open_one]
  have g : ∀ d : Int, 0 ≤ d → (goesB knC (goodR knC 1 1) 0 d = true ↔ ((500 ≤ d ∧ d ≤ 560) ∨ (640 ≤ d ∧ d ≤ 700)) ∧ d + 10 ≤ 700) := fun d hd => by
    rw [goesB, Bool.and_eq_true, show (hstAt knC.stops (0 + 1)).windows = [⟨500, 560⟩, ⟨640, 700⟩] from rfl, open_two, show (hstAt knC.stops (0 + 1)).turn = 10 from rfl]
    simp only [show decide (0 + 1 = knC.legs.length) = false from rfl, Bool.false_or, decide_eq_true_eq]
    rw [fromI_pos (by omega)]
    simp only [k_good1]
    constructor
    · rintro ⟨h1, u, h2, h3, h4⟩
      exact ⟨h1, by omega⟩
    · rintro ⟨h1, h2⟩
      exact ⟨h1, 700, by omega, by omega, by omega⟩
  rw [show (spnAt knC.legs 0).low = 30 from rfl, show (spnAt knC.legs 0).high = 40 from rfl]
  constructor
  · rintro ⟨h1, h2⟩
    have h1 : (480 : Int) ≤ t ∧ (t : Int) ≤ 600 := h1
    have a := (g _ (by omega)).1 (h2 30 (by omega) (by omega))
    have b := (g _ (by omega)).1 (h2 40 (by omega) (by omega))
    omega
  · intro h
    refine ⟨show (480 : Int) ≤ t ∧ (t : Int) ≤ 600 from by omega, fun d h1 h2 => (g _ (by omega)).2 (by omega)⟩
theorem spans_one {f : Nat → Bool} {a b : Nat} (hf : ∀ t, f t = true ↔ a ≤ t ∧ t ≤ b) (hab : a ≤ b) : ∀ k : Nat, spansP f k = if k ≤ a then [] else if k ≤ b + 1 then [⟨a, (k : Int) - 1⟩] else [⟨a, b⟩]
  | 0 => by simp [spansP]
  | k + 1 => by
    have ih := spans_one hf hab k
    unfold spansP
    by_cases h1 : k < a
    · have : f k = false := by
        cases h : f k with
        | false => rfl
        | true => have := (hf k).1 h; omega
      rw [this, ih, if_pos (show k ≤ a by omega), if_pos (show k + 1 ≤ a by omega)]
      simp
    · by_cases h2 : k ≤ b
      · rw [(hf k).2 ⟨by omega, h2⟩, ih, if_neg (show ¬ k + 1 ≤ a by omega), if_pos (show k + 1 ≤ b + 1 by omega)]
        by_cases h3 : k = a
        · subst h3
          simp
        · rw [if_neg (show ¬ k ≤ a by omega), if_pos (show k ≤ b + 1 by omega)]
          simp [lastS, spnAt]
      · have : f k = false := by
          cases h : f k with
          | false => rfl
          | true => have := (hf k).1 h; omega
        rw [this, ih, if_neg (show ¬ k ≤ a by omega), if_neg (show ¬ k + 1 ≤ a by omega), if_neg (show ¬ k + 1 ≤ b + 1 by omega)]
        by_cases h3 : k ≤ b + 1
        · rw [if_pos h3]
          simp
          omega
        · rw [if_neg h3]
          simp
theorem k_spans : spansP (goodR knC 2 0) 1441 = [⟨480, 520⟩] := by
  rw [spans_one (a := 480) (b := 520) (fun t => k_good0 t) (by omega) 1441, if_neg (by omega), if_neg (by omega)]
  rfl
theorem knC_mem : ChnMem knC := by
  refine ⟨by simp [knC], by simp [knC], ?_⟩
  exact lt3k (by simp [knC, hstAt]) (by simp [knC, hstAt]) (by simp [knC, hstAt])
theorem k_depart : departR knC = .tup [departL knC, .v (.int .i64 0)] := by
  rw [departR, if_pos (by decide)]
theorem ext_spn4 {a b : List Spn} (hl : a.length = b.length) (h : ∀ j, j < b.length → spnAt a j = spnAt b j) : a = b := by
  refine List.ext_getElem hl fun i h1 h2 => ?_
  have := h i h2
  simpa [spnAt, List.getD, h1, h2] using this
theorem t4SameSpans_spec (a b : List Spn) (ha : a.length ≤ 9223372036854775807) (hb : b.length ≤ 9223372036854775807) : Spec Tryz.prog 37 [spnL a, spnL b] (.v (.bool (decide (a = b)))) := by
  refine spec_of mixed Tryz.func37 (by decide) rfl Tryz.results37 Tryz.ntmps37 (by decide) 0 (by simp) ?_
  simp [spnL]
  by_cases hl : a.length = b.length
  · simp [hl]
    refine pwp_loop (fun k : Nat => [(5, .v (.int .i64 k))]) (fun k => k ≤ b.length ∧ ∀ j, j < k → spnAt a j = spnAt b j) (fun k => b.length - k) 0 ⟨Nat.zero_le _, fun j hj => by omega⟩ (by simp; rfl) (by simp [hl]) ?_
    intro k ⟨hk, hp⟩
    by_cases hkl : k < b.length
    · have wk := i64_wrap (show -9223372036854775808 ≤ (k : Int) + 1 ∧ _ from by omega)
      simp [hkl, hl]
      refine pwp_draw 9 (by decide) ?_
      by_cases he : spnAt a k = spnAt b k
      · simp [hkl, hl, he, Spn.cells]
        refine ⟨by decide, ?_⟩
        refine again_of (k + 1) ⟨by omega, fun j hj => ?_⟩ (by omega) ?_
        · rcases Nat.lt_succ_iff_lt_or_eq.1 hj with hj | rfl
          · exact hp j hj
          · exact he
        · simp [wk, hl]
      · have hne : ¬ a = b := fun h => he (by rw [h])
        rw [Spn.eq_iff] at he
        by_cases h1 : (spnAt a k).low = (spnAt b k).low
        · have h2 : ¬ (spnAt a k).high = (spnAt b k).high := fun h => he ⟨h1, h⟩
          simp [hkl, hl, h1, h2, Spn.cells]
          refine ⟨by decide, ?_⟩
          refine answers_of rfl ?_; simp [hne]
        · simp [hkl, hl, h1, Spn.cells]
          refine ⟨by decide, ?_⟩
          refine answers_of rfl ?_; simp [hne]
    · simp [hkl]
      have heq : a = b := ext_spn4 hl fun j hj => hp j (by omega)
      refine answers_of rfl ?_; simp [heq]
  · simp [show ¬ (a.length : Int) = b.length from by omega]
    have hne : ¬ a = b := fun h => hl (by rw [h])
    refine answers_of rfl ?_; simp [hne]
theorem ext_geti' {a b : List Int} (hl : a.length = b.length) (h : ∀ j, j < b.length → geti a j = geti b j) : a = b := by
  refine List.ext_getElem hl fun i h1 h2 => ?_
  have := h i h2
  simpa [geti, List.getD, h1, h2] using this
theorem t8Same_spec (a b : List Int) (ha : a.length ≤ 9223372036854775807) (hb : b.length ≤ 9223372036854775807) : Spec Tryz.prog 38 [ints a, ints b] (.v (.bool (decide (a = b)))) := by
  refine spec_of mixed Tryz.func38 (by decide) rfl Tryz.results38 Tryz.ntmps38 (by decide) 0 (by simp) ?_
  simp [ints]
  by_cases hl : a.length = b.length
  · simp [hl]
    refine pwp_loop (fun k : Nat => [(5, .v (.int .i64 k))]) (fun k => k ≤ b.length ∧ ∀ j, j < k → geti a j = geti b j) (fun k => b.length - k) 0 ⟨Nat.zero_le _, fun j hj => by omega⟩ (by simp; rfl) (by simp [hl]) ?_
    intro k ⟨hk, hp⟩
    by_cases hkl : k < b.length
    · have wk := i64_wrap (show -9223372036854775808 ≤ (k : Int) + 1 ∧ _ from by omega)
      simp [hkl, hl]
      refine pwp_draw 9 (by decide) ?_
      by_cases he : geti a k = geti b k
      · simp [hkl, hl, he]
        refine ⟨by decide, ?_⟩
        refine again_of (k + 1) ⟨by omega, fun j hj => ?_⟩ (by omega) ?_
        · rcases Nat.lt_succ_iff_lt_or_eq.1 hj with hj | rfl
          · exact hp j hj
          · exact he
        · simp [wk, hl]
      · simp [hkl, hl, he]
        refine ⟨by decide, ?_⟩
        have hne : ¬ a = b := fun h => he (by rw [h])
        refine answers_of rfl ?_; simp [hne]
    · simp [hkl]
      have heq : a = b := ext_geti' hl fun j hj => hp j (by omega)
      refine answers_of rfl ?_; simp [heq]
  · simp [show ¬ (a.length : Int) = b.length from by omega]
    have hne : ¬ a = b := fun h => hl (by rw [h])
    refine answers_of rfl ?_; simp [hne]
theorem k_share : Fr.lengthsE 1000 [1, 1, 1] = 0 ∧ Fr.shareL 1000 [1, 1, 1] = [333, 333, 334] := by
  constructor <;> kernel_rfl
theorem k_has : (Ch.storedB [⟨100, 9⟩, ⟨80, 2⟩] && inB 3 0 400) = true ∧ Ch.hasL [⟨100, 9⟩, ⟨80, 2⟩] 3 = 100 := by
  constructor <;> kernel_rfl
theorem known11_spec : Spec Tryz.prog 8 [] (.v (.bool true)) := by
  have hfuel := Fuel_spec knP knT knP_fit knT_fit
  rw [k_fuel] at hfuel
  have hdep := Depart_spec knC knC_mem
  rw [k_depart] at hdep
  have hshare := Fr.Share_spec 1000 [1, 1, 1] (by simp)
  rw [if_pos k_share.1, k_share.1, k_share.2] at hshare
  have hhas := Ch.Has_spec [⟨100, 9⟩, ⟨80, 2⟩] 3 (by simp)
  have hb : (Ch.storedB [⟨100, 9⟩, ⟨80, 2⟩] && inB 3 0 400) = true := k_has.1
  rw [if_pos hb, if_pos hb, k_has.2] at hhas
  have hss := t4SameSpans_spec [⟨480, 520⟩] [⟨480, 520⟩] (by simp) (by simp)
  have hs := t8Same_spec [333, 333, 334] [333, 333, 334] (by simp) (by simp)
  have pP : plainL knP.cells = true := by simp [Pln.cells, plainL, PV.plain, cnrL, stnL]
  have oP : (∀ (x : PV), x ∈ knP.cells → x.one = true) ↔ True := ⟨fun _ => trivial, fun _ => by simp [Pln.cells, cnrL, stnL]⟩
  have pT : (PV.sl 7 knT.length fun i => (legAt knT i).cells).plain = true := by simp [PV.plain]
  have hT := lT_spec
  simp only [legL] at hT hfuel
  refine spec_of mixed Tryz.func8 (by decide) rfl Tryz.results8 Tryz.ntmps8 (by decide) 0 (by simp) ?_
  simp
  refine pop_spec lP_spec rfl false (.inl (by simp)) (.inl rfl) rfl (by simp) ?_
  simp
  refine pop_spec hT rfl false (.inl (by simp)) (.inl rfl) rfl (by simp) ?_
  simp
  refine pop_spec hfuel rfl false (.inl (by simp [vwAll_plain pP, vw_plain pT, oP])) (.inl rfl) rfl (by simp) ?_
  simp
  refine pop_spec knC_spec rfl false (.inl (by simp)) (.inl rfl) rfl (by simp) ?_
  simp
  refine pop_spec hdep rfl false (.inl (by simp [Chn.cells, hstL, spnL])) (.inl rfl) rfl (by simp [departL]) ?_
  simp [departL]
  refine pop_specF [(10, .undef), (16, .undef), (21, Fr.ints [1, 1, 1])] ?_ hshare rfl false (.inl (by simp [Fr.ints])) (.inl rfl) rfl (by simp [Fr.ints]) ?_
  · simp [Fr.ints]
    refine lt3k ?_ ?_ ?_ <;> simp [Fr.geti]
  simp [Fr.ints]
  refine pop_specF [(28, Ch.brlL [⟨100, 9⟩, ⟨80, 2⟩]), (29, .agg [Ch.brlL [⟨100, 9⟩, ⟨80, 2⟩]])] ?_ hhas rfl false (.inl (by simp [Ch.brlL])) (.inl rfl) rfl (by simp [Ch.brlL]) ?_
  · simp [Ch.brlL, Fr.ints, Fr.geti, spnL]
    refine ⟨?_, ?_⟩ <;> (refine lt2 ?_ ?_ <;> simp [Ch.brlAt, Ch.Brl.cells])
  have hc2 : knC.legs.length = 2 := rfl
  have eS : spnL (spansP (goodR knC 2 0) 1441) = spnL [⟨480, 520⟩] := by rw [k_spans]
  simp only [spnL] at eS hss
  simp [Ch.brlL, hc2, eS]
  refine pop_specF [(61, .sl 2 1 fun i => (spnAt [⟨480, 520⟩] i).cells)] ?_ hss rfl false (.inl ?_) (.inl rfl) rfl (by simp) ?_
  · simp [Fr.ints, Fr.geti, Ch.brlL, spnL]
    simp [spnAt, Spn.cells]
  · simp [hc2, eS, spnL]
  simp
  simp only [ints] at hs
  refine pop_specF [(66, .sl 1 3 fun i => [.v (.int .i64 (geti [333, 333, 334] i))])] ?_ hs rfl false (.inl ?_) (.inl rfl) rfl (by simp) ?_
  · simp [Fr.ints, Fr.geti, Ch.brlL, spnL]
    refine lt3k ?_ ?_ ?_ <;> simp [geti]
  · simp [Fr.geti, geti]
  simp
  refine answers_of rfl ?_
  simp
end Go.Qg
