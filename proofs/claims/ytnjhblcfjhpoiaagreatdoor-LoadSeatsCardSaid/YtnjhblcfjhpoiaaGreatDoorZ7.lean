/-
  Lemmas and contracts that hold of the whole program: 14 texts in one.
  No condition.
-/
import Derived.Test.YtnjhblcfjhpoiaaGreatDoorZ6
import Derived.KernelRfl
set_option linter.all false

namespace Go.Qg
open Go.Proofs
set_option maxRecDepth 100000
set_option maxHeartbeats 32000000
set_option linter.unusedSimpArgs false
attribute [local irreducible] pwp pops pdraw pop popCall pdCall thenP blockP scopeP pspec Spec answers ppost CallW rend
structure PntLen (X : Pnt) : Prop where
  i : X.items.length ≤ 9223372036854775807
  w : X.water.length ≤ 9223372036854775807
def watersB (X : Pnt) : Bool := allN X.water.length fun k => spanB (spnAt X.water k) 0 120000
def pointB (P : Pln) (X : Pnt) : Bool := itemsB X.items P.stations.length && spanB X.tank (-120000) 140000 && decide (X.water.length = P.floats.length) && watersB X
def rightB (P : Pln) (X : Pnt) : Bool := validB P && pointB P X
theorem itemsB_spec {l : List Itm} {ns : Nat} : itemsB l ns = true ↔ l.length ≤ 12 ∧ ∀ i, i < l.length → (0 ≤ (itmAt l i).station ∧ (itmAt l i).station < ns) ∧ 0 ≤ (itmAt l i).low ∧ (itmAt l i).low ≤ (itmAt l i).high ∧ (itmAt l i).high ≤ 20000 := by
  simp only [itemsB, Bool.and_eq_true, decide_eq_true_eq, allN_spec, itmB, inB_spec, spanB_spec]
  constructor
  · rintro ⟨h1, h2⟩
    exact ⟨h1, fun i hi => by have := h2 i hi; omega⟩
  · rintro ⟨h1, h2⟩
    exact ⟨h1, fun i hi => by have := h2 i hi; omega⟩
theorem point_ok {P : Pln} {X : Pnt} : pointB P X = true ↔ PntOk P X := by
  simp only [pointB, Bool.and_eq_true, decide_eq_true_eq, itemsB_spec, spanB_spec, watersB, allN_spec]
  constructor
  · rintro ⟨⟨⟨⟨h1, h2⟩, h3⟩, h4⟩, h5⟩
    exact ⟨h1, h2, h3, h4, h5⟩
  · intro h
    exact ⟨⟨⟨⟨h.n, h.item⟩, h.tank⟩, h.nw⟩, h.water⟩
theorem right_ok {P : Pln} {X : Pnt} : rightB P X = true ↔ PlnOk P ∧ PntOk P X := by
  rw [rightB, Bool.and_eq_true, valid_ok, point_ok]
theorem right_spec (P : Pln) (X : Pnt) (hP : PlnLen P) (hX : PntLen X) : Spec Tryz.prog 82 [.agg (pntC P X)] (.v (.bool (rightB P X))) := by
  have l1 := hX.i
  have l2 := hX.w
  have l3 := hP.s
  have hv := valid_spec P hP
  have hpc : pntC P X = [.v (.int .i64 P.empty), .v (.int .i64 P.moment), .v (.int .i64 P.takeoff), .v (.int .i64 P.landing), cnrL P.corners, stnL P.stations, .v (.int .i64 P.tank.arm), .v (.int .i64 P.tank.most), .v (.int .i64 P.reserve), stnL P.floats, itmL X.items, .v (.int .i64 X.tank.low), .v (.int .i64 X.tank.high), spnL X.water, .v (.bool X.landing)] := rfl
  refine spec_of mixed Tryz.func82 (by decide) rfl Tryz.results82 Tryz.ntmps82 (by decide) 0 (by simp) ?_
  simp [hpc, cnrL, stnL, itmL, spnL]
  refine pop_spec (allSpn_spec X.water l2 112 [] [] rfl rfl (fun k => spanB (spnAt X.water k) 0 120000) fun k hk => right1_spec (spnAt X.water k)) rfl false (.inl (by simp [spnL])) (.inl rfl) rfl (by simp) ?_
  simp
  refine pop_spec hv rfl false (.inl (by simp [Pln.cells, cnrL, stnL])) (.inl rfl) rfl (by simp) ?_
  cases h1 : validB P with
  | false => simp; refine answers_of rfl ?_; simp [rightB, h1]
  | true =>
  simp
  refine pop_spec (litems_spec X.items P.stations.length l1 (by omega)) rfl false (.inl (by simp [itmL])) (.inl rfl) rfl (by simp) ?_
  cases h2 : itemsB X.items P.stations.length with
  | false => simp; refine answers_of rfl ?_; simp [rightB, pointB, h2]
  | true =>
  simp
  refine pop_spec (lspan_spec X.tank (-120000) 140000) rfl false (.inl (by simp [Spn.cells])) (.inl rfl) rfl (by simp) ?_
  cases h3 : spanB X.tank (-120000) 140000 with
  | false => simp; refine answers_of rfl ?_; simp [rightB, pointB, h3]
  | true =>
  by_cases h4 : X.water.length = P.floats.length
  · simp [h4]
    refine answers_of rfl ?_; simp [rightB, pointB, h1, h2, h3, h4, watersB]
  · simp [h4, show ¬ (X.water.length : Int) = P.floats.length from by omega]
    refine answers_of rfl ?_; simp [rightB, pointB, h4]
def sureRes (P : Pln) (X : Pnt) : PV := if rightB P X = true then (if (brokenP P X).1 = 1 then .tup [.v (.int .i64 1), .v (.int .i64 0), .agg (Cse.mk [] 0 []).cells, .v (.int .i64 0)] else .tup [.v (.int .i64 (brokenP P X).1), .v (.int .i64 (brokenP P X).2), .agg (worstC P X (brokenP P X).1 (brokenP P X).2).cells, .v (.int .i64 0)])
  else .tup [.v (.int .i64 0), .v (.int .i64 0), .agg (Cse.mk [] 0 []).cells, .v (.int .i64 2)]
theorem broken_in (P : Pln) (X : Pnt) : (brokenP P X).1 = 1 ∨ (2 ≤ (brokenP P X).1 ∧ (brokenP P X).1 ≤ 7) ∧ (brokenP P X).2 < manyR P (brokenP P X).1 := by
  unfold brokenP
  rcases brokenF_spec (p := canB P X) (many := manyR P) 6 2 with ⟨h1, _⟩ | ⟨q, i, h1, h2, h3, _⟩
  · rw [h1]; exact .inl rfl
  · rw [h1]; exact .inr ⟨by simp only; omega, h3⟩
theorem Sure_spec (P : Pln) (X : Pnt) (hP : PlnLen P) (hX : PntLen X) : Spec Tryz.prog 36 [.agg P.cells, .agg X.cells] (sureRes P X) := by
  have hr := right_spec P X hP hX
  unfold sureRes
  refine spec_of mixed Tryz.func36 (by decide) rfl Tryz.results36 Tryz.ntmps36 (by decide) 0 (by simp) ?_
  simp [Pln.cells, cnrL, stnL, Pnt.cells, itmL, spnL]
  refine pop_spec hr rfl false (.inl (by simp [pntC, cnrL, stnL, itmL, spnL])) (.inl rfl) rfl (by simp) ?_
  cases h : rightB P X with
  | false =>
    simp
    refine answers_of (x := .tup [.v (.int .i64 0), .v (.int .i64 0), .agg [.nil, .v (.int .i64 0), .nil], .v (.int .i64 2)]) (by simp) ?_
    simp [Cse.cells, ints]
  | true =>
    obtain ⟨k1, k2⟩ := right_ok.1 h
    have hb := broken_spec P X k1 k2
    have hin := broken_in P X
    have hw := fun h1 h2 => worst_spec P X k1 k2 (brokenP P X).1 (brokenP P X).2 h1 h2
    generalize brokenP P X = br at *
    obtain ⟨r, i⟩ := br
    simp only at hb hin hw
    simp
    refine pop_spec hb rfl false (.inl (by simp [pntC, cnrL, stnL, itmL, spnL])) (.inl rfl) rfl (by simp) ?_
    by_cases hr1 : r = 1
    · subst hr1
      simp
      refine answers_of (x := .tup [.v (.int .i64 1), .v (.int .i64 0), .agg [.nil, .v (.int .i64 0), .nil], .v (.int .i64 0)]) (by simp) ?_
      simp [Cse.cells, ints]
    · have hin2 := hin.resolve_left hr1
      have hws := hw hin2.1 hin2.2
      simp only [Cse.cells, ints] at hws
      simp [hr1, show ¬ (r : Int) = 1 from by omega]
      refine pop_spec hws rfl false (.inl (by simp [pntC, cnrL, stnL, itmL, spnL])) (.inl rfl) rfl (by simp) ?_
      simp
      refine answers_of (x := .tup [.v (.int .i64 r), .v (.int .i64 i), .agg (worstC P X r i).cells, .v (.int .i64 0)]) (by simp [Cse.cells, ints]) ?_
      simp [Cse.cells, ints]
def firstRes (P : Pln) (fuel : Spn) (legs : List Leg) : PV := match tripP P fuel legs with
  | some j => .tup [.v (.int .i64 j), .v (.int .i64 (brokenP P (ptOf P fuel legs j)).1), .v (.int .i64 (brokenP P (ptOf P fuel legs j)).2)]
  | none => .tup [.v (.int .i64 (-1)), .v (.int .i64 1), .v (.int .i64 0)]
theorem pntAt_ptsL {P : Pln} {fuel : Spn} {legs : List Leg} {n j : Nat} (h : j < n) : pntAt (ptsL P fuel legs n) j = ptOf P fuel legs j := by simp [pntAt, ptsL, h]
@[simp] theorem wrap_m1' : IntKind.i64.wrap (-1) = -1 := i64_wrap (by omega)
theorem first_spec (P : Pln) (fuel : Spn) (legs : List Leg) (hP : PlnOk P) (hT : TripOk P fuel legs) : Spec Tryz.prog 67 [.agg P.cells, .agg fuel.cells, legL legs] (firstRes P fuel legs) := by
  have hn := hT.n
  have hp := points_spec P fuel legs hP.nf hT
  have hat := fun j (h : j < 2 * legs.length) => pntAt_ptsL (P := P) (fuel := fuel) (legs := legs) h
  have hok := fun j (h : j < 2 * legs.length) => ptOf_ok hT h
  have hlen := ptsL_length P fuel legs (2 * legs.length)
  have hres : ∀ j, j < 2 * legs.length → sureB P (ptOf P fuel legs j) = false → (∀ i, i < j → sureB P (ptOf P fuel legs i) = true) → firstRes P fuel legs = .tup [.v (.int .i64 j), .v (.int .i64 (brokenP P (ptOf P fuel legs j)).1), .v (.int .i64 (brokenP P (ptOf P fuel legs j)).2)] := fun j h1 h2 h3 => by
    have : tripP P fuel legs = some j := fstN_some.2 ⟨h1, by simp [h2], fun k hk => by simp [h3 k hk]⟩
    simp [firstRes, this]
  have hres0 : (∀ i, i < 2 * legs.length → sureB P (ptOf P fuel legs i) = true) → firstRes P fuel legs = .tup [.v (.int .i64 (-1)), .v (.int .i64 1), .v (.int .i64 0)] := fun h => by
    have : tripP P fuel legs = none := fstN_none.2 fun k hk => by simp [h k hk]
    simp [firstRes, this]
  generalize firstRes P fuel legs = R at *
  generalize ptsL P fuel legs (2 * legs.length) = L at *
  refine spec_of mixed Tryz.func67 (by decide) rfl Tryz.results67 Tryz.ntmps67 (by decide) 0 (by simp) ?_
  simp [Pln.cells, cnrL, stnL, Spn.cells, legL]
  refine pop_spec hp rfl false (.inl (by simp [Pln.cells, cnrL, stnL, Spn.cells, legL])) (.inl rfl) rfl (by simp [pntL]) ?_
  simp [pntL, hlen]
  refine pwp_loop (fun k : Nat => [(18, .v (.int .i64 k))]) (fun k => k ≤ 2 * legs.length ∧ ∀ i, i < k → sureB P (ptOf P fuel legs i) = true) (fun k => 2 * legs.length - k) 0 ⟨Nat.zero_le _, fun i hi => by omega⟩ (by simp; rfl) (by simp [hlen]) ?_
  intro k ⟨hk, hq⟩
  by_cases hkl : k < 2 * legs.length
  · have wk := i64_wrap (show -9223372036854775808 ≤ (k : Int) + 1 ∧ _ from by omega)
    have hb := broken_spec P (ptOf P fuel legs k) hP (hok k hkl)
    have hX : pntC P (ptOf P fuel legs k) = pntC P (pntAt L k) := by rw [hat k hkl]
    rw [hX] at hb
    have hs : sureB P (ptOf P fuel legs k) = decide ((brokenP P (ptOf P fuel legs k)).1 = 1) := rfl
    have hr := hres k hkl
    generalize brokenP P (ptOf P fuel legs k) = br at *
    obtain ⟨r, i⟩ := br
    simp only at hb hs hr
    simp (config := { maxSteps := 4000000 }) [show (k : Int) < 2 * (legs.length : Int) from by omega, hlen, show k < L.length from by omega, hkl, Pnt.cells, itmL, spnL]
    refine pop_spec hb rfl false (.inl (by simp [pntC, cnrL, stnL, itmL, spnL])) (.inl rfl) rfl (by simp) ?_
    by_cases hr1 : r = 1
    · subst hr1
      simp
      refine again_of (k + 1) ⟨by omega, fun j hj => ?_⟩ (by omega) ?_
      · rcases Nat.lt_or_eq_of_le (Nat.le_of_lt_succ hj) with h' | rfl
        · exact hq j h'
        · rw [hs]; rfl
      · simp [wk, hlen]
    · simp [hr1, show ¬ (r : Int) = 1 from by omega]
      refine answers_of rfl ?_
      rw [hr (by rw [hs]; simp [hr1]) hq]
      simp
  · obtain rfl : k = 2 * legs.length := by omega
    simp [hlen]
    refine answers_of rfl ?_
    rw [hres0 hq]
    simp
def tripRes (P : Pln) (fuel : Spn) (legs : List Leg) : PV := if trippedE P fuel legs = 0 then (match tripP P fuel legs with
  | some j => .tup [.v (.int .i64 j), .v (.int .i64 (brokenP P (ptOf P fuel legs j)).1), .v (.int .i64 (brokenP P (ptOf P fuel legs j)).2), .v (.int .i64 0)]
  | none => .tup [.v (.int .i64 (-1)), .v (.int .i64 1), .v (.int .i64 0), .v (.int .i64 0)]) else .tup [.v (.int .i64 0), .v (.int .i64 0), .v (.int .i64 0), .v (.int .i64 (trippedE P fuel legs))]
theorem legsB_ok {P : Pln} {legs : List Leg} (h : (allN legs.length fun k => legB P.stations.length (legAt legs k)) = true) : ∀ i, i < legs.length → LegOk P (legAt legs i) := fun i hi => by
  have := allN_spec.1 h i hi
  simp only [legB, Bool.and_eq_true, itemsB_spec, inB_spec, spanB_spec] at this
  obtain ⟨⟨⟨⟨h1, h2⟩, h3⟩, h4⟩, h5⟩ := this
  exact ⟨h1, h2, h3, h4, h5⟩
theorem tripped_ok {P : Pln} {fuel : Spn} {legs : List Leg} : trippedE P fuel legs = 0 ↔ PlnOk P ∧ TripOk P fuel legs := by
  unfold trippedE
  constructor
  · intro h
    split at h
    · omega
    · rename_i h1
      split at h
      · rename_i h2
        simp only [tripE, if_neg h1] at h
        split at h
        · omega
        · rename_i h3
          have a1 : ¬ legs.length = 0 := fun e => h3 (.inl e)
          have a2 : spanB fuel 0 20000 = true := by
            cases he : spanB fuel 0 20000 with
            | true => rfl
            | false => exact (h3 (.inr (.inl he))).elim
          have a3 : (allN legs.length fun k => legB P.stations.length (legAt legs k)) = true := by
            cases he : allN legs.length fun k => legB P.stations.length (legAt legs k) with
            | true => rfl
            | false => exact (h3 (.inr (.inr he))).elim
          exact ⟨valid_ok.1 h2, spanB_spec.1 a2, by omega, legsB_ok a3⟩
      · omega
  · rintro ⟨h1, h2⟩
    have hn := h2.n
    rw [if_neg (by omega), if_pos (valid_ok.2 h1), tripE, if_neg (by omega), if_neg]
    rintro (h | h | h)
    · omega
    · rw [spanB_spec.2 h2.fuel] at h; cases h
    · have : (allN legs.length fun k => legB P.stations.length (legAt legs k)) = true := allN_spec.2 fun k hk => by
        have hL := h2.leg k hk
        simp only [legB, Bool.and_eq_true, itemsB_spec, inB_spec, spanB_spec]
        exact ⟨⟨⟨⟨hL.n, hL.item⟩, hL.fuel⟩, hL.burn⟩, hL.leak⟩
      rw [this] at h; cases h
structure LegsLen (legs : List Leg) : Prop where
  n : legs.length ≤ 9223372036854775807
  i : ∀ k, k < legs.length → (legAt legs k).items.length ≤ 9223372036854775807
theorem Trip_spec (P : Pln) (fuel : Spn) (legs : List Leg) (hP : PlnLen P) (hl : LegsLen legs) : Spec Tryz.prog 30 [.agg P.cells, .agg fuel.cells, legL legs] (tripRes P fuel legs) := by
  have ht := tripped_spec P fuel legs hP hl.n hl.i
  unfold tripRes
  refine spec_of mixed Tryz.func30 (by decide) rfl Tryz.results30 Tryz.ntmps30 (by decide) 0 (by simp) ?_
  simp [Pln.cells, cnrL, stnL, Spn.cells, legL]
  refine pop_spec ht rfl false (.inl (by simp [Pln.cells, cnrL, stnL, Spn.cells, legL])) (.inl rfl) rfl (by simp) ?_
  by_cases h : trippedE P fuel legs = 0
  · obtain ⟨k1, k2⟩ := tripped_ok.1 h
    have hf := first_spec P fuel legs k1 k2
    unfold firstRes at hf
    simp [h]
    cases hj : tripP P fuel legs with
    | none =>
      rw [hj] at hf
      simp only at hf
      refine pop_spec hf rfl false (.inl (by simp [Pln.cells, cnrL, stnL, Spn.cells, legL])) (.inl rfl) rfl (by simp) ?_
      simp
      refine answers_of rfl ?_; simp
    | some j =>
      rw [hj] at hf
      simp only at hf
      refine pop_spec hf rfl false (.inl (by simp [Pln.cells, cnrL, stnL, Spn.cells, legL])) (.inl rfl) rfl (by simp) ?_
      simp
      refine answers_of rfl ?_; simp
  · simp [h]
    refine answers_of rfl ?_; simp
end Go.Qg

namespace Go.Qg
open Go.Proofs
set_option maxRecDepth 100000
set_option maxHeartbeats 32000000
set_option linter.unusedSimpArgs false
attribute [local irreducible] pwp pops pdraw pop popCall pdCall thenP blockP scopeP pspec Spec answers ppost CallW rend
def rowsLg (l : List Leg) : List (List PV) := l.map Leg.cells
theorem Leg.plain (X : Leg) : plainL X.cells = true := by simp [Leg.cells, plainL, PV.plain, itmL]
@[simp] theorem rowsLg_length (l : List Leg) : (rowsLg l).length = l.length := by simp [rowsLg]
@[simp] theorem rowsLg_nil : rowsLg [] = [] := rfl
@[simp] theorem renLL_rowsLg (π : Nat → Nat) (l : List Leg) : renLL π (rowsLg l) = rowsLg l := by
  induction l with
  | nil => rfl
  | cons x l ih => simp only [rowsLg, List.map_cons, renLL, renL_plain x.plain] at *; rw [ih]
@[simp] theorem namesLL_rowsLg (l : List Leg) : namesLL (rowsLg l) = [] := by
  induction l with
  | nil => rfl
  | cons x l ih => simp only [rowsLg, List.map_cons, namesLL, plainL_names x.plain, List.nil_append] at *; exact ih
@[simp] theorem vwAllL_rowsLg (f : PF) (T : Tgt) (d : Nat) (l : List Leg) : vo.vwAllL f T d (rowsLg l) (rowsLg l) = True := by
  induction l with
  | nil => simp [rowsLg, vo.vwAllL]
  | cons x l ih => simp only [rowsLg, List.map_cons, vo.vwAllL, vwAll_plain x.plain, true_and] at *; exact ih
theorem vwAllL_snocLg (f : PF) (T : Tgt) (d : Nat) (l : List Leg) (x y : List PV) : vo.vwAllL f T d (rowsLg l ++ [x]) (rowsLg l ++ [y]) = vwAll (vw f T d) x y := by
  induction l with
  | nil => simp [rowsLg, vo.vwAllL]
  | cons z l ih => simp only [rowsLg, List.map_cons, List.cons_append, vo.vwAllL, vwAll_plain z.plain, true_and] at *; exact ih
@[simp] theorem rowsLg_one {l : List Leg} : (∀ (x : List PV), x ∈ rowsLg l → ∀ (y : PV), y ∈ x → y.one = true) ↔ True := by
  refine ⟨fun _ => trivial, fun _ x hx y hy => ?_⟩
  obtain ⟨b, _, rfl⟩ := List.mem_map.1 hx
  simp [Leg.cells] at hy
  rcases hy with rfl | rfl | rfl | rfl | rfl | rfl | rfl <;> rfl
@[simp] theorem rowsLg_len1 {l : List Leg} : (∀ (x : List PV), x ∈ rowsLg l → x.length = 7) ↔ True := by
  refine ⟨fun _ => trivial, fun _ x hx => ?_⟩
  obtain ⟨b, _, rfl⟩ := List.mem_map.1 hx
  rfl
@[simp] theorem rowsLg_take (l : List Leg) (k : Nat) : (rowsLg l).take k = rowsLg (l.take k) := by simp [rowsLg]
theorem rowsLg_get {l : List Leg} {k : Nat} (h : k < l.length) : (rowsLg l)[k]? = some (legAt l k).cells := by simp [rowsLg, legAt, h]
theorem rowsLg_snoc (l : List Leg) (x : Leg) : rowsLg l ++ [x.cells] = rowsLg (l ++ [x]) := by simp [rowsLg]
theorem rowsLg_allone (l : List Leg) : ((rowsLg l).all fun r => r.all (·.one)) = true := by
  simp [List.all_eq_true, rowsLg, Leg.cells, PV.one, itmL]
def psnItm (x : Psn) : Itm := ⟨x.station, x.low, x.high⟩
def onB (people : List Psn) (i : Nat) (k : Int) : Bool := inB (i : Int) (psnAt people k.toNat).first (psnAt people k.toNat).last
def onIt (people : List Psn) (i : Nat) (some : List Int) : List Itm := (some.filter (onB people i)).map fun k => psnItm (psnAt people k.toNat)
def takenLeg (people : List Psn) (some : List Int) (i : Nat) (g : Leg) : Leg := { g with items := g.items ++ onIt people i some }
def takenN (legs : List Leg) (people : List Psn) (some : List Int) (n : Nat) : List Leg := (List.range n).map fun i => takenLeg people some i (legAt legs i)
def fitsN (legs : List Leg) (people : List Psn) (some : List Int) (n : Nat) : Bool := allN n fun i => decide ((takenLeg people some i (legAt legs i)).items.length ≤ 12)
theorem takenN_length (legs : List Leg) (people : List Psn) (some : List Int) (n : Nat) : (takenN legs people some n).length = n := by simp [takenN]
theorem takenN_succ (legs : List Leg) (people : List Psn) (some : List Int) (n : Nat) : takenN legs people some (n + 1) = takenN legs people some n ++ [takenLeg people some n (legAt legs n)] := by
  rw [takenN, List.range_succ, List.map_append]; rfl
theorem fitsN_succ (legs : List Leg) (people : List Psn) (some : List Int) (n : Nat) : fitsN legs people some (n + 1) = (fitsN legs people some n && decide ((takenLeg people some n (legAt legs n)).items.length ≤ 12)) := by
  rw [Bool.eq_iff_iff]
  simp only [fitsN, allN_spec, Bool.and_eq_true]
  exact ⟨fun h => ⟨fun j hj => h j (by omega), h n (by omega)⟩, fun h j hj => by
    rcases Nat.lt_succ_iff_lt_or_eq.1 hj with hj | rfl
    · exact h.1 j hj
    · exact h.2⟩
theorem onIt_succ (people : List Psn) (i : Nat) (some : List Int) {j : Nat} (hj : j < some.length) : onIt people i (some.take (j + 1)) = onIt people i (some.take j) ++ (if onB people i (geti some j) = true then [psnItm (psnAt people (geti some j).toNat)] else []) := by
  have : some.take (j + 1) = some.take j ++ [geti some j] := by
    rw [List.take_add_one]
    simp [geti, List.getElem?_eq_getElem hj]
  rw [this, onIt, onIt, List.filter_append, List.map_append]
  congr 1
  by_cases h : onB people i (geti some j) = true
  · simp [h]
  · simp [h]
theorem onIt_len (people : List Psn) (i : Nat) (some : List Int) (j : Nat) : (onIt people i (some.take j)).length ≤ some.length := by
  rw [onIt, List.length_map]
  exact Nat.le_trans (List.length_filter_le _ _) (by rw [List.length_take]; exact Nat.min_le_right _ _)
theorem taken_spec (legs : List Leg) (people : List Psn) (some : List Int) (hl : legs.length ≤ 6) (hi : ∀ i, i < legs.length → (legAt legs i).items.length ≤ 12) (hp : people.length ≤ 8) (hs : some.length ≤ 8)
    (hk : ∀ j, j < some.length → 0 ≤ geti some j ∧ geti some j < (people.length : Int)) :
    Spec Tryz.prog 74 [legL legs, psnL people, ints some] (.tup [legL (takenN legs people some legs.length), .v (.bool (fitsN legs people some legs.length))]) := by
  refine spec_of mixed Tryz.func74 (by decide) rfl Tryz.results74 Tryz.ntmps74 (by decide) 0 (by simp) ?_
  simp [legL, psnL, ints]
  refine pwp_loop (fun i : Nat => [(8, .own 65 i 0 i false), (9, .v (.bool (fitsN legs people some i))), (17, .v (.int .i64 i)), (65, .rows none i 112 7 (rowsLg (takenN legs people some i)))]) (fun i => i ≤ legs.length) (fun i => legs.length - i) 0 (Nat.zero_le _) (by simp; rfl) ?_ ?_
  · simp [takenN, fitsN, allN]
  intro i hi'
  by_cases hil : i < legs.length
  · have wi := i64_wrap (show -9223372036854775808 ≤ (i : Int) + 1 ∧ _ from by omega)
    have hx := hi i hil
    have er := rowsIt_range (legAt legs i).items
    simp [hil, Leg.cells, itmL, show (legAt legs i).items.length * 24 ≤ 140737488355328 from by omega, show (legAt legs i).items.length ≤ maxLen from by simp [maxLen]; omega]
    refine pwp_loop (fun j : Nat => [(11, .box true [.own 24 (onIt people i (some.take j)).length 0 ((legAt legs i).items.length + (onIt people i (some.take j)).length) false, .v (.bool (legAt legs i).pump), .v (.int .i64 (legAt legs i).fuel), .v (.int .i64 (legAt legs i).burn.low), .v (.int .i64 (legAt legs i).burn.high), .v (.int .i64 (legAt legs i).leak.low), .v (.int .i64 (legAt legs i).leak.high)]),
      (24, .rows none (onIt people i (some.take j)).length 120 3 (rowsIt ((legAt legs i).items ++ onIt people i (some.take j)))), (28, .v (.int .i64 j))]) (fun j => j ≤ some.length) (fun j => some.length - j) 0 (Nat.zero_le _) (by simp; rfl) ?_ ?_
    · simp [onIt, er]
    intro j hj
    by_cases hjl : j < some.length
    · have wj := i64_wrap (show -9223372036854775808 ≤ (j : Int) + 1 ∧ _ from by omega)
      obtain ⟨k0, k1⟩ := hk j hjl
      obtain ⟨k, hk'⟩ : ∃ k : Nat, geti some j = (k : Int) := ⟨_, (Int.toNat_of_nonneg k0).symm⟩
      rw [hk'] at k1
      have hkp : k < people.length := by omega
      have es := onIt_succ people i some hjl
      have hol := onIt_len people i some j
      rw [hk'] at es
      simp only [Int.toNat_natCast] at es
      simp [hjl, hk', hkp, Psn.cells]
      refine pop_spec (lin_spec (i : Int) (psnAt people k).first (psnAt people k).last) rfl false (.inl (by simp)) (.inl rfl) rfl (by simp) ?_
      have hb' : onB people i (k : Int) = inB (i : Int) (psnAt people k).first (psnAt people k).last := by simp [onB]
      cases hb : inB (i : Int) (psnAt people k).first (psnAt people k).last with
      | true =>
        rw [hb', hb, if_pos rfl] at es
        have er2 := rowsIt_snoc' ((legAt legs i).items ++ onIt people i (some.take j)) (psnItm (psnAt people k))
        have et : ((legAt legs i).items ++ onIt people i (some.take j)).take ((legAt legs i).items.length + (onIt people i (some.take j)).length) = (legAt legs i).items ++ onIt people i (some.take j) := List.take_of_length_le (by simp)
        simp only [psnItm, List.append_assoc] at er2
        simp [show ((legAt legs i).items.length + (onIt people i (some.take j)).length + 1) * 24 ≤ 140737488355328 from by omega, show (legAt legs i).items.length + (onIt people i (some.take j)).length + 1 ≤ maxLen from by simp [maxLen]; omega]
        refine again_of (j + 1) (by omega) (by omega) ?_
        have et2 : (onIt people i (some.take j)).length + (legAt legs i).items.length = ((legAt legs i).items ++ onIt people i (some.take j)).length := by simp; omega
        simp [wj, es, er2, et]
        exact ⟨by omega, rfl⟩
      | false =>
        rw [hb', hb, if_neg (by simp), List.append_nil] at es
        simp
        refine again_of (j + 1) (by omega) (by omega) ?_
        simp [wj, es]
    · obtain rfl : j = some.length := by omega
      have hol := onIt_len people i some some.length
      rw [List.take_of_length_le (Nat.le_refl _)] at hol
      have ef := fitsN_succ legs people some i
      have en := takenN_succ legs people some i
      have et : (takenN legs people some i).take i = takenN legs people some i := List.take_of_length_le (by rw [takenN_length]; exact Nat.le_refl _)
      simp only [takenLeg, List.length_append] at ef
      rw [List.take_of_length_le (Nat.le_refl _)]
      have hap : (takenN legs people some i ++ [takenLeg people some i (legAt legs i)]) = takenN legs people some (i + 1) := en.symm
      have big : (i + 1) * 72 ≤ 140737488355328 ∧ i + 1 ≤ maxLen := by simp [maxLen]; omega
      cases hf : fitsN legs people some i with
      | false =>
        rw [hf, Bool.false_and] at ef
        simp [takenN_length, hf, big, guard]
        refine again_of (i + 1) (by omega) (by omega) ?_
        simp [wi, ef, en, et, ← rowsLg_snoc, vwAllL_snocLg, rowsLg_allone, takenLeg, Leg.cells, itmL]
        intro k hk
        rw [rowsIt_get (by simpa using hk)]
        simp [Itm.cells]
      | true =>
        by_cases h12 : (legAt legs i).items.length + (onIt people i some).length ≤ 12
        · rw [hf, Bool.true_and, decide_eq_true h12] at ef
          simp [takenN_length, hf, big, guard, show ((legAt legs i).items.length : Int) + ((onIt people i some).length : Int) ≤ 12 from by omega]
          refine again_of (i + 1) (by omega) (by omega) ?_
          simp [wi, ef, en, et, ← rowsLg_snoc, vwAllL_snocLg, rowsLg_allone, takenLeg, Leg.cells, itmL]
          intro k hk
          rw [rowsIt_get (by simpa using hk)]
          simp [Itm.cells]
        · rw [hf, Bool.true_and, decide_eq_false h12] at ef
          simp [takenN_length, hf, big, guard, show ¬ ((legAt legs i).items.length : Int) + ((onIt people i some).length : Int) ≤ 12 from by omega]
          refine again_of (i + 1) (by omega) (by omega) ?_
          simp [wi, ef, en, et, ← rowsLg_snoc, vwAllL_snocLg, rowsLg_allone, takenLeg, Leg.cells, itmL]
          intro k hk
          rw [rowsIt_get (by simpa using hk)]
          simp [Itm.cells]
  · obtain rfl : i = legs.length := by omega
    simp
    refine answers_of rfl ?_
    simp [legL, takenN_length]
    intro k hk
    simp [rowsLg_get (show k < (takenN legs people some legs.length).length by rw [takenN_length]; exact hk), vwAll_plain (legAt (takenN legs people some legs.length) k).plain]
    intro x hx
    simp [Leg.cells] at hx
    rcases hx with rfl | rfl | rfl | rfl | rfl | rfl | rfl <;> simp [itmL]
end Go.Qg

namespace Go.Qg
open Go.Proofs
set_option maxRecDepth 100000
set_option maxHeartbeats 32000000
set_option linter.unusedSimpArgs false
attribute [local irreducible] pwp pops pdraw pop popCall pdCall thenP blockP scopeP pspec Spec answers ppost CallW rend
def psnB (P : Pln) (nl : Nat) (x : Psn) : Bool := spanB ⟨x.low, x.high⟩ 0 20000 && inB x.station 0 ((P.stations.length : Int) - 1) && spanB ⟨x.first, x.last⟩ 0 ((nl : Int) - 1) && inB x.worth 0 1000000
theorem take1_spec (P : Pln) (legs : List Leg) (x : Psn) (hs : P.stations.length ≤ 1000) (hl : legs.length ≤ 1000) :
    Spec Tryz.prog 70 [.agg x.cells, .rp P.cells 0, .rp [legL legs] 0] (.v (.bool (psnB P legs.length x))) := by
  have w1 := i64_wrap (show -9223372036854775808 ≤ (P.stations.length : Int) - 1 ∧ _ from by omega)
  have w2 := i64_wrap (show -9223372036854775808 ≤ (legs.length : Int) - 1 ∧ _ from by omega)
  refine spec_of mixed Tryz.func70 (by decide) rfl Tryz.results70 Tryz.ntmps70 (by decide) 0 (by simp) ?_
  simp [Psn.cells, Pln.cells, cnrL, stnL, legL, w1, w2]
  refine pop_spec (lspan_spec ⟨x.low, x.high⟩ 0 20000) rfl false (.inl (by simp [Spn.cells])) (.inl rfl) rfl (by simp) ?_
  cases h1 : spanB ⟨x.low, x.high⟩ 0 20000 with
  | false => simp; refine answers_of rfl ?_; simp [psnB, h1]
  | true =>
    simp [w1, w2]
    refine pop_spec (lin_spec x.station 0 ((P.stations.length : Int) - 1)) rfl false (.inl (by simp)) (.inl rfl) rfl (by simp) ?_
    cases h2 : inB x.station 0 ((P.stations.length : Int) - 1) with
    | false => simp; refine answers_of rfl ?_; simp [psnB, h1, h2]
    | true =>
      simp [w1, w2]
      refine pop_spec (lspan_spec ⟨x.first, x.last⟩ 0 ((legs.length : Int) - 1)) rfl false (.inl (by simp [Spn.cells])) (.inl rfl) rfl (by simp) ?_
      cases h3 : spanB ⟨x.first, x.last⟩ 0 ((legs.length : Int) - 1) with
      | false => simp; refine answers_of rfl ?_; simp [psnB, h1, h2, h3]
      | true =>
        simp
        refine pop_spec (lin_spec x.worth 0 1000000) rfl false (.inl (by simp)) (.inl rfl) rfl (by simp) ?_
        simp
        refine answers_of rfl ?_; simp [psnB, h1, h2, h3]
end Go.Qg

namespace Go.Qg
open Go.Proofs
set_option maxRecDepth 100000
set_option maxHeartbeats 32000000
set_option linter.unusedSimpArgs false
attribute [local irreducible] pwp pops pdraw pop popCall pdCall thenP blockP scopeP pspec Spec answers ppost CallW rend
def fitsP (legs : List Leg) (people : List Psn) (s : List Int) : Bool := fitsN legs people s legs.length
def takenL (legs : List Leg) (people : List Psn) (s : List Int) : List Leg := takenN legs people s legs.length
def sureP (P : Pln) (fuel : Spn) (legs : List Leg) (people : List Psn) (s : List Int) : Bool := (tripP P fuel (takenL legs people s)).isNone
def wP (people : List Psn) (i : Nat) : Int := (psnAt people i).worth
def restL (people : List Psn) : List Int := (List.range (people.length + 1)).map fun a => restW (wP people) a (people.length - a)
theorem restL_length (people : List Psn) : (restL people).length = people.length + 1 := by simp [restL]
theorem restL_get {people : List Psn} {a : Nat} (h : a ≤ people.length) : geti (restL people) a = restW (wP people) a (people.length - a) := by
  simp [restL, geti, List.getElem?_map, List.getElem?_range (show a < people.length + 1 by omega)]
structure PsnOk (P : Pln) (nl : Nat) (x : Psn) : Prop where
  weight : 0 ≤ x.low ∧ x.low ≤ x.high ∧ x.high ≤ 20000
  station : 0 ≤ x.station ∧ x.station < P.stations.length
  legs : 0 ≤ x.first ∧ x.first ≤ x.last ∧ x.last < nl
  worth : 0 ≤ x.worth ∧ x.worth ≤ 1000000
theorem psnB_ok {P : Pln} {nl : Nat} {x : Psn} : psnB P nl x = true ↔ PsnOk P nl x := by
  simp only [psnB, Bool.and_eq_true, spanB_spec, inB_spec]
  constructor
  · rintro ⟨⟨⟨h1, h2⟩, h3⟩, h4⟩
    exact ⟨h1, by omega, by omega, h4⟩
  · rintro ⟨h1, h2, h3, h4⟩
    exact ⟨⟨⟨h1, by omega⟩, by omega⟩, h4⟩
structure TakeOk (P : Pln) (fuel : Spn) (legs : List Leg) (people : List Psn) : Prop where
  plane : PlnOk P
  trip : TripOk P fuel legs
  n : people.length ≤ 8
  person : ∀ i, i < people.length → PsnOk P legs.length (psnAt people i)
def capsT (P : Pln) (fuel : Spn) (legs : List Leg) (people : List Psn) : List PV := [.rp [legL legs] 0, .rp [psnL people] 0, .rp [ints (restL people)] 0, .ref 0 0, .rp P.cells 0, .rp fuel.cells 0, .ref 1 0, .ref 2 0]
def HT (P : Pln) (fuel : Spn) (legs : List Leg) (people : List Psn) (st : Best) : PF := [.box false [.v (.int .i64 st.2)], .box false [ints st.1], .box false [.clo (.func 73) [] (capsT P fuel legs people)]]
theorem rowsI_rangeG (l : List Int) (x : Int) : (List.range l.length).map (fun i => [PV.v (.int .i64 (geti l i))]) ++ [[PV.v (.int .i64 x)]] = rowsI (l ++ [x]) := by
  have : (List.range l.length).map (fun i => [PV.v (.int .i64 (geti l i))]) = rowsI l := by
    refine List.ext_getElem? fun i => ?_
    by_cases h : i < l.length
    · rw [rowsI_get h, List.getElem?_map, List.getElem?_range h]; rfl
    · rw [List.getElem?_eq_none (by simp; omega), List.getElem?_eq_none (by simp; omega)]
  rw [this]; simp [rowsI]
def argsT (P : Pln) (fuel : Spn) (legs : List Leg) (people : List Psn) (s : List Int) (a : Nat) : List PV := [ints s, .v (.int .i64 a), .v (.int .i64 (worthL (wP people) s)), .rp [legL legs] 0, .rp [psnL people] 0, .rp [ints (restL people)] 0, .ref 0 0, .rp P.cells 0, .rp fuel.cells 0, .ref 1 0, .ref 2 0]
theorem taken_ok {P : Pln} {fuel : Spn} {legs : List Leg} {people : List Psn} {s : List Int} (hT : TakeOk P fuel legs people) (hs : ∀ x ∈ s, 0 ≤ x ∧ x < (people.length : Int)) (hf : fitsP legs people s = true) : TripOk P fuel (takenL legs people s) := by
  have hlen : (takenL legs people s).length = legs.length := takenN_length ..
  have hget : ∀ i, i < legs.length → legAt (takenL legs people s) i = takenLeg people s i (legAt legs i) := fun i hi => by simp [takenL, takenN, legAt, hi]
  refine ⟨hT.trip.fuel, by rw [hlen]; exact hT.trip.n, fun i hi => ?_⟩
  rw [hlen] at hi
  rw [hget i hi]
  have hL := hT.trip.leg i hi
  have h12 := allN_spec.1 hf i hi
  refine ⟨by simpa using h12, fun j hj => ?_, hL.fuel, hL.burn, hL.leak⟩
  simp only [takenLeg] at hj ⊢
  by_cases hj1 : j < (legAt legs i).items.length
  · have e : itmAt ((legAt legs i).items ++ onIt people i s) j = itmAt (legAt legs i).items j := by simp [itmAt, List.getElem?_append_left hj1]
    rw [e]; exact hL.item j hj1
  · have hm : itmAt ((legAt legs i).items ++ onIt people i s) j ∈ onIt people i s := by
      have hj2 : j - (legAt legs i).items.length < (onIt people i s).length := by rw [List.length_append] at hj; omega
      have e : itmAt ((legAt legs i).items ++ onIt people i s) j = itmAt (onIt people i s) (j - (legAt legs i).items.length) := by simp [itmAt, List.getElem?_append_right (Nat.le_of_not_lt hj1)]
      rw [e]; exact itmAt_mem hj2
    generalize itmAt ((legAt legs i).items ++ onIt people i s) j = y at hm ⊢
    simp only [onIt, List.mem_map, List.mem_filter] at hm
    obtain ⟨k, ⟨hk, _⟩, rfl⟩ := hm
    have hk2 := hs k hk
    have hp := hT.person k.toNat (by omega)
    exact ⟨hp.station, hp.weight⟩
theorem search_spec (P : Pln) (fuel : Spn) (legs : List Leg) (people : List Psn) (hT : TakeOk P fuel legs people) : ∀ (c : Nat) (s : List Int) (a : Nat) (st : Best), a ≤ people.length → people.length - a < c → s.length ≤ a → (∀ x ∈ s, 0 ≤ x ∧ x < (people.length : Int)) → 0 ≤ worthL (wP people) s → worthL (wP people) s ≤ 1000000 * (a : Int) →
    CallW Tryz.prog 73 (argsT P fuel legs people s a) (HT P fuel legs people st) (fun out => out = .ret (.tup []) (HT P fuel legs people (takeP (fitsP legs people) (sureP P fuel legs people) (wP people) people.length c s a st))) := by
  intro c
  induction c with
  | zero => intro s a st h1 h2; omega
  | succ c ih =>
    intro s a st ha hc hsl hsm hw0 hw1
    have hn := hT.n
    have hl6 := hT.trip.n
    have htk := taken_spec legs people s (by omega) (fun i hi => (hT.trip.leg i hi).n) hn (by omega) (fun j hj => hsm _ (by simp [geti, List.getElem?_eq_getElem hj]))
    have hpw : ∀ i, 0 ≤ wP people i ∧ wP people i ≤ 1000000 := fun i => by
      by_cases hi : i < people.length
      · exact (hT.person i hi).worth
      · simp [wP, psnAt, List.getElem?_eq_none (Nat.le_of_not_lt hi)]
        decide
    have hr0 : ∀ m a, 0 ≤ restW (wP people) a m ∧ restW (wP people) a m ≤ 1000000 * (m : Int) := fun m a => by
      induction m with
      | zero => simp [restW]
      | succ m ihm => have := hpw (a + m); simp only [restW]; omega
    have hra := hr0 (people.length - a) a
    have hrg := restL_get ha
    have hrl := restL_length people
    have ww := i64_wrap (show -9223372036854775808 ≤ worthL (wP people) s + restW (wP people) a (people.length - a) ∧ _ from by omega)
    generalize hW : worthL (wP people) s = W at *
    generalize hRW : restW (wP people) a (people.length - a) = RW at *
    simp only [argsT]
    refine callW_of mixed Tryz.func73 (by decide) rfl (congrArg Array.toList Tryz.results73) Tryz.ntmps73 (by decide) 81 (by simp) (by decide) ?_
    simp [HT, argsT, capsT, Pln.cells, Spn.cells, legL, psnL, cnrL, stnL]
    refine pop_spec htk rfl false (.inl (by simp [legL, psnL, ints])) (.inl rfl) rfl (by simp) ?_
    simp [legL]
    refine pwp_draw 12 (by decide) ?_
    rw [takeP, hW, hRW]
    cases hfit : fitsN legs people s legs.length with
    | false =>
      simp [hfit]
      refine ⟨by decide, ?_⟩
      simp [fitsP, hfit]
      refine ends_of (.tup []) (HT P fuel legs people st) [] (x := .tup []) (by simp) (by decide) ?_ ?_ (by simp [HT, capsT, Pln.cells, Spn.cells, legL, psnL, cnrL, stnL])
      · simp [HT, capsT, Pln.cells, Spn.cells, legL, psnL, cnrL, stnL, ints]
      · simp
    | true =>
      by_cases hle : W + RW ≤ st.2
      · simp [hfit, hrl, hrg, ww, hle, ints, show a < people.length + 1 from by omega, show (a : Int) < (people.length : Int) + 1 from by omega]
        refine ⟨by decide, ?_⟩
        refine ends_of (.tup []) (HT P fuel legs people st) [] (x := .tup []) (by simp) (by decide) ?_ ?_ (by simp [HT, capsT, Pln.cells, Spn.cells, legL, psnL, cnrL, stnL, ints, hrl])
        · simp [HT, capsT, Pln.cells, Spn.cells, legL, psnL, cnrL, stnL, ints, hrl]
        · simp
      · simp [hfit, hrl, hrg, ww, hle, ints, show a < people.length + 1 from by omega, show (a : Int) < (people.length : Int) + 1 from by omega, Int.not_le.1 hle]
        refine ⟨by decide, ?_⟩
        obtain ⟨st0, e0⟩ : ∃ st0 : Best, st0 = if st.2 < W ∧ sureP P fuel legs people s = true then (s, W) else st := ⟨_, rfl⟩
        simp only [fitsP, hfit, hle, or_false, Bool.true_eq_false, if_false, ← e0]
        generalize hFF : (fun (i : Nat) (st : Best) => takeP (fitsP legs people) (sureP P fuel legs people) (wP people) people.length c (s ++ [(i : Int)]) (i + 1) st) = F
        by_cases hbest : st.2 < W
        · have hTT := taken_ok hT hsm hfit
          have hfs := first_spec P fuel (takenL legs people s) hT.plane hTT
          rw [firstRes] at hfs
          simp [hbest, Int.not_le.2 hbest]
          cases htp : tripP P fuel (takenL legs people s) with
          | none =>
            rw [htp] at hfs
            have e1 : st0 = (s, W) := by rw [e0]; simp [hbest, sureP, htp]
            refine pop_spec hfs rfl false (.inl (by simp [Pln.cells, cnrL, stnL, Spn.cells, legL, takenL])) (.inl rfl) rfl (by simp) ?_
            simp
            refine pwp_loop (fun i : Nat => [(19, .v (.int .i64 i)), (81, .box false [.v (.int .i64 (foldN F a (i - a) st0).2)]), (82, .box false [ints (foldN F a (i - a) st0).1])]) (fun i => a ≤ i ∧ i ≤ people.length) (fun i => people.length - i) a ⟨Nat.le_refl _, ha⟩ (by simp; rfl) ?_ ?_
            · simp [foldN, e1, ints]
            rintro i ⟨hi1, hi2⟩
            by_cases hil : i < people.length
            · have wi := i64_wrap (show -9223372036854775808 ≤ (i : Int) + 1 ∧ _ from by omega)
              have hpi := hpw i
              have wW := i64_wrap (show -9223372036854775808 ≤ W + wP people i ∧ _ from by omega)
              have hfo : foldN F a (i + 1 - a) st0 = takeP (fitsP legs people) (sureP P fuel legs people) (wP people) people.length c (s ++ [(i : Int)]) (i + 1) (foldN F a (i - a) st0) := by
                rw [show i + 1 - a = (i - a) + 1 from by omega, foldN, show a + (i - a) = i from by omega, ← hFF]
              have hwa : worthL (wP people) (s ++ [(i : Int)]) = W + wP people i := by rw [worth_app, hW]; simp [worthL]
              have hih := ih (s ++ [(i : Int)]) (i + 1) (foldN F a (i - a) st0) (by omega) (by omega) (by simp; omega) (fun x hx => by
                rcases List.mem_append.1 hx with hx | hx
                · exact hsm x hx
                · obtain rfl := List.mem_singleton.1 hx; omega) (by rw [hwa]; omega) (by rw [hwa]; omega)
              rw [← hfo] at hih
              generalize foldN F a (i - a) st0 = sti at hih ⊢
              generalize hstn : foldN F a (i + 1 - a) st0 = stn at hih ⊢
              have hwp : (psnAt people i).worth = wP people i := rfl
              have hro := rowsI_rangeG s (i : Int)
              simp [hil]
              refine pwp_draw 19 (by decide) ?_
              simp [hil, Psn.cells, ints, wi, hwp, wW, hro, show (s.length + 1) * 8 ≤ 140737488355328 from by omega, show s.length + 1 ≤ maxLen from by simp [maxLen]; omega]
              refine ⟨by decide, ?_⟩
              simp only [argsT, HT, capsT] at hih
              refine pop_callF [(67, .undef), (70, ints (s ++ [(i : Int)]))] ?_ hih rfl [81, 82, 83] false (by decide) ?_ (.inl ?_) ?_
              · simp [ints]
                intro q hq
                rw [rowsI_get (by simpa using hq)]
                simp
              · simp [ints, Pln.cells, Psn.cells, Spn.cells, legL, psnL, cnrL, stnL, hrl]
              · simp [ints, Pln.cells, Psn.cells, Spn.cells, legL, psnL, cnrL, stnL, hrl, hwa]
              rintro out rfl
              refine ⟨[], by simp [backOk], .inl rfl, by simp [back, backV, placeAll], ?_⟩
              simp [back, backV, placeAll]
              refine again_of (i + 1) (by omega) (by omega) ?_
              simp [wi, hstn, ints, Pln.cells, Psn.cells, Spn.cells, legL, psnL, cnrL, stnL, hrl]
            · obtain rfl : i = people.length := by omega
              simp
              refine ends_n (.tup []) (HT P fuel legs people (foldN F a (people.length - a) st0)) [] rfl (by decide) ?_ ?_ (by simp [HT, capsT, Pln.cells, Spn.cells, legL, psnL, cnrL, stnL, ints, hrl])
              · simp [HT, capsT, Pln.cells, Spn.cells, legL, psnL, cnrL, stnL, ints, hrl]
              · simp
          | some k =>
            rw [htp] at hfs
            have e1 : st0 = st := by rw [e0]; simp [hbest, sureP, htp]
            refine pop_spec hfs rfl false (.inl (by simp [Pln.cells, cnrL, stnL, Spn.cells, legL, takenL])) (.inl rfl) rfl (by simp) ?_
            simp [show ¬ (k : Int) < 0 from by omega, show (0 : Int) ≤ (k : Int) from by omega]
            refine pwp_loop (fun i : Nat => [(19, .v (.int .i64 i)), (81, .box false [.v (.int .i64 (foldN F a (i - a) st0).2)]), (82, .box false [ints (foldN F a (i - a) st0).1])]) (fun i => a ≤ i ∧ i ≤ people.length) (fun i => people.length - i) a ⟨Nat.le_refl _, ha⟩ (by simp; rfl) ?_ ?_
            · simp [foldN, e1, ints]
            rintro i ⟨hi1, hi2⟩
            by_cases hil : i < people.length
            · have wi := i64_wrap (show -9223372036854775808 ≤ (i : Int) + 1 ∧ _ from by omega)
              have hpi := hpw i
              have wW := i64_wrap (show -9223372036854775808 ≤ W + wP people i ∧ _ from by omega)
              have hfo : foldN F a (i + 1 - a) st0 = takeP (fitsP legs people) (sureP P fuel legs people) (wP people) people.length c (s ++ [(i : Int)]) (i + 1) (foldN F a (i - a) st0) := by
                rw [show i + 1 - a = (i - a) + 1 from by omega, foldN, show a + (i - a) = i from by omega, ← hFF]
              have hwa : worthL (wP people) (s ++ [(i : Int)]) = W + wP people i := by rw [worth_app, hW]; simp [worthL]
              have hih := ih (s ++ [(i : Int)]) (i + 1) (foldN F a (i - a) st0) (by omega) (by omega) (by simp; omega) (fun x hx => by
                rcases List.mem_append.1 hx with hx | hx
                · exact hsm x hx
                · obtain rfl := List.mem_singleton.1 hx; omega) (by rw [hwa]; omega) (by rw [hwa]; omega)
              rw [← hfo] at hih
              generalize foldN F a (i - a) st0 = sti at hih ⊢
              generalize hstn : foldN F a (i + 1 - a) st0 = stn at hih ⊢
              have hwp : (psnAt people i).worth = wP people i := rfl
              have hro := rowsI_rangeG s (i : Int)
              simp [hil]
              refine pwp_draw 19 (by decide) ?_
              simp [hil, Psn.cells, ints, wi, hwp, wW, hro, show (s.length + 1) * 8 ≤ 140737488355328 from by omega, show s.length + 1 ≤ maxLen from by simp [maxLen]; omega]
              refine ⟨by decide, ?_⟩
              simp only [argsT, HT, capsT] at hih
              refine pop_callF [(67, .undef), (70, ints (s ++ [(i : Int)]))] ?_ hih rfl [81, 82, 83] false (by decide) ?_ (.inl ?_) ?_
              · simp [ints]
                intro q hq
                rw [rowsI_get (by simpa using hq)]
                simp
              · simp [ints, Pln.cells, Psn.cells, Spn.cells, legL, psnL, cnrL, stnL, hrl]
              · simp [ints, Pln.cells, Psn.cells, Spn.cells, legL, psnL, cnrL, stnL, hrl, hwa]
              rintro out rfl
              refine ⟨[], by simp [backOk], .inl rfl, by simp [back, backV, placeAll], ?_⟩
              simp [back, backV, placeAll]
              refine again_of (i + 1) (by omega) (by omega) ?_
              simp [wi, hstn, ints, Pln.cells, Psn.cells, Spn.cells, legL, psnL, cnrL, stnL, hrl]
            · obtain rfl : i = people.length := by omega
              simp
              refine ends_n (.tup []) (HT P fuel legs people (foldN F a (people.length - a) st0)) [] rfl (by decide) ?_ ?_ (by simp [HT, capsT, Pln.cells, Spn.cells, legL, psnL, cnrL, stnL, ints, hrl])
              · simp [HT, capsT, Pln.cells, Spn.cells, legL, psnL, cnrL, stnL, ints, hrl]
              · simp
        · have e1 : st0 = st := by rw [e0]; simp [hbest]
          simp [hbest, Int.not_lt.1 hbest]
          refine pwp_loop (fun i : Nat => [(19, .v (.int .i64 i)), (81, .box false [.v (.int .i64 (foldN F a (i - a) st0).2)]), (82, .box false [ints (foldN F a (i - a) st0).1])]) (fun i => a ≤ i ∧ i ≤ people.length) (fun i => people.length - i) a ⟨Nat.le_refl _, ha⟩ (by simp; rfl) ?_ ?_
          · simp [foldN, e1, ints]
          rintro i ⟨hi1, hi2⟩
          by_cases hil : i < people.length
          · have wi := i64_wrap (show -9223372036854775808 ≤ (i : Int) + 1 ∧ _ from by omega)
            have hpi := hpw i
            have wW := i64_wrap (show -9223372036854775808 ≤ W + wP people i ∧ _ from by omega)
            have hfo : foldN F a (i + 1 - a) st0 = takeP (fitsP legs people) (sureP P fuel legs people) (wP people) people.length c (s ++ [(i : Int)]) (i + 1) (foldN F a (i - a) st0) := by
              rw [show i + 1 - a = (i - a) + 1 from by omega, foldN, show a + (i - a) = i from by omega, ← hFF]
            have hwa : worthL (wP people) (s ++ [(i : Int)]) = W + wP people i := by rw [worth_app, hW]; simp [worthL]
            have hih := ih (s ++ [(i : Int)]) (i + 1) (foldN F a (i - a) st0) (by omega) (by omega) (by simp; omega) (fun x hx => by
              rcases List.mem_append.1 hx with hx | hx
              · exact hsm x hx
              · obtain rfl := List.mem_singleton.1 hx; omega) (by rw [hwa]; omega) (by rw [hwa]; omega)
            rw [← hfo] at hih
            generalize foldN F a (i - a) st0 = sti at hih ⊢
            generalize hstn : foldN F a (i + 1 - a) st0 = stn at hih ⊢
            have hwp : (psnAt people i).worth = wP people i := rfl
            have hro := rowsI_rangeG s (i : Int)
            simp [hil]
            refine pwp_draw 19 (by decide) ?_
            simp [hil, Psn.cells, ints, wi, hwp, wW, hro, show (s.length + 1) * 8 ≤ 140737488355328 from by omega, show s.length + 1 ≤ maxLen from by simp [maxLen]; omega]
            refine ⟨by decide, ?_⟩
            simp only [argsT, HT, capsT] at hih
            refine pop_callF [(67, .undef), (70, ints (s ++ [(i : Int)]))] ?_ hih rfl [81, 82, 83] false (by decide) ?_ (.inl ?_) ?_
            · simp [ints]
              intro q hq
              rw [rowsI_get (by simpa using hq)]
              simp
            · simp [ints, Pln.cells, Psn.cells, Spn.cells, legL, psnL, cnrL, stnL, hrl]
            · simp [ints, Pln.cells, Psn.cells, Spn.cells, legL, psnL, cnrL, stnL, hrl, hwa]
            rintro out rfl
            refine ⟨[], by simp [backOk], .inl rfl, by simp [back, backV, placeAll], ?_⟩
            simp [back, backV, placeAll]
            refine again_of (i + 1) (by omega) (by omega) ?_
            simp [wi, hstn, ints, Pln.cells, Psn.cells, Spn.cells, legL, psnL, cnrL, stnL, hrl]
          · obtain rfl : i = people.length := by omega
            simp
            refine ends_n (.tup []) (HT P fuel legs people (foldN F a (people.length - a) st0)) [] rfl (by decide) ?_ ?_ (by simp [HT, capsT, Pln.cells, Spn.cells, legL, psnL, cnrL, stnL, ints, hrl])
            · simp [HT, capsT, Pln.cells, Spn.cells, legL, psnL, cnrL, stnL, ints, hrl]
            · simp
end Go.Qg

namespace Go.Qg
open Go.Proofs
set_option maxRecDepth 100000
set_option maxHeartbeats 32000000
set_option linter.unusedSimpArgs false
attribute [local irreducible] pwp pops pdraw pop popCall pdCall thenP blockP scopeP pspec Spec answers ppost CallW rend
def takeBest (P : Pln) (fuel : Spn) (legs : List Leg) (people : List Psn) : Best := takeP (fitsP legs people) (sureP P fuel legs people) (wP people) people.length (people.length + 1) [] 0 ([], -1)
def takeE (P : Pln) (fuel : Spn) (legs : List Leg) (people : List Psn) : Int :=
  if 8 < people.length then 3 else if trippedE P fuel legs ≠ 0 then trippedE P fuel legs else if (allN people.length fun k => psnB P legs.length (psnAt people k)) = false then 2 else if (takeBest P fuel legs people).2 < 0 then 5 else 0
def takeRes (P : Pln) (fuel : Spn) (legs : List Leg) (people : List Psn) : PV := if takeE P fuel legs people = 0 then .tup [ints (takeBest P fuel legs people).1, .v (.int .i64 (takeBest P fuel legs people).2), .v (.int .i64 0)] else .tup [ints [], .v (.int .i64 0), .v (.int .i64 (takeE P fuel legs people))]
def restK (people : List Psn) (k : Nat) : List Int := (List.range (people.length + 1)).map fun j => if people.length - k ≤ j then restW (wP people) j (people.length - j) else 0
theorem restK_all (people : List Psn) : restK people people.length = restL people := by simp [restK, restL]
theorem restK_length (people : List Psn) (k : Nat) : (restK people k).length = people.length + 1 := by simp [restK]
theorem Take_spec (P : Pln) (fuel : Spn) (legs : List Leg) (people : List Psn) (hP : PlnLen P) (hl : LegsLen legs) (hp : people.length ≤ 9223372036854775807) :
    Spec Tryz.prog 21 [.agg P.cells, .agg fuel.cells, legL legs, psnL people] (takeRes P fuel legs people) := by
  have htr := tripped_spec P fuel legs hP hl.1 hl.2
  refine spec_of mixed Tryz.func21 (by decide) rfl Tryz.results21 Tryz.ntmps21 (by decide) 0 (by simp) ?_
  simp [Pln.cells, Spn.cells, legL, psnL, cnrL, stnL]
  by_cases h8 : 8 < people.length
  · have he : takeE P fuel legs people = 3 := by simp [takeE, h8]
    simp [show (8 : Int) < (people.length : Int) from by omega]
    refine answers_of rfl ?_
    simp [takeRes, he, ints]
  simp [show ¬ (8 : Int) < (people.length : Int) from by omega, show (people.length : Int) ≤ 8 from by omega]
  refine pop_spec htr rfl false (.inl (by simp [Pln.cells, Spn.cells, legL, cnrL, stnL])) (.inl rfl) rfl (by simp) ?_
  by_cases ht : trippedE P fuel legs = 0
  case neg =>
    have he : takeE P fuel legs people = trippedE P fuel legs := by simp [takeE, h8, ht]
    simp [ht]
    refine answers_of rfl ?_
    simp [takeRes, he, ints, ht]
  obtain ⟨hPO, hTO⟩ := tripped_ok.1 ht
  simp [ht]
  have hn6 := hTO.n
  refine pop_specF [(4, .rp P.cells 0), (6, .rp [legL legs] 0), (28, .clo (.func 70) [] [.rp P.cells 0, .rp [legL legs] 0])] (by simp [Pln.cells, legL, cnrL, stnL])
    (allPsn_spec people hp 70 [] [.rp P.cells 0, .rp [legL legs] 0] rfl rfl (fun k => psnB P legs.length (psnAt people k)) fun k hk => take1_spec P legs (psnAt people k) (by have := hPO.ns; omega) (by omega)) rfl false (.inl (by simp [psnL])) (.inl rfl) rfl (by simp) ?_
  by_cases ha : (allN people.length fun k => psnB P legs.length (psnAt people k)) = true
  case neg =>
    have ha' : (allN people.length fun k => psnB P legs.length (psnAt people k)) = false := by simpa using ha
    have he : takeE P fuel legs people = 2 := by simp [takeE, h8, ht, ha']
    simp [ha']
    refine answers_of rfl ?_
    simp [takeRes, he, ints]
  have hT : TakeOk P fuel legs people := ⟨hPO, hTO, by omega, fun i hi => psnB_ok.1 (allN_spec.1 ha i hi)⟩
  have wn1 := i64_wrap (show -9223372036854775808 ≤ (people.length : Int) + 1 ∧ _ from by omega)
  have wn2 := i64_wrap (show -9223372036854775808 ≤ (people.length : Int) - 1 ∧ _ from by omega)
  have hrz0 : restK people 0 = List.replicate (people.length + 1) 0 := by
    refine List.ext_getElem? fun j => ?_
    by_cases hj : j < people.length + 1
    · simp [restK, List.getElem?_map, List.getElem?_range hj, hj]
      intro hj2
      obtain rfl : j = people.length := by omega
      simp [restW]
    · rw [List.getElem?_eq_none (by simp [restK]; omega), List.getElem?_eq_none (by simp; omega)]
  have hrz : rowsI (restK people 0) = List.replicate (people.length + 1) [.v (.int .i64 0)] := by rw [hrz0]; simp [rowsI]
  simp [ha, wn1, wn2, show (0 : Int) ≤ (people.length : Int) + 1 from by omega, show 8 * ((people.length : Int) + 1) ≤ 281474976710656 from by omega, show (people.length : Int) + 1 ≤ 9223372036854775807 from by omega]
  refine pwp_loop (fun k : Nat => [(4, .rp P.cells 0), (5, .rp fuel.cells 0), (6, .rp [legL legs] 0), (7, .rp [psnL people] 0), (12, .box true [.own 34 0 0 (people.length + 1) false]), (13, .v (.int .i64 (((people.length - k : Nat) : Int) - 1))), (34, .rows none 0 3 1 (rowsI (restK people k)))]) (fun k => k ≤ people.length) (fun k => people.length - k) 0 (Nat.zero_le _) (by simp; rfl) ?_ ?_
  · simp [Pln.cells, Spn.cells, legL, psnL, cnrL, stnL, ← hrz]
  intro k hk
  have hrl := restK_length people k
  by_cases hkl : k < people.length
  · obtain ⟨j, hj⟩ : ∃ j, people.length - k = j + 1 := ⟨people.length - k - 1, by omega⟩
    have hpw : ∀ i, 0 ≤ wP people i ∧ wP people i ≤ 1000000 := fun i => by
      by_cases hi : i < people.length
      · exact (hT.person i hi).worth
      · simp [wP, psnAt, List.getElem?_eq_none (Nat.le_of_not_lt hi)]
        decide
    have hr0 : ∀ m a, 0 ≤ restW (wP people) a m ∧ restW (wP people) a m ≤ 1000000 * (m : Int) := fun m a => by
      induction m with
      | zero => simp [restW]
      | succ m ihm => have := hpw (a + m); simp only [restW]; omega
    have hra := hr0 (people.length - (j + 1)) (j + 1)
    have hwj := hpw j
    have hwp : (psnAt people j).worth = wP people j := rfl
    have hg : geti (restK people k) (j + 1) = restW (wP people) (j + 1) (people.length - (j + 1)) := by
      simp [restK, geti, List.getElem?_map, List.getElem?_range (show j + 1 < people.length + 1 by omega), show people.length ≤ j + 1 + k from by omega]
    have hset : (restK people k).set j (restW (wP people) (j + 1) (people.length - (j + 1)) + wP people j) = restK people (k + 1) := by
      refine List.ext_getElem? fun q => ?_
      by_cases hq : q < people.length + 1
      · rw [List.getElem?_set]
        by_cases hqj : j = q
        · subst hqj
          rw [if_pos rfl, if_pos (by rw [hrl]; exact hq)]
          simp [restK, List.getElem?_map, List.getElem?_range hq, show people.length - (k + 1) ≤ j from by omega]
          rw [show people.length - j = (people.length - (j + 1)) + 1 from by omega, restW_head]; omega
        · rw [if_neg hqj]
          simp [restK, List.getElem?_map, List.getElem?_range hq]
          by_cases h1 : people.length ≤ q + k
          · rw [if_pos h1, if_pos (by omega)]
          · rw [if_neg h1, if_neg (by omega)]
      · rw [List.getElem?_eq_none (by simp [hrl]; omega), List.getElem?_eq_none (by rw [restK_length]; omega)]
    have w1 := i64_wrap (show -9223372036854775808 ≤ restW (wP people) (j + 1) (people.length - (j + 1)) + wP people j ∧ _ from by omega)
    have w2 := i64_wrap (show -9223372036854775808 ≤ (j : Int) - 1 ∧ _ from by omega)
    have w3 := i64_wrap (show -9223372036854775808 ≤ (j : Int) + 1 ∧ _ from by omega)
    have hjn : j < people.length := by omega
    simp [hj]
    refine pwp_draw 14 (by decide) ?_
    simp [hj, w1, w2, w3, show (0 : Int) ≤ (j : Int) + 1 from by omega, show j + 1 < people.length + 1 from by omega, hrl, hg, hjn, hwp, psnL, Psn.cells, rowsI_set, hset, show j < people.length + 1 from by omega, show (j : Int) < (people.length : Int) + 1 from by omega]
    refine ⟨by decide, ?_⟩
    have hj2 : people.length - (k + 1) = j := by omega
    refine again_of (k + 1) (by omega) (by omega) ?_
    simp [hj2, w2]
  · obtain rfl : k = people.length := by omega
    rw [restK_all] at *
    have hs := search_spec P fuel legs people hT (people.length + 1) [] 0 ([], -1) (Nat.zero_le _) (by omega) (by simp) (by simp) (by simp [worthL]) (by simp [worthL])
    simp
    simp only [argsT, HT, capsT, worthL] at hs
    refine pop_callF [(12, .rp [ints (restL people)] 0), (34, .undef), (16, .box true [.clo (.func 73) [] [.rp [legL legs] 0, .rp [psnL people] 0, .rp [ints (restL people)] 0, .ref 15 0, .rp P.cells 0, .rp fuel.cells 0, .ref 14 0, .ref 16 0]]), (56, .undef), (57, .clo (.func 73) [] [.rp [legL legs] 0, .rp [psnL people] 0, .rp [ints (restL people)] 0, .ref 15 0, .rp P.cells 0, .rp fuel.cells 0, .ref 14 0, .ref 16 0])] ?_ hs rfl [15, 14, 16] false (by decide) ?_ (.inl ?_) ?_
    · simp [ints, restL_length]
      refine ⟨fun q hq => ?_, fun q hq => ?_⟩ <;>
      · rw [rowsI_get (by rw [restL_length]; exact hq)]
        simp
    · simp [ints]
    · simp [ints]
    rintro out rfl
    refine ⟨[], by simp [backOk], .inl rfl, by simp [back, backV, placeAll], ?_⟩
    have hb : takeP (fitsP legs people) (sureP P fuel legs people) (wP people) people.length (people.length + 1) [] 0 ([], -1) = takeBest P fuel legs people := rfl
    rw [hb]
    generalize hst : takeBest P fuel legs people = st
    by_cases hlt : st.2 < 0
    · have he : takeE P fuel legs people = 5 := by simp [takeE, h8, ht, ha, hst, hlt]
      simp [back, backV, placeAll, hlt]
      refine answers_of rfl ?_
      simp [takeRes, he, ints]
    · have he : takeE P fuel legs people = 0 := by simp [takeE, h8, ht, ha, hst, hlt]
      simp [back, backV, placeAll, hlt, Int.not_lt.1 hlt]
      refine pwp_draw 5 (by decide) ?_
      simp [ints]
      refine ⟨by decide, ?_⟩
      refine answers_of rfl ?_
      simp [takeRes, he, hst, ints]
end Go.Qg

namespace Go.Qg
open Go.Proofs
set_option maxRecDepth 100000
set_option maxHeartbeats 32000000
set_option linter.unusedSimpArgs false
attribute [local irreducible] pwp pops pdraw pop popCall pdCall thenP blockP scopeP pspec Spec answers ppost CallW rend
theorem SureO_spec (P : Pln) (X : Pnt) (hP : PlnLen P) (hX : PntLen X) (h : rightB P X = true) (h1 : (brokenP P X).1 ≠ 1) :
    CallW Tryz.prog 36 [.agg P.cells, .agg X.cells] [] (fun out => out = .ret (.tup [.v (.int .i64 (brokenP P X).1), .v (.int .i64 (brokenP P X).2), cseO (worstC P X (brokenP P X).1 (brokenP P X).2), .v (.int .i64 0)]) (cseH (worstC P X (brokenP P X).1 (brokenP P X).2))) := by
  have hr := right_spec P X hP hX
  obtain ⟨k1, k2⟩ := right_ok.1 h
  have hb := broken_spec P X k1 k2
  have hin := (broken_in P X).resolve_left h1
  have hw := worst_both true P X k1 k2 (brokenP P X).1 (brokenP P X).2 hin.1 hin.2
  rw [h] at hr
  simp only [cond_true] at hw
  generalize worstC P X (brokenP P X).1 (brokenP P X).2 = c at *
  generalize brokenP P X = br at *
  obtain ⟨r, i⟩ := br
  simp only at hb h1 hin hw
  refine callW_of mixed Tryz.func36 (by decide) rfl (congrArg Array.toList Tryz.results36) Tryz.ntmps36 (by decide) 36 (by simp) (by decide) ?_
  simp [Pln.cells, cnrL, stnL, Pnt.cells, itmL, spnL]
  refine pop_spec hr rfl false (.inl (by simp [pntC, cnrL, stnL, itmL, spnL])) (.inl rfl) rfl (by simp) ?_
  simp
  refine pop_spec hb rfl false (.inl (by simp [pntC, cnrL, stnL, itmL, spnL])) (.inl rfl) rfl (by simp) ?_
  simp [h1, show ¬ (r : Int) = 1 from by omega]
  refine pop_callW hw rfl [] false (by decide) trivial (.inl (by simp [pntC, cnrL, stnL, itmL, spnL])) ?_
  rintro out rfl
  refine ⟨[34, 35], by simp [backOk, cseH], .inl rfl, by simp [back, backV, placeAll, cseH], ?_⟩
  simp [back, backV, placeAll, cseH, cseO]
  refine ends_of (.tup [.v (.int .i64 r), .v (.int .i64 i), cseO c, .v (.int .i64 0)]) (cseH c) [34, 35] (x := .tup [.v (.int .i64 r), .v (.int .i64 i), .agg [.own 34 c.items.length 0 c.items.length false, .v (.int .i64 c.tank), .own 35 c.water.length 0 c.water.length false], .v (.int .i64 0)]) (by simp) (by decide) ?_ ?_ (by simp [cseO, cseH])
  · simp [cseH]
  · simp [cseO, cseH]
end Go.Qg

namespace Go.Qg
open Go.Proofs
set_option maxRecDepth 100000
set_option maxHeartbeats 32000000
set_option linter.unusedSimpArgs false
attribute [local irreducible] pwp pops pdraw pop popCall pdCall thenP blockP scopeP pspec Spec answers ppost CallW rend
theorem rowsB_app (a b : List Bool) : rowsB a ++ rowsB b = rowsB (a ++ b) := by simp [rowsB]
def brT (P : Pln) (legs : List Leg) (n : Int) (j c : Nat) : List Bool := (idxT P j ++ idxR P j c).map (canX P legs n)
theorem brT_zero (P : Pln) (legs : List Leg) (n : Int) : brT P legs n 0 0 = [] := rfl
theorem brT_succ (P : Pln) (legs : List Leg) (n : Int) (j c : Nat) : brT P legs n j c ++ rl P (ptOf P ⟨n, n⟩ legs j) c = brT P legs n j (c + 1) := by
  simp only [brT, idxR, List.map_append, List.map_map, List.append_assoc]
  rfl
theorem brT_next (P : Pln) (legs : List Leg) (n : Int) (j : Nat) : brT P legs n j 6 = brT P legs n (j + 1) 0 := by simp [brT, idxT, idxR]
theorem brT_all (P : Pln) (legs : List Leg) (n : Int) : brT P legs n (2 * legs.length) 0 = breaksL P legs n := by simp [brT, idxR, breaksL]
theorem idxR_le {P : Pln} (hP : PlnOk P) (j : Nat) : ∀ c, (idxR P j c).length ≤ 12 * c
  | 0 => by simp [idxR]
  | c + 1 => by
    have h1 := idxR_le hP j c
    have h2 := manyR_le hP (c + 2)
    simp only [idxR, List.length_append, List.length_map, List.length_range]; omega
theorem idxT_le {P : Pln} (hP : PlnOk P) : ∀ n, (idxT P n).length ≤ 72 * n
  | 0 => by simp [idxT]
  | n + 1 => by
    have h1 := idxT_le hP n
    have h2 := idxR_le hP n 6
    simp only [idxT, List.length_append]; omega
theorem brT_le {P : Pln} (hP : PlnOk P) (legs : List Leg) (n : Int) (j c : Nat) : (brT P legs n j c).length ≤ 72 * j + 12 * c := by
  have h1 := idxT_le hP j
  have h2 := idxR_le hP j c
  simp only [brT, List.length_map, List.length_append]; omega
theorem breaks_spec (P : Pln) (legs : List Leg) (n : Int) (hP : PlnOk P) (hT : TripOk P ⟨n, n⟩ legs) : Spec Tryz.prog 64 [.agg P.cells, legL legs, .v (.int .i64 n)] (bools (breaksL P legs n)) := by
  have hn := hT.n
  have hp := points_spec P ⟨n, n⟩ legs hP.nf hT
  have hat := fun j (h : j < 2 * legs.length) => pntAt_ptsL (P := P) (fuel := ⟨n, n⟩) (legs := legs) h
  have hok := fun j (h : j < 2 * legs.length) => ptOf_ok hT h
  have hlen := ptsL_length P ⟨n, n⟩ legs (2 * legs.length)
  have hml := manyR_le hP
  simp only [Spn.cells] at hp
  generalize ptsL P ⟨n, n⟩ legs (2 * legs.length) = L at *
  refine spec_of mixed Tryz.func64 (by decide) rfl Tryz.results64 Tryz.ntmps64 (by decide) 0 (by simp) ?_
  simp [Pln.cells, cnrL, stnL, legL]
  refine pop_spec hp rfl false (.inl (by simp [Pln.cells, cnrL, stnL, legL])) (.inl rfl) rfl (by simp [pntL]) ?_
  simp [pntL, hlen]
  refine pwp_loop (fun j : Nat => [(7, .own 34 (6 * j) 0 (brT P legs n j 0).length false), (19, .v (.int .i64 j)), (34, .rows none (6 * j) 4 1 (rowsB (brT P legs n j 0)))]) (fun j => j ≤ 2 * legs.length) (fun j => 2 * legs.length - j) 0 (Nat.zero_le _) (by simp; rfl) (by simp [hlen, brT_zero]) ?_
  intro j hj
  by_cases hjl : j < 2 * legs.length
  · have wj := i64_wrap (show -9223372036854775808 ≤ (j : Int) + 1 ∧ _ from by omega)
    have hrs := rules_spec P (ptOf P ⟨n, n⟩ legs j)
    have hr := fun r (h : r < 6) => rule_spec P (ptOf P ⟨n, n⟩ legs j) hP (hok j hjl) h
    have hsucc := fun c => brT_succ P legs n j c
    have hle := fun c => brT_le hP legs n j c
    have hrll := fun c => rl_length P (ptOf P ⟨n, n⟩ legs j) c
    have hX : ptOf P ⟨n, n⟩ legs j = pntAt L j := (hat j hjl).symm
    rw [hX] at hrs hr hsucc hrll
    simp only [rulesV] at hrs
    have hpc : pntC P (pntAt L j) = [.v (.int .i64 P.empty), .v (.int .i64 P.moment), .v (.int .i64 P.takeoff), .v (.int .i64 P.landing), cnrL P.corners, stnL P.stations, .v (.int .i64 P.tank.arm), .v (.int .i64 P.tank.most), .v (.int .i64 P.reserve), stnL P.floats, itmL (pntAt L j).items, .v (.int .i64 (pntAt L j).tank.low), .v (.int .i64 (pntAt L j).tank.high), spnL (pntAt L j).water, .v (.bool (pntAt L j).landing)] := rfl
    simp (config := { maxSteps := 4000000 }) [show (j : Int) < 2 * (legs.length : Int) from by omega, hlen, show j < L.length from by omega, hjl, Pnt.cells, itmL, spnL]
    refine pop_spec hrs rfl false (.inl (by simp [hpc, cnrL, stnL, itmL, spnL])) (.inl rfl) rfl (by simp [hpc, cnrL, stnL, itmL, spnL]) ?_
    simp [hpc, cnrL, stnL, itmL, spnL]
    refine pwp_loop (fun c : Nat => [(7, .own 34 (6 * j + c) 0 (brT P legs n j c).length false), (28, .v (.int .i64 c)), (34, .rows none (6 * j + c) 4 1 (rowsB (brT P legs n j c)))]) (fun c => c ≤ 6) (fun c => 6 - c) 0 (Nat.zero_le _) (by simp; rfl) (by simp [hpc, cnrL, stnL, itmL, spnL, hlen]) ?_
    intro c hc
    by_cases hlt : c < 6
    · have hcall := hr c hlt
      have hm := hml (c + 2)
      have hrl := hrll c
      have hs := hsucc c
      have h0 := hle c
      have e1 : (brT P legs n j (c + 1)).length = (brT P legs n j c).length + (rl P (pntAt L j) c).length := by rw [← hs, List.length_append]
      have er := rowsB_app (brT P legs n j c) (rl P (pntAt L j) c)
      rw [hs] at er
      have erng := rowsB_range (rl P (pntAt L j) c)
      generalize rl P (pntAt L j) c = R at *
      generalize hB : brT P legs n j c = B at *
      have et : B.take B.length = B := List.take_of_length_le (Nat.le_refl _)
      obtain ⟨c', hc'⟩ : ∃ c', c' = c + 1 := ⟨_, rfl⟩
      have hcases : c = 0 ∨ c = 1 ∨ c = 2 ∨ c = 3 ∨ c = 4 ∨ c = 5 := by omega
      rcases hcases with rfl | rfl | rfl | rfl | rfl | rfl
      all_goals
        simp only [ruleF] at hcall
        simp [ruleF]
        refine pop_spec hcall rfl false (.inl (by simp [hpc, cnrL, stnL, itmL, spnL])) (.inl rfl) rfl (by simp [bools]) ?_
        simp [bools, show B.length + R.length ≤ 140737488355328 from by omega, show B.length + R.length ≤ maxLen from by simp [maxLen]; omega]
        refine again_of c' (by omega) (by omega) ?_
        subst hc'
        simp [hlen, e1, er, et, erng]
    · obtain rfl : c = 6 := by omega
      simp
      refine again_of (j + 1) (by omega) (by omega) ?_
      simp [wj, hlen, brT_next, show 6 * (j + 1) = 6 * j + 6 from by omega]
  · obtain rfl : j = 2 * legs.length := by omega
    simp [hlen]
    refine answers_of rfl ?_
    rw [brT_all]
    simp [bools]
    intro k hk
    simp [rowsB_get hk]
theorem end_unique {p : Int → Bool} {K : Nat} (h : p K = false) {x : Int} (hx : 0 ≤ x) (h1 : p x = false) (h2 : ∀ n : Int, 0 ≤ n → n < x → p n = true) : endOf p K = x := by
  obtain ⟨g1, g2, g3⟩ := endOf_spec h
  rcases Int.lt_trichotomy (endOf p K) x with c | c | c
  · have := h2 _ g1.1 c; rw [g2] at this; cases this
  · exact c
  · have := g3 x hx c; rw [h1] at this; cases this
theorem change_spec (f : FuncId) (first cap : List PV) (h1 : plainL first = true) (h2 : plainL cap = true) (p : Int → Bool) (hd : DownB p) (hK : p 20000 = false)
    (h : ∀ n : Int, 0 ≤ n → n ≤ 20000 → Spec Tryz.prog f (first ++ ([.v (.int .i64 n)] ++ cap)) (.v (.bool (p n)))) : Spec Tryz.prog 65 [.v (.int .i64 0), .v (.int .i64 20000), .clo (.func f) first cap] (.v (.int .i64 (endOf p (20000 : Nat)))) := by
  refine spec_of mixed Tryz.func65 (by decide) rfl Tryz.results65 Tryz.ntmps65 (by decide) 0 (by simp) ?_
  simp [renL_plain h1, renL_plain h2]
  refine pop_spec (h 20000 (by omega) (by omega)) rfl false (.inr ⟨by simp, by simp [namesL_append, plainL_names h1, plainL_names h2]⟩) (.inl rfl) rfl (by simp) ?_
  rw [hK]
  simp
  refine pwp_loop (fun s : Int × Int => [(0, .v (.int .i64 s.1)), (1, .v (.int .i64 s.2))]) (fun s => (0 ≤ s.1 ∧ s.1 ≤ s.2 ∧ s.2 ≤ 20000) ∧ p s.2 = false ∧ ∀ n : Int, 0 ≤ n → n < s.1 → p n = true) (fun s => (s.2 - s.1).toNat) (0, 20000) ⟨by simp, hK, fun n a b => by simp only at b; omega⟩ (by simp; rfl) (by simp [vwAll_plain h1, vwAll_plain h2]) ?_
  rintro ⟨lo, hi⟩ ⟨⟨a1, a2, a3⟩, a4, a5⟩
  simp only at a1 a2 a3 a4 a5 ⊢
  by_cases hlt : lo < hi
  · obtain ⟨d, hdv⟩ : ∃ d : Int, d = (hi - lo) / 2 := ⟨_, rfl⟩
    have hd0 : 0 ≤ d ∧ lo + d < hi := by omega
    have w1 := i64_wrap (show -9223372036854775808 ≤ hi - lo ∧ _ from by omega)
    have w2 : (hi - lo).tdiv 2 = d := by rw [Int.tdiv_eq_ediv_of_nonneg (by omega), hdv]
    have w3 := i64_wrap (show -9223372036854775808 ≤ d ∧ _ from by omega)
    have w4 := i64_wrap (show -9223372036854775808 ≤ lo + d ∧ _ from by omega)
    have w5 := i64_wrap (show -9223372036854775808 ≤ lo + d + 1 ∧ _ from by omega)
    simp [hlt, w1, w2, w3, w4]
    refine pop_spec (h (lo + d) (by omega) (by omega)) rfl false (.inr ⟨by simp, by simp [namesL_append, plainL_names h1, plainL_names h2]⟩) (.inl rfl) rfl (by simp) ?_
    cases hp : p (lo + d) with
    | false =>
      simp
      refine again_of (lo, lo + d) ⟨⟨a1, by omega, by omega⟩, hp, a5⟩ (by simp only; omega) ?_
      simp [vwAll_plain h1, vwAll_plain h2]
    | true =>
      simp [w5]
      refine again_of (lo + d + 1, hi) ⟨⟨by omega, by omega, a3⟩, a4, fun n b1 b2 => hd n (lo + d) (by simp only at b2; omega) hp⟩ (by simp only; omega) ?_
      simp [vwAll_plain h1, vwAll_plain h2]
  · obtain rfl : hi = lo := by omega
    simp
    refine answers_of rfl ?_
    rw [end_unique (K := 20000) hK a1 a4 a5]
    simp
theorem tripOk_fuel {P : Pln} {f g : Spn} {legs : List Leg} (h : TripOk P f legs) (hg : 0 ≤ g.low ∧ g.low ≤ g.high ∧ g.high ≤ 20000) : TripOk P g legs := ⟨hg, h.n, h.leg⟩
theorem Fuel1_spec (P : Pln) (legs : List Leg) (n : Int) (k : Nat) (hP : PlnOk P) (hT : TripOk P ⟨n, n⟩ legs) (hk : k < (idxT P (2 * legs.length)).length) :
    Spec Tryz.prog 66 [.v (.int .i64 n), .rp P.cells 0, .rp [legL legs] 0, .rp [.v (.int .i64 k)] 0] (.v (.bool (brkK P legs k n))) := by
  have hb := breaks_spec P legs n hP hT
  have hlen := breaksL_length P legs n
  have e : brkK P legs k n = getb (breaksL P legs n) k := rfl
  rw [e]
  generalize breaksL P legs n = B at *
  refine spec_of mixed Tryz.func66 (by decide) rfl Tryz.results66 Tryz.ntmps66 (by decide) 0 (by simp) ?_
  simp [Pln.cells, cnrL, stnL, legL]
  refine pwp_draw 7 (by decide) ?_
  simp
  refine pd_spec hb (by simp [Pln.cells, cnrL, stnL, legL]) (by simp) (by simp [Pln.cells, cnrL, stnL, legL]) (by simp [bools]) ?_
  simp [bools, show k < B.length from by omega]
  refine ⟨by decide, ?_⟩
  refine answers_of rfl ?_; simp
theorem fuelTo_no {p : Nat → Int → Bool} {K k : Nat} (h : fuelTo p K k = none) : ∀ {N : Nat}, k ≤ N → fuelTo p K N = none
  | 0, hk => by obtain rfl : k = 0 := by omega
                exact h
  | N + 1, hk => by
    rcases Nat.lt_or_eq_of_le hk with c | rfl
    · simp only [fuelTo, fuelTo_no h (show k ≤ N by omega)]
    · exact h
def fuelRes (P : Pln) (legs : List Leg) : PV := if trippedE P ⟨0, 0⟩ legs = 0 then (match fuelP P legs with
  | some n => .tup [.v (.int .i64 n), .v (.int .i64 0)]
  | none => .tup [.v (.int .i64 0), .v (.int .i64 5)]) else .tup [.v (.int .i64 0), .v (.int .i64 (trippedE P ⟨0, 0⟩ legs))]
theorem Fuel_spec (P : Pln) (legs : List Leg) (hP : PlnLen P) (hl : LegsLen legs) : Spec Tryz.prog 18 [.agg P.cells, legL legs] (fuelRes P legs) := by
  have ht := tripped_spec P ⟨0, 0⟩ legs hP hl.n hl.i
  simp only [Spn.cells] at ht
  unfold fuelRes
  refine spec_of mixed Tryz.func18 (by decide) rfl Tryz.results18 Tryz.ntmps18 (by decide) 0 (by simp) ?_
  simp [Pln.cells, cnrL, stnL, legL]
  refine pop_spec ht rfl false (.inl (by simp [Pln.cells, cnrL, stnL, legL])) (.inl rfl) rfl (by simp) ?_
  by_cases h : trippedE P ⟨0, 0⟩ legs = 0
  case neg =>
    simp [h]
    refine answers_of rfl ?_; simp
  obtain ⟨k1, k2⟩ := tripped_ok.1 h
  have hn := k2.n
  have hb0 := breaks_spec P legs 0 k1 k2
  have hb1 := breaks_spec P legs 20000 k1 (tripOk_fuel k2 (by simp))
  have hl0 := breaksL_length P legs 0
  have hl1 := breaksL_length P legs 20000
  have hle := idxT_le k1 (2 * legs.length)
  simp only [bools] at hb0 hb1
  simp [h]
  refine pwp_draw 8 (by decide) ?_
  simp
  refine pd_spec hb0 (by simp [Pln.cells, cnrL, stnL, legL]) (by simp) (by simp [Pln.cells, cnrL, stnL, legL]) (by simp) ?_
  simp
  refine pd_spec hb1 (by simp [Pln.cells, cnrL, stnL, legL]) (by simp) (by simp [Pln.cells, cnrL, stnL, legL]) (by simp) ?_
  simp
  refine ⟨by decide, ?_⟩
  have hshift := brk_shift P legs
  have g0 : ∀ k, getb (breaksL P legs 0) k = brkK P legs k 0 := fun k => rfl
  have g1 : ∀ k, getb (breaksL P legs 20000) k = brkK P legs k 20000 := fun k => rfl
  have hF1 := fun (n : Int) (h0 : 0 ≤ n ∧ n ≤ 20000) k hk => Fuel1_spec P legs n k k1 (tripOk_fuel (g := ⟨n, n⟩) k2 ⟨h0.1, Int.le_refl _, h0.2⟩) hk
  have hfP : ∀ N, N = (idxT P (2 * legs.length)).length → fuelP P legs = match fuelTo (brkK P legs) 20000 N with
    | none => none
    | some low => if (tripP P ⟨low, low⟩ legs).isNone = true then some low else none := fun N hN => by subst hN; rfl
  generalize hB0 : breaksL P legs 0 = B0 at *
  generalize hB1 : breaksL P legs 20000 = B1 at *
  generalize hN : (idxT P (2 * legs.length)).length = N at *
  replace hfP := hfP N rfl
  refine pwp_loop (fun s : Nat × Int => [(2, .rp P.cells 0), (3, .rp [legL legs] 0), (9, .v (.int .i64 s.2)), (29, .v (.int .i64 s.1))]) (fun s => s.1 ≤ N ∧ fuelTo (brkK P legs) 20000 s.1 = some s.2 ∧ 0 ≤ s.2 ∧ s.2 ≤ 20000) (fun s => N - s.1) (0, 0) ⟨Nat.zero_le _, rfl, by simp, by simp⟩ (by simp; rfl) (by simp [Pln.cells, cnrL, stnL, legL]) ?_
  rintro ⟨k, low⟩ ⟨hk, hf, hlo⟩
  simp only at hk hf hlo ⊢
  by_cases hkl : k < N
  · have wk := i64_wrap (show -9223372036854775808 ≤ (k : Int) + 1 ∧ _ from by omega)
    have hsucc : fuelTo (brkK P legs) 20000 (k + 1) = if brkK P legs k 0 = true ∧ brkK P legs k 20000 = true then none else if brkK P legs k 0 = true then some (max low (endOf (brkK P legs k) 20000)) else some low := by simp only [fuelTo, hf]; rfl
    have q0 := g0 k
    have q1 := g1 k
    cases c0 : brkK P legs k 0 with
    | false =>
      rw [c0] at q0 hsucc
      simp [Pln.cells, cnrL, stnL, legL, hl0, hl1, hkl, q0]
      refine again_of (k + 1, low) ⟨by simp only; omega, by simpa using hsucc, hlo⟩ (by simp only; omega) ?_
      simp [wk, Pln.cells, cnrL, stnL, legL, hl0, hl1]
    | true =>
      rw [c0] at q0 hsucc
      cases c1 : brkK P legs k 20000 with
      | true =>
        rw [c1] at q1 hsucc
        have hnone := fuelTo_no (k := k + 1) (by simpa using hsucc) (show k + 1 ≤ N by omega)
        rw [hnone] at hfP
        simp [Pln.cells, cnrL, stnL, legL, hl0, hl1, hkl, q0, q1]
        refine answers_of rfl ?_
        rw [hfP]
        simp
      | false =>
        rw [c1] at q1 hsucc
        have hdn : DownB (brkK P legs k) := (hshift k).resolve_left fun hu => by
          have := hu 0 20000 (by omega) c0
          rw [c1] at this; cases this
        have hch := change_spec 66 [] [.rp P.cells 0, .rp [legL legs] 0, .rp [.v (.int .i64 k)] 0] rfl (by simp [plainL, PV.plain, Pln.cells, cnrL, stnL, legL]) (brkK P legs k) hdn c1 fun n h0 h1 => hF1 n ⟨h0, h1⟩ k hkl
        have hend := endOf_spec (p := brkK P legs k) (K := 20000) c1
        simp only [if_true, Bool.false_eq_true, and_false, if_false] at hsucc
        generalize endOf (brkK P legs k) ((20000 : Nat) : Int).toNat = E0 at *
        generalize hE : endOf (brkK P legs k) 20000 = E at *
        simp [Pln.cells, cnrL, stnL, legL, hl0, hl1, hkl, q0, q1]
        refine pop_specF [(10, .undef), (47, .clo (.func 66) [] [.rp P.cells 0, .rp [legL legs] 0, .rp [.v (.int .i64 k)] 0])] ?_ hch rfl false (.inl ?_) (.inl rfl) rfl (by simp) ?_
        · simp [Pln.cells, cnrL, stnL, legL, hl0, hl1]
        · simp [Pln.cells, cnrL, stnL, legL]
        have hmax : (if low < E then E else low) = max low E := by split <;> omega
        simp [hmax]
        refine again_of (k + 1, max low E) ⟨by simp only; omega, hsucc, by simp only; omega⟩ (by simp only; omega) ?_
        simp [wk, Pln.cells, cnrL, stnL, legL, hl0, hl1]
  · obtain rfl : k = N := by omega
    rw [hf] at hfP
    simp only at hfP
    have hfs := first_spec P ⟨low, low⟩ legs k1 (tripOk_fuel k2 ⟨hlo.1, Int.le_refl _, hlo.2⟩)
    unfold firstRes at hfs
    simp only [Spn.cells] at hfs
    simp [Pln.cells, cnrL, stnL, legL, hl0, hl1]
    cases hj : tripP P ⟨low, low⟩ legs with
    | none =>
      rw [hj] at hfs hfP
      simp only at hfs hfP
      refine pop_spec hfs rfl false (.inl (by simp [Pln.cells, cnrL, stnL, legL])) (.inl rfl) rfl (by simp) ?_
      simp
      refine answers_of rfl ?_
      rw [hfP]
      simp
    | some j =>
      rw [hj] at hfs hfP
      simp only at hfs hfP
      refine pop_spec hfs rfl false (.inl (by simp [Pln.cells, cnrL, stnL, legL])) (.inl rfl) rfl (by simp) ?_
      simp
      refine answers_of rfl ?_
      rw [hfP]
      simp
end Go.Qg

namespace Go.Qg
open Go.Proofs
set_option maxRecDepth 100000
set_option linter.unusedSimpArgs false
set_option maxHeartbeats 32000000
attribute [local irreducible] pwp pops pdraw pop popCall pdCall thenP blockP scopeP pspec Spec answers ppost CallW rend
theorem Same_spec (a b : List Int) (ha : a.length ≤ 9223372036854775807) (hb : b.length ≤ 9223372036854775807) : Spec Tryz.prog 24 [ints a, ints b] (.v (.bool (decide (a = b)))) := by
  refine spec_of mixed Tryz.func24 (by decide) rfl Tryz.results24 Tryz.ntmps24 (by decide) 0 (by simp) ?_
  simp [ints]
  by_cases hl : a.length = b.length
  · simp [hl]
    refine pwp_loop (fun k : Nat => [(5, .v (.int .i64 k))]) (fun k => k ≤ b.length ∧ ∀ j, j < k → geti a j = geti b j) (fun k => b.length - k) 0 ⟨Nat.zero_le _, fun j hj => by omega⟩ (by simp; rfl) (by simp [hl]) ?_
    intro k ⟨hk, hp⟩
    by_cases hkl : k < b.length
    · have wk := i64_wrap (show -9223372036854775808 ≤ (k : Int) + 1 ∧ _ from by omega)
      simp [hkl, hl]
      refine pwp_draw 9 (by decide) ?_
      by_cases he : geti a k = geti b k
      · simp [hkl, hl, he]
        refine ⟨by decide, ?_⟩
        refine again_of (k + 1) ⟨by omega, fun j hj => ?_⟩ (by omega) ?_
        · rcases Nat.lt_succ_iff_lt_or_eq.1 hj with hj | rfl
          · exact hp j hj
          · exact he
        · simp [wk, hl]
      · simp [hkl, hl, he]
        refine ⟨by decide, ?_⟩
        have hne : ¬ a = b := fun h => he (by rw [h])
        refine answers_of rfl ?_; simp [hne]
    · simp [hkl]
      have heq : a = b := ext_geti hl fun j hj => hp j (by omega)
      refine answers_of rfl ?_; simp [heq]
  · simp [show ¬ (a.length : Int) = b.length from by omega]
    have hne : ¬ a = b := fun h => hl (by rw [h])
    refine answers_of rfl ?_; simp [hne]
theorem SameCase_spec (a b : Cse) (h1 : a.items.length ≤ 9223372036854775807) (h2 : b.items.length ≤ 9223372036854775807) (h3 : a.water.length ≤ 9223372036854775807) (h4 : b.water.length ≤ 9223372036854775807) :
    Spec Tryz.prog 38 [.agg a.cells, .agg b.cells] (.v (.bool (decide (a.items = b.items) && decide (a.tank = b.tank) && decide (a.water = b.water)))) := by
  refine spec_of mixed Tryz.func38 (by decide) rfl Tryz.results38 Tryz.ntmps38 (by decide) 0 (by simp) ?_
  simp [Cse.cells, ints]
  refine pop_spec (Same_spec a.items b.items h1 h2) rfl false (.inl (by simp [ints])) (.inl rfl) rfl (by simp) ?_
  by_cases e1 : a.items = b.items
  · by_cases e2 : a.tank = b.tank
    · simp [e1, e2]
      refine pop_spec (Same_spec a.water b.water h3 h4) rfl false (.inl (by simp [ints])) (.inl rfl) rfl (by simp) ?_
      simp
      refine answers_of rfl ?_; simp
    · simp [e1, e2]
      refine answers_of rfl ?_; simp
  · simp [e1]
    refine answers_of rfl ?_; simp
def knP : Pln := ⟨1000, 100000, 2000, 1900, [⟨1000, 95000⟩, ⟨2000, 190000⟩, ⟨2000, 230000⟩, ⟨1000, 115000⟩], [⟨90, 200⟩, ⟨200, 300⟩], ⟨120, 200⟩, 40, [⟨100, 50⟩, ⟨100, 50⟩]⟩
def knI : List Itm := [⟨0, 70, 90⟩, ⟨1, 100, 140⟩]
def knT : List Leg := [⟨knI, false, 0, ⟨30, 40⟩, ⟨0, 5⟩⟩, ⟨[⟨0, 70, 90⟩], false, 0, ⟨60, 80⟩, ⟨0, 5⟩⟩]
def knX : Pnt := ⟨[⟨1, 200, 290⟩], ⟨200, 200⟩, [⟨0, 10⟩, ⟨0, 10⟩], false⟩
def knL : List Leg := [⟨[], false, 0, ⟨0, 0⟩, ⟨0, 0⟩⟩]
def knW : List Psn := [⟨200, 200, 1, 0, 0, 5⟩, ⟨150, 150, 1, 0, 0, 4⟩, ⟨150, 150, 0, 0, 0, 3⟩]
theorem lP_spec : Spec Tryz.prog 61 [] (.agg knP.cells) := by
  refine spec_of mixed Tryz.func61 (by decide) rfl Tryz.results61 Tryz.ntmps61 (by decide) 0 (by simp) ?_
  simp
  refine answers_of (x := .agg [.v (.int .i64 1000), .v (.int .i64 100000), .v (.int .i64 2000), .v (.int .i64 1900), .own 14 0 0 4 false, .own 9 0 0 2 false, .v (.int .i64 120), .v (.int .i64 200), .v (.int .i64 40), .own 6 0 0 2 false]) (by simp) ?_
  simp [knP, Pln.cells, cnrL, stnL]
  refine ⟨lt4 ?_ ?_ ?_ ?_, lt2 ?_ ?_, lt2 ?_ ?_⟩ <;> simp [cnrAt, Cnr.cells, stnAt, Stn.cells]
theorem lT_spec : Spec Tryz.prog 62 [] (legL knT) := by
  have r14 : List.range 14 = [0, 1, 2, 3, 4, 5, 6, 7, 8, 9, 10, 11, 12, 13] := rfl
  refine spec_of mixed Tryz.func62 (by decide) rfl Tryz.results62 Tryz.ntmps62 (by decide) 0 (by simp) ?_
  simp [r14]
  refine answers_of (x := .own 16 0 0 2 false) (by simp) ?_
  simp [knT, knI, legL, r14]
  refine lt2 ?_ ?_
  · simp [legAt, Leg.cells, itmL]
    refine lt2 ?_ ?_ <;> simp [itmAt, Itm.cells]
  · simp [legAt, Leg.cells, itmL, itmAt, Itm.cells]
theorem dec_lt {u : Nat} (h : u < 10) : Lib.decDigits u = [UInt8.ofNat (48 + u)] := by rw [Lib.decDigits, dif_pos h]
theorem dec_ge {u : Nat} (h : ¬ u < 10) : Lib.decDigits u = Lib.decDigits (u / 10) ++ [UInt8.ofNat (48 + u % 10)] := by rw [Lib.decDigits, dif_neg h]
def knS : List UInt8 := [116, 114, 105, 112, 32, 49, 53, 48, 32, 49, 54, 48, 32, 50, 10, 108, 101, 103, 32, 107, 101, 101, 112, 32, 48, 32, 51, 48, 32, 52, 48, 32, 48, 32, 53, 32, 50, 10, 105, 116, 101, 109, 32, 48, 32, 55, 48, 32, 57, 48, 10, 105, 116, 101, 109, 32, 49, 32, 49, 48, 48, 32, 49, 52, 48, 10, 108, 101, 103, 32, 107, 101, 101, 112, 32, 48, 32, 54, 48, 32, 56, 48, 32, 48, 32, 53, 32, 49, 10, 105, 116, 101, 109, 32, 48, 32, 55, 48, 32, 57, 48, 10, 101, 110, 100, 32, 50, 57, 10]
theorem k_sheet : printB ⟨150, 160⟩ knT = knS := by
  simp [printB, sheetB, sheetS, legsTo, legsSum, itemsTo, itemsSum, lineB, joinB, numsB, headN, legN, itmN, legWs, knT, knI, legAt, itmAt, sumI, lastB, Lib.itoa, dec_lt, dec_ge, Lib.join, List.intercalate, tripW, legW, keepW, pumpW, itemW]
  rfl
theorem knP_fit : PlnLen knP := ⟨by simp [knP], by simp [knP], by simp [knP]⟩
theorem knT_fit : LegsLen knT := ⟨by simp [knT], lt2 (by simp [knT, knI, legAt]) (by simp [knT, legAt])⟩
theorem knL_fit : LegsLen knL := ⟨by simp [knL], fun k hk => by obtain rfl : k = 0 := (by simp [knL] at hk; omega); simp [knL, legAt]⟩
theorem knX_fit : PntLen knX := by constructor <;> simp [knX]
theorem k_sure : sureRes knP knX = .tup [.v (.int .i64 6), .v (.int .i64 2), .agg (Cse.mk [290] 200 [0, 0]).cells, .v (.int .i64 0)] := by
  have h1 : rightB knP knX = true := by kernel_rfl
  have h2 : brokenP knP knX = (6, 2) := by kernel_rfl
  have h3 : worstC knP knX 6 2 = ⟨[290], 200, [0, 0]⟩ := by kernel_rfl
  rw [sureRes, if_pos h1, h2, if_neg (by decide), h3]
  rfl
theorem k_trip : tripRes knP ⟨150, 160⟩ knT = .tup [.v (.int .i64 3), .v (.int .i64 7), .v (.int .i64 0), .v (.int .i64 0)] := by
  have h1 : trippedE knP ⟨150, 160⟩ knT = 0 := by kernel_rfl
  have h2 : tripP knP ⟨150, 160⟩ knT = some 3 := by kernel_rfl
  have h3 : brokenP knP (ptOf knP ⟨150, 160⟩ knT 3) = (7, 0) := by kernel_rfl
  rw [tripRes, if_pos h1, h2]
  simp only
  rw [h3]
  rfl
theorem k_fuel : fuelRes knP knT = .tup [.v (.int .i64 160), .v (.int .i64 0)] := by
  have h1 : trippedE knP ⟨0, 0⟩ knT = 0 := by kernel_rfl
  have k4 : tripP knP ⟨160, 160⟩ knT = none := by kernel_rfl
  have k5 : tripP knP ⟨159, 159⟩ knT = some 3 := by kernel_rfl
  have h4 := trip_none.1 k4
  have h5 : ¬ sureT knP ⟨159, 159⟩ knT := fun h => by
    rw [trip_none.2 h] at k5
    cases k5
  have h := fuel_law knP knT
  rw [fuelRes, if_pos h1]
  cases hf : fuelP knP knT with
  | none => rw [hf] at h; exact (h 160 (by omega) (by omega) h4).elim
  | some n =>
    rw [hf] at h
    obtain ⟨g1, g2, g3⟩ := h
    have a : ¬ 160 < n := fun hl => g3 160 (by omega) hl h4
    have b : ¬ n < 160 := fun hl => h5 (fuel_span knP knT (by omega) (by omega) g2 h4)
    obtain rfl : n = 160 := by omega
    rfl
theorem k_take : takeRes knP ⟨100, 100⟩ knL knW = .tup [ints [0, 2], .v (.int .i64 8), .v (.int .i64 0)] := by
  have h1 : takeE knP ⟨100, 100⟩ knL knW = 0 := by kernel_rfl
  have h2 : takeBest knP ⟨100, 100⟩ knL knW = ([0, 2], 8) := by kernel_rfl
  rw [takeRes, if_pos h1, h2]
theorem k_print : printRes ⟨150, 160⟩ knT = .tup [.v (.string ⟨#[116, 114, 105, 112, 32, 49, 53, 48, 32, 49, 54, 48, 32, 50, 10, 108, 101, 103, 32, 107, 101, 101, 112, 32, 48, 32, 51, 48, 32, 52, 48, 32, 48, 32, 53, 32, 50, 10, 105, 116, 101, 109, 32, 48, 32, 55, 48, 32, 57, 48, 10, 105, 116, 101, 109, 32, 49, 32, 49, 48, 48, 32, 49, 52, 48, 10, 108, 101, 103, 32, 107, 101, 101, 112, 32, 48, 32, 54, 48, 32, 56, 48, 32, 48, 32, 53, 32, 49, 10, 105, 116, 101, 109, 32, 48, 32, 55, 48, 32, 57, 48, 10, 101, 110, 100, 32, 50, 57, 10]⟩), .v (.int .i64 0)] := by
  have h1 : tripE ⟨150, 160⟩ knT 8 = 0 := by kernel_rfl
  rw [printRes, if_pos h1, k_sheet]
  rfl
end Go.Qg

namespace Go.Qg
open Go.Proofs
set_option maxRecDepth 100000
set_option linter.unusedSimpArgs false
set_option maxHeartbeats 32000000
attribute [local irreducible] pwp pops pdraw pop popCall pdCall thenP blockP scopeP pspec Spec answers ppost CallW rend
theorem pd_callM {P : Program} {o : Oper} {fr : PF} {c : Call} {f : FuncId} {ps qs : List PV} {r : PV} {H2 : PF} {k : List Nat → PF → Prop} (h : CallW P f qs [] fun out => out = .ret r H2) (news : List Nat) (hp : pcallee P fr c = some (f, ps)) (hno : noObj o.dst fr = true)
    (ha : ∀ g : PF, (∀ y ∈ c.args.toList, ∀ s ∈ deref (rd fr y) ++ nest (rd fr y), g[s]? = fr[s]?) → vwAll (vw g (lentTgt [] [] true) 8) qs ps) (hfl : (flatL H2 && r.flat) = true)
    (hb : backOk fr [] news H2) (hd : ∀ d, o.dst = some d → d ∉ news) (hk : k news (put o.dst (backV news r) (back fr news H2))) : pdCall P o c fr k := by
  unfold pdCall
  rw [hp]
  exact ⟨hno, true, qs, r, H2, news, .inr ⟨rfl, ha⟩, .inr hfl, h, hb, hd, hk⟩
theorem known_spec : Spec Tryz.prog 17 [] (.v (.bool true)) := by
  have hsure := Sure_spec knP knX knP_fit knX_fit
  rw [k_sure] at hsure
  have htrip := Trip_spec knP ⟨150, 160⟩ knT knP_fit knT_fit
  rw [k_trip] at htrip
  have hfuel := Fuel_spec knP knT knP_fit knT_fit
  rw [k_fuel] at hfuel
  have htake := Take_spec knP ⟨100, 100⟩ knL knW knP_fit knL_fit (by simp [knW])
  rw [k_take] at htake
  have hprint := Print_spec ⟨150, 160⟩ knT knT_fit.n knT_fit.i
  rw [k_print] at hprint
  have hsame := SameCase_spec ⟨[290], 200, [0, 0]⟩ ⟨[290], 200, [0, 0]⟩ (by simp) (by simp) (by simp) (by simp)
  have hsame2 := Same_spec [0, 2] [0, 2] (by simp) (by simp)
  have hso := SureO_spec knP knX knP_fit knX_fit (by kernel_rfl) (by rw [show brokenP knP knX = (6, 2) from by kernel_rfl]; decide)
  rw [show brokenP knP knX = (6, 2) from by kernel_rfl, show worstC knP knX 6 2 = ⟨[290], 200, [0, 0]⟩ from by kernel_rfl] at hso
  simp [cseO, cseH, rowsI] at hso
  have pP : plainL knP.cells = true := by simp [Pln.cells, plainL, PV.plain, cnrL, stnL]
  have r18 : List.range 18 = [0, 1, 2, 3, 4, 5, 6, 7, 8, 9, 10, 11, 12, 13, 14, 15, 16, 17] := rfl
  have oP : (∀ (x : PV), x ∈ knP.cells → x.one = true) ↔ True := ⟨fun _ => trivial, fun _ => by simp [Pln.cells, cnrL, stnL]⟩
  have pT : (PV.sl 7 knT.length fun i => (legAt knT i).cells).plain = true := by simp [PV.plain]
  have hT := lT_spec
  simp only [legL] at hT hfuel htrip hprint htake
  simp only [ints] at htake hsame2
  refine spec_of mixed Tryz.func17 (by decide) rfl Tryz.results17 Tryz.ntmps17 (by decide) 2 (by simp) ?_
  simp
  refine pwp_draw 20 (by decide) ?_
  simp
  refine pd_spec lP_spec rfl (by simp) (by simp) rfl ?_
  simp
  refine pd_callM hso [130, 131] rfl (by simp) ?_ rfl ?_ ?_ ?_
  · intro g hg
    have h22 := hg (.tmp 27) (by simp) 22 (by simp [deref])
    have h26 := hg (.tmp 27) (by simp) 26 (by simp [deref])
    simp at h22 h26
    clear hg hso hsame hsame2 hprint htake hfuel htrip hsure
    simp [knX, Pnt.cells, itmL, spnL, vwAll_plain pP]
    refine ⟨by simp [Pln.cells, cnrL, stnL], ⟨_, by rw [h22]; rfl, by simp, by simp [itmAt, Itm.cells], by simp [itmAt, Itm.cells]⟩, ⟨_, by rw [h26]; rfl, by simp, lt2 (by simp [spnAt, Spn.cells]) (by simp [spnAt, Spn.cells])⟩⟩
  · simp [backOk]
  · simp
  · clear hso
    simp [back, backV, placeAll]
    refine ⟨by decide, ?_⟩
    refine pop_spec lP_spec rfl false (.inl (by simp)) (.inl rfl) rfl (by simp) ?_
    simp
    refine pop_spec hT rfl false (.inl (by simp)) (.inl rfl) rfl (by simp) ?_
    simp
    refine pop_spec htrip rfl false (.inl (by simp [Spn.cells, vwAll_plain pP, vw_plain pT, oP])) (.inl rfl) rfl (by simp) ?_
    simp
    refine pop_spec lP_spec rfl false (.inl (by simp)) (.inl rfl) rfl (by simp) ?_
    simp
    refine pop_spec hT rfl false (.inl (by simp)) (.inl rfl) rfl (by simp) ?_
    simp
    refine pop_spec hfuel rfl false (.inl (by simp [vwAll_plain pP, vw_plain pT, oP])) (.inl rfl) rfl (by simp) ?_
    simp
    refine pop_spec lP_spec rfl false (.inl (by simp)) (.inl rfl) rfl (by simp) ?_
    simp
    refine pop_specF [(52, .sl 7 knL.length fun i => (legAt knL i).cells), (59, .sl 6 knW.length fun i => (psnAt knW i).cells)] ?_ htake rfl false (.inl ?_) (.inl rfl) rfl (by simp) ?_
    · clear hsame hsame2 hprint htake hfuel htrip hsure
      simp [knL, knW]
      refine ⟨⟨vwAll_plain pP, oP.2 trivial⟩, ?_⟩
      refine ⟨?_, ?_⟩
      · simp [legAt, Leg.cells, itmL]
      · exact lt3 (by simp [psnAt, Psn.cells, r18]) (by simp [psnAt, Psn.cells, r18]) (by simp [psnAt, Psn.cells, r18])
    · clear hsame hsame2 hprint htake hfuel htrip hsure
      simp [Spn.cells, vwAll_plain pP, oP, psnL]
    clear htake hfuel htrip hsure
    simp
    refine pop_spec hT rfl false (.inl (by simp)) (.inl rfl) rfl (by simp) ?_
    simp
    refine pop_spec hprint rfl false (.inl (by simp [Spn.cells, vwAll_plain pP, vw_plain pT, oP])) (.inl rfl) rfl (by simp) ?_
    clear hprint
    simp
    refine pop_spec hsame rfl true (.inl ?_) (.inr rfl) rfl (by simp) ?_
    · clear hsame hsame2
      simp [Cse.cells, ints]
      exact ⟨by simp [geti], lt2 (by simp [geti]) (by simp [geti])⟩
    simp
    refine pop_spec hsame2 rfl true (.inl ?_) (.inr rfl) rfl (by simp) ?_
    · clear hsame hsame2
      simp [ints]
      exact lt2 (by simp [geti]) (by simp [geti])
    simp
    refine answers_of rfl ?_
    simp
end Go.Qg

namespace Go.Qg
open Go.Proofs
set_option maxRecDepth 100000
set_option maxHeartbeats 32000000
set_option linter.unusedSimpArgs false
attribute [local irreducible] pwp pops pdraw pop popCall pdCall thenP blockP scopeP pspec Spec answers ppost CallW rend
theorem rin_spec (n lo hi : Int) : Spec Tryz.prog 58 [.v (.int .i64 n), .v (.int .i64 lo), .v (.int .i64 hi)] (.v (.bool (inB n lo hi))) := by
  refine spec_of mixed Tryz.func58 (by decide) rfl Tryz.results58 Tryz.ntmps58 (by decide) 0 (by simp) ?_
  by_cases h1 : lo ≤ n
  · by_cases h2 : n ≤ hi <;> (simp [h1, h2]; refine answers_of rfl ?_; simp [inB, h1, h2])
  · simp [h1]; refine answers_of rfl ?_; simp [inB, h1]
theorem rSpan_spec (s : Spn) (lo hi : Int) : Spec Tryz.prog 52 [.agg s.cells, .v (.int .i64 lo), .v (.int .i64 hi)] (.v (.bool (spanB s lo hi))) := by
  refine spec_of mixed Tryz.func52 (by decide) rfl Tryz.results52 Tryz.ntmps52 (by decide) 0 (by simp) ?_
  simp [Spn.cells]
  refine pop_spec (rin_spec s.low lo s.high) rfl false (.inl (by simp)) (.inl rfl) rfl (by simp) ?_
  cases h1 : inB s.low lo s.high with
  | false =>
    simp
    refine answers_of rfl ?_
    have : ¬ (lo ≤ s.low ∧ s.low ≤ s.high) := fun h => by rw [inB_spec.2 h] at h1; cases h1
    simp [spanB]
    intro a b
    exact (this ⟨a, b⟩).elim
  | true =>
    have h := inB_spec.1 h1
    by_cases h2 : s.high ≤ hi
    · simp [h2]
      refine answers_of rfl ?_; simp [spanB, h, h2]
    · simp [h2]
      refine answers_of rfl ?_; simp [spanB, h2]
theorem rstation_spec (s : Stn) : Spec Tryz.prog 59 [.agg s.cells] (.v (.bool (stnB s))) := by
  refine spec_of mixed Tryz.func59 (by decide) rfl Tryz.results59 Tryz.ntmps59 (by decide) 0 (by simp) ?_
  simp [Stn.cells]
  refine pop_spec (rin_spec s.arm (-1000) 1000) rfl false (.inl (by simp)) (.inl rfl) rfl (by simp) ?_
  cases h1 : inB s.arm (-1000) 1000 with
  | false => simp; refine answers_of rfl ?_; simp [stnB, h1]
  | true =>
    simp
    refine pop_spec (rin_spec s.most 0 20000) rfl false (.inl (by simp)) (.inl rfl) rfl (by simp) ?_
    simp
    refine answers_of rfl ?_; simp [stnB, h1]
theorem rcorner_spec (P : Pln) (i : Nat) (hn : 0 < P.corners.length) : Spec Tryz.prog 108 [.agg P.cells, .v (.int .i64 i)] (.agg (cnrAt P.corners (i % P.corners.length)).cells) := by
  have hne : ¬ P.corners = [] := fun e => by rw [e] at hn; cases hn
  obtain ⟨j, hj⟩ : ∃ j : Nat, j = i % P.corners.length := ⟨_, rfl⟩
  have hjl : j < P.corners.length := hj ▸ Nat.mod_lt _ hn
  have hji : (i : Int).tmod (P.corners.length : Int) = (j : Int) := by rw [hj]; rfl
  rw [← hj]
  refine spec_of mixed Tryz.func108 (by decide) rfl Tryz.results108 Tryz.ntmps108 (by decide) 0 (by simp) ?_
  simp [Pln.cells, cnrL, stnL]
  refine pwp_draw 9 (by decide) ?_
  simp [hne, hji, hjl, Cnr.cells]
  refine ⟨by decide, ?_⟩
  refine answers_of (x := .agg (cnrAt P.corners j).cells) (by simp [Cnr.cells]) ?_
  simp [Cnr.cells]
theorem rSide_spec (P : Pln) (e : Nat) (w m : Int) (hc : CnrsOk P) (he : e < P.corners.length) (hn : P.corners.length ≤ 1000000) (hw : Small 4000000 w) (hm : Small 4000000000 m) :
    Spec Tryz.prog 60 [.agg P.cells, .v (.int .i64 e), .v (.int .i64 w), .v (.int .i64 m)] (.v (.int .i64 (P.side e w m))) := by
  obtain ⟨s1, s2, s3, s4⟩ := edg_small hc he
  have h1 : Small 4020000000 (m - (P.cA e).moment) := ⟨by have := hm.1; have := s2.2; omega, by have := hm.2; have := s2.1; omega⟩
  have h2 : Small 4020000 (w - (P.cA e).weight) := ⟨by have := hw.1; have := s1.2; omega, by have := hw.2; have := s1.1; omega⟩
  have h3 := mul_small s3 h1 (by omega) (by omega)
  have h4 := mul_small s4 h2 (by omega) (by omega)
  have c1 := rcorner_spec P e (by omega)
  have c2 := rcorner_spec P (e + 1) (by omega)
  rw [Nat.mod_eq_of_lt he] at c1
  have we := i64_wrap (show -9223372036854775808 ≤ (e : Int) + 1 ∧ _ from by omega)
  have hpc : ((e + 1 : Nat) : Int) = (e : Int) + 1 := by omega
  rw [hpc] at c2
  simp only [Small, Pln.dw, Pln.dm, Pln.cA, Pln.cB] at h1 h2 h3 h4 s1 s2 s3 s4
  simp only [Cnr.cells] at c1 c2
  simp only [Pln.side, Pln.dw, Pln.dm, Pln.cA, Pln.cB]
  generalize cnrAt P.corners e = A at *
  generalize cnrAt P.corners ((e + 1) % P.corners.length) = B at *
  refine spec_of mixed Tryz.func60 (by decide) rfl Tryz.results60 Tryz.ntmps60 (by decide) 0 (by simp) ?_
  simp [Pln.cells, cnrL, stnL]
  refine pwp_draw 9 (by decide) ?_
  simp
  refine pd_spec c1 (by simp [Pln.cells, cnrL, stnL]) (by simp) (by simp [Pln.cells, cnrL, stnL]) rfl ?_
  simp [we]
  refine pd_spec c2 (by simp [Pln.cells, cnrL, stnL]) (by simp) (by simp [Pln.cells, cnrL, stnL]) rfl ?_
  simp
  refine ⟨by decide, ?_⟩
  refine answers_of rfl ?_
  simp [i64_wrap (show -9223372036854775808 ≤ B.weight - A.weight ∧ _ from by omega), i64_wrap (show -9223372036854775808 ≤ m - A.moment ∧ _ from by omega), i64_wrap (show -9223372036854775808 ≤ (B.weight - A.weight) * (m - A.moment) ∧ _ from by omega), i64_wrap (show -9223372036854775808 ≤ B.moment - A.moment ∧ _ from by omega), i64_wrap (show -9223372036854775808 ≤ w - A.weight ∧ _ from by omega), i64_wrap (show -9223372036854775808 ≤ (B.moment - A.moment) * (w - A.weight) ∧ _ from by omega), i64_wrap (show -9223372036854775808 ≤ (B.weight - A.weight) * (m - A.moment) - (B.moment - A.moment) * (w - A.weight) ∧ _ from by omega)]
def rcornB (P : Pln) : Bool := inB P.empty 1 20000 && inB P.moment (-20000000) 20000000 && inB P.takeoff 0 20000 && inB P.landing 0 20000 && inB P.reserve 0 20000 && inB P.corners.length 3 12 && decide (P.stations.length ≤ 8) && stnB P.tank && decide (P.floats.length ≤ 2)
theorem valid_r (P : Pln) : validB P = (rcornB P && stnsB P.stations && stnsB P.floats && cornersB P && convexB P) := by
  rw [Bool.eq_iff_iff]
  simp only [validB, rcornB, kilosB_three, Bool.and_eq_true]
  constructor
  · rintro ⟨⟨⟨⟨⟨⟨⟨⟨⟨⟨h1, h2⟩, ⟨h3, h4⟩, h5⟩, h6⟩, h7⟩, h8⟩, h9⟩, h10⟩, h11⟩, h12⟩, h13⟩
    exact ⟨⟨⟨⟨⟨⟨⟨⟨⟨⟨⟨⟨h1, h2⟩, h3⟩, h4⟩, h5⟩, h6⟩, h7⟩, h11⟩, h8⟩, h10⟩, h12⟩, h9⟩, h13⟩
  · rintro ⟨⟨⟨⟨⟨⟨⟨⟨⟨⟨⟨⟨h1, h2⟩, h3⟩, h4⟩, h5⟩, h6⟩, h7⟩, h11⟩, h8⟩, h10⟩, h12⟩, h9⟩, h13⟩
    exact ⟨⟨⟨⟨⟨⟨⟨⟨⟨⟨h1, h2⟩, ⟨h3, h4⟩, h5⟩, h6⟩, h7⟩, h8⟩, h9⟩, h10⟩, h11⟩, h12⟩, h13⟩
theorem rPlane_spec (P : Pln) (hl : PlnLen P) : Spec Tryz.prog 16 [.agg P.cells] (.v (.bool (validB P))) := by
  have l1 := hl.c
  have l2 := hl.s
  have l3 := hl.f
  rw [valid_r]
  refine spec_of mixed Tryz.func16 (by decide) rfl Tryz.results16 Tryz.ntmps16 (by decide) 0 (by simp) ?_
  simp [Pln.cells, cnrL, stnL]
  refine pop_spec (rin_spec P.empty 1 20000) rfl false (.inl (by simp)) (.inl rfl) rfl (by simp) ?_
  cases h1 : inB P.empty 1 20000 with
  | false => simp; refine answers_of rfl ?_; simp [rcornB, h1]
  | true =>
  simp
  refine pop_spec (rin_spec P.moment (-20000000) 20000000) rfl false (.inl (by simp)) (.inl rfl) rfl (by simp) ?_
  cases h2 : inB P.moment (-20000000) 20000000 with
  | false => simp; refine answers_of rfl ?_; simp [rcornB, h2]
  | true =>
  simp
  refine pop_spec (rin_spec P.takeoff 0 20000) rfl false (.inl (by simp)) (.inl rfl) rfl (by simp) ?_
  cases h3 : inB P.takeoff 0 20000 with
  | false => simp; refine answers_of rfl ?_; simp [rcornB, h3]
  | true =>
  simp
  refine pop_spec (rin_spec P.landing 0 20000) rfl false (.inl (by simp)) (.inl rfl) rfl (by simp) ?_
  cases h4 : inB P.landing 0 20000 with
  | false => simp; refine answers_of rfl ?_; simp [rcornB, h4]
  | true =>
  simp
  refine pop_spec (rin_spec P.reserve 0 20000) rfl false (.inl (by simp)) (.inl rfl) rfl (by simp) ?_
  cases h5 : inB P.reserve 0 20000 with
  | false => simp; refine answers_of rfl ?_; simp [rcornB, h5]
  | true =>
  simp
  refine pop_spec (rin_spec P.corners.length 3 12) rfl false (.inl (by simp)) (.inl rfl) rfl (by simp) ?_
  cases h6 : inB P.corners.length 3 12 with
  | false => simp; refine answers_of rfl ?_; simp [rcornB, h6]
  | true =>
  have h6' := inB_spec.1 h6
  by_cases h7 : P.stations.length ≤ 8
  case neg => simp [show (8 : Int) < P.stations.length from by omega]; refine answers_of rfl ?_; simp [rcornB, h7]
  simp [show ¬ (8 : Int) < P.stations.length from by omega]
  refine pop_spec (rstation_spec P.tank) rfl false (.inl (by simp [Stn.cells])) (.inl rfl) rfl (by simp) ?_
  cases h8 : stnB P.tank with
  | false => simp; refine answers_of rfl ?_; simp [rcornB, h8]
  | true =>
  by_cases h9 : P.floats.length ≤ 2
  case neg => simp [show (2 : Int) < P.floats.length from by omega]; refine answers_of rfl ?_; simp [rcornB, h9]
  have hr : rcornB P = true := by simp [rcornB, h1, h2, h3, h4, h5, h6, h7, h8, h9]
  rw [hr, Bool.true_and]
  simp [show ¬ (2 : Int) < P.floats.length from by omega]
  refine pwp_loop (fun k : Nat => [(3, .v (.int .i64 k))]) (fun k => k ≤ P.stations.length ∧ ∀ j, j < k → stnB (stnAt P.stations j) = true) (fun k => P.stations.length - k) 0 ⟨Nat.zero_le _, fun j h => by omega⟩ (by simp; rfl) (by simp) ?_
  intro k ⟨hk, hq⟩
  by_cases hkl : k < P.stations.length
  · have wk := i64_wrap (show -9223372036854775808 ≤ (k : Int) + 1 ∧ _ from by omega)
    simp [hkl, Stn.cells]
    refine pop_spec (rstation_spec (stnAt P.stations k)) rfl false (.inl (by simp [Stn.cells])) (.inl rfl) rfl (by simp) ?_
    cases hb : stnB (stnAt P.stations k) with
    | false =>
      have hz : stnsB P.stations = false := allN_false (p := fun k => stnB (stnAt P.stations k)) hkl hb
      simp; refine answers_of rfl ?_; simp [hz]
    | true =>
      simp
      refine again_of (k + 1) ⟨by omega, fun j hj => ?_⟩ (by omega) ?_
      · rcases Nat.lt_or_eq_of_le (Nat.le_of_lt_succ hj) with h' | rfl
        · exact hq j h'
        · exact hb
      · simp [wk]
  obtain rfl : k = P.stations.length := by omega
  have hS : stnsB P.stations = true := allN_spec.2 hq
  rw [hS, Bool.true_and]
  clear hq hk hkl
  simp
  refine pwp_loop (fun k : Nat => [(4, .v (.int .i64 k))]) (fun k => k ≤ P.floats.length ∧ ∀ j, j < k → stnB (stnAt P.floats j) = true) (fun k => P.floats.length - k) 0 ⟨Nat.zero_le _, fun j h => by omega⟩ (by simp; rfl) (by simp) ?_
  intro k ⟨hk, hq⟩
  by_cases hkl : k < P.floats.length
  · have wk := i64_wrap (show -9223372036854775808 ≤ (k : Int) + 1 ∧ _ from by omega)
    simp [hkl, Stn.cells]
    refine pop_spec (rstation_spec (stnAt P.floats k)) rfl false (.inl (by simp [Stn.cells])) (.inl rfl) rfl (by simp) ?_
    cases hb : stnB (stnAt P.floats k) with
    | false =>
      have hz : stnsB P.floats = false := allN_false (p := fun k => stnB (stnAt P.floats k)) hkl hb
      simp; refine answers_of rfl ?_; simp [hz]
    | true =>
      simp
      refine again_of (k + 1) ⟨by omega, fun j hj => ?_⟩ (by omega) ?_
      · rcases Nat.lt_or_eq_of_le (Nat.le_of_lt_succ hj) with h' | rfl
        · exact hq j h'
        · exact hb
      · simp [wk]
  obtain rfl : k = P.floats.length := by omega
  have hF : stnsB P.floats = true := allN_spec.2 hq
  rw [hF, Bool.true_and]
  clear hq hk hkl
  simp
  refine pwp_loop (fun k : Nat => [(5, .v (.int .i64 k))]) (fun k => k ≤ P.corners.length ∧ ∀ j, j < k → cnrB (cnrAt P.corners j) = true) (fun k => P.corners.length - k) 0 ⟨Nat.zero_le _, fun j h => by omega⟩ (by simp; rfl) (by simp) ?_
  intro k ⟨hk, hq⟩
  by_cases hkl : k < P.corners.length
  · have wk := i64_wrap (show -9223372036854775808 ≤ (k : Int) + 1 ∧ _ from by omega)
    have hsplit : cnrB (cnrAt P.corners k) = (inB (cnrAt P.corners k).weight 0 20000 && inB (cnrAt P.corners k).moment (-20000000) 20000000) := rfl
    simp [hkl, Cnr.cells]
    refine pop_spec (rin_spec (cnrAt P.corners k).weight 0 20000) rfl false (.inl (by simp)) (.inl rfl) rfl (by simp) ?_
    cases hb : inB (cnrAt P.corners k).weight 0 20000 with
    | false =>
      have hz : cornersB P = false := allN_false (p := fun k => cnrB (cnrAt P.corners k)) hkl (by simp only [hsplit, hb]; rfl)
      simp; refine answers_of rfl ?_; simp [hz]
    | true =>
      simp [hkl]
      refine pop_spec (rin_spec (cnrAt P.corners k).moment (-20000000) 20000000) rfl false (.inl (by simp)) (.inl rfl) rfl (by simp) ?_
      cases hb2 : inB (cnrAt P.corners k).moment (-20000000) 20000000 with
      | false =>
        have hz : cornersB P = false := allN_false (p := fun k => cnrB (cnrAt P.corners k)) hkl (by simp only [hsplit, hb, hb2]; rfl)
        simp; refine answers_of rfl ?_; simp [hz]
      | true =>
        simp
        refine again_of (k + 1) ⟨by omega, fun j hj => ?_⟩ (by omega) ?_
        · rcases Nat.lt_or_eq_of_le (Nat.le_of_lt_succ hj) with h' | rfl
          · exact hq j h'
          · rw [hsplit, hb, hb2]; rfl
        · simp [wk]
  obtain rfl : k = P.corners.length := by omega
  have hC : cornersB P = true := allN_spec.2 hq
  have hcor := corners_ok hC
  rw [hC, Bool.true_and]
  clear hq hk hkl
  have hne : ¬ P.corners = [] := fun e => by rw [e] at h6'; simp at h6'
  simp
  refine pwp_loop (fun k : Nat => [(6, .v (.int .i64 k))]) (fun k => k ≤ P.corners.length ∧ ∀ j, j < k → cvxR P j = true) (fun k => P.corners.length - k) 0 ⟨Nat.zero_le _, fun j h => by omega⟩ (by simp; rfl) (by simp) ?_
  intro e ⟨he, hq⟩
  by_cases hel : e < P.corners.length
  · have we := i64_wrap (show -9223372036854775808 ≤ (e : Int) + 1 ∧ _ from by omega)
    obtain ⟨j, hj⟩ : ∃ j : Nat, j = (e + 1) % P.corners.length := ⟨_, rfl⟩
    have hji : ((e : Int) + 1).tmod (P.corners.length : Int) = (j : Int) := by rw [hj]; rfl
    simp [hel]
    refine pwp_loop (fun k : Nat => [(7, .v (.int .i64 k))]) (fun k => k ≤ P.corners.length ∧ ∀ i, i < k → cvxB P e i = true) (fun k => P.corners.length - k) 0 ⟨Nat.zero_le _, fun i h => by omega⟩ (by simp; rfl) (by simp) ?_
    intro k ⟨hk, hp⟩
    by_cases hkl : k < P.corners.length
    · have wk := i64_wrap (show -9223372036854775808 ≤ (k : Int) + 1 ∧ _ from by omega)
      have go : cvxB P e k = true → ∀ i, i < k + 1 → cvxB P e i = true := fun hb i hi => by
        rcases Nat.lt_or_eq_of_le (Nat.le_of_lt_succ hi) with h' | rfl
        · exact hp i h'
        · exact hb
      simp [hkl]
      refine pwp_draw 31 (by decide) ?_
      by_cases c1 : k = e
      · subst c1
        simp (config := { maxSteps := 4000000 })
        refine ⟨by decide +kernel, ?_⟩
        refine again_of (k + 1) ⟨by omega, go (by simp [cvxB])⟩ (by omega) ?_
        simp [wk]
      have d1 : ¬ (k : Int) = e := by omega
      by_cases c2 : k = j
      · subst c2
        simp (config := { maxSteps := 4000000 }) [c1, d1, we, hne, hji]
        refine ⟨by decide +kernel, ?_⟩
        refine again_of (k + 1) ⟨by omega, go (by simp [cvxB, ← hj])⟩ (by omega) ?_
        simp [wk]
      have d2 : ¬ (k : Int) = j := by omega
      have hck := hcor k hkl
      have hside := rSide_spec P e (cnrAt P.corners k).weight (cnrAt P.corners k).moment hcor hel (by omega) (by simp only [Small]; omega) (by simp only [Small]; omega)
      simp (config := { maxSteps := 4000000 }) [c1, d1, we, hne, hji, c2, d2, hkl, Cnr.cells]
      refine pd_spec hside (by simp [Pln.cells, cnrL, stnL, Cnr.cells]) (by simp) (by simp [Pln.cells, cnrL, stnL, Cnr.cells]) rfl ?_
      by_cases c3 : P.side e (cnrAt P.corners k).weight (cnrAt P.corners k).moment ≤ 0
      · have hb : cvxB P e k = false := by simp [cvxB, c1, ← hj, c2, c3]
        simp (config := { maxSteps := 4000000 }) [c3, d1, d2]
        refine ⟨by decide +kernel, ?_⟩
        refine answers_of rfl ?_
        simp [convexB, allN_false hel (show cvxR P e = false from allN_false hkl hb)]
      · simp (config := { maxSteps := 4000000 }) [c3, d1, d2]
        refine ⟨by decide +kernel, ?_⟩
        refine again_of (k + 1) ⟨by omega, go (by simp [cvxB, Int.not_le.1 c3])⟩ (by omega) ?_
        simp [wk]
    · obtain rfl : k = P.corners.length := by omega
      simp
      refine again_of (e + 1) ⟨by omega, fun i hi => ?_⟩ (by omega) ?_
      · rcases Nat.lt_or_eq_of_le (Nat.le_of_lt_succ hi) with h' | rfl
        · exact hq i h'
        · exact allN_spec.2 hp
      · simp [we]
  · obtain rfl : e = P.corners.length := by omega
    simp
    refine answers_of rfl ?_
    simp [convexB, allN_spec.2 hq]
end Go.Qg

namespace Go.Qg
open Go.Proofs
set_option maxRecDepth 100000
set_option linter.unusedSimpArgs false
set_option maxHeartbeats 16000000
attribute [local irreducible] pwp pops pdraw pop popCall pdCall thenP blockP scopeP pspec Spec answers ppost CallW rend
def shortB' (P : Pln) : Bool := decide (P.corners.length ≤ 20) && decide (P.stations.length ≤ 20) && decide (P.floats.length ≤ 10)
theorem lshort_spec (P : Pln) : Spec Tryz.prog 14 [.agg P.cells] (.v (.bool (shortB' P))) := by
  refine spec_of mixed Tryz.func14 (by decide) rfl Tryz.results14 Tryz.ntmps14 (by decide) 0 (by simp) ?_
  simp [Pln.cells, cnrL, stnL]
  by_cases h1 : P.corners.length ≤ 20
  case neg =>
    simp [show ¬ (P.corners.length : Int) ≤ 20 from by omega, show (20 : Int) < P.corners.length from by omega]
    refine answers_of rfl ?_; simp [shortB', h1]
  by_cases h2 : P.stations.length ≤ 20
  case neg =>
    simp [show (P.corners.length : Int) ≤ 20 from by omega, show ¬ (P.stations.length : Int) ≤ 20 from by omega, show (20 : Int) < P.stations.length from by omega]
    refine answers_of rfl ?_; simp [shortB', h1, h2]
  by_cases h3 : P.floats.length ≤ 10
  case neg =>
    simp [show (P.corners.length : Int) ≤ 20 from by omega, show (P.stations.length : Int) ≤ 20 from by omega, show ¬ (P.floats.length : Int) ≤ 10 from by omega, show (10 : Int) < P.floats.length from by omega]
    refine answers_of rfl ?_; simp [shortB', h1, h2, h3]
  simp [show (P.corners.length : Int) ≤ 20 from by omega, show (P.stations.length : Int) ≤ 20 from by omega, show (P.floats.length : Int) ≤ 10 from by omega]
  refine answers_of rfl ?_; simp [shortB', h1, h2, h3]
def fewB (legs : List Leg) : Bool := (allN legs.length fun k => decide ((legAt legs k).items.length ≤ 20)) && decide (legs.length ≤ 12)
theorem lfew_spec (legs : List Leg) (hl : legs.length ≤ 9223372036854775807) : Spec Tryz.prog 15 [legL legs] (.v (.bool (fewB legs))) := by
  refine spec_of mixed Tryz.func15 (by decide) rfl Tryz.results15 Tryz.ntmps15 (by decide) 0 (by simp) ?_
  simp [legL]
  refine pwp_loop (fun k : Nat => [(3, .v (.int .i64 k))]) (fun k => k ≤ legs.length ∧ ∀ j, j < k → (legAt legs j).items.length ≤ 20) (fun k => legs.length - k) 0 ⟨Nat.zero_le _, fun j h => by omega⟩ (by simp; rfl) (by simp) ?_
  intro k ⟨hk, hq⟩
  by_cases hkl : k < legs.length
  · have wk := i64_wrap (show -9223372036854775808 ≤ (k : Int) + 1 ∧ _ from by omega)
    by_cases h : 20 < (legAt legs k).items.length
    · simp [hkl, Leg.cells, itmL, show (20 : Int) < (legAt legs k).items.length from by omega]
      refine answers_of rfl ?_
      have : (allN legs.length fun k => decide ((legAt legs k).items.length ≤ 20)) = false := allN_false hkl (by simp; omega)
      simp [fewB, this]
    · simp [hkl, Leg.cells, itmL, show ¬ (20 : Int) < (legAt legs k).items.length from by omega]
      refine again_of (k + 1) ⟨by omega, fun j hj => ?_⟩ (by omega) ?_
      · rcases Nat.lt_or_eq_of_le (Nat.le_of_lt_succ hj) with h' | rfl
        · exact hq j h'
        · omega
      · simp [wk]
  · obtain rfl : k = legs.length := by omega
    simp
    have : (allN legs.length fun k => decide ((legAt legs k).items.length ≤ 20)) = true := allN_spec.2 fun j hj => by simpa using hq j hj
    by_cases h : legs.length ≤ 12
    · simp [show (legs.length : Int) ≤ 12 from by omega]
      refine answers_of rfl ?_; simp [fewB, this, h]
    · simp [show ¬ (legs.length : Int) ≤ 12 from by omega]
      refine answers_of rfl ?_; simp [fewB, this, h]
theorem ritems_spec (l : List Itm) (ns : Int) (hl : l.length ≤ 9223372036854775807) (hns : 0 ≤ ns ∧ ns ≤ 9223372036854775807) : Spec Tryz.prog 86 [itmL l, .v (.int .i64 ns)] (.v (.bool (itemsB l ns))) := by
  have wn := i64_wrap (show -9223372036854775808 ≤ ns - 1 ∧ _ from by omega)
  refine spec_of mixed Tryz.func86 (by decide) rfl Tryz.results86 Tryz.ntmps86 (by decide) 0 (by simp) ?_
  simp [itmL]
  refine pwp_loop (fun k : Nat => [(5, .v (.int .i64 k))]) (fun k => k ≤ l.length ∧ ∀ j, j < k → itmB ns (itmAt l j) = true) (fun k => l.length - k) 0 ⟨Nat.zero_le _, fun j h => by omega⟩ (by simp; rfl) (by simp) ?_
  intro k ⟨hk, hq⟩
  by_cases hkl : k < l.length
  · have wk := i64_wrap (show -9223372036854775808 ≤ (k : Int) + 1 ∧ _ from by omega)
    simp [hkl, Itm.cells, wn]
    refine pop_spec (rin_spec (itmAt l k).station 0 (ns - 1)) rfl false (.inl (by simp)) (.inl rfl) rfl (by simp) ?_
    cases h1 : inB (itmAt l k).station 0 (ns - 1) with
    | false =>
      simp
      refine answers_of rfl ?_
      have : (allN l.length fun k => itmB ns (itmAt l k)) = false := allN_false hkl (by simp [itmB, h1])
      simp [itemsB, this]
    | true =>
      simp [hkl]
      refine pop_spec (rSpan_spec ⟨(itmAt l k).low, (itmAt l k).high⟩ 0 20000) rfl false (.inl (by simp [Spn.cells])) (.inl rfl) rfl (by simp) ?_
      cases h2 : spanB ⟨(itmAt l k).low, (itmAt l k).high⟩ 0 20000 with
      | false =>
        simp
        refine answers_of rfl ?_
        have : (allN l.length fun k => itmB ns (itmAt l k)) = false := allN_false hkl (by simp [itmB, h1, h2])
        simp [itemsB, this]
      | true =>
        simp
        refine again_of (k + 1) ⟨by omega, fun j hj => ?_⟩ (by omega) ?_
        · rcases Nat.lt_or_eq_of_le (Nat.le_of_lt_succ hj) with h' | rfl
          · exact hq j h'
          · simp [itmB, h1, h2]
        · simp [wk]
  · obtain rfl : k = l.length := by omega
    have : (allN l.length fun k => itmB ns (itmAt l k)) = true := allN_spec.2 hq
    by_cases h : l.length ≤ 12
    · simp [show (l.length : Int) ≤ 12 from by omega]
      refine answers_of rfl ?_; simp [itemsB, this, h]
    · simp [show ¬ (l.length : Int) ≤ 12 from by omega]
      refine answers_of rfl ?_; simp [itemsB, this, h]
def legsB (legs : List Leg) (ns : Int) : Bool := (allN legs.length fun k => legB ns (legAt legs k)) && decide (1 ≤ legs.length)
theorem rLegs_spec (legs : List Leg) (ns : Int) (hl : LegsLen legs) (hns : 0 ≤ ns ∧ ns ≤ 9223372036854775807) : Spec Tryz.prog 53 [legL legs, .v (.int .i64 ns)] (.v (.bool (legsB legs ns))) := by
  have hl0 := hl.n
  refine spec_of mixed Tryz.func53 (by decide) rfl Tryz.results53 Tryz.ntmps53 (by decide) 0 (by simp) ?_
  simp [legL]
  refine pwp_loop (fun k : Nat => [(5, .v (.int .i64 k))]) (fun k => k ≤ legs.length ∧ ∀ j, j < k → legB ns (legAt legs j) = true) (fun k => legs.length - k) 0 ⟨Nat.zero_le _, fun j h => by omega⟩ (by simp; rfl) (by simp) ?_
  intro k ⟨hk, hq⟩
  by_cases hkl : k < legs.length
  · have wk := i64_wrap (show -9223372036854775808 ≤ (k : Int) + 1 ∧ _ from by omega)
    have go : legB ns (legAt legs k) = false → legsB legs ns = false := fun h => by
      have : (allN legs.length fun k => legB ns (legAt legs k)) = false := allN_false hkl h
      simp [legsB, this]
    simp [hkl, Leg.cells, itmL]
    refine pop_spec (ritems_spec (legAt legs k).items ns (hl.i k hkl) hns) rfl false (.inl (by simp [itmL])) (.inl rfl) rfl (by simp) ?_
    cases h1 : itemsB (legAt legs k).items ns with
    | false =>
      simp
      refine answers_of rfl ?_; simp [go (by simp [legB, h1])]
    | true =>
      simp [hkl]
      refine pop_spec (rin_spec (legAt legs k).fuel 0 20000) rfl false (.inl (by simp)) (.inl rfl) rfl (by simp) ?_
      cases h2 : inB (legAt legs k).fuel 0 20000 with
      | false =>
        simp
        refine answers_of rfl ?_; simp [go (by simp [legB, h2])]
      | true =>
        simp [hkl]
        refine pop_spec (rSpan_spec (legAt legs k).burn 0 20000) rfl false (.inl (by simp [Spn.cells])) (.inl rfl) rfl (by simp) ?_
        cases h3 : spanB (legAt legs k).burn 0 20000 with
        | false =>
          simp
          refine answers_of rfl ?_; simp [go (by simp [legB, h3])]
        | true =>
          simp [hkl]
          refine pop_spec (rSpan_spec (legAt legs k).leak 0 20000) rfl false (.inl (by simp [Spn.cells])) (.inl rfl) rfl (by simp) ?_
          cases h4 : spanB (legAt legs k).leak 0 20000 with
          | false =>
            simp
            refine answers_of rfl ?_; simp [go (by simp [legB, h4])]
          | true =>
            simp
            refine again_of (k + 1) ⟨by omega, fun j hj => ?_⟩ (by omega) ?_
            · rcases Nat.lt_or_eq_of_le (Nat.le_of_lt_succ hj) with h' | rfl
              · exact hq j h'
              · simp [legB, h1, h2, h3, h4]
            · simp [wk]
  · obtain rfl : k = legs.length := by omega
    have : (allN legs.length fun k => legB ns (legAt legs k)) = true := allN_spec.2 hq
    by_cases h : 1 ≤ legs.length
    · simp [show (1 : Int) ≤ legs.length from by omega]
      refine answers_of rfl ?_; simp [legsB, this, h]
    · simp [show ¬ (1 : Int) ≤ legs.length from by omega]
      refine answers_of rfl ?_; simp [legsB, this, h]
theorem refused_eq (P : Pln) (fuel : Spn) (legs : List Leg) : trippedE P fuel legs = if 6 < legs.length then 3 else if validB P = true ∧ spanB fuel 0 20000 = true ∧ legsB legs P.stations.length = true then 0 else 2 := by
  unfold trippedE tripE legsB
  by_cases h1 : 6 < legs.length
  · simp [h1]
  · cases h2 : validB P <;> cases h3 : spanB fuel 0 20000 <;> cases h4 : (allN legs.length fun k => legB P.stations.length (legAt legs k)) <;> by_cases h5 : legs.length = 0 <;> simp [h1, h5, show 1 ≤ legs.length ↔ legs.length ≠ 0 from by omega]
theorem refused_spec (P : Pln) (fuel : Spn) (legs : List Leg) (hP : PlnLen P) (hl : LegsLen legs) : Spec Tryz.prog 19 [.agg P.cells, .agg fuel.cells, legL legs, .v (.bool true)] (.v (.int .i64 (trippedE P fuel legs))) := by
  have hs := hP.s
  rw [refused_eq]
  refine spec_of mixed Tryz.func19 (by decide) rfl Tryz.results19 Tryz.ntmps19 (by decide) 0 (by simp) ?_
  simp [Pln.cells, cnrL, stnL, Spn.cells, legL]
  by_cases h : 6 < legs.length
  · simp [show (6 : Int) < legs.length from by omega]
    refine answers_of rfl ?_; simp [h]
  simp [show ¬ (6 : Int) < legs.length from by omega, h]
  refine pop_spec (rPlane_spec P hP) rfl false (.inl (by simp [Pln.cells, cnrL, stnL])) (.inl rfl) rfl (by simp) ?_
  cases h1 : validB P with
  | false => simp; refine answers_of rfl ?_; simp
  | true =>
    simp
    refine pop_spec (rSpan_spec fuel 0 20000) rfl false (.inl (by simp [Spn.cells])) (.inl rfl) rfl (by simp) ?_
    cases h2 : spanB fuel 0 20000 with
    | false => simp; refine answers_of rfl ?_; simp
    | true =>
      simp
      refine pop_spec (rLegs_spec legs P.stations.length hl (by omega)) rfl false (.inl (by simp [legL])) (.inl rfl) rfl (by simp) ?_
      cases h3 : legsB legs P.stations.length with
      | false => simp; refine answers_of rfl ?_; simp
      | true => simp; refine answers_of rfl ?_; simp
def tripN (P : Pln) (fuel : Spn) (legs : List Leg) : Int := match tripP P fuel legs with | some j => (j : Int) | none => -1
def tripR (P : Pln) (fuel : Spn) (legs : List Leg) : Int × Int := match tripP P fuel legs with | some j => ((brokenP P (ptOf P fuel legs j)).1, (brokenP P (ptOf P fuel legs j)).2) | none => (1, 0)
theorem tripRes_ok {P : Pln} {fuel : Spn} {legs : List Leg} (h : trippedE P fuel legs = 0) : tripRes P fuel legs = .tup [.v (.int .i64 (tripN P fuel legs)), .v (.int .i64 (tripR P fuel legs).1), .v (.int .i64 (tripR P fuel legs).2), .v (.int .i64 0)] := by
  rw [tripRes, if_pos h, tripN, tripR]
  cases tripP P fuel legs <;> rfl
theorem tripN_neg {P : Pln} {fuel : Spn} {legs : List Leg} : tripN P fuel legs < 0 ↔ sureT P fuel legs := by
  rw [← trip_none, tripN]
  cases tripP P fuel legs with
  | none => simp
  | some j => simp
theorem tripN_ge (P : Pln) (fuel : Spn) (legs : List Leg) : -1 ≤ tripN P fuel legs := by
  unfold tripN
  split <;> omega
end Go.Qg

namespace Go.Qg
open Go.Proofs
set_option maxRecDepth 100000
set_option linter.unusedSimpArgs false
set_option maxHeartbeats 32000000
attribute [local irreducible] pwp pops pdraw pop popCall pdCall thenP blockP scopeP pspec Spec answers ppost CallW rend
theorem gi_eq (l : List Int) (i : Nat) : gi l i = geti l i := rfl
theorem rEnd_spec (s : Spn) (b : Bool) : Spec Tryz.prog 118 [.agg s.cells, .v (.bool b)] (.v (.int .i64 (pickS b s.low s.high))) := by
  refine spec_of mixed Tryz.func118 (by decide) rfl Tryz.results118 Tryz.ntmps118 (by decide) 0 (by simp) ?_
  cases b with
  | false => simp [Spn.cells]; refine answers_of rfl ?_; simp [pickS]
  | true => simp [Spn.cells]; refine answers_of rfl ?_; simp [pickS]
theorem rPoint_spec (P : Pln) (X : Pnt) (hP : PlnLen P) (hX : PntLen X) : Spec Tryz.prog 37 [.agg P.cells, .agg X.cells] (.v (.bool (pointB P X))) := by
  have l1 := hX.i
  have l2 := hX.w
  have l3 := hP.s
  refine spec_of mixed Tryz.func37 (by decide) rfl Tryz.results37 Tryz.ntmps37 (by decide) 0 (by simp) ?_
  simp [Pln.cells, cnrL, stnL, Pnt.cells, itmL, spnL]
  refine pwp_loop (fun k : Nat => [(5, .v (.int .i64 k))]) (fun k => k ≤ X.water.length ∧ ∀ j, j < k → spanB (spnAt X.water j) 0 120000 = true) (fun k => X.water.length - k) 0 ⟨Nat.zero_le _, fun j h => by omega⟩ (by simp; rfl) (by simp) ?_
  intro k ⟨hk, hq⟩
  by_cases hkl : k < X.water.length
  · have wk := i64_wrap (show -9223372036854775808 ≤ (k : Int) + 1 ∧ _ from by omega)
    simp [hkl, Spn.cells]
    refine pop_spec (rSpan_spec (spnAt X.water k) 0 120000) rfl false (.inl (by simp [Spn.cells])) (.inl rfl) rfl (by simp) ?_
    cases h1 : spanB (spnAt X.water k) 0 120000 with
    | false =>
      simp
      refine answers_of rfl ?_
      have : watersB X = false := allN_false (p := fun k => spanB (spnAt X.water k) 0 120000) hkl h1
      simp [pointB, this]
    | true =>
      simp
      refine again_of (k + 1) ⟨by omega, fun j hj => ?_⟩ (by omega) ?_
      · rcases Nat.lt_or_eq_of_le (Nat.le_of_lt_succ hj) with h' | rfl
        · exact hq j h'
        · exact h1
      · simp [wk]
  · obtain rfl : k = X.water.length := by omega
    have hw : watersB X = true := allN_spec.2 hq
    simp
    refine pop_spec (ritems_spec X.items P.stations.length l1 (by omega)) rfl false (.inl (by simp [itmL])) (.inl rfl) rfl (by simp) ?_
    cases h2 : itemsB X.items P.stations.length with
    | false => simp; refine answers_of rfl ?_; simp [pointB, h2]
    | true =>
      simp
      refine pop_spec (rSpan_spec X.tank (-120000) 140000) rfl false (.inl (by simp [Spn.cells])) (.inl rfl) rfl (by simp) ?_
      cases h3 : spanB X.tank (-120000) 140000 with
      | false => simp; refine answers_of rfl ?_; simp [pointB, h3]
      | true =>
        by_cases h4 : X.water.length = P.floats.length
        · simp [h4]
          refine answers_of rfl ?_; simp [pointB, h2, h3, h4, hw]
        · simp [h4, show ¬ (X.water.length : Int) = P.floats.length from by omega]
          refine answers_of rfl ?_; simp [pointB, h4]; omega
structure CseS (P : Pln) (X : Pnt) (c : Cse) : Prop where
  ni : c.items.length = X.items.length
  nw : c.water.length = P.floats.length
  tank : Small 140000 c.tank
  item : ∀ i, i < c.items.length → Small 20000 (geti c.items i)
  water : ∀ i, i < c.water.length → Small 120000 (geti c.water i)
theorem cse_small {P : Pln} {X : Pnt} (hX : PntOk P X) {c : Cse} (h : InC X c) : CseS P X c where
  ni := h.ni
  nw := by rw [h.nw]; exact hX.nw
  tank := by have h1 := h.tank; have h2 := hX.tank; unfold Small; omega
  item := fun i hi => by
    have h1 := h.item i hi
    have h2 := hX.item i (by have := h.ni; omega)
    rw [gi_eq] at h1
    unfold Small; omega
  water := fun i hi => by
    have h1 := h.water i hi
    have h2 := hX.water i (by have := h.nw; omega)
    rw [gi_eq] at h1
    unfold Small; omega
def wI (P : Pln) (c : Cse) (n : Nat) : Int := P.empty + c.tank + sumN (geti c.items) n
def mI (P : Pln) (X : Pnt) (c : Cse) (n : Nat) : Int := P.moment + c.tank * P.tank.arm + sumN (fun i => geti c.items i * armI P X i) n
def wF (P : Pln) (c : Cse) (n : Nat) : Int := wI P c c.items.length + sumN (geti c.water) n
def mF (P : Pln) (X : Pnt) (c : Cse) (n : Nat) : Int := mI P X c c.items.length + sumN (fun i => geti c.water i * armF P i) n
theorem wI_succ (P : Pln) (c : Cse) (n : Nat) : wI P c (n + 1) = wI P c n + geti c.items n := by simp only [wI, sumN]; omega
theorem mI_succ (P : Pln) (X : Pnt) (c : Cse) (n : Nat) : mI P X c (n + 1) = mI P X c n + geti c.items n * armI P X n := by simp only [mI, sumN]; omega
theorem wF_succ (P : Pln) (c : Cse) (n : Nat) : wF P c (n + 1) = wF P c n + geti c.water n := by simp only [wF, sumN]; omega
theorem mF_succ (P : Pln) (X : Pnt) (c : Cse) (n : Nat) : mF P X c (n + 1) = mF P X c n + geti c.water n * armF P n := by simp only [mF, sumN]; omega
theorem wF_all (P : Pln) (c : Cse) : wF P c c.water.length = wtC P c := rfl
theorem mF_all (P : Pln) (X : Pnt) (c : Cse) : mF P X c c.water.length = moC P X c := rfl
theorem sum_smallC {g : Nat → Int} {c : Int} : ∀ {n : Nat}, (∀ j, j < n → Small c (g j)) → Small (c * n) (sumN g n)
  | 0, _ => by simp [sumN, Small]
  | n + 1, h => by
    obtain ⟨h1, h2⟩ := sum_smallC (n := n) fun j hj => h j (by omega)
    obtain ⟨h3, h4⟩ := h n (by omega)
    have e : c * ((n + 1 : Nat) : Int) = c * n + c := by push_cast; rw [Int.mul_add, Int.mul_one]
    unfold Small
    rw [e]
    simp only [sumN]
    omega
theorem armI_small {P : Pln} {X : Pnt} (hP : PlnOk P) (hX : PntOk P X) {i : Nat} (hi : i < X.items.length) : Small 1000 (armI P X i) := by
  have h1 := hX.item i hi
  have h2 := (hP.station (itmAt X.items i).station.toNat (by omega)).1
  exact h2
theorem armF_small {P : Pln} (hP : PlnOk P) {i : Nat} (hi : i < P.floats.length) : Small 1000 (armF P i) := (hP.float i hi).1
theorem wI_small {P : Pln} {X : Pnt} {c : Cse} (hP : PlnOk P) (hX : PntOk P X) (h : CseS P X c) {n : Nat} (hn : n ≤ c.items.length) : Small 400000 (wI P c n) := by
  have h1 := sum_smallC (g := geti c.items) (c := 20000) (n := n) fun j hj => h.item j (by omega)
  have h2 := hX.n
  have h3 := h.ni
  have h4 := h.tank
  have h5 := hP.empty
  simp only [Small] at *
  unfold wI
  omega
theorem mI_small {P : Pln} {X : Pnt} {c : Cse} (hP : PlnOk P) (hX : PntOk P X) (h : CseS P X c) {n : Nat} (hn : n ≤ c.items.length) : Small 400000000 (mI P X c n) := by
  have h1 := sum_smallC (g := fun i => geti c.items i * armI P X i) (c := 20000 * 1000) (n := n) fun j hj => mul_small (h.item j (by omega)) (armI_small hP hX (by have := h.ni; omega)) (by omega) (by omega)
  have h2 := hX.n
  have h3 := h.ni
  have h4 := mul_small h.tank (show Small 1000 P.tank.arm from hP.tank.1) (by omega) (by omega)
  have h5 := hP.moment
  simp only [Small] at *
  unfold mI
  omega
theorem wF_small {P : Pln} {X : Pnt} {c : Cse} (hP : PlnOk P) (hX : PntOk P X) (h : CseS P X c) {n : Nat} (hn : n ≤ c.water.length) : Small 640000 (wF P c n) := by
  have h1 := sum_smallC (g := geti c.water) (c := 120000) (n := n) fun j hj => h.water j (by omega)
  have h2 := hP.nf
  have h3 := h.nw
  have h4 := wI_small hP hX h (Nat.le_refl _)
  simp only [Small] at *
  unfold wF
  omega
theorem mF_small {P : Pln} {X : Pnt} {c : Cse} (hP : PlnOk P) (hX : PntOk P X) (h : CseS P X c) {n : Nat} (hn : n ≤ c.water.length) : Small 640000000 (mF P X c n) := by
  have h1 := sum_smallC (g := fun i => geti c.water i * armF P i) (c := 120000 * 1000) (n := n) fun j hj => mul_small (h.water j (by omega)) (armF_small hP (by have := h.nw; omega)) (by omega) (by omega)
  have h2 := hP.nf
  have h3 := h.nw
  have h4 := mI_small hP hX h (Nat.le_refl _)
  simp only [Small] at *
  unfold mF
  omega
theorem wtC_small {P : Pln} {X : Pnt} {c : Cse} (hP : PlnOk P) (hX : PntOk P X) (h : CseS P X c) : Small 640000 (wtC P c) ∧ Small 640000000 (moC P X c) :=
  ⟨wF_small hP hX h (Nat.le_refl _), mF_small hP hX h (Nat.le_refl _)⟩
theorem rWeight_spec (P : Pln) (X : Pnt) (c : Cse) (hP : PlnOk P) (hX : PntOk P X) (h : CseS P X c) :
    Spec Tryz.prog 42 [.agg P.cells, .agg X.cells, .agg c.cells] (.tup [.v (.int .i64 (wtC P c)), .v (.int .i64 (moC P X c))]) := by
  have hni := h.ni
  have hnw := h.nw
  have hx := hX.n
  have hf := hP.nf
  have s0 := hP.empty
  have s1 := hP.moment
  have s2 := h.tank
  have s3 := hP.tank.1
  have e1 := mul_small s2 (show Small 1000 P.tank.arm from s3) (by omega) (by omega)
  have a0 := i64_wrap (show -9223372036854775808 ≤ P.empty + c.tank ∧ _ from by unfold Small at *; omega)
  have a1 := i64_wrap (show -9223372036854775808 ≤ c.tank * P.tank.arm ∧ _ from by unfold Small at *; omega)
  have a2 := i64_wrap (show -9223372036854775808 ≤ P.moment + c.tank * P.tank.arm ∧ _ from by unfold Small at *; omega)
  rw [← wF_all, ← mF_all]
  refine spec_of mixed Tryz.func42 (by decide) rfl Tryz.results42 Tryz.ntmps42 (by decide) 0 (by simp) ?_
  simp [Pln.cells, cnrL, stnL, Pnt.cells, itmL, spnL, Cse.cells, ints]
  refine pwp_draw 16 (by decide) ?_
  simp [a0, a1, a2]
  refine ⟨by decide, ?_⟩
  refine pwp_loop (fun j : Nat => [(8, .v (.int .i64 (wI P c j))), (9, .v (.int .i64 (mI P X c j))), (10, .v (.int .i64 j))]) (fun j => j ≤ c.items.length) (fun j => c.items.length - j) 0 (Nat.zero_le _) (by simp; rfl) (by simp [wI, mI, sumN]) ?_
  intro j hj
  by_cases hjl : j < c.items.length
  · have wj := i64_wrap (show -9223372036854775808 ≤ (j : Int) + 1 ∧ _ from by omega)
    have hjx : j < X.items.length := by omega
    have hit := hX.item j hjx
    obtain ⟨s, hs⟩ : ∃ s : Nat, (itmAt X.items j).station = (s : Int) := ⟨_, (Int.toNat_of_nonneg hit.1.1).symm⟩
    have hsl : s < P.stations.length := by have := hit.1.2; omega
    have harm : armI P X j = (stnAt P.stations s).arm := by simp [armI, hs]
    have c0 := wI_small hP hX h (show j + 1 ≤ c.items.length by omega)
    have d0 := mI_small hP hX h (show j + 1 ≤ c.items.length by omega)
    have k0 := mul_small (h.item j hjl) (armI_small hP hX hjx) (by omega) (by omega)
    rw [wI_succ] at c0
    rw [mI_succ] at d0
    rw [harm] at d0 k0
    have f1 := i64_wrap (show -9223372036854775808 ≤ wI P c j + geti c.items j ∧ _ from by unfold Small at *; omega)
    have f2 := i64_wrap (show -9223372036854775808 ≤ geti c.items j * (stnAt P.stations s).arm ∧ _ from by unfold Small at *; omega)
    have f3 := i64_wrap (show -9223372036854775808 ≤ mI P X c j + geti c.items j * (stnAt P.stations s).arm ∧ _ from by unfold Small at *; omega)
    simp [hjl]
    refine pwp_draw 28 (by decide) ?_
    simp [hjl, hjx, hs, hsl, itmL, Itm.cells, Stn.cells, f1, f2, f3]
    refine ⟨by decide, ?_⟩
    refine again_of (j + 1) (by omega) (by omega) ?_
    simp [wj, wI_succ, mI_succ, harm]
  · obtain rfl : j = c.items.length := by omega
    simp
    refine pwp_loop (fun k : Nat => [(8, .v (.int .i64 (wF P c k))), (9, .v (.int .i64 (mF P X c k))), (11, .v (.int .i64 k))]) (fun k => k ≤ c.water.length) (fun k => c.water.length - k) 0 (Nat.zero_le _) (by simp; rfl) (by simp [wF, mF, sumN]) ?_
    intro k hk
    by_cases hkl : k < c.water.length
    · have wk := i64_wrap (show -9223372036854775808 ≤ (k : Int) + 1 ∧ _ from by omega)
      have hkf : k < P.floats.length := by omega
      have harm : armF P k = (stnAt P.floats k).arm := rfl
      have c0 := wF_small hP hX h (show k + 1 ≤ c.water.length by omega)
      have d0 := mF_small hP hX h (show k + 1 ≤ c.water.length by omega)
      have k0 := mul_small (h.water k hkl) (armF_small hP hkf) (by omega) (by omega)
      rw [wF_succ] at c0
      rw [mF_succ] at d0
      rw [harm] at d0 k0
      have f1 := i64_wrap (show -9223372036854775808 ≤ wF P c k + geti c.water k ∧ _ from by unfold Small at *; omega)
      have f2 := i64_wrap (show -9223372036854775808 ≤ geti c.water k * (stnAt P.floats k).arm ∧ _ from by unfold Small at *; omega)
      have f3 := i64_wrap (show -9223372036854775808 ≤ mF P X c k + geti c.water k * (stnAt P.floats k).arm ∧ _ from by unfold Small at *; omega)
      simp [hkl]
      refine pwp_draw 23 (by decide) ?_
      simp [hkl, hkf, Stn.cells, f1, f2, f3]
      refine ⟨by decide, ?_⟩
      refine again_of (k + 1) (by omega) (by omega) ?_
      simp [wk, wF_succ, mF_succ, harm]
    · obtain rfl : k = c.water.length := by omega
      simp
      refine answers_of rfl ?_; simp
def atN (X : Pnt) (c : Cse) (s n : Nat) : Int := sumN (fun i => if (itmAt X.items i).station = s then geti c.items i else 0) n
theorem atN_small {P : Pln} {X : Pnt} {c : Cse} (hX : PntOk P X) (h : CseS P X c) (s : Nat) {n : Nat} (hn : n ≤ c.items.length) : Small 500000 (atN X c s n) := by
  have h1 := sum_smallC (g := fun i => if (itmAt X.items i).station = s then geti c.items i else 0) (c := 20000) (n := n) fun j hj => by
    split
    · exact h.item j (by omega)
    · unfold Small; omega
  have h2 := hX.n
  have h3 := h.ni
  simp only [Small] at *
  unfold atN
  omega
theorem rAt_spec (P : Pln) (X : Pnt) (c : Cse) (s : Nat) (hX : PntOk P X) (h : CseS P X c) : Spec Tryz.prog 91 [.agg X.cells, .agg c.cells, .v (.int .i64 s)] (.v (.int .i64 (atC X c s))) := by
  have hni := h.ni
  have hx := hX.n
  rw [show atC X c s = atN X c s c.items.length from rfl]
  refine spec_of mixed Tryz.func91 (by decide) rfl Tryz.results91 Tryz.ntmps91 (by decide) 0 (by simp) ?_
  simp [Pnt.cells, itmL, spnL, Cse.cells, ints]
  refine pwp_loop (fun j : Nat => [(7, .v (.int .i64 (atN X c s j))), (8, .v (.int .i64 j))]) (fun j => j ≤ c.items.length) (fun j => c.items.length - j) 0 (Nat.zero_le _) (by simp; rfl) (by simp [atN, sumN]) ?_
  intro j hj
  by_cases hjl : j < c.items.length
  · have wj := i64_wrap (show -9223372036854775808 ≤ (j : Int) + 1 ∧ _ from by omega)
    have hjx : j < X.items.length := by omega
    have c0 := atN_small hX h s (show j + 1 ≤ c.items.length by omega)
    have e : atN X c s (j + 1) = atN X c s j + if (itmAt X.items j).station = s then geti c.items j else 0 := rfl
    by_cases hs : (itmAt X.items j).station = (s : Int)
    · rw [e, if_pos hs] at c0
      have f1 := i64_wrap (show -9223372036854775808 ≤ atN X c s j + geti c.items j ∧ _ from by unfold Small at *; omega)
      simp [hjl, hjx, Itm.cells, hs, f1]
      refine again_of (j + 1) (by omega) (by omega) ?_
      simp [wj, e, hs]
    · simp [hjl, hjx, Itm.cells, hs]
      refine again_of (j + 1) (by omega) (by omega) ?_
      simp [wj, e, hs]
  · obtain rfl : j = c.items.length := by omega
    simp
    refine answers_of rfl ?_; simp
theorem rmany_spec (P : Pln) (r : Nat) (hr : 2 ≤ r ∧ r ≤ 7) : Spec Tryz.prog 87 [.agg P.cells, .v (.int .i64 r)] (.v (.int .i64 (manyR P r))) := by
  refine spec_of mixed Tryz.func87 (by decide) rfl Tryz.results87 Tryz.ntmps87 (by decide) 0 (by simp) ?_
  have hc : r = 2 ∨ r = 3 ∨ r = 4 ∨ r = 5 ∨ r = 6 ∨ r = 7 := by omega
  rcases hc with rfl | rfl | rfl | rfl | rfl | rfl <;> simp [Pln.cells, cnrL, stnL] <;> refine answers_of rfl ?_ <;> simp [manyR]
theorem rBreaks_spec (P : Pln) (X : Pnt) (c : Cse) (r i : Nat) (hP : PlnOk P) (hX : PntOk P X) (h : CseS P X c) (hr : 2 ≤ r ∧ r ≤ 7) (hi : i < manyR P r) :
    Spec Tryz.prog 45 [.agg P.cells, .agg X.cells, .agg c.cells, .v (.int .i64 r), .v (.int .i64 i)] (.v (.bool (brkB P X c r i))) := by
  have hw := rWeight_spec P X c hP hX h
  have hat := rAt_spec P X c i hX h
  have hns := hP.ns
  have hnf := hP.nf
  have hnc := hP.n
  obtain ⟨sw, sm⟩ := wtC_small hP hX h
  have hnw := h.nw
  refine spec_of mixed Tryz.func45 (by decide) rfl Tryz.results45 Tryz.ntmps45 (by decide) 0 (by simp) ?_
  simp [Pln.cells, cnrL, stnL, Pnt.cells, itmL, spnL, Cse.cells, ints]
  refine pop_spec hw rfl false (.inl (by simp [Pln.cells, cnrL, stnL, Pnt.cells, itmL, spnL, Cse.cells, ints])) (.inl rfl) rfl (by simp) ?_
  have hc : r = 2 ∨ r = 3 ∨ r = 4 ∨ r = 5 ∨ r = 6 ∨ r = 7 := by omega
  rcases hc with rfl | rfl | rfl | rfl | rfl | rfl
  · have hi2 : i < P.stations.length := by simpa [manyR] using hi
    have w1 := i64_wrap (show -9223372036854775808 ≤ (P.stations.length : Int) - 1 ∧ _ from by omega)
    have hin := rin_spec (i : Int) 0 ((P.stations.length : Int) - 1)
    rw [show inB (i : Int) 0 ((P.stations.length : Int) - 1) = true from inB_spec.2 (by omega)] at hin
    simp
    refine pwp_draw 20 (by decide) ?_
    simp [w1]
    refine pd_spec hin (by simp) (by simp) (by simp) rfl ?_
    simp
    refine pd_spec hat (by simp [Pnt.cells, itmL, spnL, Cse.cells, ints]) (by simp) (by simp [Pnt.cells, itmL, spnL, Cse.cells, ints]) rfl ?_
    simp [hi2, Stn.cells]
    refine ⟨by decide, ?_⟩
    refine answers_of rfl ?_; simp [brkB]
  · have hi2 : i = 0 := by simp [manyR] at hi; omega
    subst hi2
    simp
    refine answers_of rfl ?_; simp [brkB]
  · have hi2 : i < P.floats.length := by simpa [manyR] using hi
    have hi3 : i < c.water.length := by omega
    have w1 := i64_wrap (show -9223372036854775808 ≤ (P.floats.length : Int) - 1 ∧ _ from by omega)
    have hin := rin_spec (i : Int) 0 ((P.floats.length : Int) - 1)
    rw [show inB (i : Int) 0 ((P.floats.length : Int) - 1) = true from inB_spec.2 (by omega)] at hin
    simp
    refine pwp_draw 20 (by decide) ?_
    simp [w1]
    refine pd_spec hin (by simp) (by simp) (by simp) rfl ?_
    simp [hi2, hi3, Stn.cells]
    refine ⟨by decide, ?_⟩
    refine answers_of rfl ?_; simp [brkB, gi_eq]; rfl
  · have hi2 : i = 0 := by simp [manyR] at hi; omega
    subst hi2
    cases hl : X.landing with
    | false =>
      by_cases hb : P.takeoff < wtC P c
      · simp [hl, hb]; refine answers_of rfl ?_; simp [brkB, limitP, hl, hb]
      · simp [hl, hb]; refine answers_of rfl ?_; simp [brkB, limitP, hl, hb]
    | true =>
      simp [hl]; refine answers_of rfl ?_; simp [brkB, limitP, hl]
  · have hi2 : i < P.corners.length := by simpa [manyR] using hi
    have w1 := i64_wrap (show -9223372036854775808 ≤ (P.corners.length : Int) - 1 ∧ _ from by omega)
    have hin := rin_spec (i : Int) 0 ((P.corners.length : Int) - 1)
    rw [show inB (i : Int) 0 ((P.corners.length : Int) - 1) = true from inB_spec.2 (by omega)] at hin
    have hside := rSide_spec P i (wtC P c) (moC P X c) hP.corner hi2 (by omega) (by unfold Small at *; omega) (by unfold Small at *; omega)
    simp [w1]
    refine pop_spec hin rfl false (.inl (by simp)) (.inl rfl) rfl (by simp) ?_
    simp
    refine pop_spec hside rfl false (.inl (by simp [Pln.cells, cnrL, stnL])) (.inl rfl) rfl (by simp) ?_
    simp
    refine answers_of rfl ?_; simp [brkB]
  · have hi2 : i = 0 := by simp [manyR] at hi; omega
    subst hi2
    cases hl : X.landing with
    | false => simp [hl]; refine answers_of rfl ?_; simp [brkB, hl]
    | true => simp [hl]; refine answers_of rfl ?_; simp [brkB, hl]
end Go.Qg

namespace Go.Qg
open Go.Proofs
set_option maxRecDepth 100000
set_option linter.unusedSimpArgs false
set_option maxHeartbeats 64000000
attribute [local irreducible] pwp pops pdraw pop popCall pdCall thenP blockP scopeP pspec Spec answers ppost CallW rend
def mixL (f g : Nat → Int) (n j : Nat) : List Int := (List.range n).map fun k => if k < j then f k else g k
@[simp] theorem mixL_length (f g : Nat → Int) (n j : Nat) : (mixL f g n j).length = n := by simp [mixL]
theorem mixL_zero (f g : Nat → Int) (n : Nat) : mixL f g n 0 = (List.range n).map g := by simp [mixL]
theorem mixL_all (f g : Nat → Int) (n : Nat) : mixL f g n n = (List.range n).map f := by
  refine List.ext_getElem (by simp) fun j h1 h2 => ?_
  have : j < n := by simpa using h1
  simp [mixL, this]
theorem mixL_get {f g : Nat → Int} {n j k : Nat} (h : j ≤ k) (hk : k < n) : geti (mixL f g n j) k = g k := by
  simp [geti, mixL, hk, show ¬ k < j from by omega]
theorem mixL_set {f g : Nat → Int} {n j : Nat} (h : j < n) : (mixL f g n j).set j (f j) = mixL f g n (j + 1) := by
  refine List.ext_getElem (by simp) fun k h1 h2 => ?_
  have hk : k < n := by simpa using h2
  rw [List.getElem_set]
  by_cases e : j = k
  · subst e; simp [mixL]
  · simp only [e, if_false, mixL, List.getElem_map, List.getElem_range]
    by_cases g' : k < j
    · rw [if_pos g', if_pos (by omega)]
    · rw [if_neg g', if_neg (by omega)]
theorem mixL_skip {f g : Nat → Int} {n j : Nat} (h : f j = g j) : mixL f g n j = mixL f g n (j + 1) := by
  refine List.ext_getElem (by simp) fun k h1 h2 => ?_
  simp only [mixL, List.getElem_map, List.getElem_range]
  by_cases e : k = j
  · subst e; simp [h]
  · by_cases g' : k < j
    · rw [if_pos g', if_pos (by omega)]
    · rw [if_neg g', if_neg (by omega)]
def itE (X : Pnt) (b : Bool) (k : Nat) : Int := pickS b (itmAt X.items k).low (itmAt X.items k).high
def waE (X : Pnt) (b : Bool) (k : Nat) : Int := pickS b (spnAt X.water k).low (spnAt X.water k).high
def upto (f : Nat → Int) (n : Nat) : List Int := (List.range n).map f
@[simp] theorem upto_length (f : Nat → Int) (n : Nat) : (upto f n).length = n := by simp [upto]
@[simp] theorem upto_take (f : Nat → Int) (n : Nat) : (upto f n).take n = upto f n := List.take_of_length_le (by simp)
theorem upto_zero (f : Nat → Int) : upto f 0 = [] := rfl
theorem upto_succ (f : Nat → Int) (n : Nat) : upto f n ++ [f n] = upto f (n + 1) := by simp [upto, List.range_succ]
theorem upto_set {f g : Nat → Int} {n i : Nat} (h : i < n) (hf : ∀ k, k ≠ i → g k = f k) : (upto f n).set i (g i) = upto g n := by
  refine List.ext_getElem (by simp) fun k h1 h2 => ?_
  rw [List.getElem_set]
  by_cases e : i = k
  · subst e; simp [upto]
  · simp only [e, if_false, upto, List.getElem_map, List.getElem_range]
    exact (hf k (Ne.symm e)).symm
def allC (X : Pnt) (b : Bool) : Cse := ⟨upto (itE X b) X.items.length, pickS b X.tank.low X.tank.high, upto (waE X b) X.water.length⟩
theorem rAll_spec (X : Pnt) (b : Bool) (hi : X.items.length ≤ 1000) (hw : X.water.length ≤ 1000) : CallW Tryz.prog 89 [.agg X.cells, .v (.bool b)] [] (fun out => out = .ret (cseO (allC X b)) (cseH (allC X b))) := by
  refine callW_of mixed Tryz.func89 (by decide) rfl (congrArg Array.toList Tryz.results89) Tryz.ntmps89 (by decide) 53 (by simp) (by decide) ?_
  simp [Pnt.cells, itmL, spnL]
  refine pwp_loop (fun n : Nat => [(5, .box true [.own 26 n 0 n false, .v (.int .i64 0), .nil]), (6, .v (.int .i64 n)), (26, .rows none n 3 1 (rowsI (upto (itE X b) n)))]) (fun n => n ≤ X.items.length) (fun n => X.items.length - n) 0 (Nat.zero_le _) (by simp; rfl) (by simp [upto_zero]) ?_
  intro n hn
  by_cases hnl : n < X.items.length
  · have wn := i64_wrap (show -9223372036854775808 ≤ (n : Int) + 1 ∧ _ from by omega)
    have he := rEnd_spec ⟨(itmAt X.items n).low, (itmAt X.items n).high⟩ b
    rw [show pickS b (Spn.mk (itmAt X.items n).low (itmAt X.items n).high).low (Spn.mk (itmAt X.items n).low (itmAt X.items n).high).high = itE X b n from rfl] at he
    simp only [Spn.cells] at he
    have es := upto_succ (itE X b) n
    simp [hnl, Itm.cells]
    refine pwp_draw 13 (by decide) ?_
    simp [hnl, Itm.cells]
    refine pd_spec he (by simp) (by simp) (by simp) rfl ?_
    simp [rowsI_snoc, es, show (n + 1) * 8 ≤ 140737488355328 from by omega, show n + 1 ≤ maxLen from by simp [maxLen]; omega]
    refine ⟨by decide, ?_⟩
    refine again_of (n + 1) (by omega) (by omega) ?_
    simp [wn, es]
  · obtain rfl : n = X.items.length := by omega
    simp
    refine pwp_loop (fun m : Nat => [(5, .box true [.own 26 X.items.length 0 X.items.length false, .v (.int .i64 0), .own 45 m 0 m false]), (7, .v (.int .i64 m)), (45, .rows none m 3 1 (rowsI (upto (waE X b) m)))]) (fun m => m ≤ X.water.length) (fun m => X.water.length - m) 0 (Nat.zero_le _) (by simp; rfl) (by simp [upto_zero]) ?_
    intro m hm
    by_cases hml : m < X.water.length
    · have wm := i64_wrap (show -9223372036854775808 ≤ (m : Int) + 1 ∧ _ from by omega)
      have he := rEnd_spec (spnAt X.water m) b
      rw [show pickS b (spnAt X.water m).low (spnAt X.water m).high = waE X b m from rfl] at he
      simp only [Spn.cells] at he
      have es := upto_succ (waE X b) m
      simp [hml, Spn.cells]
      refine pwp_draw 12 (by decide) ?_
      simp [hml, Spn.cells]
      refine pd_spec he (by simp) (by simp) (by simp) rfl ?_
      simp [rowsI_snoc, es, show (m + 1) * 8 ≤ 140737488355328 from by omega, show m + 1 ≤ maxLen from by simp [maxLen]; omega]
      refine ⟨by decide, ?_⟩
      refine again_of (m + 1) (by omega) (by omega) ?_
      simp [wm, es]
    · obtain rfl : m = X.water.length := by omega
      have he := rEnd_spec X.tank b
      simp only [Spn.cells] at he
      simp
      refine pop_spec he rfl false (.inl (by simp)) (.inl rfl) rfl (by simp) ?_
      simp
      refine ends_of (cseO (allC X b)) (cseH (allC X b)) [26, 45] (x := .agg [.own 26 X.items.length 0 X.items.length false, .v (.int .i64 (allC X b).tank), .own 45 X.water.length 0 X.water.length false]) (by simp [allC]) (by decide) ?_ ?_ rfl
      · simp [cseH, allC]
      · simp [cseO, cseH, allC]
theorem worst_items (P : Pln) (X : Pnt) (r i : Nat) : (worstC P X r i).items = upto (fun j => pickS (worstI P X r i j) (itmAt X.items j).low (itmAt X.items j).high) X.items.length := rfl
theorem worst_water (P : Pln) (X : Pnt) (r i : Nat) : (worstC P X r i).water = upto (fun j => pickS (worstF P r i j) (spnAt X.water j).low (spnAt X.water j).high) X.water.length := rfl
theorem worst_all5 (P : Pln) (X : Pnt) (i : Nat) : worstC P X 5 i = allC X true := rfl
theorem worst_all7 (P : Pln) (X : Pnt) (i : Nat) : worstC P X 7 i = allC X false := rfl
theorem worst_all3 (P : Pln) (X : Pnt) (i : Nat) : worstC P X 3 i = ⟨(allC X false).items, X.tank.high, (allC X false).water⟩ := rfl
theorem slope_lt (P : Pln) (e : Nat) (a : Int) : decide (P.dw e * a < P.dm e) = decide (P.slope e a < 0) := decide_eq_decide.2 (by unfold Pln.slope; omega)
theorem rWorst_spec (P : Pln) (X : Pnt) (r i : Nat) (hP : PlnOk P) (hX : PntOk P X) (hr : 2 ≤ r ∧ r ≤ 7) (hi : i < manyR P r) :
    Spec Tryz.prog 88 [.agg P.cells, .agg X.cells, .v (.int .i64 r), .v (.int .i64 i)] (.agg (worstC P X r i).cells) := by
  have hni := hX.n
  have hnw := hX.nw
  have hnf := hP.nf
  have hall := fun b => rAll_spec X b (by omega) (by omega)
  simp only [Pnt.cells] at hall
  have hc : r = 2 ∨ r = 3 ∨ r = 4 ∨ r = 5 ∨ r = 6 ∨ r = 7 := by omega
  refine spec_of mixed Tryz.func88 (by decide) rfl Tryz.results88 Tryz.ntmps88 (by decide) 2 (by simp) ?_
  rcases hc with rfl | rfl | rfl | rfl | rfl | rfl
  · simp [Pln.cells, cnrL, stnL, Pnt.cells, itmL, spnL]
    refine pop_callW (hall false) rfl [] false (by decide) trivial (.inl (by simp [itmL, spnL])) ?_
    rintro out rfl
    refine ⟨[171, 172], by simp [backOk, cseH], .inl rfl, by simp [back, backV, placeAll, cseH], ?_⟩
    simp [back, backV, placeAll, cseH, cseO, allC]
    refine pwp_loop (fun j : Nat => [(10, .v (.int .i64 j)), (171, .rows none X.items.length 3 1 (rowsI (mixL (fun j => pickS (worstI P X 2 i j) (itmAt X.items j).low (itmAt X.items j).high) (itE X false) X.items.length j)))]) (fun j => j ≤ X.items.length) (fun j => X.items.length - j) 0 (Nat.zero_le _) (by simp; rfl) (by simp [mixL_zero, upto]) ?_
    intro j hj
    by_cases hjl : j < X.items.length
    · have wj := i64_wrap (show -9223372036854775808 ≤ (j : Int) + 1 ∧ _ from by omega)
      by_cases hs : (itmAt X.items j).station = (i : Int)
      · have hw : worstI P X 2 i j = true := by simp [worstI, hs]
        have es := mixL_set (f := fun j => pickS (worstI P X 2 i j) (itmAt X.items j).low (itmAt X.items j).high) (g := itE X false) hjl
        rw [show pickS (worstI P X 2 i j) (itmAt X.items j).low (itmAt X.items j).high = (itmAt X.items j).high from by rw [hw]; rfl] at es
        simp [hjl, Itm.cells, hs]
        refine pwp_draw 11 (by decide) ?_
        simp [hjl, Itm.cells, hs, rowsI_set, es]
        refine ⟨by decide, ?_⟩
        refine again_of (j + 1) (by omega) (by omega) ?_
        simp [wj]
      · have hw : worstI P X 2 i j = false := by simp [worstI, hs]
        have es := mixL_skip (n := X.items.length) (f := fun j => pickS (worstI P X 2 i j) (itmAt X.items j).low (itmAt X.items j).high) (g := itE X false) (j := j) (by simp only [hw]; rfl)
        simp [hjl, Itm.cells, hs]
        refine again_of (j + 1) (by omega) (by omega) ?_
        simp [wj, es]
    · obtain rfl : j = X.items.length := by omega
      rw [mixL_all]
      simp
      refine answers_of (x := .agg [.own 171 X.items.length 0 X.items.length false, .v (.int .i64 X.tank.low), .own 172 X.water.length 0 X.water.length false]) (by simp [pickS]) ?_
      simp [Cse.cells, ints, worst_items, worst_water, show (worstC P X 2 i).tank = X.tank.low from rfl]
      refine ⟨fun k hk => ?_, fun k hk => ?_⟩
      · rw [← upto, rowsI_get (by simpa using hk)]; simp; try rfl
      · rw [rowsI_get (by simpa using hk)]; simp [upto, worstF]; try rfl
  · simp [Pln.cells, cnrL, stnL, Pnt.cells, itmL, spnL]
    refine pop_callW (hall false) rfl [] false (by decide) trivial (.inl (by simp [itmL, spnL])) ?_
    rintro out rfl
    refine ⟨[171, 172], by simp [backOk, cseH], .inl rfl, by simp [back, backV, placeAll, cseH], ?_⟩
    simp [back, backV, placeAll, cseH, cseO, allC]
    refine answers_of (x := .agg [.own 171 X.items.length 0 X.items.length false, .v (.int .i64 X.tank.high), .own 172 X.water.length 0 X.water.length false]) (by simp [pickS]) ?_
    simp [Cse.cells, ints, worst_all3, allC]
    refine ⟨fun k hk => ?_, fun k hk => ?_⟩
    · rw [rowsI_get (by simpa using hk)]; simp [upto, worstF]; try rfl
    · rw [rowsI_get (by simpa using hk)]; simp [upto, worstF]; try rfl
  · have hi2 : i < P.floats.length := by simpa [manyR] using hi
    have hi3 : i < X.water.length := by omega
    have es := upto_set (f := waE X false) (g := fun j => pickS (worstF P 4 i j) (spnAt X.water j).low (spnAt X.water j).high) hi3 (fun k hk => by simp [worstF, hk, waE])
    rw [show pickS (worstF P 4 i i) (spnAt X.water i).low (spnAt X.water i).high = (spnAt X.water i).high from by simp [worstF, pickS]] at es
    simp [Pln.cells, cnrL, stnL, Pnt.cells, itmL, spnL]
    refine pop_callW (hall false) rfl [] false (by decide) trivial (.inl (by simp [itmL, spnL])) ?_
    rintro out rfl
    refine ⟨[171, 172], by simp [backOk, cseH], .inl rfl, by simp [back, backV, placeAll, cseH], ?_⟩
    simp [back, backV, placeAll, cseH, cseO, allC]
    refine pwp_draw 10 (by decide) ?_
    simp [hi3, Spn.cells, rowsI_set, es]
    refine ⟨by decide, ?_⟩
    refine answers_of (x := .agg [.own 171 X.items.length 0 X.items.length false, .v (.int .i64 X.tank.low), .own 172 X.water.length 0 X.water.length false]) (by simp [pickS]) ?_
    simp [Cse.cells, ints, worst_water, show (worstC P X 4 i).items = upto (itE X false) X.items.length from rfl, show (worstC P X 4 i).tank = X.tank.low from rfl]
    refine ⟨fun k hk => ?_, fun k hk => ?_⟩
    · rw [rowsI_get (by simpa using hk)]; simp [upto, worstF]; try rfl
    · rw [rowsI_get (by simpa using hk)]; simp [upto, worstF]; try rfl
  · simp [Pln.cells, cnrL, stnL, Pnt.cells, itmL, spnL]
    refine pop_callW (hall true) rfl [] false (by decide) trivial (.inl (by simp [itmL, spnL])) ?_
    rintro out rfl
    refine ⟨[171, 172], by simp [backOk, cseH], .inl rfl, by simp [back, backV, placeAll, cseH], ?_⟩
    simp [back, backV, placeAll, cseH, cseO]
    refine answers_of (x := .agg [.own 171 (allC X true).items.length 0 (allC X true).items.length false, .v (.int .i64 (allC X true).tank), .own 172 (allC X true).water.length 0 (allC X true).water.length false]) (by simp [pickS]) ?_
    simp [Cse.cells, ints, worst_all5]
    refine ⟨fun k hk => ?_, fun k hk => ?_⟩
    · rw [rowsI_get hk]; simp
    · rw [rowsI_get hk]; simp
  · have hi2 : i < P.corners.length := by simpa [manyR] using hi
    have hne : ¬ P.corners = [] := fun e => by rw [e] at hi2; cases hi2
    obtain ⟨s1, s2, s3, s4⟩ := edg_small hP.corner hi2
    have c1 := rcorner_spec P i (by omega)
    have c2 := rcorner_spec P (i + 1) (by omega)
    rw [Nat.mod_eq_of_lt hi2] at c1
    have we := i64_wrap (show -9223372036854775808 ≤ (i : Int) + 1 ∧ _ from by have := hP.n; omega)
    rw [show ((i + 1 : Nat) : Int) = (i : Int) + 1 from by omega] at c2
    simp only [Cnr.cells] at c1 c2
    have eA : cnrAt P.corners i = P.cA i := rfl
    have eB : cnrAt P.corners ((i + 1) % P.corners.length) = P.cB i := rfl
    rw [eA] at c1
    rw [eB] at c2
    have ew : (P.cB i).weight - (P.cA i).weight = P.dw i := rfl
    have em : (P.cB i).moment - (P.cA i).moment = P.dm i := rfl
    have w1 := i64_wrap (show -9223372036854775808 ≤ P.dw i ∧ _ from by unfold Small at s3; omega)
    have w2 := i64_wrap (show -9223372036854775808 ≤ P.dm i ∧ _ from by unfold Small at s4; omega)
    have w3 := fun a (ha : Small 1000 a) => i64_wrap (show -9223372036854775808 ≤ P.dw i * a ∧ _ from by have := mul_small s3 ha (by omega) (by omega); unfold Small at this; omega)
    simp [Pln.cells, cnrL, stnL, Pnt.cells, itmL, spnL]
    refine pop_callW (hall false) rfl [] false (by decide) trivial (.inl (by simp [itmL, spnL])) ?_
    rintro out rfl
    refine ⟨[171, 172], by simp [backOk, cseH], .inl rfl, by simp [back, backV, placeAll, cseH], ?_⟩
    simp [back, backV, placeAll, cseH, cseO, allC]
    refine pwp_draw 9 (by decide) ?_
    simp [we]
    refine pd_spec c1 (by simp [Pln.cells, cnrL, stnL]) (by simp) (by simp [Pln.cells, cnrL, stnL]) rfl ?_
    simp [we]
    refine pd_spec c2 (by simp [Pln.cells, cnrL, stnL]) (by simp) (by simp [Pln.cells, cnrL, stnL]) rfl ?_
    simp
    refine ⟨by decide, ?_⟩
    refine pwp_loop (fun j : Nat => [(13, .v (.int .i64 j)), (171, .rows none X.items.length 3 1 (rowsI (mixL (fun j => pickS (worstI P X 6 i j) (itmAt X.items j).low (itmAt X.items j).high) (itE X false) X.items.length j)))]) (fun j => j ≤ X.items.length) (fun j => X.items.length - j) 0 (Nat.zero_le _) (by simp; rfl) (by simp [mixL_zero, upto]) ?_
    intro j hj
    by_cases hjl : j < X.items.length
    · have wj := i64_wrap (show -9223372036854775808 ≤ (j : Int) + 1 ∧ _ from by omega)
      have hit := hX.item j hjl
      obtain ⟨s, hs⟩ : ∃ s : Nat, (itmAt X.items j).station = (s : Int) := ⟨_, (Int.toNat_of_nonneg hit.1.1).symm⟩
      have hsl : s < P.stations.length := by have := hit.1.2; omega
      have harm : armI P X j = (stnAt P.stations s).arm := by simp [armI, hs]
      have ha := w3 (stnAt P.stations s).arm (hP.station s hsl).1
      have he := rEnd_spec ⟨(itmAt X.items j).low, (itmAt X.items j).high⟩ (decide (P.dw i * (stnAt P.stations s).arm < P.dm i))
      rw [show pickS (decide (P.dw i * (stnAt P.stations s).arm < P.dm i)) (Spn.mk (itmAt X.items j).low (itmAt X.items j).high).low (Spn.mk (itmAt X.items j).low (itmAt X.items j).high).high = pickS (worstI P X 6 i j) (itmAt X.items j).low (itmAt X.items j).high from by rw [slope_lt, ← harm]; rfl] at he
      simp only [Spn.cells] at he
      have es := mixL_set (f := fun j => pickS (worstI P X 6 i j) (itmAt X.items j).low (itmAt X.items j).high) (g := itE X false) hjl
      generalize pickS (worstI P X 6 i j) (itmAt X.items j).low (itmAt X.items j).high = v at he es
      simp [hjl]
      refine pwp_draw 34 (by decide) ?_
      simp (config := { maxSteps := 8000000 }) [hjl, Itm.cells, hs, hsl, Stn.cells, ew, em, w1, w2, ha]
      refine pd_spec he (by simp) (by simp) (by simp) rfl ?_
      simp [hjl, rowsI_set, es]
      refine ⟨by decide, ?_⟩
      refine again_of (j + 1) (by omega) (by omega) ?_
      simp [wj]
    · obtain rfl : j = X.items.length := by omega
      rw [mixL_all]
      have ha := w3 P.tank.arm hP.tank.1
      have he := rEnd_spec X.tank (decide (P.dw i * P.tank.arm < P.dm i))
      rw [show pickS (decide (P.dw i * P.tank.arm < P.dm i)) X.tank.low X.tank.high = (worstC P X 6 i).tank from by rw [slope_lt]; rfl] at he
      simp only [Spn.cells] at he
      simp [ew, em, w1, w2, ha]
      refine pop_spec he rfl false (.inl (by simp)) (.inl rfl) rfl (by simp) ?_
      simp
      refine pwp_loop (fun j : Nat => [(14, .v (.int .i64 j)), (172, .rows none X.water.length 3 1 (rowsI (mixL (fun j => pickS (worstF P 6 i j) (spnAt X.water j).low (spnAt X.water j).high) (waE X false) X.water.length j)))]) (fun j => j ≤ X.water.length) (fun j => X.water.length - j) 0 (Nat.zero_le _) (by simp; rfl) (by simp [mixL_zero, upto]) ?_
      intro j hj
      by_cases hjl : j < X.water.length
      · have wj := i64_wrap (show -9223372036854775808 ≤ (j : Int) + 1 ∧ _ from by omega)
        have hjf : j < P.floats.length := by omega
        have ha := w3 (stnAt P.floats j).arm (hP.float j hjf).1
        have he := rEnd_spec (spnAt X.water j) (decide (P.dw i * (stnAt P.floats j).arm < P.dm i))
        rw [show pickS (decide (P.dw i * (stnAt P.floats j).arm < P.dm i)) (spnAt X.water j).low (spnAt X.water j).high = pickS (worstF P 6 i j) (spnAt X.water j).low (spnAt X.water j).high from by rw [slope_lt]; rfl] at he
        simp only [Spn.cells] at he
        have es := mixL_set (f := fun j => pickS (worstF P 6 i j) (spnAt X.water j).low (spnAt X.water j).high) (g := waE X false) hjl
        generalize pickS (worstF P 6 i j) (spnAt X.water j).low (spnAt X.water j).high = v at he es
        simp [hjl]
        refine pwp_draw 28 (by decide) ?_
        simp (config := { maxSteps := 8000000 }) [hjl, hjf, Spn.cells, Stn.cells, ew, em, w1, w2, ha]
        refine pd_spec he (by simp) (by simp) (by simp) rfl ?_
        simp [hjl, rowsI_set, es]
        refine ⟨by decide, ?_⟩
        refine again_of (j + 1) (by omega) (by omega) ?_
        simp [wj]
      · obtain rfl : j = X.water.length := by omega
        rw [mixL_all]
        simp
        refine answers_of (x := .agg [.own 171 X.items.length 0 X.items.length false, .v (.int .i64 (worstC P X 6 i).tank), .own 172 X.water.length 0 X.water.length false]) (by simp [pickS]) ?_
        simp [Cse.cells, ints, worst_items, worst_water, show (worstC P X 2 i).tank = X.tank.low from rfl]
        refine ⟨fun k hk => ?_, fun k hk => ?_⟩
        · rw [← upto, rowsI_get (by simpa using hk)]; simp; try rfl
        · rw [← upto, rowsI_get (by simpa using hk)]; simp; try rfl
  · simp [Pln.cells, cnrL, stnL, Pnt.cells, itmL, spnL]
    refine pop_callW (hall false) rfl [] false (by decide) trivial (.inl (by simp [itmL, spnL])) ?_
    rintro out rfl
    refine ⟨[171, 172], by simp [backOk, cseH], .inl rfl, by simp [back, backV, placeAll, cseH], ?_⟩
    simp [back, backV, placeAll, cseH, cseO]
    refine answers_of (x := .agg [.own 171 (allC X false).items.length 0 (allC X false).items.length false, .v (.int .i64 (allC X false).tank), .own 172 (allC X false).water.length 0 (allC X false).water.length false]) (by simp [pickS]) ?_
    simp [Cse.cells, ints, worst_all7]
    refine ⟨fun k hk => ?_, fun k hk => ?_⟩
    · rw [rowsI_get hk]; simp
    · rw [rowsI_get hk]; simp
def sureC (P : Pln) (X : Pnt) : Cse := if (brokenP P X).1 = 1 then ⟨[], 0, []⟩ else worstC P X (brokenP P X).1 (brokenP P X).2
theorem rSure_spec (P : Pln) (X : Pnt) (hP : PlnOk P) (hX : PntOk P X) :
    Spec Tryz.prog 39 [.agg P.cells, .agg X.cells] (.tup [.v (.int .i64 (brokenP P X).1), .v (.int .i64 (brokenP P X).2), .agg (sureC P X).cells]) := by
  have hres : ∀ r i, r < 6 → (∀ q, q < r → ∀ i, i < manyR P (q + 2) → canB P X (q + 2) i = false) → i < manyR P (r + 2) → (∀ j, j < i → canB P X (r + 2) j = false) → canB P X (r + 2) i = true → brokenP P X = (r + 2, i) ∧ sureC P X = worstC P X (r + 2) i := fun r i h0 h1 h2 h3 h4 => by
    have e := broken_some h0 h1 h2 h3 h4
    exact ⟨e, by rw [sureC, e, if_neg (by simp)]⟩
  have hres0 : (∀ q, q < 6 → ∀ i, i < manyR P (q + 2) → canB P X (q + 2) i = false) → brokenP P X = (1, 0) ∧ sureC P X = ⟨[], 0, []⟩ := fun h => by
    have e := broken_none h
    exact ⟨e, by rw [sureC, e, if_pos rfl]⟩
  generalize brokenP P X = br at hres hres0 ⊢
  generalize sureC P X = C at hres hres0 ⊢
  refine spec_of mixed Tryz.func39 (by decide) rfl Tryz.results39 Tryz.ntmps39 (by decide) 0 (by simp) ?_
  simp [Pln.cells, cnrL, stnL, Pnt.cells, itmL, spnL]
  refine pwp_loop (fun r : Nat => [(7, .v (.int .i64 ((r : Int) + 2)))]) (fun r => r ≤ 6 ∧ ∀ q, q < r → ∀ i, i < manyR P (q + 2) → canB P X (q + 2) i = false) (fun r => 6 - r) 0 ⟨Nat.zero_le _, fun q h => by omega⟩ (by simp; rfl) (by simp) ?_
  intro r ⟨hr, hq⟩
  by_cases hr6 : r < 6
  · have wr := i64_wrap (show -9223372036854775808 ≤ (r : Int) + 2 + 1 ∧ _ from by omega)
    have hm12 := manyR_le hP (r + 2)
    have hcast : ((r + 2 : Nat) : Int) = (r : Int) + 2 := by omega
    have hmany := rmany_spec P (r + 2) (by omega)
    rw [hcast] at hmany
    simp [show (r : Int) + 2 ≤ 7 from by omega]
    refine pwp_loop (fun i : Nat => [(8, .v (.int .i64 i))]) (fun i => i ≤ manyR P (r + 2) ∧ ∀ j, j < i → canB P X (r + 2) j = false) (fun i => manyR P (r + 2) - i) 0 ⟨Nat.zero_le _, fun j h => by omega⟩ (by simp; rfl) (by simp) ?_
    intro i ⟨hi, hp⟩
    simp
    refine pop_spec hmany rfl false (.inl (by simp [Pln.cells, cnrL, stnL])) (.inl rfl) rfl (by simp) ?_
    by_cases hil : i < manyR P (r + 2)
    · have wi := i64_wrap (show -9223372036854775808 ≤ (i : Int) + 1 ∧ _ from by omega)
      have hworst := rWorst_spec P X (r + 2) i hP hX (by omega) hil
      have hbrk := rBreaks_spec P X (worstC P X (r + 2) i) (r + 2) i hP hX (cse_small hX (worst_in hX (r + 2) i)) (by omega) hil
      rw [worst_breaks hX (by omega) hil] at hbrk
      rw [hcast] at hworst hbrk
      have hr1 := hres r i hr6 hq hil hp
      generalize worstC P X (r + 2) i = W at hworst hbrk hr1
      simp only [Cse.cells, ints] at hworst hbrk
      simp [hil]
      refine pop_spec hworst rfl false (.inl (by simp [Pln.cells, cnrL, stnL, Pnt.cells, itmL, spnL])) (.inl rfl) rfl (by simp) ?_
      simp
      refine pop_spec hbrk rfl false (.inl (by simp [Pln.cells, cnrL, stnL, Pnt.cells, itmL, spnL, ints])) (.inl rfl) rfl (by simp) ?_
      cases hb : canB P X (r + 2) i with
      | true =>
        obtain ⟨e1, e2⟩ := hr1 hb
        subst e1
        subst e2
        simp
        refine pwp_draw 6 (by decide) ?_
        simp
        refine ⟨by decide, ?_⟩
        refine answers_of (x := .tup [.v (.int .i64 ((r : Int) + 2)), .v (.int .i64 i), .agg C.cells]) (by simp [Cse.cells, ints]) ?_
        simp [Cse.cells, ints]
      | false =>
        simp
        refine again_of (i + 1) ⟨by omega, fun j hj => ?_⟩ (by omega) ?_
        · rcases Nat.lt_or_eq_of_le (Nat.le_of_lt_succ hj) with h' | rfl
          · exact hp j h'
          · exact hb
        · simp [wi]
    · obtain rfl : i = manyR P (r + 2) := by omega
      simp
      refine again_of (r + 1) ⟨by omega, fun q hq1 i' hi' => ?_⟩ (by omega) ?_
      · rcases Nat.lt_or_eq_of_le (Nat.le_of_lt_succ hq1) with h' | rfl
        · exact hq q h' i' hi'
        · exact hp i' hi'
      · simp [wr]; omega
  · obtain rfl : r = 6 := by omega
    obtain ⟨e1, e2⟩ := hres0 hq
    subst e1
    subst e2
    simp
    refine answers_of (x := .tup [.v (.int .i64 1), .v (.int .i64 0), .agg [.nil, .v (.int .i64 0), .nil]]) (by simp) ?_
    simp [Cse.cells, ints]
end Go.Qg

namespace Go.Qg
open Go.Proofs
set_option maxRecDepth 100000
set_option linter.unusedSimpArgs false
set_option maxHeartbeats 64000000
attribute [local irreducible] pwp pops pdraw pop popCall pdCall thenP blockP scopeP pspec Spec answers ppost CallW rend
theorem rowsSp_rep (n : Nat) (s : Spn) : rowsSp (List.replicate n s) ++ [[.v (.int .i64 s.low), .v (.int .i64 s.high)]] = rowsSp (List.replicate (n + 1) s) := by
  simp [rowsSp, Spn.cells, List.replicate_succ']
theorem rwaters_spec (P : Pln) (s : Spn) (hf : P.floats.length ≤ 2) : Spec Tryz.prog 81 [.agg P.cells, .agg s.cells] (spnL (List.replicate P.floats.length s)) := by
  refine spec_of mixed Tryz.func81 (by decide) rfl Tryz.results81 Tryz.ntmps81 (by decide) 0 (by simp) ?_
  simp [Pln.cells, cnrL, stnL, Spn.cells]
  refine pwp_loop (fun n : Nat => [(5, .own 17 n 0 n false), (6, .v (.int .i64 n)), (17, .rows none n 37 2 (rowsSp (List.replicate n s)))]) (fun n => n ≤ P.floats.length) (fun n => P.floats.length - n) 0 (Nat.zero_le _) (by simp; rfl) (by simp [rowsSp]) ?_
  intro n hn
  by_cases hnl : n < P.floats.length
  · have wn := i64_wrap (show -9223372036854775808 ≤ (n : Int) + 1 ∧ _ from by omega)
    simp [hnl, rowsSp_rep, show (n + 1) * 16 ≤ 140737488355328 from by omega, show n + 1 ≤ maxLen from by simp [maxLen]; omega]
    refine again_of (n + 1) (by omega) (by omega) ?_
    simp [wn]
  · obtain rfl : n = P.floats.length := by omega
    simp
    refine answers_of (x := .own 17 P.floats.length 0 P.floats.length false) (by simp) ?_
    simp [spnL, rowsSp]
    intro k hk
    simp [spnAt_rep hk, hk, Spn.cells]
theorem rPoints_spec (P : Pln) (fuel : Spn) (legs : List Leg) (hf : P.floats.length ≤ 2) (hT : TripOk P fuel legs) : Spec Tryz.prog 33 [.agg P.cells, .agg fuel.cells, legL legs] (pntL (ptsL P fuel legs (2 * legs.length))) := by
  have hn := hT.n
  refine spec_of mixed Tryz.func33 (by decide) rfl Tryz.results33 Tryz.ntmps33 (by decide) 0 (by simp) ?_
  simp [Pln.cells, cnrL, stnL, Spn.cells, legL]
  refine pwp_loop (fun k : Nat => [(7, .own 47 (2 * k) 0 (2 * k) false), (8, .box true (stT fuel legs k).cells), (9, .box true (stF legs k).cells), (10, .v (.int .i64 k)), (47, .rows none (2 * k) 66 5 (rowsPt (ptsL P fuel legs (2 * k))))]) (fun k => k ≤ legs.length) (fun k => legs.length - k) 0 (Nat.zero_le _) (by simp; rfl) (by simp [Spn.cells, stT, stF, ptsL]) ?_
  intro k hk
  by_cases hkl : k < legs.length
  · have wk := i64_wrap (show -9223372036854775808 ≤ (k : Int) + 1 ∧ _ from by omega)
    have hL := hT.leg k hkl
    have b1 := stT_bounds hT k hk
    have b2 := stF_bounds hT k hk
    have b3 := stG_bounds hT k hk
    have l1 := hL.fuel
    have l2 := hL.burn
    have l3 := hL.leak
    have l4 := hL.n
    have hlA := ptsL_length P fuel legs (2 * k)
    have hlB := ptsL_length P fuel legs (2 * k + 1)
    have tA : (ptsL P fuel legs (2 * k)).take (2 * k) = ptsL P fuel legs (2 * k) := List.take_of_length_le (by omega)
    have tB : (ptsL P fuel legs (2 * k + 1)).take (2 * k + 1) = ptsL P fuel legs (2 * k + 1) := List.take_of_length_le (by omega)
    have eT : stT fuel legs (k + 1) = ⟨(stT fuel legs k).low + (legAt legs k).fuel - (legAt legs k).burn.high, (stT fuel legs k).high + (legAt legs k).fuel - (legAt legs k).burn.low⟩ := rfl
    have eF := stF_succ legs k
    have eA := rowsPt_snoc (ptsL P fuel legs (2 * k)) (ptA P fuel legs k)
    have eB := rowsPt_snoc (ptsL P fuel legs (2 * k + 1)) (ptB P fuel legs k)
    rw [ptsL_A] at eA
    rw [ptsL_B] at eB
    have w1 := i64_wrap (show -9223372036854775808 ≤ (stT fuel legs k).low + (legAt legs k).fuel ∧ _ from by omega)
    have w2 := i64_wrap (show -9223372036854775808 ≤ (stT fuel legs k).high + (legAt legs k).fuel ∧ _ from by omega)
    have w3 := i64_wrap (show -9223372036854775808 ≤ (stT fuel legs k).low + (legAt legs k).fuel - (legAt legs k).burn.high ∧ _ from by omega)
    have w4 := i64_wrap (show -9223372036854775808 ≤ (stT fuel legs k).high + (legAt legs k).fuel - (legAt legs k).burn.low ∧ _ from by omega)
    have w5 := i64_wrap (show -9223372036854775808 ≤ (stG legs k).low + (legAt legs k).leak.low ∧ _ from by omega)
    have w6 := i64_wrap (show -9223372036854775808 ≤ (stG legs k).high + (legAt legs k).leak.high ∧ _ from by omega)
    have hwA := rwaters_spec P (stG legs k) hf
    have hwB := rwaters_spec P (stF legs (k + 1)) hf
    simp only [ptA, ptB, Pnt.cells, itmL] at eA eB
    have hsl : ∀ s : Spn, spnL (List.replicate P.floats.length s) = .sl 2 P.floats.length fun i => (spnAt (List.replicate P.floats.length s) i).cells := fun s => by simp [spnL]
    rw [hsl] at eA eB hwA hwB
    generalize (fun i => (spnAt (List.replicate P.floats.length (stG legs k)) i).cells) = fA at eA hwA
    generalize (fun i => (spnAt (List.replicate P.floats.length (stF legs (k + 1))) i).cells) = fB at eB hwB
    cases hp : (legAt legs k).pump with
    | true =>
      have hG : stG legs k = ⟨0, 0⟩ := by simp [stG, hp]
      rw [hG] at eF w5 w6 hwA
      simp only [Int.zero_add] at eF w5 w6
      rw [eF] at hwB
      rw [eT] at eB
      simp only [Spn.cells] at hwA hwB
      simp (config := { maxSteps := 4000000 }) [hkl, Leg.cells, Spn.cells, hp, itmL, w1, w2]
      refine pwp_draw 11 (by decide) ?_
      simp
      refine pd_spec hwA (by simp [Pln.cells, cnrL, stnL]) (by simp) (by simp [Pln.cells, cnrL, stnL]) rfl ?_
      simp (config := { maxSteps := 4000000 }) [eA, hlA, hlB, tA, tB, show (2 * k + 1) * 72 ≤ 140737488355328 from by omega, show 2 * k + 1 ≤ maxLen from by simp [maxLen]; omega]
      refine ⟨by decide, ?_⟩
      simp (config := { maxSteps := 4000000 }) [w3, w4, w5, w6]
      refine pwp_draw 11 (by decide) ?_
      simp
      refine pd_spec hwB (by simp [Pln.cells, cnrL, stnL]) (by simp) (by simp [Pln.cells, cnrL, stnL]) rfl ?_
      simp (config := { maxSteps := 4000000 }) [eB, hlA, hlB, tA, tB, show (2 * k + 1 + 1) * 72 ≤ 140737488355328 from by omega, show 2 * k + 1 + 1 ≤ maxLen from by simp [maxLen]; omega]
      refine ⟨by decide, ?_⟩
      refine again_of (k + 1) (by omega) (by omega) ?_
      simp [wk, eT, eF, Spn.cells, show 2 * (k + 1) = 2 * k + 1 + 1 from by omega]
    | false =>
      have hG : stG legs k = stF legs k := by simp [stG, hp]
      rw [hG] at eF w5 w6 hwA
      rw [eF] at hwB
      rw [eT] at eB
      simp only [Spn.cells] at hwA hwB
      simp (config := { maxSteps := 4000000 }) [hkl, Leg.cells, Spn.cells, hp, itmL, w1, w2]
      refine pwp_draw 11 (by decide) ?_
      simp
      refine pd_spec hwA (by simp [Pln.cells, cnrL, stnL]) (by simp) (by simp [Pln.cells, cnrL, stnL]) rfl ?_
      simp (config := { maxSteps := 4000000 }) [eA, hlA, hlB, tA, tB, show (2 * k + 1) * 72 ≤ 140737488355328 from by omega, show 2 * k + 1 ≤ maxLen from by simp [maxLen]; omega]
      refine ⟨by decide, ?_⟩
      simp (config := { maxSteps := 4000000 }) [w3, w4, w5, w6]
      refine pwp_draw 11 (by decide) ?_
      simp
      refine pd_spec hwB (by simp [Pln.cells, cnrL, stnL]) (by simp) (by simp [Pln.cells, cnrL, stnL]) rfl ?_
      simp (config := { maxSteps := 4000000 }) [eB, hlA, hlB, tA, tB, show (2 * k + 1 + 1) * 72 ≤ 140737488355328 from by omega, show 2 * k + 1 + 1 ≤ maxLen from by simp [maxLen]; omega]
      refine ⟨by decide, ?_⟩
      refine again_of (k + 1) (by omega) (by omega) ?_
      simp [wk, eT, eF, Spn.cells, show 2 * (k + 1) = 2 * k + 1 + 1 from by omega]
  · obtain rfl : k = legs.length := by omega
    simp
    refine answers_of (x := .own 47 (2 * legs.length) 0 (2 * legs.length) false) (by simp) ?_
    simp [pntL, ptsL_length]
    intro k hk
    rw [rowsPt_get (by rw [ptsL_length]; exact hk)]
    simp [vwAll_plain (pntAt (ptsL P fuel legs (2 * legs.length)) k).plain]
    intro x hx
    simp [Pnt.cells] at hx
    rcases hx with rfl | rfl | rfl | rfl | rfl <;> simp [itmL, spnL]
theorem rTrip_spec (P : Pln) (fuel : Spn) (legs : List Leg) (hP : PlnOk P) (hT : TripOk P fuel legs) : Spec Tryz.prog 31 [.agg P.cells, .agg fuel.cells, legL legs] (.tup [.v (.int .i64 (tripN P fuel legs)), .v (.int .i64 (tripR P fuel legs).1), .v (.int .i64 (tripR P fuel legs).2)]) := by
  have hn := hT.n
  have hp := rPoints_spec P fuel legs hP.nf hT
  have hat := fun j (h : j < 2 * legs.length) => pntAt_ptsL (P := P) (fuel := fuel) (legs := legs) h
  have hok := fun j (h : j < 2 * legs.length) => ptOf_ok hT h
  have hlen := ptsL_length P fuel legs (2 * legs.length)
  have hres : ∀ j, j < 2 * legs.length → sureB P (ptOf P fuel legs j) = false → (∀ i, i < j → sureB P (ptOf P fuel legs i) = true) → tripN P fuel legs = j ∧ tripR P fuel legs = (((brokenP P (ptOf P fuel legs j)).1 : Int), ((brokenP P (ptOf P fuel legs j)).2 : Int)) := fun j h1 h2 h3 => by
    have : tripP P fuel legs = some j := fstN_some.2 ⟨h1, by simp [h2], fun k hk => by simp [h3 k hk]⟩
    simp [tripN, tripR, this]
  have hres0 : (∀ i, i < 2 * legs.length → sureB P (ptOf P fuel legs i) = true) → tripN P fuel legs = -1 ∧ tripR P fuel legs = (1, 0) := fun h => by
    have : tripP P fuel legs = none := fstN_none.2 fun k hk => by simp [h k hk]
    simp [tripN, tripR, this]
  generalize tripN P fuel legs = N at *
  generalize tripR P fuel legs = R at *
  generalize ptsL P fuel legs (2 * legs.length) = L at *
  refine spec_of mixed Tryz.func31 (by decide) rfl Tryz.results31 Tryz.ntmps31 (by decide) 0 (by simp) ?_
  simp [Pln.cells, cnrL, stnL, Spn.cells, legL]
  refine pop_spec hp rfl false (.inl (by simp [Pln.cells, cnrL, stnL, Spn.cells, legL])) (.inl rfl) rfl (by simp [pntL]) ?_
  simp [pntL, hlen]
  refine pwp_loop (fun k : Nat => [(10, .v (.int .i64 k))]) (fun k => k ≤ 2 * legs.length ∧ ∀ i, i < k → sureB P (ptOf P fuel legs i) = true) (fun k => 2 * legs.length - k) 0 ⟨Nat.zero_le _, fun i hi => by omega⟩ (by simp; rfl) (by simp [hlen]) ?_
  intro k ⟨hk, hq⟩
  by_cases hkl : k < 2 * legs.length
  · have wk := i64_wrap (show -9223372036854775808 ≤ (k : Int) + 1 ∧ _ from by omega)
    have hb := rSure_spec P (ptOf P fuel legs k) hP (hok k hkl)
    rw [← hat k hkl] at hb
    have hs : sureB P (ptOf P fuel legs k) = decide ((brokenP P (ptOf P fuel legs k)).1 = 1) := rfl
    have hr := hres k hkl
    rw [← hat k hkl] at hs hr
    generalize brokenP P (pntAt L k) = br at *
    generalize sureC P (pntAt L k) = C at *
    obtain ⟨r, i⟩ := br
    simp only [Cse.cells, ints] at hb hs hr
    simp (config := { maxSteps := 4000000 }) [show (k : Int) < 2 * (legs.length : Int) from by omega, hlen, show k < L.length from by omega, hkl]
    refine pwp_draw 14 (by decide) ?_
    simp [hlen, show k < L.length from by omega, hkl, Pnt.cells, itmL, spnL, show (k : Int) < 2 * (legs.length : Int) from by omega]
    refine pd_spec hb (by simp [Pln.cells, cnrL, stnL, Pnt.cells, itmL, spnL]) (by simp) (by simp [Pln.cells, cnrL, stnL, Pnt.cells, itmL, spnL]) rfl ?_
    simp
    refine ⟨by decide, ?_⟩
    by_cases hr1 : r = 1
    · subst hr1
      simp
      refine again_of (k + 1) ⟨by omega, fun j hj => ?_⟩ (by omega) ?_
      · rcases Nat.lt_or_eq_of_le (Nat.le_of_lt_succ hj) with h' | rfl
        · exact hq j h'
        · rw [← hat j hkl, hs]; rfl
      · simp [wk, hlen]
    · obtain ⟨e1, e2⟩ := hr (by rw [hs]; simp [hr1]) hq
      subst e1
      subst e2
      simp [hr1, show ¬ (r : Int) = 1 from by omega]
      refine answers_of rfl ?_
      simp
  · obtain rfl : k = 2 * legs.length := by omega
    obtain ⟨e1, e2⟩ := hres0 hq
    subst e1
    subst e2
    simp [hlen]
    refine answers_of rfl ?_
    simp
theorem tripN_lt (P : Pln) (fuel : Spn) (legs : List Leg) : decide (tripN P fuel legs < 0) = (tripP P fuel legs).isNone := by
  unfold tripN
  cases tripP P fuel legs with
  | none => rfl
  | some j => simp
theorem rSureTrip_spec (P : Pln) (fuel : Spn) (legs : List Leg) (hP : PlnOk P) (hT : TripOk P fuel legs) : Spec Tryz.prog 68 [.agg P.cells, .agg fuel.cells, legL legs] (.v (.bool (tripP P fuel legs).isNone)) := by
  have ht := rTrip_spec P fuel legs hP hT
  rw [← tripN_lt]
  refine spec_of mixed Tryz.func68 (by decide) rfl Tryz.results68 Tryz.ntmps68 (by decide) 0 (by simp) ?_
  simp [Pln.cells, cnrL, stnL, Spn.cells, legL]
  refine pop_spec ht rfl false (.inl (by simp [Pln.cells, cnrL, stnL, Spn.cells, legL])) (.inl rfl) rfl (by simp) ?_
  simp
  refine answers_of rfl ?_; simp
def fuelN (P : Pln) (legs : List Leg) : Int := match fuelP P legs with | some n => n | none => -1
theorem fuelN_some {P : Pln} {legs : List Leg} {k : Int} (hk : 0 ≤ k) (hk2 : k ≤ 20000) (h1 : sureT P ⟨k, k⟩ legs) (h2 : ∀ n : Int, 0 ≤ n → n < k → ¬ sureT P ⟨n, n⟩ legs) : fuelN P legs = k := by
  have h := fuel_law P legs
  unfold fuelN
  cases hf : fuelP P legs with
  | none => rw [hf] at h; exact (h k hk hk2 h1).elim
  | some n =>
    rw [hf] at h
    obtain ⟨g1, g2, g3⟩ := h
    have a : ¬ k < n := fun hl => g3 k hk hl h1
    have b : ¬ n < k := fun hl => h2 n g1.1 hl g2
    simp only; omega
theorem fuelN_none {P : Pln} {legs : List Leg} (h0 : 1 ≤ legs.length) (hf : 0 ≤ (legAt legs 0).fuel) (h2 : ∀ n : Int, 0 ≤ n → n ≤ P.tank.most → ¬ sureT P ⟨n, n⟩ legs) : fuelN P legs = -1 := by
  have h := fuel_law P legs
  unfold fuelN
  cases hf2 : fuelP P legs with
  | none => rfl
  | some n =>
    rw [hf2] at h
    obtain ⟨g1, g2, g3⟩ := h
    exact (h2 n g1.1 (fuel_most h0 hf g2) g2).elim
theorem rFuel_spec (P : Pln) (legs : List Leg) (hP : PlnOk P) (hT : TripOk P ⟨0, 0⟩ legs) : Spec Tryz.prog 20 [.agg P.cells, legL legs] (.v (.int .i64 (fuelN P legs))) := by
  have hn := hT.n
  have hmost := hP.tank.2
  have hf0 := (hT.leg 0 (by omega)).fuel
  refine spec_of mixed Tryz.func20 (by decide) rfl Tryz.results20 Tryz.ntmps20 (by decide) 0 (by simp) ?_
  simp [Pln.cells, cnrL, stnL, legL]
  refine pwp_loop (fun k : Nat => [(5, .v (.int .i64 k))]) (fun k => (k : Int) ≤ P.tank.most + 1 ∧ ∀ n : Int, 0 ≤ n → n < k → ¬ sureT P ⟨n, n⟩ legs) (fun k => (P.tank.most + 1 - k).toNat) 0 ⟨by omega, fun n h1 h2 => by omega⟩ (by simp; rfl) (by simp) ?_
  intro k ⟨hk, hq⟩
  by_cases hkl : (k : Int) ≤ P.tank.most
  · have wk := i64_wrap (show -9223372036854775808 ≤ (k : Int) + 1 ∧ _ from by omega)
    have hs := rSureTrip_spec P ⟨k, k⟩ legs hP (tripOk_fuel hT (by simp only; omega))
    simp only [Spn.cells] at hs
    simp [hkl]
    refine pop_spec hs rfl false (.inl (by simp [Pln.cells, cnrL, stnL, legL])) (.inl rfl) rfl (by simp) ?_
    cases ht : tripP P ⟨k, k⟩ legs with
    | none =>
      have e := fuelN_some (by omega) (by omega) (trip_none.1 ht) hq
      simp
      refine answers_of rfl ?_
      simp [e]
    | some j =>
      simp
      refine again_of (k + 1) ⟨by omega, fun n h1 h2 h3 => ?_⟩ (by omega) ?_
      · by_cases hnk : n < k
        · exact hq n h1 hnk h3
        · obtain rfl : n = k := by omega
          rw [trip_none.2 h3] at ht; cases ht
      · simp [wk]
  · have e := fuelN_none (by omega) hf0.1 (fun n h1 h2 => hq n h1 (by omega))
    simp [hkl]
    refine answers_of rfl ?_
    simp [e]
end Go.Qg
