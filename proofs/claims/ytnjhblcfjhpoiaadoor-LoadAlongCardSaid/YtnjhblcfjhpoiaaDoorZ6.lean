/-
  Lemmas and contracts that hold of the whole program: 18 texts in one.
  No condition.
-/
import Derived.Test.YtnjhblcfjhpoiaaDoorZ5
set_option linter.all false

namespace Go.Qg
theorem lt2 {p : Nat → Prop} (h0 : p 0) (h1 : p 1) : ∀ k, k < 2 → p k
  | 0, _ => h0
  | 1, _ => h1
theorem lt3 {p : Nat → Prop} (h0 : p 0) (h1 : p 1) (h2 : p 2) : ∀ k, k < 3 → p k
  | 0, _ => h0
  | 1, _ => h1
  | 2, _ => h2
theorem lt4 {p : Nat → Prop} (h0 : p 0) (h1 : p 1) (h2 : p 2) (h3 : p 3) : ∀ k, k < 4 → p k
  | 0, _ => h0
  | 1, _ => h1
  | 2, _ => h2
  | 3, _ => h3
theorem lt5 {p : Nat → Prop} (h0 : p 0) (h1 : p 1) (h2 : p 2) (h3 : p 3) (h4 : p 4) : ∀ k, k < 5 → p k
  | 0, _ => h0
  | 1, _ => h1
  | 2, _ => h2
  | 3, _ => h3
  | 4, _ => h4
theorem lt6 {p : Nat → Prop} (h0 : p 0) (h1 : p 1) (h2 : p 2) (h3 : p 3) (h4 : p 4) (h5 : p 5) : ∀ k, k < 6 → p k
  | 0, _ => h0
  | 1, _ => h1
  | 2, _ => h2
  | 3, _ => h3
  | 4, _ => h4
  | 5, _ => h5
theorem lt7 {p : Nat → Prop} (h0 : p 0) (h1 : p 1) (h2 : p 2) (h3 : p 3) (h4 : p 4) (h5 : p 5) (h6 : p 6) : ∀ k, k < 7 → p k
  | 0, _ => h0
  | 1, _ => h1
  | 2, _ => h2
  | 3, _ => h3
  | 4, _ => h4
  | 5, _ => h5
  | 6, _ => h6
theorem lt8 {p : Nat → Prop} (h0 : p 0) (h1 : p 1) (h2 : p 2) (h3 : p 3) (h4 : p 4) (h5 : p 5) (h6 : p 6) (h7 : p 7) : ∀ k, k < 8 → p k
  | 0, _ => h0
  | 1, _ => h1
  | 2, _ => h2
  | 3, _ => h3
  | 4, _ => h4
  | 5, _ => h5
  | 6, _ => h6
  | 7, _ => h7
theorem lt9 {p : Nat → Prop} (h0 : p 0) (h1 : p 1) (h2 : p 2) (h3 : p 3) (h4 : p 4) (h5 : p 5) (h6 : p 6) (h7 : p 7) (h8 : p 8) : ∀ k, k < 9 → p k
  | 0, _ => h0
  | 1, _ => h1
  | 2, _ => h2
  | 3, _ => h3
  | 4, _ => h4
  | 5, _ => h5
  | 6, _ => h6
  | 7, _ => h7
  | 8, _ => h8
theorem lt10 {p : Nat → Prop} (h0 : p 0) (h1 : p 1) (h2 : p 2) (h3 : p 3) (h4 : p 4) (h5 : p 5) (h6 : p 6) (h7 : p 7) (h8 : p 8) (h9 : p 9) : ∀ k, k < 10 → p k
  | 0, _ => h0
  | 1, _ => h1
  | 2, _ => h2
  | 3, _ => h3
  | 4, _ => h4
  | 5, _ => h5
  | 6, _ => h6
  | 7, _ => h7
  | 8, _ => h8
  | 9, _ => h9
theorem lt11 {p : Nat → Prop} (h0 : p 0) (h1 : p 1) (h2 : p 2) (h3 : p 3) (h4 : p 4) (h5 : p 5) (h6 : p 6) (h7 : p 7) (h8 : p 8) (h9 : p 9) (h10 : p 10) : ∀ k, k < 11 → p k
  | 0, _ => h0
  | 1, _ => h1
  | 2, _ => h2
  | 3, _ => h3
  | 4, _ => h4
  | 5, _ => h5
  | 6, _ => h6
  | 7, _ => h7
  | 8, _ => h8
  | 9, _ => h9
  | 10, _ => h10
theorem lt12 {p : Nat → Prop} (h0 : p 0) (h1 : p 1) (h2 : p 2) (h3 : p 3) (h4 : p 4) (h5 : p 5) (h6 : p 6) (h7 : p 7) (h8 : p 8) (h9 : p 9) (h10 : p 10) (h11 : p 11) : ∀ k, k < 12 → p k
  | 0, _ => h0
  | 1, _ => h1
  | 2, _ => h2
  | 3, _ => h3
  | 4, _ => h4
  | 5, _ => h5
  | 6, _ => h6
  | 7, _ => h7
  | 8, _ => h8
  | 9, _ => h9
  | 10, _ => h10
  | 11, _ => h11
theorem ext_geti {a b : List Int} (h : a.length = b.length) (h2 : ∀ k, k < a.length → geti a k = geti b k) : a = b := by
  refine List.ext_getElem h fun i h3 h4 => ?_
  have := h2 i h3
  simpa [geti, h3, h4] using this
theorem ext_spn {a b : List Spn} (h : a.length = b.length) (h2 : ∀ k, k < a.length → spnAt a k = spnAt b k) : a = b := by
  refine List.ext_getElem h fun i h3 h4 => ?_
  have := h2 i h3
  simpa [spnAt, h3, h4] using this
end Go.Qg

namespace Go.Qg
open Go.Proofs Go.RowKit Go.Lib
set_option maxRecDepth 100000
set_option linter.unusedSimpArgs false
set_option maxHeartbeats 32000000
attribute [local irreducible] pwp pops pdraw pop popCall pdCall thenP blockP scopeP pspec Spec answers ppost CallW
theorem numL_all {fuel : Spn} {legs : List Leg} (h : tripE fuel legs 8 = 0) : legs.length ≤ 6 ∧ (0 ≤ fuel.low ∧ fuel.low ≤ fuel.high ∧ fuel.high ≤ 20000) ∧ ∀ k, k < legs.length → NumL (legAt legs k) := by
  unfold tripE at h
  split at h
  · omega
  · split at h
    · omega
    · rename_i h1 h2
      simp only [not_or, Bool.not_eq_false] at h2
      obtain ⟨h3, h4, h5⟩ := h2
      exact ⟨by omega, spanB_spec.1 h4, fun k hk => numL_of (allN_spec.1 h5 k hk)⟩
theorem Print_spec (fuel : Spn) (legs : List Leg) (hl : legs.length ≤ 9223372036854775807) (hi : ∀ k, k < legs.length → (legAt legs k).items.length ≤ 9223372036854775807) :
    Spec Tryd.prog 28 [.agg fuel.cells, legL legs] (printRes fuel legs) := by
  have htrip := trip_spec fuel legs 8 hl hi (by omega)
  simp only [Spn.cells] at htrip
  unfold Spec printRes
  refine callW_ofE Tryd.func28 (by decide) rfl (congrArg Array.toList Tryd.results28) Tryd.ntmps28 84 (by simp) (by decide) fun B0 hB0 hD0 => ?_
  have hlo : ∀ s B, ECtx B0 s B → B.lo = 84 := fun _ _ h => h.1.trans hB0
  refine XW_seqP mixed hlo (by decide) ?_
  simp [Spn.cells, legL]
  refine XW_seqP mixed hlo (by decide) ?_
  simp
  refine pop_spec htrip rfl false (.inl (by simp [legL])) (.inl rfl) rfl (by simp) ?_
  by_cases he : tripE fuel legs 8 = 0
  case neg =>
    simp [he]
    refine ends_of (.tup [.v (.string (bytesOf [])), .v (.int .i64 (tripE fuel legs 8))]) [] [] (x := .tup [.v (.string ⟨#[]⟩), .v (.int .i64 (tripE fuel legs 8))]) (by simp) (by decide) ?_ ?_ rfl
    · simp
    · simp [bytesOf]
  obtain ⟨hn, hf, hL⟩ := numL_all he
  simp [he]
  refine XW_seqP mixed hlo (by decide) ?_
  simp
  have hlen0 : (lineB [tripW] (headN fuel legs)).length ≤ 71 := by
    have := lineB_len (ws := [tripW]) (ns := headN fuel legs) (a := 4) (by rw [join_trip]; simp) fun y hy => by
      simp only [headN, List.mem_cons, List.not_mem_nil, or_false] at hy
      rcases hy with rfl | rfl | rfl <;> omega
    have e : (headN fuel legs).length = 3 := rfl
    omega
  have hsum0 := sumI_bound (l := headN fuel legs) (b := 20000) fun y hy => by
    simp only [headN, List.mem_cons, List.not_mem_nil, or_false] at hy
    rcases hy with rfl | rfl | rfl <;> omega
  have hl0 := line_spec ⟨false, some 114⟩ (.v (.pointer none)) [] 0 [tripW] (headN fuel legs) 0 (.inr ⟨rfl, rfl⟩) ⟨by simp, by simp, by rw [join_trip]; simp⟩ (by simp [headN]) (fun y hy => by
    simp only [headN, List.mem_cons, List.not_mem_nil, or_false] at hy
    rcases hy with rfl | rfl | rfl <;> omega) (by simp) (by omega)
  simp only [List.nil_append, Int.zero_add, List.length_nil, rowsU_nil] at hl0
  refine XW_seqP mixed hlo (by decide) ?_
  simp
  refine pop_callF [(7, .box ⟨true, some 114⟩ [.v (.pointer none), .own 83 0 0 0 false, .v (.int .i64 0)]), (19, strsL [tripW]), (26, ints (headN fuel legs)), (83, .rows none 0 5 1 [])] ?_ hl0 rfl [7, 83] false (by decide) ?_ (.inl ?_) ?_
  · simp [strsL, ints, headN]
    refine ⟨rfl, lt3 ?_ ?_ ?_⟩ <;> simp [geti]
  · simp
  · simp [strsL, ints, headN]
  rintro out ⟨ep1, rfl⟩
  refine ⟨[], by simp [backOk], .inl rfl, by simp [back, backV, placeAll], ?_⟩
  simp [back, backV, placeAll]
  refine XW_seqP mixed hlo (by decide) ?_
  simp
  refine pwp_loop (fun s : Nat × Nat => [(19, .undef), (26, .undef), (7, .box true [.ref 7 0, .own 83 s.2 0 (legsTo legs (lineB [tripW] (headN fuel legs)) s.1).length false, .v (.int .i64 (legsSum legs (sumI (headN fuel legs)) s.1))]), (30, .v (.int .i64 s.1)), (83, .rows none s.2 5 1 (rowsU (legsTo legs (lineB [tripW] (headN fuel legs)) s.1)))]) (fun s => s.1 ≤ legs.length) (fun s => legs.length - s.1) (0, ep1) (Nat.zero_le _) (by simp; rfl) ?_ ?_
  · simp [legsTo, legsSum]
  rintro ⟨k, ep2⟩ hk
  simp only at hk
  have hb := legs_bound (legs := legs) (T := lineB [tripW] (headN fuel legs)) (x := sumI (headN fuel legs)) k fun j hj => hL j (by omega)
  have hh3 : (headN fuel legs).length = 3 := rfl
  rw [hh3] at hsum0
  by_cases hkl : k < legs.length
  · have wk := i64_wrap (show -9223372036854775808 ≤ (k : Int) + 1 ∧ _ from by omega)
    have hN := hL k hkl
    have hN1 := hN.n
    have eT : legsTo legs (lineB [tripW] (headN fuel legs)) (k + 1) = itemsTo (legAt legs k).items (legsTo legs (lineB [tripW] (headN fuel legs)) k ++ lineB (legWs (legAt legs k)) (legN (legAt legs k))) (legAt legs k).items.length := rfl
    have eS : legsSum legs (sumI (headN fuel legs)) (k + 1) = itemsSum (legAt legs k).items (legsSum legs (sumI (headN fuel legs)) k + sumI (legN (legAt legs k))) (legAt legs k).items.length := rfl
    generalize legsTo legs (lineB [tripW] (headN fuel legs)) k = T at *
    generalize legsSum legs (sumI (headN fuel legs)) k = X at *
    have hl1 := line_spec (BoxF.of false) (.ref 0 0) T X (legWs (legAt legs k)) (legN (legAt legs k)) ep2 (.inl ⟨rfl, rfl⟩) ⟨by simp [legWs], by simp [legWs], by rw [join_leg]; omega⟩ (by simp [legN]) (fun y hy => by have := hN.a y hy; omega) (by omega) (by omega)
    have hlen1 := lineB_len (ws := legWs (legAt legs k)) (ns := legN (legAt legs k)) (a := 8) (by rw [join_leg]; omega) fun y hy => by have := hN.a y hy; omega
    have hsum1 := sumI_bound (l := legN (legAt legs k)) (b := 20000) hN.a
    have hl6 : (legN (legAt legs k)).length = 6 := rfl
    rw [hl6] at hlen1 hsum1
    simp [hkl, Leg.cells, itmL]
    have hpp : (legAt legs k).pump = true ∧ legWs (legAt legs k) = [legW, pumpW] ∨ (legAt legs k).pump = false ∧ legWs (legAt legs k) = [legW, keepW] := by
      cases h : (legAt legs k).pump <;> simp [legWs, h]
    rcases hpp with ⟨hp, hws⟩ | ⟨hp, hws⟩
    all_goals
      simp [hkl, hp]
      refine pop_callF [(37, strsL (legWs (legAt legs k))), (55, ints (legN (legAt legs k)))] ?_ hl1 rfl [7, 83] false (by decide) ?_ (.inl ?_) ?_
      · simp [strsL, ints, legN, hws]
        refine ⟨lt2 ?_ ?_, lt6 ?_ ?_ ?_ ?_ ?_ ?_⟩ <;> simp [geti, legW, keepW, pumpW, bytesOf]
      · simp
      · simp [strsL, ints, legN, hws]
      rintro out ⟨ep3, rfl⟩
      refine ⟨[], by simp [backOk], .inl rfl, by simp [back, backV, placeAll], ?_⟩
      simp [back, backV, placeAll, hkl]
      generalize hT1 : T ++ lineB (legWs (legAt legs k)) (legN (legAt legs k)) = T1 at *
      generalize hX1 : X + sumI (legN (legAt legs k)) = X1 at *
      have hT1l : T1.length = T.length + (lineB (legWs (legAt legs k)) (legN (legAt legs k))).length := by rw [← hT1, List.length_append]
      rw [← hT1l]
      refine pwp_loop (fun s : Nat × Nat => [(37, .undef), (55, .undef), (7, .box true [.ref 7 0, .own 83 s.2 0 (itemsTo (legAt legs k).items T1 s.1).length false, .v (.int .i64 (itemsSum (legAt legs k).items X1 s.1))]), (60, .v (.int .i64 s.1)), (83, .rows none s.2 5 1 (rowsU (itemsTo (legAt legs k).items T1 s.1)))]) (fun s => s.1 ≤ (legAt legs k).items.length) (fun s => (legAt legs k).items.length - s.1) (0, ep3) (Nat.zero_le _) (by simp; rfl) ?_ ?_
      · simp [itemsTo, itemsSum]
      rintro ⟨j, ep4⟩ hj
      simp only at hj
      have hbi := items_bound (l := (legAt legs k).items) (T := T1) (x := X1) j fun i hi => hN.i i (by omega)
      by_cases hjl : j < (legAt legs k).items.length
      · have wj := i64_wrap (show -9223372036854775808 ≤ (j : Int) + 1 ∧ _ from by omega)
        have hNi := hN.i j hjl
        have eI : itemsTo (legAt legs k).items T1 (j + 1) = itemsTo (legAt legs k).items T1 j ++ lineB [itemW] (itmN (itmAt (legAt legs k).items j)) := rfl
        have eJ : itemsSum (legAt legs k).items X1 (j + 1) = itemsSum (legAt legs k).items X1 j + sumI (itmN (itmAt (legAt legs k).items j)) := rfl
        generalize itemsTo (legAt legs k).items T1 j = T2 at *
        generalize itemsSum (legAt legs k).items X1 j = X2 at *
        have hl2 := line_spec (BoxF.of false) (.ref 0 0) T2 X2 [itemW] (itmN (itmAt (legAt legs k).items j)) ep4 (.inl ⟨rfl, rfl⟩) ⟨by simp, by simp, by rw [join_item]; simp⟩ (by simp [itmN]) (fun y hy => by have := hNi.a y hy; omega) (by omega) (by omega)
        simp [hjl, Itm.cells]
        refine pop_callF [(64, strsL [itemW]), (73, ints (itmN (itmAt (legAt legs k).items j)))] ?_ hl2 rfl [7, 83] false (by decide) ?_ (.inl ?_) ?_
        · simp [strsL, ints, itmN, Itm.cells]
          refine ⟨rfl, lt3 ?_ ?_ ?_⟩ <;> simp [geti]
        · simp
        · simp [strsL, ints, itmN]
        rintro out ⟨ep5, rfl⟩
        refine ⟨[], by simp [backOk], .inl rfl, by simp [back, backV, placeAll], ?_⟩
        simp [back, backV, placeAll]
        refine again_of (j + 1, ep5) (by simp only; omega) (by simp only; omega) ?_
        simp [wj, eI, eJ, Itm.cells]
      · obtain rfl : j = (legAt legs k).items.length := by omega
        simp
        refine again_of (k + 1, ep4) (by simp only; omega) (by simp only; omega) ?_
        simp [wk, eT, eS, Leg.cells, itmL]
  · obtain rfl : k = legs.length := by omega
    have eB : printB fuel legs = legsTo legs (lineB [tripW] (headN fuel legs)) legs.length ++ lastB (legsSum legs (sumI (headN fuel legs)) legs.length) := rfl
    have hll := lastB_len (sum := legsSum legs (sumI (headN fuel legs)) legs.length)
    have hlast := last_spec (legsSum legs (sumI (headN fuel legs)) legs.length) (by omega)
    have hne : legsTo legs (lineB [tripW] (headN fuel legs)) legs.length ≠ [] := fun e => by
      have key : ∀ k, (lineB [tripW] (headN fuel legs)).length ≤ (legsTo legs (lineB [tripW] (headN fuel legs)) k).length := fun k => by
        induction k with
        | zero => exact Nat.le_refl _
        | succ k ih =>
          have ki : ∀ (l : List Itm) (T : List UInt8) (j : Nat), T.length ≤ (itemsTo l T j).length := fun l T j => by
            induction j with
            | zero => exact Nat.le_refl _
            | succ j ih => simp only [itemsTo, List.length_append]; omega
          have := ki (legAt legs k).items (legsTo legs (lineB [tripW] (headN fuel legs)) k ++ lineB (legWs (legAt legs k)) (legN (legAt legs k))) (legAt legs k).items.length
          simp only [List.length_append] at this
          simp only [legsTo]
          omega
      have := key legs.length
      rw [e] at this
      simp only [lineB, List.length_append, List.length_cons, List.length_nil] at this
      omega
    generalize legsTo legs (lineB [tripW] (headN fuel legs)) legs.length = T at *
    generalize lastB (legsSum legs (sumI (headN fuel legs)) legs.length) = L at *
    generalize legsSum legs (sumI (headN fuel legs)) legs.length = X at *
    have hstr : CallW Tryd.prog 53 [.ref 0 0] [.box false [.ref 0 0, .own 1 ep2 0 T.length false, .v (.int .i64 X)], .rows none ep2 5 1 (rowsU T)]
      (fun out => out = .ret (.v (.string (bytesOf T))) [.box false [.ref 0 0, .own 1 ep2 0 T.length false, .v (.int .i64 X)], .rows none (ep2 + 1) 5 1 []]) := bstr_spec T X ep2 hne
    have hsz : T.length + L.length ≤ 9223372036854775807 := by omega
    simp
    refine XW_seqX (XW_any mixed hlo (by decide) ?_)
    simp
    repeat' first
      | (refine pany_two 0 2 (by decide +kernel) ⟨_, rfl, ?_⟩ ⟨_, rfl, ?_⟩ <;> simp [bytesOf_app, hsz])
      | (refine pany_two 1 2 (by decide +kernel) ⟨_, rfl, ?_⟩ ⟨_, rfl, ?_⟩ <;> simp [bytesOf_app, hsz])
      | (refine pany_two 0 3 (by decide +kernel) ⟨_, rfl, ?_⟩ ⟨_, rfl, ?_⟩ <;> simp [bytesOf_app, hsz])
      | (refine pany_two 1 3 (by decide +kernel) ⟨_, rfl, ?_⟩ ⟨_, rfl, ?_⟩ <;> simp [bytesOf_app, hsz])
      | (refine pany_two 0 4 (by decide +kernel) ⟨_, rfl, ?_⟩ ⟨_, rfl, ?_⟩ <;> simp [bytesOf_app, hsz])
      | (refine pany_two 1 4 (by decide +kernel) ⟨_, rfl, ?_⟩ ⟨_, rfl, ?_⟩ <;> simp [bytesOf_app, hsz])
      | (refine pany_one 0 (by decide +kernel) ⟨_, rfl, ?_⟩; simp [bytesOf_app, hsz])
      | (refine pany_one 1 (by decide +kernel) ⟨_, rfl, ?_⟩; simp [bytesOf_app, hsz])
      | (refine pany_one 2 (by decide +kernel) ⟨_, rfl, ?_⟩; simp [bytesOf_app, hsz])
      | (refine pany_one 3 (by decide +kernel) ⟨_, rfl, ?_⟩; simp [bytesOf_app, hsz])
      | (refine pany_one 4 (by decide +kernel) ⟨_, rfl, ?_⟩; simp [bytesOf_app, hsz])
      | (refine pany_one 5 (by decide +kernel) ⟨_, rfl, ?_⟩; simp [bytesOf_app, hsz])
      | (refine pany_one 6 (by decide +kernel) ⟨_, rfl, ?_⟩; simp [bytesOf_app, hsz])
      | (refine pany_one 7 (by decide +kernel) ⟨_, rfl, ?_⟩; simp [bytesOf_app, hsz])
      | (refine pop_callW hstr rfl [7, 83] false (by decide) (by simp) (.inl (by simp)) ?_; rintro out rfl; refine ⟨[], by simp [backOk], .inl rfl, by simp [back, backV, placeAll], ?_⟩; simp [back, backV, placeAll])
      | (refine pop_spec hlast rfl false (.inl (by simp)) (.inl rfl) rfl (by simp) ?_; simp)
    all_goals
      refine XW_pwp mixed hlo (by decide) ?_
      simp
      refine ends_of (.tup [.v (.string (bytesOf (printB fuel legs))), .v (.int .i64 0)]) [] [] (x := .tup [.v (.string (bytesOf (T ++ L))), .v (.int .i64 0)]) (by simp) (by decide) ?_ ?_ rfl
      · simp
      · simp [eB]
end Go.Qg

namespace Go.Qg
open Go.RowKit (Below)
inductive Splits : Code → Code → Code → Prop
  | one (a b : Code) : Splits (.seq a b) a b
  | more (a : Code) {b b0 b1 : Code} : Splits b b0 b1 → Splits (.seq a b) (.seq a b0) b1
section
variable {P : Program} {N M : Nat} {B : Base} {ro : Option Nat}
theorem wr_split (hm : P.follows .mixedOrders = true) (hM : B.lo = M) {K : PF → Prop} {Qw : Exit → Act → World → Prop} {c c0 c1 : Code} (hs : Splits c c0 c1) : ∀ {fr : PF} {a : Act} {w : World}, dstsIn N c0 = true → SimE N B a w fr → pwp P M c0 (thenP K fun _ _ => False) fr →
    (∀ e a w, Up N B (thenP K fun _ _ => False) e a w → Exit.then (wr P ro c1 Qw) Qw e a w) → wr P ro c Qw a w := by
  induction hs with
  | one x y => intro fr a w hd h hp hk; exact wr_seq (wr_mono (pwp_sound hm hM x _ fr a w hd h hp) hk)
  | more x hs ih =>
    intro fr a w hd h hp hk
    simp only [dstsIn, Bool.and_eq_true] at hd
    refine wr_seq (wr_mono (pwp_sound hm hM x _ fr a w hd.1 h hp) fun e a0 w0 ⟨R0, Γ0, fr0, x0, hs0, hu0, hq0⟩ => ?_)
    cases x0 with
    | normal => cases e with
      | normal => exact ih hd.2 ⟨R0, Γ0, hs0⟩ hq0 hk
      | _ => exact hu0.elim
    | _ => exact hq0.elim
end
section
variable {P : Program} {N M M' : Nat} {B B0 B2 : Base} {a a' : Act} {w w' : World} {els : List PV}
theorem gen_of1S (hm : P.follows .mixedOrders = true) {f : FuncId} {fn : Func} {c c0 c1 : Code} (hf : P.funcs[f]? = some fn) (hname : (fn.name == "runtime.NumGoroutine") = false) (hb : fn.body = some c) (hsp : Splits c c0 c1) (hrs : fn.results = #[]) (hn : fn.ntmps = N) (hd0 : dstsIn N c0 = true) {first caps : List PV} (S : Nat) (hargs : first.length + (caps.length + 1) ≤ N)
    (h : ∀ (l : Nat) (Rb : Nat → Prop) (J : GS → (Nat → Prop) → World → Prop), Env P l els Rb J → pwp P (N + S) c0 (thenP (fun fr => ∃ g : PF, less (N + S) fr g ∧ (g.all fun p => p.plain && p.flat) = true ∧
      XW P N (GCtx (N + S) Rb J) (.on 0) c1 (fun s x _ => (x = .normal ∨ x = .ret) ∧ (s = .on els.length ∨ s = .off) ∨ ∃ p, s = .pan p ∧ x = .panic p) g) (fun _ _ => False)) (frame0 (N + S) (first ++ (.clo (.yield l) [] [] :: caps)) [])) : GenW1 P f first caps els := by
  subst hn
  refine ⟨fun vs w => ?_, fun w us vs R Rb l J F0 hR hRb henv hJ hlu hl hrepu hrep => ?_⟩
  · simp only [callFunc, Sem.run_bind, run_program, Result.andThen_ok, hf, hname, hb]
    rfl
  · have h0 : Sim 0 ⟨fun b => F0 b ∨ Rb b ∨ ∃ o, R b o, w, R, fun _ => none, 0, []⟩ R (fun _ => none) noAct w [] :=
      ⟨rfl, Nat.zero_le _, fun t p hp => (by simp at hp), fun i j l m b hi => (by cases hi), fun i l hi => (by cases hi), hR, fun b o hb => .inl hb, Kept.refl _ _, hRb.go (fun b hb => hb.elim (henv.bnd _ _ _ _ hJ) fun h => h.elim (hRb b) fun ⟨o, h⟩ => hR b o h) (fun b _ hb => .inr (.inl hb)) (fun _ _ _ => rfl), Nat.le_refl _, fun j l _ hl => (by cases hl), rfl⟩
    have hsim := h0.enter (N := fn.ntmps) (M := fn.ntmps + S) (vs := us ++ (.func (.yield l) #[] #[] :: vs)) (args := first ++ (.clo (.yield l) [] [] :: caps)) (by simp [hl, hlu]) (fun i u p hu hp => by
      by_cases hi : i < us.length
      · rw [List.getElem?_append_left hi] at hu
        rw [List.getElem?_append_left (by omega)] at hp
        exact hrepu i u p hu hp
      · rw [List.getElem?_append_right (by omega)] at hu
        rw [List.getElem?_append_right (by omega), ← hlu] at hp
        generalize i - us.length = i at hu hp
        cases i with
        | zero =>
          simp only [List.getElem?_cons_zero, Option.some.injEq] at hu hp
          subst hu hp
          exact .clo _ [] [] [] [] rfl rfl (fun i u p hi => by simp at hi) (fun i u p hi => by simp at hi)
        | succ i => exact hrep i u p (by simpa using hu) (by simpa using hp)) (by simpa using hargs) (Nat.le_add_right _ _)
    have ea : (us.toArray ++ #[Value.func (.yield l) #[] #[]] ++ vs.toArray) = (us ++ (Value.func (.yield l) #[] #[] :: vs)).toArray := by simp
    rw [ea]
    refine calls_of_wr hf hb (wr_split (ro := none) hm rfl hsp hd0 hsim.toE (h l Rb J henv) fun e0 a0 w0 ⟨R0, Γ0, fr0, x0, hs0, hu0, hq0⟩ => ?_)
    cases x0 with
    | normal =>
      cases e0 with
      | normal =>
        obtain ⟨g, hless, hdry, hx⟩ := hq0
        have hs1 := weak_R hs0 hless
        have hs2 : Sim fn.ntmps ⟨fun b => F0 b ∨ Rb b, w, fun _ _ => False, fun _ => none, fn.ntmps + S, []⟩ (fun _ _ => False) (fun _ => none) a0 w0 g := hs1.dry hdry (fun b hb => hb.imp_right .inl) (fun b hb => .inr (hRb.isP hb)) rfl rfl rfl (fun _ => rfl)
        refine wr_mono (hx ⟨fun b => F0 b ∨ Rb b, w, fun _ _ => False, fun _ => none, fn.ntmps + S, []⟩ a0 w0 ⟨rfl, rfl, F0, hJ, fun b hb => .inl hb, fun b hb => .inr hb, fun b o hb => hb.elim⟩ hs2.toE) fun e a w' ⟨s, B, ⟨hlo, hD, F, hJ', hF, _, _⟩, R', Γ', fr, x, hs, hu, hx⟩ => ?_
        have hJ2 : J s F w' := henv.stab _ _ _ _ hJ' (fun b hb => hs.kept.block b (hF b hb)) hs.kept.size hs.kept.os hs.kept.tape hs.kept.output
        rcases hx with ⟨hx, hs'⟩ | ⟨p, rfl, rfl⟩
        · have fin : LeavesC P fn a.tmps (genPost els J) a.defers .returning w' := by
            rw [hs.defers, hD]
            refine ⟨.tuple #[], ?_, s, F, hs', hJ2⟩
            simp [results, hrs]
          rcases hx with rfl | rfl
          · cases e with
            | normal => exact fin
            | _ => exact hu.elim
          · cases e with
            | ret => exact fin
            | _ => exact hu.elim
        · cases e with
          | panic ch =>
            obtain ⟨v, rfl, hr⟩ := hu
            obtain ⟨p1, p2⟩ := henv.pan p F w' hJ2
            show LeavesC P fn a.tmps (genPost els J) a.defers _ w'
            rw [hs.defers, hD]
            exact ⟨v, p, F, rfl, plain_rep hr p1 p2, hJ2⟩
          | _ => exact hu.elim
      | _ => exact hu0.elim
    | _ => exact hq0.elim
end
section
variable {P : Program} {N M M' : Nat} {B : Base} {a a' : Act} {w w' : World} {R : Nat → Nat → Prop} {Γ : Nat → Option Loc} {fr : PF}
theorem callW_ofDES (hm : P.follows .mixedOrders = true) {f : FuncId} {fn : Func} {id : Nat} {o1 o2 : Oper} {c c0 c2 : Code} {x : Operand} {ats : Array TypeId} (hf : P.funcs[f]? = some fn) (hname : (fn.name == "runtime.NumGoroutine") = false) (hb : fn.body = some c) (hsp : Splits c c0 (.seq (.region id #[o1, o2] false) c2))
    (ho : o2.op = .defer { callee := .value x, args := #[], argTypes := ats }) (hg : o2.guard = none) (hdst : o2.dst = none) {rs : List ResultVar} (hrs : fn.results.toList = rs) (hn : fn.ntmps = N) (hd0 : dstsIn N c0 = true) (hd1 : ∀ d, o1.dst = some d → d < N) (hd2 : dstsIn N c2 = true) {args : List PV} {H : PF} {Q : Out → Prop}
    (M : Nat) (hargs : args.length ≤ N) (hM : N ≤ M) (h : pwp P M c0 (thenP (pops P M [o1, o2] (dmidE P N M H.length rs c2 x Q) (fun _ _ => False) [o1]) (fun _ _ => False)) (frame0 M args H)) : CallW P f args H Q := by
  subst hrs hn
  refine ⟨fun vs w => ?_, fun w vs R Γ Prot hRp h0 hl hrep => ?_⟩
  · simp only [callFunc, Sem.run_bind, run_program, Result.andThen_ok, hf, hname, hb]
    rfl
  · have hsim := h0.enter hl hrep hargs hM
    refine calls_of_wr hf hb (wr_split (ro := none) hm rfl hsp hd0 hsim.toE h fun e a0 w0 ⟨R0, Γ0, fr0, x0, hs0, hu0, hq0⟩ => ?_)
    cases x0 with
    | normal =>
      cases e with
      | normal =>
        refine wr_seq (wr_region ?_)
        have hr1 : List.range (#[o1, o2] : Array Oper).size = [0, 1] := rfl
        rw [hr1]
        have hN : ∀ o ∈ [o1, o2], ∀ d, o.dst = some d → d < fn.ntmps := fun o ho d hd => by
          rcases List.mem_cons.1 ho with rfl | ho
          · exact hd1 d hd
          · obtain rfl := List.mem_singleton.1 ho
            rw [hdst] at hd; cases hd
        refine op_sound (all := [o1, o2]) (K := pops P M [o1, o2] (dmidE P fn.ntmps M H.length fn.results.toList c2 x Q) (fun _ _ => False) []) (Kp := fun _ _ => False) hs0.toE rfl hN rfl (fun _ _ _ _ _ _ _ _ _ hk => hk.elim) (fun _ _ hq => hq.elim) (k := 0) (o := o1) rfl hq0 (K' := fun a' w' => ∃ fr', SimE fn.ntmps (base0 Prot w R Γ M) a' w' fr' ∧ dmidE P fn.ntmps M H.length fn.results.toList c2 x Q fr') (fun a' w' fr' h1 h2 => ⟨fr', h1, h2⟩) [1] fun a1 w1 hq1 => ?_
        obtain ⟨fr1, ⟨R1, Γ1, hs1⟩, gf, ps, caps, M', news, Ho, A, hx, hM', hκ, hA, hout, hAv, hcaps, hflat, hrest⟩ := hq1
        have hgn : ∀ s ∈ (List.range H.length).map (M + ·) ++ news, (fun _ : Nat => false) s = false := fun _ _ => rfl
        generalize hκe : (List.range H.length).map (M + ·) ++ news = κ at hκ hout hAv hcaps hgn
        have hv := hs1.rd x
        rw [hx] at hv
        generalize hux : a1.eval x = ux at hv
        cases hv with
        | clo _ uf uc _ _ l1 l2 _ r2 =>
        obtain rfl : uf = [] := by simpa using l1
        have hex : (execOp a1.eval o2).run P w1 = .ok (.defer { target := .fn (.func gf) uc.toArray, args := #[] }) w1 := by
          simp only [execOp, ho, resolve, Deferred.ofValue, hux]
          simp [go_sem]
        refine OpR_wp (K := fun a' w' => a' = { a1 with defers := [{ target := .fn (.func gf) uc.toArray, args := #[] }] } ∧ w' = w1) (ops := #[o1, o2]) (o := o2) rfl (by simp [Region.wanted, hg]) (.inl rfl) (fun _ _ hq => hq.elim) ?_ [] fun a' w' ⟨ha', hw'⟩ => RegR_nil ?_
        · unfold Oper.wp
          rw [hex, Oper.upon_defer]
          refine ⟨?_, rfl⟩
          rw [hdst, hs1.defers]
          rfl
        · subst ha' hw'
          obtain ⟨hlend, hRp1⟩ := hs1.lend hout hκ hgn
          obtain ⟨_, hview⟩ := hs1.leave hout hκ hgn
          have hR1 : ∀ b o, freedAt R1 Γ1 (fun _ => false) b o → R1 b o := fun b o hb => by
            rcases hb with hb | ⟨s, m, hg, _⟩
            · exact hb
            · cases hg
          have hent := hlend.enter (N := fn.ntmps) (M := M') (vs := a1.tmps.toList) (args := A) (by simp [hA, hs1.size]) (fun i u q hu hq => by
            have hlt := lt_of_get? hq
            rw [hA] at hlt
            have hqA : A.getD i .undef = q := by simp [List.getD, hq]
            have h1 := hAv i hlt
            rw [hqA] at h1
            refine hview q _ u h1 ?_
            have h2 := hs1.rd (.tmp i)
            rw [Array.getElem?_toList] at hu
            have : a1.eval (.tmp i) = u := by simp [Act.eval, hu]
            rwa [this] at h2) (by simp [hA]) hM'
          have hact : ({ tmps := a1.tmps.toList.toArray ++ Array.replicate (fn.ntmps - a1.tmps.toList.toArray.size) undef, defers := [] } : Act) = { tmps := a1.tmps, defers := [] } := by
            have e1 : a1.tmps.toList.toArray = a1.tmps := Array.toArray_toList
            rw [e1, hs1.size]
            simp
          rw [hact] at hent
          have hs2 : Sim fn.ntmps ⟨Prot, w, R, fun i => if M' ≤ i then Γout Γ1 Ho κ (i - M') else none, M', [{ target := .fn (.func gf) uc.toArray, args := #[] }]⟩ (freedAt R1 Γ1 fun _ => false) (fun i => if M' ≤ i then Γout Γ1 Ho κ (i - M') else none) { a1 with defers := [{ target := .fn (.func gf) uc.toArray, args := #[] }] } w' (frame0 M' A Ho) := by
            refine hent.moved (fun b o _ => rfl) (fun i l b hi hb => rfl) (Nat.le_refl _) (fun i l b hi hb hp => ?_) (fun b o hb => ?_) hs1.kept hs1.prot hM' (fun j l hj hl => ⟨l, hl, Loc.le_refl l⟩) rfl rfl
            · skip
              split at hi
              · obtain ⟨s, m, _, hm', hmb⟩ := Γout_blk hi hb
                exact ((hs1.own s m hm').2 b hmb).1 hp
              · cases hi
            · exact hs1.sub b o (hR1 b o hb)
          generalize hB1 : (⟨Prot, w, R, fun i => if M' ≤ i then Γout Γ1 Ho κ (i - M') else none, M', [{ target := .fn (.func gf) uc.toArray, args := #[] }]⟩ : Base) = B1 at hs2
          have hB1D : B1.D = [{ target := .fn (.func gf) uc.toArray, args := #[] }] := by rw [← hB1]
          have hC : ECtx B1 () ⟨Prot, w, R, fun i => if M' ≤ i then Γout Γ1 Ho κ (i - M') else none, M', [{ target := .fn (.func gf) uc.toArray, args := #[] }]⟩ := by
            subst hB1
            exact ⟨rfl, fun _ x => x, Kept.refl _ _, fun b o hb => .inl hb, rfl, [], List.nodup_nil, rfl, fun r hr => by cases hr⟩
          have hprot : ProtOk B1.Prot B1.w0 := by subst hB1; exact h0.prot
          rw [hB1] at hC
          refine wr_mono (hrest B1 (by rw [← hB1]) B1 _ w' hC hs2.toE) fun e a2 w2 ⟨_, B', hC', R2, Γ2, g, x2, hs30, hu, hq⟩ => ?_
          have hs3 := hs30.ofE hC' hprot
          obtain ⟨_, _, _, _, _, ms, hms, hD', hmk⟩ := hC'
          rw [hB1D] at hD'
          have hΓ1 : ∀ j l, Γout Γ1 Ho κ j = some l → B1.Γ0 (M' + j) = some l := fun j l hl => by
            rw [← hB1]; dsimp only; rw [if_pos (by omega), Nat.add_sub_cancel_left]; exact hl
          have hlo1 : B1.lo = M' := by rw [← hB1]
          have hbase : ∀ {w2 : World}, Sim fn.ntmps { B1 with D := B'.D } R2 Γ2 a2 w2 g → ∀ j l, B1.Γ0 (M' + j) = some l → ∃ l', Γ2 (M' + j) = some l' ∧ Loc.le l l' := fun hs j l hl => hs.base (M' + j) l (by rw [show ({ B1 with D := B'.D } : Base).lo = M' from hlo1]; omega) hl
          have hcap : ∀ (w2 : World), Sim fn.ntmps { B1 with D := B'.D } R2 Γ2 a2 w2 g → ∀ (i : Nat) (u : Value) (q : PV), uc[i]? = some u → (renL (M' + ·) caps)[i]? = some q → Rep w2 R2 Γ2 u q := fun w2 hs3 i u q hu hq => by
            rw [renL_get] at hq
            simp only [Option.map_eq_some_iff] at hq
            obtain ⟨q0, hq0, rfl⟩ := hq
            obtain ⟨p0, hp0, hv0⟩ := vwAll_get hcaps i q0 hq0
            refine (hview q0 p0 u hv0 (r2 i u p0 hu hp0)).ren (.inl (hflat q0 (List.mem_of_getElem? hq0))) fun j _ l hl => ?_
            exact hbase hs3 j l (hΓ1 j l hl)
          have hlc : uc.length = (renL (M' + ·) caps).length := by rw [renL_length, vwAll_length hcaps]; exact l2
          have fin : ∀ (rv : Option Value) (rc : Option PV), (match rv, rc with | none, none => True | some v, some p => p.plain = true ∧ p.flat = true ∧ Rep w2 R2 Γ2 v p | _, _ => False) → dend P M' H.length fn.results.toList gf caps Q rc g → LeavesC P fn a2.tmps (Left Prot w R Γ Q) a2.defers (modeOf rv) w2 := by
            rintro rv rc hrv0 ⟨ιd, Hd, capsd, hιd, houtd, hcapsd, hdw, hdc⟩
            have hrv : ∀ w2 : World, match rv, rc with | none, none => True | some v, some p => p.plain = true ∧ p.flat = true ∧ Rep w2 R2 Γ2 v p | _, _ => False := fun w' => by
              cases rv with
              | none => cases rc with
                | none => trivial
                | some p => exact hrv0.elim
              | some v => cases rc with
                | none => exact hrv0.elim
                | some p => exact ⟨hrv0.1, hrv0.2.1, plain_rep hrv0.2.2 hrv0.1 hrv0.2.1 _ _ _⟩
            rw [hs30.defers, hD']
            refine marks_leave (by cases rv <;> simp [modeOf]) ms w2 { B1 with D := B'.D } hms (fun r hr => ?_) hs3 fun w2 hs3 => ?_
            · obtain ⟨h1, h2, h3⟩ := hmk r hr
              exact ⟨h2, (hs30.kept.block r h1).trans h3⟩
            have hrv := hrv w2
            have hcap := hcap w2 hs3
            have hgd : ∀ s ∈ ιd, (fun _ : Nat => false) s = false := fun _ _ => rfl
            obtain ⟨hlend3, hRp3⟩ := hs3.lend houtd hιd hgd
            obtain ⟨_, hview3⟩ := hs3.leave houtd hιd hgd
            refine ⟨by cases rv <;> simp [modeOf], .inr ⟨.func gf, uc.toArray, gf, uc.toArray, rfl, ?_, ?_⟩⟩
            · simp [invoke, go_sem, hdw]
            · refine (hdc w2 uc _ _ _ rv hRp3 hlend3 ?_ (fun i u q hu hq => ?_) ?_).mono ?_
              · rw [hlc, vwAll_length hcapsd]
              · obtain ⟨p, hp, hv⟩ := vwAll_get hcapsd i q hq
                exact hview3 q p u hv (hcap i u p hu hp)
              · cases rv with
                | none => cases rc with
                  | none => trivial
                  | some p => exact hrv.elim
                | some v => cases rc with
                  | none => exact hrv.elim
                  | some p =>
                    obtain ⟨hp1, hp2, hr⟩ := hrv
                    have := Rep.ren (π := fun i => i) (R' := freedAt R2 Γ2 fun _ => false) (w' := w2) (Γ' := Γout Γ2 Hd ιd) hr (.inl hp2) (fun j hj => by rw [plain_names hp1] at hj; cases hj)
                    rwa [ren_plain hp1] at this
              · rintro e u' w3 ⟨⟨v, rfl⟩, rfl, R3, Γ3, H3, ⟨hl3, xr, r, H2, news2, hpr, hlv, hQ⟩, hs4, hobj⟩
                have hset : settle (modeRec rv) = .returning := by cases rv <;> rfl
                show LeavesC P fn a2.tmps _ [] (settle (modeRec rv)) w3
                rw [hset]
                obtain ⟨hm1, _⟩ := hs3.merge (news := []) houtd hs4 (by simpa using hιd) (by simpa using hl3) (fun s hs => by cases hs) (.inl fun _ => rfl) hobj
                have eback : placeAll ((ιd ++ []).getD · 0) (ιd ++ []) H3 g = back g ιd H3 := by simp only [List.append_nil]; rfl
                rw [eback] at hm1
                obtain ⟨v, hv, hrv⟩ := presults_sound (P := P) hm1 fn hpr
                refine ⟨v, hv, ?_⟩
                obtain ⟨hn2, hout2, hv2⟩ := hlv
                obtain ⟨h1, h2⟩ := hm1.leave hout2 hn2 (fun s hs => by have := List.contains_iff_mem.2 hs; show (!_) = false; rw [this]; rfl)
                subst hB1
                refine ⟨_, _, .inl ⟨v, r, H2, rfl, hQ, h2 r xr v hv2 hrv, h1.rebase fun j l hjl => ?_, fun q hq => ?_⟩⟩
                · obtain ⟨⟨p, hp, _⟩, _⟩ := h0.own j l hjl
                  have hj := lt_of_get? hp
                  have hb : (base0 Prot w R Γ M).Γ0 (M + j) = some l := by
                    simp only [base0]
                    rw [if_pos (by omega), Nat.add_sub_cancel_left]; exact hjl
                  obtain ⟨l1, e1, e2⟩ := hs1.base (M + j) l (Nat.le_add_right _ _) hb
                  have hκ1 : κ[j]? = some (M + j) := by
                    rw [← hκe, List.getElem?_append_left (by simpa using hj)]; exact range_get M hj
                  obtain ⟨l2, e3, e4⟩ := Γout_le hs1 hout hκ1 e1
                  obtain ⟨l3, e5, e6⟩ := hm1.base (M' + j) l2 (Nat.le_add_right _ _) (hΓ1 j l2 e3)
                  have hκ2 : ((List.range H.length).map (M' + ·) ++ news2)[j]? = some (M' + j) := by
                    rw [List.getElem?_append_left (by simpa using hj)]; exact range_get M' hj
                  obtain ⟨l4, e7, e8⟩ := Γout_le hm1 hout2 hκ2 e5
                  exact ⟨l4, e7, Loc.le_trans e2 (Loc.le_trans e4 (Loc.le_trans e6 e8))⟩
                · obtain ⟨i, hi⟩ := List.mem_iff_getElem?.1 hq
                  obtain ⟨s, p, _, _, hbare, _⟩ := outF_get hout2 i q hi
                  cases q <;> first | rfl | cases hbare
          cases e with
          | ret => cases x2 with
            | ret => exact fin none none trivial hq
            | _ => exact hu.elim
          | normal => cases x2 with
            | normal => exact fin none none trivial hq
            | _ => exact hu.elim
          | panic ch => cases x2 with
            | panic p =>
              obtain ⟨v, rfl, hrv⟩ := hu
              obtain ⟨hp1, hp2, hq⟩ := hq
              exact fin (some v) (some p) ⟨hp1, hp2, hrv⟩ hq
            | _ => exact hu.elim
          | exit id => cases x2 with
            | exit id' => exact hq.elim
            | _ => exact hu.elim
          | goto id => cases x2 with
            | goto id' => exact hq.elim
            | _ => exact hu.elim
          | outgrown => cases x2 <;> exact hu.elim
      | _ => exact hu0.elim
    | _ => exact hq0.elim
end
section
variable {P : Program} {N M l : Nat} {els : List PV} {Rb : Nat → Prop} {J : GS → (Nat → Prop) → World → Prop} {Q : GS → PX → PF → Prop} {s : GS} {fr : PF}
theorem XW_yieldS (henv : Env P l els Rb J) {id : Nat} {ops : Array Oper} (hd : dstsIn N (.region id ops false) = true) {m : Nat} (hm : m < ops.toList.length) (hp : pops P M ops.toList (pyield P M ops.toList m l els Q s) (fun p => Q s (.panic p)) (ops.toList.take m) fr) :
    XW P N (GCtx M Rb J) s (.region id ops false) Q fr := fun B a w hC hs => by
  have hN := dsts_mem hd
  have hnd : ∀ {s' : GS} {B' : Base}, GCtx M Rb J s' B' → PanUp N B' (UpX N (GCtx M Rb J) Q) (fun p => Q s' (.panic p)) := fun {s' B'} hC' R Γ a w fr v p hs hr hk => ⟨s', B', hC', pan_up R Γ a w fr v p hs hr hk⟩
  have hnq : ∀ {s' : GS} {B' : Base}, GCtx M Rb J s' B' → ∀ a w fr, SimE N B' a w fr → Q s' .normal fr → UpX N (GCtx M Rb J) Q .normal a w := fun {s' B'} hC' a w fr ⟨R, Γ, hs⟩ hk => ⟨s', B', hC', R, Γ, fr, .normal, hs, trivial, hk⟩
  refine wr_region ?_
  obtain ⟨r, hr⟩ : ∃ r, ops.toList.length = m + (r + 1) := ⟨ops.toList.length - m - 1, by omega⟩
  have hsz : ops.size = m + (r + 1) := by simpa using hr
  rw [List.range_eq_range', hsz]
  refine pre_sound (K := pyield P M ops.toList m l els Q s) (Kp := fun p => Q s (.panic p)) ops rfl hN hC.1 (hnd hC) upX_out (r := r + 1) m 0 (by omega) (fun a w fr hs hy => ?_) a w fr hs (by simpa using hp)
  rw [Nat.zero_add, List.range'_succ]
  unfold pyield at hy
  split at hy
  case h_2 => exact hy.elim
  rename_i o ho
  have hops : ops[m]? = some o := by rw [← ho]; simp
  have hoN := hN o (List.mem_of_getElem? ho)
  refine (?_ : OpR P none ops (UpX N (GCtx M Rb J) Q) m (fun a' w' => ∃ (s' : GS) (B' : Base) (fr' : PF), GCtx M Rb J s' B' ∧ SimE N B' a' w' fr' ∧ pops P M ops.toList (Q s' .normal) (fun p => Q s' (.panic p)) (ops.toList.drop (m + 1)) fr') a w) (List.range' (m + 1) r) fun a' w' ⟨s', B', fr', hC', hs', hp'⟩ =>
    pops_sound ops rfl hN hC'.1 (hnd hC') upX_out (hnq hC') r (m + 1) (by omega) a' w' fr' hs' hp'
  split at hy
  · rename_i hw
    have hwd := wanted_sound hs rfl hN hw
    split at hy
    case h_2 => exact hy.elim
    rename_i c hc
    obtain ⟨hop, _⟩ := isCall_some hc
    split at hy
    case h_2 => exact hy.elim
    rename_i x y hya
    obtain ⟨hcal, hargs⟩ := yargs_some hya
    obtain ⟨hx, n, rfl, hel, hcl, hyt, hyf, hyp⟩ := hy
    obtain ⟨hlo, hD, F, hJ, hF, hRb, hR0⟩ := hC
    obtain ⟨R, Γ, hs⟩ := hs
    have hxv := hs.rd x
    rw [hx] at hxv
    have hyv := hs.rd y
    have hux : a.eval x = .func (.yield l) #[] #[] := by
      generalize a.eval x = u at hxv
      cases hxv with
      | clo _ uf uc _ _ h1 h2 _ _ =>
        obtain rfl : uf = [] := by simpa using h1
        obtain rfl : uc = [] := by simpa using h2
        rfl
    have hJw : J (.on n) F w := henv.stab _ F B.w0 w hJ (fun b hb => hs.kept.block b (hF b hb)) hs.kept.size hs.kept.os hs.kept.tape hs.kept.output
    obtain ⟨f, tmps, assign, body, hrun, hround⟩ := henv.yield n F w (a.eval y) _ R Γ hJw hel hyv
    have hex : (execOp a.eval o).run P w = .ok (.round l f tmps assign body) w := by
      have e1 : c.args = #[y] := by rw [← Array.toArray_toList (xs := c.args), hargs]
      obtain ⟨callee, args, ats⟩ := c
      dsimp only at hcal e1
      subst hcal e1
      simp only [execOp, hop, resolve, Deferred.ofValue, hux, Sem.run_bind, Sem.run_pure, Result.andThen_ok, invoke, List.map_toArray, List.map_cons, List.map_nil]
      simpa using hrun
    refine OpR_yield hops hwd (fun c' hc' => by rw [hop] at hc'; cases hc') hex ?_
    intro cf cs
    obtain ⟨e, w', ⟨F', hcase, hF', hk⟩, hsteps⟩ := hround cf cs
    have hs' := hs.turn henv.tab hD hF hR0 hk
    have hnF : ∀ x, x < w.heap.size → ¬ F x → ¬ F' x := fun x hx hn hf => by
      rcases hF' x hf with h | h
      · exact hn h
      · omega
    have mkC : ∀ s', J s' F' w' → GCtx M Rb J s' ⟨fun b => b < w'.heap.size ∧ ∀ i l, Γ i = some l → l.blk ≠ some b, w', R, fun i => if B.lo ≤ i then Γ i else none, B.lo, []⟩ := fun s' hJ' => by
      refine ⟨hlo, rfl, F', hJ', fun x hx => ⟨henv.bnd _ _ _ _ hJ' hx, fun i l hl hb => ?_⟩, fun x hx => ⟨?_, fun i l hl hb => ?_⟩, fun x o hx => ?_⟩
      · obtain ⟨h1, h2, _⟩ := (hs.own i l hl).2 x hb
        exact hnF x h2 (fun hf => h1 (hF x hf)) hx
      · have := hs.prot x (hRb x hx)
        have := hs.kept.size
        have := hk.size
        omega
      · exact ((hs.own i l hl).2 x hb).1 (hRb x hx)
      · rcases hs.sub x o hx with h0 | h0
        · rcases hR0 x o h0 with h1 | h1
          · exact .inl h1
          · exact .inr (hnF x (hs.bnd x o hx) h1)
        · exact .inr (hnF x (hs.bnd x o hx) fun hf => h0 (hF x hf))
    cases e with
    | outgrown => exact hcase.elim
    | panicked ch =>
      obtain ⟨pv, p, rfl, hrep, hJ'⟩ := hcase
      exact ⟨.panicked _, w', ⟨.pan p, _, mkC _ hJ', R, Γ, fr, .panic p, hs', ⟨pv, rfl, hrep _ _ _⟩, hyp p⟩, hsteps⟩
    | returned ret =>
    obtain ⟨b, rfl, hJ'⟩ := hcase
    have hC' := mkC _ hJ'
    refine ⟨.returned (.bool b), w', ?_, hsteps⟩
    have hput := fun (bb : Bool) (hc : pclear o.dst (.v (.bool bb)) fr = true) => (hs'.put o.dst hoN hc (u := .bool bb) (.v (.bool bb) rfl)).toE
    cases b with
    | true => exact ⟨_, _, _, hC', hput true hcl, hyt⟩
    | false =>
      refine ⟨_, _, _, hC', hput false ?_, hyf⟩
      revert hcl
      unfold pclear
      cases o.dst with
      | none => intro _; rfl
      | some d =>
        dsimp only
        cases fr[d]? with
        | none => intro _; rfl
        | some q =>
          dsimp only
          split
          · intro hcl
            refine List.all_eq_true.2 fun z hz => ?_
            obtain ⟨t, ht⟩ := List.mem_iff_getElem?.1 hz
            rcases getElem?_set' ht with ⟨rfl, rfl, hl'⟩ | ⟨hne, ht'⟩
            · simp [PV.names]
            · exact List.all_eq_true.1 hcl z (List.mem_of_getElem? (i := t) (by rw [List.getElem?_set_ne (Ne.symm hne)]; exact ht'))
          · intro _; rfl
  · rename_i hw
    exact OpR_skip hops (wanted_sound hs rfl hN hw) ⟨_, _, _, hC, hs.skip hoN hy.1, hy.2⟩
  · exact hy.elim
end
theorem dmidE_of {P : Program} {N M k : Nat} {rs : List ResultVar} {c : Code} {x : Operand} {Q : Out → Prop} {fr : PF} {gf : FuncId} {ps : List PV} (caps : List PV) (M' : Nat) (news : List Nat) (H A : PF) (hx : rd fr x = .clo (.func gf) [] ps) (hM : N ≤ M') (hn : ((List.range k).map (M + ·) ++ news).Nodup) (hA : A.length = N)
    (ho : outF fr (tgtAt H ((List.range k).map (M + ·) ++ news) fun _ => false) 8 H ((List.range k).map (M + ·) ++ news))
    (hv : vwAll (vw fr (tgtAt H ((List.range k).map (M + ·) ++ news) fun _ => false) 8) A (slots 0 N fr))
    (hc : vwAll (vw fr (tgtAt H ((List.range k).map (M + ·) ++ news) fun _ => false) 8) caps ps) (hf : ∀ p ∈ caps, p.flat = true)
    (h : ∀ B0 : Base, B0.lo = M' → XW P N (ECtx B0) () c (fun _ => dpost P M' k rs gf caps Q) (frame0 M' A H)) : dmidE P N M k rs c x Q fr := ⟨gf, ps, caps, M', news, H, A, hx, hM, hn, hA, ho, slots_vw hv, hc, hf, h⟩
theorem pwp_loop1 {P : Program} {M : Nat} {c : Code} {Q : PX → PF → Prop} {fr : PF} (h : pwp P M c (thenP (pwp P M (.loop c) Q) Q) fr) : pwp P M (.loop c) Q fr := fun X hX hW => hX _ (pwp_mono c (thenP_mono (fun _ hg => hg X hX hW) fun _ _ h => h) h)
theorem pwp_loop_less {P : Program} {M : Nat} {c : Code} {Q : PX → PF → Prop} {fr : PF} (g : PF) (hl : less M fr g) (h : pwp P M (.loop c) Q g) : pwp P M (.loop c) Q fr := fun X hX hW => hW _ _ (weak_of_less hl) (h X hX hW)
theorem pwp_loop_lessV {P : Program} {M : Nat} {c : Code} {Q : PX → PF → Prop} {fr : PF} (V : List (Nat × PV)) (hl : less M fr (apply V fr)) (h : pwp P M (.loop c) Q (apply V fr)) : pwp P M (.loop c) Q fr := pwp_loop_less _ hl h
end Go.Qg

namespace Go.Qg
open Go.Proofs
set_option maxRecDepth 100000
set_option maxHeartbeats 8000000
set_option linter.unusedSimpArgs false
attribute [local irreducible] pwp pops pdraw pop popCall pdCall thenP blockP scopeP pspec Spec answers ppost CallW rend
def CnrsOk (P : Pln) : Prop := ∀ i, i < P.corners.length → (0 ≤ (cnrAt P.corners i).weight ∧ (cnrAt P.corners i).weight ≤ 20000) ∧ -20000000 ≤ (cnrAt P.corners i).moment ∧ (cnrAt P.corners i).moment ≤ 20000000
theorem edg_small {P : Pln} (h : CnrsOk P) {e : Nat} (he : e < P.corners.length) : Small 20000 (P.cA e).weight ∧ Small 20000000 (P.cA e).moment ∧ Small 20000 (P.dw e) ∧ Small 40000000 (P.dm e) := by
  have h1 := h e he
  have h2 := h ((e + 1) % P.corners.length) (Nat.mod_lt _ (by omega))
  simp only [Small, Pln.cA, Pln.cB, Pln.dw, Pln.dm]
  omega
def edgs (P : Pln) : List PV := (List.range P.corners.length).map fun e => .agg (edgC P e)
theorem edg_get {P : Pln} {n : Nat} {p : PV} (h : (edgs P)[n]? = some p) : n < P.corners.length ∧ p = .agg (edgC P n) := by
  have hl : n < P.corners.length := by
    have := (List.getElem?_eq_some_iff.1 h).1
    simpa [edgs] using this
  refine ⟨hl, ?_⟩
  simp [edgs, hl] at h
  exact h.symm
theorem edgs_length (P : Pln) : (edgs P).length = P.corners.length := by simp [edgs]
theorem edgs_plain {P : Pln} : ∀ p ∈ edgs P, p.plain = true ∧ p.flat = true := fun p hp => by
  obtain ⟨e, _, rfl⟩ := List.mem_map.1 hp
  exact ⟨rfl, rfl⟩
theorem edges_spec (P : Pln) : Spec Tryd.prog 64 [.agg P.cells] (.clo (.func 86) [] [.rp P.cells 0]) := by
  refine spec_of mixed Tryd.func64 (by decide) rfl Tryd.results64 Tryd.ntmps64 (by decide) 0 (by simp) ?_
  simp [Pln.cells, cnrL, stnL]
  refine answers_of rfl ?_; simp [Pln.cells, cnrL, stnL]
theorem edges_gen (P : Pln) (hc : CnrsOk P) (hn : P.corners.length ≤ 1000000) : GenW Tryd.prog 86 [.rp P.cells 0] (edgs P) := by
  refine gen_of Tryd.func86 (by decide) rfl Tryd.results86 Tryd.ntmps86 0 (by simp) fun l Rb J henv => ?_
  have hlo : ∀ s B, GCtx 47 Rb J s B → B.lo = 47 := fun _ _ h => h.1
  refine XW_seqP mixed hlo (by decide) ?_
  simp [Pln.cells, cnrL, stnL]
  refine XW_block ?_
  refine XW_loopV hlo (fun k : Nat => [(10, .v (.int .i64 k))]) (fun k => GS.on k) (fun k => k ≤ P.corners.length) (fun k => P.corners.length - k) 0 (Nat.zero_le _) rfl (by simp; rfl) (by simp) ?_
  intro k hk
  refine XW_seqP mixed hlo (by decide) ?_
  by_cases hlt : k < P.corners.length
  · have wk := i64_wrap (show -9223372036854775808 ≤ (k : Int) + 1 ∧ _ from by omega)
    have hne : ¬ P.corners = [] := fun e => by rw [e] at hlt; cases hlt
    obtain ⟨j, hj⟩ : ∃ j : Nat, j = (k + 1) % P.corners.length := ⟨_, rfl⟩
    have hjl : j < P.corners.length := hj ▸ Nat.mod_lt _ (by omega)
    have hji : ((k : Int) + 1).tmod (P.corners.length : Int) = (j : Int) := by rw [hj]; rfl
    have hsm := edg_small hc hlt
    obtain ⟨s1, s2, s3, s4⟩ := hsm
    simp only [Small, Pln.dw, Pln.dm, Pln.cA, Pln.cB, ← hj] at s1 s2 s3 s4
    simp [hlt]
    refine XW_seqP mixed hlo (by decide) ?_
    simp
    refine XW_seqX (XW_block ?_)
    refine XW_seqP mixed hlo (by decide) ?_
    simp [hlt, Cnr.cells]
    refine XW_seqP mixed hlo (by decide) ?_
    refine pwp_draw 13 (by decide) ?_
    simp [hlt, Cnr.cells, wk, hne, hji, hjl]
    refine ⟨by decide, ?_⟩
    refine XW_seqX (XW_yieldS (m := 17) henv (by decide) (by decide) ?_)
    have g1 : IntKind.i64.wrap ((cnrAt P.corners j).weight - (cnrAt P.corners k).weight) = P.dw k := by rw [Pln.dw, Pln.cA, Pln.cB, ← hj]; exact i64_wrap (by omega)
    have g2 : IntKind.i64.wrap ((cnrAt P.corners j).moment - (cnrAt P.corners k).moment) = P.dm k := by rw [Pln.dm, Pln.cA, Pln.cB, ← hj]; exact i64_wrap (by omega)
    have hel : (edgs P)[k]? = some (.agg [.v (.int .i64 k), .v (.int .i64 (cnrAt P.corners k).weight), .v (.int .i64 (cnrAt P.corners k).moment), .v (.int .i64 (P.dw k)), .v (.int .i64 (P.dm k))]) := by
      simp [edgs, hlt, edgC, Pln.cA]
    simp
    simp [pyield, yargs, g1, g2, hel]
    refine ⟨?_, ?_⟩
    · refine XW_pwp mixed hlo (by decide) ?_
      simp
      refine XW_pwp mixed hlo (by decide) ?_
      simp [wk]
      refine againX_of (k + 1) (by omega) (by omega) rfl ?_
      simp
    · refine XW_pwp mixed hlo (by decide) ?_
      simp
  · obtain rfl : k = P.corners.length := by omega
    simp
    refine XW_pwp mixed hlo (by decide) ?_
    simp [edgs_length]
def insTo (P : Pln) (w m : Int) (n : Nat) : Bool := allN n fun e => decide (0 ≤ P.side e w m)
theorem insTo_succ (P : Pln) (w m : Int) (n : Nat) : insTo P w m (n + 1) = (insTo P w m n && decide (0 ≤ P.side n w m)) := by simp [insTo, allN, List.range_succ]
theorem insTo_all (P : Pln) (w m : Int) : insTo P w m P.corners.length = P.insideB w m := rfl
theorem insTo_no {P : Pln} {w m : Int} {n : Nat} (h : insTo P w m n = false) {k : Nat} (hk : n ≤ k) : insTo P w m k = false := by
  induction k with
  | zero => obtain rfl : n = 0 := by omega
            exact h
  | succ k ih =>
    rcases Nat.lt_or_eq_of_le hk with h1 | rfl
    · rw [insTo_succ, ih (by omega)]; rfl
    · exact h
def insV (w m : Int) : PF := [.undef, .undef, .undef, .undef, .rp [.v (.int .i64 w)] 0, .rp [.v (.int .i64 m)] 0, .box true [.v (.bool false)], .undef, .undef, .undef, .undef, .undef, .undef, .undef, .undef, .undef]
def insA (w m : Int) : PF := [.undef, .undef, .undef, .undef, .rp [.v (.int .i64 w)] 0, .rp [.v (.int .i64 m)] 0, .ref 0 0, .undef, .undef, .undef, .undef, .undef, .undef, .undef, .undef, .undef]
theorem inside_spec (P : Pln) (w m : Int) (hc : CnrsOk P) (hn : P.corners.length ≤ 1000000) (hw : Small 4000000 w) (hm : Small 4000000000 m) : Spec Tryd.prog 41 [.agg P.cells, .v (.int .i64 w), .v (.int .i64 m)] (.v (.bool (P.insideB w m))) := by
  have hgen := edges_gen P hc hn
  unfold Spec
  refine callW_ofE Tryd.func41 (by decide) rfl (congrArg Array.toList Tryd.results41) Tryd.ntmps41 16 (by simp) (by decide) fun B0 hB0 hD0 => ?_
  have hlo : ∀ s B, ECtx B0 s B → B.lo = 16 := fun _ _ h => h.1.trans hB0
  refine XW_seqP mixed hlo (by decide) ?_
  simp [Pln.cells, cnrL, stnL]
  refine XW_seqX (XW_seqP mixed hlo (by decide) ?_)
  simp
  refine pop_spec (edges_spec P) rfl false (.inl (by simp [Pln.cells, cnrL, stnL])) (.inl rfl) rfl (by simp) ?_
  simp
  refine XW_block ?_
  refine XW_rangeI (by decide) mixed rfl (by rfl) hgen edgs_plain (by decide) (by decide) 16 (by decide) [6] (by decide)
    (fun n => if insTo P w m n = true then insV w m else [])
    (fun n => insA w m)
    (fun n => [.box false [.v (.bool false)]]) ?_ (fun n hn hV => ?_) (fun n q hq hV => ?_) ?_
  · rw [hB0]
    simp [insTo, allN, insV, Pln.cells, cnrL, stnL]
  · cases hs : insTo P w m n with
    | false => simp [hs] at hV
    | true =>
      refine ⟨rfl, ?_, slots_view (t := 10) ?_ rfl⟩
      · simp [insV]
      · simp [slots, insV, insA]
  · obtain ⟨hn, rfl⟩ := edg_get hq
    obtain ⟨s1, s2, s3, s4⟩ := edg_small hc hn
    rw [hB0]
    cases hs : insTo P w m n with
    | false => simp [hs] at hV
    | true =>
      have hside := side_spec (n : Int) (P.cA n).weight (P.cA n).moment (P.dw n) (P.dm n) w m s1 s2 s3 s4 hw hm
      rw [show P.dw n * (m - (P.cA n).moment) - P.dm n * (w - (P.cA n).weight) = P.side n w m from rfl] at hside
      have hsucc := insTo_succ P w m n
      simp [insA, edgC]
      refine pop_spec hside rfl false (.inl (by simp)) (.inl rfl) rfl (by simp) ?_
      by_cases hlt : P.side n w m < 0
      · have hno : insTo P w m (n + 1) = false := by rw [hsucc]; simp; intro _; omega
        have hall : P.insideB w m = false := insTo_no hno (show n + 1 ≤ P.corners.length by omega)
        simp [hlt, hno]
        refine rend_r [.box false [.v (.bool false)]] ?_ ?_
        · simp
        · simp [back, placeAll, insV, blockX, thenX]
          refine ends_of (.v (.bool false)) [] [] rfl (by decide) ?_ ?_ (by simp [hall])
          · simp
          · simp
      · have hyes : insTo P w m (n + 1) = true := by rw [hsucc, hs]; simp; omega
        simp [hlt, hyes]
        refine rend_n [.box false [.v (.bool false)]] ?_ ?_
        · simp
        · simp [back, placeAll, insV]
  · intro hV
    rw [edgs_length] at hV ⊢
    cases hs : insTo P w m P.corners.length with
    | false => simp [hs] at hV
    | true =>
      simp [blockX, thenX, insV]
      refine XW_pwp mixed hlo (by decide) ?_
      simp
      refine ends_of (.v (.bool true)) [] [] rfl (by decide) ?_ ?_ (by rw [← insTo_all, hs])
      · simp
      · simp
end Go.Qg

namespace Go.Qg
open Go.Proofs
set_option maxRecDepth 100000
set_option maxHeartbeats 16000000
set_option linter.unusedSimpArgs false
attribute [local irreducible] pwp pops pdraw pop popCall pdCall thenP blockP scopeP pspec Spec answers ppost CallW rend
theorem allN_succ (n : Nat) (p : Nat → Bool) : allN (n + 1) p = (allN n p && p n) := by simp [allN, List.range_succ]
theorem allN_no {n : Nat} {p : Nat → Bool} (h : allN n p = false) {k : Nat} (hk : n ≤ k) : allN k p = false := by
  induction k with
  | zero => obtain rfl : n = 0 := by omega
            exact h
  | succ k ih =>
    rcases Nat.lt_or_eq_of_le hk with h1 | rfl
    · rw [allN_succ, ih (by omega)]; rfl
    · exact h
def cvxB (P : Pln) (e k : Nat) : Bool := decide (k = e) || decide (k = (e + 1) % P.corners.length) || decide (0 < P.side e (cnrAt P.corners k).weight (cnrAt P.corners k).moment)
def cvxR (P : Pln) (e : Nat) : Bool := allN P.corners.length (cvxB P e)
def convexB (P : Pln) : Bool := allN P.corners.length (cvxR P)
def cvxV (P : Pln) : PF := [.undef, .rp P.cells 0, .box true [.v (.bool false)], .undef, .undef, .undef, .undef, .undef, .undef, .undef, .undef, .undef, .undef, .undef, .undef, .undef, .undef, .undef, .undef, .undef, .undef, .undef, .undef, .undef, .undef, .undef, .undef, .undef, .undef, .undef, .undef, .undef, .undef, .undef, .undef, .undef, .undef, .undef, .undef, .undef, .undef, .undef, .undef, .undef]
def cvxA (P : Pln) : PF := [.undef, .rp P.cells 0, .ref 0 0, .undef, .undef, .undef, .undef, .undef, .undef, .undef, .undef, .undef, .undef, .undef, .undef, .undef, .undef, .undef, .undef, .undef, .undef, .undef, .undef, .undef, .undef, .undef, .undef, .undef, .undef, .undef, .undef, .undef, .undef, .undef, .undef, .undef, .undef, .undef, .undef, .undef, .undef, .undef, .undef, .undef]
theorem convex_spec (P : Pln) (hc : CnrsOk P) (hn : P.corners.length ≤ 1000000) : Spec Tryd.prog 63 [.agg P.cells] (.v (.bool (convexB P))) := by
  have hgen := edges_gen P hc hn
  unfold Spec
  refine callW_ofE Tryd.func63 (by decide) rfl (congrArg Array.toList Tryd.results63) Tryd.ntmps63 44 (by simp) (by decide) fun B0 hB0 hD0 => ?_
  have hlo : ∀ s B, ECtx B0 s B → B.lo = 44 := fun _ _ h => h.1.trans hB0
  refine XW_seqP mixed hlo (by decide) ?_
  simp [Pln.cells, cnrL, stnL]
  refine XW_seqX (XW_seqP mixed hlo (by decide) ?_)
  simp
  refine pop_spec (edges_spec P) rfl false (.inl (by simp [Pln.cells, cnrL, stnL])) (.inl rfl) rfl (by simp) ?_
  simp
  refine XW_block ?_
  refine XW_rangeI (by decide) mixed rfl (by rfl) hgen edgs_plain (by decide) (by decide) 44 (by decide) [2] (by decide)
    (fun n => if allN n (cvxR P) = true then cvxV P else [])
    (fun n => cvxA P)
    (fun n => [.box false [.v (.bool false)]]) ?_ (fun n hn hV => ?_) (fun n q hq hV => ?_) ?_
  · rw [hB0]
    simp [allN, cvxV, Pln.cells, cnrL, stnL]
  · cases hs : allN n (cvxR P) with
    | false => simp [hs] at hV
    | true =>
      refine ⟨rfl, ?_, slots_view (t := 8) ?_ rfl⟩
      · simp [cvxV, Pln.cells, cnrL, stnL]
      · simp [slots, cvxV, cvxA, Pln.cells, cnrL, stnL]
  · obtain ⟨hnl, rfl⟩ := edg_get hq
    obtain ⟨s1, s2, s3, s4⟩ := edg_small hc hnl
    rw [hB0]
    cases hs : allN n (cvxR P) with
    | false => simp [hs] at hV
    | true =>
      have hsucc := allN_succ n (cvxR P)
      have hne : ¬ P.corners = [] := fun e => by rw [e] at hnl; cases hnl
      obtain ⟨j, hj⟩ : ∃ j : Nat, j = (n + 1) % P.corners.length := ⟨_, rfl⟩
      have hji : ((n : Int) + 1).tmod (P.corners.length : Int) = (j : Int) := by rw [hj]; rfl
      have wn := i64_wrap (show -9223372036854775808 ≤ (n : Int) + 1 ∧ _ from by omega)
      simp [cvxA, edgC, Pln.cells, cnrL, stnL]
      refine pwp_loop (fun k : Nat => [(13, .v (.int .i64 k))]) (fun k => k ≤ P.corners.length ∧ ∀ i, i < k → cvxB P n i = true) (fun k => P.corners.length - k) 0 ⟨Nat.zero_le _, fun i hi => by omega⟩ (by simp; rfl) (by simp) ?_
      intro k ⟨hk, hp⟩
      by_cases hkl : k < P.corners.length
      · have wk := i64_wrap (show -9223372036854775808 ≤ (k : Int) + 1 ∧ _ from by omega)
        have go : cvxB P n k = true → ∀ i, i < k + 1 → cvxB P n i = true := fun hb i hi => by
          rcases Nat.lt_or_eq_of_le (Nat.le_of_lt_succ hi) with h' | rfl
          · exact hp i h'
          · exact hb
        by_cases c1 : k = n
        · subst c1
          simp [hkl, Cnr.cells]
          refine again_of (k + 1) ⟨by omega, go (by simp [cvxB])⟩ (by omega) ?_
          simp [wk]
        by_cases c2 : k = j
        · subst c2
          simp (config := { maxSteps := 4000000 }) [hkl, Cnr.cells, c1, show ¬ (k : Int) = n from by omega, wn, hne, hji]
          refine again_of (k + 1) ⟨by omega, go (by simp [cvxB, ← hj])⟩ (by omega) ?_
          simp [wk]
        have hck := hc k hkl
        have hside := side_spec (n : Int) (P.cA n).weight (P.cA n).moment (P.dw n) (P.dm n) (cnrAt P.corners k).weight (cnrAt P.corners k).moment s1 s2 s3 s4 (by simp only [Small]; omega) (by simp only [Small]; omega)
        rw [show P.dw n * ((cnrAt P.corners k).moment - (P.cA n).moment) - P.dm n * ((cnrAt P.corners k).weight - (P.cA n).weight) = P.side n (cnrAt P.corners k).weight (cnrAt P.corners k).moment from rfl] at hside
        have d1 : ¬ (k : Int) = n := by omega
        have d2 : ¬ (k : Int) = j := by omega
        simp (config := { maxSteps := 4000000 }) [hkl, Cnr.cells, c1, d1, wn, hne, hji, c2, d2]
        refine pop_spec hside rfl false (.inl (by simp)) (.inl rfl) rfl (by simp) ?_
        by_cases c3 : P.side n (cnrAt P.corners k).weight (cnrAt P.corners k).moment ≤ 0
        · have hb : cvxB P n k = false := by simp [cvxB, c1, ← hj, c2, c3]
          have hno : allN (n + 1) (cvxR P) = false := by rw [hsucc, show cvxR P n = false from allN_false hkl hb]; simp
          have hall : convexB P = false := allN_no hno (show n + 1 ≤ P.corners.length by omega)
          simp [c3, hno, d1, d2]
          refine rend_r [.box false [.v (.bool false)]] ?_ ?_
          · simp
          · simp [back, placeAll, cvxV, blockX, thenX]
            refine ends_of (.v (.bool false)) [] [] rfl (by decide) ?_ ?_ (by simp [hall])
            · simp
            · simp
        · simp [c3, d1, d2]
          refine again_of (k + 1) ⟨by omega, go (by simp [cvxB, Int.not_le.1 c3])⟩ (by omega) ?_
          simp [wk]
      · obtain rfl : k = P.corners.length := by omega
        have hyes : allN (n + 1) (cvxR P) = true := by rw [hsucc, hs, show cvxR P n = true from allN_spec.2 hp]; rfl
        simp [hyes]
        refine rend_n [.box false [.v (.bool false)]] ?_ ?_
        · simp
        · simp [back, placeAll, cvxV, Pln.cells, cnrL, stnL]
  · intro hV
    rw [edgs_length] at hV ⊢
    cases hs : allN P.corners.length (cvxR P) with
    | false => simp [hs] at hV
    | true =>
      simp [blockX, thenX, cvxV]
      refine XW_pwp mixed hlo (by decide) ?_
      simp
      refine ends_of (.v (.bool true)) [] [] rfl (by decide) ?_ ?_ (by rw [convexB, hs])
      · simp
      · simp
def cornersB (P : Pln) : Bool := allN P.corners.length fun k => cnrB (cnrAt P.corners k)
def stnsB (l : List Stn) : Bool := allN l.length fun k => stnB (stnAt l k)
def validB (P : Pln) : Bool :=
  inB P.empty 1 20000 && inB P.moment (-20000000) 20000000 && kilosB [P.takeoff, P.landing, P.reserve] && inB P.corners.length 3 12 && decide (P.stations.length ≤ 8) && decide (P.floats.length ≤ 2) && cornersB P && stnsB P.stations && stnB P.tank && stnsB P.floats && convexB P
theorem corners_ok {P : Pln} (h : cornersB P = true) : CnrsOk P := fun i hi => by
  have := allN_spec.1 h i hi
  simpa [cnrB, inB_spec] using this
theorem convex_ok {P : Pln} : convexB P = true ↔ ∀ e, e < P.corners.length → ∀ k, k < P.corners.length → k ≠ e → k ≠ (e + 1) % P.corners.length → 0 < P.side e (cnrAt P.corners k).weight (cnrAt P.corners k).moment := by
  simp only [convexB, cvxR, allN_spec, cvxB, Bool.or_eq_true, decide_eq_true_eq]
  constructor
  · intro h e he k hk h1 h2
    rcases h e he k hk with (h3 | h3) | h3
    · exact (h1 h3).elim
    · exact (h2 h3).elim
    · exact h3
  · intro h e he k hk
    by_cases h1 : k = e
    · exact .inl (.inl h1)
    · by_cases h2 : k = (e + 1) % P.corners.length
      · exact .inl (.inr h2)
      · exact .inr (h e he k hk h1 h2)
theorem valid_ok {P : Pln} : validB P = true ↔ PlnOk P := by
  simp only [validB, Bool.and_eq_true, decide_eq_true_eq, kilosB_three, inB_spec]
  constructor
  · rintro ⟨⟨⟨⟨⟨⟨⟨⟨⟨⟨h1, h2⟩, ⟨h3, h4⟩, h5⟩, h6⟩, h7⟩, h8⟩, h9⟩, h10⟩, h11⟩, h12⟩, h13⟩
    exact ⟨h1, h2, h3, h4, h5, by omega, h7, h8, stnB_spec.1 h11, fun i hi => stnB_spec.1 (allN_spec.1 h10 i hi), fun i hi => stnB_spec.1 (allN_spec.1 h12 i hi), corners_ok h9, convex_ok.1 h13⟩
  · intro h
    exact ⟨⟨⟨⟨⟨⟨⟨⟨⟨⟨h.empty, h.moment⟩, ⟨h.takeoff, h.landing⟩, h.reserve⟩, by have := h.n; omega⟩, h.ns⟩, h.nf⟩, allN_spec.2 fun i hi => by have := h.corner i hi; simpa [cnrB, inB_spec] using this⟩, allN_spec.2 fun i hi => stnB_spec.2 (h.station i hi)⟩, stnB_spec.2 h.tank⟩, allN_spec.2 fun i hi => stnB_spec.2 (h.float i hi)⟩, convex_ok.2 h.convex⟩
structure PlnLen (P : Pln) : Prop where
  c : P.corners.length ≤ 9223372036854775807
  s : P.stations.length ≤ 9223372036854775807
  f : P.floats.length ≤ 9223372036854775807
theorem valid_spec (P : Pln) (hl : PlnLen P) : Spec Tryd.prog 39 [.agg P.cells] (.v (.bool (validB P))) := by
  have l1 := hl.c
  have l2 := hl.s
  have l3 := hl.f
  refine spec_of mixed Tryd.func39 (by decide) rfl Tryd.results39 Tryd.ntmps39 (by decide) 0 (by simp) ?_
  simp [Pln.cells, cnrL, stnL]
  refine pop_spec (allCnr_spec P.corners l1 59 [] [] rfl rfl (fun k => cnrB (cnrAt P.corners k)) fun k hk => valid1_spec (cnrAt P.corners k)) rfl false (.inl (by simp [cnrL])) (.inl rfl) rfl (by simp) ?_
  simp
  refine pop_spec (lin_spec P.empty 1 20000) rfl false (.inl (by simp)) (.inl rfl) rfl (by simp) ?_
  cases h1 : inB P.empty 1 20000 with
  | false => simp; refine answers_of rfl ?_; simp [validB, h1]
  | true =>
  simp
  refine pop_spec (lin_spec P.moment (-20000000) 20000000) rfl false (.inl (by simp)) (.inl rfl) rfl (by simp) ?_
  cases h2 : inB P.moment (-20000000) 20000000 with
  | false => simp; refine answers_of rfl ?_; simp [validB, h2]
  | true =>
  simp
  refine pop_specF [(28, ints [P.takeoff, P.landing, P.reserve])] ?_ (lkilos_spec [P.takeoff, P.landing, P.reserve] (by simp)) rfl false (.inl (by simp [ints])) (.inl rfl) rfl (by simp) ?_
  · simp [ints, geti]
    intro k hk
    rcases k with _ | _ | _ | k
    · simp
    · simp
    · simp
    · omega
  cases h3 : kilosB [P.takeoff, P.landing, P.reserve] with
  | false => simp; refine answers_of rfl ?_; simp [validB, h3]
  | true =>
  simp
  refine pop_spec (lin_spec P.corners.length 3 12) rfl false (.inl (by simp)) (.inl rfl) rfl (by simp) ?_
  cases h4 : inB P.corners.length 3 12 with
  | false => simp; refine answers_of rfl ?_; simp [validB, h4]
  | true =>
  have h4' := inB_spec.1 h4
  by_cases h5 : P.stations.length ≤ 8
  case neg => simp [show ¬ (P.stations.length : Int) ≤ 8 from by omega]; refine answers_of rfl ?_; simp [validB, h5]
  by_cases h6 : P.floats.length ≤ 2
  case neg => simp [show (P.stations.length : Int) ≤ 8 from by omega, show ¬ (P.floats.length : Int) ≤ 2 from by omega]; refine answers_of rfl ?_; simp [validB, h6]
  cases h7 : allN P.corners.length fun k => cnrB (cnrAt P.corners k) with
  | false => simp [show (P.stations.length : Int) ≤ 8 from by omega, show (P.floats.length : Int) ≤ 2 from by omega]; refine answers_of rfl ?_; simp [validB, cornersB, h7]
  | true =>
  simp [show (P.stations.length : Int) ≤ 8 from by omega, show (P.floats.length : Int) ≤ 2 from by omega]
  refine pop_spec (allStn_spec P.stations l2 62 [] [] rfl rfl (fun k => stnB (stnAt P.stations k)) fun k hk => station_spec (stnAt P.stations k)) rfl false (.inl (by simp [stnL])) (.inl rfl) rfl (by simp) ?_
  cases h8 : allN P.stations.length fun k => stnB (stnAt P.stations k) with
  | false => simp; refine answers_of rfl ?_; simp [validB, stnsB, h8]
  | true =>
  simp
  refine pop_spec (station_spec P.tank) rfl false (.inl (by simp [Stn.cells])) (.inl rfl) rfl (by simp) ?_
  cases h9 : stnB P.tank with
  | false => simp; refine answers_of rfl ?_; simp [validB, h9]
  | true =>
  simp
  refine pop_spec (allStn_spec P.floats l3 62 [] [] rfl rfl (fun k => stnB (stnAt P.floats k)) fun k hk => station_spec (stnAt P.floats k)) rfl false (.inl (by simp [stnL])) (.inl rfl) rfl (by simp) ?_
  cases h10 : allN P.floats.length fun k => stnB (stnAt P.floats k) with
  | false => simp; refine answers_of rfl ?_; simp [validB, stnsB, h10]
  | true =>
  simp
  refine pop_spec (convex_spec P (corners_ok h7) (by omega)) rfl false (.inl (by simp [Pln.cells, cnrL, stnL])) (.inl rfl) rfl (by simp) ?_
  simp
  refine answers_of rfl ?_; simp [validB, h1, h2, h3, h4, h5, h6, cornersB, h7, stnsB, h8, h9, h10]
def insideRes (P : Pln) (w m : Int) : PV := if validB P = true ∧ inB w (-800000) 800000 = true ∧ inB m (-800000000) 800000000 = true then .tup [.v (.bool (P.insideB w m)), .v (.int .i64 0)] else .tup [.v (.bool false), .v (.int .i64 2)]
theorem lInside_spec (P : Pln) (w m : Int) (hl : PlnLen P) : Spec Tryd.prog 19 [.agg P.cells, .v (.int .i64 w), .v (.int .i64 m)] (insideRes P w m) := by
  have hv := valid_spec P hl
  unfold insideRes
  refine spec_of mixed Tryd.func19 (by decide) rfl Tryd.results19 Tryd.ntmps19 (by decide) 0 (by simp) ?_
  simp [Pln.cells, cnrL, stnL]
  refine pop_spec hv rfl false (.inl (by simp [Pln.cells, cnrL, stnL])) (.inl rfl) rfl (by simp) ?_
  cases h : validB P with
  | false => simp; refine answers_of rfl ?_; simp
  | true =>
  simp
  refine pop_spec (lin_spec w (-800000) 800000) rfl false (.inl (by simp)) (.inl rfl) rfl (by simp) ?_
  cases h1 : inB w (-800000) 800000 with
  | false => simp; refine answers_of rfl ?_; simp
  | true =>
  simp
  refine pop_spec (lin_spec m (-800000000) 800000000) rfl false (.inl (by simp)) (.inl rfl) rfl (by simp) ?_
  cases h2 : inB m (-800000000) 800000000 with
  | false => simp; refine answers_of rfl ?_; simp
  | true =>
  have hok := valid_ok.1 h
  have hn := hok.n
  have h1' := inB_spec.1 h1
  have h2' := inB_spec.1 h2
  simp
  refine pop_spec (inside_spec P w m hok.corner (by omega) (by simp only [Small]; omega) (by simp only [Small]; omega)) rfl false (.inl (by simp [Pln.cells, cnrL, stnL])) (.inl rfl) rfl (by simp) ?_
  simp
  refine answers_of rfl ?_; simp
def trippedE (P : Pln) (fuel : Spn) (legs : List Leg) : Int := if 6 < legs.length then 3 else if validB P = true then tripE fuel legs P.stations.length else 2
theorem tripped_spec (P : Pln) (fuel : Spn) (legs : List Leg) (hP : PlnLen P) (hl : legs.length ≤ 9223372036854775807) (hi : ∀ k, k < legs.length → (legAt legs k).items.length ≤ 9223372036854775807) :
    Spec Tryd.prog 31 [.agg P.cells, .agg fuel.cells, legL legs] (.v (.int .i64 (trippedE P fuel legs))) := by
  have l2 := hP.s
  have hv := valid_spec P hP
  have ht := trip_spec fuel legs P.stations.length hl hi (by omega)
  refine spec_of mixed Tryd.func31 (by decide) rfl Tryd.results31 Tryd.ntmps31 (by decide) 0 (by simp) ?_
  simp [Pln.cells, cnrL, stnL, legL, Spn.cells]
  refine pop_spec ht rfl false (.inl (by simp [legL, Spn.cells])) (.inl rfl) rfl (by simp) ?_
  by_cases h : 6 < legs.length
  · have e : tripE fuel legs P.stations.length = 3 := by simp [tripE, h]
    rw [e]
    simp
    refine answers_of rfl ?_; simp [trippedE, h]
  · have e : ¬ tripE fuel legs P.stations.length = 3 := by
      simp only [tripE, if_neg h]
      split <;> omega
    simp [e]
    refine pop_spec hv rfl false (.inl (by simp [Pln.cells, cnrL, stnL])) (.inl rfl) rfl (by simp) ?_
    cases h2 : validB P with
    | true => simp [e]; refine answers_of rfl ?_; simp [trippedE, h, h2]
    | false => simp [e]; refine answers_of rfl ?_; simp [trippedE, h, h2]
end Go.Qg

namespace Go.Qg
open Go.Proofs
set_option maxRecDepth 100000
set_option maxHeartbeats 16000000
set_option linter.unusedSimpArgs false
attribute [local irreducible] pwp pops pdraw pop popCall pdCall thenP blockP scopeP pspec Spec answers ppost CallW rend
def pntC (P : Pln) (X : Pnt) : List PV := [.v (.int .i64 P.empty), .v (.int .i64 P.moment), .v (.int .i64 P.takeoff), .v (.int .i64 P.landing), cnrL P.corners, stnL P.stations, .v (.int .i64 P.tank.arm), .v (.int .i64 P.tank.most), .v (.int .i64 P.reserve), stnL P.floats, itmL X.items, .v (.int .i64 X.tank.low), .v (.int .i64 X.tank.high), spnL X.water, .v (.bool X.landing)]
structure Prt where
  kind : Int
  idx : Nat
  arm : Int
  low : Int
  high : Int
  deriving Inhabited
def Prt.cells (p : Prt) : List PV := [.v (.int .i64 p.kind), .v (.int .i64 p.idx), .v (.int .i64 p.arm), .v (.int .i64 p.low), .v (.int .i64 p.high)]
def partI' (P : Pln) (X : Pnt) (i : Nat) : Prt := ⟨0, i, armI P X i, (itmAt X.items i).low, (itmAt X.items i).high⟩
def partT (P : Pln) (X : Pnt) : Prt := ⟨1, 0, P.tank.arm, X.tank.low, X.tank.high⟩
def partF (P : Pln) (X : Pnt) (i : Nat) : Prt := ⟨2, i, armF P i, (spnAt X.water i).low, (spnAt X.water i).high⟩
def partN (P : Pln) (X : Pnt) (n : Nat) : Prt := if n < X.items.length then partI' P X n else if n = X.items.length then partT P X else partF P X (n - X.items.length - 1)
def partK (X : Pnt) : Nat := X.items.length + 1 + X.water.length
def partsL (P : Pln) (X : Pnt) : List PV := (List.range (partK X)).map fun n => .agg (partN P X n).cells
theorem partsL_length (P : Pln) (X : Pnt) : (partsL P X).length = partK X := by simp [partsL]
theorem parts_get {P : Pln} {X : Pnt} {n : Nat} {p : PV} (h : (partsL P X)[n]? = some p) : n < partK X ∧ p = .agg (partN P X n).cells := by
  have hl : n < partK X := by
    have := (List.getElem?_eq_some_iff.1 h).1
    simpa [partsL] using this
  refine ⟨hl, ?_⟩
  simp [partsL, hl] at h
  exact h.symm
theorem parts_plain {P : Pln} {X : Pnt} : ∀ p ∈ partsL P X, p.plain = true ∧ p.flat = true := fun p hp => by
  obtain ⟨e, _, rfl⟩ := List.mem_map.1 hp
  exact ⟨rfl, rfl⟩
theorem parts_at {P : Pln} {X : Pnt} {n : Nat} (h : n < partK X) : (partsL P X)[n]? = some (.agg (partN P X n).cells) := by simp [partsL, h]
theorem parts_spec (P : Pln) (X : Pnt) : Spec Tryd.prog 71 [.agg (pntC P X)] (.clo (.func 89) [] [.rp (pntC P X) 0]) := by
  refine spec_of mixed Tryd.func71 (by decide) rfl Tryd.results71 Tryd.ntmps71 (by decide) 0 (by simp) ?_
  simp [pntC, cnrL, stnL, itmL, spnL]
  refine answers_of rfl ?_; simp [pntC, cnrL, stnL, itmL, spnL]
theorem parts_gen (P : Pln) (X : Pnt) (hX : PntOk P X) (hf : P.floats.length ≤ 2) : GenW Tryd.prog 89 [.rp (pntC P X) 0] (partsL P X) := by
  have hni := hX.n
  have hnw := hX.nw
  refine gen_of Tryd.func89 (by decide) rfl Tryd.results89 Tryd.ntmps89 0 (by simp) fun l Rb J henv => ?_
  have hlo : ∀ s B, GCtx 69 Rb J s B → B.lo = 69 := fun _ _ h => h.1
  refine XW_seqX (XW_seqP mixed hlo (by decide) ?_)
  simp [pntC, cnrL, stnL, itmL, spnL]
  refine XW_block ?_
  refine XW_loopV hlo (fun k : Nat => [(11, .v (.int .i64 k))]) (fun k => GS.on k) (fun k => k ≤ X.items.length) (fun k => X.items.length - k) 0 (Nat.zero_le _) rfl (by simp; rfl) (by simp) ?_
  intro k hk
  refine XW_seqP mixed hlo (by decide) ?_
  by_cases hlt : k < X.items.length
  · have wk := i64_wrap (show -9223372036854775808 ≤ (k : Int) + 1 ∧ _ from by omega)
    have hit := hX.item k hlt
    obtain ⟨s, hs⟩ : ∃ s : Nat, (itmAt X.items k).station = s := ⟨(itmAt X.items k).station.toNat, by omega⟩
    have hsl : s < P.stations.length := by omega
    have hel : (partsL P X)[k]? = some (.agg [.v (.int .i64 0), .v (.int .i64 k), .v (.int .i64 (stnAt P.stations s).arm), .v (.int .i64 (itmAt X.items k).low), .v (.int .i64 (itmAt X.items k).high)]) := by
      rw [parts_at (by unfold partK; omega)]
      simp [partN, hlt, partI', Prt.cells, armI, hs]
    simp [hlt]
    refine XW_seqP mixed hlo (by decide) ?_
    simp
    refine XW_seqX (XW_block ?_)
    refine XW_seqP mixed hlo (by decide) ?_
    simp [hlt, Itm.cells]
    refine XW_seqX (XW_yield (m := 14) mixed henv (by decide) (by decide) ?_)
    simp [hlt, hs, hsl, Stn.cells]
    refine ⟨by decide, ?_⟩
    simp [pyield, yargs, hel]
    refine ⟨?_, ?_⟩
    · refine XW_pwp mixed hlo (by decide) ?_
      simp
      refine XW_pwp mixed hlo (by decide) ?_
      simp [wk]
      refine againX_of (k + 1) (by omega) (by omega) rfl ?_
      simp
    · refine XW_pwp mixed hlo (by decide) ?_
      simp
  · obtain rfl : k = X.items.length := by omega
    have hel : (partsL P X)[X.items.length]? = some (.agg [.v (.int .i64 1), .v (.int .i64 0), .v (.int .i64 P.tank.arm), .v (.int .i64 X.tank.low), .v (.int .i64 X.tank.high)]) := by
      rw [parts_at (by unfold partK; omega)]
      simp [partN, partT, Prt.cells]
    simp
    refine XW_pwp mixed hlo (by decide) ?_
    simp
    refine XW_seqX (XW_seqX (XW_yieldS (m := 10) henv (by decide) (by decide) ?_))
    simp
    simp [pyield, yargs, hel]
    refine ⟨?_, ?_⟩
    · refine XW_pwp mixed hlo (by decide) ?_
      simp
      refine XW_seqP mixed hlo (by decide) ?_
      simp
      refine XW_block ?_
      refine XW_loopV hlo (fun k : Nat => [(49, .v (.int .i64 k))]) (fun k => GS.on (X.items.length + 1 + k)) (fun k => k ≤ X.water.length) (fun k => X.water.length - k) 0 (Nat.zero_le _) rfl (by simp; rfl) (by simp) ?_
      intro k hk
      refine XW_seqP mixed hlo (by decide) ?_
      by_cases hlt : k < X.water.length
      · have wk := i64_wrap (show -9223372036854775808 ≤ (k : Int) + 1 ∧ _ from by omega)
        have hkf : k < P.floats.length := by omega
        have hel : (partsL P X)[X.items.length + 1 + k]? = some (.agg [.v (.int .i64 2), .v (.int .i64 k), .v (.int .i64 (stnAt P.floats k).arm), .v (.int .i64 (spnAt X.water k).low), .v (.int .i64 (spnAt X.water k).high)]) := by
          rw [parts_at (by unfold partK; omega)]
          simp [partN, show ¬ X.items.length + 1 + k < X.items.length from by omega, show ¬ X.items.length + 1 + k = X.items.length from by omega, show X.items.length + 1 + k - X.items.length - 1 = k from by omega, partF, Prt.cells, armF]
        simp [hlt]
        refine XW_seqP mixed hlo (by decide) ?_
        simp
        refine XW_seqX (XW_block ?_)
        refine XW_seqP mixed hlo (by decide) ?_
        simp [hlt, Spn.cells]
        refine XW_seqX (XW_yield (m := 12) mixed henv (by decide) (by decide) ?_)
        simp [hlt, hkf, Stn.cells]
        refine ⟨by decide, ?_⟩
        simp [pyield, yargs, hel]
        refine ⟨?_, ?_⟩
        · refine XW_pwp mixed hlo (by decide) ?_
          simp
          refine XW_pwp mixed hlo (by decide) ?_
          simp [wk]
          refine againX_of (k + 1) (by omega) (by omega) (by simp only [GS.on.injEq]; omega) ?_
          simp
        · refine XW_pwp mixed hlo (by decide) ?_
          simp
      · obtain rfl : k = X.water.length := by omega
        simp
        refine XW_pwp mixed hlo (by decide) ?_
        simp [partsL_length, partK]
    · refine XW_pwp mixed hlo (by decide) ?_
      simp
end Go.Qg

namespace Go.Qg
open Go.Proofs
set_option maxRecDepth 100000
set_option maxHeartbeats 16000000
set_option linter.unusedSimpArgs false
attribute [local irreducible] pwp pops pdraw pop popCall pdCall thenP blockP scopeP pspec Spec answers ppost CallW rend
theorem part_small {P : Pln} {X : Pnt} (hP : PlnOk P) (hX : PntOk P X) {n : Nat} (hn : n < partK X) : Small 1000 (partN P X n).arm ∧ Small 140000 (partN P X n).low ∧ Small 140000 (partN P X n).high := by
  have hnw := hX.nw
  unfold partN
  split
  · rename_i h
    have h1 := hX.item n h
    have h2 := hP.station (itmAt X.items n).station.toNat (by omega)
    simp only [StnOk] at h2
    simp only [partI', armI, Small]
    omega
  · split
    · have h1 := hX.tank
      have h2 := hP.tank
      simp only [StnOk] at h2
      simp only [partT, Small]
      omega
    · have hk : n - X.items.length - 1 < X.water.length := by unfold partK at hn; omega
      have h1 := hX.water _ hk
      have h2 := hP.float (n - X.items.length - 1) (by omega)
      simp only [StnOk] at h2
      simp only [partF, armF, Small]
      omega
theorem partK_le {P : Pln} {X : Pnt} (hP : PlnOk P) (hX : PntOk P X) : partK X ≤ 15 := by
  have := hX.n; have := hX.nw; have := hP.nf; unfold partK; omega
theorem sumN_small {f : Nat → Int} {b : Int} (hb : 0 ≤ b) : ∀ {n : Nat}, (∀ i, i < n → Small b (f i)) → Small (b * n) (sumN f n)
  | 0, _ => by simp [sumN, Small]
  | n + 1, h => by
    have h1 := sumN_small hb (n := n) fun i hi => h i (by omega)
    have h2 := h n (by omega)
    simp only [Small, sumN] at *
    have e : b * ((n + 1 : Nat) : Int) = b * n + b := by push_cast; rw [Int.mul_add, Int.mul_one]
    rw [e]
    omega
theorem min_small {b x y : Int} (hx : Small b x) (hy : Small b y) : Small b (min x y) ∧ Small b (max x y) := by
  simp only [Small] at *; omega
theorem sumN_parts (P : Pln) (X : Pnt) (f : Prt → Int) : sumN (fun i => f (partN P X i)) (partK X) = sumN (fun i => f (partI' P X i)) X.items.length + f (partT P X) + sumN (fun i => f (partF P X i)) X.water.length := by
  unfold partK
  rw [sumN_split, sumN]
  congr 1
  · congr 1
    · exact sumN_congr fun i hi => by simp [partN, hi]
    · simp [partN]
  · exact sumN_congr fun i hi => by simp [partN, show ¬ X.items.length + 1 + i < X.items.length from by omega, show ¬ X.items.length + 1 + i = X.items.length from by omega, show X.items.length + 1 + i - X.items.length - 1 = i from by omega]
def bW (P : Pln) (X : Pnt) (n : Nat) : Int := P.empty + sumN (fun i => (partN P X i).low) n
def bWh (P : Pln) (X : Pnt) (n : Nat) : Int := P.empty + sumN (fun i => (partN P X i).high) n
def bM (P : Pln) (X : Pnt) (n : Nat) : Int := P.moment + sumN (fun i => minS (partN P X i).arm (partN P X i).low (partN P X i).high) n
def bMh (P : Pln) (X : Pnt) (n : Nat) : Int := P.moment + sumN (fun i => maxS (partN P X i).arm (partN P X i).low (partN P X i).high) n
def bndC (P : Pln) (X : Pnt) (n : Nat) : List PV := [.v (.int .i64 (bW P X n)), .v (.int .i64 (bWh P X n)), .v (.int .i64 (bM P X n)), .v (.int .i64 (bMh P X n))]
theorem bnd_small {P : Pln} {X : Pnt} (hP : PlnOk P) (hX : PntOk P X) {n : Nat} (hn : n ≤ partK X) : Small 2200000 (bW P X n) ∧ Small 2200000 (bWh P X n) ∧ Small 2200000000 (bM P X n) ∧ Small 2200000000 (bMh P X n) := by
  have hk := partK_le hP hX
  have h1 := sumN_small (f := fun i => (partN P X i).low) (b := 140000) (by omega) (n := n) fun i hi => (part_small hP hX (by omega)).2.1
  have h2 := sumN_small (f := fun i => (partN P X i).high) (b := 140000) (by omega) (n := n) fun i hi => (part_small hP hX (by omega)).2.2
  have hms : ∀ i, i < n → Small 140000000 (minS (partN P X i).arm (partN P X i).low (partN P X i).high) ∧ Small 140000000 (maxS (partN P X i).arm (partN P X i).low (partN P X i).high) := fun i hi => by
    obtain ⟨g1, g2, g3⟩ := part_small hP hX (show i < partK X by omega)
    exact min_small (mul_small g1 g2 (by omega) (by omega)) (mul_small g1 g3 (by omega) (by omega))
  have h3 := sumN_small (b := 140000000) (by omega) (n := n) fun i hi => (hms i hi).1
  have h4 := sumN_small (b := 140000000) (by omega) (n := n) fun i hi => (hms i hi).2
  have he := hP.empty
  have hm := hP.moment
  simp only [Small, bW, bWh, bM, bMh] at *
  have hn15 : (n : Int) ≤ 15 := by omega
  refine ⟨⟨?_, ?_⟩, ⟨?_, ?_⟩, ⟨?_, ?_⟩, ?_, ?_⟩ <;> omega
def bndV (P : Pln) (X : Pnt) (n : Nat) : PF := [.undef, .undef, .box true [.v (.int .i64 0), .v (.int .i64 0), .v (.int .i64 0), .v (.int .i64 0)], .box true (bndC P X n), .undef, .undef, .undef, .undef, .undef, .undef, .undef, .undef, .undef, .undef, .undef, .undef, .undef, .undef, .undef, .undef, .undef, .undef, .undef, .undef, .undef, .undef, .undef, .undef, .undef, .undef, .undef, .undef, .undef, .undef, .undef, .undef, .undef, .undef, .undef, .undef, .undef, .undef, .undef, .undef, .undef, .undef, .undef, .undef, .undef, .undef, .undef, .undef, .undef, .undef, .undef, .undef, .undef, .undef, .undef, .undef, .undef, .undef, .undef, .undef, .undef, .undef, .undef, .undef, .undef, .undef, .undef, .undef, .undef, .undef, .undef, .undef, .undef, .undef]
def bndA : PF := [.undef, .undef, .undef, .ref 0 0, .undef, .undef, .undef, .undef, .undef, .undef, .undef, .undef, .undef, .undef, .undef, .undef, .undef, .undef, .undef, .undef, .undef, .undef, .undef, .undef, .undef, .undef, .undef, .undef, .undef, .undef, .undef, .undef, .undef, .undef, .undef, .undef, .undef, .undef, .undef, .undef, .undef, .undef, .undef, .undef, .undef, .undef, .undef, .undef, .undef, .undef, .undef, .undef, .undef, .undef, .undef, .undef, .undef, .undef, .undef, .undef, .undef, .undef, .undef, .undef, .undef, .undef, .undef, .undef, .undef, .undef, .undef, .undef, .undef, .undef, .undef, .undef, .undef, .undef]
theorem bounds_spec (P : Pln) (X : Pnt) (hP : PlnOk P) (hX : PntOk P X) : Spec Tryd.prog 93 [.agg (pntC P X)] (.agg (bndC P X (partK X))) := by
  have hgen := parts_gen P X hX hP.nf
  unfold Spec
  refine callW_ofE Tryd.func93 (by decide) rfl (congrArg Array.toList Tryd.results93) Tryd.ntmps93 78 (by simp) (by decide) fun B0 hB0 hD0 => ?_
  have hlo : ∀ s B, ECtx B0 s B → B.lo = 78 := fun _ _ h => h.1.trans hB0
  refine XW_seqP mixed hlo (by decide) ?_
  simp [pntC, cnrL, stnL, itmL, spnL]
  refine XW_seqP mixed hlo (by decide) ?_
  simp
  refine XW_seqX (XW_seqP mixed hlo (by decide) ?_)
  simp
  refine pop_spec (parts_spec P X) rfl false (.inl (by simp [pntC, cnrL, stnL, itmL, spnL])) (.inl rfl) rfl (by simp) ?_
  simp
  refine XW_block ?_
  refine XW_range mixed rfl (by rfl) hgen parts_plain (by decide) (by decide) 78 (by decide) [3] (by decide)
    (fun n => bndV P X n) (fun n => bndA) (fun n => [.box false (bndC P X n)]) ?_ (fun n hn => ⟨rfl, ?_, slots_view (t := 28) ?_ rfl⟩) (fun n q hq => ?_) ?_
  · rw [hB0]
    simp [bndV, bndC, bW, bWh, bM, bMh, sumN]
  · simp [bndV, bndC]
  · simp [slots, bndV, bndA, bndC]
  · obtain ⟨hn, rfl⟩ := parts_get hq
    obtain ⟨g1, g2, g3⟩ := part_small hP hX hn
    have hb := bnd_small hP hX (show n + 1 ≤ partK X by omega)
    have m1 := mul_small g1 g2 (by omega) (by omega)
    have m2 := mul_small g1 g3 (by omega) (by omega)
    rw [hB0]
    have e1 : bW P X (n + 1) = bW P X n + (partN P X n).low := by simp only [bW, sumN]; omega
    have e2 : bWh P X (n + 1) = bWh P X n + (partN P X n).high := by simp only [bWh, sumN]; omega
    have e3 : bM P X (n + 1) = bM P X n + min ((partN P X n).arm * (partN P X n).low) ((partN P X n).arm * (partN P X n).high) := by simp only [bM, sumN, minS]; omega
    have e4 : bMh P X (n + 1) = bMh P X n + max ((partN P X n).arm * (partN P X n).low) ((partN P X n).arm * (partN P X n).high) := by simp only [bMh, sumN, maxS]; omega
    simp only [e1, e2, e3, e4, Small] at hb m1 m2
    have k1 := i64_wrap (show -9223372036854775808 ≤ bW P X n + (partN P X n).low ∧ _ from by omega)
    have k2 := i64_wrap (show -9223372036854775808 ≤ bWh P X n + (partN P X n).high ∧ _ from by omega)
    have k3 := i64_wrap (show -9223372036854775808 ≤ bM P X n + min ((partN P X n).arm * (partN P X n).low) ((partN P X n).arm * (partN P X n).high) ∧ _ from by omega)
    have k4 := i64_wrap (show -9223372036854775808 ≤ bMh P X n + max ((partN P X n).arm * (partN P X n).low) ((partN P X n).arm * (partN P X n).high) ∧ _ from by omega)
    have k5 := i64_wrap (show -9223372036854775808 ≤ (partN P X n).arm * (partN P X n).low ∧ _ from by omega)
    have k6 := i64_wrap (show -9223372036854775808 ≤ (partN P X n).arm * (partN P X n).high ∧ _ from by omega)
    have f3 : (if (partN P X n).arm * (partN P X n).high < (partN P X n).arm * (partN P X n).low then (partN P X n).arm * (partN P X n).high else (partN P X n).arm * (partN P X n).low) = min ((partN P X n).arm * (partN P X n).low) ((partN P X n).arm * (partN P X n).high) := by split <;> omega
    have f4 : (if (partN P X n).arm * (partN P X n).low < (partN P X n).arm * (partN P X n).high then (partN P X n).arm * (partN P X n).high else (partN P X n).arm * (partN P X n).low) = max ((partN P X n).arm * (partN P X n).low) ((partN P X n).arm * (partN P X n).high) := by split <;> omega
    simp [bndA, Prt.cells, bndC]
    refine pwp_draw 14 (by decide) ?_
    simp [k5, k6]
    refine ⟨by decide, ?_⟩
    simp [k1, k2, f3, f4, k3, k4]
    refine rend_n [.box false (bndC P X (n + 1))] ?_ ?_
    · simp [bndC, e1, e2, e3, e4]
    · simp [back, placeAll, bndV, bndC, e1, e2, e3, e4]
  · rw [partsL_length]
    simp [blockX, thenX, bndV, bndC]
    refine XW_pwp mixed hlo (by decide) ?_
    simp
    refine ends_of (.agg (bndC P X (partK X))) [] [] (x := .agg (bndC P X (partK X))) (by simp [bndC]) (by decide) ?_ ?_ rfl
    · simp [bndC]
    · simp [bndC]
end Go.Qg

namespace Go.Qg
open Go.Proofs
set_option maxRecDepth 100000
set_option maxHeartbeats 16000000
set_option linter.unusedSimpArgs false
attribute [local irreducible] pwp pops pdraw pop popCall pdCall thenP blockP scopeP pspec Spec answers ppost CallW rend
@[simp] theorem rowsB_nil : rowsB [] = [] := rfl
theorem rowsB_snoc (l : List Bool) (x : Bool) : rowsB l ++ [[.v (.bool x)]] = rowsB (l ++ [x]) := by simp [rowsB]
def lsN (P : Pln) (X : Pnt) (e n : Nat) : Int := P.side e P.empty P.moment + sumN (fun i => minS (P.slope e (partN P X i).arm) (partN P X i).low (partN P X i).high) n
theorem lsN_all (P : Pln) (X : Pnt) (e : Nat) : lsN P X e (partK X) = leastE P X e := by
  rw [lsN, sumN_parts P X fun p => minS (P.slope e p.arm) p.low p.high, leastE]
  simp only [partI', partT, partF]
  omega
theorem slope_small {P : Pln} (hP : PlnOk P) {e : Nat} (he : e < P.corners.length) {a : Int} (ha : Small 1000 a) : Small 60000000 (P.slope e a) := by
  obtain ⟨_, _, s3, s4⟩ := edg_small hP.corner he
  have h := mul_small s3 ha (by omega) (by omega)
  simp only [Small, Pln.slope] at *
  omega
theorem side_small {P : Pln} (hP : PlnOk P) {e : Nat} (he : e < P.corners.length) : Small 3000000000000 (P.side e P.empty P.moment) := by
  obtain ⟨s1, s2, s3, s4⟩ := edg_small hP.corner he
  have h1 := hP.empty
  have h2 := hP.moment
  have h3 := mul_small s3 (show Small 40000000 (P.moment - (P.cA e).moment) by simp only [Small] at *; omega) (by omega) (by omega)
  have h4 := mul_small s4 (show Small 40000 (P.empty - (P.cA e).weight) by simp only [Small] at *; omega) (by omega) (by omega)
  simp only [Small, Pln.side] at *
  omega
theorem ls_small {P : Pln} {X : Pnt} (hP : PlnOk P) (hX : PntOk P X) {e : Nat} (he : e < P.corners.length) {n : Nat} (hn : n ≤ partK X) : Small 200000000000000 (lsN P X e n) := by
  have hk := partK_le hP hX
  have h1 := sumN_small (f := fun i => minS (P.slope e (partN P X i).arm) (partN P X i).low (partN P X i).high) (b := 8400000000000) (by omega) (n := n) fun i hi => by
    obtain ⟨g1, g2, g3⟩ := part_small hP hX (show i < partK X by omega)
    have g4 := slope_small hP he g1
    exact (min_small (mul_small g4 g2 (by omega) (by omega)) (mul_small g4 g3 (by omega) (by omega))).1
  have h2 := side_small hP he
  have hn15 : (n : Int) ≤ 15 := by omega
  simp only [Small, lsN] at *
  omega
def lsV (P : Pln) (X : Pnt) (e n : Nat) : PF := [.undef, .undef, .undef, .rp (edgC P e) 0, .undef, .box true [.v (.int .i64 (lsN P X e n))], .undef, .undef, .undef, .undef, .undef, .undef, .undef, .undef, .undef, .undef, .undef, .undef, .undef, .undef, .undef, .undef, .undef, .undef, .undef, .undef, .undef, .undef, .undef, .undef, .undef, .undef, .undef, .undef, .undef, .undef, .undef, .undef, .undef]
def lsA (P : Pln) (e : Nat) : PF := [.undef, .undef, .undef, .rp (edgC P e) 0, .undef, .ref 0 0, .undef, .undef, .undef, .undef, .undef, .undef, .undef, .undef, .undef, .undef, .undef, .undef, .undef, .undef, .undef, .undef, .undef, .undef, .undef, .undef, .undef, .undef, .undef, .undef, .undef, .undef, .undef, .undef, .undef, .undef, .undef, .undef, .undef]
theorem least_spec (P : Pln) (X : Pnt) (hP : PlnOk P) (hX : PntOk P X) (e : Nat) (he : e < P.corners.length) : Spec Tryd.prog 95 [.agg (pntC P X), .agg (edgC P e)] (.v (.int .i64 (leastE P X e))) := by
  have hgen := parts_gen P X hX hP.nf
  obtain ⟨s1, s2, s3, s4⟩ := edg_small hP.corner he
  have h1 := hP.empty
  have h2 := hP.moment
  have hside := side_spec (e : Int) (P.cA e).weight (P.cA e).moment (P.dw e) (P.dm e) P.empty P.moment s1 s2 s3 s4 (by simp only [Small]; omega) (by simp only [Small]; omega)
  rw [show P.dw e * (P.moment - (P.cA e).moment) - P.dm e * (P.empty - (P.cA e).weight) = P.side e P.empty P.moment from rfl] at hside
  unfold Spec
  refine callW_ofE Tryd.func95 (by decide) rfl (congrArg Array.toList Tryd.results95) Tryd.ntmps95 39 (by simp) (by decide) fun B0 hB0 hD0 => ?_
  have hlo : ∀ s B, ECtx B0 s B → B.lo = 39 := fun _ _ h => h.1.trans hB0
  refine XW_seqP mixed hlo (by decide) ?_
  simp [pntC, cnrL, stnL, itmL, spnL, edgC]
  refine XW_seqP mixed hlo (by decide) ?_
  simp
  refine pop_spec hside rfl false (.inl (by simp)) (.inl rfl) rfl (by simp) ?_
  simp
  refine XW_seqX (XW_seqP mixed hlo (by decide) ?_)
  simp
  refine pop_spec (parts_spec P X) rfl false (.inl (by simp [pntC, cnrL, stnL, itmL, spnL])) (.inl rfl) rfl (by simp) ?_
  simp
  refine XW_block ?_
  refine XW_range mixed rfl (by rfl) hgen parts_plain (by decide) (by decide) 39 (by decide) [5] (by decide)
    (fun n => lsV P X e n) (fun n => lsA P e) (fun n => [.box false [.v (.int .i64 (lsN P X e n))]]) ?_ (fun n hn => ⟨rfl, ?_, slots_view (t := 20) ?_ rfl⟩) (fun n q hq => ?_) ?_
  · rw [hB0]
    simp [lsV, lsN, sumN, edgC]
  · simp [lsV]
  · simp [slots, lsV, lsA]
  · obtain ⟨hn, rfl⟩ := parts_get hq
    obtain ⟨g1, g2, g3⟩ := part_small hP hX hn
    have g4 := slope_small hP he g1
    have hb := ls_small hP hX he (show n + 1 ≤ partK X by omega)
    have m1 := mul_small g4 g2 (by omega) (by omega)
    have m2 := mul_small g4 g3 (by omega) (by omega)
    have hslope := slope_spec (e : Int) (P.cA e).weight (P.cA e).moment (P.dw e) (P.dm e) (partN P X n).arm s3 s4 g1
    rw [show P.dw e * (partN P X n).arm - P.dm e = P.slope e (partN P X n).arm from rfl] at hslope
    rw [hB0]
    have e1 : lsN P X e (n + 1) = lsN P X e n + min (P.slope e (partN P X n).arm * (partN P X n).low) (P.slope e (partN P X n).arm * (partN P X n).high) := by simp only [lsN, sumN, minS]; omega
    generalize P.slope e (partN P X n).arm = sl at *
    simp only [e1, Small] at hb m1 m2
    have k3 := i64_wrap (show -9223372036854775808 ≤ lsN P X e n + min (sl * (partN P X n).low) (sl * (partN P X n).high) ∧ _ from by omega)
    have k5 := i64_wrap (show -9223372036854775808 ≤ sl * (partN P X n).low ∧ _ from by omega)
    have k6 := i64_wrap (show -9223372036854775808 ≤ sl * (partN P X n).high ∧ _ from by omega)
    have f3 : (if sl * (partN P X n).high < sl * (partN P X n).low then sl * (partN P X n).high else sl * (partN P X n).low) = min (sl * (partN P X n).low) (sl * (partN P X n).high) := by split <;> omega
    simp [lsA, Prt.cells, edgC]
    refine pop_spec hslope rfl false (.inl (by simp)) (.inl rfl) rfl (by simp) ?_
    simp [k5, k6, f3, k3]
    refine rend_n [.box false [.v (.int .i64 (lsN P X e (n + 1)))]] ?_ ?_
    · simp [e1]
    · simp [back, placeAll, lsV, e1, edgC]
  · rw [partsL_length]
    simp [blockX, thenX, lsV]
    refine XW_pwp mixed hlo (by decide) ?_
    simp
    refine ends_of (.v (.int .i64 (leastE P X e))) [] [] (x := .v (.int .i64 (lsN P X e (partK X)))) rfl (by decide) ?_ ?_ rfl
    · simp
    · simp [lsN_all]
theorem limit_spec (P : Pln) (X : Pnt) : Spec Tryd.prog 94 [.agg (pntC P X)] (.v (.int .i64 (limitP P X))) := by
  refine spec_of mixed Tryd.func94 (by decide) rfl Tryd.results94 Tryd.ntmps94 (by decide) 0 (by simp) ?_
  simp [pntC, cnrL, stnL, itmL, spnL]
  cases h : X.landing with
  | true => simp; refine answers_of rfl ?_; simp [limitP, h]
  | false => simp; refine answers_of rfl ?_; simp [limitP, h]
theorem full_spec (P : Pln) (X : Pnt) : Spec Tryd.prog 79 [.agg (pntC P X)] (bools [fullB P X]) := by
  refine spec_of mixed Tryd.func79 (by decide) rfl Tryd.results79 Tryd.ntmps79 (by decide) 0 (by simp) ?_
  simp [pntC, cnrL, stnL, itmL, spnL]
  refine answers_of rfl ?_; simp [bools, getb, fullB]
theorem short_spec (P : Pln) (X : Pnt) : Spec Tryd.prog 83 [.agg (pntC P X)] (bools [shortB P X]) := by
  refine spec_of mixed Tryd.func83 (by decide) rfl Tryd.results83 Tryd.ntmps83 (by decide) 0 (by simp) ?_
  simp [pntC, cnrL, stnL, itmL, spnL]
  cases h : X.landing with
  | true => simp; refine answers_of rfl ?_; simp [bools, getb, shortB, h]
  | false => simp; refine answers_of rfl ?_; simp [bools, getb, shortB, h]
theorem highW_eq (P : Pln) (X : Pnt) : bWh P X (partK X) = highW P X := by
  rw [bWh, sumN_parts P X fun p => p.high, highW]
  simp only [partI', partT, partF]
  omega
theorem lowW_eq (P : Pln) (X : Pnt) : bW P X (partK X) = lowW P X := by
  rw [bW, sumN_parts P X fun p => p.low, lowW]
  simp only [partI', partT, partF]
  omega
theorem heavy_spec (P : Pln) (X : Pnt) (hP : PlnOk P) (hX : PntOk P X) : Spec Tryd.prog 81 [.agg (pntC P X)] (bools [heavyB P X]) := by
  have hb := bounds_spec P X hP hX
  simp only [bndC, highW_eq] at hb
  refine spec_of mixed Tryd.func81 (by decide) rfl Tryd.results81 Tryd.ntmps81 (by decide) 0 (by simp) ?_
  simp [pntC, cnrL, stnL, itmL, spnL]
  refine pwp_draw 8 (by decide) ?_
  simp
  refine pd_spec hb (by simp [pntC, cnrL, stnL, itmL, spnL]) (by simp) (by simp [pntC, cnrL, stnL, itmL, spnL]) rfl ?_
  simp
  refine pd_spec (limit_spec P X) (by simp [pntC, cnrL, stnL, itmL, spnL]) (by simp) (by simp [pntC, cnrL, stnL, itmL, spnL]) rfl ?_
  simp
  refine ⟨by decide, ?_⟩
  refine answers_of rfl ?_; simp [bools, getb, heavyB]
def wetL (P : Pln) (X : Pnt) (n : Nat) : List Bool := (List.range n).map (wetB P X)
theorem wetL_length (P : Pln) (X : Pnt) (n : Nat) : (wetL P X n).length = n := by simp [wetL]
theorem wetL_succ (P : Pln) (X : Pnt) (n : Nat) : wetL P X n ++ [wetB P X n] = wetL P X (n + 1) := by simp [wetL, List.range_succ]
theorem wet_spec (P : Pln) (X : Pnt) (hf : P.floats.length ≤ 2) (hX : PntOk P X) : Spec Tryd.prog 80 [.agg (pntC P X)] (bools (wetL P X X.water.length)) := by
  have hnw := hX.nw
  refine spec_of mixed Tryd.func80 (by decide) rfl Tryd.results80 Tryd.ntmps80 (by decide) 0 (by simp) ?_
  simp [pntC, cnrL, stnL, itmL, spnL]
  refine pwp_loop (fun k : Nat => [(3, .own 28 k 0 k false), (10, .v (.int .i64 k)), (28, .rows none k 4 1 (rowsB (wetL P X k)))]) (fun k => k ≤ X.water.length) (fun k => X.water.length - k) 0 (Nat.zero_le _) (by simp; rfl) (by simp [wetL]) ?_
  intro k hk
  by_cases hkl : k < X.water.length
  · have wk := i64_wrap (show -9223372036854775808 ≤ (k : Int) + 1 ∧ _ from by omega)
    have hkf : k < P.floats.length := by omega
    have er := rowsB_snoc (wetL P X k) (wetB P X k)
    rw [wetL_succ, wetB] at er
    have et : (wetL P X k).take k = wetL P X k := List.take_of_length_le (by simp [wetL_length])
    simp [hkl, Spn.cells]
    refine pwp_draw 14 (by decide) ?_
    simp [hkl, hkf, Stn.cells, wetL_length, show k + 1 ≤ 140737488355328 from by omega, show k + 1 ≤ maxLen from by simp [maxLen]; omega]
    refine ⟨by decide, ?_⟩
    refine again_of (k + 1) (by omega) (by omega) ?_
    simp [wk, er, et]
  · obtain rfl : k = X.water.length := by omega
    simp
    refine answers_of rfl ?_
    simp [bools, wetL_length]
    intro k hk
    simp [rowsB_get (show k < (wetL P X X.water.length).length by rw [wetL_length]; exact hk)]
end Go.Qg

namespace Go.Qg
open Go.Proofs
set_option maxRecDepth 100000
set_option maxHeartbeats 16000000
set_option linter.unusedSimpArgs false
attribute [local irreducible] pwp pops pdraw pop popCall pdCall thenP blockP scopeP pspec Spec answers ppost CallW rend
def outL (P : Pln) (X : Pnt) (n : Nat) : List Bool := (List.range n).map (outB P X)
theorem outL_length (P : Pln) (X : Pnt) (n : Nat) : (outL P X n).length = n := by simp [outL]
theorem outL_succ (P : Pln) (X : Pnt) (n : Nat) : outL P X n ++ [outB P X n] = outL P X (n + 1) := by simp [outL, List.range_succ]
def outV (P : Pln) (X : Pnt) (n : Nat) : PF := [.undef, .rp (pntC P X) 0, .undef, .box true [.own 15 n 0 n false], .undef, .undef, .undef, .undef, .undef, .undef, .undef, .undef, .undef, .undef, .undef, .rows none n 4 1 (rowsB (outL P X n)), .undef]
def outA (P : Pln) (X : Pnt) : PF := [.undef, .rp (pntC P X) 0, .undef, .ref 0 0, .undef, .undef, .undef, .undef, .undef, .undef, .undef, .undef, .undef, .undef, .undef, .undef, .undef]
theorem out_spec (P : Pln) (X : Pnt) (hP : PlnOk P) (hX : PntOk P X) : Spec Tryd.prog 82 [.agg (pntC P X)] (bools (outL P X P.corners.length)) := by
  have hn12 := hP.n
  have hgen := edges_gen P hP.corner (by omega)
  unfold Spec
  refine callW_ofE Tryd.func82 (by decide) rfl (congrArg Array.toList Tryd.results82) Tryd.ntmps82 17 (by simp) (by decide) fun B0 hB0 hD0 => ?_
  have hlo : ∀ s B, ECtx B0 s B → B.lo = 17 := fun _ _ h => h.1.trans hB0
  refine XW_seqP mixed hlo (by decide) ?_
  simp [pntC, cnrL, stnL, itmL, spnL]
  refine XW_seqP mixed hlo (by decide) ?_
  simp
  refine XW_seqX (XW_seqP mixed hlo (by decide) ?_)
  simp
  refine pop_spec (edges_spec P) rfl false (.inl (by simp [Pln.cells, cnrL, stnL])) (.inl rfl) rfl (by simp) ?_
  simp
  refine XW_block ?_
  refine XW_range mixed rfl (by rfl) hgen edgs_plain (by decide) (by decide) 17 (by decide) [3, 15] (by decide)
    (fun n => outV P X n) (fun n => outA P X) (fun n => [.box false [.own 1 n 0 n false], .rows none n 4 1 (rowsB (outL P X n))]) ?_ (fun n hn => ⟨rfl, ?_, slots_view (t := 8) ?_ rfl⟩) (fun n q hq => ?_) ?_
  · rw [hB0]
    simp [outV, outL, pntC, cnrL, stnL, itmL, spnL]
  · simp [outV]
  · simp [slots, outV, outA, pntC, cnrL, stnL, itmL, spnL]
  · obtain ⟨hn, rfl⟩ := edg_get hq
    have hleast := least_spec P X hP hX n hn
    have er := rowsB_snoc (outL P X n) (outB P X n)
    rw [outL_succ, outB] at er
    have et : (outL P X n).take n = outL P X n := List.take_of_length_le (by simp [outL_length])
    rw [hB0]
    simp [outA, edgC, pntC, cnrL, stnL, itmL, spnL]
    refine pwp_draw 7 (by decide) ?_
    simp
    refine pd_spec hleast (by simp [pntC, cnrL, stnL, itmL, spnL, edgC]) (by simp) (by simp [pntC, cnrL, stnL, itmL, spnL, edgC]) rfl ?_
    simp [outL_length, show n + 1 ≤ 140737488355328 from by omega, show n + 1 ≤ maxLen from by simp [maxLen]; omega]
    refine ⟨by decide, ?_⟩
    simp [er, et]
    refine rend_n [.box false [.own 1 (n + 1) 0 (n + 1) false], .rows none (n + 1) 4 1 (rowsB (outL P X (n + 1)))] ?_ ?_
    · simp [er, et]
    · simp [back, placeAll, outV, pntC, cnrL, stnL, itmL, spnL]
  · rw [edgs_length]
    simp [blockX, thenX, outV]
    refine XW_pwp mixed hlo (by decide) ?_
    simp
    refine ends_of (bools (outL P X P.corners.length)) [] [] rfl (by decide) ?_ ?_ rfl
    · simp
    · simp [bools, outL_length]
      intro k hk
      simp [rowsB_get (show k < (outL P X P.corners.length).length by rw [outL_length]; exact hk)]
abbrev IMap := List Int × List Int
def mput (m : IMap) (x v : Int) : IMap := match dfind m.1 x 0 with
  | some j => (m.1, m.2.set j v)
  | none => (m.1 ++ [x], m.2 ++ [v])
def mget (m : IMap) (x : Int) : Int := match dfind m.1 x 0 with
  | some j => geti m.2 j
  | none => 0
theorem dfind_snoc (x y : Int) : ∀ (d : List Int) (j : Nat), dfind (d ++ [x]) y j = (match dfind d y j with
  | some i => some i
  | none => if y = x then some (j + d.length) else none)
  | [], j => by
    simp only [List.nil_append, dfind]
    by_cases h : y = x <;> simp [h]
  | z :: d, j => by
    simp only [List.cons_append, dfind]
    by_cases h : y = z
    · simp [h]
    · simp only [beq_iff_eq, h, if_false]
      rw [dfind_snoc x y d (j + 1)]
      cases dfind d y (j + 1) with
      | some i => rfl
      | none => simp only [List.length_cons]; split <;> simp; omega
theorem mput_len {m : IMap} (x v : Int) (h : m.2.length = m.1.length) : (mput m x v).2.length = (mput m x v).1.length := by
  unfold mput
  split
  · simp [h]
  · simp [h]
theorem mget_put {m : IMap} (x v y : Int) (h : m.2.length = m.1.length) : mget (mput m x v) y = if y = x then v else mget m y := by
  unfold mput
  cases hd : dfind m.1 x 0 with
  | some j =>
    obtain ⟨_, h1, h2⟩ := dfind_some hd
    simp only [Nat.sub_zero] at h1 h2
    simp only [mget]
    by_cases hy : y = x
    · subst hy
      rw [hd, if_pos rfl]
      simp only
      rw [geti_set (by omega), if_pos rfl]
    · rw [if_neg hy]
      cases he : dfind m.1 y 0 with
      | none => rfl
      | some i =>
        obtain ⟨_, h3, h4⟩ := dfind_some he
        simp only [Nat.sub_zero] at h3 h4
        simp only
        rw [geti_set (by omega), if_neg]
        intro e
        subst e
        rw [h2] at h4
        exact hy (Option.some.inj h4).symm
  | none =>
    simp only [mget, dfind_snoc]
    cases he : dfind m.1 y 0 with
    | some i =>
      obtain ⟨_, h3, _⟩ := dfind_some he
      simp only [Nat.sub_zero] at h3
      have hy : y ≠ x := fun e => by rw [e, hd] at he; cases he
      simp only [if_neg hy, geti, List.getD_eq_getElem?_getD]
      rw [List.getElem?_append_left (by omega)]
    | none =>
      by_cases hy : y = x
      · simp [hy, geti, ← h]
      · simp [hy]
theorem keysI_get {v : List Int} {j : Nat} (h : j < v.length) : (keysI v)[j]? = some (.v (.int .i64 (geti v j))) := by simp [keysI, geti, h]
theorem keysI_setv (v : List Int) (j : Nat) (x : Int) : (keysI v).set j (.v (.int .i64 x)) = keysI (v.set j x) := by simp [keysI, List.map_set]
def sumTo (l : List Itm) : Nat → IMap
  | 0 => ([], [])
  | k + 1 => mput (sumTo l k) (itmAt l k).station (mget (sumTo l k) (itmAt l k).station + (itmAt l k).high)
theorem sumTo_len (l : List Itm) : ∀ k, (sumTo l k).2.length = (sumTo l k).1.length
  | 0 => rfl
  | k + 1 => mput_len _ _ (sumTo_len l k)
def stSum (l : List Itm) (x : Int) (k : Nat) : Int := sumN (fun i => if (itmAt l i).station = x then (itmAt l i).high else 0) k
theorem sumTo_get (l : List Itm) (x : Int) : ∀ k, mget (sumTo l k) x = stSum l x k
  | 0 => rfl
  | k + 1 => by
    rw [sumTo, mget_put _ _ _ (sumTo_len l k), stSum, sumN]
    by_cases h : x = (itmAt l k).station
    · rw [if_pos h, if_pos h.symm, h, sumTo_get l _ k, stSum]
    · rw [if_neg h, if_neg (fun e => h e.symm), sumTo_get l x k, stSum]; omega
def overL (P : Pln) (X : Pnt) (n : Nat) : List Bool := (List.range n).map (overB P X)
theorem overL_length (P : Pln) (X : Pnt) (n : Nat) : (overL P X n).length = n := by simp [overL]
theorem overL_succ (P : Pln) (X : Pnt) (n : Nat) : overL P X n ++ [overB P X n] = overL P X (n + 1) := by simp [overL, List.range_succ]
theorem stSum_small {P : Pln} {X : Pnt} (hX : PntOk P X) (x : Int) {k : Nat} (hk : k ≤ X.items.length) : Small 240000 (stSum X.items x k) := by
  have hn := hX.n
  have h := sumN_small (f := fun i => if (itmAt X.items i).station = x then (itmAt X.items i).high else 0) (b := 20000) (by omega) (n := k) fun i hi => by
    have h1 := hX.item i (by omega)
    simp only [Small]
    split <;> omega
  simp only [Small, stSum] at *
  omega
theorem over_spec (P : Pln) (X : Pnt) (hX : PntOk P X) (hs : P.stations.length ≤ 8) : Spec Tryd.prog 78 [.agg (pntC P X)] (bools (overL P X P.stations.length)) := by
  have hn := hX.n
  refine spec_of mixed Tryd.func78 (by decide) rfl Tryd.results78 Tryd.ntmps78 (by decide) 0 (by simp) ?_
  simp [pntC, cnrL, stnL, itmL, spnL]
  refine pwp_loop (fun k : Nat => [(9, .map true (keysI (sumTo X.items k).1) (keysI (sumTo X.items k).2)), (14, .v (.int .i64 k))]) (fun k => k ≤ X.items.length) (fun k => X.items.length - k) 0 (Nat.zero_le _) (by simp; rfl) (by simp [sumTo]) ?_
  intro k hk
  by_cases hkl : k < X.items.length
  · have wk := i64_wrap (show -9223372036854775808 ≤ (k : Int) + 1 ∧ _ from by omega)
    have hfind := pkfind_ints (P := Tryd.prog) (t := 3) (by rfl) (sumTo X.items k).1 (itmAt X.items k).station 0
    have hkey : pkeyOk Tryd.prog 3 (.v (.int .i64 (itmAt X.items k).station)) = true := by simp [pkeyOk]
    have hlen := sumTo_len X.items k
    have hget := sumTo_get X.items (itmAt X.items k).station k
    have hsm := stSum_small hX (itmAt X.items k).station hk
    have hit := hX.item k hkl
    have hsucc : sumTo X.items (k + 1) = mput (sumTo X.items k) (itmAt X.items k).station (mget (sumTo X.items k) (itmAt X.items k).station + (itmAt X.items k).high) := rfl
    simp only [Small, ← hget] at hsm
    cases hd : dfind (sumTo X.items k).1 (itmAt X.items k).station 0 with
    | none =>
      rw [hd] at hfind
      have hz : mget (sumTo X.items k) (itmAt X.items k).station = 0 := by simp [mget, hd]
      have w1 := i64_wrap (show -9223372036854775808 ≤ (itmAt X.items k).high ∧ _ from by omega)
      simp only [mput, hd, hz, Int.zero_add] at hsucc
      simp [hkl, Itm.cells, hfind, hkey, w1]
      refine again_of (k + 1) (by omega) (by omega) ?_
      simp [wk, hsucc, keysI_snoc]
    | some j =>
      rw [hd] at hfind
      obtain ⟨_, hj1, hj2⟩ := dfind_some hd
      simp only [Nat.sub_zero] at hj1 hj2
      have hz : mget (sumTo X.items k) (itmAt X.items k).station = geti (sumTo X.items k).2 j := by simp [mget, hd]
      have hv := keysI_get (v := (sumTo X.items k).2) (j := j) (by omega)
      rw [hz] at hsm
      have w1 := i64_wrap (show -9223372036854775808 ≤ geti (sumTo X.items k).2 j + (itmAt X.items k).high ∧ _ from by omega)
      simp only [mput, hd, hz] at hsucc
      simp [hkl, Itm.cells, hfind, hkey, hv, w1]
      refine again_of (k + 1) (by omega) (by omega) ?_
      simp [wk, hsucc, keysI_set hd, keysI_setv]
  · obtain rfl : k = X.items.length := by omega
    simp
    refine pwp_loop (fun k : Nat => [(6, .own 45 k 0 k false), (32, .v (.int .i64 k)), (45, .rows none k 4 1 (rowsB (overL P X k)))]) (fun k => k ≤ P.stations.length) (fun k => P.stations.length - k) 0 (Nat.zero_le _) (by simp; rfl) (by simp [overL]) ?_
    intro k hk
    by_cases hkl : k < P.stations.length
    · have wk := i64_wrap (show -9223372036854775808 ≤ (k : Int) + 1 ∧ _ from by omega)
      have er := rowsB_snoc (overL P X k) (overB P X k)
      rw [overL_succ, overB] at er
      have et : (overL P X k).take k = overL P X k := List.take_of_length_le (by simp [overL_length])
      have hfind := pkfind_ints (P := Tryd.prog) (t := 3) (by rfl) (sumTo X.items X.items.length).1 (k : Int) 0
      have hkey : pkeyOk Tryd.prog 3 (.v (.int .i64 (k : Int))) = true := by simp [pkeyOk]
      have hlen := sumTo_len X.items X.items.length
      have hget := sumTo_get X.items (k : Int) X.items.length
      cases hd : dfind (sumTo X.items X.items.length).1 (k : Int) 0 with
      | none =>
        rw [hd] at hfind
        have hz : stSum X.items (k : Int) X.items.length = 0 := by rw [← hget]; simp [mget, hd]
        simp only [stSum] at hz
        rw [hz] at er
        simp [hkl, Stn.cells, hfind, hkey, overL_length, show k + 1 ≤ 140737488355328 from by omega, show k + 1 ≤ maxLen from by simp [maxLen]; omega]
        refine again_of (k + 1) (by omega) (by omega) ?_
        simp [wk, er, et]
      | some j =>
        rw [hd] at hfind
        obtain ⟨_, hj1, hj2⟩ := dfind_some hd
        simp only [Nat.sub_zero] at hj1 hj2
        have hv := keysI_get (v := (sumTo X.items X.items.length).2) (j := j) (by omega)
        have hz : geti (sumTo X.items X.items.length).2 j = stSum X.items (k : Int) X.items.length := by rw [← hget]; simp [mget, hd]
        rw [hz] at hv
        simp only [← stSum.eq_1] at er
        simp [hkl, Stn.cells, hfind, hkey, hv, overL_length, show k + 1 ≤ 140737488355328 from by omega, show k + 1 ≤ maxLen from by simp [maxLen]; omega]
        refine again_of (k + 1) (by omega) (by omega) ?_
        simp [wk, er, et]
    · obtain rfl : k = P.stations.length := by omega
      simp
      refine answers_of rfl ?_
      simp [bools, overL_length]
      intro k hk
      simp [rowsB_get (show k < (overL P X P.stations.length).length by rw [overL_length]; exact hk)]
end Go.Qg

namespace Go.Qg
open Go.Proofs
set_option maxRecDepth 100000
set_option maxHeartbeats 16000000
set_option linter.unusedSimpArgs false
attribute [local irreducible] pwp pops pdraw pop popCall pdCall thenP blockP scopeP pspec Spec answers ppost CallW rend
@[simp] theorem wrap_4 : IntKind.i64.wrap 4 = 4 := i64_wrap (by omega)
@[simp] theorem wrap_5 : IntKind.i64.wrap 5 = 5 := i64_wrap (by omega)
@[simp] theorem wrap_6 : IntKind.i64.wrap 6 = 6 := i64_wrap (by omega)
@[simp] theorem wrap_7 : IntKind.i64.wrap 7 = 7 := i64_wrap (by omega)
def rl (P : Pln) (X : Pnt) (r : Nat) : List Bool := (List.range (manyR P (r + 2))).map (canB P X (r + 2))
theorem rl_length (P : Pln) (X : Pnt) (r : Nat) : (rl P X r).length = manyR P (r + 2) := by simp [rl]
theorem rl_get {P : Pln} {X : Pnt} {r i : Nat} (h : i < manyR P (r + 2)) : getb (rl P X r) i = canB P X (r + 2) i := by simp [rl, getb, h]
def ruleF : Nat → FuncId
  | 0 => 78
  | 1 => 79
  | 2 => 80
  | 3 => 81
  | 4 => 82
  | _ => 83
theorem rule_spec (P : Pln) (X : Pnt) (hP : PlnOk P) (hX : PntOk P X) {r : Nat} (hr : r < 6) : Spec Tryd.prog (ruleF r) [.agg (pntC P X)] (bools (rl P X r)) := by
  rcases r with _ | _ | _ | _ | _ | _ | r
  · rw [show rl P X 0 = overL P X P.stations.length from rfl]; exact over_spec P X hX hP.ns
  · rw [show rl P X 1 = [fullB P X] from rfl]; exact full_spec P X
  · rw [show rl P X 2 = wetL P X X.water.length from by rw [hX.nw]; rfl]; exact wet_spec P X hP.nf hX
  · rw [show rl P X 3 = [heavyB P X] from rfl]; exact heavy_spec P X hP hX
  · rw [show rl P X 4 = outL P X P.corners.length from rfl]; exact out_spec P X hP hX
  · rw [show rl P X 5 = [shortB P X] from rfl]; exact short_spec P X
  · omega
def rulesV (P : Pln) (X : Pnt) : PV := .agg [.clo (.func (ruleF 0)) [.agg (pntC P X)] [], .clo (.func (ruleF 1)) [.agg (pntC P X)] [], .clo (.func (ruleF 2)) [.agg (pntC P X)] [], .clo (.func (ruleF 3)) [.agg (pntC P X)] [], .clo (.func (ruleF 4)) [.agg (pntC P X)] [], .clo (.func (ruleF 5)) [.agg (pntC P X)] []]
theorem rules_spec (P : Pln) (X : Pnt) : Spec Tryd.prog 56 [.agg (pntC P X)] (rulesV P X) := by
  refine spec_of mixed Tryd.func56 (by decide) rfl Tryd.results56 Tryd.ntmps56 (by decide) 0 (by simp) ?_
  simp [pntC, cnrL, stnL, itmL, spnL]
  refine answers_of (x := rulesV P X) (by simp [rulesV, pntC, cnrL, stnL, itmL, spnL, ruleF]) ?_
  simp [rulesV, pntC, cnrL, stnL, itmL, spnL, ruleF]
theorem broken_none {P : Pln} {X : Pnt} (h : ∀ q, q < 6 → ∀ i, i < manyR P (q + 2) → canB P X (q + 2) i = false) : brokenP P X = (1, 0) := by
  rcases brokenF_spec (p := canB P X) (many := manyR P) 6 2 with ⟨h1, _⟩ | ⟨q, i, h1, h2, h3, h4, _⟩
  · exact h1
  · have := h (q - 2) (by omega) i (by rw [show q - 2 + 2 = q from by omega]; exact h3)
    rw [show q - 2 + 2 = q from by omega, h4] at this; cases this
theorem broken_some {P : Pln} {X : Pnt} {r i : Nat} (hr : r < 6) (h0 : ∀ q, q < r → ∀ i, i < manyR P (q + 2) → canB P X (q + 2) i = false) (hi : i < manyR P (r + 2)) (h1 : ∀ j, j < i → canB P X (r + 2) j = false) (h2 : canB P X (r + 2) i = true) : brokenP P X = (r + 2, i) := by
  rcases brokenF_spec (p := canB P X) (many := manyR P) 6 2 with ⟨_, g⟩ | ⟨q, k, g1, g2, g3, g4, g5, g6⟩
  · have := g (r + 2) (by omega) (by omega) i hi
    rw [h2] at this; cases this
  · have hq : q = r + 2 := by
      rcases Nat.lt_trichotomy q (r + 2) with h | h | h
      · have := h0 (q - 2) (by omega) k (by rw [show q - 2 + 2 = q from by omega]; exact g3)
        rw [show q - 2 + 2 = q from by omega, g4] at this; cases this
      · exact h
      · have := g6 (r + 2) (by omega) h i hi
        rw [h2] at this; cases this
    subst hq
    have hk : k = i := by
      rcases Nat.lt_trichotomy k i with h | h | h
      · have := h1 k h; rw [g4] at this; cases this
      · exact h
      · have := g5 i h; rw [h2] at this; cases this
    subst hk
    exact g1
theorem manyR_le {P : Pln} (hP : PlnOk P) (r : Nat) : manyR P r ≤ 12 := by
  have := hP.n; have := hP.ns; have := hP.nf
  unfold manyR; split
  · omega
  · split
    · omega
    · split <;> omega
theorem broken_spec (P : Pln) (X : Pnt) (hP : PlnOk P) (hX : PntOk P X) : Spec Tryd.prog 44 [.agg (pntC P X)] (.tup [.v (.int .i64 (brokenP P X).1), .v (.int .i64 (brokenP P X).2)]) := by
  have hrs := rules_spec P X
  have hr := fun r (h : r < 6) => rule_spec P X hP hX h
  have hml := manyR_le hP
  simp only [rulesV] at hrs
  refine spec_of mixed Tryd.func44 (by decide) rfl Tryd.results44 Tryd.ntmps44 (by decide) 0 (by simp) ?_
  have hpc : pntC P X = [.v (.int .i64 P.empty), .v (.int .i64 P.moment), .v (.int .i64 P.takeoff), .v (.int .i64 P.landing), cnrL P.corners, stnL P.stations, .v (.int .i64 P.tank.arm), .v (.int .i64 P.tank.most), .v (.int .i64 P.reserve), stnL P.floats, itmL X.items, .v (.int .i64 X.tank.low), .v (.int .i64 X.tank.high), spnL X.water, .v (.bool X.landing)] := rfl
  simp [hpc, cnrL, stnL, itmL, spnL]
  refine pop_spec hrs rfl false (.inl (by simp [hpc, cnrL, stnL, itmL, spnL])) (.inl rfl) rfl (by simp [hpc, cnrL, stnL, itmL, spnL]) ?_
  simp [hpc, cnrL, stnL, itmL, spnL]
  refine pwp_loop (fun r : Nat => [(10, .v (.int .i64 r))]) (fun r => r ≤ 6 ∧ ∀ q, q < r → ∀ i, i < manyR P (q + 2) → canB P X (q + 2) i = false) (fun r => 6 - r) 0 ⟨Nat.zero_le _, fun q h => by omega⟩ (by simp; rfl) (by simp [hpc, cnrL, stnL, itmL, spnL]) ?_
  intro r ⟨hr6, hno⟩
  by_cases hlt : r < 6
  · have hcall := hr r hlt
    have hm := hml (r + 2)
    have hl := rl_length P X r
    have hg := fun i (h : i < manyR P (r + 2)) => rl_get (P := P) (X := X) (r := r) h
    have hfound := fun i => broken_some (P := P) (X := X) (r := r) (i := i) hlt hno
    have hmore : (∀ i, i < manyR P (r + 2) → canB P X (r + 2) i = false) → ∀ q, q < r + 1 → ∀ i, i < manyR P (q + 2) → canB P X (q + 2) i = false := fun h q hq => by
      rcases Nat.lt_or_eq_of_le (Nat.le_of_lt_succ hq) with h' | rfl
      · exact hno q h'
      · exact h
    generalize rl P X r = L at hcall hl hg
    have hcases : r = 0 ∨ r = 1 ∨ r = 2 ∨ r = 3 ∨ r = 4 ∨ r = 5 := by omega
    rcases hcases with rfl | rfl | rfl | rfl | rfl | rfl
    all_goals
      simp only [ruleF] at hcall
      simp [ruleF]
      refine pop_spec hcall rfl false (.inl (by simp [hpc, cnrL, stnL, itmL, spnL])) (.inl rfl) rfl (by simp [bools]) ?_
      simp [bools]
      refine pwp_loop (fun i : Nat => [(17, .v (.int .i64 i))]) (fun i => i ≤ L.length ∧ ∀ j, j < i → getb L j = false) (fun i => L.length - i) 0 ⟨Nat.zero_le _, fun j h => by omega⟩ (by simp; rfl) (by simp) ?_
      intro i ⟨hi, hf⟩
      by_cases hil : i < L.length
      · have wi := i64_wrap (show -9223372036854775808 ≤ (i : Int) + 1 ∧ _ from by omega)
        have hgi := hg i (by omega)
        cases hb : getb L i with
        | true =>
          simp [hil, hb]
          refine answers_of rfl ?_
          rw [hfound i (by omega) (fun j hj => by rw [← hg j (by omega)]; exact hf j hj) (by rw [← hgi, hb])]
          simp
        | false =>
          simp [hil, hb]
          refine again_of (i + 1) ⟨by omega, fun j hj => ?_⟩ (by omega) ?_
          · rcases Nat.lt_or_eq_of_le (Nat.le_of_lt_succ hj) with h' | rfl
            · exact hf j h'
            · exact hb
          · simp [wi]
      · obtain rfl : i = L.length := by omega
        simp
        refine again_of (_ + 1) ⟨by omega, hmore fun i hi => by rw [← hg i hi]; exact hf i (by omega)⟩ (by omega) ?_
        simp
  · obtain rfl : r = 6 := by omega
    simp
    refine answers_of rfl ?_
    rw [broken_none hno]
    simp
end Go.Qg

namespace Go.Qg
open Go.Proofs
set_option maxRecDepth 100000
set_option maxHeartbeats 32000000
set_option linter.unusedSimpArgs false
attribute [local irreducible] pwp pops pdraw pop popCall pdCall thenP blockP scopeP pspec Spec answers ppost CallW rend
def worstN (P : Pln) (X : Pnt) (r i n : Nat) : Bool := if n < X.items.length then worstI P X r i n else if n = X.items.length then worstT P r i else worstF P r i (n - X.items.length - 1)
theorem part_cases (P : Pln) (X : Pnt) {n : Nat} (hn : n < partK X) : (n < X.items.length ∧ (partN P X n).kind = 0 ∧ (partN P X n).idx = n ∧ (partN P X n).arm = armI P X n) ∨ (n = X.items.length ∧ (partN P X n).kind = 1 ∧ (partN P X n).arm = P.tank.arm) ∨
    (X.items.length < n ∧ n - X.items.length - 1 < X.water.length ∧ (partN P X n).kind = 2 ∧ (partN P X n).idx = n - X.items.length - 1 ∧ (partN P X n).arm = armF P (n - X.items.length - 1)) := by
  unfold partN partK at *
  rcases Nat.lt_trichotomy n X.items.length with h | h | h
  · left; simp [h, partI']
  · right; left; simp [h, partT]
  · right; right
    rw [if_neg (by omega), if_neg (by omega)]
    exact ⟨h, by omega, rfl, rfl, rfl⟩
def w1V (P : Pln) (X : Pnt) (i n : Nat) : PF := [.undef, .rp [.v (.int .i64 6)] 0, .rp (pntC P X) 0, .rp [.v (.int .i64 i)] 0, .rp (partN P X n).cells 0, .box true [.v (.bool false)], .undef, .undef, .undef, .undef, .undef, .undef, .undef, .undef, .undef, .undef, .undef, .undef, .undef, .undef, .undef, .undef, .undef, .undef, .undef, .undef, .undef, .undef, .undef, .undef, .undef, .undef, .undef, .undef, .undef, .undef, .undef, .undef, .undef, .undef, .undef, .undef, .undef, .undef, .undef, .undef, .undef, .undef, .undef, .undef, .undef, .undef, .undef, .undef, .undef, .undef, .undef, .undef]
def w1A (P : Pln) (X : Pnt) (i n : Nat) : PF := [.undef, .rp [.v (.int .i64 6)] 0, .rp (pntC P X) 0, .rp [.v (.int .i64 i)] 0, .rp (partN P X n).cells 0, .ref 0 0, .undef, .undef, .undef, .undef, .undef, .undef, .undef, .undef, .undef, .undef, .undef, .undef, .undef, .undef, .undef, .undef, .undef, .undef, .undef, .undef, .undef, .undef, .undef, .undef, .undef, .undef, .undef, .undef, .undef, .undef, .undef, .undef, .undef, .undef, .undef, .undef, .undef, .undef, .undef, .undef, .undef, .undef, .undef, .undef, .undef, .undef, .undef, .undef, .undef, .undef, .undef, .undef]
theorem worst1_spec (P : Pln) (X : Pnt) (hP : PlnOk P) (hX : PntOk P X) (r i : Nat) (hr : 2 ≤ r ∧ r ≤ 7) (hi : i < manyR P r) (n : Nat) (hn : n < partK X) :
    Spec Tryd.prog 69 [.agg (partN P X n).cells, .rp [.v (.int .i64 r)] 0, .rp (pntC P X) 0, .rp [.v (.int .i64 i)] 0] (.v (.bool (worstN P X r i n))) := by
  have hn12 := hP.n
  have hgen := edges_gen P hP.corner (by omega)
  have hcases := part_cases P X hn
  have hsm := part_small hP hX hn
  have hni := hX.n
  unfold Spec
  refine callW_ofE Tryd.func69 (by decide) rfl (congrArg Array.toList Tryd.results69) Tryd.ntmps69 58 (by simp) (by decide) fun B0 hB0 hD0 => ?_
  have hlo : ∀ s B, ECtx B0 s B → B.lo = 58 := fun _ _ h => h.1.trans hB0
  have hr6 : r = 2 ∨ r = 3 ∨ r = 4 ∨ r = 5 ∨ r = 6 ∨ r = 7 := by omega
  rcases hr6 with rfl | rfl | rfl | rfl | rfl | rfl
  · refine XW_pwp mixed hlo (by decide) ?_
    rcases hcases with ⟨c1, c2, c3, c4⟩ | ⟨c1, c2, c4⟩ | ⟨c1, c0, c2, c3, c4⟩
    · simp [Prt.cells, c2, c3]
      refine pwp_draw 15 (by decide) ?_
      simp [pntC, itmL, Itm.cells, c1, c2, c3]
      refine ⟨by decide, ?_⟩
      refine ends_of (.v (.bool (worstN P X 2 i n))) [] [] (x := .v (.bool ((itmAt X.items n).station == (i : Int)))) (by simp) (by decide) ?_ ?_ rfl
      · simp
      · by_cases h : (itmAt X.items n).station = (i : Int) <;> simp [worstN, worstI, c1, h]
    · simp [Prt.cells, c2]
      refine pwp_draw 15 (by decide) ?_
      simp [c2]
      refine ⟨by decide, ?_⟩
      refine ends_of (.v (.bool (worstN P X 2 i n))) [] [] (x := .v (.bool false)) (by simp) (by decide) ?_ ?_ rfl
      · simp
      · simp [worstN, worstT, c1]
    · simp [Prt.cells, c2]
      refine pwp_draw 15 (by decide) ?_
      simp [c2]
      refine ⟨by decide, ?_⟩
      refine ends_of (.v (.bool (worstN P X 2 i n))) [] [] (x := .v (.bool false)) (by simp) (by decide) ?_ ?_ rfl
      · simp
      · simp [worstN, worstF, show ¬ n < X.items.length from by omega, show ¬ n = X.items.length from by omega]
  · refine XW_pwp mixed hlo (by decide) ?_
    rcases hcases with ⟨c1, c2, c3, c4⟩ | ⟨c1, c2, c4⟩ | ⟨c1, c0, c2, c3, c4⟩
    · simp [Prt.cells, c2, c3]
      refine ends_of (.v (.bool (worstN P X 3 i n))) [] [] (x := .v (.bool false)) (by simp) (by decide) ?_ ?_ rfl
      · simp
      · simp [worstN, worstI, c1]
    · simp [Prt.cells, c2]
      refine ends_of (.v (.bool (worstN P X 3 i n))) [] [] (x := .v (.bool true)) (by simp) (by decide) ?_ ?_ rfl
      · simp
      · simp [worstN, worstT, c1]
    · simp [Prt.cells, c2]
      refine ends_of (.v (.bool (worstN P X 3 i n))) [] [] (x := .v (.bool false)) (by simp) (by decide) ?_ ?_ rfl
      · simp
      · simp [worstN, worstF, show ¬ n < X.items.length from by omega, show ¬ n = X.items.length from by omega]
  · refine XW_pwp mixed hlo (by decide) ?_
    rcases hcases with ⟨c1, c2, c3, c4⟩ | ⟨c1, c2, c4⟩ | ⟨c1, c0, c2, c3, c4⟩
    · simp [Prt.cells, c2, c3]
      refine ends_of (.v (.bool (worstN P X 4 i n))) [] [] (x := .v (.bool false)) (by simp) (by decide) ?_ ?_ rfl
      · simp
      · simp [worstN, worstI, c1]
    · simp [Prt.cells, c2]
      refine ends_of (.v (.bool (worstN P X 4 i n))) [] [] (x := .v (.bool false)) (by simp) (by decide) ?_ ?_ rfl
      · simp
      · simp [worstN, worstT, c1]
    · generalize hk : n - X.items.length - 1 = k at *
      simp [Prt.cells, c2, c3]
      refine ends_of (.v (.bool (worstN P X 4 i n))) [] [] (x := .v (.bool ((k : Int) == (i : Int)))) (by simp) (by decide) ?_ ?_ rfl
      · simp
      · by_cases h : k = i
        · simp [worstN, worstF, show ¬ n < X.items.length from by omega, show ¬ n = X.items.length from by omega, hk, h]
        · simp [worstN, worstF, show ¬ n < X.items.length from by omega, show ¬ n = X.items.length from by omega, hk, h, show ¬ (k : Int) = i from by omega]
  · refine XW_pwp mixed hlo (by decide) ?_
    simp [Prt.cells]
    refine ends_of (.v (.bool (worstN P X 5 i n))) [] [] (x := .v (.bool true)) (by simp) (by decide) ?_ ?_ rfl
    · simp
    · simp [worstN, worstI, worstT, worstF]
  · have hic : i < P.corners.length := by simpa [manyR] using hi
    have hw : worstN P X 6 i n = decide (P.slope i (partN P X n).arm < 0) := by
      rcases hcases with ⟨c1, c2, c3, c4⟩ | ⟨c1, c2, c4⟩ | ⟨c1, c0, c2, c3, c4⟩
      · simp [worstN, c1, worstI, c4]
      · rw [c4]; simp [worstN, c1, worstT]
      · rw [c4]
        simp [worstN, worstF, show ¬ n < X.items.length from by omega, show ¬ n = X.items.length from by omega]
    rw [hw]
    refine XW_seqP mixed hlo (by decide) ?_
    simp [Prt.cells]
    refine XW_seqX (XW_seqP mixed hlo (by decide) ?_)
    simp
    refine XW_block ?_
    refine XW_seqP mixed hlo (by decide) ?_
    simp
    refine XW_cond (b := false) rfl ?_
    simp
    refine XW_seqP mixed hlo (by decide) ?_
    simp
    refine XW_cond (b := false) rfl ?_
    simp
    refine XW_seqP mixed hlo (by decide) ?_
    simp
    refine XW_cond (b := false) rfl ?_
    simp
    refine XW_seqP mixed hlo (by decide) ?_
    simp
    refine XW_cond (b := false) rfl ?_
    simp
    refine XW_seqP mixed hlo (by decide) ?_
    simp
    refine XW_cond (b := true) rfl ?_
    simp
    refine XW_seqP mixed hlo (by decide) ?_
    simp [pntC]
    refine pop_spec (edges_spec P) rfl false (.inl (by simp [Pln.cells, cnrL, stnL])) (.inl rfl) rfl (by simp) ?_
    simp
    refine XW_block ?_
    refine XW_rangeI (by decide) mixed rfl (by rfl) hgen edgs_plain (by decide) (by decide) 58 (by decide) [5] (by decide)
      (fun m => if m ≤ i then w1V P X i n else [])
      (fun m => w1A P X i n)
      (fun m => [.box false [.v (.bool false)]]) ?_ (fun m hm hV => ?_) (fun m q hq hV => ?_) ?_
    · rw [hB0]
      simp [w1V, Prt.cells, pntC, cnrL, stnL, itmL, spnL]
    · by_cases hs : m ≤ i
      · rw [if_pos hs]
        refine ⟨rfl, ?_, slots_view (t := 48) ?_ rfl⟩
        · simp [w1V]
        · simp [slots, w1V, w1A, Prt.cells, pntC, cnrL, stnL, itmL, spnL]
      · rw [if_neg hs] at hV; exact (hV rfl).elim
    · obtain ⟨hm, rfl⟩ := edg_get hq
      obtain ⟨s1, s2, s3, s4⟩ := edg_small hP.corner hm
      have hslope := slope_spec (m : Int) (P.cA m).weight (P.cA m).moment (P.dw m) (P.dm m) (partN P X n).arm s3 s4 hsm.1
      rw [show P.dw m * (partN P X n).arm - P.dm m = P.slope m (partN P X n).arm from rfl] at hslope
      rw [hB0]
      by_cases hs : m ≤ i
      · rw [if_pos hs]
        by_cases he : m = i
        · subst he
          simp [w1A, edgC, Prt.cells]
          refine pop_spec hslope rfl false (.inl (by simp)) (.inl rfl) rfl (by simp) ?_
          simp
          refine rend_r [.box false [.v (.bool (decide (P.slope m (partN P X n).arm < 0)))]] ?_ ?_
          · simp
          · simp [back, placeAll, w1V, blockX, thenX]
            refine ends_of (.v (.bool (decide (P.slope m (partN P X n).arm < 0)))) [] [] rfl (by decide) ?_ ?_ rfl
            · simp
            · simp
        · simp [w1A, edgC, Prt.cells, he, show ¬ (m : Int) = i from by omega]
          refine rend_n [.box false [.v (.bool false)]] ?_ ?_
          · simp
          · simp [back, placeAll, w1V, show m + 1 ≤ i from by omega, Prt.cells, pntC, cnrL, stnL, itmL, spnL]
      · rw [if_neg hs] at hV; exact (hV rfl).elim
    · intro hV
      rw [edgs_length, if_neg (by omega)] at hV
      exact (hV rfl).elim
  · refine XW_pwp mixed hlo (by decide) ?_
    simp [Prt.cells]
    refine ends_of (.v (.bool (worstN P X 7 i n))) [] [] (x := .v (.bool false)) (by simp) (by decide) ?_ ?_ rfl
    · simp
    · simp [worstN, worstI, worstT, worstF]
def wcI (P : Pln) (X : Pnt) (r i n : Nat) : List Int := (List.range (min n X.items.length)).map fun j => pickS (worstI P X r i j) (itmAt X.items j).low (itmAt X.items j).high
def wcT (P : Pln) (X : Pnt) (r i n : Nat) : Int := if X.items.length < n then pickS (worstT P r i) X.tank.low X.tank.high else 0
def wcF (P : Pln) (X : Pnt) (r i n : Nat) : List Int := (List.range (n - X.items.length - 1)).map fun j => pickS (worstF P r i j) (spnAt X.water j).low (spnAt X.water j).high
def wsV (P : Pln) (X : Pnt) (r i n : Nat) : PF := [.undef, .undef, .undef, .undef, .undef, .undef, .box true [.nil, .v (.int .i64 0), .nil], .rp [.clo (.func 69) [] [.rp [.v (.int .i64 r)] 0, .rp (pntC P X) 0, .rp [.v (.int .i64 i)] 0]] 0,
  .box true [.own 32 (wcI P X r i n).length 0 (wcI P X r i n).length false, .v (.int .i64 (wcT P X r i n)), .own 44 (wcF P X r i n).length 0 (wcF P X r i n).length false], .undef, .undef, .undef, .undef, .undef, .undef, .undef, .undef, .undef, .undef, .undef, .undef, .undef, .undef, .undef, .undef, .undef, .undef, .undef, .undef, .undef, .undef, .undef, .rows none (wcI P X r i n).length 3 1 (rowsI (wcI P X r i n)), .undef, .undef, .undef, .undef, .undef, .undef, .undef, .undef, .undef, .undef, .undef, .rows none (wcF P X r i n).length 3 1 (rowsI (wcF P X r i n)), .undef, .undef]
def wsA (P : Pln) (X : Pnt) (r i : Nat) : PF := [.undef, .undef, .undef, .undef, .undef, .undef, .undef, .rp [.clo (.func 69) [] [.rp [.v (.int .i64 r)] 0, .rp (pntC P X) 0, .rp [.v (.int .i64 i)] 0]] 0, .ref 0 0, .undef, .undef, .undef, .undef, .undef, .undef, .undef, .undef, .undef, .undef, .undef, .undef, .undef, .undef, .undef, .undef, .undef, .undef, .undef, .undef, .undef, .undef, .undef, .undef, .undef, .undef, .undef, .undef, .undef, .undef, .undef, .undef, .undef, .undef, .undef, .undef, .undef, .undef]
def wsH (P : Pln) (X : Pnt) (r i n : Nat) : PF := [.box false [.own 1 (wcI P X r i n).length 0 (wcI P X r i n).length false, .v (.int .i64 (wcT P X r i n)), .own 2 (wcF P X r i n).length 0 (wcF P X r i n).length false], .rows none (wcI P X r i n).length 3 1 (rowsI (wcI P X r i n)), .rows none (wcF P X r i n).length 3 1 (rowsI (wcF P X r i n))]
theorem wcI_len {P : Pln} {X : Pnt} {r i n : Nat} (h : n ≤ X.items.length) : (wcI P X r i n).length = n := by simp [wcI]; omega
theorem wcI_lenE {P : Pln} {X : Pnt} {r i n : Nat} (h : X.items.length ≤ n) : (wcI P X r i n).length = X.items.length := by simp [wcI]; omega
theorem wcI_succ {P : Pln} {X : Pnt} {r i n : Nat} (h : n < X.items.length) : wcI P X r i n ++ [pickS (worstI P X r i n) (itmAt X.items n).low (itmAt X.items n).high] = wcI P X r i (n + 1) := by
  simp only [wcI, Nat.min_eq_left (show n ≤ X.items.length by omega), Nat.min_eq_left (show n + 1 ≤ X.items.length by omega), List.range_succ, List.map_append, List.map_cons, List.map_nil]
theorem wcI_end {P : Pln} {X : Pnt} {r i n : Nat} (h : X.items.length ≤ n) : wcI P X r i (n + 1) = wcI P X r i n := by
  simp only [wcI, Nat.min_eq_right h, Nat.min_eq_right (show X.items.length ≤ n + 1 by omega)]
theorem wcF_nil {P : Pln} {X : Pnt} {r i n : Nat} (h : n ≤ X.items.length + 1) : wcF P X r i n = [] := by simp [wcF, show n - X.items.length - 1 = 0 from by omega]
theorem wcF_len (P : Pln) (X : Pnt) (r i n : Nat) : (wcF P X r i n).length = n - X.items.length - 1 := by simp [wcF]
theorem wcF_succ {P : Pln} {X : Pnt} {r i n : Nat} (h : X.items.length < n) : wcF P X r i n ++ [pickS (worstF P r i (n - X.items.length - 1)) (spnAt X.water (n - X.items.length - 1)).low (spnAt X.water (n - X.items.length - 1)).high] = wcF P X r i (n + 1) := by
  rw [wcF, wcF, show n + 1 - X.items.length - 1 = (n - X.items.length - 1) + 1 from by omega, List.range_succ, List.map_append]; rfl
def cseO (c : Cse) : PV := .agg [.own 0 c.items.length 0 c.items.length false, .v (.int .i64 c.tank), .own 1 c.water.length 0 c.water.length false]
def cseH (c : Cse) : PF := [.rows none c.items.length 3 1 (rowsI c.items), .rows none c.water.length 3 1 (rowsI c.water)]
theorem worst_both (b : Bool) (P : Pln) (X : Pnt) (hP : PlnOk P) (hX : PntOk P X) (r i : Nat) (hr : 2 ≤ r ∧ r ≤ 7) (hi : i < manyR P r) :
    CallW Tryd.prog 45 [.agg (pntC P X), .v (.int .i64 r), .v (.int .i64 i)] [] (fun out => out = bif b then .ret (cseO (worstC P X r i)) (cseH (worstC P X r i)) else .ret (.agg (worstC P X r i).cells) []) := by
  have hgen := parts_gen P X hX hP.nf
  have hw1 := worst1_spec P X hP hX r i hr hi
  have hni := hX.n
  have hK := partK_le hP hX
  refine callW_ofE Tryd.func45 (by decide) rfl (congrArg Array.toList Tryd.results45) Tryd.ntmps45 47 (by simp) (by decide) fun B0 hB0 hD0 => ?_
  have hlo : ∀ s B, ECtx B0 s B → B.lo = 47 := fun _ _ h => h.1.trans hB0
  refine XW_seqP mixed hlo (by decide) ?_
  simp [pntC, cnrL, stnL, itmL, spnL]
  refine XW_seqP mixed hlo (by decide) ?_
  simp
  refine XW_seqP mixed hlo (by decide) ?_
  simp
  refine XW_seqX (XW_seqP mixed hlo (by decide) ?_)
  simp
  refine pop_spec (parts_spec P X) rfl false (.inl (by simp [pntC, cnrL, stnL, itmL, spnL])) (.inl rfl) rfl (by simp) ?_
  simp
  refine XW_block ?_
  refine XW_range mixed rfl (by rfl) hgen parts_plain (by decide) (by decide) 47 (by decide) [8, 32, 44] (by decide)
    (fun n => wsV P X r i n) (fun n => wsA P X r i) (fun n => wsH P X r i n) ?_ (fun n hn => ⟨rfl, ?_, slots_view (t := 14) ?_ rfl⟩) (fun n q hq => ?_) ?_
  · rw [hB0]
    simp [wsV, wcI, wcT, wcF, pntC, cnrL, stnL, itmL, spnL]
  · simp [wsV, wsH]
  · simp [slots, wsV, wsA, wsH, pntC, cnrL, stnL, itmL, spnL]
  · obtain ⟨hn, rfl⟩ := parts_get hq
    have hcall := hw1 n hn
    rw [hB0]
    rcases Nat.lt_trichotomy n X.items.length with c | c | c
    · have hp : partN P X n = ⟨0, n, armI P X n, (itmAt X.items n).low, (itmAt X.items n).high⟩ := by simp [partN, c, partI']
      have hW : worstN P X r i n = worstI P X r i n := by simp [worstN, c]
      rw [hp, hW] at hcall
      simp only [Prt.cells] at hcall
      have l1 := wcI_len (P := P) (X := X) (r := r) (i := i) (show n ≤ X.items.length by omega)
      have l2 := wcI_len (P := P) (X := X) (r := r) (i := i) (show n + 1 ≤ X.items.length by omega)
      have er := rowsI_snoc (wcI P X r i n) (pickS (worstI P X r i n) (itmAt X.items n).low (itmAt X.items n).high)
      rw [wcI_succ c] at er
      have et : (wcI P X r i n).take n = wcI P X r i n := List.take_of_length_le (by omega)
      have f1 := wcF_nil (P := P) (X := X) (r := r) (i := i) (show n ≤ X.items.length + 1 by omega)
      have f2 := wcF_nil (P := P) (X := X) (r := r) (i := i) (show n + 1 ≤ X.items.length + 1 by omega)
      have t1 : wcT P X r i n = 0 := by simp [wcT, show ¬ X.items.length < n from by omega]
      have t2 : wcT P X r i (n + 1) = 0 := by simp [wcT, show ¬ X.items.length < n + 1 from by omega]
      rw [hp]
      simp [wsA, wsH, Prt.cells, l1, f1, t1]
      refine pop_spec hcall rfl false (.inl (by simp [pntC, cnrL, stnL, itmL, spnL])) (.inl rfl) rfl (by simp) ?_
      cases hb : worstI P X r i n with
      | true =>
        rw [hb] at er
        simp only [pickS, if_true] at er
        simp [l1, show (n + 1) * 8 ≤ 140737488355328 from by omega, show n + 1 ≤ maxLen from by simp [maxLen]; omega]
        refine rend_n (wsH P X r i (n + 1)) ?_ ?_
        · simp [wsH, l2, f2, t2, er, et]
        · simp [back, placeAll, wsV, wsH, l1, l2, f1, f2, t1, t2]
      | false =>
        rw [hb] at er
        simp only [pickS, Bool.false_eq_true, if_false] at er
        simp [l1, show (n + 1) * 8 ≤ 140737488355328 from by omega, show n + 1 ≤ maxLen from by simp [maxLen]; omega]
        refine rend_n (wsH P X r i (n + 1)) ?_ ?_
        · simp [wsH, l2, f2, t2, er, et]
        · simp [back, placeAll, wsV, wsH, l1, l2, f1, f2, t1, t2]
    · subst c
      have hp : partN P X X.items.length = ⟨1, 0, P.tank.arm, X.tank.low, X.tank.high⟩ := by simp [partN, partT]
      have hW : worstN P X r i X.items.length = worstT P r i := by simp [worstN]
      rw [hp, hW] at hcall
      simp only [Prt.cells] at hcall
      have l1 := wcI_lenE (P := P) (X := X) (r := r) (i := i) (Nat.le_refl X.items.length)
      have l2 := wcI_end (P := P) (X := X) (r := r) (i := i) (Nat.le_refl X.items.length)
      have f1 := wcF_nil (P := P) (X := X) (r := r) (i := i) (show X.items.length ≤ X.items.length + 1 by omega)
      have f2 := wcF_nil (P := P) (X := X) (r := r) (i := i) (show X.items.length + 1 ≤ X.items.length + 1 by omega)
      have t1 : wcT P X r i X.items.length = 0 := by simp [wcT]
      have t2 : wcT P X r i (X.items.length + 1) = pickS (worstT P r i) X.tank.low X.tank.high := by simp [wcT]
      rw [hp]
      simp [wsA, wsH, Prt.cells, l1, f1, t1]
      refine pop_spec hcall rfl false (.inl (by simp [pntC, cnrL, stnL, itmL, spnL])) (.inl rfl) rfl (by simp) ?_
      cases hb : worstT P r i with
      | true =>
        rw [hb] at t2
        simp only [pickS, if_true] at t2
        simp
        refine rend_n (wsH P X r i (X.items.length + 1)) ?_ ?_
        · simp [wsH, l1, l2, f2, t2]
        · simp [back, placeAll, wsV, wsH, l1, l2, f1, f2, t1, t2]
      | false =>
        rw [hb] at t2
        simp only [pickS, Bool.false_eq_true, if_false] at t2
        simp
        refine rend_n (wsH P X r i (X.items.length + 1)) ?_ ?_
        · simp [wsH, l1, l2, f2, t2]
        · simp [back, placeAll, wsV, wsH, l1, l2, f1, f2, t1, t2]
    · have hnw : n - X.items.length - 1 < X.water.length := by unfold partK at hn; omega
      have er := rowsI_snoc (wcF P X r i n) (pickS (worstF P r i (n - X.items.length - 1)) (spnAt X.water (n - X.items.length - 1)).low (spnAt X.water (n - X.items.length - 1)).high)
      rw [wcF_succ c] at er
      have l1 := wcI_lenE (P := P) (X := X) (r := r) (i := i) (show X.items.length ≤ n by omega)
      have l2 := wcI_end (P := P) (X := X) (r := r) (i := i) (show X.items.length ≤ n by omega)
      have f1 := wcF_len P X r i n
      have f2 := wcF_len P X r i (n + 1)
      rw [show n + 1 - X.items.length - 1 = n - X.items.length - 1 + 1 from by omega] at f2
      have t2 : wcT P X r i (n + 1) = wcT P X r i n := by simp [wcT, show X.items.length < n from c, show X.items.length < n + 1 from by omega]
      have hp : partN P X n = ⟨2, n - X.items.length - 1, armF P (n - X.items.length - 1), (spnAt X.water (n - X.items.length - 1)).low, (spnAt X.water (n - X.items.length - 1)).high⟩ := by
        simp [partN, show ¬ n < X.items.length from by omega, show ¬ n = X.items.length from by omega, partF]
      have hW : worstN P X r i n = worstF P r i (n - X.items.length - 1) := by simp [worstN, show ¬ n < X.items.length from by omega, show ¬ n = X.items.length from by omega]
      rw [hp, hW] at hcall
      simp only [Prt.cells] at hcall
      rw [hp]
      generalize hk : n - X.items.length - 1 = k at *
      have et : (wcF P X r i n).take k = wcF P X r i n := List.take_of_length_le (by omega)
      simp [wsA, wsH, Prt.cells, l1, f1]
      refine pop_spec hcall rfl false (.inl (by simp [pntC, cnrL, stnL, itmL, spnL])) (.inl rfl) rfl (by simp) ?_
      cases hb : worstF P r i k with
      | true =>
        rw [hb] at er
        simp only [pickS, if_true] at er
        simp [f1, show (k + 1) * 8 ≤ 140737488355328 from by omega, show k + 1 ≤ maxLen from by simp [maxLen]; omega]
        refine rend_n (wsH P X r i (n + 1)) ?_ ?_
        · simp [wsH, l1, l2, f2, t2, er, et]
        · simp [back, placeAll, wsV, wsH, l1, l2, f1, f2, t2]
      | false =>
        rw [hb] at er
        simp only [pickS, Bool.false_eq_true, if_false] at er
        simp [f1, show (k + 1) * 8 ≤ 140737488355328 from by omega, show k + 1 ≤ maxLen from by simp [maxLen]; omega]
        refine rend_n (wsH P X r i (n + 1)) ?_ ?_
        · simp [wsH, l1, l2, f2, t2, er, et]
        · simp [back, placeAll, wsV, wsH, l1, l2, f1, f2, t2]
  · rw [partsL_length]
    have e1 : wcI P X r i (partK X) = (worstC P X r i).items := by
      rw [wcI, Nat.min_eq_right (show X.items.length ≤ partK X by unfold partK; omega)]; rfl
    have e2 : wcT P X r i (partK X) = (worstC P X r i).tank := by
      rw [wcT, if_pos (show X.items.length < partK X by unfold partK; omega)]; rfl
    have e3 : wcF P X r i (partK X) = (worstC P X r i).water := by
      rw [wcF, show partK X - X.items.length - 1 = X.water.length from by unfold partK; omega]; rfl
    simp [blockX, thenX, wsV, e1, e2, e3]
    refine XW_pwp mixed hlo (by decide) ?_
    simp
    cases b with
    | true =>
      refine ends_of (cseO (worstC P X r i)) (cseH (worstC P X r i)) [32, 44] (x := .agg [.own 32 (worstC P X r i).items.length 0 (worstC P X r i).items.length false, .v (.int .i64 (worstC P X r i).tank), .own 44 (worstC P X r i).water.length 0 (worstC P X r i).water.length false]) (by simp) (by decide) ?_ ?_ rfl
      · simp [cseH]
      · simp [cseO, cseH]
    | false =>
      refine ends_of (.agg (worstC P X r i).cells) [] [] (x := .agg [.own 32 (worstC P X r i).items.length 0 (worstC P X r i).items.length false, .v (.int .i64 (worstC P X r i).tank), .own 44 (worstC P X r i).water.length 0 (worstC P X r i).water.length false]) (by simp) (by decide) ?_ ?_ rfl
      · simp
      · simp [Cse.cells, ints]
        refine ⟨fun k hk => ?_, fun k hk => ?_⟩
        · simp [rowsI_get hk]
        · simp [rowsI_get hk]
theorem worst_spec (P : Pln) (X : Pnt) (hP : PlnOk P) (hX : PntOk P X) (r i : Nat) (hr : 2 ≤ r ∧ r ≤ 7) (hi : i < manyR P r) :
    Spec Tryd.prog 45 [.agg (pntC P X), .v (.int .i64 r), .v (.int .i64 i)] (.agg (worstC P X r i).cells) := by
  unfold Spec
  have h := worst_both false P X hP hX r i hr hi
  simpa only [cond_false] using h
end Go.Qg

namespace Go.Qg
open Go.Proofs
set_option maxRecDepth 100000
set_option maxHeartbeats 32000000
set_option linter.unusedSimpArgs false
attribute [local irreducible] pwp pops pdraw pop popCall pdCall thenP blockP scopeP pspec Spec answers ppost CallW rend
instance : Inhabited Pnt := ⟨⟨[], ⟨0, 0⟩, [], false⟩⟩
def pntAt (l : List Pnt) (i : Nat) : Pnt := l.getD i default
def pntL (l : List Pnt) : PV := .sl 5 l.length fun i => (pntAt l i).cells
def rowsPt (l : List Pnt) : List (List PV) := l.map Pnt.cells
theorem Pnt.plain (X : Pnt) : plainL X.cells = true := by simp [Pnt.cells, plainL, PV.plain, itmL, spnL]
@[simp] theorem rowsPt_length (l : List Pnt) : (rowsPt l).length = l.length := by simp [rowsPt]
@[simp] theorem rowsPt_nil : rowsPt [] = [] := rfl
@[simp] theorem renLL_rowsPt (π : Nat → Nat) (l : List Pnt) : renLL π (rowsPt l) = rowsPt l := by
  induction l with
  | nil => rfl
  | cons x l ih => simp only [rowsPt, List.map_cons, renLL, renL_plain x.plain] at *; rw [ih]
@[simp] theorem namesLL_rowsPt (l : List Pnt) : namesLL (rowsPt l) = [] := by
  induction l with
  | nil => rfl
  | cons x l ih => simp only [rowsPt, List.map_cons, namesLL, plainL_names x.plain, List.nil_append] at *; exact ih
@[simp] theorem vwAllL_rowsPt (f : PF) (T : Tgt) (d : Nat) (l : List Pnt) : vo.vwAllL f T d (rowsPt l) (rowsPt l) = True := by
  induction l with
  | nil => simp [rowsPt, vo.vwAllL]
  | cons x l ih => simp only [rowsPt, List.map_cons, vo.vwAllL, vwAll_plain x.plain, true_and] at *; exact ih
theorem vwAllL_snoc (f : PF) (T : Tgt) (d : Nat) (l : List Pnt) (x y : List PV) : vo.vwAllL f T d (rowsPt l ++ [x]) (rowsPt l ++ [y]) = vwAll (vw f T d) x y := by
  induction l with
  | nil => simp [rowsPt, vo.vwAllL]
  | cons z l ih => simp only [rowsPt, List.map_cons, List.cons_append, vo.vwAllL, vwAll_plain z.plain, true_and] at *; exact ih
@[simp] theorem rowsPt_one {l : List Pnt} : (∀ (x : List PV), x ∈ rowsPt l → ∀ (y : PV), y ∈ x → y.one = true) ↔ True := by
  refine ⟨fun _ => trivial, fun _ x hx y hy => ?_⟩
  obtain ⟨b, _, rfl⟩ := List.mem_map.1 hx
  simp [Pnt.cells] at hy
  rcases hy with rfl | rfl | rfl | rfl | rfl <;> rfl
@[simp] theorem rowsPt_len1 {l : List Pnt} : (∀ (x : List PV), x ∈ rowsPt l → x.length = 5) ↔ True := by
  refine ⟨fun _ => trivial, fun _ x hx => ?_⟩
  obtain ⟨b, _, rfl⟩ := List.mem_map.1 hx
  rfl
@[simp] theorem rowsPt_take (l : List Pnt) (k : Nat) : (rowsPt l).take k = rowsPt (l.take k) := by simp [rowsPt]
theorem rowsPt_get {l : List Pnt} {k : Nat} (h : k < l.length) : (rowsPt l)[k]? = some (pntAt l k).cells := by simp [rowsPt, pntAt, h]
theorem rowsPt_snoc (l : List Pnt) (x : Pnt) : rowsPt l ++ [x.cells] = rowsPt (l ++ [x]) := by simp [rowsPt]
theorem rowsPt_allone (l : List Pnt) : ((rowsPt l).all fun r => r.all (·.one)) = true := by
  simp [List.all_eq_true, rowsPt, Pnt.cells, PV.one, itmL, spnL]
theorem rows_itm (l : List Itm) : (List.range l.length).map (fun i => (itmAt l i).cells) = rowsIt l := rowsIt_range l
def addX (items : List Itm) (now water : Spn) (nf : Nat) (b : Bool) : Pnt := ⟨items, now, List.replicate nf water, b⟩
def addH (now water : Spn) (l : List Pnt) : PF := [.box false now.cells, .box false water.cells, .box false [.own 3 l.length 0 l.length false], .rows none l.length 73 5 (rowsPt l)]
theorem add_spec (P : Pln) (g : Leg) (b : Bool) (now water : Spn) (l : List Pnt) (hi : g.items.length ≤ 12) (hf : P.floats.length ≤ 2) (hl : l.length ≤ 100) :
    CallW Tryd.prog 77 [.agg g.cells, .v (.bool b), .ref 0 0, .rp P.cells 0, .ref 1 0, .ref 2 0] (addH now water l) (fun out => out = .ret (.tup []) (addH now water (l ++ [addX g.items now water P.floats.length b]))) := by
  refine callW_of mixed Tryd.func77 (by decide) rfl (congrArg Array.toList Tryd.results77) Tryd.ntmps77 (by decide) 34 (by simp) (by decide) ?_
  simp [addH, Leg.cells, Pln.cells, cnrL, stnL, itmL, Spn.cells]
  simp [show g.items.length * 24 ≤ 140737488355328 from by omega, show g.items.length ≤ maxLen from by simp [maxLen]; omega]
  have hrl := rowsIt_length g.items
  refine pwp_loop (fun k : Nat => [(8, .box true [.sl 3 g.items.length fun i => (itmAt g.items i).cells, .v (.int .i64 now.low), .v (.int .i64 now.high), .own 27 k 0 k false, .v (.bool b)]), (16, .undef), (21, .v (.int .i64 k)), (27, .rows none k 29 2 (rowsSp (List.replicate k water)))]) (fun k => k ≤ P.floats.length) (fun k => P.floats.length - k) 0 (Nat.zero_le _) (by simp; rfl) ?_ ?_
  · simp [rows_itm]
    intro k hk
    rw [rowsIt_get hk]
    simp [Itm.cells]
  intro k hk
  by_cases hkl : k < P.floats.length
  · have wk := i64_wrap (show -9223372036854775808 ≤ (k : Int) + 1 ∧ _ from by omega)
    have er := rowsSp_snoc (List.replicate k water) water
    rw [show List.replicate k water ++ [water] = List.replicate (k + 1) water from by rw [List.replicate_succ']] at er
    simp only [Spn.cells] at er
    have et : (List.replicate k water).take k = List.replicate k water := List.take_of_length_le (by simp)
    simp [hkl, show (k + 1) * 16 ≤ 140737488355328 from by omega, show k + 1 ≤ maxLen from by simp [maxLen]; omega]
    refine again_of (k + 1) (by omega) (by omega) ?_
    simp [wk, er, et]
  · obtain rfl : k = P.floats.length := by omega
    simp [show (l.length + 1) * 72 ≤ 140737488355328 from by omega, show l.length + 1 ≤ maxLen from by simp [maxLen]; omega]
    have et : l.take l.length = l := List.take_of_length_le (Nat.le_refl _)
    refine ends_n (.tup []) (addH now water (l ++ [addX g.items now water P.floats.length b])) [] rfl (by decide) ?_ ?_ (by simp [addH, Spn.cells])
    · simp [addH, Spn.cells, et, ← rowsPt_snoc, vwAllL_snoc, rowsPt_allone, addX, Pnt.cells, itmL, spnL]
      intro k hk
      rw [rowsSp_get (by simpa using hk)]
      simp [Spn.cells, spnAt, List.getD, hk]
    · simp
theorem ptsL_length (P : Pln) (fuel : Spn) (legs : List Leg) (n : Nat) : (ptsL P fuel legs n).length = n := by simp [ptsL]
theorem ptsL_A (P : Pln) (fuel : Spn) (legs : List Leg) (k : Nat) : ptsL P fuel legs (2 * k) ++ [ptA P fuel legs k] = ptsL P fuel legs (2 * k + 1) := by
  rw [ptsL, ptsL, List.range_succ, List.map_append, List.map_cons, ptOf_even]; rfl
theorem ptsL_B (P : Pln) (fuel : Spn) (legs : List Leg) (k : Nat) : ptsL P fuel legs (2 * k + 1) ++ [ptB P fuel legs k] = ptsL P fuel legs (2 * (k + 1)) := by
  rw [ptsL, ptsL, show 2 * (k + 1) = (2 * k + 1) + 1 from by omega, List.range_succ (n := 2 * k + 1), List.map_append (l₂ := [2 * k + 1]), List.map_cons, ptOf_odd]; rfl
theorem points_spec (P : Pln) (fuel : Spn) (legs : List Leg) (hf : P.floats.length ≤ 2) (hT : TripOk P fuel legs) : Spec Tryd.prog 55 [.agg P.cells, .agg fuel.cells, legL legs] (pntL (ptsL P fuel legs (2 * legs.length))) := by
  have hn := hT.n
  refine spec_of mixed Tryd.func55 (by decide) rfl Tryd.results55 Tryd.ntmps55 (by decide) 1 (by simp) ?_
  simp [Pln.cells, cnrL, stnL, Spn.cells, legL]
  refine pwp_loop (fun k : Nat => [(3, .rp P.cells 0), (7, .box true [.own 70 (2 * k) 0 (2 * k) false]), (8, .box true (stT fuel legs k).cells), (9, .box true (stF legs k).cells), (10, .clo (.func 77) [] [.ref 8 0, .rp P.cells 0, .ref 9 0, .ref 7 0]), (15, .undef), (18, .v (.int .i64 k)), (70, .rows none (2 * k) 73 5 (rowsPt (ptsL P fuel legs (2 * k))))]) (fun k => k ≤ legs.length) (fun k => legs.length - k) 0 (Nat.zero_le _) (by simp; rfl) ?_ ?_
  · simp [Pln.cells, cnrL, stnL, Spn.cells, stT, stF, ptsL]
  intro k hk
  by_cases hkl : k < legs.length
  · have wk := i64_wrap (show -9223372036854775808 ≤ (k : Int) + 1 ∧ _ from by omega)
    have hL := hT.leg k hkl
    have b1 := stT_bounds hT k hk
    have b2 := stF_bounds hT k hk
    have b3 := stG_bounds hT k hk
    have l1 := hL.fuel
    have l2 := hL.burn
    have l3 := hL.leak
    have l4 := hL.n
    have hlA := ptsL_length P fuel legs (2 * k)
    have hlB := ptsL_length P fuel legs (2 * k + 1)
    have eT : stT fuel legs (k + 1) = ⟨(stT fuel legs k).low + (legAt legs k).fuel - (legAt legs k).burn.high, (stT fuel legs k).high + (legAt legs k).fuel - (legAt legs k).burn.low⟩ := rfl
    have eF := stF_succ legs k
    have addA := add_spec P (legAt legs k) false ⟨(stT fuel legs k).low + (legAt legs k).fuel, (stT fuel legs k).high + (legAt legs k).fuel⟩ (stG legs k) (ptsL P fuel legs (2 * k)) l4 hf (by omega)
    have addB := add_spec P (legAt legs k) true (stT fuel legs (k + 1)) (stF legs (k + 1)) (ptsL P fuel legs (2 * k + 1)) l4 hf (by omega)
    rw [show addX (legAt legs k).items ⟨(stT fuel legs k).low + (legAt legs k).fuel, (stT fuel legs k).high + (legAt legs k).fuel⟩ (stG legs k) P.floats.length false = ptA P fuel legs k from rfl, ptsL_A] at addA
    rw [show addX (legAt legs k).items (stT fuel legs (k + 1)) (stF legs (k + 1)) P.floats.length true = ptB P fuel legs k from rfl, ptsL_B] at addB
    simp only [addH, hlA, hlB, ptsL_length, Spn.cells] at addA addB
    have w1 := i64_wrap (show -9223372036854775808 ≤ (stT fuel legs k).low + (legAt legs k).fuel ∧ _ from by omega)
    have w2 := i64_wrap (show -9223372036854775808 ≤ (stT fuel legs k).high + (legAt legs k).fuel ∧ _ from by omega)
    have w3 := i64_wrap (show -9223372036854775808 ≤ (stT fuel legs k).low + (legAt legs k).fuel - (legAt legs k).burn.high ∧ _ from by omega)
    have w4 := i64_wrap (show -9223372036854775808 ≤ (stT fuel legs k).high + (legAt legs k).fuel - (legAt legs k).burn.low ∧ _ from by omega)
    have w5 := i64_wrap (show -9223372036854775808 ≤ (stG legs k).low + (legAt legs k).leak.low ∧ _ from by omega)
    have w6 := i64_wrap (show -9223372036854775808 ≤ (stG legs k).high + (legAt legs k).leak.high ∧ _ from by omega)
    cases hp : (legAt legs k).pump with
    | true =>
      have hG : stG legs k = ⟨0, 0⟩ := by simp [stG, hp]
      rw [hG] at addA eF w5 w6
      simp only [Int.zero_add] at addA eF w5 w6
      rw [eT, eF] at addB
      simp only at addB
      simp (config := { maxSteps := 4000000 }) [hkl, Leg.cells, hp, Pln.cells, cnrL, stnL, Spn.cells, itmL, w1, w2]
      refine pop_callW addA rfl [8, 9, 7, 70] false (by decide) ?_ (.inl ?_) ?_
      · simp
      · simp [Leg.cells, hp, Pln.cells, cnrL, stnL, itmL]
      rintro out rfl
      refine ⟨[], by simp [backOk], .inl rfl, by simp [back, backV, placeAll], ?_⟩
      simp (config := { maxSteps := 4000000 }) [back, backV, placeAll, Leg.cells, hp, itmL, w3, w4, w5, w6]
      refine pop_callW addB rfl [8, 9, 7, 70] false (by decide) ?_ (.inl ?_) ?_
      · simp
      · simp [Leg.cells, hp, Pln.cells, cnrL, stnL, itmL]
      rintro out rfl
      refine ⟨[], by simp [backOk], .inl rfl, by simp [back, backV, placeAll], ?_⟩
      simp (config := { maxSteps := 4000000 }) [back, backV, placeAll]
      refine again_of (k + 1) (by omega) (by omega) ?_
      simp [wk, eT, eF, Spn.cells, Pln.cells, cnrL, stnL, show 2 * (k + 1) = 2 * k + 1 + 1 from by omega]
    | false =>
      have hG : stG legs k = stF legs k := by simp [stG, hp]
      rw [hG] at addA eF w5 w6
      rw [eT, eF] at addB
      simp only at addB
      simp (config := { maxSteps := 4000000 }) [hkl, Leg.cells, hp, Pln.cells, cnrL, stnL, Spn.cells, itmL, w1, w2]
      refine pop_callW addA rfl [8, 9, 7, 70] false (by decide) ?_ (.inl ?_) ?_
      · simp
      · simp [Leg.cells, hp, Pln.cells, cnrL, stnL, itmL]
      rintro out rfl
      refine ⟨[], by simp [backOk], .inl rfl, by simp [back, backV, placeAll], ?_⟩
      simp (config := { maxSteps := 4000000 }) [back, backV, placeAll, Leg.cells, hp, itmL, w3, w4, w5, w6]
      refine pop_callW addB rfl [8, 9, 7, 70] false (by decide) ?_ (.inl ?_) ?_
      · simp
      · simp [Leg.cells, hp, Pln.cells, cnrL, stnL, itmL]
      rintro out rfl
      refine ⟨[], by simp [backOk], .inl rfl, by simp [back, backV, placeAll], ?_⟩
      simp (config := { maxSteps := 4000000 }) [back, backV, placeAll]
      refine again_of (k + 1) (by omega) (by omega) ?_
      simp [wk, eT, eF, Spn.cells, Pln.cells, cnrL, stnL, show 2 * (k + 1) = 2 * k + 1 + 1 from by omega]
  · obtain rfl : k = legs.length := by omega
    simp
    refine answers_of rfl ?_
    simp [pntL, ptsL_length]
    intro k hk
    simp [rowsPt_get (show k < (ptsL P fuel legs (2 * legs.length)).length by rw [ptsL_length]; exact hk), vwAll_plain (pntAt (ptsL P fuel legs (2 * legs.length)) k).plain]
    intro x hx
    simp [Pnt.cells] at hx
    rcases hx with rfl | rfl | rfl | rfl | rfl <;> simp [itmL, spnL]
end Go.Qg

namespace Go.Qg
open Go.Proofs
set_option maxRecDepth 100000
set_option maxHeartbeats 32000000
set_option linter.unusedSimpArgs false
attribute [local irreducible] pwp pops pdraw pop popCall pdCall thenP blockP scopeP pspec Spec answers ppost CallW rend
structure PntLen (X : Pnt) : Prop where
  i : X.items.length ≤ 9223372036854775807
  w : X.water.length ≤ 9223372036854775807
def watersB (X : Pnt) : Bool := allN X.water.length fun k => spanB (spnAt X.water k) 0 120000
def pointB (P : Pln) (X : Pnt) : Bool := itemsB X.items P.stations.length && spanB X.tank (-120000) 140000 && decide (X.water.length = P.floats.length) && watersB X
def rightB (P : Pln) (X : Pnt) : Bool := validB P && pointB P X
theorem itemsB_spec {l : List Itm} {ns : Nat} : itemsB l ns = true ↔ l.length ≤ 12 ∧ ∀ i, i < l.length → (0 ≤ (itmAt l i).station ∧ (itmAt l i).station < ns) ∧ 0 ≤ (itmAt l i).low ∧ (itmAt l i).low ≤ (itmAt l i).high ∧ (itmAt l i).high ≤ 20000 := by
  simp only [itemsB, Bool.and_eq_true, decide_eq_true_eq, allN_spec, itmB, inB_spec, spanB_spec]
  constructor
  · rintro ⟨h1, h2⟩
    exact ⟨h1, fun i hi => by have := h2 i hi; omega⟩
  · rintro ⟨h1, h2⟩
    exact ⟨h1, fun i hi => by have := h2 i hi; omega⟩
theorem point_ok {P : Pln} {X : Pnt} : pointB P X = true ↔ PntOk P X := by
  simp only [pointB, Bool.and_eq_true, decide_eq_true_eq, itemsB_spec, spanB_spec, watersB, allN_spec]
  constructor
  · rintro ⟨⟨⟨⟨h1, h2⟩, h3⟩, h4⟩, h5⟩
    exact ⟨h1, h2, h3, h4, h5⟩
  · intro h
    exact ⟨⟨⟨⟨h.n, h.item⟩, h.tank⟩, h.nw⟩, h.water⟩
theorem right_ok {P : Pln} {X : Pnt} : rightB P X = true ↔ PlnOk P ∧ PntOk P X := by
  rw [rightB, Bool.and_eq_true, valid_ok, point_ok]
theorem right_spec (P : Pln) (X : Pnt) (hP : PlnLen P) (hX : PntLen X) : Spec Tryd.prog 43 [.agg (pntC P X)] (.v (.bool (rightB P X))) := by
  have l1 := hX.i
  have l2 := hX.w
  have l3 := hP.s
  have hv := valid_spec P hP
  have hpc : pntC P X = [.v (.int .i64 P.empty), .v (.int .i64 P.moment), .v (.int .i64 P.takeoff), .v (.int .i64 P.landing), cnrL P.corners, stnL P.stations, .v (.int .i64 P.tank.arm), .v (.int .i64 P.tank.most), .v (.int .i64 P.reserve), stnL P.floats, itmL X.items, .v (.int .i64 X.tank.low), .v (.int .i64 X.tank.high), spnL X.water, .v (.bool X.landing)] := rfl
  refine spec_of mixed Tryd.func43 (by decide) rfl Tryd.results43 Tryd.ntmps43 (by decide) 0 (by simp) ?_
  simp [hpc, cnrL, stnL, itmL, spnL]
  refine pop_spec (allSpn_spec X.water l2 67 [] [] rfl rfl (fun k => spanB (spnAt X.water k) 0 120000) fun k hk => right1_spec (spnAt X.water k)) rfl false (.inl (by simp [spnL])) (.inl rfl) rfl (by simp) ?_
  simp
  refine pop_spec hv rfl false (.inl (by simp [Pln.cells, cnrL, stnL])) (.inl rfl) rfl (by simp) ?_
  cases h1 : validB P with
  | false => simp; refine answers_of rfl ?_; simp [rightB, h1]
  | true =>
  simp
  refine pop_spec (litems_spec X.items P.stations.length l1 (by omega)) rfl false (.inl (by simp [itmL])) (.inl rfl) rfl (by simp) ?_
  cases h2 : itemsB X.items P.stations.length with
  | false => simp; refine answers_of rfl ?_; simp [rightB, pointB, h2]
  | true =>
  simp
  refine pop_spec (lspan_spec X.tank (-120000) 140000) rfl false (.inl (by simp [Spn.cells])) (.inl rfl) rfl (by simp) ?_
  cases h3 : spanB X.tank (-120000) 140000 with
  | false => simp; refine answers_of rfl ?_; simp [rightB, pointB, h3]
  | true =>
  by_cases h4 : X.water.length = P.floats.length
  · simp [h4]
    refine answers_of rfl ?_; simp [rightB, pointB, h1, h2, h3, h4, watersB]
  · simp [h4, show ¬ (X.water.length : Int) = P.floats.length from by omega]
    refine answers_of rfl ?_; simp [rightB, pointB, h4]
def sureRes (P : Pln) (X : Pnt) : PV := if rightB P X = true then (if (brokenP P X).1 = 1 then .tup [.v (.int .i64 1), .v (.int .i64 0), .agg (Cse.mk [] 0 []).cells, .v (.int .i64 0)] else .tup [.v (.int .i64 (brokenP P X).1), .v (.int .i64 (brokenP P X).2), .agg (worstC P X (brokenP P X).1 (brokenP P X).2).cells, .v (.int .i64 0)])
  else .tup [.v (.int .i64 0), .v (.int .i64 0), .agg (Cse.mk [] 0 []).cells, .v (.int .i64 2)]
theorem broken_in (P : Pln) (X : Pnt) : (brokenP P X).1 = 1 ∨ (2 ≤ (brokenP P X).1 ∧ (brokenP P X).1 ≤ 7) ∧ (brokenP P X).2 < manyR P (brokenP P X).1 := by
  unfold brokenP
  rcases brokenF_spec (p := canB P X) (many := manyR P) 6 2 with ⟨h1, _⟩ | ⟨q, i, h1, h2, h3, _⟩
  · rw [h1]; exact .inl rfl
  · rw [h1]; exact .inr ⟨by simp only; omega, h3⟩
theorem Sure_spec (P : Pln) (X : Pnt) (hP : PlnLen P) (hX : PntLen X) : Spec Tryd.prog 24 [.agg P.cells, .agg X.cells] (sureRes P X) := by
  have hr := right_spec P X hP hX
  unfold sureRes
  refine spec_of mixed Tryd.func24 (by decide) rfl Tryd.results24 Tryd.ntmps24 (by decide) 0 (by simp) ?_
  simp [Pln.cells, cnrL, stnL, Pnt.cells, itmL, spnL]
  refine pop_spec hr rfl false (.inl (by simp [pntC, cnrL, stnL, itmL, spnL])) (.inl rfl) rfl (by simp) ?_
  cases h : rightB P X with
  | false =>
    simp
    refine answers_of (x := .tup [.v (.int .i64 0), .v (.int .i64 0), .agg [.nil, .v (.int .i64 0), .nil], .v (.int .i64 2)]) (by simp) ?_
    simp [Cse.cells, ints]
  | true =>
    obtain ⟨k1, k2⟩ := right_ok.1 h
    have hb := broken_spec P X k1 k2
    have hin := broken_in P X
    have hw := fun h1 h2 => worst_spec P X k1 k2 (brokenP P X).1 (brokenP P X).2 h1 h2
    generalize brokenP P X = br at *
    obtain ⟨r, i⟩ := br
    simp only at hb hin hw
    simp
    refine pop_spec hb rfl false (.inl (by simp [pntC, cnrL, stnL, itmL, spnL])) (.inl rfl) rfl (by simp) ?_
    by_cases hr1 : r = 1
    · subst hr1
      simp
      refine answers_of (x := .tup [.v (.int .i64 1), .v (.int .i64 0), .agg [.nil, .v (.int .i64 0), .nil], .v (.int .i64 0)]) (by simp) ?_
      simp [Cse.cells, ints]
    · have hin2 := hin.resolve_left hr1
      have hws := hw hin2.1 hin2.2
      simp only [Cse.cells, ints] at hws
      simp [hr1, show ¬ (r : Int) = 1 from by omega]
      refine pop_spec hws rfl false (.inl (by simp [pntC, cnrL, stnL, itmL, spnL])) (.inl rfl) rfl (by simp) ?_
      simp
      refine answers_of (x := .tup [.v (.int .i64 r), .v (.int .i64 i), .agg (worstC P X r i).cells, .v (.int .i64 0)]) (by simp [Cse.cells, ints]) ?_
      simp [Cse.cells, ints]
def firstRes (P : Pln) (fuel : Spn) (legs : List Leg) : PV := match tripP P fuel legs with
  | some j => .tup [.v (.int .i64 j), .v (.int .i64 (brokenP P (ptOf P fuel legs j)).1), .v (.int .i64 (brokenP P (ptOf P fuel legs j)).2)]
  | none => .tup [.v (.int .i64 (-1)), .v (.int .i64 1), .v (.int .i64 0)]
theorem pntAt_ptsL {P : Pln} {fuel : Spn} {legs : List Leg} {n j : Nat} (h : j < n) : pntAt (ptsL P fuel legs n) j = ptOf P fuel legs j := by simp [pntAt, ptsL, h]
@[simp] theorem wrap_m1' : IntKind.i64.wrap (-1) = -1 := i64_wrap (by omega)
theorem first_spec (P : Pln) (fuel : Spn) (legs : List Leg) (hP : PlnOk P) (hT : TripOk P fuel legs) : Spec Tryd.prog 32 [.agg P.cells, .agg fuel.cells, legL legs] (firstRes P fuel legs) := by
  have hn := hT.n
  have hp := points_spec P fuel legs hP.nf hT
  have hat := fun j (h : j < 2 * legs.length) => pntAt_ptsL (P := P) (fuel := fuel) (legs := legs) h
  have hok := fun j (h : j < 2 * legs.length) => ptOf_ok hT h
  have hlen := ptsL_length P fuel legs (2 * legs.length)
  have hres : ∀ j, j < 2 * legs.length → sureB P (ptOf P fuel legs j) = false → (∀ i, i < j → sureB P (ptOf P fuel legs i) = true) → firstRes P fuel legs = .tup [.v (.int .i64 j), .v (.int .i64 (brokenP P (ptOf P fuel legs j)).1), .v (.int .i64 (brokenP P (ptOf P fuel legs j)).2)] := fun j h1 h2 h3 => by
    have : tripP P fuel legs = some j := fstN_some.2 ⟨h1, by simp [h2], fun k hk => by simp [h3 k hk]⟩
    simp [firstRes, this]
  have hres0 : (∀ i, i < 2 * legs.length → sureB P (ptOf P fuel legs i) = true) → firstRes P fuel legs = .tup [.v (.int .i64 (-1)), .v (.int .i64 1), .v (.int .i64 0)] := fun h => by
    have : tripP P fuel legs = none := fstN_none.2 fun k hk => by simp [h k hk]
    simp [firstRes, this]
  generalize firstRes P fuel legs = R at *
  generalize ptsL P fuel legs (2 * legs.length) = L at *
  refine spec_of mixed Tryd.func32 (by decide) rfl Tryd.results32 Tryd.ntmps32 (by decide) 0 (by simp) ?_
  simp [Pln.cells, cnrL, stnL, Spn.cells, legL]
  refine pop_spec hp rfl false (.inl (by simp [Pln.cells, cnrL, stnL, Spn.cells, legL])) (.inl rfl) rfl (by simp [pntL]) ?_
  simp [pntL, hlen]
  refine pwp_loop (fun k : Nat => [(18, .v (.int .i64 k))]) (fun k => k ≤ 2 * legs.length ∧ ∀ i, i < k → sureB P (ptOf P fuel legs i) = true) (fun k => 2 * legs.length - k) 0 ⟨Nat.zero_le _, fun i hi => by omega⟩ (by simp; rfl) (by simp [hlen]) ?_
  intro k ⟨hk, hq⟩
  by_cases hkl : k < 2 * legs.length
  · have wk := i64_wrap (show -9223372036854775808 ≤ (k : Int) + 1 ∧ _ from by omega)
    have hb := broken_spec P (ptOf P fuel legs k) hP (hok k hkl)
    have hX : pntC P (ptOf P fuel legs k) = pntC P (pntAt L k) := by rw [hat k hkl]
    rw [hX] at hb
    have hs : sureB P (ptOf P fuel legs k) = decide ((brokenP P (ptOf P fuel legs k)).1 = 1) := rfl
    have hr := hres k hkl
    generalize brokenP P (ptOf P fuel legs k) = br at *
    obtain ⟨r, i⟩ := br
    simp only at hb hs hr
    simp (config := { maxSteps := 4000000 }) [show (k : Int) < 2 * (legs.length : Int) from by omega, hlen, show k < L.length from by omega, hkl, Pnt.cells, itmL, spnL]
    refine pop_spec hb rfl false (.inl (by simp [pntC, cnrL, stnL, itmL, spnL])) (.inl rfl) rfl (by simp) ?_
    by_cases hr1 : r = 1
    · subst hr1
      simp
      refine again_of (k + 1) ⟨by omega, fun j hj => ?_⟩ (by omega) ?_
      · rcases Nat.lt_or_eq_of_le (Nat.le_of_lt_succ hj) with h' | rfl
        · exact hq j h'
        · rw [hs]; rfl
      · simp [wk, hlen]
    · simp [hr1, show ¬ (r : Int) = 1 from by omega]
      refine answers_of rfl ?_
      rw [hr (by rw [hs]; simp [hr1]) hq]
      simp
  · obtain rfl : k = 2 * legs.length := by omega
    simp [hlen]
    refine answers_of rfl ?_
    rw [hres0 hq]
    simp
def tripRes (P : Pln) (fuel : Spn) (legs : List Leg) : PV := if trippedE P fuel legs = 0 then (match tripP P fuel legs with
  | some j => .tup [.v (.int .i64 j), .v (.int .i64 (brokenP P (ptOf P fuel legs j)).1), .v (.int .i64 (brokenP P (ptOf P fuel legs j)).2), .v (.int .i64 0)]
  | none => .tup [.v (.int .i64 (-1)), .v (.int .i64 1), .v (.int .i64 0), .v (.int .i64 0)]) else .tup [.v (.int .i64 0), .v (.int .i64 0), .v (.int .i64 0), .v (.int .i64 (trippedE P fuel legs))]
theorem legsB_ok {P : Pln} {legs : List Leg} (h : (allN legs.length fun k => legB P.stations.length (legAt legs k)) = true) : ∀ i, i < legs.length → LegOk P (legAt legs i) := fun i hi => by
  have := allN_spec.1 h i hi
  simp only [legB, Bool.and_eq_true, itemsB_spec, inB_spec, spanB_spec] at this
  obtain ⟨⟨⟨⟨h1, h2⟩, h3⟩, h4⟩, h5⟩ := this
  exact ⟨h1, h2, h3, h4, h5⟩
theorem tripped_ok {P : Pln} {fuel : Spn} {legs : List Leg} : trippedE P fuel legs = 0 ↔ PlnOk P ∧ TripOk P fuel legs := by
  unfold trippedE
  constructor
  · intro h
    split at h
    · omega
    · rename_i h1
      split at h
      · rename_i h2
        simp only [tripE, if_neg h1] at h
        split at h
        · omega
        · rename_i h3
          have a1 : ¬ legs.length = 0 := fun e => h3 (.inl e)
          have a2 : spanB fuel 0 20000 = true := by
            cases he : spanB fuel 0 20000 with
            | true => rfl
            | false => exact (h3 (.inr (.inl he))).elim
          have a3 : (allN legs.length fun k => legB P.stations.length (legAt legs k)) = true := by
            cases he : allN legs.length fun k => legB P.stations.length (legAt legs k) with
            | true => rfl
            | false => exact (h3 (.inr (.inr he))).elim
          exact ⟨valid_ok.1 h2, spanB_spec.1 a2, by omega, legsB_ok a3⟩
      · omega
  · rintro ⟨h1, h2⟩
    have hn := h2.n
    rw [if_neg (by omega), if_pos (valid_ok.2 h1), tripE, if_neg (by omega), if_neg]
    rintro (h | h | h)
    · omega
    · rw [spanB_spec.2 h2.fuel] at h; cases h
    · have : (allN legs.length fun k => legB P.stations.length (legAt legs k)) = true := allN_spec.2 fun k hk => by
        have hL := h2.leg k hk
        simp only [legB, Bool.and_eq_true, itemsB_spec, inB_spec, spanB_spec]
        exact ⟨⟨⟨⟨hL.n, hL.item⟩, hL.fuel⟩, hL.burn⟩, hL.leak⟩
      rw [this] at h; cases h
structure LegsLen (legs : List Leg) : Prop where
  n : legs.length ≤ 9223372036854775807
  i : ∀ k, k < legs.length → (legAt legs k).items.length ≤ 9223372036854775807
theorem Trip_spec (P : Pln) (fuel : Spn) (legs : List Leg) (hP : PlnLen P) (hl : LegsLen legs) : Spec Tryd.prog 13 [.agg P.cells, .agg fuel.cells, legL legs] (tripRes P fuel legs) := by
  have ht := tripped_spec P fuel legs hP hl.n hl.i
  unfold tripRes
  refine spec_of mixed Tryd.func13 (by decide) rfl Tryd.results13 Tryd.ntmps13 (by decide) 0 (by simp) ?_
  simp [Pln.cells, cnrL, stnL, Spn.cells, legL]
  refine pop_spec ht rfl false (.inl (by simp [Pln.cells, cnrL, stnL, Spn.cells, legL])) (.inl rfl) rfl (by simp) ?_
  by_cases h : trippedE P fuel legs = 0
  · obtain ⟨k1, k2⟩ := tripped_ok.1 h
    have hf := first_spec P fuel legs k1 k2
    unfold firstRes at hf
    simp [h]
    cases hj : tripP P fuel legs with
    | none =>
      rw [hj] at hf
      simp only at hf
      refine pop_spec hf rfl false (.inl (by simp [Pln.cells, cnrL, stnL, Spn.cells, legL])) (.inl rfl) rfl (by simp) ?_
      simp
      refine answers_of rfl ?_; simp
    | some j =>
      rw [hj] at hf
      simp only at hf
      refine pop_spec hf rfl false (.inl (by simp [Pln.cells, cnrL, stnL, Spn.cells, legL])) (.inl rfl) rfl (by simp) ?_
      simp
      refine answers_of rfl ?_; simp
  · simp [h]
    refine answers_of rfl ?_; simp
end Go.Qg

namespace Go.Qg
open Go.Proofs
set_option maxRecDepth 100000
set_option maxHeartbeats 32000000
set_option linter.unusedSimpArgs false
attribute [local irreducible] pwp pops pdraw pop popCall pdCall thenP blockP scopeP pspec Spec answers ppost CallW rend
def rowsLg (l : List Leg) : List (List PV) := l.map Leg.cells
theorem Leg.plain (X : Leg) : plainL X.cells = true := by simp [Leg.cells, plainL, PV.plain, itmL]
@[simp] theorem rowsLg_length (l : List Leg) : (rowsLg l).length = l.length := by simp [rowsLg]
@[simp] theorem rowsLg_nil : rowsLg [] = [] := rfl
@[simp] theorem renLL_rowsLg (π : Nat → Nat) (l : List Leg) : renLL π (rowsLg l) = rowsLg l := by
  induction l with
  | nil => rfl
  | cons x l ih => simp only [rowsLg, List.map_cons, renLL, renL_plain x.plain] at *; rw [ih]
@[simp] theorem namesLL_rowsLg (l : List Leg) : namesLL (rowsLg l) = [] := by
  induction l with
  | nil => rfl
  | cons x l ih => simp only [rowsLg, List.map_cons, namesLL, plainL_names x.plain, List.nil_append] at *; exact ih
@[simp] theorem vwAllL_rowsLg (f : PF) (T : Tgt) (d : Nat) (l : List Leg) : vo.vwAllL f T d (rowsLg l) (rowsLg l) = True := by
  induction l with
  | nil => simp [rowsLg, vo.vwAllL]
  | cons x l ih => simp only [rowsLg, List.map_cons, vo.vwAllL, vwAll_plain x.plain, true_and] at *; exact ih
theorem vwAllL_snocLg (f : PF) (T : Tgt) (d : Nat) (l : List Leg) (x y : List PV) : vo.vwAllL f T d (rowsLg l ++ [x]) (rowsLg l ++ [y]) = vwAll (vw f T d) x y := by
  induction l with
  | nil => simp [rowsLg, vo.vwAllL]
  | cons z l ih => simp only [rowsLg, List.map_cons, List.cons_append, vo.vwAllL, vwAll_plain z.plain, true_and] at *; exact ih
@[simp] theorem rowsLg_one {l : List Leg} : (∀ (x : List PV), x ∈ rowsLg l → ∀ (y : PV), y ∈ x → y.one = true) ↔ True := by
  refine ⟨fun _ => trivial, fun _ x hx y hy => ?_⟩
  obtain ⟨b, _, rfl⟩ := List.mem_map.1 hx
  simp [Leg.cells] at hy
  rcases hy with rfl | rfl | rfl | rfl | rfl | rfl | rfl <;> rfl
@[simp] theorem rowsLg_len1 {l : List Leg} : (∀ (x : List PV), x ∈ rowsLg l → x.length = 7) ↔ True := by
  refine ⟨fun _ => trivial, fun _ x hx => ?_⟩
  obtain ⟨b, _, rfl⟩ := List.mem_map.1 hx
  rfl
@[simp] theorem rowsLg_take (l : List Leg) (k : Nat) : (rowsLg l).take k = rowsLg (l.take k) := by simp [rowsLg]
theorem rowsLg_get {l : List Leg} {k : Nat} (h : k < l.length) : (rowsLg l)[k]? = some (legAt l k).cells := by simp [rowsLg, legAt, h]
theorem rowsLg_snoc (l : List Leg) (x : Leg) : rowsLg l ++ [x.cells] = rowsLg (l ++ [x]) := by simp [rowsLg]
theorem rowsLg_allone (l : List Leg) : ((rowsLg l).all fun r => r.all (·.one)) = true := by
  simp [List.all_eq_true, rowsLg, Leg.cells, PV.one, itmL]
def psnItm (x : Psn) : Itm := ⟨x.station, x.low, x.high⟩
def onB (people : List Psn) (i : Nat) (k : Int) : Bool := inB (i : Int) (psnAt people k.toNat).first (psnAt people k.toNat).last
def onIt (people : List Psn) (i : Nat) (some : List Int) : List Itm := (some.filter (onB people i)).map fun k => psnItm (psnAt people k.toNat)
def takenLeg (people : List Psn) (some : List Int) (i : Nat) (g : Leg) : Leg := { g with items := g.items ++ onIt people i some }
def takenN (legs : List Leg) (people : List Psn) (some : List Int) (n : Nat) : List Leg := (List.range n).map fun i => takenLeg people some i (legAt legs i)
def fitsN (legs : List Leg) (people : List Psn) (some : List Int) (n : Nat) : Bool := allN n fun i => decide ((takenLeg people some i (legAt legs i)).items.length ≤ 12)
theorem takenN_length (legs : List Leg) (people : List Psn) (some : List Int) (n : Nat) : (takenN legs people some n).length = n := by simp [takenN]
theorem takenN_succ (legs : List Leg) (people : List Psn) (some : List Int) (n : Nat) : takenN legs people some (n + 1) = takenN legs people some n ++ [takenLeg people some n (legAt legs n)] := by
  rw [takenN, List.range_succ, List.map_append]; rfl
theorem fitsN_succ (legs : List Leg) (people : List Psn) (some : List Int) (n : Nat) : fitsN legs people some (n + 1) = (fitsN legs people some n && decide ((takenLeg people some n (legAt legs n)).items.length ≤ 12)) := by
  rw [Bool.eq_iff_iff]
  simp only [fitsN, allN_spec, Bool.and_eq_true]
  exact ⟨fun h => ⟨fun j hj => h j (by omega), h n (by omega)⟩, fun h j hj => by
    rcases Nat.lt_succ_iff_lt_or_eq.1 hj with hj | rfl
    · exact h.1 j hj
    · exact h.2⟩
theorem onIt_succ (people : List Psn) (i : Nat) (some : List Int) {j : Nat} (hj : j < some.length) : onIt people i (some.take (j + 1)) = onIt people i (some.take j) ++ (if onB people i (geti some j) = true then [psnItm (psnAt people (geti some j).toNat)] else []) := by
  have : some.take (j + 1) = some.take j ++ [geti some j] := by
    rw [List.take_add_one]
    simp [geti, List.getElem?_eq_getElem hj]
  rw [this, onIt, onIt, List.filter_append, List.map_append]
  congr 1
  by_cases h : onB people i (geti some j) = true
  · simp [h]
  · simp [h]
theorem onIt_len (people : List Psn) (i : Nat) (some : List Int) (j : Nat) : (onIt people i (some.take j)).length ≤ some.length := by
  rw [onIt, List.length_map]
  exact Nat.le_trans (List.length_filter_le _ _) (by rw [List.length_take]; exact Nat.min_le_right _ _)
theorem taken_spec (legs : List Leg) (people : List Psn) (some : List Int) (hl : legs.length ≤ 6) (hi : ∀ i, i < legs.length → (legAt legs i).items.length ≤ 12) (hp : people.length ≤ 8) (hs : some.length ≤ 8)
    (hk : ∀ j, j < some.length → 0 ≤ geti some j ∧ geti some j < (people.length : Int)) :
    Spec Tryd.prog 50 [legL legs, psnL people, ints some] (.tup [legL (takenN legs people some legs.length), .v (.bool (fitsN legs people some legs.length))]) := by
  refine spec_of mixed Tryd.func50 (by decide) rfl Tryd.results50 Tryd.ntmps50 (by decide) 0 (by simp) ?_
  simp [legL, psnL, ints]
  refine pwp_loop (fun i : Nat => [(8, .own 65 i 0 i false), (9, .v (.bool (fitsN legs people some i))), (17, .v (.int .i64 i)), (65, .rows none i 47 7 (rowsLg (takenN legs people some i)))]) (fun i => i ≤ legs.length) (fun i => legs.length - i) 0 (Nat.zero_le _) (by simp; rfl) ?_ ?_
  · simp [takenN, fitsN, allN]
  intro i hi'
  by_cases hil : i < legs.length
  · have wi := i64_wrap (show -9223372036854775808 ≤ (i : Int) + 1 ∧ _ from by omega)
    have hx := hi i hil
    have er := rowsIt_range (legAt legs i).items
    simp [hil, Leg.cells, itmL, show (legAt legs i).items.length * 24 ≤ 140737488355328 from by omega, show (legAt legs i).items.length ≤ maxLen from by simp [maxLen]; omega]
    refine pwp_loop (fun j : Nat => [(11, .box true [.own 24 (onIt people i (some.take j)).length 0 ((legAt legs i).items.length + (onIt people i (some.take j)).length) false, .v (.bool (legAt legs i).pump), .v (.int .i64 (legAt legs i).fuel), .v (.int .i64 (legAt legs i).burn.low), .v (.int .i64 (legAt legs i).burn.high), .v (.int .i64 (legAt legs i).leak.low), .v (.int .i64 (legAt legs i).leak.high)]),
      (24, .rows none (onIt people i (some.take j)).length 49 3 (rowsIt ((legAt legs i).items ++ onIt people i (some.take j)))), (28, .v (.int .i64 j))]) (fun j => j ≤ some.length) (fun j => some.length - j) 0 (Nat.zero_le _) (by simp; rfl) ?_ ?_
    · simp [onIt, er]
    intro j hj
    by_cases hjl : j < some.length
    · have wj := i64_wrap (show -9223372036854775808 ≤ (j : Int) + 1 ∧ _ from by omega)
      obtain ⟨k0, k1⟩ := hk j hjl
      obtain ⟨k, hk'⟩ : ∃ k : Nat, geti some j = (k : Int) := ⟨_, (Int.toNat_of_nonneg k0).symm⟩
      rw [hk'] at k1
      have hkp : k < people.length := by omega
      have es := onIt_succ people i some hjl
      have hol := onIt_len people i some j
      rw [hk'] at es
      simp only [Int.toNat_natCast] at es
      simp [hjl, hk', hkp, Psn.cells]
      refine pop_spec (lin_spec (i : Int) (psnAt people k).first (psnAt people k).last) rfl false (.inl (by simp)) (.inl rfl) rfl (by simp) ?_
      have hb' : onB people i (k : Int) = inB (i : Int) (psnAt people k).first (psnAt people k).last := by simp [onB]
      cases hb : inB (i : Int) (psnAt people k).first (psnAt people k).last with
      | true =>
        rw [hb', hb, if_pos rfl] at es
        have er2 := rowsIt_snoc' ((legAt legs i).items ++ onIt people i (some.take j)) (psnItm (psnAt people k))
        have et : ((legAt legs i).items ++ onIt people i (some.take j)).take ((legAt legs i).items.length + (onIt people i (some.take j)).length) = (legAt legs i).items ++ onIt people i (some.take j) := List.take_of_length_le (by simp)
        simp only [psnItm, List.append_assoc] at er2
        simp [show ((legAt legs i).items.length + (onIt people i (some.take j)).length + 1) * 24 ≤ 140737488355328 from by omega, show (legAt legs i).items.length + (onIt people i (some.take j)).length + 1 ≤ maxLen from by simp [maxLen]; omega]
        refine again_of (j + 1) (by omega) (by omega) ?_
        have et2 : (onIt people i (some.take j)).length + (legAt legs i).items.length = ((legAt legs i).items ++ onIt people i (some.take j)).length := by simp; omega
        simp [wj, es, er2, et]
        exact ⟨by omega, rfl⟩
      | false =>
        rw [hb', hb, if_neg (by simp), List.append_nil] at es
        simp
        refine again_of (j + 1) (by omega) (by omega) ?_
        simp [wj, es]
    · obtain rfl : j = some.length := by omega
      have hol := onIt_len people i some some.length
      rw [List.take_of_length_le (Nat.le_refl _)] at hol
      have ef := fitsN_succ legs people some i
      have en := takenN_succ legs people some i
      have et : (takenN legs people some i).take i = takenN legs people some i := List.take_of_length_le (by rw [takenN_length]; exact Nat.le_refl _)
      simp only [takenLeg, List.length_append] at ef
      rw [List.take_of_length_le (Nat.le_refl _)]
      have hap : (takenN legs people some i ++ [takenLeg people some i (legAt legs i)]) = takenN legs people some (i + 1) := en.symm
      have big : (i + 1) * 72 ≤ 140737488355328 ∧ i + 1 ≤ maxLen := by simp [maxLen]; omega
      cases hf : fitsN legs people some i with
      | false =>
        rw [hf, Bool.false_and] at ef
        simp [takenN_length, hf, big, guard]
        refine again_of (i + 1) (by omega) (by omega) ?_
        simp [wi, ef, en, et, ← rowsLg_snoc, vwAllL_snocLg, rowsLg_allone, takenLeg, Leg.cells, itmL]
        intro k hk
        rw [rowsIt_get (by simpa using hk)]
        simp [Itm.cells]
      | true =>
        by_cases h12 : (legAt legs i).items.length + (onIt people i some).length ≤ 12
        · rw [hf, Bool.true_and, decide_eq_true h12] at ef
          simp [takenN_length, hf, big, guard, show ((legAt legs i).items.length : Int) + ((onIt people i some).length : Int) ≤ 12 from by omega]
          refine again_of (i + 1) (by omega) (by omega) ?_
          simp [wi, ef, en, et, ← rowsLg_snoc, vwAllL_snocLg, rowsLg_allone, takenLeg, Leg.cells, itmL]
          intro k hk
          rw [rowsIt_get (by simpa using hk)]
          simp [Itm.cells]
        · rw [hf, Bool.true_and, decide_eq_false h12] at ef
          simp [takenN_length, hf, big, guard, show ¬ ((legAt legs i).items.length : Int) + ((onIt people i some).length : Int) ≤ 12 from by omega]
          refine again_of (i + 1) (by omega) (by omega) ?_
          simp [wi, ef, en, et, ← rowsLg_snoc, vwAllL_snocLg, rowsLg_allone, takenLeg, Leg.cells, itmL]
          intro k hk
          rw [rowsIt_get (by simpa using hk)]
          simp [Itm.cells]
  · obtain rfl : i = legs.length := by omega
    simp
    refine answers_of rfl ?_
    simp [legL, takenN_length]
    intro k hk
    simp [rowsLg_get (show k < (takenN legs people some legs.length).length by rw [takenN_length]; exact hk), vwAll_plain (legAt (takenN legs people some legs.length) k).plain]
    intro x hx
    simp [Leg.cells] at hx
    rcases hx with rfl | rfl | rfl | rfl | rfl | rfl | rfl <;> simp [itmL]
end Go.Qg

namespace Go.Qg
open Go.Proofs
set_option maxRecDepth 100000
set_option maxHeartbeats 32000000
set_option linter.unusedSimpArgs false
attribute [local irreducible] pwp pops pdraw pop popCall pdCall thenP blockP scopeP pspec Spec answers ppost CallW rend
def psnB (P : Pln) (nl : Nat) (x : Psn) : Bool := spanB ⟨x.low, x.high⟩ 0 20000 && inB x.station 0 ((P.stations.length : Int) - 1) && spanB ⟨x.first, x.last⟩ 0 ((nl : Int) - 1) && inB x.worth 0 1000000
theorem take1_spec (P : Pln) (legs : List Leg) (x : Psn) (hs : P.stations.length ≤ 1000) (hl : legs.length ≤ 1000) :
    Spec Tryd.prog 47 [.agg x.cells, .rp P.cells 0, .rp [legL legs] 0] (.v (.bool (psnB P legs.length x))) := by
  have w1 := i64_wrap (show -9223372036854775808 ≤ (P.stations.length : Int) - 1 ∧ _ from by omega)
  have w2 := i64_wrap (show -9223372036854775808 ≤ (legs.length : Int) - 1 ∧ _ from by omega)
  refine spec_of mixed Tryd.func47 (by decide) rfl Tryd.results47 Tryd.ntmps47 (by decide) 0 (by simp) ?_
  simp [Psn.cells, Pln.cells, cnrL, stnL, legL, w1, w2]
  refine pop_spec (lspan_spec ⟨x.low, x.high⟩ 0 20000) rfl false (.inl (by simp [Spn.cells])) (.inl rfl) rfl (by simp) ?_
  cases h1 : spanB ⟨x.low, x.high⟩ 0 20000 with
  | false => simp; refine answers_of rfl ?_; simp [psnB, h1]
  | true =>
    simp [w1, w2]
    refine pop_spec (lin_spec x.station 0 ((P.stations.length : Int) - 1)) rfl false (.inl (by simp)) (.inl rfl) rfl (by simp) ?_
    cases h2 : inB x.station 0 ((P.stations.length : Int) - 1) with
    | false => simp; refine answers_of rfl ?_; simp [psnB, h1, h2]
    | true =>
      simp [w1, w2]
      refine pop_spec (lspan_spec ⟨x.first, x.last⟩ 0 ((legs.length : Int) - 1)) rfl false (.inl (by simp [Spn.cells])) (.inl rfl) rfl (by simp) ?_
      cases h3 : spanB ⟨x.first, x.last⟩ 0 ((legs.length : Int) - 1) with
      | false => simp; refine answers_of rfl ?_; simp [psnB, h1, h2, h3]
      | true =>
        simp
        refine pop_spec (lin_spec x.worth 0 1000000) rfl false (.inl (by simp)) (.inl rfl) rfl (by simp) ?_
        simp
        refine answers_of rfl ?_; simp [psnB, h1, h2, h3]
end Go.Qg

namespace Go.Qg
open Go.Proofs
set_option maxRecDepth 100000
set_option maxHeartbeats 32000000
set_option linter.unusedSimpArgs false
attribute [local irreducible] pwp pops pdraw pop popCall pdCall thenP blockP scopeP pspec Spec answers ppost CallW rend
def fitsP (legs : List Leg) (people : List Psn) (s : List Int) : Bool := fitsN legs people s legs.length
def takenL (legs : List Leg) (people : List Psn) (s : List Int) : List Leg := takenN legs people s legs.length
def sureP (P : Pln) (fuel : Spn) (legs : List Leg) (people : List Psn) (s : List Int) : Bool := (tripP P fuel (takenL legs people s)).isNone
def wP (people : List Psn) (i : Nat) : Int := (psnAt people i).worth
def restL (people : List Psn) : List Int := (List.range (people.length + 1)).map fun a => restW (wP people) a (people.length - a)
theorem restL_length (people : List Psn) : (restL people).length = people.length + 1 := by simp [restL]
theorem restL_get {people : List Psn} {a : Nat} (h : a ≤ people.length) : geti (restL people) a = restW (wP people) a (people.length - a) := by
  simp [restL, geti, List.getElem?_map, List.getElem?_range (show a < people.length + 1 by omega)]
structure PsnOk (P : Pln) (nl : Nat) (x : Psn) : Prop where
  weight : 0 ≤ x.low ∧ x.low ≤ x.high ∧ x.high ≤ 20000
  station : 0 ≤ x.station ∧ x.station < P.stations.length
  legs : 0 ≤ x.first ∧ x.first ≤ x.last ∧ x.last < nl
  worth : 0 ≤ x.worth ∧ x.worth ≤ 1000000
theorem psnB_ok {P : Pln} {nl : Nat} {x : Psn} : psnB P nl x = true ↔ PsnOk P nl x := by
  simp only [psnB, Bool.and_eq_true, spanB_spec, inB_spec]
  constructor
  · rintro ⟨⟨⟨h1, h2⟩, h3⟩, h4⟩
    exact ⟨h1, by omega, by omega, h4⟩
  · rintro ⟨h1, h2, h3, h4⟩
    exact ⟨⟨⟨h1, by omega⟩, by omega⟩, h4⟩
structure TakeOk (P : Pln) (fuel : Spn) (legs : List Leg) (people : List Psn) : Prop where
  plane : PlnOk P
  trip : TripOk P fuel legs
  n : people.length ≤ 8
  person : ∀ i, i < people.length → PsnOk P legs.length (psnAt people i)
def capsT (P : Pln) (fuel : Spn) (legs : List Leg) (people : List Psn) : List PV := [.rp [legL legs] 0, .rp [psnL people] 0, .rp [ints (restL people)] 0, .ref 0 0, .rp P.cells 0, .rp fuel.cells 0, .ref 1 0, .ref 2 0]
def HT (P : Pln) (fuel : Spn) (legs : List Leg) (people : List Psn) (st : Best) : PF := [.box false [.v (.int .i64 st.2)], .box false [ints st.1], .box false [.clo (.func 49) [] (capsT P fuel legs people)]]
theorem rowsI_rangeG (l : List Int) (x : Int) : (List.range l.length).map (fun i => [PV.v (.int .i64 (geti l i))]) ++ [[PV.v (.int .i64 x)]] = rowsI (l ++ [x]) := by
  have : (List.range l.length).map (fun i => [PV.v (.int .i64 (geti l i))]) = rowsI l := by
    refine List.ext_getElem? fun i => ?_
    by_cases h : i < l.length
    · rw [rowsI_get h, List.getElem?_map, List.getElem?_range h]; rfl
    · rw [List.getElem?_eq_none (by simp; omega), List.getElem?_eq_none (by simp; omega)]
  rw [this]; simp [rowsI]
def argsT (P : Pln) (fuel : Spn) (legs : List Leg) (people : List Psn) (s : List Int) (a : Nat) : List PV := [ints s, .v (.int .i64 a), .v (.int .i64 (worthL (wP people) s)), .rp [legL legs] 0, .rp [psnL people] 0, .rp [ints (restL people)] 0, .ref 0 0, .rp P.cells 0, .rp fuel.cells 0, .ref 1 0, .ref 2 0]
theorem taken_ok {P : Pln} {fuel : Spn} {legs : List Leg} {people : List Psn} {s : List Int} (hT : TakeOk P fuel legs people) (hs : ∀ x ∈ s, 0 ≤ x ∧ x < (people.length : Int)) (hf : fitsP legs people s = true) : TripOk P fuel (takenL legs people s) := by
  have hlen : (takenL legs people s).length = legs.length := takenN_length ..
  have hget : ∀ i, i < legs.length → legAt (takenL legs people s) i = takenLeg people s i (legAt legs i) := fun i hi => by simp [takenL, takenN, legAt, hi]
  refine ⟨hT.trip.fuel, by rw [hlen]; exact hT.trip.n, fun i hi => ?_⟩
  rw [hlen] at hi
  rw [hget i hi]
  have hL := hT.trip.leg i hi
  have h12 := allN_spec.1 hf i hi
  refine ⟨by simpa using h12, fun j hj => ?_, hL.fuel, hL.burn, hL.leak⟩
  simp only [takenLeg] at hj ⊢
  by_cases hj1 : j < (legAt legs i).items.length
  · have e : itmAt ((legAt legs i).items ++ onIt people i s) j = itmAt (legAt legs i).items j := by simp [itmAt, List.getElem?_append_left hj1]
    rw [e]; exact hL.item j hj1
  · have hm : itmAt ((legAt legs i).items ++ onIt people i s) j ∈ onIt people i s := by
      have hj2 : j - (legAt legs i).items.length < (onIt people i s).length := by rw [List.length_append] at hj; omega
      have e : itmAt ((legAt legs i).items ++ onIt people i s) j = itmAt (onIt people i s) (j - (legAt legs i).items.length) := by simp [itmAt, List.getElem?_append_right (Nat.le_of_not_lt hj1)]
      rw [e]; exact itmAt_mem hj2
    generalize itmAt ((legAt legs i).items ++ onIt people i s) j = y at hm ⊢
    simp only [onIt, List.mem_map, List.mem_filter] at hm
    obtain ⟨k, ⟨hk, _⟩, rfl⟩ := hm
    have hk2 := hs k hk
    have hp := hT.person k.toNat (by omega)
    exact ⟨hp.station, hp.weight⟩
theorem search_spec (P : Pln) (fuel : Spn) (legs : List Leg) (people : List Psn) (hT : TakeOk P fuel legs people) : ∀ (c : Nat) (s : List Int) (a : Nat) (st : Best), a ≤ people.length → people.length - a < c → s.length ≤ a → (∀ x ∈ s, 0 ≤ x ∧ x < (people.length : Int)) → 0 ≤ worthL (wP people) s → worthL (wP people) s ≤ 1000000 * (a : Int) →
    CallW Tryd.prog 49 (argsT P fuel legs people s a) (HT P fuel legs people st) (fun out => out = .ret (.tup []) (HT P fuel legs people (takeP (fitsP legs people) (sureP P fuel legs people) (wP people) people.length c s a st))) := by
  intro c
  induction c with
  | zero => intro s a st h1 h2; omega
  | succ c ih =>
    intro s a st ha hc hsl hsm hw0 hw1
    have hn := hT.n
    have hl6 := hT.trip.n
    have htk := taken_spec legs people s (by omega) (fun i hi => (hT.trip.leg i hi).n) hn (by omega) (fun j hj => hsm _ (by simp [geti, List.getElem?_eq_getElem hj]))
    have hpw : ∀ i, 0 ≤ wP people i ∧ wP people i ≤ 1000000 := fun i => by
      by_cases hi : i < people.length
      · exact (hT.person i hi).worth
      · simp [wP, psnAt, List.getElem?_eq_none (Nat.le_of_not_lt hi)]
        decide
    have hr0 : ∀ m a, 0 ≤ restW (wP people) a m ∧ restW (wP people) a m ≤ 1000000 * (m : Int) := fun m a => by
      induction m with
      | zero => simp [restW]
      | succ m ihm => have := hpw (a + m); simp only [restW]; omega
    have hra := hr0 (people.length - a) a
    have hrg := restL_get ha
    have hrl := restL_length people
    have ww := i64_wrap (show -9223372036854775808 ≤ worthL (wP people) s + restW (wP people) a (people.length - a) ∧ _ from by omega)
    generalize hW : worthL (wP people) s = W at *
    generalize hRW : restW (wP people) a (people.length - a) = RW at *
    simp only [argsT]
    refine callW_of mixed Tryd.func49 (by decide) rfl (congrArg Array.toList Tryd.results49) Tryd.ntmps49 (by decide) 81 (by simp) (by decide) ?_
    simp [HT, argsT, capsT, Pln.cells, Spn.cells, legL, psnL, cnrL, stnL]
    refine pop_spec htk rfl false (.inl (by simp [legL, psnL, ints])) (.inl rfl) rfl (by simp) ?_
    simp [legL]
    refine pwp_draw 12 (by decide) ?_
    rw [takeP, hW, hRW]
    cases hfit : fitsN legs people s legs.length with
    | false =>
      simp [hfit]
      refine ⟨by decide, ?_⟩
      simp [fitsP, hfit]
      refine ends_of (.tup []) (HT P fuel legs people st) [] (x := .tup []) (by simp) (by decide) ?_ ?_ (by simp [HT, capsT, Pln.cells, Spn.cells, legL, psnL, cnrL, stnL])
      · simp [HT, capsT, Pln.cells, Spn.cells, legL, psnL, cnrL, stnL, ints]
      · simp
    | true =>
      by_cases hle : W + RW ≤ st.2
      · simp [hfit, hrl, hrg, ww, hle, ints, show a < people.length + 1 from by omega, show (a : Int) < (people.length : Int) + 1 from by omega]
        refine ⟨by decide, ?_⟩
        refine ends_of (.tup []) (HT P fuel legs people st) [] (x := .tup []) (by simp) (by decide) ?_ ?_ (by simp [HT, capsT, Pln.cells, Spn.cells, legL, psnL, cnrL, stnL, ints, hrl])
        · simp [HT, capsT, Pln.cells, Spn.cells, legL, psnL, cnrL, stnL, ints, hrl]
        · simp
      · simp [hfit, hrl, hrg, ww, hle, ints, show a < people.length + 1 from by omega, show (a : Int) < (people.length : Int) + 1 from by omega, Int.not_le.1 hle]
        refine ⟨by decide, ?_⟩
        obtain ⟨st0, e0⟩ : ∃ st0 : Best, st0 = if st.2 < W ∧ sureP P fuel legs people s = true then (s, W) else st := ⟨_, rfl⟩
        simp only [fitsP, hfit, hle, or_false, Bool.true_eq_false, if_false, ← e0]
        generalize hFF : (fun (i : Nat) (st : Best) => takeP (fitsP legs people) (sureP P fuel legs people) (wP people) people.length c (s ++ [(i : Int)]) (i + 1) st) = F
        by_cases hbest : st.2 < W
        · have hTT := taken_ok hT hsm hfit
          have hfs := first_spec P fuel (takenL legs people s) hT.plane hTT
          rw [firstRes] at hfs
          simp [hbest, Int.not_le.2 hbest]
          cases htp : tripP P fuel (takenL legs people s) with
          | none =>
            rw [htp] at hfs
            have e1 : st0 = (s, W) := by rw [e0]; simp [hbest, sureP, htp]
            refine pop_spec hfs rfl false (.inl (by simp [Pln.cells, cnrL, stnL, Spn.cells, legL, takenL])) (.inl rfl) rfl (by simp) ?_
            simp
            refine pwp_loop (fun i : Nat => [(19, .v (.int .i64 i)), (81, .box false [.v (.int .i64 (foldN F a (i - a) st0).2)]), (82, .box false [ints (foldN F a (i - a) st0).1])]) (fun i => a ≤ i ∧ i ≤ people.length) (fun i => people.length - i) a ⟨Nat.le_refl _, ha⟩ (by simp; rfl) ?_ ?_
            · simp [foldN, e1, ints]
            rintro i ⟨hi1, hi2⟩
            by_cases hil : i < people.length
            · have wi := i64_wrap (show -9223372036854775808 ≤ (i : Int) + 1 ∧ _ from by omega)
              have hpi := hpw i
              have wW := i64_wrap (show -9223372036854775808 ≤ W + wP people i ∧ _ from by omega)
              have hfo : foldN F a (i + 1 - a) st0 = takeP (fitsP legs people) (sureP P fuel legs people) (wP people) people.length c (s ++ [(i : Int)]) (i + 1) (foldN F a (i - a) st0) := by
                rw [show i + 1 - a = (i - a) + 1 from by omega, foldN, show a + (i - a) = i from by omega, ← hFF]
              have hwa : worthL (wP people) (s ++ [(i : Int)]) = W + wP people i := by rw [worth_app, hW]; simp [worthL]
              have hih := ih (s ++ [(i : Int)]) (i + 1) (foldN F a (i - a) st0) (by omega) (by omega) (by simp; omega) (fun x hx => by
                rcases List.mem_append.1 hx with hx | hx
                · exact hsm x hx
                · obtain rfl := List.mem_singleton.1 hx; omega) (by rw [hwa]; omega) (by rw [hwa]; omega)
              rw [← hfo] at hih
              generalize foldN F a (i - a) st0 = sti at hih ⊢
              generalize hstn : foldN F a (i + 1 - a) st0 = stn at hih ⊢
              have hwp : (psnAt people i).worth = wP people i := rfl
              have hro := rowsI_rangeG s (i : Int)
              simp [hil]
              refine pwp_draw 19 (by decide) ?_
              simp [hil, Psn.cells, ints, wi, hwp, wW, hro, show (s.length + 1) * 8 ≤ 140737488355328 from by omega, show s.length + 1 ≤ maxLen from by simp [maxLen]; omega]
              refine ⟨by decide, ?_⟩
              simp only [argsT, HT, capsT] at hih
              refine pop_callF [(67, .undef), (70, ints (s ++ [(i : Int)]))] ?_ hih rfl [81, 82, 83] false (by decide) ?_ (.inl ?_) ?_
              · simp [ints]
                intro q hq
                rw [rowsI_get (by simpa using hq)]
                simp
              · simp [ints, Pln.cells, Psn.cells, Spn.cells, legL, psnL, cnrL, stnL, hrl]
              · simp [ints, Pln.cells, Psn.cells, Spn.cells, legL, psnL, cnrL, stnL, hrl, hwa]
              rintro out rfl
              refine ⟨[], by simp [backOk], .inl rfl, by simp [back, backV, placeAll], ?_⟩
              simp [back, backV, placeAll]
              refine again_of (i + 1) (by omega) (by omega) ?_
              simp [wi, hstn, ints, Pln.cells, Psn.cells, Spn.cells, legL, psnL, cnrL, stnL, hrl]
            · obtain rfl : i = people.length := by omega
              simp
              refine ends_n (.tup []) (HT P fuel legs people (foldN F a (people.length - a) st0)) [] rfl (by decide) ?_ ?_ (by simp [HT, capsT, Pln.cells, Spn.cells, legL, psnL, cnrL, stnL, ints, hrl])
              · simp [HT, capsT, Pln.cells, Spn.cells, legL, psnL, cnrL, stnL, ints, hrl]
              · simp
          | some k =>
            rw [htp] at hfs
            have e1 : st0 = st := by rw [e0]; simp [hbest, sureP, htp]
            refine pop_spec hfs rfl false (.inl (by simp [Pln.cells, cnrL, stnL, Spn.cells, legL, takenL])) (.inl rfl) rfl (by simp) ?_
            simp [show ¬ (k : Int) < 0 from by omega, show (0 : Int) ≤ (k : Int) from by omega]
            refine pwp_loop (fun i : Nat => [(19, .v (.int .i64 i)), (81, .box false [.v (.int .i64 (foldN F a (i - a) st0).2)]), (82, .box false [ints (foldN F a (i - a) st0).1])]) (fun i => a ≤ i ∧ i ≤ people.length) (fun i => people.length - i) a ⟨Nat.le_refl _, ha⟩ (by simp; rfl) ?_ ?_
            · simp [foldN, e1, ints]
            rintro i ⟨hi1, hi2⟩
            by_cases hil : i < people.length
            · have wi := i64_wrap (show -9223372036854775808 ≤ (i : Int) + 1 ∧ _ from by omega)
              have hpi := hpw i
              have wW := i64_wrap (show -9223372036854775808 ≤ W + wP people i ∧ _ from by omega)
              have hfo : foldN F a (i + 1 - a) st0 = takeP (fitsP legs people) (sureP P fuel legs people) (wP people) people.length c (s ++ [(i : Int)]) (i + 1) (foldN F a (i - a) st0) := by
                rw [show i + 1 - a = (i - a) + 1 from by omega, foldN, show a + (i - a) = i from by omega, ← hFF]
              have hwa : worthL (wP people) (s ++ [(i : Int)]) = W + wP people i := by rw [worth_app, hW]; simp [worthL]
              have hih := ih (s ++ [(i : Int)]) (i + 1) (foldN F a (i - a) st0) (by omega) (by omega) (by simp; omega) (fun x hx => by
                rcases List.mem_append.1 hx with hx | hx
                · exact hsm x hx
                · obtain rfl := List.mem_singleton.1 hx; omega) (by rw [hwa]; omega) (by rw [hwa]; omega)
              rw [← hfo] at hih
              generalize foldN F a (i - a) st0 = sti at hih ⊢
              generalize hstn : foldN F a (i + 1 - a) st0 = stn at hih ⊢
              have hwp : (psnAt people i).worth = wP people i := rfl
              have hro := rowsI_rangeG s (i : Int)
              simp [hil]
              refine pwp_draw 19 (by decide) ?_
              simp [hil, Psn.cells, ints, wi, hwp, wW, hro, show (s.length + 1) * 8 ≤ 140737488355328 from by omega, show s.length + 1 ≤ maxLen from by simp [maxLen]; omega]
              refine ⟨by decide, ?_⟩
              simp only [argsT, HT, capsT] at hih
              refine pop_callF [(67, .undef), (70, ints (s ++ [(i : Int)]))] ?_ hih rfl [81, 82, 83] false (by decide) ?_ (.inl ?_) ?_
              · simp [ints]
                intro q hq
                rw [rowsI_get (by simpa using hq)]
                simp
              · simp [ints, Pln.cells, Psn.cells, Spn.cells, legL, psnL, cnrL, stnL, hrl]
              · simp [ints, Pln.cells, Psn.cells, Spn.cells, legL, psnL, cnrL, stnL, hrl, hwa]
              rintro out rfl
              refine ⟨[], by simp [backOk], .inl rfl, by simp [back, backV, placeAll], ?_⟩
              simp [back, backV, placeAll]
              refine again_of (i + 1) (by omega) (by omega) ?_
              simp [wi, hstn, ints, Pln.cells, Psn.cells, Spn.cells, legL, psnL, cnrL, stnL, hrl]
            · obtain rfl : i = people.length := by omega
              simp
              refine ends_n (.tup []) (HT P fuel legs people (foldN F a (people.length - a) st0)) [] rfl (by decide) ?_ ?_ (by simp [HT, capsT, Pln.cells, Spn.cells, legL, psnL, cnrL, stnL, ints, hrl])
              · simp [HT, capsT, Pln.cells, Spn.cells, legL, psnL, cnrL, stnL, ints, hrl]
              · simp
        · have e1 : st0 = st := by rw [e0]; simp [hbest]
          simp [hbest, Int.not_lt.1 hbest]
          refine pwp_loop (fun i : Nat => [(19, .v (.int .i64 i)), (81, .box false [.v (.int .i64 (foldN F a (i - a) st0).2)]), (82, .box false [ints (foldN F a (i - a) st0).1])]) (fun i => a ≤ i ∧ i ≤ people.length) (fun i => people.length - i) a ⟨Nat.le_refl _, ha⟩ (by simp; rfl) ?_ ?_
          · simp [foldN, e1, ints]
          rintro i ⟨hi1, hi2⟩
          by_cases hil : i < people.length
          · have wi := i64_wrap (show -9223372036854775808 ≤ (i : Int) + 1 ∧ _ from by omega)
            have hpi := hpw i
            have wW := i64_wrap (show -9223372036854775808 ≤ W + wP people i ∧ _ from by omega)
            have hfo : foldN F a (i + 1 - a) st0 = takeP (fitsP legs people) (sureP P fuel legs people) (wP people) people.length c (s ++ [(i : Int)]) (i + 1) (foldN F a (i - a) st0) := by
              rw [show i + 1 - a = (i - a) + 1 from by omega, foldN, show a + (i - a) = i from by omega, ← hFF]
            have hwa : worthL (wP people) (s ++ [(i : Int)]) = W + wP people i := by rw [worth_app, hW]; simp [worthL]
            have hih := ih (s ++ [(i : Int)]) (i + 1) (foldN F a (i - a) st0) (by omega) (by omega) (by simp; omega) (fun x hx => by
              rcases List.mem_append.1 hx with hx | hx
              · exact hsm x hx
              · obtain rfl := List.mem_singleton.1 hx; omega) (by rw [hwa]; omega) (by rw [hwa]; omega)
            rw [← hfo] at hih
            generalize foldN F a (i - a) st0 = sti at hih ⊢
            generalize hstn : foldN F a (i + 1 - a) st0 = stn at hih ⊢
            have hwp : (psnAt people i).worth = wP people i := rfl
            have hro := rowsI_rangeG s (i : Int)
            simp [hil]
            refine pwp_draw 19 (by decide) ?_
            simp [hil, Psn.cells, ints, wi, hwp, wW, hro, show (s.length + 1) * 8 ≤ 140737488355328 from by omega, show s.length + 1 ≤ maxLen from by simp [maxLen]; omega]
            refine ⟨by decide, ?_⟩
            simp only [argsT, HT, capsT] at hih
            refine pop_callF [(67, .undef), (70, ints (s ++ [(i : Int)]))] ?_ hih rfl [81, 82, 83] false (by decide) ?_ (.inl ?_) ?_
            · simp [ints]
              intro q hq
              rw [rowsI_get (by simpa using hq)]
              simp
            · simp [ints, Pln.cells, Psn.cells, Spn.cells, legL, psnL, cnrL, stnL, hrl]
            · simp [ints, Pln.cells, Psn.cells, Spn.cells, legL, psnL, cnrL, stnL, hrl, hwa]
            rintro out rfl
            refine ⟨[], by simp [backOk], .inl rfl, by simp [back, backV, placeAll], ?_⟩
            simp [back, backV, placeAll]
            refine again_of (i + 1) (by omega) (by omega) ?_
            simp [wi, hstn, ints, Pln.cells, Psn.cells, Spn.cells, legL, psnL, cnrL, stnL, hrl]
          · obtain rfl : i = people.length := by omega
            simp
            refine ends_n (.tup []) (HT P fuel legs people (foldN F a (people.length - a) st0)) [] rfl (by decide) ?_ ?_ (by simp [HT, capsT, Pln.cells, Spn.cells, legL, psnL, cnrL, stnL, ints, hrl])
            · simp [HT, capsT, Pln.cells, Spn.cells, legL, psnL, cnrL, stnL, ints, hrl]
            · simp
end Go.Qg

namespace Go.Qg
open Go.Proofs
set_option maxRecDepth 100000
set_option maxHeartbeats 32000000
set_option linter.unusedSimpArgs false
attribute [local irreducible] pwp pops pdraw pop popCall pdCall thenP blockP scopeP pspec Spec answers ppost CallW rend
def takeBest (P : Pln) (fuel : Spn) (legs : List Leg) (people : List Psn) : Best := takeP (fitsP legs people) (sureP P fuel legs people) (wP people) people.length (people.length + 1) [] 0 ([], -1)
def takeE (P : Pln) (fuel : Spn) (legs : List Leg) (people : List Psn) : Int :=
  if 8 < people.length then 3 else if trippedE P fuel legs ≠ 0 then trippedE P fuel legs else if (allN people.length fun k => psnB P legs.length (psnAt people k)) = false then 2 else if (takeBest P fuel legs people).2 < 0 then 5 else 0
def takeRes (P : Pln) (fuel : Spn) (legs : List Leg) (people : List Psn) : PV := if takeE P fuel legs people = 0 then .tup [ints (takeBest P fuel legs people).1, .v (.int .i64 (takeBest P fuel legs people).2), .v (.int .i64 0)] else .tup [ints [], .v (.int .i64 0), .v (.int .i64 (takeE P fuel legs people))]
def restK (people : List Psn) (k : Nat) : List Int := (List.range (people.length + 1)).map fun j => if people.length - k ≤ j then restW (wP people) j (people.length - j) else 0
theorem restK_all (people : List Psn) : restK people people.length = restL people := by simp [restK, restL]
theorem restK_length (people : List Psn) (k : Nat) : (restK people k).length = people.length + 1 := by simp [restK]
theorem Take_spec (P : Pln) (fuel : Spn) (legs : List Leg) (people : List Psn) (hP : PlnLen P) (hl : LegsLen legs) (hp : people.length ≤ 9223372036854775807) :
    Spec Tryd.prog 27 [.agg P.cells, .agg fuel.cells, legL legs, psnL people] (takeRes P fuel legs people) := by
  have htr := tripped_spec P fuel legs hP hl.1 hl.2
  refine spec_of mixed Tryd.func27 (by decide) rfl Tryd.results27 Tryd.ntmps27 (by decide) 0 (by simp) ?_
  simp [Pln.cells, Spn.cells, legL, psnL, cnrL, stnL]
  by_cases h8 : 8 < people.length
  · have he : takeE P fuel legs people = 3 := by simp [takeE, h8]
    simp [show (8 : Int) < (people.length : Int) from by omega]
    refine answers_of rfl ?_
    simp [takeRes, he, ints]
  simp [show ¬ (8 : Int) < (people.length : Int) from by omega, show (people.length : Int) ≤ 8 from by omega]
  refine pop_spec htr rfl false (.inl (by simp [Pln.cells, Spn.cells, legL, cnrL, stnL])) (.inl rfl) rfl (by simp) ?_
  by_cases ht : trippedE P fuel legs = 0
  case neg =>
    have he : takeE P fuel legs people = trippedE P fuel legs := by simp [takeE, h8, ht]
    simp [ht]
    refine answers_of rfl ?_
    simp [takeRes, he, ints, ht]
  obtain ⟨hPO, hTO⟩ := tripped_ok.1 ht
  simp [ht]
  have hn6 := hTO.n
  refine pop_specF [(4, .rp P.cells 0), (6, .rp [legL legs] 0), (28, .clo (.func 47) [] [.rp P.cells 0, .rp [legL legs] 0])] (by simp [Pln.cells, legL, cnrL, stnL])
    (allPsn_spec people hp 47 [] [.rp P.cells 0, .rp [legL legs] 0] rfl rfl (fun k => psnB P legs.length (psnAt people k)) fun k hk => take1_spec P legs (psnAt people k) (by have := hPO.ns; omega) (by omega)) rfl false (.inl (by simp [psnL])) (.inl rfl) rfl (by simp) ?_
  by_cases ha : (allN people.length fun k => psnB P legs.length (psnAt people k)) = true
  case neg =>
    have ha' : (allN people.length fun k => psnB P legs.length (psnAt people k)) = false := by simpa using ha
    have he : takeE P fuel legs people = 2 := by simp [takeE, h8, ht, ha']
    simp [ha']
    refine answers_of rfl ?_
    simp [takeRes, he, ints]
  have hT : TakeOk P fuel legs people := ⟨hPO, hTO, by omega, fun i hi => psnB_ok.1 (allN_spec.1 ha i hi)⟩
  have wn1 := i64_wrap (show -9223372036854775808 ≤ (people.length : Int) + 1 ∧ _ from by omega)
  have wn2 := i64_wrap (show -9223372036854775808 ≤ (people.length : Int) - 1 ∧ _ from by omega)
  have hrz0 : restK people 0 = List.replicate (people.length + 1) 0 := by
    refine List.ext_getElem? fun j => ?_
    by_cases hj : j < people.length + 1
    · simp [restK, List.getElem?_map, List.getElem?_range hj, hj]
      intro hj2
      obtain rfl : j = people.length := by omega
      simp [restW]
    · rw [List.getElem?_eq_none (by simp [restK]; omega), List.getElem?_eq_none (by simp; omega)]
  have hrz : rowsI (restK people 0) = List.replicate (people.length + 1) [.v (.int .i64 0)] := by rw [hrz0]; simp [rowsI]
  simp [ha, wn1, wn2, show (0 : Int) ≤ (people.length : Int) + 1 from by omega, show 8 * ((people.length : Int) + 1) ≤ 281474976710656 from by omega, show (people.length : Int) + 1 ≤ 9223372036854775807 from by omega]
  refine pwp_loop (fun k : Nat => [(4, .rp P.cells 0), (5, .rp fuel.cells 0), (6, .rp [legL legs] 0), (7, .rp [psnL people] 0), (12, .box true [.own 34 0 0 (people.length + 1) false]), (13, .v (.int .i64 (((people.length - k : Nat) : Int) - 1))), (34, .rows none 0 3 1 (rowsI (restK people k)))]) (fun k => k ≤ people.length) (fun k => people.length - k) 0 (Nat.zero_le _) (by simp; rfl) ?_ ?_
  · simp [Pln.cells, Spn.cells, legL, psnL, cnrL, stnL, ← hrz]
  intro k hk
  have hrl := restK_length people k
  by_cases hkl : k < people.length
  · obtain ⟨j, hj⟩ : ∃ j, people.length - k = j + 1 := ⟨people.length - k - 1, by omega⟩
    have hpw : ∀ i, 0 ≤ wP people i ∧ wP people i ≤ 1000000 := fun i => by
      by_cases hi : i < people.length
      · exact (hT.person i hi).worth
      · simp [wP, psnAt, List.getElem?_eq_none (Nat.le_of_not_lt hi)]
        decide
    have hr0 : ∀ m a, 0 ≤ restW (wP people) a m ∧ restW (wP people) a m ≤ 1000000 * (m : Int) := fun m a => by
      induction m with
      | zero => simp [restW]
      | succ m ihm => have := hpw (a + m); simp only [restW]; omega
    have hra := hr0 (people.length - (j + 1)) (j + 1)
    have hwj := hpw j
    have hwp : (psnAt people j).worth = wP people j := rfl
    have hg : geti (restK people k) (j + 1) = restW (wP people) (j + 1) (people.length - (j + 1)) := by
      simp [restK, geti, List.getElem?_map, List.getElem?_range (show j + 1 < people.length + 1 by omega), show people.length ≤ j + 1 + k from by omega]
    have hset : (restK people k).set j (restW (wP people) (j + 1) (people.length - (j + 1)) + wP people j) = restK people (k + 1) := by
      refine List.ext_getElem? fun q => ?_
      by_cases hq : q < people.length + 1
      · rw [List.getElem?_set]
        by_cases hqj : j = q
        · subst hqj
          rw [if_pos rfl, if_pos (by rw [hrl]; exact hq)]
          simp [restK, List.getElem?_map, List.getElem?_range hq, show people.length - (k + 1) ≤ j from by omega]
          rw [show people.length - j = (people.length - (j + 1)) + 1 from by omega, restW_head]; omega
        · rw [if_neg hqj]
          simp [restK, List.getElem?_map, List.getElem?_range hq]
          by_cases h1 : people.length ≤ q + k
          · rw [if_pos h1, if_pos (by omega)]
          · rw [if_neg h1, if_neg (by omega)]
      · rw [List.getElem?_eq_none (by simp [hrl]; omega), List.getElem?_eq_none (by rw [restK_length]; omega)]
    have w1 := i64_wrap (show -9223372036854775808 ≤ restW (wP people) (j + 1) (people.length - (j + 1)) + wP people j ∧ _ from by omega)
    have w2 := i64_wrap (show -9223372036854775808 ≤ (j : Int) - 1 ∧ _ from by omega)
    have w3 := i64_wrap (show -9223372036854775808 ≤ (j : Int) + 1 ∧ _ from by omega)
    have hjn : j < people.length := by omega
    simp [hj]
    refine pwp_draw 14 (by decide) ?_
    simp [hj, w1, w2, w3, show (0 : Int) ≤ (j : Int) + 1 from by omega, show j + 1 < people.length + 1 from by omega, hrl, hg, hjn, hwp, psnL, Psn.cells, rowsI_set, hset, show j < people.length + 1 from by omega, show (j : Int) < (people.length : Int) + 1 from by omega]
    refine ⟨by decide, ?_⟩
    have hj2 : people.length - (k + 1) = j := by omega
    refine again_of (k + 1) (by omega) (by omega) ?_
    simp [hj2, w2]
  · obtain rfl : k = people.length := by omega
    rw [restK_all] at *
    have hs := search_spec P fuel legs people hT (people.length + 1) [] 0 ([], -1) (Nat.zero_le _) (by omega) (by simp) (by simp) (by simp [worthL]) (by simp [worthL])
    simp
    simp only [argsT, HT, capsT, worthL] at hs
    refine pop_callF [(12, .rp [ints (restL people)] 0), (34, .undef), (16, .box true [.clo (.func 49) [] [.rp [legL legs] 0, .rp [psnL people] 0, .rp [ints (restL people)] 0, .ref 15 0, .rp P.cells 0, .rp fuel.cells 0, .ref 14 0, .ref 16 0]]), (56, .undef), (57, .clo (.func 49) [] [.rp [legL legs] 0, .rp [psnL people] 0, .rp [ints (restL people)] 0, .ref 15 0, .rp P.cells 0, .rp fuel.cells 0, .ref 14 0, .ref 16 0])] ?_ hs rfl [15, 14, 16] false (by decide) ?_ (.inl ?_) ?_
    · simp [ints, restL_length]
      refine ⟨fun q hq => ?_, fun q hq => ?_⟩ <;>
      · rw [rowsI_get (by rw [restL_length]; exact hq)]
        simp
    · simp [ints]
    · simp [ints]
    rintro out rfl
    refine ⟨[], by simp [backOk], .inl rfl, by simp [back, backV, placeAll], ?_⟩
    have hb : takeP (fitsP legs people) (sureP P fuel legs people) (wP people) people.length (people.length + 1) [] 0 ([], -1) = takeBest P fuel legs people := rfl
    rw [hb]
    generalize hst : takeBest P fuel legs people = st
    by_cases hlt : st.2 < 0
    · have he : takeE P fuel legs people = 5 := by simp [takeE, h8, ht, ha, hst, hlt]
      simp [back, backV, placeAll, hlt]
      refine answers_of rfl ?_
      simp [takeRes, he, ints]
    · have he : takeE P fuel legs people = 0 := by simp [takeE, h8, ht, ha, hst, hlt]
      simp [back, backV, placeAll, hlt, Int.not_lt.1 hlt]
      refine pwp_draw 5 (by decide) ?_
      simp [ints]
      refine ⟨by decide, ?_⟩
      refine answers_of rfl ?_
      simp [takeRes, he, hst, ints]
end Go.Qg

namespace Go.Qg
open Go.Proofs
set_option maxRecDepth 100000
set_option maxHeartbeats 32000000
set_option linter.unusedSimpArgs false
attribute [local irreducible] pwp pops pdraw pop popCall pdCall thenP blockP scopeP pspec Spec answers ppost CallW rend
theorem SureO_spec (P : Pln) (X : Pnt) (hP : PlnLen P) (hX : PntLen X) (h : rightB P X = true) (h1 : (brokenP P X).1 ≠ 1) :
    CallW Tryd.prog 24 [.agg P.cells, .agg X.cells] [] (fun out => out = .ret (.tup [.v (.int .i64 (brokenP P X).1), .v (.int .i64 (brokenP P X).2), cseO (worstC P X (brokenP P X).1 (brokenP P X).2), .v (.int .i64 0)]) (cseH (worstC P X (brokenP P X).1 (brokenP P X).2))) := by
  have hr := right_spec P X hP hX
  obtain ⟨k1, k2⟩ := right_ok.1 h
  have hb := broken_spec P X k1 k2
  have hin := (broken_in P X).resolve_left h1
  have hw := worst_both true P X k1 k2 (brokenP P X).1 (brokenP P X).2 hin.1 hin.2
  rw [h] at hr
  simp only [cond_true] at hw
  generalize worstC P X (brokenP P X).1 (brokenP P X).2 = c at *
  generalize brokenP P X = br at *
  obtain ⟨r, i⟩ := br
  simp only at hb h1 hin hw
  refine callW_of mixed Tryd.func24 (by decide) rfl (congrArg Array.toList Tryd.results24) Tryd.ntmps24 (by decide) 36 (by simp) (by decide) ?_
  simp [Pln.cells, cnrL, stnL, Pnt.cells, itmL, spnL]
  refine pop_spec hr rfl false (.inl (by simp [pntC, cnrL, stnL, itmL, spnL])) (.inl rfl) rfl (by simp) ?_
  simp
  refine pop_spec hb rfl false (.inl (by simp [pntC, cnrL, stnL, itmL, spnL])) (.inl rfl) rfl (by simp) ?_
  simp [h1, show ¬ (r : Int) = 1 from by omega]
  refine pop_callW hw rfl [] false (by decide) trivial (.inl (by simp [pntC, cnrL, stnL, itmL, spnL])) ?_
  rintro out rfl
  refine ⟨[34, 35], by simp [backOk, cseH], .inl rfl, by simp [back, backV, placeAll, cseH], ?_⟩
  simp [back, backV, placeAll, cseH, cseO]
  refine ends_of (.tup [.v (.int .i64 r), .v (.int .i64 i), cseO c, .v (.int .i64 0)]) (cseH c) [34, 35] (x := .tup [.v (.int .i64 r), .v (.int .i64 i), .agg [.own 34 c.items.length 0 c.items.length false, .v (.int .i64 c.tank), .own 35 c.water.length 0 c.water.length false], .v (.int .i64 0)]) (by simp) (by decide) ?_ ?_ (by simp [cseO, cseH])
  · simp [cseH]
  · simp [cseO, cseH]
end Go.Qg
