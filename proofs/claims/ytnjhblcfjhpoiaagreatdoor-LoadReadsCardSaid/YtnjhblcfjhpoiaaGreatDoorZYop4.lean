/-
  Lemmas and contracts that hold of the whole program: 1 texts in one.
  No condition.
-/
import Derived.Test.YtnjhblcfjhpoiaaGreatDoorZYop3
set_option linter.all false

namespace Go.Qg
open Go.Proofs Go.RowKit Go.Lib
set_option maxRecDepth 100000
set_option maxHeartbeats 64000000
attribute [local irreducible] pwp pops pdraw pop popCall pdCall thenP blockP scopeP pspec Spec answers ppost CallW rend dleaves dpost dmidE DefW
theorem read1_none (x y e : Int) (ep : Nat) (l : List Leg) : DefW Tryz.prog 101 [.ref 0 0, .ref 1 0, .ref 2 0] [.box false [.v (.int .i64 x), .v (.int .i64 y)], .box false [.own 3 ep 0 l.length false], .box false [.v (.int .i64 e)], .rows none ep 112 7 (rowsLg l)] none
    (fun H => H = [.box false [.v (.int .i64 x), .v (.int .i64 y)], .box false [.own 3 ep 0 l.length false], .box false [.v (.int .i64 e)], .rows none ep 112 7 (rowsLg l)]) := by
  refine def_ofL mixed Tryz.func101 (by decide) rfl rfl rfl rfl Tryz.results101 Tryz.ntmps101 (by decide) (by decide) (fun p hp => by cases hp) 13 (by decide) (by decide) rfl ?_
  simp
  refine dleaves_n [.box false [.v (.int .i64 x), .v (.int .i64 y)], .box false [.own 3 ep 0 l.length false], .box false [.v (.int .i64 e)], .rows none ep 112 7 (rowsLg l)] ?_ rfl
  simp
theorem read1_nil (x y e : Int) : DefW Tryz.prog 101 [.ref 0 0, .ref 1 0, .ref 2 0] [.box false [.v (.int .i64 x), .v (.int .i64 y)], .box false [.nil], .box false [.v (.int .i64 e)]] none
    (fun H => H = [.box false [.v (.int .i64 x), .v (.int .i64 y)], .box false [.nil], .box false [.v (.int .i64 e)]]) := by
  refine def_ofL mixed Tryz.func101 (by decide) rfl rfl rfl rfl Tryz.results101 Tryz.ntmps101 (by decide) (by decide) (fun p hp => by cases hp) 13 (by decide) (by decide) rfl ?_
  simp
  refine dleaves_n [.box false [.v (.int .i64 x), .v (.int .i64 y)], .box false [.nil], .box false [.v (.int .i64 e)]] ?_ rfl
  simp
theorem read1_some (w : ByteArray) (x y e : Int) : DefW Tryz.prog 101 [.ref 0 0, .ref 1 0, .ref 2 0] [.box false [.v (.int .i64 x), .v (.int .i64 y)], .box false [.nil], .box false [.v (.int .i64 e)]] (some (wrongV w))
    (fun H => H = [.box false [.v (.int .i64 0), .v (.int .i64 0)], .box false [.nil], .box false [.v (.int .i64 4)]]) := by
  unfold wrongV
  refine def_ofL mixed Tryz.func101 (by decide) rfl rfl rfl rfl Tryz.results101 Tryz.ntmps101 (by decide) (by decide) (fun p hp => by obtain rfl := Option.some.inj hp; exact ⟨rfl, rfl⟩) 13 (by decide) (by decide) rfl ?_
  simp
  refine dleaves_n [.box false [.v (.int .i64 0), .v (.int .i64 0)], .box false [.nil], .box false [.v (.int .i64 4)]] ?_ rfl
  simp
theorem read1_own (w : ByteArray) (x y e : Int) (ep : Nat) (l : List Leg) : DefW Tryz.prog 101 [.ref 0 0, .ref 1 0, .ref 2 0] [.box false [.v (.int .i64 x), .v (.int .i64 y)], .box false [.own 3 ep 0 l.length false], .box false [.v (.int .i64 e)], .rows none ep 112 7 (rowsLg l)] (some (wrongV w))
    (fun H => H = [.box false [.v (.int .i64 0), .v (.int .i64 0)], .box false [.nil], .box false [.v (.int .i64 4)], .rows none ep 112 7 (rowsLg l)]) := by
  unfold wrongV
  refine def_ofL mixed Tryz.func101 (by decide) rfl rfl rfl rfl Tryz.results101 Tryz.ntmps101 (by decide) (by decide) (fun p hp => by obtain rfl := Option.some.inj hp; exact ⟨rfl, rfl⟩) 13 (by decide) (by decide) rfl ?_
  simp
  refine dleaves_n [.box false [.v (.int .i64 0), .v (.int .i64 0)], .box false [.nil], .box false [.v (.int .i64 4)], .rows none ep 112 7 (rowsLg l)] ?_ rfl
  simp
def readP (text : List UInt8) : PV := .tup [.agg (readE text).2.1.cells, legL (readE text).2.2, .v (.int .i64 (readE text).1)]
theorem rdLine_len {ahead : List (List UInt8)} {many : Nat} {r t : List UInt8} {ns : List Int} (h : rdLine ahead many r = some (ns, t)) : t.length + many + ahead.length ≤ r.length ∧ ns.length = many ∧ ∀ n ∈ ns, NumR n := by
  unfold rdLine at h
  cases hW : wordsR r with
  | none => rw [hW] at h; cases h
  | some p =>
    obtain ⟨l, u⟩ := p
    rw [hW] at h
    simp only at h
    split at h
    · rename_i hc
      cases hm : numsW (l.drop ahead.length) with
      | none => rw [hm] at h; cases h
      | some ms =>
        rw [hm] at h
        simp only [Option.map_some, Option.some.injEq, Prod.mk.injEq] at h
        obtain ⟨rfl, rfl⟩ := h
        obtain ⟨a, rfl, _, hl⟩ := wordsR_iff.1 hW
        have h1 := numsW_len hm
        have h2 := parts_len 32 a
        rw [← hl] at h2
        have h3 := hc.1
        refine ⟨by simp only [List.length_append, List.length_cons]; omega, by rw [h1, List.length_drop]; omega, (numsW_iff.1 hm).1⟩
    · cases h
theorem rdLegs_step {n : Nat} {r t : List UInt8} {x : List Int} (h : rdLine (listsOf (howW (pumpR r))) 6 r = some (x, t)) : rdLegs (n + 1) r = match rdItems (geti x 5).toNat t with
    | some (is, u) => match rdLegs n u with
      | some (l, v) => some (⟨is, pumpR r, geti x 0, ⟨geti x 1, geti x 2⟩, ⟨geti x 3, geti x 4⟩⟩ :: l, v)
      | none => none
    | none => none := by
  rw [rdLegs, h]
  dsimp only
  cases rdItems (geti x 5).toNat t with
  | none => rfl
  | some p => dsimp only; cases rdLegs n p.2 <;> rfl
theorem rdItems_step {n : Nat} {r t : List UInt8} {y : List Int} (h : rdLine (listsOf [itemW]) 3 r = some (y, t)) : rdItems (n + 1) r = (rdItems n t).map fun p => (⟨geti y 0, geti y 1, geti y 2⟩ :: p.1, p.2) := by
  rw [rdItems, h]
  dsimp only
  cases rdItems n t <;> rfl
theorem map_cons2 {α β : Type} (r : Option (List α × β)) (a : List α) (x : α) : (r.map fun p => (x :: p.1, p.2)).map (fun p => (a ++ p.1, p.2)) = r.map fun p => ((a ++ [x]) ++ p.1, p.2) := by
  cases r with
  | none => rfl
  | some p => simp
theorem legsI_snoc (l : List Leg) (g : Leg) : legsI (l ++ [g]) = legsI l + legI g := by simp [legsI]
theorem itemsI_snoc (l : List Itm) (g : Itm) : itemsI (l ++ [g]) = itemsI l + sumI (itmN g) := by simp [itemsI]
theorem Read_long (text : List UInt8) (h : 20000 < text.length) : Spec Tryz.prog 54 [.v (.string (bytesOf text))] (readP text) := by
  have hE : readE text = (3, ⟨0, 0⟩, []) := by rw [readE, if_pos h]
  refine spec_of mixed Tryz.func54 (by decide) rfl Tryz.results54 Tryz.ntmps54 (by decide) 0 (by simp) ?_
  simp [show (20000 : Int) < text.length from by omega, h]
  refine answers_of (x := .tup [.agg [.v (.int .i64 0), .v (.int .i64 0)], .nil, .v (.int .i64 3)]) (by simp) ?_
  simp [readP, hE, Spn.cells, legL]
theorem Read_spec (text : List UInt8) (ht : text.length ≤ 1000000) : Spec Tryz.prog 54 [.v (.string (bytesOf text))] (readP text) := by
  by_cases hlong : 20000 < text.length
  · exact Read_long text hlong
  have hE : readE text = match rdTrip text with
    | some (f, l, u) => if u ≠ lastB (sheetS f l) then (4, ⟨0, 0⟩, []) else if tripE f l 8 ≠ 0 then (2, ⟨0, 0⟩, []) else (0, f, l)
    | none => (4, ⟨0, 0⟩, []) := by
    rw [readE, if_neg hlong]
    cases rdTrip text <;> rfl
  unfold Spec
  suffices H : ∀ Q : Out → Prop, Q (.ret (readP text) []) → CallW Tryz.prog 54 [.v (.string (bytesOf text))] [] Q from H _ rfl
  intro Q hQ
  refine callW_ofDES mixed Tryz.func54 (by decide) rfl (.more _ (.one _ _)) rfl rfl rfl (congrArg Array.toList Tryz.results54) Tryz.ntmps54 (by decide) (by decide) (by decide) 108 (by simp) (by decide) ?_
  simp [show ¬ (20000 : Int) < text.length from by omega, hlong]
  refine dmidE_of [.ref 0 0, .ref 1 0, .ref 2 0] 108 [2, 3, 4] [.box false [.v (.int .i64 0), .v (.int .i64 0)], .box false [.nil], .box false [.v (.int .i64 0)]] [.v (.string (bytesOf text)), .undef, .ref 0 0, .ref 1 0, .ref 2 0, .undef, .undef, .undef, .undef, .undef, .undef, .undef, .undef, .undef, .undef, .undef, .undef, .undef, .undef, .undef, .undef, .undef, .undef, .undef, .undef, .undef, .undef, .undef, .undef, .undef, .undef, .undef, .undef, .undef, .undef, .undef, .undef, .undef, .undef, .undef, .undef, .undef, .undef, .undef, .undef, .undef, .undef, .undef, .undef, .undef, .undef, .undef, .undef, .undef, .undef, .undef, .undef, .undef, .undef, .undef, .undef, .undef, .undef, .undef, .undef, .undef, .undef, .undef, .undef, .undef, .undef, .undef, .undef, .undef, .undef, .undef, .undef, .undef, .undef, .undef, .undef, .undef, .undef, .undef, .undef, .undef, .undef, .undef, .undef, .undef, .undef, .undef, .undef, .undef, .undef, .undef, .undef, .undef, .undef, .undef, .undef, .undef, .undef, .undef, .undef, .undef, .undef, .undef] rfl (by decide) (by decide) rfl ?_ ?_ ?_ (by simp) fun B0 hB0 => ?_
  · simp
  · simp [slots]
  · simp
  have hlo : ∀ s B, ECtx B0 s B → B.lo = 108 := fun _ _ h => h.1.trans hB0
  refine XW_pwp mixed hlo (by decide) ?_
  have hfail : rdTrip text = none → readP text = .tup [.agg [.v (.int .i64 0), .v (.int .i64 0)], legL [], .v (.int .i64 4)] := fun h => by
    have e : readE text = (4, ⟨0, 0⟩, []) := by rw [hE, h]
    rw [readP, e]; rfl
  have hT : rdTrip text = match rdLine (listsOf [tripW]) 3 text with
    | some (x, t) => match rdLegs (geti x 2).toNat t with
      | some (l, u) => some (⟨geti x 0, geti x 1⟩, l, u)
      | none => none
    | none => none := rfl
  simp
  refine pop_callF [(20, strsL [tripW])] ?_ (numbersR_spec text 0 [tripW] 3 (by omega) (by omega) (by simp) (by omega)) rfl [18] false (by decide) ?_ (.inl ?_) ?_
  · simp [strsL, tripW, bytesOf]
  · simp [readH]
  · simp [strsL]
  intro out ho
  cases hh : rdLine (listsOf [tripW]) 3 text with
  | none =>
    rw [hh] at ho hT
    have hno := hfail hT
    obtain ⟨x, t, s', rfl⟩ := ho
    refine ⟨[], by simp [backOk, readH], .inl rfl, ?_⟩
    simp [back, backV, placeAll, readH, wrongV]
    refine dpost_p rfl rfl ?_
    refine dend_of [108, 109, 110] [.box false [.v (.int .i64 0), .v (.int .i64 0)], .box false [.nil], .box false [.v (.int .i64 0)]] [.ref 0 0, .ref 1 0, .ref 2 0] (by decide) ?_ ?_ (read1_some x 0 0 0) rfl (x := .tup [.agg [.v (.int .i64 0), .v (.int .i64 0)], .nil, .v (.int .i64 4)]) (by simp [back, placeAll]) (readP text) [] [] ⟨by decide, ?_, ?_⟩ hQ
    · simp
    · simp
    · simp [back, placeAll]
    · rw [hno]; simp [back, placeAll, legL]
  | some p =>
  obtain ⟨x, t⟩ := p
  rw [hh] at ho hT
  obtain rfl : out = .ret (ints x) (readH t (0 + sumI x)) := ho
  obtain ⟨hx0, hx3, hxn⟩ := rdLine_len hh
  have hsx := sumR_bound hxn
  rw [hx3] at hsx
  have hx2 : NumR (geti x 2) := hxn _ (by simp [geti, hx3])
  obtain ⟨n, hn⟩ : ∃ n : Nat, geti x 2 = n := ⟨_, (Int.toNat_of_nonneg hx2.1).symm⟩
  simp only [hn, Int.toNat_natCast] at hT
  rw [Int.zero_add]
  refine ⟨[], by simp [backOk, readH], .inl rfl, by simp [back, backV, placeAll, readH, ints], ?_⟩
  simp [back, backV, placeAll, readH, ints, hx3]
  refine pwp_draw 8 (by decide) ?_
  simp [hx3]
  refine ⟨by decide, ?_⟩
  simp [hx3, hn]
  refine pwp_loop (fun q : Nat × List Leg × List UInt8 × Int => [(18, .box true [.v (.string (bytesOf q.2.2.1)), .v (.int .i64 q.2.2.2)]), (20, .undef), (32, .v (.int .i64 q.1)), (88, .rows none q.1 112 7 (rowsLg q.2.1)), (109, .box false [.own 88 q.1 0 q.1 false])])
    (fun q => q.1 = q.2.1.length ∧ q.1 ≤ n ∧ q.2.2.1.length + q.1 ≤ text.length ∧ 0 ≤ q.2.2.2 ∧ q.2.2.2 ≤ 10000000000 * ((text.length : Int) - q.2.2.1.length) ∧ q.2.2.2 = sumI x + legsI q.2.1 ∧ rdLegs n t = (rdLegs (n - q.1) q.2.2.1).map fun p => (q.2.1 ++ p.1, p.2)) (fun q => n - q.1) (0, [], t, sumI x)
    ⟨rfl, Nat.zero_le _, by simp only; omega, hsx.1, by simp only [List.length_cons, List.length_nil, listsOf, List.map_cons, List.map_nil] at hx0 ⊢; omega, by simp [legsI], by simp⟩ (by simp; rfl) (by simp [strsL]) ?_
  rintro ⟨i, legs, r, s⟩ ⟨hi, hin, hrl, hs0, hs1, hsum, hinv⟩
  simp only at hi hin hrl hs0 hs1 hsum hinv
  by_cases hil : i < n
  · have wi := i64_wrap (show -9223372036854775808 ≤ (i : Int) + 1 ∧ _ from by omega)
    obtain ⟨m, hm⟩ : ∃ m, n - i = m + 1 := ⟨n - i - 1, by omega⟩
    rw [hm] at hinv
    have hfl : rdLegs (m + 1) r = none → readP text = .tup [.agg [.v (.int .i64 0), .v (.int .i64 0)], legL [], .v (.int .i64 4)] := fun h => hfail (by rw [hT, hinv, h]; rfl)
    have hst := @rdLegs_step m r
    have hhow := how_spec r s
    simp [hil]
    refine pop_callW hhow rfl [18] false (by decide) ?_ (.inl ?_) ?_
    · simp [readH]
    · simp
    rintro out rfl
    refine ⟨[], by simp [backOk, readH], .inl rfl, by simp [back, backV, placeAll, readH], ?_⟩
    have hnum := numbersR_spec r s (howW (pumpR r)) 6 (by omega) (by omega) (by simp [howW]) (by omega)
    have hlen := @rdLine_len (listsOf (howW (pumpR r))) 6 r
    have hstop : rdLine (listsOf (howW (pumpR r))) 6 r = none → rdLegs (m + 1) r = none := fun h => by rw [rdLegs, h]
    have ehow : ∀ b : Bool, (listsOf (howW b)).length = 2 := fun b => by simp [listsOf, howW]
    rw [ehow] at hlen
    generalize hK : rdLine (listsOf (howW (pumpR r))) 6 r = K at *
    have hpw : ∀ b : Bool, howW b = [legW, if b = true then pumpW else keepW] := fun b => rfl
    obtain ⟨b, hb, hbv⟩ : ∃ b, pumpR r = b ∧ (b = true ∨ b = false) := ⟨_, rfl, by cases pumpR r <;> simp⟩
    rw [hb] at hnum hst
    rcases hbv with hbv | hbv
    all_goals
      simp [back, backV, placeAll, readH, hb, hbv]
      refine pop_callF [(38, strsL (howW b))] ?_ hnum rfl [18] false (by decide) ?_ (.inl ?_) ?_
      · simp [strsL, howW, hbv]
        refine lt2 ?_ ?_ <;> simp [legW, pumpW, keepW, bytesOf]
      · simp [readH]
      · simp [strsL]
      intro out ho
      cases K with
      | none =>
        have hno := hfl (hstop rfl)
        obtain ⟨x', t', s', rfl⟩ := ho
        refine ⟨[], by simp [backOk, readH], .inl rfl, ?_⟩
        simp [back, backV, placeAll, readH, wrongV]
        refine dpost_p rfl rfl ?_
        refine dend_of [108, 109, 110, 88] [.box false [.v (.int .i64 (geti x 0)), .v (.int .i64 (geti x 1))], .box false [.own 3 i 0 legs.length false], .box false [.v (.int .i64 0)], .rows none i 112 7 (rowsLg legs)] [.ref 0 0, .ref 1 0, .ref 2 0] (by decide) ?_ ?_ (read1_own x' (geti x 0) (geti x 1) 0 i legs) rfl (x := .tup [.agg [.v (.int .i64 0), .v (.int .i64 0)], .nil, .v (.int .i64 4)]) (by simp [back, placeAll]) (readP text) [] [] ⟨by decide, ?_, ?_⟩ hQ
        · simp [← hi]
        · simp
        · simp [back, placeAll]
        · rw [hno]; simp [back, placeAll, legL]
      | some p =>
      obtain ⟨y, t2⟩ := p
      obtain ⟨hy0, hy6, hyn⟩ := hlen rfl
      have hst2 := hst rfl
      have hsy := sumR_bound hyn
      rw [hy6] at hsy
      obtain rfl : out = .ret (ints y) (readH t2 (s + sumI y)) := ho
      have hy5 : NumR (geti y 5) := hyn _ (by simp [geti, hy6])
      obtain ⟨q, hq⟩ : ∃ q : Nat, geti y 5 = q := ⟨_, (Int.toNat_of_nonneg hy5.1).symm⟩
      rw [hq, Int.toNat_natCast] at hst2
      refine ⟨[], by simp [backOk, readH], .inl rfl, by simp [back, backV, placeAll, readH, ints], ?_⟩
      simp [back, backV, placeAll, readH, ints, hy6]
      refine pwp_draw 22 (by decide) ?_
      simp [hy6, pumpW, keepW]
      refine ⟨by decide, ?_⟩
      simp [hy6, hq]
      refine pwp_loop (fun z : Nat × List Itm × List UInt8 × Int => [(9, .box true [.own 82 z.1 0 z.1 false, .v (.bool b), .v (.int .i64 (geti y 0)), .v (.int .i64 (geti y 1)), .v (.int .i64 (geti y 2)), .v (.int .i64 (geti y 3)), .v (.int .i64 (geti y 4))]), (18, .box true [.v (.string (bytesOf z.2.2.1)), .v (.int .i64 z.2.2.2)]), (38, .undef), (63, .v (.int .i64 z.1)), (82, .rows none z.1 120 3 (rowsIt z.2.1))])
        (fun z => z.1 = z.2.1.length ∧ z.1 ≤ q ∧ z.2.2.1.length + z.1 ≤ t2.length ∧ 0 ≤ z.2.2.2 ∧ z.2.2.2 ≤ 10000000000 * ((text.length : Int) - z.2.2.1.length) ∧ z.2.2.2 = s + sumI y + itemsI z.2.1 ∧ rdItems q t2 = (rdItems (q - z.1) z.2.2.1).map fun p => (z.2.1 ++ p.1, p.2)) (fun z => q - z.1) (0, [], t2, s + sumI y)
        ⟨rfl, Nat.zero_le _, Nat.le_refl _, by simp only; omega, by simp only; omega, by simp [itemsI], by simp⟩ (by simp; rfl) (by simp [hbv, strsL]) ?_
      rintro ⟨k, its, r2, s2⟩ ⟨hk, hkq, hr2, hs20, hs21, hsum2, hinv2⟩
      simp only at hk hkq hr2 hs20 hs21 hsum2 hinv2
      by_cases hkl : k < q
      · have wk := i64_wrap (show -9223372036854775808 ≤ (k : Int) + 1 ∧ _ from by omega)
        obtain ⟨m2, hm2⟩ : ∃ m2, q - k = m2 + 1 := ⟨q - k - 1, by omega⟩
        rw [hm2] at hinv2
        have hnumI := numbersR_spec r2 s2 [itemW] 3 (by omega) (by omega) (by simp) (by omega)
        have hlenI := @rdLine_len (listsOf [itemW]) 3 r2
        have hstI := @rdItems_step m2 r2
        have hstopI : rdLine (listsOf [itemW]) 3 r2 = none → rdLegs (m + 1) r = none := fun h => by
          have h1 : rdItems (m2 + 1) r2 = none := by rw [rdItems, h]
          rw [hst2, hinv2, h1]; rfl
        have e1 : (listsOf [itemW]).length = 1 := rfl
        rw [e1] at hlenI
        generalize rdLine (listsOf [itemW]) 3 r2 = KI at *
        simp [hkl]
        refine pop_callF [(66, strsL [itemW])] ?_ hnumI rfl [18] false (by decide) ?_ (.inl ?_) ?_
        · simp [strsL, itemW, bytesOf]
        · simp [readH]
        · simp [strsL]
        intro out ho
        cases KI with
        | none =>
          have hno := hfl (hstopI rfl)
          obtain ⟨x', t', s', rfl⟩ := ho
          refine ⟨[], by simp [backOk, readH], .inl rfl, ?_⟩
          simp [back, backV, placeAll, readH, wrongV]
          refine dpost_p rfl rfl ?_
          refine dend_of [108, 109, 110, 88] [.box false [.v (.int .i64 (geti x 0)), .v (.int .i64 (geti x 1))], .box false [.own 3 i 0 legs.length false], .box false [.v (.int .i64 0)], .rows none i 112 7 (rowsLg legs)] [.ref 0 0, .ref 1 0, .ref 2 0] (by decide) ?_ ?_ (read1_own x' (geti x 0) (geti x 1) 0 i legs) rfl (x := .tup [.agg [.v (.int .i64 0), .v (.int .i64 0)], .nil, .v (.int .i64 4)]) (by simp [back, placeAll]) (readP text) [] [] ⟨by decide, ?_, ?_⟩ hQ
          · simp [← hi]
          · simp
          · simp [back, placeAll]
          · rw [hno]; simp [back, placeAll, legL]
        | some p =>
        obtain ⟨z, t3⟩ := p
        obtain ⟨hz0, hz3, hzn⟩ := hlenI rfl
        have hsz := sumR_bound hzn
        rw [hz3] at hsz
        rw [hstI rfl, map_cons2] at hinv2
        obtain rfl : out = .ret (ints z) (readH t3 (s2 + sumI z)) := ho
        refine ⟨[], by simp [backOk, readH], .inl rfl, by simp [back, backV, placeAll, readH, ints], ?_⟩
        simp [back, backV, placeAll, readH, ints, hz3]
        refine pwp_draw 17 (by decide) ?_
        simp [hz3, show (k + 1) * 24 ≤ 140737488355328 from by omega, show k + 1 ≤ maxLen from by simp [maxLen]; omega, ← hk]
        refine ⟨by decide, ?_⟩
        have ez : sumI (itmN ⟨geti z 0, geti z 1, geti z 2⟩) = sumI z := by
          have : itmN ⟨geti z 0, geti z 1, geti z 2⟩ = z := (list3 hz3).symm
          rw [this]
        refine again_of (k + 1, its ++ [⟨geti z 0, geti z 1, geti z 2⟩], t3, s2 + sumI z) ⟨by simp [hk], by simp only; omega, by simp only; omega, by simp only; omega, by simp only; omega, by simp only [itemsI_snoc, ez]; omega, ?_⟩ (by simp only; omega) ?_
        · simp only
          rw [hinv2, show q - (k + 1) = m2 from by omega]
        · have htk : its.take k = its := by rw [hk]; simp
          have er := rowsIt_snoc' its ⟨geti z 0, geti z 1, geti z 2⟩
          simp only at er
          simp [wk, er, htk]
      · obtain rfl : k = q := by omega
        rw [Nat.sub_self, rdItems] at hinv2
        simp only [Option.map_some, List.append_nil] at hinv2
        rw [hinv2] at hst2
        dsimp only at hst2
        rw [hst2] at hinv
        have eg : legI ⟨its, b, geti y 0, ⟨geti y 1, geti y 2⟩, ⟨geti y 3, geti y 4⟩⟩ = sumI y + itemsI its := by
          have : legN ⟨its, b, geti y 0, ⟨geti y 1, geti y 2⟩, ⟨geti y 3, geti y 4⟩⟩ = y := by
            have h6 := list6 hy6
            rw [hq, hk] at h6
            exact h6.symm
          simp only [legI, this]
        simp [show (i + 1) * 72 ≤ 140737488355328 from by omega, show i + 1 ≤ maxLen from by simp [maxLen]; omega, ← hi]
        refine again_of (i + 1, legs ++ [⟨its, b, geti y 0, ⟨geti y 1, geti y 2⟩, ⟨geti y 3, geti y 4⟩⟩], r2, s2) ⟨by simp [hi], by simp only; omega, by simp only; omega, by simp only; omega, by simp only; omega, by simp only [legsI_snoc, eg]; omega, ?_⟩ (by simp only; omega) ?_
        · simp only
          rw [hinv, show n - (i + 1) = m from by omega]
          cases rdLegs m r2 with
          | none => rfl
          | some p => simp
        · have htk : legs.take i = legs := by rw [hi]; simp
          simp [wi, htk, ← rowsLg_snoc, vwAllL_snocLg, rowsLg_allone, Leg.cells, itmL]
          refine ⟨hk.symm, fun j hj => ?_⟩
          rw [rowsIt_get hj]
          exact ⟨by simp [Itm.cells], by simp [Itm.cells]⟩
  · obtain rfl : i = n := by omega
    rw [Nat.sub_self, rdLegs] at hinv
    simp only [Option.map_some, List.append_nil] at hinv
    rw [hinv] at hT
    dsimp only at hT
    have hR := (rdTrip_iff.1 hT).1
    have hx : headN ⟨geti x 0, geti x 1⟩ legs = x := by
      have h3 := list3 hx3
      rw [hn, hi] at h3
      exact h3.symm
    have hS : s = sheetS ⟨geti x 0, geti x 1⟩ legs := by rw [sheetS_eq, hx, hsum]
    rw [hT] at hE
    dsimp only at hE
    rw [← hS] at hE
    have hlast := last_spec s ⟨hs0, by omega⟩
    have hll : LegsLen legs := by
      refine ⟨by omega, fun k hk => ?_⟩
      have h2 := (hR.l (legAt legs k) (by simp [legAt, hk])).n (legAt legs k).items.length (by simp [legN])
      unfold NumR at h2
      omega
    have htrip := trip_spec ⟨geti x 0, geti x 1⟩ legs 8 hll.n hll.i (by omega)
    simp
    refine pwp_draw 10 (by decide) ?_
    simp
    refine pd_spec hlast (by simp) (by simp) (by simp) rfl ?_
    simp
    refine ⟨by decide, ?_⟩
    by_cases hu : r = lastB s
    case neg =>
      have hv : readP text = .tup [.agg [.v (.int .i64 0), .v (.int .i64 0)], legL [], .v (.int .i64 4)] := by
        rw [if_pos hu] at hE
        rw [readP, hE]; rfl
      simp [hu]
      refine dpost_r ?_
      refine dend_of [108, 109, 110] [.box false [.v (.int .i64 0), .v (.int .i64 0)], .box false [.nil], .box false [.v (.int .i64 4)]] [.ref 0 0, .ref 1 0, .ref 2 0] (by decide) ?_ ?_ (read1_nil 0 0 4) rfl (x := .tup [.agg [.v (.int .i64 0), .v (.int .i64 0)], .nil, .v (.int .i64 4)]) (by simp [back, placeAll]) (readP text) [] [] ⟨by decide, ?_, ?_⟩ hQ
      · simp
      · simp
      · simp [back, placeAll]
      · rw [hv]; simp [back, placeAll, legL]
    rw [if_neg (by simpa using hu)] at hE
    simp [hu]
    refine pop_spec htrip rfl true (.inl ?_) (.inr rfl) rfl (by simp) ?_
    · simp [Spn.cells, legL]
      refine ⟨hi.symm, fun k hk => ?_⟩
      rw [rowsLg_get hk]
      exact ⟨vwAll_plain (Leg.plain _), by simp [Leg.cells, itmL]⟩
    by_cases ht0 : tripE ⟨geti x 0, geti x 1⟩ legs 8 = 0
    · have hv : readP text = .tup [.agg [.v (.int .i64 (geti x 0)), .v (.int .i64 (geti x 1))], legL legs, .v (.int .i64 0)] := by
        rw [if_neg (by simpa using ht0)] at hE
        rw [readP, hE]; rfl
      simp [ht0]
      refine pwp_draw 5 (by decide) ?_
      simp
      refine ⟨by decide, ?_⟩
      refine dpost_r ?_
      refine dend_of [108, 109, 110, 88] [.box false [.v (.int .i64 (geti x 0)), .v (.int .i64 (geti x 1))], .box false [.own 3 i 0 legs.length false], .box false [.v (.int .i64 0)], .rows none i 112 7 (rowsLg legs)] [.ref 0 0, .ref 1 0, .ref 2 0] (by decide) ?_ ?_ (read1_none (geti x 0) (geti x 1) 0 i legs) rfl (x := .tup [.agg [.v (.int .i64 (geti x 0)), .v (.int .i64 (geti x 1))], .own 88 i 0 legs.length false, .v (.int .i64 0)]) (by simp [back, placeAll]) (readP text) [] [] ⟨by decide, ?_, ?_⟩ hQ
      · simp [← hi]
      · simp
      · simp [back, placeAll]
      · rw [hv]
        simp [back, placeAll, legL]
        intro k hk
        rw [rowsLg_get hk]
        exact ⟨vwAll_plain (Leg.plain _), by simp [Leg.cells, itmL]⟩
    · have hv : readP text = .tup [.agg [.v (.int .i64 0), .v (.int .i64 0)], legL [], .v (.int .i64 2)] := by
        rw [if_pos ht0] at hE
        rw [readP, hE]; rfl
      simp [ht0]
      refine dpost_r ?_
      refine dend_of [108, 109, 110] [.box false [.v (.int .i64 0), .v (.int .i64 0)], .box false [.nil], .box false [.v (.int .i64 2)]] [.ref 0 0, .ref 1 0, .ref 2 0] (by decide) ?_ ?_ (read1_nil 0 0 2) rfl (x := .tup [.agg [.v (.int .i64 0), .v (.int .i64 0)], .nil, .v (.int .i64 2)]) (by simp [back, placeAll]) (readP text) [] [] ⟨by decide, ?_, ?_⟩ hQ
      · simp
      · simp
      · simp [back, placeAll]
      · rw [hv]; simp [back, placeAll, legL]
end Go.Qg

