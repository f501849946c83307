/-
  Lemmas and contracts that hold of the whole program: 18 texts in one.
  No condition.
-/
import Derived.Test.YtnjhblcfjhpoiaaGreatDoorZYop4
import Derived.KernelRfl
set_option linter.all false

namespace Go.Qg
open Go.Proofs Go.RowKit Go.Lib
set_option maxRecDepth 100000
set_option maxHeartbeats 64000000
attribute [local irreducible] pwp pops pdraw pop popCall pdCall thenP blockP scopeP pspec Spec answers ppost CallW rend
def rReadO (text : List UInt8) : Option (Spn × List Leg) :=
  match rrTrip (splL 10 text) with
  | some (f, l, u) => if u.length = 2 ∧ u.getD 1 [] = [] ∧ printB f l = text then some (f, l) else none
  | none => none
theorem rReadO_iff {text : List UInt8} {f : Spn} {l : List Leg} : rReadO text = some (f, l) ↔ refReads text f l := by
  unfold rReadO refReads
  constructor
  · intro h
    split at h
    · rename_i f' l' u hu
      split at h
      · rename_i hc
        obtain ⟨h1, h2, h3⟩ := hc
        simp only [Option.some.injEq, Prod.mk.injEq] at h
        obtain ⟨rfl, rfl⟩ := h
        refine ⟨u, hu, ?_, h3.symm⟩
        match u, h1, h2 with
        | [a, b], _, h2 => exact ⟨a, by simpa using h2⟩
      · cases h
    · cases h
  · rintro ⟨u, h1, ⟨a, rfl⟩, h2⟩
    rw [h1]
    simp only
    rw [if_pos ⟨rfl, rfl, h2.symm⟩]
def rReadP (text : List UInt8) : PV := match rReadO text with
  | some (f, l) => .tup [.agg f.cells, legL l, .v (.bool true)]
  | none => .tup [.agg [.v (.int .i64 0), .v (.int .i64 0)], legL [], .v (.bool false)]
theorem rReadP_none {text : List UInt8} (h : rReadO text = none) : rReadP text = .tup [.agg [.v (.int .i64 0), .v (.int .i64 0)], legL [], .v (.bool false)] := by rw [rReadP, h]
def cntL (l : List Leg) : Nat := (l.map fun g => 1 + g.items.length).sum
theorem cntTo_cnt (l : List Leg) : ∀ k, k ≤ l.length → cntTo l k = cntL (l.take k)
  | 0, _ => by simp [cntTo, cntL]
  | k + 1, h => by
    rw [cntTo, cntTo_cnt l k (by omega), take_at (by omega)]
    simp [cntL, legAt]
theorem cntL_snoc (l : List Leg) (g : Leg) : cntL (l ++ [g]) = cntL l + (1 + g.items.length) := by simp [cntL]
theorem rrLegs_step {n at_ : Nat} {L : List (List UInt8)} {b : Bool} {x : List Int} (h : at_ < L.length)
    (hx : (match rrLine (listsOf (howW true)) 6 (L.getD at_ []) with
      | some x => some (true, x)
      | none => (rrLine (listsOf (howW false)) 6 (L.getD at_ [])).map fun x => (false, x)) = some (b, x)) :
    rrLegs (n + 1) (L.drop at_) = match rrItems (geti x 5).toNat (L.drop (at_ + 1)) with
      | some (is, u) => match rrLegs n u with
        | some (l, v) => some (⟨is, b, geti x 0, ⟨geti x 1, geti x 2⟩, ⟨geti x 3, geti x 4⟩⟩ :: l, v)
        | none => none
      | none => none := by
  have e : L.drop at_ = L.getD at_ [] :: L.drop (at_ + 1) := by
    rw [List.drop_eq_getElem_cons h]; simp [List.getD, h]
  rw [e, rrLegs]
  cases h1 : rrLine (listsOf (howW true)) 6 (L.getD at_ []) with
  | some x' =>
    rw [h1] at hx
    simp only [Option.some.injEq, Prod.mk.injEq] at hx
    obtain ⟨rfl, rfl⟩ := hx
    rfl
  | none =>
    rw [h1] at hx
    cases h2 : rrLine (listsOf (howW false)) 6 (L.getD at_ []) with
    | none => rw [h2] at hx; cases hx
    | some x' =>
      rw [h2] at hx
      simp only [Option.map_some, Option.some.injEq, Prod.mk.injEq] at hx
      obtain ⟨rfl, rfl⟩ := hx
      rfl
theorem rrLegs_stop {n at_ : Nat} {L : List (List UInt8)} (h : at_ < L.length)
    (h1 : rrLine (listsOf (howW true)) 6 (L.getD at_ []) = none) (h2 : rrLine (listsOf (howW false)) 6 (L.getD at_ []) = none) : rrLegs (n + 1) (L.drop at_) = none := by
  have e : L.drop at_ = L.getD at_ [] :: L.drop (at_ + 1) := by
    rw [List.drop_eq_getElem_cons h]; simp [List.getD, h]
  rw [e, rrLegs, h1, h2]
  rfl
theorem rrItems_step {n at_ : Nat} {L : List (List UInt8)} {y : List Int} (h : at_ < L.length) (hy : rrLine (listsOf [itemW]) 3 (L.getD at_ []) = some y) :
    rrItems (n + 1) (L.drop at_) = (rrItems n (L.drop (at_ + 1))).map fun p => (⟨geti y 0, geti y 1, geti y 2⟩ :: p.1, p.2) := by
  have e : L.drop at_ = L.getD at_ [] :: L.drop (at_ + 1) := by
    rw [List.drop_eq_getElem_cons h]; simp [List.getD, h]
  rw [e, rrItems, hy]
  cases rrItems n (L.drop (at_ + 1)) <;> rfl
theorem rrItems_stop {n at_ : Nat} {L : List (List UInt8)} (h : at_ < L.length) (hy : rrLine (listsOf [itemW]) 3 (L.getD at_ []) = none) : rrItems (n + 1) (L.drop at_) = none := by
  have e : L.drop at_ = L.getD at_ [] :: L.drop (at_ + 1) := by
    rw [List.drop_eq_getElem_cons h]; simp [List.getD, h]
  rw [e, rrItems, hy]
theorem map_map2 {α β : Type} (r : Option (List α × β)) (a : List α) (x : α) : (r.map fun p => (x :: p.1, p.2)).map (fun p => (a ++ p.1, p.2)) = r.map fun p => ((a ++ [x]) ++ p.1, p.2) := by
  cases r with
  | none => rfl
  | some p => simp
theorem part_len {text : List UInt8} {c : UInt8} {i : Nat} (h : i < (splL c text).length) : ((splL c text).getD i []).length ≤ text.length := by
  have hm : (splL c text).getD i [] ∈ splL c text := by simp [List.getD, h]
  have := join_mem_len (c := c) hm
  rwa [join_parts] at this
theorem rRead_spec (text : List UInt8) (ht : text.length ≤ 20100) : Spec Tryz.prog 57 [.v (.string (bytesOf text))] (rReadP text) := by
  have hS := rSplit_spec text 10 (by omega)
  have hlenP := parts_len 10 text
  have hpl := fun i h => part_len (text := text) (c := 10) (i := i) h
  have hpne := splL_ne 10 text
  have hO : rReadO text = match rrTrip (splL 10 text) with
    | some (f, l, u) => if u.length = 2 ∧ u.getD 1 [] = [] ∧ printB f l = text then some (f, l) else none
    | none => none := rfl
  generalize splL 10 text = L at *
  have h0 : 0 < L.length := List.length_pos_iff.2 hpne
  have g0 : L.getD 0 [] = L[0] := by simp [List.getD, h0]
  have eL0 : L = L[0] :: L.drop 1 := by
    have := List.drop_eq_getElem_cons h0
    simpa using this
  have hT : rrTrip L = match rrLine (listsOf [tripW]) 3 L[0] with
      | some x => match rrLegs (geti x 2).toNat (L.drop 1) with
        | some (l, u) => some (⟨geti x 0, geti x 1⟩, l, u)
        | none => none
      | none => none := by
    conv => lhs; rw [eL0]
    rw [rrTrip]
    cases rrLine (listsOf [tripW]) 3 L[0] with
    | none => rfl
    | some x => dsimp only; cases rrLegs (geti x 2).toNat (L.drop 1) <;> rfl
  have hl0 := rnumbers_spec [tripW] 3 L[0] (by have := hpl 0 h0; rw [g0] at this; omega) (by simp) (by omega)
  refine spec_of mixed Tryz.func57 (by decide) rfl Tryz.results57 Tryz.ntmps57 (by decide) 0 (by simp) ?_
  simp
  refine pop_spec hS rfl false (.inl (by simp)) (.inl rfl) rfl (by simp [strsB, strsL]) ?_
  simp [strsB, strsL, h0]
  cases hh : rrLine (listsOf [tripW]) 3 L[0] with
  | none =>
    rw [hh] at hT hl0
    rw [hT] at hO
    refine pop_specF [(26, strsL [tripW])] ?_ hl0 rfl false (.inl ?_) (.inl rfl) rfl (by simp [rrV, ints]) ?_
    · simp [strsL, tripW, bytesOf]
    · simp [strsL]
    simp
    refine answers_of (x := .tup [.agg [.v (.int .i64 0), .v (.int .i64 0)], .nil, .v (.bool false)]) (by simp) ?_
    simp [rReadP_none hO, legL]
  | some x =>
    rw [hh] at hT hl0
    obtain ⟨hx3, hxn⟩ := rrLine_num hh
    have hx2 : NumR (geti x 2) := hxn _ (by simp [geti, hx3])
    refine pop_specF [(26, strsL [tripW])] ?_ hl0 rfl false (.inl ?_) (.inl rfl) rfl (by simp [rrV, ints]) ?_
    · simp [strsL, tripW, bytesOf]
    · simp [strsL]
    simp [rrV, ints, hx3]
    refine pwp_draw 8 (by decide) ?_
    simp [hx3]
    refine ⟨by decide, ?_⟩
    simp only at hT
    generalize hR1 : L.drop 1 = R1 at hT
    refine pwp_loop (fun s : Nat × List Leg × Nat => [(9, .own 145 s.1 0 s.1 false), (10, .v (.int .i64 s.2.2)), (11, .v (.int .i64 s.1)), (26, .undef), (145, .rows none s.1 112 7 (rowsLg s.2.1))]) (fun s => s.1 = s.2.1.length ∧ s.1 ≤ (geti x 2).toNat ∧ s.2.2 = cntL s.2.1 + 1 ∧ s.2.2 ≤ L.length ∧ rrLegs (geti x 2).toNat R1 = (rrLegs ((geti x 2).toNat - s.1) (L.drop s.2.2)).map fun p => (s.2.1 ++ p.1, p.2)) (fun s => (geti x 2).toNat - s.1) (0, [], 1) ⟨rfl, Nat.zero_le _, rfl, h0, by rw [← hR1]; simp⟩ (by simp; rfl) (by simp) ?_
    rintro ⟨i, legs, at_⟩ ⟨hi, hix, hat, hatL, hinv⟩
    simp only at hi hix hat hatL hinv
    obtain ⟨n, hn⟩ : ∃ n : Nat, geti x 2 = n := ⟨_, (Int.toNat_of_nonneg hx2.1).symm⟩
    rw [hn, Int.toNat_natCast] at hinv hix
    have hcl : legs.length ≤ cntL legs := by
      have := cntTo_ge legs legs.length
      rw [cntTo_cnt legs legs.length (Nat.le_refl _), List.take_length] at this
      exact this
    have hfail : rrLegs n R1 = none → rReadP text = .tup [.agg [.v (.int .i64 0), .v (.int .i64 0)], legL [], .v (.bool false)] := fun h => rReadP_none (by rw [hO, hT, hn, Int.toNat_natCast, h])
    by_cases hin : i < n
    · have wi := i64_wrap (show -9223372036854775808 ≤ (i : Int) + 1 ∧ _ from by omega)
      obtain ⟨m, hm⟩ : ∃ m, n - i = m + 1 := ⟨n - i - 1, by omega⟩
      rw [hm] at hinv
      by_cases hal : at_ < L.length
      case neg =>
        have hd : L.drop at_ = [] := List.drop_eq_nil_of_le (by omega)
        have hnone : rrLegs n R1 = none := by rw [hinv, hd]; rfl
        simp [hx3, hn, hin, show L.length ≤ at_ from by omega]
        refine answers_of (x := .tup [.agg [.v (.int .i64 0), .v (.int .i64 0)], .nil, .v (.bool false)]) (by simp) ?_
        simp [hfail hnone, legL]
      have wa := i64_wrap (show -9223372036854775808 ≤ (at_ : Int) + 1 ∧ _ from by omega)
      have ga : L.getD at_ [] = L[at_] := by simp [List.getD, hal]
      have hpa := hpl at_ hal
      rw [ga] at hpa
      have hk := rnumbers_spec [legW, keepW] 6 L[at_] (by omega) (by simp) (by omega)
      have hp := rnumbers_spec [legW, pumpW] 6 L[at_] (by omega) (by simp) (by omega)
      have st := @rrLegs_step m at_ L
      have sp := @rrLegs_stop m at_ L hal
      rw [ga] at st sp
      have eK : listsOf (howW false) = listsOf [legW, keepW] := rfl
      have eP : listsOf (howW true) = listsOf [legW, pumpW] := rfl
      rw [eK, eP] at st sp
      have hnK : ∀ y, rrLine (listsOf [legW, keepW]) 6 L[at_] = some y → y.length = 6 ∧ ∀ n ∈ y, NumR n := fun y h => rrLine_num h
      have hnP : ∀ y, rrLine (listsOf [legW, pumpW]) 6 L[at_] = some y → y.length = 6 ∧ ∀ n ∈ y, NumR n := fun y h => rrLine_num h
      generalize rrLine (listsOf [legW, keepW]) 6 L[at_] = rK at *
      generalize rrLine (listsOf [legW, pumpW]) 6 L[at_] = rP at *
      have hcase : (rP = none ∧ rK = none) ∨ ∃ (b : Bool) (x : List Int), x.length = 6 ∧ (∀ n ∈ x, NumR n) ∧ (rrLegs (m + 1) (L.drop at_) = match rrItems (geti x 5).toNat (L.drop (at_ + 1)) with
          | some (is, u) => match rrLegs m u with
            | some (l, v) => some (⟨is, b, geti x 0, ⟨geti x 1, geti x 2⟩, ⟨geti x 3, geti x 4⟩⟩ :: l, v)
            | none => none
          | none => none) ∧ ((b = true ∧ rP = some x) ∨ (b = false ∧ rP = none ∧ rK = some x)) := by
        cases h1 : rP with
        | some y =>
          refine .inr ⟨true, y, (hnP y h1).1, (hnP y h1).2, st hal (by rw [h1]), .inl ⟨rfl, rfl⟩⟩
        | none =>
          cases h2 : rK with
          | none => exact .inl ⟨rfl, rfl⟩
          | some y => exact .inr ⟨false, y, (hnK y h2).1, (hnK y h2).2, st hal (by rw [h1, h2]; rfl), .inr ⟨rfl, rfl, rfl⟩⟩
      simp [hx3, hn, hin, hal, show ¬ L.length ≤ at_ from by omega]
      refine pop_specF [(57, strsL [legW, keepW])] ?_ hk rfl false (.inl ?_) (.inl rfl) rfl (by simp [rrV, ints]) ?_
      · simp [strsL]
        refine lt2 ?_ ?_ <;> simp [legW, keepW, bytesOf]
      · simp [strsL]
      simp [hal]
      refine pop_specF [(66, strsL [legW, pumpW])] ?_ hp rfl false (.inl ?_) (.inl rfl) rfl (by simp [rrV, ints]) ?_
      · simp [strsL, rrV, ints]
        refine lt2 ?_ ?_ <;> simp [legW, pumpW, bytesOf]
      · simp [strsL]
      rcases hcase with ⟨hP, hK⟩ | ⟨b, y, hy6, hyn, hstep, hb⟩
      · have hnone : rrLegs n R1 = none := by rw [hinv, sp hP hK]; rfl
        simp [hP, hK, rrV, ints]
        refine answers_of (x := .tup [.agg [.v (.int .i64 0), .v (.int .i64 0)], .nil, .v (.bool false)]) (by simp) ?_
        simp [hfail hnone, legL]
      rw [hstep] at hinv
      have hy5 : NumR (geti y 5) := hyn _ (by simp [geti, hy6])
      obtain ⟨q, hq⟩ : ∃ q : Nat, geti y 5 = q := ⟨_, (Int.toNat_of_nonneg hy5.1).symm⟩
      rw [hq, Int.toNat_natCast] at hinv
      have hb3 : (b = true ∧ rP = some y ∧ rK = none) ∨ (∃ z, b = true ∧ rP = some y ∧ rK = some z) ∨ (b = false ∧ rP = none ∧ rK = some y) := by
        rcases hb with ⟨h1, h2⟩ | h
        · cases rK with
          | none => exact .inl ⟨h1, h2, rfl⟩
          | some z => exact .inr (.inl ⟨z, h1, h2, rfl⟩)
        · exact .inr (.inr h)
      clear hb
      rcases hb3 with ⟨hbv, hP, hK⟩ | ⟨z, hbv, hP, hK⟩ | ⟨hbv, hP, hK⟩
      all_goals
        simp [hP, hK, rrV, ints, hy6]
        refine pwp_draw 21 (by decide) ?_
        simp [hy6]
        refine ⟨by decide, ?_⟩
        simp [wa]
        refine pwp_loop (fun s : Nat × List Itm => [(10, .v (.int .i64 ((at_ + 1 + s.1 : Nat) : Int))), (16, .box true [.own 138 s.1 0 s.1 false, .v (.bool b), .v (.int .i64 (geti y 0)), .v (.int .i64 (geti y 1)), .v (.int .i64 (geti y 2)), .v (.int .i64 (geti y 3)), .v (.int .i64 (geti y 4))]), (17, .v (.int .i64 s.1)), (138, .rows none s.1 120 3 (rowsIt s.2))]) (fun s => s.1 = s.2.length ∧ s.1 ≤ q ∧ at_ + 1 + s.1 ≤ L.length ∧ rrItems q (L.drop (at_ + 1)) = (rrItems (q - s.1) (L.drop (at_ + 1 + s.1))).map fun p => (s.2 ++ p.1, p.2)) (fun s => q - s.1) (0, []) ⟨rfl, Nat.zero_le _, by omega, by simp⟩ (by simp; rfl) (by simp [hbv, strsL]) ?_
        rintro ⟨k, its⟩ ⟨hki, hkq, hkL, hkinv⟩
        simp only at hki hkq hkL hkinv
        by_cases hkn : k < q
        · have wk := i64_wrap (show -9223372036854775808 ≤ (k : Int) + 1 ∧ _ from by omega)
          obtain ⟨r, hr⟩ : ∃ r, q - k = r + 1 := ⟨q - k - 1, by omega⟩
          rw [hr] at hkinv
          have hstopI : rrItems (r + 1) (L.drop (at_ + 1 + k)) = none → rReadP text = .tup [.agg [.v (.int .i64 0), .v (.int .i64 0)], legL [], .v (.bool false)] := fun h => hfail (by rw [hinv, hkinv, h]; rfl)
          by_cases hal2 : at_ + 1 + k < L.length
          case neg =>
            have hd : L.drop (at_ + 1 + k) = [] := List.drop_eq_nil_of_le (by omega)
            have hnone := hstopI (by rw [hd]; rfl)
            simp [hy6, hq, hkn, show (L.length : Int) ≤ (at_ : Int) + 1 + k from by omega, show L.length ≤ at_ + 1 + k from by omega]
            refine answers_of (x := .tup [.agg [.v (.int .i64 0), .v (.int .i64 0)], .nil, .v (.bool false)]) (by simp) ?_
            simp [hnone, legL]
          have wb := i64_wrap (show -9223372036854775808 ≤ (at_ : Int) + 1 + k + 1 ∧ _ from by omega)
          have gb : L.getD (at_ + 1 + k) [] = L[at_ + 1 + k] := by simp [List.getD, hal2]
          have hpb := hpl (at_ + 1 + k) hal2
          rw [gb] at hpb
          have hI := rnumbers_spec [itemW] 3 L[at_ + 1 + k] (by omega) (by simp) (by omega)
          have stI := @rrItems_step r (at_ + 1 + k) L
          have spI := @rrItems_stop r (at_ + 1 + k) L hal2
          rw [gb] at stI spI
          have hnI : ∀ y, rrLine (listsOf [itemW]) 3 L[at_ + 1 + k] = some y → y.length = 3 ∧ ∀ n ∈ y, NumR n := fun y h => rrLine_num h
          generalize rrLine (listsOf [itemW]) 3 L[at_ + 1 + k] = rI at *
          simp [hy6, hq, hkn, show ¬ (L.length : Int) ≤ (at_ : Int) + 1 + k from by omega, show ¬ L.length ≤ at_ + 1 + k from by omega, show (at_ : Int) + 1 + k < L.length from by omega, show (0 : Int) ≤ (at_ : Int) + 1 + k from by omega, show ((at_ : Int) + 1 + k).toNat = at_ + 1 + k from by omega, hal2]
          refine pop_specF [(117, strsL [itemW])] ?_ hI rfl false (.inl ?_) (.inl rfl) rfl (by simp [rrV, ints]) ?_
          · simp [strsL, itemW, bytesOf]
          · simp [strsL]
          cases rI with
          | none =>
            have hnone := hstopI (spI rfl)
            simp [rrV, ints]
            refine answers_of (x := .tup [.agg [.v (.int .i64 0), .v (.int .i64 0)], .nil, .v (.bool false)]) (by simp) ?_
            simp [hnone, legL]
          | some v =>
            obtain ⟨hv3, hvn⟩ := hnI v rfl
            rw [stI hal2 rfl, map_map2] at hkinv
            simp [rrV, ints, hv3]
            refine pwp_draw 17 (by decide) ?_
            simp [hv3, show (k + 1) * 24 ≤ 140737488355328 from by omega, show k + 1 ≤ maxLen from by simp [maxLen]; omega, ← hki]
            refine ⟨by decide, ?_⟩
            simp [wb]
            refine again_of (k + 1, its ++ [⟨geti v 0, geti v 1, geti v 2⟩]) ⟨by simp [hki], by simp only; omega, by simp only; omega, ?_⟩ (by simp only; omega) ?_
            · simp only
              rw [hkinv, show q - (k + 1) = r from by omega]
              rfl
            · have htk : its.take k = its := by rw [hki]; simp
              have er := rowsIt_snoc' its ⟨geti v 0, geti v 1, geti v 2⟩
              simp only at er
              simp [wk, er, htk, strsL, show (at_ : Int) + 1 + k + 1 = (at_ : Int) + 1 + (k + 1) from by omega]
        · obtain rfl : k = q := by omega
          rw [Nat.sub_self, rrItems] at hkinv
          simp only [Option.map_some, List.append_nil] at hkinv
          rw [hkinv] at hinv
          simp only at hinv
          simp [hy6, hq, show (i + 1) * 72 ≤ 140737488355328 from by omega, show i + 1 ≤ maxLen from by simp [maxLen]; omega, ← hi]
          refine again_of (i + 1, legs ++ [⟨its, b, geti y 0, ⟨geti y 1, geti y 2⟩, ⟨geti y 3, geti y 4⟩⟩], at_ + 1 + k) ⟨by simp [hi], by simp only; omega, by simp only [cntL_snoc]; omega, by simp only; omega, ?_⟩ (by simp only; omega) ?_
          · simp only
            rw [hinv, show n - (i + 1) = m from by omega]
            cases rrLegs m (L.drop (at_ + 1 + k)) with
            | none => rfl
            | some p => simp
          · have htk : legs.take i = legs := by rw [hi]; simp
            simp [wi, htk, ← rowsLg_snoc, vwAllL_snocLg, rowsLg_allone, Leg.cells, itmL]
            refine ⟨hki.symm, fun j hj => ?_⟩
            rw [rowsIt_get hj]
            exact ⟨by simp [Itm.cells], by simp [Itm.cells]⟩
    · obtain rfl : i = n := by omega
      have w2 := i64_wrap (show -9223372036854775808 ≤ (L.length : Int) - 2 ∧ _ from by omega)
      have wa := i64_wrap (show -9223372036854775808 ≤ (at_ : Int) + 1 ∧ _ from by omega)
      have hr : rrLegs i R1 = some (legs, L.drop at_) := by rw [hinv, Nat.sub_self, rrLegs]; simp
      rw [hn, Int.toNat_natCast, hr] at hT
      simp only at hT
      have hR := rrTrip_num hT
      rw [hT] at hO
      simp only [List.length_drop] at hO
      have hcnt : cntTo legs legs.length ≤ 1000000 := by rw [cntTo_cnt legs legs.length (Nat.le_refl _), List.take_length]; omega
      have hPr := rPrint_spec ⟨geti x 0, geti x 1⟩ legs hR hcnt
      have hz : ∀ x : PV, presults Tryz.prog [] [] = none → True := fun _ _ => trivial
      by_cases hq : L.length - at_ = 2
      case neg =>
        have hnone : rReadO text = none := by rw [hO, if_neg (fun h => hq h.1)]
        simp [hx3, hn, w2, wa, show ¬ (at_ : Int) = (L.length : Int) - 2 from by omega]
        refine answers_of (x := .tup [.agg [.v (.int .i64 0), .v (.int .i64 0)], .nil, .v (.bool false)]) (by simp) ?_
        simp [rReadP_none hnone, legL]
      have hal : at_ + 1 < L.length := by omega
      have w2 : IntKind.i64.wrap ((L.length : Int) - 2) = (at_ : Int) := by rw [w2]; omega
      have g2 : (L.drop at_).getD 1 [] = L[at_ + 1] := by simp [List.getD, hal]
      rw [g2] at hO
      by_cases he : L[at_ + 1] = []
      case neg =>
        have hnone : rReadO text = none := by rw [hO, if_neg (fun h => he h.2.1)]
        simp [hx3, hn, w2, wa, show (0 : Int) ≤ (at_ : Int) + 1 from by omega, show (at_ : Int) + 1 < L.length from by omega, show ((at_ : Int) + 1).toNat = at_ + 1 from by omega, hal, he]
        refine answers_of (x := .tup [.agg [.v (.int .i64 0), .v (.int .i64 0)], .nil, .v (.bool false)]) (by simp) ?_
        simp [rReadP_none hnone, legL]
      simp [hx3, hn, w2, wa, show (0 : Int) ≤ (at_ : Int) + 1 from by omega, show (at_ : Int) + 1 < L.length from by omega, show ((at_ : Int) + 1).toNat = at_ + 1 from by omega, hal, he, lit_nil]
      refine pop_spec hPr rfl true (.inl ?_) (.inr rfl) rfl (by simp) ?_
      · simp [Spn.cells, legL]
        refine ⟨hi.symm, fun k hk => ?_⟩
        rw [rowsLg_get hk]
        exact ⟨vwAll_plain (Leg.plain _), by simp [Leg.cells, itmL]⟩
      by_cases hpt : printB ⟨geti x 0, geti x 1⟩ legs = text
      · have hsome : rReadO text = some (⟨geti x 0, geti x 1⟩, legs) := by rw [hO, if_pos ⟨hq, he, hpt⟩]
        have hv : rReadP text = .tup [.agg [.v (.int .i64 (geti x 0)), .v (.int .i64 (geti x 1))], legL legs, .v (.bool true)] := by rw [rReadP, hsome]; rfl
        simp [hpt]
        refine answers_of (x := .tup [.agg [.v (.int .i64 (geti x 0)), .v (.int .i64 (geti x 1))], .own 145 i 0 i false, .v (.bool true)]) (by simp) ?_
        rw [hv]
        simp [legL]
        refine ⟨hi.symm, fun k hk => ?_⟩
        rw [rowsLg_get hk]
        exact ⟨vwAll_plain (Leg.plain _), by simp [Leg.cells, itmL]⟩
      · have hnone : rReadO text = none := by rw [hO, if_neg (fun h => hpt h.2.2)]
        simp [hpt]
        refine answers_of (x := .tup [.agg [.v (.int .i64 0), .v (.int .i64 0)], .nil, .v (.bool false)]) (by simp) ?_
        simp [rReadP_none hnone, legL]
end Go.Qg


namespace Go.Qg
open Go.Proofs
set_option maxRecDepth 100000
set_option maxHeartbeats 32000000
attribute [local irreducible] pwp pops pdraw pop popCall pdCall thenP blockP scopeP pspec Spec answers ppost CallW rend
theorem rin_spec (n lo hi : Int) : Spec Tryz.prog 58 [.v (.int .i64 n), .v (.int .i64 lo), .v (.int .i64 hi)] (.v (.bool (inB n lo hi))) := by
  refine spec_of mixed Tryz.func58 (by decide) rfl Tryz.results58 Tryz.ntmps58 (by decide) 0 (by simp) ?_
  by_cases h1 : lo ≤ n
  · by_cases h2 : n ≤ hi <;> (simp [h1, h2]; refine answers_of rfl ?_; simp [inB, h1, h2])
  · simp [h1]; refine answers_of rfl ?_; simp [inB, h1]
theorem rSpan_spec (s : Spn) (lo hi : Int) : Spec Tryz.prog 52 [.agg s.cells, .v (.int .i64 lo), .v (.int .i64 hi)] (.v (.bool (spanB s lo hi))) := by
  refine spec_of mixed Tryz.func52 (by decide) rfl Tryz.results52 Tryz.ntmps52 (by decide) 0 (by simp) ?_
  simp [Spn.cells]
  refine pop_spec (rin_spec s.low lo s.high) rfl false (.inl (by simp)) (.inl rfl) rfl (by simp) ?_
  cases h1 : inB s.low lo s.high with
  | false =>
    simp
    refine answers_of rfl ?_
    have : ¬ (lo ≤ s.low ∧ s.low ≤ s.high) := fun h => by rw [inB_spec.2 h] at h1; cases h1
    simp [spanB]
    intro a b
    exact (this ⟨a, b⟩).elim
  | true =>
    have h := inB_spec.1 h1
    by_cases h2 : s.high ≤ hi
    · simp [h2]
      refine answers_of rfl ?_; simp [spanB, h, h2]
    · simp [h2]
      refine answers_of rfl ?_; simp [spanB, h2]
end Go.Qg


namespace Go.Qg
open Go.Proofs
set_option maxRecDepth 100000
set_option maxHeartbeats 16000000
attribute [local irreducible] pwp pops pdraw pop popCall pdCall thenP blockP scopeP pspec Spec answers ppost CallW rend
theorem ritems_spec (l : List Itm) (ns : Int) (hl : l.length ≤ 9223372036854775807) (hns : 0 ≤ ns ∧ ns ≤ 9223372036854775807) : Spec Tryz.prog 86 [itmL l, .v (.int .i64 ns)] (.v (.bool (itemsB l ns))) := by
  have wn := i64_wrap (show -9223372036854775808 ≤ ns - 1 ∧ _ from by omega)
  refine spec_of mixed Tryz.func86 (by decide) rfl Tryz.results86 Tryz.ntmps86 (by decide) 0 (by simp) ?_
  simp [itmL]
  refine pwp_loop (fun k : Nat => [(5, .v (.int .i64 k))]) (fun k => k ≤ l.length ∧ ∀ j, j < k → itmB ns (itmAt l j) = true) (fun k => l.length - k) 0 ⟨Nat.zero_le _, fun j h => by omega⟩ (by simp; rfl) (by simp) ?_
  intro k ⟨hk, hq⟩
  by_cases hkl : k < l.length
  · have wk := i64_wrap (show -9223372036854775808 ≤ (k : Int) + 1 ∧ _ from by omega)
    simp [hkl, Itm.cells, wn]
    refine pop_spec (rin_spec (itmAt l k).station 0 (ns - 1)) rfl false (.inl (by simp)) (.inl rfl) rfl (by simp) ?_
    cases h1 : inB (itmAt l k).station 0 (ns - 1) with
    | false =>
      simp
      refine answers_of rfl ?_
      have : (allN l.length fun k => itmB ns (itmAt l k)) = false := allN_false hkl (by simp [itmB, h1])
      simp [itemsB, this]
    | true =>
      simp [hkl]
      refine pop_spec (rSpan_spec ⟨(itmAt l k).low, (itmAt l k).high⟩ 0 20000) rfl false (.inl (by simp [Spn.cells])) (.inl rfl) rfl (by simp) ?_
      cases h2 : spanB ⟨(itmAt l k).low, (itmAt l k).high⟩ 0 20000 with
      | false =>
        simp
        refine answers_of rfl ?_
        have : (allN l.length fun k => itmB ns (itmAt l k)) = false := allN_false hkl (by simp [itmB, h1, h2])
        simp [itemsB, this]
      | true =>
        simp
        refine again_of (k + 1) ⟨by omega, fun j hj => ?_⟩ (by omega) ?_
        · rcases Nat.lt_or_eq_of_le (Nat.le_of_lt_succ hj) with h' | rfl
          · exact hq j h'
          · simp [itmB, h1, h2]
        · simp [wk]
  · obtain rfl : k = l.length := by omega
    have : (allN l.length fun k => itmB ns (itmAt l k)) = true := allN_spec.2 hq
    by_cases h : l.length ≤ 12
    · simp [show (l.length : Int) ≤ 12 from by omega]
      refine answers_of rfl ?_; simp [itemsB, this, h]
    · simp [show ¬ (l.length : Int) ≤ 12 from by omega]
      refine answers_of rfl ?_; simp [itemsB, this, h]
def legsB (legs : List Leg) (ns : Int) : Bool := (allN legs.length fun k => legB ns (legAt legs k)) && decide (1 ≤ legs.length)
theorem rLegs_spec (legs : List Leg) (ns : Int) (hl : LegsLen legs) (hns : 0 ≤ ns ∧ ns ≤ 9223372036854775807) : Spec Tryz.prog 53 [legL legs, .v (.int .i64 ns)] (.v (.bool (legsB legs ns))) := by
  have hl0 := hl.n
  refine spec_of mixed Tryz.func53 (by decide) rfl Tryz.results53 Tryz.ntmps53 (by decide) 0 (by simp) ?_
  simp [legL]
  refine pwp_loop (fun k : Nat => [(5, .v (.int .i64 k))]) (fun k => k ≤ legs.length ∧ ∀ j, j < k → legB ns (legAt legs j) = true) (fun k => legs.length - k) 0 ⟨Nat.zero_le _, fun j h => by omega⟩ (by simp; rfl) (by simp) ?_
  intro k ⟨hk, hq⟩
  by_cases hkl : k < legs.length
  · have wk := i64_wrap (show -9223372036854775808 ≤ (k : Int) + 1 ∧ _ from by omega)
    have go : legB ns (legAt legs k) = false → legsB legs ns = false := fun h => by
      have : (allN legs.length fun k => legB ns (legAt legs k)) = false := allN_false hkl h
      simp [legsB, this]
    simp [hkl, Leg.cells, itmL]
    refine pop_spec (ritems_spec (legAt legs k).items ns (hl.i k hkl) hns) rfl false (.inl (by simp [itmL])) (.inl rfl) rfl (by simp) ?_
    cases h1 : itemsB (legAt legs k).items ns with
    | false =>
      simp
      refine answers_of rfl ?_; simp [go (by simp [legB, h1])]
    | true =>
      simp [hkl]
      refine pop_spec (rin_spec (legAt legs k).fuel 0 20000) rfl false (.inl (by simp)) (.inl rfl) rfl (by simp) ?_
      cases h2 : inB (legAt legs k).fuel 0 20000 with
      | false =>
        simp
        refine answers_of rfl ?_; simp [go (by simp [legB, h2])]
      | true =>
        simp [hkl]
        refine pop_spec (rSpan_spec (legAt legs k).burn 0 20000) rfl false (.inl (by simp [Spn.cells])) (.inl rfl) rfl (by simp) ?_
        cases h3 : spanB (legAt legs k).burn 0 20000 with
        | false =>
          simp
          refine answers_of rfl ?_; simp [go (by simp [legB, h3])]
        | true =>
          simp [hkl]
          refine pop_spec (rSpan_spec (legAt legs k).leak 0 20000) rfl false (.inl (by simp [Spn.cells])) (.inl rfl) rfl (by simp) ?_
          cases h4 : spanB (legAt legs k).leak 0 20000 with
          | false =>
            simp
            refine answers_of rfl ?_; simp [go (by simp [legB, h4])]
          | true =>
            simp
            refine again_of (k + 1) ⟨by omega, fun j hj => ?_⟩ (by omega) ?_
            · rcases Nat.lt_or_eq_of_le (Nat.le_of_lt_succ hj) with h' | rfl
              · exact hq j h'
              · simp [legB, h1, h2, h3, h4]
            · simp [wk]
  · obtain rfl : k = legs.length := by omega
    have : (allN legs.length fun k => legB ns (legAt legs k)) = true := allN_spec.2 hq
    by_cases h : 1 ≤ legs.length
    · simp [show (1 : Int) ≤ legs.length from by omega]
      refine answers_of rfl ?_; simp [legsB, this, h]
    · simp [show ¬ (1 : Int) ≤ legs.length from by omega]
      refine answers_of rfl ?_; simp [legsB, this, h]
end Go.Qg





namespace Go.Qg
open Go.Proofs
set_option maxRecDepth 100000
set_option maxHeartbeats 32000000
attribute [local irreducible] pwp pops pdraw pop popCall pdCall thenP blockP scopeP pspec Spec answers ppost CallW rend
theorem rowsB_app (a b : List Bool) : rowsB a ++ rowsB b = rowsB (a ++ b) := by simp [rowsB]
def brT (P : Pln) (legs : List Leg) (n : Int) (j c : Nat) : List Bool := (idxT P j ++ idxR P j c).map (canX P legs n)
theorem brT_zero (P : Pln) (legs : List Leg) (n : Int) : brT P legs n 0 0 = [] := rfl
theorem brT_succ (P : Pln) (legs : List Leg) (n : Int) (j c : Nat) : brT P legs n j c ++ rl P (ptOf P ⟨n, n⟩ legs j) c = brT P legs n j (c + 1) := by
  simp only [brT, idxR, List.map_append, List.map_map, List.append_assoc]
  rfl
theorem brT_next (P : Pln) (legs : List Leg) (n : Int) (j : Nat) : brT P legs n j 6 = brT P legs n (j + 1) 0 := by simp [brT, idxT, idxR]
theorem brT_all (P : Pln) (legs : List Leg) (n : Int) : brT P legs n (2 * legs.length) 0 = breaksL P legs n := by simp [brT, idxR, breaksL]
theorem idxR_le {P : Pln} (hP : PlnOk P) (j : Nat) : ∀ c, (idxR P j c).length ≤ 12 * c
  | 0 => by simp [idxR]
  | c + 1 => by
    have h1 := idxR_le hP j c
    have h2 := manyR_le hP (c + 2)
    simp only [idxR, List.length_append, List.length_map, List.length_range]; omega
theorem idxT_le {P : Pln} (hP : PlnOk P) : ∀ n, (idxT P n).length ≤ 72 * n
  | 0 => by simp [idxT]
  | n + 1 => by
    have h1 := idxT_le hP n
    have h2 := idxR_le hP n 6
    simp only [idxT, List.length_append]; omega
theorem brT_le {P : Pln} (hP : PlnOk P) (legs : List Leg) (n : Int) (j c : Nat) : (brT P legs n j c).length ≤ 72 * j + 12 * c := by
  have h1 := idxT_le hP j
  have h2 := idxR_le hP j c
  simp only [brT, List.length_map, List.length_append]; omega
theorem breaks_spec (P : Pln) (legs : List Leg) (n : Int) (hP : PlnOk P) (hT : TripOk P ⟨n, n⟩ legs) : Spec Tryz.prog 64 [.agg P.cells, legL legs, .v (.int .i64 n)] (bools (breaksL P legs n)) := by
  have hn := hT.n
  have hp := points_spec P ⟨n, n⟩ legs hP.nf hT
  have hat := fun j (h : j < 2 * legs.length) => pntAt_ptsL (P := P) (fuel := ⟨n, n⟩) (legs := legs) h
  have hok := fun j (h : j < 2 * legs.length) => ptOf_ok hT h
  have hlen := ptsL_length P ⟨n, n⟩ legs (2 * legs.length)
  have hml := manyR_le hP
  simp only [Spn.cells] at hp
  generalize ptsL P ⟨n, n⟩ legs (2 * legs.length) = L at *
  refine spec_of mixed Tryz.func64 (by decide) rfl Tryz.results64 Tryz.ntmps64 (by decide) 0 (by simp) ?_
  simp [Pln.cells, cnrL, stnL, legL]
  refine pop_spec hp rfl false (.inl (by simp [Pln.cells, cnrL, stnL, legL])) (.inl rfl) rfl (by simp [pntL]) ?_
  simp [pntL, hlen]
  refine pwp_loop (fun j : Nat => [(7, .own 34 (6 * j) 0 (brT P legs n j 0).length false), (19, .v (.int .i64 j)), (34, .rows none (6 * j) 4 1 (rowsB (brT P legs n j 0)))]) (fun j => j ≤ 2 * legs.length) (fun j => 2 * legs.length - j) 0 (Nat.zero_le _) (by simp; rfl) (by simp [hlen, brT_zero]) ?_
  intro j hj
  by_cases hjl : j < 2 * legs.length
  · have wj := i64_wrap (show -9223372036854775808 ≤ (j : Int) + 1 ∧ _ from by omega)
    have hrs := rules_spec P (ptOf P ⟨n, n⟩ legs j)
    have hr := fun r (h : r < 6) => rule_spec P (ptOf P ⟨n, n⟩ legs j) hP (hok j hjl) h
    have hsucc := fun c => brT_succ P legs n j c
    have hle := fun c => brT_le hP legs n j c
    have hrll := fun c => rl_length P (ptOf P ⟨n, n⟩ legs j) c
    have hX : ptOf P ⟨n, n⟩ legs j = pntAt L j := (hat j hjl).symm
    rw [hX] at hrs hr hsucc hrll
    simp only [rulesV] at hrs
    have hpc : pntC P (pntAt L j) = [.v (.int .i64 P.empty), .v (.int .i64 P.moment), .v (.int .i64 P.takeoff), .v (.int .i64 P.landing), cnrL P.corners, stnL P.stations, .v (.int .i64 P.tank.arm), .v (.int .i64 P.tank.most), .v (.int .i64 P.reserve), stnL P.floats, itmL (pntAt L j).items, .v (.int .i64 (pntAt L j).tank.low), .v (.int .i64 (pntAt L j).tank.high), spnL (pntAt L j).water, .v (.bool (pntAt L j).landing)] := rfl
    simp (config := { maxSteps := 4000000 }) [show (j : Int) < 2 * (legs.length : Int) from by omega, hlen, show j < L.length from by omega, hjl, Pnt.cells, itmL, spnL]
    refine pop_spec hrs rfl false (.inl (by simp [hpc, cnrL, stnL, itmL, spnL])) (.inl rfl) rfl (by simp [hpc, cnrL, stnL, itmL, spnL]) ?_
    simp [hpc, cnrL, stnL, itmL, spnL]
    refine pwp_loop (fun c : Nat => [(7, .own 34 (6 * j + c) 0 (brT P legs n j c).length false), (28, .v (.int .i64 c)), (34, .rows none (6 * j + c) 4 1 (rowsB (brT P legs n j c)))]) (fun c => c ≤ 6) (fun c => 6 - c) 0 (Nat.zero_le _) (by simp; rfl) (by simp [hpc, cnrL, stnL, itmL, spnL, hlen]) ?_
    intro c hc
    by_cases hlt : c < 6
    · have hcall := hr c hlt
      have hm := hml (c + 2)
      have hrl := hrll c
      have hs := hsucc c
      have h0 := hle c
      have e1 : (brT P legs n j (c + 1)).length = (brT P legs n j c).length + (rl P (pntAt L j) c).length := by rw [← hs, List.length_append]
      have er := rowsB_app (brT P legs n j c) (rl P (pntAt L j) c)
      rw [hs] at er
      have erng := rowsB_range (rl P (pntAt L j) c)
      generalize rl P (pntAt L j) c = R at *
      generalize hB : brT P legs n j c = B at *
      have et : B.take B.length = B := List.take_of_length_le (Nat.le_refl _)
      obtain ⟨c', hc'⟩ : ∃ c', c' = c + 1 := ⟨_, rfl⟩
      have hcases : c = 0 ∨ c = 1 ∨ c = 2 ∨ c = 3 ∨ c = 4 ∨ c = 5 := by omega
      rcases hcases with rfl | rfl | rfl | rfl | rfl | rfl
      all_goals
        simp only [ruleF] at hcall
        simp [ruleF]
        refine pop_spec hcall rfl false (.inl (by simp [hpc, cnrL, stnL, itmL, spnL])) (.inl rfl) rfl (by simp [bools]) ?_
        simp [bools, show B.length + R.length ≤ 140737488355328 from by omega, show B.length + R.length ≤ maxLen from by simp [maxLen]; omega]
        refine again_of c' (by omega) (by omega) ?_
        subst hc'
        simp [hlen, e1, er, et, erng]
    · obtain rfl : c = 6 := by omega
      simp
      refine again_of (j + 1) (by omega) (by omega) ?_
      simp [wj, hlen, brT_next, show 6 * (j + 1) = 6 * j + 6 from by omega]
  · obtain rfl : j = 2 * legs.length := by omega
    simp [hlen]
    refine answers_of rfl ?_
    rw [brT_all]
    simp [bools]
    intro k hk
    simp [rowsB_get hk]
theorem end_unique {p : Int → Bool} {K : Nat} (h : p K = false) {x : Int} (hx : 0 ≤ x) (h1 : p x = false) (h2 : ∀ n : Int, 0 ≤ n → n < x → p n = true) : endOf p K = x := by
  obtain ⟨g1, g2, g3⟩ := endOf_spec h
  rcases Int.lt_trichotomy (endOf p K) x with c | c | c
  · have := h2 _ g1.1 c; rw [g2] at this; cases this
  · exact c
  · have := g3 x hx c; rw [h1] at this; cases this
theorem change_spec (f : FuncId) (first cap : List PV) (h1 : plainL first = true) (h2 : plainL cap = true) (p : Int → Bool) (hd : DownB p) (hK : p 20000 = false)
    (h : ∀ n : Int, 0 ≤ n → n ≤ 20000 → Spec Tryz.prog f (first ++ ([.v (.int .i64 n)] ++ cap)) (.v (.bool (p n)))) : Spec Tryz.prog 65 [.v (.int .i64 0), .v (.int .i64 20000), .clo (.func f) first cap] (.v (.int .i64 (endOf p (20000 : Nat)))) := by
  refine spec_of mixed Tryz.func65 (by decide) rfl Tryz.results65 Tryz.ntmps65 (by decide) 0 (by simp) ?_
  simp [renL_plain h1, renL_plain h2]
  refine pop_spec (h 20000 (by omega) (by omega)) rfl false (.inr ⟨by simp, by simp [namesL_append, plainL_names h1, plainL_names h2]⟩) (.inl rfl) rfl (by simp) ?_
  rw [hK]
  simp
  refine pwp_loop (fun s : Int × Int => [(0, .v (.int .i64 s.1)), (1, .v (.int .i64 s.2))]) (fun s => (0 ≤ s.1 ∧ s.1 ≤ s.2 ∧ s.2 ≤ 20000) ∧ p s.2 = false ∧ ∀ n : Int, 0 ≤ n → n < s.1 → p n = true) (fun s => (s.2 - s.1).toNat) (0, 20000) ⟨by simp, hK, fun n a b => by simp only at b; omega⟩ (by simp; rfl) (by simp [vwAll_plain h1, vwAll_plain h2]) ?_
  rintro ⟨lo, hi⟩ ⟨⟨a1, a2, a3⟩, a4, a5⟩
  simp only at a1 a2 a3 a4 a5 ⊢
  by_cases hlt : lo < hi
  · obtain ⟨d, hdv⟩ : ∃ d : Int, d = (hi - lo) / 2 := ⟨_, rfl⟩
    have hd0 : 0 ≤ d ∧ lo + d < hi := by omega
    have w1 := i64_wrap (show -9223372036854775808 ≤ hi - lo ∧ _ from by omega)
    have w2 : (hi - lo).tdiv 2 = d := by rw [Int.tdiv_eq_ediv_of_nonneg (by omega), hdv]
    have w3 := i64_wrap (show -9223372036854775808 ≤ d ∧ _ from by omega)
    have w4 := i64_wrap (show -9223372036854775808 ≤ lo + d ∧ _ from by omega)
    have w5 := i64_wrap (show -9223372036854775808 ≤ lo + d + 1 ∧ _ from by omega)
    simp [hlt, w1, w2, w3, w4]
    refine pop_spec (h (lo + d) (by omega) (by omega)) rfl false (.inr ⟨by simp, by simp [namesL_append, plainL_names h1, plainL_names h2]⟩) (.inl rfl) rfl (by simp) ?_
    cases hp : p (lo + d) with
    | false =>
      simp
      refine again_of (lo, lo + d) ⟨⟨a1, by omega, by omega⟩, hp, a5⟩ (by simp only; omega) ?_
      simp [vwAll_plain h1, vwAll_plain h2]
    | true =>
      simp [w5]
      refine again_of (lo + d + 1, hi) ⟨⟨by omega, by omega, a3⟩, a4, fun n b1 b2 => hd n (lo + d) (by simp only at b2; omega) hp⟩ (by simp only; omega) ?_
      simp [vwAll_plain h1, vwAll_plain h2]
  · obtain rfl : hi = lo := by omega
    simp
    refine answers_of rfl ?_
    rw [end_unique (K := 20000) hK a1 a4 a5]
    simp
theorem tripOk_fuel {P : Pln} {f g : Spn} {legs : List Leg} (h : TripOk P f legs) (hg : 0 ≤ g.low ∧ g.low ≤ g.high ∧ g.high ≤ 20000) : TripOk P g legs := ⟨hg, h.n, h.leg⟩
theorem Fuel1_spec (P : Pln) (legs : List Leg) (n : Int) (k : Nat) (hP : PlnOk P) (hT : TripOk P ⟨n, n⟩ legs) (hk : k < (idxT P (2 * legs.length)).length) :
    Spec Tryz.prog 66 [.v (.int .i64 n), .rp P.cells 0, .rp [legL legs] 0, .rp [.v (.int .i64 k)] 0] (.v (.bool (brkK P legs k n))) := by
  have hb := breaks_spec P legs n hP hT
  have hlen := breaksL_length P legs n
  have e : brkK P legs k n = getb (breaksL P legs n) k := rfl
  rw [e]
  generalize breaksL P legs n = B at *
  refine spec_of mixed Tryz.func66 (by decide) rfl Tryz.results66 Tryz.ntmps66 (by decide) 0 (by simp) ?_
  simp [Pln.cells, cnrL, stnL, legL]
  refine pwp_draw 7 (by decide) ?_
  simp
  refine pd_spec hb (by simp [Pln.cells, cnrL, stnL, legL]) (by simp) (by simp [Pln.cells, cnrL, stnL, legL]) (by simp [bools]) ?_
  simp [bools, show k < B.length from by omega]
  refine ⟨by decide, ?_⟩
  refine answers_of rfl ?_; simp
theorem fuelTo_no {p : Nat → Int → Bool} {K k : Nat} (h : fuelTo p K k = none) : ∀ {N : Nat}, k ≤ N → fuelTo p K N = none
  | 0, hk => by obtain rfl : k = 0 := by omega
                exact h
  | N + 1, hk => by
    rcases Nat.lt_or_eq_of_le hk with c | rfl
    · simp only [fuelTo, fuelTo_no h (show k ≤ N by omega)]
    · exact h
def fuelRes (P : Pln) (legs : List Leg) : PV := if trippedE P ⟨0, 0⟩ legs = 0 then (match fuelP P legs with
  | some n => .tup [.v (.int .i64 n), .v (.int .i64 0)]
  | none => .tup [.v (.int .i64 0), .v (.int .i64 5)]) else .tup [.v (.int .i64 0), .v (.int .i64 (trippedE P ⟨0, 0⟩ legs))]
theorem Fuel_spec (P : Pln) (legs : List Leg) (hP : PlnLen P) (hl : LegsLen legs) : Spec Tryz.prog 18 [.agg P.cells, legL legs] (fuelRes P legs) := by
  have ht := tripped_spec P ⟨0, 0⟩ legs hP hl.n hl.i
  simp only [Spn.cells] at ht
  unfold fuelRes
  refine spec_of mixed Tryz.func18 (by decide) rfl Tryz.results18 Tryz.ntmps18 (by decide) 0 (by simp) ?_
  simp [Pln.cells, cnrL, stnL, legL]
  refine pop_spec ht rfl false (.inl (by simp [Pln.cells, cnrL, stnL, legL])) (.inl rfl) rfl (by simp) ?_
  by_cases h : trippedE P ⟨0, 0⟩ legs = 0
  case neg =>
    simp [h]
    refine answers_of rfl ?_; simp
  obtain ⟨k1, k2⟩ := tripped_ok.1 h
  have hn := k2.n
  have hb0 := breaks_spec P legs 0 k1 k2
  have hb1 := breaks_spec P legs 20000 k1 (tripOk_fuel k2 (by simp))
  have hl0 := breaksL_length P legs 0
  have hl1 := breaksL_length P legs 20000
  have hle := idxT_le k1 (2 * legs.length)
  simp only [bools] at hb0 hb1
  simp [h]
  refine pwp_draw 8 (by decide) ?_
  simp
  refine pd_spec hb0 (by simp [Pln.cells, cnrL, stnL, legL]) (by simp) (by simp [Pln.cells, cnrL, stnL, legL]) (by simp) ?_
  simp
  refine pd_spec hb1 (by simp [Pln.cells, cnrL, stnL, legL]) (by simp) (by simp [Pln.cells, cnrL, stnL, legL]) (by simp) ?_
  simp
  refine ⟨by decide, ?_⟩
  have hshift := brk_shift P legs
  have g0 : ∀ k, getb (breaksL P legs 0) k = brkK P legs k 0 := fun k => rfl
  have g1 : ∀ k, getb (breaksL P legs 20000) k = brkK P legs k 20000 := fun k => rfl
  have hF1 := fun (n : Int) (h0 : 0 ≤ n ∧ n ≤ 20000) k hk => Fuel1_spec P legs n k k1 (tripOk_fuel (g := ⟨n, n⟩) k2 ⟨h0.1, Int.le_refl _, h0.2⟩) hk
  have hfP : ∀ N, N = (idxT P (2 * legs.length)).length → fuelP P legs = match fuelTo (brkK P legs) 20000 N with
    | none => none
    | some low => if (tripP P ⟨low, low⟩ legs).isNone = true then some low else none := fun N hN => by subst hN; rfl
  generalize hB0 : breaksL P legs 0 = B0 at *
  generalize hB1 : breaksL P legs 20000 = B1 at *
  generalize hN : (idxT P (2 * legs.length)).length = N at *
  replace hfP := hfP N rfl
  refine pwp_loop (fun s : Nat × Int => [(2, .rp P.cells 0), (3, .rp [legL legs] 0), (9, .v (.int .i64 s.2)), (29, .v (.int .i64 s.1))]) (fun s => s.1 ≤ N ∧ fuelTo (brkK P legs) 20000 s.1 = some s.2 ∧ 0 ≤ s.2 ∧ s.2 ≤ 20000) (fun s => N - s.1) (0, 0) ⟨Nat.zero_le _, rfl, by simp, by simp⟩ (by simp; rfl) (by simp [Pln.cells, cnrL, stnL, legL]) ?_
  rintro ⟨k, low⟩ ⟨hk, hf, hlo⟩
  simp only at hk hf hlo ⊢
  by_cases hkl : k < N
  · have wk := i64_wrap (show -9223372036854775808 ≤ (k : Int) + 1 ∧ _ from by omega)
    have hsucc : fuelTo (brkK P legs) 20000 (k + 1) = if brkK P legs k 0 = true ∧ brkK P legs k 20000 = true then none else if brkK P legs k 0 = true then some (max low (endOf (brkK P legs k) 20000)) else some low := by simp only [fuelTo, hf]; rfl
    have q0 := g0 k
    have q1 := g1 k
    cases c0 : brkK P legs k 0 with
    | false =>
      rw [c0] at q0 hsucc
      simp [Pln.cells, cnrL, stnL, legL, hl0, hl1, hkl, q0]
      refine again_of (k + 1, low) ⟨by simp only; omega, by simpa using hsucc, hlo⟩ (by simp only; omega) ?_
      simp [wk, Pln.cells, cnrL, stnL, legL, hl0, hl1]
    | true =>
      rw [c0] at q0 hsucc
      cases c1 : brkK P legs k 20000 with
      | true =>
        rw [c1] at q1 hsucc
        have hnone := fuelTo_no (k := k + 1) (by simpa using hsucc) (show k + 1 ≤ N by omega)
        rw [hnone] at hfP
        simp [Pln.cells, cnrL, stnL, legL, hl0, hl1, hkl, q0, q1]
        refine answers_of rfl ?_
        rw [hfP]
        simp
      | false =>
        rw [c1] at q1 hsucc
        have hdn : DownB (brkK P legs k) := (hshift k).resolve_left fun hu => by
          have := hu 0 20000 (by omega) c0
          rw [c1] at this; cases this
        have hch := change_spec 66 [] [.rp P.cells 0, .rp [legL legs] 0, .rp [.v (.int .i64 k)] 0] rfl (by simp [plainL, PV.plain, Pln.cells, cnrL, stnL, legL]) (brkK P legs k) hdn c1 fun n h0 h1 => hF1 n ⟨h0, h1⟩ k hkl
        have hend := endOf_spec (p := brkK P legs k) (K := 20000) c1
        simp only [if_true, Bool.false_eq_true, and_false, if_false] at hsucc
        generalize endOf (brkK P legs k) ((20000 : Nat) : Int).toNat = E0 at *
        generalize hE : endOf (brkK P legs k) 20000 = E at *
        simp [Pln.cells, cnrL, stnL, legL, hl0, hl1, hkl, q0, q1]
        refine pop_specF [(10, .undef), (47, .clo (.func 66) [] [.rp P.cells 0, .rp [legL legs] 0, .rp [.v (.int .i64 k)] 0])] ?_ hch rfl false (.inl ?_) (.inl rfl) rfl (by simp) ?_
        · simp [Pln.cells, cnrL, stnL, legL, hl0, hl1]
        · simp [Pln.cells, cnrL, stnL, legL]
        have hmax : (if low < E then E else low) = max low E := by split <;> omega
        simp [hmax]
        refine again_of (k + 1, max low E) ⟨by simp only; omega, hsucc, by simp only; omega⟩ (by simp only; omega) ?_
        simp [wk, Pln.cells, cnrL, stnL, legL, hl0, hl1]
  · obtain rfl : k = N := by omega
    rw [hf] at hfP
    simp only at hfP
    have hfs := first_spec P ⟨low, low⟩ legs k1 (tripOk_fuel k2 ⟨hlo.1, Int.le_refl _, hlo.2⟩)
    unfold firstRes at hfs
    simp only [Spn.cells] at hfs
    simp [Pln.cells, cnrL, stnL, legL, hl0, hl1]
    cases hj : tripP P ⟨low, low⟩ legs with
    | none =>
      rw [hj] at hfs hfP
      simp only at hfs hfP
      refine pop_spec hfs rfl false (.inl (by simp [Pln.cells, cnrL, stnL, legL])) (.inl rfl) rfl (by simp) ?_
      simp
      refine answers_of rfl ?_
      rw [hfP]
      simp
    | some j =>
      rw [hj] at hfs hfP
      simp only at hfs hfP
      refine pop_spec hfs rfl false (.inl (by simp [Pln.cells, cnrL, stnL, legL])) (.inl rfl) rfl (by simp) ?_
      simp
      refine answers_of rfl ?_
      rw [hfP]
      simp
end Go.Qg





namespace Go.Qg
open Go.Proofs
set_option maxRecDepth 100000
set_option maxHeartbeats 32000000
attribute [local irreducible] pwp pops pdraw pop popCall pdCall thenP blockP scopeP pspec Spec answers ppost CallW rend
def psnB (P : Pln) (nl : Nat) (x : Psn) : Bool := spanB ⟨x.low, x.high⟩ 0 20000 && inB x.station 0 ((P.stations.length : Int) - 1) && spanB ⟨x.first, x.last⟩ 0 ((nl : Int) - 1) && inB x.worth 0 1000000
theorem take1_spec (P : Pln) (legs : List Leg) (x : Psn) (hs : P.stations.length ≤ 1000) (hl : legs.length ≤ 1000) :
    Spec Tryz.prog 70 [.agg x.cells, .rp P.cells 0, .rp [legL legs] 0] (.v (.bool (psnB P legs.length x))) := by
  have w1 := i64_wrap (show -9223372036854775808 ≤ (P.stations.length : Int) - 1 ∧ _ from by omega)
  have w2 := i64_wrap (show -9223372036854775808 ≤ (legs.length : Int) - 1 ∧ _ from by omega)
  refine spec_of mixed Tryz.func70 (by decide) rfl Tryz.results70 Tryz.ntmps70 (by decide) 0 (by simp) ?_
  simp [Psn.cells, Pln.cells, cnrL, stnL, legL, w1, w2]
  refine pop_spec (lspan_spec ⟨x.low, x.high⟩ 0 20000) rfl false (.inl (by simp [Spn.cells])) (.inl rfl) rfl (by simp) ?_
  cases h1 : spanB ⟨x.low, x.high⟩ 0 20000 with
  | false => simp; refine answers_of rfl ?_; simp [psnB, h1]
  | true =>
    simp [w1, w2]
    refine pop_spec (lin_spec x.station 0 ((P.stations.length : Int) - 1)) rfl false (.inl (by simp)) (.inl rfl) rfl (by simp) ?_
    cases h2 : inB x.station 0 ((P.stations.length : Int) - 1) with
    | false => simp; refine answers_of rfl ?_; simp [psnB, h1, h2]
    | true =>
      simp [w1, w2]
      refine pop_spec (lspan_spec ⟨x.first, x.last⟩ 0 ((legs.length : Int) - 1)) rfl false (.inl (by simp [Spn.cells])) (.inl rfl) rfl (by simp) ?_
      cases h3 : spanB ⟨x.first, x.last⟩ 0 ((legs.length : Int) - 1) with
      | false => simp; refine answers_of rfl ?_; simp [psnB, h1, h2, h3]
      | true =>
        simp
        refine pop_spec (lin_spec x.worth 0 1000000) rfl false (.inl (by simp)) (.inl rfl) rfl (by simp) ?_
        simp
        refine answers_of rfl ?_; simp [psnB, h1, h2, h3]
end Go.Qg


namespace Go.Qg
open Go.Proofs
set_option maxRecDepth 100000
set_option maxHeartbeats 32000000
attribute [local irreducible] pwp pops pdraw pop popCall pdCall thenP blockP scopeP pspec Spec answers ppost CallW rend
def fitsP (legs : List Leg) (people : List Psn) (s : List Int) : Bool := fitsN legs people s legs.length
def takenL (legs : List Leg) (people : List Psn) (s : List Int) : List Leg := takenN legs people s legs.length
def sureP (P : Pln) (fuel : Spn) (legs : List Leg) (people : List Psn) (s : List Int) : Bool := (tripP P fuel (takenL legs people s)).isNone
def wP (people : List Psn) (i : Nat) : Int := (psnAt people i).worth
def restL (people : List Psn) : List Int := (List.range (people.length + 1)).map fun a => restW (wP people) a (people.length - a)
theorem restL_length (people : List Psn) : (restL people).length = people.length + 1 := by simp [restL]
theorem restL_get {people : List Psn} {a : Nat} (h : a ≤ people.length) : geti (restL people) a = restW (wP people) a (people.length - a) := by
  simp [restL, geti, List.getElem?_map, List.getElem?_range (show a < people.length + 1 by omega)]
structure PsnOk (P : Pln) (nl : Nat) (x : Psn) : Prop where
  weight : 0 ≤ x.low ∧ x.low ≤ x.high ∧ x.high ≤ 20000
  station : 0 ≤ x.station ∧ x.station < P.stations.length
  legs : 0 ≤ x.first ∧ x.first ≤ x.last ∧ x.last < nl
  worth : 0 ≤ x.worth ∧ x.worth ≤ 1000000
theorem psnB_ok {P : Pln} {nl : Nat} {x : Psn} : psnB P nl x = true ↔ PsnOk P nl x := by
  simp only [psnB, Bool.and_eq_true, spanB_spec, inB_spec]
  constructor
  · rintro ⟨⟨⟨h1, h2⟩, h3⟩, h4⟩
    exact ⟨h1, by omega, by omega, h4⟩
  · rintro ⟨h1, h2, h3, h4⟩
    exact ⟨⟨⟨h1, by omega⟩, by omega⟩, h4⟩
structure TakeOk (P : Pln) (fuel : Spn) (legs : List Leg) (people : List Psn) : Prop where
  plane : PlnOk P
  trip : TripOk P fuel legs
  n : people.length ≤ 8
  person : ∀ i, i < people.length → PsnOk P legs.length (psnAt people i)
def capsT (P : Pln) (fuel : Spn) (legs : List Leg) (people : List Psn) : List PV := [.rp [legL legs] 0, .rp [psnL people] 0, .rp [ints (restL people)] 0, .ref 0 0, .rp P.cells 0, .rp fuel.cells 0, .ref 1 0, .ref 2 0]
def HT (P : Pln) (fuel : Spn) (legs : List Leg) (people : List Psn) (st : Best) : PF := [.box false [.v (.int .i64 st.2)], .box false [ints st.1], .box false [.clo (.func 73) [] (capsT P fuel legs people)]]
theorem rowsI_rangeG (l : List Int) (x : Int) : (List.range l.length).map (fun i => [PV.v (.int .i64 (geti l i))]) ++ [[PV.v (.int .i64 x)]] = rowsI (l ++ [x]) := by
  have : (List.range l.length).map (fun i => [PV.v (.int .i64 (geti l i))]) = rowsI l := by
    refine List.ext_getElem? fun i => ?_
    by_cases h : i < l.length
    · rw [rowsI_get h, List.getElem?_map, List.getElem?_range h]; rfl
    · rw [List.getElem?_eq_none (by simp; omega), List.getElem?_eq_none (by simp; omega)]
  rw [this]; simp [rowsI]
def argsT (P : Pln) (fuel : Spn) (legs : List Leg) (people : List Psn) (s : List Int) (a : Nat) : List PV := [ints s, .v (.int .i64 a), .v (.int .i64 (worthL (wP people) s)), .rp [legL legs] 0, .rp [psnL people] 0, .rp [ints (restL people)] 0, .ref 0 0, .rp P.cells 0, .rp fuel.cells 0, .ref 1 0, .ref 2 0]
theorem taken_ok {P : Pln} {fuel : Spn} {legs : List Leg} {people : List Psn} {s : List Int} (hT : TakeOk P fuel legs people) (hs : ∀ x ∈ s, 0 ≤ x ∧ x < (people.length : Int)) (hf : fitsP legs people s = true) : TripOk P fuel (takenL legs people s) := by
  have hlen : (takenL legs people s).length = legs.length := takenN_length ..
  have hget : ∀ i, i < legs.length → legAt (takenL legs people s) i = takenLeg people s i (legAt legs i) := fun i hi => by simp [takenL, takenN, legAt, hi]
  refine ⟨hT.trip.fuel, by rw [hlen]; exact hT.trip.n, fun i hi => ?_⟩
  rw [hlen] at hi
  rw [hget i hi]
  have hL := hT.trip.leg i hi
  have h12 := allN_spec.1 hf i hi
  refine ⟨by simpa using h12, fun j hj => ?_, hL.fuel, hL.burn, hL.leak⟩
  simp only [takenLeg] at hj ⊢
  by_cases hj1 : j < (legAt legs i).items.length
  · have e : itmAt ((legAt legs i).items ++ onIt people i s) j = itmAt (legAt legs i).items j := by simp [itmAt, List.getElem?_append_left hj1]
    rw [e]; exact hL.item j hj1
  · have hm : itmAt ((legAt legs i).items ++ onIt people i s) j ∈ onIt people i s := by
      have hj2 : j - (legAt legs i).items.length < (onIt people i s).length := by rw [List.length_append] at hj; omega
      have e : itmAt ((legAt legs i).items ++ onIt people i s) j = itmAt (onIt people i s) (j - (legAt legs i).items.length) := by simp [itmAt, List.getElem?_append_right (Nat.le_of_not_lt hj1)]
      rw [e]; exact itmAt_mem hj2
    generalize itmAt ((legAt legs i).items ++ onIt people i s) j = y at hm ⊢
    simp only [onIt, List.mem_map, List.mem_filter] at hm
    obtain ⟨k, ⟨hk, _⟩, rfl⟩ := hm
    have hk2 := hs k hk
    have hp := hT.person k.toNat (by omega)
    exact ⟨hp.station, hp.weight⟩
theorem search_spec (P : Pln) (fuel : Spn) (legs : List Leg) (people : List Psn) (hT : TakeOk P fuel legs people) : ∀ (c : Nat) (s : List Int) (a : Nat) (st : Best), a ≤ people.length → people.length - a < c → s.length ≤ a → (∀ x ∈ s, 0 ≤ x ∧ x < (people.length : Int)) → 0 ≤ worthL (wP people) s → worthL (wP people) s ≤ 1000000 * (a : Int) →
    CallW Tryz.prog 73 (argsT P fuel legs people s a) (HT P fuel legs people st) (fun out => out = .ret (.tup []) (HT P fuel legs people (takeP (fitsP legs people) (sureP P fuel legs people) (wP people) people.length c s a st))) := by
  intro c
  induction c with
  | zero => intro s a st h1 h2; omega
  | succ c ih =>
    intro s a st ha hc hsl hsm hw0 hw1
    have hn := hT.n
    have hl6 := hT.trip.n
    have htk := taken_spec legs people s (by omega) (fun i hi => (hT.trip.leg i hi).n) hn (by omega) (fun j hj => hsm _ (by simp [geti, List.getElem?_eq_getElem hj]))
    have hpw : ∀ i, 0 ≤ wP people i ∧ wP people i ≤ 1000000 := fun i => by
      by_cases hi : i < people.length
      · exact (hT.person i hi).worth
      · simp [wP, psnAt, List.getElem?_eq_none (Nat.le_of_not_lt hi)]
        decide
    have hr0 : ∀ m a, 0 ≤ restW (wP people) a m ∧ restW (wP people) a m ≤ 1000000 * (m : Int) := fun m a => by
      induction m with
      | zero => simp [restW]
      | succ m ihm => have := hpw (a + m); simp only [restW]; omega
    have hra := hr0 (people.length - a) a
    have hrg := restL_get ha
    have hrl := restL_length people
    have ww := i64_wrap (show -9223372036854775808 ≤ worthL (wP people) s + restW (wP people) a (people.length - a) ∧ _ from by omega)
    generalize hW : worthL (wP people) s = W at *
    generalize hRW : restW (wP people) a (people.length - a) = RW at *
    simp only [argsT]
    refine callW_of mixed Tryz.func73 (by decide) rfl (congrArg Array.toList Tryz.results73) Tryz.ntmps73 (by decide) 81 (by simp) (by decide) ?_
    simp [HT, argsT, capsT, Pln.cells, Spn.cells, legL, psnL, cnrL, stnL]
    refine pop_spec htk rfl false (.inl (by simp [legL, psnL, ints])) (.inl rfl) rfl (by simp) ?_
    simp [legL]
    refine pwp_draw 12 (by decide) ?_
    rw [takeP, hW, hRW]
    cases hfit : fitsN legs people s legs.length with
    | false =>
      simp [hfit]
      refine ⟨by decide, ?_⟩
      simp [fitsP, hfit]
      refine ends_of (.tup []) (HT P fuel legs people st) [] (x := .tup []) (by simp) (by decide) ?_ ?_ (by simp [HT, capsT, Pln.cells, Spn.cells, legL, psnL, cnrL, stnL])
      · simp [HT, capsT, Pln.cells, Spn.cells, legL, psnL, cnrL, stnL, ints]
      · simp
    | true =>
      by_cases hle : W + RW ≤ st.2
      · simp [hfit, hrl, hrg, ww, hle, ints, show a < people.length + 1 from by omega, show (a : Int) < (people.length : Int) + 1 from by omega]
        refine ⟨by decide, ?_⟩
        refine ends_of (.tup []) (HT P fuel legs people st) [] (x := .tup []) (by simp) (by decide) ?_ ?_ (by simp [HT, capsT, Pln.cells, Spn.cells, legL, psnL, cnrL, stnL, ints, hrl])
        · simp [HT, capsT, Pln.cells, Spn.cells, legL, psnL, cnrL, stnL, ints, hrl]
        · simp
      · simp [hfit, hrl, hrg, ww, hle, ints, show a < people.length + 1 from by omega, show (a : Int) < (people.length : Int) + 1 from by omega, Int.not_le.1 hle]
        refine ⟨by decide, ?_⟩
        obtain ⟨st0, e0⟩ : ∃ st0 : Best, st0 = if st.2 < W ∧ sureP P fuel legs people s = true then (s, W) else st := ⟨_, rfl⟩
        simp only [fitsP, hfit, hle, or_false, Bool.true_eq_false, if_false, ← e0]
        generalize hFF : (fun (i : Nat) (st : Best) => takeP (fitsP legs people) (sureP P fuel legs people) (wP people) people.length c (s ++ [(i : Int)]) (i + 1) st) = F
        by_cases hbest : st.2 < W
        · have hTT := taken_ok hT hsm hfit
          have hfs := first_spec P fuel (takenL legs people s) hT.plane hTT
          rw [firstRes] at hfs
          simp [hbest, Int.not_le.2 hbest]
          cases htp : tripP P fuel (takenL legs people s) with
          | none =>
            rw [htp] at hfs
            have e1 : st0 = (s, W) := by rw [e0]; simp [hbest, sureP, htp]
            refine pop_spec hfs rfl false (.inl (by simp [Pln.cells, cnrL, stnL, Spn.cells, legL, takenL])) (.inl rfl) rfl (by simp) ?_
            simp
            refine pwp_loop (fun i : Nat => [(19, .v (.int .i64 i)), (81, .box false [.v (.int .i64 (foldN F a (i - a) st0).2)]), (82, .box false [ints (foldN F a (i - a) st0).1])]) (fun i => a ≤ i ∧ i ≤ people.length) (fun i => people.length - i) a ⟨Nat.le_refl _, ha⟩ (by simp; rfl) ?_ ?_
            · simp [foldN, e1, ints]
            rintro i ⟨hi1, hi2⟩
            by_cases hil : i < people.length
            · have wi := i64_wrap (show -9223372036854775808 ≤ (i : Int) + 1 ∧ _ from by omega)
              have hpi := hpw i
              have wW := i64_wrap (show -9223372036854775808 ≤ W + wP people i ∧ _ from by omega)
              have hfo : foldN F a (i + 1 - a) st0 = takeP (fitsP legs people) (sureP P fuel legs people) (wP people) people.length c (s ++ [(i : Int)]) (i + 1) (foldN F a (i - a) st0) := by
                rw [show i + 1 - a = (i - a) + 1 from by omega, foldN, show a + (i - a) = i from by omega, ← hFF]
              have hwa : worthL (wP people) (s ++ [(i : Int)]) = W + wP people i := by rw [worth_app, hW]; simp [worthL]
              have hih := ih (s ++ [(i : Int)]) (i + 1) (foldN F a (i - a) st0) (by omega) (by omega) (by simp; omega) (fun x hx => by
                rcases List.mem_append.1 hx with hx | hx
                · exact hsm x hx
                · obtain rfl := List.mem_singleton.1 hx; omega) (by rw [hwa]; omega) (by rw [hwa]; omega)
              rw [← hfo] at hih
              generalize foldN F a (i - a) st0 = sti at hih ⊢
              generalize hstn : foldN F a (i + 1 - a) st0 = stn at hih ⊢
              have hwp : (psnAt people i).worth = wP people i := rfl
              have hro := rowsI_rangeG s (i : Int)
              simp [hil]
              refine pwp_draw 19 (by decide) ?_
              simp [hil, Psn.cells, ints, wi, hwp, wW, hro, show (s.length + 1) * 8 ≤ 140737488355328 from by omega, show s.length + 1 ≤ maxLen from by simp [maxLen]; omega]
              refine ⟨by decide, ?_⟩
              simp only [argsT, HT, capsT] at hih
              refine pop_callF [(67, .undef), (70, ints (s ++ [(i : Int)]))] ?_ hih rfl [81, 82, 83] false (by decide) ?_ (.inl ?_) ?_
              · simp [ints]
                intro q hq
                rw [rowsI_get (by simpa using hq)]
                simp
              · simp [ints, Pln.cells, Psn.cells, Spn.cells, legL, psnL, cnrL, stnL, hrl]
              · simp [ints, Pln.cells, Psn.cells, Spn.cells, legL, psnL, cnrL, stnL, hrl, hwa]
              rintro out rfl
              refine ⟨[], by simp [backOk], .inl rfl, by simp [back, backV, placeAll], ?_⟩
              simp [back, backV, placeAll]
              refine again_of (i + 1) (by omega) (by omega) ?_
              simp [wi, hstn, ints, Pln.cells, Psn.cells, Spn.cells, legL, psnL, cnrL, stnL, hrl]
            · obtain rfl : i = people.length := by omega
              simp
              refine ends_n (.tup []) (HT P fuel legs people (foldN F a (people.length - a) st0)) [] rfl (by decide) ?_ ?_ (by simp [HT, capsT, Pln.cells, Spn.cells, legL, psnL, cnrL, stnL, ints, hrl])
              · simp [HT, capsT, Pln.cells, Spn.cells, legL, psnL, cnrL, stnL, ints, hrl]
              · simp
          | some k =>
            rw [htp] at hfs
            have e1 : st0 = st := by rw [e0]; simp [hbest, sureP, htp]
            refine pop_spec hfs rfl false (.inl (by simp [Pln.cells, cnrL, stnL, Spn.cells, legL, takenL])) (.inl rfl) rfl (by simp) ?_
            simp [show ¬ (k : Int) < 0 from by omega, show (0 : Int) ≤ (k : Int) from by omega]
            refine pwp_loop (fun i : Nat => [(19, .v (.int .i64 i)), (81, .box false [.v (.int .i64 (foldN F a (i - a) st0).2)]), (82, .box false [ints (foldN F a (i - a) st0).1])]) (fun i => a ≤ i ∧ i ≤ people.length) (fun i => people.length - i) a ⟨Nat.le_refl _, ha⟩ (by simp; rfl) ?_ ?_
            · simp [foldN, e1, ints]
            rintro i ⟨hi1, hi2⟩
            by_cases hil : i < people.length
            · have wi := i64_wrap (show -9223372036854775808 ≤ (i : Int) + 1 ∧ _ from by omega)
              have hpi := hpw i
              have wW := i64_wrap (show -9223372036854775808 ≤ W + wP people i ∧ _ from by omega)
              have hfo : foldN F a (i + 1 - a) st0 = takeP (fitsP legs people) (sureP P fuel legs people) (wP people) people.length c (s ++ [(i : Int)]) (i + 1) (foldN F a (i - a) st0) := by
                rw [show i + 1 - a = (i - a) + 1 from by omega, foldN, show a + (i - a) = i from by omega, ← hFF]
              have hwa : worthL (wP people) (s ++ [(i : Int)]) = W + wP people i := by rw [worth_app, hW]; simp [worthL]
              have hih := ih (s ++ [(i : Int)]) (i + 1) (foldN F a (i - a) st0) (by omega) (by omega) (by simp; omega) (fun x hx => by
                rcases List.mem_append.1 hx with hx | hx
                · exact hsm x hx
                · obtain rfl := List.mem_singleton.1 hx; omega) (by rw [hwa]; omega) (by rw [hwa]; omega)
              rw [← hfo] at hih
              generalize foldN F a (i - a) st0 = sti at hih ⊢
              generalize hstn : foldN F a (i + 1 - a) st0 = stn at hih ⊢
              have hwp : (psnAt people i).worth = wP people i := rfl
              have hro := rowsI_rangeG s (i : Int)
              simp [hil]
              refine pwp_draw 19 (by decide) ?_
              simp [hil, Psn.cells, ints, wi, hwp, wW, hro, show (s.length + 1) * 8 ≤ 140737488355328 from by omega, show s.length + 1 ≤ maxLen from by simp [maxLen]; omega]
              refine ⟨by decide, ?_⟩
              simp only [argsT, HT, capsT] at hih
              refine pop_callF [(67, .undef), (70, ints (s ++ [(i : Int)]))] ?_ hih rfl [81, 82, 83] false (by decide) ?_ (.inl ?_) ?_
              · simp [ints]
                intro q hq
                rw [rowsI_get (by simpa using hq)]
                simp
              · simp [ints, Pln.cells, Psn.cells, Spn.cells, legL, psnL, cnrL, stnL, hrl]
              · simp [ints, Pln.cells, Psn.cells, Spn.cells, legL, psnL, cnrL, stnL, hrl, hwa]
              rintro out rfl
              refine ⟨[], by simp [backOk], .inl rfl, by simp [back, backV, placeAll], ?_⟩
              simp [back, backV, placeAll]
              refine again_of (i + 1) (by omega) (by omega) ?_
              simp [wi, hstn, ints, Pln.cells, Psn.cells, Spn.cells, legL, psnL, cnrL, stnL, hrl]
            · obtain rfl : i = people.length := by omega
              simp
              refine ends_n (.tup []) (HT P fuel legs people (foldN F a (people.length - a) st0)) [] rfl (by decide) ?_ ?_ (by simp [HT, capsT, Pln.cells, Spn.cells, legL, psnL, cnrL, stnL, ints, hrl])
              · simp [HT, capsT, Pln.cells, Spn.cells, legL, psnL, cnrL, stnL, ints, hrl]
              · simp
        · have e1 : st0 = st := by rw [e0]; simp [hbest]
          simp [hbest, Int.not_lt.1 hbest]
          refine pwp_loop (fun i : Nat => [(19, .v (.int .i64 i)), (81, .box false [.v (.int .i64 (foldN F a (i - a) st0).2)]), (82, .box false [ints (foldN F a (i - a) st0).1])]) (fun i => a ≤ i ∧ i ≤ people.length) (fun i => people.length - i) a ⟨Nat.le_refl _, ha⟩ (by simp; rfl) ?_ ?_
          · simp [foldN, e1, ints]
          rintro i ⟨hi1, hi2⟩
          by_cases hil : i < people.length
          · have wi := i64_wrap (show -9223372036854775808 ≤ (i : Int) + 1 ∧ _ from by omega)
            have hpi := hpw i
            have wW := i64_wrap (show -9223372036854775808 ≤ W + wP people i ∧ _ from by omega)
            have hfo : foldN F a (i + 1 - a) st0 = takeP (fitsP legs people) (sureP P fuel legs people) (wP people) people.length c (s ++ [(i : Int)]) (i + 1) (foldN F a (i - a) st0) := by
              rw [show i + 1 - a = (i - a) + 1 from by omega, foldN, show a + (i - a) = i from by omega, ← hFF]
            have hwa : worthL (wP people) (s ++ [(i : Int)]) = W + wP people i := by rw [worth_app, hW]; simp [worthL]
            have hih := ih (s ++ [(i : Int)]) (i + 1) (foldN F a (i - a) st0) (by omega) (by omega) (by simp; omega) (fun x hx => by
              rcases List.mem_append.1 hx with hx | hx
              · exact hsm x hx
              · obtain rfl := List.mem_singleton.1 hx; omega) (by rw [hwa]; omega) (by rw [hwa]; omega)
            rw [← hfo] at hih
            generalize foldN F a (i - a) st0 = sti at hih ⊢
            generalize hstn : foldN F a (i + 1 - a) st0 = stn at hih ⊢
            have hwp : (psnAt people i).worth = wP people i := rfl
            have hro := rowsI_rangeG s (i : Int)
            simp [hil]
            refine pwp_draw 19 (by decide) ?_
            simp [hil, Psn.cells, ints, wi, hwp, wW, hro, show (s.length + 1) * 8 ≤ 140737488355328 from by omega, show s.length + 1 ≤ maxLen from by simp [maxLen]; omega]
            refine ⟨by decide, ?_⟩
            simp only [argsT, HT, capsT] at hih
            refine pop_callF [(67, .undef), (70, ints (s ++ [(i : Int)]))] ?_ hih rfl [81, 82, 83] false (by decide) ?_ (.inl ?_) ?_
            · simp [ints]
              intro q hq
              rw [rowsI_get (by simpa using hq)]
              simp
            · simp [ints, Pln.cells, Psn.cells, Spn.cells, legL, psnL, cnrL, stnL, hrl]
            · simp [ints, Pln.cells, Psn.cells, Spn.cells, legL, psnL, cnrL, stnL, hrl, hwa]
            rintro out rfl
            refine ⟨[], by simp [backOk], .inl rfl, by simp [back, backV, placeAll], ?_⟩
            simp [back, backV, placeAll]
            refine again_of (i + 1) (by omega) (by omega) ?_
            simp [wi, hstn, ints, Pln.cells, Psn.cells, Spn.cells, legL, psnL, cnrL, stnL, hrl]
          · obtain rfl : i = people.length := by omega
            simp
            refine ends_n (.tup []) (HT P fuel legs people (foldN F a (people.length - a) st0)) [] rfl (by decide) ?_ ?_ (by simp [HT, capsT, Pln.cells, Spn.cells, legL, psnL, cnrL, stnL, ints, hrl])
            · simp [HT, capsT, Pln.cells, Spn.cells, legL, psnL, cnrL, stnL, ints, hrl]
            · simp
end Go.Qg


namespace Go.Qg
open Go.Proofs
set_option maxRecDepth 100000
set_option maxHeartbeats 32000000
attribute [local irreducible] pwp pops pdraw pop popCall pdCall thenP blockP scopeP pspec Spec answers ppost CallW rend
def takeBest (P : Pln) (fuel : Spn) (legs : List Leg) (people : List Psn) : Best := takeP (fitsP legs people) (sureP P fuel legs people) (wP people) people.length (people.length + 1) [] 0 ([], -1)
def takeE (P : Pln) (fuel : Spn) (legs : List Leg) (people : List Psn) : Int :=
  if 8 < people.length then 3 else if trippedE P fuel legs ≠ 0 then trippedE P fuel legs else if (allN people.length fun k => psnB P legs.length (psnAt people k)) = false then 2 else if (takeBest P fuel legs people).2 < 0 then 5 else 0
def takeRes (P : Pln) (fuel : Spn) (legs : List Leg) (people : List Psn) : PV := if takeE P fuel legs people = 0 then .tup [ints (takeBest P fuel legs people).1, .v (.int .i64 (takeBest P fuel legs people).2), .v (.int .i64 0)] else .tup [ints [], .v (.int .i64 0), .v (.int .i64 (takeE P fuel legs people))]
def restK (people : List Psn) (k : Nat) : List Int := (List.range (people.length + 1)).map fun j => if people.length - k ≤ j then restW (wP people) j (people.length - j) else 0
theorem restK_all (people : List Psn) : restK people people.length = restL people := by simp [restK, restL]
theorem restK_length (people : List Psn) (k : Nat) : (restK people k).length = people.length + 1 := by simp [restK]
theorem Take_spec (P : Pln) (fuel : Spn) (legs : List Leg) (people : List Psn) (hP : PlnLen P) (hl : LegsLen legs) (hp : people.length ≤ 9223372036854775807) :
    Spec Tryz.prog 21 [.agg P.cells, .agg fuel.cells, legL legs, psnL people] (takeRes P fuel legs people) := by
  have htr := tripped_spec P fuel legs hP hl.1 hl.2
  refine spec_of mixed Tryz.func21 (by decide) rfl Tryz.results21 Tryz.ntmps21 (by decide) 0 (by simp) ?_
  simp [Pln.cells, Spn.cells, legL, psnL, cnrL, stnL]
  by_cases h8 : 8 < people.length
  · have he : takeE P fuel legs people = 3 := by simp [takeE, h8]
    simp [show (8 : Int) < (people.length : Int) from by omega]
    refine answers_of rfl ?_
    simp [takeRes, he, ints]
  simp [show ¬ (8 : Int) < (people.length : Int) from by omega, show (people.length : Int) ≤ 8 from by omega]
  refine pop_spec htr rfl false (.inl (by simp [Pln.cells, Spn.cells, legL, cnrL, stnL])) (.inl rfl) rfl (by simp) ?_
  by_cases ht : trippedE P fuel legs = 0
  case neg =>
    have he : takeE P fuel legs people = trippedE P fuel legs := by simp [takeE, h8, ht]
    simp [ht]
    refine answers_of rfl ?_
    simp [takeRes, he, ints, ht]
  obtain ⟨hPO, hTO⟩ := tripped_ok.1 ht
  simp [ht]
  have hn6 := hTO.n
  refine pop_specF [(4, .rp P.cells 0), (6, .rp [legL legs] 0), (28, .clo (.func 70) [] [.rp P.cells 0, .rp [legL legs] 0])] (by simp [Pln.cells, legL, cnrL, stnL])
    (allPsn_spec people hp 70 [] [.rp P.cells 0, .rp [legL legs] 0] rfl rfl (fun k => psnB P legs.length (psnAt people k)) fun k hk => take1_spec P legs (psnAt people k) (by have := hPO.ns; omega) (by omega)) rfl false (.inl (by simp [psnL])) (.inl rfl) rfl (by simp) ?_
  by_cases ha : (allN people.length fun k => psnB P legs.length (psnAt people k)) = true
  case neg =>
    have ha' : (allN people.length fun k => psnB P legs.length (psnAt people k)) = false := by simpa using ha
    have he : takeE P fuel legs people = 2 := by simp [takeE, h8, ht, ha']
    simp [ha']
    refine answers_of rfl ?_
    simp [takeRes, he, ints]
  have hT : TakeOk P fuel legs people := ⟨hPO, hTO, by omega, fun i hi => psnB_ok.1 (allN_spec.1 ha i hi)⟩
  have wn1 := i64_wrap (show -9223372036854775808 ≤ (people.length : Int) + 1 ∧ _ from by omega)
  have wn2 := i64_wrap (show -9223372036854775808 ≤ (people.length : Int) - 1 ∧ _ from by omega)
  have hrz0 : restK people 0 = List.replicate (people.length + 1) 0 := by
    refine List.ext_getElem? fun j => ?_
    by_cases hj : j < people.length + 1
    · simp [restK, List.getElem?_map, List.getElem?_range hj, hj]
      intro hj2
      obtain rfl : j = people.length := by omega
      simp [restW]
    · rw [List.getElem?_eq_none (by simp [restK]; omega), List.getElem?_eq_none (by simp; omega)]
  have hrz : rowsI (restK people 0) = List.replicate (people.length + 1) [.v (.int .i64 0)] := by rw [hrz0]; simp [rowsI]
  simp [ha, wn1, wn2, show (0 : Int) ≤ (people.length : Int) + 1 from by omega, show 8 * ((people.length : Int) + 1) ≤ 281474976710656 from by omega, show (people.length : Int) + 1 ≤ 9223372036854775807 from by omega]
  refine pwp_loop (fun k : Nat => [(4, .rp P.cells 0), (5, .rp fuel.cells 0), (6, .rp [legL legs] 0), (7, .rp [psnL people] 0), (12, .box true [.own 34 0 0 (people.length + 1) false]), (13, .v (.int .i64 (((people.length - k : Nat) : Int) - 1))), (34, .rows none 0 3 1 (rowsI (restK people k)))]) (fun k => k ≤ people.length) (fun k => people.length - k) 0 (Nat.zero_le _) (by simp; rfl) ?_ ?_
  · simp [Pln.cells, Spn.cells, legL, psnL, cnrL, stnL, ← hrz]
  intro k hk
  have hrl := restK_length people k
  by_cases hkl : k < people.length
  · obtain ⟨j, hj⟩ : ∃ j, people.length - k = j + 1 := ⟨people.length - k - 1, by omega⟩
    have hpw : ∀ i, 0 ≤ wP people i ∧ wP people i ≤ 1000000 := fun i => by
      by_cases hi : i < people.length
      · exact (hT.person i hi).worth
      · simp [wP, psnAt, List.getElem?_eq_none (Nat.le_of_not_lt hi)]
        decide
    have hr0 : ∀ m a, 0 ≤ restW (wP people) a m ∧ restW (wP people) a m ≤ 1000000 * (m : Int) := fun m a => by
      induction m with
      | zero => simp [restW]
      | succ m ihm => have := hpw (a + m); simp only [restW]; omega
    have hra := hr0 (people.length - (j + 1)) (j + 1)
    have hwj := hpw j
    have hwp : (psnAt people j).worth = wP people j := rfl
    have hg : geti (restK people k) (j + 1) = restW (wP people) (j + 1) (people.length - (j + 1)) := by
      simp [restK, geti, List.getElem?_map, List.getElem?_range (show j + 1 < people.length + 1 by omega), show people.length ≤ j + 1 + k from by omega]
    have hset : (restK people k).set j (restW (wP people) (j + 1) (people.length - (j + 1)) + wP people j) = restK people (k + 1) := by
      refine List.ext_getElem? fun q => ?_
      by_cases hq : q < people.length + 1
      · rw [List.getElem?_set]
        by_cases hqj : j = q
        · subst hqj
          rw [if_pos rfl, if_pos (by rw [hrl]; exact hq)]
          simp [restK, List.getElem?_map, List.getElem?_range hq, show people.length - (k + 1) ≤ j from by omega]
          rw [show people.length - j = (people.length - (j + 1)) + 1 from by omega, restW_head]; omega
        · rw [if_neg hqj]
          simp [restK, List.getElem?_map, List.getElem?_range hq]
          by_cases h1 : people.length ≤ q + k
          · rw [if_pos h1, if_pos (by omega)]
          · rw [if_neg h1, if_neg (by omega)]
      · rw [List.getElem?_eq_none (by simp [hrl]; omega), List.getElem?_eq_none (by rw [restK_length]; omega)]
    have w1 := i64_wrap (show -9223372036854775808 ≤ restW (wP people) (j + 1) (people.length - (j + 1)) + wP people j ∧ _ from by omega)
    have w2 := i64_wrap (show -9223372036854775808 ≤ (j : Int) - 1 ∧ _ from by omega)
    have w3 := i64_wrap (show -9223372036854775808 ≤ (j : Int) + 1 ∧ _ from by omega)
    have hjn : j < people.length := by omega
    simp [hj]
    refine pwp_draw 14 (by decide) ?_
    simp [hj, w1, w2, w3, show (0 : Int) ≤ (j : Int) + 1 from by omega, show j + 1 < people.length + 1 from by omega, hrl, hg, hjn, hwp, psnL, Psn.cells, rowsI_set, hset, show j < people.length + 1 from by omega, show (j : Int) < (people.length : Int) + 1 from by omega]
    refine ⟨by decide, ?_⟩
    have hj2 : people.length - (k + 1) = j := by omega
    refine again_of (k + 1) (by omega) (by omega) ?_
    simp [hj2, w2]
  · obtain rfl : k = people.length := by omega
    rw [restK_all] at *
    have hs := search_spec P fuel legs people hT (people.length + 1) [] 0 ([], -1) (Nat.zero_le _) (by omega) (by simp) (by simp) (by simp [worthL]) (by simp [worthL])
    simp
    simp only [argsT, HT, capsT, worthL] at hs
    refine pop_callF [(12, .rp [ints (restL people)] 0), (34, .undef), (16, .box true [.clo (.func 73) [] [.rp [legL legs] 0, .rp [psnL people] 0, .rp [ints (restL people)] 0, .ref 15 0, .rp P.cells 0, .rp fuel.cells 0, .ref 14 0, .ref 16 0]]), (56, .undef), (57, .clo (.func 73) [] [.rp [legL legs] 0, .rp [psnL people] 0, .rp [ints (restL people)] 0, .ref 15 0, .rp P.cells 0, .rp fuel.cells 0, .ref 14 0, .ref 16 0])] ?_ hs rfl [15, 14, 16] false (by decide) ?_ (.inl ?_) ?_
    · simp [ints, restL_length]
      refine ⟨fun q hq => ?_, fun q hq => ?_⟩ <;>
      · rw [rowsI_get (by rw [restL_length]; exact hq)]
        simp
    · simp [ints]
    · simp [ints]
    rintro out rfl
    refine ⟨[], by simp [backOk], .inl rfl, by simp [back, backV, placeAll], ?_⟩
    have hb : takeP (fitsP legs people) (sureP P fuel legs people) (wP people) people.length (people.length + 1) [] 0 ([], -1) = takeBest P fuel legs people := rfl
    rw [hb]
    generalize hst : takeBest P fuel legs people = st
    by_cases hlt : st.2 < 0
    · have he : takeE P fuel legs people = 5 := by simp [takeE, h8, ht, ha, hst, hlt]
      simp [back, backV, placeAll, hlt]
      refine answers_of rfl ?_
      simp [takeRes, he, ints]
    · have he : takeE P fuel legs people = 0 := by simp [takeE, h8, ht, ha, hst, hlt]
      simp [back, backV, placeAll, hlt, Int.not_lt.1 hlt]
      refine pwp_draw 5 (by decide) ?_
      simp [ints]
      refine ⟨by decide, ?_⟩
      refine answers_of rfl ?_
      simp [takeRes, he, hst, ints]
end Go.Qg


namespace Go.Qg
open Go.Proofs
set_option maxRecDepth 100000
set_option maxHeartbeats 32000000
attribute [local irreducible] pwp pops pdraw pop popCall pdCall thenP blockP scopeP pspec Spec answers ppost CallW rend
theorem SureO_spec (P : Pln) (X : Pnt) (hP : PlnLen P) (hX : PntLen X) (h : rightB P X = true) (h1 : (brokenP P X).1 ≠ 1) :
    CallW Tryz.prog 36 [.agg P.cells, .agg X.cells] [] (fun out => out = .ret (.tup [.v (.int .i64 (brokenP P X).1), .v (.int .i64 (brokenP P X).2), cseO (worstC P X (brokenP P X).1 (brokenP P X).2), .v (.int .i64 0)]) (cseH (worstC P X (brokenP P X).1 (brokenP P X).2))) := by
  have hr := right_spec P X hP hX
  obtain ⟨k1, k2⟩ := right_ok.1 h
  have hb := broken_spec P X k1 k2
  have hin := (broken_in P X).resolve_left h1
  have hw := worst_both true P X k1 k2 (brokenP P X).1 (brokenP P X).2 hin.1 hin.2
  rw [h] at hr
  simp only [cond_true] at hw
  generalize worstC P X (brokenP P X).1 (brokenP P X).2 = c at *
  generalize brokenP P X = br at *
  obtain ⟨r, i⟩ := br
  simp only at hb h1 hin hw
  refine callW_of mixed Tryz.func36 (by decide) rfl (congrArg Array.toList Tryz.results36) Tryz.ntmps36 (by decide) 36 (by simp) (by decide) ?_
  simp [Pln.cells, cnrL, stnL, Pnt.cells, itmL, spnL]
  refine pop_spec hr rfl false (.inl (by simp [pntC, cnrL, stnL, itmL, spnL])) (.inl rfl) rfl (by simp) ?_
  simp
  refine pop_spec hb rfl false (.inl (by simp [pntC, cnrL, stnL, itmL, spnL])) (.inl rfl) rfl (by simp) ?_
  simp [h1, show ¬ (r : Int) = 1 from by omega]
  refine pop_callW hw rfl [] false (by decide) trivial (.inl (by simp [pntC, cnrL, stnL, itmL, spnL])) ?_
  rintro out rfl
  refine ⟨[34, 35], by simp [backOk, cseH], .inl rfl, by simp [back, backV, placeAll, cseH], ?_⟩
  simp [back, backV, placeAll, cseH, cseO]
  refine ends_of (.tup [.v (.int .i64 r), .v (.int .i64 i), cseO c, .v (.int .i64 0)]) (cseH c) [34, 35] (x := .tup [.v (.int .i64 r), .v (.int .i64 i), .agg [.own 34 c.items.length 0 c.items.length false, .v (.int .i64 c.tank), .own 35 c.water.length 0 c.water.length false], .v (.int .i64 0)]) (by simp) (by decide) ?_ ?_ (by simp [cseO, cseH])
  · simp [cseH]
  · simp [cseO, cseH]
end Go.Qg


namespace Go.Qg
open Go.Proofs
set_option maxRecDepth 100000
set_option maxHeartbeats 32000000
attribute [local irreducible] pwp pops pdraw pop popCall pdCall thenP blockP scopeP pspec Spec answers ppost CallW rend
theorem Same_spec (a b : List Int) (ha : a.length ≤ 9223372036854775807) (hb : b.length ≤ 9223372036854775807) : Spec Tryz.prog 24 [ints a, ints b] (.v (.bool (decide (a = b)))) := by
  refine spec_of mixed Tryz.func24 (by decide) rfl Tryz.results24 Tryz.ntmps24 (by decide) 0 (by simp) ?_
  simp [ints]
  by_cases hl : a.length = b.length
  · simp [hl]
    refine pwp_loop (fun k : Nat => [(5, .v (.int .i64 k))]) (fun k => k ≤ b.length ∧ ∀ j, j < k → geti a j = geti b j) (fun k => b.length - k) 0 ⟨Nat.zero_le _, fun j hj => by omega⟩ (by simp; rfl) (by simp [hl]) ?_
    intro k ⟨hk, hp⟩
    by_cases hkl : k < b.length
    · have wk := i64_wrap (show -9223372036854775808 ≤ (k : Int) + 1 ∧ _ from by omega)
      simp [hkl, hl]
      refine pwp_draw 9 (by decide) ?_
      by_cases he : geti a k = geti b k
      · simp [hkl, hl, he]
        refine ⟨by decide, ?_⟩
        refine again_of (k + 1) ⟨by omega, fun j hj => ?_⟩ (by omega) ?_
        · rcases Nat.lt_succ_iff_lt_or_eq.1 hj with hj | rfl
          · exact hp j hj
          · exact he
        · simp [wk, hl]
      · simp [hkl, hl, he]
        refine ⟨by decide, ?_⟩
        have hne : ¬ a = b := fun h => he (by rw [h])
        refine answers_of rfl ?_; simp [hne]
    · simp [hkl]
      have heq : a = b := ext_geti hl fun j hj => hp j (by omega)
      refine answers_of rfl ?_; simp [heq]
  · simp [show ¬ (a.length : Int) = b.length from by omega]
    have hne : ¬ a = b := fun h => hl (by rw [h])
    refine answers_of rfl ?_; simp [hne]
theorem SameCase_spec (a b : Cse) (h1 : a.items.length ≤ 9223372036854775807) (h2 : b.items.length ≤ 9223372036854775807) (h3 : a.water.length ≤ 9223372036854775807) (h4 : b.water.length ≤ 9223372036854775807) :
    Spec Tryz.prog 38 [.agg a.cells, .agg b.cells] (.v (.bool (decide (a.items = b.items) && decide (a.tank = b.tank) && decide (a.water = b.water)))) := by
  refine spec_of mixed Tryz.func38 (by decide) rfl Tryz.results38 Tryz.ntmps38 (by decide) 0 (by simp) ?_
  simp [Cse.cells, ints]
  refine pop_spec (Same_spec a.items b.items h1 h2) rfl false (.inl (by simp [ints])) (.inl rfl) rfl (by simp) ?_
  by_cases e1 : a.items = b.items
  · by_cases e2 : a.tank = b.tank
    · simp [e1, e2]
      refine pop_spec (Same_spec a.water b.water h3 h4) rfl false (.inl (by simp [ints])) (.inl rfl) rfl (by simp) ?_
      simp
      refine answers_of rfl ?_; simp
    · simp [e1, e2]
      refine answers_of rfl ?_; simp
  · simp [e1]
    refine answers_of rfl ?_; simp
def knP : Pln := ⟨1000, 100000, 2000, 1900, [⟨1000, 95000⟩, ⟨2000, 190000⟩, ⟨2000, 230000⟩, ⟨1000, 115000⟩], [⟨90, 200⟩, ⟨200, 300⟩], ⟨120, 200⟩, 40, [⟨100, 50⟩, ⟨100, 50⟩]⟩
def knI : List Itm := [⟨0, 70, 90⟩, ⟨1, 100, 140⟩]
def knT : List Leg := [⟨knI, false, 0, ⟨30, 40⟩, ⟨0, 5⟩⟩, ⟨[⟨0, 70, 90⟩], false, 0, ⟨60, 80⟩, ⟨0, 5⟩⟩]
def knX : Pnt := ⟨[⟨1, 200, 290⟩], ⟨200, 200⟩, [⟨0, 10⟩, ⟨0, 10⟩], false⟩
def knL : List Leg := [⟨[], false, 0, ⟨0, 0⟩, ⟨0, 0⟩⟩]
def knW : List Psn := [⟨200, 200, 1, 0, 0, 5⟩, ⟨150, 150, 1, 0, 0, 4⟩, ⟨150, 150, 0, 0, 0, 3⟩]
theorem lP_spec : Spec Tryz.prog 61 [] (.agg knP.cells) := by
  refine spec_of mixed Tryz.func61 (by decide) rfl Tryz.results61 Tryz.ntmps61 (by decide) 0 (by simp) ?_
  simp
  refine answers_of (x := .agg [.v (.int .i64 1000), .v (.int .i64 100000), .v (.int .i64 2000), .v (.int .i64 1900), .own 14 0 0 4 false, .own 9 0 0 2 false, .v (.int .i64 120), .v (.int .i64 200), .v (.int .i64 40), .own 6 0 0 2 false]) (by simp) ?_
  simp [knP, Pln.cells, cnrL, stnL]
  refine ⟨lt4 ?_ ?_ ?_ ?_, lt2 ?_ ?_, lt2 ?_ ?_⟩ <;> simp [cnrAt, Cnr.cells, stnAt, Stn.cells]
theorem lT_spec : Spec Tryz.prog 62 [] (legL knT) := by
  have r14 : List.range 14 = [0, 1, 2, 3, 4, 5, 6, 7, 8, 9, 10, 11, 12, 13] := rfl
  refine spec_of mixed Tryz.func62 (by decide) rfl Tryz.results62 Tryz.ntmps62 (by decide) 0 (by simp) ?_
  simp [r14]
  refine answers_of (x := .own 16 0 0 2 false) (by simp) ?_
  simp [knT, knI, legL, r14]
  refine lt2 ?_ ?_
  · simp [legAt, Leg.cells, itmL]
    refine lt2 ?_ ?_ <;> simp [itmAt, Itm.cells]
  · simp [legAt, Leg.cells, itmL, itmAt, Itm.cells]
theorem dec_lt {u : Nat} (h : u < 10) : Lib.decDigits u = [UInt8.ofNat (48 + u)] := by rw [Lib.decDigits, dif_pos h]
theorem dec_ge {u : Nat} (h : ¬ u < 10) : Lib.decDigits u = Lib.decDigits (u / 10) ++ [UInt8.ofNat (48 + u % 10)] := by rw [Lib.decDigits, dif_neg h]
def knS : List UInt8 := [116, 114, 105, 112, 32, 49, 53, 48, 32, 49, 54, 48, 32, 50, 10, 108, 101, 103, 32, 107, 101, 101, 112, 32, 48, 32, 51, 48, 32, 52, 48, 32, 48, 32, 53, 32, 50, 10, 105, 116, 101, 109, 32, 48, 32, 55, 48, 32, 57, 48, 10, 105, 116, 101, 109, 32, 49, 32, 49, 48, 48, 32, 49, 52, 48, 10, 108, 101, 103, 32, 107, 101, 101, 112, 32, 48, 32, 54, 48, 32, 56, 48, 32, 48, 32, 53, 32, 49, 10, 105, 116, 101, 109, 32, 48, 32, 55, 48, 32, 57, 48, 10, 101, 110, 100, 32, 50, 57, 10]
theorem k_sheet : printB ⟨150, 160⟩ knT = knS := by
  simp [printB, sheetB, sheetS, legsTo, legsSum, itemsTo, itemsSum, lineB, joinB, numsB, headN, legN, itmN, legWs, knT, knI, legAt, itmAt, sumI, lastB, Lib.itoa, dec_lt, dec_ge, Lib.join, List.intercalate, tripW, legW, keepW, pumpW, itemW]
  rfl
theorem knP_fit : PlnLen knP := ⟨by simp [knP], by simp [knP], by simp [knP]⟩
theorem knT_fit : LegsLen knT := ⟨by simp [knT], lt2 (by simp [knT, knI, legAt]) (by simp [knT, legAt])⟩
theorem knL_fit : LegsLen knL := ⟨by simp [knL], fun k hk => by obtain rfl : k = 0 := (by simp [knL] at hk; omega); simp [knL, legAt]⟩
theorem knX_fit : PntLen knX := by constructor <;> simp [knX]
theorem k_sure : sureRes knP knX = .tup [.v (.int .i64 6), .v (.int .i64 2), .agg (Cse.mk [290] 200 [0, 0]).cells, .v (.int .i64 0)] := by
  have h1 : rightB knP knX = true := by kernel_rfl
  have h2 : brokenP knP knX = (6, 2) := by kernel_rfl
  have h3 : worstC knP knX 6 2 = ⟨[290], 200, [0, 0]⟩ := by kernel_rfl
  rw [sureRes, if_pos h1, h2, if_neg (by decide), h3]
  rfl
theorem k_trip : tripRes knP ⟨150, 160⟩ knT = .tup [.v (.int .i64 3), .v (.int .i64 7), .v (.int .i64 0), .v (.int .i64 0)] := by
  have h1 : trippedE knP ⟨150, 160⟩ knT = 0 := by kernel_rfl
  have h2 : tripP knP ⟨150, 160⟩ knT = some 3 := by kernel_rfl
  have h3 : brokenP knP (ptOf knP ⟨150, 160⟩ knT 3) = (7, 0) := by kernel_rfl
  rw [tripRes, if_pos h1, h2]
  simp only
  rw [h3]
  rfl
theorem k_fuel : fuelRes knP knT = .tup [.v (.int .i64 160), .v (.int .i64 0)] := by
  have h1 : trippedE knP ⟨0, 0⟩ knT = 0 := by kernel_rfl
  have k4 : tripP knP ⟨160, 160⟩ knT = none := by kernel_rfl
  have k5 : tripP knP ⟨159, 159⟩ knT = some 3 := by kernel_rfl
  have h4 := trip_none.1 k4
  have h5 : ¬ sureT knP ⟨159, 159⟩ knT := fun h => by
    rw [trip_none.2 h] at k5
    cases k5
  have h := fuel_law knP knT
  rw [fuelRes, if_pos h1]
  cases hf : fuelP knP knT with
  | none => rw [hf] at h; exact (h 160 (by omega) (by omega) h4).elim
  | some n =>
    rw [hf] at h
    obtain ⟨g1, g2, g3⟩ := h
    have a : ¬ 160 < n := fun hl => g3 160 (by omega) hl h4
    have b : ¬ n < 160 := fun hl => h5 (fuel_span knP knT (by omega) (by omega) g2 h4)
    obtain rfl : n = 160 := by omega
    rfl
theorem k_take : takeRes knP ⟨100, 100⟩ knL knW = .tup [ints [0, 2], .v (.int .i64 8), .v (.int .i64 0)] := by
  have h1 : takeE knP ⟨100, 100⟩ knL knW = 0 := by kernel_rfl
  have h2 : takeBest knP ⟨100, 100⟩ knL knW = ([0, 2], 8) := by kernel_rfl
  rw [takeRes, if_pos h1, h2]
theorem k_print : printRes ⟨150, 160⟩ knT = .tup [.v (.string ⟨#[116, 114, 105, 112, 32, 49, 53, 48, 32, 49, 54, 48, 32, 50, 10, 108, 101, 103, 32, 107, 101, 101, 112, 32, 48, 32, 51, 48, 32, 52, 48, 32, 48, 32, 53, 32, 50, 10, 105, 116, 101, 109, 32, 48, 32, 55, 48, 32, 57, 48, 10, 105, 116, 101, 109, 32, 49, 32, 49, 48, 48, 32, 49, 52, 48, 10, 108, 101, 103, 32, 107, 101, 101, 112, 32, 48, 32, 54, 48, 32, 56, 48, 32, 48, 32, 53, 32, 49, 10, 105, 116, 101, 109, 32, 48, 32, 55, 48, 32, 57, 48, 10, 101, 110, 100, 32, 50, 57, 10]⟩), .v (.int .i64 0)] := by
  have h1 : tripE ⟨150, 160⟩ knT 8 = 0 := by kernel_rfl
  rw [printRes, if_pos h1, k_sheet]
  rfl
end Go.Qg


namespace Go.Qg
open Go.Proofs
set_option maxRecDepth 100000
set_option maxHeartbeats 32000000
attribute [local irreducible] pwp pops pdraw pop popCall pdCall thenP blockP scopeP pspec Spec answers ppost CallW rend
theorem pd_callM {P : Program} {o : Oper} {fr : PF} {c : Call} {f : FuncId} {ps qs : List PV} {r : PV} {H2 : PF} {k : List Nat → PF → Prop} (h : CallW P f qs [] fun out => out = .ret r H2) (news : List Nat) (hp : pcallee P fr c = some (f, ps)) (hno : noObj o.dst fr = true)
    (ha : ∀ g : PF, (∀ y ∈ c.args.toList, ∀ s ∈ deref (rd fr y) ++ nest (rd fr y), g[s]? = fr[s]?) → vwAll (vw g (lentTgt [] [] true) 8) qs ps) (hfl : (flatL H2 && r.flat) = true)
    (hb : backOk fr [] news H2) (hd : ∀ d, o.dst = some d → d ∉ news) (hk : k news (put o.dst (backV news r) (back fr news H2))) : pdCall P o c fr k := by
  unfold pdCall
  rw [hp]
  exact ⟨hno, true, qs, r, H2, news, .inr ⟨rfl, ha⟩, .inr hfl, h, hb, hd, hk⟩
theorem known_spec : Spec Tryz.prog 17 [] (.v (.bool true)) := by
  have hsure := Sure_spec knP knX knP_fit knX_fit
  rw [k_sure] at hsure
  have htrip := Trip_spec knP ⟨150, 160⟩ knT knP_fit knT_fit
  rw [k_trip] at htrip
  have hfuel := Fuel_spec knP knT knP_fit knT_fit
  rw [k_fuel] at hfuel
  have htake := Take_spec knP ⟨100, 100⟩ knL knW knP_fit knL_fit (by simp [knW])
  rw [k_take] at htake
  have hprint := Print_spec ⟨150, 160⟩ knT knT_fit.n knT_fit.i
  rw [k_print] at hprint
  have hsame := SameCase_spec ⟨[290], 200, [0, 0]⟩ ⟨[290], 200, [0, 0]⟩ (by simp) (by simp) (by simp) (by simp)
  have hsame2 := Same_spec [0, 2] [0, 2] (by simp) (by simp)
  have hso := SureO_spec knP knX knP_fit knX_fit (by kernel_rfl) (by rw [show brokenP knP knX = (6, 2) from by kernel_rfl]; decide)
  rw [show brokenP knP knX = (6, 2) from by kernel_rfl, show worstC knP knX 6 2 = ⟨[290], 200, [0, 0]⟩ from by kernel_rfl] at hso
  simp [cseO, cseH, rowsI] at hso
  have pP : plainL knP.cells = true := by simp [Pln.cells, plainL, PV.plain, cnrL, stnL]
  have r18 : List.range 18 = [0, 1, 2, 3, 4, 5, 6, 7, 8, 9, 10, 11, 12, 13, 14, 15, 16, 17] := rfl
  have oP : (∀ (x : PV), x ∈ knP.cells → x.one = true) ↔ True := ⟨fun _ => trivial, fun _ => by simp [Pln.cells, cnrL, stnL]⟩
  have pT : (PV.sl 7 knT.length fun i => (legAt knT i).cells).plain = true := by simp [PV.plain]
  have hT := lT_spec
  simp only [legL] at hT hfuel htrip hprint htake
  simp only [ints] at htake hsame2
  refine spec_of mixed Tryz.func17 (by decide) rfl Tryz.results17 Tryz.ntmps17 (by decide) 2 (by simp) ?_
  simp
  refine pwp_draw 20 (by decide) ?_
  simp
  refine pd_spec lP_spec rfl (by simp) (by simp) rfl ?_
  simp
  refine pd_callM hso [130, 131] rfl (by simp) ?_ rfl ?_ ?_ ?_
  · intro g hg
    have h22 := hg (.tmp 27) (by simp) 22 (by simp [deref])
    have h26 := hg (.tmp 27) (by simp) 26 (by simp [deref])
    simp at h22 h26
    clear hg hso hsame hsame2 hprint htake hfuel htrip hsure
    simp [knX, Pnt.cells, itmL, spnL, vwAll_plain pP]
    refine ⟨by simp [Pln.cells, cnrL, stnL], ⟨_, by rw [h22]; rfl, by simp, by simp [itmAt, Itm.cells], by simp [itmAt, Itm.cells]⟩, ⟨_, by rw [h26]; rfl, by simp, lt2 (by simp [spnAt, Spn.cells]) (by simp [spnAt, Spn.cells])⟩⟩
  · simp [backOk]
  · simp
  · clear hso
    simp [back, backV, placeAll]
    refine ⟨by decide, ?_⟩
    refine pop_spec lP_spec rfl false (.inl (by simp)) (.inl rfl) rfl (by simp) ?_
    simp
    refine pop_spec hT rfl false (.inl (by simp)) (.inl rfl) rfl (by simp) ?_
    simp
    refine pop_spec htrip rfl false (.inl (by simp [Spn.cells, vwAll_plain pP, vw_plain pT, oP])) (.inl rfl) rfl (by simp) ?_
    simp
    refine pop_spec lP_spec rfl false (.inl (by simp)) (.inl rfl) rfl (by simp) ?_
    simp
    refine pop_spec hT rfl false (.inl (by simp)) (.inl rfl) rfl (by simp) ?_
    simp
    refine pop_spec hfuel rfl false (.inl (by simp [vwAll_plain pP, vw_plain pT, oP])) (.inl rfl) rfl (by simp) ?_
    simp
    refine pop_spec lP_spec rfl false (.inl (by simp)) (.inl rfl) rfl (by simp) ?_
    simp
    refine pop_specF [(52, .sl 7 knL.length fun i => (legAt knL i).cells), (59, .sl 6 knW.length fun i => (psnAt knW i).cells)] ?_ htake rfl false (.inl ?_) (.inl rfl) rfl (by simp) ?_
    · clear hsame hsame2 hprint htake hfuel htrip hsure
      simp [knL, knW]
      refine ⟨⟨vwAll_plain pP, oP.2 trivial⟩, ?_⟩
      refine ⟨?_, ?_⟩
      · simp [legAt, Leg.cells, itmL]
      · exact lt3 (by simp [psnAt, Psn.cells, r18]) (by simp [psnAt, Psn.cells, r18]) (by simp [psnAt, Psn.cells, r18])
    · clear hsame hsame2 hprint htake hfuel htrip hsure
      simp [Spn.cells, vwAll_plain pP, oP, psnL]
    clear htake hfuel htrip hsure
    simp
    refine pop_spec hT rfl false (.inl (by simp)) (.inl rfl) rfl (by simp) ?_
    simp
    refine pop_spec hprint rfl false (.inl (by simp [Spn.cells, vwAll_plain pP, vw_plain pT, oP])) (.inl rfl) rfl (by simp) ?_
    clear hprint
    simp
    refine pop_spec hsame rfl true (.inl ?_) (.inr rfl) rfl (by simp) ?_
    · clear hsame hsame2
      simp [Cse.cells, ints]
      exact ⟨by simp [geti], lt2 (by simp [geti]) (by simp [geti])⟩
    simp
    refine pop_spec hsame2 rfl true (.inl ?_) (.inr rfl) rfl (by simp) ?_
    · clear hsame hsame2
      simp [ints]
      exact lt2 (by simp [geti]) (by simp [geti])
    simp
    refine answers_of rfl ?_
    simp
end Go.Qg


namespace Go.Qg
open Go.Proofs
set_option maxRecDepth 100000
set_option maxHeartbeats 64000000
attribute [local irreducible] pwp pops pdraw pop popCall pdCall thenP blockP scopeP pspec Spec answers ppost CallW rend
theorem rSameItems_refl (l : List Itm) (hl : l.length ≤ 1000000) : Spec Tryz.prog 79 [itmL l, itmL l] (.v (.bool true)) := by
  refine spec_of mixed Tryz.func79 (by decide) rfl Tryz.results79 Tryz.ntmps79 (by decide) 0 (by simp) ?_
  simp [itmL]
  refine pwp_loop (fun k : Nat => [(5, .v (.int .i64 k))]) (fun k => k ≤ l.length) (fun k => l.length - k) 0 (Nat.zero_le _) (by simp; rfl) (by simp) ?_
  intro k hk
  by_cases hkl : k < l.length
  · have wk := i64_wrap (show -9223372036854775808 ≤ (k : Int) + 1 ∧ _ from by omega)
    simp [hkl]
    refine pwp_draw 9 (by decide) ?_
    simp [hkl, Itm.cells]
    refine ⟨by decide, ?_⟩
    refine again_of (k + 1) (by omega) (by omega) ?_
    simp [wk]
  · obtain rfl : k = l.length := by omega
    simp
    refine answers_of rfl ?_; simp
end Go.Qg


namespace Go.Qg
open Go.Proofs
set_option maxRecDepth 100000
set_option maxHeartbeats 64000000
attribute [local irreducible] pwp pops pdraw pop popCall pdCall thenP blockP scopeP pspec Spec answers ppost CallW rend
theorem rSameLegs_refl (l : List Leg) (hl : l.length ≤ 1000000) (hi : ∀ k, k < l.length → (legAt l k).items.length ≤ 1000000) : Spec Tryz.prog 56 [legL l, legL l] (.v (.bool true)) := by
  refine spec_of mixed Tryz.func56 (by decide) rfl Tryz.results56 Tryz.ntmps56 (by decide) 0 (by simp) ?_
  simp [legL]
  refine pwp_loop (fun k : Nat => [(5, .v (.int .i64 k))]) (fun k => k ≤ l.length) (fun k => l.length - k) 0 (Nat.zero_le _) (by simp; rfl) (by simp) ?_
  intro k hk
  by_cases hkl : k < l.length
  · have wk := i64_wrap (show -9223372036854775808 ≤ (k : Int) + 1 ∧ _ from by omega)
    have h1 := rSameItems_refl (legAt l k).items (hi k hkl)
    simp only [itmL] at h1
    simp [hkl]
    refine pwp_draw 64 (by decide) ?_
    simp (maxSteps := 5000000) [hkl, Leg.cells, itmL]
    refine pd_spec h1 (by simp) (by simp) (by simp) rfl ?_
    simp (maxSteps := 5000000) [hkl, Leg.cells, itmL]
    refine ⟨by decide +kernel, ?_⟩
    refine again_of (k + 1) (by omega) (by omega) ?_
    simp [wk]
  · obtain rfl : k = l.length := by omega
    simp
    refine answers_of rfl ?_; simp
end Go.Qg

