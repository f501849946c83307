/-
  Lemmas and contracts that hold of the whole program: 5 texts in one.
  No condition.
-/
import Derived.Test.YtnjhblcfjhpoiaaDoorZ6
import Derived.KernelRfl
set_option linter.all false

namespace Go.Qg
open Go.Proofs
set_option maxRecDepth 100000
set_option maxHeartbeats 32000000
set_option linter.unusedSimpArgs false
attribute [local irreducible] pwp pops pdraw pop popCall pdCall thenP blockP scopeP pspec Spec answers ppost CallW rend
theorem rowsB_app (a b : List Bool) : rowsB a ++ rowsB b = rowsB (a ++ b) := by simp [rowsB]
def brT (P : Pln) (legs : List Leg) (n : Int) (j c : Nat) : List Bool := (idxT P j ++ idxR P j c).map (canX P legs n)
theorem brT_zero (P : Pln) (legs : List Leg) (n : Int) : brT P legs n 0 0 = [] := rfl
theorem brT_succ (P : Pln) (legs : List Leg) (n : Int) (j c : Nat) : brT P legs n j c ++ rl P (ptOf P ⟨n, n⟩ legs j) c = brT P legs n j (c + 1) := by
  simp only [brT, idxR, List.map_append, List.map_map, List.append_assoc]
  rfl
theorem brT_next (P : Pln) (legs : List Leg) (n : Int) (j : Nat) : brT P legs n j 6 = brT P legs n (j + 1) 0 := by simp [brT, idxT, idxR]
theorem brT_all (P : Pln) (legs : List Leg) (n : Int) : brT P legs n (2 * legs.length) 0 = breaksL P legs n := by simp [brT, idxR, breaksL]
theorem idxR_le {P : Pln} (hP : PlnOk P) (j : Nat) : ∀ c, (idxR P j c).length ≤ 12 * c
  | 0 => by simp [idxR]
  | c + 1 => by
    have h1 := idxR_le hP j c
    have h2 := manyR_le hP (c + 2)
    simp only [idxR, List.length_append, List.length_map, List.length_range]; omega
theorem idxT_le {P : Pln} (hP : PlnOk P) : ∀ n, (idxT P n).length ≤ 72 * n
  | 0 => by simp [idxT]
  | n + 1 => by
    have h1 := idxT_le hP n
    have h2 := idxR_le hP n 6
    simp only [idxT, List.length_append]; omega
theorem brT_le {P : Pln} (hP : PlnOk P) (legs : List Leg) (n : Int) (j c : Nat) : (brT P legs n j c).length ≤ 72 * j + 12 * c := by
  have h1 := idxT_le hP j
  have h2 := idxR_le hP j c
  simp only [brT, List.length_map, List.length_append]; omega
theorem breaks_spec (P : Pln) (legs : List Leg) (n : Int) (hP : PlnOk P) (hT : TripOk P ⟨n, n⟩ legs) : Spec Tryd.prog 33 [.agg P.cells, legL legs, .v (.int .i64 n)] (bools (breaksL P legs n)) := by
  have hn := hT.n
  have hp := points_spec P ⟨n, n⟩ legs hP.nf hT
  have hat := fun j (h : j < 2 * legs.length) => pntAt_ptsL (P := P) (fuel := ⟨n, n⟩) (legs := legs) h
  have hok := fun j (h : j < 2 * legs.length) => ptOf_ok hT h
  have hlen := ptsL_length P ⟨n, n⟩ legs (2 * legs.length)
  have hml := manyR_le hP
  simp only [Spn.cells] at hp
  generalize ptsL P ⟨n, n⟩ legs (2 * legs.length) = L at *
  refine spec_of mixed Tryd.func33 (by decide) rfl Tryd.results33 Tryd.ntmps33 (by decide) 0 (by simp) ?_
  simp [Pln.cells, cnrL, stnL, legL]
  refine pop_spec hp rfl false (.inl (by simp [Pln.cells, cnrL, stnL, legL])) (.inl rfl) rfl (by simp [pntL]) ?_
  simp [pntL, hlen]
  refine pwp_loop (fun j : Nat => [(7, .own 34 (6 * j) 0 (brT P legs n j 0).length false), (19, .v (.int .i64 j)), (34, .rows none (6 * j) 4 1 (rowsB (brT P legs n j 0)))]) (fun j => j ≤ 2 * legs.length) (fun j => 2 * legs.length - j) 0 (Nat.zero_le _) (by simp; rfl) (by simp [hlen, brT_zero]) ?_
  intro j hj
  by_cases hjl : j < 2 * legs.length
  · have wj := i64_wrap (show -9223372036854775808 ≤ (j : Int) + 1 ∧ _ from by omega)
    have hrs := rules_spec P (ptOf P ⟨n, n⟩ legs j)
    have hr := fun r (h : r < 6) => rule_spec P (ptOf P ⟨n, n⟩ legs j) hP (hok j hjl) h
    have hsucc := fun c => brT_succ P legs n j c
    have hle := fun c => brT_le hP legs n j c
    have hrll := fun c => rl_length P (ptOf P ⟨n, n⟩ legs j) c
    have hX : ptOf P ⟨n, n⟩ legs j = pntAt L j := (hat j hjl).symm
    rw [hX] at hrs hr hsucc hrll
    simp only [rulesV] at hrs
    have hpc : pntC P (pntAt L j) = [.v (.int .i64 P.empty), .v (.int .i64 P.moment), .v (.int .i64 P.takeoff), .v (.int .i64 P.landing), cnrL P.corners, stnL P.stations, .v (.int .i64 P.tank.arm), .v (.int .i64 P.tank.most), .v (.int .i64 P.reserve), stnL P.floats, itmL (pntAt L j).items, .v (.int .i64 (pntAt L j).tank.low), .v (.int .i64 (pntAt L j).tank.high), spnL (pntAt L j).water, .v (.bool (pntAt L j).landing)] := rfl
    simp (config := { maxSteps := 4000000 }) [show (j : Int) < 2 * (legs.length : Int) from by omega, hlen, show j < L.length from by omega, hjl, Pnt.cells, itmL, spnL]
    refine pop_spec hrs rfl false (.inl (by simp [hpc, cnrL, stnL, itmL, spnL])) (.inl rfl) rfl (by simp [hpc, cnrL, stnL, itmL, spnL]) ?_
    simp [hpc, cnrL, stnL, itmL, spnL]
    refine pwp_loop (fun c : Nat => [(7, .own 34 (6 * j + c) 0 (brT P legs n j c).length false), (28, .v (.int .i64 c)), (34, .rows none (6 * j + c) 4 1 (rowsB (brT P legs n j c)))]) (fun c => c ≤ 6) (fun c => 6 - c) 0 (Nat.zero_le _) (by simp; rfl) (by simp [hpc, cnrL, stnL, itmL, spnL, hlen]) ?_
    intro c hc
    by_cases hlt : c < 6
    · have hcall := hr c hlt
      have hm := hml (c + 2)
      have hrl := hrll c
      have hs := hsucc c
      have h0 := hle c
      have e1 : (brT P legs n j (c + 1)).length = (brT P legs n j c).length + (rl P (pntAt L j) c).length := by rw [← hs, List.length_append]
      have er := rowsB_app (brT P legs n j c) (rl P (pntAt L j) c)
      rw [hs] at er
      have erng := rowsB_range (rl P (pntAt L j) c)
      generalize rl P (pntAt L j) c = R at *
      generalize hB : brT P legs n j c = B at *
      have et : B.take B.length = B := List.take_of_length_le (Nat.le_refl _)
      obtain ⟨c', hc'⟩ : ∃ c', c' = c + 1 := ⟨_, rfl⟩
      have hcases : c = 0 ∨ c = 1 ∨ c = 2 ∨ c = 3 ∨ c = 4 ∨ c = 5 := by omega
      rcases hcases with rfl | rfl | rfl | rfl | rfl | rfl
      all_goals
        simp only [ruleF] at hcall
        simp [ruleF]
        refine pop_spec hcall rfl false (.inl (by simp [hpc, cnrL, stnL, itmL, spnL])) (.inl rfl) rfl (by simp [bools]) ?_
        simp [bools, show B.length + R.length ≤ 140737488355328 from by omega, show B.length + R.length ≤ maxLen from by simp [maxLen]; omega]
        refine again_of c' (by omega) (by omega) ?_
        subst hc'
        simp [hlen, e1, er, et, erng]
    · obtain rfl : c = 6 := by omega
      simp
      refine again_of (j + 1) (by omega) (by omega) ?_
      simp [wj, hlen, brT_next, show 6 * (j + 1) = 6 * j + 6 from by omega]
  · obtain rfl : j = 2 * legs.length := by omega
    simp [hlen]
    refine answers_of rfl ?_
    rw [brT_all]
    simp [bools]
    intro k hk
    simp [rowsB_get hk]
theorem end_unique {p : Int → Bool} {K : Nat} (h : p K = false) {x : Int} (hx : 0 ≤ x) (h1 : p x = false) (h2 : ∀ n : Int, 0 ≤ n → n < x → p n = true) : endOf p K = x := by
  obtain ⟨g1, g2, g3⟩ := endOf_spec h
  rcases Int.lt_trichotomy (endOf p K) x with c | c | c
  · have := h2 _ g1.1 c; rw [g2] at this; cases this
  · exact c
  · have := g3 x hx c; rw [h1] at this; cases this
theorem change_spec (f : FuncId) (first cap : List PV) (h1 : plainL first = true) (h2 : plainL cap = true) (p : Int → Bool) (hd : DownB p) (hK : p 20000 = false)
    (h : ∀ n : Int, 0 ≤ n → n ≤ 20000 → Spec Tryd.prog f (first ++ ([.v (.int .i64 n)] ++ cap)) (.v (.bool (p n)))) : Spec Tryd.prog 34 [.v (.int .i64 0), .v (.int .i64 20000), .clo (.func f) first cap] (.v (.int .i64 (endOf p (20000 : Nat)))) := by
  refine spec_of mixed Tryd.func34 (by decide) rfl Tryd.results34 Tryd.ntmps34 (by decide) 0 (by simp) ?_
  simp [renL_plain h1, renL_plain h2]
  refine pop_spec (h 20000 (by omega) (by omega)) rfl false (.inr ⟨by simp, by simp [namesL_append, plainL_names h1, plainL_names h2]⟩) (.inl rfl) rfl (by simp) ?_
  rw [hK]
  simp
  refine pwp_loop (fun s : Int × Int => [(0, .v (.int .i64 s.1)), (1, .v (.int .i64 s.2))]) (fun s => (0 ≤ s.1 ∧ s.1 ≤ s.2 ∧ s.2 ≤ 20000) ∧ p s.2 = false ∧ ∀ n : Int, 0 ≤ n → n < s.1 → p n = true) (fun s => (s.2 - s.1).toNat) (0, 20000) ⟨by simp, hK, fun n a b => by simp only at b; omega⟩ (by simp; rfl) (by simp [vwAll_plain h1, vwAll_plain h2]) ?_
  rintro ⟨lo, hi⟩ ⟨⟨a1, a2, a3⟩, a4, a5⟩
  simp only at a1 a2 a3 a4 a5 ⊢
  by_cases hlt : lo < hi
  · obtain ⟨d, hdv⟩ : ∃ d : Int, d = (hi - lo) / 2 := ⟨_, rfl⟩
    have hd0 : 0 ≤ d ∧ lo + d < hi := by omega
    have w1 := i64_wrap (show -9223372036854775808 ≤ hi - lo ∧ _ from by omega)
    have w2 : (hi - lo).tdiv 2 = d := by rw [Int.tdiv_eq_ediv_of_nonneg (by omega), hdv]
    have w3 := i64_wrap (show -9223372036854775808 ≤ d ∧ _ from by omega)
    have w4 := i64_wrap (show -9223372036854775808 ≤ lo + d ∧ _ from by omega)
    have w5 := i64_wrap (show -9223372036854775808 ≤ lo + d + 1 ∧ _ from by omega)
    simp [hlt, w1, w2, w3, w4]
    refine pop_spec (h (lo + d) (by omega) (by omega)) rfl false (.inr ⟨by simp, by simp [namesL_append, plainL_names h1, plainL_names h2]⟩) (.inl rfl) rfl (by simp) ?_
    cases hp : p (lo + d) with
    | false =>
      simp
      refine again_of (lo, lo + d) ⟨⟨a1, by omega, by omega⟩, hp, a5⟩ (by simp only; omega) ?_
      simp [vwAll_plain h1, vwAll_plain h2]
    | true =>
      simp [w5]
      refine again_of (lo + d + 1, hi) ⟨⟨by omega, by omega, a3⟩, a4, fun n b1 b2 => hd n (lo + d) (by simp only at b2; omega) hp⟩ (by simp only; omega) ?_
      simp [vwAll_plain h1, vwAll_plain h2]
  · obtain rfl : hi = lo := by omega
    simp
    refine answers_of rfl ?_
    rw [end_unique (K := 20000) hK a1 a4 a5]
    simp
theorem tripOk_fuel {P : Pln} {f g : Spn} {legs : List Leg} (h : TripOk P f legs) (hg : 0 ≤ g.low ∧ g.low ≤ g.high ∧ g.high ≤ 20000) : TripOk P g legs := ⟨hg, h.n, h.leg⟩
theorem Fuel1_spec (P : Pln) (legs : List Leg) (n : Int) (k : Nat) (hP : PlnOk P) (hT : TripOk P ⟨n, n⟩ legs) (hk : k < (idxT P (2 * legs.length)).length) :
    Spec Tryd.prog 35 [.v (.int .i64 n), .rp P.cells 0, .rp [legL legs] 0, .rp [.v (.int .i64 k)] 0] (.v (.bool (brkK P legs k n))) := by
  have hb := breaks_spec P legs n hP hT
  have hlen := breaksL_length P legs n
  have e : brkK P legs k n = getb (breaksL P legs n) k := rfl
  rw [e]
  generalize breaksL P legs n = B at *
  refine spec_of mixed Tryd.func35 (by decide) rfl Tryd.results35 Tryd.ntmps35 (by decide) 0 (by simp) ?_
  simp [Pln.cells, cnrL, stnL, legL]
  refine pwp_draw 7 (by decide) ?_
  simp
  refine pd_spec hb (by simp [Pln.cells, cnrL, stnL, legL]) (by simp) (by simp [Pln.cells, cnrL, stnL, legL]) (by simp [bools]) ?_
  simp [bools, show k < B.length from by omega]
  refine ⟨by decide, ?_⟩
  refine answers_of rfl ?_; simp
theorem fuelTo_no {p : Nat → Int → Bool} {K k : Nat} (h : fuelTo p K k = none) : ∀ {N : Nat}, k ≤ N → fuelTo p K N = none
  | 0, hk => by obtain rfl : k = 0 := by omega
                exact h
  | N + 1, hk => by
    rcases Nat.lt_or_eq_of_le hk with c | rfl
    · simp only [fuelTo, fuelTo_no h (show k ≤ N by omega)]
    · exact h
def fuelRes (P : Pln) (legs : List Leg) : PV := if trippedE P ⟨0, 0⟩ legs = 0 then (match fuelP P legs with
  | some n => .tup [.v (.int .i64 n), .v (.int .i64 0)]
  | none => .tup [.v (.int .i64 0), .v (.int .i64 5)]) else .tup [.v (.int .i64 0), .v (.int .i64 (trippedE P ⟨0, 0⟩ legs))]
theorem Fuel_spec (P : Pln) (legs : List Leg) (hP : PlnLen P) (hl : LegsLen legs) : Spec Tryd.prog 15 [.agg P.cells, legL legs] (fuelRes P legs) := by
  have ht := tripped_spec P ⟨0, 0⟩ legs hP hl.n hl.i
  simp only [Spn.cells] at ht
  unfold fuelRes
  refine spec_of mixed Tryd.func15 (by decide) rfl Tryd.results15 Tryd.ntmps15 (by decide) 0 (by simp) ?_
  simp [Pln.cells, cnrL, stnL, legL]
  refine pop_spec ht rfl false (.inl (by simp [Pln.cells, cnrL, stnL, legL])) (.inl rfl) rfl (by simp) ?_
  by_cases h : trippedE P ⟨0, 0⟩ legs = 0
  case neg =>
    simp [h]
    refine answers_of rfl ?_; simp
  obtain ⟨k1, k2⟩ := tripped_ok.1 h
  have hn := k2.n
  have hb0 := breaks_spec P legs 0 k1 k2
  have hb1 := breaks_spec P legs 20000 k1 (tripOk_fuel k2 (by simp))
  have hl0 := breaksL_length P legs 0
  have hl1 := breaksL_length P legs 20000
  have hle := idxT_le k1 (2 * legs.length)
  simp only [bools] at hb0 hb1
  simp [h]
  refine pwp_draw 8 (by decide) ?_
  simp
  refine pd_spec hb0 (by simp [Pln.cells, cnrL, stnL, legL]) (by simp) (by simp [Pln.cells, cnrL, stnL, legL]) (by simp) ?_
  simp
  refine pd_spec hb1 (by simp [Pln.cells, cnrL, stnL, legL]) (by simp) (by simp [Pln.cells, cnrL, stnL, legL]) (by simp) ?_
  simp
  refine ⟨by decide, ?_⟩
  have hshift := brk_shift P legs
  have g0 : ∀ k, getb (breaksL P legs 0) k = brkK P legs k 0 := fun k => rfl
  have g1 : ∀ k, getb (breaksL P legs 20000) k = brkK P legs k 20000 := fun k => rfl
  have hF1 := fun (n : Int) (h0 : 0 ≤ n ∧ n ≤ 20000) k hk => Fuel1_spec P legs n k k1 (tripOk_fuel (g := ⟨n, n⟩) k2 ⟨h0.1, Int.le_refl _, h0.2⟩) hk
  have hfP : ∀ N, N = (idxT P (2 * legs.length)).length → fuelP P legs = match fuelTo (brkK P legs) 20000 N with
    | none => none
    | some low => if (tripP P ⟨low, low⟩ legs).isNone = true then some low else none := fun N hN => by subst hN; rfl
  generalize hB0 : breaksL P legs 0 = B0 at *
  generalize hB1 : breaksL P legs 20000 = B1 at *
  generalize hN : (idxT P (2 * legs.length)).length = N at *
  replace hfP := hfP N rfl
  refine pwp_loop (fun s : Nat × Int => [(2, .rp P.cells 0), (3, .rp [legL legs] 0), (9, .v (.int .i64 s.2)), (29, .v (.int .i64 s.1))]) (fun s => s.1 ≤ N ∧ fuelTo (brkK P legs) 20000 s.1 = some s.2 ∧ 0 ≤ s.2 ∧ s.2 ≤ 20000) (fun s => N - s.1) (0, 0) ⟨Nat.zero_le _, rfl, by simp, by simp⟩ (by simp; rfl) (by simp [Pln.cells, cnrL, stnL, legL]) ?_
  rintro ⟨k, low⟩ ⟨hk, hf, hlo⟩
  simp only at hk hf hlo ⊢
  by_cases hkl : k < N
  · have wk := i64_wrap (show -9223372036854775808 ≤ (k : Int) + 1 ∧ _ from by omega)
    have hsucc : fuelTo (brkK P legs) 20000 (k + 1) = if brkK P legs k 0 = true ∧ brkK P legs k 20000 = true then none else if brkK P legs k 0 = true then some (max low (endOf (brkK P legs k) 20000)) else some low := by simp only [fuelTo, hf]; rfl
    have q0 := g0 k
    have q1 := g1 k
    cases c0 : brkK P legs k 0 with
    | false =>
      rw [c0] at q0 hsucc
      simp [Pln.cells, cnrL, stnL, legL, hl0, hl1, hkl, q0]
      refine again_of (k + 1, low) ⟨by simp only; omega, by simpa using hsucc, hlo⟩ (by simp only; omega) ?_
      simp [wk, Pln.cells, cnrL, stnL, legL, hl0, hl1]
    | true =>
      rw [c0] at q0 hsucc
      cases c1 : brkK P legs k 20000 with
      | true =>
        rw [c1] at q1 hsucc
        have hnone := fuelTo_no (k := k + 1) (by simpa using hsucc) (show k + 1 ≤ N by omega)
        rw [hnone] at hfP
        simp [Pln.cells, cnrL, stnL, legL, hl0, hl1, hkl, q0, q1]
        refine answers_of rfl ?_
        rw [hfP]
        simp
      | false =>
        rw [c1] at q1 hsucc
        have hdn : DownB (brkK P legs k) := (hshift k).resolve_left fun hu => by
          have := hu 0 20000 (by omega) c0
          rw [c1] at this; cases this
        have hch := change_spec 35 [] [.rp P.cells 0, .rp [legL legs] 0, .rp [.v (.int .i64 k)] 0] rfl (by simp [plainL, PV.plain, Pln.cells, cnrL, stnL, legL]) (brkK P legs k) hdn c1 fun n h0 h1 => hF1 n ⟨h0, h1⟩ k hkl
        have hend := endOf_spec (p := brkK P legs k) (K := 20000) c1
        simp only [if_true, Bool.false_eq_true, and_false, if_false] at hsucc
        generalize endOf (brkK P legs k) ((20000 : Nat) : Int).toNat = E0 at *
        generalize hE : endOf (brkK P legs k) 20000 = E at *
        simp [Pln.cells, cnrL, stnL, legL, hl0, hl1, hkl, q0, q1]
        refine pop_specF [(10, .undef), (47, .clo (.func 35) [] [.rp P.cells 0, .rp [legL legs] 0, .rp [.v (.int .i64 k)] 0])] ?_ hch rfl false (.inl ?_) (.inl rfl) rfl (by simp) ?_
        · simp [Pln.cells, cnrL, stnL, legL, hl0, hl1]
        · simp [Pln.cells, cnrL, stnL, legL]
        have hmax : (if low < E then E else low) = max low E := by split <;> omega
        simp [hmax]
        refine again_of (k + 1, max low E) ⟨by simp only; omega, hsucc, by simp only; omega⟩ (by simp only; omega) ?_
        simp [wk, Pln.cells, cnrL, stnL, legL, hl0, hl1]
  · obtain rfl : k = N := by omega
    rw [hf] at hfP
    simp only at hfP
    have hfs := first_spec P ⟨low, low⟩ legs k1 (tripOk_fuel k2 ⟨hlo.1, Int.le_refl _, hlo.2⟩)
    unfold firstRes at hfs
    simp only [Spn.cells] at hfs
    simp [Pln.cells, cnrL, stnL, legL, hl0, hl1]
    cases hj : tripP P ⟨low, low⟩ legs with
    | none =>
      rw [hj] at hfs hfP
      simp only at hfs hfP
      refine pop_spec hfs rfl false (.inl (by simp [Pln.cells, cnrL, stnL, legL])) (.inl rfl) rfl (by simp) ?_
      simp
      refine answers_of rfl ?_
      rw [hfP]
      simp
    | some j =>
      rw [hj] at hfs hfP
      simp only at hfs hfP
      refine pop_spec hfs rfl false (.inl (by simp [Pln.cells, cnrL, stnL, legL])) (.inl rfl) rfl (by simp) ?_
      simp
      refine answers_of rfl ?_
      rw [hfP]
      simp
end Go.Qg

namespace Go.Qg
open Go.Proofs
set_option maxRecDepth 100000
set_option linter.unusedSimpArgs false
set_option maxHeartbeats 32000000
attribute [local irreducible] pwp pops pdraw pop popCall pdCall thenP blockP scopeP pspec Spec answers ppost CallW rend
theorem Same_spec (a b : List Int) (ha : a.length ≤ 9223372036854775807) (hb : b.length ≤ 9223372036854775807) : Spec Tryd.prog 30 [ints a, ints b] (.v (.bool (decide (a = b)))) := by
  refine spec_of mixed Tryd.func30 (by decide) rfl Tryd.results30 Tryd.ntmps30 (by decide) 0 (by simp) ?_
  simp [ints]
  by_cases hl : a.length = b.length
  · simp [hl]
    refine pwp_loop (fun k : Nat => [(5, .v (.int .i64 k))]) (fun k => k ≤ b.length ∧ ∀ j, j < k → geti a j = geti b j) (fun k => b.length - k) 0 ⟨Nat.zero_le _, fun j hj => by omega⟩ (by simp; rfl) (by simp [hl]) ?_
    intro k ⟨hk, hp⟩
    by_cases hkl : k < b.length
    · have wk := i64_wrap (show -9223372036854775808 ≤ (k : Int) + 1 ∧ _ from by omega)
      simp [hkl, hl]
      refine pwp_draw 9 (by decide) ?_
      by_cases he : geti a k = geti b k
      · simp [hkl, hl, he]
        refine ⟨by decide, ?_⟩
        refine again_of (k + 1) ⟨by omega, fun j hj => ?_⟩ (by omega) ?_
        · rcases Nat.lt_succ_iff_lt_or_eq.1 hj with hj | rfl
          · exact hp j hj
          · exact he
        · simp [wk, hl]
      · simp [hkl, hl, he]
        refine ⟨by decide, ?_⟩
        have hne : ¬ a = b := fun h => he (by rw [h])
        refine answers_of rfl ?_; simp [hne]
    · simp [hkl]
      have heq : a = b := ext_geti hl fun j hj => hp j (by omega)
      refine answers_of rfl ?_; simp [heq]
  · simp [show ¬ (a.length : Int) = b.length from by omega]
    have hne : ¬ a = b := fun h => hl (by rw [h])
    refine answers_of rfl ?_; simp [hne]
theorem SameCase_spec (a b : Cse) (h1 : a.items.length ≤ 9223372036854775807) (h2 : b.items.length ≤ 9223372036854775807) (h3 : a.water.length ≤ 9223372036854775807) (h4 : b.water.length ≤ 9223372036854775807) :
    Spec Tryd.prog 29 [.agg a.cells, .agg b.cells] (.v (.bool (decide (a.items = b.items) && decide (a.tank = b.tank) && decide (a.water = b.water)))) := by
  refine spec_of mixed Tryd.func29 (by decide) rfl Tryd.results29 Tryd.ntmps29 (by decide) 0 (by simp) ?_
  simp [Cse.cells, ints]
  refine pop_spec (Same_spec a.items b.items h1 h2) rfl false (.inl (by simp [ints])) (.inl rfl) rfl (by simp) ?_
  by_cases e1 : a.items = b.items
  · by_cases e2 : a.tank = b.tank
    · simp [e1, e2]
      refine pop_spec (Same_spec a.water b.water h3 h4) rfl false (.inl (by simp [ints])) (.inl rfl) rfl (by simp) ?_
      simp
      refine answers_of rfl ?_; simp
    · simp [e1, e2]
      refine answers_of rfl ?_; simp
  · simp [e1]
    refine answers_of rfl ?_; simp
def knP : Pln := ⟨1000, 100000, 2000, 1900, [⟨1000, 95000⟩, ⟨2000, 190000⟩, ⟨2000, 230000⟩, ⟨1000, 115000⟩], [⟨90, 200⟩, ⟨200, 300⟩], ⟨120, 200⟩, 40, [⟨100, 50⟩, ⟨100, 50⟩]⟩
def knI : List Itm := [⟨0, 70, 90⟩, ⟨1, 100, 140⟩]
def knT : List Leg := [⟨knI, false, 0, ⟨30, 40⟩, ⟨0, 5⟩⟩, ⟨[⟨0, 70, 90⟩], false, 0, ⟨60, 80⟩, ⟨0, 5⟩⟩]
def knX : Pnt := ⟨[⟨1, 200, 290⟩], ⟨200, 200⟩, [⟨0, 10⟩, ⟨0, 10⟩], false⟩
def knL : List Leg := [⟨[], false, 0, ⟨0, 0⟩, ⟨0, 0⟩⟩]
def knW : List Psn := [⟨200, 200, 1, 0, 0, 5⟩, ⟨150, 150, 1, 0, 0, 4⟩, ⟨150, 150, 0, 0, 0, 3⟩]
theorem lP_spec : Spec Tryd.prog 25 [] (.agg knP.cells) := by
  refine spec_of mixed Tryd.func25 (by decide) rfl Tryd.results25 Tryd.ntmps25 (by decide) 0 (by simp) ?_
  simp
  refine answers_of (x := .agg [.v (.int .i64 1000), .v (.int .i64 100000), .v (.int .i64 2000), .v (.int .i64 1900), .own 14 0 0 4 false, .own 9 0 0 2 false, .v (.int .i64 120), .v (.int .i64 200), .v (.int .i64 40), .own 6 0 0 2 false]) (by simp) ?_
  simp [knP, Pln.cells, cnrL, stnL]
  refine ⟨lt4 ?_ ?_ ?_ ?_, lt2 ?_ ?_, lt2 ?_ ?_⟩ <;> simp [cnrAt, Cnr.cells, stnAt, Stn.cells]
theorem lT_spec : Spec Tryd.prog 26 [] (legL knT) := by
  have r14 : List.range 14 = [0, 1, 2, 3, 4, 5, 6, 7, 8, 9, 10, 11, 12, 13] := rfl
  refine spec_of mixed Tryd.func26 (by decide) rfl Tryd.results26 Tryd.ntmps26 (by decide) 0 (by simp) ?_
  simp [r14]
  refine answers_of (x := .own 16 0 0 2 false) (by simp) ?_
  simp [knT, knI, legL, r14]
  refine lt2 ?_ ?_
  · simp [legAt, Leg.cells, itmL]
    refine lt2 ?_ ?_ <;> simp [itmAt, Itm.cells]
  · simp [legAt, Leg.cells, itmL, itmAt, Itm.cells]
theorem dec_lt {u : Nat} (h : u < 10) : Lib.decDigits u = [UInt8.ofNat (48 + u)] := by rw [Lib.decDigits, dif_pos h]
theorem dec_ge {u : Nat} (h : ¬ u < 10) : Lib.decDigits u = Lib.decDigits (u / 10) ++ [UInt8.ofNat (48 + u % 10)] := by rw [Lib.decDigits, dif_neg h]
def knS : List UInt8 := [116, 114, 105, 112, 32, 49, 53, 48, 32, 49, 54, 48, 32, 50, 10, 108, 101, 103, 32, 107, 101, 101, 112, 32, 48, 32, 51, 48, 32, 52, 48, 32, 48, 32, 53, 32, 50, 10, 105, 116, 101, 109, 32, 48, 32, 55, 48, 32, 57, 48, 10, 105, 116, 101, 109, 32, 49, 32, 49, 48, 48, 32, 49, 52, 48, 10, 108, 101, 103, 32, 107, 101, 101, 112, 32, 48, 32, 54, 48, 32, 56, 48, 32, 48, 32, 53, 32, 49, 10, 105, 116, 101, 109, 32, 48, 32, 55, 48, 32, 57, 48, 10, 101, 110, 100, 32, 50, 57, 10]
theorem k_sheet : printB ⟨150, 160⟩ knT = knS := by
  simp [printB, sheetB, sheetS, legsTo, legsSum, itemsTo, itemsSum, lineB, joinB, numsB, headN, legN, itmN, legWs, knT, knI, legAt, itmAt, sumI, lastB, Lib.itoa, dec_lt, dec_ge, Lib.join, List.intercalate, tripW, legW, keepW, pumpW, itemW]
  rfl
theorem knP_fit : PlnLen knP := ⟨by simp [knP], by simp [knP], by simp [knP]⟩
theorem knT_fit : LegsLen knT := ⟨by simp [knT], lt2 (by simp [knT, knI, legAt]) (by simp [knT, legAt])⟩
theorem knL_fit : LegsLen knL := ⟨by simp [knL], fun k hk => by obtain rfl : k = 0 := (by simp [knL] at hk; omega); simp [knL, legAt]⟩
theorem knX_fit : PntLen knX := by constructor <;> simp [knX]
theorem k_sure : sureRes knP knX = .tup [.v (.int .i64 6), .v (.int .i64 2), .agg (Cse.mk [290] 200 [0, 0]).cells, .v (.int .i64 0)] := by
  have h1 : rightB knP knX = true := by kernel_rfl
  have h2 : brokenP knP knX = (6, 2) := by kernel_rfl
  have h3 : worstC knP knX 6 2 = ⟨[290], 200, [0, 0]⟩ := by kernel_rfl
  rw [sureRes, if_pos h1, h2, if_neg (by decide), h3]
  rfl
theorem k_trip : tripRes knP ⟨150, 160⟩ knT = .tup [.v (.int .i64 3), .v (.int .i64 7), .v (.int .i64 0), .v (.int .i64 0)] := by
  have h1 : trippedE knP ⟨150, 160⟩ knT = 0 := by kernel_rfl
  have h2 : tripP knP ⟨150, 160⟩ knT = some 3 := by kernel_rfl
  have h3 : brokenP knP (ptOf knP ⟨150, 160⟩ knT 3) = (7, 0) := by kernel_rfl
  rw [tripRes, if_pos h1, h2]
  simp only
  rw [h3]
  rfl
theorem k_fuel : fuelRes knP knT = .tup [.v (.int .i64 160), .v (.int .i64 0)] := by
  have h1 : trippedE knP ⟨0, 0⟩ knT = 0 := by kernel_rfl
  have k4 : tripP knP ⟨160, 160⟩ knT = none := by kernel_rfl
  have k5 : tripP knP ⟨159, 159⟩ knT = some 3 := by kernel_rfl
  have h4 := trip_none.1 k4
  have h5 : ¬ sureT knP ⟨159, 159⟩ knT := fun h => by
    rw [trip_none.2 h] at k5
    cases k5
  have h := fuel_law knP knT
  rw [fuelRes, if_pos h1]
  cases hf : fuelP knP knT with
  | none => rw [hf] at h; exact (h 160 (by omega) (by omega) h4).elim
  | some n =>
    rw [hf] at h
    obtain ⟨g1, g2, g3⟩ := h
    have a : ¬ 160 < n := fun hl => g3 160 (by omega) hl h4
    have b : ¬ n < 160 := fun hl => h5 (fuel_span knP knT (by omega) (by omega) g2 h4)
    obtain rfl : n = 160 := by omega
    rfl
theorem k_take : takeRes knP ⟨100, 100⟩ knL knW = .tup [ints [0, 2], .v (.int .i64 8), .v (.int .i64 0)] := by
  have h1 : takeE knP ⟨100, 100⟩ knL knW = 0 := by kernel_rfl
  have h2 : takeBest knP ⟨100, 100⟩ knL knW = ([0, 2], 8) := by kernel_rfl
  rw [takeRes, if_pos h1, h2]
theorem k_print : printRes ⟨150, 160⟩ knT = .tup [.v (.string ⟨#[116, 114, 105, 112, 32, 49, 53, 48, 32, 49, 54, 48, 32, 50, 10, 108, 101, 103, 32, 107, 101, 101, 112, 32, 48, 32, 51, 48, 32, 52, 48, 32, 48, 32, 53, 32, 50, 10, 105, 116, 101, 109, 32, 48, 32, 55, 48, 32, 57, 48, 10, 105, 116, 101, 109, 32, 49, 32, 49, 48, 48, 32, 49, 52, 48, 10, 108, 101, 103, 32, 107, 101, 101, 112, 32, 48, 32, 54, 48, 32, 56, 48, 32, 48, 32, 53, 32, 49, 10, 105, 116, 101, 109, 32, 48, 32, 55, 48, 32, 57, 48, 10, 101, 110, 100, 32, 50, 57, 10]⟩), .v (.int .i64 0)] := by
  have h1 : tripE ⟨150, 160⟩ knT 8 = 0 := by kernel_rfl
  rw [printRes, if_pos h1, k_sheet]
  rfl
end Go.Qg

namespace Go.Qg
open Go.Proofs
set_option maxRecDepth 100000
set_option linter.unusedSimpArgs false
set_option maxHeartbeats 32000000
attribute [local irreducible] pwp pops pdraw pop popCall pdCall thenP blockP scopeP pspec Spec answers ppost CallW rend
theorem pd_callM {P : Program} {o : Oper} {fr : PF} {c : Call} {f : FuncId} {ps qs : List PV} {r : PV} {H2 : PF} {k : List Nat → PF → Prop} (h : CallW P f qs [] fun out => out = .ret r H2) (news : List Nat) (hp : pcallee P fr c = some (f, ps)) (hno : noObj o.dst fr = true)
    (ha : ∀ g : PF, (∀ y ∈ c.args.toList, ∀ s ∈ deref (rd fr y) ++ nest (rd fr y), g[s]? = fr[s]?) → vwAll (vw g (lentTgt [] [] true) 8) qs ps) (hfl : (flatL H2 && r.flat) = true)
    (hb : backOk fr [] news H2) (hd : ∀ d, o.dst = some d → d ∉ news) (hk : k news (put o.dst (backV news r) (back fr news H2))) : pdCall P o c fr k := by
  unfold pdCall
  rw [hp]
  exact ⟨hno, true, qs, r, H2, news, .inr ⟨rfl, ha⟩, .inr hfl, h, hb, hd, hk⟩
theorem known_spec : Spec Tryd.prog 12 [] (.v (.bool true)) := by
  have hsure := Sure_spec knP knX knP_fit knX_fit
  rw [k_sure] at hsure
  have htrip := Trip_spec knP ⟨150, 160⟩ knT knP_fit knT_fit
  rw [k_trip] at htrip
  have hfuel := Fuel_spec knP knT knP_fit knT_fit
  rw [k_fuel] at hfuel
  have htake := Take_spec knP ⟨100, 100⟩ knL knW knP_fit knL_fit (by simp [knW])
  rw [k_take] at htake
  have hprint := Print_spec ⟨150, 160⟩ knT knT_fit.n knT_fit.i
  rw [k_print] at hprint
  have hsame := SameCase_spec ⟨[290], 200, [0, 0]⟩ ⟨[290], 200, [0, 0]⟩ (by simp) (by simp) (by simp) (by simp)
  have hsame2 := Same_spec [0, 2] [0, 2] (by simp) (by simp)
  have hso := SureO_spec knP knX knP_fit knX_fit (by kernel_rfl) (by rw [show brokenP knP knX = (6, 2) from by kernel_rfl]; decide)
  rw [show brokenP knP knX = (6, 2) from by kernel_rfl, show worstC knP knX 6 2 = ⟨[290], 200, [0, 0]⟩ from by kernel_rfl] at hso
  simp [cseO, cseH, rowsI] at hso
  have pP : plainL knP.cells = true := by simp [Pln.cells, plainL, PV.plain, cnrL, stnL]
  have r18 : List.range 18 = [0, 1, 2, 3, 4, 5, 6, 7, 8, 9, 10, 11, 12, 13, 14, 15, 16, 17] := rfl
  have oP : (∀ (x : PV), x ∈ knP.cells → x.one = true) ↔ True := ⟨fun _ => trivial, fun _ => by simp [Pln.cells, cnrL, stnL]⟩
  have pT : (PV.sl 7 knT.length fun i => (legAt knT i).cells).plain = true := by simp [PV.plain]
  have hT := lT_spec
  simp only [legL] at hT hfuel htrip hprint htake
  simp only [ints] at htake hsame2
  refine spec_of mixed Tryd.func12 (by decide) rfl Tryd.results12 Tryd.ntmps12 (by decide) 2 (by simp) ?_
  simp
  refine pwp_draw 20 (by decide) ?_
  simp
  refine pd_spec lP_spec rfl (by simp) (by simp) rfl ?_
  simp
  refine pd_callM hso [130, 131] rfl (by simp) ?_ rfl ?_ ?_ ?_
  · intro g hg
    have h22 := hg (.tmp 27) (by simp) 22 (by simp [deref])
    have h26 := hg (.tmp 27) (by simp) 26 (by simp [deref])
    simp at h22 h26
    clear hg hso hsame hsame2 hprint htake hfuel htrip hsure
    simp [knX, Pnt.cells, itmL, spnL, vwAll_plain pP]
    refine ⟨by simp [Pln.cells, cnrL, stnL], ⟨_, by rw [h22]; rfl, by simp, by simp [itmAt, Itm.cells], by simp [itmAt, Itm.cells]⟩, ⟨_, by rw [h26]; rfl, by simp, lt2 (by simp [spnAt, Spn.cells]) (by simp [spnAt, Spn.cells])⟩⟩
  · simp [backOk]
  · simp
  · clear hso
    simp [back, backV, placeAll]
    refine ⟨by decide, ?_⟩
    refine pop_spec lP_spec rfl false (.inl (by simp)) (.inl rfl) rfl (by simp) ?_
    simp
    refine pop_spec hT rfl false (.inl (by simp)) (.inl rfl) rfl (by simp) ?_
    simp
    refine pop_spec htrip rfl false (.inl (by simp [Spn.cells, vwAll_plain pP, vw_plain pT, oP])) (.inl rfl) rfl (by simp) ?_
    simp
    refine pop_spec lP_spec rfl false (.inl (by simp)) (.inl rfl) rfl (by simp) ?_
    simp
    refine pop_spec hT rfl false (.inl (by simp)) (.inl rfl) rfl (by simp) ?_
    simp
    refine pop_spec hfuel rfl false (.inl (by simp [vwAll_plain pP, vw_plain pT, oP])) (.inl rfl) rfl (by simp) ?_
    simp
    refine pop_spec lP_spec rfl false (.inl (by simp)) (.inl rfl) rfl (by simp) ?_
    simp
    refine pop_specF [(52, .sl 7 knL.length fun i => (legAt knL i).cells), (59, .sl 6 knW.length fun i => (psnAt knW i).cells)] ?_ htake rfl false (.inl ?_) (.inl rfl) rfl (by simp) ?_
    · clear hsame hsame2 hprint htake hfuel htrip hsure
      simp [knL, knW]
      refine ⟨⟨vwAll_plain pP, oP.2 trivial⟩, ?_⟩
      refine ⟨?_, ?_⟩
      · simp [legAt, Leg.cells, itmL]
      · exact lt3 (by simp [psnAt, Psn.cells, r18]) (by simp [psnAt, Psn.cells, r18]) (by simp [psnAt, Psn.cells, r18])
    · clear hsame hsame2 hprint htake hfuel htrip hsure
      simp [Spn.cells, vwAll_plain pP, oP, psnL]
    clear htake hfuel htrip hsure
    simp
    refine pop_spec hT rfl false (.inl (by simp)) (.inl rfl) rfl (by simp) ?_
    simp
    refine pop_spec hprint rfl false (.inl (by simp [Spn.cells, vwAll_plain pP, vw_plain pT, oP])) (.inl rfl) rfl (by simp) ?_
    clear hprint
    simp
    refine pop_spec hsame rfl true (.inl ?_) (.inr rfl) rfl (by simp) ?_
    · clear hsame hsame2
      simp [Cse.cells, ints]
      exact ⟨by simp [geti], lt2 (by simp [geti]) (by simp [geti])⟩
    simp
    refine pop_spec hsame2 rfl true (.inl ?_) (.inr rfl) rfl (by simp) ?_
    · clear hsame hsame2
      simp [ints]
      exact lt2 (by simp [geti]) (by simp [geti])
    simp
    refine answers_of rfl ?_
    simp
end Go.Qg

namespace Go.Qg
open Go.Proofs
set_option maxRecDepth 100000
set_option maxHeartbeats 32000000
set_option linter.unusedSimpArgs false
attribute [local irreducible] pwp pops pdraw pop popCall pdCall thenP blockP scopeP pspec Spec answers ppost CallW rend
theorem rin_spec (n lo hi : Int) : Spec Tryd.prog 36 [.v (.int .i64 n), .v (.int .i64 lo), .v (.int .i64 hi)] (.v (.bool (inB n lo hi))) := by
  refine spec_of mixed Tryd.func36 (by decide) rfl Tryd.results36 Tryd.ntmps36 (by decide) 0 (by simp) ?_
  by_cases h1 : lo ≤ n
  · by_cases h2 : n ≤ hi <;> (simp [h1, h2]; refine answers_of rfl ?_; simp [inB, h1, h2])
  · simp [h1]; refine answers_of rfl ?_; simp [inB, h1]
theorem rSpan_spec (s : Spn) (lo hi : Int) : Spec Tryd.prog 22 [.agg s.cells, .v (.int .i64 lo), .v (.int .i64 hi)] (.v (.bool (spanB s lo hi))) := by
  refine spec_of mixed Tryd.func22 (by decide) rfl Tryd.results22 Tryd.ntmps22 (by decide) 0 (by simp) ?_
  simp [Spn.cells]
  refine pop_spec (rin_spec s.low lo s.high) rfl false (.inl (by simp)) (.inl rfl) rfl (by simp) ?_
  cases h1 : inB s.low lo s.high with
  | false =>
    simp
    refine answers_of rfl ?_
    have : ¬ (lo ≤ s.low ∧ s.low ≤ s.high) := fun h => by rw [inB_spec.2 h] at h1; cases h1
    simp [spanB]
    intro a b
    exact (this ⟨a, b⟩).elim
  | true =>
    have h := inB_spec.1 h1
    by_cases h2 : s.high ≤ hi
    · simp [h2]
      refine answers_of rfl ?_; simp [spanB, h, h2]
    · simp [h2]
      refine answers_of rfl ?_; simp [spanB, h2]
theorem rstation_spec (s : Stn) : Spec Tryd.prog 37 [.agg s.cells] (.v (.bool (stnB s))) := by
  refine spec_of mixed Tryd.func37 (by decide) rfl Tryd.results37 Tryd.ntmps37 (by decide) 0 (by simp) ?_
  simp [Stn.cells]
  refine pop_spec (rin_spec s.arm (-1000) 1000) rfl false (.inl (by simp)) (.inl rfl) rfl (by simp) ?_
  cases h1 : inB s.arm (-1000) 1000 with
  | false => simp; refine answers_of rfl ?_; simp [stnB, h1]
  | true =>
    simp
    refine pop_spec (rin_spec s.most 0 20000) rfl false (.inl (by simp)) (.inl rfl) rfl (by simp) ?_
    simp
    refine answers_of rfl ?_; simp [stnB, h1]
theorem rcorner_spec (P : Pln) (i : Nat) (hn : 0 < P.corners.length) : Spec Tryd.prog 57 [.agg P.cells, .v (.int .i64 i)] (.agg (cnrAt P.corners (i % P.corners.length)).cells) := by
  have hne : ¬ P.corners = [] := fun e => by rw [e] at hn; cases hn
  obtain ⟨j, hj⟩ : ∃ j : Nat, j = i % P.corners.length := ⟨_, rfl⟩
  have hjl : j < P.corners.length := hj ▸ Nat.mod_lt _ hn
  have hji : (i : Int).tmod (P.corners.length : Int) = (j : Int) := by rw [hj]; rfl
  rw [← hj]
  refine spec_of mixed Tryd.func57 (by decide) rfl Tryd.results57 Tryd.ntmps57 (by decide) 0 (by simp) ?_
  simp [Pln.cells, cnrL, stnL]
  refine pwp_draw 9 (by decide) ?_
  simp [hne, hji, hjl, Cnr.cells]
  refine ⟨by decide, ?_⟩
  refine answers_of (x := .agg (cnrAt P.corners j).cells) (by simp [Cnr.cells]) ?_
  simp [Cnr.cells]
theorem rSide_spec (P : Pln) (e : Nat) (w m : Int) (hc : CnrsOk P) (he : e < P.corners.length) (hn : P.corners.length ≤ 1000000) (hw : Small 4000000 w) (hm : Small 4000000000 m) :
    Spec Tryd.prog 38 [.agg P.cells, .v (.int .i64 e), .v (.int .i64 w), .v (.int .i64 m)] (.v (.int .i64 (P.side e w m))) := by
  obtain ⟨s1, s2, s3, s4⟩ := edg_small hc he
  have h1 : Small 4020000000 (m - (P.cA e).moment) := ⟨by have := hm.1; have := s2.2; omega, by have := hm.2; have := s2.1; omega⟩
  have h2 : Small 4020000 (w - (P.cA e).weight) := ⟨by have := hw.1; have := s1.2; omega, by have := hw.2; have := s1.1; omega⟩
  have h3 := mul_small s3 h1 (by omega) (by omega)
  have h4 := mul_small s4 h2 (by omega) (by omega)
  have c1 := rcorner_spec P e (by omega)
  have c2 := rcorner_spec P (e + 1) (by omega)
  rw [Nat.mod_eq_of_lt he] at c1
  have we := i64_wrap (show -9223372036854775808 ≤ (e : Int) + 1 ∧ _ from by omega)
  have hpc : ((e + 1 : Nat) : Int) = (e : Int) + 1 := by omega
  rw [hpc] at c2
  simp only [Small, Pln.dw, Pln.dm, Pln.cA, Pln.cB] at h1 h2 h3 h4 s1 s2 s3 s4
  simp only [Cnr.cells] at c1 c2
  simp only [Pln.side, Pln.dw, Pln.dm, Pln.cA, Pln.cB]
  generalize cnrAt P.corners e = A at *
  generalize cnrAt P.corners ((e + 1) % P.corners.length) = B at *
  refine spec_of mixed Tryd.func38 (by decide) rfl Tryd.results38 Tryd.ntmps38 (by decide) 0 (by simp) ?_
  simp [Pln.cells, cnrL, stnL]
  refine pwp_draw 9 (by decide) ?_
  simp
  refine pd_spec c1 (by simp [Pln.cells, cnrL, stnL]) (by simp) (by simp [Pln.cells, cnrL, stnL]) rfl ?_
  simp [we]
  refine pd_spec c2 (by simp [Pln.cells, cnrL, stnL]) (by simp) (by simp [Pln.cells, cnrL, stnL]) rfl ?_
  simp
  refine ⟨by decide, ?_⟩
  refine answers_of rfl ?_
  simp [i64_wrap (show -9223372036854775808 ≤ B.weight - A.weight ∧ _ from by omega), i64_wrap (show -9223372036854775808 ≤ m - A.moment ∧ _ from by omega), i64_wrap (show -9223372036854775808 ≤ (B.weight - A.weight) * (m - A.moment) ∧ _ from by omega), i64_wrap (show -9223372036854775808 ≤ B.moment - A.moment ∧ _ from by omega), i64_wrap (show -9223372036854775808 ≤ w - A.weight ∧ _ from by omega), i64_wrap (show -9223372036854775808 ≤ (B.moment - A.moment) * (w - A.weight) ∧ _ from by omega), i64_wrap (show -9223372036854775808 ≤ (B.weight - A.weight) * (m - A.moment) - (B.moment - A.moment) * (w - A.weight) ∧ _ from by omega)]
def rcornB (P : Pln) : Bool := inB P.empty 1 20000 && inB P.moment (-20000000) 20000000 && inB P.takeoff 0 20000 && inB P.landing 0 20000 && inB P.reserve 0 20000 && inB P.corners.length 3 12 && decide (P.stations.length ≤ 8) && stnB P.tank && decide (P.floats.length ≤ 2)
theorem valid_r (P : Pln) : validB P = (rcornB P && stnsB P.stations && stnsB P.floats && cornersB P && convexB P) := by
  rw [Bool.eq_iff_iff]
  simp only [validB, rcornB, kilosB_three, Bool.and_eq_true]
  constructor
  · rintro ⟨⟨⟨⟨⟨⟨⟨⟨⟨⟨h1, h2⟩, ⟨h3, h4⟩, h5⟩, h6⟩, h7⟩, h8⟩, h9⟩, h10⟩, h11⟩, h12⟩, h13⟩
    exact ⟨⟨⟨⟨⟨⟨⟨⟨⟨⟨⟨⟨h1, h2⟩, h3⟩, h4⟩, h5⟩, h6⟩, h7⟩, h11⟩, h8⟩, h10⟩, h12⟩, h9⟩, h13⟩
  · rintro ⟨⟨⟨⟨⟨⟨⟨⟨⟨⟨⟨⟨h1, h2⟩, h3⟩, h4⟩, h5⟩, h6⟩, h7⟩, h11⟩, h8⟩, h10⟩, h12⟩, h9⟩, h13⟩
    exact ⟨⟨⟨⟨⟨⟨⟨⟨⟨⟨h1, h2⟩, ⟨h3, h4⟩, h5⟩, h6⟩, h7⟩, h8⟩, h9⟩, h10⟩, h11⟩, h12⟩, h13⟩
theorem rPlane_spec (P : Pln) (hl : PlnLen P) : Spec Tryd.prog 17 [.agg P.cells] (.v (.bool (validB P))) := by
  have l1 := hl.c
  have l2 := hl.s
  have l3 := hl.f
  rw [valid_r]
  refine spec_of mixed Tryd.func17 (by decide) rfl Tryd.results17 Tryd.ntmps17 (by decide) 0 (by simp) ?_
  simp [Pln.cells, cnrL, stnL]
  refine pop_spec (rin_spec P.empty 1 20000) rfl false (.inl (by simp)) (.inl rfl) rfl (by simp) ?_
  cases h1 : inB P.empty 1 20000 with
  | false => simp; refine answers_of rfl ?_; simp [rcornB, h1]
  | true =>
  simp
  refine pop_spec (rin_spec P.moment (-20000000) 20000000) rfl false (.inl (by simp)) (.inl rfl) rfl (by simp) ?_
  cases h2 : inB P.moment (-20000000) 20000000 with
  | false => simp; refine answers_of rfl ?_; simp [rcornB, h2]
  | true =>
  simp
  refine pop_spec (rin_spec P.takeoff 0 20000) rfl false (.inl (by simp)) (.inl rfl) rfl (by simp) ?_
  cases h3 : inB P.takeoff 0 20000 with
  | false => simp; refine answers_of rfl ?_; simp [rcornB, h3]
  | true =>
  simp
  refine pop_spec (rin_spec P.landing 0 20000) rfl false (.inl (by simp)) (.inl rfl) rfl (by simp) ?_
  cases h4 : inB P.landing 0 20000 with
  | false => simp; refine answers_of rfl ?_; simp [rcornB, h4]
  | true =>
  simp
  refine pop_spec (rin_spec P.reserve 0 20000) rfl false (.inl (by simp)) (.inl rfl) rfl (by simp) ?_
  cases h5 : inB P.reserve 0 20000 with
  | false => simp; refine answers_of rfl ?_; simp [rcornB, h5]
  | true =>
  simp
  refine pop_spec (rin_spec P.corners.length 3 12) rfl false (.inl (by simp)) (.inl rfl) rfl (by simp) ?_
  cases h6 : inB P.corners.length 3 12 with
  | false => simp; refine answers_of rfl ?_; simp [rcornB, h6]
  | true =>
  have h6' := inB_spec.1 h6
  by_cases h7 : P.stations.length ≤ 8
  case neg => simp [show (8 : Int) < P.stations.length from by omega]; refine answers_of rfl ?_; simp [rcornB, h7]
  simp [show ¬ (8 : Int) < P.stations.length from by omega]
  refine pop_spec (rstation_spec P.tank) rfl false (.inl (by simp [Stn.cells])) (.inl rfl) rfl (by simp) ?_
  cases h8 : stnB P.tank with
  | false => simp; refine answers_of rfl ?_; simp [rcornB, h8]
  | true =>
  by_cases h9 : P.floats.length ≤ 2
  case neg => simp [show (2 : Int) < P.floats.length from by omega]; refine answers_of rfl ?_; simp [rcornB, h9]
  have hr : rcornB P = true := by simp [rcornB, h1, h2, h3, h4, h5, h6, h7, h8, h9]
  rw [hr, Bool.true_and]
  simp [show ¬ (2 : Int) < P.floats.length from by omega]
  refine pwp_loop (fun k : Nat => [(3, .v (.int .i64 k))]) (fun k => k ≤ P.stations.length ∧ ∀ j, j < k → stnB (stnAt P.stations j) = true) (fun k => P.stations.length - k) 0 ⟨Nat.zero_le _, fun j h => by omega⟩ (by simp; rfl) (by simp) ?_
  intro k ⟨hk, hq⟩
  by_cases hkl : k < P.stations.length
  · have wk := i64_wrap (show -9223372036854775808 ≤ (k : Int) + 1 ∧ _ from by omega)
    simp [hkl, Stn.cells]
    refine pop_spec (rstation_spec (stnAt P.stations k)) rfl false (.inl (by simp [Stn.cells])) (.inl rfl) rfl (by simp) ?_
    cases hb : stnB (stnAt P.stations k) with
    | false =>
      have hz : stnsB P.stations = false := allN_false (p := fun k => stnB (stnAt P.stations k)) hkl hb
      simp; refine answers_of rfl ?_; simp [hz]
    | true =>
      simp
      refine again_of (k + 1) ⟨by omega, fun j hj => ?_⟩ (by omega) ?_
      · rcases Nat.lt_or_eq_of_le (Nat.le_of_lt_succ hj) with h' | rfl
        · exact hq j h'
        · exact hb
      · simp [wk]
  obtain rfl : k = P.stations.length := by omega
  have hS : stnsB P.stations = true := allN_spec.2 hq
  rw [hS, Bool.true_and]
  clear hq hk hkl
  simp
  refine pwp_loop (fun k : Nat => [(4, .v (.int .i64 k))]) (fun k => k ≤ P.floats.length ∧ ∀ j, j < k → stnB (stnAt P.floats j) = true) (fun k => P.floats.length - k) 0 ⟨Nat.zero_le _, fun j h => by omega⟩ (by simp; rfl) (by simp) ?_
  intro k ⟨hk, hq⟩
  by_cases hkl : k < P.floats.length
  · have wk := i64_wrap (show -9223372036854775808 ≤ (k : Int) + 1 ∧ _ from by omega)
    simp [hkl, Stn.cells]
    refine pop_spec (rstation_spec (stnAt P.floats k)) rfl false (.inl (by simp [Stn.cells])) (.inl rfl) rfl (by simp) ?_
    cases hb : stnB (stnAt P.floats k) with
    | false =>
      have hz : stnsB P.floats = false := allN_false (p := fun k => stnB (stnAt P.floats k)) hkl hb
      simp; refine answers_of rfl ?_; simp [hz]
    | true =>
      simp
      refine again_of (k + 1) ⟨by omega, fun j hj => ?_⟩ (by omega) ?_
      · rcases Nat.lt_or_eq_of_le (Nat.le_of_lt_succ hj) with h' | rfl
        · exact hq j h'
        · exact hb
      · simp [wk]
  obtain rfl : k = P.floats.length := by omega
  have hF : stnsB P.floats = true := allN_spec.2 hq
  rw [hF, Bool.true_and]
  clear hq hk hkl
  simp
  refine pwp_loop (fun k : Nat => [(5, .v (.int .i64 k))]) (fun k => k ≤ P.corners.length ∧ ∀ j, j < k → cnrB (cnrAt P.corners j) = true) (fun k => P.corners.length - k) 0 ⟨Nat.zero_le _, fun j h => by omega⟩ (by simp; rfl) (by simp) ?_
  intro k ⟨hk, hq⟩
  by_cases hkl : k < P.corners.length
  · have wk := i64_wrap (show -9223372036854775808 ≤ (k : Int) + 1 ∧ _ from by omega)
    have hsplit : cnrB (cnrAt P.corners k) = (inB (cnrAt P.corners k).weight 0 20000 && inB (cnrAt P.corners k).moment (-20000000) 20000000) := rfl
    simp [hkl, Cnr.cells]
    refine pop_spec (rin_spec (cnrAt P.corners k).weight 0 20000) rfl false (.inl (by simp)) (.inl rfl) rfl (by simp) ?_
    cases hb : inB (cnrAt P.corners k).weight 0 20000 with
    | false =>
      have hz : cornersB P = false := allN_false (p := fun k => cnrB (cnrAt P.corners k)) hkl (by simp only [hsplit, hb]; rfl)
      simp; refine answers_of rfl ?_; simp [hz]
    | true =>
      simp [hkl]
      refine pop_spec (rin_spec (cnrAt P.corners k).moment (-20000000) 20000000) rfl false (.inl (by simp)) (.inl rfl) rfl (by simp) ?_
      cases hb2 : inB (cnrAt P.corners k).moment (-20000000) 20000000 with
      | false =>
        have hz : cornersB P = false := allN_false (p := fun k => cnrB (cnrAt P.corners k)) hkl (by simp only [hsplit, hb, hb2]; rfl)
        simp; refine answers_of rfl ?_; simp [hz]
      | true =>
        simp
        refine again_of (k + 1) ⟨by omega, fun j hj => ?_⟩ (by omega) ?_
        · rcases Nat.lt_or_eq_of_le (Nat.le_of_lt_succ hj) with h' | rfl
          · exact hq j h'
          · rw [hsplit, hb, hb2]; rfl
        · simp [wk]
  obtain rfl : k = P.corners.length := by omega
  have hC : cornersB P = true := allN_spec.2 hq
  have hcor := corners_ok hC
  rw [hC, Bool.true_and]
  clear hq hk hkl
  have hne : ¬ P.corners = [] := fun e => by rw [e] at h6'; simp at h6'
  simp
  refine pwp_loop (fun k : Nat => [(6, .v (.int .i64 k))]) (fun k => k ≤ P.corners.length ∧ ∀ j, j < k → cvxR P j = true) (fun k => P.corners.length - k) 0 ⟨Nat.zero_le _, fun j h => by omega⟩ (by simp; rfl) (by simp) ?_
  intro e ⟨he, hq⟩
  by_cases hel : e < P.corners.length
  · have we := i64_wrap (show -9223372036854775808 ≤ (e : Int) + 1 ∧ _ from by omega)
    obtain ⟨j, hj⟩ : ∃ j : Nat, j = (e + 1) % P.corners.length := ⟨_, rfl⟩
    have hji : ((e : Int) + 1).tmod (P.corners.length : Int) = (j : Int) := by rw [hj]; rfl
    simp [hel]
    refine pwp_loop (fun k : Nat => [(7, .v (.int .i64 k))]) (fun k => k ≤ P.corners.length ∧ ∀ i, i < k → cvxB P e i = true) (fun k => P.corners.length - k) 0 ⟨Nat.zero_le _, fun i h => by omega⟩ (by simp; rfl) (by simp) ?_
    intro k ⟨hk, hp⟩
    by_cases hkl : k < P.corners.length
    · have wk := i64_wrap (show -9223372036854775808 ≤ (k : Int) + 1 ∧ _ from by omega)
      have go : cvxB P e k = true → ∀ i, i < k + 1 → cvxB P e i = true := fun hb i hi => by
        rcases Nat.lt_or_eq_of_le (Nat.le_of_lt_succ hi) with h' | rfl
        · exact hp i h'
        · exact hb
      simp [hkl]
      refine pwp_draw 31 (by decide) ?_
      by_cases c1 : k = e
      · subst c1
        simp (config := { maxSteps := 4000000 })
        refine ⟨by decide +kernel, ?_⟩
        refine again_of (k + 1) ⟨by omega, go (by simp [cvxB])⟩ (by omega) ?_
        simp [wk]
      have d1 : ¬ (k : Int) = e := by omega
      by_cases c2 : k = j
      · subst c2
        simp (config := { maxSteps := 4000000 }) [c1, d1, we, hne, hji]
        refine ⟨by decide +kernel, ?_⟩
        refine again_of (k + 1) ⟨by omega, go (by simp [cvxB, ← hj])⟩ (by omega) ?_
        simp [wk]
      have d2 : ¬ (k : Int) = j := by omega
      have hck := hcor k hkl
      have hside := rSide_spec P e (cnrAt P.corners k).weight (cnrAt P.corners k).moment hcor hel (by omega) (by simp only [Small]; omega) (by simp only [Small]; omega)
      simp (config := { maxSteps := 4000000 }) [c1, d1, we, hne, hji, c2, d2, hkl, Cnr.cells]
      refine pd_spec hside (by simp [Pln.cells, cnrL, stnL, Cnr.cells]) (by simp) (by simp [Pln.cells, cnrL, stnL, Cnr.cells]) rfl ?_
      by_cases c3 : P.side e (cnrAt P.corners k).weight (cnrAt P.corners k).moment ≤ 0
      · have hb : cvxB P e k = false := by simp [cvxB, c1, ← hj, c2, c3]
        simp (config := { maxSteps := 4000000 }) [c3, d1, d2]
        refine ⟨by decide +kernel, ?_⟩
        refine answers_of rfl ?_
        simp [convexB, allN_false hel (show cvxR P e = false from allN_false hkl hb)]
      · simp (config := { maxSteps := 4000000 }) [c3, d1, d2]
        refine ⟨by decide +kernel, ?_⟩
        refine again_of (k + 1) ⟨by omega, go (by simp [cvxB, Int.not_le.1 c3])⟩ (by omega) ?_
        simp [wk]
    · obtain rfl : k = P.corners.length := by omega
      simp
      refine again_of (e + 1) ⟨by omega, fun i hi => ?_⟩ (by omega) ?_
      · rcases Nat.lt_or_eq_of_le (Nat.le_of_lt_succ hi) with h' | rfl
        · exact hq i h'
        · exact allN_spec.2 hp
      · simp [we]
  · obtain rfl : e = P.corners.length := by omega
    simp
    refine answers_of rfl ?_
    simp [convexB, allN_spec.2 hq]
end Go.Qg

namespace Go.Qg
open Go.Proofs
set_option maxRecDepth 100000
set_option linter.unusedSimpArgs false
set_option maxHeartbeats 16000000
attribute [local irreducible] pwp pops pdraw pop popCall pdCall thenP blockP scopeP pspec Spec answers ppost CallW rend
def shortB' (P : Pln) : Bool := decide (P.corners.length ≤ 20) && decide (P.stations.length ≤ 20) && decide (P.floats.length ≤ 10)
theorem lshort_spec (P : Pln) : Spec Tryd.prog 8 [.agg P.cells] (.v (.bool (shortB' P))) := by
  refine spec_of mixed Tryd.func8 (by decide) rfl Tryd.results8 Tryd.ntmps8 (by decide) 0 (by simp) ?_
  simp [Pln.cells, cnrL, stnL]
  by_cases h1 : P.corners.length ≤ 20
  case neg =>
    simp [show ¬ (P.corners.length : Int) ≤ 20 from by omega, show (20 : Int) < P.corners.length from by omega]
    refine answers_of rfl ?_; simp [shortB', h1]
  by_cases h2 : P.stations.length ≤ 20
  case neg =>
    simp [show (P.corners.length : Int) ≤ 20 from by omega, show ¬ (P.stations.length : Int) ≤ 20 from by omega, show (20 : Int) < P.stations.length from by omega]
    refine answers_of rfl ?_; simp [shortB', h1, h2]
  by_cases h3 : P.floats.length ≤ 10
  case neg =>
    simp [show (P.corners.length : Int) ≤ 20 from by omega, show (P.stations.length : Int) ≤ 20 from by omega, show ¬ (P.floats.length : Int) ≤ 10 from by omega, show (10 : Int) < P.floats.length from by omega]
    refine answers_of rfl ?_; simp [shortB', h1, h2, h3]
  simp [show (P.corners.length : Int) ≤ 20 from by omega, show (P.stations.length : Int) ≤ 20 from by omega, show (P.floats.length : Int) ≤ 10 from by omega]
  refine answers_of rfl ?_; simp [shortB', h1, h2, h3]
def fewB (legs : List Leg) : Bool := (allN legs.length fun k => decide ((legAt legs k).items.length ≤ 20)) && decide (legs.length ≤ 12)
theorem lfew_spec (legs : List Leg) (hl : legs.length ≤ 9223372036854775807) : Spec Tryd.prog 9 [legL legs] (.v (.bool (fewB legs))) := by
  refine spec_of mixed Tryd.func9 (by decide) rfl Tryd.results9 Tryd.ntmps9 (by decide) 0 (by simp) ?_
  simp [legL]
  refine pwp_loop (fun k : Nat => [(3, .v (.int .i64 k))]) (fun k => k ≤ legs.length ∧ ∀ j, j < k → (legAt legs j).items.length ≤ 20) (fun k => legs.length - k) 0 ⟨Nat.zero_le _, fun j h => by omega⟩ (by simp; rfl) (by simp) ?_
  intro k ⟨hk, hq⟩
  by_cases hkl : k < legs.length
  · have wk := i64_wrap (show -9223372036854775808 ≤ (k : Int) + 1 ∧ _ from by omega)
    by_cases h : 20 < (legAt legs k).items.length
    · simp [hkl, Leg.cells, itmL, show (20 : Int) < (legAt legs k).items.length from by omega]
      refine answers_of rfl ?_
      have : (allN legs.length fun k => decide ((legAt legs k).items.length ≤ 20)) = false := allN_false hkl (by simp; omega)
      simp [fewB, this]
    · simp [hkl, Leg.cells, itmL, show ¬ (20 : Int) < (legAt legs k).items.length from by omega]
      refine again_of (k + 1) ⟨by omega, fun j hj => ?_⟩ (by omega) ?_
      · rcases Nat.lt_or_eq_of_le (Nat.le_of_lt_succ hj) with h' | rfl
        · exact hq j h'
        · omega
      · simp [wk]
  · obtain rfl : k = legs.length := by omega
    simp
    have : (allN legs.length fun k => decide ((legAt legs k).items.length ≤ 20)) = true := allN_spec.2 fun j hj => by simpa using hq j hj
    by_cases h : legs.length ≤ 12
    · simp [show (legs.length : Int) ≤ 12 from by omega]
      refine answers_of rfl ?_; simp [fewB, this, h]
    · simp [show ¬ (legs.length : Int) ≤ 12 from by omega]
      refine answers_of rfl ?_; simp [fewB, this, h]
theorem ritems_spec (l : List Itm) (ns : Int) (hl : l.length ≤ 9223372036854775807) (hns : 0 ≤ ns ∧ ns ≤ 9223372036854775807) : Spec Tryd.prog 42 [itmL l, .v (.int .i64 ns)] (.v (.bool (itemsB l ns))) := by
  have wn := i64_wrap (show -9223372036854775808 ≤ ns - 1 ∧ _ from by omega)
  refine spec_of mixed Tryd.func42 (by decide) rfl Tryd.results42 Tryd.ntmps42 (by decide) 0 (by simp) ?_
  simp [itmL]
  refine pwp_loop (fun k : Nat => [(5, .v (.int .i64 k))]) (fun k => k ≤ l.length ∧ ∀ j, j < k → itmB ns (itmAt l j) = true) (fun k => l.length - k) 0 ⟨Nat.zero_le _, fun j h => by omega⟩ (by simp; rfl) (by simp) ?_
  intro k ⟨hk, hq⟩
  by_cases hkl : k < l.length
  · have wk := i64_wrap (show -9223372036854775808 ≤ (k : Int) + 1 ∧ _ from by omega)
    simp [hkl, Itm.cells, wn]
    refine pop_spec (rin_spec (itmAt l k).station 0 (ns - 1)) rfl false (.inl (by simp)) (.inl rfl) rfl (by simp) ?_
    cases h1 : inB (itmAt l k).station 0 (ns - 1) with
    | false =>
      simp
      refine answers_of rfl ?_
      have : (allN l.length fun k => itmB ns (itmAt l k)) = false := allN_false hkl (by simp [itmB, h1])
      simp [itemsB, this]
    | true =>
      simp [hkl]
      refine pop_spec (rSpan_spec ⟨(itmAt l k).low, (itmAt l k).high⟩ 0 20000) rfl false (.inl (by simp [Spn.cells])) (.inl rfl) rfl (by simp) ?_
      cases h2 : spanB ⟨(itmAt l k).low, (itmAt l k).high⟩ 0 20000 with
      | false =>
        simp
        refine answers_of rfl ?_
        have : (allN l.length fun k => itmB ns (itmAt l k)) = false := allN_false hkl (by simp [itmB, h1, h2])
        simp [itemsB, this]
      | true =>
        simp
        refine again_of (k + 1) ⟨by omega, fun j hj => ?_⟩ (by omega) ?_
        · rcases Nat.lt_or_eq_of_le (Nat.le_of_lt_succ hj) with h' | rfl
          · exact hq j h'
          · simp [itmB, h1, h2]
        · simp [wk]
  · obtain rfl : k = l.length := by omega
    have : (allN l.length fun k => itmB ns (itmAt l k)) = true := allN_spec.2 hq
    by_cases h : l.length ≤ 12
    · simp [show (l.length : Int) ≤ 12 from by omega]
      refine answers_of rfl ?_; simp [itemsB, this, h]
    · simp [show ¬ (l.length : Int) ≤ 12 from by omega]
      refine answers_of rfl ?_; simp [itemsB, this, h]
def legsB (legs : List Leg) (ns : Int) : Bool := (allN legs.length fun k => legB ns (legAt legs k)) && decide (1 ≤ legs.length)
theorem rLegs_spec (legs : List Leg) (ns : Int) (hl : LegsLen legs) (hns : 0 ≤ ns ∧ ns ≤ 9223372036854775807) : Spec Tryd.prog 23 [legL legs, .v (.int .i64 ns)] (.v (.bool (legsB legs ns))) := by
  have hl0 := hl.n
  refine spec_of mixed Tryd.func23 (by decide) rfl Tryd.results23 Tryd.ntmps23 (by decide) 0 (by simp) ?_
  simp [legL]
  refine pwp_loop (fun k : Nat => [(5, .v (.int .i64 k))]) (fun k => k ≤ legs.length ∧ ∀ j, j < k → legB ns (legAt legs j) = true) (fun k => legs.length - k) 0 ⟨Nat.zero_le _, fun j h => by omega⟩ (by simp; rfl) (by simp) ?_
  intro k ⟨hk, hq⟩
  by_cases hkl : k < legs.length
  · have wk := i64_wrap (show -9223372036854775808 ≤ (k : Int) + 1 ∧ _ from by omega)
    have go : legB ns (legAt legs k) = false → legsB legs ns = false := fun h => by
      have : (allN legs.length fun k => legB ns (legAt legs k)) = false := allN_false hkl h
      simp [legsB, this]
    simp [hkl, Leg.cells, itmL]
    refine pop_spec (ritems_spec (legAt legs k).items ns (hl.i k hkl) hns) rfl false (.inl (by simp [itmL])) (.inl rfl) rfl (by simp) ?_
    cases h1 : itemsB (legAt legs k).items ns with
    | false =>
      simp
      refine answers_of rfl ?_; simp [go (by simp [legB, h1])]
    | true =>
      simp [hkl]
      refine pop_spec (rin_spec (legAt legs k).fuel 0 20000) rfl false (.inl (by simp)) (.inl rfl) rfl (by simp) ?_
      cases h2 : inB (legAt legs k).fuel 0 20000 with
      | false =>
        simp
        refine answers_of rfl ?_; simp [go (by simp [legB, h2])]
      | true =>
        simp [hkl]
        refine pop_spec (rSpan_spec (legAt legs k).burn 0 20000) rfl false (.inl (by simp [Spn.cells])) (.inl rfl) rfl (by simp) ?_
        cases h3 : spanB (legAt legs k).burn 0 20000 with
        | false =>
          simp
          refine answers_of rfl ?_; simp [go (by simp [legB, h3])]
        | true =>
          simp [hkl]
          refine pop_spec (rSpan_spec (legAt legs k).leak 0 20000) rfl false (.inl (by simp [Spn.cells])) (.inl rfl) rfl (by simp) ?_
          cases h4 : spanB (legAt legs k).leak 0 20000 with
          | false =>
            simp
            refine answers_of rfl ?_; simp [go (by simp [legB, h4])]
          | true =>
            simp
            refine again_of (k + 1) ⟨by omega, fun j hj => ?_⟩ (by omega) ?_
            · rcases Nat.lt_or_eq_of_le (Nat.le_of_lt_succ hj) with h' | rfl
              · exact hq j h'
              · simp [legB, h1, h2, h3, h4]
            · simp [wk]
  · obtain rfl : k = legs.length := by omega
    have : (allN legs.length fun k => legB ns (legAt legs k)) = true := allN_spec.2 hq
    by_cases h : 1 ≤ legs.length
    · simp [show (1 : Int) ≤ legs.length from by omega]
      refine answers_of rfl ?_; simp [legsB, this, h]
    · simp [show ¬ (1 : Int) ≤ legs.length from by omega]
      refine answers_of rfl ?_; simp [legsB, this, h]
theorem refused_eq (P : Pln) (fuel : Spn) (legs : List Leg) : trippedE P fuel legs = if 6 < legs.length then 3 else if validB P = true ∧ spanB fuel 0 20000 = true ∧ legsB legs P.stations.length = true then 0 else 2 := by
  unfold trippedE tripE legsB
  by_cases h1 : 6 < legs.length
  · simp [h1]
  · cases h2 : validB P <;> cases h3 : spanB fuel 0 20000 <;> cases h4 : (allN legs.length fun k => legB P.stations.length (legAt legs k)) <;> by_cases h5 : legs.length = 0 <;> simp [h1, h5, show 1 ≤ legs.length ↔ legs.length ≠ 0 from by omega]
theorem refused_spec (P : Pln) (fuel : Spn) (legs : List Leg) (hP : PlnLen P) (hl : LegsLen legs) : Spec Tryd.prog 10 [.agg P.cells, .agg fuel.cells, legL legs, .v (.bool true)] (.v (.int .i64 (trippedE P fuel legs))) := by
  have hs := hP.s
  rw [refused_eq]
  refine spec_of mixed Tryd.func10 (by decide) rfl Tryd.results10 Tryd.ntmps10 (by decide) 0 (by simp) ?_
  simp [Pln.cells, cnrL, stnL, Spn.cells, legL]
  by_cases h : 6 < legs.length
  · simp [show (6 : Int) < legs.length from by omega]
    refine answers_of rfl ?_; simp [h]
  simp [show ¬ (6 : Int) < legs.length from by omega, h]
  refine pop_spec (rPlane_spec P hP) rfl false (.inl (by simp [Pln.cells, cnrL, stnL])) (.inl rfl) rfl (by simp) ?_
  cases h1 : validB P with
  | false => simp; refine answers_of rfl ?_; simp
  | true =>
    simp
    refine pop_spec (rSpan_spec fuel 0 20000) rfl false (.inl (by simp [Spn.cells])) (.inl rfl) rfl (by simp) ?_
    cases h2 : spanB fuel 0 20000 with
    | false => simp; refine answers_of rfl ?_; simp
    | true =>
      simp
      refine pop_spec (rLegs_spec legs P.stations.length hl (by omega)) rfl false (.inl (by simp [legL])) (.inl rfl) rfl (by simp) ?_
      cases h3 : legsB legs P.stations.length with
      | false => simp; refine answers_of rfl ?_; simp
      | true => simp; refine answers_of rfl ?_; simp
def tripN (P : Pln) (fuel : Spn) (legs : List Leg) : Int := match tripP P fuel legs with | some j => (j : Int) | none => -1
def tripR (P : Pln) (fuel : Spn) (legs : List Leg) : Int × Int := match tripP P fuel legs with | some j => ((brokenP P (ptOf P fuel legs j)).1, (brokenP P (ptOf P fuel legs j)).2) | none => (1, 0)
theorem tripRes_ok {P : Pln} {fuel : Spn} {legs : List Leg} (h : trippedE P fuel legs = 0) : tripRes P fuel legs = .tup [.v (.int .i64 (tripN P fuel legs)), .v (.int .i64 (tripR P fuel legs).1), .v (.int .i64 (tripR P fuel legs).2), .v (.int .i64 0)] := by
  rw [tripRes, if_pos h, tripN, tripR]
  cases tripP P fuel legs <;> rfl
theorem tripN_neg {P : Pln} {fuel : Spn} {legs : List Leg} : tripN P fuel legs < 0 ↔ sureT P fuel legs := by
  rw [← trip_none, tripN]
  cases tripP P fuel legs with
  | none => simp
  | some j => simp
theorem tripN_ge (P : Pln) (fuel : Spn) (legs : List Leg) : -1 ≤ tripN P fuel legs := by
  unfold tripN
  split <;> omega
end Go.Qg
