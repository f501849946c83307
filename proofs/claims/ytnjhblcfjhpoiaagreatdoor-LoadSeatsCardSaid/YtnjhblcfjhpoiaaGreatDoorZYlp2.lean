/-
  Lemmas and contracts that hold of the whole program: 1 texts in one.
  No condition.
-/
import Derived.Test.YtnjhblcfjhpoiaaGreatDoorZYlp1
set_option linter.all false

namespace Go.Qg
open Go.Proofs
set_option maxRecDepth 100000
set_option linter.unusedSimpArgs false
set_option maxHeartbeats 64000000
attribute [local irreducible] pwp pops pdraw pop popCall pdCall thenP blockP scopeP pspec Spec answers ppost CallW rend
def seatV (ok : List Int → Bool) (S : Nat) : Nat → List Int → List Int × Bool
  | 0, b => (b, ok b)
  | m + 1, b => match seatR ok S (m + 1) b with
    | some l => (l, true)
    | none => ([], false)
theorem seatV_of {ok : List Int → Bool} {S m : Nat} {b : List Int} : (∃ l, seatR ok S m b = some l ∧ seatV ok S m b = (l, true)) ∨ (seatR ok S m b = none ∧ (seatV ok S m b).2 = false) := by
  cases m with
  | zero =>
    simp only [seatR, seatV]
    cases h : ok b with
    | true => exact .inl ⟨b, by simp, rfl⟩
    | false => exact .inr ⟨by simp, rfl⟩
  | succ m =>
    simp only [seatV]
    cases h : seatR ok S (m + 1) b with
    | some l => exact .inl ⟨l, rfl, rfl⟩
    | none => exact .inr ⟨rfl, rfl⟩
theorem seatV_len {P : Pln} {ws : List Spn} {tank : Spn} {water : List Spn} {landing : Bool} {m : Nat} {b : List Int} (h : b.length + m = ws.length) : (seatV (okS P ws tank water landing) P.stations.length m b).1.length ≤ ws.length := by
  cases m with
  | zero => simp [seatV]; omega
  | succ m =>
    simp only [seatV]
    cases hs : seatR (okS P ws tank water landing) P.stations.length (m + 1) b with
    | none => simp
    | some l =>
      obtain ⟨t, rfl, ht, _⟩ := seat_some hs
      simp; omega
theorem rseat_spec (P : Pln) (ws : List Spn) (tank : Spn) (water : List Spn) (landing : Bool) (hS : SeatOk P ws tank water) : ∀ (m : Nat) (b : List Int), b.length + m = ws.length → InSt P.stations.length b →
    Spec Tryz.prog 96 [.agg P.cells, spnL ws, .agg tank.cells, spnL water, .v (.bool landing), ints b] (.tup [ints (seatV (okS P ws tank water landing) P.stations.length m b).1, .v (.bool (seatV (okS P ws tank water landing) P.stations.length m b).2)]) := by
  intro m
  induction m with
  | zero =>
    intro b hn hin
    have hws := hS.n
    have hpt := seat_pnt hS landing (show b.length ≤ ws.length by omega) hin
    have hsd := rSeated_spec ws b tank water landing (by omega) (by omega)
    have hsu := rSure_spec P (seated ws tank water landing b) hS.plane hpt
    have hok : okS P ws tank water landing b = decide ((brokenP P (seated ws tank water landing b)).1 = 1) := rfl
    simp only [seatV, hok]
    generalize sureC P (seated ws tank water landing b) = C at *
    generalize (brokenP P (seated ws tank water landing b)).1 = r at *
    generalize (brokenP P (seated ws tank water landing b)).2 = i at *
    generalize seated ws tank water landing b = X at *
    simp only [Pnt.cells, itmL, spnL, Cse.cells, ints] at hsd hsu
    unfold Spec
    refine callW_ofE Tryz.func96 (by decide) rfl (congrArg Array.toList Tryz.results96) Tryz.ntmps96 63 (by simp) (by decide) fun B0 hB0 hD0 => ?_
    have hlo : ∀ s B, ECtx B0 s B → B.lo = 63 := fun _ _ h => h.1.trans hB0
    refine XW_pwp mixed hlo (by decide) ?_
    simp [Pln.cells, cnrL, stnL, Spn.cells, spnL, ints, show (b.length : Int) = ws.length from by omega]
    refine pwp_draw 16 (by decide) ?_
    simp
    refine pd_spec hsd (by simp [spnL, Spn.cells]) (by simp) (by simp [spnL, Spn.cells]) rfl ?_
    simp
    refine pd_spec hsu (by simp [Pln.cells, cnrL, stnL]) (by simp) (by simp [Pln.cells, cnrL, stnL]) rfl ?_
    simp
    refine ⟨by decide, ?_⟩
    refine ends_of (.tup [ints b, .v (.bool (decide (r = 1)))]) [] [] (x := .tup [ints b, .v (.bool ((r : Int) == 1))]) (by simp [ints]) (by decide) ?_ ?_ rfl
    · simp
    · simp [ints]
      by_cases hr : r = 1
      · simp [hr]
      · simp [hr]; omega
  | succ m ih =>
    intro b hn hin
    have hws := hS.n
    have hns := hS.plane.ns
    obtain ⟨F, hF⟩ : ∃ F : Nat → Option (List Int), F = fun s : Nat => seatR (okS P ws tank water landing) P.stations.length m (b ++ [(s : Int)]) := ⟨_, rfl⟩
    have hseat : seatR (okS P ws tank water landing) P.stations.length (m + 1) b = firstS F P.stations.length := by rw [hF]; rfl
    simp only [seatV, hseat]
    unfold Spec
    refine callW_ofE Tryz.func96 (by decide) rfl (congrArg Array.toList Tryz.results96) Tryz.ntmps96 63 (by simp) (by decide) fun B0 hB0 hD0 => ?_
    have hlo : ∀ s B, ECtx B0 s B → B.lo = 63 := fun _ _ h => h.1.trans hB0
    refine XW_seqP mixed hlo (by decide) ?_
    simp [Pln.cells, cnrL, stnL, Spn.cells, spnL, ints]
    refine XW_seqP mixed hlo (by decide) ?_
    simp [show ¬ (b.length : Int) = ws.length from by omega]
    refine XW_seqX (XW_seqP mixed hlo (by decide) ?_)
    simp
    refine XW_block ?_
    refine XW_loopV hlo (fun s : Nat => [(17, .v (.int .i64 s))]) (fun _ => ()) (fun s => s ≤ P.stations.length ∧ ∀ k, k < s → F k = none) (fun s => P.stations.length - s) 0 ⟨Nat.zero_le _, fun k h => by omega⟩ rfl (by simp; rfl) (by simp) ?_
    intro s ⟨hs, hno⟩
    by_cases hsl : s < P.stations.length
    · have wsn := i64_wrap (show -9223372036854775808 ≤ (s : Int) + 1 ∧ _ from by omega)
      have hin2 : InSt P.stations.length (b ++ [(s : Int)]) := fun x hx => by
        rcases List.mem_append.1 hx with h | h
        · exact hin x h
        · obtain rfl := List.mem_singleton.1 h; omega
      have hrec := ih (b ++ [(s : Int)]) (by simp; omega) hin2
      have hFs : F s = seatR (okS P ws tank water landing) P.stations.length m (b ++ [(s : Int)]) := by rw [hF]
      have hvl := seatV_of (ok := okS P ws tank water landing) (S := P.stations.length) (m := m) (b := b ++ [(s : Int)])
      generalize seatV (okS P ws tank water landing) P.stations.length m (b ++ [(s : Int)]) = V at *
      obtain ⟨v1, v2⟩ := V
      have er := rowsI_rangeG b (s : Int)
      refine XW_seqP mixed hlo (by decide) ?_
      simp [hsl]
      refine XW_seqX (XW_block ?_)
      refine XW_seqX (XW_drawS mixed hlo (by decide) 10 (by decide) ?_)
      simp [er, show List.take b.length ((List.range b.length).map fun i => [PV.v (.int .i64 (geti b i))]) = (List.range b.length).map fun i => [PV.v (.int .i64 (geti b i))] from List.take_of_length_le (by simp), show b.length * 8 ≤ 140737488355328 from by omega, show b.length ≤ maxLen from by simp [maxLen]; omega, show (b.length + 1) * 8 ≤ 140737488355328 from by omega, show b.length + 1 ≤ maxLen from by simp [maxLen]; omega]
      refine ⟨by decide +kernel, fun fuel hf => ?_⟩
      obtain ⟨f, rfl⟩ : ∃ f, fuel = f + 1 + 1 + 1 + 1 + 1 + 1 := ⟨fuel - 6, by omega⟩
      refine panyS_one 10 (by decide +kernel) ⟨_, rfl, ?_⟩
      simp
      refine pop_specF [(54, .undef), (56, .undef), (57, ints (b ++ [(s : Int)]))] ?_ hrec rfl false (.inl ?_) (.inl rfl) rfl (by simp [ints]) ?_
      · simp [ints]
        intro q hq
        rw [rowsI_get (by simpa using hq)]
        simp
      · simp [Pln.cells, cnrL, stnL, Spn.cells, spnL, ints]
      simp [ints]
      repeat' first
        | (refine panyS_one 11 (by decide +kernel) ⟨_, rfl, ?_⟩; simp)
        | (refine panyS_two 12 13 (by decide +kernel) ⟨_, rfl, ?_⟩ ⟨_, rfl, ?_⟩ <;> simp)
        | (refine panyS_two 13 14 (by decide +kernel) ⟨_, rfl, ?_⟩ ⟨_, rfl, ?_⟩ <;> simp)
        | (refine panyS_two 12 15 (by decide +kernel) ⟨_, rfl, ?_⟩ ⟨_, rfl, ?_⟩ <;> simp)
        | (refine panyS_two 14 15 (by decide +kernel) ⟨_, rfl, ?_⟩ ⟨_, rfl, ?_⟩ <;> simp)
        | (refine panyS_one 12 (by decide +kernel) ⟨_, rfl, ?_⟩; simp)
        | (refine panyS_one 13 (by decide +kernel) ⟨_, rfl, ?_⟩; simp)
        | (refine panyS_one 14 (by decide +kernel) ⟨_, rfl, ?_⟩; simp)
        | (refine panyS_one 15 (by decide +kernel) ⟨_, rfl, ?_⟩; simp)
        | (refine panyS_end (by decide +kernel) ?_ f; simp)
      all_goals
        refine XW_pwp mixed hlo (by decide) ?_
        rcases hvl with ⟨l, h1, h2⟩ | ⟨h1, h2⟩
        · obtain ⟨rfl, rfl⟩ := Prod.mk.inj h2
          have hsome : firstS F P.stations.length = some v1 := firstS_some.2 ⟨s, hsl, by rw [hFs, h1], hno⟩
          simp only [hsome]
          simp
          refine ends_of (.tup [ints v1, .v (.bool true)]) [] [] (x := .tup [ints v1, .v (.bool true)]) (by simp [ints]) (by decide) ?_ ?_ rfl
          · simp
          · simp [ints]
        · simp only at h2
          subst h2
          simp
          refine XW_pwp mixed hlo (by decide) ?_
          simp
          refine againX_of (s + 1) ⟨by omega, fun k hk => ?_⟩ (by omega) rfl ?_
          · rcases Nat.lt_or_eq_of_le (Nat.le_of_lt_succ hk) with h' | rfl
            · exact hno k h'
            · rw [hFs, h1]
          · simp [wsn]
    · obtain rfl : s = P.stations.length := by omega
      have hnone := firstS_none.2 hno
      rw [hnone]
      refine XW_seqP mixed hlo (by decide) ?_
      simp
      refine XW_pwp mixed hlo (by decide) ?_
      simp
      refine ends_of (.tup [ints [], .v (.bool false)]) [] [] (x := .tup [.nil, .v (.bool false)]) (by simp) (by decide) ?_ ?_ rfl
      · simp
      · simp [ints]
theorem rSeat_spec (P : Pln) (ws : List Spn) (tank : Spn) (water : List Spn) (landing : Bool) (hS : SeatOk P ws tank water) : Spec Tryz.prog 48 [.agg P.cells, spnL ws, .agg tank.cells, spnL water, .v (.bool landing)]
    (.tup [ints (seatV (okS P ws tank water landing) P.stations.length ws.length []).1, .v (.bool (seatV (okS P ws tank water landing) P.stations.length ws.length []).2)]) := by
  have h := rseat_spec P ws tank water landing hS ws.length [] (by simp) (fun x hx => by cases hx)
  generalize (seatV (okS P ws tank water landing) P.stations.length ws.length []).1 = v1 at *
  generalize (seatV (okS P ws tank water landing) P.stations.length ws.length []).2 = v2 at *
  simp only [ints] at h
  refine spec_of mixed Tryz.func48 (by decide) rfl Tryz.results48 Tryz.ntmps48 (by decide) 0 (by simp) ?_
  simp [Pln.cells, cnrL, stnL, Spn.cells, spnL]
  refine pop_spec h rfl false (.inl (by simp [Pln.cells, cnrL, stnL, Spn.cells, spnL])) (.inl rfl) rfl (by simp) ?_
  simp
  refine answers_of rfl ?_; simp [ints]
theorem LoadSeats_spec (P : Pln) (ws : List Spn) (tank : Spn) (water : List Spn) (landing : Bool) (hP : PlnLen P) (hw : ws.length ≤ 9223372036854775807) (hwa : water.length ≤ 9223372036854775807) :
    Spec Tryz.prog 9 [.agg P.cells, spnL ws, .agg tank.cells, spnL water, .v (.bool landing)] (.v (.bool true)) := by
  have hse := Seat_spec P ws tank water landing hP hw hwa
  have hpl := rPlane_spec P hP
  have hpt := rPoint_spec P (base tank water false) hP ⟨by simp [base], hwa⟩
  have hwe := lweighed_spec ws hw
  have hpb : pointB P (base tank water false) = pointB P (base tank water landing) := rfl
  obtain ⟨pb, hpbv⟩ : ∃ pb, pb = pointB P (base tank water landing) := ⟨_, rfl⟩
  rw [hpb, ← hpbv] at hpt
  simp only [base, Pnt.cells, itmL] at hpt
  refine spec_of mixed Tryz.func9 (by decide) rfl Tryz.results9 Tryz.ntmps9 (by decide) 0 (by simp) ?_
  simp [Pln.cells, cnrL, stnL, Spn.cells, spnL]
  refine pop_spec (lshort_spec P) rfl false (.inl (by simp [Pln.cells, cnrL, stnL])) (.inl rfl) rfl (by simp) ?_
  cases g1 : shortB' P with
  | false =>
    simp
    refine pop_spec known_spec rfl false (.inl (by simp)) (.inl rfl) rfl (by simp) ?_
    simp
    refine answers_of rfl ?_; simp
  | true =>
    by_cases q4 : 4 < P.stations.length ∧ validB P = true
    · obtain ⟨q5, q6⟩ := q4
      simp [show (4 : Int) < P.stations.length from by omega]
      refine pop_spec hpl rfl false (.inl (by simp [Pln.cells, cnrL, stnL])) (.inl rfl) rfl (by simp) ?_
      simp [q6]
      refine pop_spec known_spec rfl false (.inl (by simp)) (.inl rfl) rfl (by simp) ?_
      simp
      refine answers_of rfl ?_; simp
    have tail : ∀ {G : Prop}, (10 < ws.length → G) → (¬ 10 < ws.length → 10 < water.length → G) → (5 < ws.length → ¬ 10 < ws.length → ¬ 10 < water.length → G) → (ws.length ≤ 5 → ¬ 10 < water.length → G) → G := fun h1 h2 h3 h4 => by
      by_cases a : 10 < ws.length
      · exact h1 a
      by_cases b : 10 < water.length
      · exact h2 a b
      by_cases c : 5 < ws.length
      · exact h3 c a b
      · exact h4 (by omega) b
    have hpl' := hpl
    by_cases q5 : 4 < P.stations.length
    · have q6 : validB P = false := by
        cases hv : validB P with
        | false => rfl
        | true => exact (q4 ⟨q5, hv⟩).elim
      have g5 : ¬ (rightB P (base tank water landing) = true ∧ weighB ws = true) := fun h => by
        have := h.1; simp [rightB, q6] at this
      rw [q6] at hpl
      rw [seatRes] at hse
      simp [show (4 : Int) < P.stations.length from by omega]
      refine pop_spec hpl rfl false (.inl (by simp [Pln.cells, cnrL, stnL])) (.inl rfl) rfl (by simp) ?_
      refine tail (fun a => ?_) (fun a b => ?_) (fun c a b => ?_) (fun c b => ?_)
      · simp [show (10 : Int) < ws.length from by omega, show ¬ (ws.length : Int) ≤ 10 from by omega]
        refine pop_spec known_spec rfl false (.inl (by simp)) (.inl rfl) rfl (by simp) ?_
        simp
        refine answers_of rfl ?_; simp
      · simp [show ¬ (10 : Int) < ws.length from by omega, show (ws.length : Int) ≤ 10 from by omega, show (10 : Int) < water.length from by omega, show ¬ (water.length : Int) ≤ 10 from by omega]
        refine pop_spec known_spec rfl false (.inl (by simp)) (.inl rfl) rfl (by simp) ?_
        simp
        refine answers_of rfl ?_; simp
      · rw [if_pos c] at hse
        simp only [ints] at hse
        simp [show ¬ (10 : Int) < ws.length from by omega, show (ws.length : Int) ≤ 10 from by omega, show ¬ (10 : Int) < water.length from by omega, show (water.length : Int) ≤ 10 from by omega]
        refine pop_spec hse rfl false (.inl (by simp [Pln.cells, cnrL, stnL, Spn.cells, spnL])) (.inl rfl) rfl (by simp) ?_
        simp [show (5 : Int) < ws.length from by omega, show ¬ (ws.length : Int) ≤ 5 from by omega]
        refine pop_spec known_spec rfl false (.inl (by simp)) (.inl rfl) rfl (by simp) ?_
        simp
        refine answers_of rfl ?_; simp
      · rw [if_neg (by omega), if_neg g5] at hse
        simp only [ints] at hse
        simp [show ¬ (10 : Int) < ws.length from by omega, show (ws.length : Int) ≤ 10 from by omega, show ¬ (10 : Int) < water.length from by omega, show (water.length : Int) ≤ 10 from by omega]
        refine pop_spec hse rfl false (.inl (by simp [Pln.cells, cnrL, stnL, Spn.cells, spnL])) (.inl rfl) rfl (by simp) ?_
        simp [show ¬ (5 : Int) < ws.length from by omega, show (ws.length : Int) ≤ 5 from by omega]
        refine pop_spec hpl rfl false (.inl (by simp [Pln.cells, cnrL, stnL])) (.inl rfl) rfl (by simp) ?_
        simp
        refine pop_spec known_spec rfl false (.inl (by simp)) (.inl rfl) rfl (by simp) ?_
        simp
        refine answers_of rfl ?_; simp
    · rw [seatRes] at hse
      simp [show ¬ (4 : Int) < P.stations.length from by omega, show (P.stations.length : Int) ≤ 4 from by omega]
      refine tail (fun a => ?_) (fun a b => ?_) (fun c a b => ?_) (fun c b => ?_)
      · simp [show (10 : Int) < ws.length from by omega, show ¬ (ws.length : Int) ≤ 10 from by omega]
        refine pop_spec known_spec rfl false (.inl (by simp)) (.inl rfl) rfl (by simp) ?_
        simp
        refine answers_of rfl ?_; simp
      · simp [show ¬ (10 : Int) < ws.length from by omega, show (ws.length : Int) ≤ 10 from by omega, show (10 : Int) < water.length from by omega, show ¬ (water.length : Int) ≤ 10 from by omega]
        refine pop_spec known_spec rfl false (.inl (by simp)) (.inl rfl) rfl (by simp) ?_
        simp
        refine answers_of rfl ?_; simp
      · rw [if_pos c] at hse
        simp only [ints] at hse
        simp [show ¬ (10 : Int) < ws.length from by omega, show (ws.length : Int) ≤ 10 from by omega, show ¬ (10 : Int) < water.length from by omega, show (water.length : Int) ≤ 10 from by omega]
        refine pop_spec hse rfl false (.inl (by simp [Pln.cells, cnrL, stnL, Spn.cells, spnL])) (.inl rfl) rfl (by simp) ?_
        simp [show (5 : Int) < ws.length from by omega, show ¬ (ws.length : Int) ≤ 5 from by omega]
        refine pop_spec known_spec rfl false (.inl (by simp)) (.inl rfl) rfl (by simp) ?_
        simp
        refine answers_of rfl ?_; simp
      · rw [if_neg (by omega)] at hse
        simp [show ¬ (10 : Int) < ws.length from by omega, show (ws.length : Int) ≤ 10 from by omega, show ¬ (10 : Int) < water.length from by omega, show (water.length : Int) ≤ 10 from by omega]
        by_cases g5 : rightB P (base tank water landing) = true ∧ weighB ws = true
        · obtain ⟨g6, g7⟩ := g5
          have g8 : validB P = true ∧ pointB P (base tank water landing) = true := by simpa [rightB] using g6
          have hS := seatOk_of (landing := landing) g6 g7 c
          have hrs := rSeat_spec P ws tank water landing hS
          rw [if_pos ⟨g6, g7⟩] at hse
          rw [g8.1] at hpl
          rw [g8.2] at hpbv
          subst hpbv
          rw [g7] at hwe
          have hvl := seatV_of (ok := okS P ws tank water landing) (S := P.stations.length) (m := ws.length) (b := [])
          have hvn := seatV_len (P := P) (ws := ws) (tank := tank) (water := water) (landing := landing) (m := ws.length) (b := []) (by simp)
          have hfd : findS P ws tank water landing = seatR (okS P ws tank water landing) P.stations.length ws.length [] := rfl
          generalize seatV (okS P ws tank water landing) P.stations.length ws.length [] = V at *
          obtain ⟨v1, v2⟩ := V
          simp only at hvn
          rw [hfd] at hse
          rcases hvl with ⟨l, h1, h2⟩ | ⟨h1, h2⟩
          · obtain ⟨rfl, rfl⟩ := Prod.mk.inj h2
            have hsm := Same_spec v1 v1 (by omega) (by omega)
            simp at hsm
            rw [h1] at hse
            simp only [ints] at hse hrs hsm
            refine pop_spec hse rfl false (.inl (by simp [Pln.cells, cnrL, stnL, Spn.cells, spnL])) (.inl rfl) rfl (by simp) ?_
            simp [show ¬ (5 : Int) < ws.length from by omega, show (ws.length : Int) ≤ 5 from by omega]
            refine pop_spec hpl rfl false (.inl (by simp [Pln.cells, cnrL, stnL])) (.inl rfl) rfl (by simp) ?_
            simp
            refine pop_spec hpt rfl false (.inl (by simp [Pln.cells, cnrL, stnL, Spn.cells, spnL])) (.inl rfl) rfl (by simp) ?_
            simp
            refine pop_spec hwe rfl false (.inl (by simp [spnL, Spn.cells])) (.inl rfl) rfl (by simp) ?_
            simp
            refine pop_spec hrs rfl false (.inl (by simp [Pln.cells, cnrL, stnL, Spn.cells, spnL])) (.inl rfl) rfl (by simp) ?_
            simp
            refine pop_spec hsm rfl false (.inl (by simp)) (.inl rfl) rfl (by simp) ?_
            simp
            refine pop_spec known_spec rfl false (.inl (by simp)) (.inl rfl) rfl (by simp) ?_
            simp
            refine answers_of rfl ?_; simp
          · simp only at h2
            subst h2
            rw [h1] at hse
            simp only [ints] at hse hrs
            refine pop_spec hse rfl false (.inl (by simp [Pln.cells, cnrL, stnL, Spn.cells, spnL])) (.inl rfl) rfl (by simp) ?_
            simp [show ¬ (5 : Int) < ws.length from by omega, show (ws.length : Int) ≤ 5 from by omega]
            refine pop_spec hpl rfl false (.inl (by simp [Pln.cells, cnrL, stnL])) (.inl rfl) rfl (by simp) ?_
            simp
            refine pop_spec hpt rfl false (.inl (by simp [Pln.cells, cnrL, stnL, Spn.cells, spnL])) (.inl rfl) rfl (by simp) ?_
            simp
            refine pop_spec hwe rfl false (.inl (by simp [spnL, Spn.cells])) (.inl rfl) rfl (by simp) ?_
            simp
            refine pop_spec hrs rfl false (.inl (by simp [Pln.cells, cnrL, stnL, Spn.cells, spnL])) (.inl rfl) rfl (by simp) ?_
            simp
            refine pop_spec known_spec rfl false (.inl (by simp)) (.inl rfl) rfl (by simp) ?_
            simp
            refine answers_of rfl ?_; simp
        · rw [if_neg g5] at hse
          simp only [ints] at hse
          refine pop_spec hse rfl false (.inl (by simp [Pln.cells, cnrL, stnL, Spn.cells, spnL])) (.inl rfl) rfl (by simp) ?_
          simp [show ¬ (5 : Int) < ws.length from by omega, show (ws.length : Int) ≤ 5 from by omega]
          refine pop_spec hpl rfl false (.inl (by simp [Pln.cells, cnrL, stnL])) (.inl rfl) rfl (by simp) ?_
          cases h1 : validB P with
          | false =>
            simp
            refine pop_spec known_spec rfl false (.inl (by simp)) (.inl rfl) rfl (by simp) ?_
            simp
            refine answers_of rfl ?_; simp
          | true =>
            simp
            refine pop_spec hpt rfl false (.inl (by simp [Pln.cells, cnrL, stnL, Spn.cells, spnL])) (.inl rfl) rfl (by simp) ?_
            cases h2 : pb with
            | false =>
              simp
              refine pop_spec known_spec rfl false (.inl (by simp)) (.inl rfl) rfl (by simp) ?_
              simp
              refine answers_of rfl ?_; simp
            | true =>
              have h3 : weighB ws = false := by
                cases hw3 : weighB ws with
                | false => rfl
                | true => exact (g5 ⟨by rw [rightB, h1, ← hpbv, h2]; rfl, hw3⟩).elim
              rw [h3] at hwe
              simp
              refine pop_spec hwe rfl false (.inl (by simp [spnL, Spn.cells])) (.inl rfl) rfl (by simp) ?_
              simp
              refine pop_spec known_spec rfl false (.inl (by simp)) (.inl rfl) rfl (by simp) ?_
              simp
              refine answers_of rfl ?_; simp
end Go.Qg

