/-
  Lemmas and contracts that hold of the whole program: 1 texts in one.
  No condition.
-/
import Derived.Test.YtedglnagjjplbaaGreatZTrRp2
set_option linter.all false

namespace Go.Qg
open Go.Proofs
set_option maxRecDepth 100000
set_option maxHeartbeats 32000000
attribute [local simp 2000] List.getElem?_cons_succ List.getElem?_cons_zero
attribute [local irreducible] pwp pops pdraw pop popCall pdCall thenP blockP scopeP pspec Spec answers ppost CallW rend
theorem wfirst_spec (lo hi : Int) (hb : -1000000 ≤ lo ∧ hi ≤ 4000000000000000000) (f : FuncId) (first cap : List PV) (h1 : plainL first = true) (h2 : plainL cap = true) (p : Int → Bool)
    (h : ∀ k : Int, lo ≤ k → k < hi → Spec Tryz.prog f (first ++ ([.v (.int .i64 k)] ++ cap)) (.v (.bool (p k)))) : Spec Tryz.prog 199 [.v (.int .i64 lo), .v (.int .i64 hi), .clo (.func f) first cap] (.v (.int .i64 (firstZ p lo hi))) := by
  refine spec_of mixed Tryz.func199 (by decide) rfl Tryz.results199 Tryz.ntmps199 (by decide) 0 (by simp) ?_
  simp [renL_plain h1, renL_plain h2]
  refine pwp_loop (fun x : Int × Int => [(0, .v (.int .i64 x.1)), (1, .v (.int .i64 x.2))]) (fun x => lo ≤ x.1 ∧ x.2 ≤ hi ∧ firstZ p x.1 x.2 = firstZ p lo hi) (fun x => (x.2 - x.1).toNat) (lo, hi) ⟨Int.le_refl _, Int.le_refl _, rfl⟩ (by simp; rfl) (by simp [vwAll_plain h1, vwAll_plain h2]) ?_
  rintro ⟨a, b⟩ ⟨ha, hbb, he⟩
  simp only at ha hbb he
  by_cases hab : a < b
  · obtain ⟨d, hd⟩ : ∃ d, (b - a) / 2 = d := ⟨_, rfl⟩
    have w1 := i64_wrap (show -9223372036854775808 ≤ b - a ∧ _ from by omega)
    have w2 : (b - a).tdiv 2 = d := by rw [Int.tdiv_eq_ediv_of_nonneg (by omega), hd]
    have w3 := i64_wrap (show -9223372036854775808 ≤ d ∧ _ from by omega)
    have w4 := i64_wrap (show -9223372036854775808 ≤ a + d ∧ _ from by omega)
    have w5 := i64_wrap (show -9223372036854775808 ≤ a + d + 1 ∧ _ from by omega)
    simp [hab, w1, w2, w3, w4]
    refine pop_spec (h (a + d) (by omega) (by omega)) rfl false (.inr ⟨by simp, by simp [namesL_append, plainL_names h1, plainL_names h2]⟩) (.inl rfl) rfl (by simp) ?_
    cases hp : p (a + d) with
    | true =>
      simp
      refine again_of (a, a + d) ⟨ha, by omega, ?_⟩ (by simp only; omega) ?_
      · rw [← he, firstZ_up hab (by rw [hd]; exact hp), hd]
      · simp [vwAll_plain h1, vwAll_plain h2]
    | false =>
      simp [w5]
      refine again_of (a + d + 1, b) ⟨by simp only; omega, hbb, ?_⟩ (by simp only; omega) ?_
      · rw [← he, firstZ_down hab (by rw [hd]; exact hp), hd]
      · simp [vwAll_plain h1, vwAll_plain h2, w5]
  · simp [hab]
    refine answers_of rfl ?_
    rw [← he, firstZ_end hab]
    simp
def sideI (p : Stp) (n : Ned) (e w : Int) : Int := if acrossI p.way e w * acrossI p.way e w ≤ lengthI p.way * n.cross * n.cross then 0 else if stepX p.way = 0 ∨ (acrossI p.way e w < 0 ↔ 0 < stepX p.way) then 1 else -1
theorem wside_spec (s : SeaD) (p : Stp) (n : Ned) (m e w : Int) (hp : 1 ≤ p.way ∧ p.way ≤ 8) (hn : NedOk n) (he : Small 100000 e) (hw : Small 100000 w) : Spec Tryz.prog 201 [.agg (lookC s p n m), .v (.int .i64 e), .v (.int .i64 w)] (.v (.int .i64 (sideI p n e w))) := by
  have sa := across_spec s p n m e w hp he hw
  have sn := length_spec s p n m hp
  have st := steps_spec p.way hp
  obtain ⟨k1, k2⟩ := wind_small (w := p.way) he hw
  have hb : sideI p n e w = if acrossI p.way e w * acrossI p.way e w ≤ lengthI p.way * n.cross * n.cross then 0 else if stepX p.way = 0 ∨ (acrossI p.way e w < 0 ↔ 0 < stepX p.way) then 1 else -1 := rfl
  rw [hb]
  have hl := length_small p.way
  generalize acrossI p.way e w = a at *
  generalize lengthI p.way = q at *
  generalize stepX p.way = x at *
  have m1 := mul_small k1 k1 (by omega) (by omega)
  have q2 : Small 2 q := by simp only [Small]; omega
  have c3 : Small 300 n.cross := by have := hn.cross; simp only [Small]; omega
  have m3 := mul_small q2 c3 (by omega) (by omega)
  have m5 := mul_small m3 c3 (by omega) (by omega)
  simp only [Small] at m1 m3 m5
  have w1 := i64_wrap (show -9223372036854775808 ≤ a * a ∧ _ from by omega)
  have w3 := i64_wrap (show -9223372036854775808 ≤ q * n.cross ∧ _ from by omega)
  have w5 := i64_wrap (show -9223372036854775808 ≤ q * n.cross * n.cross ∧ _ from by omega)
  refine spec_of mixed Tryz.func201 (by decide) rfl Tryz.results201 Tryz.ntmps201 (by decide) 0 (by simp) ?_
  simp [lookC, rdgL, spnL, boaL, glaL]
  refine pop_spec sa rfl false (.inl (by simp [lookC, rdgL, spnL, boaL, glaL])) (.inl rfl) rfl (by simp) ?_
  simp
  refine pwp_draw 14 (by decide) ?_
  simp [w1]
  refine pd_spec sn (by simp [lookC, rdgL, spnL, boaL, glaL]) (by simp) (by simp [lookC, rdgL, spnL, boaL, glaL]) rfl ?_
  by_cases h1 : a * a ≤ q * n.cross * n.cross
  · simp [w3, w5, h1]
    refine ⟨by decide, ?_⟩
    refine answers_of rfl ?_; simp [h1]
  · simp [w3, w5, h1]
    refine ⟨by decide, ?_⟩
    refine pop_spec st rfl false (.inl (by simp)) (.inl rfl) rfl (by simp) ?_
    by_cases h2 : x = 0
    · simp [h2]
      refine answers_of rfl ?_; simp [h1, h2]
    · by_cases h3 : a < 0
      · by_cases h4 : 0 < x
        · simp [h2, h3, h4]
          refine answers_of rfl ?_; simp [h1, h2, h3, h4]
        · simp [h2, h3, h4]
          refine answers_of rfl ?_; simp [h1, h2, h3, h4]
      · by_cases h4 : 0 < x
        · simp [h2, h3, h4]
          refine answers_of rfl ?_; simp [h1, h2, h3, h4]
        · simp [h2, h3, h4]
          refine answers_of rfl ?_; simp [h1, h2, h3, h4]
theorem pcalm1_spec (s : SeaD) (p : Stp) (n : Ned) (m e w : Int) (hp : 1 ≤ p.way ∧ p.way ≤ 8) (hn : NedOk n) (he : Small 100000 e) (hw : Small 100000 w) : Spec Tryz.prog 200 [.v (.int .i64 w), .rp (lookC s p n m) 0, .rp [.v (.int .i64 e)] 0] (.v (.bool (decide (0 ≤ sideI p n e w)))) := by
  refine spec_of mixed Tryz.func200 (by decide) rfl Tryz.results200 Tryz.ntmps200 (by decide) 0 (by simp) ?_
  simp [lookC, rdgL, spnL, boaL, glaL]
  refine pop_spec (wside_spec s p n m e w hp hn he hw) rfl false (.inl (by simp [lookC, rdgL, spnL, boaL, glaL])) (.inl rfl) rfl (by simp) ?_
  simp
  refine answers_of rfl ?_; simp
theorem pcalm2_spec (s : SeaD) (p : Stp) (n : Ned) (m e w : Int) (hp : 1 ≤ p.way ∧ p.way ≤ 8) (hn : NedOk n) (he : Small 100000 e) (hw : Small 100000 w) : Spec Tryz.prog 202 [.v (.int .i64 w), .rp (lookC s p n m) 0, .rp [.v (.int .i64 e)] 0] (.v (.bool (decide (0 < sideI p n e w)))) := by
  refine spec_of mixed Tryz.func202 (by decide) rfl Tryz.results202 Tryz.ntmps202 (by decide) 0 (by simp) ?_
  simp [lookC, rdgL, spnL, boaL, glaL]
  refine pop_spec (wside_spec s p n m e w hp hn he hw) rfl false (.inl (by simp [lookC, rdgL, spnL, boaL, glaL])) (.inl rfl) rfl (by simp) ?_
  simp
  refine answers_of rfl ?_; simp
def windF (s : SeaD) (p : Stp) (n : Ned) (m e : Int) : Int := firstZ (fun k => decide (0 ≤ sideI p n e k)) (atLo s.north m) (atHi s.north m + 1)
def windU (s : SeaD) (p : Stp) (n : Ned) (m e : Int) : Int := firstZ (fun k => decide (0 < sideI p n e k)) (atLo s.north m) (atHi s.north m + 1)
def hitB (s : SeaD) (p : Stp) (n : Ned) (m e : Int) : Bool := decide (windF s p n m e ≤ windU s p n m e - 1) && (calmB p.way n.cross n.tail e (windF s p n m e) || calmB p.way n.cross n.tail e (windU s p n m e - 1))
def hitN (s : SeaD) (p : Stp) (n : Ned) (m : Int) (e : Int) : Nat → Bool
  | 0 => false
  | k + 1 => hitB s p n m e || hitN s p n m (e + 1) k
def pcalmB (s : SeaD) (p : Stp) (n : Ned) (m : Int) : Bool := hitN s p n m (atLo s.east m) (atHi s.east m - atLo s.east m + 1).toNat
theorem possiblyCalm_spec (s : SeaD) (p : Stp) (n : Ned) (m : Int) (hs : SeaOk s) (hp : StpOk s p) (hn : NedOk n) (hm : 0 ≤ m ∧ m ≤ 1440) (ce : Clear s.east) (cn : Clear s.north) : Spec Tryz.prog 163 [.agg (lookC s p n m)] (.v (.bool (pcalmB s p n m))) := by
  have e1 := wat_span hs.east.1 ce m
  have e2 := hs.east.2
  have n1 := wat_span hs.north.1 cn m
  have n2 := hs.north.2
  refine spec_of mixed Tryz.func163 (by decide) rfl Tryz.results163 Tryz.ntmps163 (by decide) 0 (by simp) ?_
  simp [lookC, rdgL, spnL, boaL, glaL]
  refine pwp_draw 18 (by decide) ?_
  simp
  refine pd_spec (at_spec s.east m hs.east.1 hm) (by simp [Gge.cells, rdgL]) (by simp) (by simp [Gge.cells, rdgL]) (by simp [atS_cells]) ?_
  simp [atS_cells]
  refine pd_spec (at_spec s.north m hs.north.1 hm) (by simp [Gge.cells, rdgL]) (by simp) (by simp [Gge.cells, rdgL]) (by simp [atS_cells]) ?_
  simp [atS_cells]
  refine ⟨by decide, ?_⟩
  refine pwp_loop (fun e : Int => [(1, .rp (lookC s p n m) 0), (5, .box true [.v (.int .i64 e)]), (8, .undef), (9, .undef), (10, .undef), (12, .undef), (15, .undef), (16, .undef), (17, .undef), (19, .undef)]) (fun e => atLo s.east m ≤ e ∧ e ≤ atHi s.east m + 1 ∧ hitN s p n m e (atHi s.east m - e + 1).toNat = pcalmB s p n m) (fun e => (atHi s.east m - e + 1).toNat) (atLo s.east m) ⟨by omega, by omega, rfl⟩ (by simp; rfl) (by simp [lookC, rdgL, spnL, boaL, glaL]) ?_
  intro e ⟨he1, he2, hhit⟩
  by_cases hle : e ≤ atHi s.east m
  · have he : Small 100000 e := by simp only [Small]; omega
    have hwn : ∀ k : Int, atLo s.north m ≤ k → k < atHi s.north m + 1 → Small 100000 k := fun k h1 h2 => by simp only [Small]; omega
    have f1 := wfirst_spec (atLo s.north m) (atHi s.north m + 1) (by omega) 200 [] [.rp (lookC s p n m) 0, .rp [.v (.int .i64 e)] 0] rfl (by rfl) (fun k => decide (0 ≤ sideI p n e k)) fun k h1 h2 => by simpa using pcalm1_spec s p n m e k hp.way hn he (hwn k h1 h2)
    have f2 := wfirst_spec (atLo s.north m) (atHi s.north m + 1) (by omega) 202 [] [.rp (lookC s p n m) 0, .rp [.v (.int .i64 e)] 0] rfl (by rfl) (fun k => decide (0 < sideI p n e k)) fun k h1 h2 => by simpa using pcalm2_spec s p n m e k hp.way hn he (hwn k h1 h2)
    rw [show firstZ (fun k => decide (0 ≤ sideI p n e k)) (atLo s.north m) (atHi s.north m + 1) = windF s p n m e from rfl] at f1
    rw [show firstZ (fun k => decide (0 < sideI p n e k)) (atLo s.north m) (atHi s.north m + 1) = windU s p n m e from rfl] at f2
    have bF : atLo s.north m ≤ windF s p n m e ∧ windF s p n m e ≤ atHi s.north m + 1 := ⟨firstZ_ge (by omega), firstZ_le (by omega)⟩
    have bU : atLo s.north m ≤ windU s p n m e ∧ windU s p n m e ≤ atHi s.north m + 1 := ⟨firstZ_ge (by omega), firstZ_le (by omega)⟩
    have cF := calm_spec s p n m e (windF s p n m e) hp.way hn he (by simp only [Small]; omega)
    have cU := calm_spec s p n m e (windU s p n m e - 1) hp.way hn he (by simp only [Small]; omega)
    obtain ⟨k, hk⟩ : ∃ k, (atHi s.east m - e + 1).toNat = k + 1 := ⟨(atHi s.east m - e).toNat, by omega⟩
    have hk' : (atHi s.east m - (e + 1) + 1).toNat = k := by omega
    rw [hk, hitN] at hhit
    have we := i64_wrap (show -9223372036854775808 ≤ e + 1 ∧ _ from by omega)
    have wn := i64_wrap (show -9223372036854775808 ≤ atHi s.north m + 1 ∧ _ from by omega)
    have wu := i64_wrap (show -9223372036854775808 ≤ windU s p n m e - 1 ∧ _ from by omega)
    have yes : hitB s p n m e = true → pcalmB s p n m = true := fun h => by rw [← hhit, h]; rfl
    have no : hitB s p n m e = false → hitN s p n m (e + 1) (atHi s.east m - (e + 1) + 1).toNat = pcalmB s p n m := fun h => by rw [← hhit, h, hk']; rfl
    simp [hle, wn, lookC, rdgL, spnL, boaL, glaL]
    refine pop_specF [(5, .rp [.v (.int .i64 e)] 0), (30, .undef), (32, .undef), (35, .clo (.func 200) [] [.rp (lookC s p n m) 0, .rp [.v (.int .i64 e)] 0])] ?_ f1 rfl false (.inl (by simp [lookC, rdgL, spnL, boaL, glaL])) (.inl rfl) rfl (by simp) ?_
    · simp [lookC, rdgL, spnL, boaL, glaL]
    simp [wn, lookC, rdgL, spnL, boaL, glaL]
    refine pop_spec f2 rfl false (.inl (by simp [lookC, rdgL, spnL, boaL, glaL])) (.inl rfl) rfl (by simp) ?_
    by_cases g1 : windF s p n m e ≤ windU s p n m e - 1
    · simp [wu, g1, lookC, rdgL, spnL, boaL, glaL]
      refine pop_spec cF rfl false (.inl (by simp [lookC, rdgL, spnL, boaL, glaL])) (.inl rfl) rfl (by simp) ?_
      cases g2 : calmB p.way n.cross n.tail e (windF s p n m e) with
      | true =>
        simp [wu, g1]
        refine answers_of rfl ?_; simp [yes (by simp [hitB, g1, g2])]
      | false =>
        simp [wu, g1, lookC, rdgL, spnL, boaL, glaL]
        refine pop_spec cU rfl false (.inl (by simp [lookC, rdgL, spnL, boaL, glaL])) (.inl rfl) rfl (by simp) ?_
        cases g3 : calmB p.way n.cross n.tail e (windU s p n m e - 1) with
        | true =>
          simp [wu, g1]
          refine answers_of rfl ?_; simp [yes (by simp [hitB, g1, g3])]
        | false =>
          simp [wu, g1, we]
          refine again_of (e + 1) ⟨by omega, by omega, no (by simp [hitB, g2, g3])⟩ (by omega) ?_
          simp [we, lookC, rdgL, spnL, boaL, glaL]
    · simp [wu, g1, show windU s p n m e - 1 < windF s p n m e from by omega, we]
      refine again_of (e + 1) ⟨by omega, by omega, no (by simp [hitB, g1])⟩ (by omega) ?_
      simp [we, lookC, rdgL, spnL, boaL, glaL]
  · simp [hle, show atHi s.east m < e from by omega]
    have hz : (atHi s.east m - e + 1).toNat = 0 := by omega
    rw [hz] at hhit
    refine answers_of rfl ?_
    rw [← hhit]
    simp [hitN]
def pflatB (s : SeaD) (n : Ned) (m : Int) : Bool := decide (max (atLo s.wave m) n.calm ≤ min (atHi s.wave m) n.wave) && decide (atLo s.swell m ≤ n.swell)
theorem possiblyFlat_spec (s : SeaD) (p : Stp) (n : Ned) (m : Int) (hs : SeaOk s) (hm : 0 ≤ m ∧ m ≤ 1440) : Spec Tryz.prog 164 [.agg (lookC s p n m)] (.v (.bool (pflatB s n m))) := by
  refine spec_of mixed Tryz.func164 (by decide) rfl Tryz.results164 Tryz.ntmps164 (by decide) 0 (by simp) ?_
  simp [lookC, rdgL, spnL, boaL, glaL]
  refine pop_spec (at_spec s.wave m hs.wave.1 hm) rfl false (.inl (by simp [Gge.cells, rdgL])) (.inl rfl) rfl (by simp [atS_cells]) ?_
  simp [atS_cells]
  obtain ⟨A, hA⟩ : ∃ A, max (atLo s.wave m) n.calm = A := ⟨_, rfl⟩
  obtain ⟨B, hB⟩ : ∃ B, min (atHi s.wave m) n.wave = B := ⟨_, rfl⟩
  have hA' : max n.calm (atLo s.wave m) = A := by rw [Int.max_comm, hA]
  have hB' : min n.wave (atHi s.wave m) = B := by rw [Int.min_comm, hB]
  have hsw := at_spec s.swell m hs.swell.1 hm
  have hp : pflatB s n m = (decide (A ≤ B) && decide (atLo s.swell m ≤ n.swell)) := by rw [pflatB, hA, hB]
  rw [hp]
  refine pwp_draw 28 (by decide) ?_
  by_cases h1 : A ≤ B
  · simp [max_if, max_if', max_le, min_if, min_if', min_le, hA, hA', hB, hB', h1, show ¬ B < A from by omega]
    refine pd_spec hsw (by simp [Gge.cells, rdgL]) (by simp) (by simp [Gge.cells, rdgL]) (by simp [atS_cells]) ?_
    by_cases h2 : atLo s.swell m ≤ n.swell
    · simp [atS_cells, h2]
      refine ⟨by decide, ?_⟩
      refine answers_of rfl ?_; simp [h1, h2]
    · simp [atS_cells, h2]
      refine ⟨by decide, ?_⟩
      refine answers_of rfl ?_; simp [h2]
  · simp [max_if, max_if', max_le, min_if, min_if', min_le, hA, hA', hB, hB', h1, show B < A from by omega]
    refine ⟨by decide, ?_⟩
    refine answers_of rfl ?_; simp [h1]
def passS (s : SeaD) (m : Int) (i : Nat) : Bool := (boaAt s.boats i).sure && passB s m i
theorem pdeep11_spec (s : SeaD) (p : Stp) (n : Ned) (m : Int) (i : Nat) (hi : i < s.boats.length) : Spec Tryz.prog 198 [.v (.int .i64 i), .rp (lookC s p n m) 0] (.v (.bool (passS s m i))) := by
  refine spec_of mixed Tryz.func198 (by decide) rfl Tryz.results198 Tryz.ntmps198 (by decide) 0 (by simp) ?_
  have hbc : (boaAt s.boats i).cells = [.v (.int .i64 (boaAt s.boats i).x.low), .v (.int .i64 (boaAt s.boats i).x.high), .v (.int .i64 (boaAt s.boats i).y.low), .v (.int .i64 (boaAt s.boats i).y.high), .v (.int .i64 (boaAt s.boats i).times.low), .v (.int .i64 (boaAt s.boats i).times.high), .v (.bool (boaAt s.boats i).sure)] := rfl
  simp (config := { maxSteps := 3000000 }) [lookC, rdgL, spnL, boaL, glaL, hi, hbc]
  cases h1 : (boaAt s.boats i).sure with
  | false => simp; refine answers_of rfl ?_; simp [passS, h1]
  | true =>
    simp
    refine pop_spec (passes_spec s p n m i hi) rfl false (.inl (by simp [lookC, rdgL, spnL, boaL, glaL])) (.inl rfl) rfl (by simp) ?_
    simp
    refine answers_of rfl ?_; simp [passS, h1]
def goodP (s : SeaD) (p : Stp) (n : Ned) (m : Int) (k : Nat) : Bool := decide (n.draught ≤ (spnAt s.depths (celN s p k).toNat).high + atHi s.tide m) && freeB s (celX p k) (celY p k) (passS s m)
theorem pdeep1_spec (s : SeaD) (p : Stp) (n : Ned) (m : Int) (k : Nat) (hs : SeaOk s) (hp : StpOk s p) (hm : 0 ≤ m ∧ m ≤ 1440) (hk : (k : Int) < p.cells_) :
    Spec Tryz.prog 197 [.v (.int .i64 k), .rp (lookC s p n m) 0, .rp [.v (.int .i64 (atHi s.tide m))] 0] (.v (.bool (goodP s p n m k))) := by
  obtain ⟨n0, n1⟩ := celN_ok hs hp hk
  have ha := at_small hs.tide.1 hm
  have hd := hs.depth (celN s p k).toNat (by omega)
  have hl := hs.tide.2
  have hnb := hs.nb
  have w1 := i64_wrap (show -9223372036854775808 ≤ (spnAt s.depths (celN s p k).toNat).high + atHi s.tide m ∧ _ from by omega)
  have hsc : (spnAt s.depths (celN s p k).toNat).cells = [.v (.int .i64 (spnAt s.depths (celN s p k).toNat).low), .v (.int .i64 (spnAt s.depths (celN s p k).toNat).high)] := rfl
  have hfr := free_spec s p n m (celX p k) (celY p k) hnb 198 [] [.rp (lookC s p n m) 0] rfl (by rfl) (passS s m) fun j hj => by simpa using pdeep11_spec s p n m j hj
  refine spec_of mixed Tryz.func197 (by decide) rfl Tryz.results197 Tryz.ntmps197 (by decide) 0 (by simp) ?_
  simp [lookC, rdgL, spnL, boaL, glaL]
  refine pop_spec (cell_spec s p n m k hs hp hk) rfl false (.inl (by simp [lookC, rdgL, spnL, boaL, glaL])) (.inl rfl) rfl (by simp) ?_
  simp
  refine pwp_draw 22 (by decide) ?_
  by_cases h1 : n.draught ≤ (spnAt s.depths (celN s p k).toNat).high + atHi s.tide m
  · simp [n0, n1, hsc, w1, h1, show (celN s p k).toNat < s.depths.length from by omega]
    refine pd_spec hfr (by simp [lookC, rdgL, spnL, boaL, glaL]) (by simp) (by simp [lookC, rdgL, spnL, boaL, glaL]) rfl ?_
    simp
    refine ⟨by decide, ?_⟩
    refine answers_of rfl ?_; simp [goodP, h1]
  · simp [n0, n1, hsc, w1, h1, show (celN s p k).toNat < s.depths.length from by omega]
    refine ⟨by decide, ?_⟩
    refine answers_of rfl ?_; simp [goodP, h1]
def pdeepB (s : SeaD) (p : Stp) (n : Ned) (m : Int) : Bool := decide (0 ≤ runI n.run.toNat (goodP s p n m) p.cells_.toNat)
theorem possiblyDeep_spec (s : SeaD) (p : Stp) (n : Ned) (m : Int) (hs : SeaOk s) (hp : StpOk s p) (hn : NedOk n) (hm : 0 ≤ m ∧ m ≤ 1440) : Spec Tryz.prog 162 [.agg (lookC s p n m)] (.v (.bool (pdeepB s p n m))) := by
  have hr := hn.run
  have hc := hp.cells
  obtain ⟨c, hc'⟩ : ∃ c : Nat, n.run = c := ⟨n.run.toNat, by omega⟩
  have hrun := run_spec s p n m c (by omega) hc 197 [] [.rp (lookC s p n m) 0, .rp [.v (.int .i64 (atHi s.tide m))] 0] rfl (by rfl) (goodP s p n m) fun k hk => by simpa using pdeep1_spec s p n m k hs hp hm hk
  obtain ⟨r, hr'⟩ : ∃ r, runI c (goodP s p n m) p.cells_.toNat = r := ⟨_, rfl⟩
  rw [hr'] at hrun
  refine spec_of mixed Tryz.func162 (by decide) rfl Tryz.results162 Tryz.ntmps162 (by decide) 0 (by simp) ?_
  simp [lookC, rdgL, spnL, boaL, glaL]
  refine pop_spec (at_spec s.tide m hs.tide.1 hm) rfl false (.inl (by simp [Gge.cells, rdgL])) (.inl rfl) rfl (by simp [atS_cells]) ?_
  simp [atS_cells, hc']
  refine pop_specF [(1, .rp (lookC s p n m) 0), (3, .rp [.v (.int .i64 (atHi s.tide m))] 0), (4, .undef), (5, .undef), (6, .undef), (8, .undef), (13, .undef), (14, .undef), (16, .clo (.func 197) [] [.rp (lookC s p n m) 0, .rp [.v (.int .i64 (atHi s.tide m))] 0])] ?_ hrun rfl false (.inl (by simp [lookC, rdgL, spnL, boaL, glaL, hc'])) (.inl rfl) rfl (by simp) ?_
  · simp [lookC, rdgL, spnL, boaL, glaL, hc']
  simp
  refine answers_of rfl ?_; simp [pdeepB, hc', hr']
def possK (s : SeaD) (p : Stp) (n : Ned) (m : Int) : Nat → Bool
  | 0 => pdeepB s p n m
  | 1 => pcalmB s p n m
  | 2 => pflatB s n m
  | _ => !blindB s p m
def possC (s : SeaD) (p : Stp) (n : Ned) (m : Int) : List (FuncId × List PV) := [(162, [.agg (lookC s p n m)]), (163, [.agg (lookC s p n m)]), (164, [.agg (lookC s p n m)]), (133, [.agg (lookC s p n m)])]
def possW (s : SeaD) (p : Stp) (n : Ned) (m : Int) : Bool := allN 4 (possK s p n m)
theorem possibly_spec (s : SeaD) (p : Stp) (n : Ned) (m : Int) (hs : SeaOk s) (hp : StpOk s p) (hn : NedOk n) (hm : 0 ≤ m ∧ m ≤ 1440) (ce : Clear s.east) (cn : Clear s.north) : Spec Tryz.prog 90 [.agg (lookC s p n m)] (.v (.bool (possW s p n m))) := by
  have hall := all_spec (possC s p n m) (by simp [possC]) (lt4k (by simp [possC, cloAt, plainL, PV.plain, lookC_plain, lookC_one]) (by simp [possC, cloAt, plainL, PV.plain, lookC_plain, lookC_one]) (by simp [possC, cloAt, plainL, PV.plain, lookC_plain, lookC_one]) (by simp [possC, cloAt, plainL, PV.plain, lookC_plain, lookC_one])) (possK s p n m) (lt4k (fun _ => possiblyDeep_spec s p n m hs hp hn hm) (fun _ => possiblyCalm_spec s p n m hs hp hn hm ce cn) (fun _ => possiblyFlat_spec s p n m hs hm) (fun _ => clear_spec s p n m hs hp))
  rw [show (possC s p n m).length = 4 from rfl, show allN 4 (possK s p n m) = possW s p n m from rfl] at hall
  refine spec_of mixed Tryz.func90 (by decide) rfl Tryz.results90 Tryz.ntmps90 (by decide) 0 (by simp) ?_
  simp [lookC, rdgL, spnL, boaL, glaL]
  refine popLess_of [(3, .rp [cloOf (cloAt (possC s p n m) 0), cloOf (cloAt (possC s p n m) 1), cloOf (cloAt (possC s p n m) 2), cloOf (cloAt (possC s p n m) 3)] 0)] ?_ (by simp; rfl) ?_
  · simp [cloOf, cloAt, possC, lookC, rdgL, spnL, boaL, glaL]
  simp
  refine pop_spec hall rfl false (.inl ?_) (.inl rfl) rfl (by simp) ?_
  · simp [closL, possC, cloOf]
    refine lt4k ?_ ?_ ?_ ?_ <;> simp [cloOf, cloAt]
  simp
  refine answers_of rfl ?_; simp
end Go.Qg

