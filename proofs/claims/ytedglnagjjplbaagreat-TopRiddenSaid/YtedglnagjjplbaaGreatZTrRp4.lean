/-
  Lemmas and contracts that hold of the whole program: 5 texts in one.
  No condition.
-/
import Derived.Test.YtedglnagjjplbaaGreatZTrRp3
set_option linter.all false

namespace Go.Qg
open Go.Proofs
set_option maxRecDepth 100000
set_option maxHeartbeats 32000000
attribute [local simp 2000] List.getElem?_cons_succ List.getElem?_cons_zero
attribute [local irreducible] pwp pops pdraw pop popCall pdCall thenP blockP scopeP pspec Spec answers ppost CallW rend
def wiwV (f : FuncId) (cap : List PV) (L : List Spn) : PF := [.undef, .rp [.clo (.func f) [] cap] 0, .undef, .box true [.own 39 L.length 0 L.length false], .undef, .undef, .undef, .undef, .undef, .undef, .undef, .undef, .undef, .undef, .undef, .undef, .undef, .undef, .undef, .undef, .undef, .undef, .undef, .undef, .undef, .undef, .undef, .undef, .undef, .undef, .undef, .undef, .undef, .undef, .undef, .undef, .undef, .undef, .undef, .rows none L.length 37 2 (rowsSp L)]
def wiwA (f : FuncId) (cap : List PV) : List PV := [.undef, .rp [.clo (.func f) [] cap] 0, .undef, .ref 0 0, .undef, .undef, .undef, .undef, .undef, .undef, .undef, .undef, .undef, .undef, .undef, .undef, .undef, .undef, .undef, .undef, .undef, .undef, .undef, .undef, .undef, .undef, .undef, .undef, .undef, .undef, .undef, .undef, .undef, .undef, .undef, .undef, .undef, .undef, .undef]
def wiwH (L : List Spn) : PF := [.box false [.own 1 L.length 0 L.length false], .rows none L.length 37 2 (rowsSp L)]
theorem windows_spec (f : FuncId) (cap : List PV) (hcap : plainL cap = true) (p : Nat → Bool) (h : ∀ k : Nat, k < 1441 → Spec Tryz.prog f (.v (.int .i64 k) :: cap) (.v (.bool (p k)))) : Spec Tryz.prog 87 [.clo (.func f) [] cap] (spnL (spansP p 1441)) := by
  unfold Spec
  refine callW_ofE Tryz.func87 (by decide) rfl (congrArg Array.toList Tryz.results87) Tryz.ntmps87 40 (by simp) (by decide) fun B0 hB0 hD0 => ?_
  have hlo : ∀ s B, ECtx B0 s B → B.lo = 40 := fun _ _ h => h.1.trans hB0
  have hval : ∀ (F : PF) (T : Tgt) (d : Nat), vwAll (vw F T d) cap cap := fun F T d => vwAll_plain hcap
  refine XW_seqP mixed hlo (by decide) ?_
  simp [renL_plain hcap]
  refine XW_seqP mixed hlo (by decide) ?_
  simp
  refine XW_seqX (XW_block ?_)
  refine XW_range mixed rfl (by rfl) minutes_gen minL_plain (by decide) (by decide) 40 (by decide) [3, 39] (by decide)
    (fun n => wiwV f cap (spansP p n)) (fun n => wiwA f cap) (fun n => wiwH (spansP p n)) ?_ (fun n hn => ⟨rfl, ?_, slots_view (t := 6) ?_ rfl⟩) (fun n q hq => ?_) ?_
  · rw [hB0]
    simp [wiwV, spansP, hval, plainL_names hcap]
  · simp [wiwV, wiwH]
  · simp [slots, wiwV, wiwA, hval, plainL_names hcap]
  · have hn : n < 1441 := by
      have := (List.getElem?_eq_some_iff.1 hq).1
      rwa [minL_length] at this
    rw [minL_get hn] at hq
    obtain rfl := Option.some.inj hq
    rw [hB0]
    have hl := spansP_length p n
    have wk1 := i64_wrap (show -9223372036854775808 ≤ (n : Int) - 1 ∧ _ from by omega)
    simp [wiwA, wiwH, renL_plain hcap]
    refine pop_spec (h n hn) rfl false (.inr ⟨by simp [hval], by simp [plainL_names hcap]⟩) (.inl rfl) rfl (by simp) ?_
    cases hf : p n with
    | false =>
      have e : spansP p (n + 1) = spansP p n := by simp [spansP, hf]
      simp
      refine rend_n (wiwH (spansP p n)) ?_ ?_
      · simp [wiwH]
      · simp [back, placeAll, wiwV, wiwH, e, hval, plainL_names hcap]
    | true =>
      by_cases h0 : spansP p n = []
      · have e : spansP p (n + 1) = [⟨n, n⟩] := by simp [spansP, hf, h0]
        have er := rowsSp_snoc [] ⟨n, n⟩
        simp only [Spn.cells, rowsSp_nil, List.nil_append] at er
        simp [h0, show (1 : Nat) ≤ maxLen from by simp [maxLen]]
        refine rend_n (wiwH (spansP p (n + 1))) ?_ ?_
        · simp [wiwH, e, er]
        · simp [back, placeAll, wiwV, wiwH, e, hval, plainL_names hcap]
      · obtain ⟨j, hj⟩ : ∃ j, (spansP p n).length = j + 1 := ⟨(spansP p n).length - 1, by
          have : (spansP p n).length ≠ 0 := fun h => h0 (List.eq_nil_of_length_eq_zero h)
          omega⟩
        have hlast : lastS (spansP p n) = spnAt (spansP p n) j := by simp [lastS, hj]
        have hgj : (rowsSp (spansP p n))[j]? = some (spnAt (spansP p n) j).cells := rowsSp_get (by omega)
        have wj := i64_wrap (show -9223372036854775808 ≤ (j : Int) ∧ _ from by omega)
        by_cases h1 : (spnAt (spansP p n) j).high = (n : Int) - 1
        · have e : spansP p (n + 1) = (spansP p n).set j ⟨(spnAt (spansP p n) j).low, n⟩ := by
            rw [spansP, if_pos hf, if_pos ⟨by omega, by rw [hlast]; exact h1⟩, hlast, hj]; rfl
          have el : (spansP p (n + 1)).length = j + 1 := by rw [e]; simp [hj]
          have er := rowsSp_set (spansP p n) j ⟨(spnAt (spansP p n) j).low, n⟩
          rw [← e] at er
          simp only [Spn.cells] at er
          simp [hj, hgj, Spn.cells, wk1, wj, show (j : Int) < (j : Int) + 1 from by omega, h1]
          refine rend_n (wiwH (spansP p (n + 1))) ?_ ?_
          · simp [wiwH, er, el]
          · simp [back, placeAll, wiwV, wiwH, el, hval, plainL_names hcap]
        · have e : spansP p (n + 1) = spansP p n ++ [⟨n, n⟩] := by
            rw [spansP, if_pos hf, if_neg]
            rintro ⟨_, h⟩
            rw [hlast] at h
            exact h1 h
          have el : (spansP p (n + 1)).length = j + 2 := by rw [e]; simp [hj]
          have er := rowsSp_snoc (spansP p n) ⟨n, n⟩
          rw [← e] at er
          simp only [Spn.cells] at er
          have et : (spansP p n).take (j + 1) = spansP p n := List.take_of_length_le (by simp [hj])
          simp [hj, hgj, Spn.cells, wk1, wj, show (j : Int) < (j : Int) + 1 from by omega, h1, show (j + 1 + 1) * 16 ≤ 140737488355328 from by omega, show j + 1 + 1 ≤ maxLen from by simp [maxLen]; omega]
          refine rend_n (wiwH (spansP p (n + 1))) ?_ ?_
          · simp [wiwH, er, el, et]
          · simp [back, placeAll, wiwV, wiwH, el, hval, plainL_names hcap]
  · simp [minL_length, wiwV, blockX, thenX]
    refine XW_pwp mixed hlo (by decide) ?_
    simp
    refine ends_of (spnL (spansP p 1441)) [] [] rfl (by decide) ?_ ?_ rfl
    · simp
    · simp [spnL]
      intro j hj
      simp [rowsSp_get hj, Spn.cells]
theorem Windows1_spec (s : SeaD) (p : Stp) (n : Ned) (m : Int) : Spec Tryz.prog 86 [.v (.int .i64 m), .rp s.cells 0, .rp p.cells 0, .rp n.cells 0] (.agg (lookC s p n m)) := by
  refine spec_of mixed Tryz.func86 (by decide) rfl Tryz.results86 Tryz.ntmps86 (by decide) 0 (by simp) ?_
  simp [SeaD.cells, Stp.cells, Ned.cells, rdgL, spnL, boaL, glaL]
  refine answers_of (x := .agg (lookC s p n m)) (by simp [lookC, SeaD.cells, Stp.cells, Ned.cells, rdgL, spnL, boaL, glaL]) ?_
  simp [lookC, SeaD.cells, Stp.cells, Ned.cells, rdgL, spnL, boaL, glaL]
def inC (s : SeaD) (p : Stp) (n : Ned) : PV := .clo (.func 86) [] [.rp s.cells 0, .rp p.cells 0, .rp n.cells 0]
theorem Windows2_spec (s : SeaD) (p : Stp) (n : Ned) (m : Int) (hs : SeaOk s) (hp : StpOk s p) (hn : NedOk n) (hm : 0 ≤ m ∧ m ≤ 1440) (ce : Clear s.east) (cn : Clear s.north) : Spec Tryz.prog 88 [.v (.int .i64 m), .rp [inC s p n] 0] (.v (.bool (sureW s p n m))) := by
  refine spec_of mixed Tryz.func88 (by decide) rfl Tryz.results88 Tryz.ntmps88 (by decide) 0 (by simp) ?_
  simp [inC, SeaD.cells, Stp.cells, Ned.cells, rdgL, spnL, boaL, glaL]
  refine pop_spec (Windows1_spec s p n m) rfl false (.inl (by simp [SeaD.cells, Stp.cells, Ned.cells, rdgL, spnL, boaL, glaL])) (.inl rfl) rfl (by simp [lookC, SeaD.cells, Stp.cells, Ned.cells, rdgL, spnL, boaL, glaL]) ?_
  simp
  refine pop_spec (surely_spec s p n m hs hp hn hm ce cn) rfl false (.inl (by simp [lookC, SeaD.cells, Stp.cells, Ned.cells, rdgL, spnL, boaL, glaL])) (.inl rfl) rfl (by simp) ?_
  simp
  refine answers_of rfl ?_; simp
theorem Windows3_spec (s : SeaD) (p : Stp) (n : Ned) (m : Int) (hs : SeaOk s) (hp : StpOk s p) (hn : NedOk n) (hm : 0 ≤ m ∧ m ≤ 1440) (ce : Clear s.east) (cn : Clear s.north) : Spec Tryz.prog 89 [.v (.int .i64 m), .rp [inC s p n] 0] (.v (.bool (possW s p n m))) := by
  refine spec_of mixed Tryz.func89 (by decide) rfl Tryz.results89 Tryz.ntmps89 (by decide) 0 (by simp) ?_
  simp [inC, SeaD.cells, Stp.cells, Ned.cells, rdgL, spnL, boaL, glaL]
  refine pop_spec (Windows1_spec s p n m) rfl false (.inl (by simp [SeaD.cells, Stp.cells, Ned.cells, rdgL, spnL, boaL, glaL])) (.inl rfl) rfl (by simp [lookC, SeaD.cells, Stp.cells, Ned.cells, rdgL, spnL, boaL, glaL]) ?_
  simp
  refine pop_spec (possibly_spec s p n m hs hp hn hm ce cn) rfl false (.inl (by simp [lookC, SeaD.cells, Stp.cells, Ned.cells, rdgL, spnL, boaL, glaL])) (.inl rfl) rfl (by simp) ?_
  simp
  refine answers_of rfl ?_; simp
def sureWs (s : SeaD) (p : Stp) (n : Ned) : List Spn := spansP (fun t => sureW s p n t) 1441
def possWs (s : SeaD) (p : Stp) (n : Ned) : List Spn := spansP (fun t => possW s p n t) 1441
def windowsR (s : SeaD) (p : Stp) (n : Ned) : PV := if askedE s p n 0 = 0 then .tup [spnL (sureWs s p n), spnL (possWs s p n), .v (.int .i64 0)] else .tup [.nil, .nil, .v (.int .i64 (askedE s p n 0))]
theorem Windows_spec (s : SeaD) (p : Stp) (n : Ned) (hm : SeaMem s) : Spec Tryz.prog 25 [.agg s.cells, .agg p.cells, .agg n.cells] (windowsR s p n) := by
  have hask := asked_spec s p n 0 hm
  refine spec_of mixed Tryz.func25 (by decide) rfl Tryz.results25 Tryz.ntmps25 (by decide) 0 (by simp) ?_
  simp [SeaD.cells, Stp.cells, Ned.cells, rdgL, spnL, boaL, glaL]
  refine pop_spec hask rfl false (.inl (by simp [lookC, SeaD.cells, Stp.cells, Ned.cells, rdgL, spnL, boaL, glaL])) (.inl rfl) rfl (by simp) ?_
  by_cases h0 : askedE s p n 0 = 0
  rotate_left
  · simp [h0]
    refine answers_of rfl ?_; simp [windowsR, h0]
  have ho := asked_ok h0
  have hw2 := windows_spec 88 [.rp [inC s p n] 0] rfl (fun t => sureW s p n t) fun k hk => Windows2_spec s p n k ho.sea ho.strip ho.need (by omega) ho.east ho.north
  have hw3 := windows_spec 89 [.rp [inC s p n] 0] rfl (fun t => possW s p n t) fun k hk => Windows3_spec s p n k ho.sea ho.strip ho.need (by omega) ho.east ho.north
  simp [h0]
  refine pop_specF [(3, .rp s.cells 0), (4, .rp p.cells 0), (5, .rp n.cells 0), (11, .rp [inC s p n] 0), (21, inC s p n), (22, .clo (.func 88) [] [.rp [inC s p n] 0])] ?_ hw2 rfl false (.inl (by simp [inC, SeaD.cells, Stp.cells, Ned.cells, rdgL, spnL, boaL, glaL])) (.inl rfl) rfl (by simp [spnL]) ?_
  · simp [inC, SeaD.cells, Stp.cells, Ned.cells, rdgL, spnL, boaL, glaL]
  simp
  refine pop_spec hw3 rfl false (.inl (by simp [inC, SeaD.cells, Stp.cells, Ned.cells, rdgL, spnL, boaL, glaL])) (.inl rfl) rfl (by simp [spnL]) ?_
  simp [spnL]
  refine answers_of rfl ?_; simp [windowsR, h0, sureWs, possWs, spnL]
end Go.Qg


namespace Go.Qg
open Go.Proofs
set_option maxRecDepth 100000
set_option maxHeartbeats 4000000
theorem fromN_true {f : Nat → Bool} : ∀ {n t : Nat}, 0 ≤ fromN f n t → ∃ u : Nat, fromN f n t = u ∧ u < t + n ∧ f u = true
  | 0, t, h => by simp [fromN] at h
  | n + 1, t, h => by
    unfold fromN at h ⊢
    split at h
    · rename_i hf
      rw [if_pos hf]
      exact ⟨t, rfl, by omega, hf⟩
    · rename_i hf
      rw [if_neg hf]
      obtain ⟨u, h1, h2, h3⟩ := fromN_true h
      exact ⟨u, h1, by omega, h3⟩
theorem fromI_true {f : Nat → Bool} {s : Int} (h : 0 ≤ fromI f s) : ∃ u : Nat, fromI f s = u ∧ f u = true := by
  obtain ⟨u, h1, _, h3⟩ := fromN_true h
  exact ⟨u, h1, h3⟩
theorem good_stable (c : Chn) {j i : Nat} (hi : c.legs.length ≤ i + j) : ∀ {k : Nat}, j ≤ k → k ≤ c.legs.length → goodR c k i = goodR c j i
  | 0, h1, _ => by
    obtain rfl : j = 0 := by omega
    rfl
  | k + 1, h1, h2 => by
    rcases Nat.lt_or_eq_of_le h1 with h | rfl
    · have ih := good_stable c hi (k := k) (by omega) (by omega)
      funext t
      simp only [goodR]
      rw [if_neg (by omega), ih]
    · rfl
theorem good_at (c : Chn) {i : Nat} (hi : i < c.legs.length) (t : Nat) : goodR c c.legs.length i t = (openB (hstAt c.stops i).windows t && decide (failsI c (goodR c c.legs.length (i + 1)) i t < 0)) := by
  obtain ⟨j, hj⟩ : ∃ j, c.legs.length = i + j + 1 := ⟨c.legs.length - 1 - i, by omega⟩
  rw [good_stable c (j := j + 1) (i := i) (by omega) (k := c.legs.length) (by omega) (Nat.le_refl _), good_stable c (j := j) (i := i + 1) (by omega) (k := c.legs.length) (by omega) (Nat.le_refl _)]
  simp only [goodR]
  rw [if_pos (by omega)]
theorem geti_snoc {l : List Int} {x : Int} {j : Nat} : geti (l ++ [x]) j = if j < l.length then geti l j else if j = l.length then x else 0 := by
  unfold geti
  by_cases h : j < l.length
  · rw [if_pos h]; simp [List.getElem?_append_left h, h]
  · rw [if_neg h]
    by_cases h2 : j = l.length
    · subst h2; simp
    · rw [if_neg h2, List.getD_eq_getElem?_getD, List.getElem?_eq_none (by simp; omega)]; rfl
theorem ride_law {c : Chn} {fl : List Int} {m0 : Nat} (hc : ChnOk c) (hf : fl.length = c.legs.length) (hl : ∀ k, k < fl.length → rlegB c fl k = true) (h0 : goodR c c.legs.length 0 m0 = true) : ∀ k, k ≤ fl.length →
    (k < fl.length → ∃ u : Nat, (rideS c (goodR c c.legs.length) fl m0 k).1 = u ∧ goodR c c.legs.length k u = true) ∧ ∀ j, j < (rideS c (goodR c c.legs.length) fl m0 k).2.length → openB (hstAt c.stops ((j + 1) / 2)).windows (geti (rideS c (goodR c c.legs.length) fl m0 k).2 j) = true := by
  have hlg := hc.legs
  have hn := hc.n
  intro k
  induction k with
  | zero =>
    intro _
    refine ⟨fun _ => ⟨m0, rfl, h0⟩, fun j hj => ?_⟩
    simp only [rideS, List.length_singleton] at hj
    obtain rfl : j = 0 := by omega
    rw [good_at c (by omega), Bool.and_eq_true] at h0
    simpa [rideS, geti] using h0.1
  | succ k ih =>
    intro hk
    obtain ⟨ih1, ih2⟩ := ih (by omega)
    obtain ⟨u, hu, hg⟩ := ih1 (by omega)
    have hlen := rideS_length c (goodR c c.legs.length) fl m0 k (by omega)
    rw [if_pos (by omega)] at hlen
    have hlb := hl k (by omega)
    simp only [rlegB, inB_spec] at hlb
    rw [good_at c (by omega), Bool.and_eq_true, decide_eq_true_eq, fails_neg (hc.leg k (by omega)).1] at hg
    have hgo := hg.2 (geti fl k) hlb.1 hlb.2
    rw [goesB, Bool.and_eq_true, Bool.or_eq_true, decide_eq_true_eq, decide_eq_true_eq] at hgo
    have e1 : (2 * k + 1 + 1) / 2 = k + 1 := by omega
    have e2 : (2 * k + 2 + 1) / 2 = k + 1 := by omega
    unfold rideS
    by_cases hk1 : k + 1 < fl.length
    · rw [if_pos hk1, hu]
      have hfr : 0 ≤ fromI (goodR c c.legs.length (k + 1)) ((u : Int) + geti fl k + (hstAt c.stops (k + 1)).turn) := by
        rcases hgo.2 with h | h
        · omega
        · exact h
      obtain ⟨v, hv, hgv⟩ := fromI_true hfr
      refine ⟨fun _ => ⟨v, hv, hgv⟩, fun j hj => ?_⟩
      simp only [List.length_append, List.length_singleton, hlen] at hj
      simp only [geti_snoc, List.length_append, List.length_singleton, hlen]
      by_cases hj1 : j < 2 * k + 1
      · rw [if_pos (by omega), if_pos hj1]
        exact ih2 j (by omega)
      · by_cases hj2 : j = 2 * k + 1
        · subst hj2
          rw [if_pos (by omega), if_neg (by omega), if_pos rfl, e1]
          exact hgo.1
        · obtain rfl : j = 2 * k + 2 := by omega
          rw [if_neg (by omega), if_pos (by omega), e2, hv]
          rw [good_at c (by omega), Bool.and_eq_true] at hgv
          exact hgv.1
    · rw [if_neg hk1, hu]
      refine ⟨fun h => (hk1 h).elim, fun j hj => ?_⟩
      simp only [List.length_append, List.length_singleton, hlen] at hj
      simp only [geti_snoc, hlen]
      by_cases hj1 : j < 2 * k + 1
      · rw [if_pos hj1]
        exact ih2 j (by omega)
      · obtain rfl : j = 2 * k + 1 := by omega
        rw [if_neg (by omega), if_pos rfl, e1]
        exact hgo.1
theorem spans_in {f : Nat → Bool} : ∀ {k i : Nat} {t : Int}, i < (spansP f k).length → (spnAt (spansP f k) i).low ≤ t → t ≤ (spnAt (spansP f k) i).high → ∃ u : Nat, t = u ∧ u < k ∧ f u = true
  | 0, i, t, h, _, _ => by simp [spansP] at h
  | k + 1, i, t, h, h1, h2 => by
    unfold spansP at h h1 h2
    split at h
    · rename_i hf
      rw [if_pos hf] at h1 h2
      split at h
      · rename_i hc
        rw [if_pos hc] at h1 h2
        simp only [List.length_set] at h
        by_cases hi : i = (spansP f k).length - 1
        · have es : spnAt ((spansP f k).set ((spansP f k).length - 1) ⟨(lastS (spansP f k)).low, k⟩) i = ⟨(lastS (spansP f k)).low, k⟩ := by
            subst hi
            simp [spnAt, List.getD, List.getElem?_set, h]
          rw [es] at h1 h2
          simp only at h1 h2
          by_cases ht : t = k
          · exact ⟨k, ht, by omega, hf⟩
          · obtain ⟨u, u1, u2, u3⟩ := spans_in (f := f) (k := k) (i := (spansP f k).length - 1) (t := t) (by omega) h1 (by
              have := hc.2
              simp only [lastS] at this
              omega)
            exact ⟨u, u1, by omega, u3⟩
        · have es : spnAt ((spansP f k).set ((spansP f k).length - 1) ⟨(lastS (spansP f k)).low, k⟩) i = spnAt (spansP f k) i := by
            simp [spnAt, List.getD, List.getElem?_set, show ¬ (spansP f k).length - 1 = i from fun e => hi e.symm]
          rw [es] at h1 h2
          obtain ⟨u, u1, u2, u3⟩ := spans_in (f := f) (k := k) h h1 h2
          exact ⟨u, u1, by omega, u3⟩
      · rename_i hc
        rw [if_neg hc] at h1 h2
        simp only [List.length_append, List.length_singleton] at h
        by_cases hi : i < (spansP f k).length
        · have es : spnAt (spansP f k ++ [⟨k, k⟩]) i = spnAt (spansP f k) i := by simp [spnAt, List.getD, List.getElem?_append_left hi, hi]
          rw [es] at h1 h2
          obtain ⟨u, u1, u2, u3⟩ := spans_in (f := f) (k := k) hi h1 h2
          exact ⟨u, u1, by omega, u3⟩
        · obtain rfl : i = (spansP f k).length := by omega
          have es : spnAt (spansP f k ++ [⟨k, k⟩]) (spansP f k).length = ⟨k, k⟩ := by simp [spnAt, List.getD]
          rw [es] at h1 h2
          simp only at h1 h2
          exact ⟨k, by omega, by omega, hf⟩
    · rename_i hf
      rw [if_neg hf] at h1 h2
      obtain ⟨u, u1, u2, u3⟩ := spans_in (f := f) (k := k) h h1 h2
      exact ⟨u, u1, by omega, u3⟩
theorem open_spans {f : Nat → Bool} {k : Nat} {t : Int} (h : openB (spansP f k) t = true) : ∃ u : Nat, t = u ∧ u < k ∧ f u = true := by
  simp only [openB, Bool.not_eq_true'] at h
  have : ∃ i, i < (spansP f k).length ∧ inB t (spnAt (spansP f k) i).low (spnAt (spansP f k) i).high = true := by
    apply Classical.byContradiction
    intro hno
    have hall : allN (spansP f k).length (fun i => !inB t (spnAt (spansP f k) i).low (spnAt (spansP f k) i).high) = true := allN_spec.2 fun i hi => by
      cases hb : inB t (spnAt (spansP f k) i).low (spnAt (spansP f k) i).high with
      | false => rfl
      | true => exact (hno ⟨i, hi, hb⟩).elim
    rw [hall] at h
    cases h
  obtain ⟨i, hi, hb⟩ := this
  have hb := inB_spec.1 hb
  exact spans_in hi hb.1 hb.2
theorem asked_move {s : SeaD} {p : Stp} {n : Ned} {m : Int} (h : askedE s p n 0 = 0) (hm : 0 ≤ m ∧ m ≤ 1440) : askedE s p n m = 0 := by
  unfold askedE at h ⊢
  split at h
  · rename_i h1
    split at h
    · rename_i h2
      simp only [Bool.and_eq_true] at h1
      rw [if_pos (by simp only [Bool.and_eq_true]; exact ⟨h1.1, inB_spec.2 hm⟩), if_pos h2]
    · omega
  · omega
end Go.Qg


namespace Go.Qg
open Go.Proofs
set_option maxRecDepth 100000
set_option maxHeartbeats 32000000
attribute [local simp 2000] List.getElem?_cons_succ List.getElem?_cons_zero
attribute [local irreducible] pwp pops pdraw pop popCall pdCall thenP blockP scopeP pspec Spec answers ppost CallW rend
theorem t1Times_spec (s : Spn) : Spec Tryz.prog 124 [.agg s.cells] (.v (.bool (spanB s 0 1440))) := by
  refine spec_of mixed Tryz.func124 (by decide) rfl Tryz.results124 Tryz.ntmps124 (by decide) 0 (by simp) ?_
  simp [Spn.cells]
  refine pop_spec (t1Span_spec s 0 1440) rfl false (.inl (by simp [Spn.cells])) (.inl rfl) rfl (by simp) ?_
  simp
  refine answers_of rfl ?_; simp
theorem t1Way_spec (w : Int) : Spec Tryz.prog 60 [.v (.int .i64 w)] (.v (.bool (wayB w))) := by
  refine spec_of mixed Tryz.func60 (by decide) rfl Tryz.results60 Tryz.ntmps60 (by decide) 0 (by simp) ?_
  by_cases h1 : 1 ≤ w
  · by_cases h2 : w ≤ 8 <;> (simp [h1, h2]; refine answers_of rfl ?_; simp [wayB, h1, h2])
  · simp [h1]; refine answers_of rfl ?_; simp [wayB, h1]
theorem t1Steps_spec (w : Int) (hw : 1 ≤ w ∧ w ≤ 8) : Spec Tryz.prog 61 [.v (.int .i64 w)] (.tup [.v (.int .i64 (stepX w)), .v (.int .i64 (stepY w))]) := by
  obtain rfl | rfl | rfl | rfl | rfl | rfl | rfl | rfl : w = 1 ∨ w = 2 ∨ w = 3 ∨ w = 4 ∨ w = 5 ∨ w = 6 ∨ w = 7 ∨ w = 8 := by omega
  all_goals
    refine spec_of mixed Tryz.func61 (by decide) rfl Tryz.results61 Tryz.ntmps61 (by decide) 0 (by simp) ?_
    simp
    refine pwp_draw 12 (by decide) ?_
    simp
    refine ⟨by decide, ?_⟩
    refine answers_of rfl ?_
    simp [stepX, stepY]
theorem t1Sea_spec (s : SeaD) (hs : SeaMem s) : Spec Tryz.prog 47 [.agg s.cells] (.v (.bool (seaB s))) := by
  have hwt := t1Weather_spec ⟨s.tide, s.east, s.north, s.wave, s.swell⟩ ⟨hs.tide, hs.east, hs.north, hs.wave, hs.swell⟩
  rw [show weatherB ⟨s.tide, s.east, s.north, s.wave, s.swell⟩ = weatherS s from rfl] at hwt
  simp only [Wth.cells, wthC, rdgL] at hwt
  refine spec_of mixed Tryz.func47 (by decide) rfl Tryz.results47 Tryz.ntmps47 (by decide) 0 (by simp) ?_
  simp [SeaD.cells, rdgL, spnL, boaL, glaL]
  refine pop_spec (t1in_spec s.wide 1 12) rfl false (.inl (by simp)) (.inl rfl) rfl (by simp) ?_
  cases h1 : inB s.wide 1 12 with
  | false => simp; refine answers_of rfl ?_; simp [seaB, h1]
  | true =>
  simp
  refine pop_spec (t1in_spec s.deep 1 12) rfl false (.inl (by simp)) (.inl rfl) rfl (by simp) ?_
  cases h2 : inB s.deep 1 12 with
  | false => simp; refine answers_of rfl ?_; simp [seaB, h2]
  | true =>
  have g1 := inB_spec.1 h1
  have g2 := inB_spec.1 h2
  have hm : s.wide * s.deep ≤ 144 := Int.le_trans (Int.mul_le_mul g1.2 g2.2 (by omega) (by omega)) (by omega)
  have hm0 : 0 ≤ s.wide * s.deep := Int.mul_nonneg (by omega) (by omega)
  have wm := i64_wrap (show -9223372036854775808 ≤ s.wide * s.deep ∧ _ from by omega)
  have ww := i64_wrap (show -9223372036854775808 ≤ s.wide - 1 ∧ _ from by omega)
  have wd := i64_wrap (show -9223372036854775808 ≤ s.deep - 1 ∧ _ from by omega)
  by_cases h3 : (s.depths.length : Int) = s.wide * s.deep
  rotate_left
  · simp [wm, h3]; refine answers_of rfl ?_; simp [seaB, h3]
  simp [wm, eq_true h3]
  refine pop_spec hwt rfl false (.inl (by simp)) (.inl rfl) rfl (by simp) ?_
  cases h6 : weatherS s with
  | false => simp [wm, eq_true h3]; refine answers_of rfl ?_; simp [seaB, h6]
  | true =>
  by_cases h4 : s.boats.length ≤ 12
  rotate_left
  · simp [wm, eq_true h3, show (12 : Int) < s.boats.length from by omega]; refine answers_of rfl ?_; simp [seaB, h4]
  by_cases h5 : s.glares.length ≤ 6
  rotate_left
  · simp [wm, eq_true h3, show (s.boats.length : Int) ≤ 12 from by omega, show ¬ (12 : Int) < s.boats.length from by omega, show (6 : Int) < s.glares.length from by omega]; refine answers_of rfl ?_; simp [seaB, h5]
  simp [wm, eq_true h3, show (s.boats.length : Int) ≤ 12 from by omega, show ¬ (12 : Int) < s.boats.length from by omega, show (s.glares.length : Int) ≤ 6 from by omega, show ¬ (6 : Int) < s.glares.length from by omega]
  refine pwp_loop (fun k : Nat => [(3, .v (.int .i64 k))]) (fun k => k ≤ s.depths.length ∧ ∀ j, j < k → spanB (spnAt s.depths j) (-5000) 5000 = true) (fun k => s.depths.length - k) 0 ⟨Nat.zero_le _, fun j hj => by omega⟩ (by simp; rfl) (by simp) ?_
  intro k ⟨hk, hp⟩
  by_cases hkl : k < s.depths.length
  · have hsc : (spnAt s.depths k).cells = [.v (.int .i64 (spnAt s.depths k).low), .v (.int .i64 (spnAt s.depths k).high)] := rfl
    simp [hkl, hsc]
    refine pop_spec (t1Span_spec (spnAt s.depths k) (-5000) 5000) rfl false (.inl (by simp [hsc])) (.inl rfl) rfl (by simp) ?_
    cases h7 : spanB (spnAt s.depths k) (-5000) 5000 with
    | false =>
      simp
      refine answers_of rfl ?_
      simp [seaB, allN_false (p := fun k => spanB (spnAt s.depths k) (-5000) 5000) hkl h7]
    | true =>
      simp
      refine again_of (k + 1) ⟨by omega, fun j hj => ?_⟩ (by omega) ?_
      · rcases Nat.lt_succ_iff_lt_or_eq.1 hj with hj | rfl
        · exact hp j hj
        · exact h7
      · simp [i64_wrap (show -9223372036854775808 ≤ (k : Int) + 1 ∧ _ from by omega)]
  · obtain rfl : k = s.depths.length := by omega
    have ha := allN_spec.2 hp
    simp
    refine pwp_loop (fun k : Nat => [(4, .v (.int .i64 k))]) (fun k => k ≤ s.boats.length ∧ ∀ j, j < k → boaB s (boaAt s.boats j) = true) (fun k => s.boats.length - k) 0 ⟨Nat.zero_le _, fun j hj => by omega⟩ (by simp; rfl) (by simp) ?_
    intro k ⟨hk, hp⟩
    by_cases hkl : k < s.boats.length
    · have no : boaB s (boaAt s.boats k) = false → seaB s = false := fun h => by simp [seaB, allN_false (p := fun k => boaB s (boaAt s.boats k)) hkl h]
      simp [hkl, Boa.cells, ww]
      refine pop_spec (t1Span_spec (boaAt s.boats k).x 0 (s.wide - 1)) rfl false (.inl (by simp [Spn.cells])) (.inl rfl) rfl (by simp) ?_
      cases h8 : spanB (boaAt s.boats k).x 0 (s.wide - 1) with
      | false => simp; refine answers_of rfl ?_; simp [no (by simp [boaB, h8])]
      | true =>
      simp [wd]
      refine pop_spec (t1Span_spec (boaAt s.boats k).y 0 (s.deep - 1)) rfl false (.inl (by simp [Spn.cells])) (.inl rfl) rfl (by simp) ?_
      cases h9 : spanB (boaAt s.boats k).y 0 (s.deep - 1) with
      | false => simp; refine answers_of rfl ?_; simp [no (by simp [boaB, h9])]
      | true =>
      simp
      refine pop_spec (t1Times_spec (boaAt s.boats k).times) rfl false (.inl (by simp [Spn.cells])) (.inl rfl) rfl (by simp) ?_
      cases h10 : spanB (boaAt s.boats k).times 0 1440 with
      | false => simp; refine answers_of rfl ?_; simp [no (by simp [boaB, h10])]
      | true =>
      simp
      refine again_of (k + 1) ⟨by omega, fun j hj => ?_⟩ (by omega) ?_
      · rcases Nat.lt_succ_iff_lt_or_eq.1 hj with hj | rfl
        · exact hp j hj
        · simp [boaB, h8, h9, h10]
      · simp [i64_wrap (show -9223372036854775808 ≤ (k : Int) + 1 ∧ _ from by omega)]
    · obtain rfl : k = s.boats.length := by omega
      have hb := allN_spec.2 hp
      simp
      refine pwp_loop (fun k : Nat => [(6, .v (.int .i64 k))]) (fun k => k ≤ s.glares.length ∧ ∀ j, j < k → glaB (glaAt s.glares j) = true) (fun k => s.glares.length - k) 0 ⟨Nat.zero_le _, fun j hj => by omega⟩ (by simp; rfl) (by simp) ?_
      intro k ⟨hk, hp⟩
      by_cases hkl : k < s.glares.length
      · have no : glaB (glaAt s.glares k) = false → seaB s = false := fun h => by simp [seaB, allN_false (p := fun k => glaB (glaAt s.glares k)) hkl h]
        simp [hkl, Gla.cells]
        refine pop_spec (t1Way_spec (glaAt s.glares k).way) rfl false (.inl (by simp)) (.inl rfl) rfl (by simp) ?_
        cases h11 : wayB (glaAt s.glares k).way with
        | false => simp; refine answers_of rfl ?_; simp [no (by simp [glaB, h11])]
        | true =>
        simp [hkl, Gla.cells]
        refine pop_spec (t1Times_spec (glaAt s.glares k).times) rfl false (.inl (by simp [Spn.cells])) (.inl rfl) rfl (by simp) ?_
        cases h12 : spanB (glaAt s.glares k).times 0 1440 with
        | false => simp; refine answers_of rfl ?_; simp [no (by simp [glaB, h12])]
        | true =>
        simp
        refine again_of (k + 1) ⟨by omega, fun j hj => ?_⟩ (by omega) ?_
        · rcases Nat.lt_succ_iff_lt_or_eq.1 hj with hj | rfl
          · exact hp j hj
          · simp [glaB, h11, h12]
        · simp [i64_wrap (show -9223372036854775808 ≤ (k : Int) + 1 ∧ _ from by omega)]
      · obtain rfl : k = s.glares.length := by omega
        have hc := allN_spec.2 hp
        simp
        refine answers_of rfl ?_
        simp [seaB, h1, h2, h3, h4, h5, h6, ha, hb, hc]
theorem t1Strip_spec (s : SeaD) (p : Stp) (hs : SeaOk s) : Spec Tryz.prog 19 [.agg s.cells, .agg p.cells] (.v (.bool (stripB s p))) := by
  have hw := hs.wide
  have hd := hs.deep
  have ww := i64_wrap (show -9223372036854775808 ≤ s.wide - 1 ∧ _ from by omega)
  have wd := i64_wrap (show -9223372036854775808 ≤ s.deep - 1 ∧ _ from by omega)
  refine spec_of mixed Tryz.func19 (by decide) rfl Tryz.results19 Tryz.ntmps19 (by decide) 0 (by simp) ?_
  simp [SeaD.cells, rdgL, spnL, boaL, glaL, Stp.cells]
  refine pop_spec (t1Way_spec p.way) rfl false (.inl (by simp)) (.inl rfl) rfl (by simp) ?_
  cases h1 : wayB p.way with
  | false => simp; refine answers_of rfl ?_; simp [stripB, h1]
  | true =>
  simp
  refine pop_spec (t1in_spec p.cells_ 1 12) rfl false (.inl (by simp)) (.inl rfl) rfl (by simp) ?_
  cases h2 : inB p.cells_ 1 12 with
  | false => simp; refine answers_of rfl ?_; simp [stripB, h2]
  | true =>
  simp [ww]
  refine pop_spec (t1in_spec p.x 0 (s.wide - 1)) rfl false (.inl (by simp)) (.inl rfl) rfl (by simp) ?_
  cases h3 : inB p.x 0 (s.wide - 1) with
  | false => simp; refine answers_of rfl ?_; simp [stripB, h3]
  | true =>
  simp [wd]
  refine pop_spec (t1in_spec p.y 0 (s.deep - 1)) rfl false (.inl (by simp)) (.inl rfl) rfl (by simp) ?_
  cases h4 : inB p.y 0 (s.deep - 1) with
  | false => simp; refine answers_of rfl ?_; simp [stripB, h4]
  | true =>
  have g1 : 1 ≤ p.way ∧ p.way ≤ 8 := by simpa [wayB] using h1
  have g2 := inB_spec.1 h2
  have g3 := inB_spec.1 h3
  have g4 := inB_spec.1 h4
  have wc := i64_wrap (show -9223372036854775808 ≤ p.cells_ - 1 ∧ _ from by omega)
  obtain ⟨sx, sy⟩ := step_cases p.way
  have bx : -12 ≤ stepX p.way * (p.cells_ - 1) ∧ stepX p.way * (p.cells_ - 1) ≤ 12 := by rcases sx with h | h | h <;> rw [h] <;> omega
  have by' : -12 ≤ stepY p.way * (p.cells_ - 1) ∧ stepY p.way * (p.cells_ - 1) ≤ 12 := by rcases sy with h | h | h <;> rw [h] <;> omega
  have w1 := i64_wrap (show -9223372036854775808 ≤ stepX p.way * (p.cells_ - 1) ∧ _ from by omega)
  have w2 := i64_wrap (show -9223372036854775808 ≤ stepY p.way * (p.cells_ - 1) ∧ _ from by omega)
  have w3 := i64_wrap (show -9223372036854775808 ≤ p.x + stepX p.way * (p.cells_ - 1) ∧ _ from by omega)
  have w4 := i64_wrap (show -9223372036854775808 ≤ p.y + stepY p.way * (p.cells_ - 1) ∧ _ from by omega)
  simp
  refine pop_spec (t1Steps_spec p.way g1) rfl false (.inl (by simp)) (.inl rfl) rfl (by simp) ?_
  simp [ww, wc, w1, w3]
  refine pop_spec (t1in_spec (p.x + stepX p.way * (p.cells_ - 1)) 0 (s.wide - 1)) rfl false (.inl (by simp)) (.inl rfl) rfl (by simp) ?_
  cases h5 : inB (p.x + stepX p.way * (p.cells_ - 1)) 0 (s.wide - 1) with
  | false => simp; refine answers_of rfl ?_; simp [stripB, h5]
  | true =>
  simp [wd, wc, w2, w4]
  refine pop_spec (t1in_spec (p.y + stepY p.way * (p.cells_ - 1)) 0 (s.deep - 1)) rfl false (.inl (by simp)) (.inl rfl) rfl (by simp) ?_
  simp
  refine answers_of rfl ?_; simp [stripB, h1, h2, h3, h4, h5]
theorem t1Need_spec (n : Ned) : Spec Tryz.prog 14 [.agg n.cells] (.v (.bool (needB n))) := by
  have hsp : spanB ⟨n.calm, n.wave⟩ 0 2000 = (inB n.calm 0 n.wave && decide (n.wave ≤ 2000)) := rfl
  refine spec_of mixed Tryz.func14 (by decide) rfl Tryz.results14 Tryz.ntmps14 (by decide) 0 (by simp) ?_
  simp [Ned.cells]
  refine pop_spec (t1in_spec n.draught 0 5000) rfl false (.inl (by simp)) (.inl rfl) rfl (by simp) ?_
  cases h1 : inB n.draught 0 5000 with
  | false => simp; refine answers_of rfl ?_; simp [needB, h1]
  | true =>
  simp
  refine pop_spec (t1in_spec n.run 1 12) rfl false (.inl (by simp)) (.inl rfl) rfl (by simp) ?_
  cases h2 : inB n.run 1 12 with
  | false => simp; refine answers_of rfl ?_; simp [needB, h2]
  | true =>
  simp
  refine pop_spec (t1in_spec n.cross 0 300) rfl false (.inl (by simp)) (.inl rfl) rfl (by simp) ?_
  cases h3 : inB n.cross 0 300 with
  | false => simp; refine answers_of rfl ?_; simp [needB, h3]
  | true =>
  simp
  refine pop_spec (t1in_spec n.tail 0 300) rfl false (.inl (by simp)) (.inl rfl) rfl (by simp) ?_
  cases h4 : inB n.tail 0 300 with
  | false => simp; refine answers_of rfl ?_; simp [needB, h4]
  | true =>
  simp
  refine pop_spec (t1Span_spec ⟨n.calm, n.wave⟩ 0 2000) rfl false (.inl (by simp [Spn.cells])) (.inl rfl) rfl (by simp) ?_
  cases h5 : spanB ⟨n.calm, n.wave⟩ 0 2000 with
  | false =>
    rw [hsp] at h5
    have : needB n = false := by
      rw [needB, Bool.and_assoc (_ && _ && _ && _) (inB n.calm 0 n.wave), h5]
      simp
    simp; refine answers_of rfl ?_; simp [this]
  | true =>
  rw [hsp, Bool.and_eq_true] at h5
  simp
  refine pop_spec (t1in_spec n.swell 0 2000) rfl false (.inl (by simp)) (.inl rfl) rfl (by simp) ?_
  simp
  refine answers_of rfl ?_; simp [needB, h1, h2, h3, h4, h5.1, h5.2]
  first | done | (have := h5.2; simp at this; simp [this])
end Go.Qg


namespace Go.Qg
open Go.Proofs
set_option maxRecDepth 100000
set_option maxHeartbeats 32000000
attribute [local simp 2000] List.getElem?_cons_succ List.getElem?_cons_zero
attribute [local irreducible] pwp pops pdraw pop popCall pdCall thenP blockP scopeP pspec Spec answers ppost CallW rend
theorem range_20 : List.range 20 = [0, 1, 2, 3, 4, 5, 6, 7, 8, 9, 10, 11, 12, 13, 14, 15, 16, 17, 18, 19] := rfl
theorem t1gap_spec (a b : Int) (ha : Small 1000000 a) (hb : Small 1000000 b) : Spec Tryz.prog 128 [.v (.int .i64 a), .v (.int .i64 b)] (.v (.int .i64 (farI a b))) := by
  simp only [Small] at ha hb
  have w1 := i64_wrap (show -9223372036854775808 ≤ a - b ∧ _ from by omega)
  have w2 := i64_wrap (show -9223372036854775808 ≤ b - a ∧ _ from by omega)
  refine spec_of mixed Tryz.func128 (by decide) rfl Tryz.results128 Tryz.ntmps128 (by decide) 0 (by simp) ?_
  simp [w1, w2]
  refine answers_of rfl ?_
  simp [farI]
  first | done | omega | (split <;> omega)
theorem t1At_spec (g : Gge) (t : Int) (hg : GgeOk g) (ht : 0 ≤ t ∧ t ≤ 1440) : Spec Tryz.prog 59 [.agg g.cells, .v (.int .i64 t)] (.agg (atS g t).cells) := by
  have hn := hg.n
  refine spec_of mixed Tryz.func59 (by decide) rfl Tryz.results59 Tryz.ntmps59 (by decide) 0 (by simp) ?_
  simp [Gge.cells, rdgL]
  refine pwp_loop (fun k : Nat => [(5, .box true [.v (.int .i64 (loK g t k)), .v (.int .i64 (hiK g t k))]), (6, .v (.int .i64 k))]) (fun k => k ≤ g.readings.length) (fun k => g.readings.length - k) 0 (Nat.zero_le _) (by simp; rfl) (by simp [loK, hiK]) ?_
  intro k hk
  by_cases hkl : k < g.readings.length
  · have hd := drop_small hg ht hkl
    have hr := hg.rd k hkl
    have hK := K_small hg ht hk
    simp only [Small] at hK
    have e1 := loK_succ (g := g) (t := t) hkl
    have e2 := (hiK_succ (g := g) (t := t) hkl).trans (Int.min_comm _ _)
    have w1 := i64_wrap (show -9223372036854775808 ≤ g.rate * farI (rdgAt g.readings k).minute t ∧ _ from by omega)
    have w2 := i64_wrap (show -9223372036854775808 ≤ (rdgAt g.readings k).low - g.rate * farI (rdgAt g.readings k).minute t ∧ _ from by omega)
    have w3 := i64_wrap (show -9223372036854775808 ≤ (rdgAt g.readings k).high + g.rate * farI (rdgAt g.readings k).minute t ∧ _ from by omega)
    simp [hkl, Rdg.cells]
    refine pwp_draw 8 (by decide) ?_
    simp
    refine pd_spec (t1gap_spec (rdgAt g.readings k).minute t (by simp only [Small]; omega) (by simp only [Small]; omega)) (by simp) (by simp) (by simp) rfl ?_
    simp
    refine ⟨by decide, ?_⟩
    simp [w1]
    refine pwp_draw 20 (by decide) ?_
    simp [w2, w3, max_if, max_if', max_le, min_if, min_if', min_le]
    refine ⟨by decide, ?_⟩
    refine again_of (k + 1) (by omega) (by omega) ?_
    simp [i64_wrap (show -9223372036854775808 ≤ (k : Int) + 1 ∧ _ from by omega), e1, e2]
  · obtain rfl : k = g.readings.length := by omega
    rw [loK_end, hiK_end]
    simp
    refine answers_of (x := .agg (atS g t).cells) (by simp [Spn.cells, atS]) ?_
    simp [Spn.cells]
theorem t1Clash_spec (g : Gge) (hg : GgeOk g) : Spec Tryz.prog 125 [.agg g.cells] (.tup (clashR g)) := by
  have hn := hg.n
  refine spec_of mixed Tryz.func125 (by decide) rfl Tryz.results125 Tryz.ntmps125 (by decide) 0 (by simp) ?_
  simp [Gge.cells, rdgL]
  refine pwp_loop (fun k : Nat => [(5, .v (.int .i64 k))]) (fun k => k ≤ g.readings.length ∧ firstI g k = none) (fun k => g.readings.length - k) 0 ⟨Nat.zero_le _, rfl⟩ (by simp; rfl) (by simp) ?_
  intro i ⟨hi, hf⟩
  by_cases hil : i < g.readings.length
  · have wi := i64_wrap (show -9223372036854775808 ≤ (i : Int) + 1 ∧ _ from by omega)
    have fin : ∀ j, (if oneC g i = true then some (i, i) else (firstJ g i g.readings.length).map fun j => (i, j)) = some (i, j) → clashR g = [.v (.int .i64 i), .v (.int .i64 j), .v (.bool true)] := fun j hj => by
      have : firstI g (i + 1) = some (i, j) := by simp only [firstI, hf]; exact hj
      simp only [clashR, firstI_some (show i + 1 ≤ g.readings.length by omega) this]
    by_cases c1 : g.most < (rdgAt g.readings i).low
    · simp [hil, Rdg.cells, c1]
      refine answers_of rfl ?_
      rw [fin i (by simp [oneC, c1])]
      simp
    · by_cases c2 : (rdgAt g.readings i).high < g.least
      · simp [hil, Rdg.cells, c1, c2]
        refine answers_of rfl ?_
        rw [fin i (by simp [oneC, c2])]
        simp
      · have ho : oneC g i = false := by simp [oneC]; omega
        rw [ho] at fin
        simp only [Bool.false_eq_true, if_false] at fin
        simp [hil, Rdg.cells, c1, c2, show ¬ g.most < (rdgAt g.readings i).low from c1]
        rw [wi]
        refine pwp_loop (fun j : Nat => [(7, .v (.int .i64 j))]) (fun j => i < j ∧ j ≤ g.readings.length ∧ firstJ g i j = none) (fun j => g.readings.length - j) (i + 1) ⟨by omega, by omega, firstJ_none.2 fun j h1 h2 => by omega⟩ (by simp; rfl) (by simp) ?_
        intro j ⟨hij, hj, hfj⟩
        by_cases hjl : j < g.readings.length
        · have wj := i64_wrap (show -9223372036854775808 ≤ (j : Int) + 1 ∧ _ from by omega)
          have r1 := hg.rd i hil
          have r2 := hg.rd j hjl
          have d0 : 0 ≤ farI (rdgAt g.readings i).minute (rdgAt g.readings j).minute ∧ farI (rdgAt g.readings i).minute (rdgAt g.readings j).minute ≤ 1440 := by unfold farI; omega
          have d1 : g.rate * farI (rdgAt g.readings i).minute (rdgAt g.readings j).minute ≤ 1440000 := Int.le_trans (Int.mul_le_mul hg.rate.2 d0.2 d0.1 (by omega)) (by omega)
          have d2 := Int.mul_nonneg hg.rate.1 d0.1
          have w1 := i64_wrap (show -9223372036854775808 ≤ g.rate * farI (rdgAt g.readings i).minute (rdgAt g.readings j).minute ∧ _ from by omega)
          have w2 := i64_wrap (show -9223372036854775808 ≤ (rdgAt g.readings i).low - (rdgAt g.readings j).high ∧ _ from by omega)
          have w3 := i64_wrap (show -9223372036854775808 ≤ (rdgAt g.readings j).low - (rdgAt g.readings i).high ∧ _ from by omega)
          simp [hjl, Rdg.cells]
          refine pwp_draw 9 (by decide) ?_
          simp
          refine pd_spec (t1gap_spec (rdgAt g.readings i).minute (rdgAt g.readings j).minute (by simp only [Small]; omega) (by simp only [Small]; omega)) (by simp) (by simp) (by simp) rfl ?_
          simp [w1]
          refine ⟨by decide, ?_⟩
          have hj1 : twoC g i j = true → firstJ g i (j + 1) = some j := fun h => by simp [firstJ, hfj, hij, h]
          have hj0 : twoC g i j = false → firstJ g i (j + 1) = none := fun h => by simp [firstJ, hfj, h]
          obtain ⟨D, hD⟩ : ∃ D, g.rate * farI (rdgAt g.readings i).minute (rdgAt g.readings j).minute = D := ⟨_, rfl⟩
          obtain ⟨X, hX⟩ : ∃ X, (rdgAt g.readings i).low - (rdgAt g.readings j).high = X := ⟨_, rfl⟩
          obtain ⟨Y, hY⟩ : ∃ Y, (rdgAt g.readings j).low - (rdgAt g.readings i).high = Y := ⟨_, rfl⟩
          have htw : twoC g i j = decide (D < max X Y) := by rw [twoC, hD, hX, hY]
          rw [htw] at hj1 hj0
          rw [hX] at w2
          rw [hY] at w3
          rw [hD]
          by_cases ht1 : D < X
          · have hj' := hj1 (by simp only [decide_eq_true_eq]; omega)
            simp [w2, w3, hX, hY, ht1, show ¬ X ≤ D from by omega]
            refine answers_of rfl ?_
            rw [fin j (by rw [firstJ_some (show j + 1 ≤ g.readings.length by omega) hj']; rfl)]
            simp
          · by_cases ht2 : D < Y
            · have hj' := hj1 (by simp only [decide_eq_true_eq]; omega)
              simp [w2, w3, hX, hY, ht1, ht2, show X ≤ D from by omega, show ¬ Y ≤ D from by omega]
              refine answers_of rfl ?_
              rw [fin j (by rw [firstJ_some (show j + 1 ≤ g.readings.length by omega) hj']; rfl)]
              simp
            · have hj' := hj0 (by simp only [decide_eq_false_iff_not]; omega)
              simp [w2, w3, hX, hY, ht1, ht2, show X ≤ D from by omega, show Y ≤ D from by omega]
              refine again_of (j + 1) ⟨by omega, by omega, hj'⟩ (by omega) ?_
              simp [wj]
        · obtain rfl : j = g.readings.length := by omega
          simp
          refine again_of (i + 1) ⟨by omega, by simp [firstI, hf, ho, hfj]⟩ (by omega) ?_
          simp [wi]
  · obtain rfl : i = g.readings.length := by omega
    simp
    refine answers_of rfl ?_
    simp [clashR, hf]
theorem clashR_third (g : Gge) : ∃ x y, clashR g = [.v (.int .i64 x), .v (.int .i64 y), .v (.bool (!runsB g))] := by
  unfold clashR runsB
  cases h : firstI g g.readings.length with
  | none => exact ⟨0, 0, rfl⟩
  | some x => exact ⟨x.1, x.2, rfl⟩
theorem t1Sound_spec (w : Wth) (h1 : GgeOk w.tide) (h2 : GgeOk w.east) (h3 : GgeOk w.north) (h4 : GgeOk w.wave) (h5 : GgeOk w.swell) : Spec Tryz.prog 48 [.agg w.cells] (.v (.bool (runsB w.tide && (runsB w.east && (runsB w.north && (runsB w.wave && runsB w.swell)))))) := by
  have r1 := t1Clash_spec w.tide h1
  have r2 := t1Clash_spec w.east h2
  have r3 := t1Clash_spec w.north h3
  have r4 := t1Clash_spec w.wave h4
  have r5 := t1Clash_spec w.swell h5
  obtain ⟨x1, y1, e1⟩ := clashR_third w.tide
  obtain ⟨x2, y2, e2⟩ := clashR_third w.east
  obtain ⟨x3, y3, e3⟩ := clashR_third w.north
  obtain ⟨x4, y4, e4⟩ := clashR_third w.wave
  obtain ⟨x5, y5, e5⟩ := clashR_third w.swell
  rw [e1] at r1
  rw [e2] at r2
  rw [e3] at r3
  rw [e4] at r4
  rw [e5] at r5
  simp only [Gge.cells, rdgL] at r1 r2 r3 r4 r5
  refine spec_of mixed Tryz.func48 (by decide) rfl Tryz.results48 Tryz.ntmps48 (by decide) 0 (by simp) ?_
  simp [Wth.cells, wthC, rdgL, range_20]
  refine pwp_loop (fun k : Nat => [(4, .v (.int .i64 k))]) (fun k => k ≤ 5 ∧ (1 ≤ k → runsB w.tide = true) ∧ (2 ≤ k → runsB w.east = true) ∧ (3 ≤ k → runsB w.north = true) ∧ (4 ≤ k → runsB w.wave = true) ∧ (5 ≤ k → runsB w.swell = true)) (fun k => 5 - k) 0 ⟨by omega, by omega, by omega, by omega, by omega, by omega⟩ (by simp; rfl) (by simp) ?_
  intro k ⟨hk, q1, q2, q3, q4, q5⟩
  obtain rfl | rfl | rfl | rfl | rfl | rfl : k = 0 ∨ k = 1 ∨ k = 2 ∨ k = 3 ∨ k = 4 ∨ k = 5 := by omega
  · simp
    refine pop_spec r1 rfl false (.inl (by simp)) (.inl rfl) rfl (by simp) ?_
    cases h : runsB w.tide with
    | false => simp; refine answers_of rfl ?_; simp [h]
    | true =>
      simp
      refine again_of 1 (by simp [h]) (by omega) ?_
      simp
  · simp
    refine pop_spec r2 rfl false (.inl (by simp)) (.inl rfl) rfl (by simp) ?_
    cases h : runsB w.east with
    | false => simp; refine answers_of rfl ?_; simp [h]
    | true =>
      simp
      refine again_of 2 (by simp [q1 (by omega), h]) (by omega) ?_
      simp
  · simp
    refine pop_spec r3 rfl false (.inl (by simp)) (.inl rfl) rfl (by simp) ?_
    cases h : runsB w.north with
    | false => simp; refine answers_of rfl ?_; simp [h]
    | true =>
      simp
      refine again_of 3 (by simp [q1 (by omega), q2 (by omega), h]) (by omega) ?_
      simp
  · simp
    refine pop_spec r4 rfl false (.inl (by simp)) (.inl rfl) rfl (by simp) ?_
    cases h : runsB w.wave with
    | false => simp; refine answers_of rfl ?_; simp [h]
    | true =>
      simp
      refine again_of 4 (by simp [q1 (by omega), q2 (by omega), q3 (by omega), h]) (by omega) ?_
      simp
  · simp
    refine pop_spec r5 rfl false (.inl (by simp)) (.inl rfl) rfl (by simp) ?_
    cases h : runsB w.swell with
    | false => simp; refine answers_of rfl ?_; simp [h]
    | true =>
      simp
      refine again_of 5 (by simp [q1 (by omega), q2 (by omega), q3 (by omega), q4 (by omega), h]) (by omega) ?_
      simp
  · simp
    refine answers_of rfl ?_
    simp [q1 (by omega), q2 (by omega), q3 (by omega), q4 (by omega), q5 (by omega)]
theorem valL_all {t : Tru} : allN ([t.tide, t.east, t.north, t.wave, t.swell] ++ t.depths).length (fun k => valB (geti ([t.tide, t.east, t.north, t.wave, t.swell] ++ t.depths) k)) = (valB t.tide && valB t.east && valB t.north && valB t.wave && valB t.swell && allN t.depths.length (fun k => valB (geti t.depths k))) := by
  rw [Bool.eq_iff_iff]
  simp only [allN_spec, Bool.and_eq_true]
  constructor
  · intro h
    have g := fun k (hk : k < t.depths.length + 5) => h k (by simp; omega)
    refine ⟨⟨⟨⟨⟨by simpa [geti] using g 0 (by omega), by simpa [geti] using g 1 (by omega)⟩, by simpa [geti] using g 2 (by omega)⟩, by simpa [geti] using g 3 (by omega)⟩, by simpa [geti] using g 4 (by omega)⟩, fun k hk => ?_⟩
    have := g (k + 5) (by omega)
    simpa [geti] using this
  · rintro ⟨⟨⟨⟨⟨h0, h1⟩, h2⟩, h3⟩, h4⟩, h5⟩ k hk
    match k, hk with
    | 0, _ => simpa [geti] using h0
    | 1, _ => simpa [geti] using h1
    | 2, _ => simpa [geti] using h2
    | 3, _ => simpa [geti] using h3
    | 4, _ => simpa [geti] using h4
    | k + 5, hk => simpa [geti] using h5 k (by simp at hk; omega)
theorem t1Truth_spec (s : SeaD) (t : Tru) (ht : t.depths.length ≤ 1000000) : Spec Tryz.prog 17 [.agg s.cells, .agg t.cells] (.v (.bool (truthB s t))) := by
  obtain ⟨L, hL⟩ : ∃ L, [t.tide, t.east, t.north, t.wave, t.swell] ++ t.depths = L := ⟨_, rfl⟩
  have hlen : L.length = t.depths.length + 5 := by rw [← hL]; simp
  have hva := valL_all (t := t)
  rw [hL] at hva
  have hrows : [[PV.v (Value.int IntKind.i64 t.tide)], [PV.v (Value.int IntKind.i64 t.east)], [PV.v (Value.int IntKind.i64 t.north)], [PV.v (Value.int IntKind.i64 t.wave)], [PV.v (Value.int IntKind.i64 t.swell)]] ++ List.map (fun i => [PV.v (Value.int IntKind.i64 (geti t.depths i))]) (List.range t.depths.length) = rowsI L := by
    rw [rowsI_range, ← hL]
    simp [rowsI]
  have hfb : truthB s t = (allN L.length (fun k => valB (geti L k)) && inB t.minute 0 1440 && decide (t.depths.length = s.depths.length) && decide (t.boats.length = s.boats.length)) := by
    rw [hva, truthB, Bool.eq_iff_iff]
    simp only [Bool.and_eq_true]
    constructor
    · rintro ⟨⟨⟨⟨⟨⟨⟨⟨a, b⟩, c⟩, d⟩, e⟩, f⟩, g⟩, h⟩, i⟩; exact ⟨⟨⟨⟨⟨⟨⟨⟨b, c⟩, d⟩, e⟩, f⟩, i⟩, a⟩, g⟩, h⟩
    · rintro ⟨⟨⟨⟨⟨⟨⟨⟨b, c⟩, d⟩, e⟩, f⟩, i⟩, a⟩, g⟩, h⟩; exact ⟨⟨⟨⟨⟨⟨⟨⟨a, b⟩, c⟩, d⟩, e⟩, f⟩, g⟩, h⟩, i⟩
  have hrows' : ([PV.v (Value.int IntKind.i64 t.tide)] :: [PV.v (Value.int IntKind.i64 t.east)] :: [PV.v (Value.int IntKind.i64 t.north)] :: [PV.v (Value.int IntKind.i64 t.wave)] :: [PV.v (Value.int IntKind.i64 t.swell)] :: List.map (fun i => [PV.v (Value.int IntKind.i64 (geti t.depths i))]) (List.range t.depths.length)) = rowsI L := by simpa using hrows
  rw [hfb]
  refine spec_of mixed Tryz.func17 (by decide) rfl Tryz.results17 Tryz.ntmps17 (by decide) 0 (by simp) ?_
  simp [SeaD.cells, Tru.cells, rdgL, spnL, boaL, glaL, ints, bools, show (5 + t.depths.length) * 8 ≤ 140737488355328 from by omega, show 5 + t.depths.length ≤ maxLen from by simp [maxLen]; omega]
  rw [hrows']
  refine pwp_loop (fun k : Nat => [(6, .v (.int .i64 k))]) (fun k => k ≤ L.length ∧ ∀ j, j < k → valB (geti L j) = true) (fun k => L.length - k) 0 ⟨Nat.zero_le _, fun j hj => by omega⟩ (by simp; rfl) (by simp) ?_
  intro k ⟨hk, hp⟩
  by_cases hkl : k < L.length
  · simp [hkl, show (k : Int) < 5 + (t.depths.length : Int) from by omega, show k < 5 + t.depths.length from by omega]
    refine pop_spec (t1in_spec (geti L k) (-100000) 100000) rfl false (.inl (by simp)) (.inl rfl) rfl (by simp) ?_
    cases h1 : inB (geti L k) (-100000) 100000 with
    | false =>
      simp
      refine answers_of rfl ?_
      simp [allN_false (p := fun k => valB (geti L k)) hkl h1]
    | true =>
      simp
      refine again_of (k + 1) ⟨by omega, fun j hj => ?_⟩ (by omega) ?_
      · rcases Nat.lt_succ_iff_lt_or_eq.1 hj with hj | rfl
        · exact hp j hj
        · exact h1
      · simp [i64_wrap (show -9223372036854775808 ≤ (k : Int) + 1 ∧ _ from by omega)]
  · obtain rfl : k = L.length := by omega
    have ha := allN_spec.2 hp
    simp [hlen, show ¬ ((t.depths.length : Int) + 5 < 5 + (t.depths.length : Int)) from by omega, show (5 : Int) + (t.depths.length : Int) ≤ (t.depths.length : Int) + 5 from by omega]
    refine pop_spec (t1in_spec t.minute 0 1440) rfl false (.inl (by simp)) (.inl rfl) rfl (by simp) ?_
    cases h1 : inB t.minute 0 1440 with
    | false => simp; refine answers_of rfl ?_; simp
    | true =>
    by_cases h7 : t.depths.length = s.depths.length
    rotate_left
    · simp [show ¬ (t.depths.length : Int) = s.depths.length from by omega]; refine answers_of rfl ?_; simp [h7]
    by_cases h8 : t.boats.length = s.boats.length
    rotate_left
    · simp [eq_true (show (t.depths.length : Int) = s.depths.length from by omega), show ¬ (t.boats.length : Int) = s.boats.length from by omega]; refine answers_of rfl ?_; simp [h8, show ¬ (t.boats.length : Int) = s.boats.length from by omega]
    simp [eq_true (show (t.depths.length : Int) = s.depths.length from by omega), eq_true (show (t.boats.length : Int) = s.boats.length from by omega)]
    refine answers_of rfl ?_
    rw [← hlen, ha]
    simp [h7, h8]
def boatOk (s : SeaD) (t : Tru) (i : Nat) : Bool := if getb t.boats i = true then passB s t.minute i else !(passB s t.minute i && (boaAt s.boats i).sure)
def agreesB (s : SeaD) (t : Tru) : Bool := (inB t.tide (atLo s.tide t.minute) (atHi s.tide t.minute) && (inB t.east (atLo s.east t.minute) (atHi s.east t.minute) && (inB t.north (atLo s.north t.minute) (atHi s.north t.minute) && (inB t.wave (atLo s.wave t.minute) (atHi s.wave t.minute) && inB t.swell (atLo s.swell t.minute) (atHi s.swell t.minute))))) && allN t.depths.length (fun k => inB (geti t.depths k) (spnAt s.depths k).low (spnAt s.depths k).high) && allN t.boats.length (boatOk s t)
theorem t1Agrees_spec (s : SeaD) (t : Tru) (hs : SeaOk s) (ht : truthB s t = true) (hnd : t.depths.length ≤ 1000000) (hnb : t.boats.length ≤ 1000000) : Spec Tryz.prog 18 [.agg s.cells, .agg t.cells] (.v (.bool (agreesB s t))) := by
  obtain ⟨v1, v2, v3, v4, v5, v6, v7⟩ := truth_vals ht
  have a_tide := t1At_spec s.tide t.minute hs.tide.1 v1
  simp only [Gge.cells, rdgL, atS, Spn.cells] at a_tide
  have a_east := t1At_spec s.east t.minute hs.east.1 v1
  simp only [Gge.cells, rdgL, atS, Spn.cells] at a_east
  have a_north := t1At_spec s.north t.minute hs.north.1 v1
  simp only [Gge.cells, rdgL, atS, Spn.cells] at a_north
  have a_wave := t1At_spec s.wave t.minute hs.wave.1 v1
  simp only [Gge.cells, rdgL, atS, Spn.cells] at a_wave
  have a_swell := t1At_spec s.swell t.minute hs.swell.1 v1
  simp only [Gge.cells, rdgL, atS, Spn.cells] at a_swell
  refine spec_of mixed Tryz.func18 (by decide) rfl Tryz.results18 Tryz.ntmps18 (by decide) 0 (by simp) ?_
  simp [SeaD.cells, Tru.cells, rdgL, spnL, boaL, glaL, ints, bools, range_20]
  refine pwp_loop (fun k : Nat => [(7, .v (.int .i64 k))]) (fun k => k ≤ 5 ∧ (1 ≤ k → inB t.tide (atLo s.tide t.minute) (atHi s.tide t.minute) = true) ∧ (2 ≤ k → inB t.east (atLo s.east t.minute) (atHi s.east t.minute) = true) ∧ (3 ≤ k → inB t.north (atLo s.north t.minute) (atHi s.north t.minute) = true) ∧ (4 ≤ k → inB t.wave (atLo s.wave t.minute) (atHi s.wave t.minute) = true) ∧ (5 ≤ k → inB t.swell (atLo s.swell t.minute) (atHi s.swell t.minute) = true)) (fun k => 5 - k) 0 ⟨by omega, by omega, by omega, by omega, by omega, by omega⟩ (by simp; rfl) (by simp) ?_
  intro k ⟨hk, q1, q2, q3, q4, q5⟩
  obtain rfl | rfl | rfl | rfl | rfl | rfl : k = 0 ∨ k = 1 ∨ k = 2 ∨ k = 3 ∨ k = 4 ∨ k = 5 := by omega
  · simp
    refine pwp_draw 9 (by decide) ?_
    simp
    refine pd_spec a_tide (by simp) (by simp) (by simp) rfl ?_
    simp
    refine ⟨by decide, ?_⟩
    refine pwp_draw 10 (by decide) ?_
    simp
    refine pd_spec (t1in_spec t.tide (atLo s.tide t.minute) (atHi s.tide t.minute)) (by simp) (by simp) (by simp) rfl ?_
    simp
    refine ⟨by decide, ?_⟩
    cases h : inB t.tide (atLo s.tide t.minute) (atHi s.tide t.minute) with
    | false => simp; refine answers_of rfl ?_; simp [agreesB, h]
    | true =>
      simp
      refine again_of 1 (by simp [h]) (by omega) ?_
      simp
  · simp
    refine pwp_draw 9 (by decide) ?_
    simp
    refine pd_spec a_east (by simp) (by simp) (by simp) rfl ?_
    simp
    refine ⟨by decide, ?_⟩
    refine pwp_draw 10 (by decide) ?_
    simp
    refine pd_spec (t1in_spec t.east (atLo s.east t.minute) (atHi s.east t.minute)) (by simp) (by simp) (by simp) rfl ?_
    simp
    refine ⟨by decide, ?_⟩
    cases h : inB t.east (atLo s.east t.minute) (atHi s.east t.minute) with
    | false => simp; refine answers_of rfl ?_; simp [agreesB, h]
    | true =>
      simp
      refine again_of 2 (by simp [q1 (by omega), h]) (by omega) ?_
      simp
  · simp
    refine pwp_draw 9 (by decide) ?_
    simp
    refine pd_spec a_north (by simp) (by simp) (by simp) rfl ?_
    simp
    refine ⟨by decide, ?_⟩
    refine pwp_draw 10 (by decide) ?_
    simp
    refine pd_spec (t1in_spec t.north (atLo s.north t.minute) (atHi s.north t.minute)) (by simp) (by simp) (by simp) rfl ?_
    simp
    refine ⟨by decide, ?_⟩
    cases h : inB t.north (atLo s.north t.minute) (atHi s.north t.minute) with
    | false => simp; refine answers_of rfl ?_; simp [agreesB, h]
    | true =>
      simp
      refine again_of 3 (by simp [q1 (by omega), q2 (by omega), h]) (by omega) ?_
      simp
  · simp
    refine pwp_draw 9 (by decide) ?_
    simp
    refine pd_spec a_wave (by simp) (by simp) (by simp) rfl ?_
    simp
    refine ⟨by decide, ?_⟩
    refine pwp_draw 10 (by decide) ?_
    simp
    refine pd_spec (t1in_spec t.wave (atLo s.wave t.minute) (atHi s.wave t.minute)) (by simp) (by simp) (by simp) rfl ?_
    simp
    refine ⟨by decide, ?_⟩
    cases h : inB t.wave (atLo s.wave t.minute) (atHi s.wave t.minute) with
    | false => simp; refine answers_of rfl ?_; simp [agreesB, h]
    | true =>
      simp
      refine again_of 4 (by simp [q1 (by omega), q2 (by omega), q3 (by omega), h]) (by omega) ?_
      simp
  · simp
    refine pwp_draw 9 (by decide) ?_
    simp
    refine pd_spec a_swell (by simp) (by simp) (by simp) rfl ?_
    simp
    refine ⟨by decide, ?_⟩
    refine pwp_draw 10 (by decide) ?_
    simp
    refine pd_spec (t1in_spec t.swell (atLo s.swell t.minute) (atHi s.swell t.minute)) (by simp) (by simp) (by simp) rfl ?_
    simp
    refine ⟨by decide, ?_⟩
    cases h : inB t.swell (atLo s.swell t.minute) (atHi s.swell t.minute) with
    | false => simp; refine answers_of rfl ?_; simp [agreesB, h]
    | true =>
      simp
      refine again_of 5 (by simp [q1 (by omega), q2 (by omega), q3 (by omega), q4 (by omega), h]) (by omega) ?_
      simp
  · simp
    refine pwp_loop (fun k : Nat => [(9, .v (.int .i64 k))]) (fun k => k ≤ t.depths.length ∧ ∀ j, j < k → inB (geti t.depths j) (spnAt s.depths j).low (spnAt s.depths j).high = true) (fun k => t.depths.length - k) 0 ⟨Nat.zero_le _, fun j hj => by omega⟩ (by simp; rfl) (by simp) ?_
    intro k ⟨hk, hp⟩
    by_cases hkl : k < t.depths.length
    · have hsc : (spnAt s.depths k).cells = [.v (.int .i64 (spnAt s.depths k).low), .v (.int .i64 (spnAt s.depths k).high)] := rfl
      simp [hkl]
      refine pwp_draw 21 (by decide) ?_
      simp [hkl, show k < s.depths.length from by omega, hsc]
      refine pd_spec (t1in_spec (geti t.depths k) (spnAt s.depths k).low (spnAt s.depths k).high) (by simp) (by simp) (by simp) rfl ?_
      simp
      refine ⟨by decide, ?_⟩
      cases h1 : inB (geti t.depths k) (spnAt s.depths k).low (spnAt s.depths k).high with
      | false =>
        simp
        refine answers_of rfl ?_
        simp [agreesB, allN_false (p := fun k => inB (geti t.depths k) (spnAt s.depths k).low (spnAt s.depths k).high) hkl h1]
      | true =>
        simp
        refine again_of (k + 1) ⟨by omega, fun j hj => ?_⟩ (by omega) ?_
        · rcases Nat.lt_succ_iff_lt_or_eq.1 hj with hj | rfl
          · exact hp j hj
          · exact h1
        · simp [i64_wrap (show -9223372036854775808 ≤ (k : Int) + 1 ∧ _ from by omega)]
    · obtain rfl : k = t.depths.length := by omega
      have hd := allN_spec.2 hp
      simp
      refine pwp_loop (fun k : Nat => [(10, .v (.int .i64 k))]) (fun k => k ≤ t.boats.length ∧ ∀ j, j < k → boatOk s t j = true) (fun k => t.boats.length - k) 0 ⟨Nat.zero_le _, fun j hj => by omega⟩ (by simp; rfl) (by simp) ?_
      intro k ⟨hk, hp⟩
      by_cases hkl : k < t.boats.length
      · have wk := i64_wrap (show -9223372036854775808 ≤ (k : Int) + 1 ∧ _ from by omega)
        have no : boatOk s t k = false → agreesB s t = false := fun h => by simp [agreesB, allN_false hkl h]
        have go : boatOk s t k = true → ∀ i, i < k + 1 → boatOk s t i = true := fun hb i hi => by
          rcases Nat.lt_or_eq_of_le (Nat.le_of_lt_succ hi) with h' | rfl
          · exact hp i h'
          · exact hb
        have hksb : k < s.boats.length := by omega
        have hbc : (boaAt s.boats k).cells = [.v (.int .i64 (boaAt s.boats k).x.low), .v (.int .i64 (boaAt s.boats k).x.high), .v (.int .i64 (boaAt s.boats k).y.low), .v (.int .i64 (boaAt s.boats k).y.high), .v (.int .i64 (boaAt s.boats k).times.low), .v (.int .i64 (boaAt s.boats k).times.high), .v (.bool (boaAt s.boats k).sure)] := rfl
        have hin := t1in_spec t.minute (boaAt s.boats k).times.low (boaAt s.boats k).times.high
        rw [show inB t.minute (boaAt s.boats k).times.low (boaAt s.boats k).times.high = passB s t.minute k from rfl] at hin
        simp [hkl]
        refine pwp_draw 18 (by decide) ?_
        simp [hkl, hksb, hbc]
        refine pd_spec hin (by simp) (by simp) (by simp) rfl ?_
        simp
        refine ⟨by decide, ?_⟩
        cases h1 : getb t.boats k with
        | true =>
          cases h2 : passB s t.minute k with
          | true =>
            simp [hkl, h1, h2]
            refine again_of (k + 1) ⟨by omega, go (by simp [boatOk, h1, h2])⟩ (by omega) ?_
            simp [wk]
          | false =>
            simp [hkl, h1, h2]
            refine answers_of rfl ?_; simp [no (by simp [boatOk, h1, h2])]
        | false =>
          cases h2 : passB s t.minute k with
          | false =>
            simp [hkl, h1, h2]
            refine again_of (k + 1) ⟨by omega, go (by simp [boatOk, h1, h2])⟩ (by omega) ?_
            simp [wk]
          | true =>
            cases h3 : (boaAt s.boats k).sure with
            | false =>
              simp [hkl, hksb, hbc, h1, h2, h3]
              refine again_of (k + 1) ⟨by omega, go (by simp [boatOk, h1, h2, h3])⟩ (by omega) ?_
              simp [wk]
            | true =>
              simp [hkl, hksb, hbc, h1, h2, h3]
              refine answers_of rfl ?_; simp [no (by simp [boatOk, h1, h2, h3])]
      · obtain rfl : k = t.boats.length := by omega
        have hb := allN_spec.2 hp
        simp
        refine answers_of rfl ?_
        simp [agreesB, q1 (by omega), q2 (by omega), q3 (by omega), q4 (by omega), q5 (by omega), hd, hb]
theorem agrees_ok {s : SeaD} {t : Tru} (h1 : truthB s t = true) (h2 : agreesB s t = true) : Agr s t := by
  obtain ⟨v1, v2, v3, v4, v5, v6, v7⟩ := truth_vals h1
  simp only [agreesB, Bool.and_eq_true, inB_spec, allN_spec] at h2
  obtain ⟨⟨⟨a1, a2, a3, a4, a5⟩, a6⟩, a7⟩ := h2
  refine ⟨v1, a1, a2, a3, a4, a5, v5, v6, fun k hk => a6 k (by omega), fun i hi hb => ?_⟩
  have := a7 i (by omega)
  rw [boatOk, if_pos hb] at this
  exact this
end Go.Qg


namespace Go.Qg
open Go.Proofs
set_option maxRecDepth 100000
set_option maxHeartbeats 32000000
attribute [local simp 2000] List.getElem?_cons_succ List.getElem?_cons_zero
attribute [local irreducible] pwp pops pdraw pop popCall pdCall thenP blockP scopeP pspec Spec answers ppost CallW rend
theorem t4in_spec (n lo hi : Int) : Spec Tryz.prog 92 [.v (.int .i64 n), .v (.int .i64 lo), .v (.int .i64 hi)] (.v (.bool (inB n lo hi))) := by
  refine spec_of mixed Tryz.func92 (by decide) rfl Tryz.results92 Tryz.ntmps92 (by decide) 0 (by simp) ?_
  by_cases h1 : lo ≤ n
  · by_cases h2 : n ≤ hi <;> (simp [h1, h2]; refine answers_of rfl ?_; simp [inB, h1, h2])
  · simp [h1]; refine answers_of rfl ?_; simp [inB, h1]
theorem t4Windows_spec (l : List Spn) (hl : l.length ≤ 9223372036854775807) : Spec Tryz.prog 91 [spnL l] (.v (.bool (allN l.length (wndB l) && decide (l.length ≤ 10)))) := by
  refine spec_of mixed Tryz.func91 (by decide) rfl Tryz.results91 Tryz.ntmps91 (by decide) 0 (by simp) ?_
  simp [spnL]
  refine pwp_loop (fun k : Nat => [(3, .v (.int .i64 k))]) (fun k => k ≤ l.length ∧ ∀ j, j < k → wndB l j = true) (fun k => l.length - k) 0 ⟨Nat.zero_le _, fun j hj => by omega⟩ (by simp; rfl) (by simp) ?_
  intro k ⟨hk, hp⟩
  by_cases hkl : k < l.length
  · have no : wndB l k = false → (allN l.length (wndB l) && decide (l.length ≤ 10)) = false := fun h => by rw [allN_false hkl h]; rfl
    have go : wndB l k = true → ∀ i, i < k + 1 → wndB l i = true := fun hb i hi => by
      rcases Nat.lt_or_eq_of_le (Nat.le_of_lt_succ hi) with h' | rfl
      · exact hp i h'
      · exact hb
    have wk := i64_wrap (show -9223372036854775808 ≤ (k : Int) + 1 ∧ _ from by omega)
    have hel : (spnAt l k).cells = [.v (.int .i64 (spnAt l k).low), .v (.int .i64 (spnAt l k).high)] := rfl
    simp [hkl]
    refine pwp_draw 46 (by decide) ?_
    by_cases h1 : (spnAt l k).low < 0
    · simp [hkl, hel, h1]
      refine ⟨by decide, ?_⟩
      refine answers_of rfl ?_; rw [no (by simp [wndB, spanB]; omega)]; simp
    · by_cases h2 : (spnAt l k).high < (spnAt l k).low
      · simp [hkl, hel, h1, h2]
        refine ⟨by decide, ?_⟩
        refine answers_of rfl ?_; rw [no (by simp [wndB, spanB]; omega)]; simp
      · by_cases h3 : 1440 < (spnAt l k).high
        · simp [hkl, hel, h1, h2, h3]
          refine ⟨by decide, ?_⟩
          refine answers_of rfl ?_; rw [no (by simp [wndB, spanB]; omega)]; simp
        · rcases Nat.eq_zero_or_pos k with h0 | h0
          · subst h0
            simp [hkl, hel, h1, h2, h3]
            refine ⟨by decide, ?_⟩
            refine again_of 1 ⟨by omega, go (by simp [wndB, spanB]; omega)⟩ (by omega) ?_
            simp
          · obtain ⟨j, rfl⟩ : ∃ j, k = j + 1 := ⟨k - 1, by omega⟩
            have hj := hp j (by omega)
            have hjs : 0 ≤ (spnAt l j).low ∧ (spnAt l j).low ≤ (spnAt l j).high ∧ (spnAt l j).high ≤ 1440 := by
              simp only [wndB, Bool.and_eq_true, spanB_spec] at hj
              exact hj.1
            have hel2 : (spnAt l j).cells = [.v (.int .i64 (spnAt l j).low), .v (.int .i64 (spnAt l j).high)] := rfl
            have wj := i64_wrap (show -9223372036854775808 ≤ (j : Int) ∧ _ from by omega)
            have wh := i64_wrap (show -9223372036854775808 ≤ (spnAt l j).high + 1 ∧ _ from by omega)
            by_cases h4 : (spnAt l (j + 1)).low ≤ (spnAt l j).high + 1
            · simp [hkl, hel, hel2, h1, h2, h3, h4, wj, wh, show (0 : Int) < (j : Int) + 1 from by omega, show ¬ (j : Int) + 1 ≤ 0 from by omega, show j < l.length from by omega, show (0 : Int) ≤ (j : Int) + 1 from by omega, show (j : Int) + 1 < l.length from by omega, show ((j : Int) + 1).toNat = j + 1 from by omega]
              refine ⟨by decide, ?_⟩
              refine answers_of rfl ?_; rw [no (by simp [wndB, spanB]; omega)]; simp
            · simp [hkl, hel, hel2, h1, h2, h3, h4, wj, wh, show (0 : Int) < (j : Int) + 1 from by omega, show ¬ (j : Int) + 1 ≤ 0 from by omega, show j < l.length from by omega, show (0 : Int) ≤ (j : Int) + 1 from by omega, show (j : Int) + 1 < l.length from by omega, show ((j : Int) + 1).toNat = j + 1 from by omega]
              refine ⟨by decide, ?_⟩
              refine again_of (j + 1 + 1) ⟨by omega, go (by simp [wndB, spanB]; omega)⟩ (by omega) ?_
              simp [i64_wrap (show -9223372036854775808 ≤ (j : Int) + 1 + 1 ∧ _ from by omega)]
  · obtain rfl : k = l.length := by omega
    have ha := allN_spec.2 hp
    by_cases h1 : l.length ≤ 10
    · simp [show (l.length : Int) ≤ 10 from by omega]
      refine answers_of rfl ?_; simp [ha, h1]
    · simp [show ¬ (l.length : Int) ≤ 10 from by omega]
      refine answers_of rfl ?_; simp [h1]
theorem t4Chain_spec (c : Chn) (hc : ChnMem c) : Spec Tryz.prog 26 [.agg c.cells] (.v (.bool (chainB c))) := by
  obtain ⟨hs, hl, hw⟩ := hc
  refine spec_of mixed Tryz.func26 (by decide) rfl Tryz.results26 Tryz.ntmps26 (by decide) 0 (by simp) ?_
  simp [Chn.cells, hstL, spnL]
  refine pwp_loop (fun k : Nat => [(3, .v (.int .i64 k))]) (fun k => k ≤ c.stops.length ∧ ∀ j, j < k → hstB (hstAt c.stops j) = true) (fun k => c.stops.length - k) 0 ⟨Nat.zero_le _, fun j hj => by omega⟩ (by simp; rfl) (by simp) ?_
  intro k ⟨hk, hp⟩
  by_cases hkl : k < c.stops.length
  · have no : hstB (hstAt c.stops k) = false → chainB c = false := fun h => by simp [chainB, allN_false (p := fun k => hstB (hstAt c.stops k)) hkl h]
    have wk := i64_wrap (show -9223372036854775808 ≤ (k : Int) + 1 ∧ _ from by omega)
    have hel : (hstAt c.stops k).cells = [.sl 2 (hstAt c.stops k).windows.length fun i => (spnAt (hstAt c.stops k).windows i).cells, .v (.int .i64 (hstAt c.stops k).turn)] := rfl
    have hww := t4Windows_spec (hstAt c.stops k).windows (hw k hkl)
    obtain ⟨b, hb⟩ : ∃ b, (allN (hstAt c.stops k).windows.length (wndB (hstAt c.stops k).windows) && decide ((hstAt c.stops k).windows.length ≤ 10)) = b := ⟨_, rfl⟩
    have hst : hstB (hstAt c.stops k) = (b && inB (hstAt c.stops k).turn 0 300) := by rw [← hb, hstB]; cases decide ((hstAt c.stops k).windows.length ≤ 10) <;> cases inB (hstAt c.stops k).turn 0 300 <;> simp
    rw [hb] at hww
    simp only [spnL] at hww
    simp [hkl, hel]
    refine pop_spec hww rfl false (.inl (by simp)) (.inl rfl) rfl (by simp) ?_
    cases b with
    | false => simp; refine answers_of rfl ?_; simp [no (by rw [hst]; rfl)]
    | true =>
    simp [hkl, hel]
    refine pop_spec (t4in_spec (hstAt c.stops k).turn 0 300) rfl false (.inl (by simp)) (.inl rfl) rfl (by simp) ?_
    cases h2 : inB (hstAt c.stops k).turn 0 300 with
    | false => simp; refine answers_of rfl ?_; simp [no (by rw [hst, h2]; rfl)]
    | true =>
    simp
    refine again_of (k + 1) ⟨by omega, fun j hj => ?_⟩ (by omega) ?_
    · rcases Nat.lt_succ_iff_lt_or_eq.1 hj with hj | rfl
      · exact hp j hj
      · rw [hst, h2]; rfl
    · simp [wk]
  · obtain rfl : k = c.stops.length := by omega
    have ha := allN_spec.2 hp
    simp
    refine pwp_loop (fun k : Nat => [(4, .v (.int .i64 k))]) (fun k => k ≤ c.legs.length ∧ ∀ j, j < k → spanB (spnAt c.legs j) 0 300 = true) (fun k => c.legs.length - k) 0 ⟨Nat.zero_le _, fun j hj => by omega⟩ (by simp; rfl) (by simp) ?_
    intro k ⟨hk, hp⟩
    by_cases hkl : k < c.legs.length
    · have no : spanB (spnAt c.legs k) 0 300 = false → chainB c = false := fun h => by simp [chainB, allN_false (p := fun k => spanB (spnAt c.legs k) 0 300) hkl h]
      have wk := i64_wrap (show -9223372036854775808 ≤ (k : Int) + 1 ∧ _ from by omega)
      have hel : (spnAt c.legs k).cells = [.v (.int .i64 (spnAt c.legs k).low), .v (.int .i64 (spnAt c.legs k).high)] := rfl
      simp [hkl]
      refine pwp_draw 31 (by decide) ?_
      by_cases h1 : (spnAt c.legs k).low < 0
      · simp [hkl, hel, h1]
        refine ⟨by decide, ?_⟩
        refine answers_of rfl ?_; simp [no (by simp [spanB]; omega)]
      · by_cases h2 : (spnAt c.legs k).high < (spnAt c.legs k).low
        · simp [hkl, hel, h1, h2]
          refine ⟨by decide, ?_⟩
          refine answers_of rfl ?_; simp [no (by simp [spanB]; omega)]
        · by_cases h3 : 300 < (spnAt c.legs k).high
          · simp [hkl, hel, h1, h2, h3]
            refine ⟨by decide, ?_⟩
            refine answers_of rfl ?_; simp [no (by simp [spanB]; omega)]
          · simp [hkl, hel, h1, h2, h3]
            refine ⟨by decide, ?_⟩
            refine again_of (k + 1) ⟨by omega, fun j hj => ?_⟩ (by omega) ?_
            · rcases Nat.lt_succ_iff_lt_or_eq.1 hj with hj | rfl
              · exact hp j hj
              · simp [spanB]; omega
            · simp [wk]
    · obtain rfl : k = c.legs.length := by omega
      have hb := allN_spec.2 hp
      simp
      refine pop_spec (t4in_spec c.stops.length 2 8) rfl false (.inl (by simp)) (.inl rfl) rfl (by simp) ?_
      cases h1 : inB c.stops.length 2 8 with
      | false => simp; refine answers_of rfl ?_; simp [chainB, h1]
      | true =>
      have ws := i64_wrap (show -9223372036854775808 ≤ (c.stops.length : Int) - 1 ∧ _ from by omega)
      by_cases h2 : (c.legs.length : Int) = (c.stops.length : Int) - 1
      · simp [ws, eq_true h2]
        refine answers_of rfl ?_; simp [chainB, h1, h2, ha, hb]
      · simp [ws, h2]
        refine answers_of rfl ?_; simp [chainB, h2]
def small11B (s : SeaD) : Bool := decide (s.depths.length ≤ 30) && seaB s && decide (s.east.most - s.east.least ≤ 40) && decide (s.north.most - s.north.least ≤ 40) && soundB s
theorem small11_spec (s : SeaD) (hs : SeaMem s) : Spec Tryz.prog 24 [.agg s.cells] (.v (.bool (small11B s))) := by
  have hsea := t1Sea_spec s hs
  simp only [SeaD.cells, rdgL, spnL, boaL, glaL] at hsea
  refine spec_of mixed Tryz.func24 (by decide) rfl Tryz.results24 Tryz.ntmps24 (by decide) 0 (by simp) ?_
  simp [SeaD.cells, rdgL, spnL, boaL, glaL]
  by_cases h0 : s.depths.length ≤ 30
  rotate_left
  · simp [show ¬ (s.depths.length : Int) ≤ 30 from by omega]
    refine answers_of rfl ?_; simp [small11B, h0]
  simp [show (s.depths.length : Int) ≤ 30 from by omega]
  refine pop_spec hsea rfl false (.inl (by simp)) (.inl rfl) rfl (by simp) ?_
  cases h1 : seaB s with
  | false => simp; refine answers_of rfl ?_; simp [small11B, h1]
  | true =>
  have ho := seaB_ok h1
  have he := ho.east
  have hn := ho.north
  have he' := he.1.least
  have hn' := hn.1.least
  have w1 := i64_wrap (show -9223372036854775808 ≤ s.east.most - s.east.least ∧ _ from by omega)
  have w2 := i64_wrap (show -9223372036854775808 ≤ s.north.most - s.north.least ∧ _ from by omega)
  have hso := t1Sound_spec ⟨s.tide, s.east, s.north, s.wave, s.swell⟩ ho.tide.1 ho.east.1 ho.north.1 ho.wave.1 ho.swell.1
  simp only [Wth.cells, wthC, rdgL] at hso
  by_cases h2 : s.east.most - s.east.least ≤ 40
  rotate_left
  · simp [w1, h2]
    refine answers_of rfl ?_; simp [small11B, h2]
  by_cases h3 : s.north.most - s.north.least ≤ 40
  rotate_left
  · simp [w1, w2, h2, h3]
    refine answers_of rfl ?_; simp [small11B, h3]
  simp [w1, w2, h2, h3]
  refine pop_spec hso rfl false (.inl (by simp)) (.inl rfl) rfl (by simp) ?_
  simp
  refine answers_of rfl ?_
  simp [small11B, h0, h1, h2, h3, soundB]
end Go.Qg

