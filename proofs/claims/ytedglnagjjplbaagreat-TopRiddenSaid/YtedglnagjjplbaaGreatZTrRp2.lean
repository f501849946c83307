/-
  Lemmas and contracts that hold of the whole program: 7 texts in one.
  No condition.
-/
import Derived.Test.YtedglnagjjplbaaGreatZTrRp1
set_option linter.all false

namespace Go.Qg
open Go.Proofs
set_option maxRecDepth 100000
set_option maxHeartbeats 32000000
def rowB (f : Nat → Bool) : List PV := (List.range 1441).map fun t => .v (.bool (f t))
@[simp] theorem rowB_length (f : Nat → Bool) : (rowB f).length = 1441 := by simp [rowB]
theorem rowB_get {f : Nat → Bool} {t : Nat} (h : t < 1441) : (rowB f)[t]? = some (.v (.bool (f t))) := by simp [rowB, h]
@[simp] theorem rowB_getElem {f : Nat → Bool} {t : Nat} (h : t < (rowB f).length) : (rowB f)[t] = .v (.bool (f t)) := by simp [rowB]
@[simp] theorem rowB_take (f : Nat → Bool) : (rowB f).take 1441 = rowB f := List.take_of_length_le (by simp)
def updB (f : Nat → Bool) (t : Nat) (b : Bool) (u : Nat) : Bool := if u = t then b else f u
@[simp] theorem rowB_set (f : Nat → Bool) (t : Nat) (b : Bool) : (rowB f).set t (.v (.bool b)) = rowB (updB f t b) := by
  refine List.ext_getElem? fun i => ?_
  by_cases hi : i < 1441
  · rw [rowB_get hi, List.getElem?_set]
    by_cases h : t = i
    · subst h; simp [hi, updB]
    · rw [if_neg h, rowB_get hi, updB, if_neg (fun e => h e.symm)]
  · rw [List.getElem?_eq_none (by simp; omega), List.getElem?_eq_none (by simp; omega)]
theorem mem_rowB {f : Nat → Bool} {p : PV} (h : p ∈ rowB f) : ∃ b, p = .v (.bool b) := by
  obtain ⟨t, _, rfl⟩ := List.mem_map.1 h
  exact ⟨_, rfl⟩
@[simp] theorem rowB_one (f : Nat → Bool) : (rowB f).all (·.one) = true := by
  rw [List.all_eq_true]
  intro p hp
  obtain ⟨b, rfl⟩ := mem_rowB hp
  rfl
theorem plainL_of {l : List PV} (h : ∀ p ∈ l, p.plain = true) : plainL l = true := by
  induction l with
  | nil => rfl
  | cons x l ih => simp only [plainL, h x List.mem_cons_self, ih fun p hp => h p (List.mem_cons_of_mem _ hp), Bool.and_self]
theorem rowB_plain (f : Nat → Bool) : plainL (rowB f) = true := plainL_of fun p hp => by
  obtain ⟨b, rfl⟩ := mem_rowB hp
  rfl
theorem flatL_of {l : List PV} (h : ∀ p ∈ l, p.flat = true) : flatL l = true := by
  induction l with
  | nil => rfl
  | cons x l ih => simp only [flatL, h x List.mem_cons_self, ih fun p hp => h p (List.mem_cons_of_mem _ hp), Bool.and_self]
@[simp] theorem flatL_rowB (f : Nat → Bool) : flatL (rowB f) = true := flatL_of fun p hp => by
  obtain ⟨b, rfl⟩ := mem_rowB hp
  rfl
@[simp] theorem namesL_rowB (f : Nat → Bool) : namesL (rowB f) = [] := plainL_names (rowB_plain f)
@[simp] theorem renL_rowB (π : Nat → Nat) (f : Nat → Bool) : renL π (rowB f) = rowB f := renL_plain (rowB_plain f)
@[simp] theorem vwAll_rowB (F : PF) (T : Tgt) (d : Nat) (f : Nat → Bool) : vwAll (vw F T d) (rowB f) (rowB f) = True := propext ⟨fun _ => trivial, fun _ => vwAll_plain (rowB_plain f)⟩
@[simp] theorem rowB_allfree (f : Nat → Bool) : (rowB f).all (fun q => q.one && q.free) = true := by
  rw [List.all_eq_true]
  intro p hp
  obtain ⟨b, rfl⟩ := mem_rowB hp
  rfl
@[simp] theorem rowB_onefree {f : Nat → Bool} : (∀ x : PV, x ∈ rowB f → x.one = true ∧ x.names = []) ↔ True := ⟨fun _ => trivial, fun _ p hp => by
  obtain ⟨b, rfl⟩ := mem_rowB hp
  exact ⟨rfl, rfl⟩⟩
@[simp] theorem rowB_ones {f : Nat → Bool} : (∀ x : PV, x ∈ rowB f → x.one = true) ↔ True := ⟨fun _ => trivial, fun _ p hp => by
  obtain ⟨b, rfl⟩ := mem_rowB hp
  rfl⟩
@[simp] theorem setRange_rowB (f g : Nat → Bool) : setRange (rowB f) 0 (rowB g) = rowB g := by
  refine List.ext_getElem? fun i => ?_
  rw [setRange_get (rowB g) (rowB f) 0 i (by simp)]
  by_cases hi : i < 1441
  · rw [if_pos ⟨Nat.zero_le _, by simpa using hi⟩]; rfl
  · rw [if_neg (by simp; omega), List.getElem?_eq_none (by simp; omega), List.getElem?_eq_none (by simp; omega)]
theorem rowB_part {f : Nat → Bool} {t : Nat} (h : t < 1441) : ((rowB f).drop t).take 1 = [.v (.bool (f t))] := by
  rw [List.drop_eq_getElem_cons (by simpa using h)]
  simp
theorem rowB_congr {f g : Nat → Bool} (h : ∀ t, t < 1441 → f t = g t) : rowB f = rowB g := by
  unfold rowB
  exact List.map_congr_left fun t ht => by rw [h t (List.mem_range.1 ht)]
theorem mem_rowB' {f : Nat → Bool} {p : PV} (h : p ∈ rowB f) : ∃ b, p = .v (.bool b) := mem_rowB h
attribute [irreducible] rowB
attribute [local irreducible] pwp pops pdraw pop popCall pdCall thenP blockP scopeP pspec Spec answers ppost CallW rend
theorem hin_spec (n lo hi : Int) : Spec Tryz.prog 94 [.v (.int .i64 n), .v (.int .i64 lo), .v (.int .i64 hi)] (.v (.bool (inB n lo hi))) := by
  refine spec_of mixed Tryz.func94 (by decide) rfl Tryz.results94 Tryz.ntmps94 (by decide) 0 (by simp) ?_
  by_cases h1 : lo ≤ n
  · by_cases h2 : n ≤ hi <;> (simp [h1, h2]; refine answers_of rfl ?_; simp [inB, h1, h2])
  · simp [h1]; refine answers_of rfl ?_; simp [inB, h1]
theorem hspan_spec (s : Spn) (hi : Int) : Spec Tryz.prog 169 [.agg s.cells, .v (.int .i64 hi)] (.v (.bool (spanB s 0 hi))) := by
  refine spec_of mixed Tryz.func169 (by decide) rfl Tryz.results169 Tryz.ntmps169 (by decide) 0 (by simp) ?_
  simp [Spn.cells]
  by_cases h1 : 0 ≤ s.low
  · by_cases h2 : s.low ≤ s.high
    · by_cases h3 : s.high ≤ hi <;> (simp [h1, h2, h3]; refine answers_of rfl ?_; simp [spanB, h1, h2, h3])
    · simp [h1, h2, Int.not_le.1 h2]
      refine answers_of rfl ?_; simp [spanB, h1, h2]
  · simp [h1, Int.not_le.1 h1]; refine answers_of rfl ?_; simp [spanB, h1]
theorem hopAllSpn_spec (l : List Spn) (hl : l.length ≤ 9223372036854775807) (f : FuncId) (first cap : List PV) (h1 : plainL first = true) (h2 : plainL cap = true) (p : Nat → Bool)
    (h : ∀ k, k < l.length → (∀ j, j < k → p j = true) → Spec Tryz.prog f (first ++ ([.v (.int .i64 k), .agg (spnAt l k).cells] ++ cap)) (.v (.bool (p k)))) : Spec Tryz.prog 167 [spnL l, .clo (.func f) first cap] (.v (.bool (allN l.length p))) := by
  refine spec_of mixed Tryz.func167 (by decide) rfl Tryz.results167 Tryz.ntmps167 (by decide) 0 (by simp) ?_
  simp [spnL, Spn.cells, renL_plain h1, renL_plain h2]
  refine pwp_loop (fun k : Nat => [(9, .v (.int .i64 k))]) (fun k => k ≤ l.length ∧ ∀ j, j < k → p j = true) (fun k => l.length - k) 0 ⟨Nat.zero_le _, fun j hj => by omega⟩ (by simp; rfl) (by simp [vwAll_plain h1, vwAll_plain h2]) ?_
  intro k ⟨hk, hp⟩
  by_cases hkl : k < l.length
  · simp [hkl, spnL, Spn.cells]
    refine pop_spec (h k hkl hp) rfl false (.inr ⟨by simp [spnL, Spn.cells], by simp [namesL_append, plainL_names h1, plainL_names h2, spnL, Spn.cells]⟩) (.inl rfl) rfl (by simp) ?_
    cases hpk : p k with
    | true =>
      simp
      refine again_of (k + 1) ⟨by omega, fun j hj => ?_⟩ (by omega) ?_
      · rcases Nat.lt_succ_iff_lt_or_eq.1 hj with hj | rfl
        · exact hp j hj
        · exact hpk
      · simp [i64_wrap (show -9223372036854775808 ≤ (k : Int) + 1 ∧ _ from by omega), vwAll_plain h1, vwAll_plain h2]
    | false =>
      simp
      refine answers_of rfl ?_; simp [allN_false hkl hpk]
  · simp [hkl]
    obtain rfl : k = l.length := by omega
    refine answers_of rfl ?_; simp [allN_spec.2 hp]
theorem hopAllHst_spec (l : List Hst) (hl : l.length ≤ 9223372036854775807) (f : FuncId) (first cap : List PV) (h1 : plainL first = true) (h2 : plainL cap = true) (p : Nat → Bool)
    (h : ∀ k, k < l.length → (∀ j, j < k → p j = true) → Spec Tryz.prog f (first ++ ([.v (.int .i64 k), .agg (hstAt l k).cells] ++ cap)) (.v (.bool (p k)))) : Spec Tryz.prog 165 [hstL l, .clo (.func f) first cap] (.v (.bool (allN l.length p))) := by
  refine spec_of mixed Tryz.func165 (by decide) rfl Tryz.results165 Tryz.ntmps165 (by decide) 0 (by simp) ?_
  simp [hstL, Hst.cells, spnL, renL_plain h1, renL_plain h2]
  refine pwp_loop (fun k : Nat => [(9, .v (.int .i64 k))]) (fun k => k ≤ l.length ∧ ∀ j, j < k → p j = true) (fun k => l.length - k) 0 ⟨Nat.zero_le _, fun j hj => by omega⟩ (by simp; rfl) (by simp [vwAll_plain h1, vwAll_plain h2]) ?_
  intro k ⟨hk, hp⟩
  by_cases hkl : k < l.length
  · simp [hkl, hstL, Hst.cells, spnL]
    refine pop_spec (h k hkl hp) rfl false (.inr ⟨by simp [hstL, Hst.cells, spnL], by simp [namesL_append, plainL_names h1, plainL_names h2, hstL, Hst.cells, spnL]⟩) (.inl rfl) rfl (by simp) ?_
    cases hpk : p k with
    | true =>
      simp
      refine again_of (k + 1) ⟨by omega, fun j hj => ?_⟩ (by omega) ?_
      · rcases Nat.lt_succ_iff_lt_or_eq.1 hj with hj | rfl
        · exact hp j hj
        · exact hpk
      · simp [i64_wrap (show -9223372036854775808 ≤ (k : Int) + 1 ∧ _ from by omega), vwAll_plain h1, vwAll_plain h2]
    | false =>
      simp
      refine answers_of rfl ?_; simp [allN_false hkl hpk]
  · simp [hkl]
    obtain rfl : k = l.length := by omega
    refine answers_of rfl ?_; simp [allN_spec.2 hp]
def wndB (ws : List Spn) (k : Nat) : Bool := spanB (spnAt ws k) 0 1440 && (decide (k = 0) || decide ((spnAt ws (k - 1)).high + 1 < (spnAt ws k).low))
theorem chained11_spec (s : Hst) (k : Nat) (hk : k < s.windows.length) (hl : s.windows.length ≤ 10) (hp : ∀ j, j < k → wndB s.windows j = true) : Spec Tryz.prog 168 [.v (.int .i64 k), .agg (spnAt s.windows k).cells, .rp s.cells 0] (.v (.bool (wndB s.windows k))) := by
  refine spec_of mixed Tryz.func168 (by decide) rfl Tryz.results168 Tryz.ntmps168 (by decide) 0 (by simp) ?_
  simp [Spn.cells, Hst.cells, spnL]
  refine pwp_draw 19 (by decide) ?_
  simp
  refine pd_spec (hspan_spec (spnAt s.windows k) 1440) (by simp [Spn.cells]) (by simp) (by simp [Spn.cells]) rfl ?_
  cases h1 : spanB (spnAt s.windows k) 0 1440 with
  | false =>
    simp
    refine ⟨by decide, ?_⟩
    refine answers_of rfl ?_; simp [wndB, h1]
  | true =>
  by_cases h0 : k = 0
  · subst h0
    simp
    refine ⟨by decide, ?_⟩
    refine answers_of rfl ?_; simp [wndB, h1]
  · have hb := hp (k - 1) (by omega)
    simp only [wndB, Bool.and_eq_true, spanB_spec] at hb
    have e1 : ((k : Int) - 1).toNat = k - 1 := by omega
    have w1 := i64_wrap (show -9223372036854775808 ≤ (k : Int) - 1 ∧ _ from by omega)
    have w2 := i64_wrap (show -9223372036854775808 ≤ (spnAt s.windows (k - 1)).high + 1 ∧ _ from by omega)
    by_cases h2 : (spnAt s.windows (k - 1)).high + 1 < (spnAt s.windows k).low
    · simp [h0, w1, e1, show (1 : Int) ≤ k from by omega, show (k : Int) - 1 < s.windows.length from by omega, show k - 1 < s.windows.length from by omega, show (0 : Int) ≤ (k : Int) - 1 from by omega, Spn.cells, w2, h2]
      refine ⟨by decide, ?_⟩
      refine answers_of rfl ?_; simp [wndB, h1, h0, h2]
    · simp [h0, w1, e1, show (1 : Int) ≤ k from by omega, show (k : Int) - 1 < s.windows.length from by omega, show k - 1 < s.windows.length from by omega, show (0 : Int) ≤ (k : Int) - 1 from by omega, Spn.cells, w2, h2]
      refine ⟨by decide, ?_⟩
      refine answers_of rfl ?_; simp [wndB, h1, h0, h2]
def hstB (s : Hst) : Bool := decide (s.windows.length ≤ 10) && inB s.turn 0 300 && allN s.windows.length (wndB s.windows)
theorem chained1_spec (k : Int) (s : Hst) (hl : s.windows.length ≤ 9223372036854775807) : Spec Tryz.prog 166 [.v (.int .i64 k), .agg s.cells] (.v (.bool (hstB s))) := by
  refine spec_of mixed Tryz.func166 (by decide) rfl Tryz.results166 Tryz.ntmps166 (by decide) 0 (by simp) ?_
  simp [Hst.cells, spnL]
  by_cases h1 : s.windows.length ≤ 10
  · simp [show (s.windows.length : Int) ≤ 10 from by omega]
    refine pop_spec (hin_spec s.turn 0 300) rfl false (.inl (by simp)) (.inl rfl) rfl (by simp) ?_
    cases h2 : inB s.turn 0 300 with
    | false => simp; refine answers_of rfl ?_; simp [hstB, h2]
    | true =>
    simp
    refine pop_specF [(3, .rp s.cells 0), (5, .undef), (10, .undef), (15, .undef), (17, .clo (.func 168) [] [.rp s.cells 0])] ?_ (hopAllSpn_spec s.windows hl 168 [] [.rp s.cells 0] rfl (by rfl) (wndB s.windows) fun j hj hp => chained11_spec s j hj h1 hp) rfl false (.inl (by simp [spnL])) (.inl rfl) rfl (by simp) ?_
    · simp [Hst.cells, spnL]
    simp
    refine answers_of rfl ?_; simp [hstB, h1, h2]
  · simp [show ¬ (s.windows.length : Int) ≤ 10 from by omega, show ¬ s.windows.length ≤ 10 from h1, show (10 : Int) < s.windows.length from by omega]
    refine answers_of rfl ?_; simp [hstB, h1]
theorem chained2_spec (k : Int) (s : Spn) : Spec Tryz.prog 170 [.v (.int .i64 k), .agg s.cells] (.v (.bool (spanB s 0 300))) := by
  refine spec_of mixed Tryz.func170 (by decide) rfl Tryz.results170 Tryz.ntmps170 (by decide) 0 (by simp) ?_
  simp [Spn.cells]
  refine pop_spec (hspan_spec s 300) rfl false (.inl (by simp [Spn.cells])) (.inl rfl) rfl (by simp) ?_
  simp
  refine answers_of rfl ?_; simp
def chainB (c : Chn) : Bool := inB c.stops.length 2 8 && decide ((c.legs.length : Int) = c.stops.length - 1) && allN c.stops.length (fun k => hstB (hstAt c.stops k)) && allN c.legs.length (fun k => spanB (spnAt c.legs k) 0 300)
def ChnMem (c : Chn) : Prop := c.stops.length ≤ 9223372036854775807 ∧ c.legs.length ≤ 9223372036854775807 ∧ ∀ k, k < c.stops.length → (hstAt c.stops k).windows.length ≤ 9223372036854775807
theorem chained_spec (c : Chn) (hc : ChnMem c) : Spec Tryz.prog 93 [.agg c.cells] (.v (.bool (chainB c))) := by
  obtain ⟨m1, m2, m3⟩ := hc
  refine spec_of mixed Tryz.func93 (by decide) rfl Tryz.results93 Tryz.ntmps93 (by decide) 0 (by simp) ?_
  simp [Chn.cells, hstL, spnL]
  refine pop_spec (hopAllHst_spec c.stops m1 166 [] [] rfl rfl (fun k => hstB (hstAt c.stops k)) fun k hk _ => chained1_spec k (hstAt c.stops k) (m3 k hk)) rfl false (.inl (by simp [hstL])) (.inl rfl) rfl (by simp) ?_
  simp
  refine pop_spec (hopAllSpn_spec c.legs m2 170 [] [] rfl rfl (fun k => spanB (spnAt c.legs k) 0 300) fun k hk _ => chained2_spec k (spnAt c.legs k)) rfl false (.inl (by simp [spnL])) (.inl rfl) rfl (by simp) ?_
  simp
  refine pop_spec (hin_spec c.stops.length 2 8) rfl false (.inl (by simp)) (.inl rfl) rfl (by simp) ?_
  cases h1 : inB c.stops.length 2 8 with
  | false => simp; refine answers_of rfl ?_; simp [chainB, h1]
  | true =>
  have g1 := inB_spec.1 h1
  have w1 := i64_wrap (show -9223372036854775808 ≤ (c.stops.length : Int) - 1 ∧ _ from by omega)
  by_cases h2 : (c.legs.length : Int) = c.stops.length - 1
  · simp [w1, h2]
    cases h3 : allN c.stops.length (fun k => hstB (hstAt c.stops k)) <;> (simp; refine answers_of rfl ?_; simp [chainB, h1, h2, h3])
  · simp [w1, h2]
    refine answers_of rfl ?_; simp [chainB, h1, h2]
structure ChnOk (c : Chn) : Prop where
  n : 2 ≤ c.stops.length ∧ c.stops.length ≤ 8
  legs : c.legs.length + 1 = c.stops.length
  leg : ∀ k, k < c.legs.length → 0 ≤ (spnAt c.legs k).low ∧ (spnAt c.legs k).low ≤ (spnAt c.legs k).high ∧ (spnAt c.legs k).high ≤ 300
  turn : ∀ k, k < c.stops.length → 0 ≤ (hstAt c.stops k).turn ∧ (hstAt c.stops k).turn ≤ 300
  wn : ∀ k, k < c.stops.length → (hstAt c.stops k).windows.length ≤ 10
theorem chainB_ok {c : Chn} (h : chainB c = true) : ChnOk c := by
  simp only [chainB, Bool.and_eq_true, inB_spec, decide_eq_true_eq, allN_spec, spanB_spec, hstB] at h
  obtain ⟨⟨⟨h1, h2⟩, h3⟩, h4⟩ := h
  exact ⟨by omega, by omega, h4, fun k hk => (h3 k hk).1.2, fun k hk => (h3 k hk).1.1⟩
def openB (ws : List Spn) (t : Int) : Bool := !(allN ws.length fun k => !(inB t (spnAt ws k).low (spnAt ws k).high))
theorem open_spec (s : Hst) (t : Int) (hl : s.windows.length ≤ 9223372036854775806) : Spec Tryz.prog 171 [.agg s.cells, .v (.int .i64 t)] (.v (.bool (openB s.windows t))) := by
  refine spec_of mixed Tryz.func171 (by decide) rfl Tryz.results171 Tryz.ntmps171 (by decide) 0 (by simp) ?_
  simp [Hst.cells, spnL]
  refine pwp_loop (fun k : Nat => [(10, .v (.int .i64 k))]) (fun k => k ≤ s.windows.length ∧ ∀ j, j < k → (!(inB t (spnAt s.windows j).low (spnAt s.windows j).high)) = true) (fun k => s.windows.length - k) 0 ⟨Nat.zero_le _, fun j hj => by omega⟩ (by simp; rfl) (by simp) ?_
  intro k ⟨hk, hp⟩
  by_cases hkl : k < s.windows.length
  · simp [hkl, Spn.cells]
    refine pop_spec (hin_spec t (spnAt s.windows k).low (spnAt s.windows k).high) rfl false (.inl (by simp)) (.inl rfl) rfl (by simp) ?_
    cases h1 : inB t (spnAt s.windows k).low (spnAt s.windows k).high with
    | true =>
      simp
      refine answers_of rfl ?_
      rw [openB, allN_false hkl (by simp [h1])]
      simp
    | false =>
      simp
      refine again_of (k + 1) ⟨by omega, fun j hj => ?_⟩ (by omega) ?_
      · rcases Nat.lt_succ_iff_lt_or_eq.1 hj with hj | rfl
        · simpa using hp j hj
        · simp [h1]
      · simp [i64_wrap (show -9223372036854775808 ≤ (k : Int) + 1 ∧ _ from by omega)]
  · obtain rfl : k = s.windows.length := by omega
    simp
    refine answers_of rfl ?_
    rw [openB, allN_spec.2 hp]
    simp
def fromN (f : Nat → Bool) : Nat → Nat → Int
  | 0, _ => -1
  | n + 1, t => if f t then t else fromN f n (t + 1)
def fromI (f : Nat → Bool) (t : Int) : Int := fromN f (1441 - (max 0 t).toNat) (max 0 t).toNat
theorem from_spec (f : Nat → Bool) (t0 : Int) (ht : Small 1000000 t0) : Spec Tryz.prog 98 [.rp (rowB f) 0, .v (.int .i64 t0)] (.v (.int .i64 (fromI f t0))) := by
  simp only [Small] at ht
  refine spec_of mixed Tryz.func98 (by decide) rfl Tryz.results98 Tryz.ntmps98 (by decide) 0 (by simp) ?_
  simp
  have em : (if t0 > 0 then t0 else 0) = (((max 0 t0).toNat : Nat) : Int) := by split <;> omega
  have em' : (if 0 < t0 then t0 else 0) = (((max 0 t0).toNat : Nat) : Int) := em
  simp only [em, em']
  generalize hs : (max 0 t0).toNat = s
  have hsl : s ≤ 1000000 := by omega
  refine pwp_loop (fun t : Nat => [(5, .v (.int .i64 t))]) (fun t => t ≤ 1000001 ∧ fromN f (1441 - t) t = fromI f t0) (fun t => 1441 - t) s ⟨by omega, by rw [fromI, hs]⟩ (by simp; rfl) (by simp) ?_
  intro t ⟨htl, hf⟩
  by_cases hlt : t < 1441
  · have e : 1441 - t = (1441 - (t + 1)) + 1 := by omega
    rw [e, fromN] at hf
    simp [show (t : Int) < 1441 from by omega, hlt]
    cases hft : f t with
    | true =>
      rw [hft] at hf
      simp
      refine answers_of rfl ?_
      rw [← hf]
      simp
    | false =>
      rw [hft] at hf
      simp
      refine again_of (t + 1) ⟨by omega, by simpa using hf⟩ (by omega) ?_
      simp [i64_wrap (show -9223372036854775808 ≤ (t : Int) + 1 ∧ _ from by omega)]
  · simp [show ¬ (t : Int) < 1441 from by omega, show (1441 : Int) ≤ t from by omega]
    refine answers_of rfl ?_
    rw [← hf, show 1441 - t = 0 from by omega]
    simp [fromN]
end Go.Qg


namespace Go.Qg
open Go.Proofs
set_option maxRecDepth 100000
set_option maxHeartbeats 32000000
attribute [local irreducible] pwp pops pdraw pop popCall pdCall thenP blockP scopeP pspec Spec answers ppost CallW rend
def goesB (c : Chn) (f : Nat → Bool) (stop : Nat) (a : Int) : Bool := openB (hstAt c.stops (stop + 1)).windows a && (decide (stop + 1 = c.legs.length) || decide (0 ≤ fromI f (a + (hstAt c.stops (stop + 1)).turn)))
def failN (p : Int → Bool) : Nat → Int → Int
  | 0, _ => -1
  | n + 1, d => if p d then failN p n (d + 1) else d
def failsI (c : Chn) (f : Nat → Bool) (stop : Nat) (minute : Int) : Int := failN (fun d => goesB c f stop (minute + d)) ((spnAt c.legs stop).high - (spnAt c.legs stop).low + 1).toNat (spnAt c.legs stop).low
def knownL (n : Nat) (F : Nat → Nat → Bool) : PV := .sl 1441 n fun i => rowB (F i)
theorem fails1_spec (c : Chn) (hc : ChnOk c) (F : Nat → Nat → Bool) (stop : Nat) (hs : stop < c.legs.length) (a : Int) (ha : Small 100000 a) :
    Spec Tryz.prog 203 [.v (.int .i64 a), .rp c.cells 0, .rp [.v (.int .i64 stop)] 0, .rp [knownL c.legs.length F] 0] (.v (.bool (goesB c (F (stop + 1)) stop a))) := by
  have hl := hc.legs
  have hn := hc.n
  have ht := hc.turn (stop + 1) (by omega)
  have hw := hc.wn (stop + 1) (by omega)
  simp only [Small] at ha
  have w1 := i64_wrap (show -9223372036854775808 ≤ (stop : Int) + 1 ∧ _ from by omega)
  have hsc : (hstAt c.stops (stop + 1)).cells = [.sl 2 (hstAt c.stops (stop + 1)).windows.length fun i => (spnAt (hstAt c.stops (stop + 1)).windows i).cells, .v (.int .i64 (hstAt c.stops (stop + 1)).turn)] := rfl
  have w2 := i64_wrap (show -9223372036854775808 ≤ a + (hstAt c.stops (stop + 1)).turn ∧ _ from by omega)
  refine spec_of mixed Tryz.func203 (by decide) rfl Tryz.results203 Tryz.ntmps203 (by decide) 0 (by simp) ?_
  simp [Chn.cells, hstL, spnL, knownL, w1, show stop + 1 < c.stops.length from by omega, show (stop : Int) + 1 < c.stops.length from by omega, show (0 : Int) ≤ (stop : Int) + 1 from by omega, hsc]
  refine pwp_draw 23 (by decide) ?_
  simp
  refine pd_spec (open_spec (hstAt c.stops (stop + 1)) a (by omega)) (by simp [hsc]) (by simp) (by simp [hsc]) rfl ?_
  cases h1 : openB (hstAt c.stops (stop + 1)).windows a with
  | false =>
    simp
    refine ⟨by decide, ?_⟩
    refine answers_of rfl ?_; simp [goesB, h1]
  | true =>
  by_cases h2 : stop + 1 = c.legs.length
  · have h2' : (stop : Int) + 1 = (c.legs.length : Int) := by omega
    simp (config := { maxSteps := 4000000 }) [w1, eq_true h2']
    refine ⟨by decide, ?_⟩
    refine answers_of rfl ?_; simp [goesB, ← h2, h1]
  · have h2' : ¬ (stop : Int) + 1 = (c.legs.length : Int) := by omega
    simp (config := { maxSteps := 4000000 }) [w1, h2', h2, show stop + 1 < c.legs.length from by omega, show (stop : Int) + 1 < c.legs.length from by omega, show (0 : Int) ≤ (stop : Int) + 1 from by omega, w2]
    refine pd_spec (from_spec (F (stop + 1)) (a + (hstAt c.stops (stop + 1)).turn) (by simp only [Small]; omega)) (by simp [w2]) (by simp) (by simp) rfl ?_
    by_cases h3 : 0 ≤ fromI (F (stop + 1)) (a + (hstAt c.stops (stop + 1)).turn)
    · simp [h3, h2', h2]
      refine ⟨by decide, ?_⟩
      refine answers_of rfl ?_; simp [goesB, h1, h2, h3]
    · simp [h3, h2', h2]
      refine ⟨by decide, ?_⟩
      refine answers_of rfl ?_; simp [goesB, h1, h2, h3]
theorem fails_spec (c : Chn) (hc : ChnOk c) (F : Nat → Nat → Bool) (stop : Nat) (hs : stop < c.legs.length) (m : Int) (hm : Small 10000 m) :
    Spec Tryz.prog 172 [.agg c.cells, knownL c.legs.length F, .v (.int .i64 stop), .v (.int .i64 m)] (.v (.int .i64 (failsI c (F (stop + 1)) stop m))) := by
  have hl := hc.leg stop hs
  simp only [Small] at hm
  have hsc : (spnAt c.legs stop).cells = [.v (.int .i64 (spnAt c.legs stop).low), .v (.int .i64 (spnAt c.legs stop).high)] := rfl
  refine spec_of mixed Tryz.func172 (by decide) rfl Tryz.results172 Tryz.ntmps172 (by decide) 0 (by simp) ?_
  simp [Chn.cells, hstL, spnL, knownL, hs, hsc]
  refine pwp_loop (fun d : Int => [(4, .rp c.cells 0), (5, .rp [knownL c.legs.length F] 0), (6, .rp [.v (.int .i64 stop)] 0), (9, .clo (.func 203) [] [.rp c.cells 0, .rp [.v (.int .i64 stop)] 0, .rp [knownL c.legs.length F] 0]), (10, .v (.int .i64 d)), (11, .undef), (12, .undef), (16, .undef)])
    (fun d => (spnAt c.legs stop).low ≤ d ∧ d ≤ (spnAt c.legs stop).high + 1 ∧ failN (fun d => goesB c (F (stop + 1)) stop (m + d)) ((spnAt c.legs stop).high - d + 1).toNat d = failsI c (F (stop + 1)) stop m) (fun d => ((spnAt c.legs stop).high + 1 - d).toNat) (spnAt c.legs stop).low ⟨by omega, by omega, rfl⟩ (by simp; rfl) (by simp [Chn.cells, hstL, spnL, knownL]) ?_
  intro d ⟨hd1, hd2, hf⟩
  by_cases hdl : d ≤ (spnAt c.legs stop).high
  · have w1 := i64_wrap (show -9223372036854775808 ≤ m + d ∧ _ from by omega)
    have e : ((spnAt c.legs stop).high - d + 1).toNat = ((spnAt c.legs stop).high - (d + 1) + 1).toNat + 1 := by omega
    rw [e, failN] at hf
    simp [Chn.cells, hstL, spnL, hs, hsc, hdl, w1]
    refine pop_spec (fails1_spec c hc F stop hs (m + d) (by simp only [Small]; omega)) rfl false (.inl (by simp [Chn.cells, hstL, spnL, knownL])) (.inl rfl) rfl (by simp) ?_
    cases hg : goesB c (F (stop + 1)) stop (m + d) with
    | true =>
      rw [hg] at hf
      simp
      refine again_of (d + 1) ⟨by omega, by omega, by simpa using hf⟩ (by omega) ?_
      simp [i64_wrap (show -9223372036854775808 ≤ d + 1 ∧ _ from by omega), Chn.cells, hstL, spnL, knownL]
    | false =>
      rw [hg] at hf
      simp
      refine answers_of rfl ?_
      rw [← hf]
      simp
  · simp [Chn.cells, hstL, spnL, hs, hsc, hdl, show ¬ d ≤ (spnAt c.legs stop).high from hdl]
    refine answers_of rfl ?_
    rw [← hf, show ((spnAt c.legs stop).high - d + 1).toNat = 0 from by omega]
    simp [failN]
def goodR (c : Chn) : Nat → Nat → Nat → Bool
  | 0 => fun _ _ => false
  | k + 1 => fun i t => if i = c.legs.length - 1 - k then openB (hstAt c.stops i).windows t && decide (failsI c (goodR c k (i + 1)) i t < 0) else goodR c k i t
def goodTk (c : Chn) (k t : Nat) (i u : Nat) : Bool := if i = c.legs.length - 1 - k ∧ u < t then goodR c (k + 1) i u else goodR c k i u
theorem replicate_rowsOf (n : Nat) (z : List PV) : List.replicate n z = rowsOf (fun _ => z) n := by
  refine List.ext_getElem? fun i => ?_
  by_cases h : i < n
  · rw [rowsOf_get h]; simp [h]
  · rw [List.getElem?_eq_none (by simp; omega), List.getElem?_eq_none (by simp; omega)]
theorem rowsOf_set {g : Nat → List PV} {n i : Nat} (x : List PV) : (rowsOf g n).set i x = rowsOf (fun j => if j = i then x else g j) n := by
  refine List.ext_getElem? fun j => ?_
  by_cases h : j < n
  · rw [rowsOf_get h, List.getElem?_set]
    by_cases hj : i = j
    · subst hj; simp [h]
    · rw [if_neg hj, rowsOf_get h, if_neg (fun e => hj e.symm)]
  · rw [List.getElem?_eq_none (by simp; omega), List.getElem?_eq_none (by simp; omega)]
def goodRows (n : Nat) (F : Nat → Nat → Bool) : List (List PV) := rowsOf (fun i => rowB (F i)) n
@[simp] theorem goodRows_length (n : Nat) (F : Nat → Nat → Bool) : (goodRows n F).length = n := by simp [goodRows]
theorem goodRows_get {n : Nat} {F : Nat → Nat → Bool} {i : Nat} (h : i < n) : (goodRows n F)[i]? = some (rowB (F i)) := rowsOf_get h
@[simp] theorem goodRows_getElem {n : Nat} {F : Nat → Nat → Bool} {i : Nat} (h : i < (goodRows n F).length) : (goodRows n F)[i] = rowB (F i) := by simp [goodRows, rowsOf]
@[simp] theorem goodRows_set (n : Nat) (F : Nat → Nat → Bool) (i : Nat) (g : Nat → Bool) : (goodRows n F).set i (rowB g) = goodRows n (fun j => if j = i then g else F j) := by
  rw [goodRows, rowsOf_set, goodRows]
  congr 1
  funext j
  split <;> rfl
@[simp] theorem goodRows_take (n : Nat) (F : Nat → Nat → Bool) : (goodRows n F).take n = goodRows n F := by simp [goodRows]
@[simp] theorem namesLL_goodRows (n : Nat) (F : Nat → Nat → Bool) : namesLL (goodRows n F) = [] := by
  have key : ∀ l : List (List PV), (∀ x ∈ l, namesL x = []) → namesLL l = [] := by
    intro l
    induction l with
    | nil => intro _; rfl
    | cons x l ih => intro h; simp only [namesLL, h x List.mem_cons_self, ih fun y hy => h y (List.mem_cons_of_mem _ hy), List.nil_append]
  refine key _ fun x hx => ?_
  obtain ⟨i, _, rfl⟩ := rowsOf_mem.1 hx
  exact namesL_rowB _
@[simp] theorem vwAllL_goodRows (f : PF) (T : Tgt) (d n : Nat) (F : Nat → Nat → Bool) : vo.vwAllL f T d (goodRows n F) (goodRows n F) = True := by
  rw [goodRows, vwAllL_rowsOf]
  simp
@[simp] theorem goodRows_allone (n : Nat) (F : Nat → Nat → Bool) : ((goodRows n F).all fun r => r.all (·.one)) = true := by
  rw [List.all_eq_true]
  intro x hx
  obtain ⟨i, _, rfl⟩ := rowsOf_mem.1 hx
  exact rowB_one _
theorem goodRows_replicate (n : Nat) (f : Nat → Bool) : List.replicate n (rowB f) = goodRows n (fun _ => f) := replicate_rowsOf _ _
@[simp] theorem goodRows_one {n : Nat} {F : Nat → Nat → Bool} : (∀ (x : List PV), x ∈ goodRows n F → ∀ (y : PV), y ∈ x → y.one = true) ↔ True := by
  refine ⟨fun _ => trivial, fun _ x hx y hy => ?_⟩
  obtain ⟨i, _, rfl⟩ := rowsOf_mem.1 hx
  obtain ⟨b, rfl⟩ := mem_rowB' hy
  rfl
@[simp] theorem goodRows_len1 {n : Nat} {F : Nat → Nat → Bool} : (∀ (x : List PV), x ∈ goodRows n F → x.length = 1441) ↔ True := by
  refine ⟨fun _ => trivial, fun _ x hx => ?_⟩
  obtain ⟨i, _, rfl⟩ := rowsOf_mem.1 hx
  simp
theorem tsz_min : tsz Tryz.prog 176 = some 1441 := by kernel_rfl
theorem tzero_min : tzero Tryz.prog 176 = some (rowB fun _ => false) := by
  unfold rowB
  kernel_rfl
theorem goodTk_zero (c : Chn) (k : Nat) : goodTk c k 0 = goodR c k := by
  funext i u; simp [goodTk]
theorem goodTk_end (c : Chn) (k : Nat) (hk : k < c.legs.length) : goodRows c.legs.length (goodTk c k 1441) = goodRows c.legs.length (goodR c (k + 1)) := by
  unfold goodRows
  refine rowsOf_congr fun i hi => rowB_congr fun u hu => ?_
  by_cases h : i = c.legs.length - 1 - k
  · simp [goodTk, h, hu]
  · simp [goodTk, h, goodR]
theorem goodTk_succ (c : Chn) (k t i : Nat) (hi : i = c.legs.length - 1 - k) : (fun j => if j = i then updB (goodTk c k t i) t (openB (hstAt c.stops i).windows t && decide (failsI c (goodR c k (i + 1)) i t < 0)) else goodTk c k t j) = goodTk c k (t + 1) := by
  funext j u
  by_cases hj : j = i
  · subst hj
    show (if j = j then updB (goodTk c k t j) t (openB (hstAt c.stops j).windows t && decide (failsI c (goodR c k (j + 1)) j t < 0)) else goodTk c k t j) u = _
    rw [if_pos rfl, updB]
    rcases Nat.lt_trichotomy u t with h | h | h
    · rw [if_neg (show ¬ u = t by omega)]
      unfold goodTk
      rw [if_pos ⟨hi, h⟩, if_pos ⟨hi, by omega⟩]
    · subst h
      rw [if_pos rfl]
      unfold goodTk
      rw [if_pos ⟨hi, by omega⟩]
      simp only [goodR]
      rw [if_pos hi]
    · rw [if_neg (show ¬ u = t by omega)]
      unfold goodTk
      rw [if_neg (fun h' => by have := h'.2; omega), if_neg (fun h' => by have := h'.2; omega)]
  · show (if j = i then _ else goodTk c k t j) u = _
    rw [if_neg hj]
    unfold goodTk
    rw [if_neg (fun h => hj (h.1.trans hi.symm)), if_neg (fun h => hj (h.1.trans hi.symm))]
theorem goodTk_next (c : Chn) (k t i : Nat) (hi : i = c.legs.length - 1 - k) : goodTk c k t (i + 1) = goodR c k (i + 1) := by
  funext u
  simp [goodTk, show ¬ i + 1 = c.legs.length - 1 - k from by omega]
theorem good_spec (c : Chn) (hc : ChnOk c) : Spec Tryz.prog 97 [.agg c.cells] (knownL c.legs.length (goodR c c.legs.length)) := by
  have hn := hc.n
  have hlg := hc.legs
  have w0 := i64_wrap (show -9223372036854775808 ≤ (c.legs.length : Int) - 1 ∧ _ from by omega)
  refine spec_of mixed Tryz.func97 (by decide) rfl Tryz.results97 Tryz.ntmps97 (by decide) 0 (by simp) ?_
  simp [Chn.cells, hstL, spnL, tsz_min, tzero_min, show 1441 * (c.legs.length : Int) ≤ 281474976710656 from by omega, show (c.legs.length : Int) ≤ 9223372036854775807 from by omega, goodRows_replicate]
  refine pwp_loop (fun s : Nat => [(1, .rp c.cells 0), (4, .v (.int .i64 ((s : Int) - 1))), (6, .undef), (10, .undef), (9, .rows (some (0, c.legs.length)) 0 176 1441 (goodRows c.legs.length (goodR c (c.legs.length - s))))]) (fun s => s ≤ c.legs.length) (fun s => s) c.legs.length (Nat.le_refl _) (by simp; rfl) ?_ ?_
  · simp [Chn.cells, hstL, spnL, w0, goodR]
  intro s hs
  cases s with
  | zero =>
    simp
    refine answers_of rfl ?_
    simp [knownL]
    intro k hk
    simp [goodRows_get hk]
  | succ i =>
    have ei : ((i + 1 : Nat) : Int) - 1 = (i : Int) := by omega
    have wi := i64_wrap (show -9223372036854775808 ≤ (i : Int) - 1 ∧ _ from by omega)
    have hil : i < c.legs.length := by omega
    have hks : c.legs.length - (i + 1) + 1 = c.legs.length - i := by omega
    generalize hk : c.legs.length - (i + 1) = k at *
    have hik : i = c.legs.length - 1 - k := by omega
    simp only [ei]
    simp
    refine pwp_loop (fun t : Nat => [(18, .v (.int .i64 t)), (9, .rows (some (0, c.legs.length)) 0 176 1441 (goodRows c.legs.length (goodTk c k t)))]) (fun t => t ≤ 1441) (fun t => 1441 - t) 0 (Nat.zero_le _) (by simp; rfl) ?_ ?_
    · simp [goodTk_zero]
    intro t ht
    by_cases htl : t < 1441
    · have wt := i64_wrap (show -9223372036854775808 ≤ (t : Int) + 1 ∧ _ from by omega)
      have ti : (t : Int) < 1441 := by omega
      have hsc : (hstAt c.stops i).cells = [.sl 2 (hstAt c.stops i).windows.length fun j => (spnAt (hstAt c.stops i).windows j).cells, .v (.int .i64 (hstAt c.stops i).turn)] := rfl
      have hw := hc.wn i (by omega)
      have es := goodTk_succ c k t i hik
      simp [show (t : Int) < 1441 from by omega]
      refine pwp_draw 20 (by decide) ?_
      simp [Chn.cells, hstL, spnL, show i < c.stops.length from by omega, hsc]
      refine pd_spec (open_spec (hstAt c.stops i) t (by omega)) (by simp [hsc]) (by simp) (by simp [hsc]) rfl ?_
      cases ho : openB (hstAt c.stops i).windows t with
      | false =>
        rw [ho] at es
        simp only [Bool.false_and] at es
        simp [hil, htl, ti, show t ≤ 1440 from by omega, goodRows_get hil]
        refine ⟨by decide, ?_⟩
        refine again_of (t + 1) (by omega) (by omega) ?_
        simp [wt, es]
      | true =>
        rw [ho] at es
        simp only [Bool.true_and] at es
        simp [Chn.cells, hstL, spnL]
        refine pd_specM (fails_spec c hc (goodTk c k t) i hil t (by simp only [Small]; omega)) rfl (by simp) ?_ rfl rfl ?_
        · intro g hg
          have h9 := hg (.tmp 33) (by simp) 9 (by simp [deref])
          simp at h9
          refine ⟨vw_plain (by simp [PV.plain, plainL, Chn.cells, hstL, spnL]), vw_own_local h9 (by simp) (fun j hj => ⟨by simp [goodRows_get hj, List.getD], rowB_plain _, rowB_allfree _⟩), by simp, by simp, trivial⟩
        rw [goodTk_next c k t i hik]
        by_cases hf : failsI c (goodR c k (i + 1)) i t < 0
        · simp only [hf, decide_true] at es
          simp [hil, htl, ti, show t ≤ 1440 from by omega, goodRows_get hil, hf, show ¬ 0 ≤ failsI c (goodR c k (i + 1)) i t from by omega]
          refine ⟨by decide, ?_⟩
          refine again_of (t + 1) (by omega) (by omega) ?_
          simp [wt, es]
        · simp only [hf, decide_false] at es
          simp [hil, htl, ti, show t ≤ 1440 from by omega, goodRows_get hil, hf, show 0 ≤ failsI c (goodR c k (i + 1)) i t from by omega]
          refine ⟨by decide, ?_⟩
          refine again_of (t + 1) (by omega) (by omega) ?_
          simp [wt, es]
    · obtain rfl : t = 1441 := by omega
      rw [goodTk_end c k (by omega), hks]
      simp
      refine again_of i (by omega) (by omega) ?_
      simp [wi]
def lastS (l : List Spn) : Spn := spnAt l (l.length - 1)
def spansP (f : Nat → Bool) : Nat → List Spn
  | 0 => []
  | k + 1 => if f k = true then (if 0 < (spansP f k).length ∧ (lastS (spansP f k)).high = (k : Int) - 1 then (spansP f k).set ((spansP f k).length - 1) ⟨(lastS (spansP f k)).low, k⟩ else spansP f k ++ [⟨k, k⟩]) else spansP f k
theorem spansP_length (f : Nat → Bool) : ∀ k, (spansP f k).length ≤ k
  | 0 => Nat.le_refl _
  | k + 1 => by
    have := spansP_length f k
    unfold spansP
    split
    · split <;> simp <;> omega
    · omega
theorem spans_spec (f : Nat → Bool) (n : Nat) (hn : n ≤ 1441) : Spec Tryz.prog 105 [.sl 1 n fun i => [.v (.bool (f i))]] (spnL (spansP f n)) := by
  refine spec_of mixed Tryz.func105 (by decide) rfl Tryz.results105 Tryz.ntmps105 (by decide) 1 (by simp) ?_
  simp
  refine pwp_loop (fun k : Nat => [(3, .own 47 (spansP f k).length 0 (spansP f k).length false), (8, .v (.int .i64 k)), (47, .rows none (spansP f k).length 37 2 (rowsSp (spansP f k)))]) (fun k => k ≤ n) (fun k => n - k) 0 (Nat.zero_le _) (by simp; rfl) (by simp [spansP]) ?_
  intro k hk
  have hl := spansP_length f k
  by_cases hkl : k < n
  · have wk := i64_wrap (show -9223372036854775808 ≤ (k : Int) + 1 ∧ _ from by omega)
    have wk1 := i64_wrap (show -9223372036854775808 ≤ (k : Int) - 1 ∧ _ from by omega)
    cases hf : f k with
    | false =>
      have e : spansP f (k + 1) = spansP f k := by simp [spansP, hf]
      simp [show (k : Int) < n from by omega, hkl, hf]
      refine again_of (k + 1) (by omega) (by omega) ?_
      simp [wk, e]
    | true =>
      by_cases h0 : spansP f k = []
      · have e : spansP f (k + 1) = [⟨k, k⟩] := by simp [spansP, hf, h0]
        have er := rowsSp_snoc [] ⟨k, k⟩
        simp only [Spn.cells, rowsSp_nil, List.nil_append] at er
        simp [hkl, hf, h0, show (1 : Nat) ≤ maxLen from by simp [maxLen]]
        refine again_of (k + 1) (by omega) (by omega) ?_
        simp [wk, e, er]
      · obtain ⟨j, hj⟩ : ∃ j, (spansP f k).length = j + 1 := ⟨(spansP f k).length - 1, by
          have : (spansP f k).length ≠ 0 := fun h => h0 (List.eq_nil_of_length_eq_zero h)
          omega⟩
        have hlast : lastS (spansP f k) = spnAt (spansP f k) j := by simp [lastS, hj]
        have hgj : (rowsSp (spansP f k))[j]? = some (spnAt (spansP f k) j).cells := rowsSp_get (by omega)
        have wj := i64_wrap (show -9223372036854775808 ≤ (j : Int) ∧ _ from by omega)
        have cj : ((j + 1 : Nat) : Int) = (j : Int) + 1 := by omega
        by_cases h1 : (spnAt (spansP f k) j).high = (k : Int) - 1
        · have e : spansP f (k + 1) = (spansP f k).set j ⟨(spnAt (spansP f k) j).low, k⟩ := by
            rw [spansP, if_pos hf, if_pos ⟨by omega, by rw [hlast]; exact h1⟩, hlast, hj]; rfl
          have el : (spansP f (k + 1)).length = j + 1 := by rw [e]; simp [hj]
          have er := rowsSp_set (spansP f k) j ⟨(spnAt (spansP f k) j).low, k⟩
          rw [← e] at er
          simp only [Spn.cells] at er
          simp [hkl, hf, hj, hgj, Spn.cells, wk1, wj, show (j : Int) < (j : Int) + 1 from by omega, h1]
          refine again_of (k + 1) (by omega) (by omega) ?_
          simp [wk, er, el]
        · have e : spansP f (k + 1) = spansP f k ++ [⟨k, k⟩] := by
            rw [spansP, if_pos hf, if_neg]
            rintro ⟨_, h⟩
            rw [hlast] at h
            exact h1 h
          have el : (spansP f (k + 1)).length = j + 2 := by rw [e]; simp [hj]
          have er := rowsSp_snoc (spansP f k) ⟨k, k⟩
          rw [← e] at er
          simp only [Spn.cells] at er
          have et : (spansP f k).take (j + 1) = spansP f k := List.take_of_length_le (by simp [hj])
          simp [hkl, hf, hj, hgj, Spn.cells, wk1, wj, show (j : Int) < (j : Int) + 1 from by omega, h1, show (j + 1 + 1) * 16 ≤ 140737488355328 from by omega, show j + 1 + 1 ≤ maxLen from by simp [maxLen]; omega]
          refine again_of (k + 1) (by omega) (by omega) ?_
          simp [wk, er, el, et]
  · obtain rfl : k = n := by omega
    simp
    refine answers_of rfl ?_
    simp [spnL]
    intro j hj
    simp [rowsSp_get hj, Spn.cells]
end Go.Qg


namespace Go.Qg
open Go.Proofs
set_option maxRecDepth 100000
set_option maxHeartbeats 32000000
attribute [local irreducible] pwp pops pdraw pop popCall pdCall thenP blockP scopeP pspec Spec answers ppost CallW rend
def departL (c : Chn) : PV := .sl 1 c.legs.length fun i => [spnL (spansP (goodR c c.legs.length i) 1441)]
def departR (c : Chn) : PV := if chainB c = true then .tup [departL c, .v (.int .i64 0)] else .tup [.nil, .v (.int .i64 2)]
theorem Depart_spec (c : Chn) (hc : ChnMem c) : Spec Tryz.prog 33 [.agg c.cells] (departR c) := by
  refine spec_of mixed Tryz.func33 (by decide) rfl Tryz.results33 Tryz.ntmps33 (by decide) 1 (by simp) ?_
  simp [Chn.cells, hstL, spnL]
  refine pop_spec (chained_spec c hc) rfl false (.inl (by simp [Chn.cells, hstL, spnL])) (.inl rfl) rfl (by simp) ?_
  cases hb : chainB c with
  | false =>
    simp
    refine answers_of rfl ?_
    simp [departR, hb]
  | true =>
  have ho := chainB_ok hb
  have hn := ho.n
  have hlg := ho.legs
  simp
  refine pop_spec (good_spec c ho) rfl false (.inl (by simp [Chn.cells, hstL, spnL])) (.inl rfl) rfl (by simp [knownL]) ?_
  simp [knownL]
  generalize hF : goodR c c.legs.length = F
  refine pwp_loop (fun k : Nat => [(4, .own 24 k 0 k false), (13, .v (.int .i64 k)), (24, .rows none k 32 1 (rowsOf (fun i => [spnL (spansP (F i) 1441)]) k))]) (fun k => k ≤ c.legs.length) (fun k => c.legs.length - k) 0 (Nat.zero_le _) (by simp; rfl) (by simp) ?_
  intro k hk
  by_cases hkl : k < c.legs.length
  · have wk := i64_wrap (show -9223372036854775808 ≤ (k : Int) + 1 ∧ _ from by omega)
    simp [hkl, tzero_min]
    refine popLess_of [(6, .rp (rowB (F k)) 0)] ?_ (by simp [show (1441 : Nat) ≤ maxLen from by simp [maxLen]]; rfl) ?_
    · simp [spnL]
    simp
    refine pop_spec (spans_spec (F k) 1441 (Nat.le_refl _)) rfl false (.inl ?_) (.inl rfl) rfl (by simp [spnL]) ?_
    · simp
      intro i hi
      rw [rowB_part hi]
    have er := rowsOf_snoc (g := fun i => [spnL (spansP (F i) 1441)]) (k := k) rfl
    simp only [spnL] at er
    simp [spnL, show (k + 1) * 24 ≤ 140737488355328 from by omega, show k + 1 ≤ maxLen from by simp [maxLen]; omega]
    refine again_of (k + 1) (by omega) (by omega) ?_
    simp [wk, er]
  · obtain rfl : k = c.legs.length := by omega
    simp
    refine answers_of rfl ?_
    simp [departR, hb, departL, spnL, hF]
    intro i hi
    simp [rowsOf_get hi]
end Go.Qg


namespace Go.Qg.Fr
open Go.Qg
set_option linter.all false
section
open Go.Proofs
attribute [local irreducible] pwp pops pdraw pop popCall pdCall thenP blockP scopeP pspec Spec answers ppost CallW
@[simp] theorem wrap_0 : IntKind.i64.wrap 0 = 0 := i64_wrap (by omega)
@[simp] theorem wrap_1 : IntKind.i64.wrap 1 = 1 := i64_wrap (by omega)
@[simp] theorem wrap_2 : IntKind.i64.wrap 2 = 2 := i64_wrap (by omega)
@[simp] theorem wrap_3 : IntKind.i64.wrap 3 = 3 := i64_wrap (by omega)
@[simp] theorem wrap_m1 : IntKind.i64.wrap (-1) = -1 := i64_wrap (by omega)
theorem fin_spec (n lo hi : Int) : Spec Tryz.prog 181 [.v (.int .i64 n), .v (.int .i64 lo), .v (.int .i64 hi)] (.v (.bool (decide (lo ≤ n) && decide (n ≤ hi)))) := by
  refine spec_of mixed Tryz.func181 (by decide) rfl Tryz.results181 Tryz.ntmps181 (by decide) 0 (by simp) ?_
  by_cases h1 : lo ≤ n
  · by_cases h2 : n ≤ hi <;> (simp [h1, h2]; refine answers_of rfl ?_; simp)
  · simp [h1]; refine answers_of rfl ?_; simp
def geti (l : List Int) (i : Nat) : Int := l.getD i 0
def ints (l : List Int) : PV := .sl 1 l.length fun i => [.v (.int .i64 (geti l i))]
def sumL (l : List Int) : Int := l.foldl (fun s x => IntKind.i64.wrap (s + x)) 0
theorem sumL_snoc (l : List Int) (k : Nat) (hk : k < l.length) : sumL (l.take (k + 1)) = IntKind.i64.wrap (sumL (l.take k) + geti l k) := by
  rw [List.take_succ_eq_append_getElem hk]; simp only [sumL, List.foldl_append, List.foldl_cons, List.foldl_nil, geti]; simp [hk]
theorem fsum_spec (l : List Int) (hl : l.length ≤ 9223372036854775807) : Spec Tryz.prog 182 [ints l] (.v (.int .i64 (sumL l))) := by
  refine spec_of mixed Tryz.func182 (by decide) rfl Tryz.results182 Tryz.ntmps182 (by decide) 0 (by simp) ?_
  simp [ints]
  refine pwp_loop (fun k : Nat => [(3, .v (.int .i64 (sumL (l.take k)))), (8, .v (.int .i64 k))]) (fun k => k ≤ l.length) (fun k => l.length - k) 0 (Nat.zero_le _) (by simp; rfl) (by simp [sumL]) ?_
  intro k hk
  by_cases h : k < l.length
  · simp [h]
    refine again_of (k + 1) (by omega) (by omega) ?_
    have := sumL_snoc l k h
    simp [this, i64_wrap (show -9223372036854775808 ≤ (k : Int) + 1 ∧ _ from by omega)]
  · simp [h]
    rw [List.take_of_length_le (by omega)]
    refine answers_of rfl ?_; simp
def allN (n : Nat) (p : Nat → Bool) : Bool := (List.range n).all p
theorem allN_spec {n : Nat} {p : Nat → Bool} : allN n p = true ↔ ∀ k, k < n → p k = true := by simp [allN]
theorem allN_false {n k : Nat} {p : Nat → Bool} (hk : k < n) (h : p k = false) : allN n p = false := by
  cases he : allN n p with
  | false => rfl
  | true => rw [allN_spec.1 he k hk] at h; cases h
theorem money1_spec (i n : Int) : Spec Tryz.prog 222 [.v (.int .i64 i), .v (.int .i64 n)] (.v (.bool (decide (0 ≤ n) && decide (n ≤ 1000000000)))) := by
  refine spec_of mixed Tryz.func222 (by decide) rfl Tryz.results222 Tryz.ntmps222 (by decide) 0 (by simp) ?_
  simp
  refine pop_spec (fin_spec n 0 1000000000) rfl false (.inl (by simp)) (.inl rfl) rfl (by simp) ?_
  simp
  refine answers_of rfl ?_; simp
theorem allInt_spec (l : List Int) (hl : l.length ≤ 9223372036854775807) (f : FuncId) (first cap : List PV) (h1 : plainL first = true) (h2 : plainL cap = true) (p : Nat → Bool)
    (h : ∀ k, k < l.length → Spec Tryz.prog f (first ++ ([.v (.int .i64 k), .v (.int .i64 (geti l k))] ++ cap)) (.v (.bool (p k)))) : Spec Tryz.prog 179 [ints l, .clo (.func f) first cap] (.v (.bool (allN l.length p))) := by
  refine spec_of mixed Tryz.func179 (by decide) rfl Tryz.results179 Tryz.ntmps179 (by decide) 0 (by simp) ?_
  simp [ints, renL_plain h1, renL_plain h2]
  refine pwp_loop (fun k : Nat => [(9, .v (.int .i64 k))]) (fun k => k ≤ l.length ∧ ∀ j, j < k → p j = true) (fun k => l.length - k) 0 ⟨Nat.zero_le _, fun j hj => by omega⟩ (by simp; rfl) (by simp [vwAll_plain h1, vwAll_plain h2]) ?_
  intro k ⟨hk, hp⟩
  by_cases hkl : k < l.length
  · simp [hkl]
    refine pop_spec (h k hkl) rfl false (.inr ⟨rfl, by simp [namesL_append, plainL_names h1, plainL_names h2]⟩) (.inl rfl) rfl (by simp) ?_
    cases hpk : p k with
    | true =>
      simp
      refine again_of (k + 1) ⟨by omega, fun j hj => ?_⟩ (by omega) ?_
      · rcases Nat.lt_succ_iff_lt_or_eq.1 hj with hj | rfl
        · exact hp j hj
        · exact hpk
      · simp [i64_wrap (show -9223372036854775808 ≤ (k : Int) + 1 ∧ _ from by omega), vwAll_plain h1, vwAll_plain h2]
    | false =>
      simp
      refine answers_of rfl ?_; simp [allN_false hkl hpk]
  · simp [hkl]
    obtain rfl : k = l.length := by omega
    refine answers_of rfl ?_; simp [allN_spec.2 hp]
end
section
open Go.Proofs
attribute [local irreducible] pwp pops pdraw pop popCall pdCall thenP blockP scopeP pspec Spec answers ppost CallW
def inB (n lo hi : Int) : Bool := decide (lo ≤ n) && decide (n ≤ hi)
theorem inB_spec {n lo hi : Int} : inB n lo hi = true ↔ lo ≤ n ∧ n ≤ hi := by simp [inB]
theorem in_spec (n lo hi : Int) : Spec Tryz.prog 181 [.v (.int .i64 n), .v (.int .i64 lo), .v (.int .i64 hi)] (.v (.bool (inB n lo hi))) := fin_spec n lo hi
theorem money_spec (l : List Int) (hl : l.length ≤ 9223372036854775807) : Spec Tryz.prog 178 [ints l] (.v (.bool (allN l.length fun k => inB (geti l k) 0 1000000000))) := by
  refine spec_of mixed Tryz.func178 (by decide) rfl Tryz.results178 Tryz.ntmps178 (by decide) 0 (by simp) ?_
  simp [ints]
  refine pop_spec (allInt_spec l hl 222 [] [] rfl rfl _ fun k hk => money1_spec k (geti l k)) rfl false (.inl (by simp [ints])) (.inl rfl) rfl (by simp) ?_
  simp
  refine answers_of rfl ?_; simp [inB]
@[simp] theorem allN_one (p : Nat → Bool) : allN 1 p = p 0 := by simp [allN, List.range_succ]
end
section
open Go.Proofs
set_option maxRecDepth 100000
set_option maxHeartbeats 4000000
attribute [local irreducible] pwp pops pdraw pop popCall pdCall thenP blockP scopeP pspec Spec answers ppost CallW
def far (l : List Int) : Nat → Int
  | 0 => 0
  | k + 1 => far l k + geti l k
theorem far_bound {l : List Int} {c : Int} {n : Nat} (h : ∀ k, k < n → 0 ≤ geti l k ∧ geti l k ≤ c) : ∀ k, k ≤ n → 0 ≤ far l k ∧ far l k ≤ c * k
  | 0, _ => by simp [far]
  | k + 1, hk => by
    have h1 := far_bound h k (by omega)
    have h2 := h k (by omega)
    simp only [far]
    have : c * ((k + 1 : Nat) : Int) = c * k + c := by rw [Int.natCast_add, Int.mul_add]; simp
    omega
theorem sumL_far {l : List Int} (h : ∀ k, k ≤ l.length → -9223372036854775808 ≤ far l k ∧ far l k ≤ 9223372036854775807) : ∀ k, k ≤ l.length → sumL (l.take k) = far l k
  | 0, _ => by simp [sumL, far]
  | k + 1, hk => by
    rw [sumL_snoc l k (by omega), sumL_far h k (by omega), ← far, i64_wrap (h (k + 1) hk)]
theorem sumL_all {l : List Int} (h : ∀ k, k ≤ l.length → -9223372036854775808 ≤ far l k ∧ far l k ≤ 9223372036854775807) : sumL l = far l l.length := by
  have := sumL_far h l.length (Nat.le_refl _)
  rwa [List.take_length] at this
def mk (n : Nat) (f : Nat → Int) : List Int := (List.range n).map f
@[simp] theorem mk_length (n : Nat) (f : Nat → Int) : (mk n f).length = n := by simp [mk]
theorem geti_mk {n : Nat} {f : Nat → Int} {i : Nat} (h : i < n) : geti (mk n f) i = f i := by simp [geti, mk, h]
def lensB (l : List Int) : Bool := allN l.length fun k => inB (geti l k) 0 10000
def lengthsE (amount : Int) (l : List Int) : Int :=
  if 8 < l.length then 3 else if inB amount 0 1000000000 && lensB l && decide (far l l.length ≠ 0) then 0 else 2
theorem lens_spec {l : List Int} : lensB l = true ↔ ∀ k, k < l.length → 0 ≤ geti l k ∧ geti l k ≤ 10000 := by simp only [lensB, allN_spec, inB_spec]
theorem lengths1_spec (i n : Int) : Spec Tryz.prog 180 [.v (.int .i64 i), .v (.int .i64 n)] (.v (.bool (inB n 0 10000))) := by
  refine spec_of mixed Tryz.func180 (by decide) rfl Tryz.results180 Tryz.ntmps180 (by decide) 0 (by simp) ?_
  simp
  refine pop_spec (in_spec n 0 10000) rfl false (.inl (by simp)) (.inl rfl) rfl (by simp) ?_
  simp
  refine answers_of rfl ?_; simp
theorem lengths_spec (amount : Int) (l : List Int) (hl : l.length ≤ 9223372036854775807) : Spec Tryz.prog 106 [.v (.int .i64 amount), ints l] (.v (.int .i64 (lengthsE amount l))) := by
  refine spec_of mixed Tryz.func106 (by decide) rfl Tryz.results106 Tryz.ntmps106 (by decide) 0 (by simp) ?_
  simp [ints]
  by_cases h0 : 8 < l.length
  · simp [show (8 : Int) < l.length from by omega]
    have hr : lengthsE amount l = 3 := by simp [lengthsE, h0]
    rw [hr]; exact answers_plain (by simp) rfl
  · simp [show ¬ (8 : Int) < l.length from by omega, show (l.length : Int) ≤ 8 from by omega]
    refine pop_spec (money_spec [amount] (by simp)) rfl true (.inl (by simp [ints, geti])) (.inr rfl) rfl (by simp) ?_
    cases h1 : inB amount 0 1000000000 with
    | false =>
      simp [geti, h1]
      have hr : lengthsE amount l = 2 := by simp [lengthsE, h0, h1]
      rw [hr]; exact answers_plain (by simp) rfl
    | true =>
      simp [geti, h1]
      refine pop_spec (allInt_spec l hl 180 [] [] rfl rfl _ fun k hk => lengths1_spec k (geti l k)) rfl false (.inl (by simp [ints, geti])) (.inl rfl) rfl (by simp) ?_
      have e : allN l.length (fun k => inB (geti l k) 0 10000) = lensB l := rfl
      rw [e]
      cases h2 : lensB l with
      | false =>
        simp
        have hr : lengthsE amount l = 2 := by simp [lengthsE, h0, h1, h2]
        rw [hr]; exact answers_plain (by simp) rfl
      | true =>
        simp
        refine pop_spec (fsum_spec l hl) rfl false (.inl (by simp [ints, geti])) (.inl rfl) rfl (by simp) ?_
        have hf := far_bound (lens_spec.1 h2)
        rw [sumL_all fun k hk => by have := hf k hk; omega]
        by_cases h3 : far l l.length = 0
        · simp [h3]
          have hr : lengthsE amount l = 2 := by simp [lengthsE, h0, h1, h2, h3]
          rw [hr]; exact answers_plain (by simp) rfl
        · simp [h3]
          have hr : lengthsE amount l = 0 := by simp [lengthsE, h0, h1, h2, h3]
          rw [hr]; exact answers_plain (by simp) rfl
def shareTo (amount : Int) (l : List Int) (k : Nat) : Int := amount * far l k / far l l.length
def shareL (amount : Int) (l : List Int) : List Int := mk l.length fun k => shareTo amount l (k + 1) - shareTo amount l k
structure ShareOk (amount : Int) (l : List Int) : Prop where
  amount : 0 ≤ amount ∧ amount ≤ 1000000000
  len : l.length ≤ 8
  each : ∀ k, k < l.length → 0 ≤ geti l k ∧ geti l k ≤ 10000
  whole : far l l.length ≠ 0
theorem share_ok {amount : Int} {l : List Int} (h : lengthsE amount l = 0) : ShareOk amount l := by
  unfold lengthsE at h
  split at h
  · omega
  · split at h
    · rename_i h1 h2
      simp only [Bool.and_eq_true, decide_eq_true_eq] at h2
      exact ⟨inB_spec.1 h2.1.1, by omega, lens_spec.1 h2.1.2, h2.2⟩
    · omega
theorem ShareOk.to {amount : Int} {l : List Int} (h : ShareOk amount l) {k : Nat} (hk : k ≤ l.length) : (0 ≤ amount * far l k ∧ amount * far l k ≤ 80000000000000) ∧ 1 ≤ far l l.length ∧ far l l.length ≤ 80000 ∧ 0 ≤ shareTo amount l k ∧ shareTo amount l k ≤ 80000000000000 := by
  have h1 := far_bound h.each k hk
  have h2 := far_bound h.each l.length (Nat.le_refl _)
  have h3 := h.whole
  have h4 := h.len
  have e0 : 0 ≤ amount * far l k := Int.mul_nonneg h.amount.1 h1.1
  have e1 : amount * far l k ≤ 1000000000 * 80000 := Int.mul_le_mul h.amount.2 (by omega) h1.1 (by omega)
  have e2 : 0 ≤ shareTo amount l k := Int.ediv_nonneg e0 h2.1
  have e3 : shareTo amount l k ≤ amount * far l k := Int.ediv_le_self _ e0
  omega
theorem share_spec (amount : Int) (l : List Int) (h : ShareOk amount l) : Spec Tryz.prog 107 [.v (.int .i64 amount), ints l] (ints (shareL amount l)) := by
  have h8 := h.len
  have hw := h.whole
  refine spec_of mixed Tryz.func107 (by decide) rfl Tryz.results107 Tryz.ntmps107 (by decide) 0 (by simp) ?_
  simp [ints]
  refine pop_spec (fsum_spec l (by omega)) rfl false (.inl (by simp [ints, geti])) (.inl rfl) rfl (by simp) ?_
  have hf := far_bound h.each
  rw [sumL_all fun k hk => by have := hf k hk; omega]
  simp
  refine pwp_loop (fun k : Nat => [(5, .own 31 k 0 k false), (6, .v (.int .i64 (shareTo amount l k))), (7, .v (.int .i64 (far l k))), (15, .v (.int .i64 k)), (31, .rows none k 3 1 (rowsOf (fun i => [.v (.int .i64 (shareTo amount l (i + 1) - shareTo amount l i))]) k))]) (fun k => k ≤ l.length) (fun k => l.length - k) 0 (Nat.zero_le _) (by simp; rfl) (by simp [shareTo, far]) ?_
  intro k hk
  by_cases hkl : k < l.length
  · have hk1 := hf (k + 1) hkl
    obtain ⟨a1, a2, a3, a4⟩ := h.to (k := k + 1) hkl
    obtain ⟨_, _, _, b4⟩ := h.to (k := k) hk
    have w1 : IntKind.i64.wrap (far l k + geti l k) = far l (k + 1) := i64_wrap (n := far l (k + 1)) (by omega)
    have w2 : IntKind.i64.wrap (amount * far l (k + 1)) = amount * far l (k + 1) := i64_wrap (by omega)
    have w3 : IntKind.i64.wrap ((amount * far l (k + 1)).tdiv (far l l.length)) = shareTo amount l (k + 1) := i64_quo (by omega)
    have w4 : IntKind.i64.wrap (shareTo amount l (k + 1) - shareTo amount l k) = shareTo amount l (k + 1) - shareTo amount l k := i64_wrap (by omega)
    simp [hkl, w1, w2, w3, w4, hw, show (k + 1) * 8 ≤ 140737488355328 from by omega, show k + 1 ≤ maxLen from by simp [maxLen]; omega]
    refine again_of (k + 1) (by omega) (by omega) ?_
    simp [i64_wrap (show -9223372036854775808 ≤ (k : Int) + 1 ∧ _ from by omega), rowsOf_snoc]
  · simp [hkl]
    obtain rfl : k = l.length := by omega
    refine answers_of rfl ?_
    simp [shareL]
    intro k hk; simp [geti_mk hk, rowsOf_get hk]
theorem Share_spec (amount : Int) (l : List Int) (hl : l.length ≤ 9223372036854775807) : Spec Tryz.prog 35 [.v (.int .i64 amount), ints l] (.tup [ints (if lengthsE amount l = 0 then shareL amount l else []), .v (.int .i64 (lengthsE amount l))]) := by
  refine spec_of mixed Tryz.func35 (by decide) rfl Tryz.results35 Tryz.ntmps35 (by decide) 0 (by simp) ?_
  simp [ints]
  refine pop_spec (lengths_spec amount l hl) rfl false (.inl (by simp [ints, geti])) (.inl rfl) rfl (by simp) ?_
  by_cases h : lengthsE amount l = 0
  · simp [h]
    refine pop_spec (share_spec amount l (share_ok h)) rfl false (.inl (by simp [ints, geti])) (.inl rfl) rfl (by simp [ints]) ?_
    simp [ints]
    refine answers_of rfl ?_; simp [ints]
  · simp [h]
    refine answers_of rfl ?_; simp [ints]
end
end Go.Qg.Fr


namespace Go.Qg.Ch
open Go.Qg
set_option linter.all false
section
set_option maxRecDepth 100000
structure Brl where
  kilos : Int
  til : Int
  deriving DecidableEq, Inhabited
def sumK : List Brl → Int
  | [] => 0
  | b :: l => b.kilos + sumK l
def goodL (l : List Brl) (day : Int) : List Brl := l.filter fun b => decide (day ≤ b.til)
def hasL (l : List Brl) (day : Int) : Int := sumK (goodL l day)
def Pos (l : List Brl) : Prop := ∀ b ∈ l, 0 ≤ b.kilos
theorem Pos.cons {b : Brl} {l : List Brl} (h : 0 ≤ b.kilos) (hl : Pos l) : Pos (b :: l) := fun x hx => by
  rcases List.mem_cons.1 hx with rfl | hx
  · exact h
  · exact hl x hx
theorem Pos.filter {l : List Brl} (h : Pos l) (p : Brl → Bool) : Pos (l.filter p) := fun x hx => h x (List.mem_filter.1 hx).1
inductive Dom : List Brl → List Brl → Prop
  | nil : Dom [] []
  | skip (b : Brl) {l l' : List Brl} : Dom l' l → Dom l' (b :: l)
  | keep {b b' : Brl} {l l' : List Brl} : b'.til = b.til → b'.kilos ≤ b.kilos → Dom l' l → Dom (b' :: l') (b :: l)
theorem Dom.none : ∀ (l : List Brl), Dom [] l
  | [] => .nil
  | b :: l => .skip b (Dom.none l)
theorem Dom.length {a a' : List Brl} (h : Dom a' a) : a'.length ≤ a.length := by
  induction h with
  | nil => exact Nat.le_refl _
  | skip b _ ih => simp only [List.length_cons]; omega
  | keep h1 h2 _ ih => simp only [List.length_cons]; omega
theorem Dom.good {a a' : List Brl} (h : Dom a' a) (d : Int) : Dom (goodL a' d) (goodL a d) := by
  unfold goodL
  induction h with
  | nil => exact .nil
  | skip b _ ih =>
    rw [List.filter_cons]
    split
    · exact .skip b ih
    · exact ih
  | keep h1 h2 _ ih =>
    rw [List.filter_cons, List.filter_cons, h1]
    split
    · exact .keep h1 h2 ih
    · exact ih
end
section
set_option maxRecDepth 100000
def brlAt (l : List Brl) (i : Nat) : Brl := l.getD i default
theorem brlAt_get {l : List Brl} {i : Nat} (h : i < l.length) : l[i]? = some (brlAt l i) := by simp [brlAt, h]
theorem brlAt_mem {l : List Brl} {i : Nat} (h : i < l.length) : brlAt l i ∈ l := List.mem_of_getElem? (brlAt_get h)
def PosS (l : List Brl) : Prop := ∀ b ∈ l, 0 < b.kilos
theorem PosS.pos {l : List Brl} (h : PosS l) : Pos l := fun b hb => by have := h b hb; omega
end
section
set_option maxRecDepth 100000
structure Bur where
  day : Int
  low : Int
  high : Int
  deriving DecidableEq, Inhabited
structure Shp where
  day : Int
  room : Int
  cost : Int
  each : Int
  good : Int
  deriving DecidableEq, Inhabited
structure Sup where
  barrels : List Brl
  burns : List Bur
  ships : List Shp
  kilos : Int
def burAt (l : List Bur) (i : Nat) : Bur := l.getD i default
def shpAt (l : List Shp) (i : Nat) : Shp := l.getD i default
structure Pl where
  barrels : List Brl
  came : Int
  drawn : Int
  waste : Int
  ship : Nat
  flight : Nat
def Pl.first (S : Sup) : Pl := ⟨S.barrels, 0, 0, 0, 0, 0⟩
end
section
set_option maxRecDepth 100000
theorem sumK_append (a b : List Brl) : sumK (a ++ b) = sumK a + sumK b := by
  induction a with
  | nil => simp [sumK]
  | cons x a ih => simp only [List.cons_append, sumK, ih]; omega
structure Fit (l : List Brl) : Prop where
  pos : Pos l
  til : ∀ b ∈ l, b.til ≤ 400
theorem Fit.good {l : List Brl} (h : Fit l) (t : Int) : Fit (goodL l t) := ⟨h.pos.filter _, fun b hb => h.til b (List.mem_filter.1 hb).1⟩
end
section
open Go.Proofs
set_option maxRecDepth 100000
set_option maxHeartbeats 4000000
attribute [local irreducible] pwp pops pdraw pop popCall pdCall thenP blockP scopeP pspec Spec answers ppost CallW
def idxN (p : Nat → Bool) : Nat → Int
  | 0 => -1
  | k + 1 => if 0 ≤ idxN p k then idxN p k else if p k = true then k else -1
theorem idxN_none {p : Nat → Bool} : ∀ {n : Nat}, (∀ j, j < n → p j = false) → idxN p n = -1
  | 0, _ => rfl
  | n + 1, h => by simp only [idxN, idxN_none (n := n) fun j hj => h j (by omega), h n (by omega)]; simp
theorem idxN_some {p : Nat → Bool} {k : Nat} (h1 : ∀ j, j < k → p j = false) (h2 : p k = true) : ∀ {n : Nat}, k < n → idxN p n = k
  | 0, h => by omega
  | n + 1, h => by
    rcases Nat.lt_or_eq_of_le (Nat.le_of_lt_succ h) with h3 | rfl
    · simp only [idxN, idxN_some h1 h2 h3]; rw [if_pos (by omega)]
    · simp only [idxN, idxN_none h1, h2]; simp
def anyN (n : Nat) (p : Nat → Bool) : Bool := decide (0 ≤ idxN p n)
theorem idxN_sign (p : Nat → Bool) : ∀ m, idxN p m = -1 ∨ 0 ≤ idxN p m
  | 0 => .inl rfl
  | m + 1 => by
    simp only [idxN]
    split
    · exact .inr ‹_›
    · split
      · exact .inr (by omega)
      · exact .inl rfl
theorem anyN_iff {n : Nat} {p : Nat → Bool} : anyN n p = true ↔ ∃ k, k < n ∧ p k = true := by
  unfold anyN
  rw [decide_eq_true_eq]
  by_cases h : ∃ k, k < n ∧ p k = true
  · refine ⟨fun _ => h, fun _ => ?_⟩
    rcases idxN_sign p n with h1 | h1
    · exfalso
      obtain ⟨k, hk, hp⟩ := h
      have all : ∀ m, idxN p m = -1 → ∀ j, j < m → p j = false := fun m => by
        induction m with
        | zero => intro _ j hj; omega
        | succ m ih =>
          intro hm j hj
          simp only [idxN] at hm
          split at hm
          · omega
          · rename_i hn
            split at hm
            · omega
            · rename_i hpm
              rcases Nat.lt_or_eq_of_le (Nat.le_of_lt_succ hj) with h3 | rfl
              · refine ih ?_ j h3
                rcases idxN_sign p m with h4 | h4
                · exact h4
                · omega
              · simpa using hpm
      rw [all n h1 k hk] at hp; cases hp
    · exact h1
  · refine ⟨fun h1 => ?_, fun h1 => (h h1).elim⟩
    rw [idxN_none fun j hj => by
      cases hp : p j with
      | false => rfl
      | true => exact (h ⟨j, hj, hp⟩).elim] at h1
    omega
theorem anyN_false {n : Nat} {p : Nat → Bool} : anyN n p = false ↔ ∀ k, k < n → p k = false := by
  constructor
  · intro h k hk
    cases hp : p k with
    | false => rfl
    | true => rw [anyN_iff.2 ⟨k, hk, hp⟩] at h; cases h
  · intro h
    cases hp : anyN n p with
    | false => rfl
    | true => obtain ⟨k, hk, h2⟩ := anyN_iff.1 hp; rw [h k hk] at h2; cases h2
def Brl.cells (b : Brl) : List PV := [.v (.int .i64 b.kilos), .v (.int .i64 b.til)]
def brlL (l : List Brl) : PV := .sl 2 l.length fun i => (brlAt l i).cells
theorem Brl.eq_iff {x y : Brl} : x = y ↔ x.kilos = y.kilos ∧ x.til = y.til := by
  cases x; cases y; simp
def rowsBr (l : List Brl) : List (List PV) := l.map Brl.cells
@[simp] theorem rowsBr_length (l : List Brl) : (rowsBr l).length = l.length := by simp [rowsBr]
@[simp] theorem renLL_rowsBr (π : Nat → Nat) (l : List Brl) : renLL π (rowsBr l) = rowsBr l := by
  induction l with
  | nil => rfl
  | cons x l ih => simpa [rowsBr, Brl.cells, renLL, renL, PV.ren] using ih
@[simp] theorem namesLL_rowsBr (l : List Brl) : namesLL (rowsBr l) = [] := by
  induction l with
  | nil => rfl
  | cons x l ih => simpa [rowsBr, Brl.cells, namesLL, namesL, PV.names] using ih
@[simp] theorem flatLL_rowsBr (l : List Brl) : flatLL (rowsBr l) = true := by
  induction l with
  | nil => rfl
  | cons x l ih => simpa [rowsBr, Brl.cells, flatLL, flatL, PV.flat] using ih
@[simp] theorem vwAllL_rowsBr (f : PF) (T : Tgt) (d : Nat) (a b : List Brl) : vo.vwAllL f T (d + 1) (rowsBr a) (rowsBr b) = (a = b) := by
  induction a generalizing b with
  | nil => cases b <;> simp [rowsBr, vo.vwAllL]
  | cons x a ih =>
    cases b with
    | nil => simp [rowsBr, vo.vwAllL]
    | cons y b =>
      have := ih b
      simp only [rowsBr] at this
      simp [rowsBr, vo.vwAllL, this, Brl.cells, Brl.eq_iff]
@[simp] theorem rowsBr_one {l : List Brl} : (∀ (x : List PV), x ∈ rowsBr l → ∀ (y : PV), y ∈ x → y.one = true) ↔ True := by
  refine ⟨fun _ => trivial, fun _ x hx y hy => ?_⟩
  obtain ⟨b, _, rfl⟩ := List.mem_map.1 hx
  simp [Brl.cells] at hy
  rcases hy with rfl | rfl <;> rfl
@[simp] theorem rowsBr_len1 {l : List Brl} : (∀ (x : List PV), x ∈ rowsBr l → x.length = 2) ↔ True := by
  refine ⟨fun _ => trivial, fun _ x hx => ?_⟩
  obtain ⟨b, _, rfl⟩ := List.mem_map.1 hx
  rfl
@[simp] theorem rowsBr_take (l : List Brl) (k : Nat) : (rowsBr l).take k = rowsBr (l.take k) := by simp [rowsBr]
@[simp] theorem rowsBr_nil : rowsBr [] = [] := rfl
theorem rowsBr_get {l : List Brl} {k : Nat} (h : k < l.length) : (rowsBr l)[k]? = some (brlAt l k).cells := by simp [rowsBr, brlAt, h]
@[simp] theorem rowsBr_getElem {l : List Brl} {k : Nat} (h : k < (rowsBr l).length) : (rowsBr l)[k] = (brlAt l k).cells := by
  have h2 : k < l.length := by simpa using h
  simp [rowsBr, brlAt, h2]
theorem rowsBr_snoc (l : List Brl) (x : Brl) : rowsBr l ++ [x.cells] = rowsBr (l ++ [x]) := by simp [rowsBr]
theorem rowsBr_snoc' (l : List Brl) (x : Brl) : rowsBr l ++ [[.v (.int .i64 x.kilos), .v (.int .i64 x.til)]] = rowsBr (l ++ [x]) := rowsBr_snoc l x
def Bur.cells (b : Bur) : List PV := [.v (.int .i64 b.day), .v (.int .i64 b.low), .v (.int .i64 b.high)]
def burL (l : List Bur) : PV := .sl 3 l.length fun i => (burAt l i).cells
theorem Bur.eq_iff {x y : Bur} : x = y ↔ x.day = y.day ∧ x.low = y.low ∧ x.high = y.high := by
  cases x; cases y; simp
structure Snd where
  day : Int
  cove : Int
  low : Int
  high : Int
  deriving DecidableEq, Inhabited
def Snd.cells (b : Snd) : List PV := [.v (.int .i64 b.day), .v (.int .i64 b.cove), .v (.int .i64 b.low), .v (.int .i64 b.high)]
theorem Snd.eq_iff {x y : Snd} : x = y ↔ x.day = y.day ∧ x.cove = y.cove ∧ x.low = y.low ∧ x.high = y.high := by
  cases x; cases y; simp
structure Spn where
  low : Int
  high : Int
  deriving DecidableEq, Inhabited
def spnAt (l : List Spn) (i : Nat) : Spn := l.getD i default
def Spn.cells (b : Spn) : List PV := [.v (.int .i64 b.low), .v (.int .i64 b.high)]
def spnL (l : List Spn) : PV := .sl 2 l.length fun i => (spnAt l i).cells
theorem Spn.eq_iff {x y : Spn} : x = y ↔ x.low = y.low ∧ x.high = y.high := by
  cases x; cases y; simp
structure Cov where
  closed : List Spn
  window : Int
  noise : Int
  visits : Int
  deriving DecidableEq, Inhabited
def Cov.cells (c : Cov) : List PV := [spnL c.closed, .v (.int .i64 c.window), .v (.int .i64 c.noise), .v (.int .i64 c.visits)]
def Shp.cells (x : Shp) : List PV := [.v (.int .i64 x.day), .v (.int .i64 x.room), .v (.int .i64 x.cost), .v (.int .i64 x.each), .v (.int .i64 x.good)]
def shpL (l : List Shp) : PV := .sl 5 l.length fun i => (shpAt l i).cells
def Sup.cells (S : Sup) : List PV := [brlL S.barrels, burL S.burns, shpL S.ships, .v (.int .i64 S.kilos)]
theorem idxBrl_spec (l : List Brl) (hl : l.length ≤ 9223372036854775807) (f : FuncId) (first cap : List PV) (h1 : plainL first = true) (h2 : plainL cap = true) (p : Nat → Bool)
    (h : ∀ k, k < l.length → Spec Tryz.prog f (first ++ ([.agg (brlAt l k).cells] ++ cap)) (.v (.bool (p k)))) : Spec Tryz.prog 223 [brlL l, .clo (.func f) first cap] (.v (.int .i64 (idxN p l.length))) := by
  refine spec_of mixed Tryz.func223 (by decide) rfl Tryz.results223 Tryz.ntmps223 (by decide) 0 (by simp) ?_
  simp [brlL, Brl.cells, renL_plain h1, renL_plain h2]
  refine pwp_loop (fun k : Nat => [(8, .v (.int .i64 k))]) (fun k => k ≤ l.length ∧ ∀ j, j < k → p j = false) (fun k => l.length - k) 0 ⟨Nat.zero_le _, fun j hj => by omega⟩ (by simp; rfl) (by simp [vwAll_plain h1, vwAll_plain h2]) ?_
  intro k ⟨hk, hp⟩
  by_cases hkl : k < l.length
  · simp [hkl]
    refine pop_spec (h k hkl) rfl false (.inr ⟨by simp [brlL, Brl.cells], by simp [namesL_append, plainL_names h1, plainL_names h2, brlL, Brl.cells]⟩) (.inl rfl) rfl (by simp) ?_
    cases hpk : p k with
    | false =>
      simp
      refine again_of (k + 1) ⟨by omega, fun j hj => ?_⟩ (by omega) ?_
      · rcases Nat.lt_succ_iff_lt_or_eq.1 hj with hj | rfl
        · exact hp j hj
        · exact hpk
      · simp [i64_wrap (show -9223372036854775808 ≤ (k : Int) + 1 ∧ _ from by omega), vwAll_plain h1, vwAll_plain h2]
    | true =>
      simp
      refine answers_of rfl ?_; simp [idxN_some hp hpk hkl]
  · simp [hkl]
    obtain rfl : k = l.length := by omega
    refine answers_of rfl ?_; simp [idxN_none hp]
theorem anyBrl_spec (l : List Brl) (hl : l.length ≤ 9223372036854775807) (f : FuncId) (first cap : List PV) (h1 : plainL first = true) (h2 : plainL cap = true) (p : Nat → Bool)
    (h : ∀ k, k < l.length → Spec Tryz.prog f (first ++ ([.agg (brlAt l k).cells] ++ cap)) (.v (.bool (p k)))) : Spec Tryz.prog 183 [brlL l, .clo (.func f) first cap] (.v (.bool (anyN l.length p))) := by
  refine spec_of mixed Tryz.func183 (by decide) rfl Tryz.results183 Tryz.ntmps183 (by decide) 0 (by simp) ?_
  simp [brlL, Brl.cells, renL_plain h1, renL_plain h2]
  refine pop_spec (idxBrl_spec l hl f first cap h1 h2 p h) rfl false (.inl (by simp [brlL, Brl.cells, vwAll_plain h1, vwAll_plain h2])) (.inl rfl) rfl (by simp) ?_
  simp
  refine answers_of rfl ?_; simp [anyN]
theorem take_filter_Brl (l : List Brl) (p : Brl → Bool) {k : Nat} (h : k < l.length) : (l.take (k + 1)).filter p = (l.take k).filter p ++ (if p (brlAt l k) = true then [brlAt l k] else []) := by
  rw [List.take_succ_eq_append_getElem h, List.filter_append, show l[k] = brlAt l k from by simp [brlAt, h]]
  congr 1
  by_cases hp : p (brlAt l k) = true <;> simp [hp]
theorem partBrl_spec (l : List Brl) (hl : l.length ≤ 1000000) (f : FuncId) (first cap : List PV) (h1 : plainL first = true) (h2 : plainL cap = true) (p : Brl → Bool)
    (h : ∀ k, k < l.length → Spec Tryz.prog f (first ++ ([.agg (brlAt l k).cells] ++ cap)) (.v (.bool (p (brlAt l k))))) : Spec Tryz.prog 185 [brlL l, .clo (.func f) first cap] (brlL (l.filter p)) := by
  refine spec_of mixed Tryz.func185 (by decide) rfl Tryz.results185 Tryz.ntmps185 (by decide) 0 (by simp) ?_
  simp [brlL, renL_plain h1, renL_plain h2]
  refine pwp_loop (fun k : Nat => [(5, .own 20 ((l.take k).filter p).length 0 ((l.take k).filter p).length false), (10, .v (.int .i64 k)), (20, .rows none ((l.take k).filter p).length 113 2 (rowsBr ((l.take k).filter p)))]) (fun k => k ≤ l.length) (fun k => l.length - k) 0 (Nat.zero_le _) (by simp; rfl) (by simp [vwAll_plain h1, vwAll_plain h2]) ?_
  intro k hk
  by_cases hkl : k < l.length
  · have wk := i64_wrap (show -9223372036854775808 ≤ (k : Int) + 1 ∧ _ from by omega)
    have hle : ((l.take k).filter p).length ≤ k := Nat.le_trans (List.length_filter_le _ _) (by simp; omega)
    have hs := take_filter_Brl l p hkl
    simp [hkl, Brl.cells]
    refine pop_spec (h k hkl) rfl false (.inr ⟨by simp [Brl.cells], by simp [namesL_append, plainL_names h1, plainL_names h2, Brl.cells]⟩) (.inl rfl) rfl (by simp) ?_
    cases hpk : p (brlAt l k) with
    | true =>
      rw [hpk, if_pos rfl] at hs
      simp [rowsBr_snoc', show (((l.take k).filter p).length + 1) * 16 ≤ 140737488355328 from by omega, show ((l.take k).filter p).length + 1 ≤ maxLen from by simp [maxLen]; omega]
      refine again_of (k + 1) (by omega) (by omega) ?_
      simp [wk, hs, vwAll_plain h1, vwAll_plain h2]
    | false =>
      rw [hpk, if_neg (by simp), List.append_nil] at hs
      simp
      refine again_of (k + 1) (by omega) (by omega) ?_
      simp [wk, hs, vwAll_plain h1, vwAll_plain h2]
  · obtain rfl : k = l.length := by omega
    rw [List.take_length]
    simp
    refine answers_of rfl ?_; simp [brlL]
    intro k hk
    simp [rowsBr_get hk, Brl.cells]
end
section
open Go.Proofs
set_option maxRecDepth 100000
set_option maxHeartbeats 4000000
attribute [local irreducible] pwp pops pdraw pop popCall pdCall thenP blockP scopeP pspec Spec answers ppost CallW
theorem cin_spec (n lo hi : Int) : Spec Tryz.prog 109 [.v (.int .i64 n), .v (.int .i64 lo), .v (.int .i64 hi)] (.v (.bool (inB n lo hi))) := by
  refine spec_of mixed Tryz.func109 (by decide) rfl Tryz.results109 Tryz.ntmps109 (by decide) 0 (by simp) ?_
  by_cases h1 : lo ≤ n
  · by_cases h2 : n ≤ hi <;> (simp [h1, h2]; refine answers_of rfl ?_; simp [inB, h1, h2])
  · simp [h1]; refine answers_of rfl ?_; simp [inB, h1]
def brlB (b : Brl) : Bool := inB b.kilos 1 1000 && inB b.til 0 400
theorem stored1_spec (b : Brl) : Spec Tryz.prog 184 [.agg b.cells] (.v (.bool (!brlB b))) := by
  refine spec_of mixed Tryz.func184 (by decide) rfl Tryz.results184 Tryz.ntmps184 (by decide) 0 (by simp) ?_
  simp [Brl.cells]
  refine pop_spec (cin_spec b.kilos 1 1000) rfl false (.inl (by simp)) (.inl rfl) rfl (by simp) ?_
  cases h1 : inB b.kilos 1 1000 with
  | false => simp; refine answers_of rfl ?_; simp [brlB, h1]
  | true =>
    simp
    refine pop_spec (cin_spec b.til 0 400) rfl false (.inl (by simp)) (.inl rfl) rfl (by simp) ?_
    simp
    refine answers_of rfl ?_; simp [brlB, h1]
def storedB (l : List Brl) : Bool := decide (l.length ≤ 30) && allN l.length fun k => brlB (brlAt l k)
theorem any_not {n : Nat} {p : Nat → Bool} : anyN n (fun k => !p k) = !allN n p := by
  cases h : allN n p with
  | true => rw [Bool.not_true, anyN_false]; intro k hk; simp [allN_spec.1 h k hk]
  | false =>
    rw [Bool.not_false, anyN_iff]
    cases he : anyN n (fun k => !p k) with
    | true => exact anyN_iff.1 he
    | false =>
      rw [allN_spec.2 fun k hk => by simpa using anyN_false.1 he k hk] at h; cases h
theorem stored_spec (l : List Brl) (hl : l.length ≤ 9223372036854775807) : Spec Tryz.prog 108 [.agg [brlL l]] (.v (.bool (storedB l))) := by
  refine spec_of mixed Tryz.func108 (by decide) rfl Tryz.results108 Tryz.ntmps108 (by decide) 0 (by simp) ?_
  simp [brlL]
  by_cases h : l.length ≤ 30
  · simp [show (l.length : Int) ≤ 30 from by omega]
    refine pop_spec (anyBrl_spec l hl 184 [] [] rfl rfl _ fun k hk => stored1_spec (brlAt l k)) rfl false (.inl (by simp [brlL])) (.inl rfl) rfl (by simp) ?_
    simp
    refine answers_of rfl ?_; simp [storedB, h, any_not]
  · simp [show ¬ (l.length : Int) ≤ 30 from by omega, show (30 : Int) < l.length from by omega]
    refine answers_of rfl ?_; simp [storedB, h]
theorem stored_ok {l : List Brl} (h : storedB l = true) : l.length ≤ 30 ∧ ∀ b ∈ l, (1 ≤ b.kilos ∧ b.kilos ≤ 1000) ∧ 0 ≤ b.til ∧ b.til ≤ 400 := by
  simp only [storedB, Bool.and_eq_true, decide_eq_true_eq] at h
  refine ⟨h.1, fun b hb => ?_⟩
  obtain ⟨k, hk, rfl⟩ := List.mem_iff_getElem.1 hb
  have := allN_spec.1 h.2 k hk
  rw [show brlAt l k = l[k] from by simp [brlAt, hk]] at this
  simp only [brlB, Bool.and_eq_true, inB_spec] at this
  exact this
def kilTo (l : List Brl) : Nat → Int
  | 0 => 0
  | k + 1 => kilTo l k + (brlAt l k).kilos
theorem kilTo_take (l : List Brl) : ∀ k, k ≤ l.length → kilTo l k = sumK (l.take k)
  | 0, _ => rfl
  | k + 1, hk => by
    rw [kilTo, kilTo_take l k (by omega), List.take_succ_eq_append_getElem (show k < l.length by omega), sumK_append, show l[k] = brlAt l k from by simp [brlAt, show k < l.length from by omega]]
    simp [sumK]
theorem kilTo_all (l : List Brl) : kilTo l l.length = sumK l := by rw [kilTo_take l _ (Nat.le_refl _), List.take_length]
structure KilOk (l : List Brl) : Prop where
  n : l.length ≤ 1000
  each : ∀ b ∈ l, -1000000 ≤ b.kilos ∧ b.kilos ≤ 1000000
theorem kilTo_bound {l : List Brl} (h : KilOk l) : ∀ k, k ≤ l.length → -1000000 * (k : Int) ≤ kilTo l k ∧ kilTo l k ≤ 1000000 * (k : Int)
  | 0, _ => by simp [kilTo]
  | k + 1, hk => by
    have h1 := kilTo_bound h k (by omega)
    have h2 := h.each _ (brlAt_mem (show k < l.length by omega))
    simp only [kilTo]; push_cast; omega
theorem kilos_spec (l : List Brl) (h : KilOk l) : Spec Tryz.prog 110 [brlL l] (.v (.int .i64 (sumK l))) := by
  have hn := h.n
  refine spec_of mixed Tryz.func110 (by decide) rfl Tryz.results110 Tryz.ntmps110 (by decide) 0 (by simp) ?_
  simp [brlL]
  refine pwp_loop (fun k : Nat => [(3, .v (.int .i64 (kilTo l k))), (8, .v (.int .i64 k))]) (fun k => k ≤ l.length) (fun k => l.length - k) 0 (Nat.zero_le _) (by simp; rfl) (by simp [kilTo]) ?_
  intro k hk
  by_cases hkl : k < l.length
  · have hb := kilTo_bound h (k + 1) (by omega)
    have e1 : kilTo l (k + 1) = kilTo l k + (brlAt l k).kilos := rfl
    rw [e1] at hb
    have w1 : IntKind.i64.wrap (kilTo l k + (brlAt l k).kilos) = kilTo l (k + 1) := by rw [e1]; exact i64_wrap (by omega)
    simp [hkl, Brl.cells, w1]
    refine again_of (k + 1) (by omega) (by omega) ?_
    simp [i64_wrap (show -9223372036854775808 ≤ (k : Int) + 1 ∧ _ from by omega)]
  · obtain rfl : k = l.length := by omega
    rw [kilTo_all]
    simp
    refine answers_of rfl ?_; simp
theorem good1_spec (b : Brl) (day : Int) : Spec Tryz.prog 186 [.agg b.cells, .rp [.v (.int .i64 day)] 0] (.v (.bool (decide (day ≤ b.til)))) := by
  refine spec_of mixed Tryz.func186 (by decide) rfl Tryz.results186 Tryz.ntmps186 (by decide) 0 (by simp) ?_
  simp [Brl.cells]
  refine answers_of rfl ?_; simp
theorem good_spec (l : List Brl) (day : Int) (hl : l.length ≤ 1000000) : Spec Tryz.prog 111 [brlL l, .v (.int .i64 day)] (brlL (goodL l day)) := by
  refine spec_of mixed Tryz.func111 (by decide) rfl Tryz.results111 Tryz.ntmps111 (by decide) 0 (by simp) ?_
  simp [brlL]
  refine pop_specF [(3, .undef), (6, .clo (.func 186) [] [.rp [.v (.int .i64 day)] 0])] (by simp) (partBrl_spec l hl 186 [] [.rp [.v (.int .i64 day)] 0] rfl rfl (fun b => decide (day ≤ b.til)) fun k hk => good1_spec (brlAt l k) day) rfl false (.inl (by simp [brlL])) (.inl rfl) rfl (by simp [brlL]) ?_
  simp [brlL]
  refine answers_of rfl ?_; simp [brlL, goodL]
theorem kilOk_good {l : List Brl} (h : KilOk l) (day : Int) : KilOk (goodL l day) := ⟨Nat.le_trans (List.length_filter_le _ _) h.n, fun b hb => h.each b (List.mem_filter.1 hb).1⟩
theorem kilOk_stored {l : List Brl} (h : storedB l = true) : KilOk l := by
  obtain ⟨h1, h2⟩ := stored_ok h
  exact ⟨by omega, fun b hb => by have := h2 b hb; omega⟩
theorem Has_spec (l : List Brl) (day : Int) (hl : l.length ≤ 9223372036854775807) : Spec Tryz.prog 36 [.agg [brlL l], .v (.int .i64 day)] (.tup [.v (.int .i64 (if (storedB l && inB day 0 400) = true then hasL l day else 0)), .v (.int .i64 (if (storedB l && inB day 0 400) = true then 0 else 2))]) := by
  refine spec_of mixed Tryz.func36 (by decide) rfl Tryz.results36 Tryz.ntmps36 (by decide) 0 (by simp) ?_
  simp [brlL]
  refine pop_spec (stored_spec l hl) rfl false (.inl (by simp [brlL])) (.inl rfl) rfl (by simp) ?_
  cases h : storedB l with
  | false => simp; refine answers_of rfl ?_; simp
  | true =>
    have hk := kilOk_stored h
    have hn := hk.n
    simp
    refine pop_spec (cin_spec day 0 400) rfl false (.inl (by simp)) (.inl rfl) rfl (by simp) ?_
    cases h2 : inB day 0 400 with
    | false => simp; refine answers_of rfl ?_; simp
    | true =>
      simp
      refine pop_spec (good_spec l day (by omega)) rfl false (.inl (by simp [brlL])) (.inl rfl) rfl (by simp [brlL]) ?_
      simp [brlL]
      refine pop_spec (kilos_spec (goodL l day) (kilOk_good hk day)) rfl false (.inl (by simp [brlL])) (.inl rfl) rfl (by simp) ?_
      simp
      refine answers_of rfl ?_; simp [hasL]
end
end Go.Qg.Ch


namespace Go.Qg
open Go.Proofs
set_option maxRecDepth 100000
set_option maxHeartbeats 32000000
attribute [local irreducible] pwp pops pdraw pop popCall pdCall thenP blockP scopeP pspec Spec answers ppost CallW rend
theorem lt3k {p : Nat → Prop} (h0 : p 0) (h1 : p 1) (h2 : p 2) : ∀ k, k < 3 → p k := fun k hk => by
  obtain rfl | rfl | rfl : k = 0 ∨ k = 1 ∨ k = 2 := by omega
  · exact h0
  · exact h1
  · exact h2
def knC : Chn := ⟨[⟨[⟨480, 600⟩], 0⟩, ⟨[⟨500, 560⟩, ⟨640, 700⟩], 10⟩, ⟨[⟨520, 580⟩, ⟨690, 760⟩], 0⟩], [⟨30, 40⟩, ⟨20, 50⟩]⟩
theorem knC_spec : Spec Tryz.prog 34 [] (.agg knC.cells) := by
  refine spec_of mixed Tryz.func34 (by decide) rfl Tryz.results34 Tryz.ntmps34 (by decide) 0 (by simp) ?_
  simp
  refine answers_of (x := .agg [.own 12 0 0 3 false, .own 15 0 0 2 false]) (by simp) ?_
  simp [knC, Chn.cells, hstL, spnL]
  refine ⟨lt3k ?_ ?_ ?_, lt2 ?_ ?_⟩
  · simp [hstAt, Hst.cells, spnL]
    simp [spnAt, Spn.cells]
  · simp [hstAt, Hst.cells, spnL]
    refine lt2 ?_ ?_ <;> simp [spnAt, Spn.cells]
  · simp [hstAt, Hst.cells, spnL]
    refine lt2 ?_ ?_ <;> simp [spnAt, Spn.cells]
  · simp [spnAt, Spn.cells]
  · simp [spnAt, Spn.cells]
theorem open_one {a : Spn} {t : Int} : openB [a] t = true ↔ a.low ≤ t ∧ t ≤ a.high := by
  simp [openB, allN, spnAt, inB]
theorem open_two {a b : Spn} {t : Int} : openB [a, b] t = true ↔ (a.low ≤ t ∧ t ≤ a.high) ∨ (b.low ≤ t ∧ t ≤ b.high) := by
  simp [openB, allN, spnAt, inB, List.range, List.range.loop]
theorem failN_neg {p : Int → Bool} : ∀ {n : Nat} {d : Int}, 0 ≤ d → (failN p n d < 0 ↔ ∀ k : Nat, k < n → p (d + k) = true)
  | 0, d, _ => by simp [failN]
  | n + 1, d, hd => by
    have ih := failN_neg (p := p) (n := n) (d := d + 1) (by omega)
    unfold failN
    cases hp : p d with
    | true =>
      rw [if_pos rfl, ih]
      constructor
      · intro h k hk
        cases k with
        | zero => simpa using hp
        | succ k =>
          have := h k (by omega)
          rwa [show d + 1 + (k : Int) = d + ((k + 1 : Nat) : Int) from by omega] at this
      · intro h k hk
        have := h (k + 1) (by omega)
        rwa [show d + ((k + 1 : Nat) : Int) = d + 1 + (k : Int) from by omega] at this
    | false =>
      rw [if_neg (by simp)]
      constructor
      · intro h; omega
      · intro h
        have := h 0 (by omega)
        simp [hp] at this
theorem fails_neg {c : Chn} {f : Nat → Bool} {stop : Nat} {m : Int} (h0 : 0 ≤ (spnAt c.legs stop).low) : failsI c f stop m < 0 ↔ ∀ d, (spnAt c.legs stop).low ≤ d → d ≤ (spnAt c.legs stop).high → goesB c f stop (m + d) = true := by
  rw [failsI, failN_neg h0]
  constructor
  · intro h d h1 h2
    have := h (d - (spnAt c.legs stop).low).toNat (by omega)
    rwa [show (spnAt c.legs stop).low + ((d - (spnAt c.legs stop).low).toNat : Int) = d from by omega] at this
  · intro h k hk
    exact h _ (by omega) (by omega)
theorem fromN_pos {f : Nat → Bool} : ∀ {n t : Nat}, 0 ≤ fromN f n t ↔ ∃ u, t ≤ u ∧ u < t + n ∧ f u = true
  | 0, t => by
    simp only [fromN]
    constructor
    · intro h; omega
    · rintro ⟨u, h1, h2, _⟩; omega
  | n + 1, t => by
    have ih := fromN_pos (f := f) (n := n) (t := t + 1)
    unfold fromN
    cases hf : f t with
    | true =>
      simp only [if_true]
      exact ⟨fun _ => ⟨t, by omega, by omega, hf⟩, fun _ => by omega⟩
    | false =>
      simp only [Bool.false_eq_true, if_false]
      rw [ih]
      constructor
      · rintro ⟨u, h1, h2, h3⟩; exact ⟨u, by omega, by omega, h3⟩
      · rintro ⟨u, h1, h2, h3⟩
        refine ⟨u, ?_, by omega, h3⟩
        rcases Nat.lt_or_eq_of_le h1 with h | rfl
        · exact h
        · rw [hf] at h3; cases h3
theorem fromI_pos {f : Nat → Bool} {s : Int} (hs : 0 ≤ s) : 0 ≤ fromI f s ↔ ∃ u : Nat, s ≤ u ∧ u < 1441 ∧ f u = true := by
  rw [fromI, fromN_pos]
  constructor
  · rintro ⟨u, h1, h2, h3⟩
    refine ⟨u, by omega, ?_, h3⟩
    omega
  · rintro ⟨u, h1, h2, h3⟩
    exact ⟨u, by omega, by omega, h3⟩
theorem k_good1 (u : Nat) : goodR knC 1 1 u = true ↔ (500 ≤ u ∧ u ≤ 530) ∨ (670 ≤ u ∧ u ≤ 700) := by
  have e : goodR knC 1 1 u = (openB (hstAt knC.stops 1).windows u && decide (failsI knC (goodR knC 0 2) 1 u < 0)) := rfl
  rw [e, Bool.and_eq_true, decide_eq_true_eq, fails_neg (by decide)]
  rw [show (hstAt knC.stops 1).windows = [⟨500, 560⟩, ⟨640, 700⟩] from rfl, open_two]
  have g : ∀ d, goesB knC (goodR knC 0 2) 1 d = true ↔ (520 ≤ d ∧ d ≤ 580) ∨ (690 ≤ d ∧ d ≤ 760) := fun d => by
    rw [goesB, Bool.and_eq_true, show (hstAt knC.stops (1 + 1)).windows = [⟨520, 580⟩, ⟨690, 760⟩] from rfl, open_two]
    simp [knC]
  simp only [g]
  rw [show (spnAt knC.legs 1).low = 20 from rfl, show (spnAt knC.legs 1).high = 50 from rfl]
  constructor
  · rintro ⟨h1, h2⟩
    have a := h2 20 (by omega) (by omega)
    have b := h2 50 (by omega) (by omega)
    omega
  · intro h
    refine ⟨by omega, fun d h1 h2 => by omega⟩
theorem k_good0 (t : Nat) : goodR knC 2 0 t = true ↔ 480 ≤ t ∧ t ≤ 520 := by
  have e : goodR knC 2 0 t = (openB (hstAt knC.stops 0).windows t && decide (failsI knC (goodR knC 1 1) 0 t < 0)) := rfl
  rw [e, Bool.and_eq_true, decide_eq_true_eq, fails_neg (by decide)]
  rw [show (hstAt knC.stops 0).windows = [⟨480, 600⟩] from rfl, open_one]
  have g : ∀ d : Int, 0 ≤ d → (goesB knC (goodR knC 1 1) 0 d = true ↔ ((500 ≤ d ∧ d ≤ 560) ∨ (640 ≤ d ∧ d ≤ 700)) ∧ d + 10 ≤ 700) := fun d hd => by
    rw [goesB, Bool.and_eq_true, show (hstAt knC.stops (0 + 1)).windows = [⟨500, 560⟩, ⟨640, 700⟩] from rfl, open_two, show (hstAt knC.stops (0 + 1)).turn = 10 from rfl]
    simp only [show decide (0 + 1 = knC.legs.length) = false from rfl, Bool.false_or, decide_eq_true_eq]
    rw [fromI_pos (by omega)]
    simp only [k_good1]
    constructor
    · rintro ⟨h1, u, h2, h3, h4⟩
      exact ⟨h1, by omega⟩
    · rintro ⟨h1, h2⟩
      exact ⟨h1, 700, by omega, by omega, by omega⟩
  rw [show (spnAt knC.legs 0).low = 30 from rfl, show (spnAt knC.legs 0).high = 40 from rfl]
  constructor
  · rintro ⟨h1, h2⟩
    have h1 : (480 : Int) ≤ t ∧ (t : Int) ≤ 600 := h1
    have a := (g _ (by omega)).1 (h2 30 (by omega) (by omega))
    have b := (g _ (by omega)).1 (h2 40 (by omega) (by omega))
    omega
  · intro h
    refine ⟨show (480 : Int) ≤ t ∧ (t : Int) ≤ 600 from by omega, fun d h1 h2 => (g _ (by omega)).2 (by omega)⟩
theorem spans_one {f : Nat → Bool} {a b : Nat} (hf : ∀ t, f t = true ↔ a ≤ t ∧ t ≤ b) (hab : a ≤ b) : ∀ k : Nat, spansP f k = if k ≤ a then [] else if k ≤ b + 1 then [⟨a, (k : Int) - 1⟩] else [⟨a, b⟩]
  | 0 => by simp [spansP]
  | k + 1 => by
    have ih := spans_one hf hab k
    unfold spansP
    by_cases h1 : k < a
    · have : f k = false := by
        cases h : f k with
        | false => rfl
        | true => have := (hf k).1 h; omega
      rw [this, ih, if_pos (show k ≤ a by omega), if_pos (show k + 1 ≤ a by omega)]
      simp
    · by_cases h2 : k ≤ b
      · rw [(hf k).2 ⟨by omega, h2⟩, ih, if_neg (show ¬ k + 1 ≤ a by omega), if_pos (show k + 1 ≤ b + 1 by omega)]
        by_cases h3 : k = a
        · subst h3
          simp
        · rw [if_neg (show ¬ k ≤ a by omega), if_pos (show k ≤ b + 1 by omega)]
          simp [lastS, spnAt]
      · have : f k = false := by
          cases h : f k with
          | false => rfl
          | true => have := (hf k).1 h; omega
        rw [this, ih, if_neg (show ¬ k ≤ a by omega), if_neg (show ¬ k + 1 ≤ a by omega), if_neg (show ¬ k + 1 ≤ b + 1 by omega)]
        by_cases h3 : k ≤ b + 1
        · rw [if_pos h3]
          simp
          omega
        · rw [if_neg h3]
          simp
theorem k_spans : spansP (goodR knC 2 0) 1441 = [⟨480, 520⟩] := by
  rw [spans_one (a := 480) (b := 520) (fun t => k_good0 t) (by omega) 1441, if_neg (by omega), if_neg (by omega)]
  rfl
theorem knC_mem : ChnMem knC := by
  refine ⟨by simp [knC], by simp [knC], ?_⟩
  exact lt3k (by simp [knC, hstAt]) (by simp [knC, hstAt]) (by simp [knC, hstAt])
theorem k_depart : departR knC = .tup [departL knC, .v (.int .i64 0)] := by
  rw [departR, if_pos (by decide)]
theorem ext_spn4 {a b : List Spn} (hl : a.length = b.length) (h : ∀ j, j < b.length → spnAt a j = spnAt b j) : a = b := by
  refine List.ext_getElem hl fun i h1 h2 => ?_
  have := h i h2
  simpa [spnAt, List.getD, h1, h2] using this
theorem t4SameSpans_spec (a b : List Spn) (ha : a.length ≤ 9223372036854775807) (hb : b.length ≤ 9223372036854775807) : Spec Tryz.prog 37 [spnL a, spnL b] (.v (.bool (decide (a = b)))) := by
  refine spec_of mixed Tryz.func37 (by decide) rfl Tryz.results37 Tryz.ntmps37 (by decide) 0 (by simp) ?_
  simp [spnL]
  by_cases hl : a.length = b.length
  · simp [hl]
    refine pwp_loop (fun k : Nat => [(5, .v (.int .i64 k))]) (fun k => k ≤ b.length ∧ ∀ j, j < k → spnAt a j = spnAt b j) (fun k => b.length - k) 0 ⟨Nat.zero_le _, fun j hj => by omega⟩ (by simp; rfl) (by simp [hl]) ?_
    intro k ⟨hk, hp⟩
    by_cases hkl : k < b.length
    · have wk := i64_wrap (show -9223372036854775808 ≤ (k : Int) + 1 ∧ _ from by omega)
      simp [hkl, hl]
      refine pwp_draw 9 (by decide) ?_
      by_cases he : spnAt a k = spnAt b k
      · simp [hkl, hl, he, Spn.cells]
        refine ⟨by decide, ?_⟩
        refine again_of (k + 1) ⟨by omega, fun j hj => ?_⟩ (by omega) ?_
        · rcases Nat.lt_succ_iff_lt_or_eq.1 hj with hj | rfl
          · exact hp j hj
          · exact he
        · simp [wk, hl]
      · have hne : ¬ a = b := fun h => he (by rw [h])
        rw [Spn.eq_iff] at he
        by_cases h1 : (spnAt a k).low = (spnAt b k).low
        · have h2 : ¬ (spnAt a k).high = (spnAt b k).high := fun h => he ⟨h1, h⟩
          simp [hkl, hl, h1, h2, Spn.cells]
          refine ⟨by decide, ?_⟩
          refine answers_of rfl ?_; simp [hne]
        · simp [hkl, hl, h1, Spn.cells]
          refine ⟨by decide, ?_⟩
          refine answers_of rfl ?_; simp [hne]
    · simp [hkl]
      have heq : a = b := ext_spn4 hl fun j hj => hp j (by omega)
      refine answers_of rfl ?_; simp [heq]
  · simp [show ¬ (a.length : Int) = b.length from by omega]
    have hne : ¬ a = b := fun h => hl (by rw [h])
    refine answers_of rfl ?_; simp [hne]
theorem ext_geti' {a b : List Int} (hl : a.length = b.length) (h : ∀ j, j < b.length → geti a j = geti b j) : a = b := by
  refine List.ext_getElem hl fun i h1 h2 => ?_
  have := h i h2
  simpa [geti, List.getD, h1, h2] using this
theorem t8Same_spec (a b : List Int) (ha : a.length ≤ 9223372036854775807) (hb : b.length ≤ 9223372036854775807) : Spec Tryz.prog 38 [ints a, ints b] (.v (.bool (decide (a = b)))) := by
  refine spec_of mixed Tryz.func38 (by decide) rfl Tryz.results38 Tryz.ntmps38 (by decide) 0 (by simp) ?_
  simp [ints]
  by_cases hl : a.length = b.length
  · simp [hl]
    refine pwp_loop (fun k : Nat => [(5, .v (.int .i64 k))]) (fun k => k ≤ b.length ∧ ∀ j, j < k → geti a j = geti b j) (fun k => b.length - k) 0 ⟨Nat.zero_le _, fun j hj => by omega⟩ (by simp; rfl) (by simp [hl]) ?_
    intro k ⟨hk, hp⟩
    by_cases hkl : k < b.length
    · have wk := i64_wrap (show -9223372036854775808 ≤ (k : Int) + 1 ∧ _ from by omega)
      simp [hkl, hl]
      refine pwp_draw 9 (by decide) ?_
      by_cases he : geti a k = geti b k
      · simp [hkl, hl, he]
        refine ⟨by decide, ?_⟩
        refine again_of (k + 1) ⟨by omega, fun j hj => ?_⟩ (by omega) ?_
        · rcases Nat.lt_succ_iff_lt_or_eq.1 hj with hj | rfl
          · exact hp j hj
          · exact he
        · simp [wk, hl]
      · simp [hkl, hl, he]
        refine ⟨by decide, ?_⟩
        have hne : ¬ a = b := fun h => he (by rw [h])
        refine answers_of rfl ?_; simp [hne]
    · simp [hkl]
      have heq : a = b := ext_geti' hl fun j hj => hp j (by omega)
      refine answers_of rfl ?_; simp [heq]
  · simp [show ¬ (a.length : Int) = b.length from by omega]
    have hne : ¬ a = b := fun h => hl (by rw [h])
    refine answers_of rfl ?_; simp [hne]
theorem k_share : Fr.lengthsE 1000 [1, 1, 1] = 0 ∧ Fr.shareL 1000 [1, 1, 1] = [333, 333, 334] := by
  constructor <;> kernel_rfl
theorem k_has : (Ch.storedB [⟨100, 9⟩, ⟨80, 2⟩] && inB 3 0 400) = true ∧ Ch.hasL [⟨100, 9⟩, ⟨80, 2⟩] 3 = 100 := by
  constructor <;> kernel_rfl
theorem known11_spec : Spec Tryz.prog 8 [] (.v (.bool true)) := by
  have hfuel := Fuel_spec knP knT knP_fit knT_fit
  rw [k_fuel] at hfuel
  have hdep := Depart_spec knC knC_mem
  rw [k_depart] at hdep
  have hshare := Fr.Share_spec 1000 [1, 1, 1] (by simp)
  rw [if_pos k_share.1, k_share.1, k_share.2] at hshare
  have hhas := Ch.Has_spec [⟨100, 9⟩, ⟨80, 2⟩] 3 (by simp)
  have hb : (Ch.storedB [⟨100, 9⟩, ⟨80, 2⟩] && inB 3 0 400) = true := k_has.1
  rw [if_pos hb, if_pos hb, k_has.2] at hhas
  have hss := t4SameSpans_spec [⟨480, 520⟩] [⟨480, 520⟩] (by simp) (by simp)
  have hs := t8Same_spec [333, 333, 334] [333, 333, 334] (by simp) (by simp)
  have pP : plainL knP.cells = true := by simp [Pln.cells, plainL, PV.plain, cnrL, stnL]
  have oP : (∀ (x : PV), x ∈ knP.cells → x.one = true) ↔ True := ⟨fun _ => trivial, fun _ => by simp [Pln.cells, cnrL, stnL]⟩
  have pT : (PV.sl 7 knT.length fun i => (legAt knT i).cells).plain = true := by simp [PV.plain]
  have hT := lT_spec
  simp only [legL] at hT hfuel
  refine spec_of mixed Tryz.func8 (by decide) rfl Tryz.results8 Tryz.ntmps8 (by decide) 0 (by simp) ?_
  simp
  refine pop_spec lP_spec rfl false (.inl (by simp)) (.inl rfl) rfl (by simp) ?_
  simp
  refine pop_spec hT rfl false (.inl (by simp)) (.inl rfl) rfl (by simp) ?_
  simp
  refine pop_spec hfuel rfl false (.inl (by simp [vwAll_plain pP, vw_plain pT, oP])) (.inl rfl) rfl (by simp) ?_
  simp
  refine pop_spec knC_spec rfl false (.inl (by simp)) (.inl rfl) rfl (by simp) ?_
  simp
  refine pop_spec hdep rfl false (.inl (by simp [Chn.cells, hstL, spnL])) (.inl rfl) rfl (by simp [departL]) ?_
  simp [departL]
  refine pop_specF [(10, .undef), (16, .undef), (21, Fr.ints [1, 1, 1])] ?_ hshare rfl false (.inl (by simp [Fr.ints])) (.inl rfl) rfl (by simp [Fr.ints]) ?_
  · simp [Fr.ints]
    refine lt3k ?_ ?_ ?_ <;> simp [Fr.geti]
  simp [Fr.ints]
  refine pop_specF [(28, Ch.brlL [⟨100, 9⟩, ⟨80, 2⟩]), (29, .agg [Ch.brlL [⟨100, 9⟩, ⟨80, 2⟩]])] ?_ hhas rfl false (.inl (by simp [Ch.brlL])) (.inl rfl) rfl (by simp [Ch.brlL]) ?_
  · simp [Ch.brlL, Fr.ints, Fr.geti, spnL]
    refine ⟨?_, ?_⟩ <;> (refine lt2 ?_ ?_ <;> simp [Ch.brlAt, Ch.Brl.cells])
  have hc2 : knC.legs.length = 2 := rfl
  have eS : spnL (spansP (goodR knC 2 0) 1441) = spnL [⟨480, 520⟩] := by rw [k_spans]
  simp only [spnL] at eS hss
  simp [Ch.brlL, hc2, eS]
  refine pop_specF [(61, .sl 2 1 fun i => (spnAt [⟨480, 520⟩] i).cells)] ?_ hss rfl false (.inl ?_) (.inl rfl) rfl (by simp) ?_
  · simp [Fr.ints, Fr.geti, Ch.brlL, spnL]
    simp [spnAt, Spn.cells]
  · simp [hc2, eS, spnL]
  simp
  simp only [ints] at hs
  refine pop_specF [(66, .sl 1 3 fun i => [.v (.int .i64 (geti [333, 333, 334] i))])] ?_ hs rfl false (.inl ?_) (.inl rfl) rfl (by simp) ?_
  · simp [Fr.ints, Fr.geti, Ch.brlL, spnL]
    refine lt3k ?_ ?_ ?_ <;> simp [geti]
  · simp [Fr.geti, geti]
  simp
  refine answers_of rfl ?_
  simp
end Go.Qg


namespace Go.Qg
open Go.Proofs
set_option maxRecDepth 100000
set_option maxHeartbeats 32000000
attribute [local simp 2000] List.getElem?_cons_succ List.getElem?_cons_zero
attribute [local irreducible] pwp pops pdraw pop popCall pdCall thenP blockP scopeP pspec Spec answers ppost CallW rend
theorem hopAllInt_spec (l : List Int) (hl : l.length ≤ 9223372036854775807) (f : FuncId) (first cap : List PV) (h1 : plainL first = true) (h2 : plainL cap = true) (p : Nat → Bool)
    (h : ∀ k, k < l.length → (∀ j, j < k → p j = true) → Spec Tryz.prog f (first ++ ([.v (.int .i64 k), .v (.int .i64 (geti l k))] ++ cap)) (.v (.bool (p k)))) : Spec Tryz.prog 95 [ints l, .clo (.func f) first cap] (.v (.bool (allN l.length p))) := by
  refine spec_of mixed Tryz.func95 (by decide) rfl Tryz.results95 Tryz.ntmps95 (by decide) 0 (by simp) ?_
  simp [ints, renL_plain h1, renL_plain h2]
  refine pwp_loop (fun k : Nat => [(9, .v (.int .i64 k))]) (fun k => k ≤ l.length ∧ ∀ j, j < k → p j = true) (fun k => l.length - k) 0 ⟨Nat.zero_le _, fun j hj => by omega⟩ (by simp; rfl) (by simp [vwAll_plain h1, vwAll_plain h2]) ?_
  intro k ⟨hk, hp⟩
  by_cases hkl : k < l.length
  · simp [hkl]
    refine pop_spec (h k hkl hp) rfl false (.inr ⟨by simp, by simp [namesL_append, plainL_names h1, plainL_names h2]⟩) (.inl rfl) rfl (by simp) ?_
    cases hpk : p k with
    | true =>
      simp
      refine again_of (k + 1) ⟨by omega, fun j hj => ?_⟩ (by omega) ?_
      · rcases Nat.lt_succ_iff_lt_or_eq.1 hj with hj | rfl
        · exact hp j hj
        · exact hpk
      · simp [i64_wrap (show -9223372036854775808 ≤ (k : Int) + 1 ∧ _ from by omega), vwAll_plain h1, vwAll_plain h2]
    | false =>
      simp
      refine answers_of rfl ?_; simp [allN_false hkl hpk]
  · simp [hkl]
    obtain rfl : k = l.length := by omega
    refine answers_of rfl ?_; simp [allN_spec.2 hp]
def rlegB (c : Chn) (l : List Int) (k : Nat) : Bool := inB (geti l k) (spnAt c.legs k).low (spnAt c.legs k).high
theorem ride1_spec (c : Chn) (l : List Int) (k : Nat) (hk : k < c.legs.length) : Spec Tryz.prog 96 [.v (.int .i64 k), .v (.int .i64 (geti l k)), .rp c.cells 0] (.v (.bool (rlegB c l k))) := by
  have hsc : (spnAt c.legs k).cells = [.v (.int .i64 (spnAt c.legs k).low), .v (.int .i64 (spnAt c.legs k).high)] := rfl
  refine spec_of mixed Tryz.func96 (by decide) rfl Tryz.results96 Tryz.ntmps96 (by decide) 0 (by simp) ?_
  simp [Chn.cells, hstL, spnL]
  refine pwp_draw 15 (by decide) ?_
  simp [hk, hsc]
  refine pd_spec (hin_spec (geti l k) (spnAt c.legs k).low (spnAt c.legs k).high) (by simp) (by simp) (by simp) rfl ?_
  simp
  refine ⟨by decide, ?_⟩
  refine answers_of rfl ?_; simp [rlegB]
def rideS (c : Chn) (F : Nat → Nat → Bool) (fl : List Int) (m0 : Int) : Nat → Int × List Int
  | 0 => (m0, [m0])
  | k + 1 => if k + 1 < fl.length then (fromI (F (k + 1)) ((rideS c F fl m0 k).1 + geti fl k + (hstAt c.stops (k + 1)).turn), (rideS c F fl m0 k).2 ++ [(rideS c F fl m0 k).1 + geti fl k] ++ [fromI (F (k + 1)) ((rideS c F fl m0 k).1 + geti fl k + (hstAt c.stops (k + 1)).turn)])
    else ((rideS c F fl m0 k).1 + geti fl k, (rideS c F fl m0 k).2 ++ [(rideS c F fl m0 k).1 + geti fl k])
theorem rideS_length (c : Chn) (F : Nat → Nat → Bool) (fl : List Int) (m0 : Int) : ∀ k, k ≤ fl.length → (rideS c F fl m0 k).2.length = if k < fl.length then 2 * k + 1 else if k = 0 then 1 else 2 * k
  | 0, _ => by simp [rideS]
  | k + 1, h => by
    have ih := rideS_length c F fl m0 k (by omega)
    rw [if_pos (by omega)] at ih
    unfold rideS
    by_cases hk : k + 1 < fl.length
    · rw [if_pos hk, if_pos hk]
      simp [ih]
      omega
    · rw [if_neg hk, if_neg hk, if_neg (by omega)]
      simp [ih]
      omega
theorem fromN_le (f : Nat → Bool) : ∀ (n t : Nat), -1 ≤ fromN f n t ∧ fromN f n t < (t : Int) + n + 1
  | 0, t => by simp [fromN]; omega
  | n + 1, t => by
    have := fromN_le f n (t + 1)
    unfold fromN
    split <;> omega
theorem rideS_small {c : Chn} {F : Nat → Nat → Bool} {fl : List Int} {m0 : Int} (hc : ChnOk c) (hf : fl.length = c.legs.length) (hl : ∀ k, k < fl.length → 0 ≤ geti fl k ∧ geti fl k ≤ 300) (h0 : 0 ≤ m0 ∧ m0 ≤ 1440) : ∀ k, k ≤ fl.length → -1 ≤ (rideS c F fl m0 k).1 ∧ (rideS c F fl m0 k).1 ≤ 10300 + 600 * k
  | 0, _ => by simp only [rideS]; omega
  | k + 1, h => by
    have ih := rideS_small (F := F) hc hf hl h0 k (by omega)
    have h1 := hl k (by omega)
    have h3 := hc.legs
    unfold rideS
    split
    · have h2 := hc.turn (k + 1) (by omega)
      have := fromN_le (F (k + 1)) (1441 - (max 0 ((rideS c F fl m0 k).1 + geti fl k + (hstAt c.stops (k + 1)).turn)).toNat) (max 0 ((rideS c F fl m0 k).1 + geti fl k + (hstAt c.stops (k + 1)).turn)).toNat
      simp only [fromI]
      omega
    · simp only
      omega
def rideE (c : Chn) (fl : List Int) (m : Int) : Bool := chainB c && inB m 0 1440 && decide (fl.length = c.legs.length) && allN fl.length (rlegB c fl)
def rideR (c : Chn) (fl : List Int) (m : Int) : PV := if rideE c fl m = true then if goodR c c.legs.length 0 m.toNat = true then .tup [ints (rideS c (goodR c c.legs.length) fl m fl.length).2, .v (.int .i64 0)] else .tup [.nil, .v (.int .i64 7)] else .tup [.nil, .v (.int .i64 2)]
theorem Ride_spec (c : Chn) (fl : List Int) (m : Int) (hc : ChnMem c) (hfl : fl.length ≤ 9223372036854775807) : Spec Tryz.prog 27 [.agg c.cells, .v (.int .i64 m), ints fl] (rideR c fl m) := by
  have hch := chained_spec c hc
  refine spec_of mixed Tryz.func27 (by decide) rfl Tryz.results27 Tryz.ntmps27 (by decide) 0 (by simp) ?_
  simp [Chn.cells, hstL, spnL, ints]
  refine pop_spec hch rfl false (.inl (by simp [Chn.cells, hstL, spnL])) (.inl rfl) rfl (by simp) ?_
  cases h1 : chainB c with
  | false => simp; refine answers_of rfl ?_; simp [rideR, rideE, h1]
  | true =>
  have ho := chainB_ok h1
  have hn := ho.n
  have hlg := ho.legs
  simp
  refine pop_spec (hin_spec m 0 1440) rfl false (.inl (by simp)) (.inl rfl) rfl (by simp) ?_
  cases h2 : inB m 0 1440 with
  | false => simp; refine answers_of rfl ?_; simp [rideR, rideE, h2]
  | true =>
  have g2 := inB_spec.1 h2
  by_cases h3 : fl.length = c.legs.length
  rotate_left
  · simp [show ¬ (fl.length : Int) = c.legs.length from by omega]; refine answers_of rfl ?_; simp [rideR, rideE, h3]
  simp [eq_true (show (fl.length : Int) = c.legs.length from by omega)]
  refine pop_specF [(3, .rp c.cells 0), (23, .undef), (30, .clo (.func 96) [] [.rp c.cells 0])] ?_ (hopAllInt_spec fl hfl 96 [] [.rp c.cells 0] rfl (by rfl) (rlegB c fl) fun k hk _ => by simpa using ride1_spec c fl k (by omega)) rfl false (.inl (by simp [Chn.cells, hstL, spnL, ints])) (.inl rfl) rfl (by simp) ?_
  · simp [Chn.cells, hstL, spnL]
  cases h4 : allN fl.length (rlegB c fl) with
  | false => simp [eq_true (show (fl.length : Int) = c.legs.length from by omega)]; refine answers_of rfl ?_; simp [rideR, rideE, h4]
  | true =>
  have hE : rideE c fl m = true := by rw [rideE, h1, h2, h4]; simp [h3]
  have hle : ∀ k, k < fl.length → 0 ≤ geti fl k ∧ geti fl k ≤ 300 := fun k hk => by
    have a := allN_spec.1 h4 k hk
    have b := ho.leg k (by omega)
    simp only [rlegB, inB_spec] at a
    omega
  simp [eq_true (show (fl.length : Int) = c.legs.length from by omega), Chn.cells, hstL, spnL]
  refine pop_spec (good_spec c ho) rfl false (.inl (by simp [Chn.cells, hstL, spnL])) (.inl rfl) rfl (by simp [knownL]) ?_
  obtain ⟨mm, rfl⟩ : ∃ mm : Nat, m = mm := ⟨m.toNat, by omega⟩
  have hmm : mm < 1441 := by omega
  simp [knownL, show 0 < c.legs.length from by omega, hmm, show mm ≤ 1440 from by omega, show (mm : Int) ≤ 1440 from by omega, show (mm : Int) < 1441 from by omega]
  generalize hF : goodR c c.legs.length = F at *
  cases hg0 : F 0 mm with
  | false => simp; refine answers_of rfl ?_; simp [rideR, hE, hF, hg0]
  | true =>
  have hrs := fun k hk => rideS_small (F := F) ho h3 hle (m0 := mm) (by omega) k hk
  have hrl := rideS_length c F fl mm
  simp
  refine pwp_loop (fun k : Nat => [(1, .v (.int .i64 (rideS c F fl mm k).1)), (9, .own 43 ((rideS c F fl mm k).2.length - 1) 0 (rideS c F fl mm k).2.length false), (43, .rows none ((rideS c F fl mm k).2.length - 1) 3 1 (rowsI (rideS c F fl mm k).2)), (46, .v (.int .i64 k))]) (fun k => k ≤ fl.length) (fun k => fl.length - k) 0 (Nat.zero_le _) (by simp; rfl) ?_ ?_
  · simp [rideS, rowsI]
  intro k hk
  have hk1 := hrs k hk
  by_cases hkl : k < fl.length
  · have hl1 := hle k hkl
    have w1 := i64_wrap (show -9223372036854775808 ≤ (rideS c F fl mm k).1 + geti fl k ∧ _ from by omega)
    have w2 := i64_wrap (show -9223372036854775808 ≤ (k : Int) + 1 ∧ _ from by omega)
    have hlen := hrl k hk
    rw [if_pos hkl] at hlen
    generalize hr : rideS c F fl mm k = r at *
    have htk : r.2.take (2 * k + 1) = r.2 := List.take_of_length_le (by omega)
    have htk2 : ∀ x : Int, (r.2 ++ [x]).take (2 * k + 1 + 1) = r.2 ++ [x] := fun x => List.take_of_length_le (by simp; omega)
    simp [hkl, w1, w2, hlen, show 2 * k + 1 + 1 ≤ maxLen from by simp [maxLen]; omega, show (2 * k + 1 + 1) * 8 ≤ 140737488355328 from by omega]
    by_cases hk2 : k + 1 < fl.length
    · have hr2 : rideS c F fl mm (k + 1) = (fromI (F (k + 1)) (r.1 + geti fl k + (hstAt c.stops (k + 1)).turn), r.2 ++ [r.1 + geti fl k] ++ [fromI (F (k + 1)) (r.1 + geti fl k + (hstAt c.stops (k + 1)).turn)]) := by
        rw [rideS, if_pos hk2, hr]
      have ht := ho.turn (k + 1) (by omega)
      have w3 := i64_wrap (show -9223372036854775808 ≤ r.1 + geti fl k + (hstAt c.stops (k + 1)).turn ∧ _ from by omega)
      have hsc : (hstAt c.stops (k + 1)).cells = [spnL (hstAt c.stops (k + 1)).windows, .v (.int .i64 (hstAt c.stops (k + 1)).turn)] := rfl
      simp [hk2, show (k : Int) + 1 < fl.length from by omega]
      refine pwp_draw 15 (by decide) ?_
      simp [w1, w2, w3, show k + 1 < c.legs.length from by omega, show (k : Int) + 1 < c.legs.length from by omega, show k + 1 < c.stops.length from by omega, show (k : Int) + 1 < c.stops.length from by omega, show (0 : Int) ≤ (k : Int) + 1 from by omega, show ((k : Int) + 1).toNat = k + 1 from by omega, hsc]
      refine pd_spec (from_spec (F (k + 1)) (r.1 + geti fl k + (hstAt c.stops (k + 1)).turn) (by simp only [Small]; omega)) (by simp) (by simp) (by simp) rfl ?_
      simp
      refine ⟨by decide, ?_⟩
      simp [hlen, show 2 * k + 1 + 1 + 1 ≤ maxLen from by simp [maxLen]; omega, show (2 * k + 1 + 1 + 1) * 8 ≤ 140737488355328 from by omega]
      refine again_of (k + 1) (by omega) (by omega) ?_
      simp [w2, hr2, hlen, rowsI_snoc, htk, htk2]
    · have hr2 : rideS c F fl mm (k + 1) = (r.1 + geti fl k, r.2 ++ [r.1 + geti fl k]) := by
        rw [rideS, if_neg hk2, hr]
      simp [hk2, show ¬ (k : Int) + 1 < fl.length from by omega]
      refine again_of (k + 1) (by omega) (by omega) ?_
      simp [w2, hr2, hlen, rowsI_snoc, htk, htk2]
      intro x hx y hy
      rcases hx with ⟨a, _, rfl⟩ | rfl <;> (simp at hy; subst hy; rfl)
  · obtain rfl : k = fl.length := by omega
    simp
    refine answers_of rfl ?_
    simp [rideR, hE, hF, hg0, ints]
    intro j hj
    rw [rowsI_get hj]
    simp
end Go.Qg

