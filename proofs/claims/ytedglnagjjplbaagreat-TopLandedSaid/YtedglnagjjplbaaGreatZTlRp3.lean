/-
  Lemmas and contracts that hold of the whole program: 1 texts in one.
  No condition.
-/
import Derived.Test.YtedglnagjjplbaaGreatZTlRp2
set_option linter.all false

namespace Go.Qg
open Go.Proofs
set_option maxRecDepth 100000
set_option maxHeartbeats 64000000
attribute [local simp 2000] List.getElem?_cons_succ List.getElem?_cons_zero
attribute [local irreducible] pwp pops pdraw pop popCall pdCall thenP blockP scopeP pspec Spec answers ppost CallW rend
def rowsT (l : List Bool) : List (List PV) := l.map fun x => [.v (.bool x)]
@[simp] theorem rowsT_length (l : List Bool) : (rowsT l).length = l.length := by simp [rowsT]
@[simp] theorem renLL_rowsT (π : Nat → Nat) (l : List Bool) : renLL π (rowsT l) = rowsT l := by
  induction l with
  | nil => rfl
  | cons x l ih => simpa [rowsT, renLL, renL, PV.ren] using ih
@[simp] theorem namesLL_rowsT (l : List Bool) : namesLL (rowsT l) = [] := by
  induction l with
  | nil => rfl
  | cons x l ih => simpa [rowsT, namesLL, namesL, PV.names] using ih
@[simp] theorem flatLL_rowsT (l : List Bool) : flatLL (rowsT l) = true := by
  induction l with
  | nil => rfl
  | cons x l ih => simpa [rowsT, flatLL, flatL, PV.flat] using ih
@[simp] theorem vwAllL_rowsT (f : PF) (T : Tgt) (d : Nat) (a b : List Bool) : vo.vwAllL f T (d + 1) (rowsT a) (rowsT b) = (a = b) := by
  induction a generalizing b with
  | nil => cases b <;> simp [rowsT, vo.vwAllL]
  | cons x a ih =>
    cases b with
    | nil => simp [rowsT, vo.vwAllL]
    | cons y b =>
      have := ih b
      simp only [rowsT] at this
      simp [rowsT, vo.vwAllL, this]
@[simp] theorem rowsT_one {l : List Bool} : (∀ (x : List PV), x ∈ rowsT l → ∀ (y : PV), y ∈ x → y.one = true) ↔ True := ⟨fun _ => trivial, fun _ x hx y hy => by
  obtain ⟨b, _, rfl⟩ := List.mem_map.1 hx
  simp only [List.mem_singleton] at hy
  subst hy; rfl⟩
@[simp] theorem rowsT_len1 {l : List Bool} : (∀ (x : List PV), x ∈ rowsT l → x.length = 1) ↔ True := ⟨fun _ => trivial, fun _ x hx => by
  obtain ⟨b, _, rfl⟩ := List.mem_map.1 hx
  rfl⟩
theorem rowsT_set (l : List Bool) (k : Nat) (x : Bool) : (rowsT l).set k [.v (.bool x)] = rowsT (l.set k x) := by simp [rowsT, List.map_set]
theorem rowsT_get {l : List Bool} {k : Nat} (h : k < l.length) : (rowsT l)[k]? = some [.v (.bool (getb l k))] := by simp [rowsT, getb, h]
@[simp] theorem rowsT_getElem {l : List Bool} {k : Nat} (h : k < (rowsT l).length) : (rowsT l)[k] = [.v (.bool (getb l k))] := by
  have h' : k < l.length := by simpa using h
  simp [rowsT, getb, h']
theorem rowsT_range (l : List Bool) : (List.range l.length).map (fun i => [PV.v (.bool (getb l i))]) = rowsT l := by
  refine List.ext_getElem (by simp) fun i h1 h2 => ?_
  simp only [List.length_map, List.length_range] at h1
  simp [rowsT, getb, h1]
def sureOk (s : SeaD) (p : Stp) (n : Ned) (m : Int) : Bool := decide (askedE s p n m = 0) && sureW s p n m
theorem sureR_form (s : SeaD) (p : Stp) (n : Ned) (m : Int) : ∃ x e, sureR s p n m = .tup [.v (.int .i64 x), .v (.int .i64 e)] ∧ (e = 0 ↔ sureOk s p n m = true) := by
  unfold sureR sureOk
  by_cases h0 : askedE s p n m = 0
  · cases h1 : sureW s p n m with
    | true => exact ⟨_, _, by rw [if_pos h0, if_pos rfl], by simp [h0]⟩
    | false => exact ⟨_, _, by rw [if_pos h0, if_neg (by simp)], by simp⟩
  · exact ⟨_, _, by rw [if_neg h0], by simp [h0]⟩
def wetAt (s : SeaD) (l : List Stp) (n : Ned) (f : Int) (k j : Nat) : Bool := allN j fun i => sureOk s (stpAt l k) n (f + i)
def wetW (s : SeaD) (l : List Stp) (n : Ned) (f : Int) (w : List Bool) (k j : Nat) : List Bool := (List.range w.length).map fun c => getb w c && (if c < k then wetAt s l n f c 3 else if c = k then wetAt s l n f c j else true)
theorem wetW_length (s : SeaD) (l : List Stp) (n : Ned) (f : Int) (w : List Bool) (k j : Nat) : (wetW s l n f w k j).length = w.length := by simp [wetW]
theorem getb_map {n c : Nat} {F : Nat → Bool} (h : c < n) : getb ((List.range n).map F) c = F c := by simp [getb, h]
theorem wetAt_succ (s : SeaD) (l : List Stp) (n : Ned) (f : Int) (k j : Nat) : wetAt s l n f k (j + 1) = (wetAt s l n f k j && sureOk s (stpAt l k) n (f + j)) := by
  simp [wetAt, allN, List.range_succ]
theorem wetW_zero (s : SeaD) (l : List Stp) (n : Ned) (f : Int) (w : List Bool) : wetW s l n f w 0 0 = w := by
  refine List.ext_getElem (by simp [wetW]) fun i h1 h2 => ?_
  simp [wetW, wetAt, allN, getb, h2]
theorem wetW_next (s : SeaD) (l : List Stp) (n : Ned) (f : Int) (w : List Bool) (k : Nat) : wetW s l n f w k 3 = wetW s l n f w (k + 1) 0 := by
  unfold wetW
  refine List.map_congr_left fun c _ => ?_
  by_cases h1 : c < k
  · simp [h1, show c < k + 1 from by omega]
  · by_cases h2 : c = k
    · subst h2; simp
    · by_cases h3 : c = k + 1
      · subst h3; simp [wetAt, allN]
      · simp [h1, h2, h3, show ¬ c < k + 1 from by omega]
theorem wetW_keep {s : SeaD} {l : List Stp} {n : Ned} {f : Int} {w : List Bool} {k j : Nat} (h : sureOk s (stpAt l k) n (f + j) = true) : wetW s l n f w k (j + 1) = wetW s l n f w k j := by
  unfold wetW
  refine List.map_congr_left fun c _ => ?_
  by_cases h2 : c = k
  · subst h2; simp [wetAt_succ, h]
  · simp [h2]
theorem wetW_dry {s : SeaD} {l : List Stp} {n : Ned} {f : Int} {w : List Bool} {k j : Nat} (h : sureOk s (stpAt l k) n (f + j) = false) : (wetW s l n f w k j).set k false = wetW s l n f w k (j + 1) := by
  refine List.ext_getElem (by simp [wetW]) fun i h1 h2 => ?_
  simp only [List.length_set, wetW, List.length_map, List.length_range] at h1
  simp only [List.getElem_set, wetW, List.getElem_map, List.getElem_range]
  by_cases hk : k = i
  · subst hk; simp [wetAt_succ, h]
  · rw [if_neg hk]
    simp [show ¬ i = k from fun e => hk e.symm]
def wetM (s : SeaD) (l : List Stp) (n : Ned) (f : Int) (m : Lnd) : Lnd := { m with water := wetW s l n f m.water l.length 0 }
theorem wet_sure {s : SeaD} {l : List Stp} {n : Ned} {f : Int} {w : List Bool} {z : Nat} (hz : z < w.length) (hl : l.length = w.length) (h : getb (wetW s l n f w l.length 0) z = true) {m : Int} (h1 : f ≤ m) (h2 : m ≤ f + 2) : sureOk s (stpAt l z) n m = true := by
  rw [wetW, getb_map hz, if_pos (by omega)] at h
  simp only [Bool.and_eq_true, wetAt, allN_spec] at h
  have := h.2 (m - f).toNat (by omega)
  rwa [show f + ((m - f).toNat : Int) = m from by omega] at this
theorem natL_length (l : List Nat) : (natL l).length = l.length := by simp [natL]
theorem natL_last {l : List Nat} {z : Nat} (h : l.getLast? = some z) : 0 < l.length ∧ geti (natL l) (l.length - 1) = z := by
  have h0 : 0 < l.length := by
    cases l with
    | nil => simp at h
    | cons x l => simp
  refine ⟨h0, ?_⟩
  rw [List.getLast?_eq_getElem?] at h
  simp [natL, geti, h]
theorem landed_law {s : SeaD} {l : List Stp} {n : Ned} {c : Crf} {m : Lnd} {a : Arr} {w f : Int} {t : Tru} {h : Int} {K at' : Nat} (hm : LndOk m) (hc : CrfOk c) (hl : l.length = m.ground.length) (hat : at' < m.ground.length) (hs : SeaOk s) (hn : NedOk n) (ha : Agr s t) (hf1 : f ≤ t.minute) (hf2 : t.minute ≤ f + 2)
    {x : Int} (hx : nt (rnd (gldOf c (wetM s l n f m) a h) K) at' = x) (hx2 : x ≤ 20000) {many : Nat} (hmany : firstZ (fun k => decide (nt (rnd (gldOf c (wetM s l n f m) a h) k.toNat) at' ≤ x)) 0 (K + 1) = many) :
    many ≤ K ∧ ∃ z : Nat, geti (natL (at' :: escL (gldOf c (wetM s l n f m) a h) many at' x)) many = z ∧ z < m.ground.length ∧ getb (wetM s l n f m).water z = true ∧ (stripB s (stpAt l z) = true → usableB s (stpAt l z) n t = true) := by
  have hm' : LndOk (wetM s l n f m) := ⟨hm.wide, hm.deep, hm.n, by simp only [wetM, wetW_length]; exact hm.water, hm.ground, hm.clear⟩
  have gok : GldOk (gldOf c (wetM s l n f m) a h) := gldOf_ok hm' hc
  have hlt := firstZ_lt (p := fun k : Int => decide (nt (rnd (gldOf c (wetM s l n f m) a h) k.toNat) at' ≤ x)) (lo := 0) (hi := (K : Int) + 1) (by omega) (by
    rw [show ((K : Int) + 1 - 1).toNat = K from by omega, hx]
    simp)
  have htr := firstZ_true (p := fun k : Int => decide (nt (rnd (gldOf c (wetM s l n f m) a h) k.toNat) at' ≤ x)) (lo := 0) (hi := (K : Int) + 1) (by omega) hlt
  rw [hmany] at hlt htr
  simp only [Int.toNat_natCast, decide_eq_true_eq] at htr
  refine ⟨by omega, ?_⟩
  obtain ⟨z, z1, z2, z3⟩ := escL_water gok (k := many) (c := at') (h := x) hat htr (by omega)
  obtain ⟨_, e2⟩ := natL_last z1
  simp only [List.length_cons, escL_length, Nat.add_sub_cancel] at e2
  have z2' : z < m.ground.length := z2
  have z3' : getb (wetW s l n f m.water l.length 0) z = true := z3
  refine ⟨z, e2, z2', z3', fun hst => ?_⟩
  have hsu := wet_sure (by rw [hm.water]; exact z2') (by rw [hm.water]; exact hl) z3' hf1 hf2
  simp only [sureOk, Bool.and_eq_true] at hsu
  exact sure_usable hs (stripB_ok hst) hn ha hsu.2
theorem TopLanded_spec (s : SeaD) (l : List Stp) (n : Ned) (c : Crf) (m : Lnd) (a : Arr) (w at' f : Int) (t : Tru) (hs : SeaMem s) (hl : l.length ≤ 9223372036854775807) (hcm : CrfMem c) (hg : m.ground.length ≤ 9223372036854775807) (hmw : m.water.length ≤ 9223372036854775807) (ht : TruMem t) :
    Spec Tryz.prog 4 [.agg s.cells, stpL l, .agg n.cells, .agg c.cells, .agg m.cells, .agg a.cells, .v (.int .i64 w), .v (.int .i64 at'), .v (.int .i64 f), .agg t.cells] (.v (.bool true)) := by
  have kn := known20_spec
  have h20 := sea20_spec s hs
  have hnd := t1Need_spec n
  have hcr := craft20_spec c m a w hcm hg
  refine spec_of mixed Tryz.func4 (by decide) rfl Tryz.results4 Tryz.ntmps4 (by decide) 0 (by simp) ?_
  simp [SeaD.cells, stpL, Ned.cells, Crf.cells, Lnd.cells, Arr.cells, Tru.cells, rdgL, spnL, boaL, glaL, rrwL, ints, bools]
  refine pop_spec h20 rfl false (.inl (by simp [SeaD.cells, rdgL, spnL, boaL, glaL])) (.inl rfl) rfl (by simp) ?_
  cases c1 : sea20B s with
  | false => (simp; refine pop_spec kn rfl false (.inl (by simp)) (.inl rfl) rfl (by simp) ?_; simp; exact answers_of rfl (by simp))
  | true =>
  simp
  refine pop_spec hnd rfl false (.inl (by simp [Ned.cells])) (.inl rfl) rfl (by simp) ?_
  cases c2 : needB n with
  | false => (simp; refine pop_spec kn rfl false (.inl (by simp)) (.inl rfl) rfl (by simp) ?_; simp; exact answers_of rfl (by simp))
  | true =>
  simp
  refine pop_spec hcr rfl false (.inl (by simp [Crf.cells, Lnd.cells, Arr.cells, rrwL, ints, bools])) (.inl rfl) rfl (by simp) ?_
  cases c3 : craft20B c m a w with
  | false => (simp; refine pop_spec kn rfl false (.inl (by simp)) (.inl rfl) rfl (by simp) ?_; simp; exact answers_of rfl (by simp))
  | true =>
  simp only [sea20B, Bool.and_eq_true] at c1
  have hso := seaB_ok c1.1.2
  have hno := needB_ok c2
  have c3' := c3
  simp only [craft20B, Bool.and_eq_true] at c3'
  have hlo := lndB_ok c3'.1.1.1.2
  have hco := crfB_ok c3'.1.1.1.1
  have hao := arrB_ok c3'.1.1.2
  have hsm := lnd_small hlo
  by_cases d1 : m.ground.length ≤ 40
  rotate_left
  · (simp [show (40 : Int) < m.ground.length from by omega]; refine pop_spec kn rfl false (.inl (by simp)) (.inl rfl) rfl (by simp) ?_; simp; exact answers_of rfl (by simp))
  by_cases d2 : l.length = m.ground.length
  rotate_left
  · (simp [show ¬ (40 : Int) < m.ground.length from by omega, show ¬ (l.length : Int) = m.ground.length from by omega]; refine pop_spec kn rfl false (.inl (by simp)) (.inl rfl) rfl (by simp) ?_; simp; exact answers_of rfl (by simp))
  by_cases d3 : 0 ≤ at'
  rotate_left
  · (simp [show ¬ (40 : Int) < m.ground.length from by omega, eq_true (show (l.length : Int) = m.ground.length from by omega), show at' < 0 from by omega, d3]; refine pop_spec kn rfl false (.inl (by simp)) (.inl rfl) rfl (by simp) ?_; simp; exact answers_of rfl (by simp))
  by_cases d4 : at' < m.ground.length
  rotate_left
  · (simp [show ¬ (40 : Int) < m.ground.length from by omega, eq_true (show (l.length : Int) = m.ground.length from by omega), show ¬ at' < 0 from by omega, d3, d4, show (m.ground.length : Int) ≤ at' from by omega]; refine pop_spec kn rfl false (.inl (by simp)) (.inl rfl) rfl (by simp) ?_; simp; exact answers_of rfl (by simp))
  by_cases d5 : 0 ≤ f
  rotate_left
  · (simp [show ¬ (40 : Int) < m.ground.length from by omega, eq_true (show (l.length : Int) = m.ground.length from by omega), show ¬ at' < 0 from by omega, d3, d4, show ¬ (m.ground.length : Int) ≤ at' from by omega, d5, show f < 0 from by omega]; refine pop_spec kn rfl false (.inl (by simp)) (.inl rfl) rfl (by simp) ?_; simp; exact answers_of rfl (by simp))
  by_cases d6 : f ≤ 1438
  rotate_left
  · (simp [show ¬ (40 : Int) < m.ground.length from by omega, eq_true (show (l.length : Int) = m.ground.length from by omega), show ¬ at' < 0 from by omega, d3, d4, show ¬ (m.ground.length : Int) ≤ at' from by omega, d5, show ¬ f < 0 from by omega, d6, show 1438 < f from by omega]; refine pop_spec kn rfl false (.inl (by simp)) (.inl rfl) rfl (by simp) ?_; simp; exact answers_of rfl (by simp))
  simp [show ¬ (40 : Int) < m.ground.length from by omega, eq_true (show (l.length : Int) = m.ground.length from by omega), show ¬ at' < 0 from by omega, d3, d4, show ¬ (m.ground.length : Int) ≤ at' from by omega, d5, show ¬ f < 0 from by omega, d6, show ¬ 1438 < f from by omega]
  by_cases e1 : t.depths.length ≤ 200
  rotate_left
  · (simp [show ¬ (t.depths.length : Int) ≤ 200 from by omega, show (200 : Int) < t.depths.length from by omega]; refine pop_spec kn rfl false (.inl (by simp)) (.inl rfl) rfl (by simp) ?_; simp; exact answers_of rfl (by simp))
  by_cases e2 : t.boats.length ≤ 20
  rotate_left
  · (simp [show (t.depths.length : Int) ≤ 200 from by omega, show ¬ (200 : Int) < t.depths.length from by omega, show ¬ (t.boats.length : Int) ≤ 20 from by omega, show (20 : Int) < t.boats.length from by omega]; refine pop_spec kn rfl false (.inl (by simp)) (.inl rfl) rfl (by simp) ?_; simp; exact answers_of rfl (by simp))
  simp [show (t.depths.length : Int) ≤ 200 from by omega, show ¬ (200 : Int) < t.depths.length from by omega, show (t.boats.length : Int) ≤ 20 from by omega, show ¬ (20 : Int) < t.boats.length from by omega]
  refine pop_spec (t1Truth_spec s t (by omega)) rfl false (.inl (by simp [SeaD.cells, Tru.cells, rdgL, spnL, boaL, glaL, ints, bools])) (.inl rfl) rfl (by simp) ?_
  cases c4 : truthB s t with
  | false => (simp [show (t.depths.length : Int) ≤ 200 from by omega, show ¬ (200 : Int) < t.depths.length from by omega, show (t.boats.length : Int) ≤ 20 from by omega, show ¬ (20 : Int) < t.boats.length from by omega]; refine pop_spec kn rfl false (.inl (by simp)) (.inl rfl) rfl (by simp) ?_; simp; exact answers_of rfl (by simp))
  | true =>
  simp [show (t.depths.length : Int) ≤ 200 from by omega, show ¬ (200 : Int) < t.depths.length from by omega, show (t.boats.length : Int) ≤ 20 from by omega, show ¬ (20 : Int) < t.boats.length from by omega]
  refine pop_spec (t1Agrees_spec s t hso c4 (by omega) (by omega)) rfl false (.inl (by simp [SeaD.cells, Tru.cells, rdgL, spnL, boaL, glaL, ints, bools])) (.inl rfl) rfl (by simp) ?_
  cases c5 : agreesB s t with
  | false => (simp [show (t.depths.length : Int) ≤ 200 from by omega, show ¬ (200 : Int) < t.depths.length from by omega, show (t.boats.length : Int) ≤ 20 from by omega, show ¬ (20 : Int) < t.boats.length from by omega]; refine pop_spec kn rfl false (.inl (by simp)) (.inl rfl) rfl (by simp) ?_; simp; exact answers_of rfl (by simp))
  | true =>
  have hagr := agrees_ok c4 c5
  have wf := i64_wrap (show -9223372036854775808 ≤ f + 2 ∧ _ from by omega)
  by_cases e3 : f ≤ t.minute
  rotate_left
  · (simp [show (t.depths.length : Int) ≤ 200 from by omega, show ¬ (200 : Int) < t.depths.length from by omega, show (t.boats.length : Int) ≤ 20 from by omega, show ¬ (20 : Int) < t.boats.length from by omega, e3, show t.minute < f from by omega]; refine pop_spec kn rfl false (.inl (by simp)) (.inl rfl) rfl (by simp) ?_; simp; exact answers_of rfl (by simp))
  by_cases e4 : t.minute ≤ f + 2
  rotate_left
  · (simp [show (t.depths.length : Int) ≤ 200 from by omega, show ¬ (200 : Int) < t.depths.length from by omega, show (t.boats.length : Int) ≤ 20 from by omega, show ¬ (20 : Int) < t.boats.length from by omega, e3, show ¬ t.minute < f from by omega, e4, wf, show f + 2 < t.minute from by omega]; refine pop_spec kn rfl false (.inl (by simp)) (.inl rfl) rfl (by simp) ?_; simp; exact answers_of rfl (by simp))
  simp [show (t.depths.length : Int) ≤ 200 from by omega, show ¬ (200 : Int) < t.depths.length from by omega, show (t.boats.length : Int) ≤ 20 from by omega, show ¬ (20 : Int) < t.boats.length from by omega, e3, show ¬ t.minute < f from by omega, e4, wf, show ¬ f + 2 < t.minute from by omega]
  have hwl := hlo.water
  have hrT := rowsT_range m.water
  simp [show m.water.length ≤ 140737488355328 from by omega, show m.water.length ≤ maxLen from by simp [maxLen]; omega]
  refine pwp_loop (fun k : Nat => [(22, .v (.int .i64 k)), (122, .rows (some (0, m.water.length)) 0 4 1 (rowsT (wetW s l n f m.water k 0)))]) (fun k => k ≤ l.length ∧ ∀ i, i < k → stripB s (stpAt l i) = true) (fun k => l.length - k) 0 ⟨Nat.zero_le _, fun i hi => absurd hi (Nat.not_lt_zero i)⟩ (by simp; rfl) ?_ ?_
  · simp [wetW_zero, hrT]
  intro k ⟨hk, hstp⟩
  have hwk := wetW_length s l n f m.water k
  by_cases hkl : k < l.length
  · have wk := i64_wrap (show -9223372036854775808 ≤ (k : Int) + 1 ∧ _ from by omega)
    have hel : (stpAt l k).cells = [.v (.int .i64 (stpAt l k).x), .v (.int .i64 (stpAt l k).y), .v (.int .i64 (stpAt l k).way), .v (.int .i64 (stpAt l k).cells_)] := rfl
    simp [hkl]
    refine pwp_draw 7 (by decide) ?_
    simp [hkl, hel]
    refine pd_spec (t1Strip_spec s (stpAt l k) hso) (by simp [SeaD.cells, hel, rdgL, spnL, boaL, glaL]) (by simp) (by simp [SeaD.cells, hel, rdgL, spnL, boaL, glaL]) rfl ?_
    simp
    refine ⟨by decide +kernel, ?_⟩
    cases c6 : stripB s (stpAt l k) with
    | false => (simp; refine pop_spec kn rfl false (.inl (by simp)) (.inl rfl) rfl (by simp) ?_; simp; exact answers_of rfl (by simp))
    | true =>
    simp
    refine pwp_loop (fun j : Nat => [(23, .v (.int .i64 (f + j))), (122, .rows (some (0, m.water.length)) 0 4 1 (rowsT (wetW s l n f m.water k j)))]) (fun j => j ≤ 3) (fun j => 3 - j) 0 (Nat.zero_le _) (by simp; rfl) (by simp) ?_
    intro j hj
    have hwj := hwk j
    by_cases hj3 : j < 3
    · obtain ⟨x, e, hR, hE⟩ := sureR_form s (stpAt l k) n (f + j)
      have hS := Sure_spec s (stpAt l k) n (f + j) hs
      rw [hR] at hS
      have wj := i64_wrap (show -9223372036854775808 ≤ f + ((j : Int) + 1) ∧ _ from by omega)
      simp [wf, show f + (j : Int) ≤ f + 2 from by omega, show (j : Int) ≤ 2 from by omega]
      refine pwp_draw 13 (by decide) ?_
      simp [hkl, hel]
      refine pd_spec hS (by simp [SeaD.cells, hel, Ned.cells, rdgL, spnL, boaL, glaL]) (by simp) (by simp [SeaD.cells, hel, Ned.cells, rdgL, spnL, boaL, glaL]) rfl ?_
      simp
      refine ⟨by decide +kernel, ?_⟩
      by_cases he : e = 0
      · have hk1 := wetW_keep (w := m.water) (hE.1 he)
        simp [he]
        refine again_of (j + 1) (by omega) (by omega) ?_
        simp [wj, hk1, Int.add_assoc]
      · have hk1 := wetW_dry (w := m.water) (show sureOk s (stpAt l k) n (f + j) = false from by
          cases hb : sureOk s (stpAt l k) n (f + j) with
          | false => rfl
          | true => exact (he (hE.2 hb)).elim)
        simp [he, hwj, show k < m.water.length from by omega]
        refine again_of (j + 1) (by omega) (by omega) ?_
        simp [wj, hk1, rowsT_set, Int.add_assoc]
    · obtain rfl : j = 3 := by omega
      simp [wf]
      refine again_of (k + 1) ⟨Nat.succ_le_of_lt hkl, fun i hi => ?_⟩ (by have := hkl; omega) ?_
      · rcases Nat.lt_succ_iff_lt_or_eq.1 hi with hi | rfl
        · exact hstp i hi
        · exact c6
      simp [wk, wetW_next]
  obtain rfl : k = l.length := Nat.le_antisymm hk (Nat.not_lt.1 hkl)
  obtain ⟨wt, hwt⟩ : ∃ wt, wetW s l n f m.water l.length 0 = wt := ⟨_, rfl⟩
  have hM : wetM s l n f m = { m with water := wt } := by rw [wetM, hwt]
  have hwtl : wt.length = m.ground.length := by rw [← hwt, wetW_length, hwl]
  have hst0 := craft20_start c3 wt hwtl
  obtain ⟨o1, o2, o3, _⟩ := start_ok hst0
  have hmo := lndB_ok o2
  obtain ⟨q, rfl⟩ : ∃ q : Nat, at' = q := ⟨at'.toNat, by omega⟩
  have hq : q < m.ground.length := by omega
  have gok := gldOf_ok (a := a) (h := saysN c.ceilings w) hmo hco
  obtain ⟨K, hK⟩ := stops_ex gok
  have hnd := Needs_spec c { m with water := wt } a w K hcm hg (fun _ => hK)
  rw [needsR, if_pos hst0] at hnd
  have rl := rnd_length (gldOf c { m with water := wt } a (saysN c.ceilings w)) K
  have gn : (gldOf c { m with water := wt } a (saysN c.ceilings w)).n = m.ground.length := rfl
  obtain ⟨x, hx⟩ : ∃ x, nt (rnd (gldOf c { m with water := wt } a (saysN c.ceilings w)) K) q = x := ⟨_, rfl⟩
  have hx' : geti (rnd (gldOf c { m with water := wt } a (saysN c.ceilings w)) K) q = x := hx
  have hx0 : 0 ≤ x := by rw [← hx]; exact rnd_ge gok K hq
  obtain ⟨N, hN⟩ : ∃ N, rnd (gldOf c { m with water := wt } a (saysN c.ceilings w)) K = N := ⟨_, rfl⟩
  rw [hN] at hnd rl hx'
  obtain ⟨many, hmany⟩ : ∃ many : Nat, firstZ (fun k => decide (nt (rnd (gldOf c { m with water := wt } a (saysN c.ceilings w)) k.toNat) q ≤ x)) 0 (K + 1) = many := ⟨(firstZ (fun k => decide (nt (rnd (gldOf c { m with water := wt } a (saysN c.ceilings w)) k.toNat) q ≤ x)) 0 ((K : Int) + 1)).toNat, by
    have := firstZ_ge (p := fun k : Int => decide (nt (rnd (gldOf c { m with water := wt } a (saysN c.ceilings w)) k.toNat) q ≤ x)) (lo := 0) (hi := (K : Int) + 1) (by omega)
    omega⟩
  rw [hwt]
  simp
  refine pop_specF [(21, .box true [.v (.int .i64 m.wide), .v (.int .i64 m.deep), ints m.ground, bools wt, .v (.int .i64 m.clear)]), (122, bools wt), (164, .agg [.v (.int .i64 m.wide), .v (.int .i64 m.deep), ints m.ground, bools wt, .v (.int .i64 m.clear)])] ?_ hnd rfl false (.inl ?_) (.inl rfl) rfl (by simp [ints]) ?_
  · simp [ints, bools, hwtl, hwl]
    refine ⟨fun j hj => ?_, fun j hj => ?_⟩ <;> (rw [rowsT_get (by rw [hwtl]; exact hj)]; simp)
  · simp [Crf.cells, Lnd.cells, Arr.cells, rrwL, ints, bools]
  simp [ints, rl, gn, d2]
  by_cases x1 : x ≤ 20000
  rotate_left
  · simp [show ¬ x < 0 from by omega, show 20000 < x from by omega, show 0 < x from by omega, hq, hx']
    refine pop_spec kn rfl false (.inl (by simp)) (.inl rfl) rfl (by simp) ?_; simp; exact answers_of rfl (by simp)
  simp [show ¬ x < 0 from by omega, show ¬ 20000 < x from by omega, hq, hx']
  have hlaw := landed_law (s := s) (l := l) (n := n) (c := c) (m := m) (a := a) (w := w) (f := f) (t := t) (h := saysN c.ceilings w) (K := K) (at' := q) hlo hco d2 hq hso hno hagr e3 e4 (x := x) (by rw [hM]; exact hx) x1 (many := many) (by rw [hM]; exact hmany)
  rw [hM] at hlaw
  obtain ⟨hmK, z, z1, z2, z3, z4⟩ := hlaw
  have hes := Escape_spec c { m with water := wt } a w q x K many hcm hst0 hq ⟨hx0, x1⟩ hK hmany hmK
  obtain ⟨L, hL⟩ : ∃ L, natL (q :: escL (gldOf c { m with water := wt } a (saysN c.ceilings w)) many q x) = L := ⟨_, rfl⟩
  have hLl : L.length = many + 1 := by rw [← hL, natL_length, List.length_cons, escL_length]
  rw [hL] at hes z1
  have hKb := stops_le gok hK
  rw [gn] at hKb
  have hs29 : usableE s (stpAt l z) n t = true := by rw [usableE, c1.1.2, c4, hstp z (by omega), c2]; rfl
  have hu := Usable_spec s t (stpAt l z) n hs ht
  rw [usableR, if_pos hs29, z4 (hstp z (by omega))] at hu
  have w0 := i64_wrap (show -9223372036854775808 ≤ (many : Int) ∧ _ from by omega)
  refine pwp_draw 15 (by decide) ?_
  simp [hq, hx']
  refine pd_spec hes (by simp [Crf.cells, Lnd.cells, Arr.cells, rrwL, ints, bools]) (by simp) (by simp [Crf.cells, Lnd.cells, Arr.cells, rrwL, ints, bools]) rfl ?_
  simp [ints, hLl, Lnd.cells, bools]
  refine ⟨by decide +kernel, ?_⟩
  simp [w0, z1, show ¬ (many : Int) + 1 = 0 from by omega, show many < many + 1 from by omega, show (many : Int) < (many : Int) + 1 from by omega, show ¬ many + 1 = 0 from by omega, hLl]
  simp [hwtl, hwl, z2, z3, d2, show ¬ (z : Int) < 0 from by omega, show ¬ (m.ground.length : Int) ≤ z from by omega, show ¬ m.ground.length ≤ z from by omega, show (z : Int) < m.ground.length from by omega]
  have helz : (stpAt l z).cells = [.v (.int .i64 (stpAt l z).x), .v (.int .i64 (stpAt l z).y), .v (.int .i64 (stpAt l z).way), .v (.int .i64 (stpAt l z).cells_)] := rfl
  refine pwp_draw 13 (by decide) ?_
  simp [helz, d2, z2, show (z : Int) < m.ground.length from by omega]
  refine pd_spec hu (by simp [SeaD.cells, Stp.cells, Ned.cells, Tru.cells, rdgL, spnL, boaL, glaL, ints, bools]) (by simp) (by simp [SeaD.cells, Stp.cells, Ned.cells, Tru.cells, rdgL, spnL, boaL, glaL, ints, bools]) rfl ?_
  simp
  refine ⟨by decide +kernel, ?_⟩
  refine pop_spec kn rfl false (.inl (by simp)) (.inl rfl) rfl (by simp) ?_; simp; exact answers_of rfl (by simp)
end Go.Qg

