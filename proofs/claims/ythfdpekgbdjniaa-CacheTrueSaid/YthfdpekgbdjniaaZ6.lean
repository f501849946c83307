/-
  Lemmas and contracts that hold of the whole program: 22 texts in one.
  No condition.
-/
import Derived.Test.YthfdpekgbdjniaaZ5
set_option linter.all false

namespace Go.Qg
open Go.Proofs
set_option maxRecDepth 100000
set_option linter.unusedSimpArgs false
set_option maxHeartbeats 4000000
attribute [local irreducible] pwp pops pdraw pop popCall pdCall thenP blockP scopeP pspec Spec answers ppost CallW
theorem snocInd {α : Type} {motive : List α → Prop} (nil : motive []) (snoc : ∀ l s, motive l → motive (l ++ [s])) (l : List α) : motive l := by
  have : ∀ n (l : List α), l.length = n → motive l := by
    intro n
    induction n with
    | zero => intro l h; rw [List.length_eq_zero_iff.1 h]; exact nil
    | succ n ih =>
      intro l h
      have hne : l ≠ [] := by rintro rfl; simp at h
      rw [← List.dropLast_concat_getLast hne]
      exact snoc _ _ (ih _ (by simp [h]))
  exact this _ l rfl
def covesL : List Snd → List Int := fun l => l.foldl (fun ks s => if ks.contains s.cove then ks else ks ++ [s.cove]) []
def ofCove (l : List Snd) (c : Int) : List Snd := l.filter fun s => decide (s.cove = c)
theorem covesL_snoc (l : List Snd) (s : Snd) : covesL (l ++ [s]) = if (covesL l).contains s.cove then covesL l else covesL l ++ [s.cove] := by simp [covesL, List.foldl_append]
theorem covesL_mem {l : List Snd} {c : Int} : c ∈ covesL l ↔ ∃ s ∈ l, s.cove = c := by
  induction l using snocInd with
  | nil => simp [covesL]
  | snoc l s ih =>
    rw [covesL_snoc]
    split
    · rename_i h
      have h' : s.cove ∈ covesL l := by simpa using h
      rw [ih]
      constructor
      · rintro ⟨x, hx, rfl⟩; exact ⟨x, by simp [hx], rfl⟩
      · rintro ⟨x, hx, rfl⟩
        rcases List.mem_append.1 hx with hx | hx
        · exact ⟨x, hx, rfl⟩
        · obtain rfl := List.mem_singleton.1 hx
          exact ih.1 h'
    · rw [List.mem_append, ih]
      constructor
      · rintro (⟨x, hx, rfl⟩ | hx)
        · exact ⟨x, by simp [hx], rfl⟩
        · exact ⟨s, by simp, (List.mem_singleton.1 hx).symm⟩
      · rintro ⟨x, hx, rfl⟩
        rcases List.mem_append.1 hx with hx | hx
        · exact .inl ⟨x, hx, rfl⟩
        · obtain rfl := List.mem_singleton.1 hx
          exact .inr (by simp)
theorem covesL_length (l : List Snd) : (covesL l).length ≤ l.length := by
  induction l using snocInd with
  | nil => simp [covesL]
  | snoc l s ih => rw [covesL_snoc]; split <;> simp <;> omega
theorem covesL_nodup (l : List Snd) : (covesL l).Nodup := by
  induction l using snocInd with
  | nil => simp [covesL]
  | snoc l s ih =>
    rw [covesL_snoc]
    split
    · exact ih
    · rename_i h
      rw [List.nodup_append]
      refine ⟨ih, by simp, fun a ha b hb e => ?_⟩
      obtain rfl := List.mem_singleton.1 hb
      subst e
      exact h (by simpa using ha)
theorem ofCove_snoc (l : List Snd) (s : Snd) (c : Int) : ofCove (l ++ [s]) c = if s.cove = c then ofCove l c ++ [s] else ofCove l c := by
  simp only [ofCove, List.filter_append, List.filter_cons, List.filter_nil]
  by_cases h : s.cove = c <;> simp [h]
def hVals (l : List Snd) : List PV := tab (covesL l).length fun j => .own (j + 25) ((ofCove l (geti (covesL l) j)).length - 1) 0 (ofCove l (geti (covesL l) j)).length false
def hRows (n : Nat) (l : List Snd) : List PV := tab n fun j => if j < (covesL l).length then .rows none ((ofCove l (geti (covesL l) j)).length - 1) 74 4 (rowsSo (ofCove l (geti (covesL l) j))) else .undef
def hFrame (l : List Snd) (k : Nat) : PF := sndL l :: .undef :: .undef :: .mp 6 :: .undef :: .undef :: .map true (keysI (covesL (l.take k))) (hVals (l.take k)) :: sndL l :: .v (.int .i64 l.length) :: .v (.int .i64 k) :: .undef :: .undef :: .undef :: .undef :: .undef :: .undef :: .undef :: .undef :: .undef :: .undef :: .undef :: .undef :: .undef :: .undef :: .undef :: hRows l.length (l.take k)
theorem geti_snoc {l : List Int} {c : Int} {j : Nat} : geti (l ++ [c]) j = if j < l.length then geti l j else if j = l.length then c else 0 := by
  simp only [geti, List.getD_eq_getElem?_getD]
  rcases Nat.lt_trichotomy j l.length with h | h | h
  · rw [List.getElem?_append_left h, if_pos h]
  · subst h; simp
  · rw [List.getElem?_eq_none (by simp; omega), if_neg (by omega), if_neg (by omega)]; rfl
theorem nodup_geti {l : List Int} (h : l.Nodup) {i j : Nat} (hi : i < l.length) (hj : j < l.length) (he : geti l i = geti l j) : i = j := by
  simp only [geti, List.getD_eq_getElem?_getD, List.getElem?_eq_getElem hi, List.getElem?_eq_getElem hj, Option.getD_some] at he
  have h2 := List.pairwise_iff_getElem.1 h
  rcases Nat.lt_trichotomy i j with h1 | h1 | h1
  · exact absurd he (h2 i j hi hj h1)
  · exact h1
  · exact absurd he.symm (h2 j i hj hi h1)
theorem geti_mem {l : List Int} {i : Nat} (hi : i < l.length) : geti l i ∈ l := by
  simp only [geti, List.getD_eq_getElem?_getD, List.getElem?_eq_getElem hi, Option.getD_some]; exact List.getElem_mem hi
theorem ofCove_none {l : List Snd} {c : Int} (h : c ∉ covesL l) : ofCove l c = [] := by
  refine List.filter_eq_nil_iff.2 fun s hs => ?_
  simp only [decide_eq_true_eq]
  exact fun e => h (covesL_mem.2 ⟨s, hs, e⟩)
theorem hVals_new {l : List Snd} {s : Snd} (h : s.cove ∉ covesL l) : renL (ren1 22 ((covesL l).length + 25)) (hVals l ++ [.own 22 0 0 1 false]) = hVals (l ++ [s]) := by
  have e1 : covesL (l ++ [s]) = covesL l ++ [s.cove] := by rw [covesL_snoc, if_neg (by simpa using h)]
  unfold hVals
  rw [tab_snoc, renL_tab, e1, List.length_append, List.length_singleton]
  refine tab_ext fun j hj => ?_
  by_cases hjl : j < (covesL l).length
  · have hne : s.cove ≠ geti (covesL l) j := fun e => h (e ▸ geti_mem hjl)
    rw [if_neg (by omega), geti_snoc, if_pos hjl, ofCove_snoc, if_neg hne]
    simp only [PV.ren, ren1]
    rw [if_neg (by omega)]
  · obtain rfl : j = (covesL l).length := by omega
    rw [if_pos rfl, geti_snoc, if_neg (Nat.lt_irrefl _), if_pos rfl, ofCove_snoc, if_pos rfl, ofCove_none h]
    simp [PV.ren, ren1]
theorem hRows_new {l : List Snd} {s : Snd} {n : Nat} (h : s.cove ∉ covesL l) (_hn : (covesL l).length < n) : (renL (ren1 22 ((covesL l).length + 25)) (hRows n l)).set (covesL l).length (PV.ren (ren1 22 ((covesL l).length + 25)) (PV.rows (some (0, 1)) 0 74 4 [s.cells]).bareOf) = hRows n (l ++ [s]) := by
  have e1 : covesL (l ++ [s]) = covesL l ++ [s.cove] := by rw [covesL_snoc, if_neg (by simpa using h)]
  unfold hRows
  rw [renL_tab, tab_set, e1, List.length_append, List.length_singleton]
  refine tab_ext fun j hj => ?_
  by_cases hjl : j < (covesL l).length
  · have hne : s.cove ≠ geti (covesL l) j := fun e => h (e ▸ geti_mem hjl)
    rw [if_neg (by omega), if_pos hjl, if_pos (by omega), geti_snoc, if_pos hjl, ofCove_snoc, if_neg hne]
    simp [PV.ren]
  · by_cases hje : j = (covesL l).length
    · subst hje
      rw [if_pos rfl, if_pos (by omega), geti_snoc, if_neg (Nat.lt_irrefl _), if_pos rfl, ofCove_snoc, if_pos rfl, ofCove_none h]
      simp [PV.bareOf, PV.ren, renLL, renL, rowsSo, Snd.cells]
    · rw [if_neg hje, if_neg hjl, if_neg (by omega)]
      simp [PV.ren]
theorem hVals_old {l : List Snd} {s : Snd} {j : Nat} (hj : j < (covesL l).length) (he : geti (covesL l) j = s.cove) : (hVals l).set j (.own (j + 25) ((ofCove l s.cove).length - 1 + 1) 0 ((ofCove l s.cove).length + 1) false) = hVals (l ++ [s]) := by
  have hmem : s.cove ∈ covesL l := he ▸ geti_mem hj
  have hm : 0 < (ofCove l s.cove).length := by
    obtain ⟨x, hx, e⟩ := covesL_mem.1 hmem
    exact List.length_pos_of_mem (List.mem_filter.2 ⟨hx, by simpa using e⟩)
  have e1 : covesL (l ++ [s]) = covesL l := by rw [covesL_snoc, if_pos (by simpa using hmem)]
  unfold hVals
  rw [tab_set, e1]
  refine tab_ext fun i hi => ?_
  rw [ofCove_snoc]
  by_cases h : i = j
  · subst h
    rw [if_pos rfl, he, if_pos rfl, List.length_append, List.length_singleton]
    congr 1
    omega
  · rw [if_neg h, if_neg fun e => h (nodup_geti (covesL_nodup l) hi hj (e.symm.trans he.symm))]
theorem hRows_old {l : List Snd} {s : Snd} {j n : Nat} (hj : j < (covesL l).length) (he : geti (covesL l) j = s.cove) : (hRows n l).set j (.rows none ((ofCove l s.cove).length - 1 + 1) 74 4 (rowsSo (ofCove l s.cove) ++ [s.cells])) = hRows n (l ++ [s]) := by
  have hmem : s.cove ∈ covesL l := he ▸ geti_mem hj
  have hm : 0 < (ofCove l s.cove).length := by
    obtain ⟨x, hx, e⟩ := covesL_mem.1 hmem
    exact List.length_pos_of_mem (List.mem_filter.2 ⟨hx, by simpa using e⟩)
  have e1 : covesL (l ++ [s]) = covesL l := by rw [covesL_snoc, if_pos (by simpa using hmem)]
  unfold hRows
  rw [tab_set, e1]
  refine tab_ext fun i hi => ?_
  rw [ofCove_snoc]
  by_cases h : i = j
  · subst h
    rw [if_pos rfl, if_pos hj, he, if_pos rfl, List.length_append, List.length_singleton, rowsSo_snoc]
    congr 1
    omega
  · by_cases hil : i < (covesL l).length
    · rw [if_neg h, if_pos hil, if_pos hil, if_neg fun e => h (nodup_geti (covesL_nodup l) hil hj (e.symm.trans he.symm))]
    · rw [if_neg h, if_neg hil, if_neg hil]
theorem hVals_vw {l : List Snd} {n : Nat} {f g : PF} (hn : (covesL l).length ≤ n) (hf : ∀ j, f[j + 25]? = (hRows n l)[j]?) (hg : ∀ j, g[j + 25]? = (hRows n l)[j]?) : vwAll (vw f (tgtOf f g) 8) (hVals l) (hVals l) := by
  refine vwAll_tab fun j hj => ?_
  have hr : (hRows n l)[j]? = some (.rows none ((ofCove l (geti (covesL l) j)).length - 1) 74 4 (rowsSo (ofCove l (geti (covesL l) j)))) := by
    rw [hRows, tab_get _ (by omega), if_pos hj]
  have h1 := (hf j).trans hr
  have h2 := (hg j).trans hr
  rw [vw_own_]
  exact ⟨by simp [h1, h2], rfl, rfl, rfl, by simp [h2], by simp [h1]⟩
theorem hRows_le {l : List Snd} {n m : Nat} {f : PF} {T : Tgt} : leF f T m 8 25 (hRows n l) (hRows n l) := by
  refine leF_tab 25 fun j hj => ⟨?_, fun _ h => h⟩
  by_cases h : j < (covesL l).length
  · simp only [if_pos h]
    simp
  · simp only [if_neg h]; simp
theorem frame0_tail (m n : Nat) (args : List PV) (h : args.length ≤ m) : frame0 (m + n) args [] = renL ((m + n) + ·) args ++ List.replicate (m - args.length) .undef ++ tab n fun _ => .undef := by
  unfold frame0
  rw [← replicate_tab, show m + n - args.length = (m - args.length) + n from by omega, List.replicate_append_replicate.symm]
  simp [renL]
theorem heard_spec (l : List Snd) (hl : l.length ≤ 1000) :
    CallW Try.prog 84 [sndL l] [] (fun out => out = .ret (.mp 0) [.map false (keysI (covesL l)) (tab (covesL l).length fun j => sndL (ofCove l (geti (covesL l) j)))]) := by
  refine callW_of mixed Try.func84 (by decide) rfl (congrArg Array.toList Try.results84) Try.ntmps84 (by decide) (25 + l.length) (by simp) (by omega) ?_
  rw [show ([] : PF) = [] from rfl, frame0_tail 25 l.length _ (by simp)]
  simp [sndL, renL]
  refine pwp_loopW (hFrame l) (fun k => k ≤ l.length) (fun k => l.length - k) 0 (Nat.zero_le _) ?_ ?_
  · simp [hFrame, sndL, hVals, hRows, covesL]
    exact leF_tab 25 fun j hj => ⟨by simp, by simp⟩
  · intro k hk
    simp only [hFrame]
    by_cases c : k < l.length
    · have hn : (covesL (l.take k)).length ≤ k := Nat.le_trans (covesL_length _) (by simp; omega)
      have hsn : l.take (k + 1) = l.take k ++ [sndAt l k] := by rw [List.take_add_one]; simp [sndAt, c]
      have wk := i64_wrap (show -9223372036854775808 ≤ (k : Int) + 1 ∧ _ from by omega)
      have hfind := pkfind_ints (P := Try.prog) (t := 3) (by rfl) (covesL (l.take k)) (sndAt l k).cove 0
      simp [c, sndL, Snd.cells]
      refine pwp_draw 11 (by decide) ?_
      have hkey : pkeyOk Try.prog 3 (.v (.int .i64 (sndAt l k).cove)) = true := by simp [pkeyOk]
      cases hd : dfind (covesL (l.take k)) (sndAt l k).cove 0 with
      | none =>
        rw [hd] at hfind
        have hno : ¬ (covesL (l.take k)).contains (sndAt l k).cove = true := by
          have := dfind_mem (d := covesL (l.take k)) (x := (sndAt l k).cove) (j := 0)
          rw [hd] at this; simpa using this.symm
        have hlt : (covesL (l.take k)).length < l.length := by omega
        have hfree : (hRows l.length (l.take k))[(covesL (l.take k)).length]? = some .undef := by
          rw [hRows, tab_get _ hlt, if_neg (Nat.lt_irrefl _)]
        simp [hfind, hkey, show 1 ≤ maxLen from by simp [maxLen]]
        refine ⟨by decide, ?_⟩
        have hno' : (sndAt l k).cove ∉ covesL (l.take k) := by simpa using hno
        have e1 : covesL (l.take (k + 1)) = covesL (l.take k) ++ [(sndAt l k).cove] := by rw [hsn, covesL_snoc, if_neg hno]
        have e2 := hVals_new hno'
        have e3 := hRows_new hno' hlt
        rw [← hsn] at e2 e3
        simp only [Snd.cells] at e3
        refine againW_mv 22 ((covesL (l.take k)).length + 25) (by simp [objAt]) (by simp [objAt, hfree]) (by simp [hRows]; omega) (by omega) (k + 1) (by omega) (by omega) ?_
        simp [mv, hFrame, e1, sndL, Snd.cells, keysI_snoc, e2, e3, ren1, wk]
        refine ⟨by omega, hVals_vw (n := l.length) (Nat.le_trans (covesL_length _) (by simp; omega)) (fun j => by simp) (fun j => by simp), ?_⟩
        exact ⟨by omega, hRows_le⟩
      | some j =>
        rw [hd] at hfind
        obtain ⟨_, hj1, hj2⟩ := dfind_some hd
        simp only [Nat.sub_zero] at hj1 hj2
        have hg : geti (covesL (l.take k)) j = (sndAt l k).cove := by simp [geti, List.getD, hj2]
        have hmem : (sndAt l k).cove ∈ covesL (l.take k) := List.mem_of_getElem? hj2
        have hm1 : 0 < (ofCove (l.take k) (sndAt l k).cove).length := by
          obtain ⟨s, hs, he⟩ := covesL_mem.1 hmem
          exact List.length_pos_of_mem (List.mem_filter.2 ⟨hs, by simpa using he⟩)
        have hv : (hVals (l.take k))[j]? = some (.own (j + 25) ((ofCove (l.take k) (sndAt l k).cove).length - 1) 0 (ofCove (l.take k) (sndAt l k).cove).length false) := by
          rw [hVals, tab_get _ hj1, hg]
        have hr : (hRows l.length (l.take k))[j]? = some (.rows none ((ofCove (l.take k) (sndAt l k).cove).length - 1) 74 4 (rowsSo (ofCove (l.take k) (sndAt l k).cove))) := by
          rw [hRows, tab_get _ (by omega), if_pos hj1, hg]
        have hml : (ofCove (l.take k) (sndAt l k).cove).length ≤ k := Nat.le_trans (List.length_filter_le _ _) (by simp; omega)
        simp [hfind, hkey, hv, hr, show ((ofCove (l.take k) (sndAt l k).cove).length + 1) * 32 ≤ 140737488355328 from by omega, show (ofCove (l.take k) (sndAt l k).cove).length + 1 ≤ maxLen from by simp [maxLen]; omega]
        refine ⟨drawOk_map (shiftN_inj 25 j) (its' := [{ rs := [3, 13], ss := [6], ws := [13], ts := [13] }, { rs := [5, 5, 14], ss := [], ws := [14], ts := [14] }, { rs := [14, 5, 15], ss := [], ws := [15], ts := [15] }, { rs := [3, 16], ss := [6], ws := [16], ts := [16] }, { rs := [5, 5, 17], ss := [], ws := [17], ts := [17] }, { rs := [17, 5, 18], ss := [], ws := [18], ts := [18] }, { rs := [16, 18, 6, 19], ss := [], ws := [19], ts := [19] }, { rs := [5, 5, 20], ss := [], ws := [20], ts := [20] }, { rs := [20, 21], ss := [], ws := [21], ts := [21] }, { rs := [19, 21, 25, 21, 22], ss := [], ws := [22, 25], ts := [22, 25] }, { rs := [13, 15, 22, 6, 25], ss := [], ws := [6], ts := [6] }]) (by simp [Fp.map, shiftN, Nat.add_comm]) (by decide), ?_⟩
        have e1 : covesL (l.take (k + 1)) = covesL (l.take k) := by rw [hsn, covesL_snoc, if_pos (by simpa using hmem)]
        have e2 := hVals_old hj1 hg
        have e3 := hRows_old (n := l.length) hj1 hg
        rw [← hsn] at e2 e3
        simp only [Snd.cells] at e3
        refine againW_of (k + 1) (by omega) (by omega) ?_
        simp [hFrame, e1, sndL, Snd.cells, e2, e3, keysI_set hd, wk]
        refine ⟨by omega, hVals_vw (n := l.length) (Nat.le_trans (covesL_length _) (by simp; omega)) (fun j => by simp) (fun j => by simp), ?_⟩
        exact ⟨by omega, hRows_le⟩
    · obtain rfl : k = l.length := by omega
      simp [sndL]
      refine ends_of (.mp 0) [.map false (keysI (covesL l)) (tab (covesL l).length fun j => sndL (ofCove l (geti (covesL l) j)))] [6] rfl (by simp) ?_ ?_ ?_
      · simp
        refine vwAll_tab fun j hj => ?_
        have hr : (hRows l.length l)[j]? = some (.rows none ((ofCove l (geti (covesL l) j)).length - 1) 74 4 (rowsSo (ofCove l (geti (covesL l) j)))) := by
          rw [hRows, tab_get _ (by have := covesL_length l; omega), if_pos hj]
        simp [sndL, hr, Snd.cells]
        intro k hk
        simp [rowsSo_get hk, Snd.cells]
      · simp
      · simp [sndL]
end Go.Qg

namespace Go.Qg
open Go.Proofs
set_option maxRecDepth 100000
set_option linter.unusedSimpArgs false
set_option maxHeartbeats 4000000
attribute [local irreducible] pwp pops pdraw pop popCall pdCall thenP blockP scopeP pspec Spec answers ppost CallW
def lowTo (l : List Snd) : Nat → Int
  | 0 => 0
  | k + 1 => lowTo l k + (sndAt l k).low
def highTo (l : List Snd) : Nat → Int
  | 0 => 0
  | k + 1 => highTo l k + (sndAt l k).high
def winL (c : Cov) (l : List Snd) (day : Int) : List Snd := l.filter fun s => decide (day - c.window < s.day)
def lastS (l : List Snd) : Snd := sndAt l (l.length - 1)
def manyB (c : Cov) (l : List Snd) : Bool := clsB c (lastS l).day || decide (c.visits < ((winL c l (lastS l).day).length : Int))
def mayB (c : Cov) (l : List Snd) : Bool := manyB c l || decide (c.noise < highTo (winL c l (lastS l).day) (winL c l (lastS l).day).length)
def sureB (c : Cov) (l : List Snd) : Bool := manyB c l || decide (c.noise < lowTo (winL c l (lastS l).day) (winL c l (lastS l).day).length)
structure SndsOk (l : List Snd) : Prop where
  n : l.length ≤ 1000
  each : ∀ s ∈ l, (0 ≤ s.day ∧ s.day ≤ 400) ∧ (0 ≤ s.low ∧ s.low ≤ 100000) ∧ 0 ≤ s.high ∧ s.high ≤ 100000
theorem sndAt_mem {l : List Snd} {k : Nat} (h : k < l.length) : sndAt l k ∈ l := by simp [sndAt, h]
theorem SndsOk.to {l : List Snd} (h : SndsOk l) : ∀ k, k ≤ l.length → (0 ≤ lowTo l k ∧ lowTo l k ≤ 100000 * k) ∧ 0 ≤ highTo l k ∧ highTo l k ≤ 100000 * k
  | 0, _ => by simp [lowTo, highTo]
  | k + 1, hk => by
    have h1 := h.to k (by omega)
    have h2 := h.each _ (sndAt_mem (show k < l.length by omega))
    simp only [lowTo, highTo]; push_cast; omega
theorem SndsOk.filter {l : List Snd} (h : SndsOk l) (p : Snd → Bool) : SndsOk (l.filter p) := ⟨Nat.le_trans (List.length_filter_le _ _) h.n, fun s hs => h.each s (List.mem_filter.1 hs).1⟩
theorem breaks1_spec (s last : Snd) (c : Cov) (h1 : 0 ≤ last.day ∧ last.day ≤ 400) (h2 : 0 ≤ c.window ∧ c.window ≤ 400) : Spec Try.prog 116 [.agg s.cells, .rp last.cells 0, .rp c.cells 0] (.v (.bool (decide (last.day - c.window < s.day)))) := by
  have w := i64_wrap (show -9223372036854775808 ≤ last.day - c.window ∧ _ from by omega)
  refine spec_of mixed Try.func116 (by decide) rfl Try.results116 Try.ntmps116 (by decide) 0 (by simp) ?_
  simp [Snd.cells, Cov.cells, spnL, w]
  refine answers_of rfl ?_; simp
theorem breaks_spec (c : Cov) (l : List Snd) (hc : c.closed.length ≤ 9223372036854775807) (hw : 0 ≤ c.window ∧ c.window ≤ 400) (h0 : 0 < l.length) (h : SndsOk l) : Spec Try.prog 83 [.agg c.cells, sndL l] (.tup [.v (.bool (mayB c l)), .v (.bool (sureB c l))]) := by
  have hn := h.n
  have hl1 : l.length - 1 < l.length := by omega
  have hlast := (h.each _ (sndAt_mem hl1)).1
  have e1 : IntKind.i64.wrap ((l.length : Int) - 1) = ((l.length - 1 : Nat) : Int) := by rw [i64_wrap (by omega)]; omega
  have hwin := h.filter fun s => decide ((lastS l).day - c.window < s.day)
  have hpart := partSnd_spec l (by omega) 116 [] [.rp (lastS l).cells 0, .rp c.cells 0] rfl rfl (fun s => decide ((lastS l).day - c.window < s.day)) fun k hk => breaks1_spec (sndAt l k) (lastS l) c hlast hw
  have hcls := closed_spec c (lastS l).day hc
  have hm : manyB c l = (clsB c (lastS l).day || decide (c.visits < ((winL c l (lastS l).day).length : Int))) := rfl
  have hy : mayB c l = (manyB c l || decide (c.noise < highTo (winL c l (lastS l).day) (winL c l (lastS l).day).length)) := rfl
  have hz : sureB c l = (manyB c l || decide (c.noise < lowTo (winL c l (lastS l).day) (winL c l (lastS l).day).length)) := rfl
  have eL : sndAt l (l.length - 1) = lastS l := rfl
  change SndsOk (winL c l (lastS l).day) at hwin
  change Spec _ _ _ (sndL (winL c l (lastS l).day)) at hpart
  rw [hy, hz, hm]
  generalize winL c l (lastS l).day = W at hwin hpart
  have hWn := hwin.n
  refine spec_of mixed Try.func83 (by decide) rfl Try.results83 Try.ntmps83 (by decide) 0 (by simp) ?_
  simp [Cov.cells, sndL, spnL, e1, hl1, Snd.cells, eL]
  refine pop_specF [(2, .rp c.cells 0), (6, .rp (lastS l).cells 0), (19, .clo (.func 116) [] [.rp (lastS l).cells 0, .rp c.cells 0])] (by simp [Cov.cells, Snd.cells, spnL]) hpart rfl false (.inl (by simp [sndL, Snd.cells, Cov.cells, spnL])) (.inl rfl) rfl (by simp [sndL]) ?_
  simp [sndL]
  refine pwp_loop (fun k : Nat => [(8, .box true [.v (.int .i64 (lowTo W k)), .v (.int .i64 (highTo W k))]), (23, .v (.int .i64 k))]) (fun k => k ≤ W.length) (fun k => W.length - k) 0 (Nat.zero_le _) (by simp; rfl) (by simp [lowTo, highTo]) ?_
  intro k hk
  by_cases hkl : k < W.length
  · have b0 := hwin.to k (by omega)
    have b1 := hwin.to (k + 1) (by omega)
    have f1 : lowTo W (k + 1) = lowTo W k + (sndAt W k).low := rfl
    have f2 : highTo W (k + 1) = highTo W k + (sndAt W k).high := rfl
    rw [f1, f2] at b1
    have w1 := i64_wrap (show -9223372036854775808 ≤ lowTo W k + (sndAt W k).low ∧ _ from by omega)
    have w2 := i64_wrap (show -9223372036854775808 ≤ highTo W k + (sndAt W k).high ∧ _ from by omega)
    have wk := i64_wrap (show -9223372036854775808 ≤ (k : Int) + 1 ∧ _ from by omega)
    simp [hkl, Snd.cells, w1, w2]
    refine again_of (k + 1) (by omega) (by omega) ?_
    simp [wk, f1, f2]
  · obtain rfl : k = W.length := by omega
    simp [Snd.cells, Cov.cells, spnL]
    refine pop_spec hcls rfl false (.inl (by simp [Cov.cells, spnL])) (.inl rfl) rfl (by simp) ?_
    cases h1 : clsB c (lastS l).day with
    | true =>
      simp
      refine pwp_draw 18 (by decide) ?_
      simp
      refine ⟨by decide, ?_⟩
      refine answers_of (by simp; rfl) ?_; simp
    | false =>
      by_cases h2 : c.visits < (W.length : Int)
      · simp [h2]
        refine pwp_draw 18 (by decide) ?_
        simp
        refine ⟨by decide, ?_⟩
        refine answers_of (by simp; rfl) ?_; simp [h2]
      · simp [h2]
        refine pwp_draw 18 (by decide) ?_
        simp
        refine ⟨by decide, ?_⟩
        refine answers_of (by simp; rfl) ?_; simp [h2]
def firstK (p : Nat → Bool) : Nat → Int
  | 0 => -1
  | k + 1 => if p k = true ∧ firstK p k < 0 then k else firstK p k
def mayAt (l : List Cov) (s : List Snd) (k : Nat) : Bool := mayB (covAt l (sndAt s k).cove.toNat) (ofCove (s.take (k + 1)) (sndAt s k).cove)
def sureAt (l : List Cov) (s : List Snd) (k : Nat) : Bool := sureB (covAt l (sndAt s k).cove.toNat) (ofCove (s.take (k + 1)) (sndAt s k).cove)
theorem visits_ok {l : List Cov} {s : List Snd} (h : visitsB l s = true) (hn : s.length ≤ 60) : SndsOk s ∧ ∀ k, k < s.length → 0 ≤ (sndAt s k).cove ∧ (sndAt s k).cove.toNat < l.length := by
  have h1 := allN_spec.1 h
  simp only [visB, Bool.and_eq_true, inB_spec, spanB_spec] at h1
  refine ⟨⟨by omega, fun x hx => ?_⟩, fun k hk => by have := (h1 k hk).1.2; omega⟩
  obtain ⟨k, hk, rfl⟩ := List.mem_iff_getElem.1 hx
  have := h1 k hk
  rw [show sndAt s k = s[k] from by simp [sndAt, hk]] at this
  omega
theorem coves_ok {l : List Cov} (h : covesB l = true) : ∀ k, k < l.length → (covAt l k).closed.length ≤ 6 ∧ (1 ≤ (covAt l k).window ∧ (covAt l k).window ≤ 400) ∧ (0 ≤ (covAt l k).noise ∧ (covAt l k).noise ≤ 100000) ∧ 0 ≤ (covAt l k).visits ∧ (covAt l k).visits ≤ 60 := fun k hk => by
  have h1 := allN_spec.1 h k hk
  simp only [covB, Bool.and_eq_true, decide_eq_true_eq, inB_spec] at h1
  omega
end Go.Qg

namespace Go.Qg
open Go.Proofs
set_option maxRecDepth 100000
set_option linter.unusedSimpArgs false
set_option maxHeartbeats 4000000
attribute [local irreducible] pwp pops pdraw pop popCall pdCall thenP blockP scopeP pspec Spec answers ppost CallW
def quietB (l : List Cov) (s : List Snd) : Int := if 12 < l.length ∨ 60 < s.length then 3 else if (covesB l && visitsB l s) = true then 0 else 2
def quietRes (l : List Cov) (s : List Snd) : PV := if quietB l s = 0 then .tup [.v (.int .i64 (firstK (mayAt l s) s.length)), .v (.int .i64 (firstK (sureAt l s) s.length)), .v (.int .i64 0)] else .tup [.v (.int .i64 0), .v (.int .i64 0), .v (.int .i64 (quietB l s))]
theorem snocTake {l : List Snd} {k : Nat} (h : k < l.length) : l.take (k + 1) = l.take k ++ [sndAt l k] := by rw [List.take_add_one]; simp [sndAt, h]
theorem ofCove_pos {s : List Snd} {k : Nat} (h : k < s.length) : 0 < (ofCove (s.take (k + 1)) (sndAt s k).cove).length := by
  rw [snocTake h, ofCove_snoc, if_pos rfl]; simp
theorem cove_in {s : List Snd} {k : Nat} (h : k < s.length) : (sndAt s k).cove ∈ covesL (s.take (k + 1)) := covesL_mem.2 ⟨sndAt s k, by rw [snocTake h]; simp, rfl⟩
theorem dfind_in {d : List Int} {x : Int} (h : x ∈ d) : ∃ j, dfind d x 0 = some j ∧ j < d.length ∧ geti d j = x := by
  have h1 := dfind_mem (d := d) (x := x) (j := 0)
  cases hd : dfind d x 0 with
  | none => rw [hd] at h1; simp [h] at h1
  | some j =>
    obtain ⟨_, h2, h3⟩ := dfind_some hd
    exact ⟨j, rfl, by simpa using h2, by simp only [Nat.sub_zero] at h3; simp [geti, List.getD, h3]⟩
theorem sndAt_takeS {l : List Snd} {k i : Nat} (h : i < k) : sndAt (l.take k) i = sndAt l i := by
  simp only [sndAt, List.getD_eq_getElem?_getD, List.getElem?_take, if_pos h]
theorem sndL_same (s : List Snd) (k : Nat) (h : k ≤ s.length) : sameL [sndL (s.take k)] [.sl 4 k fun i => (sndAt s i).cells] :=
  ⟨.inr ⟨4, k, fun i => (sndAt (s.take k) i).cells, fun i => (sndAt s i).cells, by simp only [sndL, List.length_take, Nat.min_eq_left h], rfl, fun i hi => by simp only [sndAt_takeS hi]⟩, trivial⟩
theorem renL_sndTab (π : Nat → Nat) (n : Nat) (F : Nat → List Snd) : renL π (tab n fun j => sndL (F j)) = tab n fun j => sndL (F j) := by rw [renL_tab]; rfl
theorem Quiet_spec (l : List Cov) (s : List Snd) (hl : l.length ≤ 9223372036854775807) (hs : s.length ≤ 9223372036854775807) (hc : ∀ k, k < l.length → (covAt l k).closed.length ≤ 9223372036854775807) :
    Spec Try.prog 33 [covL l, sndL s] (quietRes l s) := by
  refine spec_of mixed Try.func33 (by decide) rfl Try.results33 Try.ntmps33 (by decide) 1 (by simp) ?_
  simp [covL, sndL]
  by_cases h1 : l.length ≤ 12
  · by_cases h2 : s.length ≤ 60
    · simp [show ¬ (12 : Int) < l.length from by omega, show (l.length : Int) ≤ 12 from by omega, show ¬ (60 : Int) < s.length from by omega, show (s.length : Int) ≤ 60 from by omega]
      refine pop_spec (coves_spec l hl hc) rfl false (.inl (by simp [covL])) (.inl rfl) rfl (by simp) ?_
      cases h3 : covesB l with
      | false =>
        simp
        refine answers_of (by simp; rfl) ?_; simp [quietRes, quietB, h3, Nat.not_lt.2 h1, Nat.not_lt.2 h2]
      | true =>
        simp
        refine pop_spec (visits_spec l s hl hs) rfl false (.inl (by simp [covL, sndL])) (.inl rfl) rfl (by simp) ?_
        cases h4 : visitsB l s with
        | false =>
          simp
          refine answers_of (by simp; rfl) ?_; simp [quietRes, quietB, h3, h4, Nat.not_lt.2 h1, Nat.not_lt.2 h2]
        | true =>
          obtain ⟨hok, hcv⟩ := visits_ok h4 h2
          have hco := coves_ok h3
          have hres : quietRes l s = .tup [.v (.int .i64 (firstK (mayAt l s) s.length)), .v (.int .i64 (firstK (sureAt l s) s.length)), .v (.int .i64 0)] := by simp [quietRes, quietB, h3, h4, Nat.not_lt.2 h1, Nat.not_lt.2 h2]
          rw [hres]
          simp
          refine pwp_loop (fun k : Nat => [(7, .v (.int .i64 (firstK (mayAt l s) k))), (8, .v (.int .i64 (firstK (sureAt l s) k))), (32, .v (.int .i64 k)), (47, .undef), (69, .undef)]) (fun k => k ≤ s.length) (fun k => s.length - k) 0 (Nat.zero_le _) (by simp; rfl) (by simp [firstK]) ?_
          intro k hk
          by_cases hkl : k < s.length
          · have wk := i64_wrap (show -9223372036854775808 ≤ (k : Int) + 1 ∧ _ from by omega)
            obtain ⟨c0, c1⟩ := hcv k hkl
            obtain ⟨j, hj1, hj2, hj3⟩ := dfind_in (cove_in hkl)
            have hfind := pkfind_ints (P := Try.prog) (t := 3) (by rfl) (covesL (s.take (k + 1))) (sndAt s k).cove 0
            rw [hj1] at hfind
            have hkey : pkeyOk Try.prog 3 (.v (.int .i64 (sndAt s k).cove)) = true := by simp [pkeyOk]
            have hheard := (heard_spec (s.take (k + 1)) (by simp; omega)).same (sndL_same s (k + 1) hkl)
            simp only [Snd.cells] at hheard
            have c2 : (sndAt s k).cove < (l.length : Int) := by omega
            have hcn : covesL (s.take (k + 1)) ≠ [] := fun e => by rw [e] at hj2; cases hj2
            have hbr := breaks_spec (covAt l (sndAt s k).cove.toNat) (ofCove (s.take (k + 1)) (sndAt s k).cove) (by have := hco _ c1; omega) (by have := hco _ c1; omega) (ofCove_pos hkl) ⟨Nat.le_trans (List.length_filter_le _ _) (by simp; omega), fun x hx => hok.each x (List.mem_of_mem_take (List.mem_filter.1 hx).1)⟩
            change Spec _ _ _ (.tup [.v (.bool (mayAt l s k)), .v (.bool (sureAt l s k))]) at hbr
            have hv : (tab (covesL (s.take (k + 1))).length fun j => sndL (ofCove (s.take (k + 1)) (geti (covesL (s.take (k + 1))) j)))[j]? = some (sndL (ofCove (s.take (k + 1)) (sndAt s k).cove)) := by rw [tab_get _ hj2, hj3]
            simp [hkl, Snd.cells, wk]
            refine pwp_draw 19 (by decide) ?_
            simp [c0, c2, Snd.cells, Cov.cells, wk, show (k : Int) + 1 ≤ s.length from by omega, show 0 ≤ (k : Int) + 1 from by omega, show ((k : Int) + 1).toNat = k + 1 from by omega]
            refine pd_call hheard [69] (by simp) (by simp) (by simp) (by simp [backOk]) (by simp) ?_
            simp [back, backV, placeAll, hkey, hfind, renL_sndTab, hv]
            simp only [sndL]
            simp
            refine pd_spec hbr (by simp [Cov.cells, sndL]) (by simp) (by simp [Cov.cells, spnL, sndL]) (by simp) ?_
            simp
            refine ⟨by decide, ?_⟩
            have f1 : firstK (mayAt l s) (k + 1) = if mayAt l s k = true ∧ firstK (mayAt l s) k < 0 then (k : Int) else firstK (mayAt l s) k := rfl
            have f2 : firstK (sureAt l s) (k + 1) = if sureAt l s k = true ∧ firstK (sureAt l s) k < 0 then (k : Int) else firstK (sureAt l s) k := rfl
            cases a1 : mayAt l s k <;> cases a2 : sureAt l s k
            · simp
              refine again_of (k + 1) (by omega) (by omega) ?_
              simp [wk, f1, f2, a1, a2]
            · by_cases a4 : firstK (sureAt l s) k < 0
              · simp [a4]
                refine again_of (k + 1) (by omega) (by omega) ?_
                simp [wk, f1, f2, a1, a2, a4]
              · simp [a4]
                refine again_of (k + 1) (by omega) (by omega) ?_
                simp [wk, f1, f2, a1, a2, a4]
            · by_cases a3 : firstK (mayAt l s) k < 0
              · simp [a3]
                refine again_of (k + 1) (by omega) (by omega) ?_
                simp [wk, f1, f2, a1, a2, a3]
              · simp [a3]
                refine again_of (k + 1) (by omega) (by omega) ?_
                simp [wk, f1, f2, a1, a2, a3]
            · by_cases a3 : firstK (mayAt l s) k < 0 <;> by_cases a4 : firstK (sureAt l s) k < 0
              · simp [a3, a4]
                refine again_of (k + 1) (by omega) (by omega) ?_
                simp [wk, f1, f2, a1, a2, a3, a4]
              · simp [a3, a4]
                refine again_of (k + 1) (by omega) (by omega) ?_
                simp [wk, f1, f2, a1, a2, a3, a4]
              · simp [a3, a4]
                refine again_of (k + 1) (by omega) (by omega) ?_
                simp [wk, f1, f2, a1, a2, a3, a4]
              · simp [a3, a4]
                refine again_of (k + 1) (by omega) (by omega) ?_
                simp [wk, f1, f2, a1, a2, a3, a4]
          · obtain rfl : k = s.length := by omega
            simp
            refine answers_of (by simp; rfl) ?_; simp
    · simp [show ¬ (12 : Int) < l.length from by omega, show (l.length : Int) ≤ 12 from by omega, show (60 : Int) < s.length from by omega, show ¬ (s.length : Int) ≤ 60 from by omega]
      refine answers_of (by simp; rfl) ?_; simp [quietRes, quietB, h2, Nat.not_le.1 h2]
  · simp [show (12 : Int) < l.length from by omega, show ¬ (l.length : Int) ≤ 12 from by omega]
    refine answers_of (by simp; rfl) ?_; simp [quietRes, quietB, h1, Nat.not_le.1 h1]
end Go.Qg

namespace Go.Qg
open Go.Proofs
set_option maxRecDepth 100000
set_option linter.unusedSimpArgs false
set_option maxHeartbeats 4000000
attribute [local irreducible] pwp pops pdraw pop popCall pdCall thenP blockP scopeP pspec Spec answers ppost CallW
theorem cloneSN_spec : Spec Try.prog 119 [.nil] .nil := by
  refine spec_of mixed Try.func119 (by decide) rfl Try.results119 Try.ntmps119 (by decide) 0 (by simp) ?_
  simp
  refine answers_of rfl ?_; simp
theorem cloneS_spec (l : List Snd) (h0 : 0 < l.length) (hl : l.length ≤ 1000000) : CallW Try.prog 119 [sndL l] [] (fun out => out = .ret (.own 0 1 0 l.length false) [.rows none 1 74 4 (rowsSo l)]) := by
  refine callW_of mixed Try.func119 (by decide) rfl (congrArg Array.toList Try.results119) Try.ntmps119 (by decide) 8 (by simp) (by decide) ?_
  simp [sndL, h0]
  simp [rowsSo_range, show l.length * 32 ≤ 140737488355328 from by omega, show l.length ≤ maxLen from by simp [maxLen]; omega]
  refine ends_of (.own 0 1 0 l.length false) [.rows none 1 74 4 (rowsSo l)] [5] rfl (by decide) ?_ ?_ rfl
  · simp
  · simp
def atTo (l : List Snd) (day : Int) : Nat → Nat
  | 0 => 0
  | k + 1 => if atTo l day k = k ∧ (sndAt l k).day ≤ day then k + 1 else atTo l day k
def atL (l : List Snd) (day : Int) : Nat := atTo l day l.length
def freeB (c : Cov) (l : List Snd) (x : Snd) : Bool := allN (l.length + 1) fun k => decide (k < atL l x.day) || !mayB c ((insL l (atL l x.day) x).take (k + 1))
theorem atTo_le (l : List Snd) (day : Int) : ∀ k, atTo l day k ≤ k
  | 0 => Nat.le_refl _
  | k + 1 => by
    have := atTo_le l day k
    simp only [atTo]; split <;> omega
theorem atTo_stop {l : List Snd} {day : Int} {k : Nat} (h1 : atTo l day k = k) (h2 : ¬ (sndAt l k).day ≤ day) : ∀ m, k ≤ m → atTo l day m = k
  | 0, hm => by obtain rfl : k = 0 := by omega
                exact h1
  | m + 1, hm => by
    by_cases he : k = m + 1
    · rw [← he]; exact h1
    · have := atTo_stop h1 h2 m (by omega)
      simp only [atTo]
      rw [this]
      split
      · rename_i hh
        obtain rfl := hh.1
        exact absurd hh.2 h2
      · rfl
def sndV (l : List Snd) : PV := if l = [] then .nil else sndL l
theorem one_same (x : Snd) : ∀ i, i < 1 → (sndAt [x] i).cells = x.cells := fun i hi => by
  obtain rfl : i = 0 := by omega
  rfl
theorem free_spec (c : Cov) (l : List Snd) (x : Snd) (hc : c.closed.length ≤ 9223372036854775807) (hw : 0 ≤ c.window ∧ c.window ≤ 400) (hl : l.length ≤ 100) (hok : SndsOk (x :: l)) : Spec Try.prog 89 [.agg c.cells, sndV l, .agg x.cells] (.v (.bool (freeB c l x))) := by
  by_cases hne : l = []
  · subst hne
    have hk : 0 ≤ ([] : List Snd).length := Nat.zero_le _
    have hinsert := insert_spec [] 0 x hk (by simp) 1 1 74
    have hatL : atL [] x.day = 0 := rfl
    refine spec_of mixed Try.func89 (by decide) rfl Try.results89 Try.ntmps89 (by decide) 1 (by simp) ?_
    simp [sndV, Cov.cells, spnL, Snd.cells]
    refine pwp_loop (fun _ : Nat => [(7, .v (.int .i64 0))]) (fun k => True) (fun k => 0) 0 trivial (by simp; rfl) (by simp) ?_
    intro _ _
    simp
    refine pwp_draw 14 (by decide) ?_
    simp
    refine ⟨by decide, ?_⟩
    refine pwp_draw 5 (by decide) ?_
    simp
    refine pd_spec cloneSN_spec (by simp) (by simp) (by simp) (by simp) ?_
    simp [show 1 ≤ maxLen from by simp [maxLen]]
    refine ⟨by decide, ?_⟩
    refine pop_callF [(29, .own 51 1 0 0 false), (51, .rows none 1 74 4 [])] (by simp) hinsert rfl [51, 32] false (by decide) ?_ (.inl ?_) ?_
    · simp [Snd.cells]
    · simp
    rintro out ⟨ep, rfl⟩
    refine ⟨[], ?_, by simp, ?_, ?_⟩
    · simp [backOk]
    · simp [back, backV, placeAll]
    simp [back, backV, placeAll]
    have eA : insL [] 0 x = [x] := rfl
    have hfree : freeB c [] x = !mayB c [x] := by
      simp only [freeB, hatL, eA]
      simp [allN, List.range_succ]
    refine pwp_loop (fun i : Nat => [(8, .sl 4 1 fun _ => x.cells), (9, .v (.int .i64 i)), (29, .undef), (32, .undef), (33, .undef), (51, .undef)]) (fun i => i = 0 ∨ i = 1 ∧ mayB c [x] = false) (fun i => 1 - i) 0 (.inl rfl) (by simp; rfl) ?_ ?_
    · simp [Snd.cells, eA, rowsSo]
    rintro i (rfl | ⟨rfl, hm⟩)
    · have hbr := (breaks_spec c [x] hc hw (by simp) ⟨by simp, fun s hs => hok.each s hs⟩).same (args' := [.agg c.cells, .sl 4 1 fun _ => x.cells]) ⟨.inl rfl, .inr ⟨4, 1, fun i => (sndAt [x] i).cells, fun _ => x.cells, rfl, rfl, one_same x⟩, trivial⟩
      simp only [Cov.cells, spnL, Snd.cells] at hbr
      simp
      refine pwp_draw 11 (by decide) ?_
      simp [Snd.cells]
      refine pd_spec hbr (by simp) (by simp) (by simp) (by simp) ?_
      simp
      refine ⟨by decide, ?_⟩
      cases hm : mayB c [x] with
      | true =>
        simp
        refine answers_of rfl ?_; simp [hfree, hm]
      | false =>
        simp
        refine again_of 1 (by simp) (by omega) ?_
        simp [Snd.cells]
    · simp
      refine answers_of rfl ?_; simp [hfree, hm]
  · have h0 : 0 < l.length := by cases l with | nil => exact absurd rfl hne | cons => simp
    refine spec_of mixed Try.func89 (by decide) rfl Try.results89 Try.ntmps89 (by decide) 1 (by simp) ?_
    simp [sndV, hne, sndL, Cov.cells, spnL, Snd.cells]
    refine pwp_loop (fun k : Nat => [(7, .v (.int .i64 k))]) (fun k => k ≤ l.length ∧ atTo l x.day k = k) (fun k => l.length - k) 0 ⟨Nat.zero_le _, rfl⟩ (by simp; rfl) (by simp) ?_
    intro k ⟨hk, hat⟩
    have wk := i64_wrap (show -9223372036854775808 ≤ (k : Int) + 1 ∧ _ from by omega)
    by_cases hgo : k < l.length ∧ (sndAt l k).day ≤ x.day
    · obtain ⟨g1, g2⟩ := hgo
      simp
      refine pwp_draw 14 (by decide) ?_
      simp [g1, g2]
      refine ⟨by decide, ?_⟩
      simp [wk]
      refine again_of (k + 1) ⟨g1, by simp [atTo, hat, g2]⟩ (by omega) ?_
      simp
    · have hatL : atL l x.day = k := by
        by_cases g1 : k < l.length
        · exact atTo_stop hat (fun g2 => hgo ⟨g1, g2⟩) _ hk
        · obtain rfl : k = l.length := by omega
          exact hat
      have hins : insL l (atL l x.day) x = insL l k x := by rw [hatL]
      have hclone := cloneS_spec l h0 (by omega)
      simp only [sndL, Snd.cells] at hclone
      have hinsert := insert_spec l k x hk (by omega) 1 1 74
      simp
      refine pwp_draw 14 (by decide) ?_
      have hside : (k < l.length ∧ ¬ (sndAt l k).day ≤ x.day) ∨ k = l.length := by omega
      rcases hside with ⟨g1, g2⟩ | g3
      · simp [g1, g2]
        refine ⟨by decide, ?_⟩
        refine pwp_draw 5 (by decide) ?_
        simp
        refine pd_call hclone [51] (by simp) (by simp) (by simp) (by simp [backOk]) (by simp) ?_
        simp [back, backV, placeAll]
        refine ⟨by decide, ?_⟩
        refine pop_callW hinsert rfl [51, 32] false (by decide) ?_ (.inl ?_) ?_
        · simp [Snd.cells]
        · simp
        rintro out ⟨ep, rfl⟩
        refine ⟨[], ?_, by simp, ?_, ?_⟩
        · simp [backOk]
        · simp [back, backV, placeAll]
        simp [back, backV, placeAll]
        have hA := insL_length l k x hk
        have hAok : SndsOk (insL l k x) := ⟨by rw [hA]; omega, fun s hs => hok.each s (by
          simp only [insL, List.mem_append, List.mem_singleton] at hs
          rcases hs with (hs | rfl) | hs
          · exact List.mem_cons_of_mem _ (List.mem_of_mem_take hs)
          · exact List.mem_cons_self
          · exact List.mem_cons_of_mem _ (List.mem_of_mem_drop hs))⟩
        have hfree : freeB c l x = allN (l.length + 1) fun j => decide (j < k) || !mayB c ((insL l k x).take (j + 1)) := by simp only [freeB, hatL]
        generalize insL l k x = A at hA hAok hfree
        refine pwp_loop (fun i : Nat => [(8, .sl 4 (l.length + 1) fun i => (sndAt A i).cells), (9, .v (.int .i64 i)), (29, .undef), (32, .undef), (33, .undef), (51, .undef)]) (fun i => k ≤ i ∧ i ≤ l.length + 1 ∧ ∀ j, k ≤ j → j < i → mayB c (A.take (j + 1)) = false) (fun i => l.length + 1 - i) k ⟨Nat.le_refl _, by omega, fun j h1 h2 => by omega⟩ (by simp; rfl) ?_ ?_
        · simp [Snd.cells]
          refine ⟨by omega, fun j hj => ?_⟩
          rw [rowsSo_get (by omega)]
          simp [Snd.cells]
        intro i ⟨hi1, hi2, hi3⟩
        by_cases hil : i < l.length + 1
        · have wi := i64_wrap (show -9223372036854775808 ≤ (i : Int) + 1 ∧ _ from by omega)
          have hbr := (breaks_spec c (A.take (i + 1)) hc hw (by simp; omega) ⟨by simp; omega, fun s hs => hAok.each s (List.mem_of_mem_take hs)⟩).same (args' := [.agg c.cells, .sl 4 (i + 1) fun i => (sndAt A i).cells]) ⟨.inl rfl, sndL_same A (i + 1) (by omega)⟩
          simp only [Cov.cells, spnL, Snd.cells] at hbr
          simp [show (i : Int) < (l.length : Int) + 1 from by omega]
          refine pwp_draw 11 (by decide) ?_
          simp [wi, Snd.cells, show (i : Int) ≤ l.length from by omega, show 0 ≤ (i : Int) + 1 from by omega, show ((i : Int) + 1).toNat = i + 1 from by omega]
          refine pd_spec hbr (by simp) (by simp) (by simp) (by simp) ?_
          simp
          refine ⟨by decide, ?_⟩
          cases hm : mayB c (A.take (i + 1)) with
          | true =>
            simp
            have : freeB c l x = false := by rw [hfree]; exact allN_false hil (by simp [hm, Nat.not_lt.2 hi1])
            refine answers_of rfl ?_; simp [this]
          | false =>
            simp [wi]
            refine again_of (i + 1) ⟨by omega, by omega, fun j h1 h2 => ?_⟩ (by omega) ?_
            · rcases Nat.lt_or_eq_of_le (Nat.le_of_lt_succ h2) with h | rfl
              · exact hi3 j h1 h
              · exact hm
            · simp [Snd.cells]
        · obtain rfl : i = l.length + 1 := by omega
          have : freeB c l x = true := by
            rw [hfree]
            refine allN_spec.2 fun j hj => ?_
            by_cases hjk : j < k
            · simp [hjk]
            · simp [hi3 j (by omega) hj]
          simp
          refine answers_of rfl ?_; simp [this]
      · simp [show ¬ k < l.length from by omega]
        refine ⟨by decide, ?_⟩
        refine pwp_draw 5 (by decide) ?_
        simp
        refine pd_call hclone [51] (by simp) (by simp) (by simp) (by simp [backOk]) (by simp) ?_
        simp [back, backV, placeAll]
        refine ⟨by decide, ?_⟩
        refine pop_callW hinsert rfl [51, 32] false (by decide) ?_ (.inl ?_) ?_
        · simp [Snd.cells]
        · simp
        rintro out ⟨ep, rfl⟩
        refine ⟨[], ?_, by simp, ?_, ?_⟩
        · simp [backOk]
        · simp [back, backV, placeAll]
        simp [back, backV, placeAll]
        have hA := insL_length l k x hk
        have hAok : SndsOk (insL l k x) := ⟨by rw [hA]; omega, fun s hs => hok.each s (by
          simp only [insL, List.mem_append, List.mem_singleton] at hs
          rcases hs with (hs | rfl) | hs
          · exact List.mem_cons_of_mem _ (List.mem_of_mem_take hs)
          · exact List.mem_cons_self
          · exact List.mem_cons_of_mem _ (List.mem_of_mem_drop hs))⟩
        have hfree : freeB c l x = allN (l.length + 1) fun j => decide (j < k) || !mayB c ((insL l k x).take (j + 1)) := by simp only [freeB, hatL]
        generalize insL l k x = A at hA hAok hfree
        refine pwp_loop (fun i : Nat => [(8, .sl 4 (l.length + 1) fun i => (sndAt A i).cells), (9, .v (.int .i64 i)), (29, .undef), (32, .undef), (33, .undef), (51, .undef)]) (fun i => k ≤ i ∧ i ≤ l.length + 1 ∧ ∀ j, k ≤ j → j < i → mayB c (A.take (j + 1)) = false) (fun i => l.length + 1 - i) k ⟨Nat.le_refl _, by omega, fun j h1 h2 => by omega⟩ (by simp; rfl) ?_ ?_
        · simp [Snd.cells]
          refine ⟨by omega, fun j hj => ?_⟩
          rw [rowsSo_get (by omega)]
          simp [Snd.cells]
        intro i ⟨hi1, hi2, hi3⟩
        by_cases hil : i < l.length + 1
        · have wi := i64_wrap (show -9223372036854775808 ≤ (i : Int) + 1 ∧ _ from by omega)
          have hbr := (breaks_spec c (A.take (i + 1)) hc hw (by simp; omega) ⟨by simp; omega, fun s hs => hAok.each s (List.mem_of_mem_take hs)⟩).same (args' := [.agg c.cells, .sl 4 (i + 1) fun i => (sndAt A i).cells]) ⟨.inl rfl, sndL_same A (i + 1) (by omega)⟩
          simp only [Cov.cells, spnL, Snd.cells] at hbr
          simp [show (i : Int) < (l.length : Int) + 1 from by omega]
          refine pwp_draw 11 (by decide) ?_
          simp [wi, Snd.cells, show (i : Int) ≤ l.length from by omega, show 0 ≤ (i : Int) + 1 from by omega, show ((i : Int) + 1).toNat = i + 1 from by omega]
          refine pd_spec hbr (by simp) (by simp) (by simp) (by simp) ?_
          simp
          refine ⟨by decide, ?_⟩
          cases hm : mayB c (A.take (i + 1)) with
          | true =>
            simp
            have : freeB c l x = false := by rw [hfree]; exact allN_false hil (by simp [hm, Nat.not_lt.2 hi1])
            refine answers_of rfl ?_; simp [this]
          | false =>
            simp [wi]
            refine again_of (i + 1) ⟨by omega, by omega, fun j h1 h2 => ?_⟩ (by omega) ?_
            · rcases Nat.lt_or_eq_of_le (Nat.le_of_lt_succ h2) with h | rfl
              · exact hi3 j h1 h
              · exact hm
            · simp [Snd.cells]
        · obtain rfl : i = l.length + 1 := by omega
          have : freeB c l x = true := by
            rw [hfree]
            refine allN_spec.2 fun j hj => ?_
            by_cases hjk : j < k
            · simp [hjk]
            · simp [hi3 j (by omega) hj]
          simp
          refine answers_of rfl ?_; simp [this]
end Go.Qg

namespace Go.Qg
open Go.Proofs
set_option maxRecDepth 100000
set_option linter.unusedSimpArgs false
set_option maxHeartbeats 4000000
attribute [local irreducible] pwp pops pdraw pop popCall pdCall thenP blockP scopeP pspec Spec answers ppost CallW
def spanStep (out : List Spn) (d : Int) : List Spn := if 0 < out.length ∧ (spnAt out (out.length - 1)).high = d - 1 then out.set (out.length - 1) ⟨(spnAt out (out.length - 1)).low, d⟩ else out ++ [⟨d, d⟩]
def spansTo (p : Nat → Bool) : Nat → List Spn
  | 0 => []
  | d + 1 => if p d = true then spanStep (spansTo p d) d else spansTo p d
theorem spansTo_length (p : Nat → Bool) : ∀ d, (spansTo p d).length ≤ d
  | 0 => Nat.le_refl _
  | d + 1 => by
    have := spansTo_length p d
    simp only [spansTo]
    split
    · unfold spanStep
      split
      · rw [List.length_set]; omega
      · simp; omega
    · omega
def freeP (l : List Cov) (s : List Snd) (cove : Int) (pt : Spn) (d : Nat) : Bool := freeB (covAt l cove.toNat) (ofCove s cove) ⟨d, cove, pt.low, pt.high⟩
def freeE (l : List Cov) (s : List Snd) (cove : Int) (pt : Spn) : Int := if 12 < l.length ∨ 60 ≤ s.length then 3 else if (covesB l && visitsB l s && inB cove 0 ((l.length : Int) - 1) && spanB pt 0 100000) = true then 0 else 2
def freeRes (l : List Cov) (s : List Snd) (cove : Int) (pt : Spn) : PV := .tup [spnL (if freeE l s cove pt = 0 then spansTo (freeP l s cove pt) 401 else []), .v (.int .i64 (freeE l s cove pt))]
theorem rowsSp_set2 (l : List Spn) (k : Nat) (a b : Int) : (rowsSp l).set k [.v (.int .i64 a), .v (.int .i64 b)] = rowsSp (l.set k ⟨a, b⟩) := by simp [rowsSp, List.map_set, Spn.cells]
theorem rowsSp_snoc2 (l : List Spn) (a b : Int) : rowsSp l ++ [[.v (.int .i64 a), .v (.int .i64 b)]] = rowsSp (l ++ [⟨a, b⟩]) := by simp [rowsSp, Spn.cells]
theorem Free_spec (l : List Cov) (s : List Snd) (cove : Int) (pt : Spn) (hl : l.length ≤ 9223372036854775807) (hs : s.length ≤ 9223372036854775807) (hc : ∀ k, k < l.length → (covAt l k).closed.length ≤ 9223372036854775807) :
    Spec Try.prog 36 [covL l, sndL s, .v (.int .i64 cove), .agg pt.cells] (freeRes l s cove pt) := by
  have w1 : IntKind.i64.wrap ((l.length : Int) - 1) = (l.length : Int) - 1 := i64_wrap (by omega)
  refine spec_of mixed Try.func36 (by decide) rfl Try.results36 Try.ntmps36 (by decide) 1 (by simp) ?_
  simp [covL, sndL, Spn.cells]
  by_cases h1 : l.length ≤ 12
  · by_cases h2 : s.length < 60
    · simp [show ¬ (12 : Int) < l.length from by omega, show (l.length : Int) ≤ 12 from by omega, show ¬ (60 : Int) ≤ s.length from by omega, show (s.length : Int) < 60 from by omega]
      refine pop_spec (coves_spec l hl hc) rfl false (.inl (by simp [covL])) (.inl rfl) rfl (by simp) ?_
      cases h3 : covesB l with
      | false =>
        simp
        refine answers_of (by simp; rfl) ?_; simp [freeRes, freeE, h3, Nat.not_lt.2 h1, Nat.not_le.2 h2, spnL]
      | true =>
        simp
        refine pop_spec (visits_spec l s hl hs) rfl false (.inl (by simp [covL, sndL])) (.inl rfl) rfl (by simp) ?_
        cases h4 : visitsB l s with
        | false =>
          simp
          refine answers_of (by simp; rfl) ?_; simp [freeRes, freeE, h3, h4, Nat.not_lt.2 h1, Nat.not_le.2 h2, spnL]
        | true =>
          simp [w1]
          refine pop_spec (cin_spec cove 0 ((l.length : Int) - 1)) rfl false (.inl (by simp)) (.inl rfl) rfl (by simp) ?_
          cases h5 : inB cove 0 ((l.length : Int) - 1) with
          | false =>
            simp
            refine answers_of (by simp; rfl) ?_; simp [freeRes, freeE, h3, h4, h5, Nat.not_lt.2 h1, Nat.not_le.2 h2, spnL]
          | true =>
            simp
            refine pop_spec (cspan_spec pt 0 100000) rfl false (.inl (by simp [Spn.cells])) (.inl rfl) rfl (by simp) ?_
            cases h6 : spanB pt 0 100000 with
            | false =>
              simp
              refine answers_of (by simp; rfl) ?_; simp [freeRes, freeE, h3, h4, h5, h6, Nat.not_lt.2 h1, Nat.not_le.2 h2, spnL]
            | true =>
              have hres : freeRes l s cove pt = .tup [spnL (spansTo (freeP l s cove pt) 401), .v (.int .i64 0)] := by simp [freeRes, freeE, h3, h4, h5, h6, Nat.not_lt.2 h1, Nat.not_le.2 h2]
              rw [hres]
              obtain ⟨hok, hcv⟩ := visits_ok h4 (by omega)
              have hco := coves_ok h3
              rw [inB_spec] at h5
              rw [spanB_spec] at h6
              have c1 : cove.toNat < l.length := by omega
              simp
              refine pwp_loop (fun d : Nat => [(10, .own 86 (spansTo (freeP l s cove pt) d).length 0 (spansTo (freeP l s cove pt) d).length false), (43, .v (.int .i64 d)), (51, .undef), (85, .undef), (86, .rows none (spansTo (freeP l s cove pt) d).length 60 2 (rowsSp (spansTo (freeP l s cove pt) d))), (89, .undef)]) (fun d => d ≤ 401) (fun d => 401 - d) 0 (Nat.zero_le _) (by simp; rfl) (by simp [spansTo]) ?_
              intro d hd
              by_cases hdl : d < 401
              · have wd := i64_wrap (show -9223372036854775808 ≤ (d : Int) + 1 ∧ _ from by omega)
                have hheard := heard_spec s (by omega)
                have hfree := free_spec (covAt l cove.toNat) (ofCove s cove) ⟨d, cove, pt.low, pt.high⟩ (by have := hco _ c1; omega) (by have := hco _ c1; omega) (Nat.le_trans (List.length_filter_le _ _) (by omega)) ⟨by have := List.length_filter_le (fun s : Snd => decide (s.cove = cove)) s; simp only [List.length_cons]; unfold ofCove; omega, fun x hx => by
                  rcases List.mem_cons.1 hx with rfl | hx
                  · simp only; omega
                  · exact hok.each x (List.mem_filter.1 hx).1⟩
                change Spec _ _ _ (.v (.bool (freeP l s cove pt d))) at hfree
                have hn := spansTo_length (freeP l s cove pt) d
                simp [show (d : Int) < 401 from by omega]
                refine pwp_draw 14 (by decide) ?_
                simp [show 0 ≤ cove from h5.1, show cove < (l.length : Int) from by omega, Cov.cells]
                refine pd_call hheard [89] (by simp [sndL]) (by simp) (by simp [sndL]) (by simp [backOk]) (by simp) ?_
                have hfind := pkfind_ints (P := Try.prog) (t := 3) (by rfl) (covesL s) cove 0
                have hkey : pkeyOk Try.prog 3 (.v (.int .i64 cove)) = true := by simp [pkeyOk]
                cases hdf : dfind (covesL s) cove 0 with
                | none =>
                  rw [hdf] at hfind
                  have hno : cove ∉ covesL s := by
                    have := dfind_mem (d := covesL s) (x := cove) (j := 0)
                    rw [hdf] at this
                    simpa using this.symm
                  have hv : ofCove s cove = [] := ofCove_none hno
                  simp [back, backV, placeAll, hkey, hfind, renL_sndTab]
                  refine pd_spec hfree (by simp [sndV, hv, Cov.cells, Snd.cells, sndL]) (by simp) (by simp [sndV, hv, Cov.cells, spnL, Snd.cells, sndL]) rfl ?_
                  have st : spansTo (freeP l s cove pt) (d + 1) = if freeP l s cove pt d = true then spanStep (spansTo (freeP l s cove pt) d) d else spansTo (freeP l s cove pt) d := rfl
                  cases hp : freeP l s cove pt d with
                  | false =>
                    rw [hp, if_neg (by simp)] at st
                    simp
                    refine ⟨by decide, ?_⟩
                    simp [wd]
                    refine again_of (d + 1) (by omega) (by omega) ?_
                    simp [st]
                  | true =>
                    rw [hp, if_pos rfl] at st
                    simp
                    refine ⟨by decide, ?_⟩
                    generalize spansTo (freeP l s cove pt) d = out at hn st
                    have hne : ∀ n : Nat, n + 1 ≤ 402 → (n + 1) * 16 ≤ 140737488355328 ∧ n + 1 ≤ maxLen := fun n h => ⟨by omega, by simp only [maxLen]; omega⟩
                    have hb := hne out.length (by omega)
                    by_cases h0 : 0 < out.length
                    · have e1 : IntKind.i64.wrap ((out.length : Int) - 1) = ((out.length - 1 : Nat) : Int) := by rw [i64_wrap (by omega)]; omega
                      have ed : IntKind.i64.wrap ((d : Int) - 1) = (d : Int) - 1 := i64_wrap (by omega)
                      have hrow := rowsSp_get (show out.length - 1 < out.length from by omega)
                      have hlt : out.length - 1 < out.length := by omega
                      by_cases hh : (spnAt out (out.length - 1)).high = (d : Int) - 1
                      · have hs : spanStep out d = out.set (out.length - 1) ⟨(spnAt out (out.length - 1)).low, d⟩ := if_pos ⟨h0, hh⟩
                        rw [hs] at st
                        simp [h0, e1, ed, hrow, Spn.cells, hh, hlt, setRange]
                        refine again_of (d + 1) (by omega) (by omega) ?_
                        simp [st, wd, rowsSp_set2, rowsSp_snoc2, List.length_set]
                      · have hs : spanStep out d = out ++ [⟨d, d⟩] := if_neg fun h => hh h.2
                        rw [hs] at st
                        simp [h0, e1, ed, hrow, Spn.cells, hh, hlt, hb.1, hb.2]
                        refine again_of (d + 1) (by omega) (by omega) ?_
                        simp [st, wd, rowsSp_set2, rowsSp_snoc2, List.length_set]
                    · have hs : spanStep out d = out ++ [⟨d, d⟩] := if_neg fun h => h0 h.1
                      obtain rfl : out = [] := List.eq_nil_of_length_eq_zero (by omega)
                      rw [hs] at st
                      simp [show 1 ≤ maxLen from by simp [maxLen]]
                      refine again_of (d + 1) (by omega) (by omega) ?_
                      simp [st, wd, rowsSp, Spn.cells]
                | some j =>
                  rw [hdf] at hfind
                  obtain ⟨_, hj1, hj2⟩ := dfind_some hdf
                  simp only [Nat.sub_zero] at hj1 hj2
                  have hg : geti (covesL s) j = cove := by simp [geti, List.getD, hj2]
                  have hv : ¬ ofCove s cove = [] := fun e => by
                    obtain ⟨x, hx, he⟩ := covesL_mem.1 (List.mem_of_getElem? hj2)
                    have : x ∈ ofCove s cove := List.mem_filter.2 ⟨hx, by simpa using he⟩
                    rw [e] at this; cases this
                  have hval : (tab (covesL s).length fun j => sndL (ofCove s (geti (covesL s) j)))[j]? = some (sndL (ofCove s cove)) := by rw [tab_get _ hj1, hg]
                  simp [back, backV, placeAll, hkey, hfind, renL_sndTab, hval]
                  simp only [sndL]
                  simp [back, backV, placeAll, Spn.cells, wd]
                  refine pd_spec hfree (by simp [sndV, hv, Cov.cells, Snd.cells, sndL]) (by simp) (by simp [sndV, hv, Cov.cells, spnL, Snd.cells, sndL]) rfl ?_
                  have st : spansTo (freeP l s cove pt) (d + 1) = if freeP l s cove pt d = true then spanStep (spansTo (freeP l s cove pt) d) d else spansTo (freeP l s cove pt) d := rfl
                  cases hp : freeP l s cove pt d with
                  | false =>
                    rw [hp, if_neg (by simp)] at st
                    simp
                    refine ⟨by decide, ?_⟩
                    simp [wd]
                    refine again_of (d + 1) (by omega) (by omega) ?_
                    simp [st]
                  | true =>
                    rw [hp, if_pos rfl] at st
                    simp
                    refine ⟨by decide, ?_⟩
                    generalize spansTo (freeP l s cove pt) d = out at hn st
                    have hne : ∀ n : Nat, n + 1 ≤ 402 → (n + 1) * 16 ≤ 140737488355328 ∧ n + 1 ≤ maxLen := fun n h => ⟨by omega, by simp only [maxLen]; omega⟩
                    have hb := hne out.length (by omega)
                    by_cases h0 : 0 < out.length
                    · have e1 : IntKind.i64.wrap ((out.length : Int) - 1) = ((out.length - 1 : Nat) : Int) := by rw [i64_wrap (by omega)]; omega
                      have ed : IntKind.i64.wrap ((d : Int) - 1) = (d : Int) - 1 := i64_wrap (by omega)
                      have hrow := rowsSp_get (show out.length - 1 < out.length from by omega)
                      have hlt : out.length - 1 < out.length := by omega
                      by_cases hh : (spnAt out (out.length - 1)).high = (d : Int) - 1
                      · have hs : spanStep out d = out.set (out.length - 1) ⟨(spnAt out (out.length - 1)).low, d⟩ := if_pos ⟨h0, hh⟩
                        rw [hs] at st
                        simp [h0, e1, ed, hrow, Spn.cells, hh, hlt, setRange]
                        refine again_of (d + 1) (by omega) (by omega) ?_
                        simp [st, wd, rowsSp_set2, rowsSp_snoc2, List.length_set]
                      · have hs : spanStep out d = out ++ [⟨d, d⟩] := if_neg fun h => hh h.2
                        rw [hs] at st
                        simp [h0, e1, ed, hrow, Spn.cells, hh, hlt, hb.1, hb.2]
                        refine again_of (d + 1) (by omega) (by omega) ?_
                        simp [st, wd, rowsSp_set2, rowsSp_snoc2, List.length_set]
                    · have hs : spanStep out d = out ++ [⟨d, d⟩] := if_neg fun h => h0 h.1
                      obtain rfl : out = [] := List.eq_nil_of_length_eq_zero (by omega)
                      rw [hs] at st
                      simp [show 1 ≤ maxLen from by simp [maxLen]]
                      refine again_of (d + 1) (by omega) (by omega) ?_
                      simp [st, wd, rowsSp, Spn.cells]
              · obtain rfl : d = 401 := by omega
                simp
                refine answers_of (by simp; rfl) ?_
                simp [spnL]
                intro k hk
                rw [rowsSp_get hk]
                simp [Spn.cells]
    · simp [show ¬ (12 : Int) < l.length from by omega, show (l.length : Int) ≤ 12 from by omega, show (60 : Int) ≤ s.length from by omega, show ¬ (s.length : Int) < 60 from by omega]
      refine answers_of (by simp; rfl) ?_; simp [freeRes, freeE, h2, Nat.not_lt.1 h2, spnL]
  · simp [show (12 : Int) < l.length from by omega, show ¬ (l.length : Int) ≤ 12 from by omega]
    refine answers_of (by simp; rfl) ?_; simp [freeRes, freeE, h1, Nat.not_le.1 h1, spnL]
end Go.Qg

namespace Go.Qg
open Go.Proofs
set_option maxRecDepth 100000
set_option maxHeartbeats 4000000
attribute [local irreducible] pwp pops pdraw pop popCall pdCall thenP blockP scopeP pspec Spec answers ppost CallW
@[simp] theorem pmeth_push : pmeth Try.prog 142 "windsock/cache.push" = some 145 := by kernel_rfl
@[simp] theorem pmeth_pop : pmeth Try.prog 142 "windsock/cache.pop" = some 144 := by kernel_rfl
def soonW (l : List Brl) (ep : Nat) (w : List Int) (n : Nat) : PF := [.box false [brlL l, .own 1 ep 0 n false], .rows none ep 3 1 (rowsI w)]
abbrev soonH (l : List Brl) (ep : Nat) (o : List Int) : PF := soonW l ep o o.length
theorem ahead_spec (l : List Brl) (ep : Nat) (o : List Int) (n i k : Nat) (hn : n ≤ o.length) (hi : i < n) (hk : k < n) (he : ∀ j, j < n → 0 ≤ geti o j ∧ geti o j < (l.length : Int)) (hl : l.length ≤ 1000) :
    CallW Try.prog 146 [.ref 0 0, .v (.int .i64 i), .v (.int .i64 k)] (soonW l ep o n) (fun out => out = .ret (.v (.bool (decide (keyB l (geti o i) < keyB l (geti o k))))) (soonW l ep o n)) := by
  have h1 := he i hi
  have h2 := he k hk
  have hi' : i < o.length := by omega
  have hk' : k < o.length := by omega
  have hkey := keyB_lt (bs := l) (a := geti o i) (b := geti o k) (by omega) (by omega)
  refine callW_of mixed Try.func146 (by decide) rfl (congrArg Array.toList Try.results146) Try.ntmps146 (by decide) 54 (by simp) (by decide) ?_
  simp [soonW, brlL]
  refine pwp_draw 16 (by decide) ?_
  simp [hi, hk, hi', hk', rowsI_get hi', rowsI_get hk']
  refine ⟨by decide, ?_⟩
  generalize geti o i = a at *
  generalize geti o k = b at *
  refine pwp_draw 18 (by decide) ?_
  simp [h1, h2, show a.toNat < l.length from by omega, show b.toNat < l.length from by omega, Brl.cells]
  refine ⟨by decide, ?_⟩
  by_cases c1 : (brlAt l a.toNat).til < (brlAt l b.toNat).til
  · simp [c1, Int.not_le.2 c1]
    refine ends_of (.v (.bool true)) (soonW l ep o n) [] rfl (by decide) ?_ ?_ (by simp [hkey, c1, soonW, brlL, Brl.cells])
    · simp [soonW, brlL, Brl.cells]
    · simp
  · by_cases c2 : (brlAt l a.toNat).til = (brlAt l b.toNat).til
    · by_cases c3 : a < b
      · simp [c1, c2, c3]
        refine ends_of (.v (.bool true)) (soonW l ep o n) [] rfl (by decide) ?_ ?_ (by simp [hkey, c1, c2, c3, soonW, brlL, Brl.cells])
        · simp [soonW, brlL, Brl.cells]
        · simp
      · simp [c1, c2, c3, Int.not_lt.1 c3]
        refine ends_of (.v (.bool false)) (soonW l ep o n) [] rfl (by decide) ?_ ?_ (by simp [hkey, c1, c2, c3, soonW, brlL, Brl.cells])
        · simp [soonW, brlL, Brl.cells]
        · simp
    · simp [c1, c2, Int.not_lt.1 c1]
      refine ends_of (.v (.bool false)) (soonW l ep o n) [] rfl (by decide) ?_ ?_ (by simp [hkey, c1, c2, soonW, brlL, Brl.cells])
      · simp [soonW, brlL, Brl.cells]
      · simp
theorem up_fuel (key : Int → Int) : ∀ (f g : Nat) (l : List Int) (i : Nat), i ≤ f → i ≤ g → up key f l i = up key g l i
  | 0, 0, l, i, _, _ => rfl
  | 0, g + 1, l, i, h1, h2 => by obtain rfl : i = 0 := by omega
                                 simp [up]
  | f + 1, 0, l, i, h1, h2 => by obtain rfl : i = 0 := by omega
                                 simp [up]
  | f + 1, g + 1, l, i, h1, h2 => by
    simp only [up]
    split
    · exact up_fuel key f g _ _ (by omega) (by omega)
    · rfl
theorem swap_rows (o : List Int) (i k : Nat) : ((rowsI o).set i [.v (.int .i64 (geti o k))]).set k [.v (.int .i64 (geti o i))] = rowsI (swapL o i k) := by
  rw [rowsI_set, rowsI_set]; rfl
theorem swap_mem {o : List Int} {i k : Nat} {P : Int → Prop} (hi : i < o.length) (hk : k < o.length) (h : ∀ x ∈ o, P x) : ∀ x ∈ swapL o i k, P x := fun x hx => h x ((swapL_perm hi hk).mem_iff.1 hx)
theorem geti_all {o : List Int} {P : Int → Prop} (h : ∀ x ∈ o, P x) (j : Nat) (hj : j < o.length) : P (geti o j) := by
  rw [show geti o j = o[j] from by simp [geti, hj]]; exact h _ (List.getElem_mem hj)
theorem heapPush_spec (l : List Brl) (ep : Nat) (o : List Int) (b : Int) (he : ∀ x ∈ o, 0 ≤ x ∧ x < (l.length : Int)) (hb : 0 ≤ b ∧ b < (l.length : Int)) (hl : l.length ≤ 1000) (ho : o.length ≤ 1000) :
    CallW Try.prog 145 [.ref 0 0, .v (.int .i64 b)] (soonH l ep o) (fun out => ∃ ep', out = .ret (.tup []) (soonH l ep' (pushL (keyB l) o b))) := by
  refine callW_of mixed Try.func145 (by decide) rfl (congrArg Array.toList Try.results145) Try.ntmps145 (by decide) 64 (by simp) (by decide) ?_
  simp [soonW, brlL, rowsI_snoc, show (o.length + 1) * 8 ≤ 140737488355328 from by omega, show o.length + 1 ≤ maxLen from by simp [maxLen]; omega]
  refine pwp_loop (fun s : Nat × List Int => [(4, .v (.int .i64 s.1)), (9, .undef), (64, .box false [brlL l, .own 65 (ep + 1) 0 s.2.length false]), (65, .rows none (ep + 1) 3 1 (rowsI s.2))]) (fun s => s.1 < s.2.length ∧ s.2.length = o.length + 1 ∧ (∀ x ∈ s.2, 0 ≤ x ∧ x < (l.length : Int)) ∧ up (keyB l) s.1 s.2 s.1 = pushL (keyB l) o b) (fun s => s.1) (o.length, o ++ [b]) ?_ (by simp; rfl) ?_ ?_
  · refine ⟨by simp, by simp, ?_, rfl⟩
    intro x hx
    rcases List.mem_append.1 hx with h | h
    · exact he x h
    · obtain rfl : x = b := by simpa using h
      exact hb
  · simp [brlL, i64_wrap (show -9223372036854775808 ≤ (o.length : Int) ∧ _ from by omega)]
    rintro x (⟨a, _, rfl⟩ | rfl) y hy <;> (obtain rfl := List.mem_singleton.1 hy; rfl)
  · intro s ⟨h1, h2, h3, h4⟩
    obtain ⟨i, s⟩ := s
    simp only at h1 h2 h3 h4 ⊢
    obtain ⟨k, hk⟩ : ∃ k, k = (i - 1) / 2 := ⟨_, rfl⟩
    by_cases h5 : 0 < i
    · have hki : k < s.length := by omega
      have hc := ahead_spec l (ep + 1) s s.length i k (Nat.le_refl _) h1 hki (geti_all h3) hl
      have hq : IntKind.i64.wrap (((i : Int) - 1).tdiv 2) = (k : Int) := by
        rw [Int.tdiv_eq_ediv_of_nonneg (by omega), i64_wrap (by omega)]; omega
      have es : (s.set i (geti s k)).set k (geti s i) = swapL s i k := rfl
      have hu : up (keyB l) i s i = up (keyB l) (i - 1 + 1) s i := by congr 1; omega
      rw [hu, up, ← hk] at h4
      have eg : ∀ k, geti s k = hat s k := fun k => rfl
      rw [← eg, ← eg] at h4
      simp [brlL, h5, i64_wrap (show -9223372036854775808 ≤ (i : Int) - 1 ∧ _ from by omega), hq]
      refine pop_callW hc rfl [64, 65] false (by decide) ?_ (.inl ?_) ?_
      · simp [soonW, brlL]
      · simp
      · rintro out rfl
        refine ⟨[], ?_, .inl rfl, ?_, ?_⟩
        · simp [soonW, brlL, backOk]
        · simp [soonW, brlL, back, backV, placeAll]
        · by_cases h6 : keyB l (geti s i) < keyB l (geti s k)
          · rw [if_pos ⟨h5, h6⟩] at h4
            simp [soonW, brlL, back, backV, placeAll, h6]
            refine pwp_draw 32 (by decide) ?_
            simp [h1, hki, rowsI_get h1, rowsI_get hki, rowsI_set, es, hq, h5, i64_wrap (show -9223372036854775808 ≤ (i : Int) - 1 ∧ _ from by omega)]
            refine ⟨by decide, ?_⟩
            refine again_of (k, swapL s i k) ⟨by simp [swapL_length]; omega, by simp [swapL_length]; omega, swap_mem h1 hki h3, ?_⟩ (by simp; omega) ?_
            · rw [← h4]
              exact up_fuel _ _ _ _ _ (by omega) (by omega)
            · simp [brlL, swapL_length]
          · rw [if_neg (fun h => h6 h.2)] at h4
            simp [soonW, brlL, back, backV, placeAll, h6, Int.not_lt.1 h6]
            refine ends_n (.tup []) (soonH l (ep + 1) s) [] rfl (by decide) ?_ ?_ ⟨ep + 1, by rw [h4]; simp [soonW, brlL]⟩
            · simp [soonW, brlL]
            · simp
    · obtain rfl : i = 0 := by omega
      rw [up] at h4
      simp [brlL]
      refine ends_n (.tup []) (soonH l (ep + 1) s) [] rfl (by decide) ?_ ?_ ⟨ep + 1, by rw [h4]; simp [soonW, brlL]⟩
      · simp [soonW, brlL]
      · simp
theorem least1_cases (key : Int → Int) (l : List Int) (n i : Nat) : least1 key l n i = i ∨ (least1 key l n i = 2 * i + 1 ∧ 2 * i + 1 < n) := by
  unfold least1; split
  · rename_i h; exact .inr ⟨rfl, h.1⟩
  · exact .inl rfl
theorem least2_cases (key : Int → Int) (l : List Int) (n i : Nat) : least2 key l n i = i ∨ (i < least2 key l n i ∧ least2 key l n i < n) := by
  unfold least2; split
  · rename_i h; exact .inr ⟨by omega, h.1⟩
  · rcases least1_cases key l n i with h | h
    · exact .inl h
    · exact .inr ⟨by omega, by omega⟩
theorem heapPop_spec (l : List Brl) (ep : Nat) (o z : List Int) (he : ∀ x ∈ o, 0 ≤ x ∧ x < (l.length : Int)) (hl : l.length ≤ 1000) (ho : o.length ≤ 1000) :
    CallW Try.prog 144 [.ref 0 0] (soonW l ep (o ++ z) o.length) (fun out => if o = [] then out = .ret (.tup [.v (.int .i64 0), .v (.bool false)]) (soonW l ep (o ++ z) o.length) else ∃ z', out = .ret (.tup [.v (.int .i64 (geti o 0)), .v (.bool true)]) (soonW l ep (popL (keyB l) o ++ z') (popL (keyB l) o).length)) := by
  refine callW_of mixed Try.func144 (by decide) rfl (congrArg Array.toList Try.results144) Try.ntmps144 (by decide) 96 (by simp) (by decide) ?_
  by_cases h0 : o = []
  · subst h0
    simp [soonW, brlL]
    refine ends_of (.tup [.v (.int .i64 0), .v (.bool false)]) (soonW l ep z 0) [] rfl (by decide) ?_ ?_ (by simp [soonW, brlL])
    · simp [soonW, brlL]
    · simp
  · have hp : 0 < o.length := List.length_pos_iff.2 h0
    obtain ⟨n, hn⟩ : ∃ n, o.length = n + 1 := ⟨o.length - 1, by omega⟩
    have e1 : IntKind.i64.wrap (n : Int) = (n : Int) := i64_wrap (by omega)
    have e2 : ¬ (n : Int) < 0 := by omega
    have e3 : 0 < (o ++ z).length := by simp; omega
    have e4 : n < (o ++ z).length := by simp; omega
    have e5 : geti (o ++ z) 0 = geti o 0 := by simp [geti, List.getD_eq_getElem?_getD, List.getElem?_append, hp]
    have e6 : geti (o ++ z) n = geti o n := by simp [geti, List.getD_eq_getElem?_getD, List.getElem?_append, hn]
    simp only [soonW, hn, h0]
    simp [brlL, e1, e2]
    simp [rowsI_get e3, e5]
    refine pwp_draw 13 (by decide) ?_
    simp [rowsI_get e4, e6, show n < o.length + z.length from by omega, show 0 < o.length + z.length from by omega, rowsI_set, show (n : Int) < n + 1 from by omega, show (0 : Int) < (n : Int) + 1 from by omega]
    refine ⟨by decide, ?_⟩
    obtain ⟨s0, hs0⟩ : ∃ s0, s0 = (o.set 0 (geti o n)).take n := ⟨_, rfl⟩
    obtain ⟨z', hz'⟩ : ∃ z', z' = (o.set 0 (geti o n)).drop n ++ z := ⟨_, rfl⟩
    have hw : (o ++ z).set 0 (geti o n) = s0 ++ z' := by
      rw [hs0, hz', ← List.append_assoc, List.take_append_drop, List.set_append_left (s := o) _ _ hp]
    have hl0 : s0.length = n := by rw [hs0]; simp; omega
    have hm0 : ∀ x ∈ s0, 0 ≤ x ∧ x < (l.length : Int) := by
      intro x hx
      rw [hs0] at hx
      rcases List.mem_or_eq_of_mem_set (List.mem_of_mem_take hx) with h | h
      · exact he x h
      · rw [h]; exact geti_all (P := fun x => 0 ≤ x ∧ x < (l.length : Int)) he n (by omega)
    have hpop : down (keyB l) n (n + 1) s0 0 = popL (keyB l) o := by
      unfold popL; rw [hs0, hn]; rfl
    rw [hw]
    simp [show (n : Int) ≤ (n : Int) + 1 from by omega]
    refine pwp_loop (fun s : Nat × List Int × Nat => [(6, .v (.int .i64 s.1)), (97, .rows none ep 3 1 (rowsI (s.2.1 ++ z')))]) (fun s => (s.1 < n ∨ s.1 = 0) ∧ s.2.1.length = n ∧ (∀ x ∈ s.2.1, 0 ≤ x ∧ x < (l.length : Int)) ∧ n < s.2.2 + s.1 ∧ down (keyB l) n s.2.2 s.2.1 s.1 = popL (keyB l) o) (fun s => s.2.2) (0, s0, n + 1) ⟨.inr rfl, hl0, hm0, by simp, hpop⟩ (by simp; rfl) ?_ ?_
    · simp [brlL]
    · rintro ⟨i, s, f⟩ ⟨h1, h2, h3, h4, h5⟩
      simp only at h1 h2 h3 h4 h5 ⊢
      obtain ⟨f, rfl⟩ : ∃ f', f = f' + 1 := ⟨f - 1, by omega⟩
      rw [down] at h5
      have hi : i ≤ 1000 := by omega
      simp [brlL, i64_wrap (show -9223372036854775808 ≤ 2 * (i : Int) ∧ _ from by omega), i64_wrap (show -9223372036854775808 ≤ 2 * (i : Int) + 1 ∧ _ from by omega)]
      refine pwp_loop (fun t : Nat × Nat => [(7, .v (.int .i64 t.2)), (8, .v (.int .i64 t.1))]) (fun t => t = (2 * i + 1, i) ∨ (t = (2 * i + 2, least1 (keyB l) s n i) ∧ 2 * i + 1 < n) ∨ (t = (2 * i + 3, least2 (keyB l) s n i) ∧ 2 * i + 2 < n)) (fun t => 2 * i + 3 - t.1) (2 * i + 1, i) (.inl rfl) (by simp; rfl) (by simp [brlL]) ?_
      rintro ⟨c, m⟩ ht
      simp only at ht ⊢
      have hc3 : c ≤ 2 * i + 3 := by rcases ht with h | ⟨h, _⟩ | ⟨h, _⟩ <;> (simp at h; omega)
      have hmn : c < n → m < n := by
        intro hcn
        rcases ht with h | ⟨h, _⟩ | ⟨h, _⟩ <;> simp at h
        · omega
        · have := least1_cases (keyB l) s n i; omega
        · have := least2_cases (keyB l) s n i; omega
      simp [brlL, i64_wrap (show -9223372036854775808 ≤ 2 * (i : Int) ∧ _ from by omega), i64_wrap (show -9223372036854775808 ≤ 2 * (i : Int) + 2 ∧ _ from by omega)]
      by_cases c1 : c ≤ 2 * i + 2 ∧ c < n
      · have hca := ahead_spec l ep (s ++ z') n c m (by simp; omega) c1.2 (hmn c1.2) (fun j hj => by
          rw [show geti (s ++ z') j = geti s j from by simp [geti, List.getD_eq_getElem?_getD, List.getElem?_append, h2, hj]]
          exact geti_all (P := fun x => 0 ≤ x ∧ x < (l.length : Int)) h3 j (by omega)) hl
        simp [show (c : Int) ≤ 2 * (i : Int) + 2 from by omega, c1.2]
        have g1 : ∀ j, j < n → geti (s ++ z') j = hat s j := fun j hj => by simp [geti, hat, List.getD_eq_getElem?_getD, List.getElem?_append, h2, hj]
        rw [g1 c c1.2, g1 m (hmn c1.2)] at hca
        have hstep : (if keyB l (hat s c) < keyB l (hat s m) then ((c + 1, c) : Nat × Nat) else (c + 1, m)) = (2 * i + 1, i) ∨ ((if keyB l (hat s c) < keyB l (hat s m) then ((c + 1, c) : Nat × Nat) else (c + 1, m)) = (2 * i + 2, least1 (keyB l) s n i) ∧ 2 * i + 1 < n) ∨ ((if keyB l (hat s c) < keyB l (hat s m) then ((c + 1, c) : Nat × Nat) else (c + 1, m)) = (2 * i + 3, least2 (keyB l) s n i) ∧ 2 * i + 2 < n) := by
          rcases ht with h | ⟨h, h'⟩ | ⟨h, h'⟩ <;> simp at h
          · obtain ⟨rfl, rfl⟩ := h
            refine .inr (.inl ⟨?_, c1.2⟩)
            unfold least1
            by_cases q : keyB l (hat s (2 * m + 1)) < keyB l (hat s m)
            · rw [if_pos q, if_pos ⟨c1.2, q⟩]
            · rw [if_neg q, if_neg (fun h => q h.2)]
          · obtain ⟨rfl, rfl⟩ := h
            refine .inr (.inr ⟨?_, c1.2⟩)
            unfold least2
            by_cases q : keyB l (hat s (2 * i + 2)) < keyB l (hat s (least1 (keyB l) s n i))
            · rw [if_pos q, if_pos ⟨c1.2, q⟩]
            · rw [if_neg q, if_neg (fun h => q h.2)]
          · omega
        refine pop_callW hca rfl [96, 97] false (by decide) ?_ (.inl ?_) ?_
        · simp [soonW, brlL]
        · simp
        · rintro out rfl
          refine ⟨[], ?_, .inl rfl, ?_, ?_⟩
          · simp [soonW, brlL, backOk]
          · simp [soonW, brlL, back, backV, placeAll]
          · by_cases q : keyB l (hat s c) < keyB l (hat s m)
            · rw [if_pos q] at hstep
              have q' : keyB l (geti s c) < keyB l (geti s m) := q
              simp [soonW, brlL, back, backV, placeAll, q']
              refine again_of (c + 1, c) hstep (by omega) ?_
              simp [brlL, i64_wrap (show -9223372036854775808 ≤ (c : Int) + 1 ∧ _ from by omega)]
            · rw [if_neg q] at hstep
              have q' : ¬ keyB l (geti s c) < keyB l (geti s m) := q
              simp [soonW, brlL, back, backV, placeAll, q', Int.not_lt.1 q']
              refine again_of (c + 1, m) hstep (by omega) ?_
              simp [brlL, i64_wrap (show -9223372036854775808 ≤ (c : Int) + 1 ∧ _ from by omega)]
      · have hml : m = least2 (keyB l) s n i := by
          rcases ht with h | ⟨h, h'⟩ | ⟨h, h'⟩ <;> simp at h
          · have q1 : ¬ (2 * i + 1 < n) := by omega
            have q2 : ¬ (2 * i + 2 < n) := by omega
            simp [least2, least1, q1, q2, h.2]
          · have q2 : ¬ (2 * i + 2 < n) := by omega
            simp [least2, q2, h.2]
          · exact h.2
        by_cases q : (c : Int) ≤ 2 * (i : Int) + 2
        · simp [q, show ¬ c < n from fun h => c1 ⟨by omega, h⟩, show n ≤ c from by omega]
          by_cases q2 : m = i
          · rw [← hml, if_pos q2] at h5
            simp [q2]
            refine ends_of (.tup [.v (.int .i64 (geti o 0)), .v (.bool true)]) (soonW l ep (s ++ z') n) [] rfl (by decide) ?_ ?_ ⟨z', by rw [← h5]; simp [soonW, brlL, h2]⟩
            · simp [soonW, brlL]
            · simp
          · rw [← hml, if_neg q2] at h5
            have hlm := least2_cases (keyB l) s n i
            rw [← hml] at hlm
            have b1 : i < (s ++ z').length := by simp; omega
            have b2 : m < (s ++ z').length := by simp; omega
            have hsw : ((s ++ z').set i (geti (s ++ z') m)).set m (geti (s ++ z') i) = swapL s i m ++ z' := by
              have g1 : ∀ j, j < n → geti (s ++ z') j = hat s j := fun j hj => by simp [geti, hat, List.getD_eq_getElem?_getD, List.getElem?_append, h2, hj]
              rw [g1 m (by omega), g1 i (by omega), List.set_append_left _ _ (by omega), List.set_append_left _ _ (by simp; omega)]; rfl
            simp [show ¬ (m : Int) = i from by omega]
            refine pwp_draw 28 (by decide) ?_
            simp [rowsI_get b1, rowsI_get b2, rowsI_set, hsw, show i < n from by omega, show m < n from by omega, show i < s.length + z'.length from by omega, show m < s.length + z'.length from by omega]
            refine ⟨by decide, ?_⟩
            refine again_of (m, swapL s i m, f) ⟨.inl (by simp; omega), by simp [swapL_length, h2], swap_mem (by omega) (by omega) h3, by simp; omega, h5⟩ (by simp) ?_
            simp [brlL]
        · simp [q, show 2 * (i : Int) + 2 < c from by omega]
          by_cases q2 : m = i
          · rw [← hml, if_pos q2] at h5
            simp [q2]
            refine ends_of (.tup [.v (.int .i64 (geti o 0)), .v (.bool true)]) (soonW l ep (s ++ z') n) [] rfl (by decide) ?_ ?_ ⟨z', by rw [← h5]; simp [soonW, brlL, h2]⟩
            · simp [soonW, brlL]
            · simp
          · rw [← hml, if_neg q2] at h5
            have hlm := least2_cases (keyB l) s n i
            rw [← hml] at hlm
            have b1 : i < (s ++ z').length := by simp; omega
            have b2 : m < (s ++ z').length := by simp; omega
            have hsw : ((s ++ z').set i (geti (s ++ z') m)).set m (geti (s ++ z') i) = swapL s i m ++ z' := by
              have g1 : ∀ j, j < n → geti (s ++ z') j = hat s j := fun j hj => by simp [geti, hat, List.getD_eq_getElem?_getD, List.getElem?_append, h2, hj]
              rw [g1 m (by omega), g1 i (by omega), List.set_append_left _ _ (by omega), List.set_append_left _ _ (by simp; omega)]; rfl
            simp [show ¬ (m : Int) = i from by omega]
            refine pwp_draw 28 (by decide) ?_
            simp [rowsI_get b1, rowsI_get b2, rowsI_set, hsw, show i < n from by omega, show m < n from by omega, show i < s.length + z'.length from by omega, show m < s.length + z'.length from by omega]
            refine ⟨by decide, ?_⟩
            refine again_of (m, swapL s i m, f) ⟨.inl (by simp; omega), by simp [swapL_length, h2], swap_mem (by omega) (by omega) h3, by simp; omega, h5⟩ (by simp) ?_
            simp [brlL]
end Go.Qg

namespace Go.Qg
open Go.Proofs
set_option maxRecDepth 100000
set_option maxHeartbeats 4000000
attribute [local irreducible] pwp pops pdraw pop popCall pdCall thenP blockP scopeP pspec Spec answers ppost CallW
theorem cloneBr_spec (l : List Brl) (hl : l.length ≤ 1000000) : CallW Try.prog 97 [brlL l] [] (fun out => (∃ ep, out = .ret (.own 0 ep 0 l.length false) [.rows none ep 54 2 (rowsBr l)]) ∨ (l = [] ∧ out = .ret .nil [])) := by
  refine callW_of mixed Try.func97 (by decide) rfl (congrArg Array.toList Try.results97) Try.ntmps97 (by decide) 8 (by simp) (by decide) ?_
  simp [brlL]
  rcases Nat.eq_zero_or_pos l.length with h | h
  · obtain rfl : l = [] := List.length_eq_zero_iff.1 h
    simp [guard]
    refine ⟨ends_of (.own 0 1 0 0 false) [.rows none 1 54 2 []] [5] rfl (by decide) ?_ ?_ (.inl ⟨1, rfl⟩), ends_of .nil [] [] rfl (by decide) ?_ ?_ (.inr rfl)⟩
    · simp
    · simp
    · simp
    · simp
  · have el : (List.map (fun i => (brlAt l i).cells) (List.range l.length)) = rowsBr l := by
      refine List.ext_getElem (by simp) fun k h1 h2 => ?_
      simp [rowsBr, brlAt, List.getD_eq_getElem?_getD, show k < l.length from by simpa using h1]
    simp [h, show l.length ≠ 0 from by omega, show l.length * 16 ≤ 140737488355328 from by omega, show l.length ≤ maxLen from by simp [maxLen]; omega, el]
    refine ends_of (.own 0 1 0 l.length false) [.rows none 1 54 2 (rowsBr l)] [5] rfl (by decide) ?_ ?_ (.inl ⟨1, rfl⟩)
    · simp
    · simp
theorem rowsBr_set' (l : List Brl) (k : Nat) (a b : Int) : (rowsBr l).set k [.v (.int .i64 a), .v (.int .i64 b)] = rowsBr (l.set k ⟨a, b⟩) := by simp [rowsBr, List.map_set, Brl.cells]
theorem drawD_spec (b : Brl) : Spec Try.prog 99 [.agg b.cells] (.v (.bool (decide (0 < b.kilos)))) := by
  refine spec_of mixed Try.func99 (by decide) rfl Try.results99 Try.ntmps99 (by decide) 0 (by simp) ?_
  simp [Brl.cells]
  refine answers_of rfl ?_; simp
def drawR (l : List Brl) (day n : Int) : List Brl := if hasL l day < n then [] else drawL l day n
theorem draw_spec (l : List Brl) (day n : Int) (hk : KilOk l) (hp : Pos l) (hl : l.length ≤ 1000) (ht : ∀ b ∈ l, b.til ≤ 400) (hn : 0 ≤ n ∧ n ≤ 1000000000) :
    Spec Try.prog 65 [brlL l, .v (.int .i64 day), .v (.int .i64 n)] (.tup [brlL (drawR l day n), .v (.bool (decide (n ≤ hasL l day)))]) := by
  refine spec_of mixed Try.func65 (by decide) rfl Try.results65 Try.ntmps65 (by decide) 2 (by simp) ?_
  simp [brlL]
  refine pop_spec (good_spec l day (by omega)) rfl false (.inl (by simp [brlL])) (.inl rfl) rfl (by simp [brlL]) ?_
  simp [brlL]
  refine pop_spec (kilos_spec _ (kilOk_good hk day)) rfl false (.inl (by simp [brlL])) (.inl rfl) rfl (by simp) ?_
  have hs : sumK (goodL l day) = hasL l day := rfl
  by_cases h1 : hasL l day < n
  · simp [hs, h1, brlL]
    refine answers_of rfl ?_
    simp [drawR, h1, brlL, Int.not_le.2 h1]
  · have h2 : n ≤ hasL l day := by omega
    simp [hs, h1, h2, brlL]
    refine pop_callW (cloneBr_spec l (by omega)) rfl [] false (by decide) trivial (.inl (by simp [brlL])) ?_
    rintro out (⟨epc, rfl⟩ | ⟨hl0, rfl⟩)
    · refine ⟨[72], by simp [backOk], .inl rfl, by simp [back, backV, placeAll], ?_⟩
      simp [back, backV, placeAll]
      refine pwp_loop (fun s : Nat × Nat => [(8, .own 72 epc 0 l.length false), (22, .undef), (25, .box true [brlL l, .own 73 s.2 0 (pushTo l day s.1).length false]), (29, .v (.int .i64 s.1)), (72, .rows none epc 54 2 (rowsBr l)), (73, .rows none s.2 3 1 (rowsI (pushTo l day s.1)))]) (fun s => s.1 ≤ l.length) (fun s => l.length - s.1) (0, 0) (Nat.zero_le _) (by simp; rfl) ?_ ?_
      · simp [brlL, pushTo, rowsI]
      · rintro ⟨k, ep⟩ hkl
        simp only at hkl ⊢
        by_cases c1 : k < l.length
        · have hmem : ∀ x ∈ pushTo l day k, 0 ≤ x ∧ x < (l.length : Int) := by
            intro x hx
            obtain ⟨j, hj, rfl, _⟩ := (pushTo_mem l day k x).1 hx
            omega
          have hpl := pushTo_length l day k
          have hpush := heapPush_spec l ep (pushTo l day k) k hmem (by omega) hl (by omega)
          have w1 := i64_wrap (show -9223372036854775808 ≤ (k : Int) + 1 ∧ _ from by omega)
          simp [c1, brlL, Brl.cells]
          by_cases c2 : day ≤ (brlAt l k).til
          · simp [c2]
            refine pop_callW hpush rfl [25, 73] false (by decide) ?_ (.inl ?_) ?_
            · simp [soonW, brlL, Brl.cells]
            · simp
            · rintro out ⟨ep', rfl⟩
              refine ⟨[], by simp [backOk, soonW], .inl rfl, by simp [soonW, brlL, back, backV, placeAll], ?_⟩
              simp [soonW, brlL, back, backV, placeAll]
              refine again_of (k + 1, ep') (by simp; omega) (by simp; omega) ?_
              simp [brlL, Brl.cells, pushTo, c2, w1]
          · simp [c2, Int.not_le.1 c2]
            refine again_of (k + 1, ep) (by simp; omega) (by simp; omega) ?_
            simp [brlL, Brl.cells, pushTo, c2, w1]
        · obtain rfl : k = l.length := by omega
          simp [brlL]
          refine pwp_loop (fun s : List Brl × List Int × Int × List Int => [(2, .v (.int .i64 s.2.2.1)), (25, .box true [brlL l, .own 73 ep 0 s.2.1.length false]), (72, .rows none epc 54 2 (rowsBr s.1)), (73, .rows none ep 3 1 (rowsI (s.2.1 ++ s.2.2.2)))]) (fun s => Drawn l day (sweep (days400 day) day l n).1 s.1 s.2.1 s.2.2.1 ∧ s.2.1.length ≤ l.length ∧ s.2.2.1 ≤ n ∧ ∀ j, j < l.length → (brlAt s.1 j).kilos ≤ 1000000) (fun s => s.2.1.length) (l, pushTo l day l.length, n, []) ⟨drawn_first hp hn.1 h2, pushTo_length l day _, by simp, fun j hj => (hk.each _ (brlAt_mem hj)).2⟩ (by simp; rfl) ?_ ?_
          · simp [brlL]
          · rintro ⟨out, L, m, z⟩ ⟨hd, hL, hm, hub⟩
            simp only at hd hL hm hub ⊢
            have hlen := hd.len
            have hm0 := hd.n0
            by_cases c2 : 0 < m
            · obtain ⟨d1, d2, d3⟩ := drawn_step hd c2 hl ht
              have hL0 : L ≠ [] := by rintro rfl; simp at d1
              have hpop := heapPop_spec l ep L z (fun x hx => ⟨(hd.each x hx).1, (hd.each x hx).2.1⟩) hl (by omega)
              simp only [if_neg hL0] at hpop
              have hpl := (pop_perm (key := keyB l) d1).length_eq
              simp at hpl
              simp [c2, brlL]
              refine pop_callW hpop rfl [25, 73] false (by decide) ?_ (.inl ?_) ?_
              · simp [soonW, brlL]
              · simp
              · rintro o ⟨z', rfl⟩
                refine ⟨[], by simp [backOk, soonW], .inl rfl, by simp [soonW, brlL, back, backV, placeAll], ?_⟩
                obtain ⟨i, hi⟩ : ∃ i : Nat, geti L 0 = (i : Int) := ⟨(geti L 0).toNat, by have : 0 ≤ geti L 0 := d2.1; omega⟩
                have hi' : hat L 0 = (i : Int) := hi
                rw [hi'] at d2 d3
                simp only [Int.toNat_natCast] at d3
                have hil : i < l.length := by omega
                have hio : i < out.length := by omega
                have hk0 := hd.pos _ (brlAt_mem hio)
                have hk1 := hub i hil
                have he : (if (brlAt out i).kilos < m then (brlAt out i).kilos else m) = min m (brlAt out i).kilos := by split <;> omega
                simp [soonW, brlL, back, backV, placeAll, hi, hil, hio, rowsBr_get hio, Brl.cells, hlen, he]
                refine again_of (out.set i ⟨(brlAt out i).kilos - min m (brlAt out i).kilos, (brlAt out i).til⟩, popL (keyB l) L, m - min m (brlAt out i).kilos, z') ⟨d3, by simp; omega, by simp; omega, fun j hj => ?_⟩ (by simp; omega) ?_
                · simp only
                  rw [brlAt_set (by omega)]
                  split
                  · simp only; omega
                  · exact hub j hj
                · simp [brlL, i64_wrap (show -9223372036854775808 ≤ (brlAt out i).kilos - min m (brlAt out i).kilos ∧ _ from by omega), i64_wrap (show -9223372036854775808 ≤ m - min m (brlAt out i).kilos ∧ _ from by omega), rowsBr_set', he]
            · obtain rfl : m = 0 := by omega
              obtain rfl := drawn_end hd
              simp [brlL]
              refine pop_specF [(8, .undef), (70, brlL (sweep (days400 day) day l n).1), (72, .undef)] ?_ (partBrl_spec (sweep (days400 day) day l n).1 (by rw [hlen]; omega) 99 [] [] rfl rfl (fun b => decide (0 < b.kilos)) fun k hk => drawD_spec (brlAt (sweep (days400 day) day l n).1 k)) rfl false (.inl (by simp [brlL])) (.inl rfl) rfl (by simp [brlL]) ?_
              · simp [brlL, hlen]
                intro k hk'
                simp [rowsBr_get (show k < (sweep (days400 day) day l n).1.length from by omega), Brl.cells]
              · simp [brlL]
                refine answers_of rfl ?_
                simp [drawR, h1, brlL, drawL, full]
    · refine ⟨[], by simp [backOk], .inl rfl, by simp [back, backV, placeAll], ?_⟩
      simp [back, backV, placeAll]
      refine pwp_loop (fun s : Nat × Nat => [(8, .own 72 0 0 l.length false), (22, .undef), (25, .box true [brlL l, .own 73 s.2 0 (pushTo l day s.1).length false]), (29, .v (.int .i64 s.1)), (72, .rows none 0 54 2 (rowsBr l)), (73, .rows none s.2 3 1 (rowsI (pushTo l day s.1)))]) (fun s => s.1 ≤ l.length) (fun s => l.length - s.1) (0, 0) (Nat.zero_le _) (by simp; rfl) ?_ ?_
      · subst hl0
        simp [brlL, pushTo, rowsI]
      · rintro ⟨k, ep⟩ hkl
        simp only at hkl ⊢
        by_cases c1 : k < l.length
        · have hmem : ∀ x ∈ pushTo l day k, 0 ≤ x ∧ x < (l.length : Int) := by
            intro x hx
            obtain ⟨j, hj, rfl, _⟩ := (pushTo_mem l day k x).1 hx
            omega
          have hpl := pushTo_length l day k
          have hpush := heapPush_spec l ep (pushTo l day k) k hmem (by omega) hl (by omega)
          have w1 := i64_wrap (show -9223372036854775808 ≤ (k : Int) + 1 ∧ _ from by omega)
          simp [c1, brlL, Brl.cells]
          by_cases c2 : day ≤ (brlAt l k).til
          · simp [c2]
            refine pop_callW hpush rfl [25, 73] false (by decide) ?_ (.inl ?_) ?_
            · simp [soonW, brlL, Brl.cells]
            · simp
            · rintro out ⟨ep', rfl⟩
              refine ⟨[], by simp [backOk, soonW], .inl rfl, by simp [soonW, brlL, back, backV, placeAll], ?_⟩
              simp [soonW, brlL, back, backV, placeAll]
              refine again_of (k + 1, ep') (by simp; omega) (by simp; omega) ?_
              simp [brlL, Brl.cells, pushTo, c2, w1]
          · simp [c2, Int.not_le.1 c2]
            refine again_of (k + 1, ep) (by simp; omega) (by simp; omega) ?_
            simp [brlL, Brl.cells, pushTo, c2, w1]
        · obtain rfl : k = l.length := by omega
          simp [brlL]
          refine pwp_loop (fun s : List Brl × List Int × Int × List Int => [(2, .v (.int .i64 s.2.2.1)), (25, .box true [brlL l, .own 73 ep 0 s.2.1.length false]), (72, .rows none 0 54 2 (rowsBr s.1)), (73, .rows none ep 3 1 (rowsI (s.2.1 ++ s.2.2.2)))]) (fun s => Drawn l day (sweep (days400 day) day l n).1 s.1 s.2.1 s.2.2.1 ∧ s.2.1.length ≤ l.length ∧ s.2.2.1 ≤ n ∧ ∀ j, j < l.length → (brlAt s.1 j).kilos ≤ 1000000) (fun s => s.2.1.length) (l, pushTo l day l.length, n, []) ⟨drawn_first hp hn.1 h2, pushTo_length l day _, by simp, fun j hj => (hk.each _ (brlAt_mem hj)).2⟩ (by simp; rfl) ?_ ?_
          · simp [brlL]
          · rintro ⟨out, L, m, z⟩ ⟨hd, hL, hm, hub⟩
            simp only at hd hL hm hub ⊢
            have hlen := hd.len
            have hm0 := hd.n0
            by_cases c2 : 0 < m
            · obtain ⟨d1, d2, d3⟩ := drawn_step hd c2 hl ht
              have hL0 : L ≠ [] := by rintro rfl; simp at d1
              have hpop := heapPop_spec l ep L z (fun x hx => ⟨(hd.each x hx).1, (hd.each x hx).2.1⟩) hl (by omega)
              simp only [if_neg hL0] at hpop
              have hpl := (pop_perm (key := keyB l) d1).length_eq
              simp at hpl
              simp [c2, brlL]
              refine pop_callW hpop rfl [25, 73] false (by decide) ?_ (.inl ?_) ?_
              · simp [soonW, brlL]
              · simp
              · rintro o ⟨z', rfl⟩
                refine ⟨[], by simp [backOk, soonW], .inl rfl, by simp [soonW, brlL, back, backV, placeAll], ?_⟩
                obtain ⟨i, hi⟩ : ∃ i : Nat, geti L 0 = (i : Int) := ⟨(geti L 0).toNat, by have : 0 ≤ geti L 0 := d2.1; omega⟩
                have hi' : hat L 0 = (i : Int) := hi
                rw [hi'] at d2 d3
                simp only [Int.toNat_natCast] at d3
                have hil : i < l.length := by omega
                have hio : i < out.length := by omega
                have hk0 := hd.pos _ (brlAt_mem hio)
                have hk1 := hub i hil
                have he : (if (brlAt out i).kilos < m then (brlAt out i).kilos else m) = min m (brlAt out i).kilos := by split <;> omega
                simp [soonW, brlL, back, backV, placeAll, hi, hil, hio, rowsBr_get hio, Brl.cells, hlen, he]
                refine again_of (out.set i ⟨(brlAt out i).kilos - min m (brlAt out i).kilos, (brlAt out i).til⟩, popL (keyB l) L, m - min m (brlAt out i).kilos, z') ⟨d3, by simp; omega, by simp; omega, fun j hj => ?_⟩ (by simp; omega) ?_
                · simp only
                  rw [brlAt_set (by omega)]
                  split
                  · simp only; omega
                  · exact hub j hj
                · simp [brlL, i64_wrap (show -9223372036854775808 ≤ (brlAt out i).kilos - min m (brlAt out i).kilos ∧ _ from by omega), i64_wrap (show -9223372036854775808 ≤ m - min m (brlAt out i).kilos ∧ _ from by omega), rowsBr_set', he]
            · obtain rfl : m = 0 := by omega
              obtain rfl := drawn_end hd
              simp [brlL]
              refine pop_specF [(8, .undef), (70, brlL (sweep (days400 day) day l n).1), (72, .undef)] ?_ (partBrl_spec (sweep (days400 day) day l n).1 (by rw [hlen]; omega) 99 [] [] rfl rfl (fun b => decide (0 < b.kilos)) fun k hk => drawD_spec (brlAt (sweep (days400 day) day l n).1 k)) rfl false (.inl (by simp [brlL])) (.inl rfl) rfl (by simp [brlL]) ?_
              · simp [brlL, hlen]
                intro k hk'
                simp [rowsBr_get (show k < (sweep (days400 day) day l n).1.length from by omega), Brl.cells]
              · simp [brlL]
                refine answers_of rfl ?_
                simp [drawR, h1, brlL, drawL, full]
theorem Draw_spec (l : List Brl) (day n : Int) (hl : l.length ≤ 9223372036854775807) :
    Spec Try.prog 17 [.agg [brlL l], .v (.int .i64 day), .v (.int .i64 n)] (if (storedB l && inB day 0 400 && inB n 0 30000) = true then (if n ≤ hasL l day then .tup [.agg [brlL (drawL l day n)], .v (.int .i64 0)] else .tup [.agg [brlL []], .v (.int .i64 5)]) else .tup [.agg [brlL []], .v (.int .i64 2)]) := by
  refine spec_of mixed Try.func17 (by decide) rfl Try.results17 Try.ntmps17 (by decide) 0 (by simp) ?_
  simp [brlL]
  refine pop_spec (stored_spec l hl) rfl false (.inl (by simp [brlL])) (.inl rfl) rfl (by simp) ?_
  cases h1 : storedB l with
  | false =>
    simp
    refine answers_of (by simp; rfl) ?_; simp [brlL]
  | true =>
    obtain ⟨hs1, hs2⟩ := stored_ok h1
    simp
    refine pop_spec (cin_spec day 0 400) rfl false (.inl (by simp)) (.inl rfl) rfl (by simp) ?_
    cases h2 : inB day 0 400 with
    | false => simp; refine answers_of (by simp; rfl) ?_; simp [brlL]
    | true =>
      simp
      refine pop_spec (cin_spec n 0 30000) rfl false (.inl (by simp)) (.inl rfl) rfl (by simp) ?_
      cases h3 : inB n 0 30000 with
      | false => simp; refine answers_of (by simp; rfl) ?_; simp [brlL]
      | true =>
        have hn := inB_spec.1 h3
        simp
        refine pop_spec (draw_spec l day n (kilOk_stored h1) (fun b hb => by have := hs2 b hb; omega) (by omega) (fun b hb => by have := hs2 b hb; omega) (by omega)) rfl false (.inl (by simp [brlL])) (.inl rfl) rfl (by simp [brlL]) ?_
        by_cases h4 : n ≤ hasL l day
        · simp [h4, drawR, Int.not_lt.2 h4, brlL]
          refine answers_of (by simp; rfl) ?_; simp [brlL]
        · simp [h4, Int.not_le.1 h4]
          refine answers_of (by simp; rfl) ?_; simp [brlL]
end Go.Qg

namespace Go.Qg
open Go.Proofs
set_option maxRecDepth 100000
set_option maxHeartbeats 4000000
attribute [local irreducible] pwp pops pdraw pop popCall pdCall thenP blockP scopeP pspec Spec answers ppost CallW
def burB (l : List Bur) (k : Nat) : Bool := inB (burAt l k).day 0 400 && (decide (k = 0) || decide ((burAt l (k - 1)).day ≤ (burAt l k).day)) && spanB ⟨(burAt l k).low, (burAt l k).high⟩ 0 30000
def shpB (l : List Shp) (k : Nat) : Bool := inB (shpAt l k).day 0 400 && (decide (k = 0) || decide ((shpAt l (k - 1)).day < (shpAt l k).day)) && inB (shpAt l k).room 0 9 && inB (shpAt l k).cost 0 100000 && inB (shpAt l k).each 0 100000 && inB (shpAt l k).good 0 400
def supB (S : Sup) : Bool := storedB S.barrels && decide (S.burns.length ≤ 40) && decide (S.ships.length ≤ 6) && inB S.kilos 1 1000 && allN S.burns.length (burB S.burns) && allN S.ships.length (shpB S.ships)
theorem supB_ok {S : Sup} (h : supB S = true) : SupOk S := by
  simp only [supB, Bool.and_eq_true, decide_eq_true_eq] at h
  obtain ⟨⟨⟨⟨⟨h1, h2⟩, h3⟩, h4⟩, h5⟩, h6⟩ := h
  obtain ⟨s1, s2⟩ := stored_ok h1
  have b := allN_spec.1 h5
  have c := allN_spec.1 h6
  simp only [burB, shpB, Bool.and_eq_true, Bool.or_eq_true, decide_eq_true_eq, inB_spec, spanB_spec] at b c h4
  exact ⟨s2, s1, h2, h3, h4, fun i hi => ⟨(b i hi).1.1, (b i hi).2⟩, fun i hi => by have := (b (i + 1) hi).1.2; simpa using this, fun i hi => ⟨(c i hi).1.1.1.1.1, (c i hi).1.1.1.2, (c i hi).1.1.2, (c i hi).1.2, (c i hi).2⟩, fun i hi => by have := (c (i + 1) hi).1.1.1.1.2; simpa using this⟩
theorem supply_spec (S : Sup) (hl : S.barrels.length ≤ 9223372036854775807) (hf : S.burns.length ≤ 9223372036854775807) (hs : S.ships.length ≤ 9223372036854775807) :
    Spec Try.prog 67 [.agg S.cells] (.v (.bool (supB S))) := by
  refine spec_of mixed Try.func67 (by decide) rfl Try.results67 Try.ntmps67 (by decide) 0 (by simp) ?_
  simp [Sup.cells, brlL, burL, shpL]
  refine pop_spec (stored_spec S.barrels hl) rfl false (.inl (by simp [brlL])) (.inl rfl) rfl (by simp) ?_
  cases h1 : storedB S.barrels with
  | false => simp; refine answers_of rfl ?_; simp [supB, h1]
  | true =>
    by_cases h2 : S.burns.length ≤ 40
    · by_cases h3 : S.ships.length ≤ 6
      · simp [burL, shpL, h2, h3, show ¬ (40 : Int) < S.burns.length from by omega, show ¬ (6 : Int) < S.ships.length from by omega, show (S.burns.length : Int) ≤ 40 from by omega, show (S.ships.length : Int) ≤ 6 from by omega]
        refine pop_spec (cin_spec S.kilos 1 1000) rfl false (.inl (by simp)) (.inl rfl) rfl (by simp) ?_
        cases h4 : inB S.kilos 1 1000 with
        | false => simp; refine answers_of rfl ?_; simp [supB, h4]
        | true =>
          simp
          refine pwp_loop (fun k : Nat => [(32, .v (.int .i64 k))]) (fun k => k ≤ S.burns.length ∧ ∀ j, j < k → burB S.burns j = true) (fun k => S.burns.length - k) 0 ⟨Nat.zero_le _, fun j hj => by omega⟩ (by simp; rfl) (by simp) ?_
          intro k ⟨hk, hp⟩
          have wk := i64_wrap (show -9223372036854775808 ≤ (k : Int) + 1 ∧ _ from by omega)
          by_cases hkl : k < S.burns.length
          · have bad : burB S.burns k = false → supB S = false := fun hb => by simp [supB, allN_false hkl hb]
            simp [hkl, Bur.cells]
            refine pwp_draw 21 (by decide) ?_
            simp
            refine pd_spec (cin_spec (burAt S.burns k).day 0 400) rfl (by simp) (by simp) rfl ?_
            cases q1 : inB (burAt S.burns k).day 0 400 with
            | false =>
              simp
              refine ⟨by decide, ?_⟩
              refine answers_of rfl ?_; simp [bad (by simp [burB, q1])]
            | true =>
              by_cases h0 : k = 0
              · subst h0
                simp
                refine ⟨by decide, ?_⟩
                refine pop_spec (cspan_spec ⟨(burAt S.burns 0).low, (burAt S.burns 0).high⟩ 0 30000) rfl false (.inl (by simp [Spn.cells])) (.inl rfl) rfl (by simp) ?_
                cases q3 : spanB ⟨(burAt S.burns 0).low, (burAt S.burns 0).high⟩ 0 30000 with
                | false =>
                  simp
                  refine answers_of rfl ?_; simp [bad (by simp [burB, q3])]
                | true =>
                  simp
                  refine again_of 1 ⟨by omega, fun j hj => ?_⟩ (by omega) ?_
                  · obtain rfl : j = 0 := by omega
                    simp [burB, q1, q3]
                  · simp [wk]
              · have e1 : IntKind.i64.wrap ((k : Int) - 1) = ((k - 1 : Nat) : Int) := by rw [i64_wrap (by omega)]; omega
                by_cases q2 : (burAt S.burns (k - 1)).day ≤ (burAt S.burns k).day
                · simp [h0, e1, show k - 1 < S.burns.length from by omega, q2, Int.not_lt.2 q2, show 0 < k from by omega]
                  refine ⟨by decide, ?_⟩
                  refine pop_spec (cspan_spec ⟨(burAt S.burns k).low, (burAt S.burns k).high⟩ 0 30000) rfl false (.inl (by simp [Spn.cells])) (.inl rfl) rfl (by simp) ?_
                  cases q3 : spanB ⟨(burAt S.burns k).low, (burAt S.burns k).high⟩ 0 30000 with
                  | false =>
                    simp
                    refine answers_of rfl ?_; simp [bad (by simp [burB, q3])]
                  | true =>
                    simp
                    refine again_of (k + 1) ⟨by omega, fun j hj => ?_⟩ (by omega) ?_
                    · rcases Nat.lt_or_eq_of_le (Nat.le_of_lt_succ hj) with h | rfl
                      · exact hp j h
                      · simp [burB, q1, q2, q3]
                    · simp [wk]
                · simp [h0, e1, show k - 1 < S.burns.length from by omega, q2, Int.not_le.1 q2, show 0 < k from by omega]
                  refine ⟨by decide, ?_⟩
                  refine answers_of rfl ?_; simp [bad (by simp [burB, q2, h0])]
          · have h5 : allN S.burns.length (burB S.burns) = true := allN_spec.2 fun j hj => hp j (by omega)
            obtain rfl : k = S.burns.length := by omega
            clear hp wk hkl hk
            simp
            refine pwp_loop (fun k : Nat => [(67, .v (.int .i64 k))]) (fun k => k ≤ S.ships.length ∧ ∀ j, j < k → shpB S.ships j = true) (fun k => S.ships.length - k) 0 ⟨Nat.zero_le _, fun j hj => by omega⟩ (by simp; rfl) (by simp) ?_
            intro k ⟨hk, hp⟩
            have wk := i64_wrap (show -9223372036854775808 ≤ (k : Int) + 1 ∧ _ from by omega)
            by_cases hkl : k < S.ships.length
            · have bad : shpB S.ships k = false → supB S = false := fun hb => by simp [supB, allN_false hkl hb]
              simp [hkl, Shp.cells]
              refine pwp_draw 21 (by decide) ?_
              simp
              refine pd_spec (cin_spec (shpAt S.ships k).day 0 400) rfl (by simp) (by simp) rfl ?_
              cases q1 : inB (shpAt S.ships k).day 0 400 with
              | false =>
                simp
                refine ⟨by decide, ?_⟩
                refine answers_of rfl ?_; simp [bad (by simp [shpB, q1])]
              | true =>
                by_cases h0 : k = 0
                · subst h0
                  simp
                  refine ⟨by decide, ?_⟩
                  refine pop_spec (cin_spec (shpAt S.ships 0).room 0 9) rfl false (.inl (by simp)) (.inl rfl) rfl (by simp) ?_
                  cases r1 : inB (shpAt S.ships 0).room 0 9 with
                  | false =>
                    simp
                    refine answers_of rfl ?_; simp [bad (by simp [shpB, r1])]
                  | true =>
                    simp
                    refine pop_spec (cin_spec (shpAt S.ships 0).cost 0 100000) rfl false (.inl (by simp)) (.inl rfl) rfl (by simp) ?_
                    cases r2 : inB (shpAt S.ships 0).cost 0 100000 with
                    | false =>
                      simp
                      refine answers_of rfl ?_; simp [bad (by simp [shpB, r2])]
                    | true =>
                      simp
                      refine pop_spec (cin_spec (shpAt S.ships 0).each 0 100000) rfl false (.inl (by simp)) (.inl rfl) rfl (by simp) ?_
                      cases r3 : inB (shpAt S.ships 0).each 0 100000 with
                      | false =>
                        simp
                        refine answers_of rfl ?_; simp [bad (by simp [shpB, r3])]
                      | true =>
                        simp
                        refine pop_spec (cin_spec (shpAt S.ships 0).good 0 400) rfl false (.inl (by simp)) (.inl rfl) rfl (by simp) ?_
                        cases r4 : inB (shpAt S.ships 0).good 0 400 with
                        | false =>
                          simp
                          refine answers_of rfl ?_; simp [bad (by simp [shpB, r4])]
                        | true =>
                          simp
                          refine again_of (0 + 1) ⟨by omega, fun j hj => ?_⟩ (by omega) ?_
                          · rcases Nat.lt_or_eq_of_le (Nat.le_of_lt_succ hj) with h | rfl
                            · exact hp j h
                            · simp [shpB, q1, r1, r2, r3, r4]
                          · simp [wk]
                · have e1 : IntKind.i64.wrap ((k : Int) - 1) = ((k - 1 : Nat) : Int) := by rw [i64_wrap (by omega)]; omega
                  by_cases q2 : (shpAt S.ships (k - 1)).day < (shpAt S.ships k).day
                  · simp [h0, e1, show k - 1 < S.ships.length from by omega, q2, Int.not_le.2 q2, show 0 < k from by omega]
                    refine ⟨by decide, ?_⟩
                    refine pop_spec (cin_spec (shpAt S.ships k).room 0 9) rfl false (.inl (by simp)) (.inl rfl) rfl (by simp) ?_
                    cases r1 : inB (shpAt S.ships k).room 0 9 with
                    | false =>
                      simp
                      refine answers_of rfl ?_; simp [bad (by simp [shpB, r1])]
                    | true =>
                      simp
                      refine pop_spec (cin_spec (shpAt S.ships k).cost 0 100000) rfl false (.inl (by simp)) (.inl rfl) rfl (by simp) ?_
                      cases r2 : inB (shpAt S.ships k).cost 0 100000 with
                      | false =>
                        simp
                        refine answers_of rfl ?_; simp [bad (by simp [shpB, r2])]
                      | true =>
                        simp
                        refine pop_spec (cin_spec (shpAt S.ships k).each 0 100000) rfl false (.inl (by simp)) (.inl rfl) rfl (by simp) ?_
                        cases r3 : inB (shpAt S.ships k).each 0 100000 with
                        | false =>
                          simp
                          refine answers_of rfl ?_; simp [bad (by simp [shpB, r3])]
                        | true =>
                          simp
                          refine pop_spec (cin_spec (shpAt S.ships k).good 0 400) rfl false (.inl (by simp)) (.inl rfl) rfl (by simp) ?_
                          cases r4 : inB (shpAt S.ships k).good 0 400 with
                          | false =>
                            simp
                            refine answers_of rfl ?_; simp [bad (by simp [shpB, r4])]
                          | true =>
                            simp
                            refine again_of (k + 1) ⟨by omega, fun j hj => ?_⟩ (by omega) ?_
                            · rcases Nat.lt_or_eq_of_le (Nat.le_of_lt_succ hj) with h | rfl
                              · exact hp j h
                              · simp [shpB, q1, q2, r1, r2, r3, r4]
                            · simp [wk]
                  · simp [h0, e1, show k - 1 < S.ships.length from by omega, q2, Int.not_lt.1 q2, show 0 < k from by omega]
                    refine ⟨by decide, ?_⟩
                    refine answers_of rfl ?_; simp [bad (by simp [shpB, q2, h0])]
            · have h6 : allN S.ships.length (shpB S.ships) = true := allN_spec.2 fun j hj => hp j (by omega)
              obtain rfl : k = S.ships.length := by omega
              simp
              refine answers_of rfl ?_; simp [supB, h1, h2, h3, h4, h5, h6]
      · simp [burL, shpL, h2, h3, show ¬ (40 : Int) < S.burns.length from by omega, show (6 : Int) < S.ships.length from by omega, show (S.burns.length : Int) ≤ 40 from by omega]
        refine answers_of rfl ?_; simp [supB, h3]
    · simp [burL, h2, show (40 : Int) < S.burns.length from by omega]
      refine answers_of rfl ?_; simp [supB, h2]
end Go.Qg

namespace Go.Qg
open Go.Proofs
set_option maxRecDepth 100000
set_option maxHeartbeats 4000000
attribute [local irreducible] pwp pops pdraw pop popCall pdCall thenP blockP scopeP pspec Spec answers ppost CallW
theorem KnownC_spec (S : Sup) (hl : S.barrels.length ≤ 9223372036854775807) (hf : S.burns.length ≤ 9223372036854775807) (hs : S.ships.length ≤ 9223372036854775807) :
    Spec Try.prog 42 [.agg S.cells] (.v (.int .i64 (if supB S = true then 0 else 2))) := by
  refine spec_of mixed Try.func42 (by decide) rfl Try.results42 Try.ntmps42 (by decide) 0 (by simp) ?_
  simp [Sup.cells, brlL, burL, shpL]
  refine pop_spec (supply_spec S hl hf hs) rfl false (.inl (by simp [Sup.cells, brlL, burL, shpL])) (.inl rfl) rfl (by simp) ?_
  cases h : supB S with
  | true => simp; refine answers_of rfl ?_; simp
  | false => simp; refine answers_of rfl ?_; simp
def planB (S : Sup) (pl : List Int) (k : Nat) : Bool := decide (k < S.ships.length) && inB (geti pl k) 0 (shpAt S.ships k).room
def plannedB (S : Sup) (pl : List Int) : Bool := allN pl.length (planB S pl) && decide (pl.length = S.ships.length)
theorem planned_spec (S : Sup) (pl : List Int) (hp : pl.length ≤ 9223372036854775807) (hs : S.ships.length ≤ 9223372036854775807) :
    Spec Try.prog 68 [.agg S.cells, ints pl] (.v (.bool (plannedB S pl))) := by
  refine spec_of mixed Try.func68 (by decide) rfl Try.results68 Try.ntmps68 (by decide) 0 (by simp) ?_
  simp [Sup.cells, brlL, burL, shpL, ints]
  refine pwp_loop (fun k : Nat => [(9, .v (.int .i64 k))]) (fun k => k ≤ pl.length ∧ ∀ j, j < k → planB S pl j = true) (fun k => pl.length - k) 0 ⟨Nat.zero_le _, fun j hj => by omega⟩ (by simp; rfl) (by simp) ?_
  intro k ⟨hk, hq⟩
  by_cases hkl : k < pl.length
  · have wk := i64_wrap (show -9223372036854775808 ≤ (k : Int) + 1 ∧ _ from by omega)
    have bad : planB S pl k = false → plannedB S pl = false := fun hb => by simp [plannedB, allN_false hkl hb]
    by_cases c : k < S.ships.length
    · simp [hkl, c, Nat.not_le.2 c, Shp.cells]
      refine pop_spec (cin_spec (geti pl k) 0 (shpAt S.ships k).room) rfl false (.inl (by simp)) (.inl rfl) rfl (by simp) ?_
      cases q : inB (geti pl k) 0 (shpAt S.ships k).room with
      | false => simp; refine answers_of rfl ?_; simp [bad (by simp [planB, q])]
      | true =>
        simp
        refine again_of (k + 1) ⟨by omega, fun j hj => ?_⟩ (by omega) ?_
        · rcases Nat.lt_or_eq_of_le (Nat.le_of_lt_succ hj) with h | rfl
          · exact hq j h
          · simp [planB, q, c]
        · simp [wk]
    · simp [hkl, c, Nat.not_lt.1 c, Shp.cells]
      refine answers_of rfl ?_; simp [bad (by simp [planB, c])]
  · have h5 : allN pl.length (planB S pl) = true := allN_spec.2 fun j hj => hq j (by omega)
    obtain rfl : k = pl.length := by omega
    have hb : ((pl.length : Int) == (S.ships.length : Int)) = decide (pl.length = S.ships.length) := by rw [Bool.eq_iff_iff]; simp; omega
    simp
    refine answers_of rfl ?_; simp [plannedB, h5, hb]
end Go.Qg

namespace Go.Qg
open Go.Proofs
set_option maxRecDepth 100000
set_option maxHeartbeats 4000000
attribute [local irreducible] pwp pops pdraw pop popCall pdCall thenP blockP scopeP pspec Spec answers ppost CallW
theorem partBrlO_spec (l : List Brl) (hl : l.length ≤ 1000000) (f : FuncId) (first cap : List PV) (h1 : plainL first = true) (h2 : plainL cap = true) (p : Brl → Bool)
    (h : ∀ k, k < l.length → Spec Try.prog f (first ++ ([.agg (brlAt l k).cells] ++ cap)) (.v (.bool (p (brlAt l k))))) : CallW Try.prog 98 [brlL l, .clo (.func f) first cap] [] (fun out => ∃ ep, out = .ret (.own 0 ep 0 (l.filter p).length false) [.rows none ep 54 2 (rowsBr (l.filter p))]) := by
  refine callW_of mixed Try.func98 (by decide) rfl (congrArg Array.toList Try.results98) Try.ntmps98 (by decide) 23 (by simp) (by decide) ?_
  simp [brlL, renL_plain h1, renL_plain h2]
  refine pwp_loop (fun k : Nat => [(5, .own 20 ((l.take k).filter p).length 0 ((l.take k).filter p).length false), (10, .v (.int .i64 k)), (20, .rows none ((l.take k).filter p).length 54 2 (rowsBr ((l.take k).filter p)))]) (fun k => k ≤ l.length) (fun k => l.length - k) 0 (Nat.zero_le _) (by simp; rfl) (by simp [vwAll_plain h1, vwAll_plain h2]) ?_
  intro k hk
  by_cases hkl : k < l.length
  · have wk := i64_wrap (show -9223372036854775808 ≤ (k : Int) + 1 ∧ _ from by omega)
    have hle : ((l.take k).filter p).length ≤ k := Nat.le_trans (List.length_filter_le _ _) (by simp; omega)
    have hs := take_filter_Brl l p hkl
    simp [hkl, Brl.cells]
    refine pop_spec (h k hkl) rfl false (.inr ⟨by simp [Brl.cells], by simp [namesL_append, plainL_names h1, plainL_names h2, Brl.cells]⟩) (.inl rfl) rfl (by simp) ?_
    cases hpk : p (brlAt l k) with
    | true =>
      rw [hpk, if_pos rfl] at hs
      simp [rowsBr_snoc', show (((l.take k).filter p).length + 1) * 16 ≤ 140737488355328 from by omega, show ((l.take k).filter p).length + 1 ≤ maxLen from by simp [maxLen]; omega]
      refine again_of (k + 1) (by omega) (by omega) ?_
      simp [wk, hs, vwAll_plain h1, vwAll_plain h2]
    | false =>
      rw [hpk, if_neg (by simp), List.append_nil] at hs
      simp
      refine again_of (k + 1) (by omega) (by omega) ?_
      simp [wk, hs, vwAll_plain h1, vwAll_plain h2]
  · obtain rfl : k = l.length := by omega
    rw [List.take_length]
    simp
    refine ends_of (.own 0 (l.filter p).length 0 (l.filter p).length false) [.rows none (l.filter p).length 54 2 (rowsBr (l.filter p))] [20] rfl (by decide) ?_ ?_ ⟨_, rfl⟩
    · simp
    · simp
theorem goodO_spec (l : List Brl) (day : Int) (hl : l.length ≤ 1000000) : CallW Try.prog 93 [brlL l, .v (.int .i64 day)] [] (fun out => ∃ ep, out = .ret (.own 0 ep 0 (goodL l day).length false) [.rows none ep 54 2 (rowsBr (goodL l day))]) := by
  refine callW_of mixed Try.func93 (by decide) rfl (congrArg Array.toList Try.results93) Try.ntmps93 (by decide) 9 (by simp) (by decide) ?_
  simp [brlL]
  refine pop_callF [(3, .undef), (6, .clo (.func 120) [] [.rp [.v (.int .i64 day)] 0])] (by simp) (partBrlO_spec l hl 120 [] [.rp [.v (.int .i64 day)] 0] rfl rfl (fun b => decide (day ≤ b.til)) fun k hk => good1_spec (brlAt l k) day) rfl [] false (by decide) trivial (.inl (by simp [brlL])) ?_
  rintro out ⟨ep, rfl⟩
  refine ⟨[8], by simp [backOk], .inl rfl, by simp [back, backV, placeAll], ?_⟩
  simp [back, backV, placeAll]
  refine ends_of (.own 0 ep 0 (goodL l day).length false) [.rows none ep 54 2 (rowsBr (goodL l day))] [8] rfl (by decide) ?_ ?_ ⟨_, rfl⟩
  · simp [goodL]
  · simp [goodL]
end Go.Qg

namespace Go.Qg
open Go.Proofs
set_option maxRecDepth 100000
set_option maxHeartbeats 4000000
attribute [local irreducible] pwp pops pdraw pop popCall pdCall thenP blockP scopeP pspec Spec answers ppost CallW
theorem cloneBrS_spec (l : List Brl) (hl : l.length ≤ 1000000) : Spec Try.prog 97 [brlL l] (brlL l) := by
  refine spec_of mixed Try.func97 (by decide) rfl Try.results97 Try.ntmps97 (by decide) 0 (by simp) ?_
  simp [brlL]
  rcases Nat.eq_zero_or_pos l.length with h | h
  · obtain rfl : l = [] := List.length_eq_zero_iff.1 h
    simp [guard]
    refine ⟨answers_of rfl ?_, answers_of rfl ?_⟩ <;> simp [brlL]
  · simp [h, show l.length * 16 ≤ 140737488355328 from by omega, show l.length ≤ maxLen from by simp [maxLen]; omega, rowsBr_range l]
    refine answers_of rfl ?_; simp [brlL]
    intro k hk
    simp [rowsBr_get hk, Brl.cells]
def playC (S : Sup) (plan b : List Int) (t : Int) (l : List Brl) (has came drawn waste left ship flight : Int) : List PV := S.cells ++ [ints plan, ints b, .v (.int .i64 t), brlL l, .v (.int .i64 has), .v (.int .i64 came), .v (.int .i64 drawn), .v (.int .i64 waste), .v (.int .i64 left), .v (.int .i64 ship), .v (.int .i64 flight)]
theorem begin_spec (S : Sup) (plan b : List Int) (hk : KilOk S.barrels) :
    CallW Try.prog 71 [.agg S.cells, ints plan, ints b] [] (fun out => out = .ret (.ref 0 0) [.box false (playC S plan b 0 S.barrels (sumK S.barrels) 0 0 0 0 0 0)]) := by
  have hn := hk.n
  refine callW_of mixed Try.func71 (by decide) rfl (congrArg Array.toList Try.results71) Try.ntmps71 (by decide) 21 (by simp) (by decide) ?_
  simp [Sup.cells, brlL, burL, shpL, ints]
  refine pop_spec (cloneBrS_spec S.barrels (by omega)) rfl false (.inl (by simp [brlL])) (.inl rfl) rfl (by simp [brlL]) ?_
  simp [brlL]
  refine pwp_draw 9 (by decide) ?_
  simp
  refine pd_spec (kilos_spec S.barrels hk) rfl (by simp) (by simp [brlL]) rfl ?_
  simp
  refine ⟨by decide, ?_⟩
  refine ends_of (.ref 0 0) [.box false (playC S plan b 0 S.barrels (sumK S.barrels) 0 0 0 0 0 0)] [20] rfl (by decide) ?_ ?_ rfl
  · simp [playC, Sup.cells, brlL, burL, shpL, ints]
  · simp
end Go.Qg

namespace Go.Qg
open Go.Proofs
set_option maxRecDepth 100000
set_option maxHeartbeats 4000000
attribute [local irreducible] pwp pops pdraw pop popCall pdCall thenP blockP scopeP pspec Spec answers ppost CallW
def playX (S : Sup) (plan b : List Int) (t first left : Int) (p : Pl) (x : PV) : List PV := S.cells ++ [ints plan, ints b, .v (.int .i64 t), x, .v (.int .i64 first), .v (.int .i64 p.came), .v (.int .i64 p.drawn), .v (.int .i64 p.waste), .v (.int .i64 left), .v (.int .i64 p.ship), .v (.int .i64 p.flight)]
theorem vw_brl_local {g : PF} {s ep e : Nat} {fl : Option (Nat × Nat)} (l : List Brl) (h : g[s]? = some (.rows fl ep e 2 (rowsBr l))) (c : Bool) : vw g (lentTgt [] [] true) 8 (brlL l) (.own s ep 0 l.length c) :=
  vw_own_local h (by simp) fun k hk => by
    simp [List.getD, rowsBr_get hk, Brl.cells, plainL, PV.plain, PV.free, PV.names]
theorem clear_spec (S : Sup) (plan b : List Int) (t first left : Int) (p : Pl) (hk : KilOk p.barrels) (hw : 0 ≤ p.waste ∧ p.waste ≤ 1000000000) :
    CallW Try.prog 102 [.ref 0 0] [.box false (playX S plan b t first left p (brlL p.barrels))] (fun out => ∃ ep, out = .ret (.tup []) [.box false (playX S plan b t first left (clearP t p) (.own 1 ep 0 (goodL p.barrels t).length false)), .rows none ep 54 2 (rowsBr (goodL p.barrels t))]) := by
  have hn := hk.n
  have hg := kilOk_good hk t
  have k1 := kilTo_bound hk p.barrels.length (Nat.le_refl _)
  have k2 := kilTo_bound hg (goodL p.barrels t).length (Nat.le_refl _)
  rw [kilTo_all] at k1 k2
  have hn2 := hg.n
  refine callW_of mixed Try.func102 (by decide) rfl (congrArg Array.toList Try.results102) Try.ntmps102 (by decide) 34 (by simp) (by decide) ?_
  simp [playX, Sup.cells, brlL, burL, shpL, ints]
  refine pwp_draw 8 (by decide) ?_
  simp
  refine ⟨by decide, ?_⟩
  refine pop_callW (goodO_spec p.barrels t (by omega)) rfl [] false (by decide) trivial (.inl (by simp [brlL])) ?_
  rintro out ⟨ep, rfl⟩
  refine ⟨[33], by simp [backOk], .inl rfl, by simp [back, backV, placeAll], ?_⟩
  simp [back, backV, placeAll]
  refine pwp_draw 18 (by decide) ?_
  simp
  refine pd_spec (kilos_spec p.barrels hk) rfl (by simp) (by simp [brlL]) rfl ?_
  simp
  refine pd_specM (kilos_spec (goodL p.barrels t) hg) rfl (by simp) ?_ rfl rfl ?_
  · intro g hg2
    have h33 := hg2 (.tmp 22) (by simp) 33 (by simp [deref])
    simp at h33
    simp
    exact vw_brl_local _ h33 false
  simp [i64_wrap (show -9223372036854775808 ≤ sumK p.barrels - sumK (goodL p.barrels t) ∧ _ from by omega), i64_wrap (show -9223372036854775808 ≤ p.waste + (sumK p.barrels - sumK (goodL p.barrels t)) ∧ _ from by omega)]
  refine ⟨by decide, ?_⟩
  refine ends_n (.tup []) [.box false (playX S plan b t first left (clearP t p) (.own 1 ep 0 (goodL p.barrels t).length false)), .rows none ep 54 2 (rowsBr (goodL p.barrels t))] [33] rfl (by decide) ?_ ?_ ⟨ep, by simp [playX, Sup.cells, brlL, burL, shpL, ints]⟩
  · simp [playX, Sup.cells, brlL, burL, shpL, ints, clearP]
  · simp
theorem sumTo_le {l : List Int} {c : Int} (hc : 0 ≤ c) : ∀ {k : Nat}, (∀ i, i < k → 0 ≤ gi l i ∧ gi l i ≤ c) → 0 ≤ sumTo l k ∧ sumTo l k ≤ c * k
  | 0, _ => by simp [sumTo]
  | k + 1, h => by
    have h1 := sumTo_le (k := k) hc fun i hi => h i (by omega)
    have h2 := h k (by omega)
    have e : c * ((k + 1 : Nat) : Int) = c * k + c := by push_cast; rw [Int.mul_add, Int.mul_one]
    simp only [sumTo]; omega
theorem sumK_le {c : Int} (hc : 0 ≤ c) : ∀ {l : List Brl}, (∀ b ∈ l, b.kilos ≤ c) → sumK l ≤ c * l.length
  | [], _ => by simp [sumK]
  | b :: l, h => by
    have h1 := sumK_le hc (l := l) fun x hx => h x (List.mem_cons_of_mem _ hx)
    have h2 := h b List.mem_cons_self
    have e : c * ((l.length + 1 : Nat) : Int) = c * l.length + c := by push_cast; rw [Int.mul_add, Int.mul_one]
    have e2 : sumK (b :: l) = b.kilos + sumK l := rfl
    simp only [e2, List.length_cons]; omega
theorem kilos_le_sum : ∀ {l : List Brl}, Pos l → ∀ b ∈ l, b.kilos ≤ sumK l
  | [], _, b, hb => by cases hb
  | x :: l, h, b, hb => by
    have h1 := sumK_nonneg h.tail
    have h0 := h.head
    have e2 : sumK (x :: l) = x.kilos + sumK l := rfl
    rcases List.mem_cons.1 hb with rfl | hb
    · omega
    · have := kilos_le_sum h.tail b hb
      omega
theorem drawL_length (l : List Brl) (t n : Int) : (drawL l t n).length ≤ l.length := by
  refine Nat.le_trans (List.length_filter_le _ _) ?_
  rw [sweep_length]; exact Nat.le_refl _
structure PlayOk (S : Sup) (plan b : List Int) (p : Pl) : Prop where
  bk : Books S plan b p
  s : p.ship ≤ S.ships.length
  f : p.flight ≤ S.burns.length
  n : p.barrels.length ≤ 30 + 9 * p.ship
theorem playOk_first {S : Sup} (hS : SupOk S) (plan b : List Int) : PlayOk S plan b (.first S) :=
  ⟨⟨fit_first hS, by simp [Pl.first], by simp [Pl.first], rfl, by simp [Pl.first, sumTo]⟩, Nat.zero_le _, Nat.zero_le _, by simpa [Pl.first] using hS.nb⟩
theorem playOk_clear {S : Sup} {plan b : List Int} {p : Pl} (h : PlayOk S plan b p) (t : Int) : PlayOk S plan b (clearP t p) :=
  ⟨books_clear h.bk t, h.s, h.f, Nat.le_trans (List.length_filter_le _ _) h.n⟩
theorem playOk_load {S : Sup} (hS : SupOk S) {plan b : List Int} (hpl : PlanOk S plan) {p : Pl} (h : PlayOk S plan b p) (t : Int) : PlayOk S plan b (loadP S plan t p) := by
  refine ⟨books_load hS hpl h.bk t, ?_, ?_, ?_⟩
  all_goals unfold loadP
  all_goals split
  · rename_i hc; exact hc.1
  · exact h.s
  · exact h.f
  · exact h.f
  · rename_i hc
    have h1 := hpl.each p.ship hc.1
    have h2 := (hS.ship p.ship hc.1).2.1
    have h3 := h.n
    simp only [gi_geti] at h1
    simp [comes]; omega
  · exact h.n
theorem playOk_draw {S : Sup} {plan b : List Int} (hb : BurnsOk S b) {p : Pl} (h : PlayOk S plan b p) {t : Int} (h1 : p.flight < S.burns.length) (hh : ¬ hasL p.barrels t < gi b p.flight) : PlayOk S plan b { p with barrels := drawL p.barrels t (gi b p.flight), drawn := p.drawn + gi b p.flight, flight := p.flight + 1 } := by
  obtain ⟨⟨g1, g2, g3, g4, g5⟩, h2, h3, h4⟩ := h
  have he := hb.each p.flight h1
  have hs := drawL_sum g1.pos g1.til he.1 (Int.not_lt.1 hh)
  exact ⟨⟨g1.draw he.1, by simp only [hs]; omega, g3, by simp only [sumTo, g4], g5⟩, h2, h1, Nat.le_trans (drawL_length _ _ _) h4⟩
theorem playOk_fly {S : Sup} {plan b : List Int} (hb : BurnsOk S b) {t : Int} : ∀ (c : Nat) {p : Pl}, PlayOk S plan b p → PlayOk S plan b (flyP S b t c p).1
  | 0, p, h => h
  | c + 1, p, h => by
    simp only [flyP]
    split
    · rename_i hc
      split
      · exact h
      · rename_i hh
        exact playOk_fly hb c (playOk_draw hb h hc.1 hh)
    · exact h
theorem playOk_run {S : Sup} (hS : SupOk S) {plan b : List Int} (hpl : PlanOk S plan) (hb : BurnsOk S b) : ∀ n, PlayOk S plan b (runP S plan b n).1
  | 0 => playOk_first hS plan b
  | n + 1 => by
    have ih := playOk_run hS hpl hb n
    rw [runP]
    split
    · exact ih
    · exact playOk_fly hb _ (playOk_load hS hpl (playOk_clear ih _) _)
structure PlayNum (p : Pl) : Prop where
  came : 0 ≤ p.came ∧ p.came ≤ 1000000
  drawn : 0 ≤ p.drawn ∧ p.drawn ≤ 2000000
  waste : 0 ≤ p.waste ∧ p.waste ≤ 1000000
  sum : 0 ≤ sumK p.barrels ∧ sumK p.barrels ≤ 1000000
  n : p.barrels.length ≤ 84
  k : KilOk p.barrels
theorem PlayOk.num {S : Sup} (hS : SupOk S) {plan b : List Int} (hpl : PlanOk S plan) (hb : BurnsOk S b) {p : Pl} (h : PlayOk S plan b p) : PlayNum p := by
  have hns := hS.ns
  have hnf := hS.nf
  have hs := h.s
  have hf := h.f
  have hk := hS.k
  have c1 := sumTo_le (l := plan) (c := 9) (k := p.ship) (by omega) fun i hi => by
    have h1 := hpl.each i (by omega)
    have h2 := (hS.ship i (by omega)).2.1
    omega
  have c2 := sumTo_le (l := b) (c := 30000) (k := p.flight) (by omega) fun i hi => hb.each i (by omega)
  have c3 : 0 ≤ sumTo plan p.ship * S.kilos ∧ sumTo plan p.ship * S.kilos ≤ 54 * 1000 := by
    refine ⟨Int.mul_nonneg c1.1 (by omega), Int.mul_le_mul (by omega) (by omega) (by omega) (by omega)⟩
  have s0 := sumK_le (c := 1000) (by omega) (l := S.barrels) fun x hx => by have := hS.pos x hx; omega
  have hnb := hS.nb
  have s1 := sumK_nonneg h.bk.fit.pos
  have e1 := h.bk.sum
  have e2 := h.bk.came
  have e3 := h.bk.drawn
  have e4 := h.bk.waste
  have hn := h.n
  have hlen : p.barrels.length ≤ 84 := by omega
  refine ⟨by omega, by omega, by omega, by omega, hlen, ⟨by omega, fun x hx => ?_⟩⟩
  have := kilos_le_sum h.bk.fit.pos x hx
  have := h.bk.fit.pos x hx
  omega
end Go.Qg

namespace Go.Qg
open Go.Proofs
set_option maxRecDepth 100000
set_option linter.unusedSimpArgs false
set_option maxHeartbeats 4000000
attribute [local irreducible] pwp pops pdraw pop popCall pdCall thenP blockP scopeP pspec Spec answers ppost CallW
def lackV (i : Nat) : PV := .ifc 153 (.agg [.v (.int .i64 i)])
def outIf (c : Bool) (q r : PV) (H : PF) : Out := if c = true then .pan q H else .ret r H
theorem fly_spec (S : Sup) (hS : SupOk S) (plan b : List Int) (hpl : PlanOk S plan) (hb : BurnsOk S b) (t first left : Int) (ht : 0 ≤ t ∧ t ≤ 400) (p : Pl) (h : PlayOk S plan b p) :
    CallW Try.prog 104 [.ref 0 0] [.box false (playX S plan b t first left p (brlL p.barrels))] (fun out => out =
      outIf (flyP S b t (S.burns.length - p.flight) p).2 (lackV (flyP S b t (S.burns.length - p.flight) p).1.flight) (.tup []) [.box false (playX S plan b t first left (flyP S b t (S.burns.length - p.flight) p).1 (brlL (flyP S b t (S.burns.length - p.flight) p).1.barrels))]) := by
  suffices H : ∀ Q : Out → Prop, Q (outIf (flyP S b t (S.burns.length - p.flight) p).2 (lackV (flyP S b t (S.burns.length - p.flight) p).1.flight) (.tup []) [.box false (playX S plan b t first left (flyP S b t (S.burns.length - p.flight) p).1 (brlL (flyP S b t (S.burns.length - p.flight) p).1.barrels))]) → CallW Try.prog 104 [.ref 0 0] [.box false (playX S plan b t first left p (brlL p.barrels))] Q from H _ rfl
  intro Q hQ
  have hnf := hS.nf
  have hblen := hb.len
  refine callW_of mixed Try.func104 (by decide) rfl (congrArg Array.toList Try.results104) Try.ntmps104 (by decide) 87 (by simp) (by decide) ?_
  simp [playX, Sup.cells, brlL, burL, shpL, ints]
  refine pwp_loopW (fun q : Pl => [.ref 87 0, .undef, .undef, .undef, .undef, .undef, .undef, .undef, .undef, .undef, .undef, .undef, .undef, .undef, .undef, .undef, .undef, .undef, .undef, .undef, .undef, .undef, .undef, .undef, .undef, .undef, .undef, .undef, .undef, .undef, .undef, .undef, .undef, .undef, .undef, .undef, .undef, .undef, .undef, .undef, .undef, .undef, .undef, .undef, .undef, .undef, .undef, .undef, .undef, .undef, .undef, .undef, .undef, .undef, .undef, .undef, .undef, .undef, .undef, .undef, .undef, .undef, .undef, .undef, .undef, .undef, .undef, .undef, .undef, .undef, .undef, .undef, .undef, .undef, .undef, .undef, .undef, .undef, .undef, .undef, .undef, .undef, .undef, .undef, .undef, .undef, .undef, .box false (playX S plan b t first left q (brlL q.barrels))]) (fun q => PlayOk S plan b q ∧ flyP S b t (S.burns.length - q.flight) q = flyP S b t (S.burns.length - p.flight) p) (fun q => S.burns.length - q.flight) p ⟨h, rfl⟩ ?_ ?_
  · simp [playX, Sup.cells, brlL, burL, shpL, ints]
  · rintro q ⟨hq, he⟩
    have num := hq.num hS hpl hb
    have hf := hq.f
    simp [playX, Sup.cells, brlL, burL, shpL, ints]
    refine pwp_draw 30 (by decide) ?_
    by_cases h1 : q.flight < S.burns.length
    · have hburn := hS.burn q.flight h1
      have hbe := hb.each q.flight h1
      simp only [gi_geti] at hbe
      obtain ⟨m, hm⟩ : ∃ m, S.burns.length - q.flight = m + 1 := ⟨S.burns.length - q.flight - 1, by omega⟩
      by_cases h2 : (burAt S.burns q.flight).day = t
      · rw [hm, flyP, if_pos ⟨h1, h2⟩] at he
        simp (config := { maxSteps := 4000000 }) [h1, h2, Bur.cells]
        refine ⟨by decide, ?_⟩
        refine pwp_draw 11 (by decide) ?_
        simp (config := { maxSteps := 4000000 }) [h1, h2, hblen]
        refine ⟨by decide, ?_⟩
        refine pwp_draw 15 (by decide) ?_
        simp (config := { maxSteps := 4000000 })
        refine pd_spec (draw_spec q.barrels t (geti b q.flight) num.k hq.bk.fit.pos (by have := num.n; omega) hq.bk.fit.til (by omega)) rfl (by simp) (by simp [brlL]) (by simp [brlL]) ?_
        by_cases h3 : hasL q.barrels t < gi b q.flight
        · rw [if_pos h3] at he
          rw [← he] at hQ
          simp only [gi_geti] at h3
          simp (config := { maxSteps := 4000000 }) [h3, Int.not_le.2 h3, brlL]
          refine ⟨by decide, ?_⟩
          refine ends_pan (lackV q.flight) [.box false (playX S plan b t first left q (brlL q.barrels))] [] (by decide) ?_ ?_ hQ
          · simp [playX, Sup.cells, brlL, burL, shpL, ints, Bur.cells, hblen]
          · simp [lackV]
        · have hok := playOk_draw hb hq h1 h3
          rw [if_neg h3] at he
          simp only [gi_geti] at h3 hok he
          have e4 : drawR q.barrels t (geti b q.flight) = drawL q.barrels t (geti b q.flight) := by simp [drawR, h3]
          simp (config := { maxSteps := 4000000 }) [h3, Int.not_lt.1 h3, e4, brlL]
          refine ⟨by decide, ?_⟩
          have nd := num.drawn
          simp (config := { maxSteps := 4000000 }) [i64_wrap (show -9223372036854775808 ≤ q.drawn + geti b q.flight ∧ _ from by omega), i64_wrap (show -9223372036854775808 ≤ (q.flight : Int) + 1 ∧ _ from by omega)]
          refine againW_of { q with barrels := drawL q.barrels t (geti b q.flight), drawn := q.drawn + geti b q.flight, flight := q.flight + 1 } ⟨hok, ?_⟩ (by simp; omega) ?_
          · rw [← he, show S.burns.length - (q.flight + 1) = m from by omega]
          · simp (config := { maxSteps := 4000000 }) [playX, Sup.cells, brlL, burL, shpL, ints, Bur.cells, hblen]
      · rw [hm, flyP, if_neg (by omega)] at he
        simp (config := { maxSteps := 4000000 }) [h1, h2, Bur.cells]
        refine ⟨by decide, ?_⟩
        rw [← he] at hQ
        refine ends_n (.tup []) [.box false (playX S plan b t first left q (brlL q.barrels))] [] rfl (by decide) ?_ ?_ hQ
        · simp [playX, Sup.cells, brlL, burL, shpL, ints, Bur.cells, hblen]
        · simp
    · have hz : S.burns.length - q.flight = 0 := by omega
      rw [hz, flyP] at he
      simp (config := { maxSteps := 4000000 }) [h1, Bur.cells]
      refine ⟨by decide, ?_⟩
      rw [← he] at hQ
      refine ends_n (.tup []) [.box false (playX S plan b t first left q (brlL q.barrels))] [] rfl (by decide) ?_ ?_ hQ
      · simp [playX, Sup.cells, brlL, burL, shpL, ints, Bur.cells, hblen]
      · simp
end Go.Qg

namespace Go.Qg
open Go.Proofs
set_option maxRecDepth 100000
set_option linter.unusedSimpArgs false
set_option maxHeartbeats 4000000
attribute [local irreducible] pwp pops pdraw pop popCall pdCall thenP blockP scopeP pspec Spec answers ppost CallW
def dayV (k : Nat) : PV := .v (.int .i64 k)
theorem lastD_bound {S : Sup} (hS : SupOk S) : -1 ≤ lastD S ∧ lastD S ≤ 400 := by
  have h1 : 0 < S.burns.length → _ := fun h => hS.burn (S.burns.length - 1) (by omega)
  have h2 : 0 < S.ships.length → _ := fun h => hS.ship (S.ships.length - 1) (by omega)
  unfold lastD
  simp only
  split <;> split <;> omega
def daysG (l : Nat) (n : Int) : PF := [.undef, .clo (.yield l) [] [], .undef, .undef, .undef, .undef, .undef, .undef, .undef, .undef, .undef, .undef, .undef, .undef, .undef, .undef, .undef, .undef, .undef, .undef, .undef, .undef, .undef, .undef, .undef, .undef, .undef, .undef, .undef, .undef, .undef, .undef, .undef, .undef, .undef, .undef, .undef, .undef, .undef, .undef, .undef, .undef, .undef, .undef, .undef, .undef, .undef, .v (.int .i64 n), .v (.int .i64 0), .undef, .undef, .undef, .undef, .undef, .undef, .undef]
theorem days_gen (S : Sup) (hS : SupOk S) (plan b : List Int) (t first left : Int) (p : Pl) : GenW1 Try.prog 105 [.rp (playX S plan b t first left p (brlL p.barrels)) 0] [] ((List.range (days S)).map dayV) := by
  have hnf := hS.nf
  have hns := hS.ns
  have hlast := lastD_bound hS
  refine gen_of1S mixed Try.func105 (by decide) rfl (.more _ (.more _ (.more _ (.one _ _)))) Try.results105 Try.ntmps105 (by decide) 0 (by simp) fun l Rb J henv => ?_
  have hlo : ∀ s B, GCtx 56 Rb J s B → B.lo = 56 := fun _ _ h => h.1
  refine pwp_mono _ (thenP_mono (K := fun fr => less 56 fr (daysG l (lastD S + 1))) (Q := fun _ _ => False) (fun fr h => ?_) fun _ _ h => h) ?_
  · · refine ⟨daysG l (lastD S + 1), h, rfl, ?_⟩
      simp only [daysG]
      refine XW_block ?_
      refine XW_loopV hlo (fun k : Nat => [(48, .v (.int .i64 k))]) (fun k => GS.on k) (fun k => k ≤ days S) (fun k => days S - k) 0 (Nat.zero_le _) rfl (by simp; rfl) (by simp) ?_
      intro k hk
      have hd : (days S : Int) = lastD S + 1 := by unfold days; omega
      refine XW_seqP mixed hlo (by decide) ?_
      by_cases hlt : k < days S
      · have wk := i64_wrap (show -9223372036854775808 ≤ (k : Int) + 1 ∧ _ from by omega)
        simp [show (k : Int) < lastD S + 1 from by omega]
        refine XW_seqP mixed hlo (by decide) ?_
        simp
        refine XW_seqX (XW_block ?_)
        refine XW_seqP mixed hlo (by decide) ?_
        simp
        refine XW_seqX (XW_yieldS (m := 2) henv (by decide) (by decide) ?_)
        simp
        simp [pyield, yargs]
        refine ⟨⟨k, ?_, rfl⟩, ?_, ?_⟩
        · simp [hlt]
        · refine XW_pwp mixed hlo (by decide) ?_
          simp
          refine XW_pwp mixed hlo (by decide) ?_
          simp [wk]
          refine againX_of (k + 1) (by omega) (by omega) rfl ?_
          simp
        · refine XW_pwp mixed hlo (by decide) ?_
          simp
      · simp [show ¬ (k : Int) < lastD S + 1 from by omega]
        refine XW_pwp mixed hlo (by decide) ?_
        simp
        omega
  simp (config := { maxSteps := 4000000 }) [playX, Sup.cells, brlL, burL, shpL, ints]
  have wl : IntKind.i64.wrap (lastD S + 1) = lastD S + 1 := i64_wrap (by omega)
  have f1 : 0 < S.burns.length → IntKind.i64.wrap ((S.burns.length : Int) - 1) = (S.burns.length : Int) - 1 ∧ ((S.burns.length : Int) - 1).toNat = S.burns.length - 1 := fun h => ⟨i64_wrap (by omega), by omega⟩
  have f2 : 0 < S.ships.length → IntKind.i64.wrap ((S.ships.length : Int) - 1) = (S.ships.length : Int) - 1 ∧ ((S.ships.length : Int) - 1).toNat = S.ships.length - 1 := fun h => ⟨i64_wrap (by omega), by omega⟩
  by_cases h1 : 0 < S.burns.length <;> by_cases h2 : 0 < S.ships.length
  · obtain ⟨w1, w3⟩ := f1 h1
    obtain ⟨w2, w4⟩ := f2 h2
    have hX : (if (burAt S.burns (S.burns.length - 1)).day < (shpAt S.ships (S.ships.length - 1)).day then (shpAt S.ships (S.ships.length - 1)).day else (burAt S.burns (S.burns.length - 1)).day) = lastD S := by
      simp only [lastD, h1, h2, if_true]; split <;> omega
    simp (config := { maxSteps := 4000000 }) [h1, h2, Bur.cells, Shp.cells, w1, w2, w3, w4, show (1:Int) ≤ (S.burns.length : Int) from by omega, show (S.burns.length : Int) - 1 < (S.burns.length : Int) from by omega, show (1:Int) ≤ (S.ships.length : Int) from by omega, show (S.ships.length : Int) - 1 < (S.ships.length : Int) from by omega, hX, wl]
    simp [daysG]
  · obtain ⟨w1, w3⟩ := f1 h1
    have hX : (burAt S.burns (S.burns.length - 1)).day = lastD S := by simp only [lastD, h1, h2, if_true, if_false]
    simp (config := { maxSteps := 4000000 }) [h1, h2, Bur.cells, Shp.cells, w1, w3, show (1:Int) ≤ (S.burns.length : Int) from by omega, show (S.burns.length : Int) - 1 < (S.burns.length : Int) from by omega, hX, wl]
    simp [daysG]
  · obtain ⟨w2, w4⟩ := f2 h2
    have hX : (if -1 < (shpAt S.ships (S.ships.length - 1)).day then (shpAt S.ships (S.ships.length - 1)).day else -1) = lastD S := by
      simp only [lastD, h1, h2, if_true, if_false]; split <;> omega
    simp (config := { maxSteps := 4000000 }) [h1, h2, Bur.cells, Shp.cells, w2, w4, show (1:Int) ≤ (S.ships.length : Int) from by omega, show (S.ships.length : Int) - 1 < (S.ships.length : Int) from by omega, hX, wl]
    simp [daysG]
  · have hX : (-1 : Int) = lastD S := by simp only [lastD, h1, h2, if_false]
    have w0 : IntKind.i64.wrap (-1 + 1) = lastD S + 1 := by rw [← hX]; rfl
    simp (config := { maxSteps := 4000000 }) [h1, h2, Bur.cells, Shp.cells]
    simp [daysG, ← hX]
end Go.Qg

namespace Go.Qg
open Go.Proofs
set_option maxRecDepth 100000
set_option linter.unusedSimpArgs false
set_option maxHeartbeats 4000000
attribute [local irreducible] pwp pops pdraw pop popCall pdCall thenP blockP scopeP pspec Spec answers ppost CallW
theorem load_spec (S : Sup) (hS : SupOk S) (plan b : List Int) (hpl : PlanOk S plan) (hb : BurnsOk S b) (t first left : Int) (ht : 0 ≤ t ∧ t ≤ 400) (p : Pl) (h : PlayOk S plan b p) (ep : Nat) :
    CallW Try.prog 103 [.ref 0 0] [.box false (playX S plan b t first left p (.own 1 ep 0 p.barrels.length false)), .rows none ep 54 2 (rowsBr p.barrels)] (fun out => ∃ ep', out = .ret (.tup []) [.box false (playX S plan b t first left (loadP S plan t p) (.own 1 ep' 0 (loadP S plan t p).barrels.length false)), .rows none ep' 54 2 (rowsBr (loadP S plan t p).barrels)]) := by
  suffices H : ∀ Q : Out → Prop, (∀ ep', Q (.ret (.tup []) [.box false (playX S plan b t first left (loadP S plan t p) (.own 1 ep' 0 (loadP S plan t p).barrels.length false)), .rows none ep' 54 2 (rowsBr (loadP S plan t p).barrels)])) → CallW Try.prog 103 [.ref 0 0] [.box false (playX S plan b t first left p (.own 1 ep 0 p.barrels.length false)), .rows none ep 54 2 (rowsBr p.barrels)] Q from H _ fun ep' => ⟨ep', rfl⟩
  intro Q hQ
  have num := h.num hS hpl hb
  have hns := hS.ns
  refine callW_of mixed Try.func103 (by decide) rfl (congrArg Array.toList Try.results103) Try.ntmps103 (by decide) 101 (by simp) (by decide) ?_
  simp [playX, Sup.cells, brlL, burL, shpL, ints]
  refine pwp_draw 30 (by decide) ?_
  have hs := h.s
  by_cases h1 : p.ship = S.ships.length
  · simp [h1]
    refine ⟨by decide, ?_⟩
    have e : loadP S plan t p = p := by simp [loadP, h1]
    rw [e] at hQ
    refine ends_of (.tup []) [.box false (playX S plan b t first left p (.own 1 ep 0 p.barrels.length false)), .rows none ep 54 2 (rowsBr p.barrels)] [] rfl (by decide) ?_ ?_ (hQ ep)
    · simp [playX, Sup.cells, brlL, burL, shpL, ints, h1]
    · simp
  · have h1' : p.ship < S.ships.length := by omega
    have hsp := hS.ship p.ship h1'
    have hpe := hpl.each p.ship h1'
    have hplen := hpl.len
    have h1i : ¬ (p.ship : Int) = S.ships.length := by omega
    have h1b : ((p.ship : Int) == (S.ships.length : Int)) = false := by simpa using h1i
    simp only [gi_geti] at hpe
    by_cases h2 : (shpAt S.ships p.ship).day = t
    · have w0 : IntKind.i64.wrap (t + (shpAt S.ships p.ship).good) = t + (shpAt S.ships p.ship).good := i64_wrap (by omega)
      have hmin : (if t + (shpAt S.ships p.ship).good < 400 then t + (shpAt S.ships p.ship).good else 400) = min 400 (t + (shpAt S.ships p.ship).good) := by split <;> omega
      have eL : loadP S plan t p = { p with barrels := p.barrels ++ comes S plan p.ship, came := p.came + gi plan p.ship * S.kilos, ship := p.ship + 1 } := by simp only [loadP]; rw [if_pos ⟨h1', h2⟩]
      rw [eL] at hQ
      simp (config := { maxSteps := 4000000 }) [h1i, h1b, h1', h2, Shp.cells]
      refine ⟨by decide, ?_⟩
      refine pwp_draw 19 (by decide) ?_
      simp (config := { maxSteps := 4000000 }) [h1i, h1b, h1', h2, Shp.cells, w0, hmin]
      refine ⟨by decide, ?_⟩
      refine pwp_draw 11 (by decide) ?_
      simp (config := { maxSteps := 4000000 }) [h1i, h1b, h1', h2, hplen]
      refine ⟨by decide, ?_⟩
      obtain ⟨c, hc⟩ : ∃ c : Nat, geti plan p.ship = (c : Int) := ⟨(geti plan p.ship).toNat, by omega⟩
      refine pwp_loop (fun j : Nat => [(61, .v (.int .i64 j)), (101, .box false (playX S plan b t first left { p with came := p.came + j * S.kilos } (.own 102 (ep + j) 0 (p.barrels.length + j) false))), (102, .rows none (ep + j) 54 2 (rowsBr (p.barrels ++ List.replicate j ⟨S.kilos, min 400 (t + (shpAt S.ships p.ship).good)⟩)))]) (fun j => j ≤ c) (fun j => c - j) 0 (Nat.zero_le _) (by simp; rfl) ?_ ?_
      · simp [playX, Sup.cells, brlL, burL, shpL, ints, Shp.cells, hplen]
      · intro j hj
        have hk := hS.k
        have hn := num.n
        have hcame := num.came
        have hr := hsp.2.1
        have hjk : 0 ≤ (j : Int) * S.kilos ∧ (j : Int) * S.kilos ≤ 9 * 1000 := ⟨Int.mul_nonneg (by omega) (by omega), Int.mul_le_mul (by omega) (by omega) (by omega) (by omega)⟩
        have hjs : ((j + 1 : Nat) : Int) * S.kilos = j * S.kilos + S.kilos := by push_cast; rw [Int.add_mul, Int.one_mul]
        by_cases hjc : j < c
        · have hrep : p.barrels ++ List.replicate (j + 1) ⟨S.kilos, min 400 (t + (shpAt S.ships p.ship).good)⟩ = (p.barrels ++ List.replicate j ⟨S.kilos, min 400 (t + (shpAt S.ships p.ship).good)⟩) ++ [⟨S.kilos, min 400 (t + (shpAt S.ships p.ship).good)⟩] := by rw [List.replicate_succ', List.append_assoc]
          simp (config := { maxSteps := 4000000 }) [hc, hjc]
          refine pwp_draw 17 (by decide) ?_
          simp (config := { maxSteps := 4000000 }) [playX, Sup.cells, brlL, burL, shpL, ints, Shp.cells, show (p.barrels.length + j + 1) * 16 ≤ 140737488355328 from by omega, show p.barrels.length + j + 1 ≤ maxLen from by simp [maxLen]; omega]
          refine ⟨by decide, ?_⟩
          refine pwp_draw 15 (by decide) ?_
          simp (config := { maxSteps := 4000000 }) [i64_wrap (show -9223372036854775808 ≤ p.came + (j : Int) * S.kilos + S.kilos ∧ _ from by omega)]
          refine ⟨by decide, ?_⟩
          refine again_of (j + 1) (by omega) (by omega) ?_
          have e2 : ∀ l, rowsBr l ++ [[.v (.int .i64 S.kilos), .v (.int .i64 (min 400 (t + (shpAt S.ships p.ship).good)))]] = rowsBr (l ++ [⟨S.kilos, min 400 (t + (shpAt S.ships p.ship).good)⟩]) := fun l => rowsBr_snoc' l ⟨S.kilos, min 400 (t + (shpAt S.ships p.ship).good)⟩
          simp (config := { maxSteps := 4000000 }) [playX, Sup.cells, brlL, burL, shpL, ints, Shp.cells, hplen, i64_wrap (show -9223372036854775808 ≤ (j : Int) + 1 ∧ _ from by omega), hrep, e2]
          have etk : List.take (p.barrels.length + j) (p.barrels ++ List.replicate j (⟨S.kilos, min 400 (t + (shpAt S.ships p.ship).good)⟩ : Brl)) = p.barrels ++ List.replicate j ⟨S.kilos, min 400 (t + (shpAt S.ships p.ship).good)⟩ := List.take_of_length_le (by simp)
          refine ⟨⟨by omega, by rw [Int.add_mul, Int.one_mul, Int.add_assoc]⟩, by omega, ?_⟩
          rw [etk, List.append_assoc]
        · obtain rfl : j = c := by omega
          simp (config := { maxSteps := 4000000 }) [hc, hjc, playX, Sup.cells, brlL, burL, shpL, ints, Shp.cells, i64_wrap (show -9223372036854775808 ≤ (p.ship : Int) + 1 ∧ _ from by omega)]
          have eC : comes S plan p.ship = List.replicate j ⟨S.kilos, min 400 (t + (shpAt S.ships p.ship).good)⟩ := by simp only [comes, gi_geti, hc, h2]; rfl
          refine ends_n (.tup []) [.box false (playX S plan b t first left { p with barrels := p.barrels ++ comes S plan p.ship, came := p.came + gi plan p.ship * S.kilos, ship := p.ship + 1 } (.own 1 (ep + j) 0 (p.barrels ++ comes S plan p.ship).length false)), .rows none (ep + j) 54 2 (rowsBr (p.barrels ++ comes S plan p.ship))] [] rfl (by decide) ?_ ?_ (hQ (ep + j))
          · simp (config := { maxSteps := 4000000 }) [playX, Sup.cells, brlL, burL, shpL, ints, Shp.cells, hc, eC, hplen]
          · simp
    · simp (config := { maxSteps := 4000000 }) [h1i, h1b, h1', h2, Shp.cells]
      refine ⟨by decide, ?_⟩
      have e : loadP S plan t p = p := by simp [loadP, h2]
      rw [e] at hQ
      refine ends_of (.tup []) [.box false (playX S plan b t first left p (.own 1 ep 0 p.barrels.length false)), .rows none ep 54 2 (rowsBr p.barrels)] [] rfl (by decide) ?_ ?_ (hQ ep)
      · simp [playX, Sup.cells, brlL, burL, shpL, ints, Shp.cells]
      · simp
theorem Books.flyfit {S : Sup} {plan b : List Int} {p : Pl} (h : PlayOk S plan b p) : Pos p.barrels ∧ ∀ x ∈ p.barrels, x.til ≤ 400 := ⟨h.bk.fit.pos, h.bk.fit.til⟩
end Go.Qg

namespace Go.Qg
open Go.Proofs
set_option maxRecDepth 100000
set_option linter.unusedSimpArgs false
set_option maxHeartbeats 4000000
attribute [local irreducible] pwp pops pdraw pop popCall pdCall thenP blockP scopeP pspec Spec answers ppost CallW dleaves dpost dmidE DefW rend
theorem run1_none (x : Int) : DefW Try.prog 101 [.ref 0 0] [.box false [.v (.int .i64 x)]] none (fun H => H = [.box false [.v (.int .i64 x)]]) := by
  refine def_ofL mixed Try.func101 (by decide) rfl rfl rfl rfl Try.results101 Try.ntmps101 (by decide) (by decide) (fun p hp => by cases hp) 12 (by decide) (by decide) rfl ?_
  simp
  refine dleaves_n [.box false [.v (.int .i64 x)]] ?_ rfl
  simp
theorem run1_some (x : Int) (i : Nat) : DefW Try.prog 101 [.ref 0 0] [.box false [.v (.int .i64 x)]] (some (lackV i)) (fun H => H = [.box false [.v (.int .i64 i)]]) := by
  unfold lackV
  refine def_ofL mixed Try.func101 (by decide) rfl rfl rfl rfl Try.results101 Try.ntmps101 (by decide) (by decide) (fun p hp => by obtain rfl := Option.some.inj hp; exact ⟨rfl, rfl⟩) 12 (by decide) (by decide) rfl ?_
  simp
  refine dleaves_n [.box false [.v (.int .i64 i)]] ?_ rfl
  simp
theorem run_const {S : Sup} {plan b : List Int} {n : Nat} (h : (runP S plan b n).2 = true) : ∀ {m : Nat}, n ≤ m → runP S plan b m = runP S plan b n
  | 0, hm => by obtain rfl : n = 0 := by omega
                rfl
  | m + 1, hm => by
    rcases Nat.lt_or_eq_of_le hm with hm | rfl
    · have ih := run_const h (m := m) (by omega)
      rw [runP, if_pos (by rw [ih]; exact h), ih]
    · rfl
theorem Pl.first_barrels (S : Sup) : (Pl.first S).barrels = S.barrels := rfl
theorem Play2_spec : Spec Try.prog 73 [] (.tup []) := by
  refine spec_of mixed Try.func73 (by decide) rfl Try.results73 Try.ntmps73 (by decide) 1 (by simp) ?_
  simp
  refine answers_of rfl ?_; simp
def dayAt : Nat → Int
  | 0 => 0
  | n + 1 => n
theorem run_spec (sf : FuncId) (hsf : Spec Try.prog sf [] (.tup [])) (S : Sup) (hS : SupOk S) (plan b : List Int) (hpl : PlanOk S plan) (hb : BurnsOk S b) (first left : Int) :
    CallW Try.prog 72 [.ref 0 0, .clo (.func sf) [] []] [.box false (playX S plan b 0 first left (.first S) (brlL S.barrels))] (fun out => ∃ t, out =
      .ret (.v (.int .i64 (lackI (runP S plan b (days S)).2 (runP S plan b (days S)).1.flight))) [.box false (playX S plan b t first left (runP S plan b (days S)).1 (brlL (runP S plan b (days S)).1.barrels))]) := by
  have hlast := lastD_bound hS
  have hdays : (days S : Int) = lastD S + 1 := by unfold days; omega
  suffices H : ∀ Q : Out → Prop, (∀ t, Q (.ret (.v (.int .i64 (lackI (runP S plan b (days S)).2 (runP S plan b (days S)).1.flight))) [.box false (playX S plan b t first left (runP S plan b (days S)).1 (brlL (runP S plan b (days S)).1.barrels))])) → CallW Try.prog 72 [.ref 0 0, .clo (.func sf) [] []] [.box false (playX S plan b 0 first left (.first S) (brlL S.barrels))] Q from H _ fun t => ⟨t, rfl⟩
  intro Q hQ
  refine callW_ofDES mixed Try.func72 (by decide) rfl (.more _ (.one _ _)) rfl rfl rfl (congrArg Array.toList Try.results72) Try.ntmps72 (by decide) (by decide) (by decide) 33 (by simp) (by decide) ?_
  simp
  refine dmidE_of [.ref 2 0] 33 [2, 4] [.box false (playX S plan b 0 first left (.first S) (brlL S.barrels)), .box false [.ref 0 0], .box false [.v (.int .i64 (-1))]] [.undef, .clo (.func sf) [] [], .ref 1 0, .undef, .ref 2 0, .undef, .undef, .undef, .undef, .undef, .undef, .undef, .undef, .undef, .undef, .undef, .undef, .undef, .undef, .undef, .undef, .undef, .undef, .undef, .undef, .undef, .undef, .undef, .undef, .undef, .undef, .undef, .undef] rfl (by decide) (by decide) rfl ?_ ?_ ?_ (by simp) fun B0 hB0 => ?_
  · simp [playX, Sup.cells, brlL, burL, shpL, ints, Pl.first]
  · simp [slots]
  · simp
  have hlo : ∀ s B, ECtx B0 s B → B.lo = 33 := fun _ _ h => h.1.trans hB0
  simp
  refine XW_seqP mixed hlo (by decide) ?_
  simp
  refine XW_seqX (XW_seqP mixed hlo (by decide) ?_)
  simp
  refine XW_block ?_
  refine XW_range1 (by decide) mixed rfl [.rp (playX S plan b 0 first left (.first S) (brlL S.barrels)) 0] [] ?_ trivial (by simp [playX, Sup.cells, brlL, burL, shpL, ints, plainL, PV.plain, PV.free, PV.names]) rfl (days_gen S hS plan b 0 first left (.first S)) (fun p hp => ?_) (by decide) (by decide) 34 (by decide) [33, 34, 35, 5] (by decide)
    (fun n => if (runP S plan b n).2 = true then [] else [.undef, .undef, .ref 34 0, .undef, .ref 35 0, .box true [.clo (.func 102) [.ref 33 0] [], .clo (.func 103) [.ref 33 0] [], .clo (.func sf) [] [], .clo (.func 104) [.ref 33 0] []], .undef, .undef, .undef, .undef, .undef, .undef, .undef, .undef, .undef, .undef, .undef, .undef, .undef, .undef, .undef, .undef, .undef, .undef, .undef, .undef, .undef, .undef, .undef, .undef, .undef, .undef, .undef, .box false (playX S plan b (dayAt n) first left (runP S plan b n).1 (brlL (runP S plan b n).1.barrels)), .box false [.ref 33 0], .box false [.v (.int .i64 (-1))]])
    (fun n => [.undef, .undef, .ref 1 0, .undef, .ref 2 0, .ref 3 0, .undef, .undef, .undef, .undef, .undef, .undef, .undef, .undef, .undef, .undef, .undef, .undef, .undef, .undef, .undef, .undef, .undef, .undef, .undef, .undef, .undef, .undef, .undef, .undef, .undef, .undef, .undef])
    (fun n => [.box false (playX S plan b (dayAt n) first left (runP S plan b n).1 (brlL (runP S plan b n).1.barrels)), .box false [.ref 0 0], .box false [.v (.int .i64 (-1))], .box false [.clo (.func 102) [.ref 0 0] [], .clo (.func 103) [.ref 0 0] [], .clo (.func sf) [] [], .clo (.func 104) [.ref 0 0] []]])
    ?_ (fun n hn hv => ?_) (fun n p hp hv => ?_) fun hv => ?_
  · simp [playX, Sup.cells, brlL, burL, shpL, ints]
  · obtain ⟨k, _, rfl⟩ := List.mem_map.1 hp
    exact ⟨rfl, rfl⟩
  · rw [hB0]
    simp [runP, dayAt, playX, Sup.cells, brlL, burL, shpL, ints, Pl.first]
  · have hno : (runP S plan b n).2 = false := by
      cases h : (runP S plan b n).2 with
      | true => simp [h] at hv
      | false => rfl
    simp only [hno, Bool.false_eq_true, if_false]
    refine ⟨rfl, ?_, slots_view (t := 20) ?_ rfl⟩
    · simp [playX, Sup.cells, brlL, burL, shpL, ints]
    · simp [slots]
  · have hno : (runP S plan b n).2 = false := by
      cases h : (runP S plan b n).2 with
      | true => simp [h] at hv
      | false => rfl
    have hnd : n < days S ∧ p = dayV n := by
      have hl := lt_of_get? hp
      simp at hl
      simp [hl] at hp
      exact ⟨hl, hp.symm⟩
    obtain ⟨hnd, rfl⟩ := hnd
    simp only [hno, Bool.false_eq_true, if_false]
    rw [hB0]
    refine (fun h => h _ rfl : (∀ Qr, Qr = rend _ _ _ _ _ _ → pwp _ _ _ (thenP (pwp _ _ _ Qr) (fun _ _ => False)) _) → _) fun Qr hQr => ?_
    simp (config := { maxSteps := 4000000 }) [dayV, playX, Sup.cells, brlL, burL, shpL, ints]
    have num := (playOk_run hS hpl hb n).num hS hpl hb
    have hok := playOk_run hS hpl hb n
    have ht : (0 : Int) ≤ (n : Int) ∧ (n : Int) ≤ 400 := by omega
    generalize hp0 : (runP S plan b n).1 = p0 at num hok hQr
    have hok1 := playOk_clear hok n
    have hok2 := playOk_load hS hpl hok1 n
    have hday : dayP S plan b n p0 = flyP S b n (S.burns.length - (loadP S plan n (clearP n p0)).flight) (loadP S plan n (clearP n p0)) := rfl
    have hrun : runP S plan b (n + 1) = dayP S plan b n p0 := by rw [runP, if_neg (by rw [hno]; simp), hp0]
    refine pwp_loop1 ?_
    simp (config := { maxSteps := 4000000 })
    refine pop_callW (clear_spec S plan b n first left p0 num.k (by have := num.waste; omega)) rfl [34] false (by decide) ?_ (.inl ?_) ?_
    · simp [playX, Sup.cells, brlL, burL, shpL, ints]
    · simp
    rintro out ⟨ep, rfl⟩
    refine ⟨[33], ?_, .inl rfl, ?_, ?_⟩
    · simp [backOk]
    · simp [back, backV, placeAll, playX, Sup.cells, brlL, burL, shpL, ints]
    simp (config := { maxSteps := 4000000 }) [back, backV, placeAll, playX, Sup.cells, brlL, burL, shpL, ints]
    generalize hp1 : clearP n p0 = p1 at hok1 hok2 hday ⊢
    have el1 : (goodL p0.barrels n) = p1.barrels := by rw [← hp1]; rfl
    rw [el1]
    refine pwp_loop1 ?_
    simp (config := { maxSteps := 4000000 })
    refine pop_callW (load_spec S hS plan b hpl hb n first left ht p1 hok1 ep) rfl [34, 33] false (by decide) ?_ (.inl ?_) ?_
    · simp [playX, Sup.cells, brlL, burL, shpL, ints]
    · simp
    rintro out ⟨ep', rfl⟩
    refine ⟨[], ?_, .inl rfl, ?_, ?_⟩
    · simp [backOk]
    · simp [back, backV, placeAll, playX, Sup.cells, brlL, burL, shpL, ints]
    simp (config := { maxSteps := 4000000 }) [back, backV, placeAll, playX, Sup.cells, brlL, burL, shpL, ints]
    generalize hp2 : loadP S plan n p1 = p2 at hok2 hday ⊢
    refine pwp_loop_lessV [(33, .undef), (34, .box false (playX S plan b n first left p2 (brlL p2.barrels)))] ?_ ?_
    · simp (config := { maxSteps := 4000000 }) [playX, Sup.cells, brlL, burL, shpL, ints]
      intro k hk
      simp [rowsBr_get hk, Brl.cells]
    simp (config := { maxSteps := 4000000 }) [playX, Sup.cells, brlL, burL, shpL, ints]
    refine pwp_loop1 ?_
    simp (config := { maxSteps := 4000000 })
    refine pop_spec hsf rfl false (.inl (by simp)) (.inl rfl) rfl (by simp) ?_
    simp (config := { maxSteps := 4000000 })
    refine pwp_loop1 ?_
    simp (config := { maxSteps := 4000000 })
    refine pop_callW (fly_spec S hS plan b hpl hb n first left ht p2 hok2) rfl [34] false (by decide) ?_ (.inl ?_) ?_
    · simp [playX, Sup.cells, brlL, burL, shpL, ints]
    · simp
    rintro out rfl
    rw [← hday]
    rw [← hrun]
    generalize hp3 : runP S plan b (n + 1) = p3 at hQr ⊢
    unfold outIf
    cases hc : p3.2 with
    | true =>
      have hfin : runP S plan b (days S) = p3 := by rw [← hp3]; exact run_const (by rw [hp3]; exact hc) (by omega)
      rw [hfin, hc] at hQ
      simp only [if_true]
      refine ⟨[], ?_, .inl trivial, ?_⟩
      · simp [backOk]
      simp (config := { maxSteps := 4000000 }) [back, backV, placeAll, playX, Sup.cells, brlL, burL, shpL, ints]
      rw [hQr]
      refine rend_p rfl rfl [.box false (playX S plan b n first left p3.1 (brlL p3.1.barrels)), .box false [.ref 0 0], .box false [.v (.int .i64 (-1))], .box false [.clo (.func 102) [.ref 0 0] [], .clo (.func 103) [.ref 0 0] [], .clo (.func sf) [] [], .clo (.func 104) [.ref 0 0] []]] ?_ ?_
      · simp [playX, Sup.cells, brlL, burL, shpL, ints]
      simp (config := { maxSteps := 4000000 }) [back, backV, placeAll, playX, Sup.cells, brlL, burL, shpL, ints]
      refine dpost_p rfl rfl ?_
      refine dend_of [35] [.box false [.v (.int .i64 (-1))]] [.ref 0 0] (by decide) ?_ ?_ (run1_some (-1) p3.1.flight) rfl rfl (.v (.int .i64 p3.1.flight)) [.box false (playX S plan b n first left p3.1 (brlL p3.1.barrels))] [] ?_ (hQ n)
      · simp
      · simp
      · refine ⟨by decide, ?_, ?_⟩
        · simp [back, placeAll, playX, Sup.cells, brlL, burL, shpL, ints]
        · simp [back, placeAll]
    | false =>
      simp only [Bool.false_eq_true, if_false]
      refine ⟨[], ?_, .inl trivial, ?_, ?_⟩
      · simp [backOk]
      · simp [back, backV, placeAll, playX, Sup.cells, brlL, burL, shpL, ints]
      simp (config := { maxSteps := 4000000 }) [back, backV, placeAll, playX, Sup.cells, brlL, burL, shpL, ints, show IntKind.i64.wrap 4 = 4 from rfl]
      refine pwp_loop1 ?_
      simp (config := { maxSteps := 4000000 }) [show IntKind.i64.wrap 4 = 4 from rfl]
      rw [hQr]
      refine rend_n [.box false (playX S plan b n first left p3.1 (brlL p3.1.barrels)), .box false [.ref 0 0], .box false [.v (.int .i64 (-1))], .box false [.clo (.func 102) [.ref 0 0] [], .clo (.func 103) [.ref 0 0] [], .clo (.func sf) [] [], .clo (.func 104) [.ref 0 0] []]] ?_ ?_
      · simp [playX, Sup.cells, brlL, burL, shpL, ints]
      · simp (config := { maxSteps := 4000000 }) [back, placeAll, hc, dayAt, playX, Sup.cells, brlL, burL, shpL, ints]
  · simp at hv
    simp only [List.length_map, List.length_range, hv, Bool.false_eq_true, if_false]
    refine XW_pwp mixed hlo (by decide) ?_
    rw [hv] at hQ
    simp
    refine dpost_r ?_
    refine dend_of [35] [.box false [.v (.int .i64 (-1))]] [.ref 0 0] (by decide) ?_ ?_ (run1_none (-1)) rfl rfl (.v (.int .i64 (-1))) [.box false (playX S plan b (dayAt (days S)) first left (runP S plan b (days S)).1 (brlL (runP S plan b (days S)).1.barrels))] [] ?_ (hQ _)
    · simp
    · simp
    · refine ⟨by decide, ?_, ?_⟩
      · simp [back, placeAll, playX, Sup.cells, brlL, burL, shpL, ints]
      · simp [back, placeAll]
end Go.Qg

namespace Go.Qg
open Go.Proofs
set_option maxRecDepth 100000
set_option linter.unusedSimpArgs false
set_option maxHeartbeats 4000000
attribute [local irreducible] pwp pops pdraw pop popCall pdCall thenP blockP scopeP pspec Spec answers ppost CallW dleaves dpost dmidE DefW rend
theorem crowd_const {S : Sup} {plan b : List Int} {n : Nat} (h : (runP S plan b n).2 = true) : ∀ {m : Nat}, n ≤ m → crowdP S plan b m = crowdP S plan b n
  | 0, hm => by obtain rfl : n = 0 := by omega
                rfl
  | m + 1, hm => by
    rcases Nat.lt_or_eq_of_le hm with hm | rfl
    · have ih := crowd_const h (m := m) (by omega)
      rw [crowdP, if_pos (by rw [run_const h (show n ≤ m by omega)]; exact h), ih]
    · rfl
theorem holds1_spec (S : Sup) (hS : SupOk S) (plan b : List Int) (t first left : Int) (ht : 0 ≤ t ∧ t ≤ 400) (p : Pl) (h : PlayOk S plan b p) (c : Int × Int) :
    CallW Try.prog 106 [.ref 1 0, .ref 2 0, .ref 3 0] [.box false (playX S plan b t first left p (brlL p.barrels)), .box false [.v (.int .i64 c.1)], .box false [.ref 0 0], .box false [.v (.int .i64 c.2)]] (fun out => out =
      .ret (.tup []) [.box false (playX S plan b t first left p (brlL p.barrels)), .box false [.v (.int .i64 (seenP S t p c).1)], .box false [.ref 0 0], .box false [.v (.int .i64 (seenP S t p c).2)]]) := by
  suffices H : ∀ Q : Out → Prop, Q (.ret (.tup []) [.box false (playX S plan b t first left p (brlL p.barrels)), .box false [.v (.int .i64 (seenP S t p c).1)], .box false [.ref 0 0], .box false [.v (.int .i64 (seenP S t p c).2)]]) → CallW Try.prog 106 [.ref 1 0, .ref 2 0, .ref 3 0] [.box false (playX S plan b t first left p (brlL p.barrels)), .box false [.v (.int .i64 c.1)], .box false [.ref 0 0], .box false [.v (.int .i64 c.2)]] Q from H _ rfl
  intro Q hQ
  have hns := hS.ns
  have hs := h.s
  obtain ⟨c1, c2⟩ := c
  simp only at hQ ⊢
  have same : ¬ (c1 < 0 ∧ 30 < p.barrels.length ∧ 0 < p.ship ∧ (shpAt S.ships (p.ship - 1)).day = t) → Q (.ret (.tup []) [.box false (playX S plan b t first left p (brlL p.barrels)), .box false [.v (.int .i64 c1)], .box false [.ref 0 0], .box false [.v (.int .i64 c2)]]) := fun hn => by
    have e : seenP S t p (c1, c2) = (c1, c2) := by unfold seenP; rw [if_neg hn]
    rw [e] at hQ; exact hQ
  refine callW_of mixed Try.func106 (by decide) rfl (congrArg Array.toList Try.results106) Try.ntmps106 (by decide) 49 (by simp) (by decide) ?_
  simp (config := { maxSteps := 4000000 }) [playX, Sup.cells, brlL, burL, shpL, ints]
  refine pwp_draw 37 (by decide) ?_
  by_cases h1 : c1 < 0
  · by_cases h2 : 30 < p.barrels.length
    · by_cases h3 : 0 < p.ship
      · have w1 : IntKind.i64.wrap ((p.ship : Int) - 1) = (p.ship : Int) - 1 := i64_wrap (by omega)
        have w2 : ((p.ship : Int) - 1).toNat = p.ship - 1 := by omega
        by_cases h4 : (shpAt S.ships (p.ship - 1)).day = t
        · have e : seenP S t p (c1, c2) = ((p.ship : Int) - 1, t) := by unfold seenP; rw [if_pos ⟨h1, h2, h3, h4⟩]
          rw [e] at hQ
          simp (config := { maxSteps := 4000000 }) [h1, h2, h3, h4, w1, w2, Shp.cells, show (30 : Int) < (p.barrels.length : Int) from by omega, show (0 : Int) < (p.ship : Int) from by omega, show (1 : Int) ≤ (p.ship : Int) from by omega, show (p.ship : Int) - 1 < (S.ships.length : Int) from by omega]
          refine ⟨by decide, ?_⟩
          refine pwp_draw 9 (by decide) ?_
          simp (config := { maxSteps := 4000000 }) [w1]
          refine ⟨by decide, ?_⟩
          refine ends_n (.tup []) [.box false (playX S plan b t first left p (brlL p.barrels)), .box false [.v (.int .i64 ((p.ship : Int) - 1))], .box false [.ref 0 0], .box false [.v (.int .i64 t)]] [] rfl (by decide) ?_ ?_ hQ
          · simp [playX, Sup.cells, brlL, burL, shpL, ints, Shp.cells]
          · simp
        · simp (config := { maxSteps := 4000000 }) [h1, h2, h3, h4, w1, w2, Shp.cells, show (30 : Int) < (p.barrels.length : Int) from by omega, show (0 : Int) < (p.ship : Int) from by omega, show (1 : Int) ≤ (p.ship : Int) from by omega, show (p.ship : Int) - 1 < (S.ships.length : Int) from by omega]
          refine ⟨by decide, ?_⟩
          refine ends_n (.tup []) [.box false (playX S plan b t first left p (brlL p.barrels)), .box false [.v (.int .i64 c1)], .box false [.ref 0 0], .box false [.v (.int .i64 c2)]] [] rfl (by decide) ?_ ?_ (same (fun h => h4 h.2.2.2))
          · simp [playX, Sup.cells, brlL, burL, shpL, ints, Shp.cells]
          · simp
      · simp (config := { maxSteps := 4000000 }) [h1, h2, h3, show (30 : Int) < (p.barrels.length : Int) from by omega, show ¬ (0 : Int) < (p.ship : Int) from by omega]
        refine ⟨by decide, ?_⟩
        refine ends_n (.tup []) [.box false (playX S plan b t first left p (brlL p.barrels)), .box false [.v (.int .i64 c1)], .box false [.ref 0 0], .box false [.v (.int .i64 c2)]] [] rfl (by decide) ?_ ?_ (same (fun h => h3 h.2.2.1))
        · simp [playX, Sup.cells, brlL, burL, shpL, ints, Shp.cells]
        · simp
    · simp (config := { maxSteps := 4000000 }) [h1, h2, show ¬ (30 : Int) < (p.barrels.length : Int) from by omega]
      refine ⟨by decide, ?_⟩
      refine ends_n (.tup []) [.box false (playX S plan b t first left p (brlL p.barrels)), .box false [.v (.int .i64 c1)], .box false [.ref 0 0], .box false [.v (.int .i64 c2)]] [] rfl (by decide) ?_ ?_ (same (fun h => h2 h.2.1))
      · simp [playX, Sup.cells, brlL, burL, shpL, ints, Shp.cells]
      · simp
  · simp (config := { maxSteps := 4000000 }) [h1]
    refine ⟨by decide, ?_⟩
    refine ends_n (.tup []) [.box false (playX S plan b t first left p (brlL p.barrels)), .box false [.v (.int .i64 c1)], .box false [.ref 0 0], .box false [.v (.int .i64 c2)]] [] rfl (by decide) ?_ ?_ (same (fun h => h1 h.1))
    · simp [playX, Sup.cells, brlL, burL, shpL, ints, Shp.cells]
    · simp
theorem run_specS (S : Sup) (hS : SupOk S) (plan b : List Int) (hpl : PlanOk S plan) (hb : BurnsOk S b) (first left : Int) :
    CallW Try.prog 72 [.ref 0 0, .clo (.func 106) [] [.ref 1 0, .ref 2 0, .ref 3 0]] [.box false (playX S plan b 0 first left (.first S) (brlL S.barrels)), .box false [.v (.int .i64 (-1))], .box false [.ref 0 0], .box false [.v (.int .i64 0)]] (fun out => ∃ t, out =
      .ret (.v (.int .i64 (lackI (runP S plan b (days S)).2 (runP S plan b (days S)).1.flight))) [.box false (playX S plan b t first left (runP S plan b (days S)).1 (brlL (runP S plan b (days S)).1.barrels)), .box false [.v (.int .i64 (crowdP S plan b (days S)).1)], .box false [.ref 0 0], .box false [.v (.int .i64 (crowdP S plan b (days S)).2)]]) := by
  have hlast := lastD_bound hS
  have hdays : (days S : Int) = lastD S + 1 := by unfold days; omega
  suffices H : ∀ Q : Out → Prop, (∀ t, Q (.ret (.v (.int .i64 (lackI (runP S plan b (days S)).2 (runP S plan b (days S)).1.flight))) [.box false (playX S plan b t first left (runP S plan b (days S)).1 (brlL (runP S plan b (days S)).1.barrels)), .box false [.v (.int .i64 (crowdP S plan b (days S)).1)], .box false [.ref 0 0], .box false [.v (.int .i64 (crowdP S plan b (days S)).2)]])) → CallW Try.prog 72 [.ref 0 0, .clo (.func 106) [] [.ref 1 0, .ref 2 0, .ref 3 0]] [.box false (playX S plan b 0 first left (.first S) (brlL S.barrels)), .box false [.v (.int .i64 (-1))], .box false [.ref 0 0], .box false [.v (.int .i64 0)]] Q from H _ fun t => ⟨t, rfl⟩
  intro Q hQ
  refine callW_ofDES mixed Try.func72 (by decide) rfl (.more _ (.one _ _)) rfl rfl rfl (congrArg Array.toList Try.results72) Try.ntmps72 (by decide) (by decide) (by decide) 33 (by simp) (by decide) ?_
  simp
  refine dmidE_of [.ref 5 0] 33 [2, 4] [.box false (playX S plan b 0 first left (.first S) (brlL S.barrels)), .box false [.v (.int .i64 (-1))], .box false [.ref 0 0], .box false [.v (.int .i64 0)], .box false [.ref 0 0], .box false [.v (.int .i64 (-1))]] [.undef, .clo (.func 106) [] [.ref 1 0, .ref 2 0, .ref 3 0], .ref 4 0, .undef, .ref 5 0, .undef, .undef, .undef, .undef, .undef, .undef, .undef, .undef, .undef, .undef, .undef, .undef, .undef, .undef, .undef, .undef, .undef, .undef, .undef, .undef, .undef, .undef, .undef, .undef, .undef, .undef, .undef, .undef] rfl (by decide) (by decide) rfl ?_ ?_ ?_ (by simp) fun B0 hB0 => ?_
  · simp [playX, Sup.cells, brlL, burL, shpL, ints, Pl.first]
  · simp [slots]
  · simp
  have hlo : ∀ s B, ECtx B0 s B → B.lo = 33 := fun _ _ h => h.1.trans hB0
  simp
  refine XW_seqP mixed hlo (by decide) ?_
  simp
  refine XW_seqX (XW_seqP mixed hlo (by decide) ?_)
  simp
  refine XW_block ?_
  refine XW_range1 (by decide) mixed rfl [.rp (playX S plan b 0 first left (.first S) (brlL S.barrels)) 0] [] ?_ trivial (by simp [playX, Sup.cells, brlL, burL, shpL, ints, plainL, PV.plain, PV.free, PV.names]) rfl (days_gen S hS plan b 0 first left (.first S)) (fun p hp => ?_) (by decide) (by decide) 34 (by decide) [33, 34, 35, 36, 37, 38, 5] (by decide)
    (fun n => if (runP S plan b n).2 = true then [] else [.undef, .undef, .ref 37 0, .undef, .ref 38 0, .box true [.clo (.func 102) [.ref 33 0] [], .clo (.func 103) [.ref 33 0] [], .clo (.func 106) [] [.ref 34 0, .ref 35 0, .ref 36 0], .clo (.func 104) [.ref 33 0] []], .undef, .undef, .undef, .undef, .undef, .undef, .undef, .undef, .undef, .undef, .undef, .undef, .undef, .undef, .undef, .undef, .undef, .undef, .undef, .undef, .undef, .undef, .undef, .undef, .undef, .undef, .undef, .box false (playX S plan b (dayAt n) first left (runP S plan b n).1 (brlL (runP S plan b n).1.barrels)), .box false [.v (.int .i64 (crowdP S plan b n).1)], .box false [.ref 33 0], .box false [.v (.int .i64 (crowdP S plan b n).2)], .box false [.ref 33 0], .box false [.v (.int .i64 (-1))]])
    (fun n => [.undef, .undef, .ref 4 0, .undef, .ref 5 0, .ref 6 0, .undef, .undef, .undef, .undef, .undef, .undef, .undef, .undef, .undef, .undef, .undef, .undef, .undef, .undef, .undef, .undef, .undef, .undef, .undef, .undef, .undef, .undef, .undef, .undef, .undef, .undef, .undef])
    (fun n => [.box false (playX S plan b (dayAt n) first left (runP S plan b n).1 (brlL (runP S plan b n).1.barrels)), .box false [.v (.int .i64 (crowdP S plan b n).1)], .box false [.ref 0 0], .box false [.v (.int .i64 (crowdP S plan b n).2)], .box false [.ref 0 0], .box false [.v (.int .i64 (-1))], .box false [.clo (.func 102) [.ref 0 0] [], .clo (.func 103) [.ref 0 0] [], .clo (.func 106) [] [.ref 1 0, .ref 2 0, .ref 3 0], .clo (.func 104) [.ref 0 0] []]])
    ?_ (fun n hn hv => ?_) (fun n p hp hv => ?_) fun hv => ?_
  · simp [playX, Sup.cells, brlL, burL, shpL, ints, Shp.cells]
  · obtain ⟨k, _, rfl⟩ := List.mem_map.1 hp
    exact ⟨rfl, rfl⟩
  · rw [hB0]
    simp [runP, crowdP, dayAt, playX, Sup.cells, brlL, burL, shpL, ints, Pl.first]
  · have hno : (runP S plan b n).2 = false := by
      cases h : (runP S plan b n).2 with
      | true => simp [h] at hv
      | false => rfl
    simp only [hno, Bool.false_eq_true, if_false]
    refine ⟨rfl, ?_, slots_view (t := 20) ?_ rfl⟩
    · simp [playX, Sup.cells, brlL, burL, shpL, ints, Shp.cells]
    · simp [slots]
  · have hno : (runP S plan b n).2 = false := by
      cases h : (runP S plan b n).2 with
      | true => simp [h] at hv
      | false => rfl
    have hnd : n < days S ∧ p = dayV n := by
      have hl := lt_of_get? hp
      simp at hl
      simp [hl] at hp
      exact ⟨hl, hp.symm⟩
    obtain ⟨hnd, rfl⟩ := hnd
    simp only [hno, Bool.false_eq_true, if_false]
    rw [hB0]
    refine (fun h => h _ rfl : (∀ Qr, Qr = rend _ _ _ _ _ _ → pwp _ _ _ (thenP (pwp _ _ _ Qr) (fun _ _ => False)) _) → _) fun Qr hQr => ?_
    simp (config := { maxSteps := 4000000 }) [dayV, playX, Sup.cells, brlL, burL, shpL, ints]
    have num := (playOk_run hS hpl hb n).num hS hpl hb
    have hok := playOk_run hS hpl hb n
    have ht : (0 : Int) ≤ (n : Int) ∧ (n : Int) ≤ 400 := by omega
    generalize hp0 : (runP S plan b n).1 = p0 at num hok hQr
    have hok1 := playOk_clear hok n
    have hok2 := playOk_load hS hpl hok1 n
    have hday : dayP S plan b n p0 = flyP S b n (S.burns.length - (loadP S plan n (clearP n p0)).flight) (loadP S plan n (clearP n p0)) := rfl
    have hrun : runP S plan b (n + 1) = dayP S plan b n p0 := by rw [runP, if_neg (by rw [hno]; simp), hp0]
    refine pwp_loop1 ?_
    simp (config := { maxSteps := 4000000 })
    refine pop_callW (clear_spec S plan b n first left p0 num.k (by have := num.waste; omega)) rfl [34] false (by decide) ?_ (.inl ?_) ?_
    · simp [playX, Sup.cells, brlL, burL, shpL, ints, Shp.cells]
    · simp
    rintro out ⟨ep, rfl⟩
    refine ⟨[33], ?_, .inl rfl, ?_, ?_⟩
    · simp [backOk]
    · simp [back, backV, placeAll, playX, Sup.cells, brlL, burL, shpL, ints]
    simp (config := { maxSteps := 4000000 }) [back, backV, placeAll, playX, Sup.cells, brlL, burL, shpL, ints]
    generalize hp1 : clearP n p0 = p1 at hok1 hok2 hday ⊢
    have el1 : (goodL p0.barrels n) = p1.barrels := by rw [← hp1]; rfl
    rw [el1]
    refine pwp_loop1 ?_
    simp (config := { maxSteps := 4000000 })
    refine pop_callW (load_spec S hS plan b hpl hb n first left ht p1 hok1 ep) rfl [34, 33] false (by decide) ?_ (.inl ?_) ?_
    · simp [playX, Sup.cells, brlL, burL, shpL, ints, Shp.cells]
    · simp
    rintro out ⟨ep', rfl⟩
    refine ⟨[], ?_, .inl rfl, ?_, ?_⟩
    · simp [backOk]
    · simp [back, backV, placeAll, playX, Sup.cells, brlL, burL, shpL, ints]
    simp (config := { maxSteps := 4000000 }) [back, backV, placeAll, playX, Sup.cells, brlL, burL, shpL, ints]
    generalize hp2 : loadP S plan n p1 = p2 at hok2 hday ⊢
    have hcrowd : crowdP S plan b (n + 1) = seenP S n p2 (crowdP S plan b n) := by rw [crowdP, if_neg (by rw [hno]; simp), hp0, hp1, hp2]
    refine pwp_loop_lessV [(33, .undef), (34, .box false (playX S plan b n first left p2 (brlL p2.barrels)))] ?_ ?_
    · simp (config := { maxSteps := 4000000 }) [playX, Sup.cells, brlL, burL, shpL, ints]
      intro k hk
      simp [rowsBr_get hk, Brl.cells]
    simp (config := { maxSteps := 4000000 }) [playX, Sup.cells, brlL, burL, shpL, ints]
    refine pwp_loop1 ?_
    simp (config := { maxSteps := 4000000 })
    refine pop_callW (holds1_spec S hS plan b n first left ht p2 hok2 (crowdP S plan b n)) rfl [34, 35, 36, 37] false (by decide) ?_ (.inl ?_) ?_
    · simp [playX, Sup.cells, brlL, burL, shpL, ints, Shp.cells]
    · simp
    rintro out rfl
    rw [← hcrowd]
    generalize hc1 : crowdP S plan b (n + 1) = c1 at hQr ⊢
    refine ⟨[], ?_, by simp, ?_, ?_⟩
    · simp [backOk]
    · simp [back, backV, placeAll, playX, Sup.cells, brlL, burL, shpL, ints]
    simp (config := { maxSteps := 4000000 }) [back, backV, placeAll, playX, Sup.cells, brlL, burL, shpL, ints]
    refine pwp_loop1 ?_
    simp (config := { maxSteps := 4000000 })
    refine pop_callW (fly_spec S hS plan b hpl hb n first left ht p2 hok2) rfl [34] false (by decide) ?_ (.inl ?_) ?_
    · simp [playX, Sup.cells, brlL, burL, shpL, ints, Shp.cells]
    · simp
    rintro out rfl
    rw [← hday]
    rw [← hrun]
    generalize hp3 : runP S plan b (n + 1) = p3 at hQr ⊢
    unfold outIf
    cases hc : p3.2 with
    | true =>
      have hfin : runP S plan b (days S) = p3 := by rw [← hp3]; exact run_const (by rw [hp3]; exact hc) (by omega)
      have hfc : crowdP S plan b (days S) = c1 := by rw [← hc1]; exact crowd_const (by rw [hp3]; exact hc) (by omega)
      rw [hfin, hfc, hc] at hQ
      simp only [if_true]
      refine ⟨[], ?_, by simp, ?_⟩
      · simp [backOk]
      simp (config := { maxSteps := 4000000 }) [back, backV, placeAll, playX, Sup.cells, brlL, burL, shpL, ints]
      rw [hQr]
      refine rend_p rfl rfl [.box false (playX S plan b n first left p3.1 (brlL p3.1.barrels)), .box false [.v (.int .i64 c1.1)], .box false [.ref 0 0], .box false [.v (.int .i64 c1.2)], .box false [.ref 0 0], .box false [.v (.int .i64 (-1))], .box false [.clo (.func 102) [.ref 0 0] [], .clo (.func 103) [.ref 0 0] [], .clo (.func 106) [] [.ref 1 0, .ref 2 0, .ref 3 0], .clo (.func 104) [.ref 0 0] []]] ?_ ?_
      · simp [playX, Sup.cells, brlL, burL, shpL, ints, Shp.cells]
      simp (config := { maxSteps := 4000000 }) [back, backV, placeAll, playX, Sup.cells, brlL, burL, shpL, ints]
      refine dpost_p rfl rfl ?_
      refine dend_of [38] [.box false [.v (.int .i64 (-1))]] [.ref 0 0] (by decide) ?_ ?_ (run1_some (-1) p3.1.flight) rfl rfl (.v (.int .i64 p3.1.flight)) [.box false (playX S plan b n first left p3.1 (brlL p3.1.barrels)), .box false [.v (.int .i64 c1.1)], .box false [.ref 0 0], .box false [.v (.int .i64 c1.2)]] [] ?_ (hQ n)
      · simp
      · simp
      · refine ⟨by decide, ?_, ?_⟩
        · simp [back, placeAll, playX, Sup.cells, brlL, burL, shpL, ints]
        · simp [back, placeAll]
    | false =>
      simp only [Bool.false_eq_true, if_false]
      refine ⟨[], ?_, by simp, ?_, ?_⟩
      · simp [backOk]
      · simp [back, backV, placeAll, playX, Sup.cells, brlL, burL, shpL, ints]
      simp (config := { maxSteps := 4000000 }) [back, backV, placeAll, playX, Sup.cells, brlL, burL, shpL, ints, show IntKind.i64.wrap 4 = 4 from rfl]
      refine pwp_loop1 ?_
      simp (config := { maxSteps := 4000000 }) [show IntKind.i64.wrap 4 = 4 from rfl]
      rw [hQr]
      refine rend_n [.box false (playX S plan b n first left p3.1 (brlL p3.1.barrels)), .box false [.v (.int .i64 c1.1)], .box false [.ref 0 0], .box false [.v (.int .i64 c1.2)], .box false [.ref 0 0], .box false [.v (.int .i64 (-1))], .box false [.clo (.func 102) [.ref 0 0] [], .clo (.func 103) [.ref 0 0] [], .clo (.func 106) [] [.ref 1 0, .ref 2 0, .ref 3 0], .clo (.func 104) [.ref 0 0] []]] ?_ ?_
      · simp [playX, Sup.cells, brlL, burL, shpL, ints, Shp.cells]
      · simp (config := { maxSteps := 4000000 }) [back, placeAll, hc, dayAt, playX, Sup.cells, brlL, burL, shpL, ints]
  · simp at hv
    simp only [List.length_map, List.length_range, hv, Bool.false_eq_true, if_false]
    refine XW_pwp mixed hlo (by decide) ?_
    rw [hv] at hQ
    simp
    refine dpost_r ?_
    refine dend_of [38] [.box false [.v (.int .i64 (-1))]] [.ref 0 0] (by decide) ?_ ?_ (run1_none (-1)) rfl rfl (.v (.int .i64 (-1))) [.box false (playX S plan b (dayAt (days S)) first left (runP S plan b (days S)).1 (brlL (runP S plan b (days S)).1.barrels)), .box false [.v (.int .i64 (crowdP S plan b (days S)).1)], .box false [.ref 0 0], .box false [.v (.int .i64 (crowdP S plan b (days S)).2)]] [] ?_ (hQ _)
    · simp
    · simp
    · refine ⟨by decide, ?_, ?_⟩
      · simp [back, placeAll, playX, Sup.cells, brlL, burL, shpL, ints]
      · simp [back, placeAll]
end Go.Qg

namespace Go.Qg
open Go.Proofs
set_option maxRecDepth 100000
set_option linter.unusedSimpArgs false
set_option maxHeartbeats 4000000
attribute [local irreducible] pwp pops pdraw pop popCall pdCall thenP blockP scopeP pspec Spec answers ppost CallW
theorem Play1_spec (n : Int) : Spec Try.prog 70 [.v (.int .i64 n)] (.v (.bool (!inB n 0 30000))) := by
  refine spec_of mixed Try.func70 (by decide) rfl Try.results70 Try.ntmps70 (by decide) 0 (by simp) ?_
  simp
  refine pop_spec (cin_spec n 0 30000) rfl false (.inl (by simp)) (.inl rfl) rfl (by simp) ?_
  simp
  refine answers_of rfl ?_; simp
def burnsB (S : Sup) (b : List Int) : Bool := decide (b.length = S.burns.length) && !anyN b.length fun k => !inB (geti b k) 0 30000
def playB (S : Sup) (plan b : List Int) : Bool := supB S && plannedB S plan && burnsB S b
theorem planned_ok {S : Sup} {plan : List Int} (h : plannedB S plan = true) : PlanOk S plan := by
  simp only [plannedB, Bool.and_eq_true, decide_eq_true_eq] at h
  refine ⟨h.2, fun i hi => ?_⟩
  have h1 := allN_spec.1 h.1 i (by omega)
  simp only [planB, Bool.and_eq_true] at h1
  rw [gi_geti]
  exact inB_spec.1 h1.2
theorem anyN_not {n : Nat} {p : Nat → Bool} : (anyN n fun k => !p k) = !allN n p := by
  cases h : allN n p with
  | true => simp only [Bool.not_true]; exact anyN_false.2 fun k hk => by rw [allN_spec.1 h k hk]; rfl
  | false =>
    simp only [Bool.not_false]
    refine anyN_iff.2 (Classical.byContradiction fun hn => ?_)
    have : allN n p = true := allN_spec.2 fun k hk => by
      cases hp : p k with
      | true => rfl
      | false => exact absurd ⟨k, hk, by rw [hp]; rfl⟩ hn
    rw [this] at h; cases h
theorem burns_ok {S : Sup} {b : List Int} (h : burnsB S b = true) : BurnsOk S b := by
  simp only [burnsB, Bool.and_eq_true, decide_eq_true_eq, anyN_not, Bool.not_not] at h
  refine ⟨h.1, fun i hi => ?_⟩
  have h1 := allN_spec.1 h.2 i (by omega)
  rw [gi_geti]
  exact inB_spec.1 h1
def stockC (a b c d e : Int) : List PV := [.v (.int .i64 a), .v (.int .i64 b), .v (.int .i64 c), .v (.int .i64 d), .v (.int .i64 e)]
def playRes (S : Sup) (plan b : List Int) : PV :=
  if playB S plan b = true then .tup [.agg (stockC (sumK S.barrels) (runP S plan b (days S)).1.came (runP S plan b (days S)).1.drawn (runP S plan b (days S)).1.waste (sumK (runP S plan b (days S)).1.barrels)), .agg [brlL (runP S plan b (days S)).1.barrels], .v (.int .i64 (lackI (runP S plan b (days S)).2 (runP S plan b (days S)).1.flight)), .v (.int .i64 0)]
  else .tup [.agg (stockC 0 0 0 0 0), .agg [brlL []], .v (.int .i64 0), .v (.int .i64 2)]
theorem playC_X (S : Sup) (plan b : List Int) (x : Int) : playC S plan b 0 S.barrels x 0 0 0 0 0 0 = playX S plan b 0 x 0 (.first S) (brlL S.barrels) := rfl
theorem Play_spec (S : Sup) (plan b : List Int) (hl : S.barrels.length ≤ 9223372036854775807) (hf : S.burns.length ≤ 9223372036854775807) (hs : S.ships.length ≤ 9223372036854775807) (hp : plan.length ≤ 9223372036854775807) (hbl : b.length ≤ 9223372036854775807) :
    Spec Try.prog 25 [.agg S.cells, ints plan, ints b] (playRes S plan b) := by
  refine spec_of mixed Try.func25 (by decide) rfl Try.results25 Try.ntmps25 (by decide) 1 (by simp) ?_
  simp [Sup.cells, brlL, burL, shpL, ints]
  refine pop_spec (supply_spec S hl hf hs) rfl false (.inl (by simp [Sup.cells, brlL, burL, shpL])) (.inl rfl) rfl (by simp) ?_
  cases h1 : supB S with
  | false =>
    have hno : playB S plan b = false := by simp [playB, h1]
    simp
    refine answers_of (by simp; rfl) ?_; simp [playRes, hno, brlL, stockC]
  | true =>
    have hS := supB_ok h1
    simp
    refine pop_spec (planned_spec S plan hp hs) rfl false (.inl (by simp [Sup.cells, brlL, burL, shpL, ints])) (.inl rfl) rfl (by simp) ?_
    cases h2 : plannedB S plan with
    | false =>
      have hno : playB S plan b = false := by simp [playB, h2]
      simp
      refine answers_of (by simp; rfl) ?_; simp [playRes, hno, brlL, stockC]
    | true =>
      have hpl := planned_ok h2
      by_cases h3 : b.length = S.burns.length
      · simp [h3]
        refine pop_spec (anyInt_spec b hbl 70 [] [] rfl rfl (fun k => !inB (geti b k) 0 30000) fun k hk => Play1_spec _) rfl true (.inl (by simp [ints, h3])) (.inr rfl) rfl (by simp) ?_
        cases h4 : anyN b.length (fun k => !inB (geti b k) 0 30000) with
        | true =>
          have hno : playB S plan b = false := by simp [playB, burnsB, h4]
          simp
          refine answers_of (by simp; rfl) ?_; simp [playRes, hno, brlL, stockC]
        | false =>
          have hyes : burnsB S b = true := by rw [burnsB, h4]; simp [h3]
          have hyes2 : playB S plan b = true := by simp [playB, h1, h2, hyes]
          have hb := burns_ok hyes
          have num := (playOk_first hS plan b).num hS hpl hb
          have num2 := (playOk_run hS hpl hb (days S)).num hS hpl hb
          simp
          refine pop_callW (begin_spec S plan b num.k) rfl [] false (by decide) trivial (.inl (by simp [Sup.cells, brlL, burL, shpL, ints, h3])) ?_
          rintro out rfl
          refine ⟨[60], by simp [backOk], by simp, by simp [back, backV, placeAll], ?_⟩
          rw [playC_X]
          simp [back, backV, placeAll]
          refine pop_callW (run_spec 73 Play2_spec S hS plan b hpl hb (sumK S.barrels) 0) rfl [60] false (by decide) ?_ (.inl ?_) ?_
          · simp [playX, Sup.cells, brlL, burL, shpL, ints]
          · simp
          rintro out ⟨t, rfl⟩
          refine ⟨[], by simp [backOk], by simp, by simp [back, backV, placeAll, playX, Sup.cells, brlL, burL, shpL, ints], ?_⟩
          simp (config := { maxSteps := 4000000 }) [back, backV, placeAll, playX, Sup.cells, brlL, burL, shpL, ints]
          refine pop_spec (kilos_spec (runP S plan b (days S)).1.barrels num2.k) rfl false (.inl (by simp [brlL])) (.inl rfl) rfl (by simp) ?_
          simp (config := { maxSteps := 4000000 })
          refine pwp_draw 14 (by decide) ?_
          simp (config := { maxSteps := 4000000 })
          refine ⟨by decide, ?_⟩
          refine answers_of (by simp; rfl) ?_; simp [playRes, hyes2, brlL, stockC]
      · have hno : playB S plan b = false := by simp [playB, burnsB, h3]
        simp [h3, show ¬ ((b.length : Int) = (S.burns.length : Int)) from by omega, show (((b.length : Int)) == (S.burns.length : Int)) = false from by simp; omega]
        refine answers_of (by simp; rfl) ?_; simp [playRes, hno, brlL, stockC]
end Go.Qg

namespace Go.Qg
open Go.Proofs
set_option maxRecDepth 100000
set_option linter.unusedSimpArgs false
set_option maxHeartbeats 4000000
attribute [local irreducible] pwp pops pdraw pop popCall pdCall thenP blockP scopeP pspec Spec answers ppost CallW
theorem rule0_spec : Spec Try.prog 108 [.v (.int .i64 0)] (.v (.int .i64 2)) := by
  refine spec_of mixed Try.func108 (by decide) rfl Try.results108 Try.ntmps108 (by decide) 0 (by simp) ?_
  simp
  refine answers_of rfl ?_; simp
theorem rule1_spec : Spec Try.prog 108 [.v (.int .i64 1)] (.v (.int .i64 3)) := by
  refine spec_of mixed Try.func108 (by decide) rfl Try.results108 Try.ntmps108 (by decide) 0 (by simp) ?_
  simp
  refine answers_of rfl ?_; simp
theorem holds2_spec : Spec Try.prog 107 [] (.tup []) := by
  refine spec_of mixed Try.func107 (by decide) rfl Try.results107 Try.ntmps107 (by decide) 1 (by simp) ?_
  simp
  refine answers_of rfl ?_; simp
theorem lowsB_get {S : Sup} {i : Nat} (h : i < S.burns.length) : geti (lowsB S) i = (burAt S.burns i).low := by rw [← gi_geti, lowsB, gi_map h]
theorem highsB_get {S : Sup} {i : Nat} (h : i < S.burns.length) : geti (highsB S) i = (burAt S.burns i).high := by rw [← gi_geti, highsB, gi_map h]
theorem lowsB_length (S : Sup) : (lowsB S).length = S.burns.length := by simp [lowsB]
theorem highsB_length (S : Sup) : (highsB S).length = S.burns.length := by simp [highsB]
theorem lack_bound {S : Sup} (hS : SupOk S) (plan b : List Int) (n : Nat) : (runP S plan b n).2 = true → (runP S plan b n).1.flight < S.burns.length := (run_alike hS plan b n).2.2.1
def fltOf (S : Sup) (c1 c2 lk : Int) : Flt := if 0 ≤ c1 ∧ (lk < 0 ∨ c2 ≤ (burAt S.burns lk.toNat).day) then ⟨3, c1⟩ else if 0 ≤ lk then ⟨2, lk⟩ else ⟨1, 0⟩
theorem fltOf_full {S : Sup} {c1 c2 lk : Int} (h1 : 0 ≤ c1) (h2 : lk < 0 ∨ c2 ≤ (burAt S.burns lk.toNat).day) : fltOf S c1 c2 lk = ⟨3, c1⟩ := if_pos ⟨h1, h2⟩
theorem fltOf_lack {S : Sup} {c1 c2 lk : Int} (h : ¬ (0 ≤ c1 ∧ (lk < 0 ∨ c2 ≤ (burAt S.burns lk.toNat).day))) (h2 : 0 ≤ lk) : fltOf S c1 c2 lk = ⟨2, lk⟩ := by unfold fltOf; rw [if_neg h, if_pos h2]
theorem fltOf_fine {S : Sup} {c1 c2 lk : Int} (h : ¬ (0 ≤ c1 ∧ (lk < 0 ∨ c2 ≤ (burAt S.burns lk.toNat).day))) (h2 : ¬ 0 ≤ lk) : fltOf S c1 c2 lk = ⟨1, 0⟩ := by unfold fltOf; rw [if_neg h, if_neg h2]
theorem holds_spec (S : Sup) (hS : SupOk S) (plan : List Int) (hpl : PlanOk S plan) :
    Spec Try.prog 77 [.agg S.cells, ints plan] (.agg [.v (.int .i64 (holdsP S plan).rule), .v (.int .i64 (holdsP S plan).of)]) := by
  have hnf := hS.nf
  have hlo := (inB_low hS).ok hS
  have hhi := (inB_high hS).ok hS
  have num := (playOk_first hS plan (lowsB S)).num hS hpl hlo
  have num2 := (playOk_first hS plan (highsB S)).num hS hpl hhi
  have ll := lowsB_length S
  have lh := highsB_length S
  have hlk := lack_bound hS plan (highsB S) (days S)
  refine spec_of mixed Try.func77 (by decide) rfl Try.results77 Try.ntmps77 (by decide) 2 (by simp) ?_
  simp [Sup.cells, brlL, burL, shpL, ints]
  refine pwp_loop (fun k : Nat => [(5, .own 26 k 0 k false), (6, .own 32 k 0 k false), (17, .v (.int .i64 k)), (26, .rows none k 3 1 (rowsOf (fun i => [.v (.int .i64 (burAt S.burns i).low)]) k)), (32, .rows none k 3 1 (rowsOf (fun i => [.v (.int .i64 (burAt S.burns i).high)]) k))]) (fun k => k ≤ S.burns.length) (fun k => S.burns.length - k) 0 (Nat.zero_le _) (by simp; rfl) (by simp) ?_
  intro k hk
  by_cases hkl : k < S.burns.length
  · simp [hkl, Bur.cells]
    refine pwp_draw 12 (by decide) ?_
    simp [show (k + 1) * 8 ≤ 140737488355328 from by omega, show k + 1 ≤ maxLen from by simp [maxLen]; omega]
    refine ⟨by decide, ?_⟩
    refine again_of (k + 1) (by omega) (by omega) ?_
    simp [i64_wrap (show -9223372036854775808 ≤ (k : Int) + 1 ∧ _ from by omega), rowsOf_snoc]
  · simp [hkl]
    obtain rfl : k = S.burns.length := by omega
    refine pop_callF [(5, ints (lowsB S)), (6, ints (highsB S)), (26, .undef), (32, .undef), (36, ints (lowsB S))] ?_ (begin_spec S plan (lowsB S) num.k) rfl [] false (by decide) trivial (.inl ?_) ?_
    · simp [ints, ll, lh]
      refine ⟨?_, ?_, ?_⟩ <;> (intro k hk; simp [lowsB_get hk, highsB_get hk, rowsOf_get hk])
    · simp [Sup.cells, brlL, burL, shpL, ints]
    rintro out rfl
    refine ⟨[74], by simp [backOk], by simp, by simp [back, backV, placeAll, ints], ?_⟩
    rw [playC_X]
    simp [back, backV, placeAll, ints]
    refine pop_callW (run_specS S hS plan (lowsB S) hpl hlo (sumK S.barrels) 0) rfl [74, 10, 9, 11] false (by decide) ?_ (.inl ?_) ?_
    · simp [playX, Sup.cells, brlL, burL, shpL, ints]
    · simp
    rintro out ⟨t, rfl⟩
    refine ⟨[], by simp [backOk], by simp, by simp [back, backV, placeAll, playX, Sup.cells, brlL, burL, shpL, ints], ?_⟩
    generalize hc : crowdP S plan (lowsB S) (days S) = c
    generalize runP S plan (lowsB S) (days S) = q1
    simp (config := { maxSteps := 4000000 }) [back, backV, placeAll, playX, Sup.cells, brlL, burL, shpL, ints]
    refine pop_callW (begin_spec S plan (highsB S) num2.k) rfl [] false (by decide) trivial (.inl ?_) ?_
    · simp [Sup.cells, brlL, burL, shpL, ints]
    rintro out rfl
    refine ⟨[75], by simp [backOk], by simp, by simp [back, backV, placeAll, ints], ?_⟩
    rw [playC_X]
    simp (config := { maxSteps := 4000000 }) [back, backV, placeAll, ints]
    refine pop_callW (run_spec 107 holds2_spec S hS plan (highsB S) hpl hhi (sumK S.barrels) 0) rfl [75] false (by decide) ?_ (.inl ?_) ?_
    · simp [playX, Sup.cells, brlL, burL, shpL, ints]
    · simp
    rintro out ⟨t2, rfl⟩
    refine ⟨[], by simp [backOk], by simp, by simp [back, backV, placeAll, playX, Sup.cells, brlL, burL, shpL, ints], ?_⟩
    generalize hq : runP S plan (highsB S) (days S) = q2 at hlk ⊢
    simp (config := { maxSteps := 4000000 }) [back, backV, placeAll, playX, Sup.cells, brlL, burL, shpL, ints]
    obtain ⟨q, l⟩ := q2
    obtain ⟨c1, c2⟩ := c
    simp only at hlk
    have eH : holdsP S plan = fltOf S c1 c2 (lackI l q.flight) := by simp only [holdsP, fltOf, hc, hq]
    generalize hres : holdsP S plan = res at eH ⊢
    refine pwp_draw 17 (by decide) ?_
    cases l with
    | false =>
      simp only [lackI]
      by_cases h1 : 0 ≤ c1
      · have e : res = ⟨3, c1⟩ := eH.trans (fltOf_full h1 (.inl (show (-1 : Int) < 0 from by decide)))
        simp (config := { maxSteps := 4000000 }) [h1]
        refine ⟨by decide, ?_⟩
        refine pwp_draw 3 (by decide) ?_
        simp (config := { maxSteps := 4000000 })
        refine pd_spec rule1_spec rfl (by simp) (by simp) rfl ?_
        simp (config := { maxSteps := 4000000 })
        refine ⟨by decide, ?_⟩
        refine answers_of (by simp; rfl) ?_; simp [e]
      · have e : res = ⟨1, 0⟩ := eH.trans (fltOf_fine (fun h => h1 h.1) (show ¬ (0 : Int) ≤ -1 from by decide))
        simp (config := { maxSteps := 4000000 }) [h1]
        refine ⟨by decide, ?_⟩
        refine answers_of (by simp; rfl) ?_; simp [e]
    | true =>
      have hf := hlk rfl
      simp only [lackI, Int.toNat_natCast]
      by_cases h1 : 0 ≤ c1
      · by_cases h2 : c2 ≤ (burAt S.burns q.flight).day
        · have e : res = ⟨3, c1⟩ := eH.trans (fltOf_full h1 (.inr h2))
          simp (config := { maxSteps := 4000000 }) [h1, h2, hf, Bur.cells, show ¬ (q.flight : Int) < 0 from by omega]
          refine ⟨by decide, ?_⟩
          refine pwp_draw 3 (by decide) ?_
          simp (config := { maxSteps := 4000000 })
          refine pd_spec rule1_spec rfl (by simp) (by simp) rfl ?_
          simp (config := { maxSteps := 4000000 })
          refine ⟨by decide, ?_⟩
          refine answers_of (by simp; rfl) ?_; simp [e]
        · have e : res = ⟨2, q.flight⟩ := eH.trans (fltOf_lack (lk := (q.flight : Int)) (fun h => h2 (h.2.resolve_left (by omega))) (by omega))
          simp (config := { maxSteps := 4000000 }) [h1, h2, hf, Bur.cells, show ¬ (q.flight : Int) < 0 from by omega]
          refine ⟨by decide, ?_⟩
          refine pop_spec rule0_spec rfl false (.inl (by simp)) (.inl rfl) rfl (by simp) ?_
          simp (config := { maxSteps := 4000000 })
          refine answers_of (by simp; rfl) ?_; simp [e]
      · have e : res = ⟨2, q.flight⟩ := eH.trans (fltOf_lack (lk := (q.flight : Int)) (fun h => h1 h.1) (by omega))
        simp (config := { maxSteps := 4000000 }) [h1]
        refine ⟨by decide, ?_⟩
        refine pop_spec rule0_spec rfl false (.inl (by simp)) (.inl rfl) rfl (by simp) ?_
        simp (config := { maxSteps := 4000000 })
        refine answers_of (by simp; rfl) ?_; simp [e]
end Go.Qg

namespace Go.Qg
open Go.Proofs
set_option maxRecDepth 100000
set_option linter.unusedSimpArgs false
set_option maxHeartbeats 4000000
attribute [local irreducible] pwp pops pdraw pop popCall pdCall thenP blockP scopeP pspec Spec answers ppost CallW
def fltV (f : Flt) : List PV := [.v (.int .i64 f.rule), .v (.int .i64 f.of)]
theorem Holds_spec (S : Sup) (plan : List Int) (hl : S.barrels.length ≤ 9223372036854775807) (hf : S.burns.length ≤ 9223372036854775807) (hs : S.ships.length ≤ 9223372036854775807) (hp : plan.length ≤ 9223372036854775807) :
    Spec Try.prog 44 [.agg S.cells, ints plan] (if (supB S && plannedB S plan) = true then .tup [.agg (fltV (holdsP S plan)), .v (.int .i64 0)] else .tup [.agg (fltV ⟨0, 0⟩), .v (.int .i64 2)]) := by
  refine spec_of mixed Try.func44 (by decide) rfl Try.results44 Try.ntmps44 (by decide) 0 (by simp) ?_
  simp [Sup.cells, brlL, burL, shpL, ints]
  refine pop_spec (supply_spec S hl hf hs) rfl false (.inl (by simp [Sup.cells, brlL, burL, shpL])) (.inl rfl) rfl (by simp) ?_
  cases h1 : supB S with
  | false =>
    simp
    refine answers_of (by simp; rfl) ?_; simp [fltV]
  | true =>
    have hS := supB_ok h1
    simp
    refine pop_spec (planned_spec S plan hp hs) rfl false (.inl (by simp [Sup.cells, brlL, burL, shpL, ints])) (.inl rfl) rfl (by simp) ?_
    cases h2 : plannedB S plan with
    | false =>
      simp
      refine answers_of (by simp; rfl) ?_; simp [fltV]
    | true =>
      have hpl := planned_ok h2
      simp
      refine pop_spec (holds_spec S hS plan hpl) rfl false (.inl (by simp [Sup.cells, brlL, burL, shpL, ints])) (.inl rfl) rfl (by simp) ?_
      simp
      refine answers_of (by simp; rfl) ?_; simp [fltV]
theorem cost_spec (S : Sup) (hS : SupOk S) (plan : List Int) (hpl : plan.length ≤ S.ships.length) (he : ∀ i, i < plan.length → 0 ≤ gi plan i ∧ gi plan i ≤ 9) :
    Spec Try.prog 76 [.agg S.cells, ints plan] (.v (.int .i64 (costL S plan))) := by
  have hns := hS.ns
  have bnd : ∀ k, k ≤ plan.length → 0 ≤ costTo S plan k ∧ costTo S plan k ≤ 1000000 * k := fun k => by
    induction k with
    | zero => intro _; simp [costTo]
    | succ k ih =>
      intro hk
      have h1 := ih (by omega)
      have h2 := he k (by omega)
      have h3 := hS.ship k (by omega)
      have h4 : 0 ≤ gi plan k * (shpAt S.ships k).each ∧ gi plan k * (shpAt S.ships k).each ≤ 9 * 100000 := ⟨Int.mul_nonneg h2.1 h3.2.2.2.1.1, Int.mul_le_mul h2.2 h3.2.2.2.1.2 h3.2.2.2.1.1 (by omega)⟩
      simp only [costTo]
      split <;> omega
  refine spec_of mixed Try.func76 (by decide) rfl Try.results76 Try.ntmps76 (by decide) 0 (by simp) ?_
  simp [Sup.cells, brlL, burL, shpL, ints]
  refine pwp_loop (fun k : Nat => [(5, .v (.int .i64 (costTo S plan k))), (10, .v (.int .i64 k))]) (fun k => k ≤ plan.length) (fun k => plan.length - k) 0 (Nat.zero_le _) (by simp; rfl) (by simp [costTo]) ?_
  intro k hk
  by_cases hkl : k < plan.length
  · have b0 := bnd k (by omega)
    have b1 := bnd (k + 1) (by omega)
    have h2 := he k (by omega)
    have h3 := hS.ship k (by omega)
    have h4 : 0 ≤ gi plan k * (shpAt S.ships k).each ∧ gi plan k * (shpAt S.ships k).each ≤ 9 * 100000 := ⟨Int.mul_nonneg h2.1 h3.2.2.2.1.1, Int.mul_le_mul h2.2 h3.2.2.2.1.2 h3.2.2.2.1.1 (by omega)⟩
    have wk := i64_wrap (show -9223372036854775808 ≤ (k : Int) + 1 ∧ _ from by omega)
    rw [gi_geti] at h2 h4
    simp [hkl]
    by_cases h5 : 0 < geti plan k
    · have e : costTo S plan (k + 1) = costTo S plan k + ((shpAt S.ships k).cost + geti plan k * (shpAt S.ships k).each) := by rw [← gi_geti] at h5 ⊢; simp only [costTo, if_pos h5]
      simp [h5]
      refine pwp_draw 17 (by decide) ?_
      simp [show k < S.ships.length from by omega, Shp.cells, i64_wrap (show -9223372036854775808 ≤ geti plan k * (shpAt S.ships k).each ∧ _ from by omega), i64_wrap (show -9223372036854775808 ≤ (shpAt S.ships k).cost + geti plan k * (shpAt S.ships k).each ∧ _ from by omega), i64_wrap (show -9223372036854775808 ≤ costTo S plan k + ((shpAt S.ships k).cost + geti plan k * (shpAt S.ships k).each) ∧ _ from by omega)]
      refine ⟨by decide, ?_⟩
      refine again_of (k + 1) (by omega) (by omega) ?_
      simp [wk, e]
    · have e : costTo S plan (k + 1) = costTo S plan k := by rw [← gi_geti] at h5; simp only [costTo, if_neg h5]; omega
      simp [h5]
      refine again_of (k + 1) (by omega) (by omega) ?_
      simp [wk, e]
  · obtain rfl : k = plan.length := by omega
    simp
    refine answers_of rfl ?_; simp [costL]
theorem Cost_spec (S : Sup) (plan : List Int) (hl : S.barrels.length ≤ 9223372036854775807) (hf : S.burns.length ≤ 9223372036854775807) (hs : S.ships.length ≤ 9223372036854775807) (hp : plan.length ≤ 9223372036854775807) :
    Spec Try.prog 47 [.agg S.cells, ints plan] (if (supB S && plannedB S plan) = true then .tup [.v (.int .i64 (costL S plan)), .v (.int .i64 0)] else .tup [.v (.int .i64 0), .v (.int .i64 2)]) := by
  refine spec_of mixed Try.func47 (by decide) rfl Try.results47 Try.ntmps47 (by decide) 0 (by simp) ?_
  simp [Sup.cells, brlL, burL, shpL, ints]
  refine pop_spec (supply_spec S hl hf hs) rfl false (.inl (by simp [Sup.cells, brlL, burL, shpL])) (.inl rfl) rfl (by simp) ?_
  cases h1 : supB S with
  | false =>
    simp
    refine answers_of rfl ?_; simp
  | true =>
    have hS := supB_ok h1
    simp
    refine pop_spec (planned_spec S plan hp hs) rfl false (.inl (by simp [Sup.cells, brlL, burL, shpL, ints])) (.inl rfl) rfl (by simp) ?_
    cases h2 : plannedB S plan with
    | false =>
      simp
      refine answers_of rfl ?_; simp
    | true =>
      have hpl := planned_ok h2
      have hlen := hpl.len
      simp
      refine pop_spec (cost_spec S hS plan (by omega) fun i hi => by have := hpl.each i (by omega); have := hS.ship i (by omega); omega) rfl false (.inl (by simp [Sup.cells, brlL, burL, shpL, ints])) (.inl rfl) rfl (by simp) ?_
      simp
      refine answers_of rfl ?_; simp
theorem partBurO_spec (l : List Bur) (hl : l.length ≤ 1000000) (f : FuncId) (first cap : List PV) (h1 : plainL first = true) (h2 : plainL cap = true) (p : Bur → Bool)
    (h : ∀ k, k < l.length → Spec Try.prog f (first ++ ([.agg (burAt l k).cells] ++ cap)) (.v (.bool (p (burAt l k))))) : CallW Try.prog 109 [burL l, .clo (.func f) first cap] [] (fun out => ∃ ep, out = .ret (.own 0 ep 0 (l.filter p).length false) [.rows none ep 85 3 (rowsBu (l.filter p))]) := by
  refine callW_of mixed Try.func109 (by decide) rfl (congrArg Array.toList Try.results109) Try.ntmps109 (by decide) 23 (by simp) (by decide) ?_
  simp [burL, renL_plain h1, renL_plain h2]
  refine pwp_loop (fun k : Nat => [(5, .own 20 ((l.take k).filter p).length 0 ((l.take k).filter p).length false), (10, .v (.int .i64 k)), (20, .rows none ((l.take k).filter p).length 85 3 (rowsBu ((l.take k).filter p)))]) (fun k => k ≤ l.length) (fun k => l.length - k) 0 (Nat.zero_le _) (by simp; rfl) (by simp [vwAll_plain h1, vwAll_plain h2]) ?_
  intro k hk
  by_cases hkl : k < l.length
  · have wk := i64_wrap (show -9223372036854775808 ≤ (k : Int) + 1 ∧ _ from by omega)
    have hle : ((l.take k).filter p).length ≤ k := Nat.le_trans (List.length_filter_le _ _) (by simp; omega)
    have hs := take_filter_Bur l p hkl
    simp [hkl, Bur.cells]
    refine pop_spec (h k hkl) rfl false (.inr ⟨by simp [Bur.cells], by simp [namesL_append, plainL_names h1, plainL_names h2, Bur.cells]⟩) (.inl rfl) rfl (by simp) ?_
    cases hpk : p (burAt l k) with
    | true =>
      rw [hpk, if_pos rfl] at hs
      simp [rowsBu_snoc', show (((l.take k).filter p).length + 1) * 24 ≤ 140737488355328 from by omega, show ((l.take k).filter p).length + 1 ≤ maxLen from by simp [maxLen]; omega]
      refine again_of (k + 1) (by omega) (by omega) ?_
      simp [wk, hs, vwAll_plain h1, vwAll_plain h2]
    | false =>
      rw [hpk, if_neg (by simp), List.append_nil] at hs
      simp
      refine again_of (k + 1) (by omega) (by omega) ?_
      simp [wk, hs, vwAll_plain h1, vwAll_plain h2]
  · obtain rfl : k = l.length := by omega
    rw [List.take_length]
    simp
    refine ends_of (.own 0 (l.filter p).length 0 (l.filter p).length false) [.rows none (l.filter p).length 85 3 (rowsBu (l.filter p))] [20] rfl (by decide) ?_ ?_ ⟨_, rfl⟩
    · simp
    · simp
theorem until1_spec (S : Sup) (k : Nat) (hk : k < S.ships.length) (b : Bur) : Spec Try.prog 110 [.agg b.cells, .rp S.cells 0, .rp [.v (.int .i64 k)] 0] (.v (.bool (decide (b.day < (shpAt S.ships k).day)))) := by
  refine spec_of mixed Try.func110 (by decide) rfl Try.results110 Try.ntmps110 (by decide) 0 (by simp) ?_
  simp [Sup.cells, brlL, burL, shpL, Bur.cells]
  refine pwp_draw 9 (by decide) ?_
  simp [hk, Shp.cells]
  refine ⟨by decide, ?_⟩
  refine answers_of rfl ?_; simp
theorem until_spec (S : Sup) (hS : SupOk S) (k : Nat) (hk : k ≤ S.ships.length) : Spec Try.prog 78 [.agg S.cells, .v (.int .i64 k)] (.agg (untilS S k).cells) := by
  have hns := hS.ns
  have hnf := hS.nf
  refine spec_of mixed Try.func78 (by decide) rfl Try.results78 Try.ntmps78 (by decide) 1 (by simp) ?_
  simp [Sup.cells, brlL, burL, shpL]
  by_cases h : k < S.ships.length
  · simp [h]
    refine pop_callW (partBurO_spec S.burns (by omega) 110 [] [.rp S.cells 0, .rp [.v (.int .i64 k)] 0] rfl rfl (fun b => decide (b.day < (shpAt S.ships k).day)) fun j hj => until1_spec S k h (burAt S.burns j)) rfl [] true (by decide) trivial (.inl (by simp [Sup.cells, brlL, burL, shpL])) ?_
    rintro out ⟨ep, rfl⟩
    refine ⟨[21], ?_, ?_, ?_, ?_⟩
    · simp [backOk]
    · simp
    · simp [back, backV, placeAll]
    simp [back, backV, placeAll, hk]
    have e : untilS S k = ⟨S.barrels, S.burns.filter (fun b => decide (b.day < (shpAt S.ships k).day)), S.ships.take k, S.kilos⟩ := by simp [untilS, h]
    rw [e]
    refine answers_of (by simp; rfl) ?_
    simp [Nat.min_eq_left hk]
    refine ⟨?_, ?_⟩
    · intro j hj
      simp [rowsBu_get hj, Bur.cells]
    · exact .inr fun j hj => by rw [shpAt_take hj]
  · obtain rfl : k = S.ships.length := by omega
    have e : untilS S S.ships.length = S := by simp [untilS]
    rw [e]
    simp
    refine answers_of (by simp; rfl) ?_
    simp
end Go.Qg

namespace Go.Qg
def nilL : List PV → List PV → Prop
  | [], [] => True
  | p :: ps, q :: qs => (q = p ∨ q = .nil ∧ ∃ sz f, p = .sl sz 0 f) ∧ nilL ps qs
  | _, _ => False
theorem nilL_length : ∀ {ps qs : List PV}, nilL ps qs → ps.length = qs.length
  | [], [], _ => rfl
  | p :: ps, q :: qs, h => by simp [nilL_length h.2]
theorem nilL_get : ∀ {ps qs : List PV}, nilL ps qs → ∀ (i : Nat) (p : PV), ps[i]? = some p → ∃ q, qs[i]? = some q ∧ (q = p ∨ q = .nil ∧ ∃ sz f, p = .sl sz 0 f)
  | p :: ps, q :: qs, h, 0, x, hx => by
    simp only [List.getElem?_cons_zero, Option.some.injEq] at hx
    subst hx
    exact ⟨q, rfl, h.1⟩
  | p :: ps, q :: qs, h, i + 1, x, hx => by
    simp only [List.getElem?_cons_succ] at hx ⊢
    exact nilL_get h.2 i x hx
theorem CallW.nil {P : Program} {f : FuncId} {args args' : List PV} {H : PF} {Q : Out → Prop} (h : CallW P f args H Q) (hn : nilL args args') : CallW P f args' H Q :=
  ⟨h.1, fun w vs R Γ Prot h1 h2 h3 h4 => h.2 w vs R Γ Prot h1 h2 (h3.trans (nilL_length hn).symm) fun i u p hu hp => by
    obtain ⟨q, hq, hc⟩ := nilL_get hn i p hp
    have hr := h4 i u q hu hq
    rcases hc with rfl | ⟨rfl, sz, g, rfl⟩
    · exact hr
    · cases hr
      exact .sl none 0 0 sz g (fun _ _ => undef) (Nat.le_refl _) (Nat.zero_le _) (fun i hi => absurd hi (Nat.not_lt_zero _)) (fun i j p hi => absurd hi (Nat.not_lt_zero _)) (fun i j hi => absurd hi (Nat.not_lt_zero _)) (fun i j p hi => absurd hi (Nat.not_lt_zero _))⟩
theorem Spec.nil {P : Program} {f : FuncId} {args args' : List PV} {r : PV} (h : Spec P f args r) (hn : nilL args args') : Spec P f args' r := CallW.nil h hn
end Go.Qg

namespace Go.Qg
open Go.Proofs
set_option maxRecDepth 100000
set_option linter.unusedSimpArgs false
set_option maxHeartbeats 4000000
attribute [local irreducible] pwp pops pdraw pop popCall pdCall thenP blockP scopeP pspec Spec answers ppost CallW
theorem crowsI_range (l : List Int) : (List.range l.length).map (fun i => [PV.v (.int .i64 (geti l i))]) = rowsI l := by
  refine List.ext_getElem? fun i => ?_
  by_cases h : i < l.length
  · rw [rowsI_get h, List.getElem?_map, List.getElem?_range h]; rfl
  · rw [List.getElem?_eq_none (by simp; omega), List.getElem?_eq_none (by simp; omega)]
theorem cloneI_spec (l : List Int) (h0 : 0 < l.length) (hl : l.length ≤ 1000000) : CallW Try.prog 79 [ints l] [] (fun out => out = .ret (.own 0 1 0 l.length false) [.rows none 1 3 1 (rowsI l)]) := by
  refine callW_of mixed Try.func79 (by decide) rfl (congrArg Array.toList Try.results79) Try.ntmps79 (by decide) 8 (by simp) (by decide) ?_
  simp [ints, h0]
  simp [crowsI_range, show l.length * 8 ≤ 140737488355328 from by omega, show l.length ≤ maxLen from by simp [maxLen]; omega]
  refine ends_of (.own 0 1 0 l.length false) [.rows none 1 3 1 (rowsI l)] [5] rfl (by decide) ?_ ?_ rfl
  · simp
  · simp
theorem cloneN_spec : Spec Try.prog 79 [.nil] .nil := by
  refine spec_of mixed Try.func79 (by decide) rfl Try.results79 Try.ntmps79 (by decide) 0 (by simp) ?_
  simp
  refine answers_of rfl ?_; simp
def planV (p : List Int) : PV := if p = [] then .nil else ints p
theorem cloneIS_spec (l : List Int) (hl : l.length ≤ 1000000) : Spec Try.prog 79 [planV l] (ints l) := by
  by_cases h : l = []
  · subst h
    refine spec_of mixed Try.func79 (by decide) rfl Try.results79 Try.ntmps79 (by decide) 0 (by simp) ?_
    simp [planV]
    refine answers_of rfl ?_; simp [ints]
  · have h0 : 0 < l.length := by cases l with | nil => exact absurd rfl h | cons => simp
    refine spec_of mixed Try.func79 (by decide) rfl Try.results79 Try.ntmps79 (by decide) 0 (by simp) ?_
    simp [planV, h, ints, h0]
    simp [crowsI_range, show l.length * 8 ≤ 140737488355328 from by omega, show l.length ≤ maxLen from by simp [maxLen]; omega]
    refine answers_of rfl ?_; simp [ints]
    intro k hk; simp [rowsI_get hk]
def bestH (S : Sup) (st : BestSt) : PF := [.box false [.v (.int .i64 st.2)], .box false S.cells, .box false [ints st.1], .box false [.clo (.func 75) [] [.ref 0 0, .ref 1 0, .ref 2 0, .ref 3 0]]]
theorem planV_nil (p : List Int) (S : List PV) : nilL [.agg S, ints p] [.agg S, planV p] := by
  unfold planV
  split
  · rename_i h
    subst h
    exact ⟨.inl rfl, .inr ⟨rfl, 1, _, rfl⟩, trivial⟩
  · exact ⟨.inl rfl, .inl rfl, trivial⟩
theorem best1_zero (S : Sup) (hS : SupOk S) (p : List Int) (st : BestSt) (hc : p.length + 0 = S.ships.length) (he : ∀ i, i < p.length → 0 ≤ gi p i ∧ gi p i ≤ (shpAt S.ships i).room) : CallW Try.prog 75 [planV p, .ref 0 0, .ref 1 0, .ref 2 0, .ref 3 0] (bestH S st) (fun out => out = .ret (.tup []) (bestH S (srchC S 0 p st))) := by
  have hns := hS.ns
  suffices H : ∀ Q : Out → Prop, Q (.ret (.tup []) (bestH S (srchC S 0 p st))) → CallW Try.prog 75 [planV p, .ref 0 0, .ref 1 0, .ref 2 0, .ref 3 0] (bestH S st) Q from H _ rfl
  intro Q hQ
  have he9 : ∀ i, i < p.length → 0 ≤ gi p i ∧ gi p i ≤ 9 := fun i hi => by have := he i hi; have := hS.ship i (by omega); omega
  have hul : (untilS S p.length).ships.length = p.length := by simp [untilS]; omega
  have hplu : PlanOk (untilS S p.length) p := ⟨hul.symm, fun i hi => by
    rw [hul] at hi
    have e : shpAt (untilS S p.length).ships i = shpAt S.ships i := shpAt_take hi
    rw [e]; exact he i hi⟩
  have hcost := (cost_spec S hS p (by omega) he9).nil (planV_nil p _)
  have hunt := until_spec S hS p.length (by omega)
  have hhold := (holds_spec (untilS S p.length) (supOk_until hS p.length) p hplu).nil (planV_nil p _)
  have hclone := cloneIS_spec p (by omega)
  have hpr : prune S p st = ((decide (0 ≤ st.2) && decide (st.2 ≤ costL S p)) || !decide ((holdsP (untilS S p.length) p).rule = 1)) := rfl
  clear hul hplu
  generalize holdsP (untilS S p.length) p = hh at hhold hpr
  generalize untilS S p.length = U at hunt hhold
  generalize hcs : costL S p = cs at hcost hpr
  have hs1 : prune S p st = true → srchC S 0 p st = st := fun e => by simp [srchC, e]
  have hs2 : prune S p st = false → srchC S 0 p st = (p, cs) := fun e => by simp [srchC, e, hcs]
  obtain ⟨best, least⟩ := st
  simp only at hpr hs1 hs2
  refine callW_of mixed Try.func75 (by decide) rfl (congrArg Array.toList Try.results75) Try.ntmps75 (by decide) 59 (by simp) (by decide) ?_
  by_cases hpne : p = []
  · subst hpne
    simp (config := { maxSteps := 4000000 }) [bestH, planV, Sup.cells, brlL, burL, shpL, ints]
    refine pwp_draw 19 (by decide) ?_
    by_cases h1 : 0 ≤ least
    · simp (config := { maxSteps := 4000000 }) [h1]
      refine pd_spec hcost (by simp [planV, Sup.cells, brlL, burL, shpL, ints]) (by simp) (by simp [planV, Sup.cells, brlL, burL, shpL, ints]) rfl ?_
      by_cases h2 : least ≤ cs
      · have e : prune S [] (best, least) = true := by rw [hpr]; simp [h1, h2]
        simp (config := { maxSteps := 4000000 }) [h1, h2]
        refine ⟨by decide, ?_⟩
        refine ends_of (.tup []) (bestH S (best, least)) [] rfl (by decide) ?_ ?_ (by rw [hs1 e] at hQ; exact hQ)
        · simp (config := { maxSteps := 4000000 }) [bestH, Sup.cells, brlL, burL, shpL, ints]
        · simp
      · simp (config := { maxSteps := 4000000 }) [h1, h2]
        refine pd_spec hunt (by simp [Sup.cells, brlL, burL, shpL, ints]) (by simp) (by simp [Sup.cells, brlL, burL, shpL, ints]) (by simp [Sup.cells, brlL, burL, shpL, ints]) ?_
        simp (config := { maxSteps := 4000000 }) [Sup.cells, brlL, burL, shpL, ints]
        refine pd_spec hhold (by simp [planV, Sup.cells, brlL, burL, shpL, ints]) (by simp) (by simp [planV, Sup.cells, brlL, burL, shpL, ints]) (by simp) ?_
        by_cases h3 : hh.rule = 1
        · have e : prune S [] (best, least) = false := by rw [hpr]; simp [h2, h3]
          simp (config := { maxSteps := 4000000 }) [h3]
          refine ⟨by decide, ?_⟩
          have hlen : S.ships.length = 0 := hc.symm
          simp (config := { maxSteps := 4000000 }) [hlen]
          refine pwp_draw 5 (by decide) ?_
          simp (config := { maxSteps := 4000000 })
          refine pd_spec hclone (by simp [planV, Sup.cells, brlL, burL, shpL, ints]) (by simp) (by simp [planV, ints]) (by simp [ints]) ?_
          simp (config := { maxSteps := 4000000 })
          refine pd_spec hcost (by simp [planV, Sup.cells, brlL, burL, shpL, ints, hlen]) (by simp) (by simp [planV, Sup.cells, brlL, burL, shpL, ints, hlen]) rfl ?_
          simp (config := { maxSteps := 4000000 }) [ints]
          refine ⟨by decide, ?_⟩
          refine ends_of (.tup []) (bestH S ([], cs)) [] rfl (by decide) ?_ ?_ (by rw [hs2 e] at hQ; exact hQ)
          · simp (config := { maxSteps := 4000000 }) [bestH, Sup.cells, brlL, burL, shpL, ints, hlen]
          · simp
        · have e : prune S [] (best, least) = true := by rw [hpr]; simp [h3]
          simp (config := { maxSteps := 4000000 }) [h3]
          refine ⟨by decide, ?_⟩
          refine ends_of (.tup []) (bestH S (best, least)) [] rfl (by decide) ?_ ?_ (by rw [hs1 e] at hQ; exact hQ)
          · simp (config := { maxSteps := 4000000 }) [bestH, Sup.cells, brlL, burL, shpL, ints]
          · simp
    · simp (config := { maxSteps := 4000000 }) [h1]
      refine pd_spec hunt (by simp [Sup.cells, brlL, burL, shpL, ints]) (by simp) (by simp [Sup.cells, brlL, burL, shpL, ints]) (by simp [Sup.cells, brlL, burL, shpL, ints]) ?_
      simp (config := { maxSteps := 4000000 }) [Sup.cells, brlL, burL, shpL, ints]
      refine pd_spec hhold (by simp [planV, Sup.cells, brlL, burL, shpL, ints]) (by simp) (by simp [planV, Sup.cells, brlL, burL, shpL, ints]) (by simp) ?_
      by_cases h3 : hh.rule = 1
      · have e : prune S [] (best, least) = false := by rw [hpr]; simp [h1, h3]
        simp (config := { maxSteps := 4000000 }) [h3]
        refine ⟨by decide, ?_⟩
        have hlen : S.ships.length = 0 := hc.symm
        simp (config := { maxSteps := 4000000 }) [hlen]
        refine pwp_draw 5 (by decide) ?_
        simp (config := { maxSteps := 4000000 })
        refine pd_spec hclone (by simp [planV, Sup.cells, brlL, burL, shpL, ints]) (by simp) (by simp [planV, ints]) (by simp [ints]) ?_
        simp (config := { maxSteps := 4000000 })
        refine pd_spec hcost (by simp [planV, Sup.cells, brlL, burL, shpL, ints, hlen]) (by simp) (by simp [planV, Sup.cells, brlL, burL, shpL, ints, hlen]) rfl ?_
        simp (config := { maxSteps := 4000000 }) [ints]
        refine ⟨by decide, ?_⟩
        refine ends_of (.tup []) (bestH S ([], cs)) [] rfl (by decide) ?_ ?_ (by rw [hs2 e] at hQ; exact hQ)
        · simp (config := { maxSteps := 4000000 }) [bestH, Sup.cells, brlL, burL, shpL, ints, hlen]
        · simp
      · have e : prune S [] (best, least) = true := by rw [hpr]; simp [h3]
        simp (config := { maxSteps := 4000000 }) [h3]
        refine ⟨by decide, ?_⟩
        refine ends_of (.tup []) (bestH S (best, least)) [] rfl (by decide) ?_ ?_ (by rw [hs1 e] at hQ; exact hQ)
        · simp (config := { maxSteps := 4000000 }) [bestH, Sup.cells, brlL, burL, shpL, ints]
        · simp
  · have hp0 : 0 < p.length := by cases p with | nil => exact absurd rfl hpne | cons => simp
    simp (config := { maxSteps := 4000000 }) [bestH, planV, hpne, Sup.cells, brlL, burL, shpL, ints]
    refine pwp_draw 19 (by decide) ?_
    by_cases h1 : 0 ≤ least
    · simp (config := { maxSteps := 4000000 }) [h1]
      refine pd_spec hcost (by simp [planV, hpne, Sup.cells, brlL, burL, shpL, ints]) (by simp) (by simp [planV, hpne, Sup.cells, brlL, burL, shpL, ints]) rfl ?_
      by_cases h2 : least ≤ cs
      · have e : prune S p (best, least) = true := by rw [hpr]; simp [h1, h2]
        simp (config := { maxSteps := 4000000 }) [h1, h2]
        refine ⟨by decide, ?_⟩
        refine ends_of (.tup []) (bestH S (best, least)) [] rfl (by decide) ?_ ?_ (by rw [hs1 e] at hQ; exact hQ)
        · simp (config := { maxSteps := 4000000 }) [bestH, Sup.cells, brlL, burL, shpL, ints]
        · simp
      · simp (config := { maxSteps := 4000000 }) [h1, h2]
        refine pd_spec hunt (by simp [Sup.cells, brlL, burL, shpL, ints]) (by simp) (by simp [Sup.cells, brlL, burL, shpL, ints]) (by simp [Sup.cells, brlL, burL, shpL, ints]) ?_
        simp (config := { maxSteps := 4000000 }) [Sup.cells, brlL, burL, shpL, ints]
        refine pd_spec hhold (by simp [planV, hpne, Sup.cells, brlL, burL, shpL, ints]) (by simp) (by simp [planV, hpne, Sup.cells, brlL, burL, shpL, ints]) (by simp) ?_
        by_cases h3 : hh.rule = 1
        · have e : prune S p (best, least) = false := by rw [hpr]; simp [h2, h3]
          simp (config := { maxSteps := 4000000 }) [h3]
          refine ⟨by decide, ?_⟩
          have hlen : S.ships.length = p.length := hc.symm
          simp (config := { maxSteps := 4000000 }) [hlen]
          refine pwp_draw 5 (by decide) ?_
          simp (config := { maxSteps := 4000000 })
          refine pd_spec hclone (by simp [planV, hpne, Sup.cells, brlL, burL, shpL, ints]) (by simp) (by simp [planV, hpne, ints]) (by simp [ints]) ?_
          simp (config := { maxSteps := 4000000 })
          refine pd_spec hcost (by simp [planV, hpne, Sup.cells, brlL, burL, shpL, ints, hlen]) (by simp) (by simp [planV, hpne, Sup.cells, brlL, burL, shpL, ints, hlen]) rfl ?_
          simp (config := { maxSteps := 4000000 }) [ints]
          refine ⟨by decide, ?_⟩
          refine ends_of (.tup []) (bestH S (p, cs)) [] rfl (by decide) ?_ ?_ (by rw [hs2 e] at hQ; exact hQ)
          · simp (config := { maxSteps := 4000000 }) [bestH, Sup.cells, brlL, burL, shpL, ints, hlen]
          · simp
        · have e : prune S p (best, least) = true := by rw [hpr]; simp [h3]
          simp (config := { maxSteps := 4000000 }) [h3]
          refine ⟨by decide, ?_⟩
          refine ends_of (.tup []) (bestH S (best, least)) [] rfl (by decide) ?_ ?_ (by rw [hs1 e] at hQ; exact hQ)
          · simp (config := { maxSteps := 4000000 }) [bestH, Sup.cells, brlL, burL, shpL, ints]
          · simp
    · simp (config := { maxSteps := 4000000 }) [h1]
      refine pd_spec hunt (by simp [Sup.cells, brlL, burL, shpL, ints]) (by simp) (by simp [Sup.cells, brlL, burL, shpL, ints]) (by simp [Sup.cells, brlL, burL, shpL, ints]) ?_
      simp (config := { maxSteps := 4000000 }) [Sup.cells, brlL, burL, shpL, ints]
      refine pd_spec hhold (by simp [planV, hpne, Sup.cells, brlL, burL, shpL, ints]) (by simp) (by simp [planV, hpne, Sup.cells, brlL, burL, shpL, ints]) (by simp) ?_
      by_cases h3 : hh.rule = 1
      · have e : prune S p (best, least) = false := by rw [hpr]; simp [h1, h3]
        simp (config := { maxSteps := 4000000 }) [h3]
        refine ⟨by decide, ?_⟩
        have hlen : S.ships.length = p.length := hc.symm
        simp (config := { maxSteps := 4000000 }) [hlen]
        refine pwp_draw 5 (by decide) ?_
        simp (config := { maxSteps := 4000000 })
        refine pd_spec hclone (by simp [planV, hpne, Sup.cells, brlL, burL, shpL, ints]) (by simp) (by simp [planV, hpne, ints]) (by simp [ints]) ?_
        simp (config := { maxSteps := 4000000 })
        refine pd_spec hcost (by simp [planV, hpne, Sup.cells, brlL, burL, shpL, ints, hlen]) (by simp) (by simp [planV, hpne, Sup.cells, brlL, burL, shpL, ints, hlen]) rfl ?_
        simp (config := { maxSteps := 4000000 }) [ints]
        refine ⟨by decide, ?_⟩
        refine ends_of (.tup []) (bestH S (p, cs)) [] rfl (by decide) ?_ ?_ (by rw [hs2 e] at hQ; exact hQ)
        · simp (config := { maxSteps := 4000000 }) [bestH, Sup.cells, brlL, burL, shpL, ints, hlen]
        · simp
      · have e : prune S p (best, least) = true := by rw [hpr]; simp [h3]
        simp (config := { maxSteps := 4000000 }) [h3]
        refine ⟨by decide, ?_⟩
        refine ends_of (.tup []) (bestH S (best, least)) [] rfl (by decide) ?_ ?_ (by rw [hs1 e] at hQ; exact hQ)
        · simp (config := { maxSteps := 4000000 }) [bestH, Sup.cells, brlL, burL, shpL, ints]
        · simp
end Go.Qg
