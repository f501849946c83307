/-
  Lemmas and contracts that hold of the whole program: 17 texts in one.
  No condition.
-/
import Derived.Test.YthfdpekgbdjniaaZ4
import Derived.KernelRfl
import Derived.Test.YthfdpekgbdjniaaRows
import Derived.Lib.AppendZerosOnto
import Derived.Lib.Overlaps
import Derived.Lib.JoinLaws
import Derived.Laws.IdiomCopy
import Derived.Laws.NewBlocks
import Derived.Shelf.RegionOpenPlain
set_option linter.all false

namespace Go.Qg
set_option maxRecDepth 100000
def seenP (S : Sup) (t : Int) (p : Pl) (c : Int × Int) : Int × Int :=
  if c.1 < 0 ∧ 30 < p.barrels.length ∧ 0 < p.ship ∧ (shpAt S.ships (p.ship - 1)).day = t then ((p.ship : Int) - 1, t) else c
def crowdP (S : Sup) (plan b : List Int) : Nat → Int × Int
  | 0 => (-1, 0)
  | n + 1 => if (runP S plan b n).2 = true then crowdP S plan b n else seenP S n (loadP S plan n (clearP n (runP S plan b n).1)) (crowdP S plan b n)
def lowsB (S : Sup) : List Int := S.burns.map (·.low)
def highsB (S : Sup) : List Int := S.burns.map (·.high)
structure Flt where
  rule : Int
  of : Int
  deriving DecidableEq
def holdsP (S : Sup) (plan : List Int) : Flt :=
  let c := crowdP S plan (lowsB S) (days S)
  let q := runP S plan (highsB S) (days S)
  let lacks := lackI q.2 q.1.flight
  if 0 ≤ c.1 ∧ (lacks < 0 ∨ c.2 ≤ (burAt S.burns lacks.toNat).day) then ⟨3, c.1⟩
  else if 0 ≤ lacks then ⟨2, lacks⟩ else ⟨1, 0⟩
def rfull (S : Sup) (counts : List Int) (lacks : Int) : Nat → Nat → Int
  | 0, _ => -1
  | c + 1, i => if i < counts.length ∧ 30 < gi counts i ∧ (lacks < 0 ∨ (shpAt S.ships i).day ≤ (burAt S.burns lacks.toNat).day) then i else rfull S counts lacks c (i + 1)
def holdsR (S : Sup) (plan : List Int) : Flt :=
  let lacks := (rrun S plan (highsB S) (days S)).lacks
  let f := rfull S (rrun S plan (lowsB S) (days S)).counts lacks S.ships.length 0
  if 0 ≤ f then ⟨3, f⟩ else if 0 ≤ lacks then ⟨2, lacks⟩ else ⟨1, 0⟩
theorem rload_counts_same (S : Sup) (b : List Int) (t : Int) (q : Rp) : ∀ k, (rfly S b t k q).counts = q.counts
  | 0 => rfl
  | k + 1 => by
    have ih := rload_counts_same S b t q k
    simp only [rfly]
    split
    · exact ih
    · split
      · exact ih
      · split
        · exact ih
        · exact ih
structure Seen (S : Sup) (p : Pl) (counts : List Int) (c : Int × Int) : Prop where
  len : counts.length = p.ship
  no : c.1 < 0 → c.1 = -1 ∧ ∀ i, i < counts.length → gi counts i ≤ 30
  yes : 0 ≤ c.1 → ∃ k : Nat, c.1 = k ∧ k < counts.length ∧ c.2 = (shpAt S.ships k).day ∧ 30 < gi counts k ∧ ∀ i, i < k → gi counts i ≤ 30
theorem gi_append {l : List Int} {x : Int} {i : Nat} : gi (l ++ [x]) i = if i = l.length then x else gi l i := by
  unfold gi
  rw [List.getD_eq_getElem?_getD, List.getD_eq_getElem?_getD]
  by_cases h : i < l.length
  · rw [List.getElem?_append_left h, if_neg (by omega)]
  · rw [List.getElem?_append_right (by omega)]
    by_cases he : i = l.length
    · subst he; simp
    · rw [if_neg he, List.getElem?_eq_none (by simp; omega), List.getElem?_eq_none (by omega)]
theorem flyP_ship (S : Sup) (b : List Int) (t : Int) : ∀ (c : Nat) (p : Pl), (flyP S b t c p).1.ship = p.ship
  | 0, p => rfl
  | c + 1, p => by
    simp only [flyP]
    split
    · split
      · rfl
      · rw [flyP_ship S b t c]
    · rfl
theorem seen_run {S : Sup} (hS : SupOk S) (plan b : List Int) : ∀ n, Seen S (runP S plan b n).1 (rrun S plan b n).counts (crowdP S plan b n)
  | 0 => ⟨rfl, fun _ => ⟨rfl, fun i hi => (by simp [rrun] at hi)⟩, fun h => by simp only [crowdP] at h; omega⟩
  | n + 1 => by
    have ih := seen_run hS plan b n
    obtain ⟨a1, a2, a3, a4⟩ := run_alike hS plan b n
    cases hr : (runP S plan b n).2 with
    | true =>
      rw [hr] at a2
      have e1 : runP S plan b (n + 1) = runP S plan b n := by rw [runP, if_pos hr]
      have e2 : rrun S plan b (n + 1) = rrun S plan b n := by rw [rrun, if_pos (by rw [a2]; simp only [lackI]; omega)]
      have e3 : crowdP S plan b (n + 1) = crowdP S plan b n := by rw [crowdP, if_pos hr]
      rw [e1, e2, e3]; exact ih
    | false =>
      rw [hr] at a2
      have a2 : (rrun S plan b n).lacks = -1 := a2
      have hat := a4 hr
      have e1 : runP S plan b (n + 1) = dayP S plan b n (runP S plan b n).1 := by rw [runP, if_neg (by rw [hr]; simp)]
      have e2 : rrun S plan b (n + 1) = rday S plan b n (rrun S plan b n) := by rw [rrun, if_neg (by rw [a2]; omega)]
      have e3 : crowdP S plan b (n + 1) = seenP S n (loadP S plan n (clearP n (runP S plan b n).1)) (crowdP S plan b n) := by rw [crowdP, if_neg (by rw [hr]; simp)]
      have hat' : At S n (clearP n (runP S plan b n).1) := ⟨hat.s0, hat.s1, hat.s2, hat.f0, hat.f1, hat.f2⟩
      obtain ⟨_, _, _, _, _, _, l7⟩ := load_alike hS plan hat' (clear_alike (t := n) a1)
      rw [e1, e2, e3]
      have es : (dayP S plan b n (runP S plan b n).1).1.ship = (loadP S plan n (clearP n (runP S plan b n).1)).ship := flyP_ship ..
      have ec : (rday S plan b n (rrun S plan b n)).counts = (rload S plan n S.ships.length (rclear n (rrun S plan b n))).counts := rload_counts_same ..
      obtain ⟨i1, i2, i3⟩ := ih
      have e4 : (rclear n (rrun S plan b n)).counts = (rrun S plan b n).counts := rfl
      have e5 : (clearP n (runP S plan b n).1).ship = (runP S plan b n).1.ship := rfl
      rw [e4] at l7
      rw [e5] at l7
      by_cases hc : (runP S plan b n).1.ship < S.ships.length ∧ (shpAt S.ships (runP S plan b n).1.ship).day = n
      · rw [if_pos hc] at l7
        have hld : (loadP S plan n (clearP n (runP S plan b n).1)).ship = (runP S plan b n).1.ship + 1 := by
          unfold loadP
          rw [if_pos (show (clearP (n : Int) (runP S plan b n).1).ship < S.ships.length ∧ (shpAt S.ships (clearP (n : Int) (runP S plan b n).1).ship).day = n from hc)]; rfl
        have hsn : seenP S n (loadP S plan n (clearP n (runP S plan b n).1)) (crowdP S plan b n) = if (crowdP S plan b n).1 < 0 ∧ 30 < (loadP S plan n (clearP n (runP S plan b n).1)).barrels.length then (((runP S plan b n).1.ship : Int), (n : Int)) else crowdP S plan b n := by
          unfold seenP
          rw [hld, Nat.add_sub_cancel]
          by_cases h1 : (crowdP S plan b n).1 < 0 ∧ 30 < (loadP S plan n (clearP n (runP S plan b n).1)).barrels.length
          · rw [if_pos ⟨h1.1, h1.2, by omega, hc.2⟩, if_pos h1]
            congr 1; push_cast; omega
          · rw [if_neg (fun h => h1 ⟨h.1, h.2.1⟩), if_neg h1]
        rw [hsn]
        refine ⟨by rw [ec, l7, es, hld]; simp [i1], fun h => ?_, fun h => ?_⟩
        · split at h
          · omega
          · rename_i hno
            rw [if_neg hno]
            obtain ⟨j1, j2⟩ := i2 h
            refine ⟨j1, fun i hi => ?_⟩
            rw [ec, l7] at hi ⊢
            rw [gi_append]
            split
            · have : ¬ 30 < (loadP S plan n (clearP n (runP S plan b n).1)).barrels.length := fun h2 => hno ⟨h, h2⟩
              omega
            · exact j2 i (by simp at hi; omega)
        · split at h
          · rename_i hyes
            rw [if_pos hyes]
            obtain ⟨j1, j2⟩ := i2 hyes.1
            refine ⟨(runP S plan b n).1.ship, rfl, by rw [ec, l7]; simp [i1], hc.2.symm, ?_, fun i hi => ?_⟩
            · rw [ec, l7, gi_append, if_pos i1.symm]; omega
            · rw [ec, l7, gi_append, if_neg (by omega)]
              exact j2 i (by omega)
          · rename_i hno
            rw [if_neg hno]
            obtain ⟨k, k1, k2, k3, k4, k5⟩ := i3 h
            refine ⟨k, k1, by rw [ec, l7]; simp; omega, k3, ?_, fun i hi => ?_⟩
            · rw [ec, l7, gi_append, if_neg (by omega)]; exact k4
            · rw [ec, l7, gi_append, if_neg (by omega)]; exact k5 i hi
      · rw [if_neg hc] at l7
        have hld : (loadP S plan n (clearP n (runP S plan b n).1)).ship = (runP S plan b n).1.ship := by
          unfold loadP
          rw [if_neg (show ¬ ((clearP (n : Int) (runP S plan b n).1).ship < S.ships.length ∧ (shpAt S.ships (clearP (n : Int) (runP S plan b n).1).ship).day = n) from hc)]; rfl
        have hsn : seenP S n (loadP S plan n (clearP n (runP S plan b n).1)) (crowdP S plan b n) = crowdP S plan b n := by
          unfold seenP
          rw [hld]
          refine if_neg fun h => ?_
          have := hat.s1 ((runP S plan b n).1.ship - 1) (by omega)
          omega
        rw [hsn]
        exact ⟨by rw [ec, l7, es, hld]; exact i1, fun h => by rw [ec, l7]; exact i2 h, fun h => by rw [ec, l7]; exact i3 h⟩
theorem rfull_spec (S : Sup) (counts : List Int) (lacks : Int) : ∀ (c i : Nat), (rfull S counts lacks c i = -1 ∧ ∀ j, i ≤ j → j < i + c → ¬ (j < counts.length ∧ 30 < gi counts j ∧ (lacks < 0 ∨ (shpAt S.ships j).day ≤ (burAt S.burns lacks.toNat).day))) ∨
    ∃ k : Nat, rfull S counts lacks c i = k ∧ i ≤ k ∧ k < i + c ∧ (k < counts.length ∧ 30 < gi counts k ∧ (lacks < 0 ∨ (shpAt S.ships k).day ≤ (burAt S.burns lacks.toNat).day)) ∧ ∀ j, i ≤ j → j < k → ¬ (j < counts.length ∧ 30 < gi counts j ∧ (lacks < 0 ∨ (shpAt S.ships j).day ≤ (burAt S.burns lacks.toNat).day))
  | 0, i => .inl ⟨rfl, fun j h1 h2 => by omega⟩
  | c + 1, i => by
    simp only [rfull]
    by_cases h : i < counts.length ∧ 30 < gi counts i ∧ (lacks < 0 ∨ (shpAt S.ships i).day ≤ (burAt S.burns lacks.toNat).day)
    · rw [if_pos h]
      exact .inr ⟨i, rfl, Nat.le_refl _, by omega, h, fun j h1 h2 => by omega⟩
    · rw [if_neg h]
      rcases rfull_spec S counts lacks c (i + 1) with ⟨h1, h2⟩ | ⟨k, h1, h2, h3, h4, h5⟩
      · refine .inl ⟨h1, fun j h3 h4 => ?_⟩
        rcases Nat.lt_or_eq_of_le h3 with h5 | rfl
        · exact h2 j (by omega) (by omega)
        · exact h
      · refine .inr ⟨k, h1, by omega, by omega, h4, fun j h6 h7 => ?_⟩
        rcases Nat.lt_or_eq_of_le h6 with h8 | rfl
        · exact h5 j (by omega) h7
        · exact h
theorem holds_eq {S : Sup} (hS : SupOk S) (plan : List Int) : holdsP S plan = holdsR S plan := by
  obtain ⟨s1, s2, s3⟩ := seen_run hS plan (lowsB S) (days S)
  have hl := (run_alike hS plan (highsB S) (days S)).2.1
  have hship : (runP S plan (lowsB S) (days S)).1.ship ≤ S.ships.length := by
    have key : ∀ n, (runP S plan (lowsB S) n).1.ship ≤ S.ships.length := by
      intro n
      induction n with
      | zero => exact Nat.zero_le _
      | succ n ih =>
        rw [runP]
        split
        · exact ih
        · rw [show (dayP S plan (lowsB S) n (runP S plan (lowsB S) n).1).1.ship = _ from flyP_ship ..]
          unfold loadP
          split
          · rename_i hc; exact hc.1
          · exact ih
    exact key _
  unfold holdsP holdsR
  simp only [← hl]
  generalize (rrun S plan (highsB S) (days S)).lacks = L at *
  generalize (rrun S plan (lowsB S) (days S)).counts = C at *
  generalize crowdP S plan (lowsB S) (days S) = c at *
  by_cases hc : 0 ≤ c.1
  · obtain ⟨k, k1, k2, k3, k4, k5⟩ := s3 hc
    have hks : k < S.ships.length := by omega
    by_cases hd : L < 0 ∨ c.2 ≤ (burAt S.burns L.toNat).day
    · rw [if_pos ⟨hc, hd⟩]
      have : rfull S C L S.ships.length 0 = k := by
        rcases rfull_spec S C L S.ships.length 0 with ⟨_, h2⟩ | ⟨m, h1, _, h3, h4, h5⟩
        · exact (h2 k (Nat.zero_le _) (by omega) ⟨k2, k4, by rw [← k3]; exact hd⟩).elim
        · rw [h1]
          rcases Nat.lt_trichotomy m k with h | h | h
          · have := k5 m h; omega
          · rw [h]
          · exact (h5 k (Nat.zero_le _) h ⟨k2, k4, by rw [← k3]; exact hd⟩).elim
      rw [this, if_pos (by omega), k1]
    · rw [if_neg fun h => hd h.2]
      have : rfull S C L S.ships.length 0 = -1 := by
        rcases rfull_spec S C L S.ships.length 0 with ⟨h1, _⟩ | ⟨m, h1, _, h3, h4, h5⟩
        · exact h1
        · exfalso
          have hmk : k ≤ m := by
            rcases Nat.lt_or_ge m k with h | h
            · have := k5 m h; omega
            · exact h
          have hle : (shpAt S.ships k).day ≤ (shpAt S.ships m).day := by
            rcases Nat.lt_or_eq_of_le hmk with h | rfl
            · have := hS.ship_lt h (by omega); omega
            · exact Int.le_refl _
          exact hd (h4.2.2.imp_right fun h => by rw [k3]; exact Int.le_trans hle h)
      rw [this, if_neg (show ¬ (0 : Int) ≤ -1 by omega)]
  · rw [if_neg fun h => hc h.1]
    obtain ⟨_, h2⟩ := s2 (by omega)
    have : rfull S C L S.ships.length 0 = -1 := by
      rcases rfull_spec S C L S.ships.length 0 with ⟨h1, _⟩ | ⟨m, h1, _, h3, h4, h5⟩
      · exact h1
      · exfalso
        have := h2 m h4.1
        have := h4.2.1
        omega
    rw [this, if_neg (show ¬ (0 : Int) ≤ -1 by omega)]
end Go.Qg

namespace Go.Qg
set_option maxRecDepth 100000
def untilS (S : Sup) (k : Nat) : Sup :=
  { S with burns := if k < S.ships.length then S.burns.filter fun b => decide (b.day < (shpAt S.ships k).day) else S.burns, ships := S.ships.take k }
def fineB (S : Sup) (plan : List Int) : Bool := decide ((holdsP S plan).rule = 1)
theorem fine_iff {S : Sup} (plan : List Int) : fineB S plan = true ↔ (runP S plan (highsB S) (days S)).2 = false ∧ (crowdP S plan (lowsB S) (days S)).1 < 0 := by
  have hL : ((runP S plan (highsB S) (days S)).2 = false ↔ lackI (runP S plan (highsB S) (days S)).2 (runP S plan (highsB S) (days S)).1.flight < 0) := by
    cases (runP S plan (highsB S) (days S)).2 with
    | true => simp only [lackI]; constructor
              · intro h; cases h
              · intro h; omega
    | false => simp only [lackI]; constructor
               · intro _; omega
               · intro _; trivial
  rw [hL]
  unfold fineB holdsP
  rw [decide_eq_true_eq]
  simp only
  generalize lackI (runP S plan (highsB S) (days S)).2 (runP S plan (highsB S) (days S)).1.flight = L
  constructor
  · intro h1
    split at h1
    · cases h1
    · rename_i hn
      split at h1
      · cases h1
      · rename_i hl
        refine ⟨by omega, ?_⟩
        rcases Int.lt_or_le (crowdP S plan (lowsB S) (days S)).1 0 with h2 | h2
        · exact h2
        · exact (hn ⟨h2, .inl (by omega)⟩).elim
  · rintro ⟨h0, h1⟩
    rw [if_neg fun x => by have := x.1; omega, if_neg (by omega)]
theorem shpAt_take {l : List Shp} {k i : Nat} (h : i < k) : shpAt (l.take k) i = shpAt l i := by
  unfold shpAt
  rw [List.getD_eq_getElem?_getD, List.getD_eq_getElem?_getD, List.getElem?_take_of_lt h]
theorem gi_take {l : List Int} {k i : Nat} (h : i < k) : gi (l.take k) i = gi l i := by
  unfold gi
  rw [List.getD_eq_getElem?_getD, List.getD_eq_getElem?_getD, List.getElem?_take_of_lt h]
theorem burAt_take {l : List Bur} {k i : Nat} (h : i < k) : burAt (l.take k) i = burAt l i := by
  unfold burAt
  rw [List.getD_eq_getElem?_getD, List.getD_eq_getElem?_getD, List.getElem?_take_of_lt h]
theorem filter_take {D : Int} : ∀ {l : List Bur}, (∀ i, i + 1 < l.length → (burAt l i).day ≤ (burAt l (i + 1)).day) → ∃ m, m ≤ l.length ∧ (l.filter fun b => decide (b.day < D)) = l.take m ∧ (∀ i, i < m → (burAt l i).day < D) ∧ ∀ i, m ≤ i → i < l.length → D ≤ (burAt l i).day
  | [], _ => ⟨0, Nat.le_refl _, rfl, fun i hi => by omega, fun i _ hi => (by simp at hi)⟩
  | b :: l, h => by
    obtain ⟨m, h1, h2, h3, h4⟩ := filter_take (D := D) (l := l) fun i hi => h (i + 1) (by simp; omega)
    by_cases hb : b.day < D
    · refine ⟨m + 1, by simp; omega, by rw [List.filter_cons, if_pos (by simpa using hb), h2]; rfl, fun i hi => ?_, fun i hi1 hi2 => ?_⟩
      · cases i with
        | zero => exact hb
        | succ i => exact h3 i (by omega)
      · cases i with
        | zero => omega
        | succ i => exact h4 i (by omega) (by simp at hi2; omega)
    · have asc : ∀ i, i < (b :: l).length → b.day ≤ (burAt (b :: l) i).day := by
        intro i
        induction i with
        | zero => intro _; exact Int.le_refl _
        | succ i ih =>
          intro hi
          have := ih (by omega)
          have := h i hi
          omega
      refine ⟨0, Nat.zero_le _, ?_, fun i hi => by omega, fun i _ hi2 => ?_⟩
      · rw [List.take_zero, List.filter_eq_nil_iff]
        intro x hx
        obtain ⟨i, hi, rfl⟩ := List.mem_iff_getElem.1 hx
        have := asc i hi
        rw [show burAt (b :: l) i = (b :: l)[i] from by simp [burAt, List.getElem?_eq_getElem hi]] at this
        simp; omega
      · have := asc i hi2; omega
structure Part (S S' : Sup) (k m : Nat) (D : Int) : Prop where
  b : S'.barrels = S.barrels
  k' : S'.kilos = S.kilos
  s : S'.ships = S.ships.take k
  f : S'.burns = S.burns.take m
  kl : k ≤ S.ships.length
  ml : m ≤ S.burns.length
  s2 : ∀ i, k ≤ i → i < S.ships.length → D ≤ (shpAt S.ships i).day
  f1 : ∀ i, i < m → (burAt S.burns i).day < D
  f2 : ∀ i, m ≤ i → i < S.burns.length → D ≤ (burAt S.burns i).day
theorem part_until {S : Sup} (hS : SupOk S) {k : Nat} (hk : k < S.ships.length) : ∃ m, Part S (untilS S k) k m (shpAt S.ships k).day := by
  obtain ⟨m, h1, h2, h3, h4⟩ := filter_take (D := (shpAt S.ships k).day) hS.later
  refine ⟨m, rfl, rfl, rfl, by simp only [untilS, if_pos hk]; exact h2, by omega, h1, fun i h5 h6 => ?_, h3, h4⟩
  rcases Nat.lt_or_eq_of_le h5 with h | rfl
  · have := hS.ship_lt h h6; omega
  · exact Int.le_refl _
theorem part_load {S S' : Sup} {k m : Nat} {D : Int} (h : Part S S' k m D) {plan plan' : List Int} (hpl : ∀ i, i < k → gi plan' i = gi plan i) {t : Int} (ht : t < D) (p : Pl) : loadP S' plan' t p = loadP S plan t p := by
  unfold loadP
  have hlen : S'.ships.length = k := by rw [h.s, List.length_take]; have := h.kl; omega
  by_cases hp : p.ship < k
  · have e : shpAt S'.ships p.ship = shpAt S.ships p.ship := by rw [h.s, shpAt_take hp]
    have hk := h.kl
    rw [hlen, e]
    by_cases hc : (shpAt S.ships p.ship).day = t
    · rw [if_pos ⟨hp, hc⟩, if_pos ⟨by omega, hc⟩]
      simp only [comes, e, h.k', hpl _ hp]
    · rw [if_neg fun x => hc x.2, if_neg fun x => hc x.2]
  · rw [hlen, if_neg fun x => hp x.1, if_neg fun x => by have := h.s2 _ (by omega) x.1; omega]
theorem part_fly {S S' : Sup} {k m : Nat} {D : Int} (h : Part S S' k m D) {b b' : List Int} (hb : ∀ i, i < m → gi b' i = gi b i) {t : Int} (ht : t < D) : ∀ (c c' : Nat) (p : Pl), S.burns.length = p.flight + c → S'.burns.length ≤ p.flight + c' → flyP S' b' t c' p = flyP S b t c p := by
  have hlen : S'.burns.length = m := by rw [h.f, List.length_take]; have := h.ml; omega
  intro c
  induction c with
  | zero =>
    intro c' p h1 h2
    have hml := h.ml
    cases c' with
    | zero => rfl
    | succ c' => simp only [flyP]; rw [hlen, if_neg fun x => by omega]
  | succ c ih =>
    intro c' p h1 h2
    rw [hlen] at h2
    simp only [flyP]
    by_cases hp : p.flight < m
    · have e : burAt S'.burns p.flight = burAt S.burns p.flight := by rw [h.f, burAt_take hp]
      cases c' with
      | zero => omega
      | succ c' =>
        simp only [flyP]
        rw [hlen, e, hb _ hp]
        by_cases hc : (burAt S.burns p.flight).day = t
        · rw [if_pos (show p.flight < m ∧ (burAt S.burns p.flight).day = t from ⟨hp, hc⟩), if_pos (show p.flight < S.burns.length ∧ (burAt S.burns p.flight).day = t from ⟨by omega, hc⟩)]
          split
          · rfl
          · exact ih c' _ (by simp only; omega) (by rw [hlen]; simp only; omega)
        · rw [if_neg fun x => hc x.2, if_neg fun x => hc x.2]
    · rw [if_neg fun x => by have := h.f2 _ (by omega) x.1; omega]
      cases c' with
      | zero => rfl
      | succ c' => simp only [flyP]; rw [hlen, if_neg fun x => by omega]
theorem part_run {S S' : Sup} (hS : SupOk S) {k m : Nat} {D : Int} (h : Part S S' k m D) {plan plan' b b' : List Int} (hpl : ∀ i, i < k → gi plan' i = gi plan i) (hb : ∀ i, i < m → gi b' i = gi b i) : ∀ n : Nat, (n : Int) ≤ D → runP S' plan' b' n = runP S plan b n ∧ crowdP S' plan' b' n = crowdP S plan b n
  | 0, _ => ⟨by simp only [runP, Pl.first, h.b], rfl⟩
  | n + 1, hn => by
    obtain ⟨h1, h2⟩ := part_run hS h hpl hb n (by omega)
    have hat := (run_alike hS plan b n).2.2.2
    rw [runP, runP, crowdP, crowdP, h1, h2]
    cases hr : (runP S plan b n).2 with
    | true => exact ⟨rfl, rfl⟩
    | false =>
      have hat := hat hr
      have el := part_load h hpl (show (n : Int) < D by omega) (clearP n (runP S plan b n).1)
      have hfl : (loadP S plan n (clearP n (runP S plan b n).1)).flight = (runP S plan b n).1.flight := by
        unfold loadP; split <;> rfl
      have hf0 := hat.f0
      refine ⟨?_, ?_⟩
      · simp only [Bool.false_eq_true, if_false, dayP, el]
        exact part_fly h hb (by omega) _ _ _ (by rw [hfl]; omega) (by omega)
      · simp only [Bool.false_eq_true, if_false, el]
        unfold seenP
        by_cases hc : (crowdP S plan b n).1 < 0 ∧ 30 < (loadP S plan n (clearP n (runP S plan b n).1)).barrels.length ∧ 0 < (loadP S plan n (clearP n (runP S plan b n).1)).ship
        · have hk : (loadP S plan n (clearP n (runP S plan b n).1)).ship - 1 < k := by
            rcases Nat.lt_or_ge ((loadP S plan n (clearP n (runP S plan b n).1)).ship - 1) k with h5 | h5
            · exact h5
            · exfalso
              have hat' : At S n (clearP n (runP S plan b n).1) := ⟨hat.s0, hat.s1, hat.s2, hat.f0, hat.f1, hat.f2⟩
              have h6 := load_alike hS plan (q := ⟨(clearP n (runP S plan b n).1).barrels, (clearP n (runP S plan b n).1).came, (clearP n (runP S plan b n).1).drawn, (clearP n (runP S plan b n).1).waste, -1, []⟩) hat' ⟨rfl, rfl, rfl, rfl⟩
              have h7 := h6.2.2.2.1 ((loadP S plan n (clearP n (runP S plan b n).1)).ship - 1) (by omega)
              have h8 := h6.2.2.2.2.2.1
              have := h.s2 _ h5 (by omega)
              omega
          rw [h.s, shpAt_take hk]
        · rw [if_neg fun x => hc ⟨x.1, x.2.1, x.2.2.1⟩, if_neg fun x => hc ⟨x.1, x.2.1, x.2.2.1⟩]
theorem run_stays (S : Sup) (plan b : List Int) {n : Nat} (h : (runP S plan b n).2 = true) : ∀ m, n ≤ m → (runP S plan b m).2 = true
  | 0, hm => by obtain rfl : n = 0 := by omega
                exact h
  | m + 1, hm => by
    rcases Nat.lt_or_eq_of_le hm with h1 | rfl
    · have := run_stays S plan b h m (by omega)
      rw [runP, if_pos this]; exact this
    · exact h
theorem crowd_stays (S : Sup) (plan b : List Int) {n : Nat} (h : 0 ≤ (crowdP S plan b n).1) : ∀ m, n ≤ m → 0 ≤ (crowdP S plan b m).1
  | 0, hm => by obtain rfl : n = 0 := by omega
                exact h
  | m + 1, hm => by
    rcases Nat.lt_or_eq_of_le hm with h1 | rfl
    · have := crowd_stays S plan b h m (by omega)
      rw [crowdP]
      split
      · exact this
      · unfold seenP
        rw [if_neg fun x => by omega]; exact this
    · exact h
theorem supOk_until {S : Sup} (hS : SupOk S) (k : Nat) : SupOk (untilS S k) := by
  by_cases hk : k < S.ships.length
  · obtain ⟨m, h⟩ := part_until hS hk
    have hl : (untilS S k).ships.length = k := by rw [h.s, List.length_take]; omega
    have hm : (untilS S k).burns.length = m := by rw [h.f, List.length_take]; have := h.ml; omega
    have hml := h.ml
    have eb : ∀ i, i < m → burAt (untilS S k).burns i = burAt S.burns i := fun i hi => by rw [h.f, burAt_take hi]
    have es : ∀ i, i < k → shpAt (untilS S k).ships i = shpAt S.ships i := fun i hi => by rw [h.s, shpAt_take hi]
    refine ⟨by rw [h.b]; exact hS.pos, by rw [h.b]; exact hS.nb, by rw [hm]; have := hS.nf; omega, by rw [hl]; have := hS.ns; omega, by rw [h.k']; exact hS.k, fun i hi => ?_, fun i hi => ?_, fun i hi => ?_, fun i hi => ?_⟩
    · rw [hm] at hi; rw [eb i hi]; exact hS.burn i (by omega)
    · rw [hm] at hi; rw [eb i (by omega), eb _ hi]; exact hS.later i (by omega)
    · rw [hl] at hi; rw [es i hi]; exact hS.ship i (by omega)
    · rw [hl] at hi; rw [es i (by omega), es _ hi]; exact hS.next i (by omega)
  · have : untilS S k = S := by
      unfold untilS
      rw [if_neg hk, List.take_of_length_le (by omega)]
    rw [this]; exact hS
theorem fine_until {S : Sup} (hS : SupOk S) {plan plan' : List Int} {k : Nat} (hpl : ∀ i, i < k → gi plan' i = gi plan i) (hk : k < S.ships.length) (h : fineB S plan = true) : fineB (untilS S k) plan' = true := by
  obtain ⟨h1, h2⟩ := (fine_iff plan).1 h
  obtain ⟨m, hp⟩ := part_until hS hk
  have hS' := supOk_until hS k
  have hD0 := (hS.ship k hk).1
  have hlast : lastD (untilS S k) < (shpAt S.ships k).day := by
    unfold lastD
    have hl : (untilS S k).ships.length = k := by rw [hp.s, List.length_take]; omega
    have hm : (untilS S k).burns.length = m := by rw [hp.f, List.length_take]; have := hp.ml; omega
    rw [hl, hm]
    have ha : (if 0 < m then (burAt (untilS S k).burns (m - 1)).day else -1) < (shpAt S.ships k).day := by
      split
      · rw [hp.f, burAt_take (by omega)]; exact hp.f1 _ (by omega)
      · omega
    simp only
    split
    · rw [hp.s, shpAt_take (show k - 1 < k by omega)]
      have := hS.ship_lt (show k - 1 < k by omega) hk
      omega
    · exact ha
  have hn : ((days (untilS S k) : Nat) : Int) ≤ (shpAt S.ships k).day := by simp only [days]; omega
  have hle : days (untilS S k) ≤ days S := by
    have := lastD_ship hS hk
    simp only [days] at hn ⊢
    omega
  have hhigh : ∀ i, i < m → gi (highsB (untilS S k)) i = gi (highsB S) i := fun i hi => by
    unfold highsB
    rw [hp.f, List.map_take, gi_take hi]
  have hlow : ∀ i, i < m → gi (lowsB (untilS S k)) i = gi (lowsB S) i := fun i hi => by
    unfold lowsB
    rw [hp.f, List.map_take, gi_take hi]
  have r1 := (part_run hS hp hpl hhigh _ hn).1
  have r2 := (part_run hS hp hpl hlow _ hn).2
  rw [fine_iff, r1, r2]
  constructor
  · cases hr : (runP S plan (highsB S) (days (untilS S k))).2 with
    | false => rfl
    | true => rw [run_stays S plan _ hr _ hle] at h1; cases h1
  · rcases Int.lt_or_le (crowdP S plan (lowsB S) (days (untilS S k))).1 0 with h3 | h3
    · exact h3
    · have := crowd_stays S plan _ h3 _ hle; omega
end Go.Qg

namespace Go.Qg
set_option maxRecDepth 100000
def costTo (S : Sup) (plan : List Int) : Nat → Int
  | 0 => 0
  | k + 1 => costTo S plan k + (if 0 < gi plan k then (shpAt S.ships k).cost + gi plan k * (shpAt S.ships k).each else 0)
def costL (S : Sup) (plan : List Int) : Int := costTo S plan plan.length
theorem costTo_same (S : Sup) {a b : List Int} : ∀ {k : Nat}, (∀ i, i < k → gi a i = gi b i) → costTo S a k = costTo S b k
  | 0, _ => rfl
  | k + 1, h => by simp only [costTo]; rw [costTo_same S (k := k) fun i hi => h i (by omega), h k (by omega)]
theorem costTo_mono {S : Sup} (hS : SupOk S) {a : List Int} (ha : ∀ i, i < a.length → 0 ≤ gi a i) {n : Nat} (hn : n ≤ S.ships.length) (hal : n ≤ a.length) : ∀ {k : Nat}, k ≤ n → 0 ≤ costTo S a k ∧ costTo S a k ≤ costTo S a n := by
  have step : ∀ k, k < n → 0 ≤ (if 0 < gi a k then (shpAt S.ships k).cost + gi a k * (shpAt S.ships k).each else 0) := fun k hk => by
    have h1 := hS.ship k (by omega)
    have h2 := ha k (by omega)
    split
    · have := Int.mul_nonneg h2 h1.2.2.2.1.1; omega
    · omega
  have key : ∀ m, m ≤ n → 0 ≤ costTo S a m ∧ ∀ k, k ≤ m → costTo S a k ≤ costTo S a m := by
    intro m
    induction m with
    | zero => intro _; exact ⟨Int.le_refl _, fun k hk => by obtain rfl : k = 0 := by omega
                                                            exact Int.le_refl _⟩
    | succ m ih =>
      intro hm
      obtain ⟨x, y⟩ := ih (by omega)
      have := step m (by omega)
      refine ⟨by simp only [costTo]; omega, fun k hk => ?_⟩
      rcases Nat.lt_or_eq_of_le hk with h1 | rfl
      · have := y k (by omega); simp only [costTo]; omega
      · exact Int.le_refl _
  intro k hk
  exact ⟨(key k hk).1, (key n (Nat.le_refl _)).2 k hk⟩
abbrev BestSt := List Int × Int
def tryB (S : Sup) (st : BestSt) (x : List Int) : BestSt := if (st.2 < 0 ∨ costL S x < st.2) ∧ fineB S x = true then (x, costL S x) else st
def ext (S : Sup) : Nat → List Int → List (List Int)
  | 0, p => [p]
  | c + 1, p => (List.range ((shpAt S.ships p.length).room + 1).toNat).flatMap fun n : Nat => ext S c (p ++ [(n : Int)])
def srchN (rec : List Int → BestSt → BestSt) (p : List Int) : Nat → Nat → BestSt → BestSt
  | 0, _, st => st
  | k + 1, n, st => if st.2 = 0 then st else srchN rec p k (n + 1) (rec (p ++ [(n : Int)]) st)
def prune (S : Sup) (p : List Int) (st : BestSt) : Bool := decide (0 ≤ st.2) && decide (st.2 ≤ costL S p) || !fineB (untilS S p.length) p
def srchC (S : Sup) : Nat → List Int → BestSt → BestSt
  | 0, p, st => if prune S p st = true then st else (p, costL S p)
  | c + 1, p, st => if prune S p st = true then st else srchN (srchC S c) p ((shpAt S.ships p.length).room + 1).toNat 0 st
theorem ext_spec {S : Sup} : ∀ (c : Nat) {p x : List Int}, x ∈ ext S c p → ∃ q, x = p ++ q ∧ q.length = c ∧ ∀ i, p.length ≤ i → i < p.length + c → 0 ≤ gi x i ∧ gi x i ≤ (shpAt S.ships i).room
  | 0, p, x, h => by
    obtain rfl := List.mem_singleton.1 h
    exact ⟨[], by simp, rfl, fun i h1 h2 => by omega⟩
  | c + 1, p, x, h => by
    obtain ⟨n, hn, hx⟩ := List.mem_flatMap.1 h
    have hn := List.mem_range.1 hn
    obtain ⟨q, rfl, hq, hb⟩ := ext_spec c hx
    refine ⟨(n : Int) :: q, by simp, by simp [hq], fun i h1 h2 => ?_⟩
    rcases Nat.lt_or_eq_of_le h1 with h3 | rfl
    · exact hb i (by simp; omega) (by simp; omega)
    · have e : gi (p ++ [(n : Int)] ++ q) p.length = n := by simp [gi]
      rw [e]
      omega
theorem gi_pre {p q : List Int} {i : Nat} (h : i < p.length) : gi (p ++ q) i = gi p i := by
  unfold gi
  rw [List.getD_eq_getElem?_getD, List.getD_eq_getElem?_getD, List.getElem?_append_left h]
theorem ext_worse {S : Sup} (hS : SupOk S) {c : Nat} {p x : List Int} (hp : ∀ i, i < p.length → 0 ≤ gi p i) (hc : p.length + c = S.ships.length) (h : x ∈ ext S c p) : costL S p ≤ costL S x ∧ (fineB S x = true → fineB (untilS S p.length) p = true) := by
  obtain ⟨q, rfl, hq, hb⟩ := ext_spec c h
  have hall : ∀ i, i < (p ++ q).length → 0 ≤ gi (p ++ q) i := fun i hi => by
    by_cases h1 : i < p.length
    · rw [gi_pre h1]; exact hp i h1
    · exact (hb i (by omega) (by simp at hi; omega)).1
  refine ⟨?_, fun hf => ?_⟩
  · have := (costTo_mono hS hall (n := (p ++ q).length) (by simp; omega) (Nat.le_refl _) (k := p.length) (by simp)).2
    unfold costL
    rw [costTo_same S (a := p) (b := p ++ q) fun i hi => (gi_pre hi).symm]
    exact this
  · by_cases hk : p.length < S.ships.length
    · exact fine_until hS (plan := p ++ q) (plan' := p) (fun i hi => (gi_pre hi).symm) hk hf
    · have : untilS S p.length = S := by
        unfold untilS
        rw [if_neg hk, List.take_of_length_le (by omega)]
      rw [this]
      have : q = [] := List.eq_nil_of_length_eq_zero (by omega)
      rw [this, List.append_nil] at hf
      exact hf
theorem fold_same {S : Sup} {st : BestSt} : ∀ {l : List (List Int)}, (∀ x ∈ l, ¬ ((st.2 < 0 ∨ costL S x < st.2) ∧ fineB S x = true)) → l.foldl (tryB S) st = st
  | [], _ => rfl
  | x :: l, h => by
    rw [List.foldl_cons, show tryB S st x = st from if_neg (h x List.mem_cons_self)]
    exact fold_same fun y hy => h y (List.mem_cons_of_mem _ hy)
theorem srch_eq {S : Sup} (hS : SupOk S) : ∀ (c : Nat) {p : List Int} (st : BestSt), (∀ i, i < p.length → 0 ≤ gi p i) → p.length + c = S.ships.length → srchC S c p st = (ext S c p).foldl (tryB S) st := by
  intro c
  induction c with
  | zero =>
    intro p st hp hc
    have hu : untilS S p.length = S := by
      unfold untilS
      rw [if_neg (by omega), List.take_of_length_le (by omega)]
    simp only [srchC, ext, List.foldl_cons, List.foldl_nil, prune, hu, tryB]
    cases hf : fineB S p with
    | false => simp
    | true =>
      simp only [Bool.not_true, Bool.or_false, Bool.and_eq_true, decide_eq_true_eq, and_true]
      by_cases h : 0 ≤ st.2 ∧ st.2 ≤ costL S p
      · rw [if_pos h, if_neg (by omega)]
      · rw [if_neg h, if_pos (by omega)]
  | succ c ih =>
    intro p st hp hc
    simp only [srchC]
    by_cases hpr : prune S p st = true
    · rw [if_pos hpr]
      refine (fold_same fun x hx => ?_).symm
      obtain ⟨h1, h2⟩ := ext_worse hS hp hc hx
      rintro ⟨h3, h4⟩
      simp only [prune, Bool.or_eq_true, Bool.and_eq_true, decide_eq_true_eq, Bool.not_eq_true'] at hpr
      rcases hpr with h5 | h5
      · omega
      · rw [h2 h4] at h5; cases h5
    · rw [if_neg hpr]
      have hroom := (hS.ship p.length (by omega)).2.1
      have loop : ∀ (k n : Nat) (st : BestSt), n + k = ((shpAt S.ships p.length).room + 1).toNat → srchN (srchC S c) p k n st = ((List.range' n k).flatMap fun n : Nat => ext S c (p ++ [(n : Int)])).foldl (tryB S) st := by
        intro k
        induction k with
        | zero => intro n st _; rfl
        | succ k ihk =>
          intro n st hn
          rw [List.range'_succ, List.flatMap_cons, List.foldl_append]
          simp only [srchN]
          have hpn : ∀ i, i < (p ++ [(n : Int)]).length → 0 ≤ gi (p ++ [(n : Int)]) i := fun i hi => by
            rw [gi_append]
            split
            · omega
            · exact hp i (by simp at hi; omega)
          by_cases h0 : st.2 = 0
          · rw [if_pos h0]
            have e1 : (ext S c (p ++ [(n : Int)])).foldl (tryB S) st = st := fold_same fun x hx => by
              have hlen : (p ++ [(n : Int)]).length + c = S.ships.length := by simp; omega
              obtain ⟨q, hq1, hq2, hq3⟩ := ext_spec c hx
              have hx0 : ∀ i, i < x.length → 0 ≤ gi x i := fun i hi => by
                rw [hq1] at hi ⊢
                by_cases h1 : i < (p ++ [(n : Int)]).length
                · rw [gi_pre h1]; exact hpn i h1
                · rw [← hq1]; exact (hq3 i (by omega) (by simp at hi ⊢; omega)).1
              have hxl : x.length = S.ships.length := by rw [hq1, List.length_append]; omega
              have := (costTo_mono hS hx0 (n := x.length) (by omega) (Nat.le_refl _) (k := x.length) (Nat.le_refl _)).1
              rintro ⟨h3, _⟩
              unfold costL at h3
              omega
            rw [e1, ← ihk (n + 1) st (by omega)]
            cases k with
            | zero => rfl
            | succ k => simp only [srchN]; rw [if_pos h0]
          · rw [if_neg h0, ihk (n + 1) _ (by omega), ih _ hpn (by simp; omega)]
      rw [loop _ 0 st (by omega)]
      simp only [ext]
      rw [List.range_eq_range']
def manyTo (S : Sup) : Nat → Int
  | 0 => 1
  | k + 1 => manyTo S k * ((shpAt S.ships k).room + 1)
def manyOf (S : Sup) : Nat → Nat → Nat
  | 0, _ => 1
  | c + 1, k => ((shpAt S.ships k).room + 1).toNat * manyOf S c (k + 1)
def planOf (S : Sup) : Nat → Nat → Nat → List Int
  | 0, _, _ => []
  | c + 1, k, n => ((n / manyOf S c (k + 1) % ((shpAt S.ships k).room + 1).toNat : Nat) : Int) :: planOf S c (k + 1) (n % manyOf S c (k + 1))
theorem manyOf_pos {S : Sup} (hS : SupOk S) : ∀ (c k : Nat), k + c ≤ S.ships.length → 0 < manyOf S c k
  | 0, _, _ => Nat.one_pos
  | c + 1, k, h => by
    have := (hS.ship k (by omega)).2.1
    exact Nat.mul_pos (by omega) (manyOf_pos hS c (k + 1) (by omega))
theorem ext_plans {S : Sup} (hS : SupOk S) : ∀ (c : Nat) (p : List Int), p.length + c ≤ S.ships.length → ext S c p = (List.range (manyOf S c p.length)).map fun n : Nat => p ++ planOf S c p.length n
  | 0, p, _ => by simp [ext, manyOf, planOf]
  | c + 1, p, h => by
    have hr := (hS.ship p.length (by omega)).2.1
    have hm := manyOf_pos hS c (p.length + 1) (by omega)
    simp only [ext, manyOf]
    generalize hR : ((shpAt S.ships p.length).room + 1).toNat = R
    have key : ∀ r, r ≤ R → ((List.range r).flatMap fun n : Nat => ext S c (p ++ [(n : Int)])) = (List.range (r * manyOf S c (p.length + 1))).map fun n : Nat => p ++ planOf S (c + 1) p.length n := by
      intro r
      induction r with
      | zero => intro _; simp
      | succ r ih =>
        intro hr
        rw [List.range_succ, List.flatMap_append, ih (by omega)]
        simp only [List.flatMap_cons, List.flatMap_nil, List.append_nil]
        rw [ext_plans hS c (p ++ [(r : Int)]) (by simp; omega)]
        rw [show (p ++ [(r : Int)]).length = p.length + 1 from by simp]
        rw [Nat.succ_mul, List.range_add, List.map_append, List.map_map]
        congr 1
        refine List.map_congr_left fun n hn => ?_
        have hn := List.mem_range.1 hn
        simp only [Function.comp, planOf, hR]
        have e1 : (r * manyOf S c (p.length + 1) + n) / manyOf S c (p.length + 1) = r := by
          rw [Nat.mul_comm, Nat.mul_add_div hm, Nat.div_eq_of_lt hn, Nat.add_zero]
        have e2 : (r * manyOf S c (p.length + 1) + n) % manyOf S c (p.length + 1) = n := by
          rw [Nat.mul_comm, Nat.mul_add_mod, Nat.mod_eq_of_lt hn]
        rw [e1, e2, Nat.mod_eq_of_lt (show r < R by omega)]
        simp
    exact key R (Nat.le_refl _)
end Go.Qg

namespace Go.Qg
set_option maxRecDepth 100000
def withS (S : Sup) (i : Nat) : Sup := { S with burns := S.burns.filter fun b => decide (b.day < (shpAt S.ships i).day), ships := S.ships.take (i + 1) }
theorem part_with {S : Sup} (hS : SupOk S) {i : Nat} (hi : i < S.ships.length) : ∃ m, Part S (withS S i) (i + 1) m (shpAt S.ships i).day := by
  obtain ⟨m, h1, h2, h3, h4⟩ := filter_take (D := (shpAt S.ships i).day) hS.later
  exact ⟨m, rfl, rfl, rfl, h2, by omega, h1, fun j h5 h6 => by have := hS.ship_lt (show i < j by omega) h6; omega, h3, h4⟩
theorem supOk_part {S S' : Sup} (hS : SupOk S) {k m : Nat} {D : Int} (h : Part S S' k m D) : SupOk S' := by
  have hl : S'.ships.length = k := by rw [h.s, List.length_take]; have := h.kl; omega
  have hm : S'.burns.length = m := by rw [h.f, List.length_take]; have := h.ml; omega
  have hml := h.ml
  have hkl := h.kl
  have eb : ∀ i, i < m → burAt S'.burns i = burAt S.burns i := fun i hi => by rw [h.f, burAt_take hi]
  have es : ∀ i, i < k → shpAt S'.ships i = shpAt S.ships i := fun i hi => by rw [h.s, shpAt_take hi]
  refine ⟨by rw [h.b]; exact hS.pos, by rw [h.b]; exact hS.nb, by rw [hm]; have := hS.nf; omega, by rw [hl]; have := hS.ns; omega, by rw [h.k']; exact hS.k, fun i hi => ?_, fun i hi => ?_, fun i hi => ?_, fun i hi => ?_⟩
  · rw [hm] at hi; rw [eb i hi]; exact hS.burn i (by omega)
  · rw [hm] at hi; rw [eb i (by omega), eb _ hi]; exact hS.later i (by omega)
  · rw [hl] at hi; rw [es i hi]; exact hS.ship i (by omega)
  · rw [hl] at hi; rw [es i (by omega), es _ hi]; exact hS.next i (by omega)
def cntAt (S : Sup) (plan b : List Int) (i : Nat) : List Brl := goodL (runP S plan b (shpAt S.ships i).day.toNat).1.barrels (shpAt S.ships i).day ++ comes S plan i
theorem days_with {S : Sup} (hS : SupOk S) {i : Nat} (hi : i < S.ships.length) : days (withS S i) = (shpAt S.ships i).day.toNat + 1 := by
  obtain ⟨m, h⟩ := part_with hS hi
  have hl : (withS S i).ships.length = i + 1 := by rw [h.s, List.length_take]; omega
  have hm : (withS S i).burns.length = m := by rw [h.f, List.length_take]; have := h.ml; omega
  have hd := (hS.ship i hi).1
  have ha : (if 0 < m then (burAt (withS S i).burns (m - 1)).day else -1) ≤ (shpAt S.ships i).day := by
    split
    · rw [h.f, burAt_take (by omega)]
      have := h.f1 (m - 1) (by omega)
      omega
    · omega
  unfold days lastD
  rw [hl, hm]
  simp only [Nat.zero_lt_succ, if_true, Nat.add_sub_cancel]
  rw [h.s, shpAt_take (Nat.lt_succ_self i)]
  omega
theorem run_with {S : Sup} (hS : SupOk S) {plan plan' b b' : List Int} {i : Nat} (hi : i < S.ships.length) (hpl : ∀ j, j < i + 1 → gi plan' j = gi plan j) (hb : ∀ j, j < (withS S i).burns.length → gi b' j = gi b j) (hno : (runP S plan b (shpAt S.ships i).day.toNat).2 = false) :
    (runP (withS S i) plan' b' (days (withS S i))).2 = false ∧ (runP (withS S i) plan' b' (days (withS S i))).1.barrels = cntAt S plan b i := by
  obtain ⟨m, h⟩ := part_with hS hi
  have hl : (withS S i).ships.length = i + 1 := by rw [h.s, List.length_take]; omega
  have hm : (withS S i).burns.length = m := by rw [h.f, List.length_take]; have := h.ml; omega
  have hd := (hS.ship i hi).1
  have hD : ((shpAt S.ships i).day.toNat : Int) = (shpAt S.ships i).day := by omega
  have hr := (part_run hS h hpl (fun j hj => hb j (by rw [hm]; exact hj)) (shpAt S.ships i).day.toNat (by omega)).1
  have hat := (run_alike hS plan b (shpAt S.ships i).day.toNat).2.2.2 hno
  rw [hD] at hat
  have hship : (runP S plan b (shpAt S.ships i).day.toNat).1.ship = i := by
    rcases Nat.lt_trichotomy (runP S plan b (shpAt S.ships i).day.toNat).1.ship i with h1 | h1 | h1
    · have := hat.s2 _ (Nat.le_refl _) (by omega)
      have := hS.ship_lt h1 hi
      omega
    · exact h1
    · have := hat.s1 i h1; omega
  have hday : runP (withS S i) plan' b' ((shpAt S.ships i).day.toNat + 1) = dayP (withS S i) plan' b' (shpAt S.ships i).day.toNat (runP S plan b (shpAt S.ships i).day.toNat).1 := by
    rw [runP, hr, if_neg (by rw [hno]; simp)]
  rw [days_with hS hi, hday, hD]
  have es : shpAt (withS S i).ships i = shpAt S.ships i := by rw [h.s, shpAt_take (Nat.lt_succ_self i)]
  have hload : loadP (withS S i) plan' (shpAt S.ships i).day (clearP (shpAt S.ships i).day (runP S plan b (shpAt S.ships i).day.toNat).1) = { clearP (shpAt S.ships i).day (runP S plan b (shpAt S.ships i).day.toNat).1 with barrels := cntAt S plan b i, came := (runP S plan b (shpAt S.ships i).day.toNat).1.came + gi plan i * S.kilos, ship := i + 1 } := by
    unfold loadP
    rw [show (clearP (shpAt S.ships i).day (runP S plan b (shpAt S.ships i).day.toNat).1).ship = i from hship, hl, es, if_pos ⟨Nat.lt_succ_self i, rfl⟩]
    have ec : comes (withS S i) plan' i = comes S plan i := by simp only [comes, es, hpl i (Nat.lt_succ_self i)]; rfl
    rw [ec, hpl i (Nat.lt_succ_self i)]
    rfl
  have hfly : ∀ (c : Nat) (p : Pl), flyP (withS S i) b' (shpAt S.ships i).day c p = (p, false) := by
    intro c p
    cases c with
    | zero => rfl
    | succ c =>
      simp only [flyP]
      refine if_neg fun x => ?_
      rw [hm] at x
      rw [h.f, burAt_take x.1] at x
      have := h.f1 _ x.1
      omega
  unfold dayP
  rw [hfly, hload]
  exact ⟨rfl, rfl⟩
structure InB (S : Sup) (b : List Int) : Prop where
  len : b.length = S.burns.length
  each : ∀ i, i < S.burns.length → (burAt S.burns i).low ≤ gi b i ∧ gi b i ≤ (burAt S.burns i).high
theorem gi_map {f : Bur → Int} {l : List Bur} {i : Nat} (h : i < l.length) : gi (l.map f) i = f (burAt l i) := by
  simp [gi, burAt, h]
theorem InB.ok {S : Sup} (hS : SupOk S) {b : List Int} (h : InB S b) : BurnsOk S b := ⟨h.len, fun i hi => by have := h.each i hi; have := hS.burn i hi; omega⟩
theorem inB_low {S : Sup} (hS : SupOk S) : InB S (lowsB S) := ⟨by simp [lowsB], fun i hi => by rw [lowsB, gi_map hi]; have := hS.burn i hi; omega⟩
theorem inB_high {S : Sup} (hS : SupOk S) : InB S (highsB S) := ⟨by simp [highsB], fun i hi => by rw [highsB, gi_map hi]; have := hS.burn i hi; omega⟩
theorem ahead_low {S : Sup} (hS : SupOk S) {plan b : List Int} (hpl : PlanOk S plan) (hb : InB S b) (n : Nat) : ((runP S plan b n).2 = false → (runP S plan (lowsB S) n).2 = false ∧ Ahead (runP S plan (lowsB S) n).1 (runP S plan b n).1) ∧ ((runP S plan (lowsB S) n).2 = true → (runP S plan b n).2 = true ∧ (runP S plan b n).1.flight ≤ (runP S plan (lowsB S) n).1.flight) := ahead_run hS hS rfl rfl rfl (Dom.refl _) hpl ((inB_low hS).ok hS) (hb.ok hS) (fun i hi => by rw [lowsB, gi_map hi]; exact (hb.each i hi).1) n
theorem ahead_high {S : Sup} (hS : SupOk S) {plan b : List Int} (hpl : PlanOk S plan) (hb : InB S b) (n : Nat) : ((runP S plan (highsB S) n).2 = false → (runP S plan b n).2 = false ∧ Ahead (runP S plan b n).1 (runP S plan (highsB S) n).1) ∧ ((runP S plan b n).2 = true → (runP S plan (highsB S) n).2 = true ∧ (runP S plan (highsB S) n).1.flight ≤ (runP S plan b n).1.flight) := ahead_run hS hS rfl rfl rfl (Dom.refl _) hpl (hb.ok hS) ((inB_high hS).ok hS) (fun i hi => by rw [highsB, gi_map hi]; exact (hb.each i hi).2) n
theorem cnt_le {S : Sup} (hS : SupOk S) {plan b : List Int} (hpl : PlanOk S plan) (hb : InB S b) {i : Nat} (hno : (runP S plan b (shpAt S.ships i).day.toNat).2 = false) : (cntAt S plan b i).length ≤ (cntAt S plan (lowsB S) i).length := by
  have h := ((ahead_low hS hpl hb _).1 hno).2
  exact ((h.dom.good _).append (Dom.refl _)).length
theorem counts_at {S : Sup} (hS : SupOk S) (plan b : List Int) : ∀ n i, i < (rrun S plan b n).counts.length → i < S.ships.length ∧ (runP S plan b (shpAt S.ships i).day.toNat).2 = false ∧ gi (rrun S plan b n).counts i = (cntAt S plan b i).length ∧ (shpAt S.ships i).day < n
  | 0, i, h => (by simp [rrun] at h)
  | n + 1, i, h => by
    obtain ⟨a1, a2, a3, a4⟩ := run_alike hS plan b n
    have s1 := (seen_run hS plan b n).len
    cases hr : (runP S plan b n).2 with
    | true =>
      rw [hr] at a2
      have e2 : rrun S plan b (n + 1) = rrun S plan b n := by rw [rrun, if_pos (by rw [a2]; simp only [lackI]; omega)]
      rw [e2] at h ⊢
      obtain ⟨h1, h2, h3, h4⟩ := counts_at hS plan b n i h
      exact ⟨h1, h2, h3, by push_cast; omega⟩
    | false =>
      rw [hr] at a2
      have a2 : (rrun S plan b n).lacks = -1 := a2
      have hat := a4 hr
      have e2 : rrun S plan b (n + 1) = rday S plan b n (rrun S plan b n) := by rw [rrun, if_neg (by rw [a2]; omega)]
      have hat' : At S n (clearP n (runP S plan b n).1) := ⟨hat.s0, hat.s1, hat.s2, hat.f0, hat.f1, hat.f2⟩
      obtain ⟨_, _, _, _, _, _, l7⟩ := load_alike hS plan hat' (clear_alike (t := n) a1)
      have ec : (rday S plan b n (rrun S plan b n)).counts = (rload S plan n S.ships.length (rclear n (rrun S plan b n))).counts := rload_counts_same ..
      have e4 : (rclear n (rrun S plan b n)).counts = (rrun S plan b n).counts := rfl
      have e5 : (clearP n (runP S plan b n).1).ship = (runP S plan b n).1.ship := rfl
      rw [e4, e5] at l7
      rw [e2, ec, l7] at h ⊢
      by_cases hc : (runP S plan b n).1.ship < S.ships.length ∧ (shpAt S.ships (runP S plan b n).1.ship).day = n
      · rw [if_pos hc] at h ⊢
        rw [gi_append]
        by_cases hi : i = (rrun S plan b n).counts.length
        · rw [if_pos hi]
          rw [s1] at hi
          subst hi
          have ed : (shpAt S.ships (runP S plan b n).1.ship).day.toNat = n := by omega
          refine ⟨hc.1, by rw [ed]; exact hr, ?_, by rw [hc.2]; push_cast; omega⟩
          congr 2
          unfold loadP cntAt
          rw [if_pos (show (clearP (n : Int) (runP S plan b n).1).ship < S.ships.length ∧ (shpAt S.ships (clearP (n : Int) (runP S plan b n).1).ship).day = n from hc), ed, hc.2]
          rfl
        · rw [if_neg hi]
          obtain ⟨h1, h2, h3, h4⟩ := counts_at hS plan b n i (by simp at h; omega)
          exact ⟨h1, h2, h3, by push_cast; omega⟩
      · rw [if_neg hc] at h ⊢
        obtain ⟨h1, h2, h3, h4⟩ := counts_at hS plan b n i h
        exact ⟨h1, h2, h3, by push_cast; omega⟩
end Go.Qg

namespace Go.Qg
open Go.Proofs
set_option maxRecDepth 100000
set_option maxHeartbeats 4000000
attribute [local irreducible] pwp pops pdraw pop popCall pdCall thenP blockP scopeP pspec Spec answers ppost CallW
@[simp] theorem gi_geti (l : List Int) (i : Nat) : gi l i = geti l i := rfl
@[simp] theorem hat_geti (l : List Int) (i : Nat) : hat l i = geti l i := rfl
def idxN (p : Nat → Bool) : Nat → Int
  | 0 => -1
  | k + 1 => if 0 ≤ idxN p k then idxN p k else if p k = true then k else -1
theorem idxN_none {p : Nat → Bool} : ∀ {n : Nat}, (∀ j, j < n → p j = false) → idxN p n = -1
  | 0, _ => rfl
  | n + 1, h => by simp only [idxN, idxN_none (n := n) fun j hj => h j (by omega), h n (by omega)]; simp
theorem idxN_some {p : Nat → Bool} {k : Nat} (h1 : ∀ j, j < k → p j = false) (h2 : p k = true) : ∀ {n : Nat}, k < n → idxN p n = k
  | 0, h => by omega
  | n + 1, h => by
    rcases Nat.lt_or_eq_of_le (Nat.le_of_lt_succ h) with h3 | rfl
    · simp only [idxN, idxN_some h1 h2 h3]; rw [if_pos (by omega)]
    · simp only [idxN, idxN_none h1, h2]; simp
def anyN (n : Nat) (p : Nat → Bool) : Bool := decide (0 ≤ idxN p n)
theorem idxN_sign (p : Nat → Bool) : ∀ m, idxN p m = -1 ∨ 0 ≤ idxN p m
  | 0 => .inl rfl
  | m + 1 => by
    simp only [idxN]
    split
    · exact .inr ‹_›
    · split
      · exact .inr (by omega)
      · exact .inl rfl
theorem anyN_iff {n : Nat} {p : Nat → Bool} : anyN n p = true ↔ ∃ k, k < n ∧ p k = true := by
  unfold anyN
  rw [decide_eq_true_eq]
  by_cases h : ∃ k, k < n ∧ p k = true
  · refine ⟨fun _ => h, fun _ => ?_⟩
    rcases idxN_sign p n with h1 | h1
    · exfalso
      obtain ⟨k, hk, hp⟩ := h
      have all : ∀ m, idxN p m = -1 → ∀ j, j < m → p j = false := fun m => by
        induction m with
        | zero => intro _ j hj; omega
        | succ m ih =>
          intro hm j hj
          simp only [idxN] at hm
          split at hm
          · omega
          · rename_i hn
            split at hm
            · omega
            · rename_i hpm
              rcases Nat.lt_or_eq_of_le (Nat.le_of_lt_succ hj) with h3 | rfl
              · refine ih ?_ j h3
                rcases idxN_sign p m with h4 | h4
                · exact h4
                · omega
              · simpa using hpm
      rw [all n h1 k hk] at hp; cases hp
    · exact h1
  · refine ⟨fun h1 => ?_, fun h1 => (h h1).elim⟩
    rw [idxN_none fun j hj => by
      cases hp : p j with
      | false => rfl
      | true => exact (h ⟨j, hj, hp⟩).elim] at h1
    omega
theorem anyN_false {n : Nat} {p : Nat → Bool} : anyN n p = false ↔ ∀ k, k < n → p k = false := by
  constructor
  · intro h k hk
    cases hp : p k with
    | false => rfl
    | true => rw [anyN_iff.2 ⟨k, hk, hp⟩] at h; cases h
  · intro h
    cases hp : anyN n p with
    | false => rfl
    | true => obtain ⟨k, hk, h2⟩ := anyN_iff.1 hp; rw [h k hk] at h2; cases h2
def Brl.cells (b : Brl) : List PV := [.v (.int .i64 b.kilos), .v (.int .i64 b.til)]
def brlL (l : List Brl) : PV := .sl 2 l.length fun i => (brlAt l i).cells
theorem Brl.eq_iff {x y : Brl} : x = y ↔ x.kilos = y.kilos ∧ x.til = y.til := by
  cases x; cases y; simp
def rowsBr (l : List Brl) : List (List PV) := l.map Brl.cells
@[simp] theorem rowsBr_length (l : List Brl) : (rowsBr l).length = l.length := by simp [rowsBr]
@[simp] theorem renLL_rowsBr (π : Nat → Nat) (l : List Brl) : renLL π (rowsBr l) = rowsBr l := by
  induction l with
  | nil => rfl
  | cons x l ih => simpa [rowsBr, Brl.cells, renLL, renL, PV.ren] using ih
@[simp] theorem namesLL_rowsBr (l : List Brl) : namesLL (rowsBr l) = [] := by
  induction l with
  | nil => rfl
  | cons x l ih => simpa [rowsBr, Brl.cells, namesLL, namesL, PV.names] using ih
@[simp] theorem flatLL_rowsBr (l : List Brl) : flatLL (rowsBr l) = true := by
  induction l with
  | nil => rfl
  | cons x l ih => simpa [rowsBr, Brl.cells, flatLL, flatL, PV.flat] using ih
@[simp] theorem vwAllL_rowsBr (f : PF) (T : Tgt) (d : Nat) (a b : List Brl) : vo.vwAllL f T (d + 1) (rowsBr a) (rowsBr b) = (a = b) := by
  induction a generalizing b with
  | nil => cases b <;> simp [rowsBr, vo.vwAllL]
  | cons x a ih =>
    cases b with
    | nil => simp [rowsBr, vo.vwAllL]
    | cons y b =>
      have := ih b
      simp only [rowsBr] at this
      simp [rowsBr, vo.vwAllL, this, Brl.cells, Brl.eq_iff]
@[simp] theorem rowsBr_one {l : List Brl} : (∀ (x : List PV), x ∈ rowsBr l → ∀ (y : PV), y ∈ x → y.one = true) ↔ True := by
  refine ⟨fun _ => trivial, fun _ x hx y hy => ?_⟩
  obtain ⟨b, _, rfl⟩ := List.mem_map.1 hx
  simp [Brl.cells] at hy
  rcases hy with rfl | rfl <;> rfl
@[simp] theorem rowsBr_len1 {l : List Brl} : (∀ (x : List PV), x ∈ rowsBr l → x.length = 2) ↔ True := by
  refine ⟨fun _ => trivial, fun _ x hx => ?_⟩
  obtain ⟨b, _, rfl⟩ := List.mem_map.1 hx
  rfl
@[simp] theorem rowsBr_take (l : List Brl) (k : Nat) : (rowsBr l).take k = rowsBr (l.take k) := by simp [rowsBr]
@[simp] theorem rowsBr_nil : rowsBr [] = [] := rfl
theorem rowsBr_get {l : List Brl} {k : Nat} (h : k < l.length) : (rowsBr l)[k]? = some (brlAt l k).cells := by simp [rowsBr, brlAt, h]
@[simp] theorem rowsBr_getElem {l : List Brl} {k : Nat} (h : k < (rowsBr l).length) : (rowsBr l)[k] = (brlAt l k).cells := by
  have h2 : k < l.length := by simpa using h
  simp [rowsBr, brlAt, h2]
theorem rowsBr_snoc (l : List Brl) (x : Brl) : rowsBr l ++ [x.cells] = rowsBr (l ++ [x]) := by simp [rowsBr]
theorem rowsBr_snoc' (l : List Brl) (x : Brl) : rowsBr l ++ [[.v (.int .i64 x.kilos), .v (.int .i64 x.til)]] = rowsBr (l ++ [x]) := rowsBr_snoc l x
theorem rowsBr_set (l : List Brl) (k : Nat) (x : Brl) : (rowsBr l).set k x.cells = rowsBr (l.set k x) := by simp [rowsBr, List.map_set]
theorem rowsBr_range (l : List Brl) : (List.range l.length).map (fun i => (brlAt l i).cells) = rowsBr l := by
  refine List.ext_getElem? fun i => ?_
  by_cases h : i < l.length
  · rw [rowsBr_get h, List.getElem?_map, List.getElem?_range h]; rfl
  · rw [List.getElem?_eq_none (by simp; omega), List.getElem?_eq_none (by simp; omega)]
def Bur.cells (b : Bur) : List PV := [.v (.int .i64 b.day), .v (.int .i64 b.low), .v (.int .i64 b.high)]
def burL (l : List Bur) : PV := .sl 3 l.length fun i => (burAt l i).cells
theorem Bur.eq_iff {x y : Bur} : x = y ↔ x.day = y.day ∧ x.low = y.low ∧ x.high = y.high := by
  cases x; cases y; simp
def rowsBu (l : List Bur) : List (List PV) := l.map Bur.cells
@[simp] theorem rowsBu_length (l : List Bur) : (rowsBu l).length = l.length := by simp [rowsBu]
@[simp] theorem renLL_rowsBu (π : Nat → Nat) (l : List Bur) : renLL π (rowsBu l) = rowsBu l := by
  induction l with
  | nil => rfl
  | cons x l ih => simpa [rowsBu, Bur.cells, renLL, renL, PV.ren] using ih
@[simp] theorem namesLL_rowsBu (l : List Bur) : namesLL (rowsBu l) = [] := by
  induction l with
  | nil => rfl
  | cons x l ih => simpa [rowsBu, Bur.cells, namesLL, namesL, PV.names] using ih
@[simp] theorem flatLL_rowsBu (l : List Bur) : flatLL (rowsBu l) = true := by
  induction l with
  | nil => rfl
  | cons x l ih => simpa [rowsBu, Bur.cells, flatLL, flatL, PV.flat] using ih
@[simp] theorem vwAllL_rowsBu (f : PF) (T : Tgt) (d : Nat) (a b : List Bur) : vo.vwAllL f T (d + 1) (rowsBu a) (rowsBu b) = (a = b) := by
  induction a generalizing b with
  | nil => cases b <;> simp [rowsBu, vo.vwAllL]
  | cons x a ih =>
    cases b with
    | nil => simp [rowsBu, vo.vwAllL]
    | cons y b =>
      have := ih b
      simp only [rowsBu] at this
      simp [rowsBu, vo.vwAllL, this, Bur.cells, Bur.eq_iff]
@[simp] theorem rowsBu_one {l : List Bur} : (∀ (x : List PV), x ∈ rowsBu l → ∀ (y : PV), y ∈ x → y.one = true) ↔ True := by
  refine ⟨fun _ => trivial, fun _ x hx y hy => ?_⟩
  obtain ⟨b, _, rfl⟩ := List.mem_map.1 hx
  simp [Bur.cells] at hy
  rcases hy with rfl | rfl | rfl <;> rfl
@[simp] theorem rowsBu_len1 {l : List Bur} : (∀ (x : List PV), x ∈ rowsBu l → x.length = 3) ↔ True := by
  refine ⟨fun _ => trivial, fun _ x hx => ?_⟩
  obtain ⟨b, _, rfl⟩ := List.mem_map.1 hx
  rfl
@[simp] theorem rowsBu_take (l : List Bur) (k : Nat) : (rowsBu l).take k = rowsBu (l.take k) := by simp [rowsBu]
@[simp] theorem rowsBu_nil : rowsBu [] = [] := rfl
theorem rowsBu_get {l : List Bur} {k : Nat} (h : k < l.length) : (rowsBu l)[k]? = some (burAt l k).cells := by simp [rowsBu, burAt, h]
@[simp] theorem rowsBu_getElem {l : List Bur} {k : Nat} (h : k < (rowsBu l).length) : (rowsBu l)[k] = (burAt l k).cells := by
  have h2 : k < l.length := by simpa using h
  simp [rowsBu, burAt, h2]
theorem rowsBu_snoc (l : List Bur) (x : Bur) : rowsBu l ++ [x.cells] = rowsBu (l ++ [x]) := by simp [rowsBu]
theorem rowsBu_snoc' (l : List Bur) (x : Bur) : rowsBu l ++ [[.v (.int .i64 x.day), .v (.int .i64 x.low), .v (.int .i64 x.high)]] = rowsBu (l ++ [x]) := rowsBu_snoc l x
theorem rowsBu_set (l : List Bur) (k : Nat) (x : Bur) : (rowsBu l).set k x.cells = rowsBu (l.set k x) := by simp [rowsBu, List.map_set]
theorem rowsBu_range (l : List Bur) : (List.range l.length).map (fun i => (burAt l i).cells) = rowsBu l := by
  refine List.ext_getElem? fun i => ?_
  by_cases h : i < l.length
  · rw [rowsBu_get h, List.getElem?_map, List.getElem?_range h]; rfl
  · rw [List.getElem?_eq_none (by simp; omega), List.getElem?_eq_none (by simp; omega)]
structure Snd where
  day : Int
  cove : Int
  low : Int
  high : Int
  deriving DecidableEq, Inhabited
def sndAt (l : List Snd) (i : Nat) : Snd := l.getD i default
def Snd.cells (b : Snd) : List PV := [.v (.int .i64 b.day), .v (.int .i64 b.cove), .v (.int .i64 b.low), .v (.int .i64 b.high)]
def sndL (l : List Snd) : PV := .sl 4 l.length fun i => (sndAt l i).cells
theorem Snd.eq_iff {x y : Snd} : x = y ↔ x.day = y.day ∧ x.cove = y.cove ∧ x.low = y.low ∧ x.high = y.high := by
  cases x; cases y; simp
def rowsSo (l : List Snd) : List (List PV) := l.map Snd.cells
@[simp] theorem rowsSo_length (l : List Snd) : (rowsSo l).length = l.length := by simp [rowsSo]
@[simp] theorem renLL_rowsSo (π : Nat → Nat) (l : List Snd) : renLL π (rowsSo l) = rowsSo l := by
  induction l with
  | nil => rfl
  | cons x l ih => simpa [rowsSo, Snd.cells, renLL, renL, PV.ren] using ih
@[simp] theorem namesLL_rowsSo (l : List Snd) : namesLL (rowsSo l) = [] := by
  induction l with
  | nil => rfl
  | cons x l ih => simpa [rowsSo, Snd.cells, namesLL, namesL, PV.names] using ih
@[simp] theorem flatLL_rowsSo (l : List Snd) : flatLL (rowsSo l) = true := by
  induction l with
  | nil => rfl
  | cons x l ih => simpa [rowsSo, Snd.cells, flatLL, flatL, PV.flat] using ih
@[simp] theorem vwAllL_rowsSo (f : PF) (T : Tgt) (d : Nat) (a b : List Snd) : vo.vwAllL f T (d + 1) (rowsSo a) (rowsSo b) = (a = b) := by
  induction a generalizing b with
  | nil => cases b <;> simp [rowsSo, vo.vwAllL]
  | cons x a ih =>
    cases b with
    | nil => simp [rowsSo, vo.vwAllL]
    | cons y b =>
      have := ih b
      simp only [rowsSo] at this
      simp [rowsSo, vo.vwAllL, this, Snd.cells, Snd.eq_iff]
@[simp] theorem rowsSo_one {l : List Snd} : (∀ (x : List PV), x ∈ rowsSo l → ∀ (y : PV), y ∈ x → y.one = true) ↔ True := by
  refine ⟨fun _ => trivial, fun _ x hx y hy => ?_⟩
  obtain ⟨b, _, rfl⟩ := List.mem_map.1 hx
  simp [Snd.cells] at hy
  rcases hy with rfl | rfl | rfl | rfl <;> rfl
@[simp] theorem rowsSo_len1 {l : List Snd} : (∀ (x : List PV), x ∈ rowsSo l → x.length = 4) ↔ True := by
  refine ⟨fun _ => trivial, fun _ x hx => ?_⟩
  obtain ⟨b, _, rfl⟩ := List.mem_map.1 hx
  rfl
@[simp] theorem rowsSo_take (l : List Snd) (k : Nat) : (rowsSo l).take k = rowsSo (l.take k) := by simp [rowsSo]
@[simp] theorem rowsSo_nil : rowsSo [] = [] := rfl
theorem rowsSo_get {l : List Snd} {k : Nat} (h : k < l.length) : (rowsSo l)[k]? = some (sndAt l k).cells := by simp [rowsSo, sndAt, h]
@[simp] theorem rowsSo_getElem {l : List Snd} {k : Nat} (h : k < (rowsSo l).length) : (rowsSo l)[k] = (sndAt l k).cells := by
  have h2 : k < l.length := by simpa using h
  simp [rowsSo, sndAt, h2]
theorem rowsSo_snoc (l : List Snd) (x : Snd) : rowsSo l ++ [x.cells] = rowsSo (l ++ [x]) := by simp [rowsSo]
theorem rowsSo_snoc' (l : List Snd) (x : Snd) : rowsSo l ++ [[.v (.int .i64 x.day), .v (.int .i64 x.cove), .v (.int .i64 x.low), .v (.int .i64 x.high)]] = rowsSo (l ++ [x]) := rowsSo_snoc l x
theorem rowsSo_set (l : List Snd) (k : Nat) (x : Snd) : (rowsSo l).set k x.cells = rowsSo (l.set k x) := by simp [rowsSo, List.map_set]
theorem rowsSo_range (l : List Snd) : (List.range l.length).map (fun i => (sndAt l i).cells) = rowsSo l := by
  refine List.ext_getElem? fun i => ?_
  by_cases h : i < l.length
  · rw [rowsSo_get h, List.getElem?_map, List.getElem?_range h]; rfl
  · rw [List.getElem?_eq_none (by simp; omega), List.getElem?_eq_none (by simp; omega)]
structure Spn where
  low : Int
  high : Int
  deriving DecidableEq, Inhabited
def spnAt (l : List Spn) (i : Nat) : Spn := l.getD i default
def Spn.cells (b : Spn) : List PV := [.v (.int .i64 b.low), .v (.int .i64 b.high)]
def spnL (l : List Spn) : PV := .sl 2 l.length fun i => (spnAt l i).cells
theorem Spn.eq_iff {x y : Spn} : x = y ↔ x.low = y.low ∧ x.high = y.high := by
  cases x; cases y; simp
def rowsSp (l : List Spn) : List (List PV) := l.map Spn.cells
@[simp] theorem rowsSp_length (l : List Spn) : (rowsSp l).length = l.length := by simp [rowsSp]
@[simp] theorem renLL_rowsSp (π : Nat → Nat) (l : List Spn) : renLL π (rowsSp l) = rowsSp l := by
  induction l with
  | nil => rfl
  | cons x l ih => simpa [rowsSp, Spn.cells, renLL, renL, PV.ren] using ih
@[simp] theorem namesLL_rowsSp (l : List Spn) : namesLL (rowsSp l) = [] := by
  induction l with
  | nil => rfl
  | cons x l ih => simpa [rowsSp, Spn.cells, namesLL, namesL, PV.names] using ih
@[simp] theorem flatLL_rowsSp (l : List Spn) : flatLL (rowsSp l) = true := by
  induction l with
  | nil => rfl
  | cons x l ih => simpa [rowsSp, Spn.cells, flatLL, flatL, PV.flat] using ih
@[simp] theorem vwAllL_rowsSp (f : PF) (T : Tgt) (d : Nat) (a b : List Spn) : vo.vwAllL f T (d + 1) (rowsSp a) (rowsSp b) = (a = b) := by
  induction a generalizing b with
  | nil => cases b <;> simp [rowsSp, vo.vwAllL]
  | cons x a ih =>
    cases b with
    | nil => simp [rowsSp, vo.vwAllL]
    | cons y b =>
      have := ih b
      simp only [rowsSp] at this
      simp [rowsSp, vo.vwAllL, this, Spn.cells, Spn.eq_iff]
@[simp] theorem rowsSp_one {l : List Spn} : (∀ (x : List PV), x ∈ rowsSp l → ∀ (y : PV), y ∈ x → y.one = true) ↔ True := by
  refine ⟨fun _ => trivial, fun _ x hx y hy => ?_⟩
  obtain ⟨b, _, rfl⟩ := List.mem_map.1 hx
  simp [Spn.cells] at hy
  rcases hy with rfl | rfl <;> rfl
@[simp] theorem rowsSp_len1 {l : List Spn} : (∀ (x : List PV), x ∈ rowsSp l → x.length = 2) ↔ True := by
  refine ⟨fun _ => trivial, fun _ x hx => ?_⟩
  obtain ⟨b, _, rfl⟩ := List.mem_map.1 hx
  rfl
@[simp] theorem rowsSp_take (l : List Spn) (k : Nat) : (rowsSp l).take k = rowsSp (l.take k) := by simp [rowsSp]
@[simp] theorem rowsSp_nil : rowsSp [] = [] := rfl
theorem rowsSp_get {l : List Spn} {k : Nat} (h : k < l.length) : (rowsSp l)[k]? = some (spnAt l k).cells := by simp [rowsSp, spnAt, h]
@[simp] theorem rowsSp_getElem {l : List Spn} {k : Nat} (h : k < (rowsSp l).length) : (rowsSp l)[k] = (spnAt l k).cells := by
  have h2 : k < l.length := by simpa using h
  simp [rowsSp, spnAt, h2]
theorem rowsSp_snoc (l : List Spn) (x : Spn) : rowsSp l ++ [x.cells] = rowsSp (l ++ [x]) := by simp [rowsSp]
theorem rowsSp_snoc' (l : List Spn) (x : Spn) : rowsSp l ++ [[.v (.int .i64 x.low), .v (.int .i64 x.high)]] = rowsSp (l ++ [x]) := rowsSp_snoc l x
theorem rowsSp_set (l : List Spn) (k : Nat) (x : Spn) : (rowsSp l).set k x.cells = rowsSp (l.set k x) := by simp [rowsSp, List.map_set]
theorem rowsSp_range (l : List Spn) : (List.range l.length).map (fun i => (spnAt l i).cells) = rowsSp l := by
  refine List.ext_getElem? fun i => ?_
  by_cases h : i < l.length
  · rw [rowsSp_get h, List.getElem?_map, List.getElem?_range h]; rfl
  · rw [List.getElem?_eq_none (by simp; omega), List.getElem?_eq_none (by simp; omega)]
structure Cov where
  closed : List Spn
  window : Int
  noise : Int
  visits : Int
  deriving DecidableEq, Inhabited
def covAt (l : List Cov) (i : Nat) : Cov := l.getD i default
def Cov.cells (c : Cov) : List PV := [spnL c.closed, .v (.int .i64 c.window), .v (.int .i64 c.noise), .v (.int .i64 c.visits)]
def covL (l : List Cov) : PV := .sl 4 l.length fun i => (covAt l i).cells
def Shp.cells (x : Shp) : List PV := [.v (.int .i64 x.day), .v (.int .i64 x.room), .v (.int .i64 x.cost), .v (.int .i64 x.each), .v (.int .i64 x.good)]
def shpL (l : List Shp) : PV := .sl 5 l.length fun i => (shpAt l i).cells
def Sup.cells (S : Sup) : List PV := [brlL S.barrels, burL S.burns, shpL S.ships, .v (.int .i64 S.kilos)]
theorem idxBrl_spec (l : List Brl) (hl : l.length ≤ 9223372036854775807) (f : FuncId) (first cap : List PV) (h1 : plainL first = true) (h2 : plainL cap = true) (p : Nat → Bool)
    (h : ∀ k, k < l.length → Spec Try.prog f (first ++ ([.agg (brlAt l k).cells] ++ cap)) (.v (.bool (p k)))) : Spec Try.prog 121 [brlL l, .clo (.func f) first cap] (.v (.int .i64 (idxN p l.length))) := by
  refine spec_of mixed Try.func121 (by decide) rfl Try.results121 Try.ntmps121 (by decide) 0 (by simp) ?_
  simp [brlL, Brl.cells, renL_plain h1, renL_plain h2]
  refine pwp_loop (fun k : Nat => [(8, .v (.int .i64 k))]) (fun k => k ≤ l.length ∧ ∀ j, j < k → p j = false) (fun k => l.length - k) 0 ⟨Nat.zero_le _, fun j hj => by omega⟩ (by simp; rfl) (by simp [vwAll_plain h1, vwAll_plain h2]) ?_
  intro k ⟨hk, hp⟩
  by_cases hkl : k < l.length
  · simp [hkl]
    refine pop_spec (h k hkl) rfl false (.inr ⟨by simp [brlL, Brl.cells], by simp [namesL_append, plainL_names h1, plainL_names h2, brlL, Brl.cells]⟩) (.inl rfl) rfl (by simp) ?_
    cases hpk : p k with
    | false =>
      simp
      refine again_of (k + 1) ⟨by omega, fun j hj => ?_⟩ (by omega) ?_
      · rcases Nat.lt_succ_iff_lt_or_eq.1 hj with hj | rfl
        · exact hp j hj
        · exact hpk
      · simp [i64_wrap (show -9223372036854775808 ≤ (k : Int) + 1 ∧ _ from by omega), vwAll_plain h1, vwAll_plain h2]
    | true =>
      simp
      refine answers_of rfl ?_; simp [idxN_some hp hpk hkl]
  · simp [hkl]
    obtain rfl : k = l.length := by omega
    refine answers_of rfl ?_; simp [idxN_none hp]
theorem anyBrl_spec (l : List Brl) (hl : l.length ≤ 9223372036854775807) (f : FuncId) (first cap : List PV) (h1 : plainL first = true) (h2 : plainL cap = true) (p : Nat → Bool)
    (h : ∀ k, k < l.length → Spec Try.prog f (first ++ ([.agg (brlAt l k).cells] ++ cap)) (.v (.bool (p k)))) : Spec Try.prog 95 [brlL l, .clo (.func f) first cap] (.v (.bool (anyN l.length p))) := by
  refine spec_of mixed Try.func95 (by decide) rfl Try.results95 Try.ntmps95 (by decide) 0 (by simp) ?_
  simp [brlL, Brl.cells, renL_plain h1, renL_plain h2]
  refine pop_spec (idxBrl_spec l hl f first cap h1 h2 p h) rfl false (.inl (by simp [brlL, Brl.cells, vwAll_plain h1, vwAll_plain h2])) (.inl rfl) rfl (by simp) ?_
  simp
  refine answers_of rfl ?_; simp [anyN]
theorem idxSpn_spec (l : List Spn) (hl : l.length ≤ 9223372036854775807) (f : FuncId) (first cap : List PV) (h1 : plainL first = true) (h2 : plainL cap = true) (p : Nat → Bool)
    (h : ∀ k, k < l.length → Spec Try.prog f (first ++ ([.agg (spnAt l k).cells] ++ cap)) (.v (.bool (p k)))) : Spec Try.prog 123 [spnL l, .clo (.func f) first cap] (.v (.int .i64 (idxN p l.length))) := by
  refine spec_of mixed Try.func123 (by decide) rfl Try.results123 Try.ntmps123 (by decide) 0 (by simp) ?_
  simp [spnL, Spn.cells, renL_plain h1, renL_plain h2]
  refine pwp_loop (fun k : Nat => [(8, .v (.int .i64 k))]) (fun k => k ≤ l.length ∧ ∀ j, j < k → p j = false) (fun k => l.length - k) 0 ⟨Nat.zero_le _, fun j hj => by omega⟩ (by simp; rfl) (by simp [vwAll_plain h1, vwAll_plain h2]) ?_
  intro k ⟨hk, hp⟩
  by_cases hkl : k < l.length
  · simp [hkl]
    refine pop_spec (h k hkl) rfl false (.inr ⟨by simp [spnL, Spn.cells], by simp [namesL_append, plainL_names h1, plainL_names h2, spnL, Spn.cells]⟩) (.inl rfl) rfl (by simp) ?_
    cases hpk : p k with
    | false =>
      simp
      refine again_of (k + 1) ⟨by omega, fun j hj => ?_⟩ (by omega) ?_
      · rcases Nat.lt_succ_iff_lt_or_eq.1 hj with hj | rfl
        · exact hp j hj
        · exact hpk
      · simp [i64_wrap (show -9223372036854775808 ≤ (k : Int) + 1 ∧ _ from by omega), vwAll_plain h1, vwAll_plain h2]
    | true =>
      simp
      refine answers_of rfl ?_; simp [idxN_some hp hpk hkl]
  · simp [hkl]
    obtain rfl : k = l.length := by omega
    refine answers_of rfl ?_; simp [idxN_none hp]
theorem anySpn_spec (l : List Spn) (hl : l.length ≤ 9223372036854775807) (f : FuncId) (first cap : List PV) (h1 : plainL first = true) (h2 : plainL cap = true) (p : Nat → Bool)
    (h : ∀ k, k < l.length → Spec Try.prog f (first ++ ([.agg (spnAt l k).cells] ++ cap)) (.v (.bool (p k)))) : Spec Try.prog 113 [spnL l, .clo (.func f) first cap] (.v (.bool (anyN l.length p))) := by
  refine spec_of mixed Try.func113 (by decide) rfl Try.results113 Try.ntmps113 (by decide) 0 (by simp) ?_
  simp [spnL, Spn.cells, renL_plain h1, renL_plain h2]
  refine pop_spec (idxSpn_spec l hl f first cap h1 h2 p h) rfl false (.inl (by simp [spnL, Spn.cells, vwAll_plain h1, vwAll_plain h2])) (.inl rfl) rfl (by simp) ?_
  simp
  refine answers_of rfl ?_; simp [anyN]
theorem idxCov_spec (l : List Cov) (hl : l.length ≤ 9223372036854775807) (f : FuncId) (first cap : List PV) (h1 : plainL first = true) (h2 : plainL cap = true) (p : Nat → Bool)
    (h : ∀ k, k < l.length → Spec Try.prog f (first ++ ([.agg (covAt l k).cells] ++ cap)) (.v (.bool (p k)))) : Spec Try.prog 122 [covL l, .clo (.func f) first cap] (.v (.int .i64 (idxN p l.length))) := by
  refine spec_of mixed Try.func122 (by decide) rfl Try.results122 Try.ntmps122 (by decide) 0 (by simp) ?_
  simp [covL, Cov.cells, spnL, renL_plain h1, renL_plain h2]
  refine pwp_loop (fun k : Nat => [(8, .v (.int .i64 k))]) (fun k => k ≤ l.length ∧ ∀ j, j < k → p j = false) (fun k => l.length - k) 0 ⟨Nat.zero_le _, fun j hj => by omega⟩ (by simp; rfl) (by simp [vwAll_plain h1, vwAll_plain h2]) ?_
  intro k ⟨hk, hp⟩
  by_cases hkl : k < l.length
  · simp [hkl]
    refine pop_spec (h k hkl) rfl false (.inr ⟨by simp [covL, Cov.cells, spnL], by simp [namesL_append, plainL_names h1, plainL_names h2, covL, Cov.cells, spnL]⟩) (.inl rfl) rfl (by simp) ?_
    cases hpk : p k with
    | false =>
      simp
      refine again_of (k + 1) ⟨by omega, fun j hj => ?_⟩ (by omega) ?_
      · rcases Nat.lt_succ_iff_lt_or_eq.1 hj with hj | rfl
        · exact hp j hj
        · exact hpk
      · simp [i64_wrap (show -9223372036854775808 ≤ (k : Int) + 1 ∧ _ from by omega), vwAll_plain h1, vwAll_plain h2]
    | true =>
      simp
      refine answers_of rfl ?_; simp [idxN_some hp hpk hkl]
  · simp [hkl]
    obtain rfl : k = l.length := by omega
    refine answers_of rfl ?_; simp [idxN_none hp]
theorem anyCov_spec (l : List Cov) (hl : l.length ≤ 9223372036854775807) (f : FuncId) (first cap : List PV) (h1 : plainL first = true) (h2 : plainL cap = true) (p : Nat → Bool)
    (h : ∀ k, k < l.length → Spec Try.prog f (first ++ ([.agg (covAt l k).cells] ++ cap)) (.v (.bool (p k)))) : Spec Try.prog 111 [covL l, .clo (.func f) first cap] (.v (.bool (anyN l.length p))) := by
  refine spec_of mixed Try.func111 (by decide) rfl Try.results111 Try.ntmps111 (by decide) 0 (by simp) ?_
  simp [covL, Cov.cells, spnL, renL_plain h1, renL_plain h2]
  refine pop_spec (idxCov_spec l hl f first cap h1 h2 p h) rfl false (.inl (by simp [covL, Cov.cells, spnL, vwAll_plain h1, vwAll_plain h2])) (.inl rfl) rfl (by simp) ?_
  simp
  refine answers_of rfl ?_; simp [anyN]
theorem idxInt_spec (l : List Int) (hl : l.length ≤ 9223372036854775807) (f : FuncId) (first cap : List PV) (h1 : plainL first = true) (h2 : plainL cap = true) (p : Nat → Bool)
    (h : ∀ k, k < l.length → Spec Try.prog f (first ++ ([.v (.int .i64 (geti l k))] ++ cap)) (.v (.bool (p k)))) : Spec Try.prog 100 [ints l, .clo (.func f) first cap] (.v (.int .i64 (idxN p l.length))) := by
  refine spec_of mixed Try.func100 (by decide) rfl Try.results100 Try.ntmps100 (by decide) 0 (by simp) ?_
  simp [ints, renL_plain h1, renL_plain h2]
  refine pwp_loop (fun k : Nat => [(8, .v (.int .i64 k))]) (fun k => k ≤ l.length ∧ ∀ j, j < k → p j = false) (fun k => l.length - k) 0 ⟨Nat.zero_le _, fun j hj => by omega⟩ (by simp; rfl) (by simp [vwAll_plain h1, vwAll_plain h2]) ?_
  intro k ⟨hk, hp⟩
  by_cases hkl : k < l.length
  · simp [hkl]
    refine pop_spec (h k hkl) rfl false (.inr ⟨by simp [ints], by simp [namesL_append, plainL_names h1, plainL_names h2, ints]⟩) (.inl rfl) rfl (by simp) ?_
    cases hpk : p k with
    | false =>
      simp
      refine again_of (k + 1) ⟨by omega, fun j hj => ?_⟩ (by omega) ?_
      · rcases Nat.lt_succ_iff_lt_or_eq.1 hj with hj | rfl
        · exact hp j hj
        · exact hpk
      · simp [i64_wrap (show -9223372036854775808 ≤ (k : Int) + 1 ∧ _ from by omega), vwAll_plain h1, vwAll_plain h2]
    | true =>
      simp
      refine answers_of rfl ?_; simp [idxN_some hp hpk hkl]
  · simp [hkl]
    obtain rfl : k = l.length := by omega
    refine answers_of rfl ?_; simp [idxN_none hp]
theorem anyInt_spec (l : List Int) (hl : l.length ≤ 9223372036854775807) (f : FuncId) (first cap : List PV) (h1 : plainL first = true) (h2 : plainL cap = true) (p : Nat → Bool)
    (h : ∀ k, k < l.length → Spec Try.prog f (first ++ ([.v (.int .i64 (geti l k))] ++ cap)) (.v (.bool (p k)))) : Spec Try.prog 69 [ints l, .clo (.func f) first cap] (.v (.bool (anyN l.length p))) := by
  refine spec_of mixed Try.func69 (by decide) rfl Try.results69 Try.ntmps69 (by decide) 0 (by simp) ?_
  simp [ints, renL_plain h1, renL_plain h2]
  refine pop_spec (idxInt_spec l hl f first cap h1 h2 p h) rfl false (.inl (by simp [ints, vwAll_plain h1, vwAll_plain h2])) (.inl rfl) rfl (by simp) ?_
  simp
  refine answers_of rfl ?_; simp [anyN]
theorem take_filter_Brl (l : List Brl) (p : Brl → Bool) {k : Nat} (h : k < l.length) : (l.take (k + 1)).filter p = (l.take k).filter p ++ (if p (brlAt l k) = true then [brlAt l k] else []) := by
  rw [List.take_succ_eq_append_getElem h, List.filter_append, show l[k] = brlAt l k from by simp [brlAt, h]]
  congr 1
  by_cases hp : p (brlAt l k) = true <;> simp [hp]
theorem partBrl_spec (l : List Brl) (hl : l.length ≤ 1000000) (f : FuncId) (first cap : List PV) (h1 : plainL first = true) (h2 : plainL cap = true) (p : Brl → Bool)
    (h : ∀ k, k < l.length → Spec Try.prog f (first ++ ([.agg (brlAt l k).cells] ++ cap)) (.v (.bool (p (brlAt l k))))) : Spec Try.prog 98 [brlL l, .clo (.func f) first cap] (brlL (l.filter p)) := by
  refine spec_of mixed Try.func98 (by decide) rfl Try.results98 Try.ntmps98 (by decide) 0 (by simp) ?_
  simp [brlL, renL_plain h1, renL_plain h2]
  refine pwp_loop (fun k : Nat => [(5, .own 20 ((l.take k).filter p).length 0 ((l.take k).filter p).length false), (10, .v (.int .i64 k)), (20, .rows none ((l.take k).filter p).length 54 2 (rowsBr ((l.take k).filter p)))]) (fun k => k ≤ l.length) (fun k => l.length - k) 0 (Nat.zero_le _) (by simp; rfl) (by simp [vwAll_plain h1, vwAll_plain h2]) ?_
  intro k hk
  by_cases hkl : k < l.length
  · have wk := i64_wrap (show -9223372036854775808 ≤ (k : Int) + 1 ∧ _ from by omega)
    have hle : ((l.take k).filter p).length ≤ k := Nat.le_trans (List.length_filter_le _ _) (by simp; omega)
    have hs := take_filter_Brl l p hkl
    simp [hkl, Brl.cells]
    refine pop_spec (h k hkl) rfl false (.inr ⟨by simp [Brl.cells], by simp [namesL_append, plainL_names h1, plainL_names h2, Brl.cells]⟩) (.inl rfl) rfl (by simp) ?_
    cases hpk : p (brlAt l k) with
    | true =>
      rw [hpk, if_pos rfl] at hs
      simp [rowsBr_snoc', show (((l.take k).filter p).length + 1) * 16 ≤ 140737488355328 from by omega, show ((l.take k).filter p).length + 1 ≤ maxLen from by simp [maxLen]; omega]
      refine again_of (k + 1) (by omega) (by omega) ?_
      simp [wk, hs, vwAll_plain h1, vwAll_plain h2]
    | false =>
      rw [hpk, if_neg (by simp), List.append_nil] at hs
      simp
      refine again_of (k + 1) (by omega) (by omega) ?_
      simp [wk, hs, vwAll_plain h1, vwAll_plain h2]
  · obtain rfl : k = l.length := by omega
    rw [List.take_length]
    simp
    refine answers_of rfl ?_; simp [brlL]
    intro k hk
    simp [rowsBr_get hk, Brl.cells]
theorem take_filter_Bur (l : List Bur) (p : Bur → Bool) {k : Nat} (h : k < l.length) : (l.take (k + 1)).filter p = (l.take k).filter p ++ (if p (burAt l k) = true then [burAt l k] else []) := by
  rw [List.take_succ_eq_append_getElem h, List.filter_append, show l[k] = burAt l k from by simp [burAt, h]]
  congr 1
  by_cases hp : p (burAt l k) = true <;> simp [hp]
theorem partBur_spec (l : List Bur) (hl : l.length ≤ 1000000) (f : FuncId) (first cap : List PV) (h1 : plainL first = true) (h2 : plainL cap = true) (p : Bur → Bool)
    (h : ∀ k, k < l.length → Spec Try.prog f (first ++ ([.agg (burAt l k).cells] ++ cap)) (.v (.bool (p (burAt l k))))) : Spec Try.prog 109 [burL l, .clo (.func f) first cap] (burL (l.filter p)) := by
  refine spec_of mixed Try.func109 (by decide) rfl Try.results109 Try.ntmps109 (by decide) 0 (by simp) ?_
  simp [burL, renL_plain h1, renL_plain h2]
  refine pwp_loop (fun k : Nat => [(5, .own 20 ((l.take k).filter p).length 0 ((l.take k).filter p).length false), (10, .v (.int .i64 k)), (20, .rows none ((l.take k).filter p).length 85 3 (rowsBu ((l.take k).filter p)))]) (fun k => k ≤ l.length) (fun k => l.length - k) 0 (Nat.zero_le _) (by simp; rfl) (by simp [vwAll_plain h1, vwAll_plain h2]) ?_
  intro k hk
  by_cases hkl : k < l.length
  · have wk := i64_wrap (show -9223372036854775808 ≤ (k : Int) + 1 ∧ _ from by omega)
    have hle : ((l.take k).filter p).length ≤ k := Nat.le_trans (List.length_filter_le _ _) (by simp; omega)
    have hs := take_filter_Bur l p hkl
    simp [hkl, Bur.cells]
    refine pop_spec (h k hkl) rfl false (.inr ⟨by simp [Bur.cells], by simp [namesL_append, plainL_names h1, plainL_names h2, Bur.cells]⟩) (.inl rfl) rfl (by simp) ?_
    cases hpk : p (burAt l k) with
    | true =>
      rw [hpk, if_pos rfl] at hs
      simp [rowsBu_snoc', show (((l.take k).filter p).length + 1) * 24 ≤ 140737488355328 from by omega, show ((l.take k).filter p).length + 1 ≤ maxLen from by simp [maxLen]; omega]
      refine again_of (k + 1) (by omega) (by omega) ?_
      simp [wk, hs, vwAll_plain h1, vwAll_plain h2]
    | false =>
      rw [hpk, if_neg (by simp), List.append_nil] at hs
      simp
      refine again_of (k + 1) (by omega) (by omega) ?_
      simp [wk, hs, vwAll_plain h1, vwAll_plain h2]
  · obtain rfl : k = l.length := by omega
    rw [List.take_length]
    simp
    refine answers_of rfl ?_; simp [burL]
    intro k hk
    simp [rowsBu_get hk, Bur.cells]
theorem take_filter_Snd (l : List Snd) (p : Snd → Bool) {k : Nat} (h : k < l.length) : (l.take (k + 1)).filter p = (l.take k).filter p ++ (if p (sndAt l k) = true then [sndAt l k] else []) := by
  rw [List.take_succ_eq_append_getElem h, List.filter_append, show l[k] = sndAt l k from by simp [sndAt, h]]
  congr 1
  by_cases hp : p (sndAt l k) = true <;> simp [hp]
theorem partSnd_spec (l : List Snd) (hl : l.length ≤ 1000000) (f : FuncId) (first cap : List PV) (h1 : plainL first = true) (h2 : plainL cap = true) (p : Snd → Bool)
    (h : ∀ k, k < l.length → Spec Try.prog f (first ++ ([.agg (sndAt l k).cells] ++ cap)) (.v (.bool (p (sndAt l k))))) : Spec Try.prog 115 [sndL l, .clo (.func f) first cap] (sndL (l.filter p)) := by
  refine spec_of mixed Try.func115 (by decide) rfl Try.results115 Try.ntmps115 (by decide) 0 (by simp) ?_
  simp [sndL, renL_plain h1, renL_plain h2]
  refine pwp_loop (fun k : Nat => [(5, .own 20 ((l.take k).filter p).length 0 ((l.take k).filter p).length false), (10, .v (.int .i64 k)), (20, .rows none ((l.take k).filter p).length 74 4 (rowsSo ((l.take k).filter p)))]) (fun k => k ≤ l.length) (fun k => l.length - k) 0 (Nat.zero_le _) (by simp; rfl) (by simp [vwAll_plain h1, vwAll_plain h2]) ?_
  intro k hk
  by_cases hkl : k < l.length
  · have wk := i64_wrap (show -9223372036854775808 ≤ (k : Int) + 1 ∧ _ from by omega)
    have hle : ((l.take k).filter p).length ≤ k := Nat.le_trans (List.length_filter_le _ _) (by simp; omega)
    have hs := take_filter_Snd l p hkl
    simp [hkl, Snd.cells]
    refine pop_spec (h k hkl) rfl false (.inr ⟨by simp [Snd.cells], by simp [namesL_append, plainL_names h1, plainL_names h2, Snd.cells]⟩) (.inl rfl) rfl (by simp) ?_
    cases hpk : p (sndAt l k) with
    | true =>
      rw [hpk, if_pos rfl] at hs
      simp [rowsSo_snoc', show (((l.take k).filter p).length + 1) * 32 ≤ 140737488355328 from by omega, show ((l.take k).filter p).length + 1 ≤ maxLen from by simp [maxLen]; omega]
      refine again_of (k + 1) (by omega) (by omega) ?_
      simp [wk, hs, vwAll_plain h1, vwAll_plain h2]
    | false =>
      rw [hpk, if_neg (by simp), List.append_nil] at hs
      simp
      refine again_of (k + 1) (by omega) (by omega) ?_
      simp [wk, hs, vwAll_plain h1, vwAll_plain h2]
  · obtain rfl : k = l.length := by omega
    rw [List.take_length]
    simp
    refine answers_of rfl ?_; simp [sndL]
    intro k hk
    simp [rowsSo_get hk, Snd.cells]
end Go.Qg

namespace Go.Qg
open Go.Proofs
set_option maxRecDepth 100000
theorem lenOk {n : Nat} (h : n ≤ maxLen) : n ≤ 9223372036854775807 := h
def intOk (x : Int) : Prop := -9223372036854775808 ≤ x ∧ x ≤ 9223372036854775807
theorem intOk_of {x : Int} (h : IntKind.i64.min ≤ x ∧ x ≤ IntKind.i64.max) : intOk x := h
section
open Try
theorem t_int {n : Nat} {ps : List PV} (h : Typ Try.prog (n + 1) 3 ps) : ∃ x, ps = [.v (.int .i64 x)] ∧ intOk x := by
  simp only [Typ, Try.underlying3] at h
  obtain ⟨x, h1, h2⟩ := h
  exact ⟨x, h1, intOk_of h2⟩
theorem d_int {n : Nat} : tdef Try.prog (n + 1) 3 = [.v (.int .i64 0)] := by simp only [tdef, Try.underlying3]
theorem t_bool {n : Nat} {ps : List PV} (h : Typ Try.prog (n + 1) 4 ps) : ∃ x, ps = [.v (.bool x)] := by
  simpa only [Typ, Try.underlying4] using h
theorem d_bool {n : Nat} : tdef Try.prog (n + 1) 4 = [.v (.bool false)] := by simp only [tdef, Try.underlying4]
theorem cells_int : Try.prog.cellsOf 3 = 1 := by kernel_rfl
theorem t_ints {n : Nat} {ps : List PV} (h : Typ Try.prog (n + 2) 38 ps) : ∃ l : List Int, ps = [ints l] ∧ l.length ≤ 9223372036854775807 ∧ ∀ x ∈ l, intOk x := by
  unfold Typ at h
  simp only [Try.underlying38, cells_int] at h
  obtain ⟨m, f, h1, h2, h3, h4⟩ := h
  obtain ⟨l, g1, g2, g3⟩ := sl_list (α := Int) (fun x => [.v (.int .i64 x)]) intOk (fun i hi => t_int (h3 i hi)) (fun i hi => (h4 i hi).trans d_int)
  refine ⟨l, ?_, lenOk (by omega), g3⟩
  rw [h1, g2, ← g1]; rfl
theorem d_ints {n : Nat} : tdef Try.prog (n + 2) 38 = [ints []] := by
  unfold tdef
  simp only [Try.underlying38, cells_int, d_int]; rfl
theorem a_int {n : Nat} {p : PV} (h : ArgP Try.prog (n + 1) 3 p) : ∃ x, p = .v (.int .i64 x) ∧ intOk x := by
  simp only [ArgP, Try.underlying3] at h
  simpa using t_int h
theorem a_bool {n : Nat} {p : PV} (h : ArgP Try.prog (n + 1) 4 p) : ∃ x, p = .v (.bool x) := by
  simp only [ArgP, Try.underlying4] at h
  simpa using t_bool h
theorem a_ints {n : Nat} {p : PV} (h : ArgP Try.prog (n + 2) 38 p) : ∃ l : List Int, p = ints l ∧ l.length ≤ 9223372036854775807 ∧ ∀ x ∈ l, intOk x := by
  simp only [ArgP, Try.underlying38] at h
  simpa using t_ints h
theorem t_struct {P : Program} {n : Nat} {t : TypeId} {ps : List PV} {fs : Array Field} (hu : P.underlying t = some (.struct fs)) (h : Typ P (n + 1) t ps) : TypF (Typ P n) (fs.toList.map (·.type)) ps := by
  unfold Typ at h
  rw [hu] at h
  exact h
theorem a_struct {P : Program} {n : Nat} {t : TypeId} {p : PV} {fs : Array Field} (hu : P.underlying t = some (.struct fs)) (h : ArgP P n t p) : ∃ ps, p = .agg ps ∧ Typ P n t ps := by
  unfold ArgP at h
  rw [hu] at h
  exact h
theorem d_struct {P : Program} {n : Nat} {t : TypeId} {fs : Array Field} (hu : P.underlying t = some (.struct fs)) : tdef P (n + 1) t = (fs.toList.map fun f => tdef P n f.type).flatten := by
  simp only [tdef, hu]
theorem t_slice {P : Program} {n : Nat} {t e : TypeId} {ps : List PV} {c : Nat} (hu : P.underlying t = some (.slice e)) (hc : P.cellsOf e = c) (h : Typ P (n + 1) t ps) : ∃ (m : Nat) (f : Nat → List PV), ps = [.sl c m f] ∧ m ≤ 9223372036854775807 ∧ (∀ i, i < m → Typ P n e (f i)) ∧ ∀ i, m ≤ i → f i = tdef P n e := by
  unfold Typ at h
  rw [hu] at h
  obtain ⟨m, f, h1, h2, h3, h4⟩ := h
  exact ⟨m, f, by rw [h1, hc], lenOk h2, h3, h4⟩
theorem d_slice {P : Program} {n : Nat} {t e : TypeId} {c : Nat} (hu : P.underlying t = some (.slice e)) (hc : P.cellsOf e = c) : tdef P (n + 1) t = [.sl c 0 fun _ => tdef P n e] := by
  simp only [tdef, hu, hc]
theorem a_slice {P : Program} {n : Nat} {t e : TypeId} {p : PV} (hu : P.underlying t = some (.slice e)) (h : ArgP P n t p) : Typ P n t [p] := by
  unfold ArgP at h
  rw [hu] at h
  exact h
theorem t_brl {n : Nat} {ps : List PV} (h : Typ Try.prog (n + 2) 54 ps) : ∃ r : Brl, ps = r.cells ∧ intOk r.kilos ∧ intOk r.til := by
  obtain ⟨p0, q0, rfl, h0, p1, q1, rfl, h1, rfl⟩ := t_struct Try.underlying54 h
  obtain ⟨x0, rfl, k0⟩ := t_int h0
  obtain ⟨x1, rfl, k1⟩ := t_int h1
  exact ⟨⟨x0, x1⟩, rfl, k0, k1⟩
theorem d_brl {n : Nat} : tdef Try.prog (n + 2) 54 = (default : Brl).cells := by
  rw [d_struct Try.underlying54]; simp [d_int]; rfl
theorem a_brl {n : Nat} {p : PV} (h : ArgP Try.prog (n + 2) 54 p) : ∃ r : Brl, p = .agg r.cells ∧ intOk r.kilos ∧ intOk r.til := by
  obtain ⟨ps, rfl, g⟩ := a_struct Try.underlying54 h
  obtain ⟨r, rfl, k⟩ := t_brl g
  exact ⟨r, rfl, k⟩
theorem cells_brl : Try.prog.cellsOf 54 = 2 := by kernel_rfl
theorem t_spn {n : Nat} {ps : List PV} (h : Typ Try.prog (n + 2) 60 ps) : ∃ r : Spn, ps = r.cells ∧ intOk r.low ∧ intOk r.high := by
  obtain ⟨p0, q0, rfl, h0, p1, q1, rfl, h1, rfl⟩ := t_struct Try.underlying60 h
  obtain ⟨x0, rfl, k0⟩ := t_int h0
  obtain ⟨x1, rfl, k1⟩ := t_int h1
  exact ⟨⟨x0, x1⟩, rfl, k0, k1⟩
theorem d_spn {n : Nat} : tdef Try.prog (n + 2) 60 = (default : Spn).cells := by
  rw [d_struct Try.underlying60]; simp [d_int]; rfl
theorem a_spn {n : Nat} {p : PV} (h : ArgP Try.prog (n + 2) 60 p) : ∃ r : Spn, p = .agg r.cells ∧ intOk r.low ∧ intOk r.high := by
  obtain ⟨ps, rfl, g⟩ := a_struct Try.underlying60 h
  obtain ⟨r, rfl, k⟩ := t_spn g
  exact ⟨r, rfl, k⟩
theorem cells_spn : Try.prog.cellsOf 60 = 2 := by kernel_rfl
theorem t_brls {n : Nat} {ps : List PV} (h : Typ Try.prog (n + 3) 22 ps) : ∃ l : List Brl, ps = [brlL l] ∧ l.length ≤ 9223372036854775807 ∧ ∀ s ∈ l, intOk s.kilos ∧ intOk s.til := by
  obtain ⟨m, f, h1, h2, h3, h4⟩ := t_slice Try.underlying22 cells_brl h
  obtain ⟨l, g1, g2, g3⟩ := sl_list Brl.cells (fun s => intOk s.kilos ∧ intOk s.til) (fun i hi => t_brl (h3 i hi)) (fun i hi => (h4 i hi).trans d_brl)
  refine ⟨l, ?_, by omega, g3⟩
  rw [h1, g2, ← g1]; rfl
theorem d_brls {n : Nat} : tdef Try.prog (n + 3) 22 = [brlL []] := by
  rw [d_slice Try.underlying22 cells_brl]
  simp only [d_brl]; rfl
theorem a_brls {n : Nat} {p : PV} (h : ArgP Try.prog (n + 3) 22 p) : ∃ l : List Brl, p = brlL l ∧ l.length ≤ 9223372036854775807 ∧ ∀ s ∈ l, intOk s.kilos ∧ intOk s.til := by
  obtain ⟨l, h1, h2⟩ := t_brls (a_slice Try.underlying22 h)
  exact ⟨l, List.singleton_inj.1 h1, h2⟩
theorem t_spns {n : Nat} {ps : List PV} (h : Typ Try.prog (n + 3) 67 ps) : ∃ l : List Spn, ps = [spnL l] ∧ l.length ≤ 9223372036854775807 ∧ ∀ s ∈ l, intOk s.low ∧ intOk s.high := by
  obtain ⟨m, f, h1, h2, h3, h4⟩ := t_slice Try.underlying67 cells_spn h
  obtain ⟨l, g1, g2, g3⟩ := sl_list Spn.cells (fun s => intOk s.low ∧ intOk s.high) (fun i hi => t_spn (h3 i hi)) (fun i hi => (h4 i hi).trans d_spn)
  refine ⟨l, ?_, by omega, g3⟩
  rw [h1, g2, ← g1]; rfl
theorem d_spns {n : Nat} : tdef Try.prog (n + 3) 67 = [spnL []] := by
  rw [d_slice Try.underlying67 cells_spn]
  simp only [d_spn]; rfl
theorem a_spns {n : Nat} {p : PV} (h : ArgP Try.prog (n + 3) 67 p) : ∃ l : List Spn, p = spnL l ∧ l.length ≤ 9223372036854775807 ∧ ∀ s ∈ l, intOk s.low ∧ intOk s.high := by
  obtain ⟨l, h1, h2⟩ := t_spns (a_slice Try.underlying67 h)
  exact ⟨l, List.singleton_inj.1 h1, h2⟩
theorem t_bur {n : Nat} {ps : List PV} (h : Typ Try.prog (n + 3) 85 ps) : ∃ r : Bur, ps = r.cells ∧ intOk r.day ∧ intOk r.low ∧ intOk r.high := by
  obtain ⟨p0, q0, rfl, h0, p1, q1, rfl, h1, rfl⟩ := t_struct Try.underlying85 h
  obtain ⟨x0, rfl, k0⟩ := t_int h0
  obtain ⟨s, rfl, k1⟩ := t_spn h1
  exact ⟨⟨x0, s.low, s.high⟩, rfl, k0, k1⟩
theorem d_bur {n : Nat} : tdef Try.prog (n + 3) 85 = (default : Bur).cells := by
  rw [d_struct Try.underlying85]; simp [d_int, d_spn]; rfl
theorem cells_bur : Try.prog.cellsOf 85 = 3 := by kernel_rfl
theorem t_burs {n : Nat} {ps : List PV} (h : Typ Try.prog (n + 4) 34 ps) : ∃ l : List Bur, ps = [burL l] ∧ l.length ≤ 9223372036854775807 := by
  obtain ⟨m, f, h1, h2, h3, h4⟩ := t_slice Try.underlying34 cells_bur h
  obtain ⟨l, g1, g2, g3⟩ := sl_list Bur.cells (fun s => intOk s.day ∧ intOk s.low ∧ intOk s.high) (fun i hi => t_bur (h3 i hi)) (fun i hi => (h4 i hi).trans d_bur)
  refine ⟨l, ?_, by omega⟩
  rw [h1, g2, ← g1]; rfl
theorem t_snd {n : Nat} {ps : List PV} (h : Typ Try.prog (n + 3) 74 ps) : ∃ r : Snd, ps = r.cells ∧ intOk r.day ∧ intOk r.cove ∧ intOk r.low ∧ intOk r.high := by
  obtain ⟨p0, q0, rfl, h0, p2, q2, rfl, h2, p1, q1, rfl, h1, rfl⟩ := t_struct Try.underlying74 h
  obtain ⟨x0, rfl, k0⟩ := t_int h0
  obtain ⟨x2, rfl, k2⟩ := t_int h2
  obtain ⟨s, rfl, k1⟩ := t_spn h1
  exact ⟨⟨x0, x2, s.low, s.high⟩, rfl, k0, k2, k1⟩
theorem d_snd {n : Nat} : tdef Try.prog (n + 3) 74 = (default : Snd).cells := by
  rw [d_struct Try.underlying74]; simp [d_int, d_spn]; rfl
theorem cells_snd : Try.prog.cellsOf 74 = 4 := by kernel_rfl
theorem a_snd {n : Nat} {p : PV} (h : ArgP Try.prog (n + 3) 74 p) : ∃ r : Snd, p = .agg r.cells ∧ intOk r.day ∧ intOk r.cove ∧ intOk r.low ∧ intOk r.high := by
  obtain ⟨ps, rfl, g⟩ := a_struct Try.underlying74 h
  obtain ⟨r, rfl, k⟩ := t_snd g
  exact ⟨r, rfl, k⟩
theorem a_snds {n : Nat} {p : PV} (h : ArgP Try.prog (n + 4) 58 p) : ∃ l : List Snd, p = sndL l ∧ l.length ≤ 9223372036854775807 ∧ ∀ s ∈ l, intOk s.day ∧ intOk s.cove ∧ intOk s.low ∧ intOk s.high := by
  obtain ⟨m, f, h1, h2, h3, h4⟩ := t_slice Try.underlying58 cells_snd (a_slice Try.underlying58 h)
  obtain ⟨l, g1, g2, g3⟩ := sl_list Snd.cells (fun s => intOk s.day ∧ intOk s.cove ∧ intOk s.low ∧ intOk s.high) (fun i hi => t_snd (h3 i hi)) (fun i hi => (h4 i hi).trans d_snd)
  refine ⟨l, ?_, by omega, g3⟩
  have h1 := List.singleton_inj.1 h1
  rw [h1, g2, ← g1]; rfl
theorem t_cov {n : Nat} {ps : List PV} (h : Typ Try.prog (n + 4) 127 ps) : ∃ r : Cov, ps = r.cells ∧ r.closed.length ≤ 9223372036854775807 ∧ intOk r.window ∧ intOk r.noise ∧ intOk r.visits := by
  obtain ⟨p0, q0, rfl, h0, p1, q1, rfl, h1, p2, q2, rfl, h2, p3, q3, rfl, h3, rfl⟩ := t_struct Try.underlying127 h
  obtain ⟨l, rfl, hl, _⟩ := t_spns h0
  obtain ⟨x1, rfl, k1⟩ := t_int h1
  obtain ⟨x2, rfl, k2⟩ := t_int h2
  obtain ⟨x3, rfl, k3⟩ := t_int h3
  exact ⟨⟨l, x1, x2, x3⟩, rfl, hl, k1, k2, k3⟩
theorem d_cov {n : Nat} : tdef Try.prog (n + 4) 127 = (default : Cov).cells := by
  rw [d_struct Try.underlying127]; simp [d_int, d_spns]; rfl
theorem cells_cov : Try.prog.cellsOf 127 = 4 := by kernel_rfl
theorem a_covs {n : Nat} {p : PV} (h : ArgP Try.prog (n + 5) 57 p) : ∃ l : List Cov, p = covL l ∧ l.length ≤ 9223372036854775807 ∧ ∀ k, k < l.length → (covAt l k).closed.length ≤ 9223372036854775807 := by
  obtain ⟨m, f, h1, h2, h3, h4⟩ := t_slice Try.underlying57 cells_cov (a_slice Try.underlying57 h)
  obtain ⟨l, g1, g2, g3⟩ := sl_list Cov.cells (fun s => s.closed.length ≤ 9223372036854775807 ∧ intOk s.window ∧ intOk s.noise ∧ intOk s.visits) (fun i hi => t_cov (h3 i hi)) (fun i hi => (h4 i hi).trans d_cov)
  refine ⟨l, ?_, by omega, fun k hk => ?_⟩
  · have h1 := List.singleton_inj.1 h1
    rw [h1, g2, ← g1]; rfl
  · have := g3 (covAt l k) (by simp [covAt, hk])
    exact this.1
theorem t_shp {n : Nat} {ps : List PV} (h : Typ Try.prog (n + 2) 93 ps) : ∃ r : Shp, ps = r.cells ∧ intOk r.day := by
  obtain ⟨p0, q0, rfl, h0, p1, q1, rfl, h1, p2, q2, rfl, h2, p3, q3, rfl, h3, p4, q4, rfl, h4, rfl⟩ := t_struct Try.underlying93 h
  obtain ⟨x0, rfl, k0⟩ := t_int h0
  obtain ⟨x1, rfl, k1⟩ := t_int h1
  obtain ⟨x2, rfl, k2⟩ := t_int h2
  obtain ⟨x3, rfl, k3⟩ := t_int h3
  obtain ⟨x4, rfl, k4⟩ := t_int h4
  exact ⟨⟨x0, x1, x2, x3, x4⟩, rfl, k0⟩
theorem d_shp {n : Nat} : tdef Try.prog (n + 2) 93 = (default : Shp).cells := by
  rw [d_struct Try.underlying93]; simp [d_int]; rfl
theorem cells_shp : Try.prog.cellsOf 93 = 5 := by kernel_rfl
theorem t_shps {n : Nat} {ps : List PV} (h : Typ Try.prog (n + 3) 35 ps) : ∃ l : List Shp, ps = [shpL l] ∧ l.length ≤ 9223372036854775807 := by
  obtain ⟨m, f, h1, h2, h3, h4⟩ := t_slice Try.underlying35 cells_shp h
  obtain ⟨l, g1, g2, g3⟩ := sl_list Shp.cells (fun s => intOk s.day) (fun i hi => t_shp (h3 i hi)) (fun i hi => (h4 i hi).trans d_shp)
  refine ⟨l, ?_, by omega⟩
  rw [h1, g2, ← g1]; rfl
theorem t_cache {n : Nat} {ps : List PV} (h : Typ Try.prog (n + 4) 24 ps) : ∃ l : List Brl, ps = [brlL l] ∧ l.length ≤ 9223372036854775807 := by
  obtain ⟨p0, q0, rfl, h0, rfl⟩ := t_struct Try.underlying24 h
  obtain ⟨l, rfl, hl, _⟩ := t_brls h0
  exact ⟨l, rfl, hl⟩
theorem a_cache {n : Nat} {p : PV} (h : ArgP Try.prog (n + 4) 24 p) : ∃ l : List Brl, p = .agg [brlL l] ∧ l.length ≤ 9223372036854775807 := by
  obtain ⟨ps, rfl, g⟩ := a_struct Try.underlying24 h
  obtain ⟨r, rfl, k⟩ := t_cache g
  exact ⟨r, rfl, k⟩
structure SupFit (S : Sup) : Prop where
  l : S.barrels.length ≤ 9223372036854775807
  f : S.burns.length ≤ 9223372036854775807
  s : S.ships.length ≤ 9223372036854775807
theorem a_supply {n : Nat} {p : PV} (h : ArgP Try.prog (n + 5) 37 p) : ∃ S : Sup, p = .agg S.cells ∧ SupFit S := by
  obtain ⟨ps, rfl, g⟩ := a_struct Try.underlying37 h
  obtain ⟨p0, q0, rfl, h0, p1, q1, rfl, h1, p2, q2, rfl, h2, p3, q3, rfl, h3, rfl⟩ := t_struct Try.underlying37 g
  obtain ⟨l, rfl, hl⟩ := t_cache h0
  obtain ⟨b, rfl, hb⟩ := t_burs h1
  obtain ⟨s, rfl, hs⟩ := t_shps h2
  obtain ⟨x, rfl, _⟩ := t_int h3
  exact ⟨⟨l, b, s, x⟩, rfl, ⟨hl, hb, hs⟩⟩
end
theorem ownKnob_ : ownKnob Try.prog.godebug = none := by kernel_rfl
theorem laidOut_ : laidOutB Try.prog = true := by kernel_rfl
end Go.Qg

namespace Go.Qg
open Go.Proofs
set_option maxRecDepth 100000
set_option maxHeartbeats 4000000
attribute [local irreducible] pwp pops pdraw pop popCall pdCall thenP blockP scopeP pspec Spec answers ppost CallW
theorem cin_spec (n lo hi : Int) : Spec Try.prog 64 [.v (.int .i64 n), .v (.int .i64 lo), .v (.int .i64 hi)] (.v (.bool (inB n lo hi))) := by
  refine spec_of mixed Try.func64 (by decide) rfl Try.results64 Try.ntmps64 (by decide) 0 (by simp) ?_
  by_cases h1 : lo ≤ n
  · by_cases h2 : n ≤ hi <;> (simp [h1, h2]; refine answers_of rfl ?_; simp [inB, h1, h2])
  · simp [h1]; refine answers_of rfl ?_; simp [inB, h1]
def spanB (s : Spn) (lo hi : Int) : Bool := decide (lo ≤ s.low) && decide (s.low ≤ s.high) && decide (s.high ≤ hi)
theorem spanB_spec {s : Spn} {lo hi : Int} : spanB s lo hi = true ↔ lo ≤ s.low ∧ s.low ≤ s.high ∧ s.high ≤ hi := by simp [spanB, and_assoc]
theorem cspan_spec (s : Spn) (lo hi : Int) : Spec Try.prog 88 [.agg s.cells, .v (.int .i64 lo), .v (.int .i64 hi)] (.v (.bool (spanB s lo hi))) := by
  refine spec_of mixed Try.func88 (by decide) rfl Try.results88 Try.ntmps88 (by decide) 0 (by simp) ?_
  simp [Spn.cells]
  by_cases h1 : lo ≤ s.low
  · by_cases h2 : s.low ≤ s.high
    · by_cases h3 : s.high ≤ hi <;> (simp [h1, h2, h3]; refine answers_of rfl ?_; simp [spanB, h1, h2, h3])
    · simp [h1, h2, Int.not_le.1 h2]
      refine answers_of rfl ?_; simp [spanB, h1, h2]
  · simp [h1, Int.not_le.1 h1]; refine answers_of rfl ?_; simp [spanB, h1]
def brlB (b : Brl) : Bool := inB b.kilos 1 1000 && inB b.til 0 400
theorem stored1_spec (b : Brl) : Spec Try.prog 96 [.agg b.cells] (.v (.bool (!brlB b))) := by
  refine spec_of mixed Try.func96 (by decide) rfl Try.results96 Try.ntmps96 (by decide) 0 (by simp) ?_
  simp [Brl.cells]
  refine pop_spec (cin_spec b.kilos 1 1000) rfl false (.inl (by simp)) (.inl rfl) rfl (by simp) ?_
  cases h1 : inB b.kilos 1 1000 with
  | false => simp; refine answers_of rfl ?_; simp [brlB, h1]
  | true =>
    simp
    refine pop_spec (cin_spec b.til 0 400) rfl false (.inl (by simp)) (.inl rfl) rfl (by simp) ?_
    simp
    refine answers_of rfl ?_; simp [brlB, h1]
def storedB (l : List Brl) : Bool := decide (l.length ≤ 30) && allN l.length fun k => brlB (brlAt l k)
theorem any_not {n : Nat} {p : Nat → Bool} : anyN n (fun k => !p k) = !allN n p := by
  cases h : allN n p with
  | true => rw [Bool.not_true, anyN_false]; intro k hk; simp [allN_spec.1 h k hk]
  | false =>
    rw [Bool.not_false, anyN_iff]
    cases he : anyN n (fun k => !p k) with
    | true => exact anyN_iff.1 he
    | false =>
      rw [allN_spec.2 fun k hk => by simpa using anyN_false.1 he k hk] at h; cases h
theorem stored_spec (l : List Brl) (hl : l.length ≤ 9223372036854775807) : Spec Try.prog 63 [.agg [brlL l]] (.v (.bool (storedB l))) := by
  refine spec_of mixed Try.func63 (by decide) rfl Try.results63 Try.ntmps63 (by decide) 0 (by simp) ?_
  simp [brlL]
  by_cases h : l.length ≤ 30
  · simp [show (l.length : Int) ≤ 30 from by omega]
    refine pop_spec (anyBrl_spec l hl 96 [] [] rfl rfl _ fun k hk => stored1_spec (brlAt l k)) rfl false (.inl (by simp [brlL])) (.inl rfl) rfl (by simp) ?_
    simp
    refine answers_of rfl ?_; simp [storedB, h, any_not]
  · simp [show ¬ (l.length : Int) ≤ 30 from by omega, show (30 : Int) < l.length from by omega]
    refine answers_of rfl ?_; simp [storedB, h]
theorem stored_ok {l : List Brl} (h : storedB l = true) : l.length ≤ 30 ∧ ∀ b ∈ l, (1 ≤ b.kilos ∧ b.kilos ≤ 1000) ∧ 0 ≤ b.til ∧ b.til ≤ 400 := by
  simp only [storedB, Bool.and_eq_true, decide_eq_true_eq] at h
  refine ⟨h.1, fun b hb => ?_⟩
  obtain ⟨k, hk, rfl⟩ := List.mem_iff_getElem.1 hb
  have := allN_spec.1 h.2 k hk
  rw [show brlAt l k = l[k] from by simp [brlAt, hk]] at this
  simp only [brlB, Bool.and_eq_true, inB_spec] at this
  exact this
theorem Check_spec (l : List Brl) (hl : l.length ≤ 9223372036854775807) : Spec Try.prog 52 [.agg [brlL l]] (.v (.int .i64 (if storedB l = true then 0 else 2))) := by
  refine spec_of mixed Try.func52 (by decide) rfl Try.results52 Try.ntmps52 (by decide) 0 (by simp) ?_
  simp [brlL]
  refine pop_spec (stored_spec l hl) rfl false (.inl (by simp [brlL])) (.inl rfl) rfl (by simp) ?_
  cases h : storedB l with
  | true => simp; refine answers_of rfl ?_; simp
  | false => simp; refine answers_of rfl ?_; simp
def kilTo (l : List Brl) : Nat → Int
  | 0 => 0
  | k + 1 => kilTo l k + (brlAt l k).kilos
theorem kilTo_take (l : List Brl) : ∀ k, k ≤ l.length → kilTo l k = sumK (l.take k)
  | 0, _ => rfl
  | k + 1, hk => by
    rw [kilTo, kilTo_take l k (by omega), List.take_succ_eq_append_getElem (show k < l.length by omega), sumK_append, show l[k] = brlAt l k from by simp [brlAt, show k < l.length from by omega]]
    simp [sumK]
theorem kilTo_all (l : List Brl) : kilTo l l.length = sumK l := by rw [kilTo_take l _ (Nat.le_refl _), List.take_length]
structure KilOk (l : List Brl) : Prop where
  n : l.length ≤ 1000
  each : ∀ b ∈ l, -1000000 ≤ b.kilos ∧ b.kilos ≤ 1000000
theorem kilTo_bound {l : List Brl} (h : KilOk l) : ∀ k, k ≤ l.length → -1000000 * (k : Int) ≤ kilTo l k ∧ kilTo l k ≤ 1000000 * (k : Int)
  | 0, _ => by simp [kilTo]
  | k + 1, hk => by
    have h1 := kilTo_bound h k (by omega)
    have h2 := h.each _ (brlAt_mem (show k < l.length by omega))
    simp only [kilTo]; push_cast; omega
theorem kilos_spec (l : List Brl) (h : KilOk l) : Spec Try.prog 74 [brlL l] (.v (.int .i64 (sumK l))) := by
  have hn := h.n
  refine spec_of mixed Try.func74 (by decide) rfl Try.results74 Try.ntmps74 (by decide) 0 (by simp) ?_
  simp [brlL]
  refine pwp_loop (fun k : Nat => [(3, .v (.int .i64 (kilTo l k))), (8, .v (.int .i64 k))]) (fun k => k ≤ l.length) (fun k => l.length - k) 0 (Nat.zero_le _) (by simp; rfl) (by simp [kilTo]) ?_
  intro k hk
  by_cases hkl : k < l.length
  · have hb := kilTo_bound h (k + 1) (by omega)
    have e1 : kilTo l (k + 1) = kilTo l k + (brlAt l k).kilos := rfl
    rw [e1] at hb
    have w1 : IntKind.i64.wrap (kilTo l k + (brlAt l k).kilos) = kilTo l (k + 1) := by rw [e1]; exact i64_wrap (by omega)
    simp [hkl, Brl.cells, w1]
    refine again_of (k + 1) (by omega) (by omega) ?_
    simp [i64_wrap (show -9223372036854775808 ≤ (k : Int) + 1 ∧ _ from by omega)]
  · obtain rfl : k = l.length := by omega
    rw [kilTo_all]
    simp
    refine answers_of rfl ?_; simp
theorem good1_spec (b : Brl) (day : Int) : Spec Try.prog 120 [.agg b.cells, .rp [.v (.int .i64 day)] 0] (.v (.bool (decide (day ≤ b.til)))) := by
  refine spec_of mixed Try.func120 (by decide) rfl Try.results120 Try.ntmps120 (by decide) 0 (by simp) ?_
  simp [Brl.cells]
  refine answers_of rfl ?_; simp
theorem good_spec (l : List Brl) (day : Int) (hl : l.length ≤ 1000000) : Spec Try.prog 93 [brlL l, .v (.int .i64 day)] (brlL (goodL l day)) := by
  refine spec_of mixed Try.func93 (by decide) rfl Try.results93 Try.ntmps93 (by decide) 0 (by simp) ?_
  simp [brlL]
  refine pop_specF [(3, .undef), (6, .clo (.func 120) [] [.rp [.v (.int .i64 day)] 0])] (by simp) (partBrl_spec l hl 120 [] [.rp [.v (.int .i64 day)] 0] rfl rfl (fun b => decide (day ≤ b.til)) fun k hk => good1_spec (brlAt l k) day) rfl false (.inl (by simp [brlL])) (.inl rfl) rfl (by simp [brlL]) ?_
  simp [brlL]
  refine answers_of rfl ?_; simp [brlL, goodL]
theorem kilOk_good {l : List Brl} (h : KilOk l) (day : Int) : KilOk (goodL l day) := ⟨Nat.le_trans (List.length_filter_le _ _) h.n, fun b hb => h.each b (List.mem_filter.1 hb).1⟩
theorem kilOk_stored {l : List Brl} (h : storedB l = true) : KilOk l := by
  obtain ⟨h1, h2⟩ := stored_ok h
  exact ⟨by omega, fun b hb => by have := h2 b hb; omega⟩
theorem Has_spec (l : List Brl) (day : Int) (hl : l.length ≤ 9223372036854775807) : Spec Try.prog 53 [.agg [brlL l], .v (.int .i64 day)] (.tup [.v (.int .i64 (if (storedB l && inB day 0 400) = true then hasL l day else 0)), .v (.int .i64 (if (storedB l && inB day 0 400) = true then 0 else 2))]) := by
  refine spec_of mixed Try.func53 (by decide) rfl Try.results53 Try.ntmps53 (by decide) 0 (by simp) ?_
  simp [brlL]
  refine pop_spec (stored_spec l hl) rfl false (.inl (by simp [brlL])) (.inl rfl) rfl (by simp) ?_
  cases h : storedB l with
  | false => simp; refine answers_of rfl ?_; simp
  | true =>
    have hk := kilOk_stored h
    have hn := hk.n
    simp
    refine pop_spec (cin_spec day 0 400) rfl false (.inl (by simp)) (.inl rfl) rfl (by simp) ?_
    cases h2 : inB day 0 400 with
    | false => simp; refine answers_of rfl ?_; simp
    | true =>
      simp
      refine pop_spec (good_spec l day (by omega)) rfl false (.inl (by simp [brlL])) (.inl rfl) rfl (by simp [brlL]) ?_
      simp [brlL]
      refine pop_spec (kilos_spec (goodL l day) (kilOk_good hk day)) rfl false (.inl (by simp [brlL])) (.inl rfl) rfl (by simp) ?_
      simp
      refine answers_of rfl ?_; simp [hasL]
theorem Clear_spec (l : List Brl) (day : Int) (hl : l.length ≤ 9223372036854775807) : Spec Try.prog 54 [.agg [brlL l], .v (.int .i64 day)]
    (.tup [.agg [brlL (if (storedB l && inB day 0 400) = true then goodL l day else [])], .v (.int .i64 (if (storedB l && inB day 0 400) = true then sumK l - sumK (goodL l day) else 0)), .v (.int .i64 (if (storedB l && inB day 0 400) = true then 0 else 2))]) := by
  refine spec_of mixed Try.func54 (by decide) rfl Try.results54 Try.ntmps54 (by decide) 0 (by simp) ?_
  simp [brlL]
  refine pop_spec (stored_spec l hl) rfl false (.inl (by simp [brlL])) (.inl rfl) rfl (by simp) ?_
  cases h : storedB l with
  | false => simp; refine answers_of (by simp; rfl) ?_; simp [brlL]
  | true =>
    have hk := kilOk_stored h
    have hn := hk.n
    have hg := kilOk_good hk day
    simp
    refine pop_spec (cin_spec day 0 400) rfl false (.inl (by simp)) (.inl rfl) rfl (by simp) ?_
    cases h2 : inB day 0 400 with
    | false => simp; refine answers_of (by simp; rfl) ?_; simp [brlL]
    | true =>
      have k1 := kilTo_bound hk l.length (Nat.le_refl _)
      have k2 := kilTo_bound hg (goodL l day).length (Nat.le_refl _)
      have hgn := hg.n
      rw [kilTo_all] at k1 k2
      have w1 : IntKind.i64.wrap (sumK l - sumK (goodL l day)) = sumK l - sumK (goodL l day) := i64_wrap (by omega)
      simp
      refine pop_spec (good_spec l day (by omega)) rfl false (.inl (by simp [brlL])) (.inl rfl) rfl (by simp [brlL]) ?_
      simp [brlL]
      refine pop_spec (kilos_spec l hk) rfl false (.inl (by simp [brlL])) (.inl rfl) rfl (by simp) ?_
      simp
      refine pop_spec (kilos_spec (goodL l day) hg) rfl false (.inl (by simp [brlL])) (.inl rfl) rfl (by simp) ?_
      simp [w1]
      refine answers_of (by simp; rfl) ?_; simp [brlL]
end Go.Qg

namespace Go.Qg
open Go.Proofs Go.RowKit Go.Lib
set_option maxRecDepth 100000
set_option linter.unusedSimpArgs false
set_option linter.unusedVariables false
section
variable {P : Program}
theorem run_copy_rows (w : World) (dT sT ty elem : TypeId) (b o dLen dCap : Nat) (a : Addr) (sLen sCap k : Nat) (cs : List Value)
    (hu : P.underlying dT = some (.slice elem)) (hs : ∀ w, (Go.sizeOf elem).run P w = .ok k w) (hn : cs.length = Nat.min sLen dLen * k)
    (hsrc : ∀ j v, cs[j]? = some v → w.cell? (a.add j) = some v) (hc : ∀ j, j < cs.length → (w.cell? ⟨b, o + j, none⟩).isSome = true) (hf : ∀ j, j < cs.length → w.frozen? ⟨b, o + j, none⟩ = false) (h1 : ∀ v ∈ cs, v.oneCell' = true) :
    (Builtin.copy_ #[dT, sT] ty #[.slice (some ⟨b, o, none⟩) dLen dCap, .slice (some a) sLen sCap]).run P w = .ok (goInt (Nat.min sLen dLen)) (w.setCells b o cs) := by
  have hl := run_loadCells_list (P := P) w a cs hsrc
  have hst := run_storeCells_cells (P := P) b o cs 0 w (by simpa using hc) (by simpa using hf) h1
  simp [Builtin.copy_, run_underlying hu, Builtin.lenOf, Builtin.firstCells, hs, ← hn, hl, hst]
theorem wpl_copy (w : World) {ops : Array Oper} {rest : List Oper} {o : Oper} {a : Act} {Q : Exit → Act → World → Prop} (hgd : o.guard = none) (d s : Operand) (t t' : TypeId)
    (ho : o.op = .call { callee := .builtin .copy, args := #[d, s], argTypes := #[t, t'] }) (v u : Value) (hd : a.eval d = v) (hs : a.eval s = u) {v' : Value} {w' : World}
    (hr : (Builtin.copy_ #[t, t'] o.type #[v, u]).run P w = .ok v' w') (h : wpList P ops Q rest (a.put o.dst v') w') : wpList P ops Q (o :: rest) a w :=
  wpList_plain hgd fun _ hK => by
    unfold Oper.wp execOp
    simp only [ho, resolve, invoke, builtin, Sem.run_bind, Sem.run_pure, Result.andThen_ok, List.map_toArray, List.map_cons, List.map_nil, hd, hs, hr]
    exact hK _ _ h
theorem step_copy {ops : Array Oper} {o : Oper} {a : Act} {w : World} {K : Act → World → Prop} {Q : Exit → Act → World → Prop} {E : Prop}
    (hg : o.guard = none) (d x : Operand) (dT sT : TypeId) (hop : o.op = Op.call { callee := Callee.builtin Builtin.copy, args := #[d, x], argTypes := #[dT, sT] })
    (v u : Value) (hd : a.eval d = v) (hx : a.eval x = u) {v' : Value} {w' : World} (hr : (Builtin.copy_ #[dT, sT] o.type #[v, u]).run P w = .ok v' w') (hK : K (a.put o.dst v') w') :
    if Region.wanted o (yielded ops a.tmps) = true then Oper.wp P o a w K Q else E := by
  have hw : Region.wanted o (yielded ops a.tmps) = true := by simp [Region.wanted, hg]
  rw [if_pos hw]
  unfold Oper.wp
  simp [execOp, hop, resolve, invoke, builtin, hd, hx, hr, Result.andThen]
  exact hK
theorem some_setCells (b : Nat) (vs : List Value) (o : Nat) (w : World) (h : ∀ j, j < vs.length → (w.cell? ⟨b, o + j, none⟩).isSome = true) (k : Nat) (hk : (w.cell? ⟨b, k, none⟩).isSome = true) : ((w.setCells b o vs).cell? ⟨b, k, none⟩).isSome = true := by
  by_cases hin : o ≤ k ∧ k < o + vs.length
  · have := World.cell?_setCells_in b vs o w h (k - o) (by omega)
    rw [show o + (k - o) = k by omega] at this
    rw [this]; rfl
  · rw [World.cell?_setCells_out b vs o w ⟨b, k, none⟩ (fun _ _ => by show k < o ∨ o + vs.length ≤ k; omega)]
    exact hk
end
set_option maxHeartbeats 4000000 in
theorem insert_room (b n c i vb vc : Nat) (cs vs : List Value) (w : World) (hi : i < n) (hroom : n + 1 ≤ c) (hc63 : c ≤ 9223372036854775807) (hvb : vb ≠ b)
    (hcl : cs.length = n * 4) (hvl : vs.length = 4)
    (hcs : ∀ j v, cs[j]? = some v → w.cell? ⟨b, j, none⟩ = some v) (hsp : ∀ j, j < (n + 1) * 4 → (w.cell? ⟨b, j, none⟩).isSome = true) (hfz : ∀ j, w.frozen? ⟨b, j, none⟩ = false)
    (hvs : ∀ j v, vs[j]? = some v → w.cell? ⟨vb, j, none⟩ = some v) (h1c : ∀ v ∈ cs, v.oneCell' = true) (h1v : ∀ v ∈ vs, v.oneCell' = true)
    (tA tB : TypeId) (kA kB : Nat) (hsa : w.shape? vb = some (tA, kA)) (hsb : w.shape? b = some (tB, kB)) (hkB : kB ≠ 0) (hfa : w.frozen? ⟨vb, 0, none⟩ = false) (hfe : w.frozen? ⟨vb, kA, none⟩ = false) :
    Calls Try.prog 118 #[.slice (some ⟨b, 0, none⟩) n c, .int .i64 i, .slice (some ⟨vb, 0, none⟩) 1 vc] w fun e w' =>
      e = .returned (.slice (some ⟨b, 0, none⟩) (n + 1) c) ∧ w' = (w.drew.setCells b ((i + 1) * 4) (cs.drop (i * 4))).setCells b (i * 4) vs := by
  have u58 := run_underlying Try.underlying58
  have z74 := Try.sizeOf74
  have hz2 : ¬ ((i : Int) = (n : Int)) := by omega
  have hov : ∀ lb cb, (callFunc 125 #[.slice (some ⟨vb, 0, none⟩) 1 vc, .slice (some ⟨b, (i + 1) * 4, none⟩) lb cb]).run Try.prog w = .ok (.value (.bool false)) w := fun lb cb => by
    rw [run_callFunc_extern Try.func125 (by kernel_rfl) (by kernel_rfl) (by kernel_rfl) (e := Extern.SlicesOverlaps.overlaps #[58, 58] #[4]) (by kernel_rfl),
      Lib.run_overlaps_apart w 58 4 74 Try.underlying58 4 z74 ⟨vb, 0, none⟩ ⟨b, (i + 1) * 4, none⟩ 1 vc lb cb hvb tA tB kA kB hsa hsb hkB hfa hfe]
    rfl
  have hdl : (cs.drop (i * 4)).length = (n - i) * 4 := by rw [List.length_drop, hcl, Nat.sub_mul]
  have mx := mixed
  have hw1 : IntKind.i64.wrap ((i : Int) + 1) = (i : Int) + 1 := by rw [IntKind.wrap_i64]; omega
  have hw2 : IntKind.i64.wrap ((n : Int) + 1) = (n : Int) + 1 := by rw [IntKind.wrap_i64]; omega
  have hb1 : (0 : Int) ≤ (i : Int) + 1 := by omega
  have hin : i ≤ n := by omega
  have htn : ((i : Int) + 1).toNat = i + 1 := by omega
  have hb2 : ¬ (c = i + 1) := by omega
  have hb3 : (i : Int) ≤ (n : Int) + 1 := by omega
  have hb4 : ¬ (c = i) := by omega
  have hcp1 : ∀ ty dc sc, (Builtin.copy_ #[58, 58] ty #[.slice (some ⟨b, (i + 1) * 4, none⟩) (n - i) dc, .slice (some ⟨b, i * 4, none⟩) (n + 1 - i) sc]).run Try.prog w.drew = .ok (goInt (Nat.min (n + 1 - i) (n - i))) (w.drew.setCells b ((i + 1) * 4) (cs.drop (i * 4))) := fun ty dc sc =>
    run_copy_rows w.drew _ _ ty 74 b ((i + 1) * 4) (n - i) dc ⟨b, i * 4, none⟩ (n + 1 - i) sc 4 (cs.drop (i * 4)) Try.underlying58 z74 (by rw [hdl]; congr 1; simp only [Nat.min_def]; split <;> omega)
      (fun j v hj => by rw [Addr.add_lit]; exact hcs (i * 4 + j) v (by rwa [List.getElem?_drop] at hj))
      (fun j hj => hsp _ (by omega)) (fun j hj => hfz _) (fun v hv => h1c v (List.mem_of_mem_drop hv))
  obtain ⟨W1, hW1⟩ : ∃ W1, W1 = w.drew.setCells b ((i + 1) * 4) (cs.drop (i * 4)) := ⟨_, rfl⟩
  have hsp1 : ∀ k, k < (n + 1) * 4 → (W1.cell? ⟨b, k, none⟩).isSome = true := fun k hk => by
    rw [hW1]
    exact some_setCells b (cs.drop (i * 4)) ((i + 1) * 4) w.drew (fun j hj => by rw [hdl] at hj; exact hsp _ (by omega)) _ (hsp k hk)
  have hcp2 : ∀ (W : World), (∀ x, W.cell? x = W1.cell? x) → (∀ x, W.frozen? x = W1.frozen? x) → ∀ ty dc, (Builtin.copy_ #[58, 58] ty #[.slice (some ⟨b, i * 4, none⟩) (n + 1 - i) dc, .slice (some ⟨vb, 0, none⟩) 1 vc]).run Try.prog W = .ok (goInt (Nat.min 1 (n + 1 - i))) (W.setCells b (i * 4) vs) := fun W hWc hWf ty dc =>
    run_copy_rows W _ _ ty 74 b (i * 4) (n + 1 - i) dc ⟨vb, 0, none⟩ 1 vc 4 vs Try.underlying58 z74 (by rw [hvl, show Nat.min 1 (n + 1 - i) = 1 from by simp only [Nat.min_def]; split <;> omega])
      (fun j v hj => by
        rw [Addr.add_lit, hWc, hW1, World.cell?_setCells_out b _ _ _ _ (fun h _ => absurd h hvb), Nat.zero_add]
        exact hvs j v hj)
      (fun j hj => by rw [hWc]; exact hsp1 _ (by omega)) (fun j hj => by rw [hWf, hW1, World.frozen?_setCells]; exact hfz _) h1v
  rw [← hW1] at hcp1
  go_enter Try.func118, Try.ntmps118
  go_wp2_with (simp only [hov])
  go_region_law_o (refine step_copy rfl _ _ 58 58 rfl _ _ (by simp [Act.eval, Act.put]) (by simp [Act.eval, Act.put]) (hcp1 _ _ _) ?_)
  go_wp2_with (at_builtin; refine wpl_copy _ rfl _ _ 58 58 rfl _ _ rfl rfl (hcp2 _ (fun _ => rfl) (fun _ => rfl) _ _) ?_)
  go_ret
  first | exact ⟨rfl, rfl⟩ | exact ⟨rfl, by rw [hW1]⟩
set_option maxHeartbeats 4000000 in
theorem insert_grow (b n c i vb vc : Nat) (cs vs : List Value) (w : World) (hi : i < n) (hnc : n ≤ c) (hroom : c < n + 1) (hbig : (n + 1) * 32 ≤ 140737488355328) (hvb : vb ≠ b)
    (hcl : cs.length = n * 4) (hvl : vs.length = 4)
    (hcs : ∀ j v, cs[j]? = some v → w.cell? ⟨b, j, none⟩ = some v)
    (hvs : ∀ j v, vs[j]? = some v → w.cell? ⟨vb, j, none⟩ = some v) (h1c : ∀ v ∈ cs, v.oneCell' = true) (h1v : ∀ v ∈ vs, v.oneCell' = true) :
    Calls Try.prog 118 #[.slice (some ⟨b, 0, none⟩) n c, .int .i64 i, .slice (some ⟨vb, 0, none⟩) 1 vc] w fun e w' =>
      e = .returned (.slice (some ⟨w.heap.size, 0, none⟩) (n + 1) (grownCap w (n + 1) c 74)) ∧
      w' = (((w.alloc (.cells ((cs.take (i * 4)).toArray ++ Builtin.zeroCells #[.int .i64 0, .int .i64 0, .int .i64 0, .int .i64 0] (n + 1 - i) ++ Builtin.zeroCells #[.int .i64 0, .int .i64 0, .int .i64 0, .int .i64 0] (grownCap w (n + 1) c 74 - (n + 1))) 74)).drew.setCells w.heap.size (i * 4) vs).drew).setCells w.heap.size ((i + 1) * 4) (cs.drop (i * 4)) := by
  have u58 := run_underlying Try.underlying58
  have z74 := Try.sizeOf74
  have mx := mixed
  obtain ⟨i0, hi0, hz0, hzs, hzb⟩ : ∃ i0, Try.prog.info? 74 = some i0 ∧ i0.zero = some (.agg #[.int .i64 0, .int .i64 0, .int .i64 0, .int .i64 0]) ∧ i0.size = 4 ∧ i0.bytes = 32 := ⟨Try.t74, by kernel_rfl, by kernel_rfl, by kernel_rfl, by kernel_rfl⟩
  have hz2 : ¬ ((i : Int) = (n : Int)) := by omega
  have hz3 : (c : Int) < (n : Int) + 1 := by omega
  have hbw : b < w.heap.size := block_lt_of_cell (hcs 0 _ (List.getElem?_eq_getElem (by omega)))
  have hvw : vb < w.heap.size := block_lt_of_cell (hvs 0 _ (List.getElem?_eq_getElem (by omega)))
  have hkk : (n : Int) + 1 - (i : Int) = ((n + 1 - i : Nat) : Int) := by omega
  have hik : i + (n + 1 - i) = n + 1 := by omega
  have hold : (Builtin.firstCells i0.size i (.slice (some ⟨b, 0, none⟩) i c)).run Try.prog w.drew = .ok (cs.take (i * 4)).toArray w.drew := by
    rw [hzs]
    exact run_firstCells_some w.drew 4 i ⟨b, 0, none⟩ i c (cs.take (i * 4)) (by rw [List.length_take]; omega) (fun j v hj => by
      rw [Addr.add_lit, Nat.zero_add]
      rw [List.getElem?_take] at hj
      split at hj
      · exact hcs j v hj
      · cases hj)
  have hrz : ∀ ty, (Builtin.append_ #[58, 3] ty #[.slice (some ⟨b, 0, none⟩) i c, .int .i64 ((n : Int) + 1 - (i : Int))]).run Try.prog w =
      .ok (.slice (some ⟨w.heap.size, 0, none⟩) (n + 1) (grownCap w (n + 1) c 74)) (w.drew.alloc (.cells ((cs.take (i * 4)).toArray ++ Builtin.zeroCells #[.int .i64 0, .int .i64 0, .int .i64 0, .int .i64 0] (n + 1 - i) ++ Builtin.zeroCells #[.int .i64 0, .int .i64 0, .int .i64 0, .int .i64 0] (grownCap w (n + 1) c 74 - (n + 1))) 74)) := fun ty => by
    have h := Lib.run_append_grow_zeros w 58 3 ty 74 i0 _ .i64 .i64 Try.underlying58 Try.underlying3 hi0 hz0 (some ⟨b, 0, none⟩) i c (cs.take (i * 4)) hold (n + 1 - i) (by omega) (by omega) (by omega) (by omega) (by rw [hzb]; omega) (by rw [hzb, hik]; exact growslice_fits hroom hbig)
    rw [hik] at h
    rw [hkk]
    exact h
  obtain ⟨G, hG⟩ : ∃ G, G = grownCap w (n + 1) c 74 := ⟨_, rfl⟩
  obtain ⟨ROW, hROW⟩ : ∃ ROW : Array Value, ROW = (cs.take (i * 4)).toArray ++ Builtin.zeroCells #[.int .i64 0, .int .i64 0, .int .i64 0, .int .i64 0] (n + 1 - i) ++ Builtin.zeroCells #[.int .i64 0, .int .i64 0, .int .i64 0, .int .i64 0] (G - (n + 1)) := ⟨_, rfl⟩
  rw [← hG] at hrz ⊢
  rw [← hROW] at hrz ⊢
  have hRl : (n + 1) * 4 ≤ ROW.size := by
    rw [hROW]
    simp [Builtin.zeroCells]
    omega
  obtain ⟨W1, hW1⟩ : ∃ W1, W1 = w.drew.alloc (.cells ROW 74) := ⟨_, rfl⟩
  rw [← hW1] at hrz
  have hN : ∀ j, j < (n + 1) * 4 → (W1.cell? ⟨w.heap.size, j, none⟩).isSome = true := fun j hj => by
    rw [hW1, World.cell?_alloc_at (w := w.drew) ROW _ w.heap.size j rfl, Array.getElem?_eq_getElem (by omega)]; rfl
  have hNf : ∀ j, W1.frozen? ⟨w.heap.size, j, none⟩ = false := fun j => by rw [hW1]; exact World.frozen?_alloc_at (w := w.drew) ROW _ w.heap.size j rfl
  have hOb : ∀ j v, w.cell? ⟨b, j, none⟩ = some v → W1.cell? ⟨b, j, none⟩ = some v := fun j v h => by rw [hW1, World.cell?_alloc_past (w := w.drew) _ b j hbw]; exact h
  have hOv : ∀ j v, w.cell? ⟨vb, j, none⟩ = some v → W1.cell? ⟨vb, j, none⟩ = some v := fun j v h => by rw [hW1, World.cell?_alloc_past (w := w.drew) _ vb j hvw]; exact h
  have hcpA : ∀ (W : World), (∀ x, W.cell? x = W1.cell? x) → (∀ x, W.frozen? x = W1.frozen? x) → ∀ ty dc, (Builtin.copy_ #[58, 58] ty #[.slice (some ⟨w.heap.size, i * 4, none⟩) (n + 1 - i) dc, .slice (some ⟨vb, 0, none⟩) 1 vc]).run Try.prog W = .ok (goInt (Nat.min 1 (n + 1 - i))) (W.setCells w.heap.size (i * 4) vs) := fun W hWc hWf ty dc =>
    run_copy_rows W _ _ ty 74 w.heap.size (i * 4) (n + 1 - i) dc ⟨vb, 0, none⟩ 1 vc 4 vs Try.underlying58 z74 (by rw [hvl, show Nat.min 1 (n + 1 - i) = 1 from by simp only [Nat.min_def]; split <;> omega])
      (fun j v hj => by rw [Addr.add_lit, hWc, Nat.zero_add]; exact hOv _ v (hvs j v hj))
      (fun j hj => by rw [hWc]; exact hN _ (by omega)) (fun j hj => by rw [hWf]; exact hNf _) h1v
  have hGn : n + 1 ≤ G := by rw [hG]; exact grownCap_ge w _ _ _
  have hG63 : G ≤ 9223372036854775807 := by
    have := grownCap_le_maxLen w (n + 1) c 74 (by unfold maxLen; omega)
    rw [← hG] at this
    unfold maxLen at this
    omega
  have hGi : ¬ (G = i) := by omega
  have hGim : ¬ (G = i + 1) := by omega
  have hci : ¬ (c = i) := by omega
  have hbN : b ≠ w.heap.size := by omega
  have hdl : (cs.drop (i * 4)).length = (n - i) * 4 := by rw [List.length_drop, hcl, Nat.sub_mul]
  have hcpB : ∀ (W : World), (∀ x, W.cell? x = (W1.setCells w.heap.size (i * 4) vs).cell? x) → (∀ x, W.frozen? x = (W1.setCells w.heap.size (i * 4) vs).frozen? x) → ∀ ty dc sc, (Builtin.copy_ #[58, 58] ty #[.slice (some ⟨w.heap.size, (i + 1) * 4, none⟩) (n - i) dc, .slice (some ⟨b, i * 4, none⟩) (n - i) sc]).run Try.prog W = .ok (goInt (Nat.min (n - i) (n - i))) (W.setCells w.heap.size ((i + 1) * 4) (cs.drop (i * 4))) := fun W hWc hWf ty dc sc =>
    run_copy_rows W _ _ ty 74 w.heap.size ((i + 1) * 4) (n - i) dc ⟨b, i * 4, none⟩ (n - i) sc 4 (cs.drop (i * 4)) Try.underlying58 z74 (by rw [hdl]; simp only [Nat.min_def]; split <;> omega)
      (fun j v hj => by
        rw [Addr.add_lit, hWc, World.cell?_setCells_out _ _ _ _ _ (fun h _ => absurd h hbN)]
        exact hOb _ v (hcs (i * 4 + j) v (by rwa [List.getElem?_drop] at hj)))
      (fun j hj => by rw [hWc]; exact some_setCells _ _ _ _ (fun t ht => hN _ (by omega)) _ (hN _ (by omega)))
      (fun j hj => by rw [hWf, World.frozen?_setCells]; exact hNf _) (fun v hv => h1c v (List.mem_of_mem_drop hv))
  subst hW1
  have hE1 : ∀ x, ((w.alloc (.cells ROW 74)).drew).cell? x = (w.drew.alloc (.cells ROW 74)).cell? x := fun x => rfl
  have hE2 : ∀ x, ((w.alloc (.cells ROW 74)).drew).frozen? x = (w.drew.alloc (.cells ROW 74)).frozen? x := fun x => rfl
  have hF1 : ∀ x, (((w.alloc (.cells ROW 74)).drew.setCells w.heap.size (i * 4) vs).drew).cell? x = ((w.drew.alloc (.cells ROW 74)).setCells w.heap.size (i * 4) vs).cell? x := fun x => rfl
  have hF2 : ∀ x, (((w.alloc (.cells ROW 74)).drew.setCells w.heap.size (i * 4) vs).drew).frozen? x = ((w.drew.alloc (.cells ROW 74)).setCells w.heap.size (i * 4) vs).frozen? x := fun x => rfl
  have hw1 : IntKind.i64.wrap ((i : Int) + 1) = (i : Int) + 1 := by rw [IntKind.wrap_i64]; omega
  have hw2 : IntKind.i64.wrap ((n : Int) + 1) = (n : Int) + 1 := by rw [IntKind.wrap_i64]; omega
  have hw3 : IntKind.i64.wrap ((n : Int) + 1 - i) = (n : Int) + 1 - i := by rw [IntKind.wrap_i64]; omega
  have hb1 : (0 : Int) ≤ (i : Int) + 1 := by omega
  have hin : i ≤ n := by omega
  have htn : ((i : Int) + 1).toNat = i + 1 := by omega
  have hb3 : (i : Int) ≤ (n : Int) := by omega
  clear hkk hik hold hROW hG hRl
  go_enter Try.func118, Try.ntmps118
  go_wp2_with (first
    | (at_builtin; refine Lib.wpList_append_run _ rfl _ _ _ _ rfl _ _ rfl rfl _ _ (hrz _) ?_)
    | (at_builtin; refine wpl_copy _ rfl _ _ 58 58 rfl _ _ rfl rfl (hcpA _ hE1 hE2 _ _) ?_)
    | (at_builtin; refine wpl_copy _ rfl _ _ 58 58 rfl _ _ rfl rfl (hcpB _ (fun _ => rfl) (fun _ => rfl) _ _ _) ?_))
  go_region_law_o (refine step_copy rfl _ _ 58 58 rfl (.slice (some ⟨w.heap.size, (i + 1) * 4, none⟩) (n - i) (G - (i + 1))) (.slice (some ⟨b, i * 4, none⟩) (n - i) (c - i)) (by simp [Act.eval, Act.put]) (by simp [Act.eval, Act.put]) (hcpB _ hF1 hF2 3 (G - (i + 1)) (c - i)) ?_)
  go_wp2
  go_ret
  exact ⟨rfl, rfl⟩
end Go.Qg

namespace Go.Qg
open Go.RowKit (Below)
inductive Splits : Code → Code → Code → Prop
  | one (a b : Code) : Splits (.seq a b) a b
  | more (a : Code) {b b0 b1 : Code} : Splits b b0 b1 → Splits (.seq a b) (.seq a b0) b1
section
variable {P : Program} {N M : Nat} {B : Base} {ro : Option Nat}
theorem wr_split (hm : P.follows .mixedOrders = true) (hM : B.lo = M) {K : PF → Prop} {Qw : Exit → Act → World → Prop} {c c0 c1 : Code} (hs : Splits c c0 c1) : ∀ {fr : PF} {a : Act} {w : World}, dstsIn N c0 = true → SimE N B a w fr → pwp P M c0 (thenP K fun _ _ => False) fr →
    (∀ e a w, Up N B (thenP K fun _ _ => False) e a w → Exit.then (wr P ro c1 Qw) Qw e a w) → wr P ro c Qw a w := by
  induction hs with
  | one x y => intro fr a w hd h hp hk; exact wr_seq (wr_mono (pwp_sound hm hM x _ fr a w hd h hp) hk)
  | more x hs ih =>
    intro fr a w hd h hp hk
    simp only [dstsIn, Bool.and_eq_true] at hd
    refine wr_seq (wr_mono (pwp_sound hm hM x _ fr a w hd.1 h hp) fun e a0 w0 ⟨R0, Γ0, fr0, x0, hs0, hu0, hq0⟩ => ?_)
    cases x0 with
    | normal => cases e with
      | normal => exact ih hd.2 ⟨R0, Γ0, hs0⟩ hq0 hk
      | _ => exact hu0.elim
    | _ => exact hq0.elim
end
section
variable {P : Program} {N M M' : Nat} {B B0 B2 : Base} {a a' : Act} {w w' : World} {els : List PV}
theorem gen_of1S (hm : P.follows .mixedOrders = true) {f : FuncId} {fn : Func} {c c0 c1 : Code} (hf : P.funcs[f]? = some fn) (hname : (fn.name == "runtime.NumGoroutine") = false) (hb : fn.body = some c) (hsp : Splits c c0 c1) (hrs : fn.results = #[]) (hn : fn.ntmps = N) (hd0 : dstsIn N c0 = true) {first caps : List PV} (S : Nat) (hargs : first.length + (caps.length + 1) ≤ N)
    (h : ∀ (l : Nat) (Rb : Nat → Prop) (J : GS → (Nat → Prop) → World → Prop), Env P l els Rb J → pwp P (N + S) c0 (thenP (fun fr => ∃ g : PF, less (N + S) fr g ∧ (g.all fun p => p.plain && p.flat) = true ∧
      XW P N (GCtx (N + S) Rb J) (.on 0) c1 (fun s x _ => (x = .normal ∨ x = .ret) ∧ (s = .on els.length ∨ s = .off) ∨ ∃ p, s = .pan p ∧ x = .panic p) g) (fun _ _ => False)) (frame0 (N + S) (first ++ (.clo (.yield l) [] [] :: caps)) [])) : GenW1 P f first caps els := by
  subst hn
  refine ⟨fun vs w => ?_, fun w us vs R Rb l J F0 hR hRb henv hJ hlu hl hrepu hrep => ?_⟩
  · simp only [callFunc, Sem.run_bind, run_program, Result.andThen_ok, hf, hname, hb]
    rfl
  · have h0 : Sim 0 ⟨fun b => F0 b ∨ Rb b ∨ ∃ o, R b o, w, R, fun _ => none, 0, []⟩ R (fun _ => none) noAct w [] :=
      ⟨rfl, Nat.zero_le _, fun t p hp => (by simp at hp), fun i j l m b hi => (by cases hi), fun i l hi => (by cases hi), hR, fun b o hb => .inl hb, Kept.refl _ _, fun b hb => hb.elim (henv.bnd _ _ _ _ hJ) fun h => h.elim (hRb b) fun ⟨o, h⟩ => hR b o h, Nat.le_refl _, fun j l _ hl => (by cases hl), rfl⟩
    have hsim := h0.enter (N := fn.ntmps) (M := fn.ntmps + S) (vs := us ++ (.func (.yield l) #[] #[] :: vs)) (args := first ++ (.clo (.yield l) [] [] :: caps)) (by simp [hl, hlu]) (fun i u p hu hp => by
      by_cases hi : i < us.length
      · rw [List.getElem?_append_left hi] at hu
        rw [List.getElem?_append_left (by omega)] at hp
        exact hrepu i u p hu hp
      · rw [List.getElem?_append_right (by omega)] at hu
        rw [List.getElem?_append_right (by omega), ← hlu] at hp
        generalize i - us.length = i at hu hp
        cases i with
        | zero =>
          simp only [List.getElem?_cons_zero, Option.some.injEq] at hu hp
          subst hu hp
          exact .clo _ [] [] [] [] rfl rfl (fun i u p hi => by simp at hi) (fun i u p hi => by simp at hi)
        | succ i => exact hrep i u p (by simpa using hu) (by simpa using hp)) (by simpa using hargs) (Nat.le_add_right _ _)
    have ea : (us.toArray ++ #[Value.func (.yield l) #[] #[]] ++ vs.toArray) = (us ++ (Value.func (.yield l) #[] #[] :: vs)).toArray := by simp
    rw [ea]
    refine calls_of_wr hf hb (wr_split (ro := none) hm rfl hsp hd0 hsim.toE (h l Rb J henv) fun e0 a0 w0 ⟨R0, Γ0, fr0, x0, hs0, hu0, hq0⟩ => ?_)
    cases x0 with
    | normal =>
      cases e0 with
      | normal =>
        obtain ⟨g, hless, hdry, hx⟩ := hq0
        have hs1 := weak_R hs0 hless
        have hs2 : Sim fn.ntmps ⟨fun b => F0 b ∨ Rb b, w, fun _ _ => False, fun _ => none, fn.ntmps + S, []⟩ (fun _ _ => False) (fun _ => none) a0 w0 g := hs1.dry hdry (fun b hb => hb.imp_right .inl) rfl rfl rfl (fun _ => rfl)
        refine wr_mono (hx ⟨fun b => F0 b ∨ Rb b, w, fun _ _ => False, fun _ => none, fn.ntmps + S, []⟩ a0 w0 ⟨rfl, rfl, F0, hJ, fun b hb => .inl hb, fun b hb => .inr hb, fun b o hb => hb.elim⟩ hs2.toE) fun e a w' ⟨s, B, ⟨hlo, hD, F, hJ', hF, _, _⟩, R', Γ', fr, x, hs, hu, hx⟩ => ?_
        have hJ2 : J s F w' := henv.stab _ _ _ _ hJ' (fun b hb => hs.kept.block b (hF b hb)) hs.kept.size hs.kept.os hs.kept.tape hs.kept.output
        rcases hx with ⟨hx, hs'⟩ | ⟨p, rfl, rfl⟩
        · have fin : LeavesC P fn a.tmps (genPost els J) a.defers .returning w' := by
            rw [hs.defers, hD]
            refine ⟨.tuple #[], ?_, s, F, hs', hJ2⟩
            simp [results, hrs]
          rcases hx with rfl | rfl
          · cases e with
            | normal => exact fin
            | _ => exact hu.elim
          · cases e with
            | ret => exact fin
            | _ => exact hu.elim
        · cases e with
          | panic ch =>
            obtain ⟨v, rfl, hr⟩ := hu
            obtain ⟨p1, p2⟩ := henv.pan p F w' hJ2
            show LeavesC P fn a.tmps (genPost els J) a.defers _ w'
            rw [hs.defers, hD]
            exact ⟨v, p, F, rfl, plain_rep hr p1 p2, hJ2⟩
          | _ => exact hu.elim
      | _ => exact hu0.elim
    | _ => exact hq0.elim
end
section
variable {P : Program} {N M M' : Nat} {B : Base} {a a' : Act} {w w' : World} {R : Nat → Nat → Prop} {Γ : Nat → Option Loc} {fr : PF}
theorem callW_ofDES (hm : P.follows .mixedOrders = true) {f : FuncId} {fn : Func} {id : Nat} {o1 o2 : Oper} {c c0 c2 : Code} {x : Operand} {ats : Array TypeId} (hf : P.funcs[f]? = some fn) (hname : (fn.name == "runtime.NumGoroutine") = false) (hb : fn.body = some c) (hsp : Splits c c0 (.seq (.region id #[o1, o2] false) c2))
    (ho : o2.op = .defer { callee := .value x, args := #[], argTypes := ats }) (hg : o2.guard = none) (hdst : o2.dst = none) {rs : List ResultVar} (hrs : fn.results.toList = rs) (hn : fn.ntmps = N) (hd0 : dstsIn N c0 = true) (hd1 : ∀ d, o1.dst = some d → d < N) (hd2 : dstsIn N c2 = true) {args : List PV} {H : PF} {Q : Out → Prop}
    (M : Nat) (hargs : args.length ≤ N) (hM : N ≤ M) (h : pwp P M c0 (thenP (pops P M [o1, o2] (dmidE P N M H.length rs c2 x Q) (fun _ _ => False) [o1]) (fun _ _ => False)) (frame0 M args H)) : CallW P f args H Q := by
  subst hrs hn
  refine ⟨fun vs w => ?_, fun w vs R Γ Prot hRp h0 hl hrep => ?_⟩
  · simp only [callFunc, Sem.run_bind, run_program, Result.andThen_ok, hf, hname, hb]
    rfl
  · have hsim := h0.enter hl hrep hargs hM
    refine calls_of_wr hf hb (wr_split (ro := none) hm rfl hsp hd0 hsim.toE h fun e a0 w0 ⟨R0, Γ0, fr0, x0, hs0, hu0, hq0⟩ => ?_)
    cases x0 with
    | normal =>
      cases e with
      | normal =>
        refine wr_seq (wr_region ?_)
        have hr1 : List.range (#[o1, o2] : Array Oper).size = [0, 1] := rfl
        rw [hr1]
        have hN : ∀ o ∈ [o1, o2], ∀ d, o.dst = some d → d < fn.ntmps := fun o ho d hd => by
          rcases List.mem_cons.1 ho with rfl | ho
          · exact hd1 d hd
          · obtain rfl := List.mem_singleton.1 ho
            rw [hdst] at hd; cases hd
        refine op_sound (all := [o1, o2]) (K := pops P M [o1, o2] (dmidE P fn.ntmps M H.length fn.results.toList c2 x Q) (fun _ _ => False) []) (Kp := fun _ _ => False) hs0.toE rfl hN rfl (fun _ _ _ _ _ _ _ _ _ hk => hk.elim) (fun _ _ hq => hq.elim) (k := 0) (o := o1) rfl hq0 (K' := fun a' w' => ∃ fr', SimE fn.ntmps (base0 Prot w R Γ M) a' w' fr' ∧ dmidE P fn.ntmps M H.length fn.results.toList c2 x Q fr') (fun a' w' fr' h1 h2 => ⟨fr', h1, h2⟩) [1] fun a1 w1 hq1 => ?_
        obtain ⟨fr1, ⟨R1, Γ1, hs1⟩, gf, ps, caps, M', news, Ho, A, hx, hM', hκ, hA, hout, hAv, hcaps, hflat, hrest⟩ := hq1
        have hgn : ∀ s ∈ (List.range H.length).map (M + ·) ++ news, (fun _ : Nat => false) s = false := fun _ _ => rfl
        generalize hκe : (List.range H.length).map (M + ·) ++ news = κ at hκ hout hAv hcaps hgn
        have hv := hs1.rd x
        rw [hx] at hv
        generalize hux : a1.eval x = ux at hv
        cases hv with
        | clo _ uf uc _ _ l1 l2 _ r2 =>
        obtain rfl : uf = [] := by simpa using l1
        have hex : (execOp a1.eval o2).run P w1 = .ok (.defer { target := .fn (.func gf) uc.toArray, args := #[] }) w1 := by
          simp only [execOp, ho, resolve, Deferred.ofValue, hux]
          simp [go_sem]
        refine OpR_wp (K := fun a' w' => a' = { a1 with defers := [{ target := .fn (.func gf) uc.toArray, args := #[] }] } ∧ w' = w1) (ops := #[o1, o2]) (o := o2) rfl (by simp [Region.wanted, hg]) (.inl rfl) (fun _ _ hq => hq.elim) ?_ [] fun a' w' ⟨ha', hw'⟩ => RegR_nil ?_
        · unfold Oper.wp
          rw [hex, Oper.upon_defer]
          refine ⟨?_, rfl⟩
          rw [hdst, hs1.defers]
          rfl
        · subst ha' hw'
          obtain ⟨hlend, hRp1⟩ := hs1.lend hout hκ hgn
          obtain ⟨_, hview⟩ := hs1.leave hout hκ hgn
          have hR1 : ∀ b o, freedAt R1 Γ1 (fun _ => false) b o → R1 b o := fun b o hb => by
            rcases hb with hb | ⟨s, m, hg, _⟩
            · exact hb
            · cases hg
          have hent := hlend.enter (N := fn.ntmps) (M := M') (vs := a1.tmps.toList) (args := A) (by simp [hA, hs1.size]) (fun i u q hu hq => by
            have hlt := lt_of_get? hq
            rw [hA] at hlt
            have hqA : A.getD i .undef = q := by simp [List.getD, hq]
            have h1 := hAv i hlt
            rw [hqA] at h1
            refine hview q _ u h1 ?_
            have h2 := hs1.rd (.tmp i)
            rw [Array.getElem?_toList] at hu
            have : a1.eval (.tmp i) = u := by simp [Act.eval, hu]
            rwa [this] at h2) (by simp [hA]) hM'
          have hact : ({ tmps := a1.tmps.toList.toArray ++ Array.replicate (fn.ntmps - a1.tmps.toList.toArray.size) undef, defers := [] } : Act) = { tmps := a1.tmps, defers := [] } := by
            have e1 : a1.tmps.toList.toArray = a1.tmps := Array.toArray_toList
            rw [e1, hs1.size]
            simp
          rw [hact] at hent
          have hs2 : Sim fn.ntmps ⟨Prot, w, R, fun i => if M' ≤ i then Γout Γ1 Ho κ (i - M') else none, M', [{ target := .fn (.func gf) uc.toArray, args := #[] }]⟩ (freedAt R1 Γ1 fun _ => false) (fun i => if M' ≤ i then Γout Γ1 Ho κ (i - M') else none) { a1 with defers := [{ target := .fn (.func gf) uc.toArray, args := #[] }] } w' (frame0 M' A Ho) := by
            refine hent.moved (fun b o _ => rfl) (fun i l b hi hb => rfl) (Nat.le_refl _) (fun i l b hi hb hp => ?_) (fun b o hb => ?_) hs1.kept hs1.prot hM' (fun j l hj hl => ⟨l, hl, Loc.le_refl l⟩) rfl rfl
            · skip
              split at hi
              · obtain ⟨s, m, _, hm', hmb⟩ := Γout_blk hi hb
                exact ((hs1.own s m hm').2 b hmb).1 hp
              · cases hi
            · exact hs1.sub b o (hR1 b o hb)
          generalize hB1 : (⟨Prot, w, R, fun i => if M' ≤ i then Γout Γ1 Ho κ (i - M') else none, M', [{ target := .fn (.func gf) uc.toArray, args := #[] }]⟩ : Base) = B1 at hs2
          have hB1D : B1.D = [{ target := .fn (.func gf) uc.toArray, args := #[] }] := by rw [← hB1]
          have hC : ECtx B1 () ⟨Prot, w, R, fun i => if M' ≤ i then Γout Γ1 Ho κ (i - M') else none, M', [{ target := .fn (.func gf) uc.toArray, args := #[] }]⟩ := by
            subst hB1
            exact ⟨rfl, fun _ x => x, Kept.refl _ _, fun b o hb => .inl hb, rfl, [], List.nodup_nil, rfl, fun r hr => by cases hr⟩
          have hprot : ∀ b, B1.Prot b → b < B1.w0.heap.size := by subst hB1; exact h0.prot
          rw [hB1] at hC
          refine wr_mono (hrest B1 (by rw [← hB1]) B1 _ w' hC hs2.toE) fun e a2 w2 ⟨_, B', hC', R2, Γ2, g, x2, hs30, hu, hq⟩ => ?_
          have hs3 := hs30.ofE hC' hprot
          obtain ⟨_, _, _, _, _, ms, hms, hD', hmk⟩ := hC'
          rw [hB1D] at hD'
          have hΓ1 : ∀ j l, Γout Γ1 Ho κ j = some l → B1.Γ0 (M' + j) = some l := fun j l hl => by
            rw [← hB1]; dsimp only; rw [if_pos (by omega), Nat.add_sub_cancel_left]; exact hl
          have hlo1 : B1.lo = M' := by rw [← hB1]
          have hbase : ∀ {w2 : World}, Sim fn.ntmps { B1 with D := B'.D } R2 Γ2 a2 w2 g → ∀ j l, B1.Γ0 (M' + j) = some l → ∃ l', Γ2 (M' + j) = some l' ∧ Loc.le l l' := fun hs j l hl => hs.base (M' + j) l (by rw [show ({ B1 with D := B'.D } : Base).lo = M' from hlo1]; omega) hl
          have hcap : ∀ (w2 : World), Sim fn.ntmps { B1 with D := B'.D } R2 Γ2 a2 w2 g → ∀ (i : Nat) (u : Value) (q : PV), uc[i]? = some u → (renL (M' + ·) caps)[i]? = some q → Rep w2 R2 Γ2 u q := fun w2 hs3 i u q hu hq => by
            rw [renL_get] at hq
            simp only [Option.map_eq_some_iff] at hq
            obtain ⟨q0, hq0, rfl⟩ := hq
            obtain ⟨p0, hp0, hv0⟩ := vwAll_get hcaps i q0 hq0
            refine (hview q0 p0 u hv0 (r2 i u p0 hu hp0)).ren (.inl (hflat q0 (List.mem_of_getElem? hq0))) fun j _ l hl => ?_
            exact hbase hs3 j l (hΓ1 j l hl)
          have hlc : uc.length = (renL (M' + ·) caps).length := by rw [renL_length, vwAll_length hcaps]; exact l2
          have fin : ∀ (rv : Option Value) (rc : Option PV), (match rv, rc with | none, none => True | some v, some p => p.plain = true ∧ p.flat = true ∧ Rep w2 R2 Γ2 v p | _, _ => False) → dend P M' H.length fn.results.toList gf caps Q rc g → LeavesC P fn a2.tmps (Left Prot w R Γ Q) a2.defers (modeOf rv) w2 := by
            rintro rv rc hrv0 ⟨ιd, Hd, capsd, hιd, houtd, hcapsd, hdw, hdc⟩
            have hrv : ∀ w2 : World, match rv, rc with | none, none => True | some v, some p => p.plain = true ∧ p.flat = true ∧ Rep w2 R2 Γ2 v p | _, _ => False := fun w' => by
              cases rv with
              | none => cases rc with
                | none => trivial
                | some p => exact hrv0.elim
              | some v => cases rc with
                | none => exact hrv0.elim
                | some p => exact ⟨hrv0.1, hrv0.2.1, plain_rep hrv0.2.2 hrv0.1 hrv0.2.1 _ _ _⟩
            rw [hs30.defers, hD']
            refine marks_leave (by cases rv <;> simp [modeOf]) ms w2 { B1 with D := B'.D } hms (fun r hr => ?_) hs3 fun w2 hs3 => ?_
            · obtain ⟨h1, h2, h3⟩ := hmk r hr
              exact ⟨h2, (hs30.kept.block r h1).trans h3⟩
            have hrv := hrv w2
            have hcap := hcap w2 hs3
            have hgd : ∀ s ∈ ιd, (fun _ : Nat => false) s = false := fun _ _ => rfl
            obtain ⟨hlend3, hRp3⟩ := hs3.lend houtd hιd hgd
            obtain ⟨_, hview3⟩ := hs3.leave houtd hιd hgd
            refine ⟨by cases rv <;> simp [modeOf], .inr ⟨.func gf, uc.toArray, gf, uc.toArray, rfl, ?_, ?_⟩⟩
            · simp [invoke, go_sem, hdw]
            · refine (hdc w2 uc _ _ _ rv hRp3 hlend3 ?_ (fun i u q hu hq => ?_) ?_).mono ?_
              · rw [hlc, vwAll_length hcapsd]
              · obtain ⟨p, hp, hv⟩ := vwAll_get hcapsd i q hq
                exact hview3 q p u hv (hcap i u p hu hp)
              · cases rv with
                | none => cases rc with
                  | none => trivial
                  | some p => exact hrv.elim
                | some v => cases rc with
                  | none => exact hrv.elim
                  | some p =>
                    obtain ⟨hp1, hp2, hr⟩ := hrv
                    have := Rep.ren (π := fun i => i) (R' := freedAt R2 Γ2 fun _ => false) (w' := w2) (Γ' := Γout Γ2 Hd ιd) hr (.inl hp2) (fun j hj => by rw [plain_names hp1] at hj; cases hj)
                    rwa [ren_plain hp1] at this
              · rintro e u' w3 ⟨⟨v, rfl⟩, rfl, R3, Γ3, H3, ⟨hl3, xr, r, H2, news2, hpr, hlv, hQ⟩, hs4, hobj⟩
                have hset : settle (modeRec rv) = .returning := by cases rv <;> rfl
                show LeavesC P fn a2.tmps _ [] (settle (modeRec rv)) w3
                rw [hset]
                obtain ⟨hm1, _⟩ := hs3.merge (news := []) houtd hs4 (by simpa using hιd) (by simpa using hl3) (fun s hs => by cases hs) (.inl fun _ => rfl) hobj
                have eback : placeAll ((ιd ++ []).getD · 0) (ιd ++ []) H3 g = back g ιd H3 := by simp only [List.append_nil]; rfl
                rw [eback] at hm1
                obtain ⟨v, hv, hrv⟩ := presults_sound (P := P) hm1 fn hpr
                refine ⟨v, hv, ?_⟩
                obtain ⟨hn2, hout2, hv2⟩ := hlv
                obtain ⟨h1, h2⟩ := hm1.leave hout2 hn2 (fun s hs => by have := List.contains_iff_mem.2 hs; show (!_) = false; rw [this]; rfl)
                subst hB1
                refine ⟨_, _, .inl ⟨v, r, H2, rfl, hQ, h2 r xr v hv2 hrv, h1.rebase fun j l hjl => ?_, fun q hq => ?_⟩⟩
                · obtain ⟨⟨p, hp, _⟩, _⟩ := h0.own j l hjl
                  have hj := lt_of_get? hp
                  have hb : (base0 Prot w R Γ M).Γ0 (M + j) = some l := by
                    simp only [base0]
                    rw [if_pos (by omega), Nat.add_sub_cancel_left]; exact hjl
                  obtain ⟨l1, e1, e2⟩ := hs1.base (M + j) l (Nat.le_add_right _ _) hb
                  have hκ1 : κ[j]? = some (M + j) := by
                    rw [← hκe, List.getElem?_append_left (by simpa using hj)]; exact range_get M hj
                  obtain ⟨l2, e3, e4⟩ := Γout_le hs1 hout hκ1 e1
                  obtain ⟨l3, e5, e6⟩ := hm1.base (M' + j) l2 (Nat.le_add_right _ _) (hΓ1 j l2 e3)
                  have hκ2 : ((List.range H.length).map (M' + ·) ++ news2)[j]? = some (M' + j) := by
                    rw [List.getElem?_append_left (by simpa using hj)]; exact range_get M' hj
                  obtain ⟨l4, e7, e8⟩ := Γout_le hm1 hout2 hκ2 e5
                  exact ⟨l4, e7, Loc.le_trans e2 (Loc.le_trans e4 (Loc.le_trans e6 e8))⟩
                · obtain ⟨i, hi⟩ := List.mem_iff_getElem?.1 hq
                  obtain ⟨s, p, _, _, hbare, _⟩ := outF_get hout2 i q hi
                  cases q <;> first | rfl | cases hbare
          cases e with
          | ret => cases x2 with
            | ret => exact fin none none trivial hq
            | _ => exact hu.elim
          | normal => cases x2 with
            | normal => exact fin none none trivial hq
            | _ => exact hu.elim
          | panic ch => cases x2 with
            | panic p =>
              obtain ⟨v, rfl, hrv⟩ := hu
              obtain ⟨hp1, hp2, hq⟩ := hq
              exact fin (some v) (some p) ⟨hp1, hp2, hrv⟩ hq
            | _ => exact hu.elim
          | exit id => cases x2 with
            | exit id' => exact hq.elim
            | _ => exact hu.elim
          | goto id => cases x2 with
            | goto id' => exact hq.elim
            | _ => exact hu.elim
          | outgrown => cases x2 <;> exact hu.elim
      | _ => exact hu0.elim
    | _ => exact hq0.elim
end
section
variable {P : Program} {N M l : Nat} {els : List PV} {Rb : Nat → Prop} {J : GS → (Nat → Prop) → World → Prop} {Q : GS → PX → PF → Prop} {s : GS} {fr : PF}
theorem XW_yieldS (henv : Env P l els Rb J) {id : Nat} {ops : Array Oper} (hd : dstsIn N (.region id ops false) = true) {m : Nat} (hm : m < ops.toList.length) (hp : pops P M ops.toList (pyield P M ops.toList m l els Q s) (fun p => Q s (.panic p)) (ops.toList.take m) fr) :
    XW P N (GCtx M Rb J) s (.region id ops false) Q fr := fun B a w hC hs => by
  have hN := dsts_mem hd
  have hnd : ∀ {s' : GS} {B' : Base}, GCtx M Rb J s' B' → PanUp N B' (UpX N (GCtx M Rb J) Q) (fun p => Q s' (.panic p)) := fun {s' B'} hC' R Γ a w fr v p hs hr hk => ⟨s', B', hC', pan_up R Γ a w fr v p hs hr hk⟩
  have hnq : ∀ {s' : GS} {B' : Base}, GCtx M Rb J s' B' → ∀ a w fr, SimE N B' a w fr → Q s' .normal fr → UpX N (GCtx M Rb J) Q .normal a w := fun {s' B'} hC' a w fr ⟨R, Γ, hs⟩ hk => ⟨s', B', hC', R, Γ, fr, .normal, hs, trivial, hk⟩
  refine wr_region ?_
  obtain ⟨r, hr⟩ : ∃ r, ops.toList.length = m + (r + 1) := ⟨ops.toList.length - m - 1, by omega⟩
  have hsz : ops.size = m + (r + 1) := by simpa using hr
  rw [List.range_eq_range', hsz]
  refine pre_sound (K := pyield P M ops.toList m l els Q s) (Kp := fun p => Q s (.panic p)) ops rfl hN hC.1 (hnd hC) upX_out (r := r + 1) m 0 (by omega) (fun a w fr hs hy => ?_) a w fr hs (by simpa using hp)
  rw [Nat.zero_add, List.range'_succ]
  unfold pyield at hy
  split at hy
  case h_2 => exact hy.elim
  rename_i o ho
  have hops : ops[m]? = some o := by rw [← ho]; simp
  have hoN := hN o (List.mem_of_getElem? ho)
  refine (?_ : OpR P none ops (UpX N (GCtx M Rb J) Q) m (fun a' w' => ∃ (s' : GS) (B' : Base) (fr' : PF), GCtx M Rb J s' B' ∧ SimE N B' a' w' fr' ∧ pops P M ops.toList (Q s' .normal) (fun p => Q s' (.panic p)) (ops.toList.drop (m + 1)) fr') a w) (List.range' (m + 1) r) fun a' w' ⟨s', B', fr', hC', hs', hp'⟩ =>
    pops_sound ops rfl hN hC'.1 (hnd hC') upX_out (hnq hC') r (m + 1) (by omega) a' w' fr' hs' hp'
  split at hy
  · rename_i hw
    have hwd := wanted_sound hs rfl hN hw
    split at hy
    case h_2 => exact hy.elim
    rename_i c hc
    obtain ⟨hop, _⟩ := isCall_some hc
    split at hy
    case h_2 => exact hy.elim
    rename_i x y hya
    obtain ⟨hcal, hargs⟩ := yargs_some hya
    obtain ⟨hx, n, rfl, hel, hcl, hyt, hyf, hyp⟩ := hy
    obtain ⟨hlo, hD, F, hJ, hF, hRb, hR0⟩ := hC
    obtain ⟨R, Γ, hs⟩ := hs
    have hxv := hs.rd x
    rw [hx] at hxv
    have hyv := hs.rd y
    have hux : a.eval x = .func (.yield l) #[] #[] := by
      generalize a.eval x = u at hxv
      cases hxv with
      | clo _ uf uc _ _ h1 h2 _ _ =>
        obtain rfl : uf = [] := by simpa using h1
        obtain rfl : uc = [] := by simpa using h2
        rfl
    have hJw : J (.on n) F w := henv.stab _ F B.w0 w hJ (fun b hb => hs.kept.block b (hF b hb)) hs.kept.size hs.kept.os hs.kept.tape hs.kept.output
    obtain ⟨f, tmps, assign, body, hrun, hround⟩ := henv.yield n F w (a.eval y) _ R Γ hJw hel hyv
    have hex : (execOp a.eval o).run P w = .ok (.round l f tmps assign body) w := by
      have e1 : c.args = #[y] := by rw [← Array.toArray_toList (xs := c.args), hargs]
      obtain ⟨callee, args, ats⟩ := c
      dsimp only at hcal e1
      subst hcal e1
      simp only [execOp, hop, resolve, Deferred.ofValue, hux, Sem.run_bind, Sem.run_pure, Result.andThen_ok, invoke, List.map_toArray, List.map_cons, List.map_nil]
      simpa using hrun
    refine OpR_yield hops hwd (fun c' hc' => by rw [hop] at hc'; cases hc') hex ?_
    intro cf cs
    obtain ⟨e, w', ⟨F', hcase, hF', hk⟩, hsteps⟩ := hround cf cs
    have hs' := hs.turn hD hF hR0 hk
    have hnF : ∀ x, x < w.heap.size → ¬ F x → ¬ F' x := fun x hx hn hf => by
      rcases hF' x hf with h | h
      · exact hn h
      · omega
    have mkC : ∀ s', J s' F' w' → GCtx M Rb J s' ⟨fun b => b < w'.heap.size ∧ ∀ i l, Γ i = some l → l.blk ≠ some b, w', R, fun i => if B.lo ≤ i then Γ i else none, B.lo, []⟩ := fun s' hJ' => by
      refine ⟨hlo, rfl, F', hJ', fun x hx => ⟨henv.bnd _ _ _ _ hJ' hx, fun i l hl hb => ?_⟩, fun x hx => ⟨?_, fun i l hl hb => ?_⟩, fun x o hx => ?_⟩
      · obtain ⟨h1, h2, _⟩ := (hs.own i l hl).2 x hb
        exact hnF x h2 (fun hf => h1 (hF x hf)) hx
      · have := hs.prot x (hRb x hx)
        have := hs.kept.size
        have := hk.size
        omega
      · exact ((hs.own i l hl).2 x hb).1 (hRb x hx)
      · rcases hs.sub x o hx with h0 | h0
        · rcases hR0 x o h0 with h1 | h1
          · exact .inl h1
          · exact .inr (hnF x (hs.bnd x o hx) h1)
        · exact .inr (hnF x (hs.bnd x o hx) fun hf => h0 (hF x hf))
    cases e with
    | outgrown => exact hcase.elim
    | panicked ch =>
      obtain ⟨pv, p, rfl, hrep, hJ'⟩ := hcase
      exact ⟨.panicked _, w', ⟨.pan p, _, mkC _ hJ', R, Γ, fr, .panic p, hs', ⟨pv, rfl, hrep _ _ _⟩, hyp p⟩, hsteps⟩
    | returned ret =>
    obtain ⟨b, rfl, hJ'⟩ := hcase
    have hC' := mkC _ hJ'
    refine ⟨.returned (.bool b), w', ?_, hsteps⟩
    have hput := fun (bb : Bool) (hc : pclear o.dst (.v (.bool bb)) fr = true) => (hs'.put o.dst hoN hc (u := .bool bb) (.v (.bool bb) rfl)).toE
    cases b with
    | true => exact ⟨_, _, _, hC', hput true hcl, hyt⟩
    | false =>
      refine ⟨_, _, _, hC', hput false ?_, hyf⟩
      revert hcl
      unfold pclear
      cases o.dst with
      | none => intro _; rfl
      | some d =>
        dsimp only
        cases fr[d]? with
        | none => intro _; rfl
        | some q =>
          dsimp only
          split
          · intro hcl
            refine List.all_eq_true.2 fun z hz => ?_
            obtain ⟨t, ht⟩ := List.mem_iff_getElem?.1 hz
            rcases getElem?_set' ht with ⟨rfl, rfl, hl'⟩ | ⟨hne, ht'⟩
            · simp [PV.names]
            · exact List.all_eq_true.1 hcl z (List.mem_of_getElem? (i := t) (by rw [List.getElem?_set_ne (Ne.symm hne)]; exact ht'))
          · intro _; rfl
  · rename_i hw
    exact OpR_skip hops (wanted_sound hs rfl hN hw) ⟨_, _, _, hC, hs.skip hoN hy.1, hy.2⟩
  · exact hy.elim
end
theorem dmidE_of {P : Program} {N M k : Nat} {rs : List ResultVar} {c : Code} {x : Operand} {Q : Out → Prop} {fr : PF} {gf : FuncId} {ps : List PV} (caps : List PV) (M' : Nat) (news : List Nat) (H A : PF) (hx : rd fr x = .clo (.func gf) [] ps) (hM : N ≤ M') (hn : ((List.range k).map (M + ·) ++ news).Nodup) (hA : A.length = N)
    (ho : outF fr (tgtAt H ((List.range k).map (M + ·) ++ news) fun _ => false) 8 H ((List.range k).map (M + ·) ++ news))
    (hv : vwAll (vw fr (tgtAt H ((List.range k).map (M + ·) ++ news) fun _ => false) 8) A (slots 0 N fr))
    (hc : vwAll (vw fr (tgtAt H ((List.range k).map (M + ·) ++ news) fun _ => false) 8) caps ps) (hf : ∀ p ∈ caps, p.flat = true)
    (h : ∀ B0 : Base, B0.lo = M' → XW P N (ECtx B0) () c (fun _ => dpost P M' k rs gf caps Q) (frame0 M' A H)) : dmidE P N M k rs c x Q fr := ⟨gf, ps, caps, M', news, H, A, hx, hM, hn, hA, ho, slots_vw hv, hc, hf, h⟩
theorem pwp_loop1 {P : Program} {M : Nat} {c : Code} {Q : PX → PF → Prop} {fr : PF} (h : pwp P M c (thenP (pwp P M (.loop c) Q) Q) fr) : pwp P M (.loop c) Q fr := fun X hX hW => hX _ (pwp_mono c (thenP_mono (fun _ hg => hg X hX hW) fun _ _ h => h) h)
theorem pwp_loop_less {P : Program} {M : Nat} {c : Code} {Q : PX → PF → Prop} {fr : PF} (g : PF) (hl : less M fr g) (h : pwp P M (.loop c) Q g) : pwp P M (.loop c) Q fr := fun X hX hW => hW _ _ (weak_of_less hl) (h X hX hW)
theorem pwp_loop_lessV {P : Program} {M : Nat} {c : Code} {Q : PX → PF → Prop} {fr : PF} (V : List (Nat × PV)) (hl : less M fr (apply V fr)) (h : pwp P M (.loop c) Q (apply V fr)) : pwp P M (.loop c) Q fr := pwp_loop_less _ hl h
end Go.Qg

namespace Go.Qg
def sameL : List PV → List PV → Prop
  | [], [] => True
  | p :: ps, q :: qs => (q = p ∨ ∃ sz n f g, p = .sl sz n f ∧ q = .sl sz n g ∧ ∀ i, i < n → f i = g i) ∧ sameL ps qs
  | _, _ => False
theorem sameL_length : ∀ {ps qs : List PV}, sameL ps qs → ps.length = qs.length
  | [], [], _ => rfl
  | p :: ps, q :: qs, h => by simp [sameL_length h.2]
theorem sameL_get : ∀ {ps qs : List PV}, sameL ps qs → ∀ (i : Nat) (p : PV), ps[i]? = some p → ∃ q, qs[i]? = some q ∧ (q = p ∨ ∃ sz n f g, p = .sl sz n f ∧ q = .sl sz n g ∧ ∀ i, i < n → f i = g i)
  | p :: ps, q :: qs, h, 0, x, hx => by
    simp only [List.getElem?_cons_zero, Option.some.injEq] at hx
    subst hx
    exact ⟨q, rfl, h.1⟩
  | p :: ps, q :: qs, h, i + 1, x, hx => by
    simp only [List.getElem?_cons_succ] at hx ⊢
    exact sameL_get h.2 i x hx
theorem Rep.same {w : World} {R : Nat → Nat → Prop} {Γ : Nat → Option Loc} {u : Value} {sz n : Nat} {f g : Nat → List PV} (h : Rep w R Γ u (.sl sz n g)) (e : ∀ i, i < n → f i = g i) : Rep w R Γ u (.sl sz n f) := by
  cases h with
  | sl A n c sz g us h1 h2 h3 h4 h5 h6 =>
    exact .sl A n c sz f us h1 h2 (fun i hi => by rw [e i hi]; exact h3 i hi) (fun i j p hi hp => h4 i j p hi (by rwa [e i hi] at hp)) h5 (fun i j p hi hp => h6 i j p hi (by rwa [e i hi] at hp))
theorem CallW.same {P : Program} {f : FuncId} {args args' : List PV} {H : PF} {Q : Out → Prop} (h : CallW P f args H Q) (hn : sameL args args') : CallW P f args' H Q :=
  ⟨h.1, fun w vs R Γ Prot h1 h2 h3 h4 => h.2 w vs R Γ Prot h1 h2 (h3.trans (sameL_length hn).symm) fun i u p hu hp => by
    obtain ⟨q, hq, hc⟩ := sameL_get hn i p hp
    have hr := h4 i u q hu hq
    rcases hc with rfl | ⟨sz, n, f, g, rfl, rfl, e⟩
    · exact hr
    · exact hr.same e⟩
theorem Spec.same {P : Program} {f : FuncId} {args args' : List PV} {r : PV} (h : Spec P f args r) (hn : sameL args args') : Spec P f args' r := CallW.same h hn
end Go.Qg

namespace Go.Qg
open Go.Proofs
open Go.RowKit (Below)
set_option maxRecDepth 100000
set_option linter.unusedSimpArgs false
def Snd.vals (s : Snd) : List Value := [.int .i64 s.day, .int .i64 s.cove, .int .i64 s.low, .int .i64 s.high]
def valsL (l : List Snd) : List Value := l.flatMap Snd.vals
theorem valsL_length : ∀ (l : List Snd), (valsL l).length = l.length * 4
  | [] => rfl
  | s :: l => by
    have := valsL_length l
    simp only [valsL, List.flatMap_cons, List.length_append] at this ⊢
    rw [this]; simp [Snd.vals]; omega
theorem valsL_cons (s : Snd) (l : List Snd) : valsL (s :: l) = s.vals ++ valsL l := rfl
theorem valsL_append (a b : List Snd) : valsL (a ++ b) = valsL a ++ valsL b := by simp [valsL]
theorem valsL_take (l : List Snd) (i : Nat) (h : i ≤ l.length) : (valsL l).take (i * 4) = valsL (l.take i) := by
  have e := congrArg valsL (List.take_append_drop i l)
  rw [valsL_append] at e
  rw [← e, List.take_append_of_le_length (by rw [valsL_length, List.length_take]; omega), List.take_of_length_le (by rw [valsL_length, List.length_take]; omega)]
theorem valsL_drop (l : List Snd) (i : Nat) (h : i ≤ l.length) : (valsL l).drop (i * 4) = valsL (l.drop i) := by
  have e := congrArg valsL (List.take_append_drop i l)
  rw [valsL_append] at e
  rw [← e, List.drop_append_of_le_length (by rw [valsL_length, List.length_take]; omega), List.drop_of_length_le (by rw [valsL_length, List.length_take]; omega), List.nil_append]
theorem valsL_get : ∀ (l : List Snd) (i j : Nat), j < 4 → (valsL l)[i * 4 + j]? = (l[i]?).bind fun s => s.vals[j]?
  | [], i, j, _ => by simp [valsL]
  | s :: l, 0, j, hj => by
    rw [valsL_cons, Nat.zero_mul, Nat.zero_add, List.getElem?_append_left (by simpa [Snd.vals] using hj)]; rfl
  | s :: l, i + 1, j, hj => by
    rw [valsL_cons, List.getElem?_append_right (by simp [Snd.vals]; omega), show (i + 1) * 4 + j - s.vals.length = i * 4 + j from by simp [Snd.vals]; omega, valsL_get l i j hj]; rfl
theorem valsL_one (l : List Snd) : ∀ v ∈ valsL l, v.oneCell' = true := fun v hv => by
  obtain ⟨s, _, hs⟩ := List.mem_flatMap.1 hv
  simp only [Snd.vals, List.mem_cons, List.not_mem_nil, or_false] at hs
  rcases hs with rfl | rfl | rfl | rfl <;> rfl
theorem cells_vals (s : Snd) (j : Nat) : s.cells[j]? = (s.vals[j]?).map PV.v := by
  match j with
  | 0 | 1 | 2 | 3 => rfl
  | j + 4 => rfl
section
variable {w : World} {R : Nat → Nat → Prop} {Γ : Nat → Option Loc}
theorem rows_vals {vs : Array Value} {l : List Snd} {n : Nat} (hn : l.length * 4 ≤ vs.size) (h : ∀ (i j : Nat) (r : List PV) (p : PV) (x : Value), (rowsSo l)[i]? = some r → r[j]? = some p → vs[i * 4 + j]? = some x → Rep w R Γ x p) : vs.toList.take (l.length * 4) = valsL l := by
  refine List.ext_getElem? fun k => ?_
  by_cases hk : k < l.length * 4
  · have hi : k / 4 < l.length := by omega
    have hj : k % 4 < 4 := by omega
    have e : k / 4 * 4 + k % 4 = k := by omega
    have h1 := valsL_get l (k / 4) (k % 4) hj
    rw [e, List.getElem?_eq_getElem hi] at h1
    rw [h1, List.getElem?_take_of_lt hk, Array.getElem?_toList]
    have hx : vs[k]? = some (vs[k]'(by omega)) := Array.getElem?_eq_getElem _
    have hr : (rowsSo l)[k / 4]? = some (l[k / 4]).cells := by simp [rowsSo, hi]
    have hv : (l[k / 4]).vals[k % 4]? = some ((l[k / 4]).vals[k % 4]'(by simpa [Snd.vals] using hj)) := List.getElem?_eq_getElem _
    have := h (k / 4) (k % 4) _ _ _ hr (by rw [cells_vals, hv]; rfl) (by rw [e]; exact hx)
    rw [hx, Option.bind_some, hv]
    generalize (l[k / 4]).vals[k % 4]'(by simpa [Snd.vals] using hj) = y at this
    generalize vs[k]'(by omega) = x at this
    cases this
    rfl
  · rw [List.getElem?_eq_none (by simp; omega), List.getElem?_eq_none (by rw [valsL_length]; omega)]
theorem vals_rows {vs : Array Value} {l : List Snd} (h : vs.toList.take (l.length * 4) = valsL l) : ∀ (i j : Nat) (r : List PV) (p : PV) (x : Value), (rowsSo l)[i]? = some r → r[j]? = some p → vs[i * 4 + j]? = some x → Rep w R Γ x p := fun i j r p x hr hp hx => by
  obtain ⟨s, hs, rfl⟩ : ∃ s, l[i]? = some s ∧ s.cells = r := by simpa [rowsSo] using hr
  have hi := (List.getElem?_eq_some_iff.1 hs).1
  rw [cells_vals] at hp
  obtain ⟨v, hv, rfl⟩ := Option.map_eq_some_iff.1 hp
  have hj : j < 4 := by have := (List.getElem?_eq_some_iff.1 hv).1; simpa [Snd.vals] using this
  have h1 := valsL_get l i j hj
  rw [← h, List.getElem?_take_of_lt (by omega), Array.getElem?_toList, hx, hs, Option.bind_some, hv] at h1
  obtain rfl := Option.some.inj h1
  exact .v x (valsL_one [s] x (by simp only [valsL, List.flatMap_cons, List.flatMap_nil, List.append_nil]; exact List.mem_of_getElem? hv))
end
theorem setCells_row {w : World} {g o : Nat} {t : TypeId} {vs : List Value} {cur : Array Value} (hg : w.heap[g]? = some (.cells cur t (0, 0))) (hl : o + vs.length ≤ cur.size) (h1 : ∀ v ∈ vs, v.oneCell' = true) :
    w.setCells g o vs = w.setRow g (cur.toList.take o ++ vs ++ cur.toList.drop (o + vs.length)).toArray := by
  have e1 := run_storeCells_at Try.prog g o t vs 0 cur w hg (by omega) h1
  have e2 := run_storeCells_cells (P := Try.prog) g o vs 0 w (fun j hj => by
    have hlt : o + j < cur.size := by omega
    simp [World.cell?, hg, hlt]) (fun j hj => by simp [World.frozen?, hg]) h1
  rw [e1] at e2
  simp only [Nat.add_zero, Result.ok.injEq, true_and] at e2
  exact e2.symm
theorem frozen_none {w : World} {b j : Nat} {vs : Array Value} {t : TypeId} (h : w.heap[b]? = some (.cells vs t (0, 0))) : w.frozen? ⟨b, j, none⟩ = false := by simp [World.frozen?, h]
theorem cell_get {w : World} {b j : Nat} {vs : Array Value} {t : TypeId} (h : w.heap[b]? = some (.cells vs t (0, 0))) : w.cell? ⟨b, j, none⟩ = vs[j]? := by simp [World.cell?, h]
theorem wr_mid {A B C E : List Value} {o : Nat} (ho : o = A.length) (hB : B.length = C.length) : (A ++ B ++ E).take o ++ C ++ (A ++ B ++ E).drop (o + C.length) = A ++ C ++ E := by
  subst ho
  have e1 : (A ++ B ++ E).take A.length = A := by rw [List.append_assoc]; exact List.take_left' rfl
  have e2 : (A ++ B ++ E).drop (A.length + C.length) = E := List.drop_left' (by simp [hB])
  rw [e1, e2]
def insL (l : List Snd) (i : Nat) (x : Snd) : List Snd := l.take i ++ [x] ++ l.drop i
theorem insL_length (l : List Snd) (i : Nat) (x : Snd) (h : i ≤ l.length) : (insL l i x).length = l.length + 1 := by simp [insL]; omega
theorem insL_vals (l : List Snd) (i : Nat) (x : Snd) (h : i ≤ l.length) : valsL (insL l i x) = (valsL l).take (i * 4) ++ x.vals ++ (valsL l).drop (i * 4) := by
  rw [insL, valsL_append, valsL_append, valsL_take l i h, valsL_drop l i h]; simp [valsL]
theorem room_row {w : World} {b i n : Nat} {t : TypeId} {cur : Array Value} {l : List Snd} {x : Snd} (hg : w.heap[b]? = some (.cells cur t (0, 0))) (hl : cur.toList.take (l.length * 4) = valsL l) (hi : i < l.length) (hsz : (l.length + 1) * 4 ≤ cur.size) :
    ∃ E, (w.setCells b ((i + 1) * 4) ((valsL l).drop (i * 4))).setCells b (i * 4) x.vals = w.setRow b (valsL (insL l i x) ++ E).toArray ∧ (valsL (insL l i x) ++ E).length = cur.size := by
  have hn := valsL_length l
  have hA : ((valsL l).take (i * 4)).length = i * 4 := by rw [List.length_take]; omega
  have hD : ((valsL l).drop (i * 4)).length = (l.length - i) * 4 := by rw [List.length_drop, hn, Nat.sub_mul]
  generalize hA' : (valsL l).take (i * 4) = A at hA
  generalize hD' : (valsL l).drop (i * 4) = D at hD
  have eAD : valsL l = A ++ D := by rw [← hA', ← hD', List.take_append_drop]
  have hcl : cur.toList.length = cur.size := by simp
  have eS : cur.toList = A ++ (D ++ (cur.toList.drop (l.length * 4)).take 4) ++ cur.toList.drop (l.length * 4 + 4) := by
    rw [← List.append_assoc A, ← eAD, ← hl, List.append_assoc, ← List.drop_drop, List.take_append_drop, List.take_append_drop]
  have hS : ((cur.toList.drop (l.length * 4)).take 4).length = 4 := by simp; omega
  generalize (cur.toList.drop (l.length * 4)).take 4 = S at eS hS
  generalize cur.toList.drop (l.length * 4 + 4) = E at eS
  have e4 : A ++ (D ++ S) ++ E = (A ++ (D ++ S).take 4) ++ (D ++ S).drop 4 ++ E := (congrArg (fun X => A ++ X ++ E) (List.take_append_drop 4 (D ++ S)).symm).trans (by simp only [List.append_assoc])
  have h4 : ((D ++ S).take 4).length = 4 := by simp; omega
  have h5 : ((D ++ S).drop 4).length = D.length := by simp; omega
  have hlen : cur.size = A.length + (D.length + 4) + E.length := by rw [← hcl, eS]; simp [hS]; omega
  have r1 : cur.toList.take ((i + 1) * 4) ++ D ++ cur.toList.drop ((i + 1) * 4 + D.length) = A ++ (D ++ S).take 4 ++ (D ++ E) := by
    rw [eS, e4, wr_mid (by rw [List.length_append, h4, hA]; omega) h5]; simp
  refine ⟨E, ?_, ?_⟩
  · rw [setCells_row hg (by omega) (fun v hv => valsL_one l v (by rw [eAD]; exact List.mem_append_right _ hv)), r1]
    rw [setCells_row (setRow_heap w b cur _ t (0, 0) hg) (by simp [h4, Snd.vals]; omega) (fun v hv => valsL_one [x] v (by simpa [valsL] using hv))]
    rw [setRow_setRow]
    congr 1
    congr 1
    rw [List.toList_toArray, wr_mid hA.symm (by rw [h4]; rfl), insL_vals l i x (by omega), hA', hD']
    simp
  · rw [insL_vals l i x (by omega), hA', hD', hlen]; simp [Snd.vals]; omega
theorem grow_row {w : World} {b i : Nat} {t : TypeId} {Z Y : List Value} {l : List Snd} {x : Snd} (hg : w.heap[b]? = some (.cells ((valsL l).take (i * 4) ++ Z ++ Y).toArray t (0, 0))) (hi : i < l.length) (hZ : Z.length = (l.length + 1 - i) * 4) :
    (w.setCells b (i * 4) x.vals).drew.setCells b ((i + 1) * 4) ((valsL l).drop (i * 4)) = w.drew.setRow b (valsL (insL l i x) ++ Y).toArray := by
  have hn := valsL_length l
  have hA : ((valsL l).take (i * 4)).length = i * 4 := by rw [List.length_take]; omega
  have hD : ((valsL l).drop (i * 4)).length = (l.length - i) * 4 := by rw [List.length_drop, hn, Nat.sub_mul]
  generalize hA' : (valsL l).take (i * 4) = A at hA hg
  generalize hD' : (valsL l).drop (i * 4) = D at hD
  have eAD : valsL l = A ++ D := by rw [← hA', ← hD', List.take_append_drop]
  have eZ : Z = Z.take 4 ++ Z.drop 4 := (List.take_append_drop 4 Z).symm
  have h4 : (Z.take 4).length = 4 := by simp; omega
  have h5 : (Z.drop 4).length = D.length := by simp; omega
  have r1 : (A ++ Z ++ Y).take (i * 4) ++ x.vals ++ (A ++ Z ++ Y).drop (i * 4 + x.vals.length) = (A ++ x.vals) ++ Z.drop 4 ++ Y := by
    have : A ++ Z ++ Y = A ++ Z.take 4 ++ (Z.drop 4 ++ Y) := by rw [List.append_assoc, List.append_assoc, ← List.append_assoc (Z.take 4), List.take_append_drop]
    rw [this, wr_mid hA.symm (by rw [h4]; rfl)]; simp
  rw [setCells_row hg (by simp [Snd.vals]; omega) (fun v hv => valsL_one [x] v (by simpa [valsL] using hv))]
  have hg2 := setRow_heap w b _ ((A ++ x.vals) ++ Z.drop 4 ++ Y).toArray t (0, 0) hg
  rw [List.toList_toArray, r1]
  have hg3 : (w.setRow b ((A ++ x.vals) ++ Z.drop 4 ++ Y).toArray).drew.heap[b]? = some (.cells ((A ++ x.vals) ++ Z.drop 4 ++ Y).toArray t (0, 0)) := hg2
  rw [setCells_row hg3 (by simp [Snd.vals]; omega) (fun v hv => valsL_one l v (by rw [eAD]; exact List.mem_append_right _ hv)), List.toList_toArray, wr_mid (by simp [Snd.vals]; omega) h5]
  rw [show (w.setRow b ((A ++ x.vals) ++ Z.drop 4 ++ Y).toArray).drew = w.drew.setRow b ((A ++ x.vals) ++ Z.drop 4 ++ Y).toArray from rfl, setRow_setRow, insL_vals l i x (by omega), hA', hD']
end Go.Qg

namespace Go.Qg
open Go.Proofs
open Go.RowKit (Below)
set_option maxRecDepth 100000
set_option linter.unusedSimpArgs false
set_option maxHeartbeats 4000000
theorem zeroCells_length (n : Nat) : (Builtin.zeroCells #[.int .i64 0, .int .i64 0, .int .i64 0, .int .i64 0] n).size = n * 4 := by simp [Builtin.zeroCells]
theorem setRow_hsize (w : World) (g : Nat) (cs : Array Value) : (w.setRow g cs).heap.size = w.heap.size := by simp [World.setRow]
theorem insert_mid (l : List Snd) (i : Nat) (x : Snd) (hi : i < l.length) (hl : l.length ≤ 1000000) (ep ep1 : Nat) (e1 : TypeId) :
    CallW Try.prog 118 [.own 0 ep 0 l.length false, .v (.int .i64 i), .own 1 ep1 0 1 false] [.rows none ep 74 4 (rowsSo l), .rows none ep1 e1 4 [x.cells]]
      (fun out => ∃ ep', out = .ret (.own 0 ep' 0 (l.length + 1) false) [.rows none ep' 74 4 (rowsSo (insL l i x)), .rows none ep1 e1 4 [x.cells]]) := by
  refine ⟨fun vs w => ?_, fun w vs R Γ Prot hRp h0 hlen hrep => ?_⟩
  · simp only [callFunc, Sem.run_bind, run_program, Result.andThen_ok, Try.func118, show (Try.f118.name == "runtime.NumGoroutine") = false from by decide]
    rfl
  match vs, hlen with
  | [u0, u1, u2], _ =>
    have k0 := hrep 0 u0 _ rfl rfl
    have k1 := hrep 1 u1 _ rfl rfl
    have k2 := hrep 2 u2 _ rfl rfl
    obtain ⟨m0, hΓ0, _, hr0, _, s0⟩ := h0.slot 0 _ rfl
    obtain ⟨m1, hΓ1, _, hr1, _, s1⟩ := h0.slot 1 _ rfl
    have hne : rowsSo l ≠ [] := fun e => by simp only [rowsSo, List.map_eq_nil_iff] at e; rw [e] at hi; cases hi
    cases m0 with
    | none => exact absurd s0 hne
    | some bc =>
    obtain ⟨b, cap⟩ := bc
    cases m1 with
    | none => cases s1
    | some bc1 =>
    obtain ⟨vb, vcap⟩ := bc1
    obtain ⟨cur, g1, g2, g3, g4, g5⟩ := s0
    obtain ⟨vcur, q1, q2, q3, q4, q5⟩ := s1
    cases k0 with
    | own _ _ _ _ _ _ epa sza la ha1 ha2 ha3 ha4 =>
    cases k2 with
    | own _ _ _ _ _ _ epb szb lb hb1 hb2 hb3 hb4 =>
    rw [hΓ0] at ha1
    rw [hΓ1] at hb1
    simp only [Option.some.injEq, Loc.rows.injEq] at ha1 hb1
    obtain ⟨rfl, rfl, rfl⟩ := ha1
    obtain ⟨rfl, rfl, rfl⟩ := hb1
    obtain ⟨rfl, _⟩ := ha4 rfl
    obtain ⟨rfl, _⟩ := hb4 rfl
    cases k1
    have hbv : vb ≠ b := fun e => by
      have := h0.inj 0 1 _ _ b hΓ0 hΓ1 rfl (by rw [e]; rfl)
      cases this
    simp only [rowsSo, List.length_map] at g2
    have hvals : cur.toList.take (l.length * 4) = valsL l := rows_vals (n := 0) (by omega) (by simpa [rowsSo] using g5)
    have hxv : vcur.toList.take (1 * 4) = valsL [x] := rows_vals (l := [x]) (n := 0) (by simp at q2; simp; omega) (by simpa [rowsSo] using q5)
    have c1 : ∀ j v, (valsL l)[j]? = some v → w.cell? ⟨b, j, none⟩ = some v := fun j v hj => by
      rw [cell_get g1, ← Array.getElem?_toList, ← hj, ← hvals, List.getElem?_take_of_lt]
      have := (List.getElem?_eq_some_iff.1 hj).1
      rwa [valsL_length] at this
    have c2 : ∀ j v, x.vals[j]? = some v → w.cell? ⟨vb, j, none⟩ = some v := fun j v hj => by
      have e : x.vals = valsL [x] := by simp [valsL]
      rw [e] at hj
      rw [cell_get q1, ← Array.getElem?_toList, ← hj, ← hxv, List.getElem?_take_of_lt]
      have := (List.getElem?_eq_some_iff.1 hj).1
      rwa [valsL_length] at this
    have o1 := valsL_one l
    have o2 : ∀ v ∈ x.vals, v.oneCell' = true := fun v hv => valsL_one [x] v (by simpa [valsL] using hv)
    have hil : (insL l i x).length = l.length + 1 := insL_length l i x (by omega)
    by_cases hroom : l.length + 1 ≤ cap
    · obtain ⟨E, hE1, hE2⟩ := room_row (w := w.drew) (i := i) (n := 0) (x := x) g1 hvals hi (by omega)
      refine (insert_room b l.length cap i vb (vcap - 0) (valsL l) x.vals w hi hroom (by simp only [maxLen] at g3; omega) hbv (valsL_length l) rfl c1 (fun j hj => by rw [cell_get g1, Array.getElem?_eq_getElem (by omega)]; rfl) (fun j => frozen_none g1) c2 o1 o2 e1 74 vcur.size cur.size (by simp [World.shape?, q1]) (by simp [World.shape?, g1]) (by omega) (frozen_none q1) (frozen_none q1)).mono ?_
      rintro e w' ⟨rfl, rfl⟩
      rw [hE1]
      have hgr : w.grownBy (w.drew.setRow b (valsL (insL l i x) ++ E).toArray) (some b) := ⟨rfl, rfl, rfl, by simp [World.setRow], fun k _ hk => by rw [setRow_other _ _ _ _ (fun e => hk (by rw [e]))]; rfl⟩
      have hobj := h0.setObj (i := 0) (l' := .rows ep 4 (some (b, cap))) (p' := .rows none ep 74 4 (rowsSo (insL l i x))) hΓ0 (.inl rfl) hgr (.inl rfl) rfl (by
        refine ⟨some (b, cap), give_self _ _ _, fun _ _ h => (by cases h), fun r hr => ?_, by omega, (valsL (insL l i x) ++ E).toArray, setRow_heap w.drew b cur _ 74 (0, 0) g1, by simp [rowsSo, hil]; omega, g3, by rw [List.size_toArray, hE2]; exact g4, ?_⟩
        · obtain ⟨s, _, rfl⟩ := List.mem_map.1 hr
          exact ⟨rfl, fun p hp => by simp only [Snd.cells, List.mem_cons, List.not_mem_nil, or_false] at hp; rcases hp with rfl | rfl | rfl | rfl <;> rfl⟩
        · exact vals_rows (by rw [List.toList_toArray, List.take_left' (by rw [valsL_length])]))
      rw [give_same hΓ0] at hobj
      refine ⟨R, Γ, .inl ⟨_, _, _, rfl, ⟨ep, rfl⟩, ?_, hobj, fun q hq => ?_⟩⟩
      · refine .own 0 ep 0 (l.length + 1) false _ ep 4 (some (b, cap)) hΓ0 (Nat.le_refl _) rfl fun _ => ⟨?_, by omega⟩
        simp
      · simp only [List.set_cons_zero, List.mem_cons, List.not_mem_nil, or_false] at hq
        rcases hq with rfl | rfl <;> rfl
    · have hgrow := insert_grow b l.length cap i vb (vcap - 0) (valsL l) x.vals w hi (by omega) (by omega) (by omega) hbv (valsL_length l) rfl c1 c2 o1 o2
      refine hgrow.mono ?_
      rintro e w' ⟨rfl, rfl⟩
      have hg0 := grownCap_ge w (l.length + 1) cap 74
      have hg1 := grownCap_le_maxLen w (l.length + 1) cap 74 (by simp only [maxLen]; omega)
      generalize grownCap w (l.length + 1) cap 74 = G at hg0 hg1
      have hZ := zeroCells_length (l.length + 1 - i)
      have hY := zeroCells_length (G - (l.length + 1))
      generalize Builtin.zeroCells #[.int .i64 0, .int .i64 0, .int .i64 0, .int .i64 0] (l.length + 1 - i) = Z at hZ
      generalize Builtin.zeroCells #[.int .i64 0, .int .i64 0, .int .i64 0, .int .i64 0] (G - (l.length + 1)) = Y at hY
      rw [show ((valsL l).take (i * 4)).toArray ++ Z ++ Y = ((valsL l).take (i * 4) ++ Z.toList ++ Y.toList).toArray from by apply Array.ext'; simp]
      have hsz : (valsL (insL l i x) ++ Y.toList).length = G * 4 := by rw [List.length_append, valsL_length, hil, show Y.toList.length = Y.size from rfl, hY]; omega
      have hheap : (w.alloc (.cells ((valsL l).take (i * 4) ++ Z.toList ++ Y.toList).toArray 74)).drew.heap[w.heap.size]? = some (.cells ((valsL l).take (i * 4) ++ Z.toList ++ Y.toList).toArray 74 (0, 0)) := by
        show (w.heap.push _)[w.heap.size]? = _
        simp
      rw [grow_row hheap hi (by simpa using hZ)]
      have hgr : w.grownBy ((w.alloc (.cells ((valsL l).take (i * 4) ++ Z.toList ++ Y.toList).toArray 74)).drew.drew.setRow w.heap.size (valsL (insL l i x) ++ Y.toList).toArray) (some b) := ⟨rfl, rfl, rfl, by rw [setRow_hsize]; show w.heap.size ≤ (w.heap.push _).size; simp, fun k hk _ => by
        rw [setRow_other _ _ _ _ (Nat.ne_of_lt hk)]
        show (w.heap.push _)[k]? = _
        rw [Array.getElem?_push, if_neg (Nat.ne_of_lt hk)]⟩
      have hobj := h0.setObj (i := 0) (l' := .rows (ep + 1) 4 (some (w.heap.size, G))) (p' := .rows none (ep + 1) 74 4 (rowsSo (insL l i x))) hΓ0 (.inr ⟨_, _, _, _, _, _, rfl, rfl, Nat.lt_succ_self _⟩) hgr (.inr fun b' hb' => by
        obtain rfl := Option.some.inj hb'
        exact ⟨Nat.le_refl _, by rw [setRow_hsize]; show w.heap.size < (w.heap.push _).size; simp⟩) rfl (by
        refine ⟨some (w.heap.size, G), give_self _ _ _, fun _ _ h => (by cases h), fun r hr => ?_, by omega, (valsL (insL l i x) ++ Y.toList).toArray, setRow_heap _ _ _ _ 74 (0, 0) hheap, by rw [rowsSo, List.length_map, hil]; exact hg0, hg1, by rw [List.size_toArray]; exact hsz, ?_⟩
        · obtain ⟨s, _, rfl⟩ := List.mem_map.1 hr
          exact ⟨rfl, fun p hp => by simp only [Snd.cells, List.mem_cons, List.not_mem_nil, or_false] at hp; rcases hp with rfl | rfl | rfl | rfl <;> rfl⟩
        · exact vals_rows (by rw [List.toList_toArray, List.take_left' (by rw [valsL_length])]))
      refine ⟨R, _, .inl ⟨_, _, _, rfl, ⟨ep + 1, rfl⟩, ?_, hobj, fun q hq => ?_⟩⟩
      · refine .own 0 (ep + 1) 0 (l.length + 1) false _ (ep + 1) 4 (some (w.heap.size, G)) (give_self _ _ _) (Nat.le_refl _) rfl fun _ => ⟨?_, by omega⟩
        simp
      · simp only [List.set_cons_zero, List.mem_cons, List.not_mem_nil, or_false] at hq
        rcases hq with rfl | rfl <;> rfl
end Go.Qg

namespace Go.Qg
open Go.Proofs Go.RowKit Go.Lib
set_option maxRecDepth 100000
set_option linter.unusedSimpArgs false
set_option linter.unusedVariables false
set_option maxHeartbeats 4000000 in
theorem insert_end_room (b n c vb vc : Nat) (vs : List Value) (w : World) (hroom : n + 1 ≤ c) (hc63 : c ≤ 9223372036854775807) (hvl : vs.length = 4)
    (hsp : ∀ j, j < c * 4 → (w.cell? ⟨b, j, none⟩).isSome = true) (hfz : ∀ j, w.frozen? ⟨b, j, none⟩ = false)
    (hvs : ∀ j v, vs[j]? = some v → w.cell? ⟨vb, j, none⟩ = some v) (h1v : ∀ v ∈ vs, v.oneCell' = true) :
    Calls Try.prog 118 #[.slice (some ⟨b, 0, none⟩) n c, .int .i64 n, .slice (some ⟨vb, 0, none⟩) 1 vc] w fun e w' =>
      e = .returned (.slice (some ⟨b, 0, none⟩) (n + 1) c) ∧ w' = w.setCells b (n * 4) vs := by
  have u58 := run_underlying Try.underlying58
  have z74 := Try.sizeOf74
  have mx := mixed
  obtain ⟨i0, hi0, hz0, hzs, hzb⟩ : ∃ i0, Try.prog.info? 74 = some i0 ∧ i0.zero = some (.agg #[.int .i64 0, .int .i64 0, .int .i64 0, .int .i64 0]) ∧ i0.size = 4 ∧ i0.bytes = 32 := ⟨Try.t74, by kernel_rfl, by kernel_rfl, by kernel_rfl, by kernel_rfl⟩
  have hsrc : Src Try.prog i0.size 58 (.slice (some ⟨vb, 0, none⟩) 1 vc) 1 vs w := by
    rw [hzs]
    exact Src.ofSlice w Try.underlying58 ⟨vb, 0, none⟩ 1 vc vs (by omega) (fun j u hj => by rw [Addr.add_lit, Nat.zero_add]; exact hvs j u hj) h1v
  have hrun : ∀ ty, (Builtin.append_ #[58, 58] ty #[.slice (some ⟨b, 0, none⟩) n c, .slice (some ⟨vb, 0, none⟩) 1 vc]).run Try.prog w = .ok (.slice (some ⟨b, 0, none⟩) (n + 1) c) (w.setCells b (n * 4) vs) := fun ty => by
    have h := run_append_room_src (P := Try.prog) w 58 58 ty 74 i0 Try.underlying58 hi0 b 0 n c _ 1 vs hsrc hroom (fun j hj => by rw [hzs, Nat.zero_add]; exact hsp _ (by omega)) (fun j hj => hfz _)
    rw [hzs, Nat.zero_add] at h
    exact h
  clear hi0
  go_enter Try.func118, Try.ntmps118
  go_wp2_with (at_builtin; refine Lib.wpList_append_run _ rfl _ _ _ _ rfl _ _ rfl rfl _ _ (hrun _) ?_)
  go_ret
  exact ⟨rfl, rfl⟩
set_option maxHeartbeats 4000000 in
theorem insert_end_grow (base : Option Addr) (n c vb vc : Nat) (cs vs : List Value) (w : World) (hnc : n ≤ c) (hroom : c < n + 1) (hbig : (n + 1) * 32 ≤ 140737488355328)
    (hcl : cs.length = n * 4) (hvl : vs.length = 4) (hnil : base = none → n = 0)
    (hcs : ∀ a, base = some a → ∀ j v, cs[j]? = some v → w.cell? (a.add j) = some v)
    (hvs : ∀ j v, vs[j]? = some v → w.cell? ⟨vb, j, none⟩ = some v) (h1v : ∀ v ∈ vs, v.oneCell' = true) :
    Calls Try.prog 118 #[.slice base n c, .int .i64 n, .slice (some ⟨vb, 0, none⟩) 1 vc] w fun e w' =>
      e = .returned (.slice (some ⟨w.heap.size, 0, none⟩) (n + 1) (grownCap w (n + 1) c 74)) ∧
      w' = w.drew.alloc (.cells ((cs ++ vs).toArray ++ Builtin.zeroCells #[.int .i64 0, .int .i64 0, .int .i64 0, .int .i64 0] (grownCap w (n + 1) c 74 - (n + 1))) 74) := by
  have u58 := run_underlying Try.underlying58
  have z74 := Try.sizeOf74
  have mx := mixed
  obtain ⟨i0, hi0, hz0, hzs, hzb⟩ : ∃ i0, Try.prog.info? 74 = some i0 ∧ i0.zero = some (.agg #[.int .i64 0, .int .i64 0, .int .i64 0, .int .i64 0]) ∧ i0.size = 4 ∧ i0.bytes = 32 := ⟨Try.t74, by kernel_rfl, by kernel_rfl, by kernel_rfl, by kernel_rfl⟩
  have hsrc : Src Try.prog i0.size 58 (.slice (some ⟨vb, 0, none⟩) 1 vc) 1 vs w := by
    rw [hzs]
    exact Src.ofSlice w Try.underlying58 ⟨vb, 0, none⟩ 1 vc vs (by omega) (fun j u hj => by rw [Addr.add_lit, Nat.zero_add]; exact hvs j u hj) h1v
  have hold : (Builtin.firstCells i0.size n (.slice base n c)).run Try.prog w.drew = .ok cs.toArray w.drew := by
    rw [hzs]
    cases base with
    | none =>
      have h0 := hnil rfl
      subst h0
      rw [List.length_eq_zero_iff.1 (by omega : cs.length = 0)]
      exact run_firstCells_none w.drew 4 0 0 c
    | some a => exact run_firstCells_some w.drew 4 n a n c cs (by omega) (fun j v hj => hcs a rfl j v hj)
  have hrun : ∀ ty, (Builtin.append_ #[58, 58] ty #[.slice base n c, .slice (some ⟨vb, 0, none⟩) 1 vc]).run Try.prog w = _ := fun ty =>
    run_append_grow_src (P := Try.prog) w 58 58 ty 74 i0 _ Try.underlying58 hi0 hz0 base n c cs hold _ 1 vs hsrc hroom (by omega) (by rw [hzb]; exact growslice_fits hroom hbig)
  clear hi0
  go_enter Try.func118, Try.ntmps118
  cases base with
  | none =>
    have h0 := hnil rfl
    subst h0
    go_wp2_with (at_builtin; refine Lib.wpList_append_run _ rfl _ _ _ _ rfl _ _ rfl rfl _ _ (hrun _) ?_)
    go_ret
    exact ⟨rfl, rfl⟩
  | some a =>
    obtain ⟨ab, ao, asp⟩ := a
    go_wp2_with (at_builtin; refine Lib.wpList_append_run _ rfl _ _ _ _ rfl _ _ rfl rfl _ _ (hrun _) ?_)
    all_goals (go_ret; exact ⟨rfl, rfl⟩)
end Go.Qg

namespace Go.Qg
open Go.Proofs
open Go.RowKit (Below)
set_option maxRecDepth 100000
set_option linter.unusedSimpArgs false
set_option maxHeartbeats 4000000
theorem rowsSo_row {l : List Snd} : ∀ r ∈ rowsSo l, r.length = 4 ∧ ∀ p ∈ r, p.one = true := fun r hr => by
  obtain ⟨s, _, rfl⟩ := List.mem_map.1 hr
  exact ⟨rfl, fun p hp => by simp only [Snd.cells, List.mem_cons, List.not_mem_nil, or_false] at hp; rcases hp with rfl | rfl | rfl | rfl <;> rfl⟩
theorem insert_end (l : List Snd) (x : Snd) (hl : l.length ≤ 1000000) (ep ep1 : Nat) (e1 : TypeId) :
    CallW Try.prog 118 [.own 0 ep 0 l.length false, .v (.int .i64 l.length), .own 1 ep1 0 1 false] [.rows none ep 74 4 (rowsSo l), .rows none ep1 e1 4 [x.cells]]
      (fun out => ∃ ep', out = .ret (.own 0 ep' 0 (l.length + 1) false) [.rows none ep' 74 4 (rowsSo (l ++ [x])), .rows none ep1 e1 4 [x.cells]]) := by
  refine ⟨fun vs w => ?_, fun w vs R Γ Prot hRp h0 hlen hrep => ?_⟩
  · simp only [callFunc, Sem.run_bind, run_program, Result.andThen_ok, Try.func118, show (Try.f118.name == "runtime.NumGoroutine") = false from by decide]
    rfl
  match vs, hlen with
  | [u0, u1, u2], _ =>
    have k0 := hrep 0 u0 _ rfl rfl
    have k1 := hrep 1 u1 _ rfl rfl
    have k2 := hrep 2 u2 _ rfl rfl
    obtain ⟨m0, hΓ0, _, hr0, _, s0⟩ := h0.slot 0 _ rfl
    obtain ⟨m1, hΓ1, _, hr1, _, s1⟩ := h0.slot 1 _ rfl
    cases m1 with
    | none => cases s1
    | some bc1 =>
    obtain ⟨vb, vcap⟩ := bc1
    obtain ⟨vcur, q1, q2, q3, q4, q5⟩ := s1
    cases k0 with
    | own _ _ _ _ _ _ epa sza la ha1 ha2 ha3 ha4 =>
    cases k2 with
    | own _ _ _ _ _ _ epb szb lb hb1 hb2 hb3 hb4 =>
    rw [hΓ0] at ha1
    rw [hΓ1] at hb1
    simp only [Option.some.injEq, Loc.rows.injEq] at ha1 hb1
    obtain ⟨rfl, rfl, rfl⟩ := ha1
    obtain ⟨rfl, rfl, rfl⟩ := hb1
    have ha5 := ha4 rfl
    obtain ⟨rfl, _⟩ := hb4 rfl
    cases k1
    have hxv : vcur.toList.take (1 * 4) = valsL [x] := rows_vals (l := [x]) (n := 0) (by simp at q2; simp; omega) (by simpa [rowsSo] using q5)
    have c2 : ∀ j v, x.vals[j]? = some v → w.cell? ⟨vb, j, none⟩ = some v := fun j v hj => by
      have e : x.vals = valsL [x] := by simp [valsL]
      rw [e] at hj
      rw [cell_get q1, ← Array.getElem?_toList, ← hj, ← hxv, List.getElem?_take_of_lt]
      have := (List.getElem?_eq_some_iff.1 hj).1
      rwa [valsL_length] at this
    have o2 : ∀ v ∈ x.vals, v.oneCell' = true := fun v hv => valsL_one [x] v (by simpa [valsL] using hv)
    have hil : (l ++ [x]).length = l.length + 1 := by simp
    have evx : valsL (l ++ [x]) = valsL l ++ x.vals := by rw [valsL_append]; simp [valsL]
    have grow : ∀ (base : Option Addr) (c : Nat) (l0 : Option (Nat × Nat)), Γ 0 = some (.rows ep 4 l0) → l.length ≤ c → c < l.length + 1 → (base = none → l.length = 0) → (∀ a, base = some a → ∀ j v, (valsL l)[j]? = some v → w.cell? (a.add j) = some v) →
        Calls Try.prog 118 #[.slice base l.length c, .int .i64 l.length, .slice (some ⟨vb, 0, none⟩) 1 (vcap - 0)] w (Left Prot w R Γ fun out => ∃ ep', out = .ret (.own 0 ep' 0 (l.length + 1) false) [.rows none ep' 74 4 (rowsSo (l ++ [x])), .rows none ep1 e1 4 [x.cells]]) := by
      intro base c l0 hl0 hc1 hc2 hb1 hb2
      refine (insert_end_grow base l.length c vb (vcap - 0) (valsL l) x.vals w hc1 hc2 (by omega) (valsL_length l) rfl hb1 hb2 c2 o2).mono ?_
      rintro e w' ⟨rfl, rfl⟩
      have hg0 := grownCap_ge w (l.length + 1) c 74
      have hg1 := grownCap_le_maxLen w (l.length + 1) c 74 (by simp only [maxLen]; omega)
      generalize grownCap w (l.length + 1) c 74 = G at hg0 hg1
      have hY := zeroCells_length (G - (l.length + 1))
      generalize Builtin.zeroCells #[.int .i64 0, .int .i64 0, .int .i64 0, .int .i64 0] (G - (l.length + 1)) = Y at hY
      rw [← evx, show (valsL (l ++ [x])).toArray ++ Y = (valsL (l ++ [x]) ++ Y.toList).toArray from by apply Array.ext'; simp]
      have hsz : (valsL (l ++ [x]) ++ Y.toList).length = G * 4 := by rw [List.length_append, valsL_length, hil, show Y.toList.length = Y.size from rfl, hY]; omega
      have hheap : (w.drew.alloc (.cells (valsL (l ++ [x]) ++ Y.toList).toArray 74)).heap[w.heap.size]? = some (.cells (valsL (l ++ [x]) ++ Y.toList).toArray 74 (0, 0)) := by
        show (w.heap.push _)[w.heap.size]? = _
        simp
      have hgr : w.grownBy (w.drew.alloc (.cells (valsL (l ++ [x]) ++ Y.toList).toArray 74)) (Loc.rows ep 4 l0).blk := ⟨rfl, rfl, rfl, by show w.heap.size ≤ (w.heap.push _).size; simp, fun k hk _ => by
        show (w.heap.push _)[k]? = _
        rw [Array.getElem?_push, if_neg (Nat.ne_of_lt hk)]⟩
      have hobj := h0.setObj (i := 0) (l' := .rows (ep + 1) 4 (some (w.heap.size, G))) (p' := .rows none (ep + 1) 74 4 (rowsSo (l ++ [x]))) hl0 (.inr ⟨_, _, _, _, _, _, rfl, rfl, Nat.lt_succ_self _⟩) hgr (.inr fun b' hb' => by
        obtain rfl := Option.some.inj hb'
        exact ⟨Nat.le_refl _, by show w.heap.size < (w.heap.push _).size; simp⟩) rfl (by
        refine ⟨some (w.heap.size, G), give_self _ _ _, fun _ _ h => (by cases h), rowsSo_row, by omega, (valsL (l ++ [x]) ++ Y.toList).toArray, hheap, by rw [rowsSo, List.length_map, hil]; exact hg0, hg1, by rw [List.size_toArray]; exact hsz, ?_⟩
        exact vals_rows (by rw [List.toList_toArray, List.take_left' (by rw [valsL_length])]))
      refine ⟨R, _, .inl ⟨_, _, _, rfl, ⟨ep + 1, rfl⟩, ?_, hobj, fun q hq => ?_⟩⟩
      · refine .own 0 (ep + 1) 0 (l.length + 1) false _ (ep + 1) 4 (some (w.heap.size, G)) (give_self _ _ _) (Nat.le_refl _) rfl fun _ => ⟨?_, by omega⟩
        simp
      · simp only [List.set_cons_zero, List.mem_cons, List.not_mem_nil, or_false] at hq
        rcases hq with rfl | rfl <;> rfl
    cases m0 with
    | none =>
      obtain ⟨rfl, hn0, _⟩ := ha5
      have hl0 : l = [] := List.eq_nil_of_length_eq_zero hn0
      have := grow none 0 none hΓ0 (by omega) (by omega) (fun _ => hn0) (fun a ha => by cases ha)
      rw [hn0] at this ⊢
      exact this
    | some bc =>
    obtain ⟨b, cap⟩ := bc
    obtain ⟨cur, g1, g2, g3, g4, g5⟩ := s0
    obtain ⟨rfl, _⟩ := ha5
    simp only [rowsSo, List.length_map] at g2
    have hvals : cur.toList.take (l.length * 4) = valsL l := rows_vals (n := 0) (by omega) (by simpa [rowsSo] using g5)
    have c1 : ∀ j v, (valsL l)[j]? = some v → w.cell? ⟨b, j, none⟩ = some v := fun j v hj => by
      rw [cell_get g1, ← Array.getElem?_toList, ← hj, ← hvals, List.getElem?_take_of_lt]
      have := (List.getElem?_eq_some_iff.1 hj).1
      rwa [valsL_length] at this
    by_cases hroom : l.length + 1 ≤ cap
    · have hrow : cur.toList.take (l.length * 4) ++ x.vals ++ cur.toList.drop (l.length * 4 + x.vals.length) = valsL (l ++ [x]) ++ cur.toList.drop (l.length * 4 + x.vals.length) := by rw [hvals, evx]
      have hsz : (valsL (l ++ [x]) ++ cur.toList.drop (l.length * 4 + x.vals.length)).length = cap * 4 := by rw [List.length_append, valsL_length, hil, List.length_drop, show cur.toList.length = cur.size from rfl, g4]; simp [Snd.vals]; omega
      refine (insert_end_room b l.length cap vb (vcap - 0) x.vals w hroom (by simp only [maxLen] at g3; omega) rfl (fun j hj => by rw [cell_get g1, Array.getElem?_eq_getElem (by omega)]; rfl) (fun j => frozen_none g1) c2 o2).mono ?_
      rintro e w' ⟨rfl, rfl⟩
      rw [setCells_row g1 (by simp [Snd.vals]; omega) o2, hrow]
      generalize cur.toList.drop (l.length * 4 + x.vals.length) = E at hsz
      have hgr : w.grownBy (w.setRow b (valsL (l ++ [x]) ++ E).toArray) (some b) := ⟨rfl, rfl, rfl, by rw [setRow_hsize]; exact Nat.le_refl _, fun k _ hk => setRow_other _ _ _ _ (fun e => hk (by rw [e]))⟩
      have hobj := h0.setObj (i := 0) (l' := .rows ep 4 (some (b, cap))) (p' := .rows none ep 74 4 (rowsSo (l ++ [x]))) hΓ0 (.inl rfl) hgr (.inl rfl) rfl (by
        refine ⟨some (b, cap), give_self _ _ _, fun _ _ h => (by cases h), rowsSo_row, by omega, (valsL (l ++ [x]) ++ E).toArray, setRow_heap w b cur _ 74 (0, 0) g1, by rw [rowsSo, List.length_map, hil]; omega, g3, by rw [List.size_toArray]; exact hsz, ?_⟩
        exact vals_rows (by rw [List.toList_toArray, List.take_left' (by rw [valsL_length])]))
      rw [give_same hΓ0] at hobj
      refine ⟨R, Γ, .inl ⟨_, _, _, rfl, ⟨ep, rfl⟩, ?_, hobj, fun q hq => ?_⟩⟩
      · refine .own 0 ep 0 (l.length + 1) false _ ep 4 (some (b, cap)) hΓ0 (Nat.le_refl _) rfl fun _ => ⟨?_, by omega⟩
        simp
      · simp only [List.set_cons_zero, List.mem_cons, List.not_mem_nil, or_false] at hq
        rcases hq with rfl | rfl <;> rfl
    · have := grow (some ⟨b, 0, none⟩) cap (some (b, cap)) hΓ0 g2 (by omega) (fun h => by cases h) (fun a ha j v hj => by
        obtain rfl := Option.some.inj ha
        rw [Addr.add_lit, Nat.zero_add]; exact c1 j v hj)
      simpa using this
theorem insert_spec (l : List Snd) (i : Nat) (x : Snd) (hi : i ≤ l.length) (hl : l.length ≤ 1000000) (ep ep1 : Nat) (e1 : TypeId) :
    CallW Try.prog 118 [.own 0 ep 0 l.length false, .v (.int .i64 i), .own 1 ep1 0 1 false] [.rows none ep 74 4 (rowsSo l), .rows none ep1 e1 4 [x.cells]]
      (fun out => ∃ ep', out = .ret (.own 0 ep' 0 (l.length + 1) false) [.rows none ep' 74 4 (rowsSo (insL l i x)), .rows none ep1 e1 4 [x.cells]]) := by
  by_cases h : i < l.length
  · exact insert_mid l i x h hl ep ep1 e1
  · obtain rfl : i = l.length := by omega
    have e : insL l l.length x = l ++ [x] := by simp [insL]
    rw [e]
    exact insert_end l x hl ep ep1 e1
end Go.Qg

namespace Go.Qg
open Go.Proofs
set_option maxRecDepth 100000
set_option linter.unusedSimpArgs false
set_option maxHeartbeats 4000000
attribute [local irreducible] pwp pops pdraw pop popCall pdCall thenP blockP scopeP pspec Spec answers ppost CallW
def covB (c : Cov) : Bool := decide (c.closed.length ≤ 6) && allN c.closed.length (fun k => spanB (spnAt c.closed k) 0 400) && inB c.window 1 400 && inB c.noise 0 100000 && inB c.visits 0 60
def covesB (l : List Cov) : Bool := allN l.length fun k => covB (covAt l k)
theorem coves11_spec (s : Spn) : Spec Try.prog 114 [.agg s.cells] (.v (.bool (!spanB s 0 400))) := by
  refine spec_of mixed Try.func114 (by decide) rfl Try.results114 Try.ntmps114 (by decide) 0 (by simp) ?_
  simp [Spn.cells]
  refine pop_spec (cspan_spec s 0 400) rfl false (.inl (by simp [Spn.cells])) (.inl rfl) rfl (by simp) ?_
  simp
  refine answers_of rfl ?_; simp
theorem coves1_spec (c : Cov) (hc : c.closed.length ≤ 9223372036854775807) : Spec Try.prog 112 [.agg c.cells] (.v (.bool (!covB c))) := by
  refine spec_of mixed Try.func112 (by decide) rfl Try.results112 Try.ntmps112 (by decide) 0 (by simp) ?_
  simp [Cov.cells, spnL]
  by_cases h : c.closed.length ≤ 6
  · simp [show ¬ (6 : Int) < c.closed.length from by omega, show (c.closed.length : Int) ≤ 6 from by omega]
    refine pop_spec (anySpn_spec c.closed hc 114 [] [] rfl rfl (fun k => !spanB (spnAt c.closed k) 0 400) fun k hk => coves11_spec (spnAt c.closed k)) rfl false (.inl (by simp [spnL])) (.inl rfl) rfl (by simp) ?_
    rw [any_not]
    cases h1 : allN c.closed.length fun k => spanB (spnAt c.closed k) 0 400 with
    | false => simp; refine answers_of rfl ?_; simp [covB, h1]
    | true =>
      simp
      refine pop_spec (cin_spec c.window 1 400) rfl false (.inl (by simp)) (.inl rfl) rfl (by simp) ?_
      cases h2 : inB c.window 1 400 with
      | false => simp; refine answers_of rfl ?_; simp [covB, h2]
      | true =>
        simp
        refine pop_spec (cin_spec c.noise 0 100000) rfl false (.inl (by simp)) (.inl rfl) rfl (by simp) ?_
        cases h3 : inB c.noise 0 100000 with
        | false => simp; refine answers_of rfl ?_; simp [covB, h3]
        | true =>
          simp
          refine pop_spec (cin_spec c.visits 0 60) rfl false (.inl (by simp)) (.inl rfl) rfl (by simp) ?_
          simp
          refine answers_of rfl ?_; simp [covB, h, h1, h2, h3]
  · simp [show (6 : Int) < c.closed.length from by omega, show ¬ (c.closed.length : Int) ≤ 6 from by omega]
    refine answers_of rfl ?_; simp [covB, h]
theorem coves_spec (l : List Cov) (hl : l.length ≤ 9223372036854775807) (hc : ∀ k, k < l.length → (covAt l k).closed.length ≤ 9223372036854775807) : Spec Try.prog 81 [covL l] (.v (.bool (covesB l))) := by
  refine spec_of mixed Try.func81 (by decide) rfl Try.results81 Try.ntmps81 (by decide) 0 (by simp) ?_
  simp [covL]
  refine pop_spec (anyCov_spec l hl 112 [] [] rfl rfl (fun k => !covB (covAt l k)) fun k hk => coves1_spec (covAt l k) (hc k hk)) rfl false (.inl (by simp [covL])) (.inl rfl) rfl (by simp) ?_
  rw [any_not]
  simp
  refine answers_of rfl ?_; simp [covesB]
def visB (l : List Cov) (s : List Snd) (k : Nat) : Bool := inB (sndAt s k).day 0 400 && (decide (k = 0) || decide ((sndAt s (k - 1)).day ≤ (sndAt s k).day)) && inB (sndAt s k).cove 0 ((l.length : Int) - 1) && spanB ⟨(sndAt s k).low, (sndAt s k).high⟩ 0 100000
def visitsB (l : List Cov) (s : List Snd) : Bool := allN s.length (visB l s)
theorem visits_spec (l : List Cov) (s : List Snd) (hl : l.length ≤ 9223372036854775807) (hs : s.length ≤ 9223372036854775807) : Spec Try.prog 82 [covL l, sndL s] (.v (.bool (visitsB l s))) := by
  have w1 : IntKind.i64.wrap ((l.length : Int) - 1) = (l.length : Int) - 1 := i64_wrap (by omega)
  refine spec_of mixed Try.func82 (by decide) rfl Try.results82 Try.ntmps82 (by decide) 0 (by simp) ?_
  simp [covL, sndL]
  refine pwp_loop (fun k : Nat => [(9, .v (.int .i64 k))]) (fun k => k ≤ s.length ∧ ∀ j, j < k → visB l s j = true) (fun k => s.length - k) 0 ⟨Nat.zero_le _, fun j hj => by omega⟩ (by simp; rfl) (by simp) ?_
  intro k ⟨hk, hp⟩
  by_cases hkl : k < s.length
  · have wk := i64_wrap (show -9223372036854775808 ≤ (k : Int) + 1 ∧ _ from by omega)
    have bad : visB l s k = false → visitsB l s = false := fun hb => by simp [visitsB, allN_false hkl hb]
    simp [hkl, Snd.cells]
    refine pwp_draw 34 (by decide) ?_
    simp
    refine pd_spec (cin_spec (sndAt s k).day 0 400) rfl (by simp) (by simp) rfl ?_
    cases q1 : inB (sndAt s k).day 0 400 with
    | false =>
      simp
      refine ⟨by decide, ?_⟩
      refine answers_of rfl ?_; simp [bad (by simp [visB, q1])]
    | true =>
      by_cases h0 : k = 0
      · subst h0
        simp [w1]
        refine pd_spec (cin_spec (sndAt s 0).cove 0 ((l.length : Int) - 1)) rfl (by simp) (by simp) rfl ?_
        cases q2 : inB (sndAt s 0).cove 0 ((l.length : Int) - 1) with
        | false =>
          simp
          refine ⟨by decide, ?_⟩
          refine answers_of rfl ?_; simp [bad (by simp [visB, q2])]
        | true =>
          simp
          refine pd_spec (cspan_spec ⟨(sndAt s 0).low, (sndAt s 0).high⟩ 0 100000) (by simp [Spn.cells]) (by simp) (by simp [Spn.cells]) rfl ?_
          cases q3 : spanB ⟨(sndAt s 0).low, (sndAt s 0).high⟩ 0 100000 with
          | false =>
            simp
            refine ⟨by decide, ?_⟩
            refine answers_of rfl ?_; simp [bad (by simp [visB, q3])]
          | true =>
            simp
            refine ⟨by decide, ?_⟩
            refine again_of 1 ⟨by omega, fun j hj => ?_⟩ (by omega) ?_
            · obtain rfl : j = 0 := by omega
              simp [visB, q1, q2, q3]
            · simp [wk]
      · have e1 : IntKind.i64.wrap ((k : Int) - 1) = ((k - 1 : Nat) : Int) := by rw [i64_wrap (by omega)]; omega
        by_cases q4 : (sndAt s (k - 1)).day ≤ (sndAt s k).day
        · simp [h0, e1, show k - 1 < s.length from by omega, q4, Int.not_lt.2 q4, show 0 < k from by omega, w1]
          refine pd_spec (cin_spec (sndAt s k).cove 0 ((l.length : Int) - 1)) rfl (by simp) (by simp) rfl ?_
          cases q2 : inB (sndAt s k).cove 0 ((l.length : Int) - 1) with
          | false =>
            simp
            refine ⟨by decide, ?_⟩
            refine answers_of rfl ?_; simp [bad (by simp [visB, q2])]
          | true =>
            simp
            refine pd_spec (cspan_spec ⟨(sndAt s k).low, (sndAt s k).high⟩ 0 100000) (by simp [Spn.cells]) (by simp) (by simp [Spn.cells]) rfl ?_
            cases q3 : spanB ⟨(sndAt s k).low, (sndAt s k).high⟩ 0 100000 with
            | false =>
              simp
              refine ⟨by decide, ?_⟩
              refine answers_of rfl ?_; simp [bad (by simp [visB, q3])]
            | true =>
              simp
              refine ⟨by decide, ?_⟩
              refine again_of (k + 1) ⟨by omega, fun j hj => ?_⟩ (by omega) ?_
              · rcases Nat.lt_or_eq_of_le (Nat.le_of_lt_succ hj) with h | rfl
                · exact hp j h
                · simp [visB, q1, q2, q3, q4]
              · simp [wk]
        · simp [h0, e1, show k - 1 < s.length from by omega, q4, Int.not_le.1 q4, show 0 < k from by omega]
          refine ⟨by decide, ?_⟩
          refine answers_of rfl ?_; simp [bad (by simp [visB, q4, h0])]
  · have h5 : allN s.length (visB l s) = true := allN_spec.2 fun j hj => hp j (by omega)
    obtain rfl : k = s.length := by omega
    simp
    refine answers_of rfl ?_; simp [visitsB, h5]
def clsB (c : Cov) (day : Int) : Bool := anyN c.closed.length fun k => inB day (spnAt c.closed k).low (spnAt c.closed k).high
theorem closed1_spec (s : Spn) (day : Int) : Spec Try.prog 124 [.agg s.cells, .rp [.v (.int .i64 day)] 0] (.v (.bool (inB day s.low s.high))) := by
  refine spec_of mixed Try.func124 (by decide) rfl Try.results124 Try.ntmps124 (by decide) 0 (by simp) ?_
  simp [Spn.cells]
  refine pop_spec (cin_spec day s.low s.high) rfl false (.inl (by simp)) (.inl rfl) rfl (by simp) ?_
  simp
  refine answers_of rfl ?_; simp
theorem closed_spec (c : Cov) (day : Int) (hc : c.closed.length ≤ 9223372036854775807) : Spec Try.prog 117 [.agg c.cells, .v (.int .i64 day)] (.v (.bool (clsB c day))) := by
  refine spec_of mixed Try.func117 (by decide) rfl Try.results117 Try.ntmps117 (by decide) 0 (by simp) ?_
  simp [Cov.cells, spnL]
  refine pop_specF [(3, .undef), (7, .clo (.func 124) [] [.rp [.v (.int .i64 day)] 0])] (by simp) (anySpn_spec c.closed hc 124 [] [.rp [.v (.int .i64 day)] 0] rfl rfl (fun k => inB day (spnAt c.closed k).low (spnAt c.closed k).high) fun k hk => closed1_spec (spnAt c.closed k) day) rfl false (.inl (by simp [spnL])) (.inl rfl) rfl (by simp) ?_
  simp
  refine answers_of rfl ?_; simp [clsB]
end Go.Qg

namespace Go.Qg
open Go.RowKit (Below)
def ren1 (d s : Nat) (i : Nat) : Nat := if i = d then s else i
def PV.bareOf : PV → PV
  | .box _ cs => .box false cs
  | .rows _ ep e sz rs => .rows none ep e sz rs
  | .map _ ks vs => .map false ks vs
  | p => p
def mv (d s : Nat) (fr : PF) : PF := ((renL (ren1 d s) fr).set s ((fr.getD d .undef).bareOf.ren (ren1 d s))).set d ((rdAt d (fr.getD d .undef)).ren (ren1 d s))
section
variable {P : Program} {N : Nat} {B : Base} {w : World} {R : Nat → Nat → Prop} {Γ Γ' : Nat → Option Loc} {a : Act} {fr : PF} {π : Nat → Nat}
theorem Rep.keyed {u : Value} {p : PV} (hr : Rep w R Γ u p) (key : ∀ i l, Γ i = some l → Γ' (π i) = some l) : Rep w R Γ' u (p.ren π) :=
  hr.ren (.inr fun _ _ hb => ⟨hb, rfl⟩) fun i _ l hl => ⟨l, key i l hl, Loc.le_refl l⟩
theorem SlotRep.bareOf {n t t' : Nat} {u u' : Value} {p : PV} (hs : SlotRep n w R Γ t u p) (ho : p.isObj = true) (key : ∀ i l, Γ i = some l → Γ' (π i) = some l) (ht : Γ' t' = Γ t) : SlotRep n w R Γ' t' u' (p.bareOf.ren π) := by
  have parts : ∀ {cs : List PV} {r : Nat → Option Value}, (∀ (j : Nat) (x : Value) (p : PV), r j = some x → cs[j]? = some p → Rep w R Γ x p) → ∀ (j : Nat) (x : Value) (q : PV), r j = some x → (renL π cs)[j]? = some q → Rep w R Γ' x q := fun hr j x q hx hq => by
    rw [renL_get] at hq
    simp only [Option.map_eq_some_iff] at hq
    obtain ⟨p, hp, rfl⟩ := hq
    exact (hr j x p hx hp).keyed key
  have ones : ∀ {cs : List PV}, (∀ p ∈ cs, p.one = true) → ∀ q ∈ renL π cs, q.one = true := fun hc q hq => by
    obtain ⟨p, hp, rfl⟩ := renL_mem hq
    rw [PV.ren_one]; exact hc p hp
  cases p with
  | box fl cs =>
    obtain ⟨b, us, ty, h1, h2, h3, h4, h5, h6⟩ := hs
    exact ⟨b, us, ty, ht.trans h1, fun e => (by cases e), h3, by rw [renL_length]; exact h4, ones h5, parts (r := fun j => us[j]?) h6⟩
  | map fl ks us =>
    obtain ⟨b, es, clock, h1, h2, h3, h4, h5, h6, h7⟩ := hs
    refine ⟨b, es, clock, ht.trans h1, fun e => by (cases e), h3, by rw [renL_length]; exact h4, by rw [renL_length]; exact h5, fun j x q hx hq => ?_, fun j x q hx hq => ?_⟩
    · exact parts (r := fun j => (es[j]?).map (·.key)) (fun j u p hu hp => by
        simp only [Option.map_eq_some_iff] at hu
        obtain ⟨y, hy, rfl⟩ := hu
        exact h6 j y p hy hp) j x.key q (by simp [hx]) hq
    · exact parts (r := fun j => (es[j]?).map (·.val)) (fun j u p hu hp => by
        simp only [Option.map_eq_some_iff] at hu
        obtain ⟨y, hy, rfl⟩ := hu
        exact h7 j y p hy hp) j x.val q (by simp [hx]) hq
  | rows fl ep e sz rs =>
    obtain ⟨l, h1, h2, h3, h4, h5⟩ := hs
    refine ⟨l, ht.trans h1, fun ep0 n0 e => by (cases e), fun r hr => ?_, h4, ?_⟩
    · obtain ⟨i, hi⟩ := List.mem_iff_getElem?.1 hr
      rw [renLL_get] at hi
      simp only [Option.map_eq_some_iff] at hi
      obtain ⟨r', hr', rfl⟩ := hi
      have := h3 r' (List.mem_of_getElem? hr')
      exact ⟨by rw [renL_length]; exact this.1, ones this.2⟩
    · cases l with
      | none => subst h5; rfl
      | some bc =>
        obtain ⟨b, cap⟩ := bc
        obtain ⟨us, g1, g2, g3, g4, g5⟩ := h5
        refine ⟨us, g1, by rw [renLL_length]; exact g2, g3, g4, fun i j r q x hr hq hx => ?_⟩
        rw [renLL_get] at hr
        simp only [Option.map_eq_some_iff] at hr
        obtain ⟨r', hr', rfl⟩ := hr
        exact parts (r := fun j => us[i * sz + j]?) (fun j x p hx hp => g5 i j r' p x hr' hp hx) j x q hx hq
  | _ => cases ho
theorem SlotRep.keyed {n t : Nat} {u : Value} {p : PV} (hs : SlotRep n w R Γ t u p) (key : ∀ i l, Γ i = some l → Γ' (π i) = some l) (ht : p.isObj = true → Γ' t = Γ t ∧ π t = t) : SlotRep n w R Γ' t u (p.ren π) := by
  cases p with
  | box fl cs =>
    obtain ⟨e1, _⟩ := ht rfl
    obtain ⟨b, us, ty, h1, h2, h3⟩ := hs
    obtain ⟨b', us', ty', g1, _, g3, g4⟩ := SlotRep.bareOf (n := n) (u := u) (u' := u) (p := .box fl cs) ⟨b, us, ty, h1, h2, h3⟩ rfl key e1
    have : b' = b := by
      have := g1.symm.trans (e1.trans h1); simpa using this
    subst this
    exact ⟨b', us', ty', g1, h2, g3, g4⟩
  | map fl ks vs =>
    obtain ⟨e1, _⟩ := ht rfl
    obtain ⟨b, us, ck, h1, h2, h3⟩ := hs
    obtain ⟨b', us', ck', g1, _, g3, g4⟩ := SlotRep.bareOf (n := n) (u := u) (u' := u) (p := .map fl ks vs) ⟨b, us, ck, h1, h2, h3⟩ rfl key e1
    have : b' = b := by
      have := g1.symm.trans (e1.trans h1); simpa using this
    subst this
    exact ⟨b', us', ck', g1, h2, g3, g4⟩
  | rows fl ep e sz rs =>
    obtain ⟨e1, e2⟩ := ht rfl
    obtain ⟨l, h1, h2, h3⟩ := hs
    obtain ⟨l', g1, _, g3⟩ := SlotRep.bareOf (n := n) (u := u) (u' := u) (p := .rows fl ep e sz rs) ⟨l, h1, h2, h3⟩ rfl key e1
    refine ⟨l', g1, fun ep0 n0 he => ⟨(h2 ep0 n0 he).1, ?_⟩, g3⟩
    have := (h2 ep0 n0 he).2.keyed (Γ' := Γ') (π := π) key
    simp only [PV.ren, e2] at this
    exact this
  | _ => exact (Rep.keyed (SlotRep.val rfl hs) key).slot
theorem mv_sound (h : Sim N B R Γ a w fr) {d s : Nat} (hd : objAt fr d = true) (hs : objAt fr s = false) (hlt : s < fr.length) (hlo : d < B.lo) :
    Sim N B R (fun i => if i = s then Γ d else if i = d then none else Γ i) a w (mv d s fr) := by
  have hne : s ≠ d := fun e => by subst e; rw [hd] at hs; cases hs
  have hΓs : Γ s = none := h.noObj fun p hp => by simpa [objAt, hp] using hs
  obtain ⟨q, hq, hqo⟩ := objAt_some hd
  have hqd : fr.getD d .undef = q := by simp [List.getD, hq]
  have hdl : d < fr.length := lt_of_get? hq
  generalize hΓe : (fun i => if i = s then Γ d else if i = d then none else Γ i) = Γ'
  have key : ∀ i l, Γ i = some l → Γ' (ren1 d s i) = some l := fun i l hl => by
    rw [← hΓe]; unfold ren1
    split
    · rename_i e; subst e; simp [hl]
    · rename_i e
      have : i ≠ s := fun e2 => by subst e2; rw [hΓs] at hl; cases hl
      simp [this, e, hl]
  have hΓ' : ∀ i, i ≠ s → i ≠ d → Γ' i = Γ i := fun i h1 h2 => by rw [← hΓe]; simp [h1, h2]
  have hs' : Γ' s = Γ d := by rw [← hΓe]; simp
  have hd' : Γ' d = none := by rw [← hΓe]; simp [Ne.symm hne]
  have back : ∀ i l, Γ' i = some l → (i = s ∧ Γ d = some l) ∨ (i ≠ s ∧ i ≠ d ∧ Γ i = some l) := fun i l hl => by
    by_cases h1 : i = s
    · subst h1; exact .inl ⟨rfl, hs'.symm.trans hl⟩
    · by_cases h2 : i = d
      · subst h2; rw [hd'] at hl; cases hl
      · exact .inr ⟨h1, h2, (hΓ' i h1 h2).symm.trans hl⟩
  have hlen : (mv d s fr).length = fr.length := by simp [mv, renL_length]
  have gd : (mv d s fr)[d]? = some ((rdAt d q).ren (ren1 d s)) := by
    unfold mv; rw [hqd, List.getElem?_set_self (by simp [renL_length]; exact hdl)]
  have gs : (mv d s fr)[s]? = some (q.bareOf.ren (ren1 d s)) := by
    unfold mv; rw [hqd, List.getElem?_set_ne (Ne.symm hne), List.getElem?_set_self (by simp [renL_length]; exact hlt)]
  have go : ∀ i, i ≠ s → i ≠ d → (mv d s fr)[i]? = (fr[i]?).map (·.ren (ren1 d s)) := fun i h1 h2 => by
    unfold mv; rw [List.getElem?_set_ne (Ne.symm h2), List.getElem?_set_ne (Ne.symm h1), renL_get]
  have hbo : q.bareOf.isObj = true := by cases q <;> first | rfl | cases hqo
  refine ⟨h.size, by rw [hlen]; exact h.len, fun t p hp => ?_, fun i j l m b hi hj hl hm => ?_, fun i l hi => ?_, h.bnd, h.sub, h.kept, h.prot, h.lo, fun j l hj hl => ?_, h.defers⟩
  · by_cases h1 : t = d
    · subst h1
      rw [gd] at hp
      obtain rfl := Option.some.inj hp
      exact ((h.rdAt hq).keyed key).slot
    · by_cases h2 : t = s
      · subst h2
        rw [gs] at hp
        obtain rfl := Option.some.inj hp
        exact (h.slot d q hq).bareOf hqo key hs'
      · rw [go t h2 h1] at hp
        simp only [Option.map_eq_some_iff] at hp
        obtain ⟨p0, hp0, rfl⟩ := hp
        exact (h.slot t p0 hp0).keyed key fun _ => ⟨hΓ' t h2 h1, by simp [ren1, h1]⟩
  · rcases back i l hi with ⟨rfl, hi⟩ | ⟨i1, i2, hi⟩
    · rcases back j m hj with ⟨rfl, hj⟩ | ⟨j1, j2, hj⟩
      · rfl
      · exact absurd (h.inj _ _ _ _ b hi hj hl hm).symm j2
    · rcases back j m hj with ⟨rfl, hj⟩ | ⟨j1, j2, hj⟩
      · exact absurd (h.inj _ _ _ _ b hi hj hl hm) i2
      · exact h.inj _ _ _ _ b hi hj hl hm
  · rcases back i l hi with ⟨rfl, hi⟩ | ⟨i1, i2, hi⟩
    · exact ⟨⟨_, gs, by rw [PV.ren_obj]; exact hbo⟩, (h.own d l hi).2⟩
    · obtain ⟨⟨p, hp, ho⟩, h3⟩ := h.own i l hi
      exact ⟨⟨p.ren (ren1 d s), by rw [go i i1 i2, hp]; rfl, by rw [PV.ren_obj]; exact ho⟩, h3⟩
  · obtain ⟨l', h1, h2⟩ := h.base j l hj hl
    have n1 : j ≠ s := fun e => by subst e; rw [hΓs] at h1; cases h1
    have n2 : j ≠ d := fun e => by omega
    exact ⟨l', (hΓ' j n1 n2).trans h1, h2⟩
end
theorem weak_of_mv {M d s : Nat} {fr : PF} (hd : objAt fr d = true) (hs : objAt fr s = false) (hlt : s < fr.length) (hlo : d < M) : Weak M fr (mv d s fr) := fun N B a w hM ⟨R, Γ, h⟩ => by
  subst hM
  exact (mv_sound h hd hs hlt hlo).toE
theorem Weak.trans {M : Nat} {f g h : PF} (h1 : Weak M f g) (h2 : Weak M g h) : Weak M f h := fun N B a w hM hs => h2 N B a w hM (h1 N B a w hM hs)
def againW {σ : Type} (M : Nat) (H : σ → PF) (I : σ → Prop) (μ : σ → Nat) (s : σ) (fr : PF) : Prop := ∃ s', I s' ∧ μ s' < μ s ∧ Weak M fr (H s')
theorem againW_of {σ : Type} {M : Nat} {H : σ → PF} {I : σ → Prop} {μ : σ → Nat} {s : σ} {fr : PF} (s' : σ) (h1 : I s') (h2 : μ s' < μ s) (h3 : less M fr (H s')) : againW M H I μ s fr := ⟨s', h1, h2, weak_of_less h3⟩
theorem againW_mv {σ : Type} {M : Nat} {H : σ → PF} {I : σ → Prop} {μ : σ → Nat} {s : σ} {fr : PF} (d e : Nat) (hd : objAt fr d = true) (hs : objAt fr e = false) (hlt : e < fr.length) (hlo : d < M) (s' : σ) (h1 : I s') (h2 : μ s' < μ s) (h3 : less M (mv d e fr) (H s')) : againW M H I μ s fr :=
  ⟨s', h1, h2, (weak_of_mv hd hs hlt hlo).trans (weak_of_less h3)⟩
theorem pwp_loopW {P : Program} {M : Nat} {c : Code} {Q : PX → PF → Prop} {fr : PF} {σ : Type} (H : σ → PF) (I : σ → Prop) (μ : σ → Nat) (s0 : σ) (h0 : I s0) (e0 : less M fr (H s0))
    (round : ∀ s, I s → pwp P M c (thenP (againW M H I μ s) Q) (H s)) : pwp P M (.loop c) Q fr := fun X hX hW => by
  refine hW _ _ (weak_of_less e0) ?_
  have key : ∀ n s, μ s = n → I s → X (H s) := by
    intro n
    induction n using Nat.strongRecOn with
    | _ n ih =>
      intro s hn hI
      refine hX _ (pwp_mono c (fun e fr' he => ?_) (round s hI))
      cases e with
      | normal =>
        obtain ⟨s', h1, h2, h3⟩ := he
        exact hW _ _ h3 (ih (μ s') (hn ▸ h2) s' rfl h1)
      | _ => exact he
  exact key _ s0 rfl h0
end Go.Qg

namespace Go.Qg
def tab {α : Type} (n : Nat) (F : Nat → α) : List α := (List.range n).map F
section
variable {α β : Type}
@[simp] theorem tab_length (n : Nat) (F : Nat → α) : (tab n F).length = n := by simp [tab]
@[simp] theorem tab_zero (F : Nat → α) : tab 0 F = [] := rfl
theorem tab_get {n j : Nat} (F : Nat → α) (h : j < n) : (tab n F)[j]? = some (F j) := by simp [tab, h]
theorem tab_get_none {n j : Nat} (F : Nat → α) (h : n ≤ j) : (tab n F)[j]? = none := by simp [tab, h]
theorem tab_ext {n : Nat} {F G : Nat → α} (h : ∀ j, j < n → F j = G j) : tab n F = tab n G := by
  simp only [tab]; exact List.map_congr_left fun i hi => h i (List.mem_range.1 hi)
theorem tab_set (n j : Nat) (F : Nat → α) (x : α) : (tab n F).set j x = tab n fun i => if i = j then x else F i := by
  refine List.ext_getElem (by simp) fun i h1 h2 => ?_
  simp only [List.getElem_set, tab, List.getElem_map, List.getElem_range]
  by_cases h : j = i
  · rw [if_pos h, if_pos h.symm]
  · rw [if_neg h, if_neg (Ne.symm h)]
theorem tab_snoc (n : Nat) (F : Nat → α) (x : α) : tab n F ++ [x] = tab (n + 1) fun i => if i = n then x else F i := by
  refine List.ext_getElem? fun i => ?_
  rcases Nat.lt_trichotomy i n with h | h | h
  · rw [List.getElem?_append_left (by simpa using h), tab_get _ h, tab_get _ (by omega), if_neg (by omega)]
  · subst h
    rw [List.getElem?_append_right (by simp), tab_get _ (by omega)]; simp
  · rw [List.getElem?_append_right (by simp; omega), tab_get_none _ (by omega)]; simp; omega
theorem tab_mem {n : Nat} {F : Nat → α} {x : α} (h : x ∈ tab n F) : ∃ j, j < n ∧ F j = x := by simpa [tab] using h
theorem replicate_tab (n : Nat) (x : α) : List.replicate n x = tab n fun _ => x := by
  refine List.ext_getElem (by simp) fun i h1 h2 => ?_
  simp [tab]
end
theorem renL_tab (π : Nat → Nat) (n : Nat) (F : Nat → PV) : renL π (tab n F) = tab n fun j => (F j).ren π := by
  refine List.ext_getElem? fun i => ?_
  rw [renL_get]
  by_cases h : i < n
  · rw [tab_get _ h, tab_get _ h]; rfl
  · rw [tab_get_none _ (by omega), tab_get_none _ (by omega)]; rfl
theorem vwAll_tab {V : PV → PV → Prop} {n : Nat} {F G : Nat → PV} (h : ∀ j, j < n → V (F j) (G j)) : vwAll V (tab n F) (tab n G) := by
  have key : ∀ (l : List Nat), (∀ i ∈ l, V (F i) (G i)) → vwAll V (l.map F) (l.map G) := by
    intro l
    induction l with
    | nil => intro _; trivial
    | cons x l ih => intro h; exact ⟨h x List.mem_cons_self, ih fun i hi => h i (List.mem_cons_of_mem _ hi)⟩
  exact key _ fun i hi => h i (List.mem_range.1 hi)
theorem leF_tab {f : PF} {T : Tgt} {m d : Nat} {n : Nat} (t : Nat) {F G : Nat → PV} (h : ∀ j, j < n → vo f T d (t + j) (F j) (G j) ∧ (m ≤ t + j → (G j).isObj = true → (F j).isObj = true)) : leF f T m d t (tab n F) (tab n G) := by
  induction n generalizing t F G with
  | zero => trivial
  | succ n ih =>
    have e : ∀ (F : Nat → PV), tab (n + 1) F = F 0 :: tab n fun j => F (j + 1) := fun F => by
      simp only [tab, List.range_succ_eq_map, List.map_cons, List.map_map]; rfl
    rw [e F, e G]
    refine ⟨by simpa using h 0 (by omega), ih (t + 1) fun j hj => ?_⟩
    have := h (j + 1) (by omega)
    rwa [show t + (j + 1) = t + 1 + j from by omega] at this
theorem objAt_get {fr : PF} {i : Nat} {p : PV} (h : fr[i]? = some p) : objAt fr i = p.isObj := by simp [objAt, h]
theorem epAt_get {fr : PF} {i ep e sz : Nat} {fl : Option (Nat × Nat)} {rs : List (List PV)} (h : fr[i]? = some (.rows fl ep e sz rs)) : epAt fr i = some ep := by simp [epAt, h]
theorem namesL_tab_nil {n : Nat} {F : Nat → PV} (h : ∀ j, j < n → (F j).names = []) : namesL (tab n F) = [] := by
  refine List.eq_nil_iff_forall_not_mem.2 fun i hi => ?_
  obtain ⟨p, hp, hi⟩ := mem_namesL.1 hi
  obtain ⟨j, hj, rfl⟩ := tab_mem hp
  rw [h j hj] at hi; cases hi
def Fp.map (σ : Nat → Nat) (x : Fp) : Fp := ⟨x.rs.map σ, x.ss.map σ, x.ws.map σ, x.ts.map σ⟩
theorem contains_map {σ : Nat → Nat} (hσ : ∀ a b, σ a = σ b → a = b) (l : List Nat) (x : Nat) : (l.map σ).contains (σ x) = l.contains x := by
  rw [Bool.eq_iff_iff]
  simp only [List.contains_iff_mem, List.mem_map]
  exact ⟨fun ⟨a, h1, h2⟩ => hσ _ _ h2 ▸ h1, fun h => ⟨x, h, rfl⟩⟩
theorem Fp.indep_map {σ : Nat → Nat} (hσ : ∀ a b, σ a = σ b → a = b) (x y : Fp) : (x.map σ).indep (y.map σ) = x.indep y := by
  simp only [Fp.indep, Fp.map, List.all_map, Function.comp_def, contains_map hσ]
theorem pairsOk_map {σ : Nat → Nat} (hσ : ∀ a b, σ a = σ b → a = b) (m : List Nat) : ∀ (l : List Fp) (i : Nat) (before : List Fp), pairsOk m i (before.map (Fp.map σ)) (l.map (Fp.map σ)) = pairsOk m i before l
  | [], _, _ => rfl
  | y :: l, i, before => by
    have ih := pairsOk_map hσ m l (i + 1) (before ++ [y])
    simp only [List.map_append, List.map_cons, List.map_nil] at ih
    simp only [List.map_cons, pairsOk, ih, List.zipIdx_map, List.all_map, Function.comp_def, Prod.map, Fp.indep_map hσ, id_eq]
theorem drawOk_map {σ : Nat → Nat} (hσ : ∀ a b, σ a = σ b → a = b) {all : List Oper} {m : Nat} {its its' : List Fp} (he : its = its'.map (Fp.map σ)) (h : drawOk all m its' = true) : drawOk all m its = true := by
  subst he
  have := pairsOk_map hσ (befs all []) its' 0 []
  simp only [List.map_nil] at this
  rw [drawOk, this]; exact h
def shiftN (c j n : Nat) : Nat := if n < c then n else n + j
theorem shiftN_inj (c j : Nat) : ∀ a b, shiftN c j a = shiftN c j b → a = b := fun a b h => by
  unfold shiftN at h
  split at h <;> split at h <;> omega
end Go.Qg
