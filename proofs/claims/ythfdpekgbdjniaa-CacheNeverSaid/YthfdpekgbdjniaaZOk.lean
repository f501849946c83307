/-
  CacheNever: for every supply, plan and percentages the law returns true, and leaves its arguments as they were.
  No condition.
-/
import Derived.Test.YthfdpekgbdjniaaZOkp1
set_option linter.all false

namespace Go.Qg
set_option maxRecDepth 100000
theorem no_before {S : Sup} {plan b : List Int} {n m : Nat} (h : (runP S plan b m).2 = false) (hn : n ≤ m) : (runP S plan b n).2 = false := by
  cases hr : (runP S plan b n).2 with
  | false => rfl
  | true => rw [run_stays S plan b hr m hn] at h; cases h
theorem fly_fault {S : Sup} {b : List Int} {t : Int} : ∀ (c : Nat) (p : Pl), (flyP S b t c p).2 = true → (flyP S b t c p).1.flight < S.burns.length ∧ (burAt S.burns (flyP S b t c p).1.flight).day = t
  | 0, p, h => by simp [flyP] at h
  | c + 1, p, h => by
    simp only [flyP] at h ⊢
    by_cases h1 : p.flight < S.burns.length ∧ (burAt S.burns p.flight).day = t
    · rw [if_pos h1] at h ⊢
      by_cases h2 : hasL p.barrels t < gi b p.flight
      · rw [if_pos h2] at h ⊢; exact h1
      · rw [if_neg h2] at h ⊢; exact fly_fault c _ h
    · rw [if_neg h1] at h; cases h
theorem fault_day (S : Sup) (plan b : List Int) : ∀ N, (runP S plan b N).2 = true → (runP S plan b N).1.flight < S.burns.length ∧ ∀ m : Nat, (m : Int) ≤ (burAt S.burns (runP S plan b N).1.flight).day → (runP S plan b m).2 = false
  | 0, h => by simp [runP] at h
  | n + 1, h => by
    by_cases hr : (runP S plan b n).2 = true
    · have e : runP S plan b (n + 1) = runP S plan b n := by rw [runP, if_pos hr]
      rw [e] at h ⊢
      exact fault_day S plan b n hr
    · have e : runP S plan b (n + 1) = dayP S plan b n (runP S plan b n).1 := by rw [runP, if_neg hr]
      rw [e] at h ⊢
      obtain ⟨h1, h2⟩ := fly_fault _ _ h
      refine ⟨h1, fun m hm => ?_⟩
      have h2 : (burAt S.burns (dayP S plan b n (runP S plan b n).1).1.flight).day = n := h2
      rw [h2] at hm
      exact no_before (show (runP S plan b n).2 = false by simpa using hr) (by omega)
theorem ship_mono (S : Sup) (plan b : List Int) {n : Nat} : ∀ m, n ≤ m → (runP S plan b n).1.ship ≤ (runP S plan b m).1.ship
  | 0, h => by obtain rfl : n = 0 := by omega
               exact Nat.le_refl _
  | m + 1, h => by
    by_cases he : n = m + 1
    · rw [he]; exact Nat.le_refl _
    · have ih := ship_mono S plan b m (show n ≤ m by omega)
      refine Nat.le_trans ih ?_
      rw [runP]
      split
      · exact Nat.le_refl _
      · rw [show (dayP S plan b m (runP S plan b m).1).1.ship = (loadP S plan m (clearP m (runP S plan b m).1)).ship from flyP_ship ..]
        unfold loadP
        split
        · exact Nat.le_succ _
        · exact Nat.le_refl _
theorem ship_came {S : Sup} (hS : SupOk S) {plan b : List Int} {i : Nat} (hi : i < S.ships.length) (hno : (runP S plan b (shpAt S.ships i).day.toNat).2 = false) : i < (rrun S plan b (days S)).counts.length := by
  have hd := (hS.ship i hi).1
  have hD : ((shpAt S.ships i).day.toNat : Int) = (shpAt S.ships i).day := by omega
  have hat := (run_alike hS plan b (shpAt S.ships i).day.toNat).2.2.2 hno
  rw [hD] at hat
  have hship : (runP S plan b (shpAt S.ships i).day.toNat).1.ship = i := by
    rcases Nat.lt_trichotomy (runP S plan b (shpAt S.ships i).day.toNat).1.ship i with h1 | h1 | h1
    · have := hat.s2 _ (Nat.le_refl _) (by omega)
      have := hS.ship_lt h1 hi
      omega
    · exact h1
    · have := hat.s1 i h1; omega
  have hnext : (runP S plan b ((shpAt S.ships i).day.toNat + 1)).1.ship = i + 1 := by
    rw [runP, if_neg (by rw [hno]; simp), show (dayP S plan b (shpAt S.ships i).day.toNat (runP S plan b (shpAt S.ships i).day.toNat).1).1.ship = (loadP S plan (shpAt S.ships i).day.toNat (clearP (shpAt S.ships i).day.toNat (runP S plan b (shpAt S.ships i).day.toNat).1)).ship from flyP_ship ..]
    unfold loadP
    rw [show (clearP ((shpAt S.ships i).day.toNat : Int) (runP S plan b (shpAt S.ships i).day.toNat).1).ship = i from hship, if_pos ⟨hi, hD.symm⟩]
  have hl := lastD_ship hS hi
  have hm := ship_mono S plan b (n := (shpAt S.ships i).day.toNat + 1) (days S) (by unfold days; omega)
  rw [(seen_run hS plan b (days S)).len]
  omega
def FineAt (S : Sup) (plan b : List Int) (i : Nat) : Prop := (runP S plan b (shpAt S.ships i).day.toNat).2 = false ∧ (cntAt S plan b i).length ≤ 30
theorem fine_at {S : Sup} (hS : SupOk S) {plan b : List Int} (hpl : PlanOk S plan) (hb : InB S b) {i : Nat} (hi : i < S.ships.length) (hno : (runP S plan b (shpAt S.ships i).day.toNat).2 = false) (hc : gi (rrun S plan (lowsB S) (days S)).counts i ≤ 30) : FineAt S plan b i := by
  have h1 := ((ahead_low hS hpl hb _).1 hno).1
  have h2 := ship_came hS hi h1
  have h3 := (counts_at hS plan (lowsB S) (days S) i h2).2.2.1
  have h4 := cnt_le hS hpl hb hno
  exact ⟨hno, by omega⟩
theorem never_law {S : Sup} (hS : SupOk S) {plan b : List Int} (hpl : PlanOk S plan) (hb : InB S b) :
    (holdsP S plan = ⟨1, 0⟩ ∧ lackOf S plan b < 0 ∧ ∀ i, i < S.ships.length → FineAt S plan b i) ∨
    (∃ k : Nat, holdsP S plan = ⟨2, k⟩ ∧ k < S.burns.length ∧ lackOf S plan (highsB S) = k ∧ (lackOf S plan b < 0 ∨ (k : Int) ≤ lackOf S plan b) ∧ ∀ i, i < S.ships.length → (shpAt S.ships i).day ≤ (burAt S.burns k).day → FineAt S plan b i) ∨
    ∃ k : Nat, holdsP S plan = ⟨3, k⟩ ∧ k < S.ships.length ∧ (runP S plan (lowsB S) (shpAt S.ships k).day.toNat).2 = false ∧ 30 < (cntAt S plan (lowsB S) k).length ∧ (0 ≤ lackOf S plan b → (lackOf S plan b).toNat < S.burns.length ∧ (shpAt S.ships k).day ≤ (burAt S.burns (lackOf S plan b).toNat).day) ∧ ∀ i, i < k → FineAt S plan b i := by
  obtain ⟨s1, s2, s3⟩ := seen_run hS plan (lowsB S) (days S)
  have hca := counts_at hS plan (lowsB S) (days S)
  have hh := ahead_high hS hpl hb (days S)
  have hf1 := fault_day S plan (highsB S) (days S)
  have hf2 := fault_day S plan b (days S)
  have hfa := fun {i : Nat} (hi : i < S.ships.length) (hno : (runP S plan (highsB S) (shpAt S.ships i).day.toNat).2 = false) => fine_at hS hpl hb hi ((ahead_high hS hpl hb _).1 hno).1
  have hlb : lackOf S plan b = lackI (runP S plan b (days S)).2 (runP S plan b (days S)).1.flight := rfl
  have hlh : lackOf S plan (highsB S) = lackI (runP S plan (highsB S) (days S)).2 (runP S plan (highsB S) (days S)).1.flight := rfl
  rw [hlb, hlh]
  have hlen : ∀ i, i < S.ships.length → (shpAt S.ships i).day.toNat ≤ days S := fun i hi => by
    have := lastD_ship hS hi
    unfold days; omega
  have hnob : ∀ i, i < S.ships.length → (runP S plan (highsB S) (days S)).2 = false → (runP S plan (highsB S) (shpAt S.ships i).day.toNat).2 = false := fun i hi h => no_before h (hlen i hi)
  unfold holdsP
  simp only
  generalize hcs : crowdP S plan (lowsB S) (days S) = c at *
  generalize hC : (rrun S plan (lowsB S) (days S)).counts = C at *
  obtain ⟨hN, hd0⟩ : (∀ i, i < S.ships.length → 0 ≤ (shpAt S.ships i).day) ∧ True := ⟨fun i hi => (hS.ship i hi).1.1, trivial⟩
  cases hq : (runP S plan (highsB S) (days S)).2 with
  | false =>
    rw [hq] at hh
    have hb2 : (runP S plan b (days S)).2 = false := (hh.1 rfl).1
    have hL : lackI false (runP S plan (highsB S) (days S)).1.flight = -1 := rfl
    rw [hL, hb2, show lackI false (runP S plan b (days S)).1.flight = -1 from rfl]
    by_cases hc : 0 ≤ c.1
    · obtain ⟨k, k1, k2, k3, k4, k5⟩ := s3 hc
      obtain ⟨g1, g2, g3, g4⟩ := hca k k2
      rw [if_pos ⟨hc, .inl (by decide)⟩, k1]
      exact .inr (.inr ⟨k, rfl, g1, g2, by omega, fun h => by omega, fun i hi => hfa (by omega) (hnob i (by omega) hq) (k5 i hi)⟩)
    · obtain ⟨_, h2⟩ := s2 (by omega)
      rw [if_neg fun h => hc h.1, if_neg (by decide)]
      refine .inl ⟨rfl, by decide, fun i hi => hfa hi (hnob i hi hq) (h2 i ?_)⟩
      rw [← hC]
      exact ship_came hS hi ((ahead_low hS hpl (inB_high hS) _).1 (hnob i hi hq)).1
  | true =>
    rw [hq] at hh hf1
    obtain ⟨f1, f2⟩ := hf1 rfl
    have hL : lackI true (runP S plan (highsB S) (days S)).1.flight = ((runP S plan (highsB S) (days S)).1.flight : Int) := rfl
    rw [hL]
    generalize (runP S plan (highsB S) (days S)).1.flight = L at *
    simp only [Int.toNat_natCast]
    have hbf : ∀ (i : Nat), i < S.ships.length → (shpAt S.ships i).day ≤ (burAt S.burns L).day → (runP S plan (highsB S) (shpAt S.ships i).day.toNat).2 = false := fun i hi h => f2 _ (by have := hN i hi; omega)
    have hlack : 0 ≤ lackI (runP S plan b (days S)).2 (runP S plan b (days S)).1.flight → (runP S plan b (days S)).2 = true := fun h => by
      cases hb2 : (runP S plan b (days S)).2 with
      | true => rfl
      | false => rw [hb2] at h; simp only [lackI] at h; omega
    by_cases hc : 0 ≤ c.1
    · obtain ⟨k, k1, k2, k3, k4, k5⟩ := s3 hc
      obtain ⟨g1, g2, g3, g4⟩ := hca k k2
      by_cases hday : c.2 ≤ (burAt S.burns L).day
      · rw [if_pos ⟨hc, .inr hday⟩, k1]
        refine .inr (.inr ⟨k, rfl, g1, g2, by omega, fun h => ?_, fun i hi => hfa (by omega) (hbf i (by omega) ?_) (k5 i hi)⟩)
        · have hb2 := hlack h
          rw [hb2] at hh hf2
          rw [hb2, show lackI true (runP S plan b (days S)).1.flight = ((runP S plan b (days S)).1.flight : Int) from rfl]
          simp only [Int.toNat_natCast]
          have h3 := (hh.2 rfl).2
          have h4 := (hf2 rfl).1
          have := hS.burn_le h3 h4
          exact ⟨h4, by omega⟩
        · have := hS.ship_lt hi g1; omega
      · rw [if_neg fun h => by rcases h.2 with h | h <;> omega, if_pos (by omega)]
        refine .inr (.inl ⟨L, rfl, f1, rfl, ?_, fun i hi hid => hfa hi (hbf i hi hid) (k5 i ?_)⟩)
        · cases hb2 : (runP S plan b (days S)).2 with
          | false => exact .inl (by simp [lackI])
          | true => rw [hb2] at hh; exact .inr (by simp only [lackI]; have := (hh.2 rfl).2; omega)
        · rcases Nat.lt_or_ge i k with h | h
          · exact h
          · rcases Nat.lt_or_eq_of_le h with h | rfl
            · have := hS.ship_lt h hi; omega
            · omega
    · obtain ⟨_, h2⟩ := s2 (by omega)
      rw [if_neg fun h => hc h.1, if_pos (by omega)]
      refine .inr (.inl ⟨L, rfl, f1, rfl, ?_, fun i hi hid => hfa hi (hbf i hi hid) (h2 i ?_)⟩)
      · cases hb2 : (runP S plan b (days S)).2 with
        | false => exact .inl (by simp [lackI])
        | true => rw [hb2] at hh; exact .inr (by simp only [lackI]; have := (hh.2 rfl).2; omega)
      · rw [← hC]
        exact ship_came hS hi ((ahead_low hS hpl (inB_high hS) _).1 (hbf i hi hid)).1
theorem until_play {S : Sup} (hS : SupOk S) {plan b b' : List Int} {i : Nat} (hi : i < S.ships.length) (hb : ∀ j, j < (withS S i).burns.length → gi b' j = gi b j) (hno : (runP S plan b (shpAt S.ships i).day.toNat).2 = false) :
    lackOf (withS S i) (plan.take (i + 1)) b' = -1 ∧ (runP (withS S i) (plan.take (i + 1)) b' (days (withS S i))).1.barrels = cntAt S plan b i := by
  obtain ⟨h1, h2⟩ := run_with hS (plan := plan) (plan' := plan.take (i + 1)) hi (fun j hj => gi_take hj) hb hno
  exact ⟨by unfold lackOf; rw [h1]; rfl, h2⟩
end Go.Qg


namespace Go.Qg
open Go.Proofs
set_option maxRecDepth 100000
set_option linter.unusedSimpArgs false
set_option maxHeartbeats 4000000
attribute [local irreducible] pwp pops pdraw pop popCall pdCall thenP blockP scopeP pspec Spec answers ppost CallW
theorem take_snocBu {l : List Bur} {k : Nat} (h : k < l.length) : l.take (k + 1) = l.take k ++ [burAt l k] := by rw [List.take_add_one]; simp [burAt, h]
theorem supB_of {S : Sup} (h : SupOk S) : supB S = true := by
  have hb : storedB S.barrels = true := by
    simp only [storedB, Bool.and_eq_true, decide_eq_true_eq]
    refine ⟨h.nb, allN_spec.2 fun k hk => ?_⟩
    have := h.pos _ (brlAt_mem hk)
    simp only [brlB, Bool.and_eq_true, inB_spec]
    omega
  have h1 : allN S.burns.length (burB S.burns) = true := allN_spec.2 fun k hk => by
    have e1 := h.burn k hk
    have e2 : k = 0 ∨ (burAt S.burns (k - 1)).day ≤ (burAt S.burns k).day := by
      rcases Nat.eq_zero_or_pos k with h0 | h0
      · exact .inl h0
      · have := h.later (k - 1) (by omega)
        rw [show k - 1 + 1 = k from by omega] at this
        exact .inr this
    simp only [burB, Bool.and_eq_true, Bool.or_eq_true, decide_eq_true_eq, inB_spec, spanB_spec]
    exact ⟨⟨e1.1, e2⟩, e1.2⟩
  have h2 : allN S.ships.length (shpB S.ships) = true := allN_spec.2 fun k hk => by
    have e1 := h.ship k hk
    have e2 : k = 0 ∨ (shpAt S.ships (k - 1)).day < (shpAt S.ships k).day := by
      rcases Nat.eq_zero_or_pos k with h0 | h0
      · exact .inl h0
      · have := h.next (k - 1) (by omega)
        rw [show k - 1 + 1 = k from by omega] at this
        exact .inr this
    simp only [shpB, Bool.and_eq_true, Bool.or_eq_true, decide_eq_true_eq, inB_spec]
    exact ⟨⟨⟨⟨⟨e1.1, e2⟩, e1.2.1⟩, e1.2.2.1⟩, e1.2.2.2.1⟩, e1.2.2.2.2⟩
  simp only [supB, Bool.and_eq_true, decide_eq_true_eq, inB_spec]
  exact ⟨⟨⟨⟨⟨hb, h.nf⟩, h.ns⟩, h.k⟩, h1⟩, h2⟩
def ptsB (S : Sup) (w : List Int) (k : Nat) : List Int := (List.range k).map fun j => partI (burAt S.burns j).low (burAt S.burns j).high (geti w j)
theorem ptsB_length (S : Sup) (w : List Int) (k : Nat) : (ptsB S w k).length = k := by simp [ptsB]
theorem ptsB_succ (S : Sup) (w : List Int) (k : Nat) : ptsB S w k ++ [partI (burAt S.burns k).low (burAt S.burns k).high (geti w k)] = ptsB S w (k + 1) := by simp [ptsB, List.range_succ]
theorem ptsB_get {S : Sup} {w : List Int} {k j : Nat} (h : j < k) : geti (ptsB S w k) j = partI (burAt S.burns j).low (burAt S.burns j).high (geti w j) := by simp [ptsB, geti, h]
theorem ptsB_in {S : Sup} (hS : SupOk S) {w : List Int} (hw : ∀ j, j < S.burns.length → 0 ≤ geti w j ∧ geti w j ≤ 100) : InB S (ptsB S w S.burns.length) := ⟨ptsB_length S w _, fun k hk => by
  rw [gi_geti, ptsB_get hk]
  exact partI_in (hS.burn k hk).2.2.1 (hw k hk)⟩
structure WithOk (S : Sup) (plan b : List Int) (i : Nat) : Prop where
  ok : SupOk (withS S i)
  nf : (withS S i).burns.length ≤ S.burns.length
  ns : (withS S i).ships.length = i + 1
  pl : PlanOk (withS S i) (plan.take (i + 1))
  bs : ∀ j, j < (withS S i).burns.length → burAt (withS S i).burns j = burAt S.burns j
theorem with_ok {S : Sup} (hS : SupOk S) {plan : List Int} (hpl : PlanOk S plan) {i : Nat} (hi : i < S.ships.length) (b : List Int) : WithOk S plan b i := by
  obtain ⟨m, h⟩ := part_with hS hi
  have hl : (withS S i).ships.length = i + 1 := by rw [h.s, List.length_take]; omega
  have hm : (withS S i).burns.length = m := by rw [h.f, List.length_take]; have := h.ml; omega
  have hml := h.ml
  have hlen := hpl.len
  refine ⟨supOk_part hS h, by omega, hl, ⟨by rw [List.length_take]; omega, fun j hj => ?_⟩, fun j hj => by rw [h.f, burAt_take (by omega)]⟩
  rw [h.s, gi_take (by omega), shpAt_take (by omega)]
  exact hpl.each j (by omega)
theorem with_play {S : Sup} (hS : SupOk S) {plan b : List Int} (hpl : PlanOk S plan) {i : Nat} (hi : i < S.ships.length) (b' : List Int) (hb : InB S b) (hbl : b'.length = (withS S i).burns.length) (hb2 : ∀ j, j < (withS S i).burns.length → gi b' j = gi b j) (hno : (runP S plan b (shpAt S.ships i).day.toNat).2 = false) :
    ∃ x y z u, Spec Try.prog 25 [.agg (withS S i).cells, ints (plan.take (i + 1)), ints b'] (.tup [.agg (stockC x y z u (sumK (cntAt S plan b i))), .agg [brlL (cntAt S plan b i)], .v (.int .i64 (-1)), .v (.int .i64 0)]) := by
  have hw := with_ok hS hpl hi b
  have h := hw.ok
  obtain ⟨e1, e2⟩ := until_play hS (plan := plan) hi hb2 hno
  have hbo : BurnsOk (withS S i) b' := ⟨hbl, fun j hj => by
    rw [hb2 j hj]
    have h1 := hb.each j (by have := hw.nf; omega)
    have h2 := hS.burn j (by have := hw.nf; omega)
    omega⟩
  have hp := Play_spec (withS S i) (plan.take (i + 1)) b' (by have := h.nb; omega) (by have := h.nf; omega) (by have := h.ns; omega) (by rw [List.length_take]; have := hw.ns; have := h.ns; omega) (by have := h.nf; omega)
  rw [playRes_ok (by simp only [playB, supB_of h, planned_of hw.pl, burns_of hbo]; rfl), e1, e2] at hp
  exact ⟨_, _, _, _, hp⟩
theorem lUntil_spec (S : Sup) (k : Nat) (hk : k < S.ships.length) (hf : S.burns.length ≤ 1000) (hs : S.ships.length ≤ 1000) : Spec Try.prog 46 [.agg S.cells, .v (.int .i64 k)] (.agg (withS S k).cells) := by
  have w1 := i64_wrap (show -9223372036854775808 ≤ (k : Int) + 1 ∧ _ from by omega)
  have e : withS S k = ⟨S.barrels, S.burns.filter (fun b => decide (b.day < (shpAt S.ships k).day)), S.ships.take (k + 1), S.kilos⟩ := rfl
  rw [e]
  refine spec_of mixed Try.func46 (by decide) rfl Try.results46 Try.ntmps46 (by decide) 1 (by simp) ?_
  simp [Sup.cells, brlL, burL, shpL]
  refine pwp_draw 11 (by decide) ?_
  simp [w1, hk, show (0 : Int) ≤ (k : Int) + 1 from by omega, show (k : Int) + 1 ≤ (S.ships.length : Int) from by omega]
  refine ⟨by decide, ?_⟩
  refine pwp_loop (fun j : Nat => [(6, .v (.int .i64 j)), (5, .box true [brlL S.barrels, .own 48 ((S.burns.take j).filter fun b => decide (b.day < (shpAt S.ships k).day)).length 0 ((S.burns.take j).filter fun b => decide (b.day < (shpAt S.ships k).day)).length false, .sl 5 (k + 1) fun i => (shpAt S.ships i).cells, .v (.int .i64 S.kilos)]), (38, .undef), (45, .undef), (48, .rows none ((S.burns.take j).filter fun b => decide (b.day < (shpAt S.ships k).day)).length 85 3 (rowsBu ((S.burns.take j).filter fun b => decide (b.day < (shpAt S.ships k).day))))]) (fun j => j ≤ S.burns.length) (fun j => S.burns.length - j) 0 (Nat.zero_le _) (by simp; rfl) (by simp [brlL]) ?_
  intro j hj
  by_cases hjl : j < S.burns.length
  · have wj := i64_wrap (show -9223372036854775808 ≤ (j : Int) + 1 ∧ _ from by omega)
    have hsn := take_snocBu hjl
    have hlen : ((S.burns.take j).filter fun b => decide (b.day < (shpAt S.ships k).day)).length ≤ j := Nat.le_trans (List.length_filter_le _ _) (by rw [List.length_take]; omega)
    simp [hjl]
    refine pwp_draw 13 (by decide) ?_
    simp [hjl, hk, Bur.cells, Shp.cells]
    refine ⟨by decide, ?_⟩
    by_cases hq : (burAt S.burns j).day < (shpAt S.ships k).day
    · have hf1 : (S.burns.take (j + 1)).filter (fun b => decide (b.day < (shpAt S.ships k).day)) = (S.burns.take j).filter (fun b => decide (b.day < (shpAt S.ships k).day)) ++ [burAt S.burns j] := by rw [hsn, List.filter_append]; simp [hq]
      simp [hq]
      refine pwp_draw 10 (by decide) ?_
      generalize (S.burns.take j).filter (fun b => decide (b.day < (shpAt S.ships k).day)) = F at *
      simp [hjl, show (F.length + 1) * 24 ≤ 140737488355328 from by omega, show F.length + 1 ≤ maxLen from by simp [maxLen]; omega, Bur.cells]
      refine ⟨by decide, ?_⟩
      refine again_of (j + 1) (by omega) (by omega) ?_
      have e2 := rowsBu_snoc F (burAt S.burns j)
      simp only [Bur.cells] at e2
      simp [hf1, e2, wj, brlL]
    · have hf1 : (S.burns.take (j + 1)).filter (fun b => decide (b.day < (shpAt S.ships k).day)) = (S.burns.take j).filter (fun b => decide (b.day < (shpAt S.ships k).day)) := by rw [hsn, List.filter_append]; simp [hq]
      simp [hq]
      refine again_of (j + 1) (by omega) (by omega) ?_
      simp [hf1, wj, brlL]
  · obtain rfl : j = S.burns.length := by omega
    rw [List.take_length]
    simp [brlL]
    generalize S.burns.filter (fun b => decide (b.day < (shpAt S.ships k).day)) = F
    refine answers_of (by simp; rfl) ?_
    simp
    refine ⟨fun j hj => ?_, by omega, fun j hj => by rw [shpAt_take (by omega)]⟩
    simp [rowsBu_get hj, Bur.cells]
end Go.Qg


namespace Go.Qg
open Go.Proofs
set_option maxRecDepth 100000
set_option linter.unusedSimpArgs false
set_option maxHeartbeats 200000000
attribute [local irreducible] pwp pops pdraw pop popCall pdCall thenP blockP scopeP pspec Spec answers ppost CallW
theorem joinA {α : Type} (H : α → Prop) {G : α → Prop} {X : Prop} (h1 : Hold (∀ a, H a → G a) → X) (h2 : ∀ a, H a → G a) : X := h1 ⟨h2⟩
theorem ints_take_same {l : List Int} {n : Nat} (h : n ≤ l.length) : ∃ sz m f g, ints (l.take n) = .sl sz m f ∧ (PV.sl 1 n fun j => [.v (.int .i64 (geti l j))]) = .sl sz m g ∧ ∀ i, i < m → f i = g i :=
  ⟨1, n, fun j => [.v (.int .i64 (geti (l.take n) j))], _, by rw [ints, List.length_take, Nat.min_eq_left h], rfl, fun i hi => by simp [geti, List.getElem?_take_of_lt hi]⟩
theorem CacheNever_spec (S : Sup) (plan w : List Int) (hl : S.barrels.length ≤ 9223372036854775807) (hf : S.burns.length ≤ 9223372036854775807) (hs : S.ships.length ≤ 9223372036854775807) (hp : plan.length ≤ 9223372036854775807) (hw : w.length ≤ 9223372036854775807) :
    Spec Try.prog 10 [.agg S.cells, ints plan, ints w] (.v (.bool true)) := by
  refine spec_of mixed Try.func10 (by decide) rfl Try.results10 Try.ntmps10 (by decide) 1 (by simp) ?_
  simp [Sup.cells, brlL, burL, shpL, ints]
  refine pop_spec (lbrief_spec S) rfl false (.inl (by simp [Sup.cells, brlL, burL, shpL])) (.inl rfl) rfl (by simp) ?_
  cases g1 : briefB S with
  | false =>
    simp
    refine pop_spec known_spec rfl false (.inl (by simp)) (.inl rfl) rfl (by simp) ?_
    simp
    refine answers_of rfl ?_; simp
  | true =>
  simp
  refine pop_spec (rSupply_spec S hl hf hs) rfl false (.inl (by simp [Sup.cells, brlL, burL, shpL])) (.inl rfl) rfl (by simp) ?_
  cases h1 : supB S with
  | false =>
    simp
    refine pop_spec known_spec rfl false (.inl (by simp)) (.inl rfl) rfl (by simp) ?_
    simp
    refine answers_of rfl ?_; simp
  | true =>
  simp
  refine pop_spec (rPlan_spec S plan hp hs) rfl false (.inl (by simp [Sup.cells, brlL, burL, shpL, ints])) (.inl rfl) rfl (by simp) ?_
  cases h2 : plannedB S plan with
  | false =>
    simp
    refine pop_spec known_spec rfl false (.inl (by simp)) (.inl rfl) rfl (by simp) ?_
    simp
    refine answers_of rfl ?_; simp
  | true =>
  have hS := supB_ok h1
  have hpl := planned_ok h2
  have hnb := hS.nb
  have hnf := hS.nf
  have hns := hS.ns
  have hplen := hpl.len
  by_cases hwl : w.length = S.burns.length
  case neg =>
    simp [show ¬ (w.length : Int) = (S.burns.length : Int) from by omega, hwl]
    refine pop_spec known_spec rfl false (.inl (by simp)) (.inl rfl) rfl (by simp) ?_
    simp
    refine answers_of rfl ?_; simp
  simp [show (w.length : Int) = (S.burns.length : Int) from by omega, hwl]
  refine pwp_loop (fun k : Nat => [(7, .own 275 k 0 k false), (8, .v (.int .i64 k)), (73, .undef), (86, .undef), (275, .rows none k 3 1 (rowsI (ptsB S w k)))]) (fun k => k ≤ S.burns.length ∧ ∀ j, j < k → 0 ≤ geti w j ∧ geti w j ≤ 100) (fun k => S.burns.length - k) 0 ⟨Nat.zero_le _, fun j hj => by omega⟩ (by simp; rfl) (by simp [ptsB]) ?_
  intro k ⟨hk, hq⟩
  by_cases hkl : k < S.burns.length
  · as_aux_lemma =>
      have wk := i64_wrap (show -9223372036854775808 ≤ (k : Int) + 1 ∧ _ from by omega)
      by_cases q1 : geti w k < 0
      · simp [hkl, hwl, q1]
        refine pop_spec known_spec rfl false (.inl (by simp)) (.inl rfl) rfl (by simp) ?_
        simp
        refine answers_of rfl ?_; simp
      by_cases q2 : 100 < geti w k
      · simp [hkl, hwl, q1, Int.not_lt.1 q1, q2]
        refine pop_spec known_spec rfl false (.inl (by simp)) (.inl rfl) rfl (by simp) ?_
        simp
        refine answers_of rfl ?_; simp
      have hlk := (hS.burn k hkl).2
      have hpart := lpart_spec ⟨(burAt S.burns k).low, (burAt S.burns k).high⟩ (geti w k) hlk.1 hlk.2.1 (show (burAt S.burns k).high ≤ 100000 from by omega) (by omega)
      simp only at hpart
      simp [hkl, hwl, q1, Int.not_lt.1 q1, q2, Int.not_lt.1 q2]
      refine pwp_draw 14 (by decide) ?_
      simp [hkl, hwl, Bur.cells]
      refine pd_spec hpart (by simp [Spn.cells]) (by simp) (by simp [Spn.cells]) rfl ?_
      simp [ptsB_length, show (k + 1) * 8 ≤ 140737488355328 from by omega, show k + 1 ≤ maxLen from by simp [maxLen]; omega]
      refine ⟨by decide, ?_⟩
      refine again_of (k + 1) ⟨by omega, fun j hj => ?_⟩ (by omega) ?_
      · rcases Nat.lt_or_eq_of_le (Nat.le_of_lt_succ hj) with h' | rfl
        · exact hq j h'
        · omega
      · have er := rowsI_snoc (ptsB S w k) (partI (burAt S.burns k).low (burAt S.burns k).high (geti w k))
        rw [ptsB_succ] at er
        have et : List.take k (ptsB S w k) = ptsB S w k := List.take_of_length_le (by rw [ptsB_length]; exact Nat.le_refl _)
        simp [wk, er, et]
  obtain rfl : k = S.burns.length := by omega
  have hin := ptsB_in hS hq
  have hbl := ptsB_length S w S.burns.length
  generalize hP : ptsB S w S.burns.length = P at hin hbl
  have hbo := hin.ok hS
  have hholds := Holds_spec S plan hl hf hs hp
  rw [h1, h2] at hholds
  simp only [Bool.true_and, if_true] at hholds
  have hplay := Play_spec S plan P hl hf hs hp (by omega)
  rw [playRes_ok (by simp only [playB, h1, h2, burns_of hbo]; rfl)] at hplay
  have hlaw := never_law hS hpl hin
  have hrend := fun hi => rEnds_spec S (by omega) hi
  have hhb := (inB_high hS).ok hS
  have hph := Play_spec S plan (highsB S) hl hf hs hp (by have := hhb.len; omega)
  rw [playRes_ok (by simp only [playB, h1, h2, burns_of hhb]; rfl)] at hph
  have hplow := hrend false
  have hphigh := hrend true
  simp only [Bool.false_eq_true, if_false, if_true] at hplow hphigh
  simp
  generalize holdsP S plan = F at hholds hlaw
  obtain ⟨r, o⟩ := F
  refine pop_specF [(7, ints P), (275, .undef), (73, .undef), (86, .undef)] ?_ hholds rfl false (.inl (by simp [Sup.cells, brlL, burL, shpL, ints])) (.inl rfl) rfl (by simp [fltV]) ?_
  · simp [ints, hbl, hP]
    intro k hk
    rw [rowsI_get (by omega)]
    simp
  simp [fltV]
  refine pop_spec hplay rfl false (.inl (by simp [Sup.cells, brlL, burL, shpL, ints])) (.inl rfl) rfl (by simp [brlL]) ?_
  simp (config := { maxSteps := 4000000 }) [brlL, stockC]
  generalize lackOf S plan P = L at hlaw
  apply joinA (fun many : Nat => many ≤ S.ships.length ∧ ∀ i, i < many → FineAt S plan P i)
  · intro hG
    have hlaw2 := hlaw
    rcases hlaw2 with ⟨hF, hL, hfine⟩ | ⟨k, hF, hk1, hlh, hL, hfine⟩ | ⟨k, hF, hk1, hno, hcnt, hL, hfine⟩
    · obtain ⟨hr, ho⟩ := Flt.mk.inj hF
      simp (config := { maxSteps := 4000000 }) [hr, ho, show ¬ 0 ≤ L from by omega, hL]
      obtain ⟨many, hmany⟩ : ∃ m : Nat, m = S.ships.length := ⟨_, rfl⟩
      refine pwp_loopF [(15, .v (.int .i64 many)), (9, .undef), (10, .undef), (11, .undef), (12, .undef), (13, .undef), (14, .undef), (16, .undef), (17, .undef), (18, .undef), (19, .undef), (20, .undef), (21, .undef), (22, .undef), (23, .undef), (24, .undef), (87, .undef), (88, .undef), (89, .undef), (90, .undef), (91, .undef), (92, .undef), (93, .undef), (94, .undef), (95, .undef), (96, .undef), (97, .undef), (98, .undef), (99, .undef), (100, .undef), (101, .undef), (102, .undef), (103, .undef), (104, .undef), (105, .undef), (106, .undef), (107, .undef), (108, .undef), (109, .undef), (110, .undef), (111, .undef), (112, .undef), (113, .undef), (114, .undef), (115, .undef), (116, .undef), (117, .undef), (118, .undef), (119, .undef), (120, .undef), (121, .undef), (122, .undef), (123, .undef), (124, .undef), (125, .undef), (126, .undef), (127, .undef), (128, .undef), (129, .undef), (130, .undef), (131, .undef), (132, .undef), (133, .undef), (134, .undef), (135, .undef), (136, .undef), (137, .undef), (138, .undef), (139, .undef), (140, .undef), (141, .undef), (142, .undef), (143, .undef), (144, .undef), (145, .undef), (146, .undef), (147, .undef), (148, .undef), (149, .undef), (150, .undef), (151, .undef), (152, .undef), (153, .undef), (154, .undef), (155, .undef), (156, .undef), (157, .undef), (158, .undef), (159, .undef), (160, .undef), (161, .undef), (162, .undef), (163, .undef), (164, .undef), (165, .undef), (166, .undef), (167, .undef), (168, .undef), (169, .undef), (170, .undef), (171, .undef), (172, .undef), (173, .undef), (174, .undef), (175, .undef), (176, .undef), (177, .undef), (178, .undef), (179, .undef), (180, .undef), (181, .undef), (182, .undef), (183, .undef), (184, .undef), (185, .undef), (186, .undef), (187, .undef), (188, .undef), (189, .undef), (190, .undef), (191, .undef), (192, .undef), (193, .undef), (194, .undef), (195, .undef), (196, .undef), (197, .undef), (198, .undef), (199, .undef), (200, .undef), (201, .undef), (202, .undef), (203, .undef), (204, .undef), (205, .undef), (206, .undef), (207, .undef), (208, .undef), (209, .undef), (210, .undef), (211, .undef), (212, .undef), (213, .undef), (214, .undef), (215, .undef), (216, .undef), (217, .undef), (218, .undef), (219, .undef), (220, .undef), (221, .undef), (222, .undef), (223, .undef), (224, .undef), (225, .undef), (226, .undef), (227, .undef), (228, .undef), (229, .undef), (230, .undef), (231, .undef), (232, .undef), (233, .undef), (234, .undef), (235, .undef), (236, .undef), (237, .undef)] (by simp [hmany, ints]) ?_
      simp
      exact hG.h many ⟨by omega, fun i hi => hfine i (by omega)⟩
    · focus
        obtain ⟨hr, ho⟩ := Flt.mk.inj hF
        rw [hlh] at hph
        simp (config := { maxSteps := 4000000 }) [hr, ho]
        refine pwp_draw 16 (by decide) ?_
        simp (config := { maxSteps := 4000000 })
        refine pd_spec hphigh (by simp [Sup.cells, brlL, burL, shpL]) (by simp) (by simp [Sup.cells, brlL, burL, shpL]) (by simp [ints]) ?_
        simp (config := { maxSteps := 4000000 }) [ints]
        refine pd_spec hph (by simp [Sup.cells, brlL, burL, shpL, ints]) (by simp) (by simp [Sup.cells, brlL, burL, shpL, ints]) (by simp [brlL, stockC]) ?_
        simp (config := { maxSteps := 4000000 }) [brlL, stockC]
        refine ⟨by decide, ?_⟩
        have hLL : L < 0 ∨ 0 ≤ L ∧ (k : Int) ≤ L := by omega
        rcases hLL with c | ⟨c1, c2⟩
        case' inl => simp (config := { maxSteps := 4000000 }) [hr, ho, show ¬ 0 ≤ L from by omega, c]
        case' inr => simp (config := { maxSteps := 4000000 }) [hr, ho, c1, Int.not_lt.2 c1, c2, Int.not_lt.2 c2]
        all_goals
          refine pwp_loop (fun m : Nat => [(15, .v (.int .i64 m))]) (fun m => m ≤ S.ships.length ∧ ∀ i, i < m → (shpAt S.ships i).day ≤ (burAt S.burns k).day) (fun m => S.ships.length - m) 0 ⟨Nat.zero_le _, fun i hi => by omega⟩ (by simp; rfl) (by simp) ?_
          intro m ⟨hm, hq⟩
          have wm := i64_wrap (show -9223372036854775808 ≤ (m : Int) + 1 ∧ _ from by omega)
          simp
          refine pwp_draw 20 (by decide) ?_
          by_cases hml : m < S.ships.length
          · by_cases hd : (shpAt S.ships m).day ≤ (burAt S.burns k).day
            · simp (config := { maxSteps := 4000000 }) [hml, hk1, hd, Shp.cells, Bur.cells]
              refine ⟨by decide, ?_⟩
              refine again_of (m + 1) ⟨hml, fun i hi => ?_⟩ (by omega) ?_
              · rcases Nat.lt_or_eq_of_le (Nat.le_of_lt_succ hi) with h' | rfl
                · exact hq i h'
                · exact hd
              · simp [wm]
            · simp (config := { maxSteps := 4000000 }) [hml, hk1, hd, Shp.cells, Bur.cells]
              refine ⟨by decide, ?_⟩
              refine pwp_loopF [(15, .v (.int .i64 m)), (9, .undef), (10, .undef), (11, .undef), (12, .undef), (13, .undef), (14, .undef), (16, .undef), (17, .undef), (18, .undef), (19, .undef), (20, .undef), (21, .undef), (22, .undef), (23, .undef), (24, .undef), (87, .undef), (88, .undef), (89, .undef), (90, .undef), (91, .undef), (92, .undef), (93, .undef), (94, .undef), (95, .undef), (96, .undef), (97, .undef), (98, .undef), (99, .undef), (100, .undef), (101, .undef), (102, .undef), (103, .undef), (104, .undef), (105, .undef), (106, .undef), (107, .undef), (108, .undef), (109, .undef), (110, .undef), (111, .undef), (112, .undef), (113, .undef), (114, .undef), (115, .undef), (116, .undef), (117, .undef), (118, .undef), (119, .undef), (120, .undef), (121, .undef), (122, .undef), (123, .undef), (124, .undef), (125, .undef), (126, .undef), (127, .undef), (128, .undef), (129, .undef), (130, .undef), (131, .undef), (132, .undef), (133, .undef), (134, .undef), (135, .undef), (136, .undef), (137, .undef), (138, .undef), (139, .undef), (140, .undef), (141, .undef), (142, .undef), (143, .undef), (144, .undef), (145, .undef), (146, .undef), (147, .undef), (148, .undef), (149, .undef), (150, .undef), (151, .undef), (152, .undef), (153, .undef), (154, .undef), (155, .undef), (156, .undef), (157, .undef), (158, .undef), (159, .undef), (160, .undef), (161, .undef), (162, .undef), (163, .undef), (164, .undef), (165, .undef), (166, .undef), (167, .undef), (168, .undef), (169, .undef), (170, .undef), (171, .undef), (172, .undef), (173, .undef), (174, .undef), (175, .undef), (176, .undef), (177, .undef), (178, .undef), (179, .undef), (180, .undef), (181, .undef), (182, .undef), (183, .undef), (184, .undef), (185, .undef), (186, .undef), (187, .undef), (188, .undef), (189, .undef), (190, .undef), (191, .undef), (192, .undef), (193, .undef), (194, .undef), (195, .undef), (196, .undef), (197, .undef), (198, .undef), (199, .undef), (200, .undef), (201, .undef), (202, .undef), (203, .undef), (204, .undef), (205, .undef), (206, .undef), (207, .undef), (208, .undef), (209, .undef), (210, .undef), (211, .undef), (212, .undef), (213, .undef), (214, .undef), (215, .undef), (216, .undef), (217, .undef), (218, .undef), (219, .undef), (220, .undef), (221, .undef), (222, .undef), (223, .undef), (224, .undef), (225, .undef), (226, .undef), (227, .undef), (228, .undef), (229, .undef), (230, .undef), (231, .undef), (232, .undef), (233, .undef), (234, .undef), (235, .undef), (236, .undef), (237, .undef)] (by simp [ints]) ?_
              simp
              exact hG.h m ⟨hm, fun i hi => hfine i (by omega) (hq i hi)⟩
          · simp (config := { maxSteps := 4000000 }) [hml]
            refine ⟨by decide, ?_⟩
            refine pwp_loopF [(15, .v (.int .i64 m)), (9, .undef), (10, .undef), (11, .undef), (12, .undef), (13, .undef), (14, .undef), (16, .undef), (17, .undef), (18, .undef), (19, .undef), (20, .undef), (21, .undef), (22, .undef), (23, .undef), (24, .undef), (87, .undef), (88, .undef), (89, .undef), (90, .undef), (91, .undef), (92, .undef), (93, .undef), (94, .undef), (95, .undef), (96, .undef), (97, .undef), (98, .undef), (99, .undef), (100, .undef), (101, .undef), (102, .undef), (103, .undef), (104, .undef), (105, .undef), (106, .undef), (107, .undef), (108, .undef), (109, .undef), (110, .undef), (111, .undef), (112, .undef), (113, .undef), (114, .undef), (115, .undef), (116, .undef), (117, .undef), (118, .undef), (119, .undef), (120, .undef), (121, .undef), (122, .undef), (123, .undef), (124, .undef), (125, .undef), (126, .undef), (127, .undef), (128, .undef), (129, .undef), (130, .undef), (131, .undef), (132, .undef), (133, .undef), (134, .undef), (135, .undef), (136, .undef), (137, .undef), (138, .undef), (139, .undef), (140, .undef), (141, .undef), (142, .undef), (143, .undef), (144, .undef), (145, .undef), (146, .undef), (147, .undef), (148, .undef), (149, .undef), (150, .undef), (151, .undef), (152, .undef), (153, .undef), (154, .undef), (155, .undef), (156, .undef), (157, .undef), (158, .undef), (159, .undef), (160, .undef), (161, .undef), (162, .undef), (163, .undef), (164, .undef), (165, .undef), (166, .undef), (167, .undef), (168, .undef), (169, .undef), (170, .undef), (171, .undef), (172, .undef), (173, .undef), (174, .undef), (175, .undef), (176, .undef), (177, .undef), (178, .undef), (179, .undef), (180, .undef), (181, .undef), (182, .undef), (183, .undef), (184, .undef), (185, .undef), (186, .undef), (187, .undef), (188, .undef), (189, .undef), (190, .undef), (191, .undef), (192, .undef), (193, .undef), (194, .undef), (195, .undef), (196, .undef), (197, .undef), (198, .undef), (199, .undef), (200, .undef), (201, .undef), (202, .undef), (203, .undef), (204, .undef), (205, .undef), (206, .undef), (207, .undef), (208, .undef), (209, .undef), (210, .undef), (211, .undef), (212, .undef), (213, .undef), (214, .undef), (215, .undef), (216, .undef), (217, .undef), (218, .undef), (219, .undef), (220, .undef), (221, .undef), (222, .undef), (223, .undef), (224, .undef), (225, .undef), (226, .undef), (227, .undef), (228, .undef), (229, .undef), (230, .undef), (231, .undef), (232, .undef), (233, .undef), (234, .undef), (235, .undef), (236, .undef), (237, .undef)] (by simp [ints]) ?_
            simp
            exact hG.h m ⟨hm, fun i hi => hfine i (by omega) (hq i hi)⟩
    · focus
        obtain ⟨hr, ho⟩ := Flt.mk.inj hF
        have wk := i64_wrap (show -9223372036854775808 ≤ (k : Int) + 1 ∧ _ from by omega)
        have hlu := lUntil_spec S k hk1 (by omega) (by omega)
        have hwk := with_ok hS hpl hk1 (lowsB S)
        have hUn := hwk.nf
        obtain ⟨x, y, z, u, hpu⟩ := with_play hS hpl hk1 (lowsB (withS S k)) (inB_low hS) (by simp [lowsB]) (fun j hj => by rw [lowsB, gi_map hj, lowsB, gi_map (by omega), hwk.bs j hj]) hno
        have hre := rEnds_spec (withS S k) (by omega) false
        simp only [Bool.false_eq_true, if_false] at hre
        have hcnt' : 30 < (cntAt S plan (lowsB S) k).length := hcnt
        generalize cntAt S plan (lowsB S) k = C at hcnt' hpu
        generalize withS S k = U at hlu hUn hpu hre
        have hpu2 := hpu.same (args' := [.agg U.cells, .sl 1 (k + 1) fun j => [.v (.int .i64 (geti plan j))], ints (lowsB U)]) ⟨.inl rfl, .inr (ints_take_same (by omega)), .inl rfl, trivial⟩
        have hLL : L < 0 ∨ ∃ n : Nat, L = (n : Int) ∧ n < S.burns.length ∧ (shpAt S.ships k).day ≤ (burAt S.burns n).day := by
          rcases Int.lt_or_le L 0 with h | h
          · exact .inl h
          · obtain ⟨h1, h2⟩ := hL h
            exact .inr ⟨L.toNat, by omega, h1, h2⟩
        simp (config := { maxSteps := 4000000 }) [hr, ho, hk1, Nat.not_le.2 hk1]
        refine pop_spec hlu rfl false (.inl (by simp [Sup.cells, brlL, burL, shpL])) (.inl rfl) rfl (by simp) ?_
        simp (config := { maxSteps := 4000000 }) [Sup.cells, brlL, burL, shpL]
        refine pwp_draw 20 (by decide) ?_
        simp (config := { maxSteps := 4000000 }) [wk, hr, ho, show (0 : Int) ≤ (k : Int) + 1 from by omega, show (k : Int) + 1 ≤ (plan.length : Int) from by omega]
        refine pd_spec hre (by simp [Sup.cells, brlL, burL, shpL]) (by simp) (by simp [Sup.cells, brlL, burL, shpL]) (by simp [ints]) ?_
        simp (config := { maxSteps := 4000000 }) [ints]
        refine pd_spec hpu2 (by simp [Sup.cells, brlL, burL, shpL, ints]) (by simp) (by simp [Sup.cells, brlL, burL, shpL, ints]) (by simp [brlL, stockC]) ?_
        simp (config := { maxSteps := 4000000 }) [brlL, stockC]
        refine ⟨by decide, ?_⟩
        refine pwp_draw 32 (by decide) ?_
        rcases hLL with c | ⟨n, c1, c2, c3⟩
        case' inl => simp (config := { maxSteps := 4000000 }) [hr, ho, show ¬ 0 ≤ L from by omega, c, show (30 : Int) < (C.length : Int) from by omega, show ¬ (C.length : Int) ≤ 30 from by omega]
        case' inr => simp (config := { maxSteps := 4000000 }) [hr, ho, c1, c2, hk1, c3, Int.not_lt.2 c3, Bur.cells, Shp.cells, show (30 : Int) < (C.length : Int) from by omega, show ¬ (C.length : Int) ≤ 30 from by omega]
        all_goals
          refine ⟨by decide, ?_⟩
          refine pwp_loopF [(15, .v (.int .i64 k)), (9, .undef), (10, .undef), (11, .undef), (12, .undef), (13, .undef), (14, .undef), (16, .undef), (17, .undef), (18, .undef), (19, .undef), (20, .undef), (21, .undef), (22, .undef), (23, .undef), (24, .undef), (87, .undef), (88, .undef), (89, .undef), (90, .undef), (91, .undef), (92, .undef), (93, .undef), (94, .undef), (95, .undef), (96, .undef), (97, .undef), (98, .undef), (99, .undef), (100, .undef), (101, .undef), (102, .undef), (103, .undef), (104, .undef), (105, .undef), (106, .undef), (107, .undef), (108, .undef), (109, .undef), (110, .undef), (111, .undef), (112, .undef), (113, .undef), (114, .undef), (115, .undef), (116, .undef), (117, .undef), (118, .undef), (119, .undef), (120, .undef), (121, .undef), (122, .undef), (123, .undef), (124, .undef), (125, .undef), (126, .undef), (127, .undef), (128, .undef), (129, .undef), (130, .undef), (131, .undef), (132, .undef), (133, .undef), (134, .undef), (135, .undef), (136, .undef), (137, .undef), (138, .undef), (139, .undef), (140, .undef), (141, .undef), (142, .undef), (143, .undef), (144, .undef), (145, .undef), (146, .undef), (147, .undef), (148, .undef), (149, .undef), (150, .undef), (151, .undef), (152, .undef), (153, .undef), (154, .undef), (155, .undef), (156, .undef), (157, .undef), (158, .undef), (159, .undef), (160, .undef), (161, .undef), (162, .undef), (163, .undef), (164, .undef), (165, .undef), (166, .undef), (167, .undef), (168, .undef), (169, .undef), (170, .undef), (171, .undef), (172, .undef), (173, .undef), (174, .undef), (175, .undef), (176, .undef), (177, .undef), (178, .undef), (179, .undef), (180, .undef), (181, .undef), (182, .undef), (183, .undef), (184, .undef), (185, .undef), (186, .undef), (187, .undef), (188, .undef), (189, .undef), (190, .undef), (191, .undef), (192, .undef), (193, .undef), (194, .undef), (195, .undef), (196, .undef), (197, .undef), (198, .undef), (199, .undef), (200, .undef), (201, .undef), (202, .undef), (203, .undef), (204, .undef), (205, .undef), (206, .undef), (207, .undef), (208, .undef), (209, .undef), (210, .undef), (211, .undef), (212, .undef), (213, .undef), (214, .undef), (215, .undef), (216, .undef), (217, .undef), (218, .undef), (219, .undef), (220, .undef), (221, .undef), (222, .undef), (223, .undef), (224, .undef), (225, .undef), (226, .undef), (227, .undef), (228, .undef), (229, .undef), (230, .undef), (231, .undef), (232, .undef), (233, .undef), (234, .undef), (235, .undef), (236, .undef), (237, .undef)] (by simp [ints]) ?_
          simp
          exact hG.h k ⟨by omega, fun i hi => hfine i hi⟩
  · rintro many ⟨hmany, hfa⟩
    refine pwp_loop (fun i : Nat => [(25, .v (.int .i64 i))]) (fun i => i ≤ many) (fun i => many - i) 0 (Nat.zero_le _) (by simp; rfl) (by simp [ints]) ?_
    intro i hi
    by_cases hil : i < many
    · as_aux_lemma =>
        have wi := i64_wrap (show -9223372036854775808 ≤ (i : Int) + 1 ∧ _ from by omega)
        have his : i < S.ships.length := by omega
        have hlu := lUntil_spec S i his (by omega) (by omega)
        have hwi := with_ok hS hpl his P
        have hUn := hwi.nf
        obtain ⟨hno, hcl⟩ := hfa i hil
        obtain ⟨x, y, z, u, hpu⟩ := with_play hS hpl his (P.take (withS S i).burns.length) hin (by rw [List.length_take]; omega) (fun j hj => gi_take hj) hno
        generalize cntAt S plan P i = C at hcl hpu
        generalize withS S i = U at *
        have hpu2 := hpu.same (args' := [.agg U.cells, .sl 1 (i + 1) fun j => [.v (.int .i64 (geti plan j))], .sl 1 U.burns.length fun j => [.v (.int .i64 (geti P j))]]) ⟨.inl rfl, .inr (ints_take_same (by omega)), .inr (ints_take_same (by omega)), trivial⟩
        simp [hil]
        refine pop_spec hlu rfl false (.inl (by simp [Sup.cells, brlL, burL, shpL])) (.inl rfl) rfl (by simp) ?_
        simp [Sup.cells, brlL, burL, shpL]
        refine pwp_draw 22 (by decide) ?_
        simp [wi, ints, show (0 : Int) ≤ (i : Int) + 1 from by omega, show (i : Int) + 1 ≤ (plan.length : Int) from by omega, show U.burns.length ≤ P.length from by omega]
        refine pd_spec hpu2 (by simp [Sup.cells, brlL, burL, shpL]) (by simp) (by simp [Sup.cells, brlL, burL, shpL]) (by simp [brlL, stockC]) ?_
        simp [brlL, stockC]
        refine ⟨by decide, ?_⟩
        simp [show ¬ (30 : Int) < (C.length : Int) from by omega, show (C.length : Int) ≤ 30 from by omega]
        refine again_of (i + 1) (by omega) (by omega) ?_
        simp [wi, ints]
    · obtain rfl : i = many := by omega
      simp
      refine pop_spec known_spec rfl false (.inl (by simp)) (.inl rfl) rfl (by simp) ?_
      simp
      refine answers_of rfl ?_; simp
end Go.Qg


namespace Go.Proofs.Ythfdpekgbdjniaa.lawCacheNever
open Go.Qg Go.ChangeAt Go.RowKit
set_option maxRecDepth 100000
theorem spec (args : List PV) (hl : Try.f10.params.toList.length = args.length) (h : ∀ (j : Nat) t p, Try.f10.params.toList[j]? = some t → args[j]? = some p → ArgP Try.prog 6 t p) : Qg.Spec Try.prog 10 args (.v (.bool true)) := by
  rw [Try.params10] at hl h
  match args, hl with
  | [a0, a1, a2], _ =>
    obtain ⟨S, rfl, hfit⟩ := a_supply (h 0 _ a0 rfl rfl)
    obtain ⟨plan, rfl, planlen, planok⟩ := a_ints (h 1 _ a1 rfl rfl)
    obtain ⟨w, rfl, wlen, wok⟩ := a_ints (h 2 _ a2 rfl rfl)
    exact CacheNever_spec S plan w hfit.l hfit.f hfit.s planlen wlen
theorem lifted (os : Os) (started : os.Started) (H : Type) (enc : TypeId × Value → H) :
    ReturnsInHanded {} Try.checked os 10 .any (Rows.cacheNeverSpec.pre6 enc Try.prog Try.f10 Rows.cacheNeverRow.domain false) (Rows.cacheNeverSpec.post enc Try.prog Try.f10 false true false false) := by
  refine law_lifted (C := Try.checked) 6 (tb := 4) ownKnob_ started (by kernel_rfl) Try.func10
    (ChangeSpec.witness6 (enc := enc) (C := Try.checked) false ⟨#[], #[.agg #[.slice none 0 0, .slice none 0 0, .slice none 0 0, .int .i64 0], .slice none 0 0, .slice none 0 0], []⟩ 8 (by kernel_rfl) (by kernel_rfl) (by kernel_rfl) (by kernel_rfl)) laidOut_ rfl (by kernel_rfl) (by kernel_rfl) Try.underlying4 ?_ spec
  intro ds hds
  match ds, hds with
  | [_, _, _], _ => exact ⟨rfl, rfl, rfl⟩
theorem CacheNever_holds : Rows.CacheNeverSaid :=
  OpenClaim.holds_of_wide 10 Try.f10 rfl rfl rfl rfl rfl rfl rfl ⟨rfl, rfl, rfl, rfl, rfl⟩ rfl rfl rfl rfl rfl (by kernel_rfl) Try.func10 (by kernel_rfl)
    (of_decide_eq_true (by kernel_rfl)) (by unfold Func.isWrapper; first | (rw [if_pos (by decide +kernel)]; kernel_rfl) | (rw [if_neg (by decide +kernel)]; exact ⟨rfl, rfl⟩))
    (fun os started H enc _ => lifted os started H enc)
end Go.Proofs.Ythfdpekgbdjniaa.lawCacheNever

