/-
  Lemmas and contracts that hold of the whole program: 1 texts in one.
  No condition.
-/
import Derived.Test.YtnjhblcfjhpoiaaGreatDoorZYop5
set_option linter.all false

namespace Go.Qg
open Go.Proofs Go.RowKit Go.Lib
set_option maxRecDepth 100000
set_option maxHeartbeats 16000000
attribute [local irreducible] pwp pops pdraw pop popCall pdCall thenP blockP scopeP pspec Spec answers ppost CallW rend
theorem trip_parts {fuel : Spn} {legs : List Leg} : tripE fuel legs 8 = 0 ↔ legs.length ≤ 6 ∧ spanB fuel 0 20000 = true ∧ legsB legs 8 = true := by
  unfold tripE legsB
  split
  · rename_i h; constructor
    · intro e; omega
    · rintro ⟨e, _⟩; omega
  · rename_i h
    split
    · rename_i h2
      constructor
      · intro e; omega
      · rintro ⟨_, e1, e2⟩
        simp only [Bool.and_eq_true, decide_eq_true_eq] at e2
        rcases h2 with h2 | h2 | h2
        · omega
        · rw [e1] at h2; cases h2
        · rw [e2.1] at h2; cases h2
    · rename_i h2
      simp only [not_or, Bool.not_eq_false] at h2
      refine ⟨fun _ => ⟨by omega, h2.2.1, ?_⟩, fun _ => rfl⟩
      simp only [Bool.and_eq_true, decide_eq_true_eq]
      exact ⟨h2.2.2, by omega⟩
theorem few_items {fuel : Spn} {legs : List Leg} (h : tripE fuel legs 8 = 0) : ∀ k, k < legs.length → (legAt legs k).items.length ≤ 1000000 := fun k hk => by
  have := ((numL_all h).2.2 k hk).n
  omega
theorem printRes_ok {fuel : Spn} {legs : List Leg} (h : tripE fuel legs 8 = 0) : printRes fuel legs = .tup [.v (.string (bytesOf (printB fuel legs))), .v (.int .i64 0)] := by rw [printRes, if_pos h]
theorem tripR_len {fuel : Spn} {legs : List Leg} (h : TripR fuel legs) : LegsLen legs := by
  have h1 := h.n legs.length (by simp [headN])
  unfold NumR at h1
  refine ⟨by omega, fun k hk => ?_⟩
  have h2 := (legR_at h.l hk).n (legAt legs k).items.length (by simp [legN])
  unfold NumR at h2
  omega
theorem readP_of {text : List UInt8} {e : Int} {f : Spn} {l : List Leg} (h : readE text = (e, f, l)) : readP text = .tup [.agg f.cells, legL l, .v (.int .i64 e)] := by rw [readP, h]
theorem rReadP_some {text : List UInt8} {f : Spn} {l : List Leg} (h : rReadO text = some (f, l)) : rReadP text = .tup [.agg f.cells, legL l, .v (.bool true)] := by rw [rReadP, h]
theorem LoadReads_spec (text : List UInt8) : Spec Tryz.prog 12 [.v (.string (bytesOf text))] (.v (.bool true)) := by
  refine spec_of mixed Tryz.func12 (by decide) rfl Tryz.results12 Tryz.ntmps12 (by decide) 0 (by simp) ?_
  have hcase : (2000 < text.length ∧ text.length ≤ 20000) ∨ 20100 < text.length ∨ (20000 < text.length ∧ text.length ≤ 20100) ∨ text.length ≤ 2000 := by omega
  rcases hcase with ⟨c1, c2⟩ | c | ⟨c1, c2⟩ | c
  · simp [c1, c2, show (2000 : Int) < text.length from by omega, show (text.length : Int) ≤ 20000 from by omega]
    refine pop_spec known_spec rfl false (.inl (by simp)) (.inl rfl) rfl (by simp) ?_
    simp
    refine answers_of rfl ?_; simp
  · simp [c, show (2000 : Int) < text.length from by omega, show 2000 < text.length from by omega, show ¬ (text.length : Int) ≤ 20000 from by omega, show ¬ text.length ≤ 20000 from by omega, show (20100 : Int) < text.length from by omega]
    refine pop_spec known_spec rfl false (.inl (by simp)) (.inl rfl) rfl (by simp) ?_
    simp
    refine answers_of rfl ?_; simp
  · have hrd := Read_spec text (by omega)
    have hrr := rRead_spec text c2
    rw [readP_of (show readE text = (3, ⟨0, 0⟩, []) by rw [readE, if_pos c1])] at hrd
    simp only [Spn.cells, legL] at hrd
    simp [c1, c2, show (2000 : Int) < text.length from by omega, show 2000 < text.length from by omega, show ¬ (text.length : Int) ≤ 20000 from by omega, show ¬ text.length ≤ 20000 from by omega, show ¬ (20100 : Int) < text.length from by omega, show ¬ 20100 < text.length from by omega]
    refine pop_spec hrd rfl false (.inl (by simp)) (.inl rfl) rfl (by simp) ?_
    simp
    cases hO : rReadO text with
    | none =>
      rw [rReadP_none hO] at hrr
      simp only [legL] at hrr
      refine pop_spec hrr rfl false (.inl (by simp)) (.inl rfl) rfl (by simp) ?_
      simp [c1, show (20000 : Int) < text.length from by omega]
      refine pop_spec known_spec rfl false (.inl (by simp)) (.inl rfl) rfl (by simp) ?_
      simp
      refine answers_of rfl ?_; simp
    | some p =>
      obtain ⟨f, l⟩ := p
      rw [rReadP_some hO] at hrr
      simp only [Spn.cells, legL] at hrr
      refine pop_spec hrr rfl false (.inl (by simp)) (.inl rfl) rfl (by simp) ?_
      simp [c1, show (20000 : Int) < text.length from by omega]
      refine pop_spec known_spec rfl false (.inl (by simp)) (.inl rfl) rfl (by simp) ?_
      simp
      refine answers_of rfl ?_; simp
  · have hrd := Read_spec text (by omega)
    have hrr := rRead_spec text (by omega)
    simp [show ¬ (2000 : Int) < text.length from by omega, show ¬ 2000 < text.length from by omega, show ¬ (20100 : Int) < text.length from by omega, show ¬ 20100 < text.length from by omega]
    cases hO : rReadO text with
    | none =>
      rw [readP_of (read_none (text := text) (by omega) fun f l h => by rw [rReadO_iff.2 h] at hO; cases hO)] at hrd
      rw [rReadP_none hO] at hrr
      simp only [Spn.cells, legL] at hrd hrr
      refine pop_spec hrd rfl false (.inl (by simp)) (.inl rfl) rfl (by simp) ?_
      simp
      refine pop_spec hrr rfl false (.inl (by simp)) (.inl rfl) rfl (by simp) ?_
      simp [show ¬ (20000 : Int) < text.length from by omega, show ¬ 20000 < text.length from by omega]
      refine pop_spec known_spec rfl false (.inl (by simp)) (.inl rfl) rfl (by simp) ?_
      simp
      refine answers_of rfl ?_; simp
    | some p =>
      obtain ⟨f, l⟩ := p
      have href := rReadO_iff.1 hO
      have hE := read_refs (text := text) (by omega) href
      obtain ⟨u, hu, _, htx⟩ := href
      have hR := rrTrip_num hu
      have hll := tripR_len hR
      have hpr := Print_spec f l hll.n hll.i
      rw [rReadP_some hO] at hrr
      simp only [Spn.cells, legL] at hrr
      by_cases ht : tripE f l 8 = 0
      · obtain ⟨h6, hs, hg⟩ := trip_parts.1 ht
        rw [if_neg (by simpa using ht)] at hE
        rw [readP_of hE] at hrd
        rw [printRes_ok ht, show printB f l = text from htx.symm] at hpr
        have hsame := rSameLegs_refl l (by omega) (few_items ht)
        simp only [Spn.cells, legL] at hrd hsame
        refine pop_spec hrd rfl false (.inl (by simp)) (.inl rfl) rfl (by simp) ?_
        simp
        refine pop_spec hrr rfl false (.inl (by simp)) (.inl rfl) rfl (by simp) ?_
        simp [show ¬ (20000 : Int) < text.length from by omega, show ¬ 20000 < text.length from by omega]
        refine pop_spec (rSpan_spec f 0 20000) rfl false (.inl (by simp [Spn.cells])) (.inl rfl) rfl (by simp) ?_
        simp [hs]
        refine pop_spec (rLegs_spec l 8 hll (by omega)) rfl false (.inl (by simp [legL])) (.inl rfl) rfl (by simp) ?_
        simp [hg, show ¬ (6 : Int) < l.length from by omega, show ¬ 6 < l.length from by omega]
        refine pop_spec hpr rfl false (.inl (by simp [Spn.cells, legL])) (.inl rfl) rfl (by simp) ?_
        simp
        refine pop_spec hsame rfl false (.inl (by simp)) (.inl rfl) rfl (by simp) ?_
        simp
        refine pop_spec known_spec rfl false (.inl (by simp)) (.inl rfl) rfl (by simp) ?_
        simp
        refine answers_of rfl ?_; simp
      · rw [if_pos ht] at hE
        rw [readP_of hE] at hrd
        simp only [Spn.cells, legL] at hrd
        refine pop_spec hrd rfl false (.inl (by simp)) (.inl rfl) rfl (by simp) ?_
        simp
        refine pop_spec hrr rfl false (.inl (by simp)) (.inl rfl) rfl (by simp) ?_
        simp [show ¬ (20000 : Int) < text.length from by omega, show ¬ 20000 < text.length from by omega]
        refine pop_spec (rSpan_spec f 0 20000) rfl false (.inl (by simp [Spn.cells])) (.inl rfl) rfl (by simp) ?_
        cases hs : spanB f 0 20000 with
        | false =>
          simp
          refine pop_spec known_spec rfl false (.inl (by simp)) (.inl rfl) rfl (by simp) ?_
          simp
          refine answers_of rfl ?_; simp
        | true =>
          simp
          refine pop_spec (rLegs_spec l 8 hll (by omega)) rfl false (.inl (by simp [legL])) (.inl rfl) rfl (by simp) ?_
          cases hg : legsB l 8 with
          | false =>
            simp
            refine pop_spec known_spec rfl false (.inl (by simp)) (.inl rfl) rfl (by simp) ?_
            simp
            refine answers_of rfl ?_; simp
          | true =>
            have h6 : 6 < l.length := by
              by_cases h : l.length ≤ 6
              · exact absurd (trip_parts.2 ⟨h, hs, hg⟩) ht
              · omega
            simp [h6, show (6 : Int) < l.length from by omega]
            refine pop_spec known_spec rfl false (.inl (by simp)) (.inl rfl) rfl (by simp) ?_
            simp
            refine answers_of rfl ?_; simp
end Go.Qg

