/-
  FareMore: for every table, person, journey and one more offer the law returns true, and leaves its arguments as they were.
  No condition.
-/
import Derived.Test.YtmnoepkamkomkaaZ5
set_option linter.all false

/-! Tickets: the cheapest chain of uses is the cheapest cover (plain law). No condition. -/
namespace Go.Qg

/-! ### Tickets: the cheapest chain is the cheapest cover -/
def costL (s : List Use) : Int := (s.map (·.price)).sum
@[simp] theorem costL_nil : costL [] = 0 := rfl
@[simp] theorem costL_cons (u : Use) (s : List Use) : costL (u :: s) = u.price + costL s := by simp [costL]
def aheadB (a b : Use) : Bool := decide (a.leg < b.leg) || (decide (a.leg = b.leg) && decide (a.offer < b.offer))
/-- Which of two lists comes first, where they differ first. -/
def lexB : List Use → List Use → Bool
  | [], _ => false
  | _ :: _, [] => false
  | a :: s, b :: t => if a ≠ b then aheadB a b else lexB s t
def lessB (a b : List Use) : Bool := if costL a ≠ costL b then decide (costL a < costL b) else if a.length ≠ b.length then decide (a.length < b.length) else lexB a b
def chain (legs : Int) : Int → List Use → Prop
  | a, [] => a = legs
  | a, u :: s => u.leg ≤ a ∧ a < u.fin ∧ chain legs u.fin s
def Sorted (l : List Use) : Prop := l.Pairwise fun a b => aheadB a b = true

theorem aheadB_irr (a : Use) : aheadB a a = false := by simp [aheadB]
theorem aheadB_asym {a b : Use} (h : aheadB a b = true) : aheadB b a = false := by
  simp only [aheadB, Bool.or_eq_true, Bool.and_eq_true, decide_eq_true_eq, Bool.or_eq_false_iff, Bool.and_eq_false_iff, decide_eq_false_iff_not] at h ⊢
  omega
theorem aheadB_trans {a b c : Use} (h : aheadB a b = true) (k : aheadB b c = true) : aheadB a c = true := by
  simp only [aheadB, Bool.or_eq_true, Bool.and_eq_true, decide_eq_true_eq] at h k ⊢
  omega

theorem lexB_irr : ∀ s : List Use, lexB s s = false
  | [] => rfl
  | a :: s => by simp [lexB, lexB_irr s]
theorem lessB_irr (s : List Use) : lessB s s = false := by simp [lessB, lexB_irr]
/-- The order is total on lists of the uses of a sorted list. -/
theorem lexB_total {s t : List Use} (hl : s.length = t.length) (ht : ∀ a ∈ s, ∀ b ∈ t, a = b ∨ aheadB a b = true ∨ aheadB b a = true) : s = t ∨ lexB s t = true ∨ lexB t s = true := by
  induction s generalizing t with
  | nil => cases t with
    | nil => exact .inl rfl
    | cons => simp at hl
  | cons a s ih =>
    cases t with
    | nil => simp at hl
    | cons b t =>
      by_cases h : a = b
      · subst h
        rcases ih (t := t) (by simpa using hl) (fun x hx y hy => ht x (List.mem_cons_of_mem _ hx) y (List.mem_cons_of_mem _ hy)) with h | h | h
        · exact .inl (by rw [h])
        · exact .inr (.inl (by simp [lexB, h]))
        · exact .inr (.inr (by simp [lexB, h]))
      · rcases ht a List.mem_cons_self b List.mem_cons_self with h1 | h1 | h1
        · exact absurd h1 h
        · exact .inr (.inl (by simp [lexB, h, h1]))
        · exact .inr (.inr (by simp [lexB, Ne.symm h, h1]))
theorem lessB_total {s t : List Use} (ht : ∀ a ∈ s, ∀ b ∈ t, a = b ∨ aheadB a b = true ∨ aheadB b a = true) : s = t ∨ lessB s t = true ∨ lessB t s = true := by
  by_cases h1 : costL s = costL t
  · by_cases h2 : s.length = t.length
    · simp only [lessB, h1, h2, ne_eq, not_true, if_false]
      exact lexB_total h2 ht
    · simp only [lessB, h1, ne_eq, not_true, if_false, if_pos h2, if_pos (Ne.symm h2), decide_eq_true_eq]
      omega
  · simp only [lessB, ne_eq, if_pos h1, if_pos (Ne.symm h1), decide_eq_true_eq]
    omega
theorem lexB_asym {s t : List Use} (h : lexB s t = true) : lexB t s = false := by
  induction s generalizing t with
  | nil => cases h
  | cons a s ih =>
    cases t with
    | nil => cases h
    | cons b t =>
      simp only [lexB, ne_eq] at h ⊢
      by_cases e : a = b
      · subst e
        simp at h ⊢; exact ih h
      · rw [if_pos e] at h
        rw [if_pos (Ne.symm e)]
        exact aheadB_asym h
theorem lessB_asym {s t : List Use} (h : lessB s t = true) : lessB t s = false := by
  simp only [lessB, ne_eq] at h ⊢
  by_cases h1 : costL s = costL t
  · simp only [h1, not_true, if_false] at h ⊢
    by_cases h2 : s.length = t.length
    · simp only [h2, not_true, if_false] at h ⊢
      exact lexB_asym h
    · rw [if_pos h2] at h
      rw [if_pos (Ne.symm h2)]
      simp only [decide_eq_true_eq, decide_eq_false_iff_not] at h ⊢
      omega
  · rw [if_pos h1] at h
    rw [if_pos (Ne.symm h1)]
    simp only [decide_eq_true_eq, decide_eq_false_iff_not] at h ⊢
    omega
theorem lexB_trans {s t r : List Use} (h : lexB s t = true) (k : lexB t r = true) : lexB s r = true := by
  induction s generalizing t r with
  | nil => cases h
  | cons a s ih =>
    cases t with
    | nil => cases h
    | cons b t =>
      cases r with
      | nil => simp [lexB] at k
      | cons c r =>
        simp only [lexB, ne_eq] at h k ⊢
        by_cases e1 : a = b
        · subst e1
          simp only [not_true, if_false] at h
          by_cases e2 : a = c
          · subst e2
            simp only [not_true, if_false] at k ⊢
            exact ih h k
          · rw [if_pos e2] at k ⊢; exact k
        · rw [if_pos e1] at h
          by_cases e2 : b = c
          · subst e2
            rw [if_pos e1]; exact h
          · rw [if_pos e2] at k
            have h3 := aheadB_trans h k
            have : a ≠ c := by rintro rfl; rw [aheadB_irr] at h3; cases h3
            rw [if_pos this]; exact h3
theorem lessB_iff {s t : List Use} : lessB s t = true ↔ costL s < costL t ∨ costL s = costL t ∧ (s.length < t.length ∨ s.length = t.length ∧ lexB s t = true) := by
  simp only [lessB, ne_eq]
  by_cases h1 : costL s = costL t
  · by_cases h2 : s.length = t.length
    · simp [h1, h2]
    · simp [h1, h2]
  · simp [h1]
theorem lessB_trans {s t r : List Use} (h : lessB s t = true) (k : lessB t r = true) : lessB s r = true := by
  rw [lessB_iff] at h k ⊢
  rcases h with h | ⟨h1, h⟩
  · left; omega
  · rcases k with k | ⟨k1, k⟩
    · left; omega
    · right
      refine ⟨by omega, ?_⟩
      rcases h with h | ⟨h2, h⟩
      · left; omega
      · rcases k with k | ⟨k2, k⟩
        · left; omega
        · exact .inr ⟨by omega, lexB_trans h k⟩

/-! #### The pick -/
theorem pickTo_cons (x : Tick) (c : List Tick) : ∀ k, k ≤ c.length → pickTo (x :: c) (k + 1) = if k = 0 then x else if betterB (pickTo c k) x = true then pickTo c k else x
  | 0, _ => by simp [pickTo, tickAt]
  | k + 1, hk => by
    have ih := pickTo_cons x c k (by omega)
    have e : tickAt (x :: c) (k + 1) = tickAt c k := by simp [tickAt]
    rw [pickTo, ih, e]
    simp only [Nat.add_one_ne_zero, false_or, if_false]
    by_cases h0 : k = 0
    · subst h0; simp [pickTo]
    · simp only [pickTo, h0, false_or, if_false]
      generalize pickTo c k = y
      generalize tickAt c k = z
      by_cases h1 : betterB y x = true
      · simp only [h1, if_true]
        by_cases h2 : betterB z y = true
        · have h3 : betterB z x = true := by simp only [betterB, Bool.or_eq_true, Bool.and_eq_true, decide_eq_true_eq] at *; omega
          simp [h2, h3]
        · simp [h2, h1]
      · simp only [h1, if_false, Bool.false_eq_true]
        by_cases h2 : betterB z y = true
        · simp [h2]
        · have h3 : ¬ betterB z x = true := by simp only [betterB, Bool.or_eq_true, Bool.and_eq_true, decide_eq_true_eq] at *; omega
          simp [h2, h3, h1]
theorem pickA_cons (x : Tick) (c : List Tick) : pickA (x :: c) = ⟨if (pickA c).is = true ∧ betterB (pickA c).tick x = true then (pickA c).tick else x, true⟩ := by
  have h := pickTo_cons x c c.length (Nat.le_refl _)
  simp only [pickA, List.length_cons, h]
  by_cases h0 : c.length = 0
  · simp [h0]
  · simp only [h0, if_false, show 0 < c.length from by omega, decide_true, true_and]
    simp

/-! #### The chains -/
structure Best (legs a : Int) (l : List Use) (x : Ans) : Prop where
  none : x.is = false → ∀ s, s.Sublist l → ¬ chain legs a s
  some : x.is = true → x.tick.uses.Sublist l ∧ chain legs a x.tick.uses ∧ x.tick.cost = costL x.tick.uses ∧ ∀ s, s.Sublist l → chain legs a s → lessB s x.tick.uses = false

theorem betterB_iff {a b : Tick} : betterB a b = true ↔ a.cost < b.cost ∨ a.cost = b.cost ∧ a.uses.length < b.uses.length := by
  simp [betterB]

theorem chain_legs {legs : Int} : ∀ {s : List Use} {a : Int}, (∀ u ∈ s, u.fin ≤ legs) → chain legs a s → a ≤ legs
  | [], a, _, h => Int.le_of_eq h
  | u :: s, a, hf, h => by
    have := hf u List.mem_cons_self
    have := h.2.1
    omega

theorem best_chain {legs : Int} : ∀ {l : List Use} {a : Int}, Sorted l → (∀ u ∈ l, u.fin ≤ legs) → (∀ u ∈ l, 0 ≤ u.price) → Best legs a l (ansOf legs l a)
  | [], a, _, _, _ => by
    unfold ansOf
    by_cases ha : a = legs
    · simp only [ha, if_true]
      refine ⟨fun h => (by cases h), fun _ => ⟨List.Sublist.refl _, rfl, rfl, fun s hs _ => ?_⟩⟩
      rw [List.sublist_nil.1 hs]; rfl
    · simp only [ha, if_false]
      refine ⟨fun _ s hs hc => ?_, fun h => ?_⟩
      · rw [List.sublist_nil.1 hs] at hc; exact ha hc
      · simp [candL, pickA] at h
  | u :: rest, a, hs, hf, hp => by
    have hrs : Sorted rest := (List.pairwise_cons.1 hs).2
    have hu := (List.pairwise_cons.1 hs).1
    have hrf : ∀ v ∈ rest, v.fin ≤ legs := fun v hv => hf v (List.mem_cons_of_mem _ hv)
    have hrp : ∀ v ∈ rest, 0 ≤ v.price := fun v hv => hp v (List.mem_cons_of_mem _ hv)
    by_cases ha : a = legs
    · subst ha
      simp only [ansOf, if_true]
      refine ⟨fun h => (by cases h), fun _ => ⟨List.nil_sublist _, rfl, rfl, fun s hsub hc => ?_⟩⟩
      cases s with
      | nil => rfl
      | cons v s =>
        have hv := hf v (hsub.subset List.mem_cons_self)
        have := hc.2.1
        omega
    · have ih1 := best_chain (l := rest) (a := u.fin) hrs hrf hrp
      have ih2 := best_chain (l := rest) (a := a) hrs hrf hrp
      have e2 : pickA (candL legs rest a) = ansOf legs rest a := by simp [ansOf, ha]
      have e : ansOf legs (u :: rest) a = pickA (oneC legs u rest a ++ candL legs rest a) := by simp [ansOf, ha, candL_cons]
      rw [e]
      have nohead : ∀ s, s.Sublist (u :: rest) → chain legs a s → s.Sublist rest ∨ ∃ s', s = u :: s' ∧ s'.Sublist rest ∧ u.leg ≤ a ∧ a < u.fin ∧ chain legs u.fin s' := fun s hsub hc => by
        cases hsub with
        | cons _ h => exact .inl h
        | cons_cons _ h => exact .inr ⟨_, rfl, h, hc.1, hc.2.1, hc.2.2⟩
      unfold oneC
      split
      · rename_i h1
        rw [List.nil_append, e2]
        refine ⟨fun h s hsub hc => ?_, fun h => ?_⟩
        · rcases nohead s hsub hc with h2 | ⟨s', _, _, h3, h4, _⟩
          · exact ih2.none h s h2 hc
          · omega
        · obtain ⟨g1, g2, g3, g4⟩ := ih2.some h
          refine ⟨List.Sublist.cons _ g1, g2, g3, fun s hsub hc => ?_⟩
          rcases nohead s hsub hc with h2 | ⟨s', _, _, h3, h4, _⟩
          · exact g4 s h2 hc
          · omega
      · rename_i h1
        split
        · rename_i h2
          obtain ⟨f1, f2, f3, f4⟩ := ih1.some h2
          rw [List.singleton_append, pickA_cons, e2]
          refine ⟨fun h => (by cases h), fun _ => ?_⟩
          have hc1 : chain legs a (u :: (ansOf legs rest u.fin).tick.uses) := ⟨by omega, by omega, f2⟩
          have hb1 : ∀ s', s'.Sublist rest → chain legs u.fin s' → lessB (u :: s') (u :: (ansOf legs rest u.fin).tick.uses) = false := fun s' hs' hc' => by
            have := f4 s' hs' hc'
            rw [← Bool.not_eq_true, lessB_iff] at this ⊢
            simp only [costL_cons, List.length_cons, lexB, ne_eq, not_true, if_false]
            intro h; apply this
            rcases h with h | ⟨h1, h | ⟨h2, h3⟩⟩
            · left; omega
            · right; exact ⟨by omega, .inl (by omega)⟩
            · right; exact ⟨by omega, .inr ⟨by omega, h3⟩⟩
          split
          · rename_i h3
            obtain ⟨h3, h4⟩ := h3
            obtain ⟨g1, g2, g3, g4⟩ := ih2.some h3
            refine ⟨List.Sublist.cons _ g1, g2, g3, fun s hsub hc => ?_⟩
            rcases nohead s hsub hc with h5 | ⟨s', rfl, h6, _, _, h7⟩
            · exact g4 s h5 hc
            · have h8 := hb1 s' h6 h7
              rw [← Bool.not_eq_true]
              intro h9
              rw [betterB_iff] at h4
              have h10 : lessB (ansOf legs rest a).tick.uses (u :: (ansOf legs rest u.fin).tick.uses) = true := by
                rw [lessB_iff]
                simp only [costL_cons, List.length_cons] at h4 ⊢
                omega
              rw [lessB_trans h9 h10] at h8
              cases h8
          · rename_i h3
            refine ⟨List.Sublist.cons_cons _ f1, hc1, by simp [f3]; omega, fun s hsub hc => ?_⟩
            rcases nohead s hsub hc with h5 | ⟨s', rfl, h6, _, _, h7⟩
            · cases hI : (ansOf legs rest a).is with
              | false => exact absurd hc (ih2.none hI s h5)
              | true =>
                obtain ⟨g1, g2, g3, g4⟩ := ih2.some hI
                have h8 := g4 s h5 hc
                have h4 : ¬ betterB (ansOf legs rest a).tick ⟨u :: (ansOf legs rest u.fin).tick.uses, (ansOf legs rest u.fin).tick.cost + u.price⟩ = true := fun h => h3 ⟨hI, h⟩
                rw [betterB_iff] at h4
                simp only [List.length_cons] at h4
                rw [← Bool.not_eq_true, lessB_iff] at h8 ⊢
                simp only [costL_cons, List.length_cons]
                intro h9
                cases s with
                | nil =>
                  simp only [chain] at hc
                  exact ha hc
                | cons v s =>
                  have hv : v ∈ rest := h5.subset List.mem_cons_self
                  have hne : v ≠ u := by
                    rintro rfl
                    have := hu v hv
                    rw [aheadB_irr] at this; cases this
                  have hlx : lexB (v :: s) (u :: (ansOf legs rest u.fin).tick.uses) = false := by
                    simp only [lexB, ne_eq, hne, not_false_iff, if_true]
                    exact aheadB_asym (hu v hv)
                  rw [hlx] at h9
                  simp only [Bool.false_eq_true, and_false, or_false] at h9
                  apply h8
                  simp only [List.length_cons] at h9 h4 ⊢
                  omega
            · exact hb1 s' h6 h7
        · rename_i h2
          rw [List.nil_append, e2]
          have h2 : (ansOf legs rest u.fin).is = false := by simpa using h2
          refine ⟨fun h s hsub hc => ?_, fun h => ?_⟩
          · rcases nohead s hsub hc with h3 | ⟨s', _, h3, _, _, h4⟩
            · exact ih2.none h s h3 hc
            · exact ih1.none h2 s' h3 h4
          · obtain ⟨g1, g2, g3, g4⟩ := ih2.some h
            refine ⟨List.Sublist.cons _ g1, g2, g3, fun s hsub hc => ?_⟩
            rcases nohead s hsub hc with h3 | ⟨s', _, h3, _, _, h4⟩
            · exact g4 s h3 hc
            · exact absurd h4 (ih1.none h2 s' h3)

/-! #### Covers -/
/-- Each leg from a on is covered. -/
def covers (a legs : Int) (s : List Use) : Prop := ∀ k : Int, a ≤ k → k < legs → ∃ u ∈ s, u.leg ≤ k ∧ k < u.fin
theorem chain_covers {legs : Int} : ∀ {s : List Use} {a : Int}, chain legs a s → covers a legs s
  | [], a, h, k, h1, h2 => by simp only [chain] at h; omega
  | u :: s, a, h, k, h1, h2 => by
    by_cases hk : k < u.fin
    · exact ⟨u, List.mem_cons_self, by have := h.1; omega, hk⟩
    · obtain ⟨v, hv, h3⟩ := chain_covers h.2.2 k (by omega) h2
      exact ⟨v, List.mem_cons_of_mem _ hv, h3⟩
/-- A list without what it does not need. -/
def thin : Int → List Use → List Use
  | _, [] => []
  | a, u :: s => if u.fin ≤ a then thin a s else u :: thin u.fin s
theorem thin_sublist : ∀ (a : Int) (s : List Use), (thin a s).Sublist s
  | _, [] => List.Sublist.refl _
  | a, u :: s => by
    simp only [thin]
    split
    · exact (thin_sublist a s).cons _
    · exact (thin_sublist u.fin s).cons_cons _
theorem thin_chain {legs : Int} : ∀ {s : List Use} {a : Int}, Sorted s → (∀ u ∈ s, u.fin ≤ legs) → a ≤ legs → covers a legs s → chain legs a (thin a s)
  | [], a, _, _, ha, hc => by
    simp only [thin, chain]
    rcases Int.lt_or_eq_of_le ha with h | h
    · obtain ⟨u, hu, _⟩ := hc a (Int.le_refl _) h
      cases hu
    · exact h
  | u :: s, a, hs, hf, ha, hc => by
    have hss : Sorted s := (List.pairwise_cons.1 hs).2
    have hu := (List.pairwise_cons.1 hs).1
    have hsf : ∀ v ∈ s, v.fin ≤ legs := fun v hv => hf v (List.mem_cons_of_mem _ hv)
    have huf := hf u List.mem_cons_self
    simp only [thin]
    split
    · rename_i h
      refine thin_chain hss hsf ha fun k h1 h2 => ?_
      obtain ⟨v, hv, h3, h4⟩ := hc k h1 h2
      rcases List.mem_cons.1 hv with rfl | hv
      · omega
      · exact ⟨v, hv, h3, h4⟩
    · rename_i h
      refine ⟨?_, by omega, thin_chain hss hsf huf fun k h1 h2 => ?_⟩
      · obtain ⟨v, hv, h3, h4⟩ := hc a (Int.le_refl _) (by omega)
        rcases List.mem_cons.1 hv with rfl | hv
        · exact h3
        · have := hu v hv
          simp only [aheadB, Bool.or_eq_true, Bool.and_eq_true, decide_eq_true_eq] at this
          omega
      · obtain ⟨v, hv, h3, h4⟩ := hc k (by omega) h2
        rcases List.mem_cons.1 hv with rfl | hv
        · omega
        · exact ⟨v, hv, h3, h4⟩
theorem costL_sublist {s t : List Use} (h : s.Sublist t) (hp : ∀ u ∈ t, 0 ≤ u.price) : costL s ≤ costL t := by
  induction h with
  | slnil => exact Int.le_refl _
  | cons u h ih =>
    have := ih fun v hv => hp v (List.mem_cons_of_mem _ hv)
    have := hp u List.mem_cons_self
    simp only [costL_cons]; omega
  | cons_cons u h ih =>
    have := ih fun v hv => hp v (List.mem_cons_of_mem _ hv)
    simp only [costL_cons]; omega
theorem sublist_less {s t : List Use} (h : s.Sublist t) (hp : ∀ u ∈ t, 0 ≤ u.price) : s = t ∨ lessB s t = true := by
  have h1 := costL_sublist h hp
  have h2 := h.length_le
  by_cases h3 : s.length = t.length
  · exact .inl (h.eq_of_length h3)
  · right; rw [lessB_iff]; omega

/-- What is best of all covers. -/
theorem best_cover {legs : Int} {l : List Use} (hl : Sorted l) (hf : ∀ u ∈ l, u.fin ≤ legs) (hp : ∀ u ∈ l, 0 ≤ u.price) (h0 : 0 ≤ legs) :
    ((ansOf legs l 0).is = false → ∀ s, s.Sublist l → ¬ covers 0 legs s) ∧
    ((ansOf legs l 0).is = true → (ansOf legs l 0).tick.uses.Sublist l ∧ covers 0 legs (ansOf legs l 0).tick.uses ∧ (ansOf legs l 0).tick.cost = costL (ansOf legs l 0).tick.uses ∧ ∀ s, s.Sublist l → covers 0 legs s → lessB s (ansOf legs l 0).tick.uses = false) := by
  have hb := best_chain (a := 0) hl hf hp
  have key : ∀ s, s.Sublist l → covers 0 legs s → chain legs 0 (thin 0 s) := fun s hs hc => thin_chain (hl.sublist hs) (fun u hu => hf u (hs.subset hu)) h0 hc
  refine ⟨fun h s hs hc => hb.none h _ ((thin_sublist 0 s).trans hs) (key s hs hc), fun h => ?_⟩
  obtain ⟨h1, h2, h3, h4⟩ := hb.some h
  refine ⟨h1, chain_covers h2, h3, fun s hs hc => ?_⟩
  have h5 := h4 _ ((thin_sublist 0 s).trans hs) (key s hs hc)
  rcases sublist_less (thin_sublist 0 s) (fun u hu => hp u (hs.subset hu)) with h6 | h6
  · rw [h6] at h5; exact h5
  · rw [← Bool.not_eq_true]
    intro h7
    rw [lessB_trans h6 h7] at h5
    cases h5

/-! ### All uses of a journey -/
theorem useOf_some {t : Table} {p : Person} {j : List Int} {leg i : Nat} {u : Use} (h : useOf t p j leg i = some u) : u.offer = i ∧ u.leg = leg ∧ u.fin = leg + (offerAt t.offers i).places.length - 1 ∧ priceOf t p (offerAt t.offers i) = some u.price ∧ beginsB (j.drop leg) (offerAt t.offers i).places = true := by
  unfold useOf at h
  split at h
  · cases h
  · rename_i n hn
    split at h
    · rename_i hb
      obtain rfl := Option.some.inj h
      exact ⟨rfl, rfl, rfl, hn, hb⟩
    · cases h
theorem usesAt_sorted (t : Table) (p : Person) (j : List Int) (leg : Nat) : ∀ i, Sorted (usesAt t p j leg i)
  | 0 => List.Pairwise.nil
  | i + 1 => by
    refine List.pairwise_append.2 ⟨usesAt_sorted t p j leg i, ?_, fun a ha b hb => ?_⟩
    · cases useOf t p j leg i <;> simp
    · obtain ⟨k, hk, h1⟩ := usesAt_mem ha
      have h2 : useOf t p j leg i = some b := by simpa using hb
      have e1 := useOf_some h1
      have e2 := useOf_some h2
      simp only [aheadB, Bool.or_eq_true, Bool.and_eq_true, decide_eq_true_eq]
      right; omega
theorem usesTo_sorted (t : Table) (p : Person) (j : List Int) : ∀ n, Sorted (usesTo t p j n)
  | 0 => List.Pairwise.nil
  | n + 1 => by
    refine List.pairwise_append.2 ⟨usesTo_sorted t p j n, usesAt_sorted t p j n _, fun a ha b hb => ?_⟩
    obtain ⟨leg, k, hl, _, h1⟩ := usesTo_mem ha
    obtain ⟨k2, _, h2⟩ := usesAt_mem hb
    have e1 := useOf_some h1
    have e2 := useOf_some h2
    simp only [aheadB, Bool.or_eq_true, Bool.and_eq_true, decide_eq_true_eq]
    left; omega
structure UsesGood (l : List Use) (legs : Int) : Prop where
  sorted : Sorted l
  fin : ∀ u ∈ l, u.fin ≤ legs
  price : ∀ u ∈ l, 0 ≤ u.price
theorem usesOf_good {t : Table} (ht : TableOk t) (p : Person) {j : List Int} (hj : 1 ≤ j.length) : UsesGood (usesOf t p j) ((j.length : Int) - 1) := by
  refine ⟨usesTo_sorted t p j _, fun u hu => ?_, fun u hu => ?_⟩
  · obtain ⟨leg, k, h1, h2, _, _, _, h3, _, h4, _⟩ := usesOf_mem ht hu
    simp only [beginsB, Bool.and_eq_true, decide_eq_true_eq] at h4
    have := h4.1
    rw [List.length_drop] at this
    omega
  · obtain ⟨_, _, _, _, _, _, _, _, _, _, h, _⟩ := usesOf_mem ht hu
    exact h

/-! ### One more offer -/
def moreT (t : Table) (o : Offer) : Table := ⟨t.offers ++ [o], t.bands, t.less⟩
theorem offerAt_more {t : Table} {o : Offer} {i : Nat} (h : i < t.offers.length) : offerAt (moreT t o).offers i = offerAt t.offers i := by
  simp [offerAt, moreT, List.getElem?_append_left h]
theorem usesAt_more (t : Table) (o : Offer) (p : Person) (j : List Int) (leg : Nat) : ∀ i, i ≤ t.offers.length → usesAt (moreT t o) p j leg i = usesAt t p j leg i
  | 0, _ => rfl
  | i + 1, h => by
    simp only [usesAt, usesAt_more t o p j leg i (by omega)]
    congr 2
    unfold useOf
    rw [offerAt_more (by omega)]
    rfl
theorem usesTo_more (t : Table) (o : Offer) (p : Person) (j : List Int) : ∀ n, (usesTo t p j n).Sublist (usesTo (moreT t o) p j n)
  | 0 => List.Sublist.refl _
  | n + 1 => by
    refine (usesTo_more t o p j n).append ?_
    have e : (moreT t o).offers.length = t.offers.length + 1 := by simp [moreT]
    rw [e, usesAt, usesAt_more t o p j n _ (Nat.le_refl _)]
    exact List.sublist_append_left _ _
theorem costL_of_not_less {s b : List Use} (h : lessB s b = false) : costL b ≤ costL s := by
  rw [← Bool.not_eq_true, lessB_iff] at h
  omega
theorem best_more {t : Table} {o : Offer} (ht : TableOk t) (hm : TableOk (moreT t o)) (p : Person) {j : List Int} (hj : 1 ≤ j.length) (h : (ansOf ((j.length : Int) - 1) (usesOf t p j) 0).is = true) :
    (ansOf ((j.length : Int) - 1) (usesOf (moreT t o) p j) 0).is = true ∧ (ansOf ((j.length : Int) - 1) (usesOf (moreT t o) p j) 0).tick.cost ≤ (ansOf ((j.length : Int) - 1) (usesOf t p j) 0).tick.cost := by
  have g1 := usesOf_good ht p hj
  have g2 := usesOf_good hm p hj
  have b1 := best_cover g1.sorted g1.fin g1.price (by omega)
  have b2 := best_cover g2.sorted g2.fin g2.price (by omega)
  obtain ⟨h1, h2, h3, _⟩ := b1.2 h
  have hs := h1.trans (usesTo_more t o p j (j.length - 1))
  cases hi : (ansOf ((j.length : Int) - 1) (usesOf (moreT t o) p j) 0).is with
  | false => exact absurd h2 (b2.1 hi _ hs)
  | true =>
    obtain ⟨_, _, k3, k4⟩ := b2.2 hi
    refine ⟨rfl, ?_⟩
    rw [h3, k3]
    exact costL_of_not_less (k4 _ hs h2)
end Go.Qg

/-! Contracts of the reference's functions in, Sum, Lengths, Share. No condition. -/
namespace Go.Qg
open Go.Proofs
set_option maxRecDepth 100000
set_option maxHeartbeats 4000000
attribute [local irreducible] pwp pops pdraw pop popCall pdCall thenP blockP scopeP pspec Spec answers ppost CallW rend

theorem rin_spec (n lo hi : Int) : Spec Try.prog 71 [.v (.int .i64 n), .v (.int .i64 lo), .v (.int .i64 hi)] (.v (.bool (inB n lo hi))) := by
  refine spec_of mixed Try.func71 (by decide) rfl Try.results71 Try.ntmps71 (by decide) 0 (by simp) ?_
  by_cases h1 : lo ≤ n
  · by_cases h2 : n ≤ hi <;> (simp [h1, h2]; refine answers_of rfl ?_; simp [inB, h1, h2])
  · simp [h1]; refine answers_of rfl ?_; simp [inB, h1]

theorem rSum_spec (l : List Int) (hl : l.length ≤ 9223372036854775807) : Spec Try.prog 37 [ints l] (.v (.int .i64 (sumL l))) := by
  refine spec_of mixed Try.func37 (by decide) rfl Try.results37 Try.ntmps37 (by decide) 0 (by simp) ?_
  simp [ints]
  refine pwp_loop (fun k : Nat => [(3, .v (.int .i64 (sumL (l.take k)))), (4, .v (.int .i64 k))]) (fun k => k ≤ l.length) (fun k => l.length - k) 0 (Nat.zero_le _) (by simp; rfl) (by simp [sumL]) ?_
  intro k hk
  by_cases h : k < l.length
  · simp [h]
    refine again_of (k + 1) (by omega) (by omega) ?_
    have := sumL_snoc l k h
    simp [this, i64_wrap (show -9223372036854775808 ≤ (k : Int) + 1 ∧ _ from by omega)]
  · simp [h]
    rw [List.take_of_length_le (by omega)]
    refine answers_of rfl ?_; simp

theorem rLengths_spec (l : List Int) (hl : l.length ≤ 9223372036854775807) : Spec Try.prog 30 [ints l] (.v (.bool (lensB l && decide (0 < sumL l)))) := by
  refine spec_of mixed Try.func30 (by decide) rfl Try.results30 Try.ntmps30 (by decide) 0 (by simp) ?_
  simp [ints]
  refine pwp_loop (fun k : Nat => [(3, .v (.int .i64 k))]) (fun k => k ≤ l.length ∧ ∀ j, j < k → inB (geti l j) 0 10000 = true) (fun k => l.length - k) 0 ⟨Nat.zero_le _, fun j hj => by omega⟩ (by simp; rfl) (by simp) ?_
  intro k ⟨hk, hp⟩
  by_cases h : k < l.length
  · simp [h]
    refine pop_spec (rin_spec (geti l k) 0 10000) rfl false (.inl (by simp)) (.inl rfl) rfl (by simp) ?_
    cases hb : inB (geti l k) 0 10000 with
    | true =>
      simp
      refine again_of (k + 1) ⟨by omega, fun j hj => ?_⟩ (by omega) ?_
      · rcases Nat.lt_succ_iff_lt_or_eq.1 hj with hj | rfl
        · exact hp j hj
        · exact hb
      · simp [i64_wrap (show -9223372036854775808 ≤ (k : Int) + 1 ∧ _ from by omega)]
    | false =>
      simp
      have : lensB l = false := allN_false h hb
      refine answers_of rfl ?_; simp [this]
  · simp [h]
    obtain rfl : k = l.length := by omega
    have : lensB l = true := allN_spec.2 hp
    refine pop_spec (rSum_spec l hl) rfl false (.inl (by simp [ints])) (.inl rfl) rfl (by simp) ?_
    simp
    refine answers_of rfl ?_; simp [this]

theorem rShare_spec (amount : Int) (l : List Int) (h : ShareOk amount l) : Spec Try.prog 36 [.v (.int .i64 amount), ints l] (ints (shareL amount l)) := by
  have h8 := h.len
  have hw := h.whole
  refine spec_of mixed Try.func36 (by decide) rfl Try.results36 Try.ntmps36 (by decide) 0 (by simp) ?_
  simp [ints]
  refine pop_spec (rSum_spec l (by omega)) rfl false (.inl (by simp [ints])) (.inl rfl) rfl (by simp) ?_
  have hf := far_bound h.each
  rw [sumL_all fun k hk => by have := hf k hk; omega]
  simp
  refine pwp_loop (fun k : Nat => [(5, .own 35 k 0 k false), (7, .v (.int .i64 (far l k))), (8, .v (.int .i64 (shareTo amount l k))), (9, .v (.int .i64 k)), (35, .rows none k 3 1 (rowsOf (fun i => [.v (.int .i64 (shareTo amount l (i + 1) - shareTo amount l i))]) k))]) (fun k => k ≤ l.length) (fun k => l.length - k) 0 (Nat.zero_le _) (by simp; rfl) (by simp [shareTo, far]) ?_
  intro k hk
  by_cases hkl : k < l.length
  · have hk1 := hf (k + 1) hkl
    obtain ⟨a1, a2, a3, a4⟩ := h.to (k := k + 1) hkl
    obtain ⟨_, _, _, b4⟩ := h.to (k := k) hk
    have w1 : IntKind.i64.wrap (far l k + geti l k) = far l (k + 1) := i64_wrap (n := far l (k + 1)) (by omega)
    have w2 : IntKind.i64.wrap (amount * far l (k + 1)) = amount * far l (k + 1) := i64_wrap (by omega)
    have w3 : IntKind.i64.wrap ((amount * far l (k + 1)).tdiv (far l l.length)) = shareTo amount l (k + 1) := i64_quo (by omega)
    have w4 : IntKind.i64.wrap (shareTo amount l (k + 1) - shareTo amount l k) = shareTo amount l (k + 1) - shareTo amount l k := i64_wrap (by omega)
    have w5 : IntKind.i64.wrap (shareTo amount l k + (shareTo amount l (k + 1) - shareTo amount l k)) = shareTo amount l (k + 1) := by
      rw [show shareTo amount l k + (shareTo amount l (k + 1) - shareTo amount l k) = shareTo amount l (k + 1) from by omega]; exact i64_wrap (by omega)
    simp [hkl, w1, w2, w3, w4, w5, hw, show (k + 1) * 8 ≤ 140737488355328 from by omega, show k + 1 ≤ maxLen from by simp [maxLen]; omega]
    refine again_of (k + 1) (by omega) (by omega) ?_
    simp [i64_wrap (show -9223372036854775808 ≤ (k : Int) + 1 ∧ _ from by omega), rowsOf_snoc]
  · simp [hkl]
    obtain rfl : k = l.length := by omega
    refine answers_of rfl ?_
    simp [shareL]
    intro k hk; simp [geti_mk hk, rowsOf_get hk]
end Go.Qg

/-! Contracts of the reference's functions Places, Table, Person, Price, and of short. No condition. -/
namespace Go.Qg
open Go.Proofs
set_option maxRecDepth 100000
set_option maxHeartbeats 4000000
attribute [local irreducible] pwp pops pdraw pop popCall pdCall thenP blockP scopeP pspec Spec answers ppost CallW rend

theorem rPlaces_spec (l : List Int) (hl : l.length ≤ 9223372036854775807) : Spec Try.prog 61 [ints l] (.v (.bool (routeB l))) := by
  refine spec_of mixed Try.func61 (by decide) rfl Try.results61 Try.ntmps61 (by decide) 0 (by simp) ?_
  simp [ints]
  refine pwp_loop (fun k : Nat => [(3, .v (.int .i64 k))]) (fun k => k ≤ l.length ∧ ∀ j, j < k → stepB l j = true) (fun k => l.length - k) 0 ⟨Nat.zero_le _, fun j hj => by omega⟩ (by simp; rfl) (by simp) ?_
  intro k ⟨hk, hp⟩
  by_cases h : k < l.length
  · have wk := i64_wrap (show -9223372036854775808 ≤ (k : Int) + 1 ∧ _ from by omega)
    have bad : stepB l k = false → routeB l = false := fun hb => by simp [routeB, allN_false h hb]
    have good : stepB l k = true → ∀ j, j < k + 1 → stepB l j = true := fun hb j hj => by
      rcases Nat.lt_succ_iff_lt_or_eq.1 hj with hj | rfl
      · exact hp j hj
      · exact hb
    simp [h]
    refine pwp_draw 22 (by decide) ?_
    simp [h]
    refine pd_spec (rin_spec (geti l k) 0 19) (by simp) (by simp) (by simp) rfl ?_
    cases h1 : inB (geti l k) 0 19 with
    | false =>
      simp
      refine ⟨by decide, ?_⟩
      rw [bad (by simp [stepB, h1])]
      refine answers_of rfl ?_; simp
    | true =>
      by_cases h0 : k = 0
      · subst h0
        simp
        refine ⟨by decide, ?_⟩
        refine again_of 1 ⟨by omega, good (by simp [stepB, h1])⟩ (by omega) ?_
        simp
      · have w0 : IntKind.i64.wrap ((k : Int) - 1) = (k : Int) - 1 := i64_wrap (by omega)
        have w1 : ((k : Int) - 1).toNat = k - 1 := by omega
        by_cases h2 : geti l k = geti l (k - 1)
        · simp [show 0 < k from by omega, show (0 : Int) < k from by omega, w0, w1, h, show (1 : Int) ≤ k from by omega, show 1 ≤ k from by omega, show (k : Int) - 1 < l.length from by omega, show k - 1 < l.length from by omega, h2]
          refine ⟨by decide, ?_⟩
          rw [bad (by simp [stepB, h0, h2])]
          refine answers_of rfl ?_; simp
        · simp [show 0 < k from by omega, show (0 : Int) < k from by omega, w0, w1, h, show (1 : Int) ≤ k from by omega, show 1 ≤ k from by omega, show (k : Int) - 1 < l.length from by omega, show k - 1 < l.length from by omega, h2]
          refine ⟨by decide, ?_⟩
          refine again_of (k + 1) ⟨by omega, good (by simp [stepB, h1, h2])⟩ (by omega) ?_
          simp [wk]
  · simp [h]
    obtain rfl : k = l.length := by omega
    have : allN l.length (stepB l) = true := allN_spec.2 hp
    refine pop_spec (rin_spec l.length 2 9) rfl false (.inl (by simp)) (.inl rfl) rfl (by simp) ?_
    simp
    refine answers_of rfl ?_; simp [routeB, this]

theorem rPerson_spec (p : Person) : Spec Try.prog 53 [.agg p.cells] (.v (.bool (inB p.weight 0 1000))) := by
  refine spec_of mixed Try.func53 (by decide) rfl Try.results53 Try.ntmps53 (by decide) 0 (by simp) ?_
  simp [Person.cells]
  refine pop_spec (rin_spec p.weight 0 1000) rfl false (.inl (by simp)) (.inl rfl) rfl (by simp) ?_
  simp
  refine answers_of rfl ?_; simp

def shortB (t : Table) : Bool := allN t.offers.length (fun k => decide ((offerAt t.offers k).places.length ≤ 20)) && decide (t.offers.length ≤ 20) && decide (t.bands.length ≤ 20)
theorem short_spec (t : Table) (hf : TableFit t) : Spec Try.prog 17 [.agg t.cells] (.v (.bool (shortB t))) := by
  have h1 := hf.no
  refine spec_of mixed Try.func17 (by decide) rfl Try.results17 Try.ntmps17 (by decide) 0 (by simp) ?_
  simp [Table.cells, offerL, bandL]
  refine pwp_loop (fun k : Nat => [(3, .v (.int .i64 k))]) (fun k => k ≤ t.offers.length ∧ ∀ j, j < k → decide ((offerAt t.offers j).places.length ≤ 20) = true) (fun k => t.offers.length - k) 0 ⟨Nat.zero_le _, fun j hj => by omega⟩ (by simp; rfl) (by simp) ?_
  intro k ⟨hk, hp⟩
  by_cases h : k < t.offers.length
  · have wk := i64_wrap (show -9223372036854775808 ≤ (k : Int) + 1 ∧ _ from by omega)
    by_cases h2 : (offerAt t.offers k).places.length ≤ 20
    · simp [h, Offer.cells_eq (offerAt t.offers k), show ((offerAt t.offers k).places.length : Int) ≤ 20 from by omega, show ¬ (20 : Int) < (offerAt t.offers k).places.length from by omega]
      refine again_of (k + 1) ⟨by omega, fun j hj => ?_⟩ (by omega) ?_
      · rcases Nat.lt_succ_iff_lt_or_eq.1 hj with hj | rfl
        · simpa using hp j hj
        · simp [h2]
      · simp [wk]
    · simp [h, Offer.cells_eq (offerAt t.offers k), show ¬ ((offerAt t.offers k).places.length : Int) ≤ 20 from by omega, show (20 : Int) < (offerAt t.offers k).places.length from by omega]
      have : shortB t = false := by
        have := allN_false (p := fun k => decide ((offerAt t.offers k).places.length ≤ 20)) h (by simp [h2])
        simp [shortB, this]
      rw [this]
      refine answers_of rfl ?_; simp
  · obtain rfl : k = t.offers.length := by omega
    have h0 := allN_spec.2 hp
    by_cases h2 : t.offers.length ≤ 20
    · by_cases h3 : t.bands.length ≤ 20
      · simp [show (t.offers.length : Int) ≤ 20 from by omega, show (t.bands.length : Int) ≤ 20 from by omega]
        refine answers_of rfl ?_; simp [shortB, h0, h2, h3]
      · simp [show (t.offers.length : Int) ≤ 20 from by omega, show ¬ (t.bands.length : Int) ≤ 20 from by omega]
        refine answers_of rfl ?_; simp [shortB, h0, h2, h3]
    · simp [show ¬ (t.offers.length : Int) ≤ 20 from by omega]
      refine answers_of rfl ?_; simp [shortB, h0, h2]

theorem rTable_spec (t : Table) (hf : TableFit t) : Spec Try.prog 27 [.agg t.cells] (.v (.bool (validB t))) := by
  have hno := hf.no
  have hnb := hf.nb
  refine spec_of mixed Try.func27 (by decide) rfl Try.results27 Try.ntmps27 (by decide) 0 (by simp) ?_
  simp [Table.cells, offerL, bandL]
  refine pwp_loop (fun k : Nat => [(3, .v (.int .i64 k))]) (fun k => k ≤ t.offers.length ∧ ∀ j, j < k → offerB (offerAt t.offers j) = true) (fun k => t.offers.length - k) 0 ⟨Nat.zero_le _, fun j hj => by omega⟩ (by simp; rfl) (by simp) ?_
  intro k ⟨hk, hp⟩
  by_cases h : k < t.offers.length
  · have wk := i64_wrap (show -9223372036854775808 ≤ (k : Int) + 1 ∧ _ from by omega)
    have hpl := hf.np _ (offerAt_mem h)
    have bad : offerB (offerAt t.offers k) = false → validB t = false := fun hb => by
      have := allN_false (p := fun k => offerB (offerAt t.offers k)) h hb
      simp [validB, this]
    simp [h, Offer.cells_eq (offerAt t.offers k)]
    refine pop_spec (rPlaces_spec (offerAt t.offers k).places hpl) rfl false (.inl (by simp [ints])) (.inl rfl) rfl (by simp) ?_
    cases h1 : routeB (offerAt t.offers k).places with
    | false =>
      simp
      rw [bad (by simp [offerB, h1])]
      refine answers_of rfl ?_; simp
    | true =>
      simp [h, Offer.cells_eq (offerAt t.offers k)]
      refine pop_spec (rin_spec (offerAt t.offers k).cost 0 1000000000) rfl false (.inl (by simp)) (.inl rfl) rfl (by simp) ?_
      cases h2 : inB (offerAt t.offers k).cost 0 1000000000 with
      | false =>
        simp
        rw [bad (by simp [offerB, h2])]
        refine answers_of rfl ?_; simp
      | true =>
        simp
        refine again_of (k + 1) ⟨by omega, fun j hj => ?_⟩ (by omega) ?_
        · rcases Nat.lt_succ_iff_lt_or_eq.1 hj with hj | rfl
          · exact hp j hj
          · simp [offerB, h1, h2]
        · simp [wk]
  · obtain rfl : k = t.offers.length := by omega
    have ho : allN t.offers.length (fun k => offerB (offerAt t.offers k)) = true := allN_spec.2 hp
    simp
    refine pwp_loop (fun k : Nat => [(4, .v (.int .i64 k))]) (fun k => k ≤ t.bands.length ∧ ∀ j, j < k → bandB t.bands j = true) (fun k => t.bands.length - k) 0 ⟨Nat.zero_le _, fun j hj => by omega⟩ (by simp; rfl) (by simp) ?_
    intro k ⟨hk, hq⟩
    by_cases h : k < t.bands.length
    · have wk := i64_wrap (show -9223372036854775808 ≤ (k : Int) + 1 ∧ _ from by omega)
      have bad : bandB t.bands k = false → validB t = false := fun hb => by simp [validB, allN_false h hb]
      have good : bandB t.bands k = true → ∀ j, j < k + 1 → bandB t.bands j = true := fun hb j hj => by
        rcases Nat.lt_succ_iff_lt_or_eq.1 hj with hj | rfl
        · exact hq j hj
        · exact hb
      simp [h]
      refine pwp_draw 38 (by decide) ?_
      simp (config := { maxSteps := 1000000 }) [h, Band.cells]
      refine pd_spec (rin_spec (bandAt t.bands k).up 0 1000) (by simp) (by simp) (by simp) rfl ?_
      cases h1 : inB (bandAt t.bands k).up 0 1000 with
      | false =>
        simp (config := { maxSteps := 1000000 })
        refine ⟨by decide, ?_⟩
        rw [bad (by simp [bandB, h1])]
        refine answers_of rfl ?_; simp
      | true =>
        simp (config := { maxSteps := 1000000 }) [h, Band.cells]
        refine pd_spec (rin_spec (bandAt t.bands k).extra 0 1000000000) (by simp) (by simp) (by simp) rfl ?_
        cases h2 : inB (bandAt t.bands k).extra 0 1000000000 with
        | false =>
          simp (config := { maxSteps := 1000000 })
          refine ⟨by decide, ?_⟩
          rw [bad (by simp [bandB, h2])]
          refine answers_of rfl ?_; simp
        | true =>
          by_cases h0 : k = 0
          · subst h0
            simp (config := { maxSteps := 1000000 })
            refine ⟨by decide, ?_⟩
            refine again_of 1 ⟨by omega, good (by simp [bandB, h1, h2])⟩ (by omega) ?_
            simp
          · have w0 : IntKind.i64.wrap ((k : Int) - 1) = (k : Int) - 1 := i64_wrap (by omega)
            have w1 : ((k : Int) - 1).toNat = k - 1 := by omega
            by_cases h3 : (bandAt t.bands k).up ≤ (bandAt t.bands (k - 1)).up
            · simp (config := { maxSteps := 1000000 }) [show 0 < k from by omega, show (0 : Int) < k from by omega, w0, w1, h, Band.cells, show (1 : Int) ≤ k from by omega, show 1 ≤ k from by omega, show (k : Int) - 1 < t.bands.length from by omega, show k - 1 < t.bands.length from by omega, h3]
              refine ⟨by decide, ?_⟩
              rw [bad (by simp [bandB, h0, Int.not_lt.2 h3])]
              refine answers_of rfl ?_; simp
            · simp (config := { maxSteps := 1000000 }) [show 0 < k from by omega, show (0 : Int) < k from by omega, w0, w1, h, Band.cells, show (1 : Int) ≤ k from by omega, show 1 ≤ k from by omega, show (k : Int) - 1 < t.bands.length from by omega, show k - 1 < t.bands.length from by omega, h3]
              refine ⟨by decide, ?_⟩
              refine again_of (k + 1) ⟨by omega, good (by simp [bandB, h1, h2, Int.not_le.1 h3])⟩ (by omega) ?_
              simp [wk]
    · obtain rfl : k = t.bands.length := by omega
      have hb : allN t.bands.length (bandB t.bands) = true := allN_spec.2 hq
      by_cases h2 : t.offers.length ≤ 12
      · by_cases h3 : t.bands.length ≤ 8
        · simp [show (t.offers.length : Int) ≤ 12 from by omega, show (t.bands.length : Int) ≤ 8 from by omega]
          refine pop_spec (rin_spec t.less 0 1000) rfl false (.inl (by simp)) (.inl rfl) rfl (by simp) ?_
          simp
          refine answers_of rfl ?_; simp [validB, ho, hb, h2, h3]
        · simp [show (t.offers.length : Int) ≤ 12 from by omega, show ¬ (t.bands.length : Int) ≤ 8 from by omega]
          refine answers_of rfl ?_; simp [validB, h2, h3]
      · simp [show ¬ (t.offers.length : Int) ≤ 12 from by omega]
        refine answers_of rfl ?_; simp [validB, h2]

/-- The price as the reference tells it. -/
def rPriceOf (t : Table) (p : Person) (o : Offer) : Int := (priceOf t p o).getD (-1)
theorem rPrice_spec (t : Table) (i : Nat) (p : Person) (ht : TableOk t) (hi : i < t.offers.length) : Spec Try.prog 46 [.agg t.cells, .v (.int .i64 i), .agg p.cells] (.v (.int .i64 (rPriceOf t p (offerAt t.offers i)))) := by
  have hm := offerAt_mem hi
  obtain ⟨⟨c1, c2⟩, c3, c4⟩ := ht.offer _ hm
  have hl := ht.less
  have hnb := ht.nb
  refine spec_of mixed Try.func46 (by decide) rfl Try.results46 Try.ntmps46 (by decide) 0 (by simp) ?_
  simp [Table.cells, offerL, bandL, Person.cells, hi, Offer.cells_eq (offerAt t.offers i)]
  generalize offerAt t.offers i = o at *
  have e0 : 0 ≤ o.cost * t.less := Int.mul_nonneg c1 hl.1
  have e1 : o.cost * t.less ≤ 1000000000 * 1000 := Int.mul_le_mul c2 hl.2 hl.1 (by omega)
  have e2 : o.cost * t.less ≤ o.cost * 1000 := Int.mul_le_mul_of_nonneg_left hl.2 c1
  have w1 : IntKind.i64.wrap (o.cost * t.less) = o.cost * t.less := i64_wrap (by omega)
  have w2 : IntKind.i64.wrap ((o.cost * t.less).tdiv 1000) = o.cost * t.less / 1000 := i64_quo (by omega)
  have w3 : IntKind.i64.wrap (o.cost - o.cost * t.less / 1000) = o.cost - o.cost * t.less / 1000 := i64_wrap (by omega)
  have no : o.res = true → p.res = false → rPriceOf t p o = -1 := fun h1 h2 => by
    unfold rPriceOf priceOf
    cases extraOf t.bands p.weight <;> simp [h1, h2]
  have fin : (o.res && !p.res) = false → ∀ x, extraOf t.bands p.weight = some x → rPriceOf t p o = (if p.res then o.cost - o.cost * t.less / 1000 else o.cost) + x * ((o.places.length : Int) - 1) := fun h1 x hx => by
    unfold rPriceOf priceOf heavyOf lessOf
    rw [hx]
    simp only [h1, Bool.false_eq_true, if_false, Option.getD_some]
    split <;> omega
  have finN : extraOf t.bands p.weight = none → rPriceOf t p o = -1 := fun hx => by
    unfold rPriceOf priceOf
    rw [hx]; rfl
  cases hp : p.res with
  | false =>
    cases ho : o.res with
    | true =>
      simp
      rw [no ho hp]
      refine answers_of rfl ?_; simp
    | false =>
      have fin := fin (by simp [ho])
      rw [hp] at fin
      simp
      refine pwp_loop (fun k : Nat => [(9, .v (.int .i64 k))]) (fun k => k ≤ t.bands.length ∧ ∀ j, j < k → (bandAt t.bands j).up < p.weight) (fun k => t.bands.length - k) 0 ⟨Nat.zero_le _, fun j hj => by omega⟩ (by simp; rfl) (by simp) ?_
      intro k ⟨hk, hq⟩
      by_cases h : k < t.bands.length
      · have wk := i64_wrap (show -9223372036854775808 ≤ (k : Int) + 1 ∧ _ from by omega)
        simp [h]
        refine pwp_draw 9 (by decide) ?_
        by_cases h1 : p.weight ≤ (bandAt t.bands k).up
        · have hx : extraOf t.bands p.weight = some (bandAt t.bands k).extra := by
            unfold extraOf
            rw [find_at (d := default) h (fun j hj => by have := hq j hj; simp only [bandAt] at this; simp only [decide_eq_false_iff_not]; omega) (by simpa [bandAt] using h1)]
            rfl
          have hxb := extraOf_bound (w := p.weight) ht.extra
          rw [hx] at hxb
          simp only [Option.getD_some] at hxb
          rw [fin _ hx]
          generalize hxe : (bandAt t.bands k).extra = x at *
          have f0 : 0 ≤ x * ((o.places.length : Int) - 1) := Int.mul_nonneg hxb.1 (by omega)
          have f1 : x * ((o.places.length : Int) - 1) ≤ 1000000000 * 8 := Int.mul_le_mul hxb.2 (by omega) (by omega) (by omega)
          have v1 : IntKind.i64.wrap ((o.places.length : Int) - 1) = (o.places.length : Int) - 1 := i64_wrap (by omega)
          have v2 : IntKind.i64.wrap (x * ((o.places.length : Int) - 1)) = x * ((o.places.length : Int) - 1) := i64_wrap (by omega)
          have v3 : IntKind.i64.wrap (o.cost + x * ((o.places.length : Int) - 1)) = o.cost + x * ((o.places.length : Int) - 1) := i64_wrap (by omega)
          simp [h, Band.cells, h1]
          refine ⟨by decide, ?_⟩
          refine pwp_draw 14 (by decide) ?_
          simp [h, hxe, v1, v2, v3]
          refine ⟨by decide, ?_⟩
          refine answers_of rfl ?_; simp
        · simp [h, Band.cells, h1]
          refine ⟨by decide, ?_⟩
          refine again_of (k + 1) ⟨by omega, fun j hj => ?_⟩ (by omega) ?_
          · rcases Nat.lt_succ_iff_lt_or_eq.1 hj with hj | rfl
            · exact hq j hj
            · omega
          · simp [wk]
      · obtain rfl : k = t.bands.length := by omega
        have hx : extraOf t.bands p.weight = none := by
          unfold extraOf
          rw [find_no (d := default) fun j hj => by have := hq j hj; simp only [bandAt] at this; simp only [decide_eq_false_iff_not]; omega]
          rfl
        rw [finN hx]
        simp
        refine answers_of rfl ?_; simp
  | true =>
    have fin := fin (by simp [hp])
    rw [hp] at fin
    cases ho : o.res with
    | false =>
        simp [w1, w2, w3]
        refine pwp_loop (fun k : Nat => [(9, .v (.int .i64 k))]) (fun k => k ≤ t.bands.length ∧ ∀ j, j < k → (bandAt t.bands j).up < p.weight) (fun k => t.bands.length - k) 0 ⟨Nat.zero_le _, fun j hj => by omega⟩ (by simp; rfl) (by simp) ?_
        intro k ⟨hk, hq⟩
        by_cases h : k < t.bands.length
        · have wk := i64_wrap (show -9223372036854775808 ≤ (k : Int) + 1 ∧ _ from by omega)
          simp [h]
          refine pwp_draw 9 (by decide) ?_
          by_cases h1 : p.weight ≤ (bandAt t.bands k).up
          · have hx : extraOf t.bands p.weight = some (bandAt t.bands k).extra := by
              unfold extraOf
              rw [find_at (d := default) h (fun j hj => by have := hq j hj; simp only [bandAt] at this; simp only [decide_eq_false_iff_not]; omega) (by simpa [bandAt] using h1)]
              rfl
            have hxb := extraOf_bound (w := p.weight) ht.extra
            rw [hx] at hxb
            simp only [Option.getD_some] at hxb
            rw [fin _ hx]
            generalize hxe : (bandAt t.bands k).extra = x at *
            generalize hdd : o.cost * t.less / 1000 = dd at *
            have f0 : 0 ≤ x * ((o.places.length : Int) - 1) := Int.mul_nonneg hxb.1 (by omega)
            have f1 : x * ((o.places.length : Int) - 1) ≤ 1000000000 * 8 := Int.mul_le_mul hxb.2 (by omega) (by omega) (by omega)
            have v1 : IntKind.i64.wrap ((o.places.length : Int) - 1) = (o.places.length : Int) - 1 := i64_wrap (by omega)
            have v2 : IntKind.i64.wrap (x * ((o.places.length : Int) - 1)) = x * ((o.places.length : Int) - 1) := i64_wrap (by omega)
            have v3 : IntKind.i64.wrap (o.cost - dd + x * ((o.places.length : Int) - 1)) = o.cost - dd + x * ((o.places.length : Int) - 1) := i64_wrap (by omega)
            simp [h, Band.cells, h1]
            refine ⟨by decide, ?_⟩
            refine pwp_draw 14 (by decide) ?_
            simp [h, hxe, v1, v2, v3]
            refine ⟨by decide, ?_⟩
            refine answers_of rfl ?_; simp
          · simp [h, Band.cells, h1]
            refine ⟨by decide, ?_⟩
            refine again_of (k + 1) ⟨by omega, fun j hj => ?_⟩ (by omega) ?_
            · rcases Nat.lt_succ_iff_lt_or_eq.1 hj with hj | rfl
              · exact hq j hj
              · omega
            · simp [wk]
        · obtain rfl : k = t.bands.length := by omega
          have hx : extraOf t.bands p.weight = none := by
            unfold extraOf
            rw [find_no (d := default) fun j hj => by have := hq j hj; simp only [bandAt] at this; simp only [decide_eq_false_iff_not]; omega]
            rfl
          rw [finN hx]
          simp
          refine answers_of rfl ?_; simp
    | true =>
        simp [w1, w2, w3]
        refine pwp_loop (fun k : Nat => [(9, .v (.int .i64 k))]) (fun k => k ≤ t.bands.length ∧ ∀ j, j < k → (bandAt t.bands j).up < p.weight) (fun k => t.bands.length - k) 0 ⟨Nat.zero_le _, fun j hj => by omega⟩ (by simp; rfl) (by simp) ?_
        intro k ⟨hk, hq⟩
        by_cases h : k < t.bands.length
        · have wk := i64_wrap (show -9223372036854775808 ≤ (k : Int) + 1 ∧ _ from by omega)
          simp [h]
          refine pwp_draw 9 (by decide) ?_
          by_cases h1 : p.weight ≤ (bandAt t.bands k).up
          · have hx : extraOf t.bands p.weight = some (bandAt t.bands k).extra := by
              unfold extraOf
              rw [find_at (d := default) h (fun j hj => by have := hq j hj; simp only [bandAt] at this; simp only [decide_eq_false_iff_not]; omega) (by simpa [bandAt] using h1)]
              rfl
            have hxb := extraOf_bound (w := p.weight) ht.extra
            rw [hx] at hxb
            simp only [Option.getD_some] at hxb
            rw [fin _ hx]
            generalize hxe : (bandAt t.bands k).extra = x at *
            generalize hdd : o.cost * t.less / 1000 = dd at *
            have f0 : 0 ≤ x * ((o.places.length : Int) - 1) := Int.mul_nonneg hxb.1 (by omega)
            have f1 : x * ((o.places.length : Int) - 1) ≤ 1000000000 * 8 := Int.mul_le_mul hxb.2 (by omega) (by omega) (by omega)
            have v1 : IntKind.i64.wrap ((o.places.length : Int) - 1) = (o.places.length : Int) - 1 := i64_wrap (by omega)
            have v2 : IntKind.i64.wrap (x * ((o.places.length : Int) - 1)) = x * ((o.places.length : Int) - 1) := i64_wrap (by omega)
            have v3 : IntKind.i64.wrap (o.cost - dd + x * ((o.places.length : Int) - 1)) = o.cost - dd + x * ((o.places.length : Int) - 1) := i64_wrap (by omega)
            simp [h, Band.cells, h1]
            refine ⟨by decide, ?_⟩
            refine pwp_draw 14 (by decide) ?_
            simp [h, hxe, v1, v2, v3]
            refine ⟨by decide, ?_⟩
            refine answers_of rfl ?_; simp
          · simp [h, Band.cells, h1]
            refine ⟨by decide, ?_⟩
            refine again_of (k + 1) ⟨by omega, fun j hj => ?_⟩ (by omega) ?_
            · rcases Nat.lt_succ_iff_lt_or_eq.1 hj with hj | rfl
              · exact hq j hj
              · omega
            · simp [wk]
        · obtain rfl : k = t.bands.length := by omega
          have hx : extraOf t.bands p.weight = none := by
            unfold extraOf
            rw [find_no (d := default) fun j hj => by have := hq j hj; simp only [bandAt] at this; simp only [decide_eq_false_iff_not]; omega]
            rfl
          rw [finN hx]
          simp
          refine answers_of rfl ?_; simp
end Go.Qg

/-! The contract of asked; the law FareMore returns true. No condition. -/
namespace Go.Qg
open Go.Proofs
set_option maxRecDepth 100000
set_option maxHeartbeats 4000000
attribute [local irreducible] pwp pops pdraw pop popCall pdCall thenP blockP scopeP pspec Spec answers ppost CallW rend

def askedB (t : Table) (p : Person) (j : List Int) (fine : Bool) : Bool := validB t && inB p.weight 0 1000 && routeB j && fine
theorem asked_spec (t : Table) (p : Person) (j : List Int) (fine : Bool) (hf : TableFit t) (hj : j.length ≤ 9223372036854775807) : Spec Try.prog 19 [.agg t.cells, .agg p.cells, ints j, .v (.bool fine)] (.v (.int .i64 (if askedB t p j fine then 0 else 2))) := by
  refine spec_of mixed Try.func19 (by decide) rfl Try.results19 Try.ntmps19 (by decide) 0 (by simp) ?_
  simp [Table.cells, offerL, bandL, Person.cells, ints]
  refine pop_spec (rTable_spec t hf) rfl false (.inl (by simp [Table.cells, offerL, bandL])) (.inl rfl) rfl (by simp) ?_
  cases h1 : validB t with
  | false => simp; refine answers_of rfl ?_; simp [askedB, h1]
  | true =>
    simp
    refine pop_spec (rPerson_spec p) rfl false (.inl (by simp [Person.cells])) (.inl rfl) rfl (by simp) ?_
    cases h2 : inB p.weight 0 1000 with
    | false => simp; refine answers_of rfl ?_; simp [askedB, h2]
    | true =>
      simp
      refine pop_spec (rPlaces_spec j hj) rfl false (.inl (by simp [ints])) (.inl rfl) rfl (by simp) ?_
      cases h3 : routeB j with
      | false => simp; refine answers_of rfl ?_; simp [askedB, h3]
      | true =>
        cases fine with
        | false => simp; refine answers_of rfl ?_; simp [askedB]
        | true => simp; refine answers_of rfl ?_; simp [askedB, h1, h2, h3]

theorem offerAt_snoc (l : List Offer) (o : Offer) (k : Nat) (hk : k < l.length + 1) : offerAt (l ++ [o]) k = if k < l.length then offerAt l k else o := by
  split
  · rename_i h; simp [offerAt, List.getElem?_append_left h]
  · rename_i h
    obtain rfl : k = l.length := by omega
    simp [offerAt]
theorem rows_snoc (l : List Offer) (o : Offer) : (List.range l.length).map (fun i => (offerAt l i).cells) ++ [o.cells] = rowsOf (fun i => (offerAt (l ++ [o]) i).cells) (l.length + 1) := by
  rw [rowsOf, List.range_succ, List.map_append]
  congr 1
  · refine List.map_congr_left fun i hi => ?_
    have := List.mem_range.1 hi
    rw [offerAt_snoc l o i (by omega), if_pos this]
  · rw [List.map_singleton, offerAt_snoc l o _ (by omega), if_neg (by omega)]

theorem FareMore_spec (t : Table) (p : Person) (j : List Int) (one : Offer) (hf : TableFit t) (hj : j.length ≤ 9223372036854775807) (ho : one.places.length ≤ 9223372036854775807) : Spec Try.prog 4 [.agg t.cells, .agg p.cells, ints j, .agg one.cells] (.v (.bool true)) := by
  refine spec_of mixed Try.func4 (by decide) rfl Try.results4 Try.ntmps4 (by decide) 0 (by simp) ?_
  simp [Table.cells, offerL, bandL, Person.cells, ints, Offer.cells_eq one]
  refine pop_spec (short_spec t hf) rfl false (.inl (by simp [Table.cells, offerL, bandL])) (.inl rfl) rfl (by simp) ?_
  cases hs : shortB t with
  | false =>
    simp
    refine pop_spec known_spec rfl false (.inl (by simp)) (.inl rfl) rfl (by simp) ?_
    simp
    refine answers_of rfl ?_; simp
  | true =>
    by_cases hj20 : 20 < j.length
    · simp [show (20 : Int) < j.length from by omega, show ¬ (j.length : Int) ≤ 20 from by omega]
      refine pop_spec known_spec rfl false (.inl (by simp)) (.inl rfl) rfl (by simp) ?_
      simp
      refine answers_of rfl ?_; simp
    by_cases ho20 : 20 < one.places.length
    · simp [show ¬ (20 : Int) < j.length from by omega, show (j.length : Int) ≤ 20 from by omega, show (20 : Int) < one.places.length from by omega, show ¬ (one.places.length : Int) ≤ 20 from by omega]
      refine pop_spec known_spec rfl false (.inl (by simp)) (.inl rfl) rfl (by simp) ?_
      simp
      refine answers_of rfl ?_; simp
    by_cases ht12 : 12 ≤ t.offers.length
    · simp [show ¬ (20 : Int) < j.length from by omega, show (j.length : Int) ≤ 20 from by omega, show ¬ (20 : Int) < one.places.length from by omega, show (one.places.length : Int) ≤ 20 from by omega, show (12 : Int) ≤ t.offers.length from by omega, show ¬ (t.offers.length : Int) < 12 from by omega]
      refine pop_spec known_spec rfl false (.inl (by simp)) (.inl rfl) rfl (by simp) ?_
      simp
      refine answers_of rfl ?_; simp
    simp [show ¬ (20 : Int) < j.length from by omega, show (j.length : Int) ≤ 20 from by omega, show ¬ (20 : Int) < one.places.length from by omega, show (one.places.length : Int) ≤ 20 from by omega, show ¬ (12 : Int) ≤ t.offers.length from by omega, show (t.offers.length : Int) < 12 from by omega]
    refine pop_spec (asked_spec t p j true hf hj) rfl false (.inl (by simp [Table.cells, offerL, bandL, Person.cells, ints])) (.inl rfl) rfl (by simp) ?_
    cases hask : askedB t p j true with
    | false =>
      simp
      refine pop_spec known_spec rfl false (.inl (by simp)) (.inl rfl) rfl (by simp) ?_
      simp
      refine answers_of rfl ?_; simp
    | true =>
      have hno : t.offers.length < 12 := by omega
      simp only [askedB, Bool.and_eq_true] at hask
      obtain ⟨⟨⟨hv, hw⟩, hr⟩, _⟩ := hask
      have ht := valid_ok hv
      have hjr := route_ok hr
      simp
      refine pwp_draw 8 (by decide) ?_
      simp [show t.offers.length * 40 ≤ 140737488355328 from by omega, show (t.offers.length + 1) * 40 ≤ 140737488355328 from by omega, show t.offers.length ≤ maxLen from by simp [maxLen]; omega, show t.offers.length + 1 ≤ maxLen from by simp [maxLen]; omega]
      refine ⟨by decide, ?_⟩
      have hrows := rows_snoc t.offers one
      have hfm : TableFit (moreT t one) := by
        refine ⟨by simp [moreT]; omega, hf.nb, fun o hom => ?_⟩
        rcases List.mem_append.1 hom with hom | hom
        · exact hf.np o hom
        · obtain rfl := List.mem_singleton.1 hom; exact ho
      have hml : (moreT t one).offers.length = t.offers.length + 1 := by simp [moreT]
      refine pop_specF [(9, .box true (moreT t one).cells), (49, .undef), (52, .undef), (54, .agg (moreT t one).cells)] ?_ (rTable_spec (moreT t one) hfm) rfl false (.inl (by simp [Table.cells, offerL, bandL])) (.inl rfl) rfl (by simp) ?_
      · simp [Table.cells, offerL, bandL, moreT]
        refine ⟨?_, ?_⟩
        · intro k hk
          by_cases h : k < t.offers.length
          · simp [offerAt_snoc t.offers one k hk, h, List.getElem?_append_left, Offer.cells_eq (offerAt t.offers k)]
          · obtain rfl : k = t.offers.length := by omega
            simp [offerAt_snoc t.offers one _ hk, Offer.cells_eq one]
        · intro k hk
          by_cases h : k < t.offers.length
          · simp [offerAt_snoc t.offers one k hk, h, List.getElem?_append_left, Offer.cells_eq (offerAt t.offers k)]
          · obtain rfl : k = t.offers.length := by omega
            simp [offerAt_snoc t.offers one _ hk, Offer.cells_eq one]
      simp [Table.cells, offerL, bandL, hml]
      cases hvm : validB (moreT t one) with
      | false =>
        simp
        refine pop_spec known_spec rfl false (.inl (by simp)) (.inl rfl) rfl (by simp) ?_
        simp
        refine answers_of rfl ?_; simp
      | true =>
        have htm := valid_ok hvm
        have hbad1 : bestBad t p j = false := by simp [bestBad, hv, hw, hr]
        have hbad2 : bestBad (moreT t one) p j = false := by simp [bestBad, hvm, hw, hr]
        have hb1 := Best_spec t p j hf hj
        have hb2 := Best_spec (moreT t one) p j hfm hj
        simp
        refine pop_spec hb1 rfl false (.inl (by simp [Table.cells, offerL, bandL, Person.cells, ints])) (.inl rfl) rfl (by simp [BestR.pv, fuseL, ints]) ?_
        simp [BestR.pv, fuseL, ints]
        refine pop_spec hb2 rfl false (.inl (by simp [Table.cells, offerL, bandL, Person.cells, ints, hml])) (.inl rfl) rfl (by simp [BestR.pv, fuseL, ints]) ?_
        have hm := best_more (o := one) ht htm p (j := j) (by omega)
        cases hi : (ansOf ((j.length : Int) - 1) (usesOf t p j) 0).is with
        | false =>
          have e1 : bestOf t p j = ⟨[], 0, [], 5⟩ := by simp [bestOf, hbad1, hi]
          rw [e1]
          simp [BestR.pv, fuseL, ints]
          refine pop_spec known_spec rfl false (.inl (by simp)) (.inl rfl) rfl (by simp) ?_
          simp
          refine answers_of rfl ?_; simp
        | true =>
          obtain ⟨h1, h2⟩ := hm hi
          have e1 : (bestOf t p j).err = 0 ∧ (bestOf t p j).cost = (ansOf ((j.length : Int) - 1) (usesOf t p j) 0).tick.cost := by simp [bestOf, hbad1, hi]
          have e2 : (bestOf (moreT t one) p j).err = 0 ∧ (bestOf (moreT t one) p j).cost = (ansOf ((j.length : Int) - 1) (usesOf (moreT t one) p j) 0).tick.cost := by simp [bestOf, hbad2, h1]
          simp [BestR.pv, fuseL, ints, e1.1, e1.2, e2.1, e2.2, h2]
          refine pop_spec known_spec rfl false (.inl (by simp)) (.inl rfl) rfl (by simp) ?_
          simp
          refine answers_of rfl ?_; simp
end Go.Qg

/-! FareMore: for every table, person, journey and one more offer the law returns true, and leaves its arguments as they were. No condition. -/
namespace Go.Proofs.Ytmnoepkamkomkaa.lawFareMore
open Go.Qg Go.ChangeAt Go.RowKit
set_option maxRecDepth 100000

theorem spec (args : List PV) (hl : Try.f4.params.toList.length = args.length) (h : ∀ (j : Nat) t p, Try.f4.params.toList[j]? = some t → args[j]? = some p → ArgP Try.prog 6 t p) : Qg.Spec Try.prog 4 args (.v (.bool true)) := by
  rw [Try.params4] at hl h
  match args, hl with
  | [a0, a1, a2, a3], _ =>
    obtain ⟨t, rfl, ht⟩ := a_table (h 0 _ a0 rfl rfl)
    obtain ⟨p, rfl, hp⟩ := a_person (h 1 _ a1 rfl rfl)
    obtain ⟨j, rfl, jlen, jok⟩ := a_ints (h 2 _ a2 rfl rfl)
    obtain ⟨o, rfl, ho, hoc⟩ := a_offer (h 3 _ a3 rfl rfl)
    exact FareMore_spec t p j o ht jlen ho

theorem lifted (os : Os) (started : os.Started) (H : Type) (enc : TypeId × Value → H) :
    ReturnsInHanded {} Try.checked os 4 .any (Rows.fareMoreSpec.pre6 enc Try.prog Try.f4 Rows.fareMoreRow.domain false) (Rows.fareMoreSpec.post enc Try.prog Try.f4 false true false false) := by
  refine law_lifted (C := Try.checked) 6 (tb := 4) ownKnob_ started (by kernel_rfl) Try.func4
    (ChangeSpec.witness6 (enc := enc) (C := Try.checked) false ⟨#[], #[.agg #[.slice none 0 0, .slice none 0 0, .int .i64 0], .agg #[.int .i64 0, .bool false], .slice none 0 0, .agg #[.slice none 0 0, .int .i64 0, .bool false]], []⟩ 8 (by kernel_rfl) (by kernel_rfl) (by kernel_rfl) (by kernel_rfl)) laidOut_ rfl (by kernel_rfl) (by kernel_rfl) Try.underlying4 ?_ spec
  intro ds hds
  match ds, hds with
  | [_, _, _, _], _ => exact ⟨rfl, rfl, rfl⟩

theorem FareMore_holds : Rows.FareMoreSaid :=
  OpenClaim.holds_of_wide 4 Try.f4 rfl rfl rfl rfl rfl rfl rfl ⟨rfl, rfl, rfl, rfl, rfl⟩ rfl rfl rfl rfl rfl (by kernel_rfl) Try.func4 (by kernel_rfl)
    (of_decide_eq_true (by kernel_rfl)) (by unfold Func.isWrapper; first | (rw [if_pos (by decide +kernel)]; kernel_rfl) | (rw [if_neg (by decide +kernel)]; exact ⟨rfl, rfl⟩))
    (fun os started H enc _ => lifted os started H enc)
end Go.Proofs.Ytmnoepkamkomkaa.lawFareMore
