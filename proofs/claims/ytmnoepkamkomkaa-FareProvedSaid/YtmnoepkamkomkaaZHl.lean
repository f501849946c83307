/-
  FareProved: for every table, person, journey, proposed leg prices and proposed tickets the law returns true, and leaves its arguments as they were.
  No condition.
-/
import Derived.Test.YtmnoepkamkomkaaZ5
set_option linter.all false

/-! Tickets: the cheapest chain of uses is the cheapest cover (plain law). No condition. -/
namespace Go.Qg

/-! ### Tickets: the cheapest chain is the cheapest cover -/
def costL (s : List Use) : Int := (s.map (·.price)).sum
@[simp] theorem costL_nil : costL [] = 0 := rfl
@[simp] theorem costL_cons (u : Use) (s : List Use) : costL (u :: s) = u.price + costL s := by simp [costL]
def aheadB (a b : Use) : Bool := decide (a.leg < b.leg) || (decide (a.leg = b.leg) && decide (a.offer < b.offer))
/-- Which of two lists comes first, where they differ first. -/
def lexB : List Use → List Use → Bool
  | [], _ => false
  | _ :: _, [] => false
  | a :: s, b :: t => if a ≠ b then aheadB a b else lexB s t
def lessB (a b : List Use) : Bool := if costL a ≠ costL b then decide (costL a < costL b) else if a.length ≠ b.length then decide (a.length < b.length) else lexB a b
def chain (legs : Int) : Int → List Use → Prop
  | a, [] => a = legs
  | a, u :: s => u.leg ≤ a ∧ a < u.fin ∧ chain legs u.fin s
def Sorted (l : List Use) : Prop := l.Pairwise fun a b => aheadB a b = true

theorem aheadB_irr (a : Use) : aheadB a a = false := by simp [aheadB]
theorem aheadB_asym {a b : Use} (h : aheadB a b = true) : aheadB b a = false := by
  simp only [aheadB, Bool.or_eq_true, Bool.and_eq_true, decide_eq_true_eq, Bool.or_eq_false_iff, Bool.and_eq_false_iff, decide_eq_false_iff_not] at h ⊢
  omega
theorem aheadB_trans {a b c : Use} (h : aheadB a b = true) (k : aheadB b c = true) : aheadB a c = true := by
  simp only [aheadB, Bool.or_eq_true, Bool.and_eq_true, decide_eq_true_eq] at h k ⊢
  omega

theorem lexB_irr : ∀ s : List Use, lexB s s = false
  | [] => rfl
  | a :: s => by simp [lexB, lexB_irr s]
theorem lessB_irr (s : List Use) : lessB s s = false := by simp [lessB, lexB_irr]
/-- The order is total on lists of the uses of a sorted list. -/
theorem lexB_total {s t : List Use} (hl : s.length = t.length) (ht : ∀ a ∈ s, ∀ b ∈ t, a = b ∨ aheadB a b = true ∨ aheadB b a = true) : s = t ∨ lexB s t = true ∨ lexB t s = true := by
  induction s generalizing t with
  | nil => cases t with
    | nil => exact .inl rfl
    | cons => simp at hl
  | cons a s ih =>
    cases t with
    | nil => simp at hl
    | cons b t =>
      by_cases h : a = b
      · subst h
        rcases ih (t := t) (by simpa using hl) (fun x hx y hy => ht x (List.mem_cons_of_mem _ hx) y (List.mem_cons_of_mem _ hy)) with h | h | h
        · exact .inl (by rw [h])
        · exact .inr (.inl (by simp [lexB, h]))
        · exact .inr (.inr (by simp [lexB, h]))
      · rcases ht a List.mem_cons_self b List.mem_cons_self with h1 | h1 | h1
        · exact absurd h1 h
        · exact .inr (.inl (by simp [lexB, h, h1]))
        · exact .inr (.inr (by simp [lexB, Ne.symm h, h1]))
theorem lessB_total {s t : List Use} (ht : ∀ a ∈ s, ∀ b ∈ t, a = b ∨ aheadB a b = true ∨ aheadB b a = true) : s = t ∨ lessB s t = true ∨ lessB t s = true := by
  by_cases h1 : costL s = costL t
  · by_cases h2 : s.length = t.length
    · simp only [lessB, h1, h2, ne_eq, not_true, if_false]
      exact lexB_total h2 ht
    · simp only [lessB, h1, ne_eq, not_true, if_false, if_pos h2, if_pos (Ne.symm h2), decide_eq_true_eq]
      omega
  · simp only [lessB, ne_eq, if_pos h1, if_pos (Ne.symm h1), decide_eq_true_eq]
    omega
theorem lexB_asym {s t : List Use} (h : lexB s t = true) : lexB t s = false := by
  induction s generalizing t with
  | nil => cases h
  | cons a s ih =>
    cases t with
    | nil => cases h
    | cons b t =>
      simp only [lexB, ne_eq] at h ⊢
      by_cases e : a = b
      · subst e
        simp at h ⊢; exact ih h
      · rw [if_pos e] at h
        rw [if_pos (Ne.symm e)]
        exact aheadB_asym h
theorem lessB_asym {s t : List Use} (h : lessB s t = true) : lessB t s = false := by
  simp only [lessB, ne_eq] at h ⊢
  by_cases h1 : costL s = costL t
  · simp only [h1, not_true, if_false] at h ⊢
    by_cases h2 : s.length = t.length
    · simp only [h2, not_true, if_false] at h ⊢
      exact lexB_asym h
    · rw [if_pos h2] at h
      rw [if_pos (Ne.symm h2)]
      simp only [decide_eq_true_eq, decide_eq_false_iff_not] at h ⊢
      omega
  · rw [if_pos h1] at h
    rw [if_pos (Ne.symm h1)]
    simp only [decide_eq_true_eq, decide_eq_false_iff_not] at h ⊢
    omega
theorem lexB_trans {s t r : List Use} (h : lexB s t = true) (k : lexB t r = true) : lexB s r = true := by
  induction s generalizing t r with
  | nil => cases h
  | cons a s ih =>
    cases t with
    | nil => cases h
    | cons b t =>
      cases r with
      | nil => simp [lexB] at k
      | cons c r =>
        simp only [lexB, ne_eq] at h k ⊢
        by_cases e1 : a = b
        · subst e1
          simp only [not_true, if_false] at h
          by_cases e2 : a = c
          · subst e2
            simp only [not_true, if_false] at k ⊢
            exact ih h k
          · rw [if_pos e2] at k ⊢; exact k
        · rw [if_pos e1] at h
          by_cases e2 : b = c
          · subst e2
            rw [if_pos e1]; exact h
          · rw [if_pos e2] at k
            have h3 := aheadB_trans h k
            have : a ≠ c := by rintro rfl; rw [aheadB_irr] at h3; cases h3
            rw [if_pos this]; exact h3
theorem lessB_iff {s t : List Use} : lessB s t = true ↔ costL s < costL t ∨ costL s = costL t ∧ (s.length < t.length ∨ s.length = t.length ∧ lexB s t = true) := by
  simp only [lessB, ne_eq]
  by_cases h1 : costL s = costL t
  · by_cases h2 : s.length = t.length
    · simp [h1, h2]
    · simp [h1, h2]
  · simp [h1]
theorem lessB_trans {s t r : List Use} (h : lessB s t = true) (k : lessB t r = true) : lessB s r = true := by
  rw [lessB_iff] at h k ⊢
  rcases h with h | ⟨h1, h⟩
  · left; omega
  · rcases k with k | ⟨k1, k⟩
    · left; omega
    · right
      refine ⟨by omega, ?_⟩
      rcases h with h | ⟨h2, h⟩
      · left; omega
      · rcases k with k | ⟨k2, k⟩
        · left; omega
        · exact .inr ⟨by omega, lexB_trans h k⟩

/-! #### The pick -/
theorem pickTo_cons (x : Tick) (c : List Tick) : ∀ k, k ≤ c.length → pickTo (x :: c) (k + 1) = if k = 0 then x else if betterB (pickTo c k) x = true then pickTo c k else x
  | 0, _ => by simp [pickTo, tickAt]
  | k + 1, hk => by
    have ih := pickTo_cons x c k (by omega)
    have e : tickAt (x :: c) (k + 1) = tickAt c k := by simp [tickAt]
    rw [pickTo, ih, e]
    simp only [Nat.add_one_ne_zero, false_or, if_false]
    by_cases h0 : k = 0
    · subst h0; simp [pickTo]
    · simp only [pickTo, h0, false_or, if_false]
      generalize pickTo c k = y
      generalize tickAt c k = z
      by_cases h1 : betterB y x = true
      · simp only [h1, if_true]
        by_cases h2 : betterB z y = true
        · have h3 : betterB z x = true := by simp only [betterB, Bool.or_eq_true, Bool.and_eq_true, decide_eq_true_eq] at *; omega
          simp [h2, h3]
        · simp [h2, h1]
      · simp only [h1, if_false, Bool.false_eq_true]
        by_cases h2 : betterB z y = true
        · simp [h2]
        · have h3 : ¬ betterB z x = true := by simp only [betterB, Bool.or_eq_true, Bool.and_eq_true, decide_eq_true_eq] at *; omega
          simp [h2, h3, h1]
theorem pickA_cons (x : Tick) (c : List Tick) : pickA (x :: c) = ⟨if (pickA c).is = true ∧ betterB (pickA c).tick x = true then (pickA c).tick else x, true⟩ := by
  have h := pickTo_cons x c c.length (Nat.le_refl _)
  simp only [pickA, List.length_cons, h]
  by_cases h0 : c.length = 0
  · simp [h0]
  · simp only [h0, if_false, show 0 < c.length from by omega, decide_true, true_and]
    simp

/-! #### The chains -/
structure Best (legs a : Int) (l : List Use) (x : Ans) : Prop where
  none : x.is = false → ∀ s, s.Sublist l → ¬ chain legs a s
  some : x.is = true → x.tick.uses.Sublist l ∧ chain legs a x.tick.uses ∧ x.tick.cost = costL x.tick.uses ∧ ∀ s, s.Sublist l → chain legs a s → lessB s x.tick.uses = false

theorem betterB_iff {a b : Tick} : betterB a b = true ↔ a.cost < b.cost ∨ a.cost = b.cost ∧ a.uses.length < b.uses.length := by
  simp [betterB]

theorem chain_legs {legs : Int} : ∀ {s : List Use} {a : Int}, (∀ u ∈ s, u.fin ≤ legs) → chain legs a s → a ≤ legs
  | [], a, _, h => Int.le_of_eq h
  | u :: s, a, hf, h => by
    have := hf u List.mem_cons_self
    have := h.2.1
    omega

theorem best_chain {legs : Int} : ∀ {l : List Use} {a : Int}, Sorted l → (∀ u ∈ l, u.fin ≤ legs) → (∀ u ∈ l, 0 ≤ u.price) → Best legs a l (ansOf legs l a)
  | [], a, _, _, _ => by
    unfold ansOf
    by_cases ha : a = legs
    · simp only [ha, if_true]
      refine ⟨fun h => (by cases h), fun _ => ⟨List.Sublist.refl _, rfl, rfl, fun s hs _ => ?_⟩⟩
      rw [List.sublist_nil.1 hs]; rfl
    · simp only [ha, if_false]
      refine ⟨fun _ s hs hc => ?_, fun h => ?_⟩
      · rw [List.sublist_nil.1 hs] at hc; exact ha hc
      · simp [candL, pickA] at h
  | u :: rest, a, hs, hf, hp => by
    have hrs : Sorted rest := (List.pairwise_cons.1 hs).2
    have hu := (List.pairwise_cons.1 hs).1
    have hrf : ∀ v ∈ rest, v.fin ≤ legs := fun v hv => hf v (List.mem_cons_of_mem _ hv)
    have hrp : ∀ v ∈ rest, 0 ≤ v.price := fun v hv => hp v (List.mem_cons_of_mem _ hv)
    by_cases ha : a = legs
    · subst ha
      simp only [ansOf, if_true]
      refine ⟨fun h => (by cases h), fun _ => ⟨List.nil_sublist _, rfl, rfl, fun s hsub hc => ?_⟩⟩
      cases s with
      | nil => rfl
      | cons v s =>
        have hv := hf v (hsub.subset List.mem_cons_self)
        have := hc.2.1
        omega
    · have ih1 := best_chain (l := rest) (a := u.fin) hrs hrf hrp
      have ih2 := best_chain (l := rest) (a := a) hrs hrf hrp
      have e2 : pickA (candL legs rest a) = ansOf legs rest a := by simp [ansOf, ha]
      have e : ansOf legs (u :: rest) a = pickA (oneC legs u rest a ++ candL legs rest a) := by simp [ansOf, ha, candL_cons]
      rw [e]
      have nohead : ∀ s, s.Sublist (u :: rest) → chain legs a s → s.Sublist rest ∨ ∃ s', s = u :: s' ∧ s'.Sublist rest ∧ u.leg ≤ a ∧ a < u.fin ∧ chain legs u.fin s' := fun s hsub hc => by
        cases hsub with
        | cons _ h => exact .inl h
        | cons_cons _ h => exact .inr ⟨_, rfl, h, hc.1, hc.2.1, hc.2.2⟩
      unfold oneC
      split
      · rename_i h1
        rw [List.nil_append, e2]
        refine ⟨fun h s hsub hc => ?_, fun h => ?_⟩
        · rcases nohead s hsub hc with h2 | ⟨s', _, _, h3, h4, _⟩
          · exact ih2.none h s h2 hc
          · omega
        · obtain ⟨g1, g2, g3, g4⟩ := ih2.some h
          refine ⟨List.Sublist.cons _ g1, g2, g3, fun s hsub hc => ?_⟩
          rcases nohead s hsub hc with h2 | ⟨s', _, _, h3, h4, _⟩
          · exact g4 s h2 hc
          · omega
      · rename_i h1
        split
        · rename_i h2
          obtain ⟨f1, f2, f3, f4⟩ := ih1.some h2
          rw [List.singleton_append, pickA_cons, e2]
          refine ⟨fun h => (by cases h), fun _ => ?_⟩
          have hc1 : chain legs a (u :: (ansOf legs rest u.fin).tick.uses) := ⟨by omega, by omega, f2⟩
          have hb1 : ∀ s', s'.Sublist rest → chain legs u.fin s' → lessB (u :: s') (u :: (ansOf legs rest u.fin).tick.uses) = false := fun s' hs' hc' => by
            have := f4 s' hs' hc'
            rw [← Bool.not_eq_true, lessB_iff] at this ⊢
            simp only [costL_cons, List.length_cons, lexB, ne_eq, not_true, if_false]
            intro h; apply this
            rcases h with h | ⟨h1, h | ⟨h2, h3⟩⟩
            · left; omega
            · right; exact ⟨by omega, .inl (by omega)⟩
            · right; exact ⟨by omega, .inr ⟨by omega, h3⟩⟩
          split
          · rename_i h3
            obtain ⟨h3, h4⟩ := h3
            obtain ⟨g1, g2, g3, g4⟩ := ih2.some h3
            refine ⟨List.Sublist.cons _ g1, g2, g3, fun s hsub hc => ?_⟩
            rcases nohead s hsub hc with h5 | ⟨s', rfl, h6, _, _, h7⟩
            · exact g4 s h5 hc
            · have h8 := hb1 s' h6 h7
              rw [← Bool.not_eq_true]
              intro h9
              rw [betterB_iff] at h4
              have h10 : lessB (ansOf legs rest a).tick.uses (u :: (ansOf legs rest u.fin).tick.uses) = true := by
                rw [lessB_iff]
                simp only [costL_cons, List.length_cons] at h4 ⊢
                omega
              rw [lessB_trans h9 h10] at h8
              cases h8
          · rename_i h3
            refine ⟨List.Sublist.cons_cons _ f1, hc1, by simp [f3]; omega, fun s hsub hc => ?_⟩
            rcases nohead s hsub hc with h5 | ⟨s', rfl, h6, _, _, h7⟩
            · cases hI : (ansOf legs rest a).is with
              | false => exact absurd hc (ih2.none hI s h5)
              | true =>
                obtain ⟨g1, g2, g3, g4⟩ := ih2.some hI
                have h8 := g4 s h5 hc
                have h4 : ¬ betterB (ansOf legs rest a).tick ⟨u :: (ansOf legs rest u.fin).tick.uses, (ansOf legs rest u.fin).tick.cost + u.price⟩ = true := fun h => h3 ⟨hI, h⟩
                rw [betterB_iff] at h4
                simp only [List.length_cons] at h4
                rw [← Bool.not_eq_true, lessB_iff] at h8 ⊢
                simp only [costL_cons, List.length_cons]
                intro h9
                cases s with
                | nil =>
                  simp only [chain] at hc
                  exact ha hc
                | cons v s =>
                  have hv : v ∈ rest := h5.subset List.mem_cons_self
                  have hne : v ≠ u := by
                    rintro rfl
                    have := hu v hv
                    rw [aheadB_irr] at this; cases this
                  have hlx : lexB (v :: s) (u :: (ansOf legs rest u.fin).tick.uses) = false := by
                    simp only [lexB, ne_eq, hne, not_false_iff, if_true]
                    exact aheadB_asym (hu v hv)
                  rw [hlx] at h9
                  simp only [Bool.false_eq_true, and_false, or_false] at h9
                  apply h8
                  simp only [List.length_cons] at h9 h4 ⊢
                  omega
            · exact hb1 s' h6 h7
        · rename_i h2
          rw [List.nil_append, e2]
          have h2 : (ansOf legs rest u.fin).is = false := by simpa using h2
          refine ⟨fun h s hsub hc => ?_, fun h => ?_⟩
          · rcases nohead s hsub hc with h3 | ⟨s', _, h3, _, _, h4⟩
            · exact ih2.none h s h3 hc
            · exact ih1.none h2 s' h3 h4
          · obtain ⟨g1, g2, g3, g4⟩ := ih2.some h
            refine ⟨List.Sublist.cons _ g1, g2, g3, fun s hsub hc => ?_⟩
            rcases nohead s hsub hc with h3 | ⟨s', _, h3, _, _, h4⟩
            · exact g4 s h3 hc
            · exact absurd h4 (ih1.none h2 s' h3)

/-! #### Covers -/
/-- Each leg from a on is covered. -/
def covers (a legs : Int) (s : List Use) : Prop := ∀ k : Int, a ≤ k → k < legs → ∃ u ∈ s, u.leg ≤ k ∧ k < u.fin
theorem chain_covers {legs : Int} : ∀ {s : List Use} {a : Int}, chain legs a s → covers a legs s
  | [], a, h, k, h1, h2 => by simp only [chain] at h; omega
  | u :: s, a, h, k, h1, h2 => by
    by_cases hk : k < u.fin
    · exact ⟨u, List.mem_cons_self, by have := h.1; omega, hk⟩
    · obtain ⟨v, hv, h3⟩ := chain_covers h.2.2 k (by omega) h2
      exact ⟨v, List.mem_cons_of_mem _ hv, h3⟩
/-- A list without what it does not need. -/
def thin : Int → List Use → List Use
  | _, [] => []
  | a, u :: s => if u.fin ≤ a then thin a s else u :: thin u.fin s
theorem thin_sublist : ∀ (a : Int) (s : List Use), (thin a s).Sublist s
  | _, [] => List.Sublist.refl _
  | a, u :: s => by
    simp only [thin]
    split
    · exact (thin_sublist a s).cons _
    · exact (thin_sublist u.fin s).cons_cons _
theorem thin_chain {legs : Int} : ∀ {s : List Use} {a : Int}, Sorted s → (∀ u ∈ s, u.fin ≤ legs) → a ≤ legs → covers a legs s → chain legs a (thin a s)
  | [], a, _, _, ha, hc => by
    simp only [thin, chain]
    rcases Int.lt_or_eq_of_le ha with h | h
    · obtain ⟨u, hu, _⟩ := hc a (Int.le_refl _) h
      cases hu
    · exact h
  | u :: s, a, hs, hf, ha, hc => by
    have hss : Sorted s := (List.pairwise_cons.1 hs).2
    have hu := (List.pairwise_cons.1 hs).1
    have hsf : ∀ v ∈ s, v.fin ≤ legs := fun v hv => hf v (List.mem_cons_of_mem _ hv)
    have huf := hf u List.mem_cons_self
    simp only [thin]
    split
    · rename_i h
      refine thin_chain hss hsf ha fun k h1 h2 => ?_
      obtain ⟨v, hv, h3, h4⟩ := hc k h1 h2
      rcases List.mem_cons.1 hv with rfl | hv
      · omega
      · exact ⟨v, hv, h3, h4⟩
    · rename_i h
      refine ⟨?_, by omega, thin_chain hss hsf huf fun k h1 h2 => ?_⟩
      · obtain ⟨v, hv, h3, h4⟩ := hc a (Int.le_refl _) (by omega)
        rcases List.mem_cons.1 hv with rfl | hv
        · exact h3
        · have := hu v hv
          simp only [aheadB, Bool.or_eq_true, Bool.and_eq_true, decide_eq_true_eq] at this
          omega
      · obtain ⟨v, hv, h3, h4⟩ := hc k (by omega) h2
        rcases List.mem_cons.1 hv with rfl | hv
        · omega
        · exact ⟨v, hv, h3, h4⟩
theorem costL_sublist {s t : List Use} (h : s.Sublist t) (hp : ∀ u ∈ t, 0 ≤ u.price) : costL s ≤ costL t := by
  induction h with
  | slnil => exact Int.le_refl _
  | cons u h ih =>
    have := ih fun v hv => hp v (List.mem_cons_of_mem _ hv)
    have := hp u List.mem_cons_self
    simp only [costL_cons]; omega
  | cons_cons u h ih =>
    have := ih fun v hv => hp v (List.mem_cons_of_mem _ hv)
    simp only [costL_cons]; omega
theorem sublist_less {s t : List Use} (h : s.Sublist t) (hp : ∀ u ∈ t, 0 ≤ u.price) : s = t ∨ lessB s t = true := by
  have h1 := costL_sublist h hp
  have h2 := h.length_le
  by_cases h3 : s.length = t.length
  · exact .inl (h.eq_of_length h3)
  · right; rw [lessB_iff]; omega

/-- What is best of all covers. -/
theorem best_cover {legs : Int} {l : List Use} (hl : Sorted l) (hf : ∀ u ∈ l, u.fin ≤ legs) (hp : ∀ u ∈ l, 0 ≤ u.price) (h0 : 0 ≤ legs) :
    ((ansOf legs l 0).is = false → ∀ s, s.Sublist l → ¬ covers 0 legs s) ∧
    ((ansOf legs l 0).is = true → (ansOf legs l 0).tick.uses.Sublist l ∧ covers 0 legs (ansOf legs l 0).tick.uses ∧ (ansOf legs l 0).tick.cost = costL (ansOf legs l 0).tick.uses ∧ ∀ s, s.Sublist l → covers 0 legs s → lessB s (ansOf legs l 0).tick.uses = false) := by
  have hb := best_chain (a := 0) hl hf hp
  have key : ∀ s, s.Sublist l → covers 0 legs s → chain legs 0 (thin 0 s) := fun s hs hc => thin_chain (hl.sublist hs) (fun u hu => hf u (hs.subset hu)) h0 hc
  refine ⟨fun h s hs hc => hb.none h _ ((thin_sublist 0 s).trans hs) (key s hs hc), fun h => ?_⟩
  obtain ⟨h1, h2, h3, h4⟩ := hb.some h
  refine ⟨h1, chain_covers h2, h3, fun s hs hc => ?_⟩
  have h5 := h4 _ ((thin_sublist 0 s).trans hs) (key s hs hc)
  rcases sublist_less (thin_sublist 0 s) (fun u hu => hp u (hs.subset hu)) with h6 | h6
  · rw [h6] at h5; exact h5
  · rw [← Bool.not_eq_true]
    intro h7
    rw [lessB_trans h6 h7] at h5
    cases h5

/-! ### All uses of a journey -/
theorem useOf_some {t : Table} {p : Person} {j : List Int} {leg i : Nat} {u : Use} (h : useOf t p j leg i = some u) : u.offer = i ∧ u.leg = leg ∧ u.fin = leg + (offerAt t.offers i).places.length - 1 ∧ priceOf t p (offerAt t.offers i) = some u.price ∧ beginsB (j.drop leg) (offerAt t.offers i).places = true := by
  unfold useOf at h
  split at h
  · cases h
  · rename_i n hn
    split at h
    · rename_i hb
      obtain rfl := Option.some.inj h
      exact ⟨rfl, rfl, rfl, hn, hb⟩
    · cases h
theorem usesAt_sorted (t : Table) (p : Person) (j : List Int) (leg : Nat) : ∀ i, Sorted (usesAt t p j leg i)
  | 0 => List.Pairwise.nil
  | i + 1 => by
    refine List.pairwise_append.2 ⟨usesAt_sorted t p j leg i, ?_, fun a ha b hb => ?_⟩
    · cases useOf t p j leg i <;> simp
    · obtain ⟨k, hk, h1⟩ := usesAt_mem ha
      have h2 : useOf t p j leg i = some b := by simpa using hb
      have e1 := useOf_some h1
      have e2 := useOf_some h2
      simp only [aheadB, Bool.or_eq_true, Bool.and_eq_true, decide_eq_true_eq]
      right; omega
theorem usesTo_sorted (t : Table) (p : Person) (j : List Int) : ∀ n, Sorted (usesTo t p j n)
  | 0 => List.Pairwise.nil
  | n + 1 => by
    refine List.pairwise_append.2 ⟨usesTo_sorted t p j n, usesAt_sorted t p j n _, fun a ha b hb => ?_⟩
    obtain ⟨leg, k, hl, _, h1⟩ := usesTo_mem ha
    obtain ⟨k2, _, h2⟩ := usesAt_mem hb
    have e1 := useOf_some h1
    have e2 := useOf_some h2
    simp only [aheadB, Bool.or_eq_true, Bool.and_eq_true, decide_eq_true_eq]
    left; omega
structure UsesGood (l : List Use) (legs : Int) : Prop where
  sorted : Sorted l
  fin : ∀ u ∈ l, u.fin ≤ legs
  price : ∀ u ∈ l, 0 ≤ u.price
theorem usesOf_good {t : Table} (ht : TableOk t) (p : Person) {j : List Int} (hj : 1 ≤ j.length) : UsesGood (usesOf t p j) ((j.length : Int) - 1) := by
  refine ⟨usesTo_sorted t p j _, fun u hu => ?_, fun u hu => ?_⟩
  · obtain ⟨leg, k, h1, h2, _, _, _, h3, _, h4, _⟩ := usesOf_mem ht hu
    simp only [beginsB, Bool.and_eq_true, decide_eq_true_eq] at h4
    have := h4.1
    rw [List.length_drop] at this
    omega
  · obtain ⟨_, _, _, _, _, _, _, _, _, _, h, _⟩ := usesOf_mem ht hu
    exact h

/-! ### One more offer -/
def moreT (t : Table) (o : Offer) : Table := ⟨t.offers ++ [o], t.bands, t.less⟩
theorem offerAt_more {t : Table} {o : Offer} {i : Nat} (h : i < t.offers.length) : offerAt (moreT t o).offers i = offerAt t.offers i := by
  simp [offerAt, moreT, List.getElem?_append_left h]
theorem usesAt_more (t : Table) (o : Offer) (p : Person) (j : List Int) (leg : Nat) : ∀ i, i ≤ t.offers.length → usesAt (moreT t o) p j leg i = usesAt t p j leg i
  | 0, _ => rfl
  | i + 1, h => by
    simp only [usesAt, usesAt_more t o p j leg i (by omega)]
    congr 2
    unfold useOf
    rw [offerAt_more (by omega)]
    rfl
theorem usesTo_more (t : Table) (o : Offer) (p : Person) (j : List Int) : ∀ n, (usesTo t p j n).Sublist (usesTo (moreT t o) p j n)
  | 0 => List.Sublist.refl _
  | n + 1 => by
    refine (usesTo_more t o p j n).append ?_
    have e : (moreT t o).offers.length = t.offers.length + 1 := by simp [moreT]
    rw [e, usesAt, usesAt_more t o p j n _ (Nat.le_refl _)]
    exact List.sublist_append_left _ _
theorem costL_of_not_less {s b : List Use} (h : lessB s b = false) : costL b ≤ costL s := by
  rw [← Bool.not_eq_true, lessB_iff] at h
  omega
theorem best_more {t : Table} {o : Offer} (ht : TableOk t) (hm : TableOk (moreT t o)) (p : Person) {j : List Int} (hj : 1 ≤ j.length) (h : (ansOf ((j.length : Int) - 1) (usesOf t p j) 0).is = true) :
    (ansOf ((j.length : Int) - 1) (usesOf (moreT t o) p j) 0).is = true ∧ (ansOf ((j.length : Int) - 1) (usesOf (moreT t o) p j) 0).tick.cost ≤ (ansOf ((j.length : Int) - 1) (usesOf t p j) 0).tick.cost := by
  have g1 := usesOf_good ht p hj
  have g2 := usesOf_good hm p hj
  have b1 := best_cover g1.sorted g1.fin g1.price (by omega)
  have b2 := best_cover g2.sorted g2.fin g2.price (by omega)
  obtain ⟨h1, h2, h3, _⟩ := b1.2 h
  have hs := h1.trans (usesTo_more t o p j (j.length - 1))
  cases hi : (ansOf ((j.length : Int) - 1) (usesOf (moreT t o) p j) 0).is with
  | false => exact absurd h2 (b2.1 hi _ hs)
  | true =>
    obtain ⟨_, _, k3, k4⟩ := b2.2 hi
    refine ⟨rfl, ?_⟩
    rw [h3, k3]
    exact costL_of_not_less (k4 _ hs h2)
end Go.Qg

/-! Contracts of the reference's functions in, Sum, Lengths, Share. No condition. -/
namespace Go.Qg
open Go.Proofs
set_option maxRecDepth 100000
set_option maxHeartbeats 4000000
attribute [local irreducible] pwp pops pdraw pop popCall pdCall thenP blockP scopeP pspec Spec answers ppost CallW rend

theorem rin_spec (n lo hi : Int) : Spec Try.prog 71 [.v (.int .i64 n), .v (.int .i64 lo), .v (.int .i64 hi)] (.v (.bool (inB n lo hi))) := by
  refine spec_of mixed Try.func71 (by decide) rfl Try.results71 Try.ntmps71 (by decide) 0 (by simp) ?_
  by_cases h1 : lo ≤ n
  · by_cases h2 : n ≤ hi <;> (simp [h1, h2]; refine answers_of rfl ?_; simp [inB, h1, h2])
  · simp [h1]; refine answers_of rfl ?_; simp [inB, h1]

theorem rSum_spec (l : List Int) (hl : l.length ≤ 9223372036854775807) : Spec Try.prog 37 [ints l] (.v (.int .i64 (sumL l))) := by
  refine spec_of mixed Try.func37 (by decide) rfl Try.results37 Try.ntmps37 (by decide) 0 (by simp) ?_
  simp [ints]
  refine pwp_loop (fun k : Nat => [(3, .v (.int .i64 (sumL (l.take k)))), (4, .v (.int .i64 k))]) (fun k => k ≤ l.length) (fun k => l.length - k) 0 (Nat.zero_le _) (by simp; rfl) (by simp [sumL]) ?_
  intro k hk
  by_cases h : k < l.length
  · simp [h]
    refine again_of (k + 1) (by omega) (by omega) ?_
    have := sumL_snoc l k h
    simp [this, i64_wrap (show -9223372036854775808 ≤ (k : Int) + 1 ∧ _ from by omega)]
  · simp [h]
    rw [List.take_of_length_le (by omega)]
    refine answers_of rfl ?_; simp

theorem rLengths_spec (l : List Int) (hl : l.length ≤ 9223372036854775807) : Spec Try.prog 30 [ints l] (.v (.bool (lensB l && decide (0 < sumL l)))) := by
  refine spec_of mixed Try.func30 (by decide) rfl Try.results30 Try.ntmps30 (by decide) 0 (by simp) ?_
  simp [ints]
  refine pwp_loop (fun k : Nat => [(3, .v (.int .i64 k))]) (fun k => k ≤ l.length ∧ ∀ j, j < k → inB (geti l j) 0 10000 = true) (fun k => l.length - k) 0 ⟨Nat.zero_le _, fun j hj => by omega⟩ (by simp; rfl) (by simp) ?_
  intro k ⟨hk, hp⟩
  by_cases h : k < l.length
  · simp [h]
    refine pop_spec (rin_spec (geti l k) 0 10000) rfl false (.inl (by simp)) (.inl rfl) rfl (by simp) ?_
    cases hb : inB (geti l k) 0 10000 with
    | true =>
      simp
      refine again_of (k + 1) ⟨by omega, fun j hj => ?_⟩ (by omega) ?_
      · rcases Nat.lt_succ_iff_lt_or_eq.1 hj with hj | rfl
        · exact hp j hj
        · exact hb
      · simp [i64_wrap (show -9223372036854775808 ≤ (k : Int) + 1 ∧ _ from by omega)]
    | false =>
      simp
      have : lensB l = false := allN_false h hb
      refine answers_of rfl ?_; simp [this]
  · simp [h]
    obtain rfl : k = l.length := by omega
    have : lensB l = true := allN_spec.2 hp
    refine pop_spec (rSum_spec l hl) rfl false (.inl (by simp [ints])) (.inl rfl) rfl (by simp) ?_
    simp
    refine answers_of rfl ?_; simp [this]

theorem rShare_spec (amount : Int) (l : List Int) (h : ShareOk amount l) : Spec Try.prog 36 [.v (.int .i64 amount), ints l] (ints (shareL amount l)) := by
  have h8 := h.len
  have hw := h.whole
  refine spec_of mixed Try.func36 (by decide) rfl Try.results36 Try.ntmps36 (by decide) 0 (by simp) ?_
  simp [ints]
  refine pop_spec (rSum_spec l (by omega)) rfl false (.inl (by simp [ints])) (.inl rfl) rfl (by simp) ?_
  have hf := far_bound h.each
  rw [sumL_all fun k hk => by have := hf k hk; omega]
  simp
  refine pwp_loop (fun k : Nat => [(5, .own 35 k 0 k false), (7, .v (.int .i64 (far l k))), (8, .v (.int .i64 (shareTo amount l k))), (9, .v (.int .i64 k)), (35, .rows none k 3 1 (rowsOf (fun i => [.v (.int .i64 (shareTo amount l (i + 1) - shareTo amount l i))]) k))]) (fun k => k ≤ l.length) (fun k => l.length - k) 0 (Nat.zero_le _) (by simp; rfl) (by simp [shareTo, far]) ?_
  intro k hk
  by_cases hkl : k < l.length
  · have hk1 := hf (k + 1) hkl
    obtain ⟨a1, a2, a3, a4⟩ := h.to (k := k + 1) hkl
    obtain ⟨_, _, _, b4⟩ := h.to (k := k) hk
    have w1 : IntKind.i64.wrap (far l k + geti l k) = far l (k + 1) := i64_wrap (n := far l (k + 1)) (by omega)
    have w2 : IntKind.i64.wrap (amount * far l (k + 1)) = amount * far l (k + 1) := i64_wrap (by omega)
    have w3 : IntKind.i64.wrap ((amount * far l (k + 1)).tdiv (far l l.length)) = shareTo amount l (k + 1) := i64_quo (by omega)
    have w4 : IntKind.i64.wrap (shareTo amount l (k + 1) - shareTo amount l k) = shareTo amount l (k + 1) - shareTo amount l k := i64_wrap (by omega)
    have w5 : IntKind.i64.wrap (shareTo amount l k + (shareTo amount l (k + 1) - shareTo amount l k)) = shareTo amount l (k + 1) := by
      rw [show shareTo amount l k + (shareTo amount l (k + 1) - shareTo amount l k) = shareTo amount l (k + 1) from by omega]; exact i64_wrap (by omega)
    simp [hkl, w1, w2, w3, w4, w5, hw, show (k + 1) * 8 ≤ 140737488355328 from by omega, show k + 1 ≤ maxLen from by simp [maxLen]; omega]
    refine again_of (k + 1) (by omega) (by omega) ?_
    simp [i64_wrap (show -9223372036854775808 ≤ (k : Int) + 1 ∧ _ from by omega), rowsOf_snoc]
  · simp [hkl]
    obtain rfl : k = l.length := by omega
    refine answers_of rfl ?_
    simp [shareL]
    intro k hk; simp [geti_mk hk, rowsOf_get hk]
end Go.Qg

/-! Contracts of the reference's functions Places, Table, Person, Price, and of short. No condition. -/
namespace Go.Qg
open Go.Proofs
set_option maxRecDepth 100000
set_option maxHeartbeats 4000000
attribute [local irreducible] pwp pops pdraw pop popCall pdCall thenP blockP scopeP pspec Spec answers ppost CallW rend

theorem rPlaces_spec (l : List Int) (hl : l.length ≤ 9223372036854775807) : Spec Try.prog 61 [ints l] (.v (.bool (routeB l))) := by
  refine spec_of mixed Try.func61 (by decide) rfl Try.results61 Try.ntmps61 (by decide) 0 (by simp) ?_
  simp [ints]
  refine pwp_loop (fun k : Nat => [(3, .v (.int .i64 k))]) (fun k => k ≤ l.length ∧ ∀ j, j < k → stepB l j = true) (fun k => l.length - k) 0 ⟨Nat.zero_le _, fun j hj => by omega⟩ (by simp; rfl) (by simp) ?_
  intro k ⟨hk, hp⟩
  by_cases h : k < l.length
  · have wk := i64_wrap (show -9223372036854775808 ≤ (k : Int) + 1 ∧ _ from by omega)
    have bad : stepB l k = false → routeB l = false := fun hb => by simp [routeB, allN_false h hb]
    have good : stepB l k = true → ∀ j, j < k + 1 → stepB l j = true := fun hb j hj => by
      rcases Nat.lt_succ_iff_lt_or_eq.1 hj with hj | rfl
      · exact hp j hj
      · exact hb
    simp [h]
    refine pwp_draw 22 (by decide) ?_
    simp [h]
    refine pd_spec (rin_spec (geti l k) 0 19) (by simp) (by simp) (by simp) rfl ?_
    cases h1 : inB (geti l k) 0 19 with
    | false =>
      simp
      refine ⟨by decide, ?_⟩
      rw [bad (by simp [stepB, h1])]
      refine answers_of rfl ?_; simp
    | true =>
      by_cases h0 : k = 0
      · subst h0
        simp
        refine ⟨by decide, ?_⟩
        refine again_of 1 ⟨by omega, good (by simp [stepB, h1])⟩ (by omega) ?_
        simp
      · have w0 : IntKind.i64.wrap ((k : Int) - 1) = (k : Int) - 1 := i64_wrap (by omega)
        have w1 : ((k : Int) - 1).toNat = k - 1 := by omega
        by_cases h2 : geti l k = geti l (k - 1)
        · simp [show 0 < k from by omega, show (0 : Int) < k from by omega, w0, w1, h, show (1 : Int) ≤ k from by omega, show 1 ≤ k from by omega, show (k : Int) - 1 < l.length from by omega, show k - 1 < l.length from by omega, h2]
          refine ⟨by decide, ?_⟩
          rw [bad (by simp [stepB, h0, h2])]
          refine answers_of rfl ?_; simp
        · simp [show 0 < k from by omega, show (0 : Int) < k from by omega, w0, w1, h, show (1 : Int) ≤ k from by omega, show 1 ≤ k from by omega, show (k : Int) - 1 < l.length from by omega, show k - 1 < l.length from by omega, h2]
          refine ⟨by decide, ?_⟩
          refine again_of (k + 1) ⟨by omega, good (by simp [stepB, h1, h2])⟩ (by omega) ?_
          simp [wk]
  · simp [h]
    obtain rfl : k = l.length := by omega
    have : allN l.length (stepB l) = true := allN_spec.2 hp
    refine pop_spec (rin_spec l.length 2 9) rfl false (.inl (by simp)) (.inl rfl) rfl (by simp) ?_
    simp
    refine answers_of rfl ?_; simp [routeB, this]

theorem rPerson_spec (p : Person) : Spec Try.prog 53 [.agg p.cells] (.v (.bool (inB p.weight 0 1000))) := by
  refine spec_of mixed Try.func53 (by decide) rfl Try.results53 Try.ntmps53 (by decide) 0 (by simp) ?_
  simp [Person.cells]
  refine pop_spec (rin_spec p.weight 0 1000) rfl false (.inl (by simp)) (.inl rfl) rfl (by simp) ?_
  simp
  refine answers_of rfl ?_; simp

def shortB (t : Table) : Bool := allN t.offers.length (fun k => decide ((offerAt t.offers k).places.length ≤ 20)) && decide (t.offers.length ≤ 20) && decide (t.bands.length ≤ 20)
theorem short_spec (t : Table) (hf : TableFit t) : Spec Try.prog 17 [.agg t.cells] (.v (.bool (shortB t))) := by
  have h1 := hf.no
  refine spec_of mixed Try.func17 (by decide) rfl Try.results17 Try.ntmps17 (by decide) 0 (by simp) ?_
  simp [Table.cells, offerL, bandL]
  refine pwp_loop (fun k : Nat => [(3, .v (.int .i64 k))]) (fun k => k ≤ t.offers.length ∧ ∀ j, j < k → decide ((offerAt t.offers j).places.length ≤ 20) = true) (fun k => t.offers.length - k) 0 ⟨Nat.zero_le _, fun j hj => by omega⟩ (by simp; rfl) (by simp) ?_
  intro k ⟨hk, hp⟩
  by_cases h : k < t.offers.length
  · have wk := i64_wrap (show -9223372036854775808 ≤ (k : Int) + 1 ∧ _ from by omega)
    by_cases h2 : (offerAt t.offers k).places.length ≤ 20
    · simp [h, Offer.cells_eq (offerAt t.offers k), show ((offerAt t.offers k).places.length : Int) ≤ 20 from by omega, show ¬ (20 : Int) < (offerAt t.offers k).places.length from by omega]
      refine again_of (k + 1) ⟨by omega, fun j hj => ?_⟩ (by omega) ?_
      · rcases Nat.lt_succ_iff_lt_or_eq.1 hj with hj | rfl
        · simpa using hp j hj
        · simp [h2]
      · simp [wk]
    · simp [h, Offer.cells_eq (offerAt t.offers k), show ¬ ((offerAt t.offers k).places.length : Int) ≤ 20 from by omega, show (20 : Int) < (offerAt t.offers k).places.length from by omega]
      have : shortB t = false := by
        have := allN_false (p := fun k => decide ((offerAt t.offers k).places.length ≤ 20)) h (by simp [h2])
        simp [shortB, this]
      rw [this]
      refine answers_of rfl ?_; simp
  · obtain rfl : k = t.offers.length := by omega
    have h0 := allN_spec.2 hp
    by_cases h2 : t.offers.length ≤ 20
    · by_cases h3 : t.bands.length ≤ 20
      · simp [show (t.offers.length : Int) ≤ 20 from by omega, show (t.bands.length : Int) ≤ 20 from by omega]
        refine answers_of rfl ?_; simp [shortB, h0, h2, h3]
      · simp [show (t.offers.length : Int) ≤ 20 from by omega, show ¬ (t.bands.length : Int) ≤ 20 from by omega]
        refine answers_of rfl ?_; simp [shortB, h0, h2, h3]
    · simp [show ¬ (t.offers.length : Int) ≤ 20 from by omega]
      refine answers_of rfl ?_; simp [shortB, h0, h2]

theorem rTable_spec (t : Table) (hf : TableFit t) : Spec Try.prog 27 [.agg t.cells] (.v (.bool (validB t))) := by
  have hno := hf.no
  have hnb := hf.nb
  refine spec_of mixed Try.func27 (by decide) rfl Try.results27 Try.ntmps27 (by decide) 0 (by simp) ?_
  simp [Table.cells, offerL, bandL]
  refine pwp_loop (fun k : Nat => [(3, .v (.int .i64 k))]) (fun k => k ≤ t.offers.length ∧ ∀ j, j < k → offerB (offerAt t.offers j) = true) (fun k => t.offers.length - k) 0 ⟨Nat.zero_le _, fun j hj => by omega⟩ (by simp; rfl) (by simp) ?_
  intro k ⟨hk, hp⟩
  by_cases h : k < t.offers.length
  · have wk := i64_wrap (show -9223372036854775808 ≤ (k : Int) + 1 ∧ _ from by omega)
    have hpl := hf.np _ (offerAt_mem h)
    have bad : offerB (offerAt t.offers k) = false → validB t = false := fun hb => by
      have := allN_false (p := fun k => offerB (offerAt t.offers k)) h hb
      simp [validB, this]
    simp [h, Offer.cells_eq (offerAt t.offers k)]
    refine pop_spec (rPlaces_spec (offerAt t.offers k).places hpl) rfl false (.inl (by simp [ints])) (.inl rfl) rfl (by simp) ?_
    cases h1 : routeB (offerAt t.offers k).places with
    | false =>
      simp
      rw [bad (by simp [offerB, h1])]
      refine answers_of rfl ?_; simp
    | true =>
      simp [h, Offer.cells_eq (offerAt t.offers k)]
      refine pop_spec (rin_spec (offerAt t.offers k).cost 0 1000000000) rfl false (.inl (by simp)) (.inl rfl) rfl (by simp) ?_
      cases h2 : inB (offerAt t.offers k).cost 0 1000000000 with
      | false =>
        simp
        rw [bad (by simp [offerB, h2])]
        refine answers_of rfl ?_; simp
      | true =>
        simp
        refine again_of (k + 1) ⟨by omega, fun j hj => ?_⟩ (by omega) ?_
        · rcases Nat.lt_succ_iff_lt_or_eq.1 hj with hj | rfl
          · exact hp j hj
          · simp [offerB, h1, h2]
        · simp [wk]
  · obtain rfl : k = t.offers.length := by omega
    have ho : allN t.offers.length (fun k => offerB (offerAt t.offers k)) = true := allN_spec.2 hp
    simp
    refine pwp_loop (fun k : Nat => [(4, .v (.int .i64 k))]) (fun k => k ≤ t.bands.length ∧ ∀ j, j < k → bandB t.bands j = true) (fun k => t.bands.length - k) 0 ⟨Nat.zero_le _, fun j hj => by omega⟩ (by simp; rfl) (by simp) ?_
    intro k ⟨hk, hq⟩
    by_cases h : k < t.bands.length
    · have wk := i64_wrap (show -9223372036854775808 ≤ (k : Int) + 1 ∧ _ from by omega)
      have bad : bandB t.bands k = false → validB t = false := fun hb => by simp [validB, allN_false h hb]
      have good : bandB t.bands k = true → ∀ j, j < k + 1 → bandB t.bands j = true := fun hb j hj => by
        rcases Nat.lt_succ_iff_lt_or_eq.1 hj with hj | rfl
        · exact hq j hj
        · exact hb
      simp [h]
      refine pwp_draw 38 (by decide) ?_
      simp (config := { maxSteps := 1000000 }) [h, Band.cells]
      refine pd_spec (rin_spec (bandAt t.bands k).up 0 1000) (by simp) (by simp) (by simp) rfl ?_
      cases h1 : inB (bandAt t.bands k).up 0 1000 with
      | false =>
        simp (config := { maxSteps := 1000000 })
        refine ⟨by decide, ?_⟩
        rw [bad (by simp [bandB, h1])]
        refine answers_of rfl ?_; simp
      | true =>
        simp (config := { maxSteps := 1000000 }) [h, Band.cells]
        refine pd_spec (rin_spec (bandAt t.bands k).extra 0 1000000000) (by simp) (by simp) (by simp) rfl ?_
        cases h2 : inB (bandAt t.bands k).extra 0 1000000000 with
        | false =>
          simp (config := { maxSteps := 1000000 })
          refine ⟨by decide, ?_⟩
          rw [bad (by simp [bandB, h2])]
          refine answers_of rfl ?_; simp
        | true =>
          by_cases h0 : k = 0
          · subst h0
            simp (config := { maxSteps := 1000000 })
            refine ⟨by decide, ?_⟩
            refine again_of 1 ⟨by omega, good (by simp [bandB, h1, h2])⟩ (by omega) ?_
            simp
          · have w0 : IntKind.i64.wrap ((k : Int) - 1) = (k : Int) - 1 := i64_wrap (by omega)
            have w1 : ((k : Int) - 1).toNat = k - 1 := by omega
            by_cases h3 : (bandAt t.bands k).up ≤ (bandAt t.bands (k - 1)).up
            · simp (config := { maxSteps := 1000000 }) [show 0 < k from by omega, show (0 : Int) < k from by omega, w0, w1, h, Band.cells, show (1 : Int) ≤ k from by omega, show 1 ≤ k from by omega, show (k : Int) - 1 < t.bands.length from by omega, show k - 1 < t.bands.length from by omega, h3]
              refine ⟨by decide, ?_⟩
              rw [bad (by simp [bandB, h0, Int.not_lt.2 h3])]
              refine answers_of rfl ?_; simp
            · simp (config := { maxSteps := 1000000 }) [show 0 < k from by omega, show (0 : Int) < k from by omega, w0, w1, h, Band.cells, show (1 : Int) ≤ k from by omega, show 1 ≤ k from by omega, show (k : Int) - 1 < t.bands.length from by omega, show k - 1 < t.bands.length from by omega, h3]
              refine ⟨by decide, ?_⟩
              refine again_of (k + 1) ⟨by omega, good (by simp [bandB, h1, h2, Int.not_le.1 h3])⟩ (by omega) ?_
              simp [wk]
    · obtain rfl : k = t.bands.length := by omega
      have hb : allN t.bands.length (bandB t.bands) = true := allN_spec.2 hq
      by_cases h2 : t.offers.length ≤ 12
      · by_cases h3 : t.bands.length ≤ 8
        · simp [show (t.offers.length : Int) ≤ 12 from by omega, show (t.bands.length : Int) ≤ 8 from by omega]
          refine pop_spec (rin_spec t.less 0 1000) rfl false (.inl (by simp)) (.inl rfl) rfl (by simp) ?_
          simp
          refine answers_of rfl ?_; simp [validB, ho, hb, h2, h3]
        · simp [show (t.offers.length : Int) ≤ 12 from by omega, show ¬ (t.bands.length : Int) ≤ 8 from by omega]
          refine answers_of rfl ?_; simp [validB, h2, h3]
      · simp [show ¬ (t.offers.length : Int) ≤ 12 from by omega]
        refine answers_of rfl ?_; simp [validB, h2]

/-- The price as the reference tells it. -/
def rPriceOf (t : Table) (p : Person) (o : Offer) : Int := (priceOf t p o).getD (-1)
theorem rPrice_spec (t : Table) (i : Nat) (p : Person) (ht : TableOk t) (hi : i < t.offers.length) : Spec Try.prog 46 [.agg t.cells, .v (.int .i64 i), .agg p.cells] (.v (.int .i64 (rPriceOf t p (offerAt t.offers i)))) := by
  have hm := offerAt_mem hi
  obtain ⟨⟨c1, c2⟩, c3, c4⟩ := ht.offer _ hm
  have hl := ht.less
  have hnb := ht.nb
  refine spec_of mixed Try.func46 (by decide) rfl Try.results46 Try.ntmps46 (by decide) 0 (by simp) ?_
  simp [Table.cells, offerL, bandL, Person.cells, hi, Offer.cells_eq (offerAt t.offers i)]
  generalize offerAt t.offers i = o at *
  have e0 : 0 ≤ o.cost * t.less := Int.mul_nonneg c1 hl.1
  have e1 : o.cost * t.less ≤ 1000000000 * 1000 := Int.mul_le_mul c2 hl.2 hl.1 (by omega)
  have e2 : o.cost * t.less ≤ o.cost * 1000 := Int.mul_le_mul_of_nonneg_left hl.2 c1
  have w1 : IntKind.i64.wrap (o.cost * t.less) = o.cost * t.less := i64_wrap (by omega)
  have w2 : IntKind.i64.wrap ((o.cost * t.less).tdiv 1000) = o.cost * t.less / 1000 := i64_quo (by omega)
  have w3 : IntKind.i64.wrap (o.cost - o.cost * t.less / 1000) = o.cost - o.cost * t.less / 1000 := i64_wrap (by omega)
  have no : o.res = true → p.res = false → rPriceOf t p o = -1 := fun h1 h2 => by
    unfold rPriceOf priceOf
    cases extraOf t.bands p.weight <;> simp [h1, h2]
  have fin : (o.res && !p.res) = false → ∀ x, extraOf t.bands p.weight = some x → rPriceOf t p o = (if p.res then o.cost - o.cost * t.less / 1000 else o.cost) + x * ((o.places.length : Int) - 1) := fun h1 x hx => by
    unfold rPriceOf priceOf heavyOf lessOf
    rw [hx]
    simp only [h1, Bool.false_eq_true, if_false, Option.getD_some]
    split <;> omega
  have finN : extraOf t.bands p.weight = none → rPriceOf t p o = -1 := fun hx => by
    unfold rPriceOf priceOf
    rw [hx]; rfl
  cases hp : p.res with
  | false =>
    cases ho : o.res with
    | true =>
      simp
      rw [no ho hp]
      refine answers_of rfl ?_; simp
    | false =>
      have fin := fin (by simp [ho])
      rw [hp] at fin
      simp
      refine pwp_loop (fun k : Nat => [(9, .v (.int .i64 k))]) (fun k => k ≤ t.bands.length ∧ ∀ j, j < k → (bandAt t.bands j).up < p.weight) (fun k => t.bands.length - k) 0 ⟨Nat.zero_le _, fun j hj => by omega⟩ (by simp; rfl) (by simp) ?_
      intro k ⟨hk, hq⟩
      by_cases h : k < t.bands.length
      · have wk := i64_wrap (show -9223372036854775808 ≤ (k : Int) + 1 ∧ _ from by omega)
        simp [h]
        refine pwp_draw 9 (by decide) ?_
        by_cases h1 : p.weight ≤ (bandAt t.bands k).up
        · have hx : extraOf t.bands p.weight = some (bandAt t.bands k).extra := by
            unfold extraOf
            rw [find_at (d := default) h (fun j hj => by have := hq j hj; simp only [bandAt] at this; simp only [decide_eq_false_iff_not]; omega) (by simpa [bandAt] using h1)]
            rfl
          have hxb := extraOf_bound (w := p.weight) ht.extra
          rw [hx] at hxb
          simp only [Option.getD_some] at hxb
          rw [fin _ hx]
          generalize hxe : (bandAt t.bands k).extra = x at *
          have f0 : 0 ≤ x * ((o.places.length : Int) - 1) := Int.mul_nonneg hxb.1 (by omega)
          have f1 : x * ((o.places.length : Int) - 1) ≤ 1000000000 * 8 := Int.mul_le_mul hxb.2 (by omega) (by omega) (by omega)
          have v1 : IntKind.i64.wrap ((o.places.length : Int) - 1) = (o.places.length : Int) - 1 := i64_wrap (by omega)
          have v2 : IntKind.i64.wrap (x * ((o.places.length : Int) - 1)) = x * ((o.places.length : Int) - 1) := i64_wrap (by omega)
          have v3 : IntKind.i64.wrap (o.cost + x * ((o.places.length : Int) - 1)) = o.cost + x * ((o.places.length : Int) - 1) := i64_wrap (by omega)
          simp [h, Band.cells, h1]
          refine ⟨by decide, ?_⟩
          refine pwp_draw 14 (by decide) ?_
          simp [h, hxe, v1, v2, v3]
          refine ⟨by decide, ?_⟩
          refine answers_of rfl ?_; simp
        · simp [h, Band.cells, h1]
          refine ⟨by decide, ?_⟩
          refine again_of (k + 1) ⟨by omega, fun j hj => ?_⟩ (by omega) ?_
          · rcases Nat.lt_succ_iff_lt_or_eq.1 hj with hj | rfl
            · exact hq j hj
            · omega
          · simp [wk]
      · obtain rfl : k = t.bands.length := by omega
        have hx : extraOf t.bands p.weight = none := by
          unfold extraOf
          rw [find_no (d := default) fun j hj => by have := hq j hj; simp only [bandAt] at this; simp only [decide_eq_false_iff_not]; omega]
          rfl
        rw [finN hx]
        simp
        refine answers_of rfl ?_; simp
  | true =>
    have fin := fin (by simp [hp])
    rw [hp] at fin
    cases ho : o.res with
    | false =>
        simp [w1, w2, w3]
        refine pwp_loop (fun k : Nat => [(9, .v (.int .i64 k))]) (fun k => k ≤ t.bands.length ∧ ∀ j, j < k → (bandAt t.bands j).up < p.weight) (fun k => t.bands.length - k) 0 ⟨Nat.zero_le _, fun j hj => by omega⟩ (by simp; rfl) (by simp) ?_
        intro k ⟨hk, hq⟩
        by_cases h : k < t.bands.length
        · have wk := i64_wrap (show -9223372036854775808 ≤ (k : Int) + 1 ∧ _ from by omega)
          simp [h]
          refine pwp_draw 9 (by decide) ?_
          by_cases h1 : p.weight ≤ (bandAt t.bands k).up
          · have hx : extraOf t.bands p.weight = some (bandAt t.bands k).extra := by
              unfold extraOf
              rw [find_at (d := default) h (fun j hj => by have := hq j hj; simp only [bandAt] at this; simp only [decide_eq_false_iff_not]; omega) (by simpa [bandAt] using h1)]
              rfl
            have hxb := extraOf_bound (w := p.weight) ht.extra
            rw [hx] at hxb
            simp only [Option.getD_some] at hxb
            rw [fin _ hx]
            generalize hxe : (bandAt t.bands k).extra = x at *
            generalize hdd : o.cost * t.less / 1000 = dd at *
            have f0 : 0 ≤ x * ((o.places.length : Int) - 1) := Int.mul_nonneg hxb.1 (by omega)
            have f1 : x * ((o.places.length : Int) - 1) ≤ 1000000000 * 8 := Int.mul_le_mul hxb.2 (by omega) (by omega) (by omega)
            have v1 : IntKind.i64.wrap ((o.places.length : Int) - 1) = (o.places.length : Int) - 1 := i64_wrap (by omega)
            have v2 : IntKind.i64.wrap (x * ((o.places.length : Int) - 1)) = x * ((o.places.length : Int) - 1) := i64_wrap (by omega)
            have v3 : IntKind.i64.wrap (o.cost - dd + x * ((o.places.length : Int) - 1)) = o.cost - dd + x * ((o.places.length : Int) - 1) := i64_wrap (by omega)
            simp [h, Band.cells, h1]
            refine ⟨by decide, ?_⟩
            refine pwp_draw 14 (by decide) ?_
            simp [h, hxe, v1, v2, v3]
            refine ⟨by decide, ?_⟩
            refine answers_of rfl ?_; simp
          · simp [h, Band.cells, h1]
            refine ⟨by decide, ?_⟩
            refine again_of (k + 1) ⟨by omega, fun j hj => ?_⟩ (by omega) ?_
            · rcases Nat.lt_succ_iff_lt_or_eq.1 hj with hj | rfl
              · exact hq j hj
              · omega
            · simp [wk]
        · obtain rfl : k = t.bands.length := by omega
          have hx : extraOf t.bands p.weight = none := by
            unfold extraOf
            rw [find_no (d := default) fun j hj => by have := hq j hj; simp only [bandAt] at this; simp only [decide_eq_false_iff_not]; omega]
            rfl
          rw [finN hx]
          simp
          refine answers_of rfl ?_; simp
    | true =>
        simp [w1, w2, w3]
        refine pwp_loop (fun k : Nat => [(9, .v (.int .i64 k))]) (fun k => k ≤ t.bands.length ∧ ∀ j, j < k → (bandAt t.bands j).up < p.weight) (fun k => t.bands.length - k) 0 ⟨Nat.zero_le _, fun j hj => by omega⟩ (by simp; rfl) (by simp) ?_
        intro k ⟨hk, hq⟩
        by_cases h : k < t.bands.length
        · have wk := i64_wrap (show -9223372036854775808 ≤ (k : Int) + 1 ∧ _ from by omega)
          simp [h]
          refine pwp_draw 9 (by decide) ?_
          by_cases h1 : p.weight ≤ (bandAt t.bands k).up
          · have hx : extraOf t.bands p.weight = some (bandAt t.bands k).extra := by
              unfold extraOf
              rw [find_at (d := default) h (fun j hj => by have := hq j hj; simp only [bandAt] at this; simp only [decide_eq_false_iff_not]; omega) (by simpa [bandAt] using h1)]
              rfl
            have hxb := extraOf_bound (w := p.weight) ht.extra
            rw [hx] at hxb
            simp only [Option.getD_some] at hxb
            rw [fin _ hx]
            generalize hxe : (bandAt t.bands k).extra = x at *
            generalize hdd : o.cost * t.less / 1000 = dd at *
            have f0 : 0 ≤ x * ((o.places.length : Int) - 1) := Int.mul_nonneg hxb.1 (by omega)
            have f1 : x * ((o.places.length : Int) - 1) ≤ 1000000000 * 8 := Int.mul_le_mul hxb.2 (by omega) (by omega) (by omega)
            have v1 : IntKind.i64.wrap ((o.places.length : Int) - 1) = (o.places.length : Int) - 1 := i64_wrap (by omega)
            have v2 : IntKind.i64.wrap (x * ((o.places.length : Int) - 1)) = x * ((o.places.length : Int) - 1) := i64_wrap (by omega)
            have v3 : IntKind.i64.wrap (o.cost - dd + x * ((o.places.length : Int) - 1)) = o.cost - dd + x * ((o.places.length : Int) - 1) := i64_wrap (by omega)
            simp [h, Band.cells, h1]
            refine ⟨by decide, ?_⟩
            refine pwp_draw 14 (by decide) ?_
            simp [h, hxe, v1, v2, v3]
            refine ⟨by decide, ?_⟩
            refine answers_of rfl ?_; simp
          · simp [h, Band.cells, h1]
            refine ⟨by decide, ?_⟩
            refine again_of (k + 1) ⟨by omega, fun j hj => ?_⟩ (by omega) ?_
            · rcases Nat.lt_succ_iff_lt_or_eq.1 hj with hj | rfl
              · exact hq j hj
              · omega
            · simp [wk]
        · obtain rfl : k = t.bands.length := by omega
          have hx : extraOf t.bands p.weight = none := by
            unfold extraOf
            rw [find_no (d := default) fun j hj => by have := hq j hj; simp only [bandAt] at this; simp only [decide_eq_false_iff_not]; omega]
            rfl
          rw [finN hx]
          simp
          refine answers_of rfl ?_; simp
end Go.Qg

/-! The contract of asked; the law FareMore returns true. No condition. -/
namespace Go.Qg
open Go.Proofs
set_option maxRecDepth 100000
set_option maxHeartbeats 4000000
attribute [local irreducible] pwp pops pdraw pop popCall pdCall thenP blockP scopeP pspec Spec answers ppost CallW rend

def askedB (t : Table) (p : Person) (j : List Int) (fine : Bool) : Bool := validB t && inB p.weight 0 1000 && routeB j && fine
theorem asked_spec (t : Table) (p : Person) (j : List Int) (fine : Bool) (hf : TableFit t) (hj : j.length ≤ 9223372036854775807) : Spec Try.prog 19 [.agg t.cells, .agg p.cells, ints j, .v (.bool fine)] (.v (.int .i64 (if askedB t p j fine then 0 else 2))) := by
  refine spec_of mixed Try.func19 (by decide) rfl Try.results19 Try.ntmps19 (by decide) 0 (by simp) ?_
  simp [Table.cells, offerL, bandL, Person.cells, ints]
  refine pop_spec (rTable_spec t hf) rfl false (.inl (by simp [Table.cells, offerL, bandL])) (.inl rfl) rfl (by simp) ?_
  cases h1 : validB t with
  | false => simp; refine answers_of rfl ?_; simp [askedB, h1]
  | true =>
    simp
    refine pop_spec (rPerson_spec p) rfl false (.inl (by simp [Person.cells])) (.inl rfl) rfl (by simp) ?_
    cases h2 : inB p.weight 0 1000 with
    | false => simp; refine answers_of rfl ?_; simp [askedB, h2]
    | true =>
      simp
      refine pop_spec (rPlaces_spec j hj) rfl false (.inl (by simp [ints])) (.inl rfl) rfl (by simp) ?_
      cases h3 : routeB j with
      | false => simp; refine answers_of rfl ?_; simp [askedB, h3]
      | true =>
        cases fine with
        | false => simp; refine answers_of rfl ?_; simp [askedB]
        | true => simp; refine answers_of rfl ?_; simp [askedB, h1, h2, h3]

theorem offerAt_snoc (l : List Offer) (o : Offer) (k : Nat) (hk : k < l.length + 1) : offerAt (l ++ [o]) k = if k < l.length then offerAt l k else o := by
  split
  · rename_i h; simp [offerAt, List.getElem?_append_left h]
  · rename_i h
    obtain rfl : k = l.length := by omega
    simp [offerAt]
theorem rows_snoc (l : List Offer) (o : Offer) : (List.range l.length).map (fun i => (offerAt l i).cells) ++ [o.cells] = rowsOf (fun i => (offerAt (l ++ [o]) i).cells) (l.length + 1) := by
  rw [rowsOf, List.range_succ, List.map_append]
  congr 1
  · refine List.map_congr_left fun i hi => ?_
    have := List.mem_range.1 hi
    rw [offerAt_snoc l o i (by omega), if_pos this]
  · rw [List.map_singleton, offerAt_snoc l o _ (by omega), if_neg (by omega)]

theorem FareMore_spec (t : Table) (p : Person) (j : List Int) (one : Offer) (hf : TableFit t) (hj : j.length ≤ 9223372036854775807) (ho : one.places.length ≤ 9223372036854775807) : Spec Try.prog 4 [.agg t.cells, .agg p.cells, ints j, .agg one.cells] (.v (.bool true)) := by
  refine spec_of mixed Try.func4 (by decide) rfl Try.results4 Try.ntmps4 (by decide) 0 (by simp) ?_
  simp [Table.cells, offerL, bandL, Person.cells, ints, Offer.cells_eq one]
  refine pop_spec (short_spec t hf) rfl false (.inl (by simp [Table.cells, offerL, bandL])) (.inl rfl) rfl (by simp) ?_
  cases hs : shortB t with
  | false =>
    simp
    refine pop_spec known_spec rfl false (.inl (by simp)) (.inl rfl) rfl (by simp) ?_
    simp
    refine answers_of rfl ?_; simp
  | true =>
    by_cases hj20 : 20 < j.length
    · simp [show (20 : Int) < j.length from by omega, show ¬ (j.length : Int) ≤ 20 from by omega]
      refine pop_spec known_spec rfl false (.inl (by simp)) (.inl rfl) rfl (by simp) ?_
      simp
      refine answers_of rfl ?_; simp
    by_cases ho20 : 20 < one.places.length
    · simp [show ¬ (20 : Int) < j.length from by omega, show (j.length : Int) ≤ 20 from by omega, show (20 : Int) < one.places.length from by omega, show ¬ (one.places.length : Int) ≤ 20 from by omega]
      refine pop_spec known_spec rfl false (.inl (by simp)) (.inl rfl) rfl (by simp) ?_
      simp
      refine answers_of rfl ?_; simp
    by_cases ht12 : 12 ≤ t.offers.length
    · simp [show ¬ (20 : Int) < j.length from by omega, show (j.length : Int) ≤ 20 from by omega, show ¬ (20 : Int) < one.places.length from by omega, show (one.places.length : Int) ≤ 20 from by omega, show (12 : Int) ≤ t.offers.length from by omega, show ¬ (t.offers.length : Int) < 12 from by omega]
      refine pop_spec known_spec rfl false (.inl (by simp)) (.inl rfl) rfl (by simp) ?_
      simp
      refine answers_of rfl ?_; simp
    simp [show ¬ (20 : Int) < j.length from by omega, show (j.length : Int) ≤ 20 from by omega, show ¬ (20 : Int) < one.places.length from by omega, show (one.places.length : Int) ≤ 20 from by omega, show ¬ (12 : Int) ≤ t.offers.length from by omega, show (t.offers.length : Int) < 12 from by omega]
    refine pop_spec (asked_spec t p j true hf hj) rfl false (.inl (by simp [Table.cells, offerL, bandL, Person.cells, ints])) (.inl rfl) rfl (by simp) ?_
    cases hask : askedB t p j true with
    | false =>
      simp
      refine pop_spec known_spec rfl false (.inl (by simp)) (.inl rfl) rfl (by simp) ?_
      simp
      refine answers_of rfl ?_; simp
    | true =>
      have hno : t.offers.length < 12 := by omega
      simp only [askedB, Bool.and_eq_true] at hask
      obtain ⟨⟨⟨hv, hw⟩, hr⟩, _⟩ := hask
      have ht := valid_ok hv
      have hjr := route_ok hr
      simp
      refine pwp_draw 8 (by decide) ?_
      simp [show t.offers.length * 40 ≤ 140737488355328 from by omega, show (t.offers.length + 1) * 40 ≤ 140737488355328 from by omega, show t.offers.length ≤ maxLen from by simp [maxLen]; omega, show t.offers.length + 1 ≤ maxLen from by simp [maxLen]; omega]
      refine ⟨by decide, ?_⟩
      have hrows := rows_snoc t.offers one
      have hfm : TableFit (moreT t one) := by
        refine ⟨by simp [moreT]; omega, hf.nb, fun o hom => ?_⟩
        rcases List.mem_append.1 hom with hom | hom
        · exact hf.np o hom
        · obtain rfl := List.mem_singleton.1 hom; exact ho
      have hml : (moreT t one).offers.length = t.offers.length + 1 := by simp [moreT]
      refine pop_specF [(9, .box true (moreT t one).cells), (49, .undef), (52, .undef), (54, .agg (moreT t one).cells)] ?_ (rTable_spec (moreT t one) hfm) rfl false (.inl (by simp [Table.cells, offerL, bandL])) (.inl rfl) rfl (by simp) ?_
      · simp [Table.cells, offerL, bandL, moreT]
        refine ⟨?_, ?_⟩
        · intro k hk
          by_cases h : k < t.offers.length
          · simp [offerAt_snoc t.offers one k hk, h, List.getElem?_append_left, Offer.cells_eq (offerAt t.offers k)]
          · obtain rfl : k = t.offers.length := by omega
            simp [offerAt_snoc t.offers one _ hk, Offer.cells_eq one]
        · intro k hk
          by_cases h : k < t.offers.length
          · simp [offerAt_snoc t.offers one k hk, h, List.getElem?_append_left, Offer.cells_eq (offerAt t.offers k)]
          · obtain rfl : k = t.offers.length := by omega
            simp [offerAt_snoc t.offers one _ hk, Offer.cells_eq one]
      simp [Table.cells, offerL, bandL, hml]
      cases hvm : validB (moreT t one) with
      | false =>
        simp
        refine pop_spec known_spec rfl false (.inl (by simp)) (.inl rfl) rfl (by simp) ?_
        simp
        refine answers_of rfl ?_; simp
      | true =>
        have htm := valid_ok hvm
        have hbad1 : bestBad t p j = false := by simp [bestBad, hv, hw, hr]
        have hbad2 : bestBad (moreT t one) p j = false := by simp [bestBad, hvm, hw, hr]
        have hb1 := Best_spec t p j hf hj
        have hb2 := Best_spec (moreT t one) p j hfm hj
        simp
        refine pop_spec hb1 rfl false (.inl (by simp [Table.cells, offerL, bandL, Person.cells, ints])) (.inl rfl) rfl (by simp [BestR.pv, fuseL, ints]) ?_
        simp [BestR.pv, fuseL, ints]
        refine pop_spec hb2 rfl false (.inl (by simp [Table.cells, offerL, bandL, Person.cells, ints, hml])) (.inl rfl) rfl (by simp [BestR.pv, fuseL, ints]) ?_
        have hm := best_more (o := one) ht htm p (j := j) (by omega)
        cases hi : (ansOf ((j.length : Int) - 1) (usesOf t p j) 0).is with
        | false =>
          have e1 : bestOf t p j = ⟨[], 0, [], 5⟩ := by simp [bestOf, hbad1, hi]
          rw [e1]
          simp [BestR.pv, fuseL, ints]
          refine pop_spec known_spec rfl false (.inl (by simp)) (.inl rfl) rfl (by simp) ?_
          simp
          refine answers_of rfl ?_; simp
        | true =>
          obtain ⟨h1, h2⟩ := hm hi
          have e1 : (bestOf t p j).err = 0 ∧ (bestOf t p j).cost = (ansOf ((j.length : Int) - 1) (usesOf t p j) 0).tick.cost := by simp [bestOf, hbad1, hi]
          have e2 : (bestOf (moreT t one) p j).err = 0 ∧ (bestOf (moreT t one) p j).cost = (ansOf ((j.length : Int) - 1) (usesOf (moreT t one) p j) 0).tick.cost := by simp [bestOf, hbad2, h1]
          simp [BestR.pv, fuseL, ints, e1.1, e1.2, e2.1, e2.2, h2]
          refine pop_spec known_spec rfl false (.inl (by simp)) (.inl rfl) rfl (by simp) ?_
          simp
          refine answers_of rfl ?_; simp
end Go.Qg

/-! A range loop over a generator, which a round may end. No condition: a lemma that holds of every program. -/
namespace Go.Qg
open Go.RowKit (Below)

section
variable {P : Program} {N M M' : Nat} {B B0 : Base} {a a' : Act} {w w' : World} {R R00 : Nat → Nat → Prop} {Γ : Nat → Option Loc} {fr : PF} {Q : Unit → PX → PF → Prop} {κ : List Nat} {l D : Nat} {rec : LoopState → Option Code → Loop} {V : Nat → PF}


/-- THE LOOP, where rounds may end it: V n is empty where no n-th round begins. κ: the places of the frame's objects; V n: the frame behind n rounds; A n, H n: its slots and its objects, as the round sees them. -/
theorem XW_rangeI (hN : 0 < N) (hmx : P.follows .mixedOrders = true) {g : Operand} {t : Tmp} {assign body : Code} {gf : FuncId} {caps els : List PV} (hg : rd fr g = .clo (.func gf) [] caps) (hcaps : plainL caps = true) (hgen : GenW P gf caps els) (hels : ∀ p ∈ els, p.plain = true ∧ p.flat = true)
    (hda : dstsIn N assign = true) (hdb : dstsIn N body = true) (M' : Nat) (hM' : N ≤ M') (κ : List Nat) (hκ : κ.Nodup) (V : Nat → PF) (A : Nat → List PV) (H : Nat → PF) (h0 : less B0.lo fr (V 0))
    (hview : ∀ n, n < els.length → V n ≠ [] → (A n).length = N ∧ outF (V n) (tgtAt (H n) κ fun _ => false) 8 (H n) κ ∧ ∀ i, i < N → i ≠ t → vw (V n) (tgtAt (H n) κ fun _ => false) 8 ((A n).getD i .undef) (rd (V n) (.tmp i)))
    (hround : ∀ n p, els[n]? = some p → V n ≠ [] → pwp P M' assign (thenP (pwp P M' body (rend B0.lo M' κ (V n) (V (n + 1)) Q)) (fun _ _ => False)) (frame0 M' ((A n).set t p) (H n)))
    (hend : V els.length ≠ [] → Q () .normal (V els.length)) : XW P N (ECtx B0) () (.rangeFunc g #[t] assign body) Q fr := fun B a w hC ⟨R, Γ, hs⟩ => by
  have hlo := hC.1
  have hgv := hs.rd g
  rw [hg] at hgv
  generalize hu : a.eval g = u at hgv
  cases hgv with
  | clo _ uf uc _ _ l1 l2 _ r2 =>
  obtain rfl : uf = [] := by simpa using l1
  refine wr_range hu hgen.1 fun fn => ?_
  generalize hW1 : (w.alloc (.deferred (some []))).alloc (.loop (loopRec fn a #[t] assign body w.heap.size .ready none)) = W1
  have hbel : Below w.heap.size w W1 := by
    rw [← hW1]; exact (((Below.refl _ w).alloc (Nat.le_refl _) _).alloc (by simp) _)
  have hl1 : W1.heap[w.heap.size + 1]? = some (.loop (loopRec fn a #[t] assign body w.heap.size .ready none)) := by
    rw [← hW1]; have := World.alloc_heap_new (w.alloc (.deferred (some []))) (.loop (loopRec fn a #[t] assign body w.heap.size .ready none)); rwa [World.size_alloc] at this
  have hD1 : W1.heap[w.heap.size]? = some (.deferred (some [])) := by
    rw [← hW1]; exact (Below.heap_alloc _ _ _ (by simp)).trans (World.alloc_heap_new w _)
  have hw1 := weak_R hs (by rw [hlo]; exact h0)
  have hs1 := hw1.grown hbel _ (fun _ _ x => x) (fun _ _ x => .inl x)
  have hBl : ∀ b, B.Prot b → b < w.heap.size := fun b hb => Nat.lt_of_lt_of_le (hs.prot b hb) hs.kept.size
  have henv : Env P (w.heap.size + 1) els (fun b => ∃ o, R b o) (LoopJ N B a (w.heap.size + 1) w.heap.size (loopRec fn a #[t] assign body w.heap.size) R V Q) := by
    refine ⟨fun s F W b hJ hb => ?_, fun s F W W' hJ hF hsz ho ht hou => ?_, fun n F W v p Ra Γa hJ hel hv => ?_⟩
    · obtain ⟨R, Γ, fr, st, pe, k1, rfl, k3, k4, _⟩ := hJ
      exact foot_bnd k1 k3 k4 hb
    · obtain ⟨R, Γ, fr, st, pe, k1, rfl, k3, k4, k5⟩ := hJ
      exact ⟨R, Γ, fr, st, pe, foot_stay k1 hF hsz ho ht hou, rfl, (hF _ (.inr (.inr (.inr (.inl rfl))))).trans k3, (hF _ (.inr (.inr (.inr (.inr rfl))))).trans k4, k5⟩
    · obtain ⟨R', Γ', fr', st, pe, k1, rfl, k3, k4, k5, k6, rfl, rfl, rfl⟩ := hJ
      have hlt := lt_of_get? hel
      have hV : V n ≠ [] := fun e => by have := k1.len; rw [e] at this; simp at this; omega
      obtain ⟨v1, v2, v3⟩ := hview n hlt hV
      have hy : (Instr.yield (w.heap.size + 1) #[v]).run P W = .ok (.round (w.heap.size + 1) fn (a.tmps.setIfInBounds t v) assign body) W := by
        have := run_yield (P := P) (args := #[v]) k3 rfl
        simpa [loopRec] using this
      refine ⟨_, _, _, _, hy, fun c cs => ?_⟩
      obtain ⟨ret, W2, ⟨b, R2, Γ2, fr2, st2, pe2, q1, q2, q3, q4, q5, q6, q7, q8, q9⟩, hsteps⟩ := round_sound (l := w.heap.size + 1) (D := w.heap.size) (R00 := R) hmx hda hdb hM' hκ (p := p) (v := v) (Q := Q) (next := V (n + 1)) k1 ⟨by simp, fun b hb => Nat.lt_succ_of_lt (hBl b hb)⟩ rfl k3 k4 (by omega) k6 k5 v2 v1 v3 (hels p (List.mem_of_getElem? hel)) hv (by rw [hlo]; exact hround n p hel hV) c cs
      refine ⟨ret, W2, ⟨b, foot B R2 Γ2 (w.heap.size + 1) w.heap.size, q1, ⟨R2, Γ2, fr2, st2, pe2, q2, rfl, q3, q4, q5, q6, ?_⟩, q7, q8.mono fun x hx => ⟨hx.1, hx.2.imp_right fun ⟨o, ho⟩ => ⟨o, k5 x o ho⟩⟩⟩, hsteps⟩
      cases b with
      | true => exact q9
      | false => exact q9
  have hJ0 : LoopJ N B a (w.heap.size + 1) w.heap.size (loopRec fn a #[t] assign body w.heap.size) R V Q (some 0) (foot B (freed R Γ (V 0)) (Γof Γ (V 0)) (w.heap.size + 1) w.heap.size) W1 := by
    refine ⟨_, _, V 0, .ready, none, hs1, rfl, hl1, hD1, fun b o hb => .inl hb, fun o ho => ?_, rfl, rfl, rfl⟩
    rcases ho with ho | ⟨s, m, _, hm, hmb⟩
    · have := hs.bnd _ o ho; omega
    · have := ((hs.own s m hm).2 _ hmb).2.1; omega
  -- behind the loop
  have after : ∀ {R' : Nat → Nat → Prop} {Γ' : Nat → Option Loc} {fr' : PF} {w' : World} {rc : Loop} (rc' : Loop), Sim N B R' Γ' a w' fr' → w'.heap[w.heap.size + 1]? = some (.loop rc) → w'.heap[w.heap.size]? = some (.deferred (some [])) →
      ∃ B', ECtx B0 () B' ∧ Sim N B' R' Γ' { a with defers := { target := .collected w.heap.size, args := #[] } :: a.defers } (w'.putObj (w.heap.size + 1) (.loop rc')) fr' := by
    intro R' Γ' fr' w' rc rc' k1 k3 k4
    obtain ⟨c1, c2, c3, c4, c5, ms, hms, hDs, hm⟩ := hC
    have hlt := (Array.getElem?_eq_some_iff.1 k3).1
    refine ⟨⟨fun b => B.Prot b ∨ b = w.heap.size, w'.putObj (w.heap.size + 1) (.loop rc'), R', B.Γ0, B.lo, { target := .collected w.heap.size, args := #[] } :: B.D⟩, ⟨c1, fun b hb => .inl (c2 b hb), ?_, fun b o hb => ?_, c5, w.heap.size :: ms, ?_, by rw [hDs]; rfl, fun r hr => ?_⟩, ?_⟩
    · refine (c3.trans (k1.kept.mono c2)).trans ⟨rfl, rfl, rfl, by simp, fun k hk => World.putObj_heap_other fun e => ?_⟩
      have := hBl k (c2 k hk)
      omega
    · rcases k1.sub b o hb with h1 | h1
      · exact c4 b o h1
      · exact .inr fun hp => h1 (c2 b hp)
    · refine List.nodup_cons.2 ⟨fun hin => ?_, hms⟩
      have := hBl _ (hm _ hin).1
      omega
    · rcases List.mem_cons.1 hr with rfl | hr
      · refine ⟨.inr rfl, fun hp => ?_, (World.putObj_heap_other (by omega)).trans k4⟩
        have := hBl _ (c2 _ hp)
        omega
      · obtain ⟨h1, h2, h3⟩ := hm r hr
        refine ⟨.inl h1, h2, ?_⟩
        have hrl := hBl r h1
        exact (World.putObj_heap_other (by omega)).trans ((k1.kept.block r h1).trans h3)
    · refine k1.moved (fun b o _ => cell_putObj k3 (by simp) (by simp)) (fun i m b hi hb => World.putObj_heap_other fun e => k1.not_own k3 (by simp) (by simp) hi (e ▸ hb)) (by simp) (fun i m b hi hb hp => ?_) (fun b o hb => .inl hb) (Kept.refl _ _) (fun b hb => ?_) k1.lo k1.base rfl (by rw [k1.defers])
      · rcases hp with hp | rfl
        · exact ((k1.own i m hi).2 b hb).1 hp
        · exact k1.not_own k4 (by simp) (by simp) hi hb
      · rcases hb with hb | rfl
        · have := hBl b hb
          simp
          omega
        · simp
          omega
  refine (hgen.2 W1 uc R (fun b => ∃ o, R b o) (w.heap.size + 1) _ _ (fun b o hb => ⟨o, hb⟩) (fun b ⟨o, hb⟩ => Nat.lt_of_lt_of_le (hs.bnd b o hb) hbel.size) henv hJ0 l2 (fun i u p hu hp => ?_)).mono ?_
  · refine (r2 i u p hu hp).free (fun b o hb => ⟨hb, cell?_of_heap (hbel.block b (hs.bnd b o hb))⟩) ?_
    have := plainL_names hcaps
    refine List.eq_nil_iff_forall_not_mem.2 fun j hj => ?_
    have := mem_namesL.2 ⟨p, List.mem_of_getElem? hp, hj⟩
    rw [plainL_names hcaps] at this; cases this
  · rintro e w' ⟨hv, s, F', hs', R', Γ', fr', st, pe, k1, _, k3, k4, _, _, hm⟩
    refine ⟨hv, st, pe, k3, ?_⟩
    obtain ⟨B', hC', hs2⟩ := after (loopRec fn a #[t] assign body w.heap.size .exhausted pe) k1 k3 k4
    rcases hs' with rfl | rfl
    · obtain ⟨rfl, rfl, rfl⟩ := hm
      exact ⟨by simp, (), B', hC', R', Γ', _, .normal, hs2, trivial, hend fun e => by have := k1.len; rw [e] at this; simp at this; omega⟩
    · obtain ⟨rfl, c, x, rfl, hjx, hQ⟩ := hm
      refine ⟨by simp, ?_⟩
      cases c with
      | ret => cases x with
        | ret => exact ⟨(), B', hC', R', Γ', _, .ret, hs2, trivial, hQ⟩
        | _ => exact hjx.elim
      | exit id => cases x with
        | exit id' => exact ⟨(), B', hC', R', Γ', _, .exit id', hs2, hjx, hQ⟩
        | _ => exact hjx.elim
      | _ => cases x <;> exact hjx.elim
end
end Go.Qg

/-! The law FarePrices returns true. No condition. -/
namespace Go.Qg
open Go.Proofs
set_option maxRecDepth 100000
set_option maxHeartbeats 4000000
attribute [local irreducible] pwp pops pdraw pop popCall pdCall thenP blockP scopeP pspec Spec answers ppost CallW rend

theorem resident_less {t : Table} (ht : TableOk t) {o : Offer} (ho : o ∈ t.offers) {p : Person} {n : Int} (h : priceOf t p o = some n) : ∃ m, priceOf t ⟨p.weight, true⟩ o = some m ∧ m ≤ n := by
  obtain ⟨⟨c1, c2⟩, _, _⟩ := ht.offer o ho
  have hl := ht.less
  have e0 : 0 ≤ o.cost * t.less := Int.mul_nonneg c1 hl.1
  unfold priceOf at h ⊢
  cases hx : extraOf t.bands p.weight with
  | none => rw [hx] at h; cases h
  | some x =>
    rw [hx] at h
    simp only [hx, Bool.not_true, Bool.and_false, Bool.false_eq_true, if_false] at h ⊢
    refine ⟨_, rfl, ?_⟩
    split at h
    · cases h
    · obtain rfl := Option.some.inj h
      simp only [lessOf, heavyOf, if_true]
      split <;> omega
theorem rPriceOf_some {t : Table} (ht : TableOk t) {o : Offer} (ho : o ∈ t.offers) {p : Person} {n : Int} (h : priceOf t p o = some n) : rPriceOf t p o = n ∧ 0 ≤ n := by
  have := price_bound ht ho h
  exact ⟨by simp [rPriceOf, h], this.1⟩

theorem FarePrices_spec (t : Table) (offer : Int) (p : Person) (hf : TableFit t) : Spec Try.prog 14 [.agg t.cells, .v (.int .i64 offer), .agg p.cells] (.v (.bool true)) := by
  have hprice := priced_spec t offer p hf
  refine spec_of mixed Try.func14 (by decide) rfl Try.results14 Try.ntmps14 (by decide) 0 (by simp) ?_
  simp [Table.cells, offerL, bandL, Person.cells]
  refine pop_spec (short_spec t hf) rfl false (.inl (by simp [Table.cells, offerL, bandL])) (.inl rfl) rfl (by simp) ?_
  cases hs : shortB t with
  | false =>
    simp
    refine pop_spec known_spec rfl false (.inl (by simp)) (.inl rfl) rfl (by simp) ?_
    simp
    refine answers_of rfl ?_; simp
  | true =>
    have h20 : t.offers.length ≤ 20 := by
      simp only [shortB, Bool.and_eq_true, decide_eq_true_eq] at hs
      exact hs.1.2
    simp
    refine pop_spec (check_spec t hf.no hf.nb hf.np) rfl false (.inl (by simp [Table.cells, offerL, bandL])) (.inl rfl) rfl (by simp) ?_
    simp
    refine pop_spec hprice rfl false (.inl (by simp [Table.cells, offerL, bandL, Person.cells])) (.inl rfl) rfl (by simp) ?_
    simp
    refine pop_spec (rTable_spec t hf) rfl false (.inl (by simp [Table.cells, offerL, bandL])) (.inl rfl) rfl (by simp) ?_
    cases hv : validB t with
    | false =>
      have e : pricedOf t offer p = (0, 2) := by simp [pricedOf, priceBad, hv]
      rw [e]
      simp
      refine pop_spec known_spec rfl false (.inl (by simp)) (.inl rfl) rfl (by simp) ?_
      simp
      refine answers_of rfl ?_; simp
    | true =>
      have ht := valid_ok hv
      have bad : priceBad t offer p = true → pricedOf t offer p = (0, 2) := fun h => by simp [pricedOf, h]
      by_cases h0 : 0 ≤ offer
      · by_cases h1 : offer < t.offers.length
        · obtain ⟨i, rfl⟩ : ∃ i : Nat, offer = i := ⟨offer.toNat, by omega⟩
          have hi : i < t.offers.length := by omega
          have hm := offerAt_mem hi
          simp [h0, h1, hi, Int.not_le.2 h1, Nat.not_le.2 hi]
          refine pop_spec (rPerson_spec p) rfl false (.inl (by simp [Person.cells])) (.inl rfl) rfl (by simp) ?_
          cases hp : inB p.weight 0 1000 with
          | false =>
            rw [bad (by simp [priceBad, hp])]
            simp
            refine pop_spec known_spec rfl false (.inl (by simp)) (.inl rfl) rfl (by simp) ?_
            simp
            refine answers_of rfl ?_; simp
          | true =>
            have hpw := inB_spec.1 hp
            have hbad : ∀ r : Bool, priceBad t i ⟨p.weight, r⟩ = false := fun r => by simp [priceBad, hv, inB, hpw.1, hpw.2]; omega
            have hpe : p = ⟨p.weight, p.res⟩ := rfl
            simp
            refine pop_spec (rPrice_spec t i p ht hi) rfl false (.inl (by simp [Table.cells, offerL, bandL, Person.cells])) (.inl rfl) rfl (by simp) ?_
            cases hx : priceOf t p (offerAt t.offers i) with
            | none =>
              have e : pricedOf t i p = (0, 5) := by
                have := hbad p.res
                simp [pricedOf, this, hx]
              have e2 : rPriceOf t p (offerAt t.offers i) = -1 := by simp [rPriceOf, hx]
              rw [e, e2]
              simp
              refine pop_spec known_spec rfl false (.inl (by simp)) (.inl rfl) rfl (by simp) ?_
              simp
              refine answers_of rfl ?_; simp
            | some n =>
              have e : pricedOf t i p = (n, 0) := by
                have := hbad p.res
                simp [pricedOf, this, hx]
              obtain ⟨e2, hn⟩ := rPriceOf_some ht hm hx
              obtain ⟨m, hxm, hmn⟩ := resident_less ht hm hx
              have e3 : pricedOf t i ⟨p.weight, true⟩ = (m, 0) := by
                have := hbad true
                simp [pricedOf, this, hxm]
              have hprice2 := priced_spec t i ⟨p.weight, true⟩ hf
              rw [e3] at hprice2
              rw [e, e2]
              simp [hn, Int.not_lt.2 hn]
              refine pop_spec hprice2 rfl false (.inl (by simp [Table.cells, offerL, bandL, Person.cells])) (.inl rfl) rfl (by simp) ?_
              simp [hmn]
              refine pop_spec known_spec rfl false (.inl (by simp)) (.inl rfl) rfl (by simp) ?_
              simp
              refine answers_of rfl ?_; simp
        · rw [bad (by simp [priceBad, inB]; omega)]
          simp [h0, h1, Int.not_lt.1 h1]
          refine pop_spec known_spec rfl false (.inl (by simp)) (.inl rfl) rfl (by simp) ?_
          simp
          refine answers_of rfl ?_; simp
      · rw [bad (by simp [priceBad, inB]; omega)]
        simp [h0, Int.not_le.1 h0]
        refine pop_spec known_spec rfl false (.inl (by simp)) (.inl rfl) rfl (by simp) ?_
        simp
        refine answers_of rfl ?_; simp
end Go.Qg

/-! Contracts of the reference's functions Fits, Uses. No condition. -/
namespace Go.Qg
open Go.Proofs
set_option maxRecDepth 100000
set_option maxHeartbeats 4000000
attribute [local irreducible] pwp pops pdraw pop popCall pdCall thenP blockP scopeP pspec Spec answers ppost CallW rend

/-- Can the use be made? -/
def fitsB (t : Table) (p : Person) (j : List Int) (u : FUse) : Bool := inB u.offer 0 ((t.offers.length : Int) - 1) && inB u.leg 0 ((j.length : Int) - 2) && (priceOf t p (offerAt t.offers u.offer.toNat)).isSome && beginsB (j.drop u.leg.toNat) (offerAt t.offers u.offer.toNat).places

theorem rFits_spec (t : Table) (p : Person) (j : List Int) (u : FUse) (ht : TableOk t) (hj : 2 ≤ j.length ∧ j.length ≤ 9) : Spec Try.prog 68 [.agg t.cells, .agg p.cells, ints j, .agg u.cells] (.v (.bool (fitsB t p j u))) := by
  have hno := ht.no
  have w1 : IntKind.i64.wrap ((t.offers.length : Int) - 1) = (t.offers.length : Int) - 1 := i64_wrap (by omega)
  have w2 : IntKind.i64.wrap ((j.length : Int) - 2) = (j.length : Int) - 2 := i64_wrap (by omega)
  refine spec_of mixed Try.func68 (by decide) rfl Try.results68 Try.ntmps68 (by decide) 0 (by simp) ?_
  simp [Table.cells, offerL, bandL, Person.cells, ints, FUse.cells, w1]
  refine pop_spec (rin_spec u.offer 0 ((t.offers.length : Int) - 1)) rfl false (.inl (by simp)) (.inl rfl) rfl (by simp) ?_
  cases h1 : inB u.offer 0 ((t.offers.length : Int) - 1) with
  | false => simp; refine answers_of rfl ?_; simp [fitsB, h1]
  | true =>
    simp [w2]
    refine pop_spec (rin_spec u.leg 0 ((j.length : Int) - 2)) rfl false (.inl (by simp)) (.inl rfl) rfl (by simp) ?_
    cases h2 : inB u.leg 0 ((j.length : Int) - 2) with
    | false => simp; refine answers_of rfl ?_; simp [fitsB, h2]
    | true =>
      have b1 := inB_spec.1 h1
      have b2 := inB_spec.1 h2
      obtain ⟨uo, ul⟩ := u
      simp only at b1 b2 h1 h2
      obtain ⟨i, rfl⟩ : ∃ i : Nat, uo = i := ⟨uo.toNat, by omega⟩
      obtain ⟨leg, rfl⟩ : ∃ leg : Nat, ul = leg := ⟨ul.toNat, by omega⟩
      have hi : i < t.offers.length := by omega
      have hm := offerAt_mem hi
      have hpl := (ht.offer _ hm).2
      simp
      refine pop_spec (rPrice_spec t i p ht hi) rfl false (.inl (by simp [Table.cells, offerL, bandL, Person.cells])) (.inl rfl) rfl (by simp) ?_
      cases hx : priceOf t p (offerAt t.offers i) with
      | none =>
        have e : rPriceOf t p (offerAt t.offers i) = -1 := by simp [rPriceOf, hx]
        rw [e]
        simp; refine answers_of rfl ?_; simp [fitsB, hx]
      | some n =>
        obtain ⟨e, hn⟩ := rPriceOf_some ht hm hx
        rw [e]
        have fe : fitsB t p j ⟨i, leg⟩ = beginsB (j.drop leg) (offerAt t.offers i).places := by simp [fitsB, h1, h2, hx]
        rw [fe]
        simp [hn, Int.not_lt.2 hn, hi, Offer.cells_eq (offerAt t.offers i)]
        generalize (offerAt t.offers i).places = pl at hpl
        refine pwp_loop (fun k : Nat => [(10, .v (.int .i64 k))]) (fun k => k ≤ pl.length ∧ ∀ q, q < k → leg + q < j.length ∧ geti j (leg + q) = geti pl q) (fun k => pl.length - k) 0 ⟨Nat.zero_le _, fun q hq => by omega⟩ (by simp; rfl) (by simp) ?_
        intro k ⟨hk, hq⟩
        by_cases h : k < pl.length
        · have wk := i64_wrap (show -9223372036854775808 ≤ (k : Int) + 1 ∧ _ from by omega)
          have wl : IntKind.i64.wrap ((leg : Int) + (k : Int)) = (leg : Int) + (k : Int) := i64_wrap (by omega)
          have tn : ((leg : Int) + (k : Int)).toNat = leg + k := by omega
          simp [h]
          refine pwp_draw 21 (by decide) ?_
          by_cases h3 : leg + k < j.length
          · by_cases h4 : geti j (leg + k) = geti pl k
            · simp [h, wl, tn, show ¬ (j.length : Int) ≤ (leg : Int) + (k : Int) from by omega, show (leg : Int) + (k : Int) < j.length from by omega, h3, show (0 : Int) ≤ (leg : Int) + (k : Int) from by omega, h4]
              refine ⟨by decide, ?_⟩
              refine again_of (k + 1) ⟨by omega, fun q hq' => ?_⟩ (by omega) ?_
              · rcases Nat.lt_succ_iff_lt_or_eq.1 hq' with hq' | rfl
                · exact hq q hq'
                · exact ⟨h3, h4⟩
              · simp [wk]
            · simp [h, wl, tn, show ¬ (j.length : Int) ≤ (leg : Int) + (k : Int) from by omega, show (leg : Int) + (k : Int) < j.length from by omega, h3, show (0 : Int) ≤ (leg : Int) + (k : Int) from by omega, h4]
              refine ⟨by decide, ?_⟩
              have hb : beginsB (j.drop leg) pl = false := by
                have := allN_false (p := fun k => geti (j.drop leg) k == geti pl k) h (by rw [geti_drop]; simpa using h4)
                simp [beginsB, this]
              rw [hb]
              refine answers_of rfl ?_; simp
          · simp [h, wl, show (j.length : Int) ≤ (leg : Int) + (k : Int) from by omega]
            refine ⟨by decide, ?_⟩
            have hb : beginsB (j.drop leg) pl = false := by
              have : ¬ pl.length ≤ (j.drop leg).length := by rw [List.length_drop]; omega
              simp only [beginsB, this, decide_false, Bool.false_and]
            rw [hb]
            refine answers_of rfl ?_; simp
        · simp [h]
          obtain rfl : k = pl.length := by omega
          have hb : beginsB (j.drop leg) pl = true := by
            have h5 := hq (pl.length - 1) (by omega)
            have h6 : pl.length ≤ (j.drop leg).length := by rw [List.length_drop]; omega
            simp only [beginsB, h6, decide_true, Bool.true_and]
            refine allN_spec.2 fun q hq' => ?_
            rw [geti_drop, (hq q hq').2]; simp
          rw [hb]
          refine answers_of rfl ?_; simp

/-- Uses as rows. -/
def rowsU (l : List FUse) : List (List PV) := l.map FUse.cells
theorem rowsU_snoc (l : List FUse) (u : FUse) : rowsU l ++ [[.v (.int .i64 u.offer), .v (.int .i64 u.leg)]] = rowsU (l ++ [u]) := by simp [rowsU, FUse.cells]
@[simp] theorem rowsU_length (l : List FUse) : (rowsU l).length = l.length := by simp [rowsU]
theorem rowsU_get {l : List FUse} {k : Nat} (h : k < l.length) : (rowsU l)[k]? = some (fuseAt l k).cells := by simp [rowsU, fuseAt, h]
@[simp] theorem rowsU_getElem (l : List FUse) (k : Nat) (h : k < (rowsU l).length) : (rowsU l)[k] = (fuseAt l k).cells := by
  have h : k < l.length := by simpa using h
  simp [rowsU, fuseAt, h]
@[simp] theorem rowsU_take (l : List FUse) : (rowsU l).take l.length = rowsU l := by
  rw [List.take_of_length_le (by simp)]
theorem rowsU_nil : rowsU [] = [] := rfl
theorem vw_rowsU (f : PF) (T : Tgt) (d : Nat) (l : List FUse) : vo.vwAllL f T (d + 1) (rowsU l) (rowsU l) := by
  induction l with
  | nil => trivial
  | cons u l ih => exact ⟨by simp [FUse.cells], ih⟩
@[simp] theorem rowsU_ones (l : List FUse) : (∀ x : List PV, x ∈ rowsU l → ∀ y : PV, y ∈ x → y.one = true) = True := by
  refine eq_true fun x hx y hy => ?_
  obtain ⟨u, _, rfl⟩ := List.mem_map.1 hx
  simp [FUse.cells] at hy
  rcases hy with rfl | rfl <;> rfl
theorem plain_use {t : Table} {p : Person} {j : List Int} {leg i : Nat} {u : Use} (h : useOf t p j leg i = some u) : u.plain = ⟨i, leg⟩ := by
  have := useOf_some h
  simp [Use.plain, this.1, this.2.1]
theorem fits_use (t : Table) (p : Person) {j : List Int} {leg i : Nat} (h1 : leg < j.length - 1) (h2 : i < t.offers.length) : fitsB t p j ⟨i, leg⟩ = (useOf t p j leg i).isSome := by
  have a1 : inB (i : Int) 0 ((t.offers.length : Int) - 1) = true := inB_spec.2 (by omega)
  have a2 : inB (leg : Int) 0 ((j.length : Int) - 2) = true := inB_spec.2 (by omega)
  simp only [fitsB, a1, a2, Bool.true_and, Int.toNat_natCast]
  unfold useOf
  cases priceOf t p (offerAt t.offers i) with
  | none => rfl
  | some n => cases h : beginsB (j.drop leg) (offerAt t.offers i).places <;> simp [h]

def plainsAt (t : Table) (p : Person) (j : List Int) (leg i : Nat) : List FUse := (usesTo t p j leg ++ usesAt t p j leg i).map Use.plain
theorem plainsAt_len {t : Table} (ht : TableOk t) (p : Person) {j : List Int} (hj : j.length ≤ 9) {leg i : Nat} (h1 : leg ≤ j.length - 1) (h2 : i ≤ t.offers.length) : (plainsAt t p j leg i).length ≤ 200 := by
  have a := usesTo_length t p j leg
  have b := usesAt_length t p j leg i
  have c := ht.no
  have d : leg * t.offers.length ≤ 8 * 12 := Nat.mul_le_mul (by omega) c
  simp only [plainsAt, List.length_map, List.length_append]; omega

theorem rUses_spec (t : Table) (p : Person) (j : List Int) (ht : TableOk t) (hj : 2 ≤ j.length ∧ j.length ≤ 9) : Spec Try.prog 21 [.agg t.cells, .agg p.cells, ints j] (fuseL ((usesOf t p j).map Use.plain)) := by
  have hno := ht.no
  have w0 : IntKind.i64.wrap ((j.length : Int) - 1) = (j.length : Int) - 1 := i64_wrap (by omega)
  refine spec_of mixed Try.func21 (by decide) rfl Try.results21 Try.ntmps21 (by decide) 0 (by simp) ?_
  simp [Table.cells, offerL, bandL, Person.cells, ints]
  refine pwp_loop (fun leg : Nat => [(7, .own 36 (plainsAt t p j leg 0).length 0 (plainsAt t p j leg 0).length false), (8, .v (.int .i64 leg)), (36, .rows none (plainsAt t p j leg 0).length 109 2 (rowsU (plainsAt t p j leg 0)))]) (fun leg => leg ≤ j.length - 1) (fun leg => j.length - leg) 0 (Nat.zero_le _) (by simp; rfl) (by simp [plainsAt, usesTo, usesAt, rowsU]) ?_
  intro leg hleg
  have wl := i64_wrap (show -9223372036854775808 ≤ (leg : Int) + 1 ∧ _ from by omega)
  by_cases h : leg < j.length - 1
  · simp [w0, show (leg : Int) < (j.length : Int) - 1 from by omega]
    refine pwp_loop (fun i : Nat => [(7, .own 36 (plainsAt t p j leg i).length 0 (plainsAt t p j leg i).length false), (9, .v (.int .i64 i)), (36, .rows none (plainsAt t p j leg i).length 109 2 (rowsU (plainsAt t p j leg i)))]) (fun i => i ≤ t.offers.length) (fun i => t.offers.length - i) 0 (Nat.zero_le _) (by simp; rfl) (by simp [vw_rowsU]) ?_
    intro i hi
    have wi := i64_wrap (show -9223372036854775808 ≤ (i : Int) + 1 ∧ _ from by omega)
    by_cases h2 : i < t.offers.length
    · have hln := plainsAt_len ht p hj.2 hleg hi
      simp [h2]
      refine pop_spec (rFits_spec t p j ⟨i, leg⟩ ht hj) rfl false (.inl (by simp [Table.cells, offerL, bandL, Person.cells, ints, FUse.cells])) (.inl rfl) rfl (by simp) ?_
      rw [fits_use t p h h2]
      cases hu : useOf t p j leg i with
      | none =>
        have e : plainsAt t p j leg (i + 1) = plainsAt t p j leg i := by simp [plainsAt, usesAt, hu]
        simp
        refine again_of (i + 1) (by omega) (by omega) ?_
        simp [wi, e, vw_rowsU]
      | some u =>
        have e : plainsAt t p j leg (i + 1) = plainsAt t p j leg i ++ [⟨i, leg⟩] := by simp [plainsAt, usesAt, hu, plain_use hu]
        have es := rowsU_snoc (plainsAt t p j leg i) ⟨i, leg⟩
        generalize plainsAt t p j leg i = L at *
        simp [show (L.length + 1) * 16 ≤ 140737488355328 from by omega, show L.length + 1 ≤ maxLen from by simp [maxLen]; omega]
        refine again_of (i + 1) (by omega) (by omega) ?_
        simp only [e]
        simp [wi, es, vw_rowsU]
    · simp [h2]
      obtain rfl : i = t.offers.length := by omega
      have e : plainsAt t p j leg t.offers.length = plainsAt t p j (leg + 1) 0 := by simp [plainsAt, usesAt, usesTo]
      rw [e]
      refine again_of (leg + 1) (by omega) (by omega) ?_
      simp [wl, vw_rowsU]
  · simp [w0, show ¬ (leg : Int) < (j.length : Int) - 1 from by omega, show (j.length : Int) - 1 ≤ (leg : Int) from by omega]
    obtain rfl : leg = j.length - 1 := by omega
    refine answers_of rfl ?_
    have e : (usesOf t p j).map Use.plain = plainsAt t p j (j.length - 1) 0 := by simp [plainsAt, usesAt, usesOf]
    rw [e]
    simp [fuseL]
    intro k hk
    simp [rowsU_get hk, FUse.cells]
end Go.Qg

/-! Contracts of the reference's functions Behind, Cost, covers, ahead, Less. No condition. -/
namespace Go.Qg
open Go.Proofs
set_option maxRecDepth 100000
set_option maxHeartbeats 4000000
attribute [local irreducible] pwp pops pdraw pop popCall pdCall thenP blockP scopeP pspec Spec answers ppost CallW rend

/-- What is known of a use of the table. -/
structure UseOk (t : Table) (p : Person) (u : Use) : Prop where
  off : 0 ≤ u.offer ∧ u.offer < (t.offers.length : Int)
  leg : 0 ≤ u.leg ∧ u.leg ≤ 8
  fin : u.fin = u.leg + (offerAt t.offers u.offer.toNat).places.length - 1
  price : priceOf t p (offerAt t.offers u.offer.toNat) = some u.price
  bound : 0 ≤ u.price ∧ u.price ≤ 9000000000
theorem usesOf_useOk {t : Table} (ht : TableOk t) {p : Person} {j : List Int} (hj : j.length ≤ 9) {u : Use} (hu : u ∈ usesOf t p j) : UseOk t p u := by
  obtain ⟨leg, k, h1, h2, _, h3, h4, h5, h6, _, h7, h8⟩ := usesOf_mem ht hu
  have e : u.offer.toNat = k := by omega
  exact ⟨by omega, by omega, by rw [e, h5, h4], by rw [e]; exact h6, h7, h8⟩
theorem useOk_inj {t : Table} {p : Person} {a b : Use} (ha : UseOk t p a) (hb : UseOk t p b) (h : a.plain = b.plain) : a = b := by
  obtain ⟨ao, al, af, ap⟩ := a
  obtain ⟨bo, bl, bf, bp⟩ := b
  simp only [Use.plain, FUse.mk.injEq] at h
  obtain ⟨rfl, rfl⟩ := h
  have h1 := ha.fin
  have h2 := hb.fin
  have h3 := ha.price.symm.trans hb.price
  simp only at h1 h2
  simp only [Option.some.injEq] at h3
  simp [h1, h2, h3]
theorem fuse_plain {s : List Use} {k : Nat} (h : k < s.length) : fuseAt (s.map Use.plain) k = (useAt s k).plain := by simp [fuseAt, useAt, h]
theorem useAt_mem {s : List Use} {k : Nat} (h : k < s.length) : useAt s k ∈ s := by simp [useAt, h]

theorem rBehind_spec (t : Table) (p : Person) (u : Use) (ht : TableOk t) (hu : UseOk t p u) : Spec Try.prog 101 [.agg t.cells, .agg u.plain.cells] (.v (.int .i64 u.fin)) := by
  have hi : u.offer.toNat < t.offers.length := by have := hu.off; omega
  have hpl := (ht.offer _ (offerAt_mem hi)).2
  have hl := hu.leg
  have hf := hu.fin
  have ho := hu.off
  have w1 : IntKind.i64.wrap (u.leg + ((offerAt t.offers u.offer.toNat).places.length : Int)) = u.leg + ((offerAt t.offers u.offer.toNat).places.length : Int) := i64_wrap (by omega)
  have w2 : IntKind.i64.wrap (u.leg + ((offerAt t.offers u.offer.toNat).places.length : Int) - 1) = u.fin := by rw [hf]; exact i64_wrap (by omega)
  refine spec_of mixed Try.func101 (by decide) rfl Try.results101 Try.ntmps101 (by decide) 0 (by simp) ?_
  simp [Table.cells, offerL, bandL, FUse.cells, Use.plain]
  refine pwp_draw 13 (by decide) ?_
  simp [ho.1, ho.2, hi, Offer.cells_eq (offerAt t.offers u.offer.toNat), w1, w2]
  refine ⟨by decide, ?_⟩
  refine answers_of rfl ?_; simp

theorem costL_snoc (s : List Use) (k : Nat) (hk : k < s.length) : costL (s.take (k + 1)) = costL (s.take k) + (useAt s k).price := by
  rw [List.take_succ_eq_append_getElem hk]
  simp only [costL, List.map_append, List.sum_append, List.map_cons, List.map_nil, List.sum_cons, List.sum_nil]
  simp [useAt, hk]
theorem costL_bound {t : Table} {p : Person} {s : List Use} (h : ∀ u ∈ s, UseOk t p u) : ∀ k, k ≤ s.length → 0 ≤ costL (s.take k) ∧ costL (s.take k) ≤ 9000000000 * (k : Int)
  | 0, _ => by simp
  | k + 1, hk => by
    have h1 := costL_bound h k (by omega)
    have h2 := (h _ (useAt_mem (show k < s.length by omega))).bound
    rw [costL_snoc s k hk]; omega

theorem rCost_spec (t : Table) (p : Person) (s : List Use) (ht : TableOk t) (hs : ∀ u ∈ s, UseOk t p u) (hl : s.length ≤ 200) : Spec Try.prog 24 [.agg t.cells, .agg p.cells, fuseL (s.map Use.plain)] (.v (.int .i64 (costL s))) := by
  refine spec_of mixed Try.func24 (by decide) rfl Try.results24 Try.ntmps24 (by decide) 0 (by simp) ?_
  simp [Table.cells, offerL, bandL, Person.cells, fuseL]
  refine pwp_loop (fun k : Nat => [(7, .v (.int .i64 (costL (s.take k)))), (8, .v (.int .i64 k))]) (fun k => k ≤ s.length) (fun k => s.length - k) 0 (Nat.zero_le _) (by simp; rfl) (by simp) ?_
  intro k hk
  by_cases h : k < s.length
  · have wk := i64_wrap (show -9223372036854775808 ≤ (k : Int) + 1 ∧ _ from by omega)
    have hu := hs _ (useAt_mem h)
    have ho := hu.off
    have hi : (useAt s k).offer.toNat < t.offers.length := by omega
    have hc := costL_bound hs k hk
    have hc1 := costL_bound hs (k + 1) h
    have hcs := costL_snoc s k h
    have hp := rPrice_spec t (useAt s k).offer.toNat p ht hi
    have e : rPriceOf t p (offerAt t.offers (useAt s k).offer.toNat) = (useAt s k).price := by simp [rPriceOf, hu.price]
    rw [e, show (((useAt s k).offer.toNat : Nat) : Int) = (useAt s k).offer from by omega] at hp
    have w1 : IntKind.i64.wrap (costL (s.take k) + (useAt s k).price) = costL (s.take (k + 1)) := by rw [hcs]; exact i64_wrap (by omega)
    simp [h]
    refine pwp_draw 11 (by decide) ?_
    simp [h, fuse_plain h, FUse.cells, Use.plain]
    refine pd_spec hp (by simp [Table.cells, offerL, bandL, Person.cells]) (by simp) (by simp [Table.cells, offerL, bandL, Person.cells]) rfl ?_
    simp [w1]
    refine ⟨by decide, ?_⟩
    refine again_of (k + 1) (by omega) (by omega) ?_
    simp [wk, fuse_plain h, FUse.cells, Use.plain]
  · simp [h]
    obtain rfl : k = s.length := by omega
    rw [List.take_length]
    refine answers_of rfl ?_; simp

/-- Is leg k covered by a list? -/
def covB (s : List Use) (k : Int) : Bool := s.any fun u => decide (u.leg ≤ k) && decide (k < u.fin)
def coversB (s : List Use) (legs : Nat) : Bool := allN legs fun k => covB s k
theorem covB_spec {s : List Use} {k : Int} : covB s k = true ↔ ∃ u ∈ s, u.leg ≤ k ∧ k < u.fin := by simp [covB]
theorem coversB_spec {s : List Use} {legs : Nat} : coversB s legs = true ↔ covers 0 legs s := by
  simp only [coversB, allN_spec, covB_spec, covers]
  constructor
  · intro h k h1 h2
    have := h k.toNat (by omega)
    rw [show ((k.toNat : Nat) : Int) = k from by omega] at this
    exact this
  · intro h k hk
    exact h k (by omega) (by omega)
theorem covB_snoc (s : List Use) (k : Nat) (hk : k < s.length) (x : Int) : covB (s.take (k + 1)) x = (covB (s.take k) x || (decide ((useAt s k).leg ≤ x) && decide (x < (useAt s k).fin))) := by
  rw [List.take_succ_eq_append_getElem hk]
  simp only [covB, List.any_append, List.any_cons, List.any_nil, Bool.or_false]
  simp [useAt, hk]

theorem rcovers_spec (t : Table) (p : Person) (s : List Use) (legs : Nat) (ht : TableOk t) (hs : ∀ u ∈ s, UseOk t p u) (hl : s.length ≤ 200) (hlegs : legs ≤ 100) : Spec Try.prog 69 [.agg t.cells, fuseL (s.map Use.plain), .v (.int .i64 legs)] (.v (.bool (coversB s legs))) := by
  refine spec_of mixed Try.func69 (by decide) rfl Try.results69 Try.ntmps69 (by decide) 0 (by simp) ?_
  simp [Table.cells, offerL, bandL, fuseL]
  refine pwp_loop (fun leg : Nat => [(7, .v (.int .i64 leg))]) (fun leg => leg ≤ legs ∧ ∀ q, q < leg → covB s (q : Int) = true) (fun leg => legs - leg) 0 ⟨Nat.zero_le _, fun q hq => by omega⟩ (by simp; rfl) (by simp) ?_
  intro leg ⟨hleg, hq⟩
  by_cases h : leg < legs
  · have wl := i64_wrap (show -9223372036854775808 ≤ (leg : Int) + 1 ∧ _ from by omega)
    simp [h]
    refine pwp_loop (fun i : Nat => [(8, .v (.bool (covB (s.take i) leg))), (9, .v (.int .i64 i))]) (fun i => i ≤ s.length) (fun i => s.length - i) 0 (Nat.zero_le _) (by simp; rfl) (by simp [covB]) ?_
    intro i hi
    by_cases h2 : i < s.length
    · have wi := i64_wrap (show -9223372036854775808 ≤ (i : Int) + 1 ∧ _ from by omega)
      have hu := hs _ (useAt_mem h2)
      have hf := hu.fin
      have hlg := hu.leg
      have hi2 : (useAt s i).offer.toNat < t.offers.length := by have := hu.off; omega
      have hpl := (ht.offer _ (offerAt_mem hi2)).2
      have hcs := covB_snoc s i h2 leg
      have w1 : IntKind.i64.wrap ((useAt s i).fin - 1) = (useAt s i).fin - 1 := i64_wrap (by omega)
      simp [h2]
      refine pwp_draw 18 (by decide) ?_
      cases hc : covB (s.take i) leg with
      | true =>
        rw [hc, Bool.true_or] at hcs
        simp
        refine ⟨by decide, ?_⟩
        refine again_of (i + 1) (by omega) (by omega) ?_
        simp [wi, hcs]
      | false =>
        rw [hc, Bool.false_or] at hcs
        have hbh := rBehind_spec t p (useAt s i) ht hu
        simp [h2, fuse_plain h2, FUse.cells, Use.plain]
        refine pd_spec hbh (by simp [Table.cells, offerL, bandL, FUse.cells, Use.plain]) (by simp) (by simp [Table.cells, offerL, bandL, FUse.cells, Use.plain]) rfl ?_
        simp [w1]
        refine pd_spec (rin_spec leg (useAt s i).leg ((useAt s i).fin - 1)) (by simp) (by simp) (by simp) rfl ?_
        have e : inB (leg : Int) (useAt s i).leg ((useAt s i).fin - 1) = covB (s.take (i + 1)) leg := by
          rw [hcs, inB]
          congr 1
          simp only [decide_eq_decide]; omega
        rw [e]
        simp
        refine ⟨by decide, ?_⟩
        refine again_of (i + 1) (by omega) (by omega) ?_
        simp [wi, fuse_plain h2, FUse.cells, Use.plain]
    · simp [h2]
      obtain rfl : i = s.length := by omega
      rw [List.take_length]
      cases hc : covB s leg with
      | true =>
        simp
        refine again_of (leg + 1) ⟨by omega, fun q hq' => ?_⟩ (by omega) ?_
        · rcases Nat.lt_succ_iff_lt_or_eq.1 hq' with hq' | rfl
          · exact hq q hq'
          · exact hc
        · simp [wl]
      | false =>
        simp
        have : coversB s legs = false := allN_false (p := fun k => covB s (k : Int)) h hc
        rw [this]
        refine answers_of rfl ?_; simp
  · simp [h]
    obtain rfl : leg = legs := by omega
    have : coversB s leg = true := allN_spec.2 hq
    rw [this]
    refine answers_of rfl ?_; simp

def aheadF (a b : FUse) : Bool := decide (a.leg < b.leg) || (decide (a.leg = b.leg) && decide (a.offer < b.offer))
theorem rahead_spec (a b : FUse) : Spec Try.prog 89 [.agg a.cells, .agg b.cells] (.v (.bool (aheadF a b))) := by
  refine spec_of mixed Try.func89 (by decide) rfl Try.results89 Try.ntmps89 (by decide) 0 (by simp) ?_
  simp [FUse.cells]
  by_cases h1 : a.leg < b.leg
  · simp [h1, Int.not_le.2 h1]; refine answers_of rfl ?_; simp [aheadF, h1]
  · by_cases h2 : a.leg = b.leg
    · by_cases h3 : a.offer < b.offer
      · simp [h2, h3]; refine answers_of rfl ?_; simp [aheadF, h2, h3]
      · simp [h2, h3]; refine answers_of rfl ?_; simp [aheadF, h2, h3]
    · simp [h1, Int.not_lt.1 h1, h2]; refine answers_of rfl ?_; simp [aheadF, h1, h2]
theorem aheadF_plain (a b : Use) : aheadF a.plain b.plain = aheadB a b := rfl

theorem lexB_at : ∀ (k : Nat) (a b : List Use), (∀ j, j < k → useAt a j = useAt b j) → k < a.length → k < b.length → useAt a k ≠ useAt b k → lexB a b = aheadB (useAt a k) (useAt b k)
  | _, [], _, _, h, _, _ => by simp at h
  | _, _ :: _, [], _, _, h, _ => by simp at h
  | 0, x :: a, y :: b, _, _, _, h => by
    simp only [useAt, List.getD_cons_zero] at h ⊢
    simp [lexB, h]
  | k + 1, x :: a, y :: b, h1, h2, h3, h4 => by
    have e : x = y := by have := h1 0 (by omega); simpa [useAt] using this
    subst e
    have := lexB_at k a b (fun j hj => by have := h1 (j + 1) (by omega); simpa [useAt] using this) (by simpa using h2) (by simpa using h3) (by simpa [useAt] using h4)
    simp only [lexB, ne_eq, not_true, if_false, this]
    simp [useAt]
theorem lexB_end : ∀ (a b : List Use), a.length = b.length → (∀ j, j < a.length → useAt a j = useAt b j) → lexB a b = false
  | [], _, _, _ => rfl
  | _ :: _, [], _, _ => rfl
  | x :: a, y :: b, hl, h => by
    have e : x = y := by have := h 0 (by simp); simpa [useAt] using this
    subst e
    simp only [lexB, ne_eq, not_true, if_false]
    exact lexB_end a b (by simpa using hl) fun j h1 => by have := h (j + 1) (by simpa using h1); simpa [useAt] using this

theorem rLess_spec (t : Table) (p : Person) (a b : List Use) (ht : TableOk t) (ha : ∀ u ∈ a, UseOk t p u) (hb : ∀ u ∈ b, UseOk t p u) (hal : a.length ≤ 200) (hbl : b.length ≤ 200) : Spec Try.prog 56 [.agg t.cells, .agg p.cells, fuseL (a.map Use.plain), fuseL (b.map Use.plain)] (.v (.bool (lessB a b))) := by
  refine spec_of mixed Try.func56 (by decide) rfl Try.results56 Try.ntmps56 (by decide) 0 (by simp) ?_
  simp [Table.cells, offerL, bandL, Person.cells, fuseL]
  refine pwp_draw 10 (by decide) ?_
  simp
  refine pd_spec (rCost_spec t p a ht ha hal) (by simp [Table.cells, offerL, bandL, Person.cells, fuseL]) (by simp) (by simp [Table.cells, offerL, bandL, Person.cells, fuseL]) rfl ?_
  simp
  refine pd_spec (rCost_spec t p b ht hb hbl) (by simp [Table.cells, offerL, bandL, Person.cells, fuseL]) (by simp) (by simp [Table.cells, offerL, bandL, Person.cells, fuseL]) rfl ?_
  simp
  refine ⟨by decide, ?_⟩
  by_cases h1 : costL a = costL b
  · by_cases h2 : a.length = b.length
    · simp [h1, h2]
      have e : lessB a b = lexB a b := by simp [lessB, h1, h2]
      rw [e]
      refine pwp_loop (fun k : Nat => [(11, .v (.int .i64 k))]) (fun k => k ≤ b.length ∧ ∀ j, j < k → useAt a j = useAt b j) (fun k => b.length - k) 0 ⟨Nat.zero_le _, fun j hj => by omega⟩ (by simp; rfl) (by simp [h2]) ?_
      intro k ⟨hk, hp⟩
      by_cases h : k < b.length
      · have wk := i64_wrap (show -9223372036854775808 ≤ (k : Int) + 1 ∧ _ from by omega)
        have hka : k < a.length := by omega
        have hua := ha _ (useAt_mem hka)
        have hub := hb _ (useAt_mem h)
        simp [h, h2]
        refine pwp_draw 9 (by decide) ?_
        by_cases he : useAt a k = useAt b k
        · simp [h, h2, fuse_plain h, fuse_plain hka, he, FUse.cells, Use.plain]
          refine ⟨by decide, ?_⟩
          refine again_of (k + 1) ⟨by omega, fun j hj => ?_⟩ (by omega) ?_
          · rcases Nat.lt_succ_iff_lt_or_eq.1 hj with hj | rfl
            · exact hp j hj
            · exact he
          · simp [wk, h2, fuse_plain h, fuse_plain hka, he, FUse.cells, Use.plain]
        · have hpe : ¬ (useAt a k).plain = (useAt b k).plain := fun e => he (useOk_inj hua hub e)
          rw [lexB_at k a b hp hka h he, ← aheadF_plain]
          have hra := rahead_spec (useAt a k).plain (useAt b k).plain
          rw [fuse_eq] at hpe
          generalize hA : (useAt a k).plain = ua at *
          generalize hB : (useAt b k).plain = ub at *
          by_cases h5 : ua.offer = ub.offer
          · have h6 : ¬ ua.leg = ub.leg := fun h => hpe ⟨h5, h⟩
            simp [h, h2, fuse_plain h, fuse_plain hka, hA, hB, h5, h6, FUse.cells]
            refine ⟨by decide, ?_⟩
            refine pwp_draw 10 (by decide) ?_
            simp [h, h2, fuse_plain h, fuse_plain hka, hA, hB, h5, FUse.cells]
            refine pd_spec hra (by simp [FUse.cells, h5]) (by simp) (by simp [FUse.cells]) rfl ?_
            simp
            refine ⟨by decide, ?_⟩
            refine answers_of rfl ?_; simp
          · simp [h, h2, fuse_plain h, fuse_plain hka, hA, hB, h5, FUse.cells]
            refine ⟨by decide, ?_⟩
            refine pwp_draw 10 (by decide) ?_
            simp [h, h2, fuse_plain h, fuse_plain hka, hA, hB, FUse.cells]
            refine pd_spec hra (by simp [FUse.cells]) (by simp) (by simp [FUse.cells]) rfl ?_
            simp
            refine ⟨by decide, ?_⟩
            refine answers_of rfl ?_; simp
      · simp [h, h2]
        rw [lexB_end a b h2 fun j hj => hp j (by omega)]
        refine answers_of rfl ?_; simp
    · have e : lessB a b = decide (a.length < b.length) := by simp [lessB, h1, h2]
      rw [e]
      simp [h1, show ¬ (a.length : Int) = b.length from by omega]
      refine answers_of rfl ?_; simp
  · have e : lessB a b = decide (costL a < costL b) := by simp [lessB, h1]
    rw [e]
    simp [h1]
    refine answers_of rfl ?_; simp
end Go.Qg

/-! The contract of fare.Tickets: what tickets cost. No condition. -/
namespace Go.Qg
open Go.Proofs
set_option maxRecDepth 100000
set_option maxHeartbeats 4000000
attribute [local irreducible] pwp pops pdraw pop popCall pdCall thenP blockP scopeP pspec Spec answers ppost CallW rend

/-- How far tickets are found: how many, what they cost, how far they cover. -/
structure Tk where
  at' : Nat
  cost : Int
  cov : Int
def tkStep (l : List FUse) (s : Tk) (u : Use) : Option Tk :=
  if s.at' = l.length ∨ fuseAt l s.at' ≠ u.plain then some s
  else if s.cov < u.leg then none
  else some ⟨s.at' + 1, s.cost + u.price, max s.cov u.fin⟩
def tkTo (us : List Use) (l : List FUse) : Nat → Option Tk
  | 0 => some ⟨0, 0, 0⟩
  | n + 1 => match tkTo us l n with
    | none => none
    | some s => tkStep l s (useAt us n)
def tkEnd (l : List FUse) (legs : Int) : Option Tk → Int × Int
  | none => (0, 7)
  | some s => if s.at' < l.length ∨ s.cov < legs then (0, 7) else (s.cost, 0)
def ticketsOf (t : Table) (p : Person) (j : List Int) (l : List FUse) : Int × Int :=
  if bestBad t p j || decide (100 < l.length) then (0, 2)
  else tkEnd l ((j.length : Int) - 1) (tkTo (usesOf t p j) l (usesOf t p j).length)

def tkV (j : List Int) (l : List FUse) (s : Tk) : PF := [.undef, .undef, .sl 1 j.length fun i => [.v (.int .i64 (geti j i))], .undef, .undef, .undef, .undef, .box true [.sl 2 l.length fun i => (fuseAt l i).cells], .box true [.v (.int .i64 0)], .box true [.v (.int .i64 0)], .box true [.v (.int .i64 s.cost)], .box true [.v (.int .i64 s.cov)], .box true [.v (.int .i64 s.at')], .undef, .undef, .undef, .undef, .undef, .undef, .undef, .undef, .undef, .undef, .undef, .undef, .undef, .undef, .undef, .undef, .undef, .undef, .undef, .undef, .undef, .undef, .undef, .undef, .undef, .undef, .undef, .undef, .undef, .undef, .undef, .undef, .undef, .undef, .undef, .undef, .undef, .undef, .undef, .undef, .undef, .undef, .undef, .undef, .undef, .undef, .undef, .undef, .undef, .undef, .undef, .undef, .undef, .undef, .undef, .undef, .undef, .undef, .undef, .undef, .undef, .undef, .undef, .undef, .undef]
def tkA : List PV := [.undef, .undef, .undef, .undef, .undef, .undef, .undef, .ref 0 0, .ref 1 0, .ref 2 0, .ref 3 0, .ref 4 0, .ref 5 0, .undef, .undef, .undef, .undef, .undef, .undef, .undef, .undef, .undef, .undef, .undef, .undef, .undef, .undef, .undef, .undef, .undef, .undef, .undef, .undef, .undef, .undef, .undef, .undef, .undef, .undef, .undef, .undef, .undef, .undef, .undef, .undef, .undef, .undef, .undef, .undef, .undef, .undef, .undef, .undef, .undef, .undef, .undef, .undef, .undef, .undef, .undef, .undef, .undef, .undef, .undef, .undef, .undef, .undef, .undef, .undef, .undef, .undef, .undef, .undef, .undef, .undef, .undef, .undef, .undef]
def tkH (l : List FUse) (s : Tk) : PF := [.box false [.sl 2 l.length fun i => (fuseAt l i).cells], .box false [.v (.int .i64 0)], .box false [.v (.int .i64 0)], .box false [.v (.int .i64 s.cost)], .box false [.v (.int .i64 s.cov)], .box false [.v (.int .i64 s.at')]]

theorem tk_ok {us : List Use} {l : List FUse} (hub : ∀ u ∈ us, 0 ≤ u.price ∧ u.price ≤ 9000000000 ∧ u.fin ≤ 8) : ∀ {n : Nat} {s : Tk}, tkTo us l n = some s → s.at' ≤ l.length ∧ (0 ≤ s.cost ∧ s.cost ≤ 9000000000 * n) ∧ (0 ≤ s.cov ∧ s.cov ≤ 8) ∧ s.at' ≤ n
  | 0, s, h => by
    obtain rfl := Option.some.inj h
    simp
  | n + 1, s, h => by
    simp only [tkTo] at h
    cases hs : tkTo us l n with
    | none => rw [hs] at h; cases h
    | some x =>
      rw [hs] at h
      obtain ⟨h1, h2, h3, h4⟩ := tk_ok hub hs
      simp only [tkStep] at h
      split at h
      · obtain rfl := Option.some.inj h
        exact ⟨h1, by omega, h3, by omega⟩
      · rename_i hc
        split at h
        · cases h
        · obtain rfl := Option.some.inj h
          have hb : 0 ≤ (useAt us n).price ∧ (useAt us n).price ≤ 9000000000 ∧ (useAt us n).fin ≤ 8 := by
            by_cases hn : n < us.length
            · exact hub _ (useAt_mem hn)
            · rw [show useAt us n = default from by simp [useAt, List.getD, List.getElem?_eq_none (show us.length ≤ n by omega)]]
              decide
          have hne : ¬ x.at' = l.length := fun e => hc (.inl e)
          refine ⟨?_, ?_, ?_, ?_⟩
          all_goals dsimp only
          all_goals omega

theorem tk_none {us : List Use} {l : List FUse} {n : Nat} (h : tkTo us l n = none) : ∀ {m : Nat}, n ≤ m → tkTo us l m = none
  | 0, hm => by obtain rfl : n = 0 := by omega
                exact h
  | m + 1, hm => by
    rcases Nat.lt_or_eq_of_le hm with h1 | rfl
    · simp only [tkTo, tk_none h (show n ≤ m by omega)]
    · exact h
theorem Tickets_spec (t : Table) (p : Person) (j : List Int) (l : List FUse) (hf : TableFit t) (hj : j.length ≤ 9223372036854775807) (hl : l.length ≤ 9223372036854775807) : Spec Try.prog 54 [.agg t.cells, .agg p.cells, ints j, fuseL l] (.tup [.v (.int .i64 (ticketsOf t p j l).1), .v (.int .i64 (ticketsOf t p j l).2)]) := by
  unfold Spec
  refine callW_ofE Try.func54 (by decide) rfl (congrArg Array.toList Try.results54) Try.ntmps54 78 (by simp) (by decide) fun B0 hB0 hD0 => ?_
  have hlo : ∀ s B, ECtx B0 s B → B.lo = 78 := fun _ _ h => h.1.trans hB0
  refine XW_seqP mixed hlo (by decide) ?_
  simp [Table.cells, offerL, bandL, Person.cells, ints, fuseL]
  refine XW_seqP mixed hlo (by decide) ?_
  simp
  refine pop_spec (valid_spec t hf.no hf.nb hf.np) rfl false (.inl (by simp [Table.cells, offerL, bandL])) (.inl rfl) rfl (by simp) ?_
  cases h1 : validB t with
  | false =>
    have hr : ticketsOf t p j l = (0, 2) := by simp [ticketsOf, bestBad, h1]
    rw [hr]
    simp
    refine ends_of (.tup [.v (.int .i64 0), .v (.int .i64 2)]) [] [] rfl (by decide) ?_ ?_ rfl
    · simp
    · simp
  | true =>
  have ht := valid_ok h1
  simp
  refine pop_spec (weighed_spec p) rfl false (.inl (by simp [Person.cells])) (.inl rfl) rfl (by simp) ?_
  cases h2 : inB p.weight 0 1000 with
  | false =>
    have hr : ticketsOf t p j l = (0, 2) := by simp [ticketsOf, bestBad, h1, h2]
    rw [hr]
    simp
    refine ends_of (.tup [.v (.int .i64 0), .v (.int .i64 2)]) [] [] rfl (by decide) ?_ ?_ rfl
    · simp
    · simp
  | true =>
  simp
  refine pop_spec (route_spec j hj) rfl false (.inl (by simp [ints])) (.inl rfl) rfl (by simp) ?_
  cases h3 : routeB j with
  | false =>
    have hr : ticketsOf t p j l = (0, 2) := by simp [ticketsOf, bestBad, h1, h2, h3]
    rw [hr]
    simp
    refine ends_of (.tup [.v (.int .i64 0), .v (.int .i64 2)]) [] [] rfl (by decide) ?_ ?_ rfl
    · simp
    · simp
  | true =>
  by_cases h4 : 100 < l.length
  · have hr : ticketsOf t p j l = (0, 2) := by simp [ticketsOf, h4]
    rw [hr]
    simp [show (100 : Int) < l.length from by omega, show ¬ (l.length : Int) ≤ 100 from by omega]
    refine ends_of (.tup [.v (.int .i64 0), .v (.int .i64 2)]) [] [] rfl (by decide) ?_ ?_ rfl
    · simp
    · simp
  have hjr := route_ok h3
  have hbad : bestBad t p j = false := by simp [bestBad, h1, h2, h3]
  have hgen := uses1_gen t p j ht (by omega)
  have hgood := usesOf_good ht p (j := j) (by omega)
  have hlen := usesOf_length ht p hjr.2
  have huse : ∀ u ∈ usesOf t p j, UseOk t p u := fun u hu => usesOf_useOk ht hjr.2 hu
  have hr : ticketsOf t p j l = tkEnd l ((j.length : Int) - 1) (tkTo (usesOf t p j) l (usesOf t p j).length) := by simp [ticketsOf, hbad, h4]
  rw [hr]
  simp [show ¬ (100 : Int) < l.length from by omega]
  refine XW_seqP mixed hlo (by decide) ?_
  simp
  refine XW_seqX (XW_seqP mixed hlo (by decide) ?_)
  simp
  refine pop_spec (uses_spec t p j) rfl false (.inl (by simp [deskC, ints, offerL, bandL])) (.inl rfl) rfl (by simp) ?_
  simp [genClo, deskC, ints, offerL, bandL]
  have hub : ∀ u ∈ usesOf t p j, 0 ≤ u.price ∧ u.price ≤ 9000000000 ∧ u.fin ≤ 8 := fun u hu => by
    have h1 := (huse u hu).bound
    have h2 := hgood.fin u hu
    omega
  generalize usesOf t p j = us at *
  refine XW_block ?_
  refine XW_rangeI (by decide) mixed rfl (by rfl) (by simpa [deskC, ints, offerL, bandL] using hgen) (fun p hp => ?_) (by decide) (by decide) 78 (by decide) [7, 8, 9, 10, 11, 12] (by decide)
    (fun n => match tkTo us l n with | none => [] | some s => tkV j l s)
    (fun n => tkA)
    (fun n => match tkTo us l n with | none => [] | some s => tkH l s) ?_ (fun n hn hV => ?_) (fun n q hq hV => ?_) ?_
  · obtain ⟨u, _, rfl⟩ := List.mem_map.1 hp
    exact ⟨rfl, rfl⟩
  · rw [hB0]
    simp [tkTo, tkV]
  · cases hs : tkTo us l n with
    | none => simp [hs] at hV
    | some s =>
      refine ⟨rfl, ?_, slots_view (t := 37) ?_ rfl⟩
      · simp [tkV, tkH]
      · simp [slots, tkV, tkA, tkH]
  · obtain ⟨hn, rfl⟩ := useAt_get hq
    rw [hB0]
    cases hs : tkTo us l n with
    | none => simp [hs] at hV
    | some s =>
      obtain ⟨k1, k2, k3, k4⟩ := tk_ok hub hs
      have hu := hub _ (useAt_mem hn)
      have hstep : tkTo us l (n + 1) = tkStep l s (useAt us n) := by simp [tkTo, hs]
      simp [tkA, tkH, Use.cells]
      by_cases hat : s.at' = l.length
      · have e : tkStep l s (useAt us n) = some s := by simp [tkStep, hat]
        rw [e] at hstep
        refine pwp_draw 13 (by decide) ?_
        simp [hat]
        refine ⟨by decide, ?_⟩
        refine rend_n (tkH l s) ?_ ?_
        · simp [tkH, hat]
        · simp [hstep, tkV, tkH, back, placeAll]
      · have hatI : ¬ (s.at' : Int) = l.length := by omega
        have hlt : s.at' < l.length := by omega
        have hfc : (fuseAt l s.at').cells = [.v (.int .i64 (fuseAt l s.at').offer), .v (.int .i64 (fuseAt l s.at').leg)] := rfl
        by_cases hm : fuseAt l s.at' = (useAt us n).plain
        · have m1 : (fuseAt l s.at').offer = (useAt us n).offer := by rw [hm]; rfl
          have m2 : (fuseAt l s.at').leg = (useAt us n).leg := by rw [hm]; rfl
          refine pwp_draw 13 (by decide) ?_
          simp (config := { maxSteps := 4000000 }) [hat, hatI, hlt, hfc, m1, m2]
          refine ⟨by decide, ?_⟩
          by_cases hgap : s.cov < (useAt us n).leg
          · have e : tkStep l s (useAt us n) = none := by simp [tkStep, hat, hm, hgap]
            rw [e] at hstep
            have hz := tk_none hstep (m := us.length) (by omega)
            rw [if_pos hgap]
            refine rend_r [.box false [.sl 2 l.length fun i => (fuseAt l i).cells], .box false [.v (.int .i64 0)], .box false [.v (.int .i64 7)], .box false [.v (.int .i64 s.cost)], .box false [.v (.int .i64 s.cov)], .box false [.v (.int .i64 s.at')]] ?_ ?_
            · simp
            · simp [back, placeAll, tkV, blockX, thenX]
              refine ends_of (.tup [.v (.int .i64 0), .v (.int .i64 7)]) [] [] rfl (by decide) ?_ ?_ (by simp [tkEnd, hz])
              · simp
              · simp
          · have e : tkStep l s (useAt us n) = some ⟨s.at' + 1, s.cost + (useAt us n).price, max s.cov (useAt us n).fin⟩ := by simp [tkStep, hat, hm, hgap]
            rw [e] at hstep
            have w1 : IntKind.i64.wrap ((s.at' : Int) + 1) = (s.at' : Int) + 1 := i64_wrap (by omega)
            have w2 : IntKind.i64.wrap (s.cost + (useAt us n).price) = s.cost + (useAt us n).price := i64_wrap (by omega)
            rw [if_neg hgap]
            simp [w1, w2]
            refine rend_n (tkH l ⟨s.at' + 1, s.cost + (useAt us n).price, max s.cov (useAt us n).fin⟩) ?_ ?_
            · simp [tkH]
              split <;> omega
            · simp [hstep, tkV, tkH, back, placeAll]
        · have e : tkStep l s (useAt us n) = some s := by simp [tkStep, hm]
          rw [e] at hstep
          have hm2 : ¬ ((fuseAt l s.at').offer = (useAt us n).offer ∧ (fuseAt l s.at').leg = (useAt us n).leg) := fun ⟨h1, h2⟩ => hm (by rw [Use.plain, ← h1, ← h2])
          have hm3 : ¬ (fuseAt l s.at').offer = (useAt us n).offer ∨ ¬ (fuseAt l s.at').leg = (useAt us n).leg := by
            by_cases h1 : (fuseAt l s.at').offer = (useAt us n).offer
            · exact .inr fun h2 => hm2 ⟨h1, h2⟩
            · exact .inl h1
          refine pwp_draw 13 (by decide) ?_
          simp (config := { maxSteps := 4000000 }) [hat, hatI, hlt, hfc]
          refine ⟨by decide, ?_⟩
          rw [if_pos hm3]
          refine rend_n (tkH l s) ?_ ?_
          · simp [tkH]
          · simp [hstep, tkV, tkH, back, placeAll]
  · intro hV
    cases hs : tkTo us l us.length with
    | none => simp [hs] at hV
    | some s =>
      simp [hs, tkV]
      obtain ⟨k1, k2, k3, k4⟩ := tk_ok hub hs
      refine XW_pwp mixed hlo (by decide) ?_
      have wj : IntKind.i64.wrap ((j.length : Int) - 1) = (j.length : Int) - 1 := i64_wrap (by omega)
      by_cases h5 : s.at' < l.length
      · simp [wj, h5, Nat.not_le.2 h5]
        refine ends_of (.tup [.v (.int .i64 0), .v (.int .i64 7)]) [] [] rfl (by decide) ?_ ?_ (by simp [tkEnd, h5])
        · simp
        · simp
      · by_cases h6 : s.cov < (j.length : Int) - 1
        · simp [wj, h5, Nat.not_lt.1 h5, h6, Int.not_le.2 h6]
          refine ends_of (.tup [.v (.int .i64 0), .v (.int .i64 7)]) [] [] rfl (by decide) ?_ ?_ (by simp [tkEnd, h5, h6])
          · simp
          · simp
        · simp [wj, h5, Nat.not_lt.1 h5, h6, Int.not_lt.1 h6]
          refine ends_of (.tup [.v (.int .i64 s.cost), .v (.int .i64 0)]) [] [] rfl (by decide) ?_ ?_ (by simp [tkEnd, h5, h6])
          · simp
          · simp
end Go.Qg

/-! The contract of fare.Floor: what fair leg prices come to. No condition. -/
namespace Go.Qg
open Go.Proofs
set_option maxRecDepth 100000
set_option maxHeartbeats 4000000
attribute [local irreducible] pwp pops pdraw pop popCall pdCall thenP blockP scopeP pspec Spec answers ppost CallW rend

def pricesB (pr : List Int) : Bool := allN pr.length fun k => inB (geti pr k) 0 20000000000
theorem floor1_spec (i n : Int) : Spec Try.prog 90 [.v (.int .i64 i), .v (.int .i64 n)] (.v (.bool (inB n 0 20000000000))) := by
  refine spec_of mixed Try.func90 (by decide) rfl Try.results90 Try.ntmps90 (by decide) 0 (by simp) ?_
  simp
  refine pop_spec (in_spec n 0 20000000000) rfl false (.inl (by simp)) (.inl rfl) rfl (by simp) ?_
  simp
  refine answers_of rfl ?_; simp

/-- What the prices of a use's legs come to. -/
def seg (pr : List Int) (u : Use) : Int := far pr u.fin.toNat - far pr u.leg.toNat
def fairTo (us : List Use) (pr : List Int) (n : Nat) : Bool := allN n fun k => decide (seg pr (useAt us k) ≤ (useAt us k).price)
def floorOf (t : Table) (p : Person) (j : List Int) (pr : List Int) : Int × Int :=
  if bestBad t p j || decide ((pr.length : Int) ≠ (j.length : Int) - 1) || !pricesB pr then (0, 2)
  else if fairTo (usesOf t p j) pr (usesOf t p j).length then (far pr pr.length, 0) else (0, 7)

theorem far_part (l : List Int) (a n : Nat) : ∀ k, k ≤ n → far ((l.drop a).take n) k = far l (a + k) - far l a
  | 0, _ => by simp [far]
  | k + 1, hk => by
    have ih := far_part l a n k (by omega)
    have e1 : far l (a + (k + 1)) = far l (a + k) + geti l (a + k) := rfl
    have e2 : far ((l.drop a).take n) (k + 1) = far ((l.drop a).take n) k + geti ((l.drop a).take n) k := rfl
    have : geti ((l.drop a).take n) k = geti l (a + k) := by simp [geti, List.getElem?_take, show k < n from by omega]
    rw [e1, e2, ih, this]; omega
theorem prices_far {pr : List Int} (h : pricesB pr = true) (hl : pr.length ≤ 100) {k : Nat} (hk : k ≤ pr.length) : 0 ≤ far pr k ∧ far pr k ≤ 2000000000000 := by
  have := far_bound (l := pr) (c := 20000000000) (n := pr.length) (fun k hk => inB_spec.1 (allN_spec.1 h k hk)) k hk
  omega
def sumF (g : Nat → Int) : Nat → Int
  | 0 => 0
  | k + 1 => IntKind.i64.wrap (sumF g k + g k)
theorem fsumF_spec (n : Nat) (g : Nat → Int) (hl : n ≤ 9223372036854775807) : Spec Try.prog 91 [.sl 1 n fun i => [.v (.int .i64 (g i))]] (.v (.int .i64 (sumF g n))) := by
  refine spec_of mixed Try.func91 (by decide) rfl Try.results91 Try.ntmps91 (by decide) 0 (by simp) ?_
  simp
  refine pwp_loop (fun k : Nat => [(3, .v (.int .i64 (sumF g k))), (8, .v (.int .i64 k))]) (fun k => k ≤ n) (fun k => n - k) 0 (Nat.zero_le _) (by simp; rfl) (by simp [sumF]) ?_
  intro k hk
  by_cases h : k < n
  · simp [h]
    refine again_of (k + 1) (by omega) (by omega) ?_
    simp [sumF, i64_wrap (show -9223372036854775808 ≤ (k : Int) + 1 ∧ _ from by omega)]
  · simp [h]
    obtain rfl : k = n := by omega
    refine answers_of rfl ?_; simp
theorem sumF_far {pr : List Int} {a n : Nat} (h : ∀ k, k ≤ n → 0 ≤ far pr (a + k) ∧ far pr (a + k) ≤ 2000000000000) : ∀ k, k ≤ n → sumF (fun i => geti pr (a + i)) k = far pr (a + k) - far pr a
  | 0, _ => by simp [sumF]
  | k + 1, hk => by
    have e1 : far pr (a + (k + 1)) = far pr (a + k) + geti pr (a + k) := rfl
    have h1 := h (k + 1) hk
    have h2 := h 0 (by omega)
    rw [e1] at h1
    simp only [Nat.add_zero] at h2
    rw [sumF, sumF_far h k (by omega), i64_wrap (by omega), e1]
    omega

def floV (pr : List Int) : PF := [.undef, .undef, .undef, .undef, .undef, .undef, .undef, .box true [.sl 1 pr.length fun i => [.v (.int .i64 (geti pr i))]], .box true [.v (.int .i64 0)], .box true [.v (.int .i64 0)], .undef, .undef, .undef, .undef, .undef, .undef, .undef, .undef, .undef, .undef, .undef, .undef, .undef, .undef, .undef, .undef, .undef, .undef, .undef, .undef, .undef, .undef, .undef, .undef, .undef, .undef, .undef, .undef, .undef, .undef, .undef, .undef, .undef, .undef, .undef, .undef, .undef, .undef, .undef, .undef, .undef, .undef, .undef, .undef, .undef, .undef]
def floA : List PV := [.undef, .undef, .undef, .undef, .undef, .undef, .undef, .ref 0 0, .ref 1 0, .ref 2 0, .undef, .undef, .undef, .undef, .undef, .undef, .undef, .undef, .undef, .undef, .undef, .undef, .undef, .undef, .undef, .undef, .undef, .undef, .undef, .undef, .undef, .undef, .undef, .undef, .undef, .undef, .undef, .undef, .undef, .undef, .undef, .undef, .undef, .undef, .undef, .undef, .undef, .undef, .undef, .undef, .undef, .undef, .undef, .undef, .undef, .undef]
def floH (pr : List Int) : PF := [.box false [.sl 1 pr.length fun i => [.v (.int .i64 (geti pr i))]], .box false [.v (.int .i64 0)], .box false [.v (.int .i64 0)]]

theorem Floor_spec (t : Table) (p : Person) (j pr : List Int) (hf : TableFit t) (hj : j.length ≤ 9223372036854775807) (hl : pr.length ≤ 9223372036854775807) : Spec Try.prog 58 [.agg t.cells, .agg p.cells, ints j, ints pr] (.tup [.v (.int .i64 (floorOf t p j pr).1), .v (.int .i64 (floorOf t p j pr).2)]) := by
  unfold Spec
  refine callW_ofE Try.func58 (by decide) rfl (congrArg Array.toList Try.results58) Try.ntmps58 56 (by simp) (by decide) fun B0 hB0 hD0 => ?_
  have hlo : ∀ s B, ECtx B0 s B → B.lo = 56 := fun _ _ h => h.1.trans hB0
  refine XW_seqP mixed hlo (by decide) ?_
  simp [Table.cells, offerL, bandL, Person.cells, ints]
  refine XW_seqP mixed hlo (by decide) ?_
  simp
  refine pop_spec (valid_spec t hf.no hf.nb hf.np) rfl false (.inl (by simp [Table.cells, offerL, bandL])) (.inl rfl) rfl (by simp) ?_
  cases h1 : validB t with
  | false =>
    have hr : floorOf t p j pr = (0, 2) := by simp [floorOf, bestBad, h1]
    rw [hr]
    simp
    refine ends_of (.tup [.v (.int .i64 0), .v (.int .i64 2)]) [] [] rfl (by decide) ?_ ?_ rfl
    · simp
    · simp
  | true =>
  have ht := valid_ok h1
  simp
  refine pop_spec (weighed_spec p) rfl false (.inl (by simp [Person.cells])) (.inl rfl) rfl (by simp) ?_
  cases h2 : inB p.weight 0 1000 with
  | false =>
    have hr : floorOf t p j pr = (0, 2) := by simp [floorOf, bestBad, h1, h2]
    rw [hr]
    simp
    refine ends_of (.tup [.v (.int .i64 0), .v (.int .i64 2)]) [] [] rfl (by decide) ?_ ?_ rfl
    · simp
    · simp
  | true =>
  simp
  refine pop_spec (route_spec j hj) rfl false (.inl (by simp [ints])) (.inl rfl) rfl (by simp) ?_
  cases h3 : routeB j with
  | false =>
    have hr : floorOf t p j pr = (0, 2) := by simp [floorOf, bestBad, h1, h2, h3]
    rw [hr]
    simp
    refine ends_of (.tup [.v (.int .i64 0), .v (.int .i64 2)]) [] [] rfl (by decide) ?_ ?_ rfl
    · simp
    · simp
  | true =>
  have hjr := route_ok h3
  have wj : IntKind.i64.wrap ((j.length : Int) - 1) = (j.length : Int) - 1 := i64_wrap (by omega)
  by_cases h4 : (pr.length : Int) = (j.length : Int) - 1
  rotate_left
  · have hr : floorOf t p j pr = (0, 2) := by simp [floorOf, h4]
    rw [hr]
    simp [wj, h4]
    refine ends_of (.tup [.v (.int .i64 0), .v (.int .i64 2)]) [] [] rfl (by decide) ?_ ?_ rfl
    · simp
    · simp
  simp [wj, h4]
  refine pop_spec (allInt_spec pr hl 90 [] [] rfl rfl _ fun k hk => floor1_spec k (geti pr k)) rfl false (.inl (by simp [ints])) (.inl rfl) rfl (by simp) ?_
  cases h5 : (allN pr.length fun k => inB (geti pr k) 0 20000000000) with
  | false =>
    have hr : floorOf t p j pr = (0, 2) := by simp [floorOf, pricesB, h5]
    rw [hr]
    simp
    refine ends_of (.tup [.v (.int .i64 0), .v (.int .i64 2)]) [] [] rfl (by decide) ?_ ?_ rfl
    · simp
    · simp
  | true =>
  have hbad : bestBad t p j = false := by simp [bestBad, h1, h2, h3]
  have hgen := uses1_gen t p j ht (by omega)
  have hgood := usesOf_good ht p (j := j) (by omega)
  have hlen := usesOf_length ht p hjr.2
  have huse : ∀ u ∈ usesOf t p j, UseOk t p u := fun u hu => usesOf_useOk ht hjr.2 hu
  have hr : floorOf t p j pr = if fairTo (usesOf t p j) pr (usesOf t p j).length then (far pr pr.length, 0) else (0, 7) := by simp [floorOf, hbad, h4, pricesB, h5]
  rw [hr]
  have hpf : ∀ k, k ≤ pr.length → 0 ≤ far pr k ∧ far pr k ≤ 2000000000000 := fun k hk => prices_far h5 (by omega) hk
  simp
  refine XW_seqX (XW_seqP mixed hlo (by decide) ?_)
  simp
  refine pop_spec (uses_spec t p j) rfl false (.inl (by simp [deskC, ints, offerL, bandL])) (.inl rfl) rfl (by simp) ?_
  simp [genClo, deskC, ints, offerL, bandL]
  have hub : ∀ u ∈ usesOf t p j, 0 ≤ u.leg ∧ u.leg ≤ u.fin ∧ u.fin ≤ pr.length := fun u hu => by
    have h1 := huse u hu
    have h2 := hgood.fin u hu
    have h3 := h1.fin
    have h5 := h1.leg
    have h4 := (ht.offer _ (offerAt_mem (show u.offer.toNat < t.offers.length by have := h1.off; omega))).2.1
    omega
  generalize usesOf t p j = us at *
  refine XW_block ?_
  refine XW_rangeI (by decide) mixed rfl (by rfl) (by simpa [deskC, ints, offerL, bandL] using hgen) (fun p hp => ?_) (by decide) (by decide) 56 (by decide) [7, 8, 9] (by decide)
    (fun n => if fairTo us pr n then floV pr else [])
    (fun n => floA)
    (fun n => floH pr) ?_ (fun n hn hV => ?_) (fun n q hq hV => ?_) ?_
  · obtain ⟨u, _, rfl⟩ := List.mem_map.1 hp
    exact ⟨rfl, rfl⟩
  · rw [hB0]
    simp [fairTo, allN, floV]
  · cases hs : fairTo us pr n with
    | false => simp [hs] at hV
    | true =>
      refine ⟨rfl, ?_, slots_view (t := 42) ?_ rfl⟩
      · simp [floV, floH]
      · simp [slots, floV, floA, floH]
  · obtain ⟨hn, rfl⟩ := useAt_get hq
    rw [hB0]
    cases hs : fairTo us pr n with
    | false => simp [hs] at hV
    | true =>
      have hu := hub _ (useAt_mem hn)
      obtain ⟨a, ha⟩ := Int.eq_ofNat_of_zero_le hu.1
      obtain ⟨b, hb⟩ := Int.eq_ofNat_of_zero_le (show 0 ≤ (useAt us n).fin by omega)
      have hab : a ≤ b := by omega
      have hbl : b ≤ pr.length := by omega
      have hsum : sumF (fun i => geti pr (a + i)) (b - a) = seg pr (useAt us n) := by
        rw [sumF_far (fun k hk => hpf (a + k) (by omega)) _ (Nat.le_refl _), seg, ha, hb]
        simp [show a + (b - a) = b from by omega]
      have hss := fsumF_spec (b - a) (fun i => geti pr (a + i)) (by omega)
      rw [hsum] at hss
      have hfair : fairTo us pr (n + 1) = (fairTo us pr n && decide (seg pr (useAt us n) ≤ (useAt us n).price)) := by simp [fairTo, allN, List.range_succ]
      rw [hs, Bool.true_and] at hfair
      simp [floA, floH, Use.cells]
      refine pwp_draw 11 (by decide) ?_
      simp [ha, hb, hab, hbl]
      refine pd_spec hss (by simp) (by simp) (by simp) rfl ?_
      by_cases hlt : (useAt us n).price < seg pr (useAt us n)
      · have hfalse : fairTo us pr us.length = false := by
          refine allN_false (p := fun k => decide (seg pr (useAt us k) ≤ (useAt us k).price)) hn ?_
          simp; omega
        simp [hlt, Int.not_le.2 hlt]
        refine ⟨by decide, ?_⟩
        refine rend_r [.box false [.sl 1 pr.length fun i => [.v (.int .i64 (geti pr i))]], .box false [.v (.int .i64 0)], .box false [.v (.int .i64 7)]] ?_ ?_
        · simp
        · simp [hs, back, placeAll, floV, blockX, thenX]
          refine ends_of (.tup [.v (.int .i64 0), .v (.int .i64 7)]) [] [] rfl (by decide) ?_ ?_ (by simp [hfalse])
          · simp
          · simp
      · rw [show decide (seg pr (useAt us n) ≤ (useAt us n).price) = true from by simp; omega] at hfair
        simp [hlt, Int.not_lt.1 hlt]
        refine ⟨by decide, ?_⟩
        refine rend_n (floH pr) ?_ ?_
        · simp [floH]
        · simp [hs, hfair, floV, floH, back, placeAll]
  · intro hV
    cases hs : fairTo us pr us.length with
    | false => simp [hs] at hV
    | true =>
      simp [hs, floV]
      refine XW_pwp mixed hlo (by decide) ?_
      have hsum : sumL pr = far pr pr.length := sumL_all (fun k hk => by have := hpf k hk; omega)
      have hss := fsum_spec pr hl
      rw [hsum] at hss
      simp
      refine pop_spec hss rfl false (.inl (by simp [ints])) (.inl rfl) rfl (by simp) ?_
      simp
      refine ends_of (.tup [.v (.int .i64 (far pr pr.length)), .v (.int .i64 0)]) [] [] rfl (by decide) ?_ ?_ rfl
      · simp
      · simp
end Go.Qg

/-! Contracts of the reference's functions least, Proof. No condition. -/
namespace Go.Qg
open Go.Proofs
set_option maxRecDepth 100000
set_option maxHeartbeats 4000000
attribute [local irreducible] pwp pops pdraw pop popCall pdCall thenP blockP scopeP pspec Spec answers ppost CallW rend

theorem lstTo_stable (l : List Use) (legs : Nat) : ∀ {m k : Nat}, k ≤ m → m ≤ legs → geti (lstTo l legs m) k = geti (lstTo l legs k) k
  | 0, k, h, _ => by obtain rfl : k = 0 := by omega
                     rfl
  | m + 1, k, h, hm => by
    rcases Nat.lt_or_eq_of_le h with h1 | rfl
    · rw [lstTo, geti_set (by simp; omega), if_neg (by omega)]
      exact lstTo_stable l legs (by omega) (by omega)
    · rfl
theorem lstTo_nonneg {l : List Use} {legs : Nat} (hp : ∀ k, k < l.length → 0 ≤ (useAt l k).price) (hlg : LegsOk l legs) : ∀ n, n ≤ legs → ∀ k, k ≤ legs → 0 ≤ geti (lstTo l legs n) k
  | 0, _, k, hk => by simp [lstTo, geti, List.getElem?_replicate, show k < legs + 1 from by omega]
  | n + 1, hn, k, hk => by
    have ih := lstTo_nonneg hp hlg n (by omega)
    rw [lstTo, geti_set (by simp; omega)]
    split
    · have key : ∀ q, q ≤ l.length → ∀ v, leastN l (lstTo l legs n) ((n + 1 : Nat) : Int) q = some v → 0 ≤ v := by
        intro q
        induction q with
        | zero => intro _ v h; cases h
        | succ q ihq =>
          intro hq v h
          have hu := hlg.each q (by omega)
          have h1 := ih (useAt l q).leg.toNat (by omega)
          have h2 := hp q (by omega)
          simp only [leastN] at h
          split at h
          · split at h
            · obtain rfl := Option.some.inj h; omega
            · rename_i x hx
              have := ihq (by omega) x hx
              split at h
              · obtain rfl := Option.some.inj h; omega
              · obtain rfl := Option.some.inj h; exact this
          · exact ihq (by omega) v h
      cases hx : leastN l (lstTo l legs n) ((n + 1 : Nat) : Int) l.length with
      | none => simp
      | some v => simpa using key _ (Nat.le_refl _) v hx
    · exact ih k hk
theorem leastN_some {l : List Use} {lst : List Int} {n : Int} : ∀ {k : Nat}, (∃ q, q < k ∧ (useAt l q).leg < n ∧ n ≤ (useAt l q).fin) → (leastN l lst n k).isSome = true
  | 0, ⟨q, h, _⟩ => by omega
  | k + 1, ⟨q, h1, h2, h3⟩ => by
    simp only [leastN]
    split
    · split
      · rfl
      · split <;> rfl
    · rename_i hno
      refine leastN_some ⟨q, ?_, h2, h3⟩
      rcases Nat.lt_succ_iff_lt_or_eq.1 h1 with h | rfl
      · exact h
      · exact absurd ⟨h2, h3⟩ hno
structure ProofOk (t : Table) (p : Person) (l : List Use) (legs : Nat) : Prop where
  use : ∀ u ∈ l, UseOk t p u
  lgs : LegsOk l legs
  cov : covers 0 legs l
theorem ProofOk.least {t : Table} {p : Person} {l : List Use} {legs : Nat} (h : ProofOk t p l legs) {n : Nat} (h1 : 1 ≤ n) (h2 : n ≤ legs) : ∃ v, leastN l (lstTo l legs (n - 1)) (n : Int) l.length = some v ∧ geti (lstTo l legs n) n = v := by
  obtain ⟨u, hu, h3, h4⟩ := h.cov ((n : Int) - 1) (by omega) (by omega)
  obtain ⟨q, hq⟩ := List.mem_iff_getElem?.1 hu
  have hql := lt_of_get? hq
  have e : useAt l q = u := by simp [useAt, hq]
  have hs := leastN_some (l := l) (lst := lstTo l legs (n - 1)) (n := (n : Int)) (k := l.length) ⟨q, hql, by rw [e]; omega, by rw [e]; omega⟩
  obtain ⟨v, hv⟩ := Option.isSome_iff_exists.1 hs
  refine ⟨v, hv, ?_⟩
  obtain ⟨m, rfl⟩ : ∃ m, n = m + 1 := ⟨n - 1, by omega⟩
  rw [lstTo, geti_set (by simp; omega), if_pos rfl]
  simp only [Nat.add_sub_cancel] at hv
  rw [hv]; rfl

theorem rleast_spec (t : Table) (p : Person) (l : List Use) (legs : Nat) (ht : TableOk t) (h : ProofOk t p l legs) : ∀ n : Nat, n ≤ legs → Spec Try.prog 70 [.agg t.cells, .agg p.cells, fuseL (l.map Use.plain), .v (.int .i64 n)] (.v (.int .i64 (geti (lstTo l legs n) n))) := by
  intro n
  induction n using Nat.strongRecOn with
  | _ n ih =>
  intro hn
  have hlg := h.lgs
  have hfew := hlg.few
  have hlen := hlg.n
  have hpr : ∀ k, k < l.length → 0 ≤ (useAt l k).price := fun k hk => (h.use _ (useAt_mem hk)).bound.1
  refine spec_of mixed Try.func70 (by decide) rfl Try.results70 Try.ntmps70 (by decide) 0 (by simp) ?_
  simp [Table.cells, offerL, bandL, Person.cells, fuseL]
  by_cases h0 : n = 0
  · subst h0
    simp
    rw [show geti (lstTo l legs 0) 0 = 0 from by simp [lstTo, geti, List.getElem?_replicate]]
    refine answers_of rfl ?_; simp
  · simp [h0]
    obtain ⟨v, hv1, hv2⟩ := h.least (n := n) (by omega) hn
    have wn : IntKind.i64.wrap ((n : Int) - 1) = (n : Int) - 1 := i64_wrap (by omega)
    refine pwp_loop (fun k : Nat => [(9, .v (.int .i64 ((leastN l (lstTo l legs (n - 1)) (n : Int) k).getD (-1)))), (10, .v (.int .i64 k))]) (fun k => k ≤ l.length) (fun k => l.length - k) 0 (Nat.zero_le _) (by simp; rfl) (by simp [leastN]) ?_
    intro k hk
    by_cases hkl : k < l.length
    · have wk := i64_wrap (show -9223372036854775808 ≤ (k : Int) + 1 ∧ _ from by omega)
      have hu := h.use _ (useAt_mem hkl)
      have hub := hu.bound
      have huleg := hlg.each k hkl
      have hlegs := hu.leg
      have hf := hu.fin
      have ho := hu.off
      have hi2 : (useAt l k).offer.toNat < t.offers.length := by omega
      have hpl := (ht.offer _ (offerAt_mem hi2)).2
      have w1 : IntKind.i64.wrap ((useAt l k).fin - 1) = (useAt l k).fin - 1 := i64_wrap (by omega)
      have hcell : (fuseAt (l.map Use.plain) k).cells = [.v (.int .i64 (useAt l k).offer), .v (.int .i64 (useAt l k).leg)] := by rw [fuse_plain hkl]; rfl
      have hbh := rBehind_spec t p (useAt l k) ht hu
      have hpc : (useAt l k).plain.cells = [.v (.int .i64 (useAt l k).offer), .v (.int .i64 (useAt l k).leg)] := rfl
      have hpp := rPrice_spec t (useAt l k).offer.toNat p ht hi2
      have epp : rPriceOf t p (offerAt t.offers (useAt l k).offer.toNat) = (useAt l k).price := by simp [rPriceOf, hu.price]
      rw [epp, show (((useAt l k).offer.toNat : Nat) : Int) = (useAt l k).offer from by omega] at hpp
      simp [hkl, hcell]
      refine pwp_draw 10 (by decide) ?_
      simp [wn]
      refine pd_spec hbh (by simp [Table.cells, offerL, bandL, hpc]) (by simp) (by simp [Table.cells, offerL, bandL, hpc]) rfl ?_
      simp [w1]
      refine pd_spec (rin_spec ((n : Int) - 1) (useAt l k).leg ((useAt l k).fin - 1)) (by simp) (by simp) (by simp) rfl ?_
      by_cases hc : (useAt l k).leg < (n : Int) ∧ (n : Int) ≤ (useAt l k).fin
      · have e1 : inB ((n : Int) - 1) (useAt l k).leg ((useAt l k).fin - 1) = true := inB_spec.2 (by omega)
        have ihk := ih (useAt l k).leg.toNat (by omega) (by omega)
        rw [show (((useAt l k).leg.toNat : Nat) : Int) = (useAt l k).leg from by omega] at ihk
        have est := lstTo_stable l legs (m := n - 1) (k := (useAt l k).leg.toNat) (by omega) (by omega)
        rw [← est] at ihk
        have hnn := lstTo_nonneg hpr hlg (n - 1) (by omega) (useAt l k).leg.toNat (by omega)
        have hbd := lstTo_bound hlg (n - 1) (by omega) (useAt l k).leg.toNat (by omega)
        have hstep : leastN l (lstTo l legs (n - 1)) (n : Int) (k + 1) = match leastN l (lstTo l legs (n - 1)) (n : Int) k with
          | none => some (geti (lstTo l legs (n - 1)) (useAt l k).leg.toNat + (useAt l k).price)
          | some v => if geti (lstTo l legs (n - 1)) (useAt l k).leg.toNat + (useAt l k).price < v then some (geti (lstTo l legs (n - 1)) (useAt l k).leg.toNat + (useAt l k).price) else some v := by
          rw [leastN, if_pos hc]; rfl
        have hvn : ∀ x, leastN l (lstTo l legs (n - 1)) (n : Int) k = some x → 0 ≤ x := fun x hx => by
          have key : ∀ q, q ≤ l.length → ∀ v, leastN l (lstTo l legs (n - 1)) (n : Int) q = some v → 0 ≤ v := by
            intro q
            induction q with
            | zero => intro _ v h; cases h
            | succ q ihq =>
              intro hq v h
              have hu := hlg.each q (by omega)
              have h2 := hpr q (by omega)
              simp only [leastN] at h
              split at h
              · have h1 := lstTo_nonneg hpr hlg (n - 1) (by omega) (useAt l q).leg.toNat (by omega)
                split at h
                · obtain rfl := Option.some.inj h; omega
                · rename_i x hx
                  have := ihq (by omega) x hx
                  split at h
                  · obtain rfl := Option.some.inj h; omega
                  · obtain rfl := Option.some.inj h; exact this
              · exact ihq (by omega) v h
          exact key k hk x hx
        generalize geti (lstTo l legs (n - 1)) (useAt l k).leg.toNat = c at *
        have w2 : IntKind.i64.wrap (c + (useAt l k).price) = c + (useAt l k).price := i64_wrap (by omega)
        rw [e1]
        simp
        refine ⟨by decide, ?_⟩
        refine pop_spec ihk rfl false (.inl (by simp [Table.cells, offerL, bandL, Person.cells, fuseL])) (.inl rfl) rfl (by simp) ?_
        cases hx : leastN l (lstTo l legs (n - 1)) (n : Int) k with
        | none =>
          rw [hx] at hstep
          simp [hnn]
          refine pop_spec hpp rfl false (.inl (by simp [Table.cells, offerL, bandL, Person.cells])) (.inl rfl) rfl (by simp) ?_
          simp [w2]
          refine again_of (k + 1) (by omega) (by omega) ?_
          simp [wk, hstep]
        | some x =>
          rw [hx] at hstep
          have hx0 := hvn x hx
          simp [hnn, hx0, Int.not_lt.2 hx0]
          refine pop_spec hpp rfl false (.inl (by simp [Table.cells, offerL, bandL, Person.cells])) (.inl rfl) rfl (by simp) ?_
          by_cases hlt : c + (useAt l k).price < x
          · simp [w2, hlt]
            refine pop_spec hpp rfl false (.inl (by simp [Table.cells, offerL, bandL, Person.cells])) (.inl rfl) rfl (by simp) ?_
            simp [w2]
            refine again_of (k + 1) (by omega) (by omega) ?_
            simp [wk, hstep, hlt]
          · simp [w2, hlt, Int.not_lt.1 hlt]
            refine again_of (k + 1) (by omega) (by omega) ?_
            simp [wk, hstep, hlt]
      · have e1 : inB ((n : Int) - 1) (useAt l k).leg ((useAt l k).fin - 1) = false := by
          rw [← Bool.not_eq_true, inB_spec]; omega
        have hstep : leastN l (lstTo l legs (n - 1)) (n : Int) (k + 1) = leastN l (lstTo l legs (n - 1)) (n : Int) k := by simp only [leastN, if_neg hc]
        rw [e1]
        simp
        refine ⟨by decide, ?_⟩
        refine again_of (k + 1) (by omega) (by omega) ?_
        simp [wk, hstep]
    · simp [hkl]
      obtain rfl : k = l.length := by omega
      rw [hv2, hv1]
      refine answers_of rfl ?_; simp

theorem proofL_stable {l : List Use} {legs n : Nat} (hn : n < legs) : geti (lstTo l legs (n + 1)) n = geti (lstTo l legs n) n := lstTo_stable l legs (by omega) (by omega)
theorem rProof_spec (t : Table) (p : Person) (j : List Int) (ht : TableOk t) (hj : 2 ≤ j.length ∧ j.length ≤ 9) (h : ProofOk t p (usesOf t p j) (j.length - 1)) : Spec Try.prog 26 [.agg t.cells, .agg p.cells, ints j] (ints (proofL (usesOf t p j) (j.length - 1))) := by
  have huses := rUses_spec t p j ht hj
  have hl := rleast_spec t p (usesOf t p j) (j.length - 1) ht h
  have hlg := h.lgs
  generalize usesOf t p j = l at *
  have wj : IntKind.i64.wrap ((j.length : Int) - 1) = ((j.length - 1 : Nat) : Int) := by rw [show (j.length : Int) - 1 = ((j.length - 1 : Nat) : Int) from by omega]; exact i64_wrap (by omega)
  refine spec_of mixed Try.func26 (by decide) rfl Try.results26 Try.ntmps26 (by decide) 0 (by simp) ?_
  simp [Table.cells, offerL, bandL, Person.cells, ints]
  refine pop_spec huses rfl false (.inl (by simp [Table.cells, offerL, bandL, Person.cells, ints])) (.inl rfl) rfl (by simp [fuseL]) ?_
  generalize hL : j.length - 1 = legs at *
  simp [fuseL]
  refine pwp_loop (fun n : Nat => [(8, .own 35 n 0 n false), (9, .v (.int .i64 n)), (35, .rows none n 3 1 (rowsOf (fun i => [.v (.int .i64 (geti (lstTo l legs (i + 1)) (i + 1) - geti (lstTo l legs i) i))]) n))]) (fun n => n ≤ legs) (fun n => legs - n) 0 (Nat.zero_le _) (by simp; rfl) (by simp) ?_
  intro n hn
  by_cases h2 : n < legs
  · have wn : IntKind.i64.wrap ((n : Int) + 1) = ((n + 1 : Nat) : Int) := by rw [show (n : Int) + 1 = ((n + 1 : Nat) : Int) from by omega]; exact i64_wrap (by omega)
    have b1 := lstTo_bound hlg (n + 1) (by omega) (n + 1) (by omega)
    have b2 := lstTo_bound hlg n (by omega) n (by omega)
    have w1 : IntKind.i64.wrap (geti (lstTo l legs (n + 1)) (n + 1) - geti (lstTo l legs n) n) = geti (lstTo l legs (n + 1)) (n + 1) - geti (lstTo l legs n) n := i64_wrap (by omega)
    simp [wj, h2]
    refine pwp_draw 16 (by decide) ?_
    simp only [pdraw_cons_]
    simp [wn]
    refine pd_spec (hl (n + 1) h2) (by simp [Table.cells, offerL, bandL, Person.cells, fuseL]) (by simp) (by simp [Table.cells, offerL, bandL, Person.cells, fuseL]) rfl ?_
    simp
    refine pd_spec (hl n (by omega)) (by simp [Table.cells, offerL, bandL, Person.cells, fuseL]) (by simp) (by simp [Table.cells, offerL, bandL, Person.cells, fuseL]) rfl ?_
    simp [w1, show (n + 1) * 8 ≤ 140737488355328 from by omega, show n + 1 ≤ maxLen from by simp [maxLen]; omega]
    refine ⟨by decide, ?_⟩
    refine again_of (n + 1) (by omega) (by omega) ?_
    simp [wn, rowsOf_snoc]
  · simp [wj, h2]
    obtain rfl : n = legs := by omega
    refine answers_of rfl ?_
    simp [proofL]
    intro k hk
    simp [geti_mk hk, rowsOf_get hk, proofL_stable hk]
end Go.Qg

/-! Which tickets pay: what fare.Tickets finds, said of the uses that it finds. No condition. -/
namespace Go.Qg
open Go.Proofs
set_option maxRecDepth 100000

theorem take_snoc {us : List Use} {n : Nat} (h : n < us.length) : us.take (n + 1) = us.take n ++ [useAt us n] := by
  rw [List.take_succ_eq_append_getElem h]; simp [useAt, h]
theorem costL_append (a b : List Use) : costL (a ++ b) = costL a + costL b := by simp [costL]
theorem tk_sound {us : List Use} {l : List FUse} : ∀ {n : Nat} {s : Tk}, n ≤ us.length → tkTo us l n = some s → ∃ c : List Use, c.Sublist (us.take n) ∧ c.map Use.plain = l.take s.at' ∧ s.at' ≤ l.length ∧ s.cost = costL c ∧ 0 ≤ s.cov ∧ covers 0 s.cov c
  | 0, s, _, h => by
    obtain rfl := Option.some.inj h
    exact ⟨[], List.nil_sublist _, rfl, Nat.zero_le _, rfl, Int.le_refl _, fun k h1 h2 => absurd h2 (by dsimp only; omega)⟩
  | n + 1, s, hn, h => by
    simp only [tkTo] at h
    cases hs : tkTo us l n with
    | none => rw [hs] at h; cases h
    | some x =>
      rw [hs] at h
      obtain ⟨c, h1, h2, h3, h4, h5, h6⟩ := tk_sound (by omega) hs
      have et := take_snoc (us := us) (n := n) (by omega)
      simp only [tkStep] at h
      split at h
      · obtain rfl := Option.some.inj h
        exact ⟨c, by rw [et]; exact h1.trans (List.sublist_append_left _ _), h2, h3, h4, h5, h6⟩
      · rename_i hc
        split at h
        · cases h
        · rename_i hg
          obtain rfl := Option.some.inj h
          have hne : x.at' ≠ l.length := fun e => hc (.inl e)
          have hm : fuseAt l x.at' = (useAt us n).plain := Classical.byContradiction fun e => hc (.inr e)
          have hlt : x.at' < l.length := by omega
          refine ⟨c ++ [useAt us n], ?_, ?_, ?_, ?_, ?_, ?_⟩
          · rw [et]; exact h1.append (List.Sublist.refl _)
          · dsimp only
            rw [List.map_append, h2, List.take_succ_eq_append_getElem hlt]
            congr 1
            simp [← hm, fuseAt, hlt]
          · dsimp only; omega
          · dsimp only; rw [h4, costL_append]; simp
          · dsimp only; omega
          · intro k hk1 hk2
            dsimp only at hk2
            by_cases hk : k < x.cov
            · obtain ⟨v, hv, h⟩ := h6 k hk1 hk
              exact ⟨v, List.mem_append_left _ hv, h⟩
            · exact ⟨useAt us n, by simp, by omega, by omega⟩
theorem tk_complete {us : List Use} {legs : Int} (hs : Sorted us) (hfin : ∀ u ∈ us, u.fin ≤ legs) (hleg : ∀ u ∈ us, u.leg ≤ u.fin) (hnn : ∀ u ∈ us, 0 ≤ u.leg) (hinj : ∀ a ∈ us, ∀ b ∈ us, a.plain = b.plain → a = b) {s : List Use} (hsub : s.Sublist us) (hcov : covers 0 legs s) : ∀ {n : Nat}, n ≤ us.length → ∃ s1 s2 x, s = s1 ++ s2 ∧ s2.Sublist (us.drop n) ∧ tkTo us (s.map Use.plain) n = some x ∧ x.at' = s1.length ∧ x.cost = costL s1 ∧ 0 ≤ x.cov ∧ ∀ v ∈ s1, v.fin ≤ x.cov
  | 0, _ => ⟨[], s, ⟨0, 0, 0⟩, rfl, by simpa using hsub, rfl, rfl, rfl, Int.le_refl _, fun v hv => by cases hv⟩
  | n + 1, hn => by
    obtain ⟨s1, s2, x, e, h2, h3, h4, h5, h6, h7⟩ := tk_complete hs hfin hleg hnn hinj hsub hcov (n := n) (by omega)
    have hn' : n < us.length := by omega
    have hu : useAt us n ∈ us := useAt_mem hn'
    have ed : us.drop n = useAt us n :: us.drop (n + 1) := by
      rw [List.drop_eq_getElem_cons hn']; simp [useAt, hn']
    have hs' : Sorted (useAt us n :: us.drop (n + 1)) := by rw [← ed]; exact hs.sublist (List.drop_sublist n us)
    have hs1 := (List.pairwise_cons.1 hs').1
    simp only [tkTo, h3, tkStep]
    rw [ed] at h2
    cases h2 with
    | cons _ h2 =>
      have hno : x.at' = (s.map Use.plain).length ∨ fuseAt (s.map Use.plain) x.at' ≠ (useAt us n).plain := by
        cases s2 with
        | nil => left; rw [h4, e]; simp
        | cons v s2 =>
          right
          have hf : fuseAt (s.map Use.plain) x.at' = v.plain := by
            rw [h4, e]; simp [fuseAt]
          rw [hf]
          intro hp
          have hv : v ∈ us := hsub.subset (by rw [e]; simp)
          have hve := hinj v hv _ hu hp
          have hvd : v ∈ us.drop (n + 1) := h2.subset (by simp)
          have h8 := hs1 v hvd
          rw [hve, aheadB_irr] at h8; cases h8
      rw [if_pos hno]
      exact ⟨s1, s2, x, e, h2, rfl, h4, h5, h6, h7⟩
    | cons_cons _ h2 =>
      rename_i s2
      have hf : fuseAt (s.map Use.plain) x.at' = (useAt us n).plain := by
        rw [h4, e]; simp [fuseAt]
      have hlt : x.at' ≠ (s.map Use.plain).length := by rw [h4, e]; simp
      rw [if_neg (fun h => h.elim hlt fun h => h hf)]
      have hgap : ¬ x.cov < (useAt us n).leg := by
        intro hg
        have hb := hleg _ hu
        have hb2 := hfin _ hu
        obtain ⟨v, hv, hv1, hv2⟩ := hcov x.cov h6 (by omega)
        rw [e] at hv
        rcases List.mem_append.1 hv with hv | hv
        · have := h7 v hv; omega
        · rcases List.mem_cons.1 hv with rfl | hv
          · omega
          · have h8 := hs1 v (h2.subset hv)
            simp only [aheadB, Bool.or_eq_true, Bool.and_eq_true, decide_eq_true_eq] at h8
            omega
      rw [if_neg hgap]
      refine ⟨s1 ++ [useAt us n], s2, _, by rw [e]; simp, h2, rfl, by simp [h4], ?_, ?_, fun v hv => ?_⟩
      · dsimp only; rw [h5, costL_append]; simp
      · dsimp only; omega
      · dsimp only
        rcases List.mem_append.1 hv with hv | hv
        · have := h7 v hv; omega
        · obtain rfl := List.mem_singleton.1 hv; omega
/-- Tickets of uses that cover the journey cost what the uses cost. -/
theorem tickets_ok {us : List Use} {legs : Int} (hs : Sorted us) (hfin : ∀ u ∈ us, u.fin ≤ legs) (hleg : ∀ u ∈ us, u.leg ≤ u.fin) (hnn : ∀ u ∈ us, 0 ≤ u.leg) (hinj : ∀ a ∈ us, ∀ b ∈ us, a.plain = b.plain → a = b) {s : List Use} (hsub : s.Sublist us) (hcov : covers 0 legs s) : tkEnd (s.map Use.plain) legs (tkTo us (s.map Use.plain) us.length) = (costL s, 0) := by
  obtain ⟨s1, s2, x, e, h2, h3, h4, h5, h6, h7⟩ := tk_complete hs hfin hleg hnn hinj hsub hcov (n := us.length) (Nat.le_refl _)
  rw [List.drop_length] at h2
  obtain rfl := List.sublist_nil.1 h2
  rw [List.append_nil] at e
  subst e
  rw [h3]
  have hc : ¬ (x.at' < (s.map Use.plain).length ∨ x.cov < legs) := by
    rintro (h | h)
    · rw [h4] at h; simp at h
    · obtain ⟨v, hv, hv1, hv2⟩ := hcov x.cov h6 h
      have := h7 v hv; omega
  simp only [tkEnd, if_neg hc, h5]
/-- Tickets that pay are uses that cover the journey. -/
theorem tickets_only {us : List Use} {legs : Int} {l : List FUse} : tkEnd l legs (tkTo us l us.length) = (0, 7) ∨ ∃ s : List Use, s.Sublist us ∧ s.map Use.plain = l ∧ covers 0 legs s := by
  cases h : tkTo us l us.length with
  | none => exact .inl rfl
  | some x =>
    by_cases hc : x.at' < l.length ∨ x.cov < legs
    · exact .inl (by simp only [tkEnd, if_pos hc])
    · obtain ⟨c, h1, h2, h3, h4, h5, h6⟩ := tk_sound (Nat.le_refl _) h
      rw [List.take_length] at h1
      have ha : x.at' = l.length := by omega
      rw [ha, List.take_length] at h2
      exact .inr ⟨c, h1, h2, fun k hk1 hk2 => h6 k hk1 (by omega)⟩
theorem tickets_uses {t : Table} {p : Person} {j : List Int} (ht : TableOk t) (hj : 2 ≤ j.length ∧ j.length ≤ 9) {s : List Use} (hsub : s.Sublist (usesOf t p j)) (hcov : covers 0 ((j.length : Int) - 1) s) : tkEnd (s.map Use.plain) ((j.length : Int) - 1) (tkTo (usesOf t p j) (s.map Use.plain) (usesOf t p j).length) = (costL s, 0) := by
  have hg := usesOf_good ht p (j := j) (by omega)
  have hu : ∀ u ∈ usesOf t p j, UseOk t p u := fun u hu => usesOf_useOk ht hj.2 hu
  refine tickets_ok hg.sorted hg.fin (fun u h => ?_) (fun u h => (hu u h).leg.1) (fun a ha b hb h => useOk_inj (hu a ha) (hu b hb) h) hsub hcov
  have h1 := hu u h
  have h2 := h1.fin
  have h3 := h1.off
  have h4 := (ht.offer _ (offerAt_mem (show u.offer.toNat < t.offers.length by omega))).2.1
  omega
theorem fits_of {t : Table} {p : Person} {j : List Int} (ht : TableOk t) {u : Use} (hu : u ∈ usesOf t p j) : fitsB t p j u.plain = true := by
  obtain ⟨leg, k, h1, h2, h3, h4, h5, _⟩ := usesOf_mem ht hu
  have := fits_use t p h1 h2
  rw [h3] at this
  rw [show u.plain = ⟨(k : Int), (leg : Int)⟩ from by rw [Use.plain, h4, h5]]
  exact this
end Go.Qg

/-! Leg prices: a fair list's sum is at most what any tickets cost; the proof is fair, and its sum is the least cost. No condition. -/
namespace Go.Qg
open Go.Proofs
set_option maxRecDepth 100000

/-- Fair prices come to no more than a chain costs. -/
theorem chain_floor {pr : List Int} {legs : Nat} (hpr : ∀ k, k < legs → 0 ≤ geti pr k) : ∀ {s : List Use} {a : Int}, 0 ≤ a → a ≤ legs → chain legs a s → (∀ u ∈ s, 0 ≤ u.leg ∧ u.fin ≤ legs ∧ seg pr u ≤ u.price) → far pr legs - far pr a.toNat ≤ costL s
  | [], a, _, _, h, _ => by
    obtain rfl : a = legs := h
    simp
  | u :: s, a, h0, ha, h, hu => by
    obtain ⟨h1, h2, h3⟩ := h
    obtain ⟨u1, u2, u3⟩ := hu u (by simp)
    have ih := chain_floor hpr (s := s) (a := u.fin) (by omega) u2 h3 fun v hv => hu v (by simp [hv])
    have hm := far_mono (l := pr) hpr u.leg.toNat a.toNat (by omega) (by omega)
    simp only [seg] at u3
    rw [costL_cons]; omega
theorem costL_nn {s : List Use} (h : ∀ u ∈ s, 0 ≤ u.price) : 0 ≤ costL s := by
  induction s with
  | nil => simp
  | cons u s ih =>
    have h1 := h u (by simp)
    have h2 := ih fun v hv => h v (by simp [hv])
    rw [costL_cons]; omega
theorem costL_le {s t : List Use} (hs : s.Sublist t) : (∀ u ∈ t, 0 ≤ u.price) → costL s ≤ costL t := by
  induction hs with
  | slnil => intro _; simp
  | cons u _ ih =>
    intro h
    have h1 := h u (by simp)
    have h2 := ih fun v hv => h v (by simp [hv])
    rw [costL_cons]; omega
  | cons_cons u _ ih =>
    intro h
    have h2 := ih fun v hv => h v (by simp [hv])
    rw [costL_cons, costL_cons]; omega
/-- Fair prices come to no more than tickets cost. -/
theorem floor_le {us : List Use} {legs : Nat} {pr : List Int} (hg : UsesGood us legs) (hnn : ∀ u ∈ us, 0 ≤ u.leg) (hpr : ∀ k, k < legs → 0 ≤ geti pr k) (hf : ∀ u ∈ us, seg pr u ≤ u.price) {s : List Use} (hs : s.Sublist us) (hc : covers 0 legs s) : far pr legs ≤ costL s := by
  have h1 := thin_chain (a := 0) (hg.sorted.sublist hs) (fun u hu => hg.fin u (hs.subset hu)) (by omega) hc
  have h2 := thin_sublist 0 s
  have h3 := chain_floor hpr (Int.le_refl 0) (by omega) h1 fun u hu => by
    have hu' := hs.subset (h2.subset hu)
    exact ⟨hnn u hu', hg.fin u hu', hf u hu'⟩
  have h4 := costL_le h2 fun u hu => hg.price u (hs.subset hu)
  simp [far] at h3
  omega

/-- The least costs. -/
def lst (us : List Use) (legs n : Nat) : Int := geti (lstTo us legs legs) n
theorem lst_zero (us : List Use) (legs : Nat) : lst us legs 0 = 0 := by
  rw [lst, lstTo_stable us legs (Nat.zero_le _) (Nat.le_refl _)]
  simp [lstTo, geti, List.getElem?_replicate]
theorem leastN_le {l : List Use} {ls : List Int} {n : Int} : ∀ {k q : Nat} {v : Int}, leastN l ls n k = some v → q < k → (useAt l q).leg < n → n ≤ (useAt l q).fin → v ≤ geti ls (useAt l q).leg.toNat + (useAt l q).price
  | 0, q, v, h, _, _, _ => by cases h
  | k + 1, q, v, h, hq, h1, h2 => by
    simp only [leastN] at h
    rcases Nat.lt_succ_iff_lt_or_eq.1 hq with hq | rfl
    · split at h
      · cases hx : leastN l ls n k with
        | none =>
          have := leastN_some (lst := ls) ⟨q, hq, h1, h2⟩
          rw [hx] at this; cases this
        | some x =>
          have ih := leastN_le hx hq h1 h2
          rw [hx] at h
          simp only at h
          split at h <;> (obtain rfl := Option.some.inj h; omega)
      · exact leastN_le h hq h1 h2
    · rw [if_pos ⟨h1, h2⟩] at h
      cases hx : leastN l ls n q with
      | none => rw [hx] at h; obtain rfl := Option.some.inj h; omega
      | some x =>
        rw [hx] at h
        simp only at h
        split at h <;> (obtain rfl := Option.some.inj h; omega)
theorem leastN_mem {l : List Use} {ls : List Int} {n : Int} : ∀ {k : Nat} {v : Int}, leastN l ls n k = some v → ∃ q, q < k ∧ (useAt l q).leg < n ∧ n ≤ (useAt l q).fin ∧ v = geti ls (useAt l q).leg.toNat + (useAt l q).price
  | 0, v, h => by cases h
  | k + 1, v, h => by
    simp only [leastN] at h
    split at h
    · rename_i hc
      cases hx : leastN l ls n k with
      | none => rw [hx] at h; obtain rfl := Option.some.inj h; exact ⟨k, by omega, hc.1, hc.2, rfl⟩
      | some x =>
        rw [hx] at h
        simp only at h
        split at h
        · obtain rfl := Option.some.inj h; exact ⟨k, by omega, hc.1, hc.2, rfl⟩
        · obtain rfl := Option.some.inj h
          obtain ⟨q, h1, h2⟩ := leastN_mem hx
          exact ⟨q, by omega, h2⟩
    · obtain ⟨q, h1, h2⟩ := leastN_mem h
      exact ⟨q, by omega, h2⟩
theorem lst_is {t : Table} {p : Person} {us : List Use} {legs : Nat} (h : ProofOk t p us legs) {n : Nat} (h1 : 1 ≤ n) (h2 : n ≤ legs) :
    (∃ u ∈ us, 0 ≤ u.leg ∧ u.leg < n ∧ (n : Int) ≤ u.fin ∧ lst us legs n = lst us legs u.leg.toNat + u.price) ∧ ∀ u ∈ us, u.leg < n → (n : Int) ≤ u.fin → lst us legs n ≤ lst us legs u.leg.toNat + u.price := by
  obtain ⟨v, h3, h4⟩ := h.least h1 h2
  have e1 : lst us legs n = v := by rw [lst, lstTo_stable us legs h2 (Nat.le_refl _)]; exact h4
  have e2 : ∀ u : Use, 0 ≤ u.leg → u.leg < n → geti (lstTo us legs (n - 1)) u.leg.toNat = lst us legs u.leg.toNat := fun u hu hl => by
    rw [lst, lstTo_stable us legs (m := legs) (by omega) (Nat.le_refl _), lstTo_stable us legs (m := n - 1) (by omega) (by omega)]
  refine ⟨?_, fun u hu hl hn => ?_⟩
  · obtain ⟨q, q1, q2, q3, q4⟩ := leastN_mem h3
    have hm := useAt_mem q1
    have h0 := (h.use _ hm).leg.1
    refine ⟨_, hm, h0, q2, q3, ?_⟩
    rw [e1, q4, e2 _ h0 q2]
  · obtain ⟨q, hq⟩ := List.mem_iff_getElem?.1 hu
    have hql := lt_of_get? hq
    have e : useAt us q = u := by simp [useAt, hq]
    have h0 := (h.use _ hu).leg.1
    have := leastN_le (q := q) h3 hql (by rw [e]; exact hl) (by rw [e]; exact hn)
    rw [e, e2 _ h0 hl] at this
    rw [e1]; exact this
theorem lst_step {t : Table} {p : Person} {us : List Use} {legs : Nat} (h : ProofOk t p us legs) {n : Nat} (h2 : n < legs) : lst us legs n ≤ lst us legs (n + 1) := by
  obtain ⟨⟨u, hu, u0, u1, u2, u3⟩, _⟩ := lst_is h (n := n + 1) (by omega) h2
  have hp := (h.use u hu).bound.1
  by_cases hl : u.leg < n
  · have := (lst_is h (n := n) (by omega) (by omega)).2 u hu hl (by omega)
    omega
  · have e : u.leg.toNat = n := by omega
    rw [e] at u3; omega
theorem lst_mono {t : Table} {p : Person} {us : List Use} {legs : Nat} (h : ProofOk t p us legs) : ∀ {n m : Nat}, n ≤ m → m ≤ legs → lst us legs n ≤ lst us legs m
  | n, 0, h1, _ => by obtain rfl : n = 0 := by omega
                      exact Int.le_refl _
  | n, m + 1, h1, h2 => by
    rcases Nat.lt_or_eq_of_le h1 with h3 | rfl
    · have := lst_mono h (n := n) (m := m) (by omega) (by omega)
      have := lst_step h (n := m) (by omega)
      omega
    · exact Int.le_refl _
theorem lst_up {t : Table} {p : Person} {us : List Use} {legs : Nat} (h : ProofOk t p us legs) {n : Nat} (h2 : n < legs) : lst us legs (n + 1) ≤ lst us legs n + 9000000000 := by
  obtain ⟨u, hu, u1, u2⟩ := h.cov (n : Int) (by omega) (by omega)
  have := (lst_is h (n := n + 1) (by omega) h2).2 u hu (by omega) (by omega)
  have hb := (h.use u hu).bound.2
  have h0 := (h.use u hu).leg.1
  have := lst_mono h (n := u.leg.toNat) (m := n) (by omega) (by omega)
  omega
theorem add_use {u : Use} {s us : List Use} (hs : s.Sublist us) : u ∈ us → u ∉ s → ∃ r : List Use, r.Sublist us ∧ costL r = u.price + costL s ∧ u ∈ r ∧ ∀ x ∈ s, x ∈ r := by
  induction hs with
  | slnil => intro h; cases h
  | @cons s us x hs ih =>
    intro h1 h2
    rcases List.mem_cons.1 h1 with rfl | h1
    · exact ⟨u :: s, hs.cons_cons u, by simp, by simp, fun x hx => by simp [hx]⟩
    · obtain ⟨r, r1, r2, r3, r4⟩ := ih h1 h2
      exact ⟨r, r1.cons x, r2, r3, r4⟩
  | @cons_cons s us x hs ih =>
    intro h1 h2
    have hne : u ≠ x := fun e => h2 (by simp [e])
    have h1 : u ∈ us := (List.mem_cons.1 h1).resolve_left hne
    obtain ⟨r, r1, r2, r3, r4⟩ := ih h1 (fun h => h2 (by simp [h]))
    refine ⟨x :: r, r1.cons_cons x, by rw [costL_cons, costL_cons, r2]; omega, by simp [r3], fun y hy => ?_⟩
    rcases List.mem_cons.1 hy with rfl | hy
    · simp
    · simp [r4 y hy]
/-- The least cost of the first n legs is the cost of some tickets. -/
theorem lst_cover {t : Table} {p : Person} {us : List Use} {legs : Nat} (h : ProofOk t p us legs) : ∀ n : Nat, n ≤ legs → ∃ s : List Use, s.Sublist us ∧ covers 0 n s ∧ costL s ≤ lst us legs n := by
  intro n
  induction n using Nat.strongRecOn with
  | _ n ih =>
  intro hn
  by_cases h0 : n = 0
  · subst h0
    exact ⟨[], List.nil_sublist _, fun k h1 h2 => by simp at h2; omega, by simp [lst_zero]⟩
  · obtain ⟨⟨u, hu, u0, u1, u2, u3⟩, _⟩ := lst_is h (n := n) (by omega) hn
    obtain ⟨s, s1, s2, s3⟩ := ih u.leg.toNat (by omega) (by omega)
    have hp := (h.use u hu).bound.1
    by_cases hus : u ∈ s
    · refine ⟨s, s1, fun k h1 h2 => ?_, by omega⟩
      by_cases hk : k < u.leg
      · exact s2 k h1 (by omega)
      · exact ⟨u, hus, by omega, by omega⟩
    · obtain ⟨r, r1, r2, r3, r4⟩ := add_use s1 hu hus
      refine ⟨r, r1, fun k h1 h2 => ?_, by omega⟩
      by_cases hk : k < u.leg
      · obtain ⟨x, hx, h3⟩ := s2 k h1 (by omega)
        exact ⟨x, r4 x hx, h3⟩
      · exact ⟨u, r3, by omega, by omega⟩

theorem proofL_len (us : List Use) (legs : Nat) : (proofL us legs).length = legs := by simp [proofL]
theorem proofL_geti (us : List Use) {legs k : Nat} (hk : k < legs) : geti (proofL us legs) k = lst us legs (k + 1) - lst us legs k := by
  rw [proofL, geti_mk hk, lst, lst, lstTo_stable us legs (m := legs) (k := k + 1) (by omega) (Nat.le_refl _), lstTo_stable us legs (m := legs) (k := k) (by omega) (Nat.le_refl _), lstTo_stable us legs (m := k + 1) (k := k) (by omega) (by omega)]
theorem proofL_far (us : List Use) (legs : Nat) : ∀ k, k ≤ legs → far (proofL us legs) k = lst us legs k
  | 0, _ => by rw [lst_zero]; rfl
  | k + 1, hk => by
    have e : far (proofL us legs) (k + 1) = far (proofL us legs) k + geti (proofL us legs) k := rfl
    rw [e, proofL_far us legs k (by omega), proofL_geti us (by omega)]; omega
theorem proofL_prices {t : Table} {p : Person} {us : List Use} {legs : Nat} (h : ProofOk t p us legs) : pricesB (proofL us legs) = true := by
  refine allN_spec.2 fun k hk => inB_spec.2 ?_
  rw [proofL_len] at hk
  rw [proofL_geti us hk]
  have h1 := lst_step h hk
  have h2 := lst_up h hk
  omega
theorem proofL_fair {t : Table} {p : Person} {us : List Use} {legs : Nat} (h : ProofOk t p us legs) (hf : ∀ u ∈ us, u.leg < u.fin ∧ u.fin ≤ legs) {u : Use} (hu : u ∈ us) : seg (proofL us legs) u ≤ u.price := by
  have h1 := hf u hu
  have h0 := (h.use u hu).leg.1
  rw [seg, proofL_far us legs _ (by omega), proofL_far us legs _ (by omega)]
  have := (lst_is h (n := u.fin.toNat) (by omega) (by omega)).2 u hu (by omega) (by omega)
  omega
end Go.Qg

/-! The contract of the reference's Prices; the law FareProved returns true. No condition. -/
namespace Go.Qg
open Go.Proofs
set_option maxRecDepth 100000
set_option maxHeartbeats 4000000
attribute [local irreducible] pwp pops pdraw pop popCall pdCall thenP blockP scopeP pspec Spec answers ppost CallW rend

theorem rPrices_spec (j pr : List Int) (hj : j.length ≤ 9223372036854775807) (hl : pr.length ≤ 9223372036854775807) : Spec Try.prog 57 [ints j, ints pr] (.v (.bool (pricesB pr && decide ((pr.length : Int) = (j.length : Int) - 1)))) := by
  have wj : IntKind.i64.wrap ((j.length : Int) - 1) = (j.length : Int) - 1 := i64_wrap (by omega)
  refine spec_of mixed Try.func57 (by decide) rfl Try.results57 Try.ntmps57 (by decide) 0 (by simp) ?_
  simp [ints]
  refine pwp_loop (fun k : Nat => [(5, .v (.int .i64 k))]) (fun k => k ≤ pr.length ∧ ∀ q, q < k → inB (geti pr q) 0 20000000000 = true) (fun k => pr.length - k) 0 ⟨Nat.zero_le _, fun q hq => by omega⟩ (by simp; rfl) (by simp) ?_
  intro k ⟨hk, hq⟩
  by_cases h : k < pr.length
  · have wk := i64_wrap (show -9223372036854775808 ≤ (k : Int) + 1 ∧ _ from by omega)
    simp [h]
    refine pop_spec (rin_spec (geti pr k) 0 20000000000) rfl false (.inl (by simp)) (.inl rfl) rfl (by simp) ?_
    cases hb : inB (geti pr k) 0 20000000000 with
    | false =>
      have : pricesB pr = false := allN_false (p := fun k => inB (geti pr k) 0 20000000000) h hb
      rw [this]
      simp
      refine answers_of rfl ?_; simp
    | true =>
      simp
      refine again_of (k + 1) ⟨by omega, fun q hq' => ?_⟩ (by omega) ?_
      · rcases Nat.lt_succ_iff_lt_or_eq.1 hq' with hq' | rfl
        · exact hq q hq'
        · exact hb
      · simp [wk]
  · have : pricesB pr = true := allN_spec.2 fun q hq' => hq q (by omega)
    rw [this]
    simp [h, wj]
    refine answers_of rfl ?_
    by_cases hd : (pr.length : Int) = (j.length : Int) - 1 <;> simp [hd]

theorem FareProved_spec (t : Table) (p : Person) (j pr : List Int) (l : List FUse) (hf : TableFit t) (hj : j.length ≤ 9223372036854775807) (hpl : pr.length ≤ 9223372036854775807) (hl : l.length ≤ 9223372036854775807) : Spec Try.prog 16 [.agg t.cells, .agg p.cells, ints j, ints pr, fuseL l] (.v (.bool true)) := by
  refine spec_of mixed Try.func16 (by decide) rfl Try.results16 Try.ntmps16 (by decide) 0 (by simp) ?_
  simp [Table.cells, offerL, bandL, Person.cells, ints, fuseL]
  refine pop_spec (short_spec t hf) rfl false (.inl (by simp [Table.cells, offerL, bandL])) (.inl rfl) rfl (by simp) ?_
  cases hs : shortB t with
  | false =>
    simp
    refine pop_spec known_spec rfl false (.inl (by simp)) (.inl rfl) rfl (by simp) ?_
    simp
    refine answers_of rfl ?_; simp
  | true =>
    by_cases hj20 : 20 < j.length
    · simp [show (20 : Int) < j.length from by omega]
      refine pop_spec known_spec rfl false (.inl (by simp)) (.inl rfl) rfl (by simp) ?_
      simp
      refine answers_of rfl ?_; simp
    by_cases hl30 : 30 < l.length
    · simp [show ¬ (20 : Int) < j.length from by omega, show (j.length : Int) ≤ 20 from by omega, show (30 : Int) < l.length from by omega]
      refine pop_spec known_spec rfl false (.inl (by simp)) (.inl rfl) rfl (by simp) ?_
      simp
      refine answers_of rfl ?_; simp
    simp [show ¬ (20 : Int) < j.length from by omega, show (j.length : Int) ≤ 20 from by omega, show ¬ (30 : Int) < l.length from by omega, show (l.length : Int) ≤ 30 from by omega]
    refine pop_spec (asked_spec t p j true hf hj) rfl false (.inl (by simp [Table.cells, offerL, bandL, Person.cells, ints])) (.inl rfl) rfl (by simp) ?_
    cases hask : askedB t p j true with
    | false =>
      simp
      refine pop_spec known_spec rfl false (.inl (by simp)) (.inl rfl) rfl (by simp) ?_
      simp
      refine answers_of rfl ?_; simp
    | true =>
    simp
    refine pop_spec (rPrices_spec j pr hj hpl) rfl false (.inl (by simp [ints])) (.inl rfl) rfl (by simp) ?_
    cases hprb : (pricesB pr && decide ((pr.length : Int) = (j.length : Int) - 1)) with
    | false =>
      simp
      refine pop_spec known_spec rfl false (.inl (by simp)) (.inl rfl) rfl (by simp) ?_
      simp
      refine answers_of rfl ?_; simp
    | true =>
      have hb := Best_spec t p j hf hj
      have htk := Tickets_spec t p j l hf hj hl
      have hfl := Floor_spec t p j pr hf hj hpl
      simp only [askedB, Bool.and_eq_true] at hask
      obtain ⟨⟨⟨hv, hw⟩, hr⟩, _⟩ := hask
      obtain ⟨hp1, hp2⟩ := Bool.and_eq_true_iff.1 hprb
      have hp2 := of_decide_eq_true hp2
      have ht := valid_ok hv
      have hjr := route_ok hr
      have hbad : bestBad t p j = false := by simp [bestBad, hv, hw, hr]
      have hul := usesOf_length ht p hjr.2
      have hgood := usesOf_good ht p (j := j) (by omega)
      have hcov := best_cover hgood.sorted hgood.fin hgood.price (by omega)
      have hokk := usesOf_ok ht p (j := j) (by omega)
      have huse : ∀ u ∈ usesOf t p j, UseOk t p u := fun u hu => usesOf_useOk ht hjr.2 hu
      have etk : ticketsOf t p j l = tkEnd l ((j.length : Int) - 1) (tkTo (usesOf t p j) l (usesOf t p j).length) := by simp [ticketsOf, hbad, show ¬ 100 < l.length from by omega]
      have efl : floorOf t p j pr = if fairTo (usesOf t p j) pr (usesOf t p j).length then (far pr pr.length, 0) else (0, 7) := by simp [floorOf, hbad, hp1, hp2]
      rw [etk] at htk
      rw [efl] at hfl
      have ej : ((j.length - 1 : Nat) : Int) = (j.length : Int) - 1 := by omega
      have hgood' : UsesGood (usesOf t p j) ((j.length - 1 : Nat) : Int) := by rw [ej]; exact hgood
      have hnn : ∀ u ∈ usesOf t p j, 0 ≤ u.leg := fun u hu => (huse u hu).leg.1
      have hlf : ∀ u ∈ usesOf t p j, u.leg < u.fin ∧ u.fin ≤ ((j.length - 1 : Nat) : Int) := fun u hu => by
        have h1 := huse u hu
        have h2 := hgood'.fin u hu
        have h3 := h1.fin
        have h4 := (ht.offer _ (offerAt_mem (show u.offer.toNat < t.offers.length by have := h1.off; omega))).2.1
        omega
      -- no fair prices come to more than tickets cost
      have weak : ∀ q : List Int, pricesB q = true → q.length = j.length - 1 → fairTo (usesOf t p j) q (usesOf t p j).length = true → ∀ s : List Use, s.Sublist (usesOf t p j) → covers 0 ((j.length : Int) - 1) s → far q q.length ≤ costL s := fun q q1 q2 q3 s s1 s2 => by
        rw [q2]
        refine floor_le hgood' hnn (fun k hk => (inB_spec.1 (allN_spec.1 q1 k (by omega))).1) (fun u hu => ?_) s1 (by rw [ej]; exact s2)
        obtain ⟨m, hm⟩ := List.mem_iff_getElem?.1 hu
        have hml := lt_of_get? hm
        have := allN_spec.1 q3 m hml
        rw [show useAt (usesOf t p j) m = u from by simp [useAt, hm]] at this
        exact of_decide_eq_true this
      have htc : ∀ s : List Use, s.Sublist (usesOf t p j) → covers 0 ((j.length : Int) - 1) s → tkEnd (s.map Use.plain) ((j.length : Int) - 1) (tkTo (usesOf t p j) (s.map Use.plain) (usesOf t p j).length) = (costL s, 0) := fun s s1 s2 => tickets_uses ht hjr s1 s2
      have hto := tickets_only (us := usesOf t p j) (legs := (j.length : Int) - 1) (l := l)
      have hprl : pr.length = j.length - 1 := by omega
      have hwp := weak pr hp1 hprl
      have hbest : bestOf t p j = if (ansOf ((j.length : Int) - 1) (usesOf t p j) 0).is then ⟨(ansOf ((j.length : Int) - 1) (usesOf t p j) 0).tick.uses.map Use.plain, (ansOf ((j.length : Int) - 1) (usesOf t p j) 0).tick.cost, proofL (usesOf t p j) (j.length - 1), 0⟩ else ⟨[], 0, [], 5⟩ := by simp [bestOf, hbad]
      rw [hbest] at hb
      -- the proof
      have strong : (ansOf ((j.length : Int) - 1) (usesOf t p j) 0).is = true → pricesB (proofL (usesOf t p j) (j.length - 1)) = true ∧ floorOf t p j (proofL (usesOf t p j) (j.length - 1)) = ((ansOf ((j.length : Int) - 1) (usesOf t p j) 0).tick.cost, 0) := fun hi => by
        obtain ⟨h1, h2, h3, h4⟩ := hcov.2 hi
        have hpo : ProofOk t p (usesOf t p j) (j.length - 1) := ⟨huse, hokk.2, by rw [ej]; exact fun k hk1 hk2 => (h2 k hk1 hk2).elim fun u hu => ⟨u, h1.subset hu.1, hu.2⟩⟩
        have c1 := proofL_prices hpo
        have c2 := proofL_len (usesOf t p j) (j.length - 1)
        have c3 : fairTo (usesOf t p j) (proofL (usesOf t p j) (j.length - 1)) (usesOf t p j).length = true := allN_spec.2 fun k hk => decide_eq_true (proofL_fair hpo hlf (useAt_mem hk))
        have c4 := proofL_far (usesOf t p j) (j.length - 1) _ (Nat.le_refl _)
        have c5 := weak _ c1 c2 c3 _ h1 h2
        obtain ⟨s, s1, s2, s3⟩ := lst_cover hpo _ (Nat.le_refl _)
        have c6 := costL_of_not_less (h4 s s1 (by rw [ej] at s2; exact s2))
        rw [c2, c4] at c5
        refine ⟨c1, ?_⟩
        have c7 : far (proofL (usesOf t p j) (j.length - 1)) (j.length - 1) = (ansOf ((j.length : Int) - 1) (usesOf t p j) 0).tick.cost := by rw [c4, h3]; omega
        simp [floorOf, hbad, c1, c2, c3, c7, ej]
      have hmin : (ansOf ((j.length : Int) - 1) (usesOf t p j) 0).is = true → (fairTo (usesOf t p j) pr (usesOf t p j).length = true → far pr pr.length ≤ (ansOf ((j.length : Int) - 1) (usesOf t p j) 0).tick.cost) ∧ ∀ s : List Use, s.Sublist (usesOf t p j) → covers 0 ((j.length : Int) - 1) s → (ansOf ((j.length : Int) - 1) (usesOf t p j) 0).tick.cost ≤ costL s := fun hi => by
        obtain ⟨h1, h2, h3, h4⟩ := hcov.2 hi
        exact ⟨fun h => by rw [h3]; exact hwp h _ h1 h2, fun s s1 s2 => by rw [h3]; exact costL_of_not_less (h4 s s1 s2)⟩
      have hpx := rPrices_spec j (proofL (usesOf t p j) (j.length - 1)) hj (by rw [proofL_len]; omega)
      have hpy := Floor_spec t p j (proofL (usesOf t p j) (j.length - 1)) hf hj (by rw [proofL_len]; omega)
      have hpz := proofL_len (usesOf t p j) (j.length - 1)
      have hnone : (ansOf ((j.length : Int) - 1) (usesOf t p j) 0).is = false → ∀ s : List Use, s.Sublist (usesOf t p j) → ¬ covers 0 ((j.length : Int) - 1) s := hcov.1
      clear hgood' hcov hokk hbest hlf weak
      generalize proofL (usesOf t p j) (j.length - 1) = c at *
      generalize (ansOf ((j.length : Int) - 1) (usesOf t p j) 0).tick.uses = b at *
      generalize (ansOf ((j.length : Int) - 1) (usesOf t p j) 0).tick.cost = n at *
      generalize (ansOf ((j.length : Int) - 1) (usesOf t p j) 0).is = is at *
      rcases hto with hto | ⟨s, s1, rfl, s3⟩
      · rw [hto] at htk
        cases hfair : fairTo (usesOf t p j) pr (usesOf t p j).length with
        | false =>
          rw [hfair] at hfl hwp hmin
          simp
          refine pop_spec hfl rfl false (.inl (by simp [Table.cells, offerL, bandL, Person.cells, ints, fuseL])) (.inl rfl) rfl (by simp) ?_
          simp
          refine pop_spec htk rfl false (.inl (by simp [Table.cells, offerL, bandL, Person.cells, ints, fuseL])) (.inl rfl) rfl (by simp) ?_
          simp
          refine pop_spec hb rfl false (.inl (by simp [Table.cells, offerL, bandL, Person.cells, ints, fuseL])) (.inl rfl) rfl (by simp [BestR.pv, fuseL, ints]) ?_
          cases his : is with
          | false =>
            simp [BestR.pv, fuseL, ints]
            refine pop_spec known_spec rfl false (.inl (by simp)) (.inl rfl) rfl (by simp) ?_
            simp
            refine answers_of rfl ?_; simp
          | true =>
            obtain ⟨g1, g2⟩ := strong his
            obtain ⟨m1, m2⟩ := hmin his
            rw [g1, hpz, ej] at hpx
            rw [g2] at hpy
            simp [BestR.pv, fuseL, ints]
            refine pop_spec hpx rfl false (.inl (by simp [Table.cells, offerL, bandL, Person.cells, ints, fuseL])) (.inl rfl) rfl (by simp) ?_
            simp
            refine pop_spec hpy rfl false (.inl (by simp [Table.cells, offerL, bandL, Person.cells, ints, fuseL])) (.inl rfl) rfl (by simp) ?_
            simp
            refine pop_spec known_spec rfl false (.inl (by simp)) (.inl rfl) rfl (by simp) ?_
            simp
            refine answers_of rfl ?_; simp
        | true =>
          rw [hfair] at hfl hwp hmin
          simp
          refine pop_spec hfl rfl false (.inl (by simp [Table.cells, offerL, bandL, Person.cells, ints, fuseL])) (.inl rfl) rfl (by simp) ?_
          simp
          refine pop_spec htk rfl false (.inl (by simp [Table.cells, offerL, bandL, Person.cells, ints, fuseL])) (.inl rfl) rfl (by simp) ?_
          simp
          refine pop_spec hb rfl false (.inl (by simp [Table.cells, offerL, bandL, Person.cells, ints, fuseL])) (.inl rfl) rfl (by simp [BestR.pv, fuseL, ints]) ?_
          cases his : is with
          | false =>
            simp [BestR.pv, fuseL, ints]
            refine pop_spec known_spec rfl false (.inl (by simp)) (.inl rfl) rfl (by simp) ?_
            simp
            refine answers_of rfl ?_; simp
          | true =>
            obtain ⟨g1, g2⟩ := strong his
            obtain ⟨m1, m2⟩ := hmin his
            have hm1 := m1 rfl
            rw [g1, hpz, ej] at hpx
            rw [g2] at hpy
            simp [BestR.pv, fuseL, ints]
            refine pop_spec hpx rfl false (.inl (by simp [Table.cells, offerL, bandL, Person.cells, ints, fuseL])) (.inl rfl) rfl (by simp) ?_
            simp
            refine pop_spec hpy rfl false (.inl (by simp [Table.cells, offerL, bandL, Person.cells, ints, fuseL])) (.inl rfl) rfl (by simp) ?_
            simp [hm1, Int.not_lt.2 hm1]
            refine pop_spec known_spec rfl false (.inl (by simp)) (.inl rfl) rfl (by simp) ?_
            simp
            refine answers_of rfl ?_; simp
      · rw [htc s s1 s3] at htk
        cases hfair : fairTo (usesOf t p j) pr (usesOf t p j).length with
        | false =>
          rw [hfair] at hfl hwp hmin
          simp
          refine pop_spec hfl rfl false (.inl (by simp [Table.cells, offerL, bandL, Person.cells, ints, fuseL])) (.inl rfl) rfl (by simp) ?_
          simp
          refine pop_spec htk rfl false (.inl (by simp [Table.cells, offerL, bandL, Person.cells, ints, fuseL])) (.inl rfl) rfl (by simp) ?_
          simp
          refine pop_spec hb rfl false (.inl (by simp [Table.cells, offerL, bandL, Person.cells, ints, fuseL])) (.inl rfl) rfl (by simp [BestR.pv, fuseL, ints]) ?_
          cases his : is with
          | false =>
            simp [BestR.pv, fuseL, ints]
            refine pop_spec known_spec rfl false (.inl (by simp)) (.inl rfl) rfl (by simp) ?_
            simp
            refine answers_of rfl ?_; simp
          | true =>
            obtain ⟨g1, g2⟩ := strong his
            obtain ⟨m1, m2⟩ := hmin his
            have hm2 := m2 s s1 s3
            rw [g1, hpz, ej] at hpx
            rw [g2] at hpy
            simp [BestR.pv, fuseL, ints]
            refine pop_spec hpx rfl false (.inl (by simp [Table.cells, offerL, bandL, Person.cells, ints, fuseL])) (.inl rfl) rfl (by simp) ?_
            simp
            refine pop_spec hpy rfl false (.inl (by simp [Table.cells, offerL, bandL, Person.cells, ints, fuseL])) (.inl rfl) rfl (by simp) ?_
            simp [hm2, Int.not_lt.2 hm2]
            refine pop_spec known_spec rfl false (.inl (by simp)) (.inl rfl) rfl (by simp) ?_
            simp
            refine answers_of rfl ?_; simp
        | true =>
          rw [hfair] at hfl hwp hmin
          simp
          refine pop_spec hfl rfl false (.inl (by simp [Table.cells, offerL, bandL, Person.cells, ints, fuseL])) (.inl rfl) rfl (by simp) ?_
          simp
          refine pop_spec htk rfl false (.inl (by simp [Table.cells, offerL, bandL, Person.cells, ints, fuseL])) (.inl rfl) rfl (by simp) ?_
          have hle := hwp rfl s s1 s3
          simp [hle, Int.not_lt.2 hle]
          refine pop_spec hb rfl false (.inl (by simp [Table.cells, offerL, bandL, Person.cells, ints, fuseL])) (.inl rfl) rfl (by simp [BestR.pv, fuseL, ints]) ?_
          cases his : is with
          | false =>
            simp [BestR.pv, fuseL, ints]
            refine pop_spec known_spec rfl false (.inl (by simp)) (.inl rfl) rfl (by simp) ?_
            simp
            refine answers_of rfl ?_; simp
          | true =>
            obtain ⟨g1, g2⟩ := strong his
            obtain ⟨m1, m2⟩ := hmin his
            have hm1 := m1 rfl
            have hm2 := m2 s s1 s3
            rw [g1, hpz, ej] at hpx
            rw [g2] at hpy
            simp [BestR.pv, fuseL, ints]
            refine pop_spec hpx rfl false (.inl (by simp [Table.cells, offerL, bandL, Person.cells, ints, fuseL])) (.inl rfl) rfl (by simp) ?_
            simp
            refine pop_spec hpy rfl false (.inl (by simp [Table.cells, offerL, bandL, Person.cells, ints, fuseL])) (.inl rfl) rfl (by simp) ?_
            simp [hm1, Int.not_lt.2 hm1, hm2, Int.not_lt.2 hm2]
            refine pop_spec known_spec rfl false (.inl (by simp)) (.inl rfl) rfl (by simp) ?_
            simp
            refine answers_of rfl ?_; simp
end Go.Qg

/-! FareProved: for every table, person, journey, proposed leg prices and proposed tickets the law returns true, and leaves its arguments as they were. No condition. -/
namespace Go.Proofs.Ytmnoepkamkomkaa.lawFareProved
open Go.Qg Go.ChangeAt Go.RowKit
set_option maxRecDepth 100000

theorem spec (args : List PV) (hl : Try.f16.params.toList.length = args.length) (h : ∀ (j : Nat) t p, Try.f16.params.toList[j]? = some t → args[j]? = some p → ArgP Try.prog 6 t p) : Qg.Spec Try.prog 16 args (.v (.bool true)) := by
  rw [Try.params16] at hl h
  match args, hl with
  | [a0, a1, a2, a3, a4], _ =>
    obtain ⟨t, rfl, ht⟩ := a_table (h 0 _ a0 rfl rfl)
    obtain ⟨p, rfl, hp⟩ := a_person (h 1 _ a1 rfl rfl)
    obtain ⟨j, rfl, jlen, jok⟩ := a_ints (h 2 _ a2 rfl rfl)
    obtain ⟨c, rfl, clen, cok⟩ := a_ints (h 3 _ a3 rfl rfl)
    obtain ⟨l, rfl, ll, lok⟩ := a_fuses (h 4 _ a4 rfl rfl)
    exact FareProved_spec t p j c l ht jlen clen ll

theorem lifted (os : Os) (started : os.Started) (H : Type) (enc : TypeId × Value → H) :
    ReturnsInHanded {} Try.checked os 16 .any (Rows.fareProvedSpec.pre6 enc Try.prog Try.f16 Rows.fareProvedRow.domain false) (Rows.fareProvedSpec.post enc Try.prog Try.f16 false true false false) := by
  refine law_lifted (C := Try.checked) 6 (tb := 4) ownKnob_ started (by kernel_rfl) Try.func16
    (ChangeSpec.witness6 (enc := enc) (C := Try.checked) false ⟨#[], #[.agg #[.slice none 0 0, .slice none 0 0, .int .i64 0], .agg #[.int .i64 0, .bool false], .slice none 0 0, .slice none 0 0, .slice none 0 0], []⟩ 8 (by kernel_rfl) (by kernel_rfl) (by kernel_rfl) (by kernel_rfl)) laidOut_ rfl (by kernel_rfl) (by kernel_rfl) Try.underlying4 ?_ spec
  intro ds hds
  match ds, hds with
  | [_, _, _, _, _], _ => exact ⟨rfl, rfl, rfl⟩

theorem FareProved_holds : Rows.FareProvedSaid :=
  OpenClaim.holds_of_wide 16 Try.f16 rfl rfl rfl rfl rfl rfl rfl ⟨rfl, rfl, rfl, rfl, rfl⟩ rfl rfl rfl rfl rfl (by kernel_rfl) Try.func16 (by kernel_rfl)
    (of_decide_eq_true (by kernel_rfl)) (by unfold Func.isWrapper; first | (rw [if_pos (by decide +kernel)]; kernel_rfl) | (rw [if_neg (by decide +kernel)]; exact ⟨rfl, rfl⟩))
    (fun os started H enc _ => lifted os started H enc)
end Go.Proofs.Ytmnoepkamkomkaa.lawFareProved
