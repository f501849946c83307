/-
  Lemmas and contracts that hold of the whole program: 14 texts in one.
  No condition.
-/
import Derived.Test.YtnjhblcfjhpoiaaDoorZ2
import Derived.WalkKit
import Derived.AtR
import Derived.Orders
import Derived.Scope
import Derived.Recover
set_option linter.all false

namespace Go.Qg
open Go.RowKit (Below)
structure Tgt where
  G : PF
  ρ : Nat → Option Nat
  gone : Nat → Bool
def epAt (fr : PF) (i : Nat) : Option Nat :=
  match fr[i]? with
  | some (.rows _ ep _ _ _) => some ep
  | _ => none
def newAt (T : Tgt) (i ep : Nat) : Prop := T.ρ i = none ∧ ∃ h e sz, T.G[i]? = some (.rows h ep e sz [])
def vwAll (V : PV → PV → Prop) : List PV → List PV → Prop
  | [], [] => True
  | q :: qs, p :: ps => V q p ∧ vwAll V qs ps
  | _, _ => False
def vw (f : PF) (T : Tgt) : Nat → PV → PV → Prop
  | 0, q, p => q = .undef ∨ (q = p ∧ q.names = [])
  | d + 1, q, p => match q, p with
    | .undef, _ => True
    | .agg qs, .agg ps => vwAll (vw f T d) qs ps ∧ qs.all (·.one) = true
    | .tup qs, .tup ps => vwAll (vw f T d) qs ps
    | .clo fn q1 q2, .clo fn' p1 p2 => fn = fn' ∧ vwAll (vw f T d) q1 p1 ∧ vwAll (vw f T d) q2 p2
    | .ifc t q, .ifc t' p => t = t' ∧ vw f T d q p
    | .ref i off, .ref s off' => T.ρ i = some s ∧ off = off' ∧ epAt f s = none
    | .mp i, .mp s => T.ρ i = some s ∧ epAt f s = none
    | .elt i ep k g, .elt s ep0 k' g' => T.ρ i = some s ∧ k = k' ∧ g = g' ∧ epAt T.G i = some ep ∧ epAt f s = some ep0
    | .own i ep off n c, .own s ep0 off' n' c' => T.ρ i = some s ∧ off = off' ∧ n = n' ∧ c = c' ∧ epAt T.G i = some ep ∧ epAt f s = some ep0
    | .own i ep off n _, .nil => off = 0 ∧ n = 0 ∧ newAt T i ep
    | .sl sz n h, .own s ep off m _ => T.gone s = true ∧ n = m ∧ ∃ rs, pown f s ep = some (sz, rs) ∧ off + n ≤ rs.length ∧ ∀ k, k < n → vwAll (vw f T d) (h k) (rs.getD (off + k) []) ∧ (h k).all (fun q => q.one && q.free) = true
    | .sl _ n _, .nil => n = 0
    | .sl sz n h, .sl sz' m h' => (n = 0 ∧ m = 0) ∨ (sz = sz' ∧ n = m ∧ ∀ k, k < n → h k = h' k)
    | .rp qs off, .ref s off' => T.gone s = true ∧ off = off' ∧ ∃ hb ps, f[s]? = some (.box hb ps) ∧ vwAll (vw f T d) qs ps ∧ qs.all (fun q => q.one && q.free) = true
    | .rp qs off, .elt s ep k off' => T.gone s = true ∧ off = off' ∧ ∃ sz rs, pown f s ep = some (sz, rs) ∧ k < rs.length ∧ vwAll (vw f T d) qs (rs.getD k []) ∧ qs.all (fun q => q.one && q.free) = true
    | q, p => q = p ∧ q.names = []
theorem vwAll_length {V : PV → PV → Prop} : ∀ {qs ps : List PV}, vwAll V qs ps → qs.length = ps.length
  | [], [], _ => rfl
  | q :: qs, p :: ps, h => by simp [vwAll_length h.2]
  | [], _ :: _, h => h.elim
  | _ :: _, [], h => h.elim
theorem vwAll_get {V : PV → PV → Prop} : ∀ {qs ps : List PV}, vwAll V qs ps → ∀ (i : Nat) (q : PV), qs[i]? = some q → ∃ p, ps[i]? = some p ∧ V q p
  | [], [], _, i, q, hq => by simp at hq
  | q' :: qs, p :: ps, h, 0, q, hq => by simp at hq; subst hq; exact ⟨p, rfl, h.1⟩
  | q' :: qs, p :: ps, h, i + 1, q, hq => vwAll_get h.2 i q (by simpa using hq)
  | [], _ :: _, h, _, _, _ => h.elim
  | _ :: _, [], h, _, _, _ => h.elim
structure TgtOk (f : PF) (T : Tgt) (R R' : Nat → Nat → Prop) (Γ Γ' : Nat → Option Loc) : Prop where
  sub : ∀ b o, R b o → R' b o
  gone : ∀ s l b, T.gone s = true → Γ s = some l → l.blk = some b → ∀ o, R' b o
  keep : ∀ i s l, T.ρ i = some s → Γ s = some l → epAt f s = none → Γ' i = some l
  rows : ∀ i s ep ep' sz l, T.ρ i = some s → Γ s = some (.rows ep sz l) → epAt T.G i = some ep' → Γ' i = some (.rows ep' sz l)
  new : ∀ i ep h e sz, T.ρ i = none → T.G[i]? = some (.rows h ep e sz []) → Γ' i = some (.rows ep sz none)
section
variable {P : Program} {N : Nat} {B : Base} {w w' : World} {R R' : Nat → Nat → Prop} {Γ Γ' : Nat → Option Loc} {a : Act} {f : PF} {T : Tgt}
theorem epAt_some {fr : PF} {i ep : Nat} (h : epAt fr i = some ep) : ∃ g e sz rs, fr[i]? = some (.rows g ep e sz rs) := by
  unfold epAt at h
  split at h
  · rename_i g ep' e sz rs hs
    obtain rfl := Option.some.inj h
    exact ⟨g, e, sz, rs, hs⟩
  · cases h
theorem epAt_pown {fr : PF} {i ep : Nat} (h : epAt fr i = some ep) : ∃ sz rs, pown fr i ep = some (sz, rs) := by
  obtain ⟨g, e, sz, rs, hs⟩ := epAt_some h
  exact ⟨sz, rs, by simp [Qg.pown, hs]⟩
theorem vw_sound (h : Sim N B R Γ a w f) (ht : TgtOk f T R R' Γ Γ') : ∀ (d : Nat) (q p : PV) (u : Value), vw f T d q p → Rep w R Γ u p → Rep w R' Γ' u q := by
  have hR : ∀ b o, R b o → R' b o ∧ w.cell? ⟨b, o, none⟩ = w.cell? ⟨b, o, none⟩ := fun b o hb => ⟨ht.sub b o hb, rfl⟩
  intro d
  induction d with
  | zero =>
    intro q p u hv hr
    rcases hv with rfl | ⟨rfl, hn⟩
    · exact .undef u
    · exact hr.free hR hn
  | succ d ih =>
    intro q p u hv hr
    have all : ∀ {us : List Value} {qs ps : List PV}, us.length = ps.length → vwAll (vw f T d) qs ps → (∀ (i : Nat) (u : Value) (p : PV), us[i]? = some u → ps[i]? = some p → Rep w R Γ u p) →
        us.length = qs.length ∧ ∀ (i : Nat) (u : Value) (q : PV), us[i]? = some u → qs[i]? = some q → Rep w R' Γ' u q := fun hl hv hr =>
      ⟨hl.trans (vwAll_length hv).symm, fun i u q hu hq => by obtain ⟨p, hp, hv⟩ := vwAll_get hv i q hq; exact ih q p u hv (hr i u p hu hp)⟩
    unfold vw at hv
    split at hv
    · exact .undef u
    · cases hr with
      | agg us _ hl _ hr =>
        obtain ⟨e1, e2⟩ := all hl hv.1 hr
        exact .agg us _ e1 (fun p hp => List.all_eq_true.1 hv.2 p hp) e2
    · cases hr with
      | tup us _ hl hr =>
        obtain ⟨e1, e2⟩ := all hl hv hr
        exact .tup us _ e1 e2
    · obtain ⟨rfl, h1, h2⟩ := hv
      cases hr with
      | clo _ uf uc _ _ l1 l2 r1 r2 =>
        obtain ⟨e1, e2⟩ := all l1 h1 r1
        obtain ⟨e3, e4⟩ := all l2 h2 r2
        exact .clo _ uf uc _ _ e1 e3 e2 e4
    · obtain ⟨rfl, h1⟩ := hv
      cases hr with
      | ifc _ v _ hr => exact .ifc _ v _ (ih _ _ v h1 hr)
    · obtain ⟨h1, rfl, h2⟩ := hv
      cases hr with
      | ref _ _ b hb => exact .ref _ _ b (ht.keep _ _ _ h1 hb h2)
    · obtain ⟨h1, h2⟩ := hv
      cases hr with
      | mp _ b hb => exact .mp _ b (ht.keep _ _ _ h1 hb h2)
    · obtain ⟨h1, rfl, rfl, h2, h3⟩ := hv
      obtain ⟨sz, rs, hown⟩ := epAt_pown h3
      obtain ⟨b, cap, hΓ, rfl⟩ := h.eltAt hr hown
      exact Rep.elt_of (ht.rows _ _ _ _ _ _ h1 hΓ h2)
    · obtain ⟨h1, rfl, rfl, rfl, h2, h3⟩ := hv
      obtain ⟨sz, rs, hown⟩ := epAt_pown h3
      obtain ⟨l, hΓ, ho, _⟩ := h.ownAt hr hown
      exact .own _ _ _ _ _ _ _ _ _ (ht.rows _ _ _ _ _ _ h1 hΓ h2) (Nat.le_refl _) (hr.oneCell rfl) fun _ => ho
    · obtain ⟨rfl, rfl, h1, hh, e, sz, h2⟩ := hv
      cases hr with
      | nil => exact .own _ _ _ _ _ _ _ _ _ (ht.new _ _ _ _ _ h1 h2) (Nat.le_refl _) rfl fun _ => ⟨rfl, rfl, rfl⟩
    · rename_i sz n hf s ep off m c
      obtain ⟨hg, rfl, rs, hown, hlen, hk⟩ := hv
      obtain ⟨l, hΓ, ho, hsz⟩ := h.ownAt hr hown
      obtain ⟨l2, fl, e, hΓ2, hfr, _⟩ := h.pown hown
      obtain ⟨l3, hΓ3, _, hrow, _, hl⟩ := h.slot s _ hfr
      rw [hΓ] at hΓ3
      simp only [Option.some.injEq, Loc.rows.injEq, true_and] at hΓ3
      subst hΓ3
      have hget : ∀ k, k < n → rs[off + k]? = some (rs.getD (off + k) []) := fun k hk => by
        have : off + k < rs.length := by omega
        simp [this]
      have hlk : ∀ k, k < n → (hf k).length = sz := fun k hkn => by
        rw [vwAll_length (hk k hkn).1]; exact (hrow _ (List.mem_of_getElem? (hget k hkn))).1
      have hof : ∀ (k j : Nat) (p : PV), k < n → (hf k)[j]? = some p → p.one = true ∧ p.names = [] := fun k j p hkn hp => by
        have := List.all_eq_true.1 (hk k hkn).2 p (List.mem_of_getElem? hp)
        simp only [Bool.and_eq_true] at this
        exact ⟨this.1, PV.free_names this.2⟩
      cases l with
      | none =>
        obtain ⟨rfl, rfl, _⟩ := ho
        exact .sl none 0 0 sz hf (fun _ _ => undef) (Nat.le_refl _) (by simp [maxLen]) (fun i hi => by omega) (fun i j p hi => by omega) (fun i j hi => by omega) (fun i j p hi => by omega)
      | some bc =>
        obtain ⟨b, cap⟩ := bc
        obtain ⟨rfl, ho2⟩ := ho
        obtain ⟨vs, g1, g2, g3, g4, g5⟩ := hl
        have hidx : ∀ k j, k < n → j < sz → off * sz + (k * sz + j) < vs.size := fun k j hk hj => by
          have : (off + k + 1) * sz ≤ cap * sz := Nat.mul_le_mul_right _ (by omega)
          rw [Nat.add_mul, Nat.add_mul] at this; omega
        refine .sl _ _ _ sz hf (fun k j => vs.getD (off * sz + (k * sz + j)) undef) (by split <;> omega) (by split <;> omega) hlk hof (fun k j hkn hj => ?_) (fun k j p hkn hp => ?_)
        · refine ⟨b, off * sz, rfl, ht.gone s _ b hg hΓ rfl _, ?_⟩
          simp [World.cell?, g1, hidx k j hkn hj]
        · obtain ⟨p', hp', hv'⟩ := vwAll_get (hk k hkn).1 j p hp
          have hj : j < sz := by have := lt_of_get? hp; rw [hlk k hkn] at this; exact this
          refine ih p p' _ hv' (g5 (off + k) j _ p' _ (hget k hkn) hp' ?_)
          rw [show (off + k) * sz + j = off * sz + (k * sz + j) from by rw [Nat.add_mul]; omega]
          simp [hidx k j hkn hj]
    · subst hv
      cases hr with
      | nil => exact .sl none 0 0 _ _ (fun _ _ => undef) (Nat.le_refl _) (by simp [maxLen]) (fun i hi => by omega) (fun i j p hi => by omega) (fun i j hi => by omega) (fun i j p hi => by omega)
    · cases hr with
      | sl A _ c _ _ us h1 h2 h3 h4 h5 h6 =>
        rcases hv with ⟨rfl, rfl⟩ | ⟨rfl, rfl, he⟩
        · exact .sl A 0 c _ _ us h1 h2 (fun i hi => by omega) (fun i j p hi => by omega) (fun i j hi => by omega) (fun i j p hi => by omega)
        · exact .sl A _ c _ _ us h1 h2 (fun i hi => by rw [he i hi]; exact h3 i hi) (fun i j p hi hp => h4 i j p hi (by rw [← he i hi]; exact hp)) (fun i j hi hj => by
            obtain ⟨b, o, hA, hRb, hc⟩ := h5 i j hi hj
            exact ⟨b, o, hA, ht.sub _ _ hRb, hc⟩) (fun i j p hi hp => by
            rw [he i hi] at hp
            exact (h6 i j p hi hp).free hR (h4 i j p hi hp).2)
    · rename_i qs off s off'
      obtain ⟨hg, rfl, hb, ps, hfr, hv, hone⟩ := hv
      obtain ⟨b, vs, ty, hΓ, _, hh, hsz, h1, h2⟩ := h.slot s _ hfr
      cases hr with
      | ref _ _ b' hb' =>
      obtain rfl : b' = b := by rw [hΓ] at hb'; simpa using hb'.symm
      have hlen := vwAll_length hv
      have := Rep.rp (w := w) (R := R') (Γ := Γ') b' 0 qs off (fun j => vs.getD j undef) (fun p hp => by
        have := List.all_eq_true.1 hone p hp
        simp only [Bool.and_eq_true] at this
        exact ⟨this.1, PV.free_names this.2⟩) (fun j hj => ⟨ht.gone s _ b' hg hΓ rfl _, by
          have hj' : j < vs.size := by omega
          simp [World.cell?, hh, hj']⟩) (fun j p hp => by
          obtain ⟨p', hp', hv'⟩ := vwAll_get hv j p hp
          have hj' : j < vs.size := by have := lt_of_get? hp; omega
          exact ih p p' _ hv' (h2 j _ p' (by simp [hj']) hp'))
      simpa using this
    · rename_i qs off s ep k off'
      obtain ⟨hg, rfl, sz, rs, hown, hk, hv, hone⟩ := hv
      obtain ⟨b, cap, hΓ, rfl⟩ := h.eltAt hr hown
      obtain ⟨l2, fl, e, hΓ2, hfr, _⟩ := h.pown hown
      obtain ⟨l3, hΓ3, _, hrow, _, hl⟩ := h.slot s _ hfr
      rw [hΓ] at hΓ3
      simp only [Option.some.injEq, Loc.rows.injEq, true_and] at hΓ3
      subst hΓ3
      obtain ⟨vs, g1, g2, g3, g4, g5⟩ := hl
      have hget : rs[k]? = some (rs.getD k []) := by simp [hk]
      have hrl := (hrow _ (List.mem_of_getElem? hget)).1
      have hlen := vwAll_length hv
      have hidx : ∀ j, j < sz → k * sz + j < vs.size := fun j hj => by
        have : (k + 1) * sz ≤ cap * sz := Nat.mul_le_mul_right _ (by omega)
        rw [Nat.add_mul] at this; omega
      exact Rep.rp b (k * sz) qs off (fun j => vs.getD (k * sz + j) undef) (fun p hp => by
        have := List.all_eq_true.1 hone p hp
        simp only [Bool.and_eq_true] at this
        exact ⟨this.1, PV.free_names this.2⟩) (fun j hj => ⟨ht.gone s _ b hg hΓ rfl _, by
          simp [World.cell?, g1, hidx j (by omega)]⟩) (fun j p hp => by
          obtain ⟨p', hp', hv'⟩ := vwAll_get hv j p hp
          have hj : j < sz := by have := lt_of_get? hp; omega
          exact ih p p' _ hv' (g5 k j _ p' _ hget hp' (by simp [hidx j hj])))
    · obtain ⟨rfl, hn⟩ := hv
      exact hr.free hR hn
end
end Go.Qg

namespace Go.Qg
open Go.RowKit (Below)
def objAt (fr : PF) (i : Nat) : Bool :=
  match fr[i]? with
  | some p => p.isObj
  | none => false
def tgtOf (f g : PF) : Tgt := ⟨g, fun i => if objAt g i && objAt f i then some i else none, fun s => !objAt g s⟩
def vo (f : PF) (T : Tgt) (d t : Nat) (q p : PV) : Prop :=
  match q with
  | .box h qs => match p with
    | .box h' ps => BoxF.fits h h' ∧ vwAll (vw f T d) qs ps ∧ qs.all (·.one) = true
    | _ => False
  | .rows h ep e sz rs => match p with
    | .rows h' ep' e' sz' rs' => (h = none ∨ (h = h' ∧ ep = ep')) ∧ ep' ≤ ep ∧ e = e' ∧ sz = sz' ∧ vwAllL f T d rs rs' ∧ rs.all (fun r => r.all (·.one)) = true
    | .box .. | .map .. => False
    | _ => h = none ∧ rs = [] ∧ 0 < sz
  | .map h ks vs => match p with
    | .map h' ks' vs' => (h = true → h' = true) ∧ vwAll (vw f T d) ks ks' ∧ vwAll (vw f T d) vs vs'
    | _ => False
  | q => vw f T d q (rdAt t p)
where
  vwAllL (f : PF) (T : Tgt) (d : Nat) : List (List PV) → List (List PV) → Prop
    | [], [] => True
    | q :: qs, p :: ps => vwAll (vw f T d) q p ∧ vwAllL f T d qs ps
    | _, _ => False
def leF (f : PF) (T : Tgt) (m d : Nat) : Nat → PF → PF → Prop
  | _, [], [] => True
  | t, q :: g, p :: f' => (vo f T d t q p ∧ (m ≤ t → p.isObj = true → q.isObj = true)) ∧ leF f T m d (t + 1) g f'
  | _, _, _ => False
theorem leF_length {f : PF} {T : Tgt} {m d : Nat} : ∀ {t : Nat} {g f' : PF}, leF f T m d t g f' → g.length = f'.length
  | _, [], [], _ => rfl
  | _, q :: g, p :: f', h => by simp [leF_length h.2]
  | _, [], _ :: _, h => h.elim
  | _, _ :: _, [], h => h.elim
theorem leF_get' {f : PF} {T : Tgt} {m d : Nat} : ∀ {t : Nat} {g f' : PF}, leF f T m d t g f' → ∀ (i : Nat) (q : PV), g[i]? = some q → ∃ p, f'[i]? = some p ∧ vo f T d (t + i) q p ∧ (m ≤ t + i → p.isObj = true → q.isObj = true)
  | _, [], [], _, i, q, hq => by simp at hq
  | t, q' :: g, p :: f', h, 0, q, hq => by simp at hq; subst hq; exact ⟨p, rfl, h.1⟩
  | t, q' :: g, p :: f', h, i + 1, q, hq => by
    obtain ⟨p', h1, h2⟩ := leF_get' h.2 i q (by simpa using hq)
    exact ⟨p', by simpa using h1, by rw [show t + (i + 1) = t + 1 + i from by omega]; exact h2⟩
  | _, [], _ :: _, h, _, _, _ => h.elim
  | _, _ :: _, [], h, _, _, _ => h.elim
theorem leF_get {f : PF} {T : Tgt} {m d : Nat} {t : Nat} {g f' : PF} (h : leF f T m d t g f') (i : Nat) (q : PV) (hq : g[i]? = some q) : ∃ p, f'[i]? = some p ∧ vo f T d (t + i) q p := by
  obtain ⟨p, h1, h2, _⟩ := leF_get' h i q hq
  exact ⟨p, h1, h2⟩
theorem vwAllL_length {f : PF} {T : Tgt} {d : Nat} : ∀ {qs ps : List (List PV)}, vo.vwAllL f T d qs ps → qs.length = ps.length
  | [], [], _ => rfl
  | q :: qs, p :: ps, h => by simp [vwAllL_length h.2]
  | [], _ :: _, h => h.elim
  | _ :: _, [], h => h.elim
theorem vwAllL_get {f : PF} {T : Tgt} {d : Nat} : ∀ {qs ps : List (List PV)}, vo.vwAllL f T d qs ps → ∀ (i : Nat) (q : List PV), qs[i]? = some q → ∃ p, ps[i]? = some p ∧ vwAll (vw f T d) q p
  | [], [], _, i, q, hq => by simp at hq
  | q' :: qs, p :: ps, h, 0, q, hq => by simp at hq; subst hq; exact ⟨p, rfl, h.1⟩
  | q' :: qs, p :: ps, h, i + 1, q, hq => vwAllL_get h.2 i q (by simpa using hq)
  | [], _ :: _, h, _, _, _ => h.elim
  | _ :: _, [], h, _, _, _ => h.elim
def Γof (Γ : Nat → Option Loc) (g : PF) : Nat → Option Loc := fun i =>
  match g[i]? with
  | some (.rows _ ep _ sz _) => match Γ i with
    | some (.rows _ sz' l) => some (.rows ep sz' l)
    | some _ => none
    | none => some (.rows ep sz none)
  | some p => if p.isObj then Γ i else none
  | none => none
section
variable {P : Program} {N : Nat} {B : Base} {w w' : World} {R R' : Nat → Nat → Prop} {Γ Γ' : Nat → Option Loc} {a : Act} {f g : PF} {m d : Nat}
theorem objAt_some {fr : PF} {i : Nat} (h : objAt fr i = true) : ∃ p, fr[i]? = some p ∧ p.isObj = true := by
  unfold objAt at h
  split at h
  · exact ⟨_, ‹_›, h⟩
  · cases h
theorem Γof_blk {i b : Nat} {l : Loc} (h : Γof Γ g i = some l) (hb : l.blk = some b) : ∃ m, Γ i = some m ∧ m.blk = some b := by
  unfold Γof at h
  split at h
  · split at h
    · rename_i ep' sz' l' hΓ
      obtain rfl := Option.some.inj h
      exact ⟨_, hΓ, hb⟩
    · cases h
    · obtain rfl := Option.some.inj h
      cases hb
  · split at h
    · exact ⟨l, h, hb⟩
    · cases h
  · cases h
theorem Γof_obj {i : Nat} {l : Loc} (h : Γof Γ g i = some l) : objAt g i = true := by
  unfold Γof at h
  unfold objAt
  split at h
  · rename_i hg; rw [hg]; rfl
  · rename_i p hp hg
    rw [hg]
    split at h
    · assumption
    · cases h
  · cases h
def freed (R : Nat → Nat → Prop) (Γ : Nat → Option Loc) (g : PF) : Nat → Nat → Prop := fun b o => R b o ∨ ∃ s l, objAt g s = false ∧ Γ s = some l ∧ l.blk = some b
theorem tgt_ok (h : Sim N B R Γ a w f) (hle : leF f (tgtOf f g) m d 0 g f) : TgtOk f (tgtOf f g) R (freed R Γ g) Γ (Γof Γ g) := by
  have hρ : ∀ i s, (tgtOf f g).ρ i = some s → s = i ∧ objAt g i = true ∧ objAt f i = true := fun i s hs => by
    simp only [tgtOf] at hs
    split at hs
    · rename_i hc
      simp only [Bool.and_eq_true] at hc
      exact ⟨(Option.some.inj hs).symm, hc⟩
    · cases hs
  refine ⟨fun b o hb => .inl hb, fun s l b hg hΓ hb o => .inr ⟨s, l, by simpa [tgtOf] using hg, hΓ, hb⟩, fun i s l hs hΓ he => ?_, fun i s ep ep' sz l hs hΓ he => ?_, fun i ep hh e sz hs hg => ?_⟩
  · obtain ⟨rfl, h1, h2⟩ := hρ i s hs
    obtain ⟨q, hq, ho⟩ := objAt_some h1
    obtain ⟨p, hp, hv⟩ := leF_get hle _ q hq
    obtain ⟨p', hp', ho'⟩ := objAt_some h2
    rw [hp] at hp'
    obtain rfl := Option.some.inj hp'
    cases q with
    | rows fl ep e sz rs =>
      exfalso
      cases p with
      | rows => simp [epAt, hp] at he
      | box => exact hv
      | map => exact hv
      | _ => cases ho'
    | box => simp only [Γof, hq]; exact hΓ
    | map => simp only [Γof, hq]; exact hΓ
    | _ => cases ho
  · obtain ⟨rfl, h1, h2⟩ := hρ i s hs
    obtain ⟨fl, e, sz', rs, hg⟩ := epAt_some he
    have hg' : g[s]? = some (.rows fl ep' e sz' rs) := hg
    simp only [Γof, hg', hΓ]
  · have hg' : g[i]? = some (.rows hh ep e sz []) := hg
    have h1 : objAt g i = true := by simp [objAt, hg', PV.isObj]
    have h2 : objAt f i = false := by
      simp only [tgtOf, h1, Bool.true_and] at hs
      by_cases hf : objAt f i = true
      · rw [if_pos hf] at hs; cases hs
      · simpa using hf
    have hn : Γ i = none := h.noObj fun p hp => by simpa [objAt, hp] using h2
    simp only [Γof, hg', hn]
theorem weak_le (h : Sim N B R Γ a w f) (hle : leF f (tgtOf f g) B.lo d 0 g f) : Sim N B (freed R Γ g) (Γof Γ g) a w g := by
  have ht := tgt_ok h hle
  have hR : ∀ b o, R b o → freed R Γ g b o ∧ w.cell? ⟨b, o, none⟩ = w.cell? ⟨b, o, none⟩ := fun b o hb => ⟨.inl hb, rfl⟩
  have all : ∀ {us : List Value} {qs ps : List PV}, us.length = ps.length → vwAll (vw f (tgtOf f g) d) qs ps → (∀ (i : Nat) (u : Value) (p : PV), us[i]? = some u → ps[i]? = some p → Rep w R Γ u p) →
      us.length = qs.length ∧ ∀ (i : Nat) (u : Value) (q : PV), us[i]? = some u → qs[i]? = some q → Rep w (freed R Γ g) (Γof Γ g) u q := fun hl hv hr =>
    ⟨hl.trans (vwAll_length hv).symm, fun i u q hu hq => by obtain ⟨p, hp, hv⟩ := vwAll_get hv i q hq; exact vw_sound h ht d q p u hv (hr i u p hu hp)⟩
  refine ⟨h.size, by rw [leF_length hle]; exact h.len, fun t q hq => ?_, fun i j l m b hi hj hl hm => ?_, fun i l hi => ?_, fun b o hbo => ?_, fun b o hbo => ?_, h.kept, h.prot, h.lo, fun j l hj hl => ?_, h.defers⟩
  · obtain ⟨p, hp, hv⟩ := leF_get hle t q hq
    rw [Nat.zero_add] at hv
    have val : vw f (tgtOf f g) d q (rdAt t p) → SlotRep N w (freed R Γ g) (Γof Γ g) t (a.tmps.getD t undef) q := fun hv => (vw_sound h ht d q _ _ hv (h.rdAt hp)).slot
    cases q with
    | box fl qs =>
      cases p with
      | box fl' ps =>
        obtain ⟨e1, e2, e3⟩ := hv
        obtain ⟨b, vs, ty, h1, h2, h3, h4, h5, h6⟩ := h.slot t _ hp
        obtain ⟨l1, l2⟩ := all (us := vs.toList) (by simpa using h4) e2 (fun i u p hu hp => h6 i u p (by simpa using hu) hp)
        exact ⟨b, vs, ty, by simp only [Γof, hq]; exact h1, ⟨fun e => h2.1 (e1.1 e), fun y e => h2.2 y (e1.2 y e)⟩, h3, by simpa using l1, fun p hp => List.all_eq_true.1 e3 p hp, fun j x p hx hp => l2 j x p (by simpa using hx) hp⟩
      | _ => exact hv.elim
    | map fl ks vs =>
      cases p with
      | map fl' ks' vs' =>
        obtain ⟨e1, e2, e3⟩ := hv
        obtain ⟨b, es, clock, h1, h2, h3, h4, h5, h6, h7⟩ := h.slot t _ hp
        obtain ⟨l1, l2⟩ := all (us := es.toList.map (·.key)) (by simpa using h4) e2 (fun i u p hu hp => by
          rw [List.getElem?_map] at hu
          simp only [Option.map_eq_some_iff] at hu
          obtain ⟨x, hx, rfl⟩ := hu
          exact h6 i x p (by simpa using hx) hp)
        obtain ⟨l3, l4⟩ := all (us := es.toList.map (·.val)) (by simpa using h5) e3 (fun i u p hu hp => by
          rw [List.getElem?_map] at hu
          simp only [Option.map_eq_some_iff] at hu
          obtain ⟨x, hx, rfl⟩ := hu
          exact h7 i x p (by simpa using hx) hp)
        exact ⟨b, es, clock, by simp only [Γof, hq]; exact h1, fun e => h2 (e1 e), h3, by simpa using l1, by simpa using l3, fun j x p hx hp => l2 j x.key p (by rw [List.getElem?_map, Array.getElem?_toList, hx]; rfl) hp, fun j x p hx hp => l4 j x.val p (by rw [List.getElem?_map, Array.getElem?_toList, hx]; rfl) hp⟩
      | _ => exact hv.elim
    | rows fl ep e sz rs =>
      have fresh : p.isObj = false → fl = none ∧ rs = [] ∧ 0 < sz → SlotRep N w (freed R Γ g) (Γof Γ g) t (a.tmps.getD t undef) (.rows fl ep e sz rs) := fun ho ⟨e1, e2, e3⟩ => by
        subst e1 e2
        have hn : Γ t = none := h.noObj fun p' hp' => by rw [hp] at hp'; obtain rfl := Option.some.inj hp'; exact ho
        exact ⟨none, by simp only [Γof, hq, hn], fun ep0 n0 e => (by cases e), fun r hr => (by cases hr), e3, rfl⟩
      cases p with
      | rows fl' ep' e' sz' rs' =>
        obtain ⟨e1, _, rfl, rfl, e4, e5⟩ := hv
        obtain ⟨l, h1, h2, h3, h4, h5⟩ := h.slot t _ hp
        have hΓ' : Γof Γ g t = some (.rows ep sz l) := by simp only [Γof, hq, h1]
        refine ⟨l, hΓ', fun ep0 n0 he => ?_, fun r hr => ?_, h4, ?_⟩
        · rcases e1 with rfl | ⟨rfl, rfl⟩
          · cases he
          · refine ⟨(h2 ep0 n0 he).1, (h2 ep0 n0 he).2.mono hR fun i hi => ?_⟩
            obtain rfl : i = t := by simpa [PV.names] using hi
            intro m hm
            rw [h1] at hm
            obtain rfl := Option.some.inj hm
            exact ⟨_, hΓ', Loc.le_refl _⟩
        · obtain ⟨i, hi⟩ := List.mem_iff_getElem?.1 hr
          obtain ⟨r', hr', hv'⟩ := vwAllL_get e4 i r hi
          exact ⟨(vwAll_length hv').trans (h3 r' (List.mem_of_getElem? hr')).1, fun p hp => List.all_eq_true.1 (List.all_eq_true.1 e5 r hr) p hp⟩
        · cases l with
          | none =>
            subst h5
            exact List.eq_nil_of_length_eq_zero (vwAllL_length e4)
          | some bc =>
            obtain ⟨b, cap⟩ := bc
            obtain ⟨vs, g1, g2, g3, g4, g5⟩ := h5
            refine ⟨vs, g1, by rw [vwAllL_length e4]; exact g2, g3, g4, fun i j r p x hr hp hx => ?_⟩
            obtain ⟨r', hr', hv'⟩ := vwAllL_get e4 i r hr
            obtain ⟨p', hp', hv''⟩ := vwAll_get hv' j p hp
            exact vw_sound h ht d p p' x hv'' (g5 i j r' p' x hr' hp' hx)
      | box => exact hv.elim
      | map => exact hv.elim
      | _ => exact fresh rfl hv
    | _ => exact val hv
  · obtain ⟨l', h1, h2⟩ := Γof_blk hi hl
    obtain ⟨m', h3, h4⟩ := Γof_blk hj hm
    exact h.inj i j l' m' b h1 h3 h2 h4
  · have ho := Γof_obj hi
    refine ⟨objAt_some ho, fun b hb => ?_⟩
    obtain ⟨l', h1, h2⟩ := Γof_blk hi hb
    obtain ⟨h3, h4, h5⟩ := (h.own i l' h1).2 b h2
    refine ⟨h3, h4, fun o hR' => ?_⟩
    rcases hR' with hR' | ⟨s, m, hs, hm, hmb⟩
    · exact h5 o hR'
    · obtain rfl := h.inj s i m l' b hm h1 hmb h2
      rw [ho] at hs; cases hs
  · rcases hbo with hbo | ⟨s, l, _, hs, hb⟩
    · exact h.bnd b o hbo
    · exact ((h.own s l hs).2 b hb).2.1
  · rcases hbo with hbo | ⟨s, l, _, hs, hb⟩
    · exact h.sub b o hbo
    · exact .inr ((h.own s l hs).2 b hb).1
  · obtain ⟨l1, h1, h2⟩ := h.base j l hj hl
    obtain ⟨⟨p, hp, ho⟩, _⟩ := h.own j l1 h1
    have hlt := lt_of_get? hp
    rw [← leF_length hle] at hlt
    have hq : g[j]? = some (g[j]) := List.getElem?_eq_getElem hlt
    obtain ⟨p', hp', hv, hk⟩ := leF_get' hle j _ hq
    rw [hp] at hp'
    obtain rfl := Option.some.inj hp'
    rw [Nat.zero_add] at hv hk
    have hqo := hk hj ho
    generalize g[j] = q at hq hv hqo
    cases q with
    | rows fl ep e sz rs =>
      cases p with
      | rows fl' ep' e' sz' rs' =>
        obtain ⟨_, hep, _⟩ := hv
        obtain ⟨l3, h3, _⟩ := h.slot j _ hp
        rw [h1] at h3
        obtain rfl := Option.some.inj h3
        refine ⟨.rows ep sz' l3, by simp only [Γof, hq, h1], Loc.le_trans h2 ?_⟩
        rcases Nat.lt_or_eq_of_le hep with he | rfl
        · exact Loc.rows_le he
        · exact Loc.le_refl _
      | box => exact hv.elim
      | map => exact hv.elim
      | _ => cases ho
    | box => exact ⟨l1, by simp only [Γof, hq]; exact h1, h2⟩
    | map => exact ⟨l1, by simp only [Γof, hq]; exact h1, h2⟩
    | _ => cases hqo
end
end Go.Qg

namespace Go.Qg
open Go.RowKit (Below)
def noAct : Act := { tmps := #[], defers := [] }
inductive Out where
  | ret (r : PV) (H : PF)
  | pan (p : PV) (H : PF)
def Left (Prot : Nat → Prop) (w : World) (R : Nat → Nat → Prop) (Γ : Nat → Option Loc) (Q : Out → Prop) (e : Ending) (w' : World) : Prop :=
  ∃ R' Γ',
    ((∃ v r H, e = .returned v ∧ Q (.ret r H) ∧ Rep w' R' Γ' v r ∧ Sim 0 ⟨Prot, w, R, Γ, 0, []⟩ R' Γ' noAct w' H ∧ ∀ q ∈ H, q.isObj = true) ∨
     (∃ v p H, e = .panicked [{ v := v, recovered := false }] ∧ Q (.pan p H) ∧ Rep w' R' Γ' v p ∧ Sim 0 ⟨Prot, w, R, Γ, 0, []⟩ R' Γ' noAct w' H ∧ ∀ q ∈ H, q.isObj = true))
def CallW (P : Program) (f : FuncId) (args : List PV) (H : PF) (Q : Out → Prop) : Prop :=
  (∀ (vs : Array Value) (w : World), (callFunc f vs).run P w = .ok (.enter f vs) w) ∧
  ∀ (w : World) (vs : List Value) (R : Nat → Nat → Prop) (Γ : Nat → Option Loc) (Prot : Nat → Prop), (∀ b o, R b o → Prot b) → Sim 0 ⟨Prot, w, R, Γ, 0, []⟩ R Γ noAct w H → vs.length = args.length →
    (∀ (i : Nat) (u : Value) (p : PV), vs[i]? = some u → args[i]? = some p → Rep w R Γ u p) → Calls P f vs.toArray w (Left Prot w R Γ Q)
def Spec (P : Program) (f : FuncId) (args : List PV) (r : PV) : Prop := CallW P f args [] fun out => out = .ret r []
theorem Left.mono {Prot : Nat → Prop} {w : World} {R : Nat → Nat → Prop} {Γ : Nat → Option Loc} {Q Q' : Out → Prop} (h : ∀ o, Q o → Q' o) {e : Ending} {w' : World} (hl : Left Prot w R Γ Q e w') : Left Prot w R Γ Q' e w' := by
  obtain ⟨R', Γ', h2⟩ := hl
  refine ⟨R', Γ', ?_⟩
  rcases h2 with ⟨v, r, H, e1, e2, e3⟩ | ⟨v, p, H, e1, e2, e3⟩
  · exact .inl ⟨v, r, H, e1, h _ e2, e3⟩
  · exact .inr ⟨v, p, H, e1, h _ e2, e3⟩
theorem CallW.mono {P : Program} {f : FuncId} {args : List PV} {H : PF} {Q Q' : Out → Prop} (h : CallW P f args H Q) (hq : ∀ o, Q o → Q' o) : CallW P f args H Q' :=
  ⟨h.1, fun w vs R Γ Prot h1 h2 h3 h4 => (h.2 w vs R Γ Prot h1 h2 h3 h4).mono fun _ _ hl => hl.mono hq⟩
mutual
def PV.ren (π : Nat → Nat) : PV → PV
  | .agg cs => .agg (renL π cs)
  | .tup cs => .tup (renL π cs)
  | .clo fn first cap => .clo fn (renL π first) (renL π cap)
  | .ref i off => .ref (π i) off
  | .elt i ep k f => .elt (π i) ep k f
  | .own i ep off n c => .own (π i) ep off n c
  | .mp i => .mp (π i)
  | .ifc t p => .ifc t (p.ren π)
  | .box h cs => .box h (renL π cs)
  | .rows h ep e sz rs => .rows h ep e sz (renLL π rs)
  | .map h ks vs => .map h (renL π ks) (renL π vs)
  | .undef => .undef
  | .v x => .v x
  | .nil => .nil
  | .sl sz n f => .sl sz n f
  | .slc sz n f => .slc sz n f
  | .rp cs off => .rp cs off
def renL (π : Nat → Nat) : List PV → List PV
  | [] => []
  | p :: ps => p.ren π :: renL π ps
def renLL (π : Nat → Nat) : List (List PV) → List (List PV)
  | [] => []
  | ps :: pss => renL π ps :: renLL π pss
end
theorem renL_get (π : Nat → Nat) : ∀ (ps : List PV) (i : Nat), (renL π ps)[i]? = (ps[i]?).map (·.ren π)
  | [], i => by simp [renL]
  | p :: ps, 0 => by simp [renL]
  | p :: ps, i + 1 => by simp [renL, renL_get π ps i]
theorem renL_length (π : Nat → Nat) : ∀ (ps : List PV), (renL π ps).length = ps.length
  | [] => rfl
  | p :: ps => by simp [renL, renL_length π ps]
theorem renLL_get (π : Nat → Nat) : ∀ (ps : List (List PV)) (i : Nat), (renLL π ps)[i]? = (ps[i]?).map (renL π)
  | [], i => by simp [renLL]
  | p :: ps, 0 => by simp [renLL]
  | p :: ps, i + 1 => by simp [renLL, renLL_get π ps i]
theorem renLL_length (π : Nat → Nat) : ∀ (ps : List (List PV)), (renLL π ps).length = ps.length
  | [] => rfl
  | p :: ps => by simp [renLL, renLL_length π ps]
theorem PV.ren_one (π : Nat → Nat) (p : PV) : (p.ren π).one = p.one := by cases p <;> simp [PV.ren, PV.one]
theorem PV.ren_obj (π : Nat → Nat) (p : PV) : (p.ren π).isObj = p.isObj := by cases p <;> simp [PV.ren, PV.isObj]
theorem renL_mem {π : Nat → Nat} {ps : List PV} {q : PV} (h : q ∈ renL π ps) : ∃ p ∈ ps, q = p.ren π := by
  obtain ⟨i, hi⟩ := List.mem_iff_getElem?.1 h
  rw [renL_get] at hi
  simp only [Option.map_eq_some_iff] at hi
  obtain ⟨p, hp, rfl⟩ := hi
  exact ⟨p, List.mem_of_getElem? hp, rfl⟩
theorem PV.ren_free (π : Nat → Nat) (p : PV) (h : p.names = []) : p.ren π = p := by
  refine PV.rec (motive_1 := fun p => p.names = [] → p.ren π = p) (motive_2 := fun ps => namesL ps = [] → renL π ps = ps) (motive_3 := fun pss => namesLL pss = [] → renLL π pss = pss) ?_ ?_ ?_ ?_ ?_ ?_ ?_ ?_ ?_ ?_ ?_ ?_ ?_ ?_ ?_ ?_ ?_ ?_ ?_ ?_ ?_ p h
  · intro _; rfl
  · intro x _; rfl
  · intro _; rfl
  · intro cs ih h; simp only [PV.ren]; rw [ih (by simpa [PV.names] using h)]
  · intro cs ih h; simp only [PV.ren]; rw [ih (by simpa [PV.names] using h)]
  · intro sz n f _ _; rfl
  · intro sz n f _ _; rfl
  · intro cs off _ _; rfl
  · intro fn first cap ih1 ih2 h
    have := (by simpa [PV.names] using h : namesL first = [] ∧ namesL cap = [])
    simp only [PV.ren]; rw [ih1 this.1, ih2 this.2]
  · intro i off h; simp [PV.names] at h
  · intro i ep k f h; simp [PV.names] at h
  · intro i ep off n c h; simp [PV.names] at h
  · intro i h; simp [PV.names] at h
  · intro t p ih h; simp only [PV.ren]; rw [ih (by simpa [PV.names] using h)]
  · intro f cs ih h; simp only [PV.ren]; rw [ih (by simpa [PV.names] using h)]
  · intro f ep e sz rs ih h; simp only [PV.ren]; rw [ih (by simpa [PV.names] using h)]
  · intro f ks vs ih1 ih2 h
    have := (by simpa [PV.names] using h : namesL ks = [] ∧ namesL vs = [])
    simp only [PV.ren]; rw [ih1 this.1, ih2 this.2]
  · intro _; rfl
  · intro p ps ih1 ih2 h
    have := (by simpa [namesL] using h : p.names = [] ∧ namesL ps = [])
    simp only [renL]; rw [ih1 this.1, ih2 this.2]
  · intro _; rfl
  · intro ps pss ih1 ih2 h
    have := (by simpa [namesLL] using h : namesL ps = [] ∧ namesLL pss = [])
    simp only [renLL]; rw [ih1 this.1, ih2 this.2]
end Go.Qg

namespace Go.Qg
open Go.RowKit (Below)
mutual
def PV.flat : PV → Bool
  | .agg cs | .tup cs | .box _ cs => flatL cs
  | .map _ ks vs => flatL ks && flatL vs
  | .clo _ first cap => flatL first && flatL cap
  | .ifc _ p => p.flat
  | .rows _ _ _ _ rs => flatLL rs
  | .sl .. | .slc .. | .rp .. => false
  | _ => true
def flatL : List PV → Bool
  | [] => true
  | p :: ps => p.flat && flatL ps
def flatLL : List (List PV) → Bool
  | [] => true
  | ps :: pss => flatL ps && flatLL pss
end
theorem flatL_mem : ∀ {ps : List PV}, flatL ps = true → ∀ p ∈ ps, p.flat = true
  | [], _, p, hp => by cases hp
  | q :: ps, h, p, hp => by
    simp only [flatL, Bool.and_eq_true] at h
    rcases List.mem_cons.1 hp with rfl | hp
    · exact h.1
    · exact flatL_mem h.2 p hp
theorem flatLL_mem : ∀ {pss : List (List PV)}, flatLL pss = true → ∀ ps ∈ pss, flatL ps = true
  | [], _, p, hp => by cases hp
  | q :: ps, h, p, hp => by
    simp only [flatLL, Bool.and_eq_true] at h
    rcases List.mem_cons.1 hp with rfl | hp
    · exact h.1
    · exact flatLL_mem h.2 p hp
section
variable {P : Program} {N : Nat} {B : Base} {w w' : World} {R R' : Nat → Nat → Prop} {Γ Γ' : Nat → Option Loc} {a : Act} {f g : PF} {d : Nat} {π : Nat → Nat}
theorem Rep.ren {u : Value} {p : PV} (hr : Rep w R Γ u p) (hk : p.flat = true ∨ ∀ b o, R b o → R' b o ∧ w'.cell? ⟨b, o, none⟩ = w.cell? ⟨b, o, none⟩)
    (hΓ : ∀ i ∈ p.names, ∀ l, Γ i = some l → ∃ l', Γ' (π i) = some l' ∧ Loc.le l l') : Rep w' R' Γ' u (p.ren π) := by
  induction hr with
  | undef u => exact .undef u
  | v x hx => exact .v x hx
  | nil => exact .nil
  | agg us cs hl h1 _ ih =>
    refine .agg us _ (by rw [renL_length]; exact hl) (fun q hq => ?_) (fun i u q hu hq => ?_)
    · obtain ⟨p, hp, rfl⟩ := renL_mem hq
      rw [PV.ren_one]; exact h1 p hp
    · rw [renL_get] at hq
      simp only [Option.map_eq_some_iff] at hq
      obtain ⟨p, hp, rfl⟩ := hq
      exact ih i u p hu hp (hk.imp_left fun h => flatL_mem (by simpa [PV.flat] using h) p (List.mem_of_getElem? hp)) fun j hj => hΓ j (mem_namesL.2 ⟨p, List.mem_of_getElem? hp, hj⟩)
  | tup us cs hl _ ih =>
    refine .tup us _ (by rw [renL_length]; exact hl) (fun i u q hu hq => ?_)
    rw [renL_get] at hq
    simp only [Option.map_eq_some_iff] at hq
    obtain ⟨p, hp, rfl⟩ := hq
    exact ih i u p hu hp (hk.imp_left fun h => flatL_mem (by simpa [PV.flat] using h) p (List.mem_of_getElem? hp)) fun j hj => hΓ j (mem_namesL.2 ⟨p, List.mem_of_getElem? hp, hj⟩)
  | sl A n c sz f us hn hc hl h1 hcell hr ih =>
    rcases hk with hk | hk
    · cases hk
    · refine .sl A n c sz f us hn hc hl h1 (fun i j hi hj => ?_) fun i j p hi hp => (hr i j p hi hp).free hk (h1 i j p hi hp).2
      obtain ⟨b, o, hA, hR, hcl⟩ := hcell i j hi hj
      exact ⟨b, o, hA, (hk _ _ hR).1, (hk _ _ hR).2.trans hcl⟩
  | slc A n sz f hr ih =>
    rcases hk with hk | hk
    · cases hk
    · exact .slc A n sz f (hr.free hk rfl)
  | rp b o cs off us h1 hcell hr ih =>
    rcases hk with hk | hk
    · cases hk
    · exact .rp b o cs off us h1 (fun j hj => ⟨(hk _ _ (hcell j hj).1).1, (hk _ _ (hcell j hj).1).2.trans (hcell j hj).2⟩) fun j p hp => (hr j p hp).free hk (h1 p (List.mem_of_getElem? hp)).2
  | clo fn uf uc first cap h1 h2 _ _ ih1 ih2 =>
    refine .clo fn uf uc _ _ (by rw [renL_length]; exact h1) (by rw [renL_length]; exact h2) (fun i u q hu hq => ?_) (fun i u q hu hq => ?_)
    · rw [renL_get] at hq
      simp only [Option.map_eq_some_iff] at hq
      obtain ⟨p, hp, rfl⟩ := hq
      exact ih1 i u p hu hp (hk.imp_left fun h => by
        simp only [PV.flat, Bool.and_eq_true] at h
        exact flatL_mem h.1 p (List.mem_of_getElem? hp)) fun j hj => hΓ j (by simp only [PV.names, List.mem_append]; exact .inl (mem_namesL.2 ⟨p, List.mem_of_getElem? hp, hj⟩))
    · rw [renL_get] at hq
      simp only [Option.map_eq_some_iff] at hq
      obtain ⟨p, hp, rfl⟩ := hq
      exact ih2 i u p hu hp (hk.imp_left fun h => by
        simp only [PV.flat, Bool.and_eq_true] at h
        exact flatL_mem h.2 p (List.mem_of_getElem? hp)) fun j hj => hΓ j (by simp only [PV.names, List.mem_append]; exact .inr (mem_namesL.2 ⟨p, List.mem_of_getElem? hp, hj⟩))
  | ref i off b hb =>
    obtain ⟨l', h1, h2⟩ := hΓ i (by simp [PV.names]) _ hb
    rcases h2 with rfl | ⟨_, _, _, _, _, _, h3, _⟩
    · exact .ref _ off b h1
    · cases h3
  | elt i ep k f u ep' sz l hl h1 h2 h3 =>
    obtain ⟨l', h4, h5⟩ := hΓ i (by simp [PV.names]) _ hl
    rcases h5 with rfl | ⟨_, _, _, ep2, sz2, m2, h6, rfl, h7⟩
    · exact .elt _ ep k f u ep' sz l h4 h1 h2 h3
    · cases h6
      exact .elt _ ep k f u ep2 sz2 m2 h4 (by omega) h2 (fun e => by omega)
  | own i ep off n c u ep' sz l hl h1 h2 h3 =>
    obtain ⟨l', h4, h5⟩ := hΓ i (by simp [PV.names]) _ hl
    rcases h5 with rfl | ⟨_, _, _, ep2, sz2, m2, h6, rfl, h7⟩
    · exact .own _ ep off n c u ep' sz l h4 h1 h2 h3
    · cases h6
      exact .own _ ep off n c u ep2 sz2 m2 h4 (by omega) h2 (fun e => by omega)
  | mp i b hb =>
    obtain ⟨l', h1, h2⟩ := hΓ i (by simp [PV.names]) _ hb
    rcases h2 with rfl | ⟨_, _, _, _, _, _, h3, _⟩
    · exact .mp _ b h1
    · cases h3
  | ifc t u p _ ih => exact .ifc t u _ (ih (hk.imp_left fun h => by simpa [PV.flat] using h) hΓ)
theorem SlotRep.ren {t : Nat} {u u' : Value} {p : PV} (hs : SlotRep 0 w R Γ t u p) (ho : p.isObj = true) (hk : p.flat = true ∨ ∀ b o, R b o → R' b o ∧ w'.cell? ⟨b, o, none⟩ = w.cell? ⟨b, o, none⟩)
    (hΓ : ∀ i ∈ p.names, ∀ l, Γ i = some l → ∃ l', Γ' (π i) = some l' ∧ Loc.le l l') (ht : Γ' (π t) = Γ t) (hb : ∀ l b, Γ t = some l → l.blk = some b → w'.heap[b]? = w.heap[b]?) (N : Nat) : SlotRep N w' R' Γ' (π t) u' (p.ren π) := by
  have parts : ∀ {cs : List PV} {r : Nat → Option Value}, (flatL cs = true ∨ ∀ b o, R b o → R' b o ∧ w'.cell? ⟨b, o, none⟩ = w.cell? ⟨b, o, none⟩) → (∀ i ∈ namesL cs, ∀ l, Γ i = some l → ∃ l', Γ' (π i) = some l' ∧ Loc.le l l') →
      (∀ (j : Nat) (x : Value) (p : PV), r j = some x → cs[j]? = some p → Rep w R Γ x p) → ∀ (j : Nat) (x : Value) (q : PV), r j = some x → (renL π cs)[j]? = some q → Rep w' R' Γ' x q := fun hk hΓ hr j x q hx hq => by
    rw [renL_get] at hq
    simp only [Option.map_eq_some_iff] at hq
    obtain ⟨p, hp, rfl⟩ := hq
    exact (hr j x p hx hp).ren (hk.imp_left fun h => flatL_mem h p (List.mem_of_getElem? hp)) fun i hi => hΓ i (mem_namesL.2 ⟨p, List.mem_of_getElem? hp, hi⟩)
  have ones : ∀ {cs : List PV}, (∀ p ∈ cs, p.one = true) → ∀ q ∈ renL π cs, q.one = true := fun hc q hq => by
    obtain ⟨p, hp, rfl⟩ := renL_mem hq
    rw [PV.ren_one]; exact hc p hp
  cases p with
  | box fl cs =>
    obtain ⟨b, us, ty, h1, h2, h3, h4, h5, h6⟩ := hs
    exact ⟨b, us, ty, ht.trans h1, ⟨fun e => by have := (h2.1 e).1; omega, h2.2⟩, (hb _ b h1 rfl).trans h3, by rw [renL_length]; exact h4, ones h5, parts (r := fun j => us[j]?) (hk.imp_left fun h => by simpa [PV.flat] using h) (fun i hi => hΓ i (by simpa [PV.names] using hi)) h6⟩
  | map fl ks us =>
    obtain ⟨b, es, clock, h1, h2, h3, h4, h5, h6, h7⟩ := hs
    refine ⟨b, es, clock, ht.trans h1, fun e => by have := (h2 e).1; omega, (hb _ b h1 rfl).trans h3, by rw [renL_length]; exact h4, by rw [renL_length]; exact h5, fun j x q hx hq => ?_, fun j x q hx hq => ?_⟩
    · exact parts (r := fun j => (es[j]?).map (·.key)) (hk.imp_left fun h => by simp only [PV.flat, Bool.and_eq_true] at h; exact h.1) (fun i hi => hΓ i (by simp only [PV.names, List.mem_append]; exact .inl hi)) (fun j u p hu hp => by
        simp only [Option.map_eq_some_iff] at hu
        obtain ⟨y, hy, rfl⟩ := hu
        exact h6 j y p hy hp) j x.key q (by simp [hx]) hq
    · exact parts (r := fun j => (es[j]?).map (·.val)) (hk.imp_left fun h => by simp only [PV.flat, Bool.and_eq_true] at h; exact h.2) (fun i hi => hΓ i (by simp only [PV.names, List.mem_append]; exact .inr hi)) (fun j u p hu hp => by
        simp only [Option.map_eq_some_iff] at hu
        obtain ⟨y, hy, rfl⟩ := hu
        exact h7 j y p hy hp) j x.val q (by simp [hx]) hq
  | rows fl ep e sz rs =>
    obtain ⟨l, h1, h2, h3, h4, h5⟩ := hs
    refine ⟨l, ht.trans h1, fun ep0 n0 e => by have := (h2 ep0 n0 e).1; omega, fun r hr => ?_, h4, ?_⟩
    · obtain ⟨i, hi⟩ := List.mem_iff_getElem?.1 hr
      rw [renLL_get] at hi
      simp only [Option.map_eq_some_iff] at hi
      obtain ⟨r', hr', rfl⟩ := hi
      have := h3 r' (List.mem_of_getElem? hr')
      exact ⟨by rw [renL_length]; exact this.1, ones this.2⟩
    · cases l with
      | none => subst h5; rfl
      | some bc =>
        obtain ⟨b, cap⟩ := bc
        obtain ⟨us, g1, g2, g3, g4, g5⟩ := h5
        refine ⟨us, (hb _ b h1 rfl).trans g1, by rw [renLL_length]; exact g2, g3, g4, fun i j r q x hr hq hx => ?_⟩
        rw [renLL_get] at hr
        simp only [Option.map_eq_some_iff] at hr
        obtain ⟨r', hr', rfl⟩ := hr
        exact parts (r := fun j => us[i * sz + j]?) (hk.imp_left fun h => flatLL_mem (by simpa [PV.flat] using h) r' (List.mem_of_getElem? hr')) (fun k hk => hΓ k (by simp only [PV.names]; exact mem_namesLL.2 ⟨r', List.mem_of_getElem? hr', hk⟩)) (fun j x p hx hp => g5 i j r' p x hr' hp hx) j x q hx hq
  | _ => cases ho
def frame0 (M : Nat) (args : List PV) (H : PF) : PF := renL (M + ·) args ++ List.replicate (M - args.length) .undef ++ renL (M + ·) H
def base0 (Prot : Nat → Prop) (w : World) (R : Nat → Nat → Prop) (Γ : Nat → Option Loc) (M : Nat) : Base := ⟨Prot, w, R, fun i => if M ≤ i then Γ (i - M) else none, M, []⟩
theorem Sim.enter {Prot : Nat → Prop} {M : Nat} (h : Sim 0 ⟨Prot, w, R, Γ, 0, []⟩ R Γ noAct w f) {vs : List Value} {args : List PV} (hl : vs.length = args.length) (hargs : ∀ (i : Nat) (u : Value) (p : PV), vs[i]? = some u → args[i]? = some p → Rep w R Γ u p) (hN : args.length ≤ N) (hM : N ≤ M) :
    Sim N (base0 Prot w R Γ M) R (fun i => if M ≤ i then Γ (i - M) else none) { tmps := vs.toArray ++ Array.replicate (N - vs.toArray.size) undef, defers := [] } w (frame0 M args f) := by
  have hk : ∀ b o, R b o → R b o ∧ w.cell? ⟨b, o, none⟩ = w.cell? ⟨b, o, none⟩ := fun b o hb => ⟨hb, rfl⟩
  have hΓ : ∀ i, (fun i => if M ≤ i then Γ (i - M) else none) (M + i) = Γ i := fun i => by
    dsimp only
    rw [if_pos (by omega), Nat.add_sub_cancel_left]
  have hlen : (renL (M + ·) args ++ List.replicate (M - args.length) PV.undef).length = M := by simp [renL_length]; omega
  have hget : ∀ t q, (frame0 M args f)[t]? = some q → (t < args.length ∧ ∃ p, args[t]? = some p ∧ q = p.ren (M + ·)) ∨ (M ≤ t ∧ ∃ p, f[t - M]? = some p ∧ q = p.ren (M + ·)) ∨ q = .undef := fun t q hq => by
    unfold frame0 at hq
    by_cases h1 : t < args.length
    · rw [List.append_assoc, List.getElem?_append_left (by rw [renL_length]; exact h1), renL_get] at hq
      simp only [Option.map_eq_some_iff] at hq
      obtain ⟨p, hp, rfl⟩ := hq
      exact .inl ⟨h1, p, hp, rfl⟩
    · by_cases h2 : t < M
      · rw [List.append_assoc, List.getElem?_append_right (by rw [renL_length]; omega), List.getElem?_append_left (by simp [renL_length]; omega), List.getElem?_replicate] at hq
        split at hq
        · exact .inr (.inr (Option.some.inj hq).symm)
        · cases hq
      · rw [List.getElem?_append_right (by omega), hlen, renL_get] at hq
        simp only [Option.map_eq_some_iff] at hq
        obtain ⟨p, hp, rfl⟩ := hq
        exact .inr (.inl ⟨by omega, p, hp, rfl⟩)
  have hΓs : ∀ i l, (fun i => if M ≤ i then Γ (i - M) else none) i = some l → M ≤ i ∧ Γ (i - M) = some l := fun i l hi => by
    dsimp only at hi
    split at hi
    · exact ⟨‹_›, hi⟩
    · cases hi
  have hnm : ∀ {p : PV}, ∀ i ∈ p.names, ∀ l, Γ i = some l → ∃ l', (fun i => if M ≤ i then Γ (i - M) else none) (M + i) = some l' ∧ Loc.le l l' := fun i _ l hl => ⟨l, (hΓ i).trans hl, Loc.le_refl l⟩
  refine ⟨by simp; omega, by simp only [frame0]; rw [List.length_append, hlen]; omega, fun t q hq => ?_, fun i j l m b hi hj hl hm => ?_, fun i l hi => ?_, h.bnd, h.sub, h.kept, h.prot, hM, fun j l hj hl => ⟨l, hl, Loc.le_refl l⟩, rfl⟩
  · rcases hget t q hq with ⟨ht, p, hp, rfl⟩ | ⟨ht, p, hp, rfl⟩ | rfl
    · have hu : vs[t]? = some (vs[t]'(by omega)) := List.getElem?_eq_getElem (by omega)
      have hr := (hargs t _ p hu hp).ren (π := (M + ·)) (Γ' := fun i => if M ≤ i then Γ (i - M) else none) (.inr hk) (fun i hi => hnm (p := p) i hi)
      have he : (vs.toArray ++ Array.replicate (N - vs.toArray.size) undef).getD t undef = vs[t]'(by omega) := by
        rw [Array.getD_eq_getD_getElem?, Array.getElem?_append_left (by simpa using (by omega : t < vs.length))]
        simp [hu]
      dsimp only
      rw [he]
      exact hr.slot
    · have hs := h.slot _ p hp
      have hmt : M + (t - M) = t := by omega
      by_cases ho : p.isObj = true
      · have := hs.ren (π := (M + ·)) (Γ' := fun i => if M ≤ i then Γ (i - M) else none) (u' := (vs.toArray ++ Array.replicate (N - vs.toArray.size) undef).getD t undef) ho (.inr hk) (fun i hi => hnm (p := p) i hi) (hΓ _) (fun _ _ _ _ => rfl) N
        rw [hmt] at this
        exact this
      · have hv := (SlotRep.val (by simpa using ho) hs).ren (π := (M + ·)) (Γ' := fun i => if M ≤ i then Γ (i - M) else none) (.inr hk) (fun i hi => hnm (p := p) i hi)
        have e0 : (noAct.tmps.getD (t - M) undef) = undef := by simp [noAct]
        have e1 : (vs.toArray ++ Array.replicate (N - vs.toArray.size) undef).getD t undef = undef := by
          rw [Array.getD_eq_getD_getElem?, Array.getElem?_eq_none (by simp; omega)]; rfl
        rw [e0] at hv
        dsimp only
        rw [e1]
        exact hv.slot
    · exact (Rep.undef _).slot
  · obtain ⟨h1, h2⟩ := hΓs i l hi
    obtain ⟨h3, h4⟩ := hΓs j m hj
    have := h.inj _ _ l m b h2 h4 hl hm
    omega
  · obtain ⟨h1, h2⟩ := hΓs i l hi
    obtain ⟨⟨p, hp, ho⟩, h3⟩ := h.own _ l h2
    refine ⟨⟨p.ren (M + ·), ?_, by rw [PV.ren_obj]; exact ho⟩, h3⟩
    unfold frame0
    rw [List.getElem?_append_right (by omega), hlen, renL_get, hp]
    rfl
end
end Go.Qg

namespace Go.Qg
open Go.RowKit (Below)
def tgtAt (H : PF) (κ : List Nat) (gone : Nat → Bool) : Tgt := ⟨H, fun j => κ[j]?, gone⟩
def PV.bare : PV → Bool
  | .box h _ => !h.own
  | .rows h _ _ _ _ => h.isNone
  | .map h _ _ => !h
  | _ => false
def outF (f : PF) (T : Tgt) (d : Nat) : List PV → List Nat → Prop
  | [], [] => True
  | q :: H, s :: κ => (∃ p, f[s]? = some p ∧ q.bare = true ∧ p.isObj = true ∧ vo f T d s q p) ∧ outF f T d H κ
  | _, _ => False
theorem outF_length {f : PF} {T : Tgt} {d : Nat} : ∀ {H : List PV} {κ : List Nat}, outF f T d H κ → H.length = κ.length
  | [], [], _ => rfl
  | q :: H, s :: κ, h => by simp [outF_length h.2]
  | [], _ :: _, h => h.elim
  | _ :: _, [], h => h.elim
theorem outF_get {f : PF} {T : Tgt} {d : Nat} : ∀ {H : List PV} {κ : List Nat}, outF f T d H κ → ∀ (i : Nat) (q : PV), H[i]? = some q → ∃ s p, κ[i]? = some s ∧ f[s]? = some p ∧ q.bare = true ∧ p.isObj = true ∧ vo f T d s q p
  | [], [], _, i, q, hq => by simp at hq
  | q' :: H, s :: κ, h, 0, q, hq => by
    simp at hq; subst hq
    obtain ⟨p, h1, h2, h3, h4⟩ := h.1
    exact ⟨s, p, rfl, h1, h2, h3, h4⟩
  | q' :: H, s :: κ, h, i + 1, q, hq => by
    obtain ⟨s', p, h1, h2⟩ := outF_get h.2 i q (by simpa using hq)
    exact ⟨s', p, by simpa using h1, h2⟩
  | [], _ :: _, h, _, _, _ => h.elim
  | _ :: _, [], h, _, _, _ => h.elim
def Γout (Γ : Nat → Option Loc) (H : PF) (κ : List Nat) : Nat → Option Loc := fun j =>
  match κ[j]? with
  | none => none
  | some s => match H[j]? with
    | some (.rows _ ep _ _ _) => match Γ s with
      | some (.rows _ sz l) => some (.rows ep sz l)
      | _ => none
    | some _ => Γ s
    | none => none
def freedAt (R : Nat → Nat → Prop) (Γ : Nat → Option Loc) (gone : Nat → Bool) : Nat → Nat → Prop := fun b o => R b o ∨ ∃ s l, gone s = true ∧ Γ s = some l ∧ l.blk = some b
section
variable {P : Program} {N : Nat} {B : Base} {w w' : World} {R R' : Nat → Nat → Prop} {Γ Γ' : Nat → Option Loc} {a : Act} {f H : PF} {d : Nat} {κ : List Nat} {gone : Nat → Bool}
theorem Γout_blk {i b : Nat} {l : Loc} (h : Γout Γ H κ i = some l) (hb : l.blk = some b) : ∃ s m, κ[i]? = some s ∧ Γ s = some m ∧ m.blk = some b := by
  unfold Γout at h
  split at h
  · cases h
  rename_i s hs
  split at h
  · split at h
    · rename_i ep' sz' l' hΓ
      obtain rfl := Option.some.inj h
      exact ⟨s, _, hs, hΓ, hb⟩
    · cases h
  · exact ⟨s, l, hs, h, hb⟩
  · cases h
theorem tgtAt_ok (hout : outF f (tgtAt H κ gone) d H κ) : TgtOk f (tgtAt H κ gone) R (freedAt R Γ gone) Γ (Γout Γ H κ) := by
  refine ⟨fun b o hb => .inl hb, fun s l b hg hΓ hb o => .inr ⟨s, l, hg, hΓ, hb⟩, fun i s l hs hΓ he => ?_, fun i s ep ep' sz l hs hΓ he => ?_, fun i ep hh e sz hs hg => ?_⟩
  · have hs' : κ[i]? = some s := hs
    have hi : i < H.length := by rw [outF_length hout]; exact lt_of_get? hs'
    obtain ⟨s', p, h1, h2, h3, h4, h5⟩ := outF_get hout i _ (List.getElem?_eq_getElem hi)
    rw [hs'] at h1
    obtain rfl := Option.some.inj h1
    have hq : H[i]? = some (H[i]) := List.getElem?_eq_getElem hi
    generalize H[i] = q at hq h3 h5
    cases q with
    | rows fl ep e sz rs =>
      exfalso
      cases p with
      | rows => simp [epAt, h2] at he
      | box => exact h5
      | map => exact h5
      | _ => cases h4
    | box => simp only [Γout, hs', hq]; exact hΓ
    | map => simp only [Γout, hs', hq]; exact hΓ
    | _ => cases h3
  · have hs' : κ[i]? = some s := hs
    obtain ⟨fl, e, sz', rs, hg⟩ := epAt_some he
    have hg' : H[i]? = some (.rows fl ep' e sz' rs) := hg
    simp only [Γout, hs', hg', hΓ]
  · have hs' : κ[i]? = none := hs
    have hg' : H[i]? = some (.rows hh ep e sz []) := hg
    have := lt_of_get? hg'
    rw [outF_length hout] at this
    rw [List.getElem?_eq_getElem this] at hs'
    cases hs'
theorem Sim.leave (h : Sim N B R Γ a w f) (hout : outF f (tgtAt H κ gone) d H κ) (hκ : κ.Nodup) (hgone : ∀ s ∈ κ, gone s = false) : Sim 0 ⟨B.Prot, B.w0, B.R0, fun _ => none, 0, []⟩ (freedAt R Γ gone) (Γout Γ H κ) noAct w H ∧
    ∀ (q p : PV) (u : Value), vw f (tgtAt H κ gone) d q p → Rep w R Γ u p → Rep w (freedAt R Γ gone) (Γout Γ H κ) u q := by
  have ht : TgtOk f (tgtAt H κ gone) R (freedAt R Γ gone) Γ (Γout Γ H κ) := tgtAt_ok hout
  have all : ∀ {us : List Value} {qs ps : List PV}, us.length = ps.length → vwAll (vw f (tgtAt H κ gone) d) qs ps → (∀ (i : Nat) (u : Value) (p : PV), us[i]? = some u → ps[i]? = some p → Rep w R Γ u p) →
      us.length = qs.length ∧ ∀ (i : Nat) (u : Value) (q : PV), us[i]? = some u → qs[i]? = some q → Rep w (freedAt R Γ gone) (Γout Γ H κ) u q := fun hl hv hr =>
    ⟨hl.trans (vwAll_length hv).symm, fun i u q hu hq => by obtain ⟨p, hp, hv⟩ := vwAll_get hv i q hq; exact vw_sound h ht d q p u hv (hr i u p hu hp)⟩
  refine ⟨?_, fun q p u hv hr => vw_sound h ht d q p u hv hr⟩
  refine ⟨rfl, Nat.zero_le _, fun t q hq => ?_, fun i j l m b hi hj hl hm => ?_, fun i l hi => ?_, fun b o hbo => ?_, fun b o hbo => ?_, h.kept, h.prot, Nat.le_refl _, fun j l _ hl => (by cases hl), rfl⟩
  · obtain ⟨s, p, hs, hp, hbare, hobj, hv⟩ := outF_get hout t q hq
    cases q with
    | box fl qs =>
      cases p with
      | box fl' ps =>
        obtain ⟨e1, e2, e3⟩ := hv
        obtain ⟨b, vs, ty, h1, h2, h3, h4, h5, h6⟩ := h.slot s _ hp
        obtain ⟨l1, l2⟩ := all (us := vs.toList) (by simpa using h4) e2 (fun i u p hu hp => h6 i u p (by simpa using hu) hp)
        exact ⟨b, vs, ty, by simp only [Γout, hs, hq]; exact h1, ⟨fun e => by simp [PV.bare, e] at hbare, fun y e => h2.2 y (e1.2 y e)⟩, h3, by simpa using l1, fun p hp => List.all_eq_true.1 e3 p hp, fun j x p hx hp => l2 j x p (by simpa using hx) hp⟩
      | _ => exact hv.elim
    | map fl ks vs =>
      cases p with
      | map fl' ks' vs' =>
        obtain ⟨e1, e2, e3⟩ := hv
        obtain ⟨b, es, clock, h1, h2, h3, h4, h5, h6, h7⟩ := h.slot s _ hp
        obtain ⟨l1, l2⟩ := all (us := es.toList.map (·.key)) (by simpa using h4) e2 (fun i u p hu hp => by
          rw [List.getElem?_map] at hu
          simp only [Option.map_eq_some_iff] at hu
          obtain ⟨x, hx, rfl⟩ := hu
          exact h6 i x p (by simpa using hx) hp)
        obtain ⟨l3, l4⟩ := all (us := es.toList.map (·.val)) (by simpa using h5) e3 (fun i u p hu hp => by
          rw [List.getElem?_map] at hu
          simp only [Option.map_eq_some_iff] at hu
          obtain ⟨x, hx, rfl⟩ := hu
          exact h7 i x p (by simpa using hx) hp)
        exact ⟨b, es, clock, by simp only [Γout, hs, hq]; exact h1, fun e => by simp [PV.bare, e] at hbare, h3, by simpa using l1, by simpa using l3, fun j x p hx hp => l2 j x.key p (by rw [List.getElem?_map, Array.getElem?_toList, hx]; rfl) hp, fun j x p hx hp => l4 j x.val p (by rw [List.getElem?_map, Array.getElem?_toList, hx]; rfl) hp⟩
      | _ => exact hv.elim
    | rows fl ep e sz rs =>
      cases p with
      | rows fl' ep' e' sz' rs' =>
        obtain ⟨e1, _, rfl, rfl, e4, e5⟩ := hv
        obtain ⟨l, h1, h2, h3, h4, h5⟩ := h.slot s _ hp
        refine ⟨l, by simp only [Γout, hs, hq, h1], fun ep0 n0 he => by simp [PV.bare, he] at hbare, fun r hr => ?_, h4, ?_⟩
        · obtain ⟨i, hi⟩ := List.mem_iff_getElem?.1 hr
          obtain ⟨r', hr', hv'⟩ := vwAllL_get e4 i r hi
          exact ⟨(vwAll_length hv').trans (h3 r' (List.mem_of_getElem? hr')).1, fun p hp => List.all_eq_true.1 (List.all_eq_true.1 e5 r hr) p hp⟩
        · cases l with
          | none =>
            subst h5
            exact List.eq_nil_of_length_eq_zero (vwAllL_length e4)
          | some bc =>
            obtain ⟨b, cap⟩ := bc
            obtain ⟨vs, g1, g2, g3, g4, g5⟩ := h5
            refine ⟨vs, g1, by rw [vwAllL_length e4]; exact g2, g3, g4, fun i j r p x hr hp hx => ?_⟩
            obtain ⟨r', hr', hv'⟩ := vwAllL_get e4 i r hr
            obtain ⟨p', hp', hv''⟩ := vwAll_get hv' j p hp
            exact vw_sound h ht d p p' x hv'' (g5 i j r' p' x hr' hp' hx)
      | box => exact hv.elim
      | map => exact hv.elim
      | _ => cases hobj
    | _ => cases hbare
  · obtain ⟨s, l', h1, h2, h3⟩ := Γout_blk hi hl
    obtain ⟨s', m', h4, h5, h6⟩ := Γout_blk hj hm
    obtain rfl := h.inj s s' l' m' b h2 h5 h3 h6
    have hlt := lt_of_get? h1
    exact (List.getElem?_inj hlt hκ).1 (h1.trans h4.symm)
  · have hj : ∃ q, H[i]? = some q ∧ q.isObj = true := by
      unfold Γout at hi
      split at hi
      · cases hi
      rename_i s hs
      cases hq : H[i]? with
      | none => rw [hq] at hi; cases hi
      | some q =>
        refine ⟨q, rfl, ?_⟩
        obtain ⟨s', p, _, _, hbare, _⟩ := outF_get hout i q hq
        cases q <;> first | rfl | cases hbare
    refine ⟨hj, fun b hb => ?_⟩
    obtain ⟨s, l', h0, h1, h2⟩ := Γout_blk hi hb
    obtain ⟨h3, h4, h5⟩ := (h.own s l' h1).2 b h2
    refine ⟨h3, h4, fun o hR' => ?_⟩
    rcases hR' with hR' | ⟨s', m, hs, hm, hmb⟩
    · exact h5 o hR'
    · obtain rfl := h.inj s' s m l' b hm h1 hmb h2
      rw [hgone s' (List.mem_of_getElem? h0)] at hs; cases hs
  · rcases hbo with hbo | ⟨s, l, _, hs, hb⟩
    · exact h.bnd b o hbo
    · exact ((h.own s l hs).2 b hb).2.1
  · rcases hbo with hbo | ⟨s, l, _, hs, hb⟩
    · exact h.sub b o hbo
    · exact .inr ((h.own s l hs).2 b hb).1
theorem Γout_le (h : Sim N B R Γ a w f) (hout : outF f (tgtAt H κ gone) d H κ) {j s : Nat} (hs : κ[j]? = some s) {l : Loc} (hl : Γ s = some l) : ∃ l', Γout Γ H κ j = some l' ∧ Loc.le l l' := by
  have hi : j < H.length := by rw [outF_length hout]; exact lt_of_get? hs
  have hq : H[j]? = some (H[j]) := List.getElem?_eq_getElem hi
  obtain ⟨s', p, h1, h2, h3, h4, h5⟩ := outF_get hout j _ hq
  rw [hs] at h1
  obtain rfl := Option.some.inj h1
  generalize H[j] = q at hq h3 h5
  cases q with
  | rows fl ep e sz rs =>
    cases p with
    | rows fl' ep' e' sz' rs' =>
      obtain ⟨_, hep, _⟩ := h5
      obtain ⟨l3, g3, _⟩ := h.slot s _ h2
      rw [hl] at g3
      obtain rfl := Option.some.inj g3
      refine ⟨.rows ep sz' l3, by simp only [Γout, hs, hq, hl], ?_⟩
      rcases Nat.lt_or_eq_of_le hep with he | rfl
      · exact Loc.rows_le he
      · exact Loc.le_refl _
    | box => exact h5.elim
    | map => exact h5.elim
    | _ => cases h4
  | box => exact ⟨l, by simp only [Γout, hs, hq]; exact hl, Loc.le_refl l⟩
  | map => exact ⟨l, by simp only [Γout, hs, hq]; exact hl, Loc.le_refl l⟩
  | _ => cases h3
theorem Sim.rebase {Prot : Nat → Prop} {w0 : World} {R0 : Nat → Nat → Prop} {Γa Γ0 : Nat → Option Loc} (h : Sim 0 ⟨Prot, w0, R0, Γa, 0, []⟩ R Γ a w f) (hb : ∀ j l, Γ0 j = some l → ∃ l', Γ j = some l' ∧ Loc.le l l') : Sim 0 ⟨Prot, w0, R0, Γ0, 0, []⟩ R Γ a w f :=
  ⟨h.size, h.len, h.slot, h.inj, h.own, h.bnd, h.sub, h.kept, h.prot, h.lo, fun j l _ hl => hb j l hl, h.defers⟩
end
end Go.Qg

namespace Go.Qg
open Go.RowKit (Below)
def PV.flagOf : PV → PV → PV
  | .box h _, .box h2 cs => .box (h.mix h2) cs
  | .map h _ _, .map _ ks vs => .map h ks vs
  | .rows h _ _ _ _, .rows _ ep e sz rs => .rows h ep e sz rs
  | _, q => q
def placeAll (r : Nat → Nat) : List Nat → List PV → PF → PF
  | s :: π, q :: H, f => placeAll r π H (f.set s ((f.getD s .undef).flagOf (q.ren r)))
  | _, _, f => f
theorem placeAll_length (r : Nat → Nat) : ∀ (π : List Nat) (H : List PV) (f : PF), (placeAll r π H f).length = f.length
  | [], _, f => by simp [placeAll]
  | s :: π, [], f => by simp [placeAll]
  | s :: π, q :: H, f => by simp only [placeAll]; rw [placeAll_length r π H]; simp
theorem placeAll_out (r : Nat → Nat) {t : Nat} : ∀ (π : List Nat) (H : List PV) (f : PF), t ∉ π → (placeAll r π H f)[t]? = f[t]?
  | [], _, f, _ => by simp [placeAll]
  | s :: π, [], f, _ => by simp [placeAll]
  | s :: π, q :: H, f, h => by
    simp only [List.mem_cons, not_or] at h
    simp only [placeAll]
    rw [placeAll_out r π H _ h.2, List.getElem?_set_ne (Ne.symm h.1)]
theorem placeAll_in (r : Nat → Nat) {s : Nat} {q : PV} : ∀ (π : List Nat) (H : List PV) (f : PF) (j : Nat), π.Nodup → π[j]? = some s → H[j]? = some q → s < f.length → (placeAll r π H f)[s]? = some ((f.getD s .undef).flagOf (q.ren r))
  | [], _, f, j, _, h, _, _ => by simp at h
  | s' :: π, [], f, j, _, _, h, _ => by simp at h
  | s' :: π, q' :: H, f, 0, hn, h1, h2, hl => by
    simp only [List.getElem?_cons_zero, Option.some.injEq] at h1 h2
    subst h1 h2
    simp only [placeAll]
    rw [placeAll_out r π H _ (List.nodup_cons.1 hn).1, List.getElem?_set_self hl]
  | s' :: π, q' :: H, f, j + 1, hn, h1, h2, hl => by
    simp only [List.getElem?_cons_succ] at h1 h2
    have hne : s' ≠ s := fun e => (List.nodup_cons.1 hn).1 (by rw [e]; exact List.mem_of_getElem? h1)
    simp only [placeAll]
    rw [placeAll_in r π H _ j (List.nodup_cons.1 hn).2 h1 h2 (by simpa using hl)]
    congr 2
    simp [List.getD, List.getElem?_set_ne hne]
def lentProt (w : World) (Γ : Nat → Option Loc) : Nat → Prop := fun b => b < w.heap.size ∧ ∀ j l, Γ j = some l → l.blk ≠ some b
def Γput (Γ Γ2 : Nat → Option Loc) (π : List Nat) : Nat → Option Loc := fun s => if s ∈ π then Γ2 (π.idxOf s) else Γ s
theorem Γput_in {Γ Γ2 : Nat → Option Loc} {π : List Nat} (hn : π.Nodup) {j s : Nat} (h : π[j]? = some s) : Γput Γ Γ2 π s = Γ2 j := by
  have hlt := lt_of_get? h
  have he : π[j] = s := by rw [List.getElem?_eq_getElem hlt] at h; exact Option.some.inj h
  unfold Γput
  rw [if_pos (List.mem_of_getElem? h), ← he, hn.idxOf_getElem]
theorem Γput_out {Γ Γ2 : Nat → Option Loc} {π : List Nat} {s : Nat} (h : s ∉ π) : Γput Γ Γ2 π s = Γ s := by
  unfold Γput; rw [if_neg h]
theorem getD_of_get? {π : List Nat} {j s : Nat} (h : π[j]? = some s) : π.getD j 0 = s := by simp [List.getD, h]
theorem objAt_false {f : PF} {s : Nat} (h : objAt f s = false) {p : PV} (hp : f[s]? = some p) : p.isObj = false := by
  simpa [objAt, hp] using h
section
variable {P : Program} {N : Nat} {B : Base} {w w' : World} {R R' R2 : Nat → Nat → Prop} {Γ Γ' Γ2 : Nat → Option Loc} {a : Act} {f g H H2 : PF} {d : Nat} {π ι news : List Nat} {gone : Nat → Bool}
theorem Sim.lend (h : Sim N B R Γ a w f) (hout : outF f (tgtAt H ι gone) d H ι) (hι : ι.Nodup) (hgone : ∀ s ∈ ι, gone s = false) :
    Sim 0 ⟨lentProt w (Γout Γ H ι), w, freedAt R Γ gone, Γout Γ H ι, 0, []⟩ (freedAt R Γ gone) (Γout Γ H ι) noAct w H ∧ (∀ b o, freedAt R Γ gone b o → lentProt w (Γout Γ H ι) b) := by
  obtain ⟨h1, _⟩ := h.leave hout hι hgone
  refine ⟨⟨h1.size, h1.len, h1.slot, h1.inj, fun i l hl => ⟨(h1.own i l hl).1, fun b hb => ⟨fun hp => hp.2 i l hl hb, ((h1.own i l hl).2 b hb).2⟩⟩, h1.bnd, fun b o hb => .inl hb, Kept.refl _ _, h.prot.go (fun b hb => hb.1) (fun b _ hb => ⟨Nat.lt_of_lt_of_le (h.prot b hb) h.kept.size, fun j l hl hlb => ((h1.own j l hl).2 b hlb).1 hb⟩) (fun b _ hb => h.kept.block b hb), Nat.le_refl _, fun j l _ hl => ⟨l, hl, Loc.le_refl l⟩, rfl⟩, fun b o hb => ?_⟩
  exact ⟨h1.bnd b o hb, fun j l hl hlb => ((h1.own j l hl).2 b hlb).2.2 o hb⟩
def readBack (P1 : Nat → Prop) (R R2 : Nat → Nat → Prop) : Nat → Nat → Prop := fun b o => R b o ∨ (R2 b o ∧ ¬ P1 b)
theorem flagOf_obj {p q : PV} (h : q.isObj = true) : (p.flagOf q).isObj = true := by
  cases q <;> first | (cases p <;> rfl) | cases h
theorem Sim.mergeP {P1 : Nat → Prop} (h : Sim N B R Γ a w f) (hout : outF f (tgtAt H ι gone) d H ι) (hpr : ∀ b, B.Prot b → P1 b) (hRp : ∀ b o, R b o → P1 b) (hop : ∀ s l b, s ∉ ι → Γ s = some l → l.blk = some b → P1 b)
    (h2 : Sim 0 ⟨P1, w, freedAt R Γ gone, Γout Γ H ι, 0, []⟩ R2 Γ2 noAct w' H2) (hπ : (ι ++ news).Nodup) (hlen : H2.length = (ι ++ news).length) (hnews : ∀ s ∈ news, s < f.length ∧ objAt f s = false)
    (hmode : (∀ s, gone s = false) ∨ flatL H2 = true) (hobj : ∀ q ∈ H2, q.isObj = true) :
    Sim N B (readBack P1 R R2) (Γput Γ Γ2 (ι ++ news)) a w' (placeAll ((ι ++ news).getD · 0) (ι ++ news) H2 f) ∧
      ∀ (v : Value) (q : PV), ((∀ s, gone s = false) ∨ q.flat = true) → Rep w' R2 Γ2 v q → Rep w' (readBack P1 R R2) (Γput Γ Γ2 (ι ++ news)) v (q.ren ((ι ++ news).getD · 0)) := by
  have lp : ∀ b, P1 b → w'.heap[b]? = w.heap[b]? := h2.kept.block
  have hkR : ∀ b o, R b o → readBack P1 R R2 b o ∧ w'.cell? ⟨b, o, none⟩ = w.cell? ⟨b, o, none⟩ := fun b o hb => ⟨.inl hb, cell?_of_heap (lp b (hRp b o hb))⟩
  have hk2 : (∀ s, gone s = false) → ∀ b o, R2 b o → readBack P1 R R2 b o ∧ w'.cell? ⟨b, o, none⟩ = w'.cell? ⟨b, o, none⟩ := fun hg b o hb => by
    refine ⟨?_, rfl⟩
    rcases h2.sub b o hb with h0 | h0
    · rcases h0 with h0 | ⟨s, _, hs, _⟩
      · exact .inl h0
      · rw [hg s] at hs; cases hs
    · exact .inr ⟨hb, h0⟩
  have hk2' : ∀ {q : PV}, ((∀ s, gone s = false) ∨ q.flat = true) → (q.flat = true ∨ ∀ b o, R2 b o → readBack P1 R R2 b o ∧ w'.cell? ⟨b, o, none⟩ = w'.cell? ⟨b, o, none⟩) := fun hq => hq.elim (fun h => .inr (hk2 h)) .inl
  have hat : ∀ j l, Γ2 j = some l → ∃ s, (ι ++ news)[j]? = some s ∧ Γput Γ Γ2 (ι ++ news) s = some l := fun j l hl => by
    obtain ⟨⟨p, hp, _⟩, _⟩ := h2.own j l hl
    have hlt := lt_of_get? hp
    rw [hlen] at hlt
    have hs := List.getElem?_eq_getElem hlt
    exact ⟨_, hs, (Γput_in hπ hs).trans hl⟩
  have hren : ∀ i l, Γ2 i = some l → ∃ l', Γput Γ Γ2 (ι ++ news) ((ι ++ news).getD i 0) = some l' ∧ Loc.le l l' := fun i l hl => by
    obtain ⟨s, hs, he⟩ := hat i l hl
    exact ⟨l, by rw [getD_of_get? hs]; exact he, Loc.le_refl l⟩
  have hnm : ∀ i l, Γ i = some l → ∃ l', Γput Γ Γ2 (ι ++ news) i = some l' ∧ Loc.le l l' := fun i l hl => by
    by_cases hi : i ∈ ι ++ news
    · rcases List.mem_append.1 hi with hi | hi
      · obtain ⟨j, hj⟩ := List.mem_iff_getElem?.1 hi
        obtain ⟨l1, e1, e2⟩ := Γout_le h hout hj hl
        obtain ⟨l2, e3, e4⟩ := h2.base j l1 (Nat.zero_le _) e1
        have hj' : (ι ++ news)[j]? = some i := by rw [List.getElem?_append_left (lt_of_get? hj)]; exact hj
        exact ⟨l2, (Γput_in hπ hj').trans e3, Loc.le_trans e2 e4⟩
      · obtain ⟨⟨p, hp, ho⟩, _⟩ := h.own i l hl
        rw [objAt_false (hnews i hi).2 hp] at ho; cases ho
    · exact ⟨l, (Γput_out hi).trans hl, Loc.le_refl l⟩
  have hcase : ∀ i l, Γput Γ Γ2 (ι ++ news) i = some l → (∃ j, (ι ++ news)[j]? = some i ∧ Γ2 j = some l) ∨ (i ∉ ι ++ news ∧ Γ i = some l) := fun i l hl => by
    by_cases hi : i ∈ ι ++ news
    · obtain ⟨j, hj⟩ := List.mem_iff_getElem?.1 hi
      exact .inl ⟨j, hj, (Γput_in (Γ := Γ) (Γ2 := Γ2) hπ hj).symm.trans hl⟩
    · exact .inr ⟨hi, (Γput_out (Γ := Γ) (Γ2 := Γ2) hi).symm.trans hl⟩
  have hblk2 : ∀ j l b, Γ2 j = some l → l.blk = some b → ¬ P1 b := fun j l b hl hb => ((h2.own j l hl).2 b hb).1
  refine ⟨⟨h.size, by rw [placeAll_length]; exact h.len, fun t q hq => ?_, fun i j l m b hi hj hl hm => ?_, fun i l hi => ?_, fun b o hbo => ?_, fun b o hbo => ?_, h.kept.trans (h2.kept.mono hpr), h.prot, h.lo, fun j l hj hl => ?_, h.defers⟩,
    fun v q hq hr => hr.ren (hk2' hq) fun i _ l hl => hren i l hl⟩
  · by_cases ht : t ∈ ι ++ news
    · obtain ⟨j, hj⟩ := List.mem_iff_getElem?.1 ht
      have hjl := lt_of_get? hj
      rw [← hlen] at hjl
      have hp2 := List.getElem?_eq_getElem hjl
      have htl : t < f.length := by
        rcases List.mem_append.1 ht with hi | hi
        · obtain ⟨k, hk⟩ := List.mem_iff_getElem?.1 hi
          have : k < H.length := by rw [outF_length hout]; exact lt_of_get? hk
          obtain ⟨s', p, e1, e2, _⟩ := outF_get hout k _ (List.getElem?_eq_getElem this)
          rw [hk] at e1
          obtain rfl := Option.some.inj e1
          exact lt_of_get? e2
        · exact (hnews t hi).1
      rw [placeAll_in _ _ _ _ j hπ hj hp2 htl] at hq
      obtain rfl := Option.some.inj hq
      have hfl : H2[j].flat = true ∨ ∀ b o, R2 b o → readBack P1 R R2 b o ∧ w'.cell? ⟨b, o, none⟩ = w'.cell? ⟨b, o, none⟩ := hk2' (hmode.imp_right fun h => flatL_mem h _ (List.mem_of_getElem? hp2))
      have hs2 := h2.slot j _ hp2
      have hq2o : H2[j].isObj = true := hobj _ (List.mem_of_getElem? hp2)
      generalize H2[j] = q2 at hfl hs2 hq2o
      have hf : f[t]? = some (f.getD t .undef) := by simp [List.getD, List.getElem?_eq_getElem htl]
      have hsf := h.slot t _ hf
      have own : ∀ {ep0 n0 : Nat}, Rep w R Γ (a.tmps.getD t undef) (.own t ep0 0 n0 false) → Rep w' (readBack P1 R R2) (Γput Γ Γ2 (ι ++ news)) (a.tmps.getD t undef) (.own t ep0 0 n0 false) := fun hr => hr.mono hkR fun i hi l hl => by
        exact hnm i l hl
      by_cases ho : q2.isObj = true
      · have hs := hs2.ren (π := ((ι ++ news).getD · 0)) (R' := readBack P1 R R2) (w' := w') (Γ' := Γput Γ Γ2 (ι ++ news)) (u' := a.tmps.getD t undef) ho hfl (fun i _ l hl => hren i l hl)
          (by rw [getD_of_get? hj, Γput_in hπ hj]) (fun _ _ _ _ => rfl) N
        simp only [getD_of_get? hj] at hs
        generalize hfe : f.getD t .undef = p at hsf
        cases q2 with
        | box fl2 cs2 =>
          cases p with
          | box fl cs =>
            obtain ⟨b, us, ty, g1, g2, _⟩ := hsf
            obtain ⟨b', us', ty', k1, k2, k3⟩ := hs
            refine ⟨b', us', ty', k1, ⟨fun e => ⟨(g2.1 e).1, ?_⟩, k2.2⟩, k3⟩
            obtain ⟨l', e1, e2⟩ := hnm t _ g1
            rw [k1] at e1
            obtain rfl := Option.some.inj e1
            rcases e2 with e2 | ⟨_, _, _, _, _, _, e3, _⟩
            · obtain rfl := Loc.cells.inj e2
              exact (g2.1 e).2
            · cases e3
          | _ => exact hs
        | map fl2 ks2 vs2 =>
          cases p with
          | map fl ks vs =>
            obtain ⟨b, es, clock, g1, g2, _⟩ := hsf
            obtain ⟨b', es', clock', k1, k2, k3⟩ := hs
            refine ⟨b', es', clock', k1, fun e => ⟨(g2 e).1, ?_⟩, k3⟩
            obtain ⟨l', e1, e2⟩ := hnm t _ g1
            rw [k1] at e1
            obtain rfl := Option.some.inj e1
            rcases e2 with e2 | ⟨_, _, _, _, _, _, e3, _⟩
            · obtain rfl := Loc.map.inj e2
              exact (g2 e).2
            · cases e3
          | _ => exact hs
        | rows fl2 ep2 e2 sz2 rs2 =>
          cases p with
          | rows fl ep e sz rs =>
            obtain ⟨l, g1, g2, _⟩ := hsf
            obtain ⟨l', k1, k2, k3⟩ := hs
            exact ⟨l', k1, fun ep0 n0 he => ⟨(g2 ep0 n0 he).1, own (g2 ep0 n0 he).2⟩, k3⟩
          | _ => exact hs
        | _ => cases ho
      · exact (ho hq2o).elim
    · rw [placeAll_out _ _ _ _ ht] at hq
      refine (h.slot t q hq).mono hkR (fun i _ l hl => hnm i l hl) (fun _ => Γput_out ht) fun l b hl hb => ?_
      exact lp b (hop t l b (fun hi => ht (List.mem_append_left _ hi)) hl hb)
  · rcases hcase i l hi with ⟨i', h1, h1'⟩ | ⟨h1, h1'⟩ <;> rcases hcase j m hj with ⟨j', h3, h3'⟩ | ⟨h3, h3'⟩
    · obtain rfl := h2.inj i' j' l m b h1' h3' hl hm
      rw [h1] at h3
      exact Option.some.inj h3
    · exact (hblk2 i' l b h1' hl (hop j m b (fun hi => h3 (List.mem_append_left _ hi)) h3' hm)).elim
    · exact (hblk2 j' m b h3' hm (hop i l b (fun hi => h1 (List.mem_append_left _ hi)) h1' hl)).elim
    · exact h.inj i j l m b h1' h3' hl hm
  · rcases hcase i l hi with ⟨j, h1, h1'⟩ | ⟨h1, h1'⟩
    · obtain ⟨⟨p, hp, ho⟩, h3⟩ := h2.own j l h1'
      refine ⟨?_, fun b hb => ?_⟩
      · have htl : i < f.length := by
          rcases List.mem_append.1 (List.mem_of_getElem? h1) with hi | hi
          · obtain ⟨k, hk⟩ := List.mem_iff_getElem?.1 hi
            have : k < H.length := by rw [outF_length hout]; exact lt_of_get? hk
            obtain ⟨s', p, e1, e2, _⟩ := outF_get hout k _ (List.getElem?_eq_getElem this)
            rw [hk] at e1
            obtain rfl := Option.some.inj e1
            exact lt_of_get? e2
          · exact (hnews i hi).1
        exact ⟨_, placeAll_in _ _ _ _ j hπ h1 hp htl, flagOf_obj (by rw [PV.ren_obj]; exact ho)⟩
      · obtain ⟨g1, g2, g3⟩ := h3 b hb
        refine ⟨fun hp => g1 (hpr b hp), g2, fun o ho => ?_⟩
        rcases ho with ho | ⟨ho, _⟩
        · exact g1 (hRp b o ho)
        · exact g3 o ho
    · obtain ⟨⟨p, hp, ho⟩, h3⟩ := h.own i l h1'
      refine ⟨⟨p, by rw [placeAll_out _ _ _ _ h1]; exact hp, ho⟩, fun b hb => ?_⟩
      obtain ⟨g1, g2, g3⟩ := h3 b hb
      refine ⟨g1, Nat.lt_of_lt_of_le g2 h2.kept.size, fun o ho => ?_⟩
      rcases ho with ho | ⟨_, ho⟩
      · exact g3 o ho
      · exact ho (hop i l b (fun hi => h1 (List.mem_append_left _ hi)) h1' hb)
  · rcases hbo with hbo | ⟨hbo, _⟩
    · exact Nat.lt_of_lt_of_le (h.bnd b o hbo) h2.kept.size
    · exact h2.bnd b o hbo
  · rcases hbo with hbo | ⟨_, hbo⟩
    · exact h.sub b o hbo
    · exact .inr fun hp => hbo (hpr b hp)
  · obtain ⟨l1, e1, e2⟩ := h.base j l hj hl
    obtain ⟨l2, e3, e4⟩ := hnm j l1 e1
    exact ⟨l2, e3, Loc.le_trans e2 e4⟩
theorem Sim.merge (h : Sim N B R Γ a w f) (hout : outF f (tgtAt H ι gone) d H ι)
    (h2 : Sim 0 ⟨lentProt w (Γout Γ H ι), w, freedAt R Γ gone, Γout Γ H ι, 0, []⟩ R2 Γ2 noAct w' H2) (hπ : (ι ++ news).Nodup) (hlen : H2.length = (ι ++ news).length) (hnews : ∀ s ∈ news, s < f.length ∧ objAt f s = false)
    (hmode : (∀ s, gone s = false) ∨ flatL H2 = true) (hobj : ∀ q ∈ H2, q.isObj = true) :
    Sim N B (readBack (lentProt w (Γout Γ H ι)) R R2) (Γput Γ Γ2 (ι ++ news)) a w' (placeAll ((ι ++ news).getD · 0) (ι ++ news) H2 f) ∧
      ∀ (v : Value) (q : PV), ((∀ s, gone s = false) ∨ q.flat = true) → Rep w' R2 Γ2 v q → Rep w' (readBack (lentProt w (Γout Γ H ι)) R R2) (Γput Γ Γ2 (ι ++ news)) v (q.ren ((ι ++ news).getD · 0)) :=
  h.mergeP hout
    (fun b hb => ⟨Nat.lt_of_lt_of_le (h.prot b hb) h.kept.size, fun j l hl hlb => by
      obtain ⟨s, m, _, hm, hmb⟩ := Γout_blk hl hlb
      exact ((h.own s m hm).2 b hmb).1 hb⟩)
    (fun b o hb => ⟨h.bnd b o hb, fun j l hl hlb => by
      obtain ⟨s, m, _, hm, hmb⟩ := Γout_blk hl hlb
      exact ((h.own s m hm).2 b hmb).2.2 o hb⟩)
    (fun s l b hs hl hb => ⟨((h.own s l hl).2 b hb).2.1, fun j m hm hmb => by
      obtain ⟨s', m', hs', hm', hmb'⟩ := Γout_blk hm hmb
      obtain rfl := h.inj s s' l m' b hl hm' hb hmb'
      exact hs (List.mem_of_getElem? hs')⟩)
    h2 hπ hlen hnews hmode hobj
end
end Go.Qg

namespace Go.Qg
def quiet : List Item → Prop
  | .call .. :: _ => False
  | _ => True
theorem step_raise {P : Program} {fr c : Frame} {cs : List Frame} {w : World} {ch : List PanicEntry} (hm : fr.mode = .panicking ch) (hd : fr.defers = []) (hq : quiet fr.todo) : step P (lone fr (c :: cs) w) = .next (lone (c.raise ch) cs w) := by
  have hc : fr.catches P = false := by
    unfold Frame.catches
    split
    · rename_i ht
      rw [ht] at hq; exact hq.elim
    · rfl
  exact step_lone_go (by simp [stepG, unwind, hc, hm, hd])
def ArrR (P : Program) (m : Machine) (b : Frame) (k : List Item) (cs : List Frame) : Exit → Act → World → Prop
  | .normal, a, w => Steps P m (lone (b.atR a k) cs w)
  | .exit id, a, w => ∃ k1, Steps P m (lone (b.atR a (.code (.exit id) :: k1)) cs w) ∧ exitTo id k1 = exitTo id k
  | .goto l, a, w => ∃ k1, Steps P m (lone (b.atR a (.code (.goto l) :: k1)) cs w) ∧ gotoIn l k1 = gotoIn l k
  | .ret, a, w => ∃ k1, Steps P m (lone (b.atR a (.code .ret :: k1)) cs w)
  | .panic ch, a, w => ∃ k1, quiet k1 ∧ Steps P m (lone { b.atR a k1 with mode := .panicking ch } cs w)
  | .outgrown, _, _ => False
theorem ArrR.of_steps {P : Program} {m m₁ : Machine} {b : Frame} {k : List Item} {cs : List Frame} {e : Exit} {a : Act} {w : World} (h : Steps P m m₁) (h' : ArrR P m₁ b k cs e a w) : ArrR P m b k cs e a w := by
  cases e with
  | normal => exact h.trans h'
  | exit id => obtain ⟨k1, h1, h2⟩ := h'; exact ⟨k1, h.trans h1, h2⟩
  | goto l => obtain ⟨k1, h1, h2⟩ := h'; exact ⟨k1, h.trans h1, h2⟩
  | ret => obtain ⟨k1, h1⟩ := h'; exact ⟨k1, h.trans h1⟩
  | panic ch => obtain ⟨k1, hk, h1⟩ := h'; exact ⟨k1, hk, h.trans h1⟩
  | outgrown => exact h'.elim
theorem ArrR.pass {P : Program} {m : Machine} {b : Frame} {x : Item} {k : List Item} {cs : List Frame} {e : Exit} {a : Act} {w : World} (hx : x.plain = true) (he : e ≠ .normal) (h : ArrR P m b (x :: k) cs e a w) : ArrR P m b k cs e a w := by
  cases e with
  | normal => exact (he rfl).elim
  | exit id => obtain ⟨k1, h1, h2⟩ := h; exact ⟨k1, h1, h2.trans (by cases x <;> simp_all [exitTo, Item.plain])⟩
  | goto l => obtain ⟨k1, h1, h2⟩ := h; exact ⟨k1, h1, h2.trans (by cases x <;> simp_all [gotoIn, Item.plain])⟩
  | ret => exact h
  | panic ch => exact h
  | outgrown => exact h.elim
def wr (P : Program) (ro : Option Nat) (c : Code) (Q : Exit → Act → World → Prop) (a : Act) (w : World) : Prop :=
  ∀ (b : Frame) (k : List Item) (cs : List Frame), b.roundOf = ro → ∃ e a' w', Q e a' w' ∧ ArrR P (lone (b.atR a (.code c :: k)) cs w) b k cs e a' w'
def RegR (P : Program) (ro : Option Nat) (ops : Array Oper) (l : List Nat) (Q : Exit → Act → World → Prop) (a : Act) (w : World) : Prop :=
  ∀ (b : Frame) (k : List Item) (cs : List Frame), b.roundOf = ro → ∃ e a' w', Q e a' w' ∧ ArrR P (lone (b.atR a (.inRegion ops l :: k)) cs w) b k cs e a' w'
def OpR (P : Program) (ro : Option Nat) (ops : Array Oper) (Q : Exit → Act → World → Prop) (i : Nat) (K : Act → World → Prop) (a : Act) (w : World) : Prop :=
  ∀ rest : List Nat, (∀ a' w', K a' w' → RegR P ro ops rest Q a' w') → RegR P ro ops (i :: rest) Q a w
def RoundW (P : Program) (l : Nat) (f : FuncId) (tmps : Array Value) (assign body : Code) (w : World) (R : Ending → World → Prop) : Prop :=
  ∀ (c : Frame) (cs : List Frame), ∃ e w', R e w' ∧ match e with
    | .returned v => Steps P (lone (Frame.round l f tmps assign body .normal) (c :: cs) w) (lone (c.finish v) cs w')
    | .panicked ch => Steps P (lone (Frame.round l f tmps assign body .normal) (c :: cs) w) (lone (c.raise ch) cs w')
    | .outgrown => False
section
variable {P : Program} {ro : Option Nat} {ops : Array Oper} {Q : Exit → Act → World → Prop} {a : Act} {w : World}
theorem wr_mono {c : Code} {Q' : Exit → Act → World → Prop} (h : wr P ro c Q a w) (hq : ∀ e a w, Q e a w → Q' e a w) : wr P ro c Q' a w :=
  fun b k cs hb => let ⟨e, a', w', q, r⟩ := h b k cs hb; ⟨e, a', w', hq _ _ _ q, r⟩
theorem wr_skip (h : Q .normal a w) : wr P ro .skip Q a w := fun _ _ _ _ => ⟨.normal, a, w, h, Steps.one stepR_skip⟩
theorem wr_label {l : Nat} (h : Q .normal a w) : wr P ro (.label l) Q a w := fun _ _ _ _ => ⟨.normal, a, w, h, Steps.one stepR_label⟩
theorem wr_exit {id : Nat} (h : Q (.exit id) a w) : wr P ro (.exit id) Q a w := fun _ k _ _ => ⟨.exit id, a, w, h, k, Steps.refl P _, rfl⟩
theorem wr_ret (h : Q .ret a w) : wr P ro .ret Q a w := fun _ k _ _ => ⟨.ret, a, w, h, k, Steps.refl P _⟩
theorem wr_seq {x y : Code} (h : wr P ro x (Exit.then (wr P ro y Q) Q) a w) : wr P ro (.seq x y) Q a w := by
  intro b k cs hb
  obtain ⟨e, a₁, w₁, hq, harr⟩ := h b (.code y :: k) cs hb
  have step := Steps.one (stepR_seq (P := P) (b := b) (a := a) (k := k) (cs := cs) (w := w) (x := x) (y := y))
  cases e with
  | normal =>
    obtain ⟨e₂, a₂, w₂, hq₂, harr₂⟩ := hq b k cs hb
    exact ⟨e₂, a₂, w₂, hq₂, .of_steps (step.trans harr) harr₂⟩
  | exit id => exact ⟨_, a₁, w₁, hq, .of_steps step (.pass (x := .code y) rfl (by simp) harr)⟩
  | goto l => exact ⟨_, a₁, w₁, hq, .of_steps step (.pass (x := .code y) rfl (by simp) harr)⟩
  | ret => exact ⟨_, a₁, w₁, hq, .of_steps step (.pass (x := .code y) rfl (by simp) harr)⟩
  | panic ch => exact ⟨_, a₁, w₁, hq, .of_steps step (.pass (x := .code y) rfl (by simp) harr)⟩
  | outgrown => exact harr.elim
theorem wr_cond {c : Operand} {x y : Code} {t : Bool} (hc : a.eval c = .bool t) (h : wr P ro (if t then x else y) Q a w) : wr P ro (.cond c x y) Q a w :=
  fun b k cs hb => let ⟨e, a', w', q, r⟩ := h b k cs hb; ⟨e, a', w', q, .of_steps (.one (stepR_cond hc)) r⟩
theorem wr_block {id : Nat} {c : Code} (h : wr P ro c (Exit.inBlock id Q) a w) : wr P ro (.block id c) Q a w := by
  intro b k cs hb
  obtain ⟨e, a₁, w₁, hq, harr⟩ := h b (.inBlock id :: k) cs hb
  have step := Steps.one (stepR_block (P := P) (b := b) (a := a) (k := k) (cs := cs) (w := w) (id := id) (c := c))
  cases e with
  | normal => exact ⟨.normal, a₁, w₁, hq, step.trans (Steps.trans harr (.one stepR_inBlock))⟩
  | exit id' =>
    obtain ⟨k1, h1, h2⟩ := harr
    by_cases hid : id' = id
    · simp only [Exit.inBlock, hid, if_true] at hq
      refine ⟨.normal, a₁, w₁, hq, step.trans (h1.trans (.one (stepR_exit (h2.trans ?_))))⟩
      simp [exitTo, hid]
    · simp only [Exit.inBlock, hid, if_false] at hq
      refine ⟨.exit id', a₁, w₁, hq, k1, step.trans h1, h2.trans ?_⟩
      have : (id == id') = false := by simp; exact fun h => hid h.symm
      simp [exitTo, this]
  | goto l =>
    obtain ⟨k1, h1, h2⟩ := harr
    exact ⟨_, a₁, w₁, hq, k1, step.trans h1, h2.trans (by simp [gotoIn])⟩
  | ret => obtain ⟨k1, h1⟩ := harr; exact ⟨_, a₁, w₁, hq, k1, step.trans h1⟩
  | panic ch => obtain ⟨k1, hk, h1⟩ := harr; exact ⟨_, a₁, w₁, hq, k1, hk, step.trans h1⟩
  | outgrown => exact harr.elim
theorem stepR_scope {b : Frame} {k : List Item} {cs : List Frame} {c : Code} : step P (lone (b.atR a (.code (.scope c) :: k)) cs w) = .next (lone (b.atR a (.code c :: .inScope c :: k)) cs w) :=
  step_lone_go (by simp [stepG, stepG.exec, Frame.atR])
theorem stepR_inScope {b : Frame} {k : List Item} {cs : List Frame} {c : Code} : step P (lone (b.atR a (.inScope c :: k)) cs w) = .next (lone (b.atR a k) cs w) :=
  step_lone_go (by simp [stepG, stepG.exec, Frame.atR])
theorem wr_scope {c : Code} (h : wr P ro c (fun e a w => match e with | .goto _ => False | e => Q e a w) a w) : wr P ro (.scope c) Q a w := by
  intro b k cs hb
  obtain ⟨e, a₁, w₁, hq, harr⟩ := h b (.inScope c :: k) cs hb
  have step := Steps.one (stepR_scope (P := P) (b := b) (a := a) (k := k) (cs := cs) (w := w) (c := c))
  cases e with
  | normal => exact ⟨.normal, a₁, w₁, hq, step.trans (Steps.trans harr (.one stepR_inScope))⟩
  | exit id =>
    obtain ⟨k1, h1, h2⟩ := harr
    exact ⟨.exit id, a₁, w₁, hq, k1, step.trans h1, h2.trans (by simp [exitTo])⟩
  | goto l => exact hq.elim
  | ret => obtain ⟨k1, h1⟩ := harr; exact ⟨_, a₁, w₁, hq, k1, step.trans h1⟩
  | panic ch => obtain ⟨k1, hk, h1⟩ := harr; exact ⟨_, a₁, w₁, hq, k1, hk, step.trans h1⟩
  | outgrown => exact harr.elim
theorem wr_loop {c : Code} (h : ∀ X : Act → World → Prop, (∀ a w, wr P ro c (Exit.then X Q) a w → X a w) → X a w) : wr P ro (.loop c) Q a w := by
  intro b k cs hb
  have key := h (fun a w => ∃ e a' w', Q e a' w' ∧ ArrR P (lone (b.atR a (.code c :: .inLoop c :: k)) cs w) b k cs e a' w') fun a w hr => by
    obtain ⟨e, a₁, w₁, hq, harr⟩ := hr b (.inLoop c :: k) cs hb
    cases e with
    | normal =>
      obtain ⟨e₂, a₂, w₂, hq₂, harr₂⟩ := hq
      exact ⟨e₂, a₂, w₂, hq₂, .of_steps (Steps.trans harr (.one stepR_inLoop)) harr₂⟩
    | exit id => exact ⟨_, a₁, w₁, hq, .pass (x := .inLoop c) rfl (by simp) harr⟩
    | goto l => exact ⟨_, a₁, w₁, hq, .pass (x := .inLoop c) rfl (by simp) harr⟩
    | ret => exact ⟨_, a₁, w₁, hq, .pass (x := .inLoop c) rfl (by simp) harr⟩
    | panic ch => exact ⟨_, a₁, w₁, hq, .pass (x := .inLoop c) rfl (by simp) harr⟩
    | outgrown => exact harr.elim
  obtain ⟨e, a', w', hq, harr⟩ := key
  exact ⟨e, a', w', hq, .of_steps (.one stepR_loop) harr⟩
theorem RegR_nil (h : Q .normal a w) : RegR P ro ops [] Q a w := fun _ _ _ _ => ⟨.normal, a, w, h, Steps.one stepR_region_end⟩
theorem wr_region {id : Nat} (h : RegR P ro ops (List.range ops.size) Q a w) : wr P ro (.region id ops false) Q a w :=
  fun b k cs hb => let ⟨e, a', w', q, r⟩ := h b k cs hb; ⟨e, a', w', q, .of_steps (.one stepR_region) r⟩
theorem wr_region_draw {id : Nat} (hm : P.follows .mixedOrders = true) (h : ∀ t, RegR P ro ops (Region.linearise .any ops t) Q a { w with drawn := w.drawn + 1 }) : wr P ro (.region id ops true) Q a w :=
  fun b k cs hb => by
    obtain ⟨e, a', w', q, r⟩ := h (w.tape w.drawn (.order b.fn id)) b k cs hb
    refine ⟨e, a', w', q, .of_steps (.one stepR_region_draw) ?_⟩
    simp only [Region.schedule, hm, Bool.true_or, if_true]
    exact r
theorem OpR_out {i : Nat} {K : Act → World → Prop} (hi : ops[i]? = none) (h : K a w) : OpR P ro ops Q i K a w := fun rest hr b k cs hb => by
  obtain ⟨e, a', w', hq, harr⟩ := hr a w h b k cs hb
  have hs := stepR_op_skip (P := P) (b := b) (a := a) (k := k) (cs := cs) (w := w) (ops := ops) (i := i) (rest := rest) (by simp [hi])
  simp only [hi, Option.bind_none, Act.put] at hs
  exact ⟨e, a', w', hq, .of_steps (.one hs) harr⟩
theorem OpR_skip {i : Nat} {o : Oper} {K : Act → World → Prop} (hi : ops[i]? = some o) (hw : Region.wanted o (yielded ops a.tmps) = false) (h : K (a.put o.dst undef) w) : OpR P ro ops Q i K a w := fun rest hr b k cs hb => by
  obtain ⟨e, a', w', hq, harr⟩ := hr _ _ h b k cs hb
  have hs := stepR_op_skip (P := P) (b := b) (a := a) (k := k) (cs := cs) (w := w) (ops := ops) (i := i) (rest := rest) (by simp [hi, hw])
  simp only [hi, Option.bind_some] at hs
  exact ⟨e, a', w', hq, .of_steps (.one hs) harr⟩
theorem OpR_wp {i : Nat} {o : Oper} {K : Act → World → Prop} (hi : ops[i]? = some o) (hw : Region.wanted o (yielded ops a.tmps) = true) (hd : ro = none ∨ ∀ c, o.op ≠ .defer c) (hout : ∀ a w, ¬ Q .outgrown a w) (h : o.wp P a w K Q) : OpR P ro ops Q i K a w := fun rest hr b k cs hb => by
  have hg := stepGR_op (P := P) (b := b) (k := k) (cs := cs) (w := w) (rest := rest) hi hw
  have hsem : o.semAt b.roundOf a.eval = execOp a.eval o := by
    rcases hd with hd | hd
    · rw [hb, hd]; rfl
    · exact Oper.semAt_eq _ _ _ hd
  rw [hsem] at hg
  have hfin : ∀ v, (b.atR a (.inRegion ops (i :: rest) :: k)).finish v = b.atR (a.put o.dst v) (.inRegion ops rest :: k) := by
    intro v; rw [Frame.finish_atR, hi]; rfl
  simp only [Oper.wp, Oper.upon] at h
  split at h
  · rename_i v w' hrun
    obtain ⟨e, a', w'', hq, harr⟩ := hr _ _ h b k cs hb
    refine ⟨e, a', w'', hq, .of_steps (.one (step_lone_go ?_)) harr⟩
    rw [hg, ← hfin]; simp [stepG.apply, hrun]
  · rename_i w' hrun
    obtain ⟨e, a', w'', hq, harr⟩ := hr _ _ h b k cs hb
    refine ⟨e, a', w'', hq, .of_steps (.one (step_lone_go ?_)) harr⟩
    rw [hg, ← hfin]; simp [stepG.apply, hrun]
  · rename_i d w' hrun
    obtain ⟨e, a', w'', hq, harr⟩ := hr _ _ h b k cs hb
    refine ⟨e, a', w'', hq, .of_steps (.one (step_lone_go ?_)) harr⟩
    have : ({ b.atR a (.inRegion ops (i :: rest) :: k) with defers := d :: a.defers } : Frame).finish undef = b.atR ({ a with defers := d :: a.defers }.put o.dst undef) (.inRegion ops rest :: k) := by
      have := Frame.finish_atR b { a with defers := d :: a.defers } ops i rest k undef
      rw [hi] at this; exact this
    rw [hg]; simp only [stepG.apply, Sem.runT_eq, hrun, GStep.bare_after]
    exact congrArg (fun fr => GStep.go { frame := fr, callers := cs, status := .running, dying := none } w') this
  · rename_i f args w' hrun
    obtain ⟨e, w'', fr, hR, hsteps, _, hleave⟩ := h (b.atR a (.inRegion ops (i :: rest) :: k) :: cs)
    have henter : step P (lone (b.atR a (.inRegion ops (i :: rest) :: k)) cs w) = .next (lone (Frame.enter P f args .normal) (b.atR a (.inRegion ops (i :: rest) :: k) :: cs) w') :=
      step_lone_go (by rw [hg]; simp [stepG.apply, hrun, Frame.atR])
    cases e with
    | returned v =>
      obtain ⟨e, a', w₃, hq, harr⟩ := hr _ _ hR b k cs hb
      refine ⟨e, a', w₃, hq, .of_steps (.head henter (Steps.trans hsteps (.one ?_))) harr⟩
      rw [← hfin]; exact step_leave_returned hleave
    | panicked chain =>
      refine ⟨.panic chain, a, w'', hR, .inRegion ops (i :: rest) :: k, trivial, .head henter (Steps.trans hsteps (.one ?_))⟩
      rw [← Frame.raise_atR]; exact step_leave_panicked hleave
    | outgrown =>
      obtain ⟨a₀, w₀, hq⟩ := hR
      exact (hout _ _ hq).elim
  · rename_i row args w' hrun
    obtain ⟨v, w'', hR, hsteps⟩ := h (b.atR a (.inRegion ops (i :: rest) :: k)) cs
    have henter : step P (lone (b.atR a (.inRegion ops (i :: rest) :: k)) cs w) = .next (lone (Frame.ofRow P row args .normal) (b.atR a (.inRegion ops (i :: rest) :: k) :: cs) w') :=
      step_lone_go (by rw [hg]; simp [stepG.apply, hrun, Frame.atR])
    obtain ⟨e, a', w₃, hq, harr⟩ := hr _ _ hR b k cs hb
    refine ⟨e, a', w₃, hq, .of_steps (.head henter ?_) harr⟩
    rw [← hfin]; exact hsteps
  · rename_i v w' hrun
    refine ⟨_, a, w', h, .inRegion ops (i :: rest) :: k, trivial, .one (step_lone_go ?_)⟩
    rw [hg, ← Frame.raise_atR]; simp [stepG.apply, hrun]
  · exact h.elim
theorem OpR_yield {i : Nat} {o : Oper} {K : Act → World → Prop} {l : Nat} {f : FuncId} {tmps : Array Value} {assign body : Code} {w1 : World} (hi : ops[i]? = some o) (hw : Region.wanted o (yielded ops a.tmps) = true) (hd : ∀ c, o.op ≠ .defer c)
    (hrun : (execOp a.eval o).run P w = .ok (.round l f tmps assign body) w1) (h : RoundW P l f tmps assign body w1 fun e w2 => match e with
      | .returned v => K (a.put o.dst v) w2
      | .panicked ch => Q (.panic ch) a w2
      | .outgrown => False) : OpR P ro ops Q i K a w := fun rest hr b k cs hb => by
  have hg := stepGR_op (P := P) (b := b) (k := k) (cs := cs) (w := w) (rest := rest) hi hw
  rw [Oper.semAt_eq _ _ _ hd] at hg
  have hfin : ∀ v, (b.atR a (.inRegion ops (i :: rest) :: k)).finish v = b.atR (a.put o.dst v) (.inRegion ops rest :: k) := by
    intro v; rw [Frame.finish_atR, hi]; rfl
  obtain ⟨e, w2, hR, hsteps⟩ := h (b.atR a (.inRegion ops (i :: rest) :: k)) cs
  have henter : step P (lone (b.atR a (.inRegion ops (i :: rest) :: k)) cs w) = .next (lone (Frame.round l f tmps assign body .normal) (b.atR a (.inRegion ops (i :: rest) :: k) :: cs) w1) :=
    step_lone_go (by rw [hg]; simp [stepG.apply, hrun, Frame.atR])
  cases e with
  | returned v =>
    obtain ⟨e, a', w₃, hq, harr⟩ := hr _ _ hR b k cs hb
    refine ⟨e, a', w₃, hq, .of_steps (.head henter ?_) harr⟩
    rw [← hfin]; exact hsteps
  | panicked ch =>
    refine ⟨.panic ch, a, w2, hR, .inRegion ops (i :: rest) :: k, trivial, .head henter ?_⟩
    rw [← Frame.raise_atR]; exact hsteps
  | outgrown => exact hR.elim
def AnyR (P : Program) (ro : Option Nat) (ops : Array Oper) (Q : Exit → Act → World → Prop) (fuel : Nat) (listed : Array Bool) (a : Act) (w : World) : Prop :=
  ∀ t, RegR P ro ops (Region.linearise.go .any ops fuel t listed []) Q a w
theorem AnyR_zero {listed : Array Bool} (h : Q .normal a w) : AnyR P ro ops Q 0 listed a w := fun t => by
  simp only [Region.linearise.go, List.reverse_nil]
  exact RegR_nil h
theorem AnyR_succ {fuel : Nat} {listed : Array Bool} (h0 : Region.ready .any ops listed = [] → Q .normal a w) (h1 : ∀ i ∈ Region.ready .any ops listed, OpR P ro ops Q i (AnyR P ro ops Q fuel (listed.setIfInBounds i true)) a w) : AnyR P ro ops Q (fuel + 1) listed a w := fun t => by
  simp only [Region.linearise.go]
  change RegR P ro ops (match (Region.ready .any ops listed)[t % (Region.ready .any ops listed).length]? with
    | some i => Region.linearise.go .any ops fuel (t / (Region.ready .any ops listed).length) (listed.setIfInBounds i true) [i]
    | none => [].reverse) Q a w
  cases hi : (Region.ready .any ops listed)[t % (Region.ready .any ops listed).length]? with
  | none =>
    have hnil : Region.ready .any ops listed = [] := by
      cases hr : Region.ready .any ops listed with
      | nil => rfl
      | cons x xs =>
        rw [hr] at hi
        have hlt : t % (x :: xs).length < (x :: xs).length := Nat.mod_lt _ (by simp)
        simp at hi
        simp at hlt
        omega
    exact RegR_nil (h0 hnil)
  | some i =>
    simp only []
    rw [linearise_go_acc, List.reverse_singleton, List.singleton_append]
    exact h1 i (List.mem_of_getElem? hi) _ fun a' w' hk => hk _
theorem wr_region_any {id : Nat} (hm : P.follows .mixedOrders = true) (h : AnyR P ro ops Q ops.size (Array.replicate ops.size false) a { w with drawn := w.drawn + 1 }) : wr P ro (.region id ops true) Q a w :=
  wr_region_draw hm fun t => h t
theorem wp_of_wr {c : Code} (h : wr P none c Q a w) : c.wp P Q a w := fun b k cs => by
  obtain ⟨e, a', w', hq, harr⟩ := h { b with roundOf := none } k cs rfl
  have hat : ∀ (a : Act) (k : List Item), ({ b with roundOf := none } : Frame).atR a k = b.at a k := fun a k => rfl
  refine ⟨e, a', w', hq, ?_⟩
  cases e with
  | normal => exact harr
  | exit id => obtain ⟨k1, h1, h2⟩ := harr; exact fun k' hk => h1.trans (.one (step_exit (h2.trans hk)))
  | goto l => obtain ⟨k1, h1, h2⟩ := harr; exact fun k' hk => h1.trans (.one (step_goto (h2.trans hk)))
  | ret => obtain ⟨k1, h1⟩ := harr; exact ⟨_, h1.trans (.one step_ret)⟩
  | panic ch => obtain ⟨k1, _, h1⟩ := harr; exact ⟨k1, h1⟩
  | outgrown => exact harr.elim
end
end Go.Qg

namespace Go.Qg
open Go.RowKit (Below)
def isPtr : TypeDesc → Bool
  | .pointer _ => true
  | _ => false
def pmeth (P : Program) (t : TypeId) (name : String) : Option FuncId :=
  match (P.info? t).bind fun i => i.methods.find? (·.name == name) with
  | some m => match m.path.toList, m.func, P.underlying t with
    | [], some (f, b), some u => if isPtr u = b then some f else none
    | _, _, _ => none
  | none => none
def pcallee (P : Program) (fr : PF) (c : Call) : Option (FuncId × List PV) :=
  match c.callee with
  | .value x => match rd fr x with
    | .clo (.func f) first cap => some (f, first ++ (c.args.toList.map (rd fr) ++ cap))
    | _ => none
  | .invoke x name => match rd fr x with
    | .ifc t p => match pmeth P t name with
      | some f => some (f, p :: c.args.toList.map (rd fr))
      | none => none
    | _ => none
  | _ => none
def isCall (o : Oper) : Option Call :=
  match o.op with
  | .call c => match c.callee with
    | .value _ => some c
    | .invoke _ _ => some c
    | _ => none
  | _ => none
def isPanic (o : Oper) : Option Operand :=
  match o.op with
  | .panic x => some x
  | _ => none
def lentTgt (H : PF) (ι : List Nat) (md : Bool) : Tgt := tgtAt H ι fun s => md && !ι.contains s
def backOk (fr : PF) (ι news : List Nat) (H2 : PF) : Prop := (ι ++ news).Nodup ∧ H2.length = (ι ++ news).length ∧ ∀ s ∈ news, s < fr.length ∧ objAt fr s = false
def back (fr : PF) (π : List Nat) (H2 : PF) : PF := placeAll (π.getD · 0) π H2 fr
def backV (π : List Nat) (p : PV) : PV := p.ren (π.getD · 0)
def argsOk (fr : PF) (T : Tgt) (qs ps : List PV) : Prop := vwAll (vw fr T 8) qs ps ∨ (qs = ps ∧ namesL ps = [])
def pcall (P : Program) (fr : PF) (f : FuncId) (ps : List PV) (K Kp : PV → PF → Prop) : Prop :=
  ∃ (ι : List Nat) (md : Bool) (H : PF) (qs : List PV) (Q : Out → Prop), ι.Nodup ∧ outF fr (lentTgt H ι md) 8 H ι ∧ argsOk fr (lentTgt H ι md) qs ps ∧ CallW P f qs H Q ∧
    ∀ out, Q out → match out with
      | .ret r H2 => ∃ news, backOk fr ι news H2 ∧ (md = false ∨ (flatL H2 && r.flat) = true) ∧ K (backV (ι ++ news) r) (back fr (ι ++ news) H2)
      | .pan p H2 => ∃ news, backOk fr ι news H2 ∧ (md = false ∨ (flatL H2 && p.flat) = true) ∧ Kp (backV (ι ++ news) p) (back fr (ι ++ news) H2)
def popCall (P : Program) (M : Nat) (K : PF → Prop) (Kp : PV → PF → Prop) (o : Oper) (c : Call) (fr : PF) : Prop :=
  ∃ g, (g = fr ∨ leF fr (tgtOf fr g) M 8 0 g fr) ∧ match pcallee P g c with
    | some (f, ps) => pcall P g f ps (fun r g => pclear o.dst r g = true ∧ K (put o.dst r g)) Kp
    | none => False
def popAny (P : Program) (o : Oper) (fr : PF) (K : PF → Prop) : Prop :=
  match o.op with
  | .binOp .eql t x y _ => match rd fr x, rd fr y with
    | .sl _ _ _, .nil => (tel P t).isSome = true ∧ ∀ b : Bool, pclear o.dst (.v (.bool b)) fr = true ∧ K (put o.dst (.v (.bool b)) fr)
    | _, _ => False
  | _ => False
def pop (P : Program) (M : Nat) (K : PF → Prop) (Kp : PV → PF → Prop) (o : Oper) (fr : PF) : Prop :=
  match isCall o with
  | some c => popCall P M K Kp o c fr
  | none => match isPanic o with
    | some x => match rd fr x with
      | .ifc t p => Kp (.ifc t p) fr
      | _ => False
    | none => match pstep P o fr with
      | some fr' => K fr'
      | none => popAny P o fr K
def pwanted (all : List Oper) (o : Oper) (fr : PF) : Option Bool :=
  match o.guard with
  | none => some true
  | some (j, want) => match (all[j]?).bind (·.dst) with
    | some d => match fr[d]? with
      | some (.v (.bool b)) => some (b == want)
      | some (.tup _) => some false
      | _ => none
    | none => some false
def pops (P : Program) (M : Nat) (all : List Oper) (K : PF → Prop) (Kp : PV → PF → Prop) : List Oper → PF → Prop
  | [], fr => K fr
  | o :: rest, fr => match pwanted all o fr with
    | some b => if b = true then pop P M (pops P M all K Kp rest) Kp o fr else pclear o.dst (.tup []) fr = true ∧ pops P M all K Kp rest (put o.dst (.tup []) fr)
    | none => False
section
variable {P : Program} {N : Nat} {B : Base} {w w' : World} {R R' R2 : Nat → Nat → Prop} {Γ Γ' Γ2 : Nat → Option Loc} {a : Act} {fr fr' : PF} {Q : Exit → Act → World → Prop} {all : List Oper}
theorem isCall_some {o : Oper} {c : Call} (h : isCall o = some c) : o.op = .call c ∧ ∃ x, c.callee = .value x ∨ ∃ m, c.callee = .invoke x m := by
  unfold isCall at h
  split at h
  · rename_i c' ho
    split at h
    · rename_i x hx
      obtain rfl := Option.some.inj h
      exact ⟨ho, x, .inl hx⟩
    · rename_i x m hx
      obtain rfl := Option.some.inj h
      exact ⟨ho, x, .inr ⟨m, hx⟩⟩
    · cases h
  · cases h
theorem run_method {t : TypeId} {name : String} {f : FuncId} (h : pmeth P t name = some f) (n : Nat) (v : Value) (w : World) : (method (n + 1) t v name).run P w = .ok (f, v) w := by
  unfold pmeth at h
  split at h
  case h_2 => cases h
  rename_i m hm
  obtain ⟨i, hi, hf⟩ := Option.bind_eq_some_iff.1 hm
  split at h
  case h_2 => cases h
  rename_i f' b u hp hfn hu
  split at h
  case isFalse => cases h
  rename_i hb
  obtain rfl := Option.some.inj h
  unfold method
  simp only [Sem.run_bind, run_typeInfo w hi, Result.andThen_ok, hf, hp, follow, Sem.run_pure, hfn]
  unfold receiverAt
  simp only [Sem.run_bind, run_underlying hu, Result.andThen_ok]
  cases b with
  | true =>
    cases u with
    | pointer e => simp only [Place.get, Sem.run_bind, Sem.run_pure, Result.andThen_ok]
    | _ => cases hb
  | false =>
    cases u with
    | pointer e => cases hb
    | _ => simp only [Place.get, Sem.run_bind, Sem.run_pure, Result.andThen_ok]
theorem Sim.callee (h : Sim N B R Γ a w fr) {c : Call} {f : FuncId} {ps : List PV} (hp : pcallee P fr c = some (f, ps)) (ty : TypeId) : ∃ vs : List Value, vs.length = ps.length ∧
    (∀ (i : Nat) (u : Value) (p : PV), vs[i]? = some u → ps[i]? = some p → Rep w R Γ u p) ∧ ∀ w, (do let d ← resolve a.eval c ty; invoke d.target d.args : Sem Next).run P w = (callFunc f vs.toArray).run P w := by
  obtain ⟨callee, cargs, ats⟩ := c
  simp only [pcallee] at hp
  split at hp
  case h_3 => cases hp
  case h_2 =>
    rename_i x name
    split at hp
    case h_2 => cases hp
    rename_i t p hrd
    split at hp
    case h_2 => cases hp
    rename_i f' hm
    simp only [Option.some.injEq, Prod.mk.injEq] at hp
    obtain ⟨rfl, rfl⟩ := hp
    have hv := h.rd x
    rw [hrd] at hv
    generalize hux : a.eval x = ux at hv
    cases hv with
    | ifc _ u _ hr =>
    refine ⟨u :: cargs.toList.map a.eval, by simp, fun i u' p' hi hp => ?_, fun w => ?_⟩
    · cases i with
      | zero =>
        have hi := Option.some.inj hi
        have hp := Option.some.inj hp
        subst hi hp
        exact hr
      | succ i =>
        simp only [List.getElem?_cons_succ, List.getElem?_map] at hi hp
        cases hy : cargs.toList[i]? with
        | none => rw [hy] at hi; cases hi
        | some y =>
          rw [hy] at hi hp
          obtain rfl := Option.some.inj hi
          obtain rfl := Option.some.inj hp
          exact h.rd y
    · simp only [resolve, hux]
      rw [show ∀ (x : Deferred) (k : Deferred → Sem Next), (pure x >>= k) = k x from fun _ _ => rfl]
      simp only [invoke]
      have e0 : (#[Value.iface t u] ++ Array.map a.eval cargs)[0]? = some (Value.iface t u) := by rw [Array.getElem?_append_left (by simp)]; rfl
      have e1 : (#[Value.iface t u] ++ Array.map a.eval cargs).extract 1 (#[Value.iface t u] ++ Array.map a.eval cargs).size = Array.map a.eval cargs := by
        apply Array.ext'
        simp only [Array.toList_extract, Array.toList_append, Array.toList_map]
        simp [List.extract]
        exact List.take_of_length_le (by simp)
      rw [e0, e1]
      simp only [callMethod, Sem.run_bind, run_program, Result.andThen_ok]
      rw [show P.types.size + Made.depth = (P.types.size + 99) + 1 from rfl, run_method hm]
      simp only [Result.andThen_ok]
      congr 2
      apply Array.ext'
      simp
  rename_i x
  split at hp
  case h_2 => cases hp
  rename_i f' first cap hrd
  simp only [Option.some.injEq, Prod.mk.injEq] at hp
  obtain ⟨rfl, rfl⟩ := hp
  have hv := h.rd x
  rw [hrd] at hv
  generalize hux : a.eval x = ux at hv
  cases hv with
  | clo _ uf uc _ _ h1 h2 h3 h4 =>
  refine ⟨uf ++ (cargs.toList.map a.eval ++ uc), by simp; omega, fun i u p hi hp => ?_, fun w => ?_⟩
  · by_cases hif : i < uf.length
    · rw [List.getElem?_append_left hif] at hi
      rw [List.getElem?_append_left (by omega)] at hp
      exact h3 i u p hi hp
    · rw [List.getElem?_append_right (by omega)] at hi
      rw [List.getElem?_append_right (by omega), ← h1] at hp
      by_cases hic : i - uf.length < cargs.toList.length
      · rw [List.getElem?_append_left (by simpa using hic), List.getElem?_map] at hi
        rw [List.getElem?_append_left (by simpa using hic), List.getElem?_map] at hp
        cases hy : cargs.toList[i - uf.length]? with
        | none => rw [hy] at hi; cases hi
        | some y =>
          rw [hy] at hi hp
          obtain rfl := Option.some.inj hi
          obtain rfl := Option.some.inj hp
          exact h.rd y
      · rw [List.getElem?_append_right (by simpa using hic)] at hi
        rw [List.getElem?_append_right (by simpa using hic)] at hp
        simp only [List.length_map] at hi hp
        exact h4 _ u p hi hp
  · simp only [resolve, Deferred.ofValue, hux]
    rw [show ∀ (x : Deferred) (k : Deferred → Sem Next), (pure x >>= k) = k x from fun _ _ => rfl]
    simp only [invoke]
    congr 2
    simp [Array.append_assoc]
theorem pcall_sound (h : Sim N B R Γ a w fr) {f : FuncId} {ps : List PV} {vs : List Value} (hl : vs.length = ps.length) (hrep : ∀ (i : Nat) (u : Value) (p : PV), vs[i]? = some u → ps[i]? = some p → Rep w R Γ u p)
    {K Kp : PV → PF → Prop} (hp : pcall P fr f ps K Kp) : (∀ (vs : Array Value) (w : World), (callFunc f vs).run P w = .ok (.enter f vs) w) ∧
    Calls P f vs.toArray w fun e w' => ∃ R' Γ' fr' v q, Sim N B R' Γ' a w' fr' ∧ Rep w' R' Γ' v q ∧ ((e = .returned v ∧ K q fr') ∨ (e = .panicked [{ v := v, recovered := false }] ∧ Kp q fr')) := by
  obtain ⟨ι, md, H, qs, Qo, hι, hout, hvw, hc, hk⟩ := hp
  have hgone : ∀ s ∈ ι, (md && !ι.contains s) = false := fun s hs => by simp [hs]
  obtain ⟨hlend, hRp⟩ := h.lend hout hι hgone
  obtain ⟨_, hview⟩ := h.leave hout hι hgone
  have hlq : qs.length = ps.length := by
    rcases hvw with hvw | ⟨rfl, _⟩
    · exact vwAll_length hvw
    · rfl
  refine ⟨hc.1, (hc.2 w vs _ _ _ hRp hlend (hl.trans hlq.symm) fun i u q hu hq => ?_).mono ?_⟩
  · rcases hvw with hvw | ⟨rfl, hnm⟩
    · obtain ⟨p, hp, hv⟩ := vwAll_get hvw i q hq
      exact hview q p u hv (hrep i u p hu hp)
    · refine (hrep i u q hu hq).free (fun b o hb => ⟨.inl hb, rfl⟩) ?_
      refine List.eq_nil_iff_forall_not_mem.2 fun j hj => ?_
      have := mem_namesL.2 ⟨q, List.mem_of_getElem? hq, hj⟩
      rw [hnm] at this; cases this
  · rintro e w' ⟨R2, Γ2, hcase⟩
    have hmd : ∀ {b : Bool}, md = false ∨ b = true → (∀ s, (md && !ι.contains s) = false) ∨ b = true := fun h => h.imp_left fun h s => by simp [h]
    rcases hcase with ⟨v, r, H2, rfl, hq, hr, hs, hobj⟩ | ⟨v, r, H2, rfl, hq, hr, hs, hobj⟩
    · obtain ⟨news, ⟨h1, h2, h3⟩, hm, hK⟩ := hk _ hq
      have hm1 := hmd (hm.imp_right fun h => by simp only [Bool.and_eq_true] at h; exact h.1)
      have hm2 := hmd (hm.imp_right fun h => by simp only [Bool.and_eq_true] at h; exact h.2)
      obtain ⟨m1, m2⟩ := h.merge (news := news) hout hs h1 h2 h3 hm1 hobj
      exact ⟨_, _, _, v, _, m1, m2 v r hm2 hr, .inl ⟨rfl, hK⟩⟩
    · obtain ⟨news, ⟨h1, h2, h3⟩, hm, hK⟩ := hk _ hq
      have hm1 := hmd (hm.imp_right fun h => by simp only [Bool.and_eq_true] at h; exact h.1)
      have hm2 := hmd (hm.imp_right fun h => by simp only [Bool.and_eq_true] at h; exact h.2)
      obtain ⟨m1, m2⟩ := h.merge (news := news) hout hs h1 h2 h3 hm1 hobj
      exact ⟨_, _, _, v, _, m1, m2 v r hm2 hr, .inr ⟨rfl, hK⟩⟩
def PanUp (N : Nat) (B : Base) (Q : Exit → Act → World → Prop) (Kp : PV → PF → Prop) : Prop := ∀ (R : Nat → Nat → Prop) (Γ : Nat → Option Loc) (a : Act) (w : World) (fr : PF) (v : Value) (p : PV), Sim N B R Γ a w fr → Rep w R Γ v p → Kp p fr → Q (.panic [{ v := v, recovered := false }]) a w
theorem pop_sound (h : SimE N B a w fr) {o : Oper} (hN : ∀ d, o.dst = some d → d < N) {K : PF → Prop} {Kp : PV → PF → Prop} {M : Nat} (hM : B.lo = M) (hp : pop P M K Kp o fr) (hpan : PanUp N B Q Kp) {K' : Act → World → Prop} (hK : ∀ a' w' fr', SimE N B a' w' fr' → K fr' → K' a' w') : o.wp P a w K' Q := by
  unfold pop at hp
  split at hp
  · rename_i c hc
    obtain ⟨g, hg, hp⟩ := hp
    have h : SimE N B a w g := by
      rcases hg with rfl | hg
      · exact h
      · subst hM
        obtain ⟨R, Γ, h⟩ := h
        exact (weak_le h hg).toE
    split at hp
    case h_2 => exact hp.elim
    rename_i f ps hps
    obtain ⟨R, Γ, h⟩ := h
    obtain ⟨ho, _⟩ := isCall_some hc
    obtain ⟨vs, hl, hrep, hcall⟩ := h.callee hps o.type
    obtain ⟨hen, hcalls⟩ := pcall_sound h hl hrep hp
    have he : (execOp a.eval o).run P w = .ok (.enter f vs.toArray) w := by
      simp only [execOp, ho]
      rw [hcall w]
      exact hen _ _
    unfold Oper.wp
    rw [he, Oper.upon_enter]
    refine hcalls.mono ?_
    rintro e w' ⟨R', Γ', fr', v, q, hs, hr, ⟨rfl, hcl, hk⟩ | ⟨rfl, hk⟩⟩
    · exact hK _ _ _ (hs.put o.dst hN hcl hr).toE hk
    · exact hpan _ _ _ _ _ _ _ hs hr hk
  · split at hp
    · rename_i x hx
      split at hp
      case h_2 => exact hp.elim
      rename_i t p hrd
      obtain ⟨R, Γ, h⟩ := h
      have hop : o.op = .panic x := by
        unfold isPanic at hx
        split at hx
        · rename_i y hy
          rw [← Option.some.inj hx]; exact hy
        · cases hx
      have hv := h.rd x
      rw [hrd] at hv
      generalize hux : a.eval x = ux at hv
      cases hv with
      | ifc _ u _ hr =>
      unfold Oper.wp
      have : (execOp a.eval o).run P w = .halt (.panic (.iface t u)) w := by
        simp only [execOp, hop, hux, Instr.panic]
        rfl
      rw [this, Oper.upon_panic]
      exact hpan _ _ _ _ _ _ _ h (.ifc t u p hr) hp
    · split at hp
      · rename_i fr' hs
        exact pstep_sound h hN hs fun a' w' hs' => hK a' w' fr' hs' hp
      · unfold popAny at hp
        split at hp
        case h_2 => exact hp.elim
        rename_i t x y yt ho
        split at hp
        case h_2 => exact hp.elim
        rename_i sz n f hx hy
        obtain ⟨ht, hb⟩ := hp
        obtain ⟨e, he⟩ := Option.isSome_iff_exists.1 ht
        obtain ⟨R, Γ, h⟩ := h
        have hu := h.rd x
        have hv := h.rd y
        rw [hx] at hu
        rw [hy] at hv
        generalize hux : a.eval x = ux at hu
        generalize hvx : a.eval y = vx at hv
        cases hv with
        | nil =>
        cases hu with
        | sl A _ c _ _ us h1 h2 h3 h4 h5 h6 =>
        refine wp_val' (u := .bool A.isNone) (w' := w) ?_ (hK _ _ _ (h.put o.dst hN (hb A.isNone).1 (.v _ rfl)).toE (hb A.isNone).2)
        have hr : (do eqGuard .eql t x y (.slice A n c) (.slice none 0 0); binOp .eql t (.slice A n c) (.slice none 0 0) : Sem Value).run P w = .ok (.bool A.isNone) w := by
          rw [eqGuard_v _ _ _ _ _ _ rfl (by simp)]
          simpa using (run_eq_nilSlice (tel_some he) A n c w).1
        simp only [execOp, ho, hux, hvx, Sem.run_bind] at hr ⊢
        rw [hr]; rfl
theorem SimE.skip (h : SimE N B a w fr) {d : Option Tmp} (hN : ∀ t, d = some t → t < N) (hc : pclear d (.tup []) fr = true) : SimE N B (a.put d undef) w (put d (.tup []) fr) := by
  obtain ⟨R, Γ, h⟩ := h
  exact (h.put d hN hc (u := undef) (p := .tup []) (.tup [] [] rfl (fun i u p hu => by simp at hu))).toE
theorem wanted_sound (h : SimE N B a w fr) {ops : Array Oper} (hall : ops.toList = all) (hN : ∀ o ∈ all, ∀ d, o.dst = some d → d < N) {o : Oper} {b : Bool} (hw : pwanted all o fr = some b) : Region.wanted o (yielded ops a.tmps) = b := by
  obtain ⟨R, Γ, h⟩ := h
  unfold pwanted at hw
  unfold Region.wanted
  split at hw
  · rename_i hg; simp only [hg]; exact Option.some.inj hw
  · rename_i j want hg
    simp only [hg]
    have hj : ops[j]? = all[j]? := by rw [← hall]; simp
    unfold yielded
    rw [hj]
    split at hw
    · rename_i d hd
      rw [hd]
      have hsz := h.size
      have hdN : d < a.tmps.size := by
        rw [hsz]
        cases ho : all[j]? with
        | none => rw [ho] at hd; cases hd
        | some o' => rw [ho] at hd; exact hN o' (List.mem_of_getElem? ho) d hd
      split at hw
      · rename_i b' hs
        have hv : Rep w R Γ (a.tmps.getD d undef) (.v (.bool b')) := SlotRep.val rfl (h.slot d _ hs)
        have hv' : a.tmps[d]? = some (.bool b') := by
          generalize hu : a.tmps.getD d undef = u at hv
          cases hv
          rw [← hu, Array.getD_eq_getD_getElem?, Array.getElem?_eq_getElem hdN]; rfl
        simp only [Option.bind_some, hv']
        rw [← Option.some.inj hw]
        cases b' <;> cases want <;> rfl
      · rename_i cs hs
        have hr : Rep w R Γ (a.tmps.getD d undef) (.tup cs) := SlotRep.val rfl (h.slot d _ hs)
        have hv' : a.tmps[d]? = some (a.tmps.getD d undef) := by
          rw [Array.getD_eq_getD_getElem?, Array.getElem?_eq_getElem hdN]; rfl
        generalize a.tmps.getD d undef = u at hr hv'
        cases hr
        simp only [Option.bind_some, hv']
        exact Option.some.inj hw
      · cases hw
    · rename_i hd
      rw [hd]
      exact Option.some.inj hw
theorem pop_not_defer {M : Nat} {K : PF → Prop} {Kp : PV → PF → Prop} {o : Oper} (hp : pop P M K Kp o fr) : ∀ c, o.op ≠ .defer c := fun c hc => by
  have e1 : isCall o = none := by unfold isCall; rw [hc]
  have e2 : isPanic o = none := by unfold isPanic; rw [hc]
  have e3 : pstep P o fr = none := by unfold pstep; rw [hc]; rfl
  unfold pop at hp
  rw [e1, e2, e3] at hp
  unfold popAny at hp
  rw [hc] at hp
  exact hp
theorem op_sound {ro : Option Nat} (h : SimE N B a w fr) {ops : Array Oper} (hall : ops.toList = all) (hN : ∀ o ∈ all, ∀ d, o.dst = some d → d < N) {M : Nat} (hM : B.lo = M) {K : PF → Prop} {Kp : PV → PF → Prop} (hpan : PanUp N B Q Kp) (hout : ∀ a w, ¬ Q .outgrown a w) {k : Nat} {o : Oper} (hk : all[k]? = some o)
    (hp : match pwanted all o fr with
      | some b => if b = true then pop P M K Kp o fr else pclear o.dst (.tup []) fr = true ∧ K (put o.dst (.tup []) fr)
      | none => False) {K' : Act → World → Prop} (hK : ∀ a' w' fr', SimE N B a' w' fr' → K fr' → K' a' w') : OpR P ro ops Q k K' a w := by
  have hi : ops[k]? = some o := by rw [← hk, ← hall]; simp
  have hoN := hN o (List.mem_of_getElem? hk)
  split at hp
  case h_2 => exact hp.elim
  rename_i b hw
  have hwd := wanted_sound h hall hN hw
  split at hp
  · rename_i hb
    subst hb
    exact OpR_wp hi hwd (.inr (pop_not_defer hp)) hout (pop_sound h hoN hM hp hpan hK)
  · rename_i hb
    obtain rfl : b = false := by simpa using hb
    exact OpR_skip hi hwd (hK _ _ _ (h.skip hoN hp.1) hp.2)
theorem pops_sound {ro : Option Nat} (ops : Array Oper) (hall : ops.toList = all) (hN : ∀ o ∈ all, ∀ d, o.dst = some d → d < N) {M : Nat} (hM : B.lo = M) {K : PF → Prop} {Kp : PV → PF → Prop} (hpan : PanUp N B Q Kp) (hout : ∀ a w, ¬ Q .outgrown a w) (hQ : ∀ a w fr, SimE N B a w fr → K fr → Q .normal a w) :
    ∀ (m k : Nat), k + m = all.length → ∀ (a : Act) (w : World) (fr : PF), SimE N B a w fr → pops P M all K Kp (all.drop k) fr → RegR P ro ops (List.range' k m) Q a w
  | 0, k, hk, a, w, fr, h, hp => by
    rw [List.drop_eq_nil_of_le (by omega)] at hp
    exact RegR_nil (hQ a w fr h hp)
  | m + 1, k, hk, a, w, fr, h, hp => by
    have hlt : k < all.length := by omega
    rw [List.drop_eq_getElem_cons hlt] at hp
    rw [List.range'_succ]
    exact op_sound h hall hN hM hpan hout (List.getElem?_eq_getElem hlt) hp (K' := fun a' w' => ∃ fr', SimE N B a' w' fr' ∧ pops P M all K Kp (all.drop (k + 1)) fr') (fun a' w' fr' h1 h2 => ⟨fr', h1, h2⟩) _
      fun a' w' ⟨fr', h1, h2⟩ => pops_sound ops hall hN hM hpan hout hQ m (k + 1) (by omega) a' w' fr' h1 h2
end
end Go.Qg

namespace Go.Qg
open Go.RowKit (Below)
def deref : PV → List Nat
  | .ref s _ | .elt s _ _ _ | .own s _ _ _ _ | .mp s => [s]
  | _ => []
def nest : PV → List Nat
  | .agg l => l.flatMap deref
  | _ => []
def tmpOf : Operand → List Nat
  | .tmp t => [t]
  | _ => []
def guardSlot (all : List Oper) (o : Oper) : List Nat :=
  match o.guard with
  | some (j, _) => ((all[j]?).bind (·.dst)).toList
  | none => []
def shapeOnly : Op → Bool
  | .indexAddr _ _ _ | .move _ | .assign _ => true
  | _ => false
def readsOf (all : List Oper) (o : Oper) (fr : PF) : List Nat :=
  let ts := o.op.operands.toList.flatMap tmpOf
  ts ++ (if shapeOnly o.op = true then [] else ts.flatMap fun t => deref (rd fr (.tmp t)) ++ (if (isCall o).isSome = true then nest (rd fr (.tmp t)) else [])) ++ guardSlot all o ++ o.dst.toList
def shapesOf (o : Oper) (fr : PF) : List Nat :=
  if shapeOnly o.op = true then (o.op.operands.toList.flatMap tmpOf).flatMap fun t => deref (rd fr (.tmp t)) else []
def shp : PV → Option (Nat × Nat)
  | .rows _ ep _ sz _ => some (ep, sz)
  | _ => none
def shAt (fr : PF) (s : Nat) : Option (Nat × Nat) := (fr[s]?).bind shp
def writesOf (o : Oper) (fr : PF) : List Nat :=
  o.dst.toList ++ match o.op with
    | .store _ p _ => deref (rd fr p)
    | .mapUpdate _ m _ _ => deref (rd fr m)
    | .call c => match c.callee, c.args.toList with
      | .builtin .append, x :: _ => deref (rd fr x)
      | _, _ => []
    | _ => []
def keeps : PV → Bool
  | .elt _ _ _ _ => true
  | _ => false
def turnsOf (o : Oper) (fr : PF) : List Nat :=
  o.dst.toList ++ match o.op with
    | .store _ p _ => if keeps (rd fr p) = true then [] else deref (rd fr p)
    | .mapUpdate _ m _ _ => deref (rd fr m)
    | .call c => match c.callee, c.args.toList with
      | .builtin .append, x :: _ => deref (rd fr x)
      | _, _ => []
    | _ => []
def noObj (d : Option Tmp) (fr : PF) : Bool :=
  match d with
  | some d => !objAt fr d
  | none => true
def isAppTo (o : Oper) (fr : PF) : Bool :=
  match o.op with
  | .call c => match c.callee, c.args.toList, o.dst with
    | .builtin .append, x :: _, some d => match rd fr x with
      | .own i _ _ _ _ => i == d
      | _ => false
    | _, _, _ => false
  | _ => false
def dstOk (o : Oper) (fr : PF) : Bool := noObj o.dst fr || isAppTo o fr
def dargs (fr : PF) (c : Call) (md : Bool) (qs ps : List PV) : Prop :=
  (md = false ∧ qs = ps ∧ namesL ps = []) ∨ (md = true ∧ ∀ g : PF, (∀ y ∈ c.args.toList, ∀ s ∈ deref (rd fr y) ++ nest (rd fr y), g[s]? = fr[s]?) → vwAll (vw g (lentTgt [] [] true) 8) qs ps)
def PStep (P : Program) (all : List Oper) (o : Oper) (news : List Nat) (fr fr' : PF) : Prop :=
  match pwanted all o fr with
  | some true => match isCall o with
    | some c => match pcallee P fr c with
      | some (f, ps) => noObj o.dst fr = true ∧ ∃ md qs r H2, dargs fr c md qs ps ∧ (md = false ∨ (flatL H2 && r.flat) = true) ∧ CallW P f qs [] (fun out => out = .ret r H2) ∧ backOk fr [] news H2 ∧ (∀ d, o.dst = some d → d ∉ news) ∧ fr' = put o.dst (backV news r) (back fr news H2)
      | none => False
    | none => isPanic o = none ∧ dstOk o fr = true ∧ pstep P o fr = some fr'
  | some false => noObj o.dst fr = true ∧ fr' = put o.dst (.tup []) fr
  | none => False
def apply (us : List (Nat × PV)) (fr : PF) : PF := us.foldl (fun f u => f.set u.1 u.2) fr
theorem apply_length (us : List (Nat × PV)) : ∀ fr : PF, (apply us fr).length = fr.length := by
  induction us with
  | nil => intro fr; rfl
  | cons u us ih => intro fr; simp only [apply, List.foldl_cons]; exact (ih _).trans (by simp)
theorem apply_out {us : List (Nat × PV)} {s : Nat} (h : ∀ u ∈ us, u.1 ≠ s) : ∀ fr : PF, (apply us fr)[s]? = fr[s]? := by
  induction us with
  | nil => intro fr; rfl
  | cons u us ih =>
    intro fr
    simp only [apply, List.foldl_cons]
    have := ih (fun v hv => h v (List.mem_cons_of_mem _ hv)) (fr.set u.1 u.2)
    simp only [apply] at this
    rw [this, List.getElem?_set_ne (h u List.mem_cons_self)]
theorem apply_in {s : Nat} (us : List (Nat × PV)) : ∀ {fr g : PF}, g.length = fr.length → ((∃ u ∈ us, u.1 = s) ∨ g[s]? = fr[s]?) → (apply us g)[s]? = (apply us fr)[s]? := by
  induction us with
  | nil =>
    intro fr g _ h
    rcases h with ⟨u, hu, _⟩ | h
    · cases hu
    · exact h
  | cons u us ih =>
    intro fr g hl h
    simp only [apply, List.foldl_cons]
    refine ih (fr := fr.set u.1 u.2) (g := g.set u.1 u.2) (by simpa using hl) ?_
    by_cases hu : u.1 = s
    · right
      subst hu
      by_cases hlt : u.1 < fr.length
      · rw [List.getElem?_set_self (by omega), List.getElem?_set_self hlt]
      · rw [List.getElem?_eq_none (by simp; omega), List.getElem?_eq_none (by simp; omega)]
    · rcases h with ⟨v, hv, hvs⟩ | h
      · rcases List.mem_cons.1 hv with rfl | hv
        · exact (hu hvs).elim
        · exact .inl ⟨v, hv, hvs⟩
      · right
        rw [List.getElem?_set_ne hu, List.getElem?_set_ne hu, h]
section
variable {P : Program} {fr fr' g : PF} {all : List Oper}
theorem rd_congr {x : Operand} (h : ∀ t ∈ tmpOf x, g[t]? = fr[t]?) : rd g x = rd fr x := by
  cases x with
  | tmp t => simp only [rd, h t (by simp [tmpOf])]
  | _ => rfl
def Ag (fr g : PF) (p : PV) : Prop := ∀ s ∈ deref p, g[s]? = fr[s]?
theorem pown_congr {i ep : Nat} (h : g[i]? = fr[i]?) : pown g i ep = pown fr i ep := by simp only [pown, h]
theorem pcont_congr {p : PV} (h : Ag fr g p) : pcont g p = pcont fr p := by
  cases p with
  | ref s off => simp only [pcont, h s (by simp [deref])]
  | elt s ep k f => simp only [pcont, h s (by simp [deref])]
  | _ => rfl
theorem padd_congr {p : PV} (n : Nat) (h : Ag fr g p) : padd g p n = padd fr p n := by
  cases p with
  | elt s ep k f => simp only [padd, pown_congr (h s (by simp [deref]))]
  | _ => rfl
theorem pindexAddr_congr {t : TypeId} {p : PV} {n : Int} (h : Ag fr g p) : pindexAddr P g t p n = pindexAddr P fr t p n := by
  simp only [pindexAddr]
  split
  · cases p with
    | own s ep off len c => simp only [pown_congr (h s (by simp [deref]))]
    | _ => rfl
  · split
    · split
      · rw [padd_congr _ h]
      · rfl
    · rfl
theorem pslice_congr {t : TypeId} {p : PV} {lo hi mx : Option PV} (h : Ag fr g p) : pslice P g t p lo hi mx = pslice P fr t p lo hi mx := by
  simp only [pslice]
  split
  · cases p with
    | own s ep off len c => cases mx <;> simp only [pown_congr (h s (by simp [deref]))]
    | sl sz n f => cases mx with
      | none => rfl
      | some x => cases x with
        | v y => cases y <;> rfl
        | _ => rfl
    | _ => cases mx <;> rfl
  · rfl
theorem plen_congr {t : TypeId} {p : PV} (h : Ag fr g p) : plen P g t p = plen P fr t p := by
  cases p with
  | own s ep off len c => simp only [plen, pown_congr (h s (by simp [deref]))]
  | mp s => simp only [plen, h s (by simp [deref])]
  | v x => cases x <;> rfl
  | _ => rfl
theorem pisNil_congr {p : PV} (h : Ag fr g p) : pisNil g p = pisNil fr p := by
  cases p with
  | own s ep off len c => simp only [pisNil, pown_congr (h s (by simp [deref]))]
  | _ => rfl
theorem pnil_congr {op : BinOp} {t : TypeId} {lit : Bool} {x y : PV} (h : Ag fr g x) : pnil P g op t lit x y = pnil P fr op t lit x y := by
  cases y <;> simp only [pnil, pisNil_congr h]
theorem prows_congr {p : PV} (h : Ag fr g p) : prows g p = prows fr p := by
  cases p with
  | own s ep off len c => simp only [prows, pown_congr (h s (by simp [deref]))]
  | _ => rfl
theorem pval_congr {op : Op} (h1 : ∀ x ∈ op.operands.toList, rd g x = rd fr x) (h2 : ∀ x ∈ op.operands.toList, Ag fr g (rd fr x)) : pval P g op = pval P fr op := by
  cases op with
  | move x => simp only [pval, h1 x (by simp [Op.operands])]
  | assign x => simp only [pval, h1 x (by simp [Op.operands])]
  | pick c x y => simp only [pval, h1 c (by simp [Op.operands]), h1 x (by simp [Op.operands]), h1 y (by simp [Op.operands])]
  | load t x => simp only [pval, h1 x (by simp [Op.operands]), pcont_congr (h2 x (by simp [Op.operands]))]
  | fieldAddr s x k => simp only [pval, h1 x (by simp [Op.operands]), padd_congr _ (h2 x (by simp [Op.operands]))]
  | field s x k => simp only [pval, h1 x (by simp [Op.operands])]
  | indexAddr t x i => simp only [pval, h1 x (by simp [Op.operands]), h1 i (by simp [Op.operands]), pindexAddr_congr (h2 x (by simp [Op.operands]))]
  | index t x i => simp only [pval, h1 x (by simp [Op.operands]), h1 i (by simp [Op.operands])]
  | slice t x lo hi mx =>
    have hlo : lo.map (rd g) = lo.map (rd fr) := by
      cases lo with
      | none => rfl
      | some y => simp only [Option.map_some, h1 y (by simp [Op.operands])]
    have hhi : hi.map (rd g) = hi.map (rd fr) := by
      cases hi with
      | none => rfl
      | some y => simp only [Option.map_some, h1 y (by simp [Op.operands])]
    have hmx : mx.map (rd g) = mx.map (rd fr) := by
      cases mx with
      | none => rfl
      | some y => simp only [Option.map_some, h1 y (by simp [Op.operands])]
    simp only [pval, h1 x (by simp [Op.operands]), hlo, hhi, hmx, pslice_congr (h2 x (by simp [Op.operands]))]
  | extract x k => simp only [pval, h1 x (by simp [Op.operands])]
  | nilCheck x =>
    have hx := h2 x (by simp [Op.operands])
    simp only [pval, h1 x (by simp [Op.operands])]
    generalize rd fr x = p at hx
    cases p with
    | elt s ep k f => simp only [pown_congr (hx s (by simp [deref]))]
    | _ => rfl
  | makeFunc fn first cap =>
    have e1 : first.toList.map (rd g) = first.toList.map (rd fr) := List.map_congr_left fun x hx => h1 x (by simp [Op.operands]; exact .inl (by simpa using hx))
    have e2 : cap.toList.map (rd g) = cap.toList.map (rd fr) := List.map_congr_left fun x hx => h1 x (by simp [Op.operands]; exact .inr (by simpa using hx))
    simp only [pval, e1, e2]
  | makeInterface t x => simp only [pval, h1 x (by simp [Op.operands])]
  | typeAssert x a b ok => simp only [pval, h1 x (by simp [Op.operands])]
  | binOp op t x y yt => simp only [pval, h1 x (by simp [Op.operands]), h1 y (by simp [Op.operands]), pnil_congr (h2 x (by simp [Op.operands]))]
  | unOp op t x => simp only [pval, h1 x (by simp [Op.operands])]
  | convert s d x => simp only [pval, h1 x (by simp [Op.operands])]
  | build t parts =>
    have e : ∀ p ∈ parts.toList, rd g p.2 = rd fr p.2 := fun p hp => h1 p.2 (by simp only [Op.operands]; exact List.mem_map_of_mem (f := (·.2)) hp)
    have e2 : (parts.toList.map fun p => (p.1, rd g p.2)) = parts.toList.map fun p => (p.1, rd fr p.2) := List.map_congr_left fun p hp => by rw [e p hp]
    simp only [pval, e2]
  | call c =>
    have hm : ∀ x ∈ c.args.toList, x ∈ (Op.call c).operands.toList := fun x hx => by simp only [Op.operands, Call.operands, Array.toList_append]; exact List.mem_append_right _ hx
    have e : c.args.toList.map (rd g) = c.args.toList.map (rd fr) := List.map_congr_left fun x hx => h1 x (hm x hx)
    simp only [pval, e]
    split
    · have hag : ∀ p ∈ c.args.toList.map (rd fr), Ag fr g p := fun p hp => by
        obtain ⟨x, hx, rfl⟩ := List.mem_map.1 hp
        exact h2 x (hm x hx)
      generalize c.args.toList.map (rd fr) = ps at hag
      generalize c.argTypes.toList = ts
      unfold pbuiltin
      split
      · exact plen_congr (hag _ (by simp))
      · rfl
      · rfl
      · rfl
    · rfl
  | _ => rfl
theorem rd_nilv {v : Value} : deref (rd fr (.const v)) = [] := by
  simp only [Qg.rd]
  cases v with
  | agg cs => simp only [cv]; split <;> rfl
  | slice a n c => simp only [cv, cv1]; split <;> rfl
  | _ => rfl
structure Agree (all : List Oper) (o : Oper) (fr g : PF) : Prop where
  len : g.length = fr.length
  reads : ∀ s ∈ readsOf all o fr, g[s]? = fr[s]?
  shapes : ∀ s ∈ shapesOf o fr, shAt g s = shAt fr s
theorem Agree.rd {o : Oper} (h : Agree all o fr g) {x : Operand} (hx : x ∈ o.op.operands.toList) : rd g x = rd fr x :=
  rd_congr fun t ht => h.reads t (by simp only [readsOf]; exact List.mem_append_left _ (List.mem_append_left _ (List.mem_append_left _ (List.mem_flatMap.2 ⟨x, hx, ht⟩))))
theorem Agree.deref {o : Oper} (h : Agree all o fr g) (ho : shapeOnly o.op = false) {x : Operand} (hx : x ∈ o.op.operands.toList) : Ag fr g (Qg.rd fr x) := fun s hs => by
  refine h.reads s ?_
  cases x with
  | tmp t => simp only [readsOf, ho, Bool.false_eq_true, if_false]; exact List.mem_append_left _ (List.mem_append_left _ (List.mem_append_right _ (List.mem_flatMap.2 ⟨t, List.mem_flatMap.2 ⟨_, hx, by simp [tmpOf]⟩, List.mem_append_left _ hs⟩)))
  | func f => simp [Qg.rd, Qg.deref] at hs
  | const v => rw [rd_nilv] at hs; cases hs
  | _ => simp [Qg.rd, Qg.deref] at hs
theorem cv_nest : ∀ v : Value, nest (Qg.rd fr (.const v)) = [] := fun v => by
  simp only [Qg.rd]
  cases v with
  | agg cs =>
    simp only [cv]
    split
    · simp only [nest]
      refine List.flatMap_eq_nil_iff.2 fun p hp => ?_
      obtain ⟨v, _, rfl⟩ := List.mem_map.1 hp
      cases v with
      | slice a n c => simp only [cv1]; split <;> rfl
      | _ => rfl
    · rfl
  | slice a n c => simp only [cv, cv1]; split <;> rfl
  | _ => rfl
theorem Agree.nest {o : Oper} (h : Agree all o fr g) (hc : (isCall o).isSome = true) (ho : shapeOnly o.op = false) {x : Operand} (hx : x ∈ o.op.operands.toList) : ∀ s ∈ Qg.nest (Qg.rd fr x), g[s]? = fr[s]? := fun s hs => by
  refine h.reads s ?_
  cases x with
  | tmp t => simp only [readsOf, ho, Bool.false_eq_true, if_false]; exact List.mem_append_left _ (List.mem_append_left _ (List.mem_append_right _ (List.mem_flatMap.2 ⟨t, List.mem_flatMap.2 ⟨_, hx, by simp [tmpOf]⟩, List.mem_append_right _ (by rw [if_pos hc]; exact hs)⟩)))
  | func f => simp [Qg.rd, Qg.nest] at hs
  | const v => rw [cv_nest] at hs; cases hs
  | _ => simp [Qg.rd, Qg.nest] at hs
theorem pown_shape {i ep : Nat} (h : shAt g i = shAt fr i) : (pown g i ep).map (·.1) = (pown fr i ep).map (·.1) := by
  have key : ∀ f : PF, (pown f i ep).map (·.1) = (shAt f i).bind fun x => if x.1 = ep then some x.2 else none := fun f => by
    simp only [pown, shAt]
    cases f[i]? with
    | none => rfl
    | some p =>
      cases p <;> simp only [Option.bind_some, shp, Option.bind_none, Option.map_none]
      split <;> rfl
  rw [key, key, h]
theorem pindexAddr_shape {t : TypeId} {p : PV} {n : Int} (h : ∀ s ∈ deref p, shAt g s = shAt fr s) : pindexAddr P g t p n = pindexAddr P fr t p n := by
  have two : ∀ {i ep : Nat}, i ∈ deref p → (pown g i ep = none ∧ pown fr i ep = none) ∨ ∃ sz r r', pown g i ep = some (sz, r) ∧ pown fr i ep = some (sz, r') := fun {i ep} hi => by
    have := pown_shape (ep := ep) (h i hi)
    cases h1 : pown g i ep with
    | none => cases h2 : pown fr i ep with
      | none => exact .inl ⟨rfl, rfl⟩
      | some y => rw [h1, h2] at this; cases this
    | some x => cases h2 : pown fr i ep with
      | none => rw [h1, h2] at this; cases this
      | some y =>
        rw [h1, h2] at this
        obtain ⟨x1, x2⟩ := x
        obtain ⟨y1, y2⟩ := y
        obtain rfl : x1 = y1 := by simpa using this
        exact .inr ⟨x1, x2, y2, rfl, rfl⟩
  simp only [pindexAddr]
  split
  · cases p with
    | own s ep off len c =>
      rcases two (i := s) (ep := ep) (by simp [deref]) with ⟨h1, h2⟩ | ⟨sz, r, r', h1, h2⟩ <;> simp only [h1, h2]
    | _ => rfl
  · split
    · split
      · cases p with
        | elt s ep k f =>
          rcases two (i := s) (ep := ep) (by simp [deref]) with ⟨h1, h2⟩ | ⟨sz, r, r', h1, h2⟩ <;> simp only [padd, h1, h2]
        | _ => rfl
      · rfl
    · rfl
theorem Agree.shape {o : Oper} (h : Agree all o fr g) (ho : shapeOnly o.op = true) {x : Operand} (hx : x ∈ o.op.operands.toList) : ∀ s ∈ Qg.deref (Qg.rd fr x), shAt g s = shAt fr s := fun s hs => by
  refine h.shapes s ?_
  cases x with
  | tmp t => simp only [shapesOf, ho, if_true]; exact List.mem_flatMap.2 ⟨t, List.mem_flatMap.2 ⟨_, hx, by simp [tmpOf]⟩, hs⟩
  | func f => simp [Qg.rd, Qg.deref] at hs
  | const v => rw [rd_nilv] at hs; cases hs
  | _ => simp [Qg.rd, Qg.deref] at hs
theorem Agree.pval {o : Oper} (h : Agree all o fr g) : pval P g o.op = pval P fr o.op := by
  cases hs : shapeOnly o.op with
  | false => exact pval_congr (fun x hx => h.rd hx) (fun x hx => h.deref hs hx)
  | true =>
    have hsh := fun x hx => h.shape hs (x := x) hx
    have hrd := fun x hx => h.rd (x := x) hx
    cases ho : o.op with
    | indexAddr t x i =>
      rw [ho] at hsh hrd
      simp only [Qg.pval, hrd x (by simp [Op.operands]), hrd i (by simp [Op.operands]), pindexAddr_shape (hsh x (by simp [Op.operands]))]
    | move x =>
      rw [ho] at hrd
      simp only [Qg.pval, hrd x (by simp [Op.operands])]
    | assign x =>
      rw [ho] at hrd
      simp only [Qg.pval, hrd x (by simp [Op.operands])]
    | _ => rw [ho] at hs; cases hs
theorem Agree.dst {o : Oper} (h : Agree all o fr g) {d : Nat} (hd : o.dst = some d) : g[d]? = fr[d]? :=
  h.reads d (by simp only [readsOf]; exact List.mem_append_right _ (by simp [hd]))
theorem Agree.noObj {o : Oper} (h : Agree all o fr g) : noObj o.dst g = noObj o.dst fr := by
  unfold Qg.noObj
  cases hd : o.dst with
  | none => rfl
  | some d => simp only [objAt, h.dst hd]
theorem Agree.isAppTo {o : Oper} (h : Agree all o fr g) : isAppTo o g = isAppTo o fr := by
  unfold Qg.isAppTo
  cases ho : o.op with
  | call c =>
    dsimp only
    split
    · rename_i x _ d hc hargs hd
      rw [h.rd (x := x) (by simp [ho, Op.operands, Call.operands, hc, hargs])]
    · rfl
  | _ => rfl
theorem Agree.wanted {o : Oper} (h : Agree all o fr g) : pwanted all o g = pwanted all o fr := by
  unfold pwanted
  cases hg : o.guard with
  | none => rfl
  | some jw =>
    obtain ⟨j, want⟩ := jw
    dsimp only
    cases hd : (all[j]?).bind (·.dst) with
    | none => rfl
    | some d =>
      dsimp only
      rw [h.reads d (by simp only [readsOf]; exact List.mem_append_left _ (List.mem_append_right _ (by simp [guardSlot, hg, hd])))]
def Upd (ws : List Nat) (fr fr' : PF) (S : PF → PF → Prop) (g : PF) : Prop := ∃ us : List (Nat × PV), (∀ u ∈ us, u.1 ∈ ws) ∧ fr' = apply us fr ∧ S g (apply us g)
theorem pclear_noObj {d : Option Tmp} {p : PV} (h : noObj d fr = true) : pclear d p fr = true := by
  cases d with
  | none => rfl
  | some d =>
    simp only [noObj, objAt] at h
    simp only [pclear]
    split
    · rename_i q hq
      rw [hq] at h
      have : q.isObj = false := by simpa using h
      rw [this]; rfl
    · rfl
theorem pput_noObj {d : Option Tmp} {p : PV} (h : noObj d fr = true) : pput d p fr = some (put d p fr) := by
  unfold pput; rw [if_pos (pclear_noObj h)]
theorem noObj_set {d : Option Tmp} (h : noObj d fr = true) {i : Nat} {p : PV} (hi : objAt fr i = true) : noObj d (fr.set i p) = true := by
  cases d with
  | none => rfl
  | some d =>
    simp only [noObj, objAt] at h ⊢
    have hne : i ≠ d := by
      rintro rfl
      simp only [objAt] at hi
      rw [hi] at h; cases h
    rw [List.getElem?_set_ne hne]; exact h
theorem upd_set_put {ws : List Nat} {d : Option Tmp} {i : Nat} {q p : PV} {S : PF → PF → Prop} (hi : i ∈ ws) (hd : ∀ t, d = some t → t ∈ ws) (hS : S g (put d p (g.set i q))) : Upd ws fr (put d p (fr.set i q)) S g := by
  cases d with
  | none => exact ⟨[(i, q)], by simpa using hi, rfl, hS⟩
  | some t => exact ⟨[(i, q), (t, p)], by simp [hi, hd t rfl], rfl, hS⟩
theorem upd_put {ws : List Nat} {d : Option Tmp} {p : PV} {S : PF → PF → Prop} (hd : ∀ t, d = some t → t ∈ ws) (hS : S g (put d p g)) : Upd ws fr (put d p fr) S g := by
  cases d with
  | none => exact ⟨[], by simp, rfl, hS⟩
  | some t => exact ⟨[(t, p)], by simp [hd t rfl], rfl, hS⟩
theorem pnew_local {ws : List Nat} {d : Option Tmp} {p : PV} (hl : g.length = fr.length) (hn : noObj d fr = true) (hn' : noObj d g = true) (hd : ∀ t, d = some t → t ∈ ws) (h : pnew d p fr = some fr') {S : PF → PF → Prop} (hS : ∀ g', pnew d p g = some g' → S g g') : Upd ws fr fr' S g := by
  obtain ⟨t, rfl, ht, _, rfl⟩ := pnew_some h
  refine ⟨[(t, p)], by simp [hd t rfl], rfl, hS _ ?_⟩
  unfold pnew
  dsimp only
  rw [if_pos ⟨hl ▸ ht, pclear_noObj hn'⟩]; rfl
theorem pstore_local {p : PV} {cells : List PV} (hag : Ag fr g p) (h : pstore fr p cells = some fr') : ∃ i q, i ∈ deref p ∧ objAt fr i = true ∧ fr' = fr.set i q ∧ pstore g p cells = some (g.set i q) := by
  cases p with
  | ref s off =>
    have e := hag s (by simp [deref])
    simp only [pstore] at h ⊢
    rw [e]
    split at h
    · rename_i f cs hs
      split at h
      · rename_i hc
        obtain rfl := Option.some.inj h
        refine ⟨s, _, by simp [deref], by simp [objAt, hs, PV.isObj], rfl, ?_⟩
        simp only [if_pos hc]
      · cases h
    · cases h
  | elt i ep k f =>
    have e := hag i (by simp [deref])
    simp only [pstore] at h ⊢
    rw [e]
    split at h
    · rename_i hh ep' e' sz rs hs
      split at h
      · rename_i hep
        split at h
        · rename_i r hr
          split at h
          · rename_i hc
            obtain rfl := Option.some.inj h
            refine ⟨i, _, by simp [deref], by simp [objAt, hs, PV.isObj], rfl, ?_⟩
            simp only [if_pos hep, if_pos hc]
          · cases h
        · cases h
      · cases h
    · cases h
  | _ => cases h
theorem pmapUpdate_local {t : TypeId} {m k v : PV} (hag : Ag fr g m) (h : pmapUpdate P fr t m k v = some fr') : ∃ i q, i ∈ deref m ∧ objAt fr i = true ∧ fr' = fr.set i q ∧ pmapUpdate P g t m k v = some (g.set i q) := by
  unfold pmapUpdate at h ⊢
  split at h
  case h_2 => cases h
  rename_i kt et i ht
  have e := hag i (by simp [deref])
  rw [e]
  split at h
  case h_2 => cases h
  rename_i hh ks vs hs
  split at h
  case isFalse => cases h
  rename_i hok
  simp only [if_pos hok]
  split at h
  · obtain rfl := Option.some.inj h
    exact ⟨i, _, by simp [deref], by simp [objAt, hs, PV.isObj], rfl, rfl⟩
  · obtain rfl := Option.some.inj h
    exact ⟨i, _, by simp [deref], by simp [objAt, hs, PV.isObj], rfl, rfl⟩
  · cases h
theorem plookup_congr {t : TypeId} {m k : PV} {ok : Bool} (hag : Ag fr g m) : plookup P g t m k ok = plookup P fr t m k ok := by
  unfold plookup
  split
  · rename_i i ht
    rw [hag i (by simp [deref])]
  · rfl
end
end Go.Qg

namespace Go.Qg
open Go.RowKit (Below)
section
variable {P : Program} {fr fr' g : PF} {all : List Oper}
theorem step_of {o : Oper} {news : List Nat} (hw : pwanted all o g = some true) (hc : isCall o = none) (hp : isPanic o = none) (hd : dstOk o g = true) (h : pstep P o g = some fr') : PStep P all o news g fr' := by
  unfold PStep; rw [hw]
  simp only [hc]; exact ⟨hp, hd, h⟩
theorem objAt_congr {i : Nat} (h : g[i]? = fr[i]?) : objAt g i = objAt fr i := by simp only [objAt, h]
theorem pappend_local {o : Oper} {c : Call} (ho : o.op = .call c) (hcal : c.callee = .builtin .append) {d : Nat} (hd : o.dst = some d) {t : TypeId} {x y : Operand} (hargs : c.args.toList = [x, y]) (h : Agree all o fr g) (hb : dstOk o fr = true) (hp : pappend P t (rd fr x) (rd fr y) d fr = some fr')
    {S : PF → PF → Prop} (hS : ∀ g', pappend P t (rd g x) (rd g y) d g = some g' → S g g') : Upd (writesOf o fr) fr fr' S g := by
  have hx : x ∈ o.op.operands.toList := by simp [ho, Op.operands, Call.operands, hcal, hargs]
  have hy : y ∈ o.op.operands.toList := by simp [ho, Op.operands, Call.operands, hcal, hargs]
  have hwd : ∀ t, some d = some t → t ∈ writesOf o fr := fun t e => by obtain rfl := Option.some.inj e; simp [writesOf, hd]
  rw [h.rd hx, h.rd hy] at hS
  have hpy : prows g (rd fr y) = prows fr (rd fr y) := prows_congr (h.deref (by rw [ho]; rfl) hy)
  have hax := h.deref (by rw [ho]; rfl) hx
  have hwx : ∀ i ∈ deref (rd fr x), i ∈ writesOf o fr := fun i hi => by simp [writesOf, ho, hcal, hargs, hi]
  have hno : (∀ i ep off n cc, rd fr x = .own i ep off n cc → i ≠ d) → noObj (some d) fr = true ∧ noObj (some d) g = true := fun hne => by
    have h1 : noObj (some d) fr = true := by
      simp only [dstOk, Bool.or_eq_true] at hb
      rcases hb with hb | hb
      · rwa [hd] at hb
      · exfalso
        simp only [isAppTo, ho, hcal, hargs, hd] at hb
        split at hb
        · rename_i i ep off n cc hxe
          exact hne _ _ _ _ _ hxe (by simpa using hb)
        · cases hb
    refine ⟨h1, ?_⟩
    have := h.noObj
    rw [hd] at this
    rw [this]; exact h1
  unfold pappend at hp hS
  rw [hpy] at hS
  split at hp
  case h_1 => cases hp
  rename_i e he
  rw [he] at hS
  dsimp only at hS
  split at hp
  case h_2 => cases hp
  rename_i sz bytes zl sz' news hs hby hz hyr
  rw [hs, hby, hz, hyr] at hS
  dsimp only at hS
  split at hp
  case isFalse => cases hp
  rename_i hcond
  rw [if_pos hcond] at hS
  generalize hxe : rd fr x = px at *
  split at hp
  · rename_i i ep off n cc
    have hgi : g[i]? = fr[i]? := hax i (by simp [deref])
    have hwi := hwx i (by simp [deref])
    simp only [hgi] at hS
    split at hp
    case h_2 => cases hp
    rename_i hh ep' e' sz'' rs hfr
    simp only [hfr] at hS
    split at hp
    case isFalse =>
      rename_i hq0
      rw [if_neg hq0] at hS
      split at hp
      case isFalse => cases hp
      rename_i hq
      rw [if_pos hq] at hS
      obtain ⟨hlim, hp⟩ := guard_some hp
      rw [guard_pos hlim] at hS
      obtain ⟨n1, n2⟩ := hno (fun i' _ _ _ _ e => by obtain ⟨rfl, _⟩ := PV.own.inj e; exact fun e => hq.2.2.2.2.2 e.symm)
      exact pnew_local h.len n1 n2 hwd hp hS
    rename_i hq
    rw [if_pos hq] at hS
    obtain ⟨hlim, hp⟩ := guard_some hp
    rw [guard_pos hlim] at hS
    split at hp
    · rename_i hdi
      rw [if_pos hdi] at hS
      split at hp
      case isFalse => cases hp
      rename_i hdl
      obtain rfl := Option.some.inj hp
      refine ⟨[(i, _)], by simpa using hwi, rfl, hS _ ?_⟩
      rw [if_pos (by rw [h.len]; exact hdl)]; rfl
    · rename_i hdi
      rw [if_neg hdi] at hS
      obtain ⟨n1, n2⟩ := hno (fun i' _ _ _ _ e => by obtain ⟨rfl, _⟩ := PV.own.inj e; exact fun e => hdi e.symm)
      obtain ⟨_, rfl⟩ := pput_some hp
      refine upd_set_put hwi hwd (hS _ ?_)
      rw [pput_noObj (noObj_set n2 (by rw [objAt_congr hgi]; simp [objAt, hfr, PV.isObj]))]
  · obtain ⟨hlim, hp⟩ := guard_some hp
    dsimp only at hS
    rw [guard_pos hlim] at hS
    obtain ⟨n1, n2⟩ := hno (fun i' _ _ _ _ e => by cases e)
    exact pnew_local h.len n1 n2 hwd hp hS
  · rename_i sz'' n f
    split at hp
    case isFalse => cases hp
    rename_i hq
    dsimp only at hS
    rw [if_pos hq] at hS
    obtain ⟨hlim, hp⟩ := guard_some hp
    rw [guard_pos hlim] at hS
    obtain ⟨n1, n2⟩ := hno (fun i' _ _ _ _ e => by cases e)
    exact pnew_local h.len n1 n2 hwd hp hS
  · cases hp
theorem noObj_of_dstOk {o : Oper} (hb : dstOk o fr = true) (hn : isAppTo o fr = false) : noObj o.dst fr = true := by
  simpa [dstOk, hn] using hb
theorem upd_places {ws : List Nat} (us : List (Nat × PV)) (h : ∀ u ∈ us, u.1 ∈ ws) {S : PF → PF → Prop} (hS : S g (apply us g)) : Upd ws fr (apply us fr) S g := ⟨us, h, rfl, hS⟩
theorem apply_append (us vs : List (Nat × PV)) (f : PF) : apply (us ++ vs) f = apply vs (apply us f) := by simp [apply, List.foldl_append]
theorem placeAll_apply (r : Nat → Nat) : ∀ (π : List Nat) (H : List PV) (f g : PF), π.Nodup → (∀ s ∈ π, objAt f s = false) → (∀ s ∈ π, objAt g s = false) →
    ∃ us : List (Nat × PV), (∀ u ∈ us, u.1 ∈ π) ∧ placeAll r π H f = apply us f ∧ placeAll r π H g = apply us g
  | [], H, f, g, _, _, _ => ⟨[], by simp, by cases H <;> rfl, by cases H <;> rfl⟩
  | s :: π, [], f, g, _, _, _ => ⟨[], by simp, rfl, rfl⟩
  | s :: π, q :: H, f, g, hn, h1, h2 => by
    have hfl : ∀ {f : PF}, objAt f s = false → (f.getD s .undef).flagOf (q.ren r) = q.ren r := fun {f} h => by
      have : (f.getD s .undef).isObj = false := by
        simp only [List.getD]
        cases hf : f[s]? with
        | none => rfl
        | some p => simpa [objAt, hf] using h
      generalize f.getD s .undef = p at this
      cases p <;> first | rfl | cases this
    have hset : ∀ {f : PF}, (∀ s' ∈ s :: π, objAt f s' = false) → ∀ s' ∈ π, objAt (f.set s (q.ren r)) s' = false := fun {f} h s' hs' => by
      have hne : s ≠ s' := by rintro rfl; exact (List.nodup_cons.1 hn).1 hs'
      simp only [objAt, List.getElem?_set_ne hne]
      exact h s' (List.mem_cons_of_mem _ hs')
    obtain ⟨us, e1, e2, e3⟩ := placeAll_apply r π H (f.set s (q.ren r)) (g.set s (q.ren r)) (List.nodup_cons.1 hn).2 (hset h1) (hset h2)
    refine ⟨(s, q.ren r) :: us, fun u hu => ?_, ?_, ?_⟩
    · rcases List.mem_cons.1 hu with rfl | hu
      · exact List.mem_cons_self
      · exact List.mem_cons_of_mem _ (e1 u hu)
    · simp only [placeAll]; rw [hfl (h1 s List.mem_cons_self), e2]; rfl
    · simp only [placeAll]; rw [hfl (h2 s List.mem_cons_self), e3]; rfl
theorem deref_names {p : PV} : ∀ s ∈ deref p, s ∈ p.names := fun s hs => by
  cases p <;> simp_all [deref, PV.names]
theorem step_local {o : Oper} {news : List Nat} (hs : PStep P all o news fr fr') (h : Agree all o fr g) (hnews : ∀ s ∈ news, g[s]? = fr[s]?) : Upd (writesOf o fr ++ news) fr fr' (fun g g' => PStep P all o news g g') g := by
  have hw := h.wanted
  have wd : ∀ t, o.dst = some t → t ∈ writesOf o fr := fun t ht => by simp [writesOf, ht]
  have wd' : ∀ t, o.dst = some t → t ∈ writesOf o fr ++ news := fun t ht => List.mem_append_left _ (wd t ht)
  have weak : ∀ {S : PF → PF → Prop}, Upd (writesOf o fr) fr fr' S g → Upd (writesOf o fr ++ news) fr fr' S g := fun ⟨us, h1, h2⟩ => ⟨us, fun u hu => List.mem_append_left _ (h1 u hu), h2⟩
  unfold PStep at hs
  split at hs
  case h_3 => exact hs.elim
  case h_2 =>
    rename_i hwf
    obtain ⟨hn, rfl⟩ := hs
    refine upd_put wd' ?_
    unfold PStep; rw [hw, hwf]
    exact ⟨h.noObj.trans hn, rfl⟩
  rename_i hwt
  have hwg : pwanted all o g = some true := hw.trans hwt
  split at hs
  · -- a call
    rename_i c hc
    obtain ⟨ho, x, hx⟩ := isCall_some hc
    split at hs
    case h_2 => exact hs.elim
    rename_i f ps hpa
    obtain ⟨hno, md, qs, r, H2, hfree, hmd, hcw, ⟨b1, b2, b3⟩, hdn, rfl⟩ := hs
    have hxo : x ∈ o.op.operands.toList := by rcases hx with hx | ⟨m, hx⟩ <;> simp [ho, Op.operands, Call.operands, hx]
    have hargs : ∀ y ∈ c.args.toList, y ∈ o.op.operands.toList := fun y hy => by
      simp only [ho, Op.operands, Call.operands, Array.toList_append]; exact List.mem_append_right _ hy
    have hfree' : dargs g c md qs ps := hfree.imp_right fun ⟨e, hv⟩ => ⟨e, fun g' hg' => hv g' fun y hy s hs => by
      have e1 : rd g y = rd fr y := h.rd (hargs y hy)
      rw [hg' y hy s (by rw [e1]; exact hs)]
      rcases List.mem_append.1 hs with hs | hs
      · exact h.deref (by rw [ho]; rfl) (hargs y hy) s hs
      · exact h.nest (by rw [hc]; rfl) (by rw [ho]; rfl) (hargs y hy) s hs⟩
    have hpg : pcallee P g c = some (f, ps) := by
      have e : c.args.toList.map (rd g) = c.args.toList.map (rd fr) := List.map_congr_left fun y hy => h.rd (hargs y hy)
      unfold pcallee at hpa ⊢
      rcases hx with hx | ⟨m, hx⟩
      all_goals
        simp only [hx] at hpa ⊢
        rw [h.rd hxo, e]; exact hpa
    have hog : ∀ s ∈ news, objAt g s = false := fun s hs => by rw [objAt_congr (hnews s hs)]; exact (b3 s hs).2
    obtain ⟨us, e1, e2, e3⟩ := placeAll_apply (news.getD · 0) news H2 fr g (by simpa using b1) (fun s hs => (b3 s hs).2) hog
    have key : PStep P all o news g (put o.dst (backV news r) (back g news H2)) := by
      unfold PStep
      rw [hwg]
      simp only [hc, hpg]
      exact ⟨h.noObj.trans hno, md, qs, r, H2, hfree', hmd, hcw, ⟨b1, b2, fun s hs => ⟨by rw [h.len]; exact (b3 s hs).1, hog s hs⟩⟩, hdn, rfl⟩
    simp only [back] at key ⊢
    rw [e3] at key
    rw [e2]
    cases hd : o.dst with
    | none =>
      rw [hd] at key
      exact ⟨us, fun u hu => List.mem_append_right _ (e1 u hu), rfl, key⟩
    | some d =>
      rw [hd] at key
      refine ⟨us ++ [(d, backV news r)], fun u hu => ?_, by rw [apply_append]; rfl, ?_⟩
      · rcases List.mem_append.1 hu with hu | hu
        · exact List.mem_append_right _ (e1 u hu)
        · obtain rfl : u = (d, backV news r) := by simpa using hu
          exact wd' _ hd
      · rw [apply_append]; exact key
  · -- any other operation
    rename_i hc
    obtain ⟨hpn, hb, hs⟩ := hs
    have hbg : dstOk o g = true := by
      unfold dstOk at hb ⊢
      rw [h.noObj, h.isAppTo]; exact hb
    refine weak ?_
    have val : isAppTo o fr = false → ∀ fr', (match pval P fr o.op with | some p => pput o.dst p fr | none => none) = some fr' → (∀ g', (match pval P g o.op with | some p => pput o.dst p g | none => none) = some g' → pstep P o g = some g') → Upd (writesOf o fr) fr fr' (fun g g' => PStep P all o news g g') g := by
      intro hna fr' hp hg
      have hno := noObj_of_dstOk hb hna
      split at hp
      case h_2 => cases hp
      rename_i p hpv
      have hpg : pval P g o.op = some p := by
        rw [h.pval]; exact hpv
      obtain ⟨_, rfl⟩ := pput_some hp
      refine upd_put wd (step_of hwg hc hpn hbg (hg _ ?_))
      rw [hpg]
      exact pput_noObj (h.noObj.trans hno)
    have newl : isAppTo o fr = false → ∀ (p : PV), pnew o.dst p fr = some fr' → (∀ g', pnew o.dst p g = some g' → pstep P o g = some g') → Upd (writesOf o fr) fr fr' (fun g g' => PStep P all o news g g') g := fun hna p hp hg => by
      have hno := noObj_of_dstOk hb hna
      exact pnew_local h.len hno (h.noObj.trans hno) wd hp fun g' hg' => step_of hwg hc hpn hbg (hg g' hg')
    have hop' : ∀ {op}, o.op = op → (∀ c, op ≠ .call c) → isAppTo o fr = false := fun he hne => by
      unfold isAppTo
      split
      · rename_i c hcc
        exact (hne c (he.symm.trans hcc)).elim
      · rfl
    cases hop : o.op with
    | alloc t =>
      simp only [pstep, hop] at hs
      split at hs
      case h_2 => cases hs
      rename_i z hz
      exact newl (hop' hop (by simp)) _ hs fun g' hg' => by simp only [pstep, hop, hz]; exact hg'
    | box t x =>
      have hx : x ∈ o.op.operands.toList := by simp [hop, Op.operands]
      simp only [pstep, hop] at hs
      split at hs
      case isFalse => cases hs
      rename_i hcond
      exact newl (hop' hop (by simp)) _ hs fun g' hg' => by simp only [pstep, hop, h.rd hx]; rw [if_pos hcond]; exact hg'
    | store t p x =>
      have hx : x ∈ o.op.operands.toList := by simp [hop, Op.operands]
      have hp : p ∈ o.op.operands.toList := by simp [hop, Op.operands]
      have hno := noObj_of_dstOk hb (hop' hop (by simp))
      simp only [pstep, hop] at hs
      split at hs
      case isFalse => cases hs
      rename_i hcond
      split at hs
      case h_2 => cases hs
      rename_i fr1 hst
      obtain ⟨i, q, hi, hoi, rfl, hsg⟩ := pstore_local (h.deref (by rw [hop]; rfl) hp) hst
      obtain ⟨_, rfl⟩ := pput_some hs
      have hgi : g[i]? = fr[i]? := h.deref (by rw [hop]; rfl) hp i hi
      refine upd_set_put (by simp [writesOf, hop, hi]) wd (step_of hwg hc hpn hbg ?_)
      simp only [pstep, hop, h.rd hx, h.rd hp]
      rw [if_pos hcond, hsg]
      exact pput_noObj (noObj_set (h.noObj.trans hno) (by rw [objAt_congr hgi]; exact hoi))
    | mapUpdate t m k x =>
      have hx : x ∈ o.op.operands.toList := by simp [hop, Op.operands]
      have hk : k ∈ o.op.operands.toList := by simp [hop, Op.operands]
      have hm : m ∈ o.op.operands.toList := by simp [hop, Op.operands]
      have hno := noObj_of_dstOk hb (hop' hop (by simp))
      simp only [pstep, hop] at hs
      split at hs
      case h_2 => cases hs
      rename_i fr1 hst
      obtain ⟨i, q, hi, hoi, rfl, hsg⟩ := pmapUpdate_local (h.deref (by rw [hop]; rfl) hm) hst
      obtain ⟨_, rfl⟩ := pput_some hs
      have hgi : g[i]? = fr[i]? := h.deref (by rw [hop]; rfl) hm i hi
      refine upd_set_put (by simp [writesOf, hop, hi]) wd (step_of hwg hc hpn hbg ?_)
      simp only [pstep, hop, h.rd hx, h.rd hm, h.rd hk, hsg]
      exact pput_noObj (noObj_set (h.noObj.trans hno) (by rw [objAt_congr hgi]; exact hoi))
    | lookup t m k ok =>
      have hk : k ∈ o.op.operands.toList := by simp [hop, Op.operands]
      have hm : m ∈ o.op.operands.toList := by simp [hop, Op.operands]
      have hno := noObj_of_dstOk hb (hop' hop (by simp))
      simp only [pstep, hop] at hs
      split at hs
      case h_2 => cases hs
      rename_i p hp
      obtain ⟨_, rfl⟩ := pput_some hs
      refine upd_put wd (step_of hwg hc hpn hbg ?_)
      simp only [pstep, hop, h.rd hm, h.rd hk, plookup_congr (h.deref (by rw [hop]; rfl) hm), hp]
      exact pput_noObj (h.noObj.trans hno)
    | buildSlice t len parts =>
      have hr : ∀ p ∈ parts.toList, rd g p.2 = rd fr p.2 := fun p hp => h.rd (by simp only [hop, Op.operands]; exact List.mem_map_of_mem (f := (·.2)) hp)
      have e2 : (parts.toList.map fun p => (p.1, rd g p.2)) = parts.toList.map fun p => (p.1, rd fr p.2) := List.map_congr_left fun p hp => by rw [hr p hp]
      simp only [pstep, hop] at hs
      split at hs
      case h_2 => cases hs
      rename_i e he
      split at hs
      case h_2 => cases hs
      rename_i sz z hsz hz
      split at hs
      case isFalse => cases hs
      rename_i hcond
      split at hs
      case h_2 => cases hs
      rename_i cs hcs
      exact newl (hop' hop (by simp)) _ hs fun g' hg' => by
        simp only [pstep, hop, he, hsz, hz, e2]
        rw [if_pos hcond, hcs]; exact hg'
    | makeSlice t l c =>
      have hl : l ∈ o.op.operands.toList := by simp [hop, Op.operands]
      have hcc : c ∈ o.op.operands.toList := by simp [hop, Op.operands]
      simp only [pstep, hop] at hs
      split at hs
      case h_2 => cases hs
      rename_i e n m he hn hm
      split at hs
      case h_2 => cases hs
      rename_i sz z bytes hsz hz hby
      split at hs
      case isFalse => cases hs
      rename_i hcond
      obtain ⟨hg', hs⟩ := guard_some hs
      exact newl (hop' hop (by simp)) _ hs fun g1 hg1 => by
        simp only [pstep, hop, he, h.rd hl, h.rd hcc, hn, hm, hsz, hz, hby]
        rw [if_pos hcond, guard_pos hg']; exact hg1
    | makeMap t r =>
      cases r with
      | some r => simp only [pstep, hop, pval] at hs; cases hs
      | none =>
        simp only [pstep, hop] at hs
        exact newl (hop' hop (by simp)) _ hs fun g' hg' => by simp only [pstep, hop]; exact hg'
    | call c =>
      simp only [pstep, hop] at hs
      split at hs
      · rename_i d hcal hd
        split at hs
        · rename_i x y t t' hargs hts
          split at hs
          case isFalse => cases hs
          rename_i htt
          refine pappend_local hop hcal hd hargs h hb hs fun g' hg' => step_of hwg hc hpn hbg ?_
          simp only [pstep, hop, hcal, hd, hargs, hts]
          rw [if_pos htt]; exact hg'
        · cases hs
      · rename_i hno
        have hna : isAppTo o fr = false := by
          unfold isAppTo
          rw [hop]
          dsimp only
          split
          · rename_i d hcal hargs hd
            exact (hno d hcal hd).elim
          · rfl
        rw [← hop] at hs
        refine val hna _ hs fun g' hg' => ?_
        simp only [pstep, hop]
        rw [← hop]; exact hg'
    | _ => simp only [pstep, hop] at hs; rw [← hop] at hs; exact val (hop' hop (by simp)) _ hs fun g' hg' => by simp only [pstep, hop]; rw [← hop]; exact hg'
theorem step_shape {o : Oper} {news : List Nat} (hs : PStep P all o news fr fr') {s : Nat} (h : s ∉ turnsOf o fr ++ news) : shAt fr' s = shAt fr s := by
  obtain ⟨us, h0, he, _⟩ := step_local hs (g := fr) ⟨rfl, fun _ _ => rfl, fun _ _ => rfl⟩ (fun _ _ => rfl)
  have out : s ∉ writesOf o fr ++ news → shAt fr' s = shAt fr s := fun hn => by
    simp only [shAt]
    rw [he, apply_out (s := s) (fun u hu e => hn (by have := h0 u hu; rwa [e] at this))]
  have hd : ∀ d, o.dst = some d → d ≠ s := fun d e1 e2 => h (List.mem_append_left _ (by simp [turnsOf, e1, e2]))
  have hput : ∀ (p : PV) (f : PF), shAt (put o.dst p f) s = shAt f s := fun p f => by
    cases e : o.dst with
    | none => rfl
    | some d => simp only [put, shAt]; rw [List.getElem?_set_ne (hd d e)]
  have other : turnsOf o fr = writesOf o fr → shAt fr' s = shAt fr s := fun e => out (e ▸ h)
  cases hop : o.op with
  | store t p x =>
    cases hk : keeps (rd fr p) with
    | false => exact other (by simp [turnsOf, writesOf, hop, hk])
    | true =>
      unfold PStep at hs
      split at hs
      case h_3 => exact hs.elim
      case h_2 => rw [hs.2]; exact hput _ _
      split at hs
      · rename_i c hc
        rw [(isCall_some hc).1] at hop
        cases hop
      · obtain ⟨_, _, hs⟩ := hs
        simp only [pstep, hop] at hs
        split at hs
        case isFalse => cases hs
        split at hs
        case h_2 => cases hs
        rename_i fr1 hst
        obtain ⟨_, rfl⟩ := pput_some hs
        rw [hput]
        cases hp : rd fr p with
        | elt i ep k f =>
          rw [hp] at hst
          simp only [pstore] at hst
          split at hst
          case h_2 => cases hst
          rename_i hh ep' e sz rs hi
          split at hst
          case isFalse => cases hst
          rename_i hep
          split at hst
          case h_2 => cases hst
          split at hst
          case isFalse => cases hst
          obtain rfl := Option.some.inj hst
          simp only [shAt]
          by_cases his : i = s
          · subst his
            rw [List.getElem?_set_self (lt_of_get? hi), hi]
            simp [shp, hep]
          · rw [List.getElem?_set_ne his]
        | _ => rw [hp] at hk; cases hk
  | _ => exact other (by simp only [turnsOf, writesOf, hop])
end
end Go.Qg

namespace Go.Qg
open Go.RowKit (Below)
structure Fp where
  rs : List Nat
  ss : List Nat
  ws : List Nat
  ts : List Nat
def Fp.indep (x y : Fp) : Bool := x.ws.all (fun s => !y.rs.contains s && !y.ws.contains s) && y.ws.all (fun s => !x.rs.contains s) && x.ts.all (fun s => !y.ss.contains s) && y.ts.all (fun s => !x.ss.contains s)
def fpOf (all : List Oper) (o : Oper) (news : List Nat) (fr : PF) : Fp := ⟨readsOf all o fr ++ news, shapesOf o fr, writesOf o fr ++ news, turnsOf o fr ++ news⟩
def befs : List Oper → List Nat → List Nat
  | [], acc => acc
  | o :: l, acc => befs l (acc ++ [o.after.toList.foldl (fun s e => if Region.binds .any e then s ||| (2 ^ e.on ||| acc.getD e.on 0) else s) 0])
def edgesOk (all : List Oper) : Bool := all.zipIdx.all fun x => x.1.after.toList.all fun e => !Region.binds .any e || decide (e.on < x.2)
def pairsOk (m : List Nat) : Nat → List Fp → List Fp → Bool
  | _, _, [] => true
  | i, before, y :: l => (before.zipIdx.all fun x => x.1.indep y || (m.getD i 0).testBit x.2) && pairsOk m (i + 1) (before ++ [y]) l
def seqOk (all : List Oper) (m : Nat) : Bool := (List.range all.length).all fun j => decide (j < m) || (List.range j).all fun i => ((befs all []).getD j 0).testBit i
def drawOk (all : List Oper) (m : Nat) (its : List Fp) : Bool := edgesOk all && pairsOk (befs all []) 0 [] its && seqOk all m
section
variable {P : Program} {fr fr' g : PF} {all : List Oper}
theorem flatMap_congr {α β : Type} {f f' : α → List β} : ∀ {l : List α}, (∀ x ∈ l, f x = f' x) → l.flatMap f = l.flatMap f'
  | [], _ => rfl
  | x :: l, h => by rw [List.flatMap_cons, List.flatMap_cons, h x List.mem_cons_self, flatMap_congr fun y hy => h y (List.mem_cons_of_mem _ hy)]
theorem Agree.fp {o : Oper} (h : Agree all o fr g) (news : List Nat) : fpOf all o news g = fpOf all o news fr := by
  have hfl : ((o.op.operands.toList.flatMap tmpOf).flatMap fun t => Qg.deref (Qg.rd g (.tmp t))) = (o.op.operands.toList.flatMap tmpOf).flatMap fun t => Qg.deref (Qg.rd fr (.tmp t)) := by
    refine flatMap_congr fun t ht => ?_
    obtain ⟨x, hx, htx⟩ := List.mem_flatMap.1 ht
    cases x with
    | tmp t' =>
      obtain rfl : t = t' := by simpa [tmpOf] using htx
      rw [h.rd hx]
    | _ => simp [tmpOf] at htx
  have hfl2 : ((o.op.operands.toList.flatMap tmpOf).flatMap fun t => Qg.deref (Qg.rd g (.tmp t)) ++ (if (isCall o).isSome = true then Qg.nest (Qg.rd g (.tmp t)) else [])) = (o.op.operands.toList.flatMap tmpOf).flatMap fun t => Qg.deref (Qg.rd fr (.tmp t)) ++ (if (isCall o).isSome = true then Qg.nest (Qg.rd fr (.tmp t)) else []) := by
    refine flatMap_congr fun t ht => ?_
    obtain ⟨x, hx, htx⟩ := List.mem_flatMap.1 ht
    cases x with
    | tmp t' =>
      obtain rfl : t = t' := by simpa [tmpOf] using htx
      rw [h.rd hx]
    | _ => simp [tmpOf] at htx
  have e1 : readsOf all o g = readsOf all o fr := by
    simp only [readsOf, hfl2]
  have e3 : shapesOf o g = shapesOf o fr := by
    simp only [shapesOf, hfl]
  have e2 : writesOf o g = writesOf o fr := by
    simp only [writesOf]
    congr 1
    cases hop : o.op with
    | store t p x => simp only; rw [h.rd (by simp [hop, Op.operands])]
    | mapUpdate t m k x => simp only; rw [h.rd (by simp [hop, Op.operands])]
    | call c =>
      dsimp only
      split
      · rename_i x _ hc hargs
        rw [h.rd (by simp [hop, Op.operands, Call.operands, hc, hargs])]
      · rfl
    | _ => rfl
  have e4 : turnsOf o g = turnsOf o fr := by
    simp only [turnsOf]
    congr 1
    cases hop : o.op with
    | store t p x => simp only; rw [h.rd (by simp [hop, Op.operands])]
    | mapUpdate t m k x => simp only; rw [h.rd (by simp [hop, Op.operands])]
    | call c =>
      dsimp only
      split
      · rename_i x _ hc hargs
        rw [h.rd (by simp [hop, Op.operands, Call.operands, hc, hargs])]
      · rfl
    | _ => rfl
  simp only [fpOf, e1, e2, e3, e4]
structure It where
  o : Oper
  news : List Nat
  fp : Fp
def Run (P : Program) (all : List Oper) : List It → PF → PF → Prop
  | [], fr, fr' => fr = fr'
  | it :: l, fr, fr' => ∃ m, (PStep P all it.o it.news fr m ∧ fpOf all it.o it.news fr = it.fp) ∧ Run P all l m fr'
theorem indep_spec {x y : Fp} (h : x.indep y = true) : (∀ s ∈ x.ws, s ∉ y.rs ∧ s ∉ y.ws) ∧ (∀ s ∈ y.ws, s ∉ x.rs) ∧ (∀ s ∈ x.ts, s ∉ y.ss) ∧ ∀ s ∈ y.ts, s ∉ x.ss := by
  simp only [Fp.indep, Bool.and_eq_true, List.all_eq_true] at h
  refine ⟨fun s hs => ?_, fun s hs => ?_, fun s hs => ?_, fun s hs => ?_⟩
  · have := h.1.1.1 s hs; simpa using this
  · have := h.1.1.2 s hs; simpa using this
  · have := h.1.2 s hs; simpa using this
  · have := h.2 s hs; simpa using this
theorem swap {x y : It} {m : PF} (h : x.fp.indep y.fp = true) (hx : PStep P all x.o x.news fr m ∧ fpOf all x.o x.news fr = x.fp) (hy : PStep P all y.o y.news m fr' ∧ fpOf all y.o y.news m = y.fp) :
    ∃ m', (PStep P all y.o y.news fr m' ∧ fpOf all y.o y.news fr = y.fp) ∧ (PStep P all x.o x.news m' fr' ∧ fpOf all x.o x.news m' = x.fp) := by
  obtain ⟨hx1, hx3⟩ := hx
  obtain ⟨hy1, hy3⟩ := hy
  obtain ⟨i1, i2, i3, i4⟩ := indep_spec h
  have rx : readsOf all x.o fr ++ x.news = x.fp.rs := by rw [← hx3]; rfl
  have wx : writesOf x.o fr ++ x.news = x.fp.ws := by rw [← hx3]; rfl
  have ry : readsOf all y.o m ++ y.news = y.fp.rs := by rw [← hy3]; rfl
  have wy : writesOf y.o m ++ y.news = y.fp.ws := by rw [← hy3]; rfl
  have tx : turnsOf x.o fr ++ x.news = x.fp.ts := by rw [← hx3]; rfl
  have sx : shapesOf x.o fr = x.fp.ss := by rw [← hx3]; rfl
  have ty : turnsOf y.o m ++ y.news = y.fp.ts := by rw [← hy3]; rfl
  have sy : shapesOf y.o m = y.fp.ss := by rw [← hy3]; rfl
  obtain ⟨u0, h0, hm0, _⟩ := step_local hx1 (g := fr) ⟨rfl, fun _ _ => rfl, fun _ _ => rfl⟩ (fun _ _ => rfl)
  have sh1 : ∀ s ∈ shapesOf y.o m, shAt fr s = shAt m s := fun s hs => by
    rw [sy] at hs
    exact (step_shape hx1 (by rw [tx]; exact fun ht => i3 s ht hs)).symm
  have same1 : ∀ s ∈ readsOf all y.o m ++ y.news, fr[s]? = m[s]? := fun s hs => by
    rw [ry] at hs
    rw [hm0, apply_out (fun u hu => ?_)]
    rintro rfl
    have := h0 u hu
    rw [wx] at this
    exact (i1 _ this).1 hs
  have ag1 : Agree all y.o m fr := ⟨by rw [hm0, apply_length], fun s hs => same1 s (List.mem_append_left _ hs), sh1⟩
  obtain ⟨uy, hy0, hfr', hyst⟩ := step_local hy1 ag1 (fun s hs => same1 s (List.mem_append_right _ hs))
  rw [wy] at hy0
  have same2 : ∀ s ∈ readsOf all x.o fr ++ x.news, (apply uy fr)[s]? = fr[s]? := fun s hs => by
    rw [rx] at hs
    rw [apply_out (fun u hu => ?_)]
    rintro rfl
    exact i2 _ (hy0 u hu) hs
  have sh2 : ∀ s ∈ shapesOf x.o fr, shAt (apply uy fr) s = shAt fr s := fun s hs => by
    rw [sx] at hs
    have ft : turnsOf y.o fr ++ y.news = turnsOf y.o m ++ y.news := congrArg Fp.ts (ag1.fp y.news)
    exact step_shape hyst (by rw [ft, ty]; exact fun ht => i4 s ht hs)
  have ag2 : Agree all x.o fr (apply uy fr) := ⟨apply_length _ _, fun s hs => same2 s (List.mem_append_left _ hs), sh2⟩
  obtain ⟨ux, hx0, hm, hxst⟩ := step_local hx1 ag2 (fun s hs => same2 s (List.mem_append_right _ hs))
  rw [wx] at hx0
  have e : apply ux (apply uy fr) = fr' := by
    rw [hfr', hm]
    refine List.ext_getElem? fun s => ?_
    by_cases hs : ∃ u ∈ ux, u.1 = s
    · obtain ⟨u, hu, rfl⟩ := hs
      rw [apply_in ux (fr := fr) (apply_length _ _) (.inl ⟨u, hu, rfl⟩), apply_out (us := uy) (s := u.1) (fun v hv hvu => (i1 _ (hx0 u hu)).2 (by rw [← hvu]; exact hy0 v hv))]
    · have hs' : ∀ u ∈ ux, u.1 ≠ s := fun u hu hus => hs ⟨u, hu, hus⟩
      rw [apply_out hs', apply_in uy (fr := fr) (g := apply ux fr) (apply_length _ _) (.inr (apply_out hs' fr))]
  have f1 := ag1.fp y.news
  have f2 := ag2.fp x.news
  exact ⟨apply uy fr, ⟨hyst, by rw [f1]; exact hy3⟩, by rw [← e]; exact hxst, by rw [f2]; exact hx3⟩
theorem bubble {y : It} {ys : List It} : ∀ {xs : List It} {fr : PF}, (∀ x ∈ xs, x.fp.indep y.fp = true) → Run P all (xs ++ y :: ys) fr fr' → Run P all (y :: (xs ++ ys)) fr fr'
  | [], fr, _, h => h
  | x :: xs, fr, hi, h => by
    obtain ⟨m, hx, hr⟩ := h
    obtain ⟨m2, hy, hr2⟩ := bubble (fun z hz => hi z (List.mem_cons_of_mem _ hz)) hr
    obtain ⟨m', h1, h2⟩ := swap (hi x List.mem_cons_self) hx hy
    exact ⟨m', h1, m2, h2, hr2⟩
theorem befs_length : ∀ (l : List Oper) (acc : List Nat), (befs l acc).length = acc.length + l.length
  | [], acc => rfl
  | o :: l, acc => by simp only [befs]; rw [befs_length l]; simp; omega
theorem befs_prefix : ∀ (l : List Oper) (acc : List Nat) (i : Nat), i < acc.length → (befs l acc).getD i 0 = acc.getD i 0
  | [], acc, i, _ => rfl
  | o :: l, acc, i, h => by
    simp only [befs]
    rw [befs_prefix l _ i (by simp; omega)]
    simp [List.getElem?_append_left h]
theorem testBit_fold {acc : List Nat} {j : Nat} : ∀ (es : List Edge) (s : Nat), (es.foldl (fun s e => if Region.binds .any e then s ||| (2 ^ e.on ||| acc.getD e.on 0) else s) s).testBit j = true →
    s.testBit j = true ∨ ∃ e ∈ es, Region.binds .any e = true ∧ (j = e.on ∨ (acc.getD e.on 0).testBit j = true)
  | [], s, h => .inl h
  | e :: es, s, h => by
    simp only [List.foldl_cons] at h
    rcases testBit_fold es _ h with h1 | ⟨e', he', h2⟩
    · split at h1
      · rename_i hb
        simp only [Nat.testBit_or, Bool.or_eq_true] at h1
        rcases h1 with h1 | h1 | h1
        · exact .inl h1
        · refine .inr ⟨e, List.mem_cons_self, hb, .inl ?_⟩
          rw [Nat.testBit_two_pow] at h1
          exact (of_decide_eq_true h1).symm
        · exact .inr ⟨e, List.mem_cons_self, hb, .inr h1⟩
      · exact .inl h1
    · exact .inr ⟨e', List.mem_cons_of_mem _ he', h2⟩
theorem befs_closed (D : Nat → Prop) (all : List Oper) (hD : ∀ (k : Nat) (o : Oper), all[k]? = some o → D k → ∀ e ∈ o.after.toList, Region.binds .any e = true → D e.on) :
    ∀ (l : List Oper) (acc : List Nat) (pre : List Oper), all = pre ++ l → acc.length = pre.length →
      (∀ (i : Nat) (o : Oper), i < acc.length → all[i]? = some o → (∀ e ∈ o.after.toList, Region.binds .any e = true → D e.on) → ∀ j, (acc.getD i 0).testBit j = true → D j) →
      ∀ (i : Nat) (o : Oper), all[i]? = some o → (∀ e ∈ o.after.toList, Region.binds .any e = true → D e.on) → ∀ j, ((befs l acc).getD i 0).testBit j = true → D j
  | [], acc, pre, hpre, hlen, hacc => fun i o ho he j hj => by
    have hi : i < acc.length := by
      have := lt_of_get? ho
      rw [hpre] at this; simp at this; omega
    exact hacc i o hi ho he j hj
  | o' :: l, acc, pre, hpre, hlen, hacc => by
    simp only [befs]
    refine befs_closed D all hD l _ (pre ++ [o']) (by simp [hpre]) (by simp [hlen]) (fun i o hi ho he j hj => ?_)
    by_cases hia : i < acc.length
    · refine hacc i o hia ho he j ?_
      simpa [List.getElem?_append_left hia] using hj
    · have hi' : i = acc.length := by simp at hi; omega
      subst hi'
      have hoo : o' = o := by
        rw [hpre, hlen, List.getElem?_append_right (Nat.le_refl _), Nat.sub_self] at ho
        simpa using ho
      subst hoo
      have hj' : (o'.after.toList.foldl (fun s e => if Region.binds .any e then s ||| (2 ^ e.on ||| acc.getD e.on 0) else s) 0).testBit j = true := by
        simpa [List.getElem?_append_right] using hj
      rcases testBit_fold _ _ hj' with h0 | ⟨e, hein, hb, h1⟩
      · simp at h0
      · have hDe := he e hein hb
        rcases h1 with rfl | h1
        · exact hDe
        · by_cases hel : e.on < acc.length
          · have : e.on < all.length := by rw [hpre]; simp; omega
            have hoe : all[e.on]? = some (all[e.on]) := List.getElem?_eq_getElem this
            exact hacc e.on _ hel hoe (hD e.on _ hoe hDe) j h1
          · rw [List.getD, List.getElem?_eq_none (by omega)] at h1
            simp at h1
end
end Go.Qg

namespace Go.Qg
open Go.RowKit (Below)
def pdCall (P : Program) (o : Oper) (c : Call) (fr : PF) (k : List Nat → PF → Prop) : Prop :=
  match pcallee P fr c with
  | some (f, ps) => noObj o.dst fr = true ∧ ∃ md qs r H2 news, dargs fr c md qs ps ∧ (md = false ∨ (flatL H2 && r.flat) = true) ∧ CallW P f qs [] (fun out => out = .ret r H2) ∧ backOk fr [] news H2 ∧ (∀ d, o.dst = some d → d ∉ news) ∧
      k news (put o.dst (backV news r) (back fr news H2))
  | none => False
def pdrawC (P : Program) (all : List Oper) (m : Nat) (C : PF → Prop) : List Oper → List Fp → PF → Prop
  | [], fps, fr => drawOk all m fps = true ∧ C fr
  | o :: rest, fps, fr => match pwanted all o fr with
    | some b => if b = true then match isCall o with
        | some c => pdCall P o c fr fun news fr' => pdrawC P all m C rest (fps ++ [fpOf all o news fr]) fr'
        | none => isPanic o = none ∧ dstOk o fr = true ∧ match pstep P o fr with
          | some fr' => pdrawC P all m C rest (fps ++ [fpOf all o [] fr]) fr'
          | none => False
      else noObj o.dst fr = true ∧ pdrawC P all m C rest (fps ++ [fpOf all o [] fr]) (put o.dst (.tup []) fr)
    | none => False
def pdraw (P : Program) (M : Nat) (all : List Oper) (m : Nat) (K : PF → Prop) (Kp : PV → PF → Prop) : List Oper → List Fp → PF → Prop := pdrawC P all m fun fr => pops P M all K Kp (all.drop m) fr
section
variable {P : Program} {N : Nat} {B : Base} {w w' : World} {R R' R2 : Nat → Nat → Prop} {Γ Γ' Γ2 : Nat → Option Loc} {a : Act} {fr fr' : PF} {Q : Exit → Act → World → Prop} {all : List Oper}
theorem pdraw_cons {m : Nat} {C : PF → Prop} {o : Oper} {rest : List Oper} {fps : List Fp} (h : pdrawC P all m C (o :: rest) fps fr) : ∃ news fr', PStep P all o news fr fr' ∧ pdrawC P all m C rest (fps ++ [fpOf all o news fr]) fr' := by
  simp only [pdrawC] at h
  unfold PStep
  split at h
  case h_2 => exact h.elim
  rename_i b hw
  rw [hw]
  split at h
  · rename_i hb
    subst hb
    split at h
    · rename_i c hc
      unfold pdCall at h
      split at h
      case h_2 => exact h.elim
      rename_i f ps hps
      obtain ⟨h1, md, qs, r, H2, news, h2, hm, h3, h4, h5, h6⟩ := h
      refine ⟨news, _, ?_, h6⟩
      simp only [hc, hps]
      exact ⟨h1, md, qs, r, H2, h2, hm, h3, h4, h5, rfl⟩
    · rename_i hc
      obtain ⟨h1, h2, h3⟩ := h
      split at h3
      case h_2 => exact h3.elim
      rename_i fr' hs
      refine ⟨[], fr', ?_, h3⟩
      simp only [hc]
      exact ⟨h1, h2, hs⟩
  · rename_i hb
    obtain rfl : b = false := by simpa using hb
    exact ⟨[], _, ⟨h.1, rfl⟩, h.2⟩
theorem pdraw_run {m : Nat} {C : PF → Prop} : ∀ (l : List Oper) (fps : List Fp) (fr : PF), pdrawC P all m C l fps fr → ∃ (its : List It) (fr' : PF), its.map (·.o) = l ∧ Run P all its fr fr' ∧ drawOk all m (fps ++ its.map (·.fp)) = true ∧ C fr'
  | [], fps, fr, h => ⟨[], fr, rfl, rfl, by simpa using h.1, h.2⟩
  | o :: l, fps, fr, h => by
    obtain ⟨news, x, hs, hr⟩ := pdraw_cons h
    obtain ⟨its, fr', h1, h2, h3, h4⟩ := pdraw_run l _ x hr
    refine ⟨⟨o, news, fpOf all o news fr⟩ :: its, fr', by simp [h1], ⟨x, ⟨hs, rfl⟩, h2⟩, ?_, h4⟩
    simpa [List.append_assoc] using h3
theorem PStep_sound {ro : Option Nat} (h : SimE N B a w fr) {ops : Array Oper} (hall : ops.toList = all) (hN : ∀ o ∈ all, ∀ d, o.dst = some d → d < N) (hout : ∀ a w, ¬ Q .outgrown a w) {k : Nat} {o : Oper} (hk : all[k]? = some o) {news : List Nat} (hs : PStep P all o news fr fr') {K : Act → World → Prop} (hK : ∀ a' w', SimE N B a' w' fr' → K a' w') :
    OpR P ro ops Q k K a w := by
  refine op_sound (Kp := fun _ _ => False) (K := fun g => g = fr') h hall hN rfl (fun _ _ _ _ _ _ _ _ _ hf => hf.elim) hout hk ?_ (fun a' w' g hs hk => hK a' w' (by rw [← hk]; exact hs))
  unfold PStep at hs
  split at hs
  · rename_i hw
    rw [hw]
    simp only [if_true]
    split at hs
    · rename_i c hc
      split at hs
      case h_2 => exact hs.elim
      rename_i f ps hps
      obtain ⟨h1, md, qs, r, H2, h2, hmd, h3, h4, hdn, rfl⟩ := hs
      unfold pop
      rw [hc]
      dsimp only
      refine ⟨fr, .inl rfl, ?_⟩
      rw [hps]
      refine ⟨[], md, [], qs, _, List.nodup_nil, trivial, ?_, h3, fun out ho => ?_⟩
      · rcases h2 with ⟨rfl, rfl, h2⟩ | ⟨rfl, h2⟩
        · exact .inr ⟨rfl, h2⟩
        · exact .inl (h2 fr fun _ _ _ _ => rfl)
      subst ho
      refine ⟨news, h4, hmd, ?_, rfl⟩
      refine pclear_noObj ?_
      cases hd : o.dst with
      | none => rfl
      | some d =>
        have hdn' := hdn d hd
        rw [hd] at h1
        simp only [noObj, objAt] at h1 ⊢
        rw [show ([] : List Nat) ++ news = news from rfl]
        simp only [back]
        rw [placeAll_out _ _ _ _ hdn']
        exact h1
    · rename_i hc
      obtain ⟨h1, _, h3⟩ := hs
      unfold pop
      rw [hc, h1, h3]
  · rename_i hw
    rw [hw]
    simp only [Bool.false_eq_true, if_false]
    obtain ⟨h1, rfl⟩ := hs
    exact ⟨pclear_noObj h1, rfl⟩
  · exact hs.elim
def Ordered (m : List Nat) (x y : Nat × It) : Prop := x.1 < y.1 ∧ (x.2.fp.indep y.2.fp = true ∨ (m.getD y.1 0).testBit x.1 = true)
theorem pairsOk_ordered (m : List Nat) : ∀ (its : List It) (i : Nat) (before : List Fp), before.length = i → pairsOk m i before (its.map (·.fp)) = true →
    (∀ (j : Nat) (x : Fp) (y : Nat × It), before[j]? = some x → y ∈ (its.zipIdx i).map (fun z => (z.2, z.1)) → j < y.1 ∧ (x.indep y.2.fp = true ∨ (m.getD y.1 0).testBit j = true)) ∧
    ((its.zipIdx i).map fun z => (z.2, z.1)).Pairwise (Ordered m)
  | [], i, before, _, _ => by
    refine ⟨fun j x y _ hy => ?_, List.Pairwise.nil⟩
    cases hy
  | it :: its, i, before, hl, h => by
    simp only [List.map_cons, pairsOk, Bool.and_eq_true] at h
    obtain ⟨h1, h2⟩ := h
    obtain ⟨ih1, ih2⟩ := pairsOk_ordered m its (i + 1) (before ++ [it.fp]) (by simp [hl]) h2
    have first : ∀ (j : Nat) (x : Fp), before[j]? = some x → j < i ∧ (x.indep it.fp = true ∨ (m.getD i 0).testBit j = true) := fun j x hj => by
      refine ⟨by have := lt_of_get? hj; omega, ?_⟩
      have := List.all_eq_true.1 h1 (x, j) (by rw [List.mem_zipIdx_iff_getElem?]; exact hj)
      simpa using this
    rw [List.zipIdx_cons, List.map_cons]
    refine ⟨fun j x y hj hy => ?_, List.pairwise_cons.2 ⟨fun y hy => ?_, ih2⟩⟩
    · rcases List.mem_cons.1 hy with rfl | hy
      · exact first j x hj
      · exact ih1 j x y (by rw [List.getElem?_append_left (lt_of_get? hj)]; exact hj) hy
    · have := ih1 i it.fp y (by rw [List.getElem?_append_right (by omega), hl, Nat.sub_self]; rfl) hy
      exact this
theorem getD_bool {l : Array Bool} {i : Nat} (hi : i < l.size) : (l.getD i true = false ↔ l.getD i false = false) := by
  simp [Array.getD_eq_getD_getElem?, Array.getElem?_eq_getElem hi]
theorem seq_only (ops : Array Oper) (hall : ops.toList = all) (he : edgesOk all = true) {m : Nat} (hseq : seqOk all m = true) (k : Nat) (listed : Array Bool) (hmk : m ≤ k) (hli : ∀ i, i < all.length → (listed.getD i true = false ↔ k ≤ i)) (hsz : listed.size = all.length) : ∀ i ∈ Region.ready .any ops listed, i = k := by
  have hops : ∀ i : Nat, ops[i]? = all[i]? := fun i => by rw [← hall]; simp
  intro i hi
  rw [mem_ready] at hi
  obtain ⟨h0, o, ho, hafter⟩ := hi
  rw [hops] at ho
  have hil := lt_of_get? ho
  have hki := (hli i hil).1 h0
  rcases Nat.lt_or_eq_of_le hki with hlt | he'
  case inr => exact he'.symm
  exfalso
  have hcl : ∀ (j : Nat) (o : Oper), all[j]? = some o → j < k → ∀ e ∈ o.after.toList, Region.binds .any e = true → e.on < k := fun j o hj hjk e hein hb => by
    have := List.all_eq_true.1 (List.all_eq_true.1 he (o, j) (by rw [List.mem_zipIdx_iff_getElem?]; exact hj)) e hein
    have : e.on < j := by simpa [hb] using this
    omega
  have hD := befs_closed (fun j => j < k) all hcl all [] [] rfl rfl (fun i o hi => by simp at hi) i o ho (fun e hein hb => by
    have h1 := hafter e (by simpa using hein) hb
    have h2 : e.on < i := by
      have := List.all_eq_true.1 (List.all_eq_true.1 he (o, i) (by rw [List.mem_zipIdx_iff_getElem?]; exact ho)) e hein
      simpa [hb] using this
    have h3 : e.on < all.length := by omega
    refine Nat.lt_of_not_le fun h4 => ?_
    have := (getD_bool (by omega)).1 ((hli e.on h3).2 h4)
    rw [this] at h1; cases h1) k (by
      have := List.all_eq_true.1 hseq i (List.mem_range.2 hil)
      simp only [Bool.or_eq_true, decide_eq_true_eq] at this
      rcases this with h | h
      · omega
      · exact List.all_eq_true.1 h k (List.mem_range.2 hlt))
  exact absurd hD (Nat.lt_irrefl k)
theorem seq_ready (ops : Array Oper) (hall : ops.toList = all) (he : edgesOk all = true) {k : Nat} (hlt : k < all.length) (listed : Array Bool) (hli : ∀ i, i < all.length → (listed.getD i true = false ↔ k ≤ i)) (hsz : listed.size = all.length) : k ∈ Region.ready .any ops listed := by
  have ho : all[k]? = some (all[k]) := List.getElem?_eq_getElem hlt
  rw [mem_ready]
  refine ⟨(hli k hlt).2 (Nat.le_refl _), all[k], by rw [← ho, ← hall]; simp, fun e hein hb => ?_⟩
  have h2 : e.on < k := by
    have := List.all_eq_true.1 (List.all_eq_true.1 he (all[k], k) (by rw [List.mem_zipIdx_iff_getElem?]; exact ho)) e (by simpa using hein)
    simpa [hb] using this
  have h3 : e.on < listed.size := by omega
  have h4 := mt (hli e.on (by omega)).1 (by omega)
  simp only [Array.getD_eq_getD_getElem?, Array.getElem?_eq_getElem h3, Option.getD_some] at h4 ⊢
  simpa using h4
theorem seq_next {k : Nat} (hlt : k < all.length) (listed : Array Bool) (hli : ∀ i, i < all.length → (listed.getD i true = false ↔ k ≤ i)) (hsz : listed.size = all.length) : ∀ j, j < all.length → ((listed.setIfInBounds k true).getD j true = false ↔ k + 1 ≤ j) := fun j hj => by
  have hks : k < listed.size := by omega
  by_cases hji : j = k
  · subst hji
    constructor
    · intro hh; simp [hks] at hh
    · intro hh; omega
  · rw [show (listed.setIfInBounds k true).getD j true = listed.getD j true from getD_set_ne true (Ne.symm hji), hli j hj]
    omega
theorem seq_sound {ro : Option Nat} (ops : Array Oper) (hall : ops.toList = all) (hN : ∀ o ∈ all, ∀ d, o.dst = some d → d < N) (he : edgesOk all = true) {m : Nat} (hseq : seqOk all m = true) {M : Nat} (hM : B.lo = M) {K : PF → Prop} {Kp : PV → PF → Prop} (hpan : PanUp N B Q Kp) (hout : ∀ a w, ¬ Q .outgrown a w) (hQ : ∀ a w fr, SimE N B a w fr → K fr → Q .normal a w) :
    ∀ (fuel k : Nat) (listed : Array Bool) (a : Act) (w : World) (fr : PF), m ≤ k → k ≤ all.length → all.length ≤ k + fuel → (∀ i, i < all.length → (listed.getD i true = false ↔ k ≤ i)) → listed.size = all.length → SimE N B a w fr → pops P M all K Kp (all.drop k) fr → AnyR P ro ops Q fuel listed a w := by
  intro fuel
  induction fuel with
  | zero =>
    intro k listed a w fr hmk hkl hf hli hsz h hp
    have : all.drop k = [] := List.drop_eq_nil_of_le (by omega)
    rw [this] at hp
    exact AnyR_zero (hQ a w fr h hp)
  | succ fuel ih =>
    intro k listed a w fr hmk hkl hf hli hsz h hp
    have only := seq_only ops hall he hseq k listed hmk hli hsz
    rcases Nat.lt_or_eq_of_le hkl with hlt | hk
    case inr =>
      have : all.drop k = [] := List.drop_eq_nil_of_le (by omega)
      rw [this] at hp
      refine AnyR_succ (fun _ => hQ a w fr h hp) (fun i hi => ?_)
      exfalso
      have he' := only i hi
      subst he'
      rw [mem_ready] at hi
      obtain ⟨_, o, ho, _⟩ := hi
      have ho' : all[i]? = some o := by rw [← ho, ← hall]; simp
      have := lt_of_get? ho'
      omega
    have ho : all[k]? = some (all[k]) := List.getElem?_eq_getElem hlt
    rw [List.drop_eq_getElem_cons hlt] at hp
    have hready := seq_ready ops hall he hlt listed hli hsz
    refine AnyR_succ (fun hr => (by rw [hr] at hready; cases hready)) (fun i hi => ?_)
    obtain rfl := only i hi
    exact op_sound h hall hN hM hpan hout ho hp fun a' w' fr' h' hp' => ih (i + 1) _ a' w' fr' (by omega) (by omega) (by omega) (seq_next hlt listed hli hsz) (by simpa using hsz) h' hp'
theorem any_sound {ro : Option Nat} (ops : Array Oper) (hall : ops.toList = all) (hN : ∀ o ∈ all, ∀ d, o.dst = some d → d < N) (he : edgesOk all = true) {m : Nat} (hm : m ≤ all.length) (hseq : seqOk all m = true) {C : PF → Prop} (hout : ∀ a w, ¬ Q .outgrown a w) (hC : ∀ (fuel : Nat) (listed : Array Bool) (a : Act) (w : World) (fr : PF), all.length ≤ m + fuel → (∀ i, i < all.length → (listed.getD i true = false ↔ m ≤ i)) → listed.size = all.length → SimE N B a w fr → C fr → AnyR P ro ops Q fuel listed a w) :
    ∀ (fuel : Nat) (rem : List (Nat × It)) (listed : Array Bool) (a : Act) (w : World) (fr fr' : PF), SimE N B a w fr → Run P all (rem.map (·.2)) fr fr' →
    rem.Pairwise (Ordered (befs all [])) → (∀ x ∈ rem, all[x.1]? = some x.2.o ∧ x.1 < m) → (∀ i, i < all.length → (listed.getD i true = false ↔ m ≤ i ∨ ∃ x ∈ rem, x.1 = i)) → listed.size = all.length →
    (∀ (k : Nat) (o : Oper), all[k]? = some o → listed.getD k false = true → ∀ e ∈ o.after.toList, Region.binds .any e = true → listed.getD e.on false = true) → rem.length + (all.length - m) ≤ fuel →
    C fr' → AnyR P ro ops Q fuel listed a w := by
  intro fuel
  have hops : ∀ i : Nat, ops[i]? = all[i]? := fun i => by rw [← hall]; simp
  induction fuel with
  | zero =>
    intro rem listed a w fr fr' h hrun hpw hin hli hsz hcl hf hp
    obtain rfl : rem = [] := List.eq_nil_of_length_eq_zero (by omega)
    obtain rfl : fr = fr' := hrun
    exact hC 0 listed a w fr (by simp at hf; omega) (fun i hi => by rw [hli i hi]; simp) hsz h hp
  | succ fuel ih =>
    intro rem listed a w fr fr' h hrun hpw hin hli hsz hcl hf hp
    cases rem with
    | nil =>
      obtain rfl : fr = fr' := hrun
      exact hC (fuel + 1) listed a w fr (by simp at hf; omega) (fun i hi => by rw [hli i hi]; simp) hsz h hp
    | cons x0 rem0 =>
    generalize hrem : x0 :: rem0 = rem at hrun hpw hin hli hf
    have hne : rem ≠ [] := by rw [← hrem]; simp
    have hbef : ∀ (i : Nat) (o : Oper), all[i]? = some o → (∀ e ∈ o.after.toList, Region.binds .any e = true → listed.getD e.on false = true) → ∀ j, ((befs all []).getD i 0).testBit j = true → listed.getD j false = true := fun i o ho hafter j hj =>
      befs_closed (fun k => listed.getD k false = true) all hcl all [] [] rfl rfl (fun i o hi => by simp at hi) i o ho hafter j hj
    refine AnyR_succ (fun hr => ?_) (fun i hi => ?_)
    · -- the first of what is left is ready
      exfalso
      have ho := (hin x0 (by rw [← hrem]; exact List.mem_cons_self)).1
      have : x0.1 ∈ Region.ready .any ops listed := by
        rw [mem_ready]
        refine ⟨(hli x0.1 (lt_of_get? ho)).2 (.inr ⟨x0, by rw [← hrem]; exact List.mem_cons_self, rfl⟩), x0.2.o, by rw [hops]; exact ho, fun e hein hb => ?_⟩
        have hlt : e.on < x0.1 := by
          have := List.all_eq_true.1 (List.all_eq_true.1 he (x0.2.o, x0.1) (by rw [List.mem_zipIdx_iff_getElem?]; exact ho)) e (by simpa using hein)
          simpa [hb] using this
        have hx0m := (hin x0 (by rw [← hrem]; exact List.mem_cons_self)).2
        have hel : e.on < all.length := by have := lt_of_get? ho; omega
        have hne : listed.getD e.on true ≠ false := fun hf => by
          rcases (hli e.on hel).1 hf with h1 | ⟨y, hy, hye⟩
          · omega
          · rw [← hrem] at hy hpw
            rcases List.mem_cons.1 hy with rfl | hy
            · omega
            · have := ((List.pairwise_cons.1 hpw).1 y hy).1; omega
        have hs : e.on < listed.size := by omega
        simp only [Array.getD_eq_getD_getElem?, Array.getElem?_eq_getElem hs, Option.getD_some] at hne ⊢
        simpa using hne
      rw [hr] at this; cases this
    · rw [mem_ready] at hi
      obtain ⟨h0, o, ho, hafter⟩ := hi
      rw [hops] at ho
      have hil := lt_of_get? ho
      have hafter' : ∀ e ∈ o.after.toList, Region.binds .any e = true → listed.getD e.on false = true := fun e hein hb => hafter e (by simpa using hein) hb
      have hunl : ∀ j, j < all.length → listed.getD j true = false → listed.getD j false = false := fun j hj hh => (getD_bool (by omega)).1 hh
      rcases (hli i hil).1 h0 with hmi | ⟨y, hy, hyi⟩
      · -- one that stands behind all is not ready
        exfalso
        have hx0 := hin x0 (by rw [← hrem]; exact List.mem_cons_self)
        have hx0l := lt_of_get? hx0.1
        have hb : ((befs all []).getD i 0).testBit x0.1 = true := by
          have := List.all_eq_true.1 hseq i (List.mem_range.2 hil)
          simp only [Bool.or_eq_true, decide_eq_true_eq] at this
          rcases this with h | h
          · omega
          · exact List.all_eq_true.1 h x0.1 (List.mem_range.2 (by omega))
        have h1 := hbef i o ho hafter' x0.1 hb
        have h2 := hunl x0.1 hx0l ((hli x0.1 hx0l).2 (.inr ⟨x0, by rw [← hrem]; exact List.mem_cons_self, rfl⟩))
        rw [h2] at h1; cases h1
      obtain ⟨xs, ys, rfl⟩ := List.append_of_mem hy
      obtain ⟨yi, it⟩ := y
      dsimp only at hyi
      subst hyi
      have hoy : it.o = o := by
        have := (hin (yi, it) hy).1
        rw [ho] at this
        exact (Option.some.inj this).symm
      have hym := (hin (yi, it) hy).2
      have hpw' := List.pairwise_append.1 hpw
      have hindep : ∀ x ∈ xs.map (·.2), x.fp.indep it.fp = true := fun x hx => by
        obtain ⟨⟨j, x'⟩, hx', rfl⟩ := List.mem_map.1 hx
        have hord := hpw'.2.2 (j, x') hx' (yi, it) List.mem_cons_self
        rcases hord.2 with h1 | h1
        · exact h1
        · exfalso
          have hD := hbef yi o ho hafter' j h1
          have hjl := lt_of_get? (hin (j, x') (List.mem_append_left _ hx')).1
          have hjf := hunl j hjl ((hli j hjl).2 (.inr ⟨(j, x'), List.mem_append_left _ hx', rfl⟩))
          rw [hjf] at hD; cases hD
      have hrun' : Run P all (it :: (xs.map (·.2) ++ ys.map (·.2))) fr fr' := bubble hindep (by simpa using hrun)
      obtain ⟨x, ⟨hst, _⟩, hrest⟩ := hrun'
      rw [hoy] at hst
      have hpwr : (xs ++ ys).Pairwise (Ordered (befs all [])) := List.pairwise_append.2 ⟨hpw'.1, (List.pairwise_cons.1 hpw'.2.1).2, fun x hx y hy => hpw'.2.2 x hx y (List.mem_cons_of_mem _ hy)⟩
      have hmr : ∀ x ∈ xs ++ ys, x ∈ xs ++ (yi, it) :: ys := fun x hx => by
        rcases List.mem_append.1 hx with hx | hx
        · exact List.mem_append_left _ hx
        · exact List.mem_append_right _ (List.mem_cons_of_mem _ hx)
      have hnot : ∀ x ∈ xs ++ ys, x.1 ≠ yi := fun x hx => by
        rcases List.mem_append.1 hx with hx | hx
        · have := (hpw'.2.2 x hx (yi, it) List.mem_cons_self).1; dsimp only at this; omega
        · have := ((List.pairwise_cons.1 hpw'.2.1).1 x hx).1; dsimp only at this; omega
      have hyl : yi < listed.size := by omega
      have next : ∀ a' w', SimE N B a' w' x → AnyR P ro ops Q fuel (listed.setIfInBounds yi true) a' w' := fun a' w' h' => by
        refine ih (xs ++ ys) _ a' w' x fr' h' (by simpa using hrest) hpwr (fun x hx => hin x (hmr x hx)) (fun k hk => ?_) (by simpa using hsz) (fun k o' hk hkl e hein hb => ?_) (by simp at hf ⊢; omega) hp
        · by_cases hky : k = yi
          · subst hky
            constructor
            · intro hh; simp [hyl] at hh
            · rintro (h1 | ⟨x, hx, rfl⟩)
              · omega
              · exact (hnot x hx rfl).elim
          · rw [show (listed.setIfInBounds yi true).getD k true = listed.getD k true from getD_set_ne true (Ne.symm hky), hli k hk]
            refine or_congr Iff.rfl ⟨?_, ?_⟩
            · rintro ⟨x, hx, rfl⟩
              refine ⟨x, ?_, rfl⟩
              rcases List.mem_append.1 hx with hx | hx
              · exact List.mem_append_left _ hx
              · rcases List.mem_cons.1 hx with rfl | hx
                · exact (hky rfl).elim
                · exact List.mem_append_right _ hx
            · rintro ⟨x, hx, rfl⟩
              exact ⟨x, hmr x hx, rfl⟩
        · refine getD_set_true ?_
          by_cases hky : k = yi
          · subst hky
            rw [ho] at hk
            obtain rfl := Option.some.inj hk
            exact hafter' e hein hb
          · rw [show (listed.setIfInBounds yi true).getD k false = listed.getD k false from getD_set_ne false (Ne.symm hky)] at hkl
            exact hcl k o' hk hkl e hein hb
      exact PStep_sound h hall hN hout ho hst next
theorem SimE.drew (h : SimE N B a w fr) : SimE N B a { w with drawn := w.drawn + 1 } fr := by
  obtain ⟨R, Γ, h⟩ := h
  have hb : Below w.heap.size w { w with drawn := w.drawn + 1 } := ⟨rfl, rfl, rfl, Nat.le_refl _, fun _ _ => rfl⟩
  exact ⟨R, Γ, h.grown hb R (fun _ _ x => x) (fun _ _ x => .inl x)⟩
theorem drawC_sound {ro : Option Nat} (hmx : P.follows .mixedOrders = true) (ops : Array Oper) (hall : ops.toList = all) (hN : ∀ o ∈ all, ∀ d, o.dst = some d → d < N) (hout : ∀ a w, ¬ Q .outgrown a w) (id : Nat) (h : SimE N B a w fr) {m : Nat} (hm : m ≤ all.length) {C : PF → Prop} (hC : edgesOk all = true → seqOk all m = true → ∀ (fuel : Nat) (listed : Array Bool) (a : Act) (w : World) (fr : PF), all.length ≤ m + fuel → (∀ i, i < all.length → (listed.getD i true = false ↔ m ≤ i)) → listed.size = all.length → SimE N B a w fr → C fr → AnyR P ro ops Q fuel listed a w) (hp : pdrawC P all m C (all.take m) [] fr) :
    wr P ro (.region id ops true) Q a w := by
  obtain ⟨its, fr', h1, h2, h3, h4⟩ := pdraw_run _ _ _ hp
  simp only [List.nil_append, drawOk, Bool.and_eq_true] at h3
  obtain ⟨⟨he, hpairs⟩, hseq⟩ := h3
  have hl : its.length = m := by
    have : (its.map (·.o)).length = (all.take m).length := by rw [h1]
    rw [List.length_map, List.length_take] at this
    omega
  have hz : ((its.zipIdx 0).map fun z => (z.2, z.1)).map (·.2) = its := by
    rw [List.map_map]
    have : ((fun x : Nat × It => x.2) ∘ fun z : It × Nat => (z.2, z.1)) = Prod.fst := rfl
    rw [this]; simp
  have hmem : ∀ x ∈ (its.zipIdx 0).map (fun z => (z.2, z.1)), its[x.1]? = some x.2 := fun x hx => by
    obtain ⟨⟨it, i⟩, hz, rfl⟩ := List.mem_map.1 hx
    rw [List.mem_zipIdx_iff_getElem?] at hz
    exact hz
  refine wr_region_any hmx (any_sound ops hall hN he hm hseq hout (hC he hseq) ops.size ((its.zipIdx 0).map fun z => (z.2, z.1)) _ a _ fr fr' h.drew (by rw [hz]; exact h2) (pairsOk_ordered _ its 0 [] rfl hpairs).2 (fun x hx => ?_) (fun i hi => ?_) (by rw [← hall]; simp) (fun k o hk hkl => ?_) ?_ h4)
  · have hx' := hmem x hx
    have hxm := lt_of_get? hx'
    refine ⟨?_, by omega⟩
    have : (its.map (·.o))[x.1]? = some x.2.o := by rw [List.getElem?_map, hx']; rfl
    rw [h1, List.getElem?_take, if_pos (by omega)] at this
    exact this
  · have hs : i < ops.size := by rw [← hall] at hi; simpa using hi
    constructor
    · intro _
      by_cases him : m ≤ i
      · exact .inl him
      · have hit : its[i]? = some (its[i]'(by omega)) := List.getElem?_eq_getElem (by omega)
        exact .inr ⟨(i, its[i]'(by omega)), List.mem_map.2 ⟨(its[i]'(by omega), i), by rw [List.mem_zipIdx_iff_getElem?]; exact hit, rfl⟩, rfl⟩
    · intro _; simp [hs]
  · simp only [Array.getD_eq_getD_getElem?, Array.getElem?_replicate] at hkl
    split at hkl <;> simp at hkl
  · have : all.length = ops.size := by rw [← hall]; simp
    simp only [List.length_map, List.length_zipIdx, hl]; omega
theorem draw_sound {ro : Option Nat} (hmx : P.follows .mixedOrders = true) (ops : Array Oper) (hall : ops.toList = all) (hN : ∀ o ∈ all, ∀ d, o.dst = some d → d < N) {M : Nat} (hM : B.lo = M) {K : PF → Prop} {Kp : PV → PF → Prop} (hpan : PanUp N B Q Kp) (hout : ∀ a w, ¬ Q .outgrown a w) (hQ : ∀ a w fr, SimE N B a w fr → K fr → Q .normal a w) (id : Nat) (h : SimE N B a w fr) {m : Nat} (hm : m ≤ all.length) (hp : pdraw P M all m K Kp (all.take m) [] fr) :
    wr P ro (.region id ops true) Q a w :=
  drawC_sound hmx ops hall hN hout id h hm (fun he hseq fuel listed a w fr hf hli hsz hs hc => seq_sound ops hall hN he hseq hM hpan hout hQ fuel m listed a w fr (Nat.le_refl _) hm hf hli hsz hs hc) hp
end
end Go.Qg

namespace Go.Qg
open Go.RowKit (Below)
inductive PX where
  | normal
  | exit (id : Nat)
  | ret
  | goto (l : Nat)
  | panic (p : PV)
def thenP (K : PF → Prop) (Q : PX → PF → Prop) : PX → PF → Prop
  | .normal, fr => K fr
  | e, fr => Q e fr
def blockP (id : Nat) (Q : PX → PF → Prop) : PX → PF → Prop
  | .exit id', fr => if id' = id then Q .normal fr else Q (.exit id') fr
  | e, fr => Q e fr
def Weak (M : Nat) (fr g : PF) : Prop := ∀ (N : Nat) (B : Base) (a : Act) (w : World), B.lo = M → SimE N B a w fr → SimE N B a w g
def loopP (M : Nat) (round : (PX → PF → Prop) → PF → Prop) (Q : PX → PF → Prop) (fr : PF) : Prop := ∀ X : PF → Prop, (∀ fr, round (thenP X Q) fr → X fr) → (∀ fr g, Weak M fr g → X g → X fr) → X fr
def scopeP (Q : PX → PF → Prop) : PX → PF → Prop
  | .goto _, _ => False
  | e, fr => Q e fr
def pwp (P : Program) (M : Nat) : Code → (PX → PF → Prop) → PF → Prop
  | .skip, Q, fr => Q .normal fr
  | .label _, Q, fr => Q .normal fr
  | .region _ ops false, Q, fr => pops P M ops.toList (Q .normal) (fun p => Q (.panic p)) ops.toList fr
  | .region _ ops true, Q, fr => ∃ m, m ≤ ops.toList.length ∧ pdraw P M ops.toList m (Q .normal) (fun p => Q (.panic p)) (ops.toList.take m) [] fr
  | .seq x y, Q, fr => pwp P M x (thenP (pwp P M y Q) Q) fr
  | .cond c x y, Q, fr => match rd fr c with
    | .v (.bool b) => if b = true then pwp P M x Q fr else pwp P M y Q fr
    | _ => False
  | .block id c, Q, fr => pwp P M c (blockP id Q) fr
  | .loop c, Q, fr => loopP M (pwp P M c) Q fr
  | .exit id, Q, fr => Q (.exit id) fr
  | .ret, Q, fr => Q .ret fr
  | .scope c, Q, fr => pwp P M c (scopeP Q) fr
  | _, _, _ => False
def dstsIn (N : Nat) : Code → Bool
  | .region _ ops _ => ops.toList.all fun o => match o.dst with
    | some d => decide (d < N)
    | none => true
  | .seq a b | .cond _ a b => dstsIn N a && dstsIn N b
  | .block _ c | .loop c | .scope c => dstsIn N c
  | .rangeFunc _ _ a b => dstsIn N a && dstsIn N b
  | _ => true
def PX.up (R : Nat → Nat → Prop) (Γ : Nat → Option Loc) (w : World) : Exit → PX → Prop
  | .normal, .normal => True
  | .exit id, .exit id' => id = id'
  | .ret, .ret => True
  | .goto l, .goto l' => l = l'
  | .panic ch, .panic p => ∃ v, ch = [{ v := v, recovered := false }] ∧ Rep w R Γ v p
  | _, _ => False
def Up (N : Nat) (B : Base) (Q : PX → PF → Prop) : Exit → Act → World → Prop := fun e a w => ∃ R Γ fr x, Sim N B R Γ a w fr ∧ PX.up R Γ w e x ∧ Q x fr
section
variable {P : Program} {N M : Nat} {B : Base}
theorem pops_mono {all : List Oper} {K K' : PF → Prop} {Kp Kp' : PV → PF → Prop} (hK : ∀ fr, K fr → K' fr) (hKp : ∀ p fr, Kp p fr → Kp' p fr) : ∀ (l : List Oper) (fr : PF), pops P M all K Kp l fr → pops P M all K' Kp' l fr
  | [], fr, h => hK fr h
  | o :: l, fr, h => by
    have ih := pops_mono hK hKp l (all := all)
    simp only [pops] at h ⊢
    split at h
    case h_2 => exact h.elim
    rename_i b hw
    split at h
    · rename_i hb
      rw [if_pos hb]
      unfold pop at h ⊢
      split at h
      · obtain ⟨g, hg, h⟩ := h
        refine ⟨g, hg, ?_⟩
        split at h
        · obtain ⟨ι, md, H, qs, Q, h1, h2, h3, h4, h5⟩ := h
          refine ⟨ι, md, H, qs, Q, h1, h2, h3, h4, fun out ho => ?_⟩
          have := h5 out ho
          cases out with
          | ret r H2 =>
            obtain ⟨news, g1, g2, g3, g4⟩ := this
            exact ⟨news, g1, g2, g3, ih _ g4⟩
          | pan p H2 =>
            obtain ⟨news, g1, g2, g3⟩ := this
            exact ⟨news, g1, g2, hKp _ _ g3⟩
        · exact h.elim
      · split at h
        · split at h
          · exact hKp _ _ h
          · exact h.elim
        · split at h
          · exact ih _ h
          · unfold popAny at h ⊢
            split at h
            case h_2 => exact h.elim
            split at h
            case h_2 => exact h.elim
            exact ⟨h.1, fun b => ⟨(h.2 b).1, ih _ (h.2 b).2⟩⟩
    · rename_i hb
      rw [if_neg hb]
      exact ⟨h.1, ih _ h.2⟩
theorem pdrawC_mono {all : List Oper} {m : Nat} {C C' : PF → Prop} (hC : ∀ fr, C fr → C' fr) : ∀ (l : List Oper) (fps : List Fp) (fr : PF), pdrawC P all m C l fps fr → pdrawC P all m C' l fps fr
  | [], fps, fr, h => ⟨h.1, hC _ h.2⟩
  | o :: l, fps, fr, h => by
    have ih := pdrawC_mono hC l (all := all) (m := m)
    simp only [pdrawC] at h ⊢
    split at h
    case h_2 => exact h.elim
    rename_i b hw
    split at h
    · rename_i hb
      rw [if_pos hb]
      split at h
      · unfold pdCall at h ⊢
        split at h
        · obtain ⟨h1, md, qs, r, H2, news, h2, hm, h3, h4, h5, h6⟩ := h
          exact ⟨h1, md, qs, r, H2, news, h2, hm, h3, h4, h5, ih _ _ h6⟩
        · exact h.elim
      · obtain ⟨h1, h2, h3⟩ := h
        refine ⟨h1, h2, ?_⟩
        split at h3
        · exact ih _ _ h3
        · exact h3.elim
    · rename_i hb
      rw [if_neg hb]
      exact ⟨h.1, ih _ _ h.2⟩
theorem pdraw_mono {all : List Oper} {m : Nat} {K K' : PF → Prop} {Kp Kp' : PV → PF → Prop} (hK : ∀ fr, K fr → K' fr) (hKp : ∀ p fr, Kp p fr → Kp' p fr) (l : List Oper) (fps : List Fp) (fr : PF) (h : pdraw P M all m K Kp l fps fr) : pdraw P M all m K' Kp' l fps fr :=
  pdrawC_mono (fun _ => pops_mono hK hKp _ _) l fps fr h
theorem thenP_mono {K K' : PF → Prop} {Q Q' : PX → PF → Prop} (hK : ∀ fr, K fr → K' fr) (h : ∀ e fr, Q e fr → Q' e fr) : ∀ e fr, thenP K Q e fr → thenP K' Q' e fr := fun e fr he => by
  cases e with
  | normal => exact hK _ he
  | _ => exact h _ _ he
theorem pwp_mono : ∀ (c : Code) {Q Q' : PX → PF → Prop} {fr : PF}, (∀ e fr, Q e fr → Q' e fr) → pwp P M c Q fr → pwp P M c Q' fr
  | .skip, _, _, _, h, hp => h _ _ hp
  | .label _, _, _, _, h, hp => h _ _ hp
  | .region _ ops false, _, _, _, h, hp => pops_mono (fun fr => h _ fr) (fun p fr => h _ fr) _ _ hp
  | .region _ ops true, _, _, _, h, hp => by
    obtain ⟨m, hm, hp⟩ := hp
    exact ⟨m, hm, pdraw_mono (fun fr => h _ fr) (fun p fr => h _ fr) _ _ _ hp⟩
  | .seq x y, _, _, _, h, hp => pwp_mono x (thenP_mono (fun _ => pwp_mono y h) h) hp
  | .cond c x y, _, _, fr, h, hp => by
    simp only [pwp] at hp ⊢
    split at hp
    · rename_i b hb
      cases b
      · simp only [Bool.false_eq_true, if_false] at hp ⊢; exact pwp_mono y h hp
      · simp only [if_true] at hp ⊢; exact pwp_mono x h hp
    · exact hp
  | .block id c, _, _, _, h, hp => pwp_mono c (fun e fr he => by
      cases e with
      | exit id' =>
        simp only [blockP] at he ⊢
        split at he
        · rw [if_pos ‹_›]; exact h _ _ he
        · rw [if_neg ‹_›]; exact h _ _ he
      | _ => exact h _ _ he) hp
  | .loop c, _, _, _, h, hp => fun X hX hW => hp X (fun fr hr => hX fr (pwp_mono c (thenP_mono (fun _ x => x) h) hr)) hW
  | .exit _, _, _, _, h, hp => h _ _ hp
  | .ret, _, _, _, h, hp => h _ _ hp
  | .scope c, _, _, _, h, hp => pwp_mono c (fun e fr he => by
      cases e with
      | goto l => exact he
      | _ => exact h _ _ he) hp
  | .rangeFunc .., _, _, _, _, hp => hp.elim
  | .goto _, _, _, _, _, hp => hp.elim
  | .refuse _, _, _, _, _, hp => hp.elim
theorem pan_up {Q : PX → PF → Prop} : PanUp N B (Up N B Q) (fun p => Q (.panic p)) := fun R Γ a w fr v p hs hr hk => ⟨R, Γ, fr, .panic p, hs, ⟨v, rfl, hr⟩, hk⟩
theorem dsts_mem {N : Nat} {l : List Oper} (h : (l.all fun o => match o.dst with | some d => decide (d < N) | none => true) = true) : ∀ o ∈ l, ∀ d, o.dst = some d → d < N := fun o ho d hd => by
  have := List.all_eq_true.1 h o ho
  rw [hd] at this
  simpa using this
theorem up_out {Q : PX → PF → Prop} : ∀ a w, ¬ Up N B Q .outgrown a w := fun a w ⟨_, _, _, x, _, hu, _⟩ => by cases x <;> exact hu
theorem pwp_sound {ro : Option Nat} (hm : P.follows .mixedOrders = true) (hM : B.lo = M) : ∀ (c : Code) (Q : PX → PF → Prop) (fr : PF) (a : Act) (w : World), dstsIn N c = true → SimE N B a w fr → pwp P M c Q fr → wr P ro c (Up N B Q) a w
  | .skip, Q, fr, a, w, _, ⟨R, Γ, h⟩, hp => wr_skip ⟨R, Γ, fr, .normal, h, trivial, hp⟩
  | .label _, Q, fr, a, w, _, ⟨R, Γ, h⟩, hp => wr_label ⟨R, Γ, fr, .normal, h, trivial, hp⟩
  | .region id ops false, Q, fr, a, w, hd, h, hp => wr_region (by
      rw [List.range_eq_range']
      exact pops_sound ops rfl (dsts_mem hd) hM pan_up up_out (fun a w fr ⟨R, Γ, hs⟩ hk => ⟨R, Γ, fr, .normal, hs, trivial, hk⟩) ops.size 0 (by simp) a w fr h hp)
  | .region id ops true, Q, fr, a, w, hd, h, hp => by
    obtain ⟨m, hml, hp⟩ := hp
    exact draw_sound hm ops rfl (dsts_mem hd) hM pan_up up_out (fun a w fr ⟨R, Γ, hs⟩ hk => ⟨R, Γ, fr, .normal, hs, trivial, hk⟩) id h hml hp
  | .seq x y, Q, fr, a, w, hd, h, hp => by
    simp only [dstsIn, Bool.and_eq_true] at hd
    refine wr_seq (wr_mono (pwp_sound hm hM x _ fr a w hd.1 h hp) fun e a' w' ⟨R, Γ, fr', x, hs, hu, hq⟩ => ?_)
    cases e with
    | normal => cases x with
      | normal => exact pwp_sound hm hM y Q fr' a' w' hd.2 hs.toE hq
      | _ => exact hu.elim
    | _ => cases x with
      | normal => exact hu.elim
      | _ => exact ⟨R, Γ, fr', _, hs, hu, hq⟩
  | .cond c x y, Q, fr, a, w, hd, h, hp => by
    simp only [dstsIn, Bool.and_eq_true] at hd
    simp only [pwp] at hp
    split at hp
    case h_2 => exact hp.elim
    rename_i b hb
    have hv : a.eval c = .bool b := by
      obtain ⟨R, Γ, hs⟩ := h
      have := hs.rd c
      rw [hb] at this
      generalize a.eval c = u at this
      cases this; rfl
    refine wr_cond hv ?_
    cases b
    · simp only [Bool.false_eq_true, if_false] at hp ⊢; exact pwp_sound hm hM y Q fr a w hd.2 h hp
    · simp only [if_true] at hp ⊢; exact pwp_sound hm hM x Q fr a w hd.1 h hp
  | .block id c, Q, fr, a, w, hd, h, hp => wr_block (wr_mono (pwp_sound hm hM c _ fr a w hd h hp) fun e a' w' ⟨R, Γ, fr', x, hs, hu, hq⟩ => by
      cases e with
      | exit id' => cases x with
        | exit id'' =>
          obtain rfl : id' = id'' := hu
          simp only [blockP, Exit.inBlock] at hq ⊢
          split at hq
          · rw [if_pos ‹_›]; exact ⟨R, Γ, fr', .normal, hs, trivial, hq⟩
          · rw [if_neg ‹_›]; exact ⟨R, Γ, fr', .exit id', hs, rfl, hq⟩
        | _ => exact hu.elim
      | _ => cases x with
        | exit id'' => exact hu.elim
        | _ => exact ⟨R, Γ, fr', _, hs, hu, hq⟩)
  | .loop c, Q, fr, a, w, hd, h, hp => wr_loop fun X hX => by
    have key := hp (fun fr => ∀ a w, SimE N B a w fr → X a w)
      (fun fr hr a w hs => hX a w (wr_mono (pwp_sound hm hM c _ fr a w hd hs hr) fun e a₁ w₁ ⟨R, Γ, fr₁, x, hs₁, hu, hq⟩ => by
        cases e with
        | normal => cases x with
          | normal => exact hq a₁ w₁ hs₁.toE
          | _ => exact hu.elim
        | _ => cases x with
          | normal => exact hu.elim
          | _ => exact ⟨R, Γ, fr₁, _, hs₁, hu, hq⟩))
      (fun fr g hw hx a w hs => hx a w (hw _ _ _ _ hM hs))
    exact key a w h
  | .exit id, Q, fr, a, w, _, ⟨R, Γ, h⟩, hp => wr_exit ⟨R, Γ, fr, .exit id, h, rfl, hp⟩
  | .ret, Q, fr, a, w, _, ⟨R, Γ, h⟩, hp => wr_ret ⟨R, Γ, fr, .ret, h, trivial, hp⟩
  | .scope c, Q, fr, a, w, hd, h, hp => wr_scope (wr_mono (pwp_sound hm hM c _ fr a w hd h hp) fun e a' w' ⟨R, Γ, fr', x, hs, hu, hq⟩ => by
      cases e with
      | goto l => cases x with
        | goto l' => exact hq.elim
        | _ => exact hu.elim
      | _ => cases x with
        | goto l' => exact hu.elim
        | _ => exact ⟨R, Γ, fr', _, hs, hu, hq⟩)
  | .rangeFunc .., _, _, _, _, _, _, hp => hp.elim
  | .goto _, _, _, _, _, _, _, hp => hp.elim
  | .refuse _, _, _, _, _, _, _, hp => hp.elim
end
end Go.Qg

namespace Go.Qg
open Go.RowKit (Below)
def presult (P : Program) (fr : PF) : ResultVar → Option PV
  | .tmp t => some (rd fr (.tmp t))
  | .cell t ty => match pcont fr (rd fr (.tmp t)) with
    | some (cs, off) => pload P ty cs off
    | none => none
def presultsL (P : Program) (fr : PF) : List ResultVar → Option (List PV)
  | [] => some []
  | r :: rs => match presult P fr r with
    | some p => match presultsL P fr rs with
      | some ps => some (p :: ps)
      | none => none
    | none => none
def presults (P : Program) (fr : PF) (rs : List ResultVar) : Option PV :=
  match rs with
  | [r] => presult P fr r
  | rs => match presultsL P fr rs with
    | some ps => some (.tup ps)
    | none => none
def leaves (M k : Nat) (fr : PF) (x : PV) (r : PV) (H2 : PF) (news : List Nat) : Prop :=
  let κ := (List.range k).map (M + ·) ++ news
  κ.Nodup ∧ outF fr (tgtAt H2 κ fun s => !κ.contains s) 8 H2 κ ∧ vw fr (tgtAt H2 κ fun s => !κ.contains s) 8 r x
def ppost (P : Program) (M k : Nat) (rs : List ResultVar) (Q : Out → Prop) : PX → PF → Prop
  | .ret, fr | .normal, fr => ∃ x r H2 news, presults P fr rs = some x ∧ leaves M k fr x r H2 news ∧ Q (.ret r H2)
  | .panic x, fr => ∃ r H2 news, leaves M k fr x r H2 news ∧ Q (.pan r H2)
  | _, _ => False
section
variable {P : Program} {N M : Nat} {B : Base} {w w' : World} {R R' : Nat → Nat → Prop} {Γ Γ' : Nat → Option Loc} {a : Act} {fr : PF}
def resOne (tmps : Array Value) : ResultVar → Sem Value
  | .tmp t => pure (tmps.getD t undef)
  | .cell t ty => do loadVar ty (← asAddr (tmps.getD t undef))
theorem results_eq (fn : Func) (tmps : Array Value) : results fn tmps = (do let vs ← fn.results.mapM (resOne tmps); pure (if h : vs.size = 1 then vs[0] else .tuple vs)) := by
  rfl
theorem presult_sound (h : Sim N B R Γ a w fr) {r : ResultVar} {p : PV} (hp : presult P fr r = some p) :
    ∃ v, (resOne a.tmps r).run P w = .ok v w ∧ Rep w R Γ v p := by
  cases r with
  | tmp t =>
    simp only [presult] at hp
    obtain rfl := Option.some.inj hp
    exact ⟨_, rfl, h.rd (.tmp t)⟩
  | cell t ty =>
    simp only [presult] at hp
    split at hp
    case h_2 => cases hp
    rename_i cs off hc
    obtain ⟨b, o, us, hu, hptr⟩ := h.ptr (h.rd (.tmp t)) hc
    obtain ⟨v, hr, hrep⟩ := load_sound (P := P) hptr hp
    refine ⟨v, ?_, hrep⟩
    have hu' : a.tmps.getD t undef = .pointer (some ⟨b, o + off, none⟩) := hu
    simp only [resOne, hu', asAddr, Sem.run_bind, Sem.run_pure, Result.andThen_ok, hr]
theorem presultsL_sound (h : Sim N B R Γ a w fr) : ∀ (rs : List ResultVar) (ps : List PV), presultsL P fr rs = some ps → ∃ vs : List Value, (rs.mapM (resOne a.tmps)).run P w = .ok vs w ∧ vs.length = ps.length ∧ ps.length = rs.length ∧ ∀ (i : Nat) (u : Value) (p : PV), vs[i]? = some u → ps[i]? = some p → Rep w R Γ u p
  | [], ps, hps => by
    obtain rfl := Option.some.inj hps
    exact ⟨[], by simp, rfl, rfl, fun i u p hu => by simp at hu⟩
  | r :: rs, ps, hps => by
    simp only [presultsL] at hps
    split at hps
    case h_2 => cases hps
    rename_i q hq
    split at hps
    case h_2 => cases hps
    rename_i qs hqs
    obtain rfl := Option.some.inj hps
    obtain ⟨v, hv, hrep⟩ := presult_sound (P := P) h hq
    obtain ⟨vs, hvs, hl, hl2, hr⟩ := presultsL_sound h rs qs hqs
    refine ⟨v :: vs, ?_, by simp [hl], by simp [hl2], fun i u p hu hp => ?_⟩
    · rw [List.mapM_cons]
      simp only [Sem.run_bind, hv, Result.andThen_ok, hvs, Sem.run_pure]
    · cases i with
      | zero => simp at hu hp; subst hu hp; exact hrep
      | succ i => exact hr i u p (by simpa using hu) (by simpa using hp)
theorem presults_sound (h : Sim N B R Γ a w fr) (fn : Func) {p : PV} (hp : presults P fr fn.results.toList = some p) : ∃ v, (results fn a.tmps).run P w = .ok v w ∧ Rep w R Γ v p := by
  have hrun : ∀ (vs : List Value), (fn.results.toList.mapM (resOne a.tmps)).run P w = .ok vs w → (results fn a.tmps).run P w = .ok (if h : vs.toArray.size = 1 then vs.toArray[0] else .tuple vs.toArray) w := fun vs hvs => by
    rw [results_eq, Array.mapM_eq_mapM_toList]
    simp only [Sem.run_bind, Sem.run_map, hvs, Result.andThen_ok, Sem.run_pure]
  unfold presults at hp
  split at hp
  · rename_i r hr
    obtain ⟨v, hv, hrep⟩ := presult_sound (P := P) h hp
    refine ⟨v, ?_, hrep⟩
    have := hrun [v] (by rw [hr]; simp [List.mapM_cons, hv])
    simpa using this
  · rename_i hne
    split at hp
    case h_2 => cases hp
    rename_i ps hps
    obtain rfl := Option.some.inj hp
    obtain ⟨vs, hvs, hl, hl2, hr⟩ := presultsL_sound h _ _ hps
    refine ⟨.tuple vs.toArray, ?_, .tup vs ps hl hr⟩
    have h1 : ¬ vs.toArray.size = 1 := fun hone => by
      have hrl : fn.results.toList.length = 1 := by rw [← hl2, ← hl]; simpa using hone
      obtain ⟨r, hr'⟩ := List.length_eq_one_iff.1 hrl
      exact hne r hr'
    have := hrun vs hvs
    rw [dif_neg h1] at this
    exact this
theorem leaves_sound {Prot : Nat → Prop} {w0 : World} {R0 : Nat → Nat → Prop} {Γ0 : Nat → Option Loc} {H H2 : PF} {news : List Nat} {x r : PV} {D : List Deferred} (h0 : Sim 0 ⟨Prot, w0, R0, Γ0, 0, []⟩ R0 Γ0 noAct w0 H) (h : Sim N { base0 Prot w0 R0 Γ0 M with D := D } R Γ a w fr)
    (hl : leaves M H.length fr x r H2 news) {u : Value} (hu : Rep w R Γ u x) : ∃ R' Γ', Rep w R' Γ' u r ∧ Sim 0 ⟨Prot, w0, R0, Γ0, 0, []⟩ R' Γ' noAct w H2 ∧ ∀ q ∈ H2, q.isObj = true := by
  obtain ⟨hn, hout, hv⟩ := hl
  obtain ⟨h1, h2⟩ := h.leave hout hn (fun s hs => by have := List.contains_iff_mem.2 hs; show (!_) = false; rw [this]; rfl)
  refine ⟨_, _, h2 r x u hv hu, h1.rebase fun j l hjl => ?_, fun q hq => ?_⟩
  · obtain ⟨⟨p, hp, _⟩, _⟩ := h0.own j l hjl
    have hj := lt_of_get? hp
    have hb : (base0 Prot w0 R0 Γ0 M).Γ0 (M + j) = some l := by
      simp only [base0]
      rw [if_pos (by omega), Nat.add_sub_cancel_left]; exact hjl
    obtain ⟨l1, e1, e2⟩ := h.base (M + j) l (Nat.le_add_right _ _) hb
    have hκ : ((List.range H.length).map (M + ·) ++ news)[j]? = some (M + j) := by
      rw [List.getElem?_append_left (by simpa using hj), List.getElem?_map, List.getElem?_range hj]; rfl
    obtain ⟨l2, e3, e4⟩ := Γout_le h hout hκ e1
    exact ⟨l2, e3, Loc.le_trans e2 e4⟩
  · obtain ⟨i, hi⟩ := List.mem_iff_getElem?.1 hq
    obtain ⟨s, p, _, _, hbare, _⟩ := outF_get hout i q hi
    cases q <;> first | rfl | cases hbare
theorem callW_of (hm : P.follows .mixedOrders = true) {f : FuncId} {fn : Func} {c : Code} (hf : P.funcs[f]? = some fn) (hname : (fn.name == "runtime.NumGoroutine") = false) (hb : fn.body = some c) {rs : List ResultVar} (hrs : fn.results.toList = rs) (hn : fn.ntmps = N) (hd : dstsIn N c = true) {args : List PV} {H : PF} {Q : Out → Prop}
    (M : Nat) (hargs : args.length ≤ N) (hM : N ≤ M) (h : pwp P M c (ppost P M H.length rs Q) (frame0 M args H)) : CallW P f args H Q := by
  subst hrs hn
  refine ⟨fun vs w => ?_, fun w vs R Γ Prot hRp h0 hl hrep => ?_⟩
  · simp only [callFunc, Sem.run_bind, run_program, Result.andThen_ok, hf, hname, hb]
    rfl
  · have hsim := h0.enter hl hrep hargs hM
    have he : ({ tmps := vs.toArray ++ Array.replicate (fn.ntmps - vs.toArray.size) undef, defers := [] } : Act) = { tmps := vs.toArray ++ Array.replicate (fn.ntmps - vs.toArray.size) undef, defers := [] } := rfl
    refine calls_of_wp hf hb (wp_mono (wp_of_wr (pwp_sound hm rfl c _ _ _ w hd hsim.toE h)) fun e a w' ⟨R', Γ', fr, x, hs, hu, hq⟩ => ?_)
    have fin : (∃ x r H2 news, presults P fr fn.results.toList = some x ∧ leaves M H.length fr x r H2 news ∧ Q (.ret r H2)) → a.defers = [] ∧ ∃ v, (results fn a.tmps).run P w' = .ok v w' ∧ Left Prot w R Γ Q (.returned v) w' := by
      rintro ⟨x, r, H2, news, hx, hlv, hQ⟩
      obtain ⟨v, hv, hrv⟩ := presults_sound (P := P) hs fn hx
      obtain ⟨R2, Γ2, k1, k2, k3⟩ := leaves_sound (D := []) h0 hs hlv hrv
      exact ⟨hs.defers, v, hv, R2, Γ2, .inl ⟨v, r, H2, rfl, hQ, k1, k2, k3⟩⟩
    cases e with
    | ret => cases x with
      | ret => exact fin hq
      | _ => exact hu.elim
    | normal => cases x with
      | normal => exact fin hq
      | _ => exact hu.elim
    | panic ch => cases x with
      | panic p =>
        obtain ⟨v, rfl, hrv⟩ := hu
        obtain ⟨r, H2, news, hlv, hQ⟩ := hq
        obtain ⟨R2, Γ2, k1, k2, k3⟩ := leaves_sound (D := []) h0 hs hlv hrv
        exact ⟨hs.defers, R2, Γ2, .inr ⟨v, r, H2, rfl, hQ, k1, k2, k3⟩⟩
      | _ => exact hu.elim
    | exit id => cases x with
      | exit id' => exact hq.elim
      | _ => exact hu.elim
    | goto id => cases x with
      | goto id' => exact hq.elim
      | _ => exact hu.elim
    | outgrown => cases x <;> exact hu.elim
end
end Go.Qg
