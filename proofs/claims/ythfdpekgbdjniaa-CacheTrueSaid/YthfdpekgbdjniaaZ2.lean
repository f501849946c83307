/-
  Lemmas and contracts that hold of the whole program: 8 texts in one.
  No condition.
-/
import Derived.Test.YthfdpekgbdjniaaZ1
import Derived.ProofKit
import Derived.OpenShut
import Derived.ChangeOld
import Derived.ChangeBears
import Derived.Deep.Slices
import Derived.Below
import Derived.Test.YthfdpekgbdjniaaChecked
import Derived.KernelRfl
set_option linter.all false

namespace Go.Qg
open Go.RowKit (Below)
structure Tgt where
  G : PF
  ρ : Nat → Option Nat
  gone : Nat → Bool
def epAt (fr : PF) (i : Nat) : Option Nat :=
  match fr[i]? with
  | some (.rows _ ep _ _ _) => some ep
  | _ => none
def newAt (T : Tgt) (i ep : Nat) : Prop := T.ρ i = none ∧ ∃ h e sz, T.G[i]? = some (.rows h ep e sz [])
def vwAll (V : PV → PV → Prop) : List PV → List PV → Prop
  | [], [] => True
  | q :: qs, p :: ps => V q p ∧ vwAll V qs ps
  | _, _ => False
def vw (f : PF) (T : Tgt) : Nat → PV → PV → Prop
  | 0, q, p => q = .undef ∨ (q = p ∧ q.names = [])
  | d + 1, q, p => match q, p with
    | .undef, _ => True
    | .agg qs, .agg ps => vwAll (vw f T d) qs ps ∧ qs.all (·.one) = true
    | .tup qs, .tup ps => vwAll (vw f T d) qs ps
    | .clo fn q1 q2, .clo fn' p1 p2 => fn = fn' ∧ vwAll (vw f T d) q1 p1 ∧ vwAll (vw f T d) q2 p2
    | .ifc t q, .ifc t' p => t = t' ∧ vw f T d q p
    | .ref i off, .ref s off' => T.ρ i = some s ∧ off = off' ∧ epAt f s = none
    | .mp i, .mp s => T.ρ i = some s ∧ epAt f s = none
    | .elt i ep k g, .elt s ep0 k' g' => T.ρ i = some s ∧ k = k' ∧ g = g' ∧ epAt T.G i = some ep ∧ epAt f s = some ep0
    | .own i ep off n c, .own s ep0 off' n' c' => T.ρ i = some s ∧ off = off' ∧ n = n' ∧ c = c' ∧ epAt T.G i = some ep ∧ epAt f s = some ep0
    | .own i ep off n _, .nil => off = 0 ∧ n = 0 ∧ newAt T i ep
    | .sl sz n h, .own s ep off m _ => T.gone s = true ∧ n = m ∧ ∃ rs, pown f s ep = some (sz, rs) ∧ off + n ≤ rs.length ∧ ∀ k, k < n → vwAll (vw f T d) (h k) (rs.getD (off + k) []) ∧ (h k).all (fun q => q.one && q.free) = true
    | .sl _ n _, .nil => n = 0
    | .sl sz n h, .sl sz' m h' => (n = 0 ∧ m = 0) ∨ (sz = sz' ∧ n = m ∧ ∀ k, k < n → h k = h' k)
    | .rp qs off, .ref s off' => T.gone s = true ∧ off = off' ∧ ∃ hb ps, f[s]? = some (.box hb ps) ∧ vwAll (vw f T d) qs ps ∧ qs.all (fun q => q.one && q.free) = true
    | .rp qs off, .elt s ep k off' => T.gone s = true ∧ off = off' ∧ ∃ sz rs, pown f s ep = some (sz, rs) ∧ k < rs.length ∧ vwAll (vw f T d) qs (rs.getD k []) ∧ qs.all (fun q => q.one && q.free) = true
    | q, p => q = p ∧ q.names = []
theorem vwAll_length {V : PV → PV → Prop} : ∀ {qs ps : List PV}, vwAll V qs ps → qs.length = ps.length
  | [], [], _ => rfl
  | q :: qs, p :: ps, h => by simp [vwAll_length h.2]
  | [], _ :: _, h => h.elim
  | _ :: _, [], h => h.elim
theorem vwAll_get {V : PV → PV → Prop} : ∀ {qs ps : List PV}, vwAll V qs ps → ∀ (i : Nat) (q : PV), qs[i]? = some q → ∃ p, ps[i]? = some p ∧ V q p
  | [], [], _, i, q, hq => by simp at hq
  | q' :: qs, p :: ps, h, 0, q, hq => by simp at hq; subst hq; exact ⟨p, rfl, h.1⟩
  | q' :: qs, p :: ps, h, i + 1, q, hq => vwAll_get h.2 i q (by simpa using hq)
  | [], _ :: _, h, _, _, _ => h.elim
  | _ :: _, [], h, _, _, _ => h.elim
structure TgtOk (f : PF) (T : Tgt) (R R' : Nat → Nat → Prop) (Γ Γ' : Nat → Option Loc) : Prop where
  sub : ∀ b o, R b o → R' b o
  gone : ∀ s l b, T.gone s = true → Γ s = some l → l.blk = some b → ∀ o, R' b o
  keep : ∀ i s l, T.ρ i = some s → Γ s = some l → epAt f s = none → Γ' i = some l
  rows : ∀ i s ep ep' sz l, T.ρ i = some s → Γ s = some (.rows ep sz l) → epAt T.G i = some ep' → Γ' i = some (.rows ep' sz l)
  new : ∀ i ep h e sz, T.ρ i = none → T.G[i]? = some (.rows h ep e sz []) → Γ' i = some (.rows ep sz none)
section
variable {P : Program} {N : Nat} {B : Base} {w w' : World} {R R' : Nat → Nat → Prop} {Γ Γ' : Nat → Option Loc} {a : Act} {f : PF} {T : Tgt}
theorem epAt_some {fr : PF} {i ep : Nat} (h : epAt fr i = some ep) : ∃ g e sz rs, fr[i]? = some (.rows g ep e sz rs) := by
  unfold epAt at h
  split at h
  · rename_i g ep' e sz rs hs
    obtain rfl := Option.some.inj h
    exact ⟨g, e, sz, rs, hs⟩
  · cases h
theorem epAt_pown {fr : PF} {i ep : Nat} (h : epAt fr i = some ep) : ∃ sz rs, pown fr i ep = some (sz, rs) := by
  obtain ⟨g, e, sz, rs, hs⟩ := epAt_some h
  exact ⟨sz, rs, by simp [Qg.pown, hs]⟩
theorem vw_sound (h : Sim N B R Γ a w f) (ht : TgtOk f T R R' Γ Γ') : ∀ (d : Nat) (q p : PV) (u : Value), vw f T d q p → Rep w R Γ u p → Rep w R' Γ' u q := by
  have hR : ∀ b o, R b o → R' b o ∧ w.cell? ⟨b, o, none⟩ = w.cell? ⟨b, o, none⟩ := fun b o hb => ⟨ht.sub b o hb, rfl⟩
  intro d
  induction d with
  | zero =>
    intro q p u hv hr
    rcases hv with rfl | ⟨rfl, hn⟩
    · exact .undef u
    · exact hr.free hR hn
  | succ d ih =>
    intro q p u hv hr
    have all : ∀ {us : List Value} {qs ps : List PV}, us.length = ps.length → vwAll (vw f T d) qs ps → (∀ (i : Nat) (u : Value) (p : PV), us[i]? = some u → ps[i]? = some p → Rep w R Γ u p) →
        us.length = qs.length ∧ ∀ (i : Nat) (u : Value) (q : PV), us[i]? = some u → qs[i]? = some q → Rep w R' Γ' u q := fun hl hv hr =>
      ⟨hl.trans (vwAll_length hv).symm, fun i u q hu hq => by obtain ⟨p, hp, hv⟩ := vwAll_get hv i q hq; exact ih q p u hv (hr i u p hu hp)⟩
    unfold vw at hv
    split at hv
    · exact .undef u
    · cases hr with
      | agg us _ hl _ hr =>
        obtain ⟨e1, e2⟩ := all hl hv.1 hr
        exact .agg us _ e1 (fun p hp => List.all_eq_true.1 hv.2 p hp) e2
    · cases hr with
      | tup us _ hl hr =>
        obtain ⟨e1, e2⟩ := all hl hv hr
        exact .tup us _ e1 e2
    · obtain ⟨rfl, h1, h2⟩ := hv
      cases hr with
      | clo _ uf uc _ _ l1 l2 r1 r2 =>
        obtain ⟨e1, e2⟩ := all l1 h1 r1
        obtain ⟨e3, e4⟩ := all l2 h2 r2
        exact .clo _ uf uc _ _ e1 e3 e2 e4
    · obtain ⟨rfl, h1⟩ := hv
      cases hr with
      | ifc _ v _ hr => exact .ifc _ v _ (ih _ _ v h1 hr)
    · obtain ⟨h1, rfl, h2⟩ := hv
      cases hr with
      | ref _ _ b hb => exact .ref _ _ b (ht.keep _ _ _ h1 hb h2)
    · obtain ⟨h1, h2⟩ := hv
      cases hr with
      | mp _ b hb => exact .mp _ b (ht.keep _ _ _ h1 hb h2)
    · obtain ⟨h1, rfl, rfl, h2, h3⟩ := hv
      obtain ⟨sz, rs, hown⟩ := epAt_pown h3
      obtain ⟨b, cap, hΓ, rfl⟩ := h.eltAt hr hown
      exact Rep.elt_of (ht.rows _ _ _ _ _ _ h1 hΓ h2)
    · obtain ⟨h1, rfl, rfl, rfl, h2, h3⟩ := hv
      obtain ⟨sz, rs, hown⟩ := epAt_pown h3
      obtain ⟨l, hΓ, ho, _⟩ := h.ownAt hr hown
      exact .own _ _ _ _ _ _ _ _ _ (ht.rows _ _ _ _ _ _ h1 hΓ h2) (Nat.le_refl _) (hr.oneCell rfl) fun _ => ho
    · obtain ⟨rfl, rfl, h1, hh, e, sz, h2⟩ := hv
      cases hr with
      | nil => exact .own _ _ _ _ _ _ _ _ _ (ht.new _ _ _ _ _ h1 h2) (Nat.le_refl _) rfl fun _ => ⟨rfl, rfl, rfl⟩
    · rename_i sz n hf s ep off m c
      obtain ⟨hg, rfl, rs, hown, hlen, hk⟩ := hv
      obtain ⟨l, hΓ, ho, hsz⟩ := h.ownAt hr hown
      obtain ⟨l2, fl, e, hΓ2, hfr, _⟩ := h.pown hown
      obtain ⟨l3, hΓ3, _, hrow, _, hl⟩ := h.slot s _ hfr
      rw [hΓ] at hΓ3
      simp only [Option.some.injEq, Loc.rows.injEq, true_and] at hΓ3
      subst hΓ3
      have hget : ∀ k, k < n → rs[off + k]? = some (rs.getD (off + k) []) := fun k hk => by
        have : off + k < rs.length := by omega
        simp [this]
      have hlk : ∀ k, k < n → (hf k).length = sz := fun k hkn => by
        rw [vwAll_length (hk k hkn).1]; exact (hrow _ (List.mem_of_getElem? (hget k hkn))).1
      have hof : ∀ (k j : Nat) (p : PV), k < n → (hf k)[j]? = some p → p.one = true ∧ p.names = [] := fun k j p hkn hp => by
        have := List.all_eq_true.1 (hk k hkn).2 p (List.mem_of_getElem? hp)
        simp only [Bool.and_eq_true] at this
        exact ⟨this.1, PV.free_names this.2⟩
      cases l with
      | none =>
        obtain ⟨rfl, rfl, _⟩ := ho
        exact .sl none 0 0 sz hf (fun _ _ => undef) (Nat.le_refl _) (by simp [maxLen]) (fun i hi => by omega) (fun i j p hi => by omega) (fun i j hi => by omega) (fun i j p hi => by omega)
      | some bc =>
        obtain ⟨b, cap⟩ := bc
        obtain ⟨rfl, ho2⟩ := ho
        obtain ⟨vs, g1, g2, g3, g4, g5⟩ := hl
        have hidx : ∀ k j, k < n → j < sz → off * sz + (k * sz + j) < vs.size := fun k j hk hj => by
          have : (off + k + 1) * sz ≤ cap * sz := Nat.mul_le_mul_right _ (by omega)
          rw [Nat.add_mul, Nat.add_mul] at this; omega
        refine .sl _ _ _ sz hf (fun k j => vs.getD (off * sz + (k * sz + j)) undef) (by split <;> omega) (by split <;> omega) hlk hof (fun k j hkn hj => ?_) (fun k j p hkn hp => ?_)
        · refine ⟨b, off * sz, rfl, ht.gone s _ b hg hΓ rfl _, ?_⟩
          simp [World.cell?, g1, hidx k j hkn hj]
        · obtain ⟨p', hp', hv'⟩ := vwAll_get (hk k hkn).1 j p hp
          have hj : j < sz := by have := lt_of_get? hp; rw [hlk k hkn] at this; exact this
          refine ih p p' _ hv' (g5 (off + k) j _ p' _ (hget k hkn) hp' ?_)
          rw [show (off + k) * sz + j = off * sz + (k * sz + j) from by rw [Nat.add_mul]; omega]
          simp [hidx k j hkn hj]
    · subst hv
      cases hr with
      | nil => exact .sl none 0 0 _ _ (fun _ _ => undef) (Nat.le_refl _) (by simp [maxLen]) (fun i hi => by omega) (fun i j p hi => by omega) (fun i j hi => by omega) (fun i j p hi => by omega)
    · cases hr with
      | sl A _ c _ _ us h1 h2 h3 h4 h5 h6 =>
        rcases hv with ⟨rfl, rfl⟩ | ⟨rfl, rfl, he⟩
        · exact .sl A 0 c _ _ us h1 h2 (fun i hi => by omega) (fun i j p hi => by omega) (fun i j hi => by omega) (fun i j p hi => by omega)
        · exact .sl A _ c _ _ us h1 h2 (fun i hi => by rw [he i hi]; exact h3 i hi) (fun i j p hi hp => h4 i j p hi (by rw [← he i hi]; exact hp)) (fun i j hi hj => by
            obtain ⟨b, o, hA, hRb, hc⟩ := h5 i j hi hj
            exact ⟨b, o, hA, ht.sub _ _ hRb, hc⟩) (fun i j p hi hp => by
            rw [he i hi] at hp
            exact (h6 i j p hi hp).free hR (h4 i j p hi hp).2)
    · rename_i qs off s off'
      obtain ⟨hg, rfl, hb, ps, hfr, hv, hone⟩ := hv
      obtain ⟨b, vs, ty, hΓ, _, hh, hsz, h1, h2⟩ := h.slot s _ hfr
      cases hr with
      | ref _ _ b' hb' =>
      obtain rfl : b' = b := by rw [hΓ] at hb'; simpa using hb'.symm
      have hlen := vwAll_length hv
      have := Rep.rp (w := w) (R := R') (Γ := Γ') b' 0 qs off (fun j => vs.getD j undef) (fun p hp => by
        have := List.all_eq_true.1 hone p hp
        simp only [Bool.and_eq_true] at this
        exact ⟨this.1, PV.free_names this.2⟩) (fun j hj => ⟨ht.gone s _ b' hg hΓ rfl _, by
          have hj' : j < vs.size := by omega
          simp [World.cell?, hh, hj']⟩) (fun j p hp => by
          obtain ⟨p', hp', hv'⟩ := vwAll_get hv j p hp
          have hj' : j < vs.size := by have := lt_of_get? hp; omega
          exact ih p p' _ hv' (h2 j _ p' (by simp [hj']) hp'))
      simpa using this
    · rename_i qs off s ep k off'
      obtain ⟨hg, rfl, sz, rs, hown, hk, hv, hone⟩ := hv
      obtain ⟨b, cap, hΓ, rfl⟩ := h.eltAt hr hown
      obtain ⟨l2, fl, e, hΓ2, hfr, _⟩ := h.pown hown
      obtain ⟨l3, hΓ3, _, hrow, _, hl⟩ := h.slot s _ hfr
      rw [hΓ] at hΓ3
      simp only [Option.some.injEq, Loc.rows.injEq, true_and] at hΓ3
      subst hΓ3
      obtain ⟨vs, g1, g2, g3, g4, g5⟩ := hl
      have hget : rs[k]? = some (rs.getD k []) := by simp [hk]
      have hrl := (hrow _ (List.mem_of_getElem? hget)).1
      have hlen := vwAll_length hv
      have hidx : ∀ j, j < sz → k * sz + j < vs.size := fun j hj => by
        have : (k + 1) * sz ≤ cap * sz := Nat.mul_le_mul_right _ (by omega)
        rw [Nat.add_mul] at this; omega
      exact Rep.rp b (k * sz) qs off (fun j => vs.getD (k * sz + j) undef) (fun p hp => by
        have := List.all_eq_true.1 hone p hp
        simp only [Bool.and_eq_true] at this
        exact ⟨this.1, PV.free_names this.2⟩) (fun j hj => ⟨ht.gone s _ b hg hΓ rfl _, by
          simp [World.cell?, g1, hidx j (by omega)]⟩) (fun j p hp => by
          obtain ⟨p', hp', hv'⟩ := vwAll_get hv j p hp
          have hj : j < sz := by have := lt_of_get? hp; omega
          exact ih p p' _ hv' (g5 k j _ p' _ hget hp' (by simp [hidx j hj])))
    · obtain ⟨rfl, hn⟩ := hv
      exact hr.free hR hn
end
end Go.Qg

namespace Go.Qg
open Go.RowKit (Below)
def objAt (fr : PF) (i : Nat) : Bool :=
  match fr[i]? with
  | some p => p.isObj
  | none => false
def tgtOf (f g : PF) : Tgt := ⟨g, fun i => if objAt g i && objAt f i then some i else none, fun s => !objAt g s⟩
def vo (f : PF) (T : Tgt) (d t : Nat) (q p : PV) : Prop :=
  match q with
  | .box h qs => match p with
    | .box h' ps => (h = true → h' = true) ∧ vwAll (vw f T d) qs ps ∧ qs.all (·.one) = true
    | _ => False
  | .rows h ep e sz rs => match p with
    | .rows h' ep' e' sz' rs' => (h = none ∨ (h = h' ∧ ep = ep')) ∧ ep' ≤ ep ∧ e = e' ∧ sz = sz' ∧ vwAllL f T d rs rs' ∧ rs.all (fun r => r.all (·.one)) = true
    | .box .. | .map .. => False
    | _ => h = none ∧ rs = [] ∧ 0 < sz
  | .map h ks vs => match p with
    | .map h' ks' vs' => (h = true → h' = true) ∧ vwAll (vw f T d) ks ks' ∧ vwAll (vw f T d) vs vs'
    | _ => False
  | q => vw f T d q (rdAt t p)
where
  vwAllL (f : PF) (T : Tgt) (d : Nat) : List (List PV) → List (List PV) → Prop
    | [], [] => True
    | q :: qs, p :: ps => vwAll (vw f T d) q p ∧ vwAllL f T d qs ps
    | _, _ => False
def leF (f : PF) (T : Tgt) (m d : Nat) : Nat → PF → PF → Prop
  | _, [], [] => True
  | t, q :: g, p :: f' => (vo f T d t q p ∧ (m ≤ t → p.isObj = true → q.isObj = true)) ∧ leF f T m d (t + 1) g f'
  | _, _, _ => False
theorem leF_length {f : PF} {T : Tgt} {m d : Nat} : ∀ {t : Nat} {g f' : PF}, leF f T m d t g f' → g.length = f'.length
  | _, [], [], _ => rfl
  | _, q :: g, p :: f', h => by simp [leF_length h.2]
  | _, [], _ :: _, h => h.elim
  | _, _ :: _, [], h => h.elim
theorem leF_get' {f : PF} {T : Tgt} {m d : Nat} : ∀ {t : Nat} {g f' : PF}, leF f T m d t g f' → ∀ (i : Nat) (q : PV), g[i]? = some q → ∃ p, f'[i]? = some p ∧ vo f T d (t + i) q p ∧ (m ≤ t + i → p.isObj = true → q.isObj = true)
  | _, [], [], _, i, q, hq => by simp at hq
  | t, q' :: g, p :: f', h, 0, q, hq => by simp at hq; subst hq; exact ⟨p, rfl, h.1⟩
  | t, q' :: g, p :: f', h, i + 1, q, hq => by
    obtain ⟨p', h1, h2⟩ := leF_get' h.2 i q (by simpa using hq)
    exact ⟨p', by simpa using h1, by rw [show t + (i + 1) = t + 1 + i from by omega]; exact h2⟩
  | _, [], _ :: _, h, _, _, _ => h.elim
  | _, _ :: _, [], h, _, _, _ => h.elim
theorem leF_get {f : PF} {T : Tgt} {m d : Nat} {t : Nat} {g f' : PF} (h : leF f T m d t g f') (i : Nat) (q : PV) (hq : g[i]? = some q) : ∃ p, f'[i]? = some p ∧ vo f T d (t + i) q p := by
  obtain ⟨p, h1, h2, _⟩ := leF_get' h i q hq
  exact ⟨p, h1, h2⟩
theorem vwAllL_length {f : PF} {T : Tgt} {d : Nat} : ∀ {qs ps : List (List PV)}, vo.vwAllL f T d qs ps → qs.length = ps.length
  | [], [], _ => rfl
  | q :: qs, p :: ps, h => by simp [vwAllL_length h.2]
  | [], _ :: _, h => h.elim
  | _ :: _, [], h => h.elim
theorem vwAllL_get {f : PF} {T : Tgt} {d : Nat} : ∀ {qs ps : List (List PV)}, vo.vwAllL f T d qs ps → ∀ (i : Nat) (q : List PV), qs[i]? = some q → ∃ p, ps[i]? = some p ∧ vwAll (vw f T d) q p
  | [], [], _, i, q, hq => by simp at hq
  | q' :: qs, p :: ps, h, 0, q, hq => by simp at hq; subst hq; exact ⟨p, rfl, h.1⟩
  | q' :: qs, p :: ps, h, i + 1, q, hq => vwAllL_get h.2 i q (by simpa using hq)
  | [], _ :: _, h, _, _, _ => h.elim
  | _ :: _, [], h, _, _, _ => h.elim
def Γof (Γ : Nat → Option Loc) (g : PF) : Nat → Option Loc := fun i =>
  match g[i]? with
  | some (.rows _ ep _ sz _) => match Γ i with
    | some (.rows _ sz' l) => some (.rows ep sz' l)
    | some _ => none
    | none => some (.rows ep sz none)
  | some p => if p.isObj then Γ i else none
  | none => none
section
variable {P : Program} {N : Nat} {B : Base} {w w' : World} {R R' : Nat → Nat → Prop} {Γ Γ' : Nat → Option Loc} {a : Act} {f g : PF} {m d : Nat}
theorem objAt_some {fr : PF} {i : Nat} (h : objAt fr i = true) : ∃ p, fr[i]? = some p ∧ p.isObj = true := by
  unfold objAt at h
  split at h
  · exact ⟨_, ‹_›, h⟩
  · cases h
theorem Γof_blk {i b : Nat} {l : Loc} (h : Γof Γ g i = some l) (hb : l.blk = some b) : ∃ m, Γ i = some m ∧ m.blk = some b := by
  unfold Γof at h
  split at h
  · split at h
    · rename_i ep' sz' l' hΓ
      obtain rfl := Option.some.inj h
      exact ⟨_, hΓ, hb⟩
    · cases h
    · obtain rfl := Option.some.inj h
      cases hb
  · split at h
    · exact ⟨l, h, hb⟩
    · cases h
  · cases h
theorem Γof_obj {i : Nat} {l : Loc} (h : Γof Γ g i = some l) : objAt g i = true := by
  unfold Γof at h
  unfold objAt
  split at h
  · rename_i hg; rw [hg]; rfl
  · rename_i p hp hg
    rw [hg]
    split at h
    · assumption
    · cases h
  · cases h
def freed (R : Nat → Nat → Prop) (Γ : Nat → Option Loc) (g : PF) : Nat → Nat → Prop := fun b o => R b o ∨ ∃ s l, objAt g s = false ∧ Γ s = some l ∧ l.blk = some b
theorem tgt_ok (h : Sim N B R Γ a w f) (hle : leF f (tgtOf f g) m d 0 g f) : TgtOk f (tgtOf f g) R (freed R Γ g) Γ (Γof Γ g) := by
  have hρ : ∀ i s, (tgtOf f g).ρ i = some s → s = i ∧ objAt g i = true ∧ objAt f i = true := fun i s hs => by
    simp only [tgtOf] at hs
    split at hs
    · rename_i hc
      simp only [Bool.and_eq_true] at hc
      exact ⟨(Option.some.inj hs).symm, hc⟩
    · cases hs
  refine ⟨fun b o hb => .inl hb, fun s l b hg hΓ hb o => .inr ⟨s, l, by simpa [tgtOf] using hg, hΓ, hb⟩, fun i s l hs hΓ he => ?_, fun i s ep ep' sz l hs hΓ he => ?_, fun i ep hh e sz hs hg => ?_⟩
  · obtain ⟨rfl, h1, h2⟩ := hρ i s hs
    obtain ⟨q, hq, ho⟩ := objAt_some h1
    obtain ⟨p, hp, hv⟩ := leF_get hle _ q hq
    obtain ⟨p', hp', ho'⟩ := objAt_some h2
    rw [hp] at hp'
    obtain rfl := Option.some.inj hp'
    cases q with
    | rows fl ep e sz rs =>
      exfalso
      cases p with
      | rows => simp [epAt, hp] at he
      | box => exact hv
      | map => exact hv
      | _ => cases ho'
    | box => simp only [Γof, hq]; exact hΓ
    | map => simp only [Γof, hq]; exact hΓ
    | _ => cases ho
  · obtain ⟨rfl, h1, h2⟩ := hρ i s hs
    obtain ⟨fl, e, sz', rs, hg⟩ := epAt_some he
    have hg' : g[s]? = some (.rows fl ep' e sz' rs) := hg
    simp only [Γof, hg', hΓ]
  · have hg' : g[i]? = some (.rows hh ep e sz []) := hg
    have h1 : objAt g i = true := by simp [objAt, hg', PV.isObj]
    have h2 : objAt f i = false := by
      simp only [tgtOf, h1, Bool.true_and] at hs
      by_cases hf : objAt f i = true
      · rw [if_pos hf] at hs; cases hs
      · simpa using hf
    have hn : Γ i = none := h.noObj fun p hp => by simpa [objAt, hp] using h2
    simp only [Γof, hg', hn]
theorem weak_le (h : Sim N B R Γ a w f) (hle : leF f (tgtOf f g) B.lo d 0 g f) : Sim N B (freed R Γ g) (Γof Γ g) a w g := by
  have ht := tgt_ok h hle
  have hR : ∀ b o, R b o → freed R Γ g b o ∧ w.cell? ⟨b, o, none⟩ = w.cell? ⟨b, o, none⟩ := fun b o hb => ⟨.inl hb, rfl⟩
  have all : ∀ {us : List Value} {qs ps : List PV}, us.length = ps.length → vwAll (vw f (tgtOf f g) d) qs ps → (∀ (i : Nat) (u : Value) (p : PV), us[i]? = some u → ps[i]? = some p → Rep w R Γ u p) →
      us.length = qs.length ∧ ∀ (i : Nat) (u : Value) (q : PV), us[i]? = some u → qs[i]? = some q → Rep w (freed R Γ g) (Γof Γ g) u q := fun hl hv hr =>
    ⟨hl.trans (vwAll_length hv).symm, fun i u q hu hq => by obtain ⟨p, hp, hv⟩ := vwAll_get hv i q hq; exact vw_sound h ht d q p u hv (hr i u p hu hp)⟩
  refine ⟨h.size, by rw [leF_length hle]; exact h.len, fun t q hq => ?_, fun i j l m b hi hj hl hm => ?_, fun i l hi => ?_, fun b o hbo => ?_, fun b o hbo => ?_, h.kept, h.prot, h.lo, fun j l hj hl => ?_, h.defers⟩
  · obtain ⟨p, hp, hv⟩ := leF_get hle t q hq
    rw [Nat.zero_add] at hv
    have val : vw f (tgtOf f g) d q (rdAt t p) → SlotRep N w (freed R Γ g) (Γof Γ g) t (a.tmps.getD t undef) q := fun hv => (vw_sound h ht d q _ _ hv (h.rdAt hp)).slot
    cases q with
    | box fl qs =>
      cases p with
      | box fl' ps =>
        obtain ⟨e1, e2, e3⟩ := hv
        obtain ⟨b, vs, ty, h1, h2, h3, h4, h5, h6⟩ := h.slot t _ hp
        obtain ⟨l1, l2⟩ := all (us := vs.toList) (by simpa using h4) e2 (fun i u p hu hp => h6 i u p (by simpa using hu) hp)
        exact ⟨b, vs, ty, by simp only [Γof, hq]; exact h1, fun e => h2 (e1 e), h3, by simpa using l1, fun p hp => List.all_eq_true.1 e3 p hp, fun j x p hx hp => l2 j x p (by simpa using hx) hp⟩
      | _ => exact hv.elim
    | map fl ks vs =>
      cases p with
      | map fl' ks' vs' =>
        obtain ⟨e1, e2, e3⟩ := hv
        obtain ⟨b, es, clock, h1, h2, h3, h4, h5, h6, h7⟩ := h.slot t _ hp
        obtain ⟨l1, l2⟩ := all (us := es.toList.map (·.key)) (by simpa using h4) e2 (fun i u p hu hp => by
          rw [List.getElem?_map] at hu
          simp only [Option.map_eq_some_iff] at hu
          obtain ⟨x, hx, rfl⟩ := hu
          exact h6 i x p (by simpa using hx) hp)
        obtain ⟨l3, l4⟩ := all (us := es.toList.map (·.val)) (by simpa using h5) e3 (fun i u p hu hp => by
          rw [List.getElem?_map] at hu
          simp only [Option.map_eq_some_iff] at hu
          obtain ⟨x, hx, rfl⟩ := hu
          exact h7 i x p (by simpa using hx) hp)
        exact ⟨b, es, clock, by simp only [Γof, hq]; exact h1, fun e => h2 (e1 e), h3, by simpa using l1, by simpa using l3, fun j x p hx hp => l2 j x.key p (by rw [List.getElem?_map, Array.getElem?_toList, hx]; rfl) hp, fun j x p hx hp => l4 j x.val p (by rw [List.getElem?_map, Array.getElem?_toList, hx]; rfl) hp⟩
      | _ => exact hv.elim
    | rows fl ep e sz rs =>
      have fresh : p.isObj = false → fl = none ∧ rs = [] ∧ 0 < sz → SlotRep N w (freed R Γ g) (Γof Γ g) t (a.tmps.getD t undef) (.rows fl ep e sz rs) := fun ho ⟨e1, e2, e3⟩ => by
        subst e1 e2
        have hn : Γ t = none := h.noObj fun p' hp' => by rw [hp] at hp'; obtain rfl := Option.some.inj hp'; exact ho
        exact ⟨none, by simp only [Γof, hq, hn], fun ep0 n0 e => (by cases e), fun r hr => (by cases hr), e3, rfl⟩
      cases p with
      | rows fl' ep' e' sz' rs' =>
        obtain ⟨e1, _, rfl, rfl, e4, e5⟩ := hv
        obtain ⟨l, h1, h2, h3, h4, h5⟩ := h.slot t _ hp
        have hΓ' : Γof Γ g t = some (.rows ep sz l) := by simp only [Γof, hq, h1]
        refine ⟨l, hΓ', fun ep0 n0 he => ?_, fun r hr => ?_, h4, ?_⟩
        · rcases e1 with rfl | ⟨rfl, rfl⟩
          · cases he
          · refine ⟨(h2 ep0 n0 he).1, (h2 ep0 n0 he).2.mono hR fun i hi => ?_⟩
            obtain rfl : i = t := by simpa [PV.names] using hi
            intro m hm
            rw [h1] at hm
            obtain rfl := Option.some.inj hm
            exact ⟨_, hΓ', Loc.le_refl _⟩
        · obtain ⟨i, hi⟩ := List.mem_iff_getElem?.1 hr
          obtain ⟨r', hr', hv'⟩ := vwAllL_get e4 i r hi
          exact ⟨(vwAll_length hv').trans (h3 r' (List.mem_of_getElem? hr')).1, fun p hp => List.all_eq_true.1 (List.all_eq_true.1 e5 r hr) p hp⟩
        · cases l with
          | none =>
            subst h5
            exact List.eq_nil_of_length_eq_zero (vwAllL_length e4)
          | some bc =>
            obtain ⟨b, cap⟩ := bc
            obtain ⟨vs, g1, g2, g3, g4, g5⟩ := h5
            refine ⟨vs, g1, by rw [vwAllL_length e4]; exact g2, g3, g4, fun i j r p x hr hp hx => ?_⟩
            obtain ⟨r', hr', hv'⟩ := vwAllL_get e4 i r hr
            obtain ⟨p', hp', hv''⟩ := vwAll_get hv' j p hp
            exact vw_sound h ht d p p' x hv'' (g5 i j r' p' x hr' hp' hx)
      | box => exact hv.elim
      | map => exact hv.elim
      | _ => exact fresh rfl hv
    | _ => exact val hv
  · obtain ⟨l', h1, h2⟩ := Γof_blk hi hl
    obtain ⟨m', h3, h4⟩ := Γof_blk hj hm
    exact h.inj i j l' m' b h1 h3 h2 h4
  · have ho := Γof_obj hi
    refine ⟨objAt_some ho, fun b hb => ?_⟩
    obtain ⟨l', h1, h2⟩ := Γof_blk hi hb
    obtain ⟨h3, h4, h5⟩ := (h.own i l' h1).2 b h2
    refine ⟨h3, h4, fun o hR' => ?_⟩
    rcases hR' with hR' | ⟨s, m, hs, hm, hmb⟩
    · exact h5 o hR'
    · obtain rfl := h.inj s i m l' b hm h1 hmb h2
      rw [ho] at hs; cases hs
  · rcases hbo with hbo | ⟨s, l, _, hs, hb⟩
    · exact h.bnd b o hbo
    · exact ((h.own s l hs).2 b hb).2.1
  · rcases hbo with hbo | ⟨s, l, _, hs, hb⟩
    · exact h.sub b o hbo
    · exact .inr ((h.own s l hs).2 b hb).1
  · obtain ⟨l1, h1, h2⟩ := h.base j l hj hl
    obtain ⟨⟨p, hp, ho⟩, _⟩ := h.own j l1 h1
    have hlt := lt_of_get? hp
    rw [← leF_length hle] at hlt
    have hq : g[j]? = some (g[j]) := List.getElem?_eq_getElem hlt
    obtain ⟨p', hp', hv, hk⟩ := leF_get' hle j _ hq
    rw [hp] at hp'
    obtain rfl := Option.some.inj hp'
    rw [Nat.zero_add] at hv hk
    have hqo := hk hj ho
    generalize g[j] = q at hq hv hqo
    cases q with
    | rows fl ep e sz rs =>
      cases p with
      | rows fl' ep' e' sz' rs' =>
        obtain ⟨_, hep, _⟩ := hv
        obtain ⟨l3, h3, _⟩ := h.slot j _ hp
        rw [h1] at h3
        obtain rfl := Option.some.inj h3
        refine ⟨.rows ep sz' l3, by simp only [Γof, hq, h1], Loc.le_trans h2 ?_⟩
        rcases Nat.lt_or_eq_of_le hep with he | rfl
        · exact Loc.rows_le he
        · exact Loc.le_refl _
      | box => exact hv.elim
      | map => exact hv.elim
      | _ => cases ho
    | box => exact ⟨l1, by simp only [Γof, hq]; exact h1, h2⟩
    | map => exact ⟨l1, by simp only [Γof, hq]; exact h1, h2⟩
    | _ => cases hqo
end
end Go.Qg

namespace Go.Qg
open Go.RowKit (Below)
def noAct : Act := { tmps := #[], defers := [] }
inductive Out where
  | ret (r : PV) (H : PF)
  | pan (p : PV) (H : PF)
def Left (Prot : Nat → Prop) (w : World) (R : Nat → Nat → Prop) (Γ : Nat → Option Loc) (Q : Out → Prop) (e : Ending) (w' : World) : Prop :=
  ∃ R' Γ',
    ((∃ v r H, e = .returned v ∧ Q (.ret r H) ∧ Rep w' R' Γ' v r ∧ Sim 0 ⟨Prot, w, R, Γ, 0, []⟩ R' Γ' noAct w' H ∧ ∀ q ∈ H, q.isObj = true) ∨
     (∃ v p H, e = .panicked [{ v := v, recovered := false }] ∧ Q (.pan p H) ∧ Rep w' R' Γ' v p ∧ Sim 0 ⟨Prot, w, R, Γ, 0, []⟩ R' Γ' noAct w' H ∧ ∀ q ∈ H, q.isObj = true))
def CallW (P : Program) (f : FuncId) (args : List PV) (H : PF) (Q : Out → Prop) : Prop :=
  (∀ (vs : Array Value) (w : World), (callFunc f vs).run P w = .ok (.enter f vs) w) ∧
  ∀ (w : World) (vs : List Value) (R : Nat → Nat → Prop) (Γ : Nat → Option Loc) (Prot : Nat → Prop), (∀ b o, R b o → Prot b) → Sim 0 ⟨Prot, w, R, Γ, 0, []⟩ R Γ noAct w H → vs.length = args.length →
    (∀ (i : Nat) (u : Value) (p : PV), vs[i]? = some u → args[i]? = some p → Rep w R Γ u p) → Calls P f vs.toArray w (Left Prot w R Γ Q)
def Spec (P : Program) (f : FuncId) (args : List PV) (r : PV) : Prop := CallW P f args [] fun out => out = .ret r []
theorem Left.mono {Prot : Nat → Prop} {w : World} {R : Nat → Nat → Prop} {Γ : Nat → Option Loc} {Q Q' : Out → Prop} (h : ∀ o, Q o → Q' o) {e : Ending} {w' : World} (hl : Left Prot w R Γ Q e w') : Left Prot w R Γ Q' e w' := by
  obtain ⟨R', Γ', h2⟩ := hl
  refine ⟨R', Γ', ?_⟩
  rcases h2 with ⟨v, r, H, e1, e2, e3⟩ | ⟨v, p, H, e1, e2, e3⟩
  · exact .inl ⟨v, r, H, e1, h _ e2, e3⟩
  · exact .inr ⟨v, p, H, e1, h _ e2, e3⟩
theorem CallW.mono {P : Program} {f : FuncId} {args : List PV} {H : PF} {Q Q' : Out → Prop} (h : CallW P f args H Q) (hq : ∀ o, Q o → Q' o) : CallW P f args H Q' :=
  ⟨h.1, fun w vs R Γ Prot h1 h2 h3 h4 => (h.2 w vs R Γ Prot h1 h2 h3 h4).mono fun _ _ hl => hl.mono hq⟩
mutual
def PV.ren (π : Nat → Nat) : PV → PV
  | .agg cs => .agg (renL π cs)
  | .tup cs => .tup (renL π cs)
  | .clo fn first cap => .clo fn (renL π first) (renL π cap)
  | .ref i off => .ref (π i) off
  | .elt i ep k f => .elt (π i) ep k f
  | .own i ep off n c => .own (π i) ep off n c
  | .mp i => .mp (π i)
  | .ifc t p => .ifc t (p.ren π)
  | .box h cs => .box h (renL π cs)
  | .rows h ep e sz rs => .rows h ep e sz (renLL π rs)
  | .map h ks vs => .map h (renL π ks) (renL π vs)
  | .undef => .undef
  | .v x => .v x
  | .nil => .nil
  | .sl sz n f => .sl sz n f
  | .rp cs off => .rp cs off
def renL (π : Nat → Nat) : List PV → List PV
  | [] => []
  | p :: ps => p.ren π :: renL π ps
def renLL (π : Nat → Nat) : List (List PV) → List (List PV)
  | [] => []
  | ps :: pss => renL π ps :: renLL π pss
end
theorem renL_get (π : Nat → Nat) : ∀ (ps : List PV) (i : Nat), (renL π ps)[i]? = (ps[i]?).map (·.ren π)
  | [], i => by simp [renL]
  | p :: ps, 0 => by simp [renL]
  | p :: ps, i + 1 => by simp [renL, renL_get π ps i]
theorem renL_length (π : Nat → Nat) : ∀ (ps : List PV), (renL π ps).length = ps.length
  | [] => rfl
  | p :: ps => by simp [renL, renL_length π ps]
theorem renLL_get (π : Nat → Nat) : ∀ (ps : List (List PV)) (i : Nat), (renLL π ps)[i]? = (ps[i]?).map (renL π)
  | [], i => by simp [renLL]
  | p :: ps, 0 => by simp [renLL]
  | p :: ps, i + 1 => by simp [renLL, renLL_get π ps i]
theorem renLL_length (π : Nat → Nat) : ∀ (ps : List (List PV)), (renLL π ps).length = ps.length
  | [] => rfl
  | p :: ps => by simp [renLL, renLL_length π ps]
theorem PV.ren_one (π : Nat → Nat) (p : PV) : (p.ren π).one = p.one := by cases p <;> simp [PV.ren, PV.one]
theorem PV.ren_obj (π : Nat → Nat) (p : PV) : (p.ren π).isObj = p.isObj := by cases p <;> simp [PV.ren, PV.isObj]
theorem renL_mem {π : Nat → Nat} {ps : List PV} {q : PV} (h : q ∈ renL π ps) : ∃ p ∈ ps, q = p.ren π := by
  obtain ⟨i, hi⟩ := List.mem_iff_getElem?.1 h
  rw [renL_get] at hi
  simp only [Option.map_eq_some_iff] at hi
  obtain ⟨p, hp, rfl⟩ := hi
  exact ⟨p, List.mem_of_getElem? hp, rfl⟩
theorem PV.ren_free (π : Nat → Nat) (p : PV) (h : p.names = []) : p.ren π = p := by
  refine PV.rec (motive_1 := fun p => p.names = [] → p.ren π = p) (motive_2 := fun ps => namesL ps = [] → renL π ps = ps) (motive_3 := fun pss => namesLL pss = [] → renLL π pss = pss) ?_ ?_ ?_ ?_ ?_ ?_ ?_ ?_ ?_ ?_ ?_ ?_ ?_ ?_ ?_ ?_ ?_ ?_ ?_ ?_ p h
  · intro _; rfl
  · intro x _; rfl
  · intro _; rfl
  · intro cs ih h; simp only [PV.ren]; rw [ih (by simpa [PV.names] using h)]
  · intro cs ih h; simp only [PV.ren]; rw [ih (by simpa [PV.names] using h)]
  · intro sz n f _ _; rfl
  · intro cs off _ _; rfl
  · intro fn first cap ih1 ih2 h
    have := (by simpa [PV.names] using h : namesL first = [] ∧ namesL cap = [])
    simp only [PV.ren]; rw [ih1 this.1, ih2 this.2]
  · intro i off h; simp [PV.names] at h
  · intro i ep k f h; simp [PV.names] at h
  · intro i ep off n c h; simp [PV.names] at h
  · intro i h; simp [PV.names] at h
  · intro t p ih h; simp only [PV.ren]; rw [ih (by simpa [PV.names] using h)]
  · intro f cs ih h; simp only [PV.ren]; rw [ih (by simpa [PV.names] using h)]
  · intro f ep e sz rs ih h; simp only [PV.ren]; rw [ih (by simpa [PV.names] using h)]
  · intro f ks vs ih1 ih2 h
    have := (by simpa [PV.names] using h : namesL ks = [] ∧ namesL vs = [])
    simp only [PV.ren]; rw [ih1 this.1, ih2 this.2]
  · intro _; rfl
  · intro p ps ih1 ih2 h
    have := (by simpa [namesL] using h : p.names = [] ∧ namesL ps = [])
    simp only [renL]; rw [ih1 this.1, ih2 this.2]
  · intro _; rfl
  · intro ps pss ih1 ih2 h
    have := (by simpa [namesLL] using h : namesL ps = [] ∧ namesLL pss = [])
    simp only [renLL]; rw [ih1 this.1, ih2 this.2]
end Go.Qg

namespace Go.Qg
open Go.ChangeShapes Go.WideShapes Go.ChangeAt Go.RowKit
def TypF (R : TypeId → List PV → Prop) : List TypeId → List PV → Prop
  | [], ps => ps = []
  | t :: ts, ps => ∃ p q, ps = p ++ q ∧ R t p ∧ TypF R ts q
def tdef (P : Program) : Nat → TypeId → List PV
  | 0, _ => []
  | n + 1, t => match P.underlying t with
    | some .bool => [.v (.bool false)]
    | some (.int k) => [.v (.int k 0)]
    | some .string => [.v (.string ByteArray.empty)]
    | some (.slice e) => [.sl (P.cellsOf e) 0 fun _ => tdef P n e]
    | some (.struct fs) => (fs.toList.map fun f => tdef P n f.type).flatten
    | some (.array m e) => (List.replicate m (tdef P n e)).flatten
    | _ => []
def Typ (P : Program) : Nat → TypeId → List PV → Prop
  | 0, _, _ => False
  | n + 1, t, ps => match P.underlying t with
    | some .bool => ∃ b, ps = [.v (.bool b)]
    | some (.int k) => ∃ x, ps = [.v (.int k x)] ∧ k.min ≤ x ∧ x ≤ k.max
    | some .string => ∃ s : ByteArray, ps = [.v (.string s)] ∧ s.size ≤ maxLen
    | some (.slice e) => ∃ (m : Nat) (f : Nat → List PV), ps = [.sl (P.cellsOf e) m f] ∧ m ≤ maxLen ∧ (∀ i, i < m → Typ P n e (f i)) ∧ ∀ i, m ≤ i → f i = tdef P n e
    | some (.struct fs) => TypF (Typ P n) (fs.toList.map (·.type)) ps
    | some (.array m e) => TypF (Typ P n) (List.replicate m e) ps
    | _ => False
def sup (P : Program) : Nat → TypeId → Bool
  | 0, _ => false
  | n + 1, t => match P.underlying t with
    | some .bool | some (.int _) | some .string => true
    | some (.slice e) | some (.array _ e) => sup P n e
    | some (.struct fs) => fs.toList.all fun f => sup P n f.type
    | _ => false
structure RowRep (w : World) (R : Nat → Nat → Prop) (Γ : Nat → Option Loc) (cs : List Value) (ps : List PV) : Prop where
  len : cs.length = ps.length
  each : ∀ (i : Nat) (u : Value) (p : PV), cs[i]? = some u → ps[i]? = some p → Rep w R Γ u p
  one : ∀ p ∈ ps, p.one = true ∧ p.names = []
section
variable {w : World} {R : Nat → Nat → Prop} {Γ : Nat → Option Loc}
theorem RowRep.single {u : Value} {p : PV} (h : Rep w R Γ u p) (h1 : p.one = true) (h2 : p.names = []) : RowRep w R Γ [u] [p] := by
  refine ⟨rfl, fun i v q hv hq => ?_, fun q hq => ?_⟩
  · match i, hv, hq with
    | 0, hv, hq =>
      obtain rfl := Option.some.inj hv
      obtain rfl := Option.some.inj hq
      exact h
  · obtain rfl := List.mem_singleton.1 hq
    exact ⟨h1, h2⟩
theorem RowRep.nil : RowRep w R Γ [] [] := ⟨rfl, fun i u p h => by simp at h, fun p h => by cases h⟩
theorem RowRep.append {cs cs' : List Value} {ps ps' : List PV} (h : RowRep w R Γ cs ps) (k : RowRep w R Γ cs' ps') : RowRep w R Γ (cs ++ cs') (ps ++ ps') := by
  refine ⟨by simp [h.len, k.len], fun i u p hu hp => ?_, fun p hp => ?_⟩
  · have hl := h.len
    by_cases hi : i < cs.length
    · rw [List.getElem?_append_left hi] at hu
      rw [List.getElem?_append_left (by omega)] at hp
      exact h.each i u p hu hp
    · rw [List.getElem?_append_right (by omega)] at hu hp
      rw [← hl] at hp
      exact k.each _ u p hu hp
  · rcases List.mem_append.1 hp with hp | hp
    · exact h.one p hp
    · exact k.one p hp
end
section
variable {H : Type} {enc : TypeId × Value → H} {P : Program} {w : World} {spare : Nat → Bool} {held : Bool} {Γ : Nat → Option Loc}
def there (w : World) (b o : Nat) : Prop := ∃ v, w.cell? ⟨b, o, none⟩ = some v
theorem cells_get {base : Nat} {a : Addr} {n : Nat} {cs : List Value} (h : w.cells? base a n = some cs) : cs.length = n ∧ ∀ i, i < n → w.cell? (a.add i) = cs[i]? := by
  unfold World.cells? at h
  split at h
  · refine ⟨by simpa using mapM_some_length h, fun i hi => ?_⟩
    have := mapM_some_get h i i (by simp [hi])
    exact this
  · cases h
theorem fields_row {n : Nat} {cs : List Value} (ih : ∀ (t : TypeId) (cs : List Value), t < P.types.size → sup P n t = true → (∃ fuel x, DataW.trod enc P w 0 spare held fuel t cs = some x) → ∃ ps, Typ P n t ps ∧ RowRep w (there w) Γ cs ps) :
    ∀ (fs : List Field) (o : Nat), (∀ f ∈ fs, f.type < P.types.size ∧ sup P n f.type = true) → (∀ (j : Nat) f, fs[j]? = some f → f.offset = o + ((fs.take j).map fun f => P.cellsOf f.type).sum) →
      (∀ f ∈ fs, ∃ fuel x, DataW.trod enc P w 0 spare held fuel f.type ((cs.drop f.offset).take (P.cellsOf f.type)) = some x) → cs.length = o + (fs.map fun f => P.cellsOf f.type).sum →
      ∃ ps, TypF (Typ P n) (fs.map (·.type)) ps ∧ RowRep w (there w) Γ (cs.drop o) ps
  | [], o, _, _, _, hl => by
    refine ⟨[], rfl, ?_⟩
    rw [List.drop_of_length_le (by simp at hl; omega)]
    exact .nil
  | f :: fs, o, h1, h2, h3, hl => by
    have ho : f.offset = o := by simpa using h2 0 f rfl
    obtain ⟨hf1, hf2⟩ := h1 f List.mem_cons_self
    have h4 := h3 f List.mem_cons_self
    rw [ho] at h4
    obtain ⟨p, hp1, hp2⟩ := ih f.type _ hf1 hf2 h4
    obtain ⟨q, hq1, hq2⟩ := fields_row ih fs (o + P.cellsOf f.type) (fun g hg => h1 g (List.mem_cons_of_mem _ hg)) (fun j g hg => by
      have := h2 (j + 1) g (by simpa using hg)
      simp only [List.take_succ_cons, List.map_cons, List.sum_cons] at this
      omega) (fun g hg => h3 g (List.mem_cons_of_mem _ hg)) (by simp only [List.map_cons, List.sum_cons] at hl; omega)
    refine ⟨p ++ q, ⟨p, q, rfl, hp1, hq1⟩, ?_⟩
    have e : cs.drop o = (cs.drop o).take (P.cellsOf f.type) ++ cs.drop (o + P.cellsOf f.type) := by
      rw [← List.drop_drop, List.take_append_drop]
    rw [e]
    exact hp2.append hq2
theorem parts_row {n : Nat} {e : TypeId} {cs : List Value} (ih : ∀ (t : TypeId) (cs : List Value), t < P.types.size → sup P n t = true → (∃ fuel x, DataW.trod enc P w 0 spare held fuel t cs = some x) → ∃ ps, Typ P n t ps ∧ RowRep w (there w) Γ cs ps)
    (he : e < P.types.size) (hs : sup P n e = true) : ∀ (m o : Nat), (∀ i, o ≤ i → i < o + m → ∃ fuel x, DataW.trod enc P w 0 spare held fuel e ((cs.drop (i * P.cellsOf e)).take (P.cellsOf e)) = some x) → cs.length = (o + m) * P.cellsOf e →
      ∃ ps, TypF (Typ P n) (List.replicate m e) ps ∧ RowRep w (there w) Γ (cs.drop (o * P.cellsOf e)) ps
  | 0, o, _, hl => by
    refine ⟨[], rfl, ?_⟩
    rw [List.drop_of_length_le (by simp at hl; omega)]
    exact .nil
  | m + 1, o, h, hl => by
    obtain ⟨p, hp1, hp2⟩ := ih e _ he hs (h o (Nat.le_refl _) (by omega))
    obtain ⟨q, hq1, hq2⟩ := parts_row ih he hs m (o + 1) (fun i h1 h2 => h i (by omega) (by omega)) (by rw [hl]; congr 1; omega)
    refine ⟨p ++ q, by rw [List.replicate_succ]; exact ⟨p, q, rfl, hp1, hq1⟩, ?_⟩
    have e : cs.drop (o * P.cellsOf e) = (cs.drop (o * P.cellsOf e)).take (P.cellsOf e) ++ cs.drop ((o + 1) * P.cellsOf e) := by
      rw [Nat.add_mul, Nat.one_mul, ← List.drop_drop, List.take_append_drop]
    rw [e]
    exact hp2.append hq2
theorem trod_arr {fuel : Nat} {t e : TypeId} {m : Nat} {cs : List Value} {x : DataW H × List MemPlace} (ht : P.underlying t = some (.array m e)) (h : DataW.trod enc P w 0 spare held fuel t cs = some x) :
    cs.length = P.cellsOf t ∧ ∀ i, i < m → ∃ fuel x, DataW.trod enc P w 0 spare held fuel e ((cs.drop (i * P.cellsOf e)).take (P.cellsOf e)) = some x := by
  cases fuel with
  | zero => simp [DataW.trod] at h
  | succ n =>
    unfold DataW.trod at h
    rw [ht] at h
    split at h <;> simp_all
    obtain ⟨hl, xs, hp, hd⟩ := h
    intro i hi
    have h1 := mapM_some_get hp i i (by simp [hi])
    have h2 := mapM_some_length hp
    simp only [List.length_range] at h2
    refine ⟨n, (xs[i]'(by omega)).1, (xs[i]'(by omega)).2, ?_⟩
    rw [h1, List.getElem?_eq_getElem (by omega)]
theorem read_row (hl : laidOutB P = true) : ∀ (n : Nat) (t : TypeId) (cs : List Value), t < P.types.size → sup P n t = true → (∃ fuel x, DataW.trod enc P w 0 spare held fuel t cs = some x) → ∃ ps, Typ P n t ps ∧ RowRep w (there w) Γ cs ps
  | 0, _, _, _, h, _ => by cases h
  | n + 1, t, cs, ht, hs, ⟨fuel, x, h⟩ => by
    have ih := read_row hl n
    simp only [sup] at hs
    simp only [Typ]
    split at hs
    · rename_i hu
      obtain ⟨b, rfl, _⟩ := DataW.trod_bool hu h
      rw [hu]
      exact ⟨_, ⟨b, rfl⟩, .single (.v _ rfl) rfl rfl⟩
    · rename_i k hu
      obtain ⟨m, rfl, _, hw⟩ := DataW.trod_int hu h
      rw [hu]
      simp only [Lit.wf, Bool.and_eq_true, decide_eq_true_eq] at hw
      exact ⟨_, ⟨m, rfl, hw⟩, .single (.v _ rfl) rfl rfl⟩
    · rename_i hu
      obtain ⟨s, rfl, _, hw⟩ := DataW.trod_string hu h
      rw [hu]
      exact ⟨_, ⟨s, rfl, hw⟩, .single (.v _ rfl) rfl rfl⟩
    · rename_i e hu
      have he := kid_slice hl ht hu
      rw [hu]
      rcases Deep.open_slice hu h with ⟨rfl, _⟩ | ⟨a, len, cap, m, k, D, Pl, rfl, _, h1, h2, h3, _, h4⟩
      · refine ⟨_, ⟨0, fun _ => tdef P n e, rfl, Nat.zero_le _, fun i hi => by omega, fun _ _ => rfl⟩, .single (.sl none 0 0 _ _ (fun _ _ => undef) (Nat.le_refl _) (Nat.zero_le _) ?_ ?_ ?_ ?_) rfl rfl⟩
        · intro i hi; omega
        · intro i j p hi; omega
        · intro i j hi; omega
        · intro i j p hi; omega
      · have hlm : len ≤ m := by rw [h3]; split <;> omega
        have key : ∀ i, i < len → ∃ q : List Value × List PV, w.cells? 0 (a.add (i * P.cellsOf e)) (P.cellsOf e) = some q.1 ∧ Typ P n e q.2 ∧ RowRep w (there w) Γ q.1 q.2 := fun i hi => by
          obtain ⟨cs', g1, g2⟩ := h4 i (by omega)
          obtain ⟨ps, g3, g4⟩ := ih e cs' he hs ⟨k, _, g2⟩
          exact ⟨(cs', ps), g1, g3, g4⟩
        obtain ⟨q, hq⟩ := Deep.choose_lt key
        have hsz : ∀ i, i < len → (q i).1.length = P.cellsOf e ∧ (q i).2.length = P.cellsOf e := fun i hi => by
          have g1 := (cells_get (hq i hi).1).1
          have g2 := (hq i hi).2.2.len
          exact ⟨g1, by omega⟩
        have hspot : 0 < len → 0 < P.cellsOf e → a.spot = none := fun g1 g2 => by
          have g3 := (cells_get (hq 0 g1).1).2 0 g2
          have g4 : (q 0).1[0]? = some ((q 0).1[0]'(by rw [(hsz 0 g1).1]; exact g2)) := List.getElem?_eq_getElem _
          rw [g4] at g3
          have := World.cell?_spot g3
          simpa [Addr.add] using this
        have hcell : ∀ i j, i < len → j < P.cellsOf e → w.cell? ⟨a.block, a.off + (i * P.cellsOf e + j), none⟩ = some ((q i).1.getD j undef) := fun i j hi hj => by
          have g1 := (cells_get (hq i hi).1).2 j hj
          have g2 := hspot (by omega) (by omega)
          have e1 : (a.add (i * P.cellsOf e)).add j = ⟨a.block, a.off + (i * P.cellsOf e + j), none⟩ := by
            rw [Deep.add_add]
            obtain ⟨b, o, s⟩ := a
            simp only at g2
            subst g2
            unfold Addr.add
            split
            · rename_i h0; rw [h0]; rfl
            · rfl
          rw [e1] at g1
          rw [g1]
          have g3 := (hsz i hi).1
          rw [List.getD_eq_getElem?_getD, List.getElem?_eq_getElem (by omega)]; rfl
        have hf : ∀ i, i < len → (if i < len then (q i).2 else tdef P n e) = (q i).2 := fun i hi => if_pos hi
        refine ⟨_, ⟨len, fun i => if i < len then (q i).2 else tdef P n e, rfl, by omega, fun i hi => by simp only [hf i hi]; exact (hq i hi).2.1, fun i hi => if_neg (by omega)⟩, .single (.sl (some a) len cap _ _ (fun i j => (q i).1.getD j undef) h1 h2 (fun i hi => by simp only [hf i hi]; exact (hsz i hi).2) (fun i j p hi hp => by simp only [hf i hi] at hp; exact (hq i hi).2.2.one p (List.mem_of_getElem? hp)) (fun i j hi hj => ?_) fun i j p hi hp => ?_) rfl rfl⟩
        · refine ⟨a.block, a.off, ?_, ⟨_, hcell i j hi hj⟩, hcell i j hi hj⟩
          have := hspot (by omega) (by omega)
          obtain ⟨b, o, s⟩ := a
          simp only at this
          rw [this]
        · simp only [hf i hi] at hp
          have g1 := lt_of_get? hp
          have g2 := (hsz i hi)
          have g3 : (q i).1[j]? = some ((q i).1.getD j undef) := by
            rw [List.getD_eq_getElem?_getD, List.getElem?_eq_getElem (by omega)]; rfl
          exact (hq i hi).2.2.each j _ p g3 hp
    · rename_i m e hu
      obtain ⟨he, hc⟩ := kid_array hl ht hu
      rw [hu]
      obtain ⟨h1, h2⟩ := trod_arr hu h
      have := parts_row ih he hs m 0 (fun i _ hi => h2 i (by omega)) (by rw [h1, hc]; congr 1; omega)
      simpa using this
    · rename_i fs hu
      obtain ⟨k1, k2, k3⟩ := kid_struct hl ht hu
      rw [hu]
      obtain ⟨xs, k, rfl, _, h1, h2, h3⟩ := DataW.trod_struct hu h
      have := fields_row (cs := cs) ih fs.toList 0 (fun f hf => ⟨k1 f hf, List.all_eq_true.1 hs f hf⟩) (fun j f hf => by rw [k3 j f hf]; omega) (fun f hf => by
        obtain ⟨i, hi⟩ := List.mem_iff_getElem?.1 hf
        have hi' : fs[i]? = some f := by simpa using hi
        have := h3 i f hi'
        have hlt := (List.getElem?_eq_some_iff.1 hi).1
        refine ⟨k, xs[i]'(by rw [h2]; simpa using hlt), ?_⟩
        rw [this]; simp) (by rw [h1, k2]; omega)
      simpa using this
    · cases hs
def ArgP (P : Program) (n : Nat) (t : TypeId) (p : PV) : Prop := match P.underlying t with
  | some (.struct _) | some (.array _ _) => ∃ ps, p = .agg ps ∧ Typ P n t ps
  | _ => Typ P n t [p]
theorem read_arg (hl : laidOutB P = true) {n : Nat} {t : TypeId} {v : Value} {d : DataW H} {pl : List MemPlace} {base : Nat} (ht : t < P.types.size) (hs : sup P n t = true) (hok : Value.okWide P w .any base t v) (h : DataW.Trod enc P w 0 spare held t v d pl) :
    ∃ p, ArgP P n t p ∧ Rep w (there w) Γ v p := by
  obtain ⟨fuel, h⟩ := h
  obtain ⟨ps, h1, h2⟩ := read_row (Γ := Γ) hl n t _ ht hs ⟨fuel, _, h⟩
  unfold ArgP
  unfold Value.okWide at hok
  have agg : (∃ cs, v = .agg cs ∧ cs.size = P.cellsOf t ∧ Row.okWide P w .any base t cs) → ∃ p, (∃ ps, p = .agg ps ∧ Typ P n t ps) ∧ Rep w (there w) Γ v p := by
    rintro ⟨cs, rfl, _, _⟩
    refine ⟨.agg ps, ⟨ps, rfl, h1⟩, ?_⟩
    have := Rep.agg (w := w) (R := there w) (Γ := Γ) cs.toList ps h2.len (fun p hp => (h2.one p hp).1) fun i u p hu hp => h2.each i u p hu hp
    simpa using this
  split
  · rename_i hu
    rw [hu] at hok
    exact agg hok
  · rename_i hu
    rw [hu] at hok
    exact agg hok
  · rename_i hn1 hn2
    have one : v.cells.toList = [v] := by
      cases n with
      | zero => cases hs
      | succ n =>
        simp only [sup] at hs
        split at hs
        · rename_i hu
          obtain ⟨b, hc, _⟩ := DataW.trod_bool hu h
          cases v <;> simp_all [Value.cells, Cell.okWide, Cell.ok]
        · rename_i k hu
          obtain ⟨b, hc, _⟩ := DataW.trod_int hu h
          cases v <;> simp_all [Value.cells, Cell.okWide, Cell.ok]
        · rename_i hu
          obtain ⟨b, hc, _⟩ := DataW.trod_string hu h
          cases v <;> simp_all [Value.cells, Cell.okWide, Cell.ok]
        · rename_i e hu
          cases v <;> simp_all [Value.cells, Cell.okWide, Cell.ok]
        · rename_i m e hu
          exact absurd hu (hn2 m e)
        · rename_i fs hu
          exact absurd hu (hn1 fs)
        · cases hs
    rw [one] at h2
    obtain ⟨p, rfl⟩ : ∃ p, ps = [p] := by
      have := h2.len
      match ps, this with
      | [p], _ => exact ⟨p, rfl⟩
    exact ⟨p, h1, h2.each 0 v p rfl rfl⟩
theorem read_args (hl : laidOutB P = true) {n : Nat} {base : Nat} : ∀ {ts : List TypeId} {vs : List Value} {ds : List (DataW H)} {pl : List MemPlace}, (∀ t ∈ ts, t < P.types.size ∧ sup P n t = true) →
    (∀ (j : Nat) t v, ts[j]? = some t → vs[j]? = some v → Value.okWide P w .any base t v) → DataW.TrodAll enc P w 0 spare held ts vs ds pl →
    ∃ args : List PV, vs.length = args.length ∧ ts.length = args.length ∧ (∀ (j : Nat) t p, ts[j]? = some t → args[j]? = some p → ArgP P n t p) ∧ ∀ (i : Nat) (u : Value) (p : PV), vs[i]? = some u → args[i]? = some p → Rep w (there w) Γ u p
  | [], vs, ds, pl, _, _, h => by
    obtain ⟨rfl, rfl, rfl⟩ := trodAll_nil h
    exact ⟨[], rfl, rfl, fun j t p hj => by simp at hj, fun i u p hu => by simp at hu⟩
  | t :: ts, vs, ds, pl, h1, h2, h => by
    obtain ⟨v, vs, d, ds, p, q, rfl, rfl, rfl, g1, g2⟩ := trodAll_cons h
    obtain ⟨args, k1, k2, k3, k4⟩ := read_args hl (fun t ht => h1 t (List.mem_cons_of_mem _ ht)) (fun j t v ht hv => h2 (j + 1) t v (by simpa using ht) (by simpa using hv)) g2
    obtain ⟨ht, hs⟩ := h1 t List.mem_cons_self
    obtain ⟨a, k5, k6⟩ := read_arg (Γ := Γ) hl ht hs (h2 0 t v rfl rfl) g1
    refine ⟨a :: args, by simp [k1], by simp [k2], fun j t p ht hp => ?_, fun i u p hu hp => ?_⟩
    · cases j with
      | zero =>
        obtain rfl := Option.some.inj ht
        obtain rfl := Option.some.inj hp
        exact k5
      | succ j => exact k3 j t p (by simpa using ht) (by simpa using hp)
    · cases i with
      | zero =>
        obtain rfl := Option.some.inj hu
        obtain rfl := Option.some.inj hp
        exact k6
      | succ i => exact k4 i u p (by simpa using hu) (by simpa using hp)
theorem again_args (hl : laidOutB P = true) {w' : World} (hb : Below w.heap.size w w') : ∀ {ts : List TypeId} {vs : List Value} {ds : List (DataW H)} {pl : List MemPlace}, (∀ t ∈ ts, t < P.types.size ∧ P.readableRec t = true) → (∀ x ∈ pl, x.block < w.heap.size) →
    DataW.TrodAll enc P w 0 (fun _ => true) true ts vs ds pl → DataW.TrodAll enc P w' 0 (fun b => decide (b < w.heap.size)) true ts vs ds pl
  | [], vs, ds, pl, _, _, h => by
    obtain ⟨rfl, rfl, rfl⟩ := trodAll_nil h
    exact trodAll_mk0
  | t :: ts, vs, ds, pl, h1, h2, h => by
    obtain ⟨v, vs, d, ds, p, q, rfl, rfl, rfl, g1, g2⟩ := trodAll_cons h
    obtain ⟨ht, hr⟩ := h1 t List.mem_cons_self
    exact trodAll_cons_mk (Go.RowKit.Below.trod hl hr ht g1 hb fun x hx => h2 x (List.mem_append_left _ hx)) (again_args hl hb (fun t ht => h1 t (List.mem_cons_of_mem _ ht)) (fun x hx => h2 x (List.mem_append_right _ hx)) g2)
theorem law_calls {f : FuncId} {args : List PV} {vs : Array Value} (h : Spec P f args (.v (.bool true))) (hl : vs.toList.length = args.length) (hv : ∀ (i : Nat) (u : Value) (p : PV), vs.toList[i]? = some u → args[i]? = some p → Rep w (there w) (fun _ => none) u p) :
    Calls P f vs w fun e w' => e = .returned (.bool true) ∧ Below w.heap.size w w' := by
  have hb : ∀ b o, there w b o → b < w.heap.size := fun b o ⟨v, hv⟩ => by
    unfold World.cell? at hv
    split at hv
    · rename_i hh
      exact (Array.getElem?_eq_some_iff.1 hh).1
    · cases hv
  have hsim : Sim 0 ⟨(· < w.heap.size), w, there w, fun _ => none, 0, []⟩ (there w) (fun _ => none) noAct w [] :=
    ⟨rfl, Nat.le_refl _, fun t p h => by simp at h, fun i j l m b h => (by cases h), fun i l h => (by cases h), hb, fun b o h => .inl h, Kept.refl _ _, fun b h => h, Nat.le_refl _, fun j l _ h => (by cases h), rfl⟩
  have h1 := h.2 w vs.toList (there w) (fun _ => none) (· < w.heap.size) hb hsim hl hv
  refine (show Calls P f vs w _ from by simpa using h1).mono ?_
  rintro e w' ⟨R', Γ', ⟨v, r, H, rfl, hq, hr, hs, _⟩ | ⟨v, p, H, _, hq, _⟩⟩
  · injection hq with hq1 hq2
    subst hq1
    refine ⟨?_, hs.kept.below⟩
    cases hr
    rfl
  · cases hq
theorem sl_list {α : Type} [Inhabited α] (cells : α → List PV) (Q : α → Prop) {m : Nat} {f : Nat → List PV} (h : ∀ i, i < m → ∃ a, f i = cells a ∧ Q a) (hd : ∀ i, m ≤ i → f i = cells default) : ∃ l : List α, l.length = m ∧ (f = fun i => cells (l.getD i default)) ∧ ∀ a ∈ l, Q a := by
  obtain ⟨g, hg⟩ := Deep.choose_lt h
  refine ⟨(List.range m).map g, by simp, funext fun i => ?_, fun a ha => ?_⟩
  · by_cases hi : i < m
    · rw [(hg i hi).1, List.getD_eq_getElem?_getD]; simp [hi]
    · rw [hd i (by omega), List.getD_eq_getElem?_getD]; simp [hi]
  · obtain ⟨i, hi, rfl⟩ := List.mem_map.1 ha
    exact (hg i (List.mem_range.1 hi)).2
theorem law_lifted {C : Checked} {os : Os} {f : FuncId} {fn : Func} {s : ChangeSpec} {conds : List PathCond} (n : Nat) {tb : TypeId}
    (own : ownKnob C.prog.godebug = none) (started : os.Started) (noInit : C.prog.inits.idxOf? f = none) (hfn : C.prog.funcs[f]? = some fn)
    (witness : ∃ (w : World) (tape : Tape) (i : Input), w.os = os ∧ (w.forCall tape i).Shaped C.prog ∧ i.vars = [] ∧ Input.okWide C.prog (w.forCall tape i) .any w.heap.size f i ∧
      s.pre6 enc C.prog fn conds false (w.forCall tape i).memory i.args ∧ ({} : Assume).holds C.prog (lone (Frame.enter C.prog f i.args .normal) [] (w.forCall tape i)))
    (hl : laidOutB C.prog = true) (hvars : s.vars = []) (hts : (fn.params.toList.all fun t => decide (t < C.prog.types.size) && sup C.prog n t && C.prog.readableRec t) = true) (hres : fn.resultTypes = #[tb]) (htb : C.prog.underlying tb = some .bool)
    (hs : ∀ ds : List (DataW H), ds.length = fn.params.size → (s.fn H ds).results = [.lit (.bool true)] ∧ (s.fn H ds).args = ds ∧ (s.fn H ds).vars = [])
    (spec : ∀ args : List PV, fn.params.toList.length = args.length → (∀ (j : Nat) t p, fn.params.toList[j]? = some t → args[j]? = some p → ArgP C.prog n t p) → Spec C.prog f args (.v (.bool true))) :
    ReturnsInHanded {} C os f .any (s.pre6 enc C.prog fn conds false) (s.post enc C.prog fn false true false false) := by
  refine returnsInHanded_of_change (C := C) own started noInit hfn witness ?_
  intro W base args ds gs before hval hW _ _
  have hW' := hW
  obtain ⟨p, q, hA, hV, rfl, _, _⟩ := hW
  rw [hvars] at hV
  obtain ⟨rfl, rfl⟩ := trodVars_none hV
  have ht : ∀ t ∈ fn.params.toList, (t < C.prog.types.size ∧ sup C.prog n t = true) ∧ C.prog.readableRec t = true := fun t ht => by
    have := List.all_eq_true.1 hts t ht
    simpa only [Bool.and_eq_true, decide_eq_true_eq] using this
  obtain ⟨avs, k1, k2, k3, k4⟩ := read_args (Γ := fun _ => none) hl (fun t h => (ht t h).1) (fun j t v h1 h2 => hval j t v (by simpa using h1) (by simpa using h2)) hA
  have hlen : ds.length = fn.params.size := by
    have key : ∀ (ts : List TypeId) (vs : List Value) (ds : List (DataW H)) (ps : List MemPlace), DataW.TrodAll enc C.prog W 0 (fun _ => true) true ts vs ds ps → ds.length = ts.length := by
      intro ts
      induction ts with
      | nil => intro vs ds ps h; obtain ⟨_, rfl, _⟩ := trodAll_nil h; rfl
      | cons t ts ih =>
        intro vs ds ps h
        obtain ⟨v, vs, d, ds, a, b, rfl, rfl, rfl, _, h2⟩ := trodAll_cons h
        simp [ih _ _ _ h2]
    have := key _ _ _ _ hA
    simpa using this
  obtain ⟨s1, s2, s3⟩ := hs ds hlen
  refine (law_calls (spec avs k2 k3) k1 k4).mono fun e W' ⟨he, bel⟩ => ⟨_, he, ds, [], p ++ [], [], p, [], hW', ?_, ?_, ?_, bel.frame _, fun h => (by cases h)⟩
  · rw [List.append_nil, s1, hres]
    exact trodAll_mk1 (shut_bool htb _)
  · rw [List.append_nil, s2]
    exact again_args hl bel (fun t h => ⟨(ht t h).1.1, (ht t h).2⟩) (fun x hx => by simpa using hW'.lt x (by simpa using hx)) hA
  · rw [hvars, List.append_nil, s3]; rfl
end
end Go.Qg

namespace Go.Qg
open Go.Proofs
theorem mixed : Try.prog.follows .mixedOrders = true := by kernel_rfl
@[simp] theorem tsz1 : tsz Try.prog 1 = some 1 ∧ trow Try.prog 1 = some false ∧ tel Try.prog 1 = none ∧ tarr Try.prog 1 = none ∧ tifc Try.prog 1 = some false ∧ pzero Try.prog 1 = some (.v (.nilFunc)) ∧ tbytes Try.prog 1 = some 8 ∧ tzero Try.prog 1 = some [.v (.nilFunc)] ∧ tsz Try.prog 2 = some 1 ∧ trow Try.prog 2 = some false ∧ tel Try.prog 2 = none ∧ tarr Try.prog 2 = none ∧ tifc Try.prog 2 = some false ∧ pzero Try.prog 2 = some (.v (.int .i64 0)) ∧ tint Try.prog 2 = some .i64 ∧ tbytes Try.prog 2 = some 8 ∧ tzero Try.prog 2 = some [.v (.int .i64 0)] ∧ tsz Try.prog 3 = some 1 ∧ trow Try.prog 3 = some false ∧ tel Try.prog 3 = none ∧ tarr Try.prog 3 = none ∧ tifc Try.prog 3 = some false ∧ pzero Try.prog 3 = some (.v (.int .i64 0)) ∧ tint Try.prog 3 = some .i64 := by refine ⟨?_, ?_, ?_, ?_, ?_, ?_, ?_, ?_, ?_, ?_, ?_, ?_, ?_, ?_, ?_, ?_, ?_, ?_, ?_, ?_, ?_, ?_, ?_, ?_⟩ <;> kernel_rfl
@[simp] theorem tbytes3 : tbytes Try.prog 3 = some 8 ∧ tzero Try.prog 3 = some [.v (.int .i64 0)] ∧ tsz Try.prog 4 = some 1 ∧ trow Try.prog 4 = some false ∧ tel Try.prog 4 = none ∧ tarr Try.prog 4 = none ∧ tifc Try.prog 4 = some false ∧ pzero Try.prog 4 = some (.v (.bool false)) ∧ tbool Try.prog 4 = true ∧ tbytes Try.prog 4 = some 1 ∧ tzero Try.prog 4 = some [.v (.bool false)] ∧ tsz Try.prog 5 = some 1 ∧ trow Try.prog 5 = some false ∧ tel Try.prog 5 = none ∧ tarr Try.prog 5 = none ∧ tifc Try.prog 5 = some false ∧ pzero Try.prog 5 = some (.v (.int .u8 0)) ∧ tint Try.prog 5 = some .u8 ∧ tbytes Try.prog 5 = some 1 ∧ tzero Try.prog 5 = some [.v (.int .u8 0)] ∧ tsz Try.prog 6 = some 1 ∧ trow Try.prog 6 = some false ∧ tel Try.prog 6 = none ∧ tarr Try.prog 6 = none := by refine ⟨?_, ?_, ?_, ?_, ?_, ?_, ?_, ?_, ?_, ?_, ?_, ?_, ?_, ?_, ?_, ?_, ?_, ?_, ?_, ?_, ?_, ?_, ?_, ?_⟩ <;> kernel_rfl
@[simp] theorem tifc6 : tifc Try.prog 6 = some false ∧ pzero Try.prog 6 = some (.v (.int .u8 0)) ∧ tint Try.prog 6 = some .u8 ∧ tbytes Try.prog 6 = some 1 ∧ tzero Try.prog 6 = some [.v (.int .u8 0)] ∧ tsz Try.prog 7 = some 4 ∧ trow Try.prog 7 = some true ∧ tel Try.prog 7 = none ∧ tarr Try.prog 7 = none ∧ tifc Try.prog 7 = some false ∧ pzero Try.prog 7 = some (.agg [.v (.int .i64 0), .v (.int .i64 0), .v (.bool false), .v (.int .u8 0)]) ∧ tfld Try.prog 7 0 = some (0, 2) ∧ tfld Try.prog 7 1 = some (1, 3) ∧ tfld Try.prog 7 2 = some (2, 4) ∧ tfld Try.prog 7 3 = some (3, 6) ∧ tpl Try.prog 7 = some [(0, 1), (1, 1), (2, 1), (3, 1)] ∧ teqf Try.prog 7 = some [(0, 0), (1, 0), (2, 1), (3, 0)] ∧ tbytes Try.prog 7 = some 24 ∧ tzero Try.prog 7 = some [.v (.int .i64 0), .v (.int .i64 0), .v (.bool false), .v (.int .u8 0)] ∧ tsz Try.prog 8 = some 4 ∧ trow Try.prog 8 = some true ∧ tel Try.prog 8 = none ∧ tarr Try.prog 8 = none ∧ tifc Try.prog 8 = some false := by refine ⟨?_, ?_, ?_, ?_, ?_, ?_, ?_, ?_, ?_, ?_, ?_, ?_, ?_, ?_, ?_, ?_, ?_, ?_, ?_, ?_, ?_, ?_, ?_, ?_⟩ <;> kernel_rfl
@[simp] theorem pzero8 : pzero Try.prog 8 = some (.agg [.v (.int .i64 0), .v (.int .i64 0), .v (.bool false), .v (.int .u8 0)]) ∧ tfld Try.prog 8 0 = some (0, 2) ∧ tfld Try.prog 8 1 = some (1, 3) ∧ tfld Try.prog 8 2 = some (2, 4) ∧ tfld Try.prog 8 3 = some (3, 6) ∧ tpl Try.prog 8 = some [(0, 1), (1, 1), (2, 1), (3, 1)] ∧ teqf Try.prog 8 = some [(0, 0), (1, 0), (2, 1), (3, 0)] ∧ tbytes Try.prog 8 = some 24 ∧ tzero Try.prog 8 = some [.v (.int .i64 0), .v (.int .i64 0), .v (.bool false), .v (.int .u8 0)] ∧ tsz Try.prog 9 = some 1 ∧ trow Try.prog 9 = some false ∧ tel Try.prog 9 = none ∧ tarr Try.prog 9 = none ∧ tifc Try.prog 9 = some false ∧ pzero Try.prog 9 = some (.v (.string ByteArray.empty)) ∧ tstr Try.prog 9 = true ∧ tbytes Try.prog 9 = some 16 ∧ tzero Try.prog 9 = some [.v (.string ByteArray.empty)] ∧ tsz Try.prog 10 = some 1 ∧ trow Try.prog 10 = some false ∧ tel Try.prog 10 = none ∧ tarr Try.prog 10 = none ∧ tifc Try.prog 10 = some false ∧ pzero Try.prog 10 = some (.v (.string ByteArray.empty)) := by refine ⟨?_, ?_, ?_, ?_, ?_, ?_, ?_, ?_, ?_, ?_, ?_, ?_, ?_, ?_, ?_, ?_, ?_, ?_, ?_, ?_, ?_, ?_, ?_, ?_⟩ <;> kernel_rfl
@[simp] theorem tstr10 : tstr Try.prog 10 = true ∧ tbytes Try.prog 10 = some 16 ∧ tzero Try.prog 10 = some [.v (.string ByteArray.empty)] ∧ tsz Try.prog 11 = some 1 ∧ trow Try.prog 11 = some false ∧ tel Try.prog 11 = none ∧ tarr Try.prog 11 = none ∧ tifc Try.prog 11 = some false ∧ pzero Try.prog 11 = some (.v (.string ByteArray.empty)) ∧ tstr Try.prog 11 = true ∧ tbytes Try.prog 11 = some 16 ∧ tzero Try.prog 11 = some [.v (.string ByteArray.empty)] ∧ tsz Try.prog 12 = some 1 ∧ trow Try.prog 12 = some false ∧ tel Try.prog 12 = none ∧ tarr Try.prog 12 = none ∧ tifc Try.prog 12 = some false ∧ pzero Try.prog 12 = some (.v (.int .u64 0)) ∧ tint Try.prog 12 = some .u64 ∧ tbytes Try.prog 12 = some 8 ∧ tzero Try.prog 12 = some [.v (.int .u64 0)] ∧ tsz Try.prog 13 = some 2 ∧ trow Try.prog 13 = some true ∧ tel Try.prog 13 = none := by refine ⟨?_, ?_, ?_, ?_, ?_, ?_, ?_, ?_, ?_, ?_, ?_, ?_, ?_, ?_, ?_, ?_, ?_, ?_, ?_, ?_, ?_, ?_, ?_, ?_⟩ <;> kernel_rfl
@[simp] theorem tarr13 : tarr Try.prog 13 = none ∧ tifc Try.prog 13 = some false ∧ pzero Try.prog 13 = some (.agg [.v (.string ByteArray.empty), .v (.int .u64 0)]) ∧ tfld Try.prog 13 0 = some (0, 9) ∧ tfld Try.prog 13 1 = some (1, 12) ∧ tpl Try.prog 13 = some [(0, 1), (1, 1)] ∧ tbytes Try.prog 13 = some 24 ∧ tzero Try.prog 13 = some [.v (.string ByteArray.empty), .v (.int .u64 0)] ∧ tsz Try.prog 14 = some 2 ∧ trow Try.prog 14 = some true ∧ tel Try.prog 14 = none ∧ tarr Try.prog 14 = none ∧ tifc Try.prog 14 = some false ∧ pzero Try.prog 14 = some (.agg [.v (.string ByteArray.empty), .v (.int .u64 0)]) ∧ tfld Try.prog 14 0 = some (0, 9) ∧ tfld Try.prog 14 1 = some (1, 12) ∧ tpl Try.prog 14 = some [(0, 1), (1, 1)] ∧ tbytes Try.prog 14 = some 24 ∧ tzero Try.prog 14 = some [.v (.string ByteArray.empty), .v (.int .u64 0)] ∧ tsz Try.prog 15 = some 1 ∧ trow Try.prog 15 = some false ∧ tel Try.prog 15 = none ∧ tarr Try.prog 15 = none ∧ tifc Try.prog 15 = some false := by refine ⟨?_, ?_, ?_, ?_, ?_, ?_, ?_, ?_, ?_, ?_, ?_, ?_, ?_, ?_, ?_, ?_, ?_, ?_, ?_, ?_, ?_, ?_, ?_, ?_⟩ <;> kernel_rfl
@[simp] theorem pzero15 : pzero Try.prog 15 = some (.v (.pointer none)) ∧ tbytes Try.prog 15 = some 8 ∧ tzero Try.prog 15 = some [.v (.pointer none)] ∧ tsz Try.prog 16 = some 1 ∧ trow Try.prog 16 = some false ∧ tel Try.prog 16 = none ∧ tarr Try.prog 16 = none ∧ tifc Try.prog 16 = some false ∧ pzero Try.prog 16 = some (.v (.pointer none)) ∧ tbytes Try.prog 16 = some 8 ∧ tzero Try.prog 16 = some [.v (.pointer none)] ∧ tsz Try.prog 17 = some 1 ∧ trow Try.prog 17 = some false ∧ tel Try.prog 17 = none ∧ tarr Try.prog 17 = none ∧ tifc Try.prog 17 = some false ∧ pzero Try.prog 17 = some (.v (.pointer none)) ∧ tbytes Try.prog 17 = some 8 ∧ tzero Try.prog 17 = some [.v (.pointer none)] ∧ tsz Try.prog 18 = some 1 ∧ trow Try.prog 18 = some true ∧ tel Try.prog 18 = none ∧ tarr Try.prog 18 = none ∧ tifc Try.prog 18 = some false := by refine ⟨?_, ?_, ?_, ?_, ?_, ?_, ?_, ?_, ?_, ?_, ?_, ?_, ?_, ?_, ?_, ?_, ?_, ?_, ?_, ?_, ?_, ?_, ?_, ?_⟩ <;> kernel_rfl
@[simp] theorem pzero18 : pzero Try.prog 18 = some (.agg [.v (.pointer none)]) ∧ tfld Try.prog 18 0 = some (0, 17) ∧ tpl Try.prog 18 = some [(0, 1)] ∧ tbytes Try.prog 18 = some 8 ∧ tzero Try.prog 18 = some [.v (.pointer none)] ∧ tsz Try.prog 19 = some 1 ∧ trow Try.prog 19 = some true ∧ tel Try.prog 19 = none ∧ tarr Try.prog 19 = none ∧ tifc Try.prog 19 = some false ∧ pzero Try.prog 19 = some (.agg [.v (.pointer none)]) ∧ tfld Try.prog 19 0 = some (0, 17) ∧ tpl Try.prog 19 = some [(0, 1)] ∧ tbytes Try.prog 19 = some 8 ∧ tzero Try.prog 19 = some [.v (.pointer none)] ∧ tsz Try.prog 20 = some 1 ∧ trow Try.prog 20 = some false ∧ tel Try.prog 20 = none ∧ tarr Try.prog 20 = none ∧ tifc Try.prog 20 = some true ∧ pzero Try.prog 20 = some (.v (.nilIface)) ∧ tbytes Try.prog 20 = some 16 ∧ tzero Try.prog 20 = some [.v (.nilIface)] ∧ tsz Try.prog 21 = some 1 := by refine ⟨?_, ?_, ?_, ?_, ?_, ?_, ?_, ?_, ?_, ?_, ?_, ?_, ?_, ?_, ?_, ?_, ?_, ?_, ?_, ?_, ?_, ?_, ?_, ?_⟩ <;> kernel_rfl
@[simp] theorem trow21 : trow Try.prog 21 = some false ∧ tel Try.prog 21 = none ∧ tarr Try.prog 21 = none ∧ tifc Try.prog 21 = some false ∧ pzero Try.prog 21 = some (.v (.int .i32 0)) ∧ tint Try.prog 21 = some .i32 ∧ tbytes Try.prog 21 = some 4 ∧ tzero Try.prog 21 = some [.v (.int .i32 0)] ∧ tsz Try.prog 22 = some 1 ∧ trow Try.prog 22 = some false ∧ tel Try.prog 22 = some 54 ∧ tarr Try.prog 22 = none ∧ tifc Try.prog 22 = some false ∧ pzero Try.prog 22 = some (.nil) ∧ tbytes Try.prog 22 = some 24 ∧ tzero Try.prog 22 = some [.nil] ∧ tsz Try.prog 23 = some 1 ∧ trow Try.prog 23 = some true ∧ tel Try.prog 23 = none ∧ tarr Try.prog 23 = none ∧ tifc Try.prog 23 = some false ∧ pzero Try.prog 23 = some (.agg [.nil]) ∧ tfld Try.prog 23 0 = some (0, 22) ∧ tpl Try.prog 23 = some [(0, 1)] := by refine ⟨?_, ?_, ?_, ?_, ?_, ?_, ?_, ?_, ?_, ?_, ?_, ?_, ?_, ?_, ?_, ?_, ?_, ?_, ?_, ?_, ?_, ?_, ?_, ?_⟩ <;> kernel_rfl
@[simp] theorem tbytes23 : tbytes Try.prog 23 = some 24 ∧ tzero Try.prog 23 = some [.nil] ∧ tsz Try.prog 24 = some 1 ∧ trow Try.prog 24 = some true ∧ tel Try.prog 24 = none ∧ tarr Try.prog 24 = none ∧ tifc Try.prog 24 = some false ∧ pzero Try.prog 24 = some (.agg [.nil]) ∧ tfld Try.prog 24 0 = some (0, 22) ∧ tpl Try.prog 24 = some [(0, 1)] ∧ tbytes Try.prog 24 = some 24 ∧ tzero Try.prog 24 = some [.nil] ∧ tsz Try.prog 25 = some 1 ∧ trow Try.prog 25 = some false ∧ tel Try.prog 25 = none ∧ tarr Try.prog 25 = none ∧ tifc Try.prog 25 = some false ∧ pzero Try.prog 25 = some (.v (.nilFunc)) ∧ tbytes Try.prog 25 = some 8 ∧ tzero Try.prog 25 = some [.v (.nilFunc)] ∧ tsz Try.prog 26 = some 1 ∧ trow Try.prog 26 = some false ∧ tel Try.prog 26 = none ∧ tarr Try.prog 26 = none := by refine ⟨?_, ?_, ?_, ?_, ?_, ?_, ?_, ?_, ?_, ?_, ?_, ?_, ?_, ?_, ?_, ?_, ?_, ?_, ?_, ?_, ?_, ?_, ?_, ?_⟩ <;> kernel_rfl
@[simp] theorem tifc26 : tifc Try.prog 26 = some false ∧ pzero Try.prog 26 = some (.v (.nilFunc)) ∧ tbytes Try.prog 26 = some 8 ∧ tzero Try.prog 26 = some [.v (.nilFunc)] ∧ tsz Try.prog 27 = some 1 ∧ trow Try.prog 27 = some false ∧ tel Try.prog 27 = none ∧ tarr Try.prog 27 = none ∧ tifc Try.prog 27 = some false ∧ pzero Try.prog 27 = some (.v (.nilFunc)) ∧ tbytes Try.prog 27 = some 8 ∧ tzero Try.prog 27 = some [.v (.nilFunc)] ∧ tsz Try.prog 28 = some 1 ∧ trow Try.prog 28 = some false ∧ tel Try.prog 28 = none ∧ tarr Try.prog 28 = none ∧ tifc Try.prog 28 = some false ∧ pzero Try.prog 28 = some (.v (.int .i64 0)) ∧ tint Try.prog 28 = some .i64 ∧ tbytes Try.prog 28 = some 8 ∧ tzero Try.prog 28 = some [.v (.int .i64 0)] ∧ tsz Try.prog 30 = some 1 ∧ trow Try.prog 30 = some false ∧ tel Try.prog 30 = none := by refine ⟨?_, ?_, ?_, ?_, ?_, ?_, ?_, ?_, ?_, ?_, ?_, ?_, ?_, ?_, ?_, ?_, ?_, ?_, ?_, ?_, ?_, ?_, ?_, ?_⟩ <;> kernel_rfl
@[simp] theorem tarr30 : tarr Try.prog 30 = none ∧ tifc Try.prog 30 = some false ∧ pzero Try.prog 30 = some (.v (.nilFunc)) ∧ tbytes Try.prog 30 = some 8 ∧ tzero Try.prog 30 = some [.v (.nilFunc)] ∧ tsz Try.prog 31 = some 1 ∧ trow Try.prog 31 = some false ∧ tel Try.prog 31 = none ∧ tarr Try.prog 31 = none ∧ tifc Try.prog 31 = some false ∧ pzero Try.prog 31 = some (.v (.nilFunc)) ∧ tbytes Try.prog 31 = some 8 ∧ tzero Try.prog 31 = some [.v (.nilFunc)] ∧ tsz Try.prog 32 = some 1 ∧ trow Try.prog 32 = some false ∧ tel Try.prog 32 = none ∧ tarr Try.prog 32 = none ∧ tifc Try.prog 32 = some false ∧ pzero Try.prog 32 = some (.v (.nilFunc)) ∧ tbytes Try.prog 32 = some 8 ∧ tzero Try.prog 32 = some [.v (.nilFunc)] ∧ tsz Try.prog 33 = some 1 ∧ trow Try.prog 33 = some false ∧ tel Try.prog 33 = none := by refine ⟨?_, ?_, ?_, ?_, ?_, ?_, ?_, ?_, ?_, ?_, ?_, ?_, ?_, ?_, ?_, ?_, ?_, ?_, ?_, ?_, ?_, ?_, ?_, ?_⟩ <;> kernel_rfl
@[simp] theorem tarr33 : tarr Try.prog 33 = none ∧ tifc Try.prog 33 = some false ∧ pzero Try.prog 33 = some (.v (.nilFunc)) ∧ tbytes Try.prog 33 = some 8 ∧ tzero Try.prog 33 = some [.v (.nilFunc)] ∧ tsz Try.prog 34 = some 1 ∧ trow Try.prog 34 = some false ∧ tel Try.prog 34 = some 85 ∧ tarr Try.prog 34 = none ∧ tifc Try.prog 34 = some false ∧ pzero Try.prog 34 = some (.nil) ∧ tbytes Try.prog 34 = some 24 ∧ tzero Try.prog 34 = some [.nil] ∧ tsz Try.prog 35 = some 1 ∧ trow Try.prog 35 = some false ∧ tel Try.prog 35 = some 93 ∧ tarr Try.prog 35 = none ∧ tifc Try.prog 35 = some false ∧ pzero Try.prog 35 = some (.nil) ∧ tbytes Try.prog 35 = some 24 ∧ tzero Try.prog 35 = some [.nil] ∧ tsz Try.prog 36 = some 4 ∧ trow Try.prog 36 = some true ∧ tel Try.prog 36 = none := by refine ⟨?_, ?_, ?_, ?_, ?_, ?_, ?_, ?_, ?_, ?_, ?_, ?_, ?_, ?_, ?_, ?_, ?_, ?_, ?_, ?_, ?_, ?_, ?_, ?_⟩ <;> kernel_rfl
@[simp] theorem tarr36 : tarr Try.prog 36 = none ∧ tifc Try.prog 36 = some false ∧ pzero Try.prog 36 = some (.agg [.nil, .nil, .nil, .v (.int .i64 0)]) ∧ tfld Try.prog 36 0 = some (0, 24) ∧ tfld Try.prog 36 1 = some (1, 34) ∧ tfld Try.prog 36 2 = some (2, 35) ∧ tfld Try.prog 36 3 = some (3, 3) ∧ tpl Try.prog 36 = some [(0, 1), (1, 1), (2, 1), (3, 1)] ∧ tbytes Try.prog 36 = some 80 ∧ tzero Try.prog 36 = some [.nil, .nil, .nil, .v (.int .i64 0)] ∧ tsz Try.prog 37 = some 4 ∧ trow Try.prog 37 = some true ∧ tel Try.prog 37 = none ∧ tarr Try.prog 37 = none ∧ tifc Try.prog 37 = some false ∧ pzero Try.prog 37 = some (.agg [.nil, .nil, .nil, .v (.int .i64 0)]) ∧ tfld Try.prog 37 0 = some (0, 24) ∧ tfld Try.prog 37 1 = some (1, 34) ∧ tfld Try.prog 37 2 = some (2, 35) ∧ tfld Try.prog 37 3 = some (3, 3) ∧ tpl Try.prog 37 = some [(0, 1), (1, 1), (2, 1), (3, 1)] ∧ tbytes Try.prog 37 = some 80 ∧ tzero Try.prog 37 = some [.nil, .nil, .nil, .v (.int .i64 0)] ∧ tsz Try.prog 38 = some 1 := by refine ⟨?_, ?_, ?_, ?_, ?_, ?_, ?_, ?_, ?_, ?_, ?_, ?_, ?_, ?_, ?_, ?_, ?_, ?_, ?_, ?_, ?_, ?_, ?_, ?_⟩ <;> kernel_rfl
@[simp] theorem trow38 : trow Try.prog 38 = some false ∧ tel Try.prog 38 = some 3 ∧ tarr Try.prog 38 = none ∧ tifc Try.prog 38 = some false ∧ pzero Try.prog 38 = some (.nil) ∧ tbytes Try.prog 38 = some 24 ∧ tzero Try.prog 38 = some [.nil] ∧ tsz Try.prog 39 = some 1 ∧ trow Try.prog 39 = some false ∧ tel Try.prog 39 = none ∧ tarr Try.prog 39 = none ∧ tifc Try.prog 39 = some false ∧ pzero Try.prog 39 = some (.v (.nilFunc)) ∧ tbytes Try.prog 39 = some 8 ∧ tzero Try.prog 39 = some [.v (.nilFunc)] ∧ tsz Try.prog 40 = some 1 ∧ trow Try.prog 40 = some false ∧ tel Try.prog 40 = none ∧ tarr Try.prog 40 = none ∧ tifc Try.prog 40 = some false ∧ pzero Try.prog 40 = some (.v (.nilFunc)) ∧ tbytes Try.prog 40 = some 8 ∧ tzero Try.prog 40 = some [.v (.nilFunc)] ∧ tsz Try.prog 41 = some 1 := by refine ⟨?_, ?_, ?_, ?_, ?_, ?_, ?_, ?_, ?_, ?_, ?_, ?_, ?_, ?_, ?_, ?_, ?_, ?_, ?_, ?_, ?_, ?_, ?_, ?_⟩ <;> kernel_rfl
@[simp] theorem trow41 : trow Try.prog 41 = some false ∧ tel Try.prog 41 = none ∧ tarr Try.prog 41 = none ∧ tifc Try.prog 41 = some false ∧ pzero Try.prog 41 = some (.v (.nilFunc)) ∧ tbytes Try.prog 41 = some 8 ∧ tzero Try.prog 41 = some [.v (.nilFunc)] ∧ tsz Try.prog 42 = some 5 ∧ trow Try.prog 42 = some true ∧ tel Try.prog 42 = none ∧ tarr Try.prog 42 = none ∧ tifc Try.prog 42 = some false ∧ pzero Try.prog 42 = some (.agg [.v (.int .i64 0), .v (.int .i64 0), .v (.int .i64 0), .v (.int .i64 0), .v (.int .i64 0)]) ∧ tfld Try.prog 42 0 = some (0, 3) ∧ tfld Try.prog 42 1 = some (1, 3) ∧ tfld Try.prog 42 2 = some (2, 3) ∧ tfld Try.prog 42 3 = some (3, 3) ∧ tfld Try.prog 42 4 = some (4, 3) ∧ tpl Try.prog 42 = some [(0, 1), (1, 1), (2, 1), (3, 1), (4, 1)] ∧ teqf Try.prog 42 = some [(0, 0), (1, 0), (2, 0), (3, 0), (4, 0)] ∧ tbytes Try.prog 42 = some 40 ∧ tzero Try.prog 42 = some [.v (.int .i64 0), .v (.int .i64 0), .v (.int .i64 0), .v (.int .i64 0), .v (.int .i64 0)] ∧ tsz Try.prog 43 = some 5 ∧ trow Try.prog 43 = some true := by refine ⟨?_, ?_, ?_, ?_, ?_, ?_, ?_, ?_, ?_, ?_, ?_, ?_, ?_, ?_, ?_, ?_, ?_, ?_, ?_, ?_, ?_, ?_, ?_, ?_⟩ <;> kernel_rfl
@[simp] theorem tel43 : tel Try.prog 43 = none ∧ tarr Try.prog 43 = none ∧ tifc Try.prog 43 = some false ∧ pzero Try.prog 43 = some (.agg [.v (.int .i64 0), .v (.int .i64 0), .v (.int .i64 0), .v (.int .i64 0), .v (.int .i64 0)]) ∧ tfld Try.prog 43 0 = some (0, 3) ∧ tfld Try.prog 43 1 = some (1, 3) ∧ tfld Try.prog 43 2 = some (2, 3) ∧ tfld Try.prog 43 3 = some (3, 3) ∧ tfld Try.prog 43 4 = some (4, 3) ∧ tpl Try.prog 43 = some [(0, 1), (1, 1), (2, 1), (3, 1), (4, 1)] ∧ teqf Try.prog 43 = some [(0, 0), (1, 0), (2, 0), (3, 0), (4, 0)] ∧ tbytes Try.prog 43 = some 40 ∧ tzero Try.prog 43 = some [.v (.int .i64 0), .v (.int .i64 0), .v (.int .i64 0), .v (.int .i64 0), .v (.int .i64 0)] ∧ tsz Try.prog 45 = some 1 ∧ trow Try.prog 45 = some false ∧ tel Try.prog 45 = none ∧ tarr Try.prog 45 = none ∧ tifc Try.prog 45 = some false ∧ pzero Try.prog 45 = some (.v (.nilFunc)) ∧ tbytes Try.prog 45 = some 8 ∧ tzero Try.prog 45 = some [.v (.nilFunc)] ∧ tsz Try.prog 46 = some 1 ∧ trow Try.prog 46 = some false ∧ tel Try.prog 46 = none := by refine ⟨?_, ?_, ?_, ?_, ?_, ?_, ?_, ?_, ?_, ?_, ?_, ?_, ?_, ?_, ?_, ?_, ?_, ?_, ?_, ?_, ?_, ?_, ?_, ?_⟩ <;> kernel_rfl
@[simp] theorem tarr46 : tarr Try.prog 46 = none ∧ tifc Try.prog 46 = some false ∧ pzero Try.prog 46 = some (.v (.nilFunc)) ∧ tbytes Try.prog 46 = some 8 ∧ tzero Try.prog 46 = some [.v (.nilFunc)] ∧ tsz Try.prog 47 = some 1 ∧ trow Try.prog 47 = some false ∧ tel Try.prog 47 = none ∧ tarr Try.prog 47 = none ∧ tifc Try.prog 47 = some false ∧ pzero Try.prog 47 = some (.v (.nilFunc)) ∧ tbytes Try.prog 47 = some 8 ∧ tzero Try.prog 47 = some [.v (.nilFunc)] ∧ tsz Try.prog 48 = some 1 ∧ trow Try.prog 48 = some false ∧ tel Try.prog 48 = none ∧ tarr Try.prog 48 = none ∧ tifc Try.prog 48 = some false ∧ pzero Try.prog 48 = some (.v (.nilFunc)) ∧ tbytes Try.prog 48 = some 8 ∧ tzero Try.prog 48 = some [.v (.nilFunc)] ∧ tsz Try.prog 50 = some 1 ∧ trow Try.prog 50 = some false ∧ tel Try.prog 50 = none := by refine ⟨?_, ?_, ?_, ?_, ?_, ?_, ?_, ?_, ?_, ?_, ?_, ?_, ?_, ?_, ?_, ?_, ?_, ?_, ?_, ?_, ?_, ?_, ?_, ?_⟩ <;> kernel_rfl
@[simp] theorem tarr50 : tarr Try.prog 50 = none ∧ tifc Try.prog 50 = some false ∧ pzero Try.prog 50 = some (.v (.nilFunc)) ∧ tbytes Try.prog 50 = some 8 ∧ tzero Try.prog 50 = some [.v (.nilFunc)] ∧ tsz Try.prog 52 = some 1 ∧ trow Try.prog 52 = some false ∧ tel Try.prog 52 = none ∧ tarr Try.prog 52 = none ∧ tifc Try.prog 52 = some false ∧ pzero Try.prog 52 = some (.v (.nilFunc)) ∧ tbytes Try.prog 52 = some 8 ∧ tzero Try.prog 52 = some [.v (.nilFunc)] ∧ tsz Try.prog 53 = some 2 ∧ trow Try.prog 53 = some true ∧ tel Try.prog 53 = none ∧ tarr Try.prog 53 = none ∧ tifc Try.prog 53 = some false ∧ pzero Try.prog 53 = some (.agg [.v (.int .i64 0), .v (.int .i64 0)]) ∧ tfld Try.prog 53 0 = some (0, 3) ∧ tfld Try.prog 53 1 = some (1, 3) ∧ tpl Try.prog 53 = some [(0, 1), (1, 1)] ∧ teqf Try.prog 53 = some [(0, 0), (1, 0)] ∧ tbytes Try.prog 53 = some 16 := by refine ⟨?_, ?_, ?_, ?_, ?_, ?_, ?_, ?_, ?_, ?_, ?_, ?_, ?_, ?_, ?_, ?_, ?_, ?_, ?_, ?_, ?_, ?_, ?_, ?_⟩ <;> kernel_rfl
@[simp] theorem tzero53 : tzero Try.prog 53 = some [.v (.int .i64 0), .v (.int .i64 0)] ∧ tsz Try.prog 54 = some 2 ∧ trow Try.prog 54 = some true ∧ tel Try.prog 54 = none ∧ tarr Try.prog 54 = none ∧ tifc Try.prog 54 = some false ∧ pzero Try.prog 54 = some (.agg [.v (.int .i64 0), .v (.int .i64 0)]) ∧ tfld Try.prog 54 0 = some (0, 3) ∧ tfld Try.prog 54 1 = some (1, 3) ∧ tpl Try.prog 54 = some [(0, 1), (1, 1)] ∧ teqf Try.prog 54 = some [(0, 0), (1, 0)] ∧ tbytes Try.prog 54 = some 16 ∧ tzero Try.prog 54 = some [.v (.int .i64 0), .v (.int .i64 0)] ∧ tsz Try.prog 55 = some 1 ∧ trow Try.prog 55 = some false ∧ tel Try.prog 55 = none ∧ tarr Try.prog 55 = none ∧ tifc Try.prog 55 = some false ∧ pzero Try.prog 55 = some (.v (.nilFunc)) ∧ tbytes Try.prog 55 = some 8 ∧ tzero Try.prog 55 = some [.v (.nilFunc)] ∧ tsz Try.prog 56 = some 1 ∧ trow Try.prog 56 = some false ∧ tel Try.prog 56 = none := by refine ⟨?_, ?_, ?_, ?_, ?_, ?_, ?_, ?_, ?_, ?_, ?_, ?_, ?_, ?_, ?_, ?_, ?_, ?_, ?_, ?_, ?_, ?_, ?_, ?_⟩ <;> kernel_rfl
@[simp] theorem tarr56 : tarr Try.prog 56 = none ∧ tifc Try.prog 56 = some false ∧ pzero Try.prog 56 = some (.v (.nilFunc)) ∧ tbytes Try.prog 56 = some 8 ∧ tzero Try.prog 56 = some [.v (.nilFunc)] ∧ tsz Try.prog 57 = some 1 ∧ trow Try.prog 57 = some false ∧ tel Try.prog 57 = some 127 ∧ tarr Try.prog 57 = none ∧ tifc Try.prog 57 = some false ∧ pzero Try.prog 57 = some (.nil) ∧ tbytes Try.prog 57 = some 24 ∧ tzero Try.prog 57 = some [.nil] ∧ tsz Try.prog 58 = some 1 ∧ trow Try.prog 58 = some false ∧ tel Try.prog 58 = some 74 ∧ tarr Try.prog 58 = none ∧ tifc Try.prog 58 = some false ∧ pzero Try.prog 58 = some (.nil) ∧ tbytes Try.prog 58 = some 24 ∧ tzero Try.prog 58 = some [.nil] ∧ tsz Try.prog 59 = some 2 ∧ trow Try.prog 59 = some true ∧ tel Try.prog 59 = none := by refine ⟨?_, ?_, ?_, ?_, ?_, ?_, ?_, ?_, ?_, ?_, ?_, ?_, ?_, ?_, ?_, ?_, ?_, ?_, ?_, ?_, ?_, ?_, ?_, ?_⟩ <;> kernel_rfl
@[simp] theorem tarr59 : tarr Try.prog 59 = none ∧ tifc Try.prog 59 = some false ∧ pzero Try.prog 59 = some (.agg [.v (.int .i64 0), .v (.int .i64 0)]) ∧ tfld Try.prog 59 0 = some (0, 3) ∧ tfld Try.prog 59 1 = some (1, 3) ∧ tpl Try.prog 59 = some [(0, 1), (1, 1)] ∧ teqf Try.prog 59 = some [(0, 0), (1, 0)] ∧ tbytes Try.prog 59 = some 16 ∧ tzero Try.prog 59 = some [.v (.int .i64 0), .v (.int .i64 0)] ∧ tsz Try.prog 60 = some 2 ∧ trow Try.prog 60 = some true ∧ tel Try.prog 60 = none ∧ tarr Try.prog 60 = none ∧ tifc Try.prog 60 = some false ∧ pzero Try.prog 60 = some (.agg [.v (.int .i64 0), .v (.int .i64 0)]) ∧ tfld Try.prog 60 0 = some (0, 3) ∧ tfld Try.prog 60 1 = some (1, 3) ∧ tpl Try.prog 60 = some [(0, 1), (1, 1)] ∧ teqf Try.prog 60 = some [(0, 0), (1, 0)] ∧ tbytes Try.prog 60 = some 16 ∧ tzero Try.prog 60 = some [.v (.int .i64 0), .v (.int .i64 0)] ∧ tsz Try.prog 61 = some 1 ∧ trow Try.prog 61 = some false ∧ tel Try.prog 61 = none := by refine ⟨?_, ?_, ?_, ?_, ?_, ?_, ?_, ?_, ?_, ?_, ?_, ?_, ?_, ?_, ?_, ?_, ?_, ?_, ?_, ?_, ?_, ?_, ?_, ?_⟩ <;> kernel_rfl
@[simp] theorem tarr61 : tarr Try.prog 61 = none ∧ tifc Try.prog 61 = some false ∧ pzero Try.prog 61 = some (.v (.nilFunc)) ∧ tbytes Try.prog 61 = some 8 ∧ tzero Try.prog 61 = some [.v (.nilFunc)] ∧ tsz Try.prog 63 = some 1 ∧ trow Try.prog 63 = some false ∧ tel Try.prog 63 = none ∧ tarr Try.prog 63 = none ∧ tifc Try.prog 63 = some false ∧ pzero Try.prog 63 = some (.v (.nilFunc)) ∧ tbytes Try.prog 63 = some 8 ∧ tzero Try.prog 63 = some [.v (.nilFunc)] ∧ tsz Try.prog 64 = some 1 ∧ trow Try.prog 64 = some false ∧ tel Try.prog 64 = none ∧ tarr Try.prog 64 = none ∧ tifc Try.prog 64 = some false ∧ pzero Try.prog 64 = some (.v (.nilFunc)) ∧ tbytes Try.prog 64 = some 8 ∧ tzero Try.prog 64 = some [.v (.nilFunc)] ∧ tsz Try.prog 66 = some 1 ∧ trow Try.prog 66 = some false ∧ tel Try.prog 66 = none := by refine ⟨?_, ?_, ?_, ?_, ?_, ?_, ?_, ?_, ?_, ?_, ?_, ?_, ?_, ?_, ?_, ?_, ?_, ?_, ?_, ?_, ?_, ?_, ?_, ?_⟩ <;> kernel_rfl
@[simp] theorem tarr66 : tarr Try.prog 66 = none ∧ tifc Try.prog 66 = some false ∧ pzero Try.prog 66 = some (.v (.nilFunc)) ∧ tbytes Try.prog 66 = some 8 ∧ tzero Try.prog 66 = some [.v (.nilFunc)] ∧ tsz Try.prog 67 = some 1 ∧ trow Try.prog 67 = some false ∧ tel Try.prog 67 = some 60 ∧ tarr Try.prog 67 = none ∧ tifc Try.prog 67 = some false ∧ pzero Try.prog 67 = some (.nil) ∧ tbytes Try.prog 67 = some 24 ∧ tzero Try.prog 67 = some [.nil] ∧ tsz Try.prog 69 = some 1 ∧ trow Try.prog 69 = some false ∧ tel Try.prog 69 = none ∧ tarr Try.prog 69 = none ∧ tifc Try.prog 69 = some false ∧ pzero Try.prog 69 = some (.v (.nilFunc)) ∧ tbytes Try.prog 69 = some 8 ∧ tzero Try.prog 69 = some [.v (.nilFunc)] ∧ tsz Try.prog 70 = some 1 ∧ trow Try.prog 70 = some false ∧ tel Try.prog 70 = none := by refine ⟨?_, ?_, ?_, ?_, ?_, ?_, ?_, ?_, ?_, ?_, ?_, ?_, ?_, ?_, ?_, ?_, ?_, ?_, ?_, ?_, ?_, ?_, ?_, ?_⟩ <;> kernel_rfl
@[simp] theorem tarr70 : tarr Try.prog 70 = none ∧ tifc Try.prog 70 = some false ∧ pzero Try.prog 70 = some (.v (.nilFunc)) ∧ tbytes Try.prog 70 = some 8 ∧ tzero Try.prog 70 = some [.v (.nilFunc)] ∧ tsz Try.prog 71 = some 1 ∧ trow Try.prog 71 = some false ∧ tel Try.prog 71 = none ∧ tarr Try.prog 71 = none ∧ tifc Try.prog 71 = some false ∧ pzero Try.prog 71 = some (.v (.nilFunc)) ∧ tbytes Try.prog 71 = some 8 ∧ tzero Try.prog 71 = some [.v (.nilFunc)] ∧ tsz Try.prog 72 = some 1 ∧ trow Try.prog 72 = some false ∧ tel Try.prog 72 = none ∧ tarr Try.prog 72 = none ∧ tifc Try.prog 72 = some false ∧ pzero Try.prog 72 = some (.v (.nilFunc)) ∧ tbytes Try.prog 72 = some 8 ∧ tzero Try.prog 72 = some [.v (.nilFunc)] ∧ tsz Try.prog 73 = some 4 ∧ trow Try.prog 73 = some true ∧ tel Try.prog 73 = none := by refine ⟨?_, ?_, ?_, ?_, ?_, ?_, ?_, ?_, ?_, ?_, ?_, ?_, ?_, ?_, ?_, ?_, ?_, ?_, ?_, ?_, ?_, ?_, ?_, ?_⟩ <;> kernel_rfl
@[simp] theorem tarr73 : tarr Try.prog 73 = none ∧ tifc Try.prog 73 = some false ∧ pzero Try.prog 73 = some (.agg [.v (.int .i64 0), .v (.int .i64 0), .v (.int .i64 0), .v (.int .i64 0)]) ∧ tfld Try.prog 73 0 = some (0, 3) ∧ tfld Try.prog 73 1 = some (1, 3) ∧ tfld Try.prog 73 2 = some (2, 60) ∧ tpl Try.prog 73 = some [(0, 1), (1, 1), (2, 2)] ∧ tbytes Try.prog 73 = some 32 ∧ tzero Try.prog 73 = some [.v (.int .i64 0), .v (.int .i64 0), .v (.int .i64 0), .v (.int .i64 0)] ∧ tsz Try.prog 74 = some 4 ∧ trow Try.prog 74 = some true ∧ tel Try.prog 74 = none ∧ tarr Try.prog 74 = none ∧ tifc Try.prog 74 = some false ∧ pzero Try.prog 74 = some (.agg [.v (.int .i64 0), .v (.int .i64 0), .v (.int .i64 0), .v (.int .i64 0)]) ∧ tfld Try.prog 74 0 = some (0, 3) ∧ tfld Try.prog 74 1 = some (1, 3) ∧ tfld Try.prog 74 2 = some (2, 60) ∧ tpl Try.prog 74 = some [(0, 1), (1, 1), (2, 2)] ∧ tbytes Try.prog 74 = some 32 ∧ tzero Try.prog 74 = some [.v (.int .i64 0), .v (.int .i64 0), .v (.int .i64 0), .v (.int .i64 0)] ∧ tsz Try.prog 75 = some 1 ∧ trow Try.prog 75 = some false ∧ tel Try.prog 75 = none := by refine ⟨?_, ?_, ?_, ?_, ?_, ?_, ?_, ?_, ?_, ?_, ?_, ?_, ?_, ?_, ?_, ?_, ?_, ?_, ?_, ?_, ?_, ?_, ?_, ?_⟩ <;> kernel_rfl
@[simp] theorem tarr75 : tarr Try.prog 75 = none ∧ tifc Try.prog 75 = some false ∧ pzero Try.prog 75 = some (.v (.nilFunc)) ∧ tbytes Try.prog 75 = some 8 ∧ tzero Try.prog 75 = some [.v (.nilFunc)] ∧ tsz Try.prog 76 = some 1 ∧ trow Try.prog 76 = some false ∧ tel Try.prog 76 = none ∧ tarr Try.prog 76 = none ∧ tifc Try.prog 76 = some false ∧ pzero Try.prog 76 = some (.v (.nilFunc)) ∧ tbytes Try.prog 76 = some 8 ∧ tzero Try.prog 76 = some [.v (.nilFunc)] ∧ tsz Try.prog 78 = some 1 ∧ trow Try.prog 78 = some false ∧ tel Try.prog 78 = none ∧ tarr Try.prog 78 = none ∧ tifc Try.prog 78 = some false ∧ pzero Try.prog 78 = some (.v (.nilFunc)) ∧ tbytes Try.prog 78 = some 8 ∧ tzero Try.prog 78 = some [.v (.nilFunc)] ∧ tsz Try.prog 79 = some 1 ∧ trow Try.prog 79 = some false ∧ tel Try.prog 79 = none := by refine ⟨?_, ?_, ?_, ?_, ?_, ?_, ?_, ?_, ?_, ?_, ?_, ?_, ?_, ?_, ?_, ?_, ?_, ?_, ?_, ?_, ?_, ?_, ?_, ?_⟩ <;> kernel_rfl
@[simp] theorem tarr79 : tarr Try.prog 79 = none ∧ tifc Try.prog 79 = some false ∧ pzero Try.prog 79 = some (.v (.nilFunc)) ∧ tbytes Try.prog 79 = some 8 ∧ tzero Try.prog 79 = some [.v (.nilFunc)] ∧ tsz Try.prog 80 = some 1 ∧ trow Try.prog 80 = some false ∧ tel Try.prog 80 = none ∧ tarr Try.prog 80 = none ∧ tifc Try.prog 80 = some false ∧ pzero Try.prog 80 = some (.v (.nilFunc)) ∧ tbytes Try.prog 80 = some 8 ∧ tzero Try.prog 80 = some [.v (.nilFunc)] ∧ tsz Try.prog 81 = some 8 ∧ trow Try.prog 81 = some true ∧ tel Try.prog 81 = none ∧ tarr Try.prog 81 = none ∧ tifc Try.prog 81 = some false ∧ pzero Try.prog 81 = some (.agg [.v (.int .i64 0), .v (.int .i64 0), .v (.int .i64 0), .v (.int .i64 0), .v (.int .i64 0), .nil, .v (.int .i64 0), .nil]) ∧ tfld Try.prog 81 0 = some (0, 43) ∧ tfld Try.prog 81 1 = some (5, 24) ∧ tfld Try.prog 81 2 = some (6, 3) ∧ tfld Try.prog 81 3 = some (7, 38) ∧ tpl Try.prog 81 = some [(0, 5), (5, 1), (6, 1), (7, 1)] := by refine ⟨?_, ?_, ?_, ?_, ?_, ?_, ?_, ?_, ?_, ?_, ?_, ?_, ?_, ?_, ?_, ?_, ?_, ?_, ?_, ?_, ?_, ?_, ?_, ?_⟩ <;> kernel_rfl
@[simp] theorem tbytes81 : tbytes Try.prog 81 = some 96 ∧ tzero Try.prog 81 = some [.v (.int .i64 0), .v (.int .i64 0), .v (.int .i64 0), .v (.int .i64 0), .v (.int .i64 0), .nil, .v (.int .i64 0), .nil] ∧ tsz Try.prog 82 = some 8 ∧ trow Try.prog 82 = some true ∧ tel Try.prog 82 = none ∧ tarr Try.prog 82 = none ∧ tifc Try.prog 82 = some false ∧ pzero Try.prog 82 = some (.agg [.v (.int .i64 0), .v (.int .i64 0), .v (.int .i64 0), .v (.int .i64 0), .v (.int .i64 0), .nil, .v (.int .i64 0), .nil]) ∧ tfld Try.prog 82 0 = some (0, 43) ∧ tfld Try.prog 82 1 = some (5, 24) ∧ tfld Try.prog 82 2 = some (6, 3) ∧ tfld Try.prog 82 3 = some (7, 38) ∧ tpl Try.prog 82 = some [(0, 5), (5, 1), (6, 1), (7, 1)] ∧ tbytes Try.prog 82 = some 96 ∧ tzero Try.prog 82 = some [.v (.int .i64 0), .v (.int .i64 0), .v (.int .i64 0), .v (.int .i64 0), .v (.int .i64 0), .nil, .v (.int .i64 0), .nil] ∧ tsz Try.prog 83 = some 1 ∧ trow Try.prog 83 = some false ∧ tel Try.prog 83 = none ∧ tarr Try.prog 83 = none ∧ tifc Try.prog 83 = some false ∧ pzero Try.prog 83 = some (.v (.nilFunc)) ∧ tbytes Try.prog 83 = some 8 ∧ tzero Try.prog 83 = some [.v (.nilFunc)] ∧ tsz Try.prog 84 = some 3 := by refine ⟨?_, ?_, ?_, ?_, ?_, ?_, ?_, ?_, ?_, ?_, ?_, ?_, ?_, ?_, ?_, ?_, ?_, ?_, ?_, ?_, ?_, ?_, ?_, ?_⟩ <;> kernel_rfl
@[simp] theorem trow84 : trow Try.prog 84 = some true ∧ tel Try.prog 84 = none ∧ tarr Try.prog 84 = none ∧ tifc Try.prog 84 = some false ∧ pzero Try.prog 84 = some (.agg [.v (.int .i64 0), .v (.int .i64 0), .v (.int .i64 0)]) ∧ tfld Try.prog 84 0 = some (0, 3) ∧ tfld Try.prog 84 1 = some (1, 60) ∧ tpl Try.prog 84 = some [(0, 1), (1, 2)] ∧ tbytes Try.prog 84 = some 24 ∧ tzero Try.prog 84 = some [.v (.int .i64 0), .v (.int .i64 0), .v (.int .i64 0)] ∧ tsz Try.prog 85 = some 3 ∧ trow Try.prog 85 = some true ∧ tel Try.prog 85 = none ∧ tarr Try.prog 85 = none ∧ tifc Try.prog 85 = some false ∧ pzero Try.prog 85 = some (.agg [.v (.int .i64 0), .v (.int .i64 0), .v (.int .i64 0)]) ∧ tfld Try.prog 85 0 = some (0, 3) ∧ tfld Try.prog 85 1 = some (1, 60) ∧ tpl Try.prog 85 = some [(0, 1), (1, 2)] ∧ tbytes Try.prog 85 = some 24 ∧ tzero Try.prog 85 = some [.v (.int .i64 0), .v (.int .i64 0), .v (.int .i64 0)] ∧ tsz Try.prog 86 = some 1 ∧ trow Try.prog 86 = some false ∧ tel Try.prog 86 = none := by refine ⟨?_, ?_, ?_, ?_, ?_, ?_, ?_, ?_, ?_, ?_, ?_, ?_, ?_, ?_, ?_, ?_, ?_, ?_, ?_, ?_, ?_, ?_, ?_, ?_⟩ <;> kernel_rfl
@[simp] theorem tarr86 : tarr Try.prog 86 = none ∧ tifc Try.prog 86 = some false ∧ pzero Try.prog 86 = some (.v (.int .i64 0)) ∧ tint Try.prog 86 = some .i64 ∧ tbytes Try.prog 86 = some 8 ∧ tzero Try.prog 86 = some [.v (.int .i64 0)] ∧ tsz Try.prog 87 = some 2 ∧ trow Try.prog 87 = some true ∧ tel Try.prog 87 = none ∧ tarr Try.prog 87 = none ∧ tifc Try.prog 87 = some false ∧ pzero Try.prog 87 = some (.agg [.v (.int .i64 0), .v (.int .i64 0)]) ∧ tfld Try.prog 87 0 = some (0, 86) ∧ tfld Try.prog 87 1 = some (1, 3) ∧ tpl Try.prog 87 = some [(0, 1), (1, 1)] ∧ teqf Try.prog 87 = some [(0, 0), (1, 0)] ∧ tbytes Try.prog 87 = some 16 ∧ tzero Try.prog 87 = some [.v (.int .i64 0), .v (.int .i64 0)] ∧ tsz Try.prog 88 = some 2 ∧ trow Try.prog 88 = some true ∧ tel Try.prog 88 = none ∧ tarr Try.prog 88 = none ∧ tifc Try.prog 88 = some false ∧ pzero Try.prog 88 = some (.agg [.v (.int .i64 0), .v (.int .i64 0)]) := by refine ⟨?_, ?_, ?_, ?_, ?_, ?_, ?_, ?_, ?_, ?_, ?_, ?_, ?_, ?_, ?_, ?_, ?_, ?_, ?_, ?_, ?_, ?_, ?_, ?_⟩ <;> kernel_rfl
@[simp] theorem tfld88x0 : tfld Try.prog 88 0 = some (0, 86) ∧ tfld Try.prog 88 1 = some (1, 3) ∧ tpl Try.prog 88 = some [(0, 1), (1, 1)] ∧ teqf Try.prog 88 = some [(0, 0), (1, 0)] ∧ tbytes Try.prog 88 = some 16 ∧ tzero Try.prog 88 = some [.v (.int .i64 0), .v (.int .i64 0)] ∧ tsz Try.prog 90 = some 1 ∧ trow Try.prog 90 = some false ∧ tel Try.prog 90 = none ∧ tarr Try.prog 90 = none ∧ tifc Try.prog 90 = some false ∧ pzero Try.prog 90 = some (.v (.nilFunc)) ∧ tbytes Try.prog 90 = some 8 ∧ tzero Try.prog 90 = some [.v (.nilFunc)] ∧ tsz Try.prog 91 = some 1 ∧ trow Try.prog 91 = some false ∧ tel Try.prog 91 = none ∧ tarr Try.prog 91 = none ∧ tifc Try.prog 91 = some false ∧ pzero Try.prog 91 = some (.v (.nilFunc)) ∧ tbytes Try.prog 91 = some 8 ∧ tzero Try.prog 91 = some [.v (.nilFunc)] ∧ tsz Try.prog 92 = some 5 ∧ trow Try.prog 92 = some true := by refine ⟨?_, ?_, ?_, ?_, ?_, ?_, ?_, ?_, ?_, ?_, ?_, ?_, ?_, ?_, ?_, ?_, ?_, ?_, ?_, ?_, ?_, ?_, ?_, ?_⟩ <;> kernel_rfl
@[simp] theorem tel92 : tel Try.prog 92 = none ∧ tarr Try.prog 92 = none ∧ tifc Try.prog 92 = some false ∧ pzero Try.prog 92 = some (.agg [.v (.int .i64 0), .v (.int .i64 0), .v (.int .i64 0), .v (.int .i64 0), .v (.int .i64 0)]) ∧ tfld Try.prog 92 0 = some (0, 3) ∧ tfld Try.prog 92 1 = some (1, 3) ∧ tfld Try.prog 92 2 = some (2, 3) ∧ tfld Try.prog 92 3 = some (3, 3) ∧ tfld Try.prog 92 4 = some (4, 3) ∧ tpl Try.prog 92 = some [(0, 1), (1, 1), (2, 1), (3, 1), (4, 1)] ∧ teqf Try.prog 92 = some [(0, 0), (1, 0), (2, 0), (3, 0), (4, 0)] ∧ tbytes Try.prog 92 = some 40 ∧ tzero Try.prog 92 = some [.v (.int .i64 0), .v (.int .i64 0), .v (.int .i64 0), .v (.int .i64 0), .v (.int .i64 0)] ∧ tsz Try.prog 93 = some 5 ∧ trow Try.prog 93 = some true ∧ tel Try.prog 93 = none ∧ tarr Try.prog 93 = none ∧ tifc Try.prog 93 = some false ∧ pzero Try.prog 93 = some (.agg [.v (.int .i64 0), .v (.int .i64 0), .v (.int .i64 0), .v (.int .i64 0), .v (.int .i64 0)]) ∧ tfld Try.prog 93 0 = some (0, 3) ∧ tfld Try.prog 93 1 = some (1, 3) ∧ tfld Try.prog 93 2 = some (2, 3) ∧ tfld Try.prog 93 3 = some (3, 3) ∧ tfld Try.prog 93 4 = some (4, 3) := by refine ⟨?_, ?_, ?_, ?_, ?_, ?_, ?_, ?_, ?_, ?_, ?_, ?_, ?_, ?_, ?_, ?_, ?_, ?_, ?_, ?_, ?_, ?_, ?_, ?_⟩ <;> kernel_rfl
@[simp] theorem tpl93 : tpl Try.prog 93 = some [(0, 1), (1, 1), (2, 1), (3, 1), (4, 1)] ∧ teqf Try.prog 93 = some [(0, 0), (1, 0), (2, 0), (3, 0), (4, 0)] ∧ tbytes Try.prog 93 = some 40 ∧ tzero Try.prog 93 = some [.v (.int .i64 0), .v (.int .i64 0), .v (.int .i64 0), .v (.int .i64 0), .v (.int .i64 0)] ∧ tsz Try.prog 94 = some 1 ∧ trow Try.prog 94 = some false ∧ tel Try.prog 94 = none ∧ tarr Try.prog 94 = none ∧ tifc Try.prog 94 = some false ∧ pzero Try.prog 94 = some (.v (.nilFunc)) ∧ tbytes Try.prog 94 = some 8 ∧ tzero Try.prog 94 = some [.v (.nilFunc)] ∧ tsz Try.prog 96 = some 1 ∧ trow Try.prog 96 = some false ∧ tel Try.prog 96 = none ∧ tarr Try.prog 96 = none ∧ tifc Try.prog 96 = some false ∧ pzero Try.prog 96 = some (.v (.nilFunc)) ∧ tbytes Try.prog 96 = some 8 ∧ tzero Try.prog 96 = some [.v (.nilFunc)] ∧ tsz Try.prog 97 = some 1 ∧ trow Try.prog 97 = some false ∧ tel Try.prog 97 = none ∧ tarr Try.prog 97 = none := by refine ⟨?_, ?_, ?_, ?_, ?_, ?_, ?_, ?_, ?_, ?_, ?_, ?_, ?_, ?_, ?_, ?_, ?_, ?_, ?_, ?_, ?_, ?_, ?_, ?_⟩ <;> kernel_rfl
@[simp] theorem tifc97 : tifc Try.prog 97 = some false ∧ pzero Try.prog 97 = some (.v (.nilFunc)) ∧ tbytes Try.prog 97 = some 8 ∧ tzero Try.prog 97 = some [.v (.nilFunc)] ∧ tsz Try.prog 98 = some 1 ∧ trow Try.prog 98 = some false ∧ tel Try.prog 98 = none ∧ tarr Try.prog 98 = none ∧ tifc Try.prog 98 = some false ∧ pzero Try.prog 98 = some (.v (.nilFunc)) ∧ tbytes Try.prog 98 = some 8 ∧ tzero Try.prog 98 = some [.v (.nilFunc)] ∧ tsz Try.prog 99 = some 1 ∧ trow Try.prog 99 = some false ∧ tel Try.prog 99 = none ∧ tarr Try.prog 99 = none ∧ tifc Try.prog 99 = some false ∧ pzero Try.prog 99 = some (.v (.nilFunc)) ∧ tbytes Try.prog 99 = some 8 ∧ tzero Try.prog 99 = some [.v (.nilFunc)] ∧ tsz Try.prog 100 = some 1 ∧ trow Try.prog 100 = some false ∧ tel Try.prog 100 = none ∧ tarr Try.prog 100 = none := by refine ⟨?_, ?_, ?_, ?_, ?_, ?_, ?_, ?_, ?_, ?_, ?_, ?_, ?_, ?_, ?_, ?_, ?_, ?_, ?_, ?_, ?_, ?_, ?_, ?_⟩ <;> kernel_rfl
@[simp] theorem tifc100 : tifc Try.prog 100 = some false ∧ pzero Try.prog 100 = some (.v (.nilFunc)) ∧ tbytes Try.prog 100 = some 8 ∧ tzero Try.prog 100 = some [.v (.nilFunc)] ∧ tsz Try.prog 102 = some 1 ∧ trow Try.prog 102 = some false ∧ tel Try.prog 102 = none ∧ tarr Try.prog 102 = none ∧ tifc Try.prog 102 = some false ∧ pzero Try.prog 102 = some (.v (.nilFunc)) ∧ tbytes Try.prog 102 = some 8 ∧ tzero Try.prog 102 = some [.v (.nilFunc)] ∧ tsz Try.prog 104 = some 1 ∧ trow Try.prog 104 = some false ∧ tel Try.prog 104 = none ∧ tarr Try.prog 104 = none ∧ tifc Try.prog 104 = some false ∧ pzero Try.prog 104 = some (.v (.nilFunc)) ∧ tbytes Try.prog 104 = some 8 ∧ tzero Try.prog 104 = some [.v (.nilFunc)] ∧ tsz Try.prog 106 = some 1 ∧ trow Try.prog 106 = some false ∧ tel Try.prog 106 = none ∧ tarr Try.prog 106 = none := by refine ⟨?_, ?_, ?_, ?_, ?_, ?_, ?_, ?_, ?_, ?_, ?_, ?_, ?_, ?_, ?_, ?_, ?_, ?_, ?_, ?_, ?_, ?_, ?_, ?_⟩ <;> kernel_rfl
@[simp] theorem tifc106 : tifc Try.prog 106 = some false ∧ pzero Try.prog 106 = some (.v (.nilFunc)) ∧ tbytes Try.prog 106 = some 8 ∧ tzero Try.prog 106 = some [.v (.nilFunc)] ∧ tsz Try.prog 107 = some 1 ∧ trow Try.prog 107 = some false ∧ tel Try.prog 107 = none ∧ tarr Try.prog 107 = none ∧ tifc Try.prog 107 = some false ∧ pzero Try.prog 107 = some (.v (.nilFunc)) ∧ tbytes Try.prog 107 = some 8 ∧ tzero Try.prog 107 = some [.v (.nilFunc)] ∧ tsz Try.prog 108 = some 1 ∧ trow Try.prog 108 = some false ∧ tel Try.prog 108 = none ∧ tarr Try.prog 108 = none ∧ tifc Try.prog 108 = some false ∧ pzero Try.prog 108 = some (.v (.nilFunc)) ∧ tbytes Try.prog 108 = some 8 ∧ tzero Try.prog 108 = some [.v (.nilFunc)] ∧ tsz Try.prog 109 = some 1 ∧ trow Try.prog 109 = some false ∧ tel Try.prog 109 = none ∧ tarr Try.prog 109 = none := by refine ⟨?_, ?_, ?_, ?_, ?_, ?_, ?_, ?_, ?_, ?_, ?_, ?_, ?_, ?_, ?_, ?_, ?_, ?_, ?_, ?_, ?_, ?_, ?_, ?_⟩ <;> kernel_rfl
@[simp] theorem tifc109 : tifc Try.prog 109 = some false ∧ pzero Try.prog 109 = some (.v (.nilFunc)) ∧ tbytes Try.prog 109 = some 8 ∧ tzero Try.prog 109 = some [.v (.nilFunc)] ∧ tsz Try.prog 110 = some 1 ∧ trow Try.prog 110 = some false ∧ tel Try.prog 110 = none ∧ tarr Try.prog 110 = none ∧ tifc Try.prog 110 = some false ∧ pzero Try.prog 110 = some (.v (.nilFunc)) ∧ tbytes Try.prog 110 = some 8 ∧ tzero Try.prog 110 = some [.v (.nilFunc)] ∧ tsz Try.prog 111 = some 1 ∧ trow Try.prog 111 = some false ∧ tel Try.prog 111 = none ∧ tarr Try.prog 111 = none ∧ tifc Try.prog 111 = some false ∧ pzero Try.prog 111 = some (.v (.nilFunc)) ∧ tbytes Try.prog 111 = some 8 ∧ tzero Try.prog 111 = some [.v (.nilFunc)] ∧ tsz Try.prog 112 = some 1 ∧ trow Try.prog 112 = some false ∧ tel Try.prog 112 = none ∧ tarr Try.prog 112 = none := by refine ⟨?_, ?_, ?_, ?_, ?_, ?_, ?_, ?_, ?_, ?_, ?_, ?_, ?_, ?_, ?_, ?_, ?_, ?_, ?_, ?_, ?_, ?_, ?_, ?_⟩ <;> kernel_rfl
@[simp] theorem tifc112 : tifc Try.prog 112 = some false ∧ pzero Try.prog 112 = some (.v (.nilFunc)) ∧ tbytes Try.prog 112 = some 8 ∧ tzero Try.prog 112 = some [.v (.nilFunc)] ∧ tsz Try.prog 114 = some 1 ∧ trow Try.prog 114 = some false ∧ tel Try.prog 114 = none ∧ tarr Try.prog 114 = none ∧ tifc Try.prog 114 = some false ∧ pzero Try.prog 114 = some (.v (.nilFunc)) ∧ tbytes Try.prog 114 = some 8 ∧ tzero Try.prog 114 = some [.v (.nilFunc)] ∧ tsz Try.prog 115 = some 1 ∧ trow Try.prog 115 = some false ∧ tel Try.prog 115 = none ∧ tarr Try.prog 115 = none ∧ tifc Try.prog 115 = some false ∧ pzero Try.prog 115 = some (.v (.nilFunc)) ∧ tbytes Try.prog 115 = some 8 ∧ tzero Try.prog 115 = some [.v (.nilFunc)] ∧ tsz Try.prog 116 = some 1 ∧ trow Try.prog 116 = some false ∧ tel Try.prog 116 = none ∧ tarr Try.prog 116 = none := by refine ⟨?_, ?_, ?_, ?_, ?_, ?_, ?_, ?_, ?_, ?_, ?_, ?_, ?_, ?_, ?_, ?_, ?_, ?_, ?_, ?_, ?_, ?_, ?_, ?_⟩ <;> kernel_rfl
@[simp] theorem tifc116 : tifc Try.prog 116 = some false ∧ pzero Try.prog 116 = some (.v (.nilFunc)) ∧ tbytes Try.prog 116 = some 8 ∧ tzero Try.prog 116 = some [.v (.nilFunc)] ∧ tsz Try.prog 117 = some 1 ∧ trow Try.prog 117 = some false ∧ tel Try.prog 117 = none ∧ tarr Try.prog 117 = none ∧ tifc Try.prog 117 = some false ∧ pzero Try.prog 117 = some (.v (.pointer none)) ∧ tbytes Try.prog 117 = some 8 ∧ tzero Try.prog 117 = some [.v (.pointer none)] ∧ tsz Try.prog 118 = some 1 ∧ trow Try.prog 118 = some false ∧ tel Try.prog 118 = none ∧ tarr Try.prog 118 = none ∧ tifc Try.prog 118 = some false ∧ pzero Try.prog 118 = some (.v (.nilFunc)) ∧ tbytes Try.prog 118 = some 8 ∧ tzero Try.prog 118 = some [.v (.nilFunc)] ∧ tsz Try.prog 119 = some 1 ∧ trow Try.prog 119 = some false ∧ tel Try.prog 119 = none ∧ tarr Try.prog 119 = none := by refine ⟨?_, ?_, ?_, ?_, ?_, ?_, ?_, ?_, ?_, ?_, ?_, ?_, ?_, ?_, ?_, ?_, ?_, ?_, ?_, ?_, ?_, ?_, ?_, ?_⟩ <;> kernel_rfl
@[simp] theorem tifc119 : tifc Try.prog 119 = some false ∧ pzero Try.prog 119 = some (.v (.nilFunc)) ∧ tbytes Try.prog 119 = some 8 ∧ tzero Try.prog 119 = some [.v (.nilFunc)] ∧ tsz Try.prog 120 = some 1 ∧ trow Try.prog 120 = some false ∧ tel Try.prog 120 = none ∧ tarr Try.prog 120 = none ∧ tifc Try.prog 120 = some false ∧ pzero Try.prog 120 = some (.v (.nilFunc)) ∧ tbytes Try.prog 120 = some 8 ∧ tzero Try.prog 120 = some [.v (.nilFunc)] ∧ tsz Try.prog 121 = some 15 ∧ trow Try.prog 121 = some true ∧ tel Try.prog 121 = none ∧ tarr Try.prog 121 = none ∧ tifc Try.prog 121 = some false ∧ pzero Try.prog 121 = some (.agg [.nil, .nil, .nil, .v (.int .i64 0), .nil, .nil, .v (.int .i64 0), .nil, .v (.int .i64 0), .v (.int .i64 0), .v (.int .i64 0), .v (.int .i64 0), .v (.int .i64 0), .v (.int .i64 0), .v (.int .i64 0)]) ∧ tfld Try.prog 121 0 = some (0, 37) ∧ tfld Try.prog 121 1 = some (4, 38) ∧ tfld Try.prog 121 2 = some (5, 38) ∧ tfld Try.prog 121 3 = some (6, 3) ∧ tfld Try.prog 121 4 = some (7, 22) ∧ tfld Try.prog 121 5 = some (8, 43) := by refine ⟨?_, ?_, ?_, ?_, ?_, ?_, ?_, ?_, ?_, ?_, ?_, ?_, ?_, ?_, ?_, ?_, ?_, ?_, ?_, ?_, ?_, ?_, ?_, ?_⟩ <;> kernel_rfl
@[simp] theorem tfld121x6 : tfld Try.prog 121 6 = some (13, 3) ∧ tfld Try.prog 121 7 = some (14, 3) ∧ tpl Try.prog 121 = some [(0, 4), (4, 1), (5, 1), (6, 1), (7, 1), (8, 5), (13, 1), (14, 1)] ∧ tbytes Try.prog 121 = some 216 ∧ tzero Try.prog 121 = some [.nil, .nil, .nil, .v (.int .i64 0), .nil, .nil, .v (.int .i64 0), .nil, .v (.int .i64 0), .v (.int .i64 0), .v (.int .i64 0), .v (.int .i64 0), .v (.int .i64 0), .v (.int .i64 0), .v (.int .i64 0)] ∧ tsz Try.prog 122 = some 15 ∧ trow Try.prog 122 = some true ∧ tel Try.prog 122 = none ∧ tarr Try.prog 122 = none ∧ tifc Try.prog 122 = some false ∧ pzero Try.prog 122 = some (.agg [.nil, .nil, .nil, .v (.int .i64 0), .nil, .nil, .v (.int .i64 0), .nil, .v (.int .i64 0), .v (.int .i64 0), .v (.int .i64 0), .v (.int .i64 0), .v (.int .i64 0), .v (.int .i64 0), .v (.int .i64 0)]) ∧ tfld Try.prog 122 0 = some (0, 37) ∧ tfld Try.prog 122 1 = some (4, 38) ∧ tfld Try.prog 122 2 = some (5, 38) ∧ tfld Try.prog 122 3 = some (6, 3) ∧ tfld Try.prog 122 4 = some (7, 22) ∧ tfld Try.prog 122 5 = some (8, 43) ∧ tfld Try.prog 122 6 = some (13, 3) ∧ tfld Try.prog 122 7 = some (14, 3) ∧ tpl Try.prog 122 = some [(0, 4), (4, 1), (5, 1), (6, 1), (7, 1), (8, 5), (13, 1), (14, 1)] ∧ tbytes Try.prog 122 = some 216 ∧ tzero Try.prog 122 = some [.nil, .nil, .nil, .v (.int .i64 0), .nil, .nil, .v (.int .i64 0), .nil, .v (.int .i64 0), .v (.int .i64 0), .v (.int .i64 0), .v (.int .i64 0), .v (.int .i64 0), .v (.int .i64 0), .v (.int .i64 0)] ∧ tsz Try.prog 123 = some 1 ∧ trow Try.prog 123 = some false := by refine ⟨?_, ?_, ?_, ?_, ?_, ?_, ?_, ?_, ?_, ?_, ?_, ?_, ?_, ?_, ?_, ?_, ?_, ?_, ?_, ?_, ?_, ?_, ?_, ?_⟩ <;> kernel_rfl
@[simp] theorem tel123 : tel Try.prog 123 = none ∧ tarr Try.prog 123 = none ∧ tifc Try.prog 123 = some false ∧ pzero Try.prog 123 = some (.v (.nilFunc)) ∧ tbytes Try.prog 123 = some 8 ∧ tzero Try.prog 123 = some [.v (.nilFunc)] ∧ tsz Try.prog 124 = some 1 ∧ trow Try.prog 124 = some false ∧ tel Try.prog 124 = none ∧ tarr Try.prog 124 = none ∧ tifc Try.prog 124 = some false ∧ pzero Try.prog 124 = some (.v (.nilFunc)) ∧ tbytes Try.prog 124 = some 8 ∧ tzero Try.prog 124 = some [.v (.nilFunc)] ∧ tsz Try.prog 125 = some 1 ∧ trow Try.prog 125 = some false ∧ tel Try.prog 125 = none ∧ tarr Try.prog 125 = none ∧ tifc Try.prog 125 = some false ∧ pzero Try.prog 125 = some (.v (.nilFunc)) ∧ tbytes Try.prog 125 = some 8 ∧ tzero Try.prog 125 = some [.v (.nilFunc)] ∧ tsz Try.prog 126 = some 4 ∧ trow Try.prog 126 = some true := by refine ⟨?_, ?_, ?_, ?_, ?_, ?_, ?_, ?_, ?_, ?_, ?_, ?_, ?_, ?_, ?_, ?_, ?_, ?_, ?_, ?_, ?_, ?_, ?_, ?_⟩ <;> kernel_rfl
@[simp] theorem tel126 : tel Try.prog 126 = none ∧ tarr Try.prog 126 = none ∧ tifc Try.prog 126 = some false ∧ pzero Try.prog 126 = some (.agg [.nil, .v (.int .i64 0), .v (.int .i64 0), .v (.int .i64 0)]) ∧ tfld Try.prog 126 0 = some (0, 67) ∧ tfld Try.prog 126 1 = some (1, 3) ∧ tfld Try.prog 126 2 = some (2, 3) ∧ tfld Try.prog 126 3 = some (3, 3) ∧ tpl Try.prog 126 = some [(0, 1), (1, 1), (2, 1), (3, 1)] ∧ tbytes Try.prog 126 = some 48 ∧ tzero Try.prog 126 = some [.nil, .v (.int .i64 0), .v (.int .i64 0), .v (.int .i64 0)] ∧ tsz Try.prog 127 = some 4 ∧ trow Try.prog 127 = some true ∧ tel Try.prog 127 = none ∧ tarr Try.prog 127 = none ∧ tifc Try.prog 127 = some false ∧ pzero Try.prog 127 = some (.agg [.nil, .v (.int .i64 0), .v (.int .i64 0), .v (.int .i64 0)]) ∧ tfld Try.prog 127 0 = some (0, 67) ∧ tfld Try.prog 127 1 = some (1, 3) ∧ tfld Try.prog 127 2 = some (2, 3) ∧ tfld Try.prog 127 3 = some (3, 3) ∧ tpl Try.prog 127 = some [(0, 1), (1, 1), (2, 1), (3, 1)] ∧ tbytes Try.prog 127 = some 48 ∧ tzero Try.prog 127 = some [.nil, .v (.int .i64 0), .v (.int .i64 0), .v (.int .i64 0)] := by refine ⟨?_, ?_, ?_, ?_, ?_, ?_, ?_, ?_, ?_, ?_, ?_, ?_, ?_, ?_, ?_, ?_, ?_, ?_, ?_, ?_, ?_, ?_, ?_, ?_⟩ <;> kernel_rfl
@[simp] theorem tsz128 : tsz Try.prog 128 = some 1 ∧ trow Try.prog 128 = some false ∧ tel Try.prog 128 = none ∧ tarr Try.prog 128 = none ∧ tifc Try.prog 128 = some false ∧ pzero Try.prog 128 = some (.v (.nilFunc)) ∧ tbytes Try.prog 128 = some 8 ∧ tzero Try.prog 128 = some [.v (.nilFunc)] ∧ tsz Try.prog 130 = some 1 ∧ trow Try.prog 130 = some false ∧ tel Try.prog 130 = none ∧ tarr Try.prog 130 = none ∧ tifc Try.prog 130 = some false ∧ pzero Try.prog 130 = some (.v (.nilFunc)) ∧ tbytes Try.prog 130 = some 8 ∧ tzero Try.prog 130 = some [.v (.nilFunc)] ∧ tsz Try.prog 131 = some 1 ∧ trow Try.prog 131 = some false ∧ tel Try.prog 131 = none ∧ tarr Try.prog 131 = none ∧ tmap Try.prog 131 = some (3, 58) ∧ tifc Try.prog 131 = some false ∧ pzero Try.prog 131 = some (.v (.map none)) ∧ tbytes Try.prog 131 = some 8 := by refine ⟨?_, ?_, ?_, ?_, ?_, ?_, ?_, ?_, ?_, ?_, ?_, ?_, ?_, ?_, ?_, ?_, ?_, ?_, ?_, ?_, ?_, ?_, ?_, ?_⟩ <;> kernel_rfl
@[simp] theorem tzero131 : tzero Try.prog 131 = some [.v (.map none)] ∧ tsz Try.prog 132 = some 1 ∧ trow Try.prog 132 = some false ∧ tel Try.prog 132 = none ∧ tarr Try.prog 132 = none ∧ tifc Try.prog 132 = some false ∧ pzero Try.prog 132 = some (.v (.nilFunc)) ∧ tbytes Try.prog 132 = some 8 ∧ tzero Try.prog 132 = some [.v (.nilFunc)] ∧ tsz Try.prog 133 = some 1 ∧ trow Try.prog 133 = some false ∧ tel Try.prog 133 = none ∧ tarr Try.prog 133 = none ∧ tifc Try.prog 133 = some false ∧ pzero Try.prog 133 = some (.v (.nilFunc)) ∧ tbytes Try.prog 133 = some 8 ∧ tzero Try.prog 133 = some [.v (.nilFunc)] ∧ tsz Try.prog 134 = some 1 ∧ trow Try.prog 134 = some false ∧ tel Try.prog 134 = none ∧ tarr Try.prog 134 = none ∧ tifc Try.prog 134 = some false ∧ pzero Try.prog 134 = some (.v (.nilFunc)) ∧ tbytes Try.prog 134 = some 8 := by refine ⟨?_, ?_, ?_, ?_, ?_, ?_, ?_, ?_, ?_, ?_, ?_, ?_, ?_, ?_, ?_, ?_, ?_, ?_, ?_, ?_, ?_, ?_, ?_, ?_⟩ <;> kernel_rfl
@[simp] theorem tzero134 : tzero Try.prog 134 = some [.v (.nilFunc)] ∧ tsz Try.prog 135 = some 1 ∧ trow Try.prog 135 = some false ∧ tel Try.prog 135 = none ∧ tarr Try.prog 135 = none ∧ tifc Try.prog 135 = some false ∧ pzero Try.prog 135 = some (.v (.nilFunc)) ∧ tbytes Try.prog 135 = some 8 ∧ tzero Try.prog 135 = some [.v (.nilFunc)] ∧ tsz Try.prog 136 = some 1 ∧ trow Try.prog 136 = some false ∧ tel Try.prog 136 = none ∧ tarr Try.prog 136 = none ∧ tifc Try.prog 136 = some false ∧ pzero Try.prog 136 = some (.v (.nilFunc)) ∧ tbytes Try.prog 136 = some 8 ∧ tzero Try.prog 136 = some [.v (.nilFunc)] ∧ tsz Try.prog 137 = some 1 ∧ trow Try.prog 137 = some false ∧ tel Try.prog 137 = none ∧ tarr Try.prog 137 = none ∧ tifc Try.prog 137 = some false ∧ pzero Try.prog 137 = some (.v (.nilFunc)) ∧ tbytes Try.prog 137 = some 8 := by refine ⟨?_, ?_, ?_, ?_, ?_, ?_, ?_, ?_, ?_, ?_, ?_, ?_, ?_, ?_, ?_, ?_, ?_, ?_, ?_, ?_, ?_, ?_, ?_, ?_⟩ <;> kernel_rfl
@[simp] theorem tzero137 : tzero Try.prog 137 = some [.v (.nilFunc)] ∧ tsz Try.prog 138 = some 1 ∧ trow Try.prog 138 = some false ∧ tel Try.prog 138 = none ∧ tarr Try.prog 138 = none ∧ tifc Try.prog 138 = some false ∧ pzero Try.prog 138 = some (.v (.nilFunc)) ∧ tbytes Try.prog 138 = some 8 ∧ tzero Try.prog 138 = some [.v (.nilFunc)] ∧ tsz Try.prog 139 = some 1 ∧ trow Try.prog 139 = some false ∧ tel Try.prog 139 = none ∧ tarr Try.prog 139 = none ∧ tifc Try.prog 139 = some false ∧ pzero Try.prog 139 = some (.v (.nilFunc)) ∧ tbytes Try.prog 139 = some 8 ∧ tzero Try.prog 139 = some [.v (.nilFunc)] ∧ tsz Try.prog 140 = some 1 ∧ trow Try.prog 140 = some false ∧ tel Try.prog 140 = none ∧ tarr Try.prog 140 = none ∧ tifc Try.prog 140 = some false ∧ pzero Try.prog 140 = some (.v (.nilFunc)) ∧ tbytes Try.prog 140 = some 8 := by refine ⟨?_, ?_, ?_, ?_, ?_, ?_, ?_, ?_, ?_, ?_, ?_, ?_, ?_, ?_, ?_, ?_, ?_, ?_, ?_, ?_, ?_, ?_, ?_, ?_⟩ <;> kernel_rfl
@[simp] theorem tzero140 : tzero Try.prog 140 = some [.v (.nilFunc)] ∧ tsz Try.prog 141 = some 1 ∧ trow Try.prog 141 = some false ∧ tel Try.prog 141 = none ∧ tarr Try.prog 141 = none ∧ tifc Try.prog 141 = some false ∧ pzero Try.prog 141 = some (.v (.nilFunc)) ∧ tbytes Try.prog 141 = some 8 ∧ tzero Try.prog 141 = some [.v (.nilFunc)] ∧ tsz Try.prog 142 = some 1 ∧ trow Try.prog 142 = some false ∧ tel Try.prog 142 = none ∧ tarr Try.prog 142 = none ∧ tifc Try.prog 142 = some false ∧ pzero Try.prog 142 = some (.v (.pointer none)) ∧ tbytes Try.prog 142 = some 8 ∧ tzero Try.prog 142 = some [.v (.pointer none)] ∧ tsz Try.prog 143 = some 2 ∧ trow Try.prog 143 = some true ∧ tel Try.prog 143 = none ∧ tarr Try.prog 143 = none ∧ tifc Try.prog 143 = some false ∧ pzero Try.prog 143 = some (.agg [.nil, .nil]) ∧ tfld Try.prog 143 0 = some (0, 22) := by refine ⟨?_, ?_, ?_, ?_, ?_, ?_, ?_, ?_, ?_, ?_, ?_, ?_, ?_, ?_, ?_, ?_, ?_, ?_, ?_, ?_, ?_, ?_, ?_, ?_⟩ <;> kernel_rfl
@[simp] theorem tfld143x1 : tfld Try.prog 143 1 = some (1, 38) ∧ tpl Try.prog 143 = some [(0, 1), (1, 1)] ∧ tbytes Try.prog 143 = some 48 ∧ tzero Try.prog 143 = some [.nil, .nil] ∧ tsz Try.prog 144 = some 2 ∧ trow Try.prog 144 = some true ∧ tel Try.prog 144 = none ∧ tarr Try.prog 144 = none ∧ tifc Try.prog 144 = some false ∧ pzero Try.prog 144 = some (.agg [.nil, .nil]) ∧ tfld Try.prog 144 0 = some (0, 22) ∧ tfld Try.prog 144 1 = some (1, 38) ∧ tpl Try.prog 144 = some [(0, 1), (1, 1)] ∧ tbytes Try.prog 144 = some 48 ∧ tzero Try.prog 144 = some [.nil, .nil] ∧ tsz Try.prog 145 = some 1 ∧ trow Try.prog 145 = some false ∧ tel Try.prog 145 = none ∧ tarr Try.prog 145 = none ∧ tifc Try.prog 145 = some true ∧ pzero Try.prog 145 = some (.v (.nilIface)) ∧ tbytes Try.prog 145 = some 16 ∧ tzero Try.prog 145 = some [.v (.nilIface)] ∧ tsz Try.prog 146 = some 1 := by refine ⟨?_, ?_, ?_, ?_, ?_, ?_, ?_, ?_, ?_, ?_, ?_, ?_, ?_, ?_, ?_, ?_, ?_, ?_, ?_, ?_, ?_, ?_, ?_, ?_⟩ <;> kernel_rfl
@[simp] theorem trow146 : trow Try.prog 146 = some false ∧ tel Try.prog 146 = none ∧ tarr Try.prog 146 = none ∧ tifc Try.prog 146 = some true ∧ pzero Try.prog 146 = some (.v (.nilIface)) ∧ tbytes Try.prog 146 = some 16 ∧ tzero Try.prog 146 = some [.v (.nilIface)] ∧ tsz Try.prog 147 = some 1 ∧ trow Try.prog 147 = some false ∧ tel Try.prog 147 = none ∧ tarr Try.prog 147 = none ∧ tifc Try.prog 147 = some false ∧ pzero Try.prog 147 = some (.v (.nilFunc)) ∧ tbytes Try.prog 147 = some 8 ∧ tzero Try.prog 147 = some [.v (.nilFunc)] ∧ tsz Try.prog 149 = some 1 ∧ trow Try.prog 149 = some false ∧ tel Try.prog 149 = none ∧ tarr Try.prog 149 = none ∧ tifc Try.prog 149 = some false ∧ pzero Try.prog 149 = some (.v (.nilFunc)) ∧ tbytes Try.prog 149 = some 8 ∧ tzero Try.prog 149 = some [.v (.nilFunc)] ∧ tsz Try.prog 150 = some 1 := by refine ⟨?_, ?_, ?_, ?_, ?_, ?_, ?_, ?_, ?_, ?_, ?_, ?_, ?_, ?_, ?_, ?_, ?_, ?_, ?_, ?_, ?_, ?_, ?_, ?_⟩ <;> kernel_rfl
@[simp] theorem trow150 : trow Try.prog 150 = some false ∧ tel Try.prog 150 = none ∧ tarr Try.prog 150 = none ∧ tifc Try.prog 150 = some false ∧ pzero Try.prog 150 = some (.v (.nilFunc)) ∧ tbytes Try.prog 150 = some 8 ∧ tzero Try.prog 150 = some [.v (.nilFunc)] ∧ tsz Try.prog 151 = some 1 ∧ trow Try.prog 151 = some false ∧ tel Try.prog 151 = none ∧ tarr Try.prog 151 = none ∧ tifc Try.prog 151 = some false ∧ pzero Try.prog 151 = some (.v (.nilFunc)) ∧ tbytes Try.prog 151 = some 8 ∧ tzero Try.prog 151 = some [.v (.nilFunc)] ∧ tsz Try.prog 152 = some 1 ∧ trow Try.prog 152 = some true ∧ tel Try.prog 152 = none ∧ tarr Try.prog 152 = none ∧ tifc Try.prog 152 = some false ∧ pzero Try.prog 152 = some (.agg [.v (.int .i64 0)]) ∧ tfld Try.prog 152 0 = some (0, 3) ∧ tpl Try.prog 152 = some [(0, 1)] ∧ teqf Try.prog 152 = some [(0, 0)] := by refine ⟨?_, ?_, ?_, ?_, ?_, ?_, ?_, ?_, ?_, ?_, ?_, ?_, ?_, ?_, ?_, ?_, ?_, ?_, ?_, ?_, ?_, ?_, ?_, ?_⟩ <;> kernel_rfl
@[simp] theorem tbytes152 : tbytes Try.prog 152 = some 8 ∧ tzero Try.prog 152 = some [.v (.int .i64 0)] ∧ tsz Try.prog 153 = some 1 ∧ trow Try.prog 153 = some true ∧ tel Try.prog 153 = none ∧ tarr Try.prog 153 = none ∧ tifc Try.prog 153 = some false ∧ pzero Try.prog 153 = some (.agg [.v (.int .i64 0)]) ∧ tfld Try.prog 153 0 = some (0, 3) ∧ tpl Try.prog 153 = some [(0, 1)] ∧ teqf Try.prog 153 = some [(0, 0)] ∧ tbytes Try.prog 153 = some 8 ∧ tzero Try.prog 153 = some [.v (.int .i64 0)] ∧ tsz Try.prog 154 = some 4 ∧ trow Try.prog 154 = some true ∧ tel Try.prog 154 = none ∧ tarr Try.prog 154 = some (4, 1) ∧ tifc Try.prog 154 = some false ∧ pzero Try.prog 154 = some (.agg [.v (.nilFunc), .v (.nilFunc), .v (.nilFunc), .v (.nilFunc)]) ∧ tpl Try.prog 154 = none ∧ tbytes Try.prog 154 = some 32 ∧ tzero Try.prog 154 = some [.v (.nilFunc), .v (.nilFunc), .v (.nilFunc), .v (.nilFunc)] ∧ tsz Try.prog 155 = some 1 ∧ trow Try.prog 155 = some false := by refine ⟨?_, ?_, ?_, ?_, ?_, ?_, ?_, ?_, ?_, ?_, ?_, ?_, ?_, ?_, ?_, ?_, ?_, ?_, ?_, ?_, ?_, ?_, ?_, ?_⟩ <;> kernel_rfl
@[simp] theorem tel155 : tel Try.prog 155 = none ∧ tarr Try.prog 155 = none ∧ tifc Try.prog 155 = some false ∧ pzero Try.prog 155 = some (.v (.nilFunc)) ∧ tbytes Try.prog 155 = some 8 ∧ tzero Try.prog 155 = some [.v (.nilFunc)] ∧ tsz Try.prog 156 = some 1 ∧ trow Try.prog 156 = some false ∧ tel Try.prog 156 = none ∧ tarr Try.prog 156 = none ∧ tifc Try.prog 156 = some false ∧ pzero Try.prog 156 = some (.v (.nilFunc)) ∧ tbytes Try.prog 156 = some 8 ∧ tzero Try.prog 156 = some [.v (.nilFunc)] ∧ tsz Try.prog 157 = some 1 ∧ trow Try.prog 157 = some false ∧ tel Try.prog 157 = none ∧ tarr Try.prog 157 = none ∧ tifc Try.prog 157 = some false ∧ pzero Try.prog 157 = some (.v (.nilFunc)) ∧ tbytes Try.prog 157 = some 8 ∧ tzero Try.prog 157 = some [.v (.nilFunc)] ∧ tsz Try.prog 158 = some 1 ∧ trow Try.prog 158 = some false := by refine ⟨?_, ?_, ?_, ?_, ?_, ?_, ?_, ?_, ?_, ?_, ?_, ?_, ?_, ?_, ?_, ?_, ?_, ?_, ?_, ?_, ?_, ?_, ?_, ?_⟩ <;> kernel_rfl
@[simp] theorem tel158 : tel Try.prog 158 = none ∧ tarr Try.prog 158 = none ∧ tifc Try.prog 158 = some false ∧ pzero Try.prog 158 = some (.v (.nilFunc)) ∧ tbytes Try.prog 158 = some 8 ∧ tzero Try.prog 158 = some [.v (.nilFunc)] ∧ tsz Try.prog 159 = some 1 ∧ trow Try.prog 159 = some false ∧ tel Try.prog 159 = none ∧ tarr Try.prog 159 = none ∧ tifc Try.prog 159 = some false ∧ pzero Try.prog 159 = some (.v (.nilFunc)) ∧ tbytes Try.prog 159 = some 8 ∧ tzero Try.prog 159 = some [.v (.nilFunc)] ∧ tsz Try.prog 160 = some 1 ∧ trow Try.prog 160 = some false ∧ tel Try.prog 160 = none ∧ tarr Try.prog 160 = none ∧ tifc Try.prog 160 = some false ∧ pzero Try.prog 160 = some (.v (.nilFunc)) ∧ tbytes Try.prog 160 = some 8 ∧ tzero Try.prog 160 = some [.v (.nilFunc)] ∧ tsz Try.prog 161 = some 1 ∧ trow Try.prog 161 = some false := by refine ⟨?_, ?_, ?_, ?_, ?_, ?_, ?_, ?_, ?_, ?_, ?_, ?_, ?_, ?_, ?_, ?_, ?_, ?_, ?_, ?_, ?_, ?_, ?_, ?_⟩ <;> kernel_rfl
@[simp] theorem tel161 : tel Try.prog 161 = none ∧ tarr Try.prog 161 = none ∧ tifc Try.prog 161 = some false ∧ pzero Try.prog 161 = some (.v (.nilFunc)) ∧ tbytes Try.prog 161 = some 8 ∧ tzero Try.prog 161 = some [.v (.nilFunc)] ∧ tsz Try.prog 162 = some 1 ∧ trow Try.prog 162 = some false ∧ tel Try.prog 162 = none ∧ tarr Try.prog 162 = none ∧ tifc Try.prog 162 = some false ∧ pzero Try.prog 162 = some (.v (.nilFunc)) ∧ tbytes Try.prog 162 = some 8 ∧ tzero Try.prog 162 = some [.v (.nilFunc)] ∧ tsz Try.prog 163 = some 1 ∧ trow Try.prog 163 = some false ∧ tel Try.prog 163 = none ∧ tarr Try.prog 163 = none ∧ tifc Try.prog 163 = some false ∧ pzero Try.prog 163 = some (.v (.nilFunc)) ∧ tbytes Try.prog 163 = some 8 ∧ tzero Try.prog 163 = some [.v (.nilFunc)] ∧ tsz Try.prog 164 = some 1 ∧ trow Try.prog 164 = some false := by refine ⟨?_, ?_, ?_, ?_, ?_, ?_, ?_, ?_, ?_, ?_, ?_, ?_, ?_, ?_, ?_, ?_, ?_, ?_, ?_, ?_, ?_, ?_, ?_, ?_⟩ <;> kernel_rfl
@[simp] theorem tel164 : tel Try.prog 164 = none ∧ tarr Try.prog 164 = none ∧ tifc Try.prog 164 = some false ∧ pzero Try.prog 164 = some (.v (.nilFunc)) ∧ tbytes Try.prog 164 = some 8 ∧ tzero Try.prog 164 = some [.v (.nilFunc)] ∧ tsz Try.prog 165 = some 1 ∧ trow Try.prog 165 = some false ∧ tel Try.prog 165 = none ∧ tarr Try.prog 165 = none ∧ tifc Try.prog 165 = some false ∧ pzero Try.prog 165 = some (.v (.nilFunc)) ∧ tbytes Try.prog 165 = some 8 ∧ tzero Try.prog 165 = some [.v (.nilFunc)] ∧ tsz Try.prog 166 = some 1 ∧ trow Try.prog 166 = some false ∧ tel Try.prog 166 = none ∧ tarr Try.prog 166 = none ∧ tifc Try.prog 166 = some false ∧ pzero Try.prog 166 = some (.v (.nilFunc)) ∧ tbytes Try.prog 166 = some 8 ∧ tzero Try.prog 166 = some [.v (.nilFunc)] ∧ tsz Try.prog 167 = some 1 ∧ trow Try.prog 167 = some false := by refine ⟨?_, ?_, ?_, ?_, ?_, ?_, ?_, ?_, ?_, ?_, ?_, ?_, ?_, ?_, ?_, ?_, ?_, ?_, ?_, ?_, ?_, ?_, ?_, ?_⟩ <;> kernel_rfl
@[simp] theorem tel167 : tel Try.prog 167 = none ∧ tarr Try.prog 167 = none ∧ tifc Try.prog 167 = some false ∧ pzero Try.prog 167 = some (.v (.nilFunc)) ∧ tbytes Try.prog 167 = some 8 ∧ tzero Try.prog 167 = some [.v (.nilFunc)] ∧ tsz Try.prog 168 = some 1 ∧ trow Try.prog 168 = some false ∧ tel Try.prog 168 = none ∧ tarr Try.prog 168 = none ∧ tifc Try.prog 168 = some false ∧ pzero Try.prog 168 = some (.v (.nilFunc)) ∧ tbytes Try.prog 168 = some 8 ∧ tzero Try.prog 168 = some [.v (.nilFunc)] ∧ tsz Try.prog 169 = some 2 ∧ trow Try.prog 169 = some true ∧ tel Try.prog 169 = none ∧ tarr Try.prog 169 = some (2, 86) ∧ tifc Try.prog 169 = some false ∧ pzero Try.prog 169 = some (.agg [.v (.int .i64 0), .v (.int .i64 0)]) ∧ tpl Try.prog 169 = none ∧ tbytes Try.prog 169 = some 16 ∧ tzero Try.prog 169 = some [.v (.int .i64 0), .v (.int .i64 0)] ∧ tsz Try.prog 170 = some 1 := by refine ⟨?_, ?_, ?_, ?_, ?_, ?_, ?_, ?_, ?_, ?_, ?_, ?_, ?_, ?_, ?_, ?_, ?_, ?_, ?_, ?_, ?_, ?_, ?_, ?_⟩ <;> kernel_rfl
@[simp] theorem trow170 : trow Try.prog 170 = some false ∧ tel Try.prog 170 = none ∧ tarr Try.prog 170 = none ∧ tifc Try.prog 170 = some false ∧ pzero Try.prog 170 = some (.v (.nilFunc)) ∧ tbytes Try.prog 170 = some 8 ∧ tzero Try.prog 170 = some [.v (.nilFunc)] ∧ tsz Try.prog 171 = some 1 ∧ trow Try.prog 171 = some false ∧ tel Try.prog 171 = none ∧ tarr Try.prog 171 = none ∧ tifc Try.prog 171 = some false ∧ pzero Try.prog 171 = some (.v (.nilFunc)) ∧ tbytes Try.prog 171 = some 8 ∧ tzero Try.prog 171 = some [.v (.nilFunc)] ∧ tsz Try.prog 172 = some 1 ∧ trow Try.prog 172 = some false ∧ tel Try.prog 172 = none ∧ tarr Try.prog 172 = none ∧ tifc Try.prog 172 = some false ∧ pzero Try.prog 172 = some (.v (.nilFunc)) ∧ tbytes Try.prog 172 = some 8 ∧ tzero Try.prog 172 = some [.v (.nilFunc)] ∧ tsz Try.prog 173 = some 1 := by refine ⟨?_, ?_, ?_, ?_, ?_, ?_, ?_, ?_, ?_, ?_, ?_, ?_, ?_, ?_, ?_, ?_, ?_, ?_, ?_, ?_, ?_, ?_, ?_, ?_⟩ <;> kernel_rfl
@[simp] theorem trow173 : trow Try.prog 173 = some false ∧ tel Try.prog 173 = none ∧ tarr Try.prog 173 = none ∧ tifc Try.prog 173 = some false ∧ pzero Try.prog 173 = some (.v (.nilFunc)) ∧ tbytes Try.prog 173 = some 8 ∧ tzero Try.prog 173 = some [.v (.nilFunc)] ∧ tsz Try.prog 174 = some 1 ∧ trow Try.prog 174 = some false ∧ tel Try.prog 174 = none ∧ tarr Try.prog 174 = none ∧ tifc Try.prog 174 = some false ∧ pzero Try.prog 174 = some (.v (.nilFunc)) ∧ tbytes Try.prog 174 = some 8 ∧ tzero Try.prog 174 = some [.v (.nilFunc)] ∧ tsz Try.prog 175 = some 1 ∧ trow Try.prog 175 = some false ∧ tel Try.prog 175 = none ∧ tarr Try.prog 175 = none ∧ tifc Try.prog 175 = some false ∧ pzero Try.prog 175 = some (.v (.nilFunc)) ∧ tbytes Try.prog 175 = some 8 ∧ tzero Try.prog 175 = some [.v (.nilFunc)] ∧ tsz Try.prog 176 = some 4 := by refine ⟨?_, ?_, ?_, ?_, ?_, ?_, ?_, ?_, ?_, ?_, ?_, ?_, ?_, ?_, ?_, ?_, ?_, ?_, ?_, ?_, ?_, ?_, ?_, ?_⟩ <;> kernel_rfl
@[simp] theorem trow176 : trow Try.prog 176 = some true ∧ tel Try.prog 176 = none ∧ tarr Try.prog 176 = none ∧ tifc Try.prog 176 = some false ∧ pzero Try.prog 176 = some (.agg [.v (.pointer none), .v (.pointer none), .v (.pointer none), .v (.string ByteArray.empty)]) ∧ tfld Try.prog 176 0 = some (0, 17) ∧ tfld Try.prog 176 1 = some (1, 17) ∧ tfld Try.prog 176 2 = some (2, 17) ∧ tfld Try.prog 176 3 = some (3, 9) ∧ tpl Try.prog 176 = some [(0, 1), (1, 1), (2, 1), (3, 1)] ∧ tbytes Try.prog 176 = some 40 ∧ tzero Try.prog 176 = some [.v (.pointer none), .v (.pointer none), .v (.pointer none), .v (.string ByteArray.empty)] ∧ tsz Try.prog 177 = some 4 ∧ trow Try.prog 177 = some true ∧ tel Try.prog 177 = none ∧ tarr Try.prog 177 = none ∧ tifc Try.prog 177 = some false ∧ pzero Try.prog 177 = some (.agg [.v (.pointer none), .v (.pointer none), .v (.pointer none), .v (.string ByteArray.empty)]) ∧ tfld Try.prog 177 0 = some (0, 17) ∧ tfld Try.prog 177 1 = some (1, 17) ∧ tfld Try.prog 177 2 = some (2, 17) ∧ tfld Try.prog 177 3 = some (3, 9) ∧ tpl Try.prog 177 = some [(0, 1), (1, 1), (2, 1), (3, 1)] ∧ tbytes Try.prog 177 = some 40 := by refine ⟨?_, ?_, ?_, ?_, ?_, ?_, ?_, ?_, ?_, ?_, ?_, ?_, ?_, ?_, ?_, ?_, ?_, ?_, ?_, ?_, ?_, ?_, ?_, ?_⟩ <;> kernel_rfl
@[simp] theorem tzero177 : tzero Try.prog 177 = some [.v (.pointer none), .v (.pointer none), .v (.pointer none), .v (.string ByteArray.empty)] ∧ tsz Try.prog 178 = some 0 ∧ trow Try.prog 178 = some true ∧ tel Try.prog 178 = none ∧ tarr Try.prog 178 = some (0, 16) ∧ tifc Try.prog 178 = some false ∧ pzero Try.prog 178 = some (.agg []) ∧ tpl Try.prog 178 = none ∧ tbytes Try.prog 178 = some 0 ∧ tzero Try.prog 178 = some [] ∧ tsz Try.prog 179 = some 0 ∧ trow Try.prog 179 = some true ∧ tel Try.prog 179 = none ∧ tarr Try.prog 179 = none ∧ tifc Try.prog 179 = some false ∧ pzero Try.prog 179 = some (.agg []) ∧ tpl Try.prog 179 = some [(0, 0)] ∧ tbytes Try.prog 179 = some 0 ∧ tzero Try.prog 179 = some [] ∧ tsz Try.prog 180 = some 0 ∧ trow Try.prog 180 = some true ∧ tel Try.prog 180 = none ∧ tarr Try.prog 180 = none ∧ tifc Try.prog 180 = some false := by refine ⟨?_, ?_, ?_, ?_, ?_, ?_, ?_, ?_, ?_, ?_, ?_, ?_, ?_, ?_, ?_, ?_, ?_, ?_, ?_, ?_, ?_, ?_, ?_, ?_⟩ <;> kernel_rfl
@[simp] theorem pzero180 : pzero Try.prog 180 = some (.agg []) ∧ tpl Try.prog 180 = some [(0, 0)] ∧ tbytes Try.prog 180 = some 0 ∧ tzero Try.prog 180 = some [] ∧ tsz Try.prog 181 = some 1 ∧ trow Try.prog 181 = some false ∧ tel Try.prog 181 = none ∧ tarr Try.prog 181 = none ∧ tifc Try.prog 181 = some false ∧ pzero Try.prog 181 = some (.v (.nilFunc)) ∧ tbytes Try.prog 181 = some 8 ∧ tzero Try.prog 181 = some [.v (.nilFunc)] ∧ tsz Try.prog 182 = some 1 ∧ trow Try.prog 182 = some false ∧ tel Try.prog 182 = none ∧ tarr Try.prog 182 = none ∧ tifc Try.prog 182 = some false ∧ pzero Try.prog 182 = some (.v (.int .u32 0)) ∧ tint Try.prog 182 = some .u32 ∧ tbytes Try.prog 182 = some 4 ∧ tzero Try.prog 182 = some [.v (.int .u32 0)] ∧ tsz Try.prog 183 = some 1 ∧ trow Try.prog 183 = some false ∧ tel Try.prog 183 = none := by refine ⟨?_, ?_, ?_, ?_, ?_, ?_, ?_, ?_, ?_, ?_, ?_, ?_, ?_, ?_, ?_, ?_, ?_, ?_, ?_, ?_, ?_, ?_, ?_, ?_⟩ <;> kernel_rfl
@[simp] theorem tarr183 : tarr Try.prog 183 = none ∧ tifc Try.prog 183 = some false ∧ pzero Try.prog 183 = some (.v (.int .u8 0)) ∧ tint Try.prog 183 = some .u8 ∧ tbytes Try.prog 183 = some 1 ∧ tzero Try.prog 183 = some [.v (.int .u8 0)] ∧ tsz Try.prog 184 = some 1 ∧ trow Try.prog 184 = some false ∧ tel Try.prog 184 = none ∧ tarr Try.prog 184 = none ∧ tifc Try.prog 184 = some false ∧ pzero Try.prog 184 = some (.v (.int .u8 0)) ∧ tint Try.prog 184 = some .u8 ∧ tbytes Try.prog 184 = some 1 ∧ tzero Try.prog 184 = some [.v (.int .u8 0)] ∧ tsz Try.prog 185 = some 1 ∧ trow Try.prog 185 = some false ∧ tel Try.prog 185 = none ∧ tarr Try.prog 185 = none ∧ tifc Try.prog 185 = some false ∧ pzero Try.prog 185 = some (.v (.nilFunc)) ∧ tbytes Try.prog 185 = some 8 ∧ tzero Try.prog 185 = some [.v (.nilFunc)] ∧ tsz Try.prog 186 = some 1 := by refine ⟨?_, ?_, ?_, ?_, ?_, ?_, ?_, ?_, ?_, ?_, ?_, ?_, ?_, ?_, ?_, ?_, ?_, ?_, ?_, ?_, ?_, ?_, ?_, ?_⟩ <;> kernel_rfl
@[simp] theorem trow186 : trow Try.prog 186 = some false ∧ tel Try.prog 186 = none ∧ tarr Try.prog 186 = none ∧ tifc Try.prog 186 = some false ∧ pzero Try.prog 186 = some (.v (.pointer none)) ∧ tbytes Try.prog 186 = some 8 ∧ tzero Try.prog 186 = some [.v (.pointer none)] ∧ tsz Try.prog 187 = some 1 ∧ trow Try.prog 187 = some false ∧ tel Try.prog 187 = none ∧ tarr Try.prog 187 = none ∧ tifc Try.prog 187 = some false ∧ pzero Try.prog 187 = some (.v (.int .i32 0)) ∧ tint Try.prog 187 = some .i32 ∧ tbytes Try.prog 187 = some 4 ∧ tzero Try.prog 187 = some [.v (.int .i32 0)] ∧ tsz Try.prog 188 = some 1 ∧ trow Try.prog 188 = some false ∧ tel Try.prog 188 = none ∧ tarr Try.prog 188 = none ∧ tifc Try.prog 188 = some false ∧ pzero Try.prog 188 = some (.v (.int .i32 0)) ∧ tint Try.prog 188 = some .i32 ∧ tbytes Try.prog 188 = some 4 := by refine ⟨?_, ?_, ?_, ?_, ?_, ?_, ?_, ?_, ?_, ?_, ?_, ?_, ?_, ?_, ?_, ?_, ?_, ?_, ?_, ?_, ?_, ?_, ?_, ?_⟩ <;> kernel_rfl
@[simp] theorem tzero188 : tzero Try.prog 188 = some [.v (.int .i32 0)] ∧ tsz Try.prog 189 = some 11 ∧ trow Try.prog 189 = some true ∧ tel Try.prog 189 = none ∧ tarr Try.prog 189 = none ∧ tifc Try.prog 189 = some false ∧ pzero Try.prog 189 = some (.agg [.v (.int .u64 0), .v (.int .u64 0), .v (.int .u32 0), .v (.int .u8 0), .v (.int .u8 0), .v (.int .u8 0), .v (.int .u8 0), .v (.nilFunc), .v (.pointer none), .v (.int .i32 0), .v (.int .i32 0)]) ∧ tfld Try.prog 189 0 = some (0, 12) ∧ tfld Try.prog 189 1 = some (1, 12) ∧ tfld Try.prog 189 2 = some (2, 182) ∧ tfld Try.prog 189 3 = some (3, 183) ∧ tfld Try.prog 189 4 = some (4, 5) ∧ tfld Try.prog 189 5 = some (5, 5) ∧ tfld Try.prog 189 6 = some (6, 184) ∧ tfld Try.prog 189 7 = some (7, 185) ∧ tfld Try.prog 189 8 = some (8, 186) ∧ tfld Try.prog 189 9 = some (9, 187) ∧ tfld Try.prog 189 10 = some (10, 188) ∧ tpl Try.prog 189 = some [(0, 1), (1, 1), (2, 1), (3, 1), (4, 1), (5, 1), (6, 1), (7, 1), (8, 1), (9, 1), (10, 1)] ∧ tbytes Try.prog 189 = some 48 ∧ tzero Try.prog 189 = some [.v (.int .u64 0), .v (.int .u64 0), .v (.int .u32 0), .v (.int .u8 0), .v (.int .u8 0), .v (.int .u8 0), .v (.int .u8 0), .v (.nilFunc), .v (.pointer none), .v (.int .i32 0), .v (.int .i32 0)] ∧ tsz Try.prog 190 = some 11 ∧ trow Try.prog 190 = some true ∧ tel Try.prog 190 = none := by refine ⟨?_, ?_, ?_, ?_, ?_, ?_, ?_, ?_, ?_, ?_, ?_, ?_, ?_, ?_, ?_, ?_, ?_, ?_, ?_, ?_, ?_, ?_, ?_, ?_⟩ <;> kernel_rfl
@[simp] theorem tarr190 : tarr Try.prog 190 = none ∧ tifc Try.prog 190 = some false ∧ pzero Try.prog 190 = some (.agg [.v (.int .u64 0), .v (.int .u64 0), .v (.int .u32 0), .v (.int .u8 0), .v (.int .u8 0), .v (.int .u8 0), .v (.int .u8 0), .v (.nilFunc), .v (.pointer none), .v (.int .i32 0), .v (.int .i32 0)]) ∧ tfld Try.prog 190 0 = some (0, 12) ∧ tfld Try.prog 190 1 = some (1, 12) ∧ tfld Try.prog 190 2 = some (2, 182) ∧ tfld Try.prog 190 3 = some (3, 183) ∧ tfld Try.prog 190 4 = some (4, 5) ∧ tfld Try.prog 190 5 = some (5, 5) ∧ tfld Try.prog 190 6 = some (6, 184) ∧ tfld Try.prog 190 7 = some (7, 185) ∧ tfld Try.prog 190 8 = some (8, 186) ∧ tfld Try.prog 190 9 = some (9, 187) ∧ tfld Try.prog 190 10 = some (10, 188) ∧ tpl Try.prog 190 = some [(0, 1), (1, 1), (2, 1), (3, 1), (4, 1), (5, 1), (6, 1), (7, 1), (8, 1), (9, 1), (10, 1)] ∧ tbytes Try.prog 190 = some 48 ∧ tzero Try.prog 190 = some [.v (.int .u64 0), .v (.int .u64 0), .v (.int .u32 0), .v (.int .u8 0), .v (.int .u8 0), .v (.int .u8 0), .v (.int .u8 0), .v (.nilFunc), .v (.pointer none), .v (.int .i32 0), .v (.int .i32 0)] := by refine ⟨?_, ?_, ?_, ?_, ?_, ?_, ?_, ?_, ?_, ?_, ?_, ?_, ?_, ?_, ?_, ?_, ?_⟩ <;> kernel_rfl
end Go.Qg

namespace Go.Qg
open Go.RowKit (Below)
mutual
def PV.flat : PV → Bool
  | .agg cs | .tup cs | .box _ cs => flatL cs
  | .map _ ks vs => flatL ks && flatL vs
  | .clo _ first cap => flatL first && flatL cap
  | .ifc _ p => p.flat
  | .rows _ _ _ _ rs => flatLL rs
  | .sl .. | .rp .. => false
  | _ => true
def flatL : List PV → Bool
  | [] => true
  | p :: ps => p.flat && flatL ps
def flatLL : List (List PV) → Bool
  | [] => true
  | ps :: pss => flatL ps && flatLL pss
end
theorem flatL_mem : ∀ {ps : List PV}, flatL ps = true → ∀ p ∈ ps, p.flat = true
  | [], _, p, hp => by cases hp
  | q :: ps, h, p, hp => by
    simp only [flatL, Bool.and_eq_true] at h
    rcases List.mem_cons.1 hp with rfl | hp
    · exact h.1
    · exact flatL_mem h.2 p hp
theorem flatLL_mem : ∀ {pss : List (List PV)}, flatLL pss = true → ∀ ps ∈ pss, flatL ps = true
  | [], _, p, hp => by cases hp
  | q :: ps, h, p, hp => by
    simp only [flatLL, Bool.and_eq_true] at h
    rcases List.mem_cons.1 hp with rfl | hp
    · exact h.1
    · exact flatLL_mem h.2 p hp
section
variable {P : Program} {N : Nat} {B : Base} {w w' : World} {R R' : Nat → Nat → Prop} {Γ Γ' : Nat → Option Loc} {a : Act} {f g : PF} {d : Nat} {π : Nat → Nat}
theorem Rep.ren {u : Value} {p : PV} (hr : Rep w R Γ u p) (hk : p.flat = true ∨ ∀ b o, R b o → R' b o ∧ w'.cell? ⟨b, o, none⟩ = w.cell? ⟨b, o, none⟩)
    (hΓ : ∀ i ∈ p.names, ∀ l, Γ i = some l → ∃ l', Γ' (π i) = some l' ∧ Loc.le l l') : Rep w' R' Γ' u (p.ren π) := by
  induction hr with
  | undef u => exact .undef u
  | v x hx => exact .v x hx
  | nil => exact .nil
  | agg us cs hl h1 _ ih =>
    refine .agg us _ (by rw [renL_length]; exact hl) (fun q hq => ?_) (fun i u q hu hq => ?_)
    · obtain ⟨p, hp, rfl⟩ := renL_mem hq
      rw [PV.ren_one]; exact h1 p hp
    · rw [renL_get] at hq
      simp only [Option.map_eq_some_iff] at hq
      obtain ⟨p, hp, rfl⟩ := hq
      exact ih i u p hu hp (hk.imp_left fun h => flatL_mem (by simpa [PV.flat] using h) p (List.mem_of_getElem? hp)) fun j hj => hΓ j (mem_namesL.2 ⟨p, List.mem_of_getElem? hp, hj⟩)
  | tup us cs hl _ ih =>
    refine .tup us _ (by rw [renL_length]; exact hl) (fun i u q hu hq => ?_)
    rw [renL_get] at hq
    simp only [Option.map_eq_some_iff] at hq
    obtain ⟨p, hp, rfl⟩ := hq
    exact ih i u p hu hp (hk.imp_left fun h => flatL_mem (by simpa [PV.flat] using h) p (List.mem_of_getElem? hp)) fun j hj => hΓ j (mem_namesL.2 ⟨p, List.mem_of_getElem? hp, hj⟩)
  | sl A n c sz f us hn hc hl h1 hcell hr ih =>
    rcases hk with hk | hk
    · cases hk
    · refine .sl A n c sz f us hn hc hl h1 (fun i j hi hj => ?_) fun i j p hi hp => (hr i j p hi hp).free hk (h1 i j p hi hp).2
      obtain ⟨b, o, hA, hR, hcl⟩ := hcell i j hi hj
      exact ⟨b, o, hA, (hk _ _ hR).1, (hk _ _ hR).2.trans hcl⟩
  | rp b o cs off us h1 hcell hr ih =>
    rcases hk with hk | hk
    · cases hk
    · exact .rp b o cs off us h1 (fun j hj => ⟨(hk _ _ (hcell j hj).1).1, (hk _ _ (hcell j hj).1).2.trans (hcell j hj).2⟩) fun j p hp => (hr j p hp).free hk (h1 p (List.mem_of_getElem? hp)).2
  | clo fn uf uc first cap h1 h2 _ _ ih1 ih2 =>
    refine .clo fn uf uc _ _ (by rw [renL_length]; exact h1) (by rw [renL_length]; exact h2) (fun i u q hu hq => ?_) (fun i u q hu hq => ?_)
    · rw [renL_get] at hq
      simp only [Option.map_eq_some_iff] at hq
      obtain ⟨p, hp, rfl⟩ := hq
      exact ih1 i u p hu hp (hk.imp_left fun h => by
        simp only [PV.flat, Bool.and_eq_true] at h
        exact flatL_mem h.1 p (List.mem_of_getElem? hp)) fun j hj => hΓ j (by simp only [PV.names, List.mem_append]; exact .inl (mem_namesL.2 ⟨p, List.mem_of_getElem? hp, hj⟩))
    · rw [renL_get] at hq
      simp only [Option.map_eq_some_iff] at hq
      obtain ⟨p, hp, rfl⟩ := hq
      exact ih2 i u p hu hp (hk.imp_left fun h => by
        simp only [PV.flat, Bool.and_eq_true] at h
        exact flatL_mem h.2 p (List.mem_of_getElem? hp)) fun j hj => hΓ j (by simp only [PV.names, List.mem_append]; exact .inr (mem_namesL.2 ⟨p, List.mem_of_getElem? hp, hj⟩))
  | ref i off b hb =>
    obtain ⟨l', h1, h2⟩ := hΓ i (by simp [PV.names]) _ hb
    rcases h2 with rfl | ⟨_, _, _, _, _, _, h3, _⟩
    · exact .ref _ off b h1
    · cases h3
  | elt i ep k f u ep' sz l hl h1 h2 h3 =>
    obtain ⟨l', h4, h5⟩ := hΓ i (by simp [PV.names]) _ hl
    rcases h5 with rfl | ⟨_, _, _, ep2, sz2, m2, h6, rfl, h7⟩
    · exact .elt _ ep k f u ep' sz l h4 h1 h2 h3
    · cases h6
      exact .elt _ ep k f u ep2 sz2 m2 h4 (by omega) h2 (fun e => by omega)
  | own i ep off n c u ep' sz l hl h1 h2 h3 =>
    obtain ⟨l', h4, h5⟩ := hΓ i (by simp [PV.names]) _ hl
    rcases h5 with rfl | ⟨_, _, _, ep2, sz2, m2, h6, rfl, h7⟩
    · exact .own _ ep off n c u ep' sz l h4 h1 h2 h3
    · cases h6
      exact .own _ ep off n c u ep2 sz2 m2 h4 (by omega) h2 (fun e => by omega)
  | mp i b hb =>
    obtain ⟨l', h1, h2⟩ := hΓ i (by simp [PV.names]) _ hb
    rcases h2 with rfl | ⟨_, _, _, _, _, _, h3, _⟩
    · exact .mp _ b h1
    · cases h3
  | ifc t u p _ ih => exact .ifc t u _ (ih (hk.imp_left fun h => by simpa [PV.flat] using h) hΓ)
theorem SlotRep.ren {t : Nat} {u u' : Value} {p : PV} (hs : SlotRep 0 w R Γ t u p) (ho : p.isObj = true) (hk : p.flat = true ∨ ∀ b o, R b o → R' b o ∧ w'.cell? ⟨b, o, none⟩ = w.cell? ⟨b, o, none⟩)
    (hΓ : ∀ i ∈ p.names, ∀ l, Γ i = some l → ∃ l', Γ' (π i) = some l' ∧ Loc.le l l') (ht : Γ' (π t) = Γ t) (hb : ∀ l b, Γ t = some l → l.blk = some b → w'.heap[b]? = w.heap[b]?) (N : Nat) : SlotRep N w' R' Γ' (π t) u' (p.ren π) := by
  have parts : ∀ {cs : List PV} {r : Nat → Option Value}, (flatL cs = true ∨ ∀ b o, R b o → R' b o ∧ w'.cell? ⟨b, o, none⟩ = w.cell? ⟨b, o, none⟩) → (∀ i ∈ namesL cs, ∀ l, Γ i = some l → ∃ l', Γ' (π i) = some l' ∧ Loc.le l l') →
      (∀ (j : Nat) (x : Value) (p : PV), r j = some x → cs[j]? = some p → Rep w R Γ x p) → ∀ (j : Nat) (x : Value) (q : PV), r j = some x → (renL π cs)[j]? = some q → Rep w' R' Γ' x q := fun hk hΓ hr j x q hx hq => by
    rw [renL_get] at hq
    simp only [Option.map_eq_some_iff] at hq
    obtain ⟨p, hp, rfl⟩ := hq
    exact (hr j x p hx hp).ren (hk.imp_left fun h => flatL_mem h p (List.mem_of_getElem? hp)) fun i hi => hΓ i (mem_namesL.2 ⟨p, List.mem_of_getElem? hp, hi⟩)
  have ones : ∀ {cs : List PV}, (∀ p ∈ cs, p.one = true) → ∀ q ∈ renL π cs, q.one = true := fun hc q hq => by
    obtain ⟨p, hp, rfl⟩ := renL_mem hq
    rw [PV.ren_one]; exact hc p hp
  cases p with
  | box fl cs =>
    obtain ⟨b, us, ty, h1, h2, h3, h4, h5, h6⟩ := hs
    exact ⟨b, us, ty, ht.trans h1, fun e => by have := (h2 e).1; omega, (hb _ b h1 rfl).trans h3, by rw [renL_length]; exact h4, ones h5, parts (r := fun j => us[j]?) (hk.imp_left fun h => by simpa [PV.flat] using h) (fun i hi => hΓ i (by simpa [PV.names] using hi)) h6⟩
  | map fl ks us =>
    obtain ⟨b, es, clock, h1, h2, h3, h4, h5, h6, h7⟩ := hs
    refine ⟨b, es, clock, ht.trans h1, fun e => by have := (h2 e).1; omega, (hb _ b h1 rfl).trans h3, by rw [renL_length]; exact h4, by rw [renL_length]; exact h5, fun j x q hx hq => ?_, fun j x q hx hq => ?_⟩
    · exact parts (r := fun j => (es[j]?).map (·.key)) (hk.imp_left fun h => by simp only [PV.flat, Bool.and_eq_true] at h; exact h.1) (fun i hi => hΓ i (by simp only [PV.names, List.mem_append]; exact .inl hi)) (fun j u p hu hp => by
        simp only [Option.map_eq_some_iff] at hu
        obtain ⟨y, hy, rfl⟩ := hu
        exact h6 j y p hy hp) j x.key q (by simp [hx]) hq
    · exact parts (r := fun j => (es[j]?).map (·.val)) (hk.imp_left fun h => by simp only [PV.flat, Bool.and_eq_true] at h; exact h.2) (fun i hi => hΓ i (by simp only [PV.names, List.mem_append]; exact .inr hi)) (fun j u p hu hp => by
        simp only [Option.map_eq_some_iff] at hu
        obtain ⟨y, hy, rfl⟩ := hu
        exact h7 j y p hy hp) j x.val q (by simp [hx]) hq
  | rows fl ep e sz rs =>
    obtain ⟨l, h1, h2, h3, h4, h5⟩ := hs
    refine ⟨l, ht.trans h1, fun ep0 n0 e => by have := (h2 ep0 n0 e).1; omega, fun r hr => ?_, h4, ?_⟩
    · obtain ⟨i, hi⟩ := List.mem_iff_getElem?.1 hr
      rw [renLL_get] at hi
      simp only [Option.map_eq_some_iff] at hi
      obtain ⟨r', hr', rfl⟩ := hi
      have := h3 r' (List.mem_of_getElem? hr')
      exact ⟨by rw [renL_length]; exact this.1, ones this.2⟩
    · cases l with
      | none => subst h5; rfl
      | some bc =>
        obtain ⟨b, cap⟩ := bc
        obtain ⟨us, g1, g2, g3, g4, g5⟩ := h5
        refine ⟨us, (hb _ b h1 rfl).trans g1, by rw [renLL_length]; exact g2, g3, g4, fun i j r q x hr hq hx => ?_⟩
        rw [renLL_get] at hr
        simp only [Option.map_eq_some_iff] at hr
        obtain ⟨r', hr', rfl⟩ := hr
        exact parts (r := fun j => us[i * sz + j]?) (hk.imp_left fun h => flatLL_mem (by simpa [PV.flat] using h) r' (List.mem_of_getElem? hr')) (fun k hk => hΓ k (by simp only [PV.names]; exact mem_namesLL.2 ⟨r', List.mem_of_getElem? hr', hk⟩)) (fun j x p hx hp => g5 i j r' p x hr' hp hx) j x q hx hq
  | _ => cases ho
def frame0 (M : Nat) (args : List PV) (H : PF) : PF := renL (M + ·) args ++ List.replicate (M - args.length) .undef ++ renL (M + ·) H
def base0 (Prot : Nat → Prop) (w : World) (R : Nat → Nat → Prop) (Γ : Nat → Option Loc) (M : Nat) : Base := ⟨Prot, w, R, fun i => if M ≤ i then Γ (i - M) else none, M, []⟩
theorem Sim.enter {Prot : Nat → Prop} {M : Nat} (h : Sim 0 ⟨Prot, w, R, Γ, 0, []⟩ R Γ noAct w f) {vs : List Value} {args : List PV} (hl : vs.length = args.length) (hargs : ∀ (i : Nat) (u : Value) (p : PV), vs[i]? = some u → args[i]? = some p → Rep w R Γ u p) (hN : args.length ≤ N) (hM : N ≤ M) :
    Sim N (base0 Prot w R Γ M) R (fun i => if M ≤ i then Γ (i - M) else none) { tmps := vs.toArray ++ Array.replicate (N - vs.toArray.size) undef, defers := [] } w (frame0 M args f) := by
  have hk : ∀ b o, R b o → R b o ∧ w.cell? ⟨b, o, none⟩ = w.cell? ⟨b, o, none⟩ := fun b o hb => ⟨hb, rfl⟩
  have hΓ : ∀ i, (fun i => if M ≤ i then Γ (i - M) else none) (M + i) = Γ i := fun i => by
    dsimp only
    rw [if_pos (by omega), Nat.add_sub_cancel_left]
  have hlen : (renL (M + ·) args ++ List.replicate (M - args.length) PV.undef).length = M := by simp [renL_length]; omega
  have hget : ∀ t q, (frame0 M args f)[t]? = some q → (t < args.length ∧ ∃ p, args[t]? = some p ∧ q = p.ren (M + ·)) ∨ (M ≤ t ∧ ∃ p, f[t - M]? = some p ∧ q = p.ren (M + ·)) ∨ q = .undef := fun t q hq => by
    unfold frame0 at hq
    by_cases h1 : t < args.length
    · rw [List.append_assoc, List.getElem?_append_left (by rw [renL_length]; exact h1), renL_get] at hq
      simp only [Option.map_eq_some_iff] at hq
      obtain ⟨p, hp, rfl⟩ := hq
      exact .inl ⟨h1, p, hp, rfl⟩
    · by_cases h2 : t < M
      · rw [List.append_assoc, List.getElem?_append_right (by rw [renL_length]; omega), List.getElem?_append_left (by simp [renL_length]; omega), List.getElem?_replicate] at hq
        split at hq
        · exact .inr (.inr (Option.some.inj hq).symm)
        · cases hq
      · rw [List.getElem?_append_right (by omega), hlen, renL_get] at hq
        simp only [Option.map_eq_some_iff] at hq
        obtain ⟨p, hp, rfl⟩ := hq
        exact .inr (.inl ⟨by omega, p, hp, rfl⟩)
  have hΓs : ∀ i l, (fun i => if M ≤ i then Γ (i - M) else none) i = some l → M ≤ i ∧ Γ (i - M) = some l := fun i l hi => by
    dsimp only at hi
    split at hi
    · exact ⟨‹_›, hi⟩
    · cases hi
  have hnm : ∀ {p : PV}, ∀ i ∈ p.names, ∀ l, Γ i = some l → ∃ l', (fun i => if M ≤ i then Γ (i - M) else none) (M + i) = some l' ∧ Loc.le l l' := fun i _ l hl => ⟨l, (hΓ i).trans hl, Loc.le_refl l⟩
  refine ⟨by simp; omega, by simp only [frame0]; rw [List.length_append, hlen]; omega, fun t q hq => ?_, fun i j l m b hi hj hl hm => ?_, fun i l hi => ?_, h.bnd, h.sub, h.kept, h.prot, hM, fun j l hj hl => ⟨l, hl, Loc.le_refl l⟩, rfl⟩
  · rcases hget t q hq with ⟨ht, p, hp, rfl⟩ | ⟨ht, p, hp, rfl⟩ | rfl
    · have hu : vs[t]? = some (vs[t]'(by omega)) := List.getElem?_eq_getElem (by omega)
      have hr := (hargs t _ p hu hp).ren (π := (M + ·)) (Γ' := fun i => if M ≤ i then Γ (i - M) else none) (.inr hk) (fun i hi => hnm (p := p) i hi)
      have he : (vs.toArray ++ Array.replicate (N - vs.toArray.size) undef).getD t undef = vs[t]'(by omega) := by
        rw [Array.getD_eq_getD_getElem?, Array.getElem?_append_left (by simpa using (by omega : t < vs.length))]
        simp [hu]
      dsimp only
      rw [he]
      exact hr.slot
    · have hs := h.slot _ p hp
      have hmt : M + (t - M) = t := by omega
      by_cases ho : p.isObj = true
      · have := hs.ren (π := (M + ·)) (Γ' := fun i => if M ≤ i then Γ (i - M) else none) (u' := (vs.toArray ++ Array.replicate (N - vs.toArray.size) undef).getD t undef) ho (.inr hk) (fun i hi => hnm (p := p) i hi) (hΓ _) (fun _ _ _ _ => rfl) N
        rw [hmt] at this
        exact this
      · have hv := (SlotRep.val (by simpa using ho) hs).ren (π := (M + ·)) (Γ' := fun i => if M ≤ i then Γ (i - M) else none) (.inr hk) (fun i hi => hnm (p := p) i hi)
        have e0 : (noAct.tmps.getD (t - M) undef) = undef := by simp [noAct]
        have e1 : (vs.toArray ++ Array.replicate (N - vs.toArray.size) undef).getD t undef = undef := by
          rw [Array.getD_eq_getD_getElem?, Array.getElem?_eq_none (by simp; omega)]; rfl
        rw [e0] at hv
        dsimp only
        rw [e1]
        exact hv.slot
    · exact (Rep.undef _).slot
  · obtain ⟨h1, h2⟩ := hΓs i l hi
    obtain ⟨h3, h4⟩ := hΓs j m hj
    have := h.inj _ _ l m b h2 h4 hl hm
    omega
  · obtain ⟨h1, h2⟩ := hΓs i l hi
    obtain ⟨⟨p, hp, ho⟩, h3⟩ := h.own _ l h2
    refine ⟨⟨p.ren (M + ·), ?_, by rw [PV.ren_obj]; exact ho⟩, h3⟩
    unfold frame0
    rw [List.getElem?_append_right (by omega), hlen, renL_get, hp]
    rfl
end
end Go.Qg

namespace Go.Qg
open Go.RowKit (Below)
def tgtAt (H : PF) (κ : List Nat) (gone : Nat → Bool) : Tgt := ⟨H, fun j => κ[j]?, gone⟩
def PV.bare : PV → Bool
  | .box h _ => !h
  | .rows h _ _ _ _ => h.isNone
  | .map h _ _ => !h
  | _ => false
def outF (f : PF) (T : Tgt) (d : Nat) : List PV → List Nat → Prop
  | [], [] => True
  | q :: H, s :: κ => (∃ p, f[s]? = some p ∧ q.bare = true ∧ p.isObj = true ∧ vo f T d s q p) ∧ outF f T d H κ
  | _, _ => False
theorem outF_length {f : PF} {T : Tgt} {d : Nat} : ∀ {H : List PV} {κ : List Nat}, outF f T d H κ → H.length = κ.length
  | [], [], _ => rfl
  | q :: H, s :: κ, h => by simp [outF_length h.2]
  | [], _ :: _, h => h.elim
  | _ :: _, [], h => h.elim
theorem outF_get {f : PF} {T : Tgt} {d : Nat} : ∀ {H : List PV} {κ : List Nat}, outF f T d H κ → ∀ (i : Nat) (q : PV), H[i]? = some q → ∃ s p, κ[i]? = some s ∧ f[s]? = some p ∧ q.bare = true ∧ p.isObj = true ∧ vo f T d s q p
  | [], [], _, i, q, hq => by simp at hq
  | q' :: H, s :: κ, h, 0, q, hq => by
    simp at hq; subst hq
    obtain ⟨p, h1, h2, h3, h4⟩ := h.1
    exact ⟨s, p, rfl, h1, h2, h3, h4⟩
  | q' :: H, s :: κ, h, i + 1, q, hq => by
    obtain ⟨s', p, h1, h2⟩ := outF_get h.2 i q (by simpa using hq)
    exact ⟨s', p, by simpa using h1, h2⟩
  | [], _ :: _, h, _, _, _ => h.elim
  | _ :: _, [], h, _, _, _ => h.elim
def Γout (Γ : Nat → Option Loc) (H : PF) (κ : List Nat) : Nat → Option Loc := fun j =>
  match κ[j]? with
  | none => none
  | some s => match H[j]? with
    | some (.rows _ ep _ _ _) => match Γ s with
      | some (.rows _ sz l) => some (.rows ep sz l)
      | _ => none
    | some _ => Γ s
    | none => none
def freedAt (R : Nat → Nat → Prop) (Γ : Nat → Option Loc) (gone : Nat → Bool) : Nat → Nat → Prop := fun b o => R b o ∨ ∃ s l, gone s = true ∧ Γ s = some l ∧ l.blk = some b
section
variable {P : Program} {N : Nat} {B : Base} {w w' : World} {R R' : Nat → Nat → Prop} {Γ Γ' : Nat → Option Loc} {a : Act} {f H : PF} {d : Nat} {κ : List Nat} {gone : Nat → Bool}
theorem Γout_blk {i b : Nat} {l : Loc} (h : Γout Γ H κ i = some l) (hb : l.blk = some b) : ∃ s m, κ[i]? = some s ∧ Γ s = some m ∧ m.blk = some b := by
  unfold Γout at h
  split at h
  · cases h
  rename_i s hs
  split at h
  · split at h
    · rename_i ep' sz' l' hΓ
      obtain rfl := Option.some.inj h
      exact ⟨s, _, hs, hΓ, hb⟩
    · cases h
  · exact ⟨s, l, hs, h, hb⟩
  · cases h
theorem tgtAt_ok (hout : outF f (tgtAt H κ gone) d H κ) : TgtOk f (tgtAt H κ gone) R (freedAt R Γ gone) Γ (Γout Γ H κ) := by
  refine ⟨fun b o hb => .inl hb, fun s l b hg hΓ hb o => .inr ⟨s, l, hg, hΓ, hb⟩, fun i s l hs hΓ he => ?_, fun i s ep ep' sz l hs hΓ he => ?_, fun i ep hh e sz hs hg => ?_⟩
  · have hs' : κ[i]? = some s := hs
    have hi : i < H.length := by rw [outF_length hout]; exact lt_of_get? hs'
    obtain ⟨s', p, h1, h2, h3, h4, h5⟩ := outF_get hout i _ (List.getElem?_eq_getElem hi)
    rw [hs'] at h1
    obtain rfl := Option.some.inj h1
    have hq : H[i]? = some (H[i]) := List.getElem?_eq_getElem hi
    generalize H[i] = q at hq h3 h5
    cases q with
    | rows fl ep e sz rs =>
      exfalso
      cases p with
      | rows => simp [epAt, h2] at he
      | box => exact h5
      | map => exact h5
      | _ => cases h4
    | box => simp only [Γout, hs', hq]; exact hΓ
    | map => simp only [Γout, hs', hq]; exact hΓ
    | _ => cases h3
  · have hs' : κ[i]? = some s := hs
    obtain ⟨fl, e, sz', rs, hg⟩ := epAt_some he
    have hg' : H[i]? = some (.rows fl ep' e sz' rs) := hg
    simp only [Γout, hs', hg', hΓ]
  · have hs' : κ[i]? = none := hs
    have hg' : H[i]? = some (.rows hh ep e sz []) := hg
    have := lt_of_get? hg'
    rw [outF_length hout] at this
    rw [List.getElem?_eq_getElem this] at hs'
    cases hs'
theorem Sim.leave (h : Sim N B R Γ a w f) (hout : outF f (tgtAt H κ gone) d H κ) (hκ : κ.Nodup) (hgone : ∀ s ∈ κ, gone s = false) : Sim 0 ⟨B.Prot, B.w0, B.R0, fun _ => none, 0, []⟩ (freedAt R Γ gone) (Γout Γ H κ) noAct w H ∧
    ∀ (q p : PV) (u : Value), vw f (tgtAt H κ gone) d q p → Rep w R Γ u p → Rep w (freedAt R Γ gone) (Γout Γ H κ) u q := by
  have ht : TgtOk f (tgtAt H κ gone) R (freedAt R Γ gone) Γ (Γout Γ H κ) := tgtAt_ok hout
  have all : ∀ {us : List Value} {qs ps : List PV}, us.length = ps.length → vwAll (vw f (tgtAt H κ gone) d) qs ps → (∀ (i : Nat) (u : Value) (p : PV), us[i]? = some u → ps[i]? = some p → Rep w R Γ u p) →
      us.length = qs.length ∧ ∀ (i : Nat) (u : Value) (q : PV), us[i]? = some u → qs[i]? = some q → Rep w (freedAt R Γ gone) (Γout Γ H κ) u q := fun hl hv hr =>
    ⟨hl.trans (vwAll_length hv).symm, fun i u q hu hq => by obtain ⟨p, hp, hv⟩ := vwAll_get hv i q hq; exact vw_sound h ht d q p u hv (hr i u p hu hp)⟩
  refine ⟨?_, fun q p u hv hr => vw_sound h ht d q p u hv hr⟩
  refine ⟨rfl, Nat.zero_le _, fun t q hq => ?_, fun i j l m b hi hj hl hm => ?_, fun i l hi => ?_, fun b o hbo => ?_, fun b o hbo => ?_, h.kept, h.prot, Nat.le_refl _, fun j l _ hl => (by cases hl), rfl⟩
  · obtain ⟨s, p, hs, hp, hbare, hobj, hv⟩ := outF_get hout t q hq
    cases q with
    | box fl qs =>
      cases p with
      | box fl' ps =>
        obtain ⟨e1, e2, e3⟩ := hv
        obtain ⟨b, vs, ty, h1, h2, h3, h4, h5, h6⟩ := h.slot s _ hp
        obtain ⟨l1, l2⟩ := all (us := vs.toList) (by simpa using h4) e2 (fun i u p hu hp => h6 i u p (by simpa using hu) hp)
        exact ⟨b, vs, ty, by simp only [Γout, hs, hq]; exact h1, fun e => by simp [PV.bare, e] at hbare, h3, by simpa using l1, fun p hp => List.all_eq_true.1 e3 p hp, fun j x p hx hp => l2 j x p (by simpa using hx) hp⟩
      | _ => exact hv.elim
    | map fl ks vs =>
      cases p with
      | map fl' ks' vs' =>
        obtain ⟨e1, e2, e3⟩ := hv
        obtain ⟨b, es, clock, h1, h2, h3, h4, h5, h6, h7⟩ := h.slot s _ hp
        obtain ⟨l1, l2⟩ := all (us := es.toList.map (·.key)) (by simpa using h4) e2 (fun i u p hu hp => by
          rw [List.getElem?_map] at hu
          simp only [Option.map_eq_some_iff] at hu
          obtain ⟨x, hx, rfl⟩ := hu
          exact h6 i x p (by simpa using hx) hp)
        obtain ⟨l3, l4⟩ := all (us := es.toList.map (·.val)) (by simpa using h5) e3 (fun i u p hu hp => by
          rw [List.getElem?_map] at hu
          simp only [Option.map_eq_some_iff] at hu
          obtain ⟨x, hx, rfl⟩ := hu
          exact h7 i x p (by simpa using hx) hp)
        exact ⟨b, es, clock, by simp only [Γout, hs, hq]; exact h1, fun e => by simp [PV.bare, e] at hbare, h3, by simpa using l1, by simpa using l3, fun j x p hx hp => l2 j x.key p (by rw [List.getElem?_map, Array.getElem?_toList, hx]; rfl) hp, fun j x p hx hp => l4 j x.val p (by rw [List.getElem?_map, Array.getElem?_toList, hx]; rfl) hp⟩
      | _ => exact hv.elim
    | rows fl ep e sz rs =>
      cases p with
      | rows fl' ep' e' sz' rs' =>
        obtain ⟨e1, _, rfl, rfl, e4, e5⟩ := hv
        obtain ⟨l, h1, h2, h3, h4, h5⟩ := h.slot s _ hp
        refine ⟨l, by simp only [Γout, hs, hq, h1], fun ep0 n0 he => by simp [PV.bare, he] at hbare, fun r hr => ?_, h4, ?_⟩
        · obtain ⟨i, hi⟩ := List.mem_iff_getElem?.1 hr
          obtain ⟨r', hr', hv'⟩ := vwAllL_get e4 i r hi
          exact ⟨(vwAll_length hv').trans (h3 r' (List.mem_of_getElem? hr')).1, fun p hp => List.all_eq_true.1 (List.all_eq_true.1 e5 r hr) p hp⟩
        · cases l with
          | none =>
            subst h5
            exact List.eq_nil_of_length_eq_zero (vwAllL_length e4)
          | some bc =>
            obtain ⟨b, cap⟩ := bc
            obtain ⟨vs, g1, g2, g3, g4, g5⟩ := h5
            refine ⟨vs, g1, by rw [vwAllL_length e4]; exact g2, g3, g4, fun i j r p x hr hp hx => ?_⟩
            obtain ⟨r', hr', hv'⟩ := vwAllL_get e4 i r hr
            obtain ⟨p', hp', hv''⟩ := vwAll_get hv' j p hp
            exact vw_sound h ht d p p' x hv'' (g5 i j r' p' x hr' hp' hx)
      | box => exact hv.elim
      | map => exact hv.elim
      | _ => cases hobj
    | _ => cases hbare
  · obtain ⟨s, l', h1, h2, h3⟩ := Γout_blk hi hl
    obtain ⟨s', m', h4, h5, h6⟩ := Γout_blk hj hm
    obtain rfl := h.inj s s' l' m' b h2 h5 h3 h6
    have hlt := lt_of_get? h1
    exact (List.getElem?_inj hlt hκ).1 (h1.trans h4.symm)
  · have hj : ∃ q, H[i]? = some q ∧ q.isObj = true := by
      unfold Γout at hi
      split at hi
      · cases hi
      rename_i s hs
      cases hq : H[i]? with
      | none => rw [hq] at hi; cases hi
      | some q =>
        refine ⟨q, rfl, ?_⟩
        obtain ⟨s', p, _, _, hbare, _⟩ := outF_get hout i q hq
        cases q <;> first | rfl | cases hbare
    refine ⟨hj, fun b hb => ?_⟩
    obtain ⟨s, l', h0, h1, h2⟩ := Γout_blk hi hb
    obtain ⟨h3, h4, h5⟩ := (h.own s l' h1).2 b h2
    refine ⟨h3, h4, fun o hR' => ?_⟩
    rcases hR' with hR' | ⟨s', m, hs, hm, hmb⟩
    · exact h5 o hR'
    · obtain rfl := h.inj s' s m l' b hm h1 hmb h2
      rw [hgone s' (List.mem_of_getElem? h0)] at hs; cases hs
  · rcases hbo with hbo | ⟨s, l, _, hs, hb⟩
    · exact h.bnd b o hbo
    · exact ((h.own s l hs).2 b hb).2.1
  · rcases hbo with hbo | ⟨s, l, _, hs, hb⟩
    · exact h.sub b o hbo
    · exact .inr ((h.own s l hs).2 b hb).1
theorem Γout_le (h : Sim N B R Γ a w f) (hout : outF f (tgtAt H κ gone) d H κ) {j s : Nat} (hs : κ[j]? = some s) {l : Loc} (hl : Γ s = some l) : ∃ l', Γout Γ H κ j = some l' ∧ Loc.le l l' := by
  have hi : j < H.length := by rw [outF_length hout]; exact lt_of_get? hs
  have hq : H[j]? = some (H[j]) := List.getElem?_eq_getElem hi
  obtain ⟨s', p, h1, h2, h3, h4, h5⟩ := outF_get hout j _ hq
  rw [hs] at h1
  obtain rfl := Option.some.inj h1
  generalize H[j] = q at hq h3 h5
  cases q with
  | rows fl ep e sz rs =>
    cases p with
    | rows fl' ep' e' sz' rs' =>
      obtain ⟨_, hep, _⟩ := h5
      obtain ⟨l3, g3, _⟩ := h.slot s _ h2
      rw [hl] at g3
      obtain rfl := Option.some.inj g3
      refine ⟨.rows ep sz' l3, by simp only [Γout, hs, hq, hl], ?_⟩
      rcases Nat.lt_or_eq_of_le hep with he | rfl
      · exact Loc.rows_le he
      · exact Loc.le_refl _
    | box => exact h5.elim
    | map => exact h5.elim
    | _ => cases h4
  | box => exact ⟨l, by simp only [Γout, hs, hq]; exact hl, Loc.le_refl l⟩
  | map => exact ⟨l, by simp only [Γout, hs, hq]; exact hl, Loc.le_refl l⟩
  | _ => cases h3
theorem Sim.rebase {Prot : Nat → Prop} {w0 : World} {R0 : Nat → Nat → Prop} {Γa Γ0 : Nat → Option Loc} (h : Sim 0 ⟨Prot, w0, R0, Γa, 0, []⟩ R Γ a w f) (hb : ∀ j l, Γ0 j = some l → ∃ l', Γ j = some l' ∧ Loc.le l l') : Sim 0 ⟨Prot, w0, R0, Γ0, 0, []⟩ R Γ a w f :=
  ⟨h.size, h.len, h.slot, h.inj, h.own, h.bnd, h.sub, h.kept, h.prot, h.lo, fun j l _ hl => hb j l hl, h.defers⟩
end
end Go.Qg

namespace Go.Qg
open Go.RowKit (Below)
def PV.flagOf : PV → PV → PV
  | .box h _, .box _ cs => .box h cs
  | .map h _ _, .map _ ks vs => .map h ks vs
  | .rows h _ _ _ _, .rows _ ep e sz rs => .rows h ep e sz rs
  | _, q => q
def placeAll (r : Nat → Nat) : List Nat → List PV → PF → PF
  | s :: π, q :: H, f => placeAll r π H (f.set s ((f.getD s .undef).flagOf (q.ren r)))
  | _, _, f => f
theorem placeAll_length (r : Nat → Nat) : ∀ (π : List Nat) (H : List PV) (f : PF), (placeAll r π H f).length = f.length
  | [], _, f => by simp [placeAll]
  | s :: π, [], f => by simp [placeAll]
  | s :: π, q :: H, f => by simp only [placeAll]; rw [placeAll_length r π H]; simp
theorem placeAll_out (r : Nat → Nat) {t : Nat} : ∀ (π : List Nat) (H : List PV) (f : PF), t ∉ π → (placeAll r π H f)[t]? = f[t]?
  | [], _, f, _ => by simp [placeAll]
  | s :: π, [], f, _ => by simp [placeAll]
  | s :: π, q :: H, f, h => by
    simp only [List.mem_cons, not_or] at h
    simp only [placeAll]
    rw [placeAll_out r π H _ h.2, List.getElem?_set_ne (Ne.symm h.1)]
theorem placeAll_in (r : Nat → Nat) {s : Nat} {q : PV} : ∀ (π : List Nat) (H : List PV) (f : PF) (j : Nat), π.Nodup → π[j]? = some s → H[j]? = some q → s < f.length → (placeAll r π H f)[s]? = some ((f.getD s .undef).flagOf (q.ren r))
  | [], _, f, j, _, h, _, _ => by simp at h
  | s' :: π, [], f, j, _, _, h, _ => by simp at h
  | s' :: π, q' :: H, f, 0, hn, h1, h2, hl => by
    simp only [List.getElem?_cons_zero, Option.some.injEq] at h1 h2
    subst h1 h2
    simp only [placeAll]
    rw [placeAll_out r π H _ (List.nodup_cons.1 hn).1, List.getElem?_set_self hl]
  | s' :: π, q' :: H, f, j + 1, hn, h1, h2, hl => by
    simp only [List.getElem?_cons_succ] at h1 h2
    have hne : s' ≠ s := fun e => (List.nodup_cons.1 hn).1 (by rw [e]; exact List.mem_of_getElem? h1)
    simp only [placeAll]
    rw [placeAll_in r π H _ j (List.nodup_cons.1 hn).2 h1 h2 (by simpa using hl)]
    congr 2
    simp [List.getD, List.getElem?_set_ne hne]
def lentProt (w : World) (Γ : Nat → Option Loc) : Nat → Prop := fun b => b < w.heap.size ∧ ∀ j l, Γ j = some l → l.blk ≠ some b
def Γput (Γ Γ2 : Nat → Option Loc) (π : List Nat) : Nat → Option Loc := fun s => if s ∈ π then Γ2 (π.idxOf s) else Γ s
theorem Γput_in {Γ Γ2 : Nat → Option Loc} {π : List Nat} (hn : π.Nodup) {j s : Nat} (h : π[j]? = some s) : Γput Γ Γ2 π s = Γ2 j := by
  have hlt := lt_of_get? h
  have he : π[j] = s := by rw [List.getElem?_eq_getElem hlt] at h; exact Option.some.inj h
  unfold Γput
  rw [if_pos (List.mem_of_getElem? h), ← he, hn.idxOf_getElem]
theorem Γput_out {Γ Γ2 : Nat → Option Loc} {π : List Nat} {s : Nat} (h : s ∉ π) : Γput Γ Γ2 π s = Γ s := by
  unfold Γput; rw [if_neg h]
theorem getD_of_get? {π : List Nat} {j s : Nat} (h : π[j]? = some s) : π.getD j 0 = s := by simp [List.getD, h]
theorem objAt_false {f : PF} {s : Nat} (h : objAt f s = false) {p : PV} (hp : f[s]? = some p) : p.isObj = false := by
  simpa [objAt, hp] using h
section
variable {P : Program} {N : Nat} {B : Base} {w w' : World} {R R' R2 : Nat → Nat → Prop} {Γ Γ' Γ2 : Nat → Option Loc} {a : Act} {f g H H2 : PF} {d : Nat} {π ι news : List Nat} {gone : Nat → Bool}
theorem Sim.lend (h : Sim N B R Γ a w f) (hout : outF f (tgtAt H ι gone) d H ι) (hι : ι.Nodup) (hgone : ∀ s ∈ ι, gone s = false) :
    Sim 0 ⟨lentProt w (Γout Γ H ι), w, freedAt R Γ gone, Γout Γ H ι, 0, []⟩ (freedAt R Γ gone) (Γout Γ H ι) noAct w H ∧ (∀ b o, freedAt R Γ gone b o → lentProt w (Γout Γ H ι) b) := by
  obtain ⟨h1, _⟩ := h.leave hout hι hgone
  refine ⟨⟨h1.size, h1.len, h1.slot, h1.inj, fun i l hl => ⟨(h1.own i l hl).1, fun b hb => ⟨fun hp => hp.2 i l hl hb, ((h1.own i l hl).2 b hb).2⟩⟩, h1.bnd, fun b o hb => .inl hb, Kept.refl _ _, fun b hb => hb.1, Nat.le_refl _, fun j l _ hl => ⟨l, hl, Loc.le_refl l⟩, rfl⟩, fun b o hb => ?_⟩
  exact ⟨h1.bnd b o hb, fun j l hl hlb => ((h1.own j l hl).2 b hlb).2.2 o hb⟩
def readBack (P1 : Nat → Prop) (R R2 : Nat → Nat → Prop) : Nat → Nat → Prop := fun b o => R b o ∨ (R2 b o ∧ ¬ P1 b)
theorem flagOf_obj {p q : PV} (h : q.isObj = true) : (p.flagOf q).isObj = true := by
  cases q <;> first | (cases p <;> rfl) | cases h
theorem Sim.mergeP {P1 : Nat → Prop} (h : Sim N B R Γ a w f) (hout : outF f (tgtAt H ι gone) d H ι) (hpr : ∀ b, B.Prot b → P1 b) (hRp : ∀ b o, R b o → P1 b) (hop : ∀ s l b, s ∉ ι → Γ s = some l → l.blk = some b → P1 b)
    (h2 : Sim 0 ⟨P1, w, freedAt R Γ gone, Γout Γ H ι, 0, []⟩ R2 Γ2 noAct w' H2) (hπ : (ι ++ news).Nodup) (hlen : H2.length = (ι ++ news).length) (hnews : ∀ s ∈ news, s < f.length ∧ objAt f s = false)
    (hmode : (∀ s, gone s = false) ∨ flatL H2 = true) (hobj : ∀ q ∈ H2, q.isObj = true) :
    Sim N B (readBack P1 R R2) (Γput Γ Γ2 (ι ++ news)) a w' (placeAll ((ι ++ news).getD · 0) (ι ++ news) H2 f) ∧
      ∀ (v : Value) (q : PV), ((∀ s, gone s = false) ∨ q.flat = true) → Rep w' R2 Γ2 v q → Rep w' (readBack P1 R R2) (Γput Γ Γ2 (ι ++ news)) v (q.ren ((ι ++ news).getD · 0)) := by
  have lp : ∀ b, P1 b → w'.heap[b]? = w.heap[b]? := h2.kept.block
  have hkR : ∀ b o, R b o → readBack P1 R R2 b o ∧ w'.cell? ⟨b, o, none⟩ = w.cell? ⟨b, o, none⟩ := fun b o hb => ⟨.inl hb, cell?_of_heap (lp b (hRp b o hb))⟩
  have hk2 : (∀ s, gone s = false) → ∀ b o, R2 b o → readBack P1 R R2 b o ∧ w'.cell? ⟨b, o, none⟩ = w'.cell? ⟨b, o, none⟩ := fun hg b o hb => by
    refine ⟨?_, rfl⟩
    rcases h2.sub b o hb with h0 | h0
    · rcases h0 with h0 | ⟨s, _, hs, _⟩
      · exact .inl h0
      · rw [hg s] at hs; cases hs
    · exact .inr ⟨hb, h0⟩
  have hk2' : ∀ {q : PV}, ((∀ s, gone s = false) ∨ q.flat = true) → (q.flat = true ∨ ∀ b o, R2 b o → readBack P1 R R2 b o ∧ w'.cell? ⟨b, o, none⟩ = w'.cell? ⟨b, o, none⟩) := fun hq => hq.elim (fun h => .inr (hk2 h)) .inl
  have hat : ∀ j l, Γ2 j = some l → ∃ s, (ι ++ news)[j]? = some s ∧ Γput Γ Γ2 (ι ++ news) s = some l := fun j l hl => by
    obtain ⟨⟨p, hp, _⟩, _⟩ := h2.own j l hl
    have hlt := lt_of_get? hp
    rw [hlen] at hlt
    have hs := List.getElem?_eq_getElem hlt
    exact ⟨_, hs, (Γput_in hπ hs).trans hl⟩
  have hren : ∀ i l, Γ2 i = some l → ∃ l', Γput Γ Γ2 (ι ++ news) ((ι ++ news).getD i 0) = some l' ∧ Loc.le l l' := fun i l hl => by
    obtain ⟨s, hs, he⟩ := hat i l hl
    exact ⟨l, by rw [getD_of_get? hs]; exact he, Loc.le_refl l⟩
  have hnm : ∀ i l, Γ i = some l → ∃ l', Γput Γ Γ2 (ι ++ news) i = some l' ∧ Loc.le l l' := fun i l hl => by
    by_cases hi : i ∈ ι ++ news
    · rcases List.mem_append.1 hi with hi | hi
      · obtain ⟨j, hj⟩ := List.mem_iff_getElem?.1 hi
        obtain ⟨l1, e1, e2⟩ := Γout_le h hout hj hl
        obtain ⟨l2, e3, e4⟩ := h2.base j l1 (Nat.zero_le _) e1
        have hj' : (ι ++ news)[j]? = some i := by rw [List.getElem?_append_left (lt_of_get? hj)]; exact hj
        exact ⟨l2, (Γput_in hπ hj').trans e3, Loc.le_trans e2 e4⟩
      · obtain ⟨⟨p, hp, ho⟩, _⟩ := h.own i l hl
        rw [objAt_false (hnews i hi).2 hp] at ho; cases ho
    · exact ⟨l, (Γput_out hi).trans hl, Loc.le_refl l⟩
  have hcase : ∀ i l, Γput Γ Γ2 (ι ++ news) i = some l → (∃ j, (ι ++ news)[j]? = some i ∧ Γ2 j = some l) ∨ (i ∉ ι ++ news ∧ Γ i = some l) := fun i l hl => by
    by_cases hi : i ∈ ι ++ news
    · obtain ⟨j, hj⟩ := List.mem_iff_getElem?.1 hi
      exact .inl ⟨j, hj, (Γput_in (Γ := Γ) (Γ2 := Γ2) hπ hj).symm.trans hl⟩
    · exact .inr ⟨hi, (Γput_out (Γ := Γ) (Γ2 := Γ2) hi).symm.trans hl⟩
  have hblk2 : ∀ j l b, Γ2 j = some l → l.blk = some b → ¬ P1 b := fun j l b hl hb => ((h2.own j l hl).2 b hb).1
  refine ⟨⟨h.size, by rw [placeAll_length]; exact h.len, fun t q hq => ?_, fun i j l m b hi hj hl hm => ?_, fun i l hi => ?_, fun b o hbo => ?_, fun b o hbo => ?_, h.kept.trans (h2.kept.mono hpr), h.prot, h.lo, fun j l hj hl => ?_, h.defers⟩,
    fun v q hq hr => hr.ren (hk2' hq) fun i _ l hl => hren i l hl⟩
  · by_cases ht : t ∈ ι ++ news
    · obtain ⟨j, hj⟩ := List.mem_iff_getElem?.1 ht
      have hjl := lt_of_get? hj
      rw [← hlen] at hjl
      have hp2 := List.getElem?_eq_getElem hjl
      have htl : t < f.length := by
        rcases List.mem_append.1 ht with hi | hi
        · obtain ⟨k, hk⟩ := List.mem_iff_getElem?.1 hi
          have : k < H.length := by rw [outF_length hout]; exact lt_of_get? hk
          obtain ⟨s', p, e1, e2, _⟩ := outF_get hout k _ (List.getElem?_eq_getElem this)
          rw [hk] at e1
          obtain rfl := Option.some.inj e1
          exact lt_of_get? e2
        · exact (hnews t hi).1
      rw [placeAll_in _ _ _ _ j hπ hj hp2 htl] at hq
      obtain rfl := Option.some.inj hq
      have hfl : H2[j].flat = true ∨ ∀ b o, R2 b o → readBack P1 R R2 b o ∧ w'.cell? ⟨b, o, none⟩ = w'.cell? ⟨b, o, none⟩ := hk2' (hmode.imp_right fun h => flatL_mem h _ (List.mem_of_getElem? hp2))
      have hs2 := h2.slot j _ hp2
      have hq2o : H2[j].isObj = true := hobj _ (List.mem_of_getElem? hp2)
      generalize H2[j] = q2 at hfl hs2 hq2o
      have hf : f[t]? = some (f.getD t .undef) := by simp [List.getD, List.getElem?_eq_getElem htl]
      have hsf := h.slot t _ hf
      have own : ∀ {ep0 n0 : Nat}, Rep w R Γ (a.tmps.getD t undef) (.own t ep0 0 n0 false) → Rep w' (readBack P1 R R2) (Γput Γ Γ2 (ι ++ news)) (a.tmps.getD t undef) (.own t ep0 0 n0 false) := fun hr => hr.mono hkR fun i hi l hl => by
        exact hnm i l hl
      by_cases ho : q2.isObj = true
      · have hs := hs2.ren (π := ((ι ++ news).getD · 0)) (R' := readBack P1 R R2) (w' := w') (Γ' := Γput Γ Γ2 (ι ++ news)) (u' := a.tmps.getD t undef) ho hfl (fun i _ l hl => hren i l hl)
          (by rw [getD_of_get? hj, Γput_in hπ hj]) (fun _ _ _ _ => rfl) N
        simp only [getD_of_get? hj] at hs
        generalize hfe : f.getD t .undef = p at hsf
        cases q2 with
        | box fl2 cs2 =>
          cases p with
          | box fl cs =>
            obtain ⟨b, us, ty, g1, g2, _⟩ := hsf
            obtain ⟨b', us', ty', k1, k2, k3⟩ := hs
            refine ⟨b', us', ty', k1, fun e => ⟨(g2 e).1, ?_⟩, k3⟩
            obtain ⟨l', e1, e2⟩ := hnm t _ g1
            rw [k1] at e1
            obtain rfl := Option.some.inj e1
            rcases e2 with e2 | ⟨_, _, _, _, _, _, e3, _⟩
            · obtain rfl := Loc.cells.inj e2
              exact (g2 e).2
            · cases e3
          | _ => exact hs
        | map fl2 ks2 vs2 =>
          cases p with
          | map fl ks vs =>
            obtain ⟨b, es, clock, g1, g2, _⟩ := hsf
            obtain ⟨b', es', clock', k1, k2, k3⟩ := hs
            refine ⟨b', es', clock', k1, fun e => ⟨(g2 e).1, ?_⟩, k3⟩
            obtain ⟨l', e1, e2⟩ := hnm t _ g1
            rw [k1] at e1
            obtain rfl := Option.some.inj e1
            rcases e2 with e2 | ⟨_, _, _, _, _, _, e3, _⟩
            · obtain rfl := Loc.map.inj e2
              exact (g2 e).2
            · cases e3
          | _ => exact hs
        | rows fl2 ep2 e2 sz2 rs2 =>
          cases p with
          | rows fl ep e sz rs =>
            obtain ⟨l, g1, g2, _⟩ := hsf
            obtain ⟨l', k1, k2, k3⟩ := hs
            exact ⟨l', k1, fun ep0 n0 he => ⟨(g2 ep0 n0 he).1, own (g2 ep0 n0 he).2⟩, k3⟩
          | _ => exact hs
        | _ => cases ho
      · exact (ho hq2o).elim
    · rw [placeAll_out _ _ _ _ ht] at hq
      refine (h.slot t q hq).mono hkR (fun i _ l hl => hnm i l hl) (fun _ => Γput_out ht) fun l b hl hb => ?_
      exact lp b (hop t l b (fun hi => ht (List.mem_append_left _ hi)) hl hb)
  · rcases hcase i l hi with ⟨i', h1, h1'⟩ | ⟨h1, h1'⟩ <;> rcases hcase j m hj with ⟨j', h3, h3'⟩ | ⟨h3, h3'⟩
    · obtain rfl := h2.inj i' j' l m b h1' h3' hl hm
      rw [h1] at h3
      exact Option.some.inj h3
    · exact (hblk2 i' l b h1' hl (hop j m b (fun hi => h3 (List.mem_append_left _ hi)) h3' hm)).elim
    · exact (hblk2 j' m b h3' hm (hop i l b (fun hi => h1 (List.mem_append_left _ hi)) h1' hl)).elim
    · exact h.inj i j l m b h1' h3' hl hm
  · rcases hcase i l hi with ⟨j, h1, h1'⟩ | ⟨h1, h1'⟩
    · obtain ⟨⟨p, hp, ho⟩, h3⟩ := h2.own j l h1'
      refine ⟨?_, fun b hb => ?_⟩
      · have htl : i < f.length := by
          rcases List.mem_append.1 (List.mem_of_getElem? h1) with hi | hi
          · obtain ⟨k, hk⟩ := List.mem_iff_getElem?.1 hi
            have : k < H.length := by rw [outF_length hout]; exact lt_of_get? hk
            obtain ⟨s', p, e1, e2, _⟩ := outF_get hout k _ (List.getElem?_eq_getElem this)
            rw [hk] at e1
            obtain rfl := Option.some.inj e1
            exact lt_of_get? e2
          · exact (hnews i hi).1
        exact ⟨_, placeAll_in _ _ _ _ j hπ h1 hp htl, flagOf_obj (by rw [PV.ren_obj]; exact ho)⟩
      · obtain ⟨g1, g2, g3⟩ := h3 b hb
        refine ⟨fun hp => g1 (hpr b hp), g2, fun o ho => ?_⟩
        rcases ho with ho | ⟨ho, _⟩
        · exact g1 (hRp b o ho)
        · exact g3 o ho
    · obtain ⟨⟨p, hp, ho⟩, h3⟩ := h.own i l h1'
      refine ⟨⟨p, by rw [placeAll_out _ _ _ _ h1]; exact hp, ho⟩, fun b hb => ?_⟩
      obtain ⟨g1, g2, g3⟩ := h3 b hb
      refine ⟨g1, Nat.lt_of_lt_of_le g2 h2.kept.size, fun o ho => ?_⟩
      rcases ho with ho | ⟨_, ho⟩
      · exact g3 o ho
      · exact ho (hop i l b (fun hi => h1 (List.mem_append_left _ hi)) h1' hb)
  · rcases hbo with hbo | ⟨hbo, _⟩
    · exact Nat.lt_of_lt_of_le (h.bnd b o hbo) h2.kept.size
    · exact h2.bnd b o hbo
  · rcases hbo with hbo | ⟨_, hbo⟩
    · exact h.sub b o hbo
    · exact .inr fun hp => hbo (hpr b hp)
  · obtain ⟨l1, e1, e2⟩ := h.base j l hj hl
    obtain ⟨l2, e3, e4⟩ := hnm j l1 e1
    exact ⟨l2, e3, Loc.le_trans e2 e4⟩
theorem Sim.merge (h : Sim N B R Γ a w f) (hout : outF f (tgtAt H ι gone) d H ι)
    (h2 : Sim 0 ⟨lentProt w (Γout Γ H ι), w, freedAt R Γ gone, Γout Γ H ι, 0, []⟩ R2 Γ2 noAct w' H2) (hπ : (ι ++ news).Nodup) (hlen : H2.length = (ι ++ news).length) (hnews : ∀ s ∈ news, s < f.length ∧ objAt f s = false)
    (hmode : (∀ s, gone s = false) ∨ flatL H2 = true) (hobj : ∀ q ∈ H2, q.isObj = true) :
    Sim N B (readBack (lentProt w (Γout Γ H ι)) R R2) (Γput Γ Γ2 (ι ++ news)) a w' (placeAll ((ι ++ news).getD · 0) (ι ++ news) H2 f) ∧
      ∀ (v : Value) (q : PV), ((∀ s, gone s = false) ∨ q.flat = true) → Rep w' R2 Γ2 v q → Rep w' (readBack (lentProt w (Γout Γ H ι)) R R2) (Γput Γ Γ2 (ι ++ news)) v (q.ren ((ι ++ news).getD · 0)) :=
  h.mergeP hout
    (fun b hb => ⟨Nat.lt_of_lt_of_le (h.prot b hb) h.kept.size, fun j l hl hlb => by
      obtain ⟨s, m, _, hm, hmb⟩ := Γout_blk hl hlb
      exact ((h.own s m hm).2 b hmb).1 hb⟩)
    (fun b o hb => ⟨h.bnd b o hb, fun j l hl hlb => by
      obtain ⟨s, m, _, hm, hmb⟩ := Γout_blk hl hlb
      exact ((h.own s m hm).2 b hmb).2.2 o hb⟩)
    (fun s l b hs hl hb => ⟨((h.own s l hl).2 b hb).2.1, fun j m hm hmb => by
      obtain ⟨s', m', hs', hm', hmb'⟩ := Γout_blk hm hmb
      obtain rfl := h.inj s s' l m' b hl hm' hb hmb'
      exact hs (List.mem_of_getElem? hs')⟩)
    h2 hπ hlen hnews hmode hobj
end
end Go.Qg
