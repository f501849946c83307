/-
  Lemmas and contracts that hold of the whole program: 9 texts in one.
  No condition.
-/
import Derived.WalkKit
import Derived.Deep.MidRow
import Derived.Laws.Slices
import Derived.Laws.Tables
import Derived.Laws.Cover3
import Derived.Laws.MakeOwn
set_option linter.all false

namespace Go.Qg
def seatTabs : List (Nat × (Array Value → Prop)) := [
 (1, fun cs => cs = ((List.range 20).map fun i => Value.int .u64 ((10 ^ i : Nat) : Int)).toArray)
]
def seatTyped (t : TypeId) : Bool := t == 114
end Go.Qg

namespace Go.Qg
open Go.RowKit (Below)
structure BoxF where
  own : Bool
  ty : Option TypeId
  deriving Inhabited
def BoxF.of (b : Bool) : BoxF := ⟨b, none⟩
instance : Coe Bool BoxF := ⟨BoxF.of⟩
def BoxF.fits (h h' : BoxF) : Prop := (h.own = true → h'.own = true) ∧ ∀ y, h.ty = some y → h'.ty = some y
def BoxF.mix (h h2 : BoxF) : BoxF := ⟨h.own, h2.ty⟩
def boxT (t : TypeId) : BoxF := bif seatTyped t then ⟨true, some t⟩ else BoxF.of true
@[simp] theorem BoxF.fits_of (a b : Bool) : BoxF.fits (BoxF.of a) (BoxF.of b) = (a = true → b = true) := by simp [BoxF.fits, BoxF.of]
@[simp] theorem BoxF.fits_ot (a b : Bool) (t : Option TypeId) : BoxF.fits (BoxF.of a) ⟨b, t⟩ = (a = true → b = true) := by simp [BoxF.fits, BoxF.of]
@[simp] theorem BoxF.fits_tt (a b : Bool) (t : Option TypeId) : BoxF.fits ⟨a, t⟩ ⟨b, t⟩ = (a = true → b = true) := by simp [BoxF.fits]
@[simp] theorem BoxF.mix_of (a b : Bool) : BoxF.mix (BoxF.of a) (BoxF.of b) = BoxF.of a := rfl
@[simp] theorem BoxF.mix_to (a b : Bool) (t : Option TypeId) : BoxF.mix ⟨a, t⟩ (BoxF.of b) = BoxF.of a := rfl
@[simp] theorem BoxF.own_of (a : Bool) : (BoxF.of a).own = a := rfl
@[simp] theorem BoxF.ty_of (a : Bool) : (BoxF.of a).ty = none := rfl
inductive PV where
  | undef
  | v (x : Value)
  | nil
  | agg (cs : List PV)
  | tup (cs : List PV)
  | sl (sz n : Nat) (f : Nat → List PV)
  | slc (sz n : Nat) (f : Nat → List PV)
  | rp (cs : List PV) (off : Nat)
  | clo (fn : Fn) (first cap : List PV)
  | ref (i off : Nat)
  | elt (i ep k f : Nat)
  | own (i ep off n : Nat) (c : Bool)
  | mp (i : Nat)
  | ifc (t : TypeId) (p : PV)
  | box (h : BoxF) (cs : List PV)
  | rows (h : Option (Nat × Nat)) (ep : Nat) (e : TypeId) (sz : Nat) (rs : List (List PV))
  | map (h : Bool) (ks vs : List PV)
  deriving Inhabited
def PV.one : PV → Bool
  | .v _ | .nil | .sl .. | .slc .. | .rp .. | .clo .. | .ref .. | .elt .. | .own .. | .mp _ | .ifc .. => true
  | _ => false
def PV.isObj : PV → Bool
  | .box .. | .rows .. | .map .. => true
  | _ => false
def PV.cells : PV → List PV
  | .agg cs => cs
  | p => [p]
mutual
def PV.names : PV → List Nat
  | .agg cs | .tup cs | .box _ cs => namesL cs
  | .map _ ks vs => namesL ks ++ namesL vs
  | .clo _ first cap => namesL first ++ namesL cap
  | .ref i _ | .elt i _ _ _ | .own i _ _ _ _ | .mp i => [i]
  | .ifc _ p => p.names
  | .rows _ _ _ _ rs => namesLL rs
  | _ => []
def namesL : List PV → List Nat
  | [] => []
  | p :: ps => p.names ++ namesL ps
def namesLL : List (List PV) → List Nat
  | [] => []
  | ps :: pss => namesL ps ++ namesLL pss
end
theorem mem_namesL {i : Nat} : ∀ {ps : List PV}, i ∈ namesL ps ↔ ∃ p ∈ ps, i ∈ p.names
  | [] => by simp [namesL]
  | p :: ps => by simp [namesL, mem_namesL (ps := ps)]
theorem mem_namesLL {i : Nat} : ∀ {pss : List (List PV)}, i ∈ namesLL pss ↔ ∃ ps ∈ pss, i ∈ namesL ps
  | [] => by simp [namesLL]
  | p :: ps => by simp [namesLL, mem_namesLL (pss := ps)]
def PV.free (p : PV) : Bool := p.names.isEmpty
theorem PV.free_names {p : PV} (h : p.free = true) : p.names = [] := by simpa [PV.free] using h
inductive Loc where
  | cells (b : Nat)
  | rows (ep sz : Nat) (l : Option (Nat × Nat))
  | map (b : Nat)
def Loc.blk : Loc → Option Nat
  | .cells b => some b
  | .rows _ _ l => l.map (·.1)
  | .map b => some b
def Loc.le (l l' : Loc) : Prop := l' = l ∨ ∃ ep sz m ep' sz' m', l = .rows ep sz m ∧ l' = .rows ep' sz' m' ∧ ep < ep'
theorem Loc.le_refl (l : Loc) : Loc.le l l := .inl rfl
theorem Loc.le_trans {a b c : Loc} (h : Loc.le a b) (k : Loc.le b c) : Loc.le a c := by
  rcases h with rfl | ⟨e1, s1, m1, e2, s2, m2, rfl, rfl, h1⟩
  · exact k
  · rcases k with rfl | ⟨e3, s3, m3, e4, s4, m4, h3, rfl, h4⟩
    · exact .inr ⟨_, _, _, _, _, _, rfl, rfl, h1⟩
    · cases h3
      exact .inr ⟨_, _, _, _, _, _, rfl, rfl, Nat.lt_trans h1 h4⟩
def OwnAt (l : Option (Nat × Nat)) (sz off n : Nat) (c : Bool) (u : Value) : Prop :=
  match l with
  | none => u = .slice none 0 0 ∧ n = 0 ∧ off = 0
  | some (b, cap) => u = .slice (some ⟨b, off * sz, none⟩) n (if c then n else cap - off) ∧ off + n ≤ cap
def EltAt (l : Option (Nat × Nat)) (sz k f : Nat) (u : Value) : Prop :=
  match l with
  | none => False
  | some (b, _) => u = .pointer (some ⟨b, k * sz + f, none⟩)
inductive Rep (w : World) (R : Nat → Nat → Prop) (Γ : Nat → Option Loc) : Value → PV → Prop
  | undef (u : Value) : Rep w R Γ u .undef
  | v (x : Value) : x.oneCell' = true → Rep w R Γ x (.v x)
  | nil : Rep w R Γ (.slice none 0 0) .nil
  | agg (us : List Value) (cs : List PV) : us.length = cs.length → (∀ p ∈ cs, p.one = true) →
      (∀ (i : Nat) (u : Value) (p : PV), us[i]? = some u → cs[i]? = some p → Rep w R Γ u p) → Rep w R Γ (.agg us.toArray) (.agg cs)
  | tup (us : List Value) (cs : List PV) : us.length = cs.length →
      (∀ (i : Nat) (u : Value) (p : PV), us[i]? = some u → cs[i]? = some p → Rep w R Γ u p) → Rep w R Γ (.tuple us.toArray) (.tup cs)
  | sl (A : Option Addr) (n c sz : Nat) (f : Nat → List PV) (us : Nat → Nat → Value) : n ≤ c → c ≤ maxLen → (∀ i, i < n → (f i).length = sz) →
      (∀ (i j : Nat) (p : PV), i < n → (f i)[j]? = some p → p.one = true ∧ p.names = []) →
      (∀ i j, i < n → j < sz → ∃ b o, A = some ⟨b, o, none⟩ ∧ R b (o + (i * sz + j)) ∧ w.cell? ⟨b, o + (i * sz + j), none⟩ = some (us i j)) →
      (∀ (i j : Nat) (p : PV), i < n → (f i)[j]? = some p → Rep w R Γ (us i j) p) → Rep w R Γ (.slice A n c) (.sl sz n f)
  | slc (A : Option Addr) (n sz : Nat) (f : Nat → List PV) : Rep w R Γ (.slice A n n) (.sl sz n f) → Rep w R Γ (.slice A n n) (.slc sz n f)
  | rp (b o : Nat) (cs : List PV) (off : Nat) (us : Nat → Value) : (∀ p ∈ cs, p.one = true ∧ p.names = []) →
      (∀ j, j < cs.length → R b (o + j) ∧ w.cell? ⟨b, o + j, none⟩ = some (us j)) →
      (∀ (j : Nat) (p : PV), cs[j]? = some p → Rep w R Γ (us j) p) → Rep w R Γ (.pointer (some ⟨b, o + off, none⟩)) (.rp cs off)
  | clo (fn : Fn) (uf uc : List Value) (first cap : List PV) : uf.length = first.length → uc.length = cap.length →
      (∀ (i : Nat) (u : Value) (p : PV), uf[i]? = some u → first[i]? = some p → Rep w R Γ u p) →
      (∀ (i : Nat) (u : Value) (p : PV), uc[i]? = some u → cap[i]? = some p → Rep w R Γ u p) → Rep w R Γ (.func fn uf.toArray uc.toArray) (.clo fn first cap)
  | ref (i off b : Nat) : Γ i = some (.cells b) → Rep w R Γ (.pointer (some ⟨b, off, none⟩)) (.ref i off)
  | elt (i ep k f : Nat) (u : Value) (ep' sz : Nat) (l : Option (Nat × Nat)) : Γ i = some (.rows ep' sz l) → ep ≤ ep' → u.oneCell' = true → (ep = ep' → EltAt l sz k f u) → Rep w R Γ u (.elt i ep k f)
  | own (i ep off n : Nat) (c : Bool) (u : Value) (ep' sz : Nat) (l : Option (Nat × Nat)) : Γ i = some (.rows ep' sz l) → ep ≤ ep' → u.oneCell' = true → (ep = ep' → OwnAt l sz off n c u) → Rep w R Γ u (.own i ep off n c)
  | mp (i b : Nat) : Γ i = some (.map b) → Rep w R Γ (.map (some b)) (.mp i)
  | ifc (t : TypeId) (u : Value) (p : PV) : Rep w R Γ u p → Rep w R Γ (.iface t u) (.ifc t p)
theorem Rep.mono {w w' : World} {R R' : Nat → Nat → Prop} {Γ Γ' : Nat → Option Loc} (h : ∀ b o, R b o → R' b o ∧ w'.cell? ⟨b, o, none⟩ = w.cell? ⟨b, o, none⟩) {u : Value} {p : PV} (hr : Rep w R Γ u p)
    (hΓ : ∀ i ∈ p.names, ∀ l, Γ i = some l → ∃ l', Γ' i = some l' ∧ Loc.le l l') : Rep w' R' Γ' u p := by
  induction hr with
  | undef u => exact .undef u
  | v x hx => exact .v x hx
  | nil => exact .nil
  | agg us cs hl h1 _ ih => exact .agg us cs hl h1 fun i u p hu hp => ih i u p hu hp fun j hj => hΓ j (mem_namesL.2 ⟨p, List.mem_of_getElem? hp, hj⟩)
  | tup us cs hl _ ih => exact .tup us cs hl fun i u p hu hp => ih i u p hu hp fun j hj => hΓ j (mem_namesL.2 ⟨p, List.mem_of_getElem? hp, hj⟩)
  | sl A n c sz f us hn hc hl h1 hcell _ ih =>
    refine .sl A n c sz f us hn hc hl h1 (fun i j hi hj => ?_) fun i j p hi hp => ih i j p hi hp fun k hk => ?_
    · obtain ⟨b, o, hA, hR, hcl⟩ := hcell i j hi hj
      exact ⟨b, o, hA, (h _ _ hR).1, (h _ _ hR).2.trans hcl⟩
    · rw [(h1 i j p hi hp).2] at hk; cases hk
  | slc A n sz f _ ih => exact .slc A n sz f (ih hΓ)
  | rp b o cs off us h1 hcell _ ih =>
    exact .rp b o cs off us h1 (fun j hj => ⟨(h _ _ (hcell j hj).1).1, (h _ _ (hcell j hj).1).2.trans (hcell j hj).2⟩) fun j p hp => ih j p hp fun k hk => by
      rw [(h1 p (List.mem_of_getElem? hp)).2] at hk; cases hk
  | clo fn uf uc first cap h1 h2 _ _ ih1 ih2 =>
    exact .clo fn uf uc first cap h1 h2 (fun i u p hu hp => ih1 i u p hu hp fun j hj => hΓ j (by simp only [PV.names, List.mem_append]; exact .inl (mem_namesL.2 ⟨p, List.mem_of_getElem? hp, hj⟩)))
      fun i u p hu hp => ih2 i u p hu hp fun j hj => hΓ j (by simp only [PV.names, List.mem_append]; exact .inr (mem_namesL.2 ⟨p, List.mem_of_getElem? hp, hj⟩))
  | ref i off b hb =>
    obtain ⟨l', h1, h2⟩ := hΓ i (by simp [PV.names]) _ hb
    rcases h2 with rfl | ⟨_, _, _, _, _, _, h3, _⟩
    · exact .ref i off b h1
    · cases h3
  | elt i ep k f u ep' sz l hl h1 h2 h3 =>
    obtain ⟨l', h4, h5⟩ := hΓ i (by simp [PV.names]) _ hl
    rcases h5 with rfl | ⟨_, _, _, ep2, sz2, m2, h6, rfl, h7⟩
    · exact .elt i ep k f u ep' sz l h4 h1 h2 h3
    · cases h6
      exact .elt i ep k f u ep2 sz2 m2 h4 (by omega) h2 (fun e => by omega)
  | own i ep off n c u ep' sz l hl h1 h2 h3 =>
    obtain ⟨l', h4, h5⟩ := hΓ i (by simp [PV.names]) _ hl
    rcases h5 with rfl | ⟨_, _, _, ep2, sz2, m2, h6, rfl, h7⟩
    · exact .own i ep off n c u ep' sz l h4 h1 h2 h3
    · cases h6
      exact .own i ep off n c u ep2 sz2 m2 h4 (by omega) h2 (fun e => by omega)
  | mp i b hb =>
    obtain ⟨l', h1, h2⟩ := hΓ i (by simp [PV.names]) _ hb
    rcases h2 with rfl | ⟨_, _, _, _, _, _, h3, _⟩
    · exact .mp i b h1
    · cases h3
  | ifc t u p _ ih => exact .ifc t u p (ih hΓ)
theorem Rep.keep {w w' : World} {R R' : Nat → Nat → Prop} {Γ : Nat → Option Loc} (h : ∀ b o, R b o → R' b o ∧ w'.cell? ⟨b, o, none⟩ = w.cell? ⟨b, o, none⟩) {u : Value} {p : PV} (hr : Rep w R Γ u p) : Rep w' R' Γ u p :=
  hr.mono h fun _ _ l hl => ⟨l, hl, Loc.le_refl l⟩
theorem Rep.free {w w' : World} {R R' : Nat → Nat → Prop} {Γ Γ' : Nat → Option Loc} (h : ∀ b o, R b o → R' b o ∧ w'.cell? ⟨b, o, none⟩ = w.cell? ⟨b, o, none⟩) {u : Value} {p : PV} (hr : Rep w R Γ u p) (hp : p.names = []) : Rep w' R' Γ' u p :=
  hr.mono h fun i hi => by rw [hp] at hi; cases hi
theorem Rep.oneCell {w : World} {R : Nat → Nat → Prop} {Γ : Nat → Option Loc} {u : Value} {p : PV} (hr : Rep w R Γ u p) (h : p.one = true) : u.oneCell' = true := by
  cases hr <;> simp_all [PV.one, Value.oneCell']
abbrev PF := List PV
def rowsF (rs : List (List PV)) : Nat → List PV := fun i => rs.getD i []
def SlotRep (size : Nat) (w : World) (R : Nat → Nat → Prop) (Γ : Nat → Option Loc) (t : Nat) (u : Value) : PV → Prop
  | .box h cs => ∃ (b : Nat) (vs : Array Value) (ty : TypeId), Γ t = some (.cells b) ∧ ((h.own = true → t < size ∧ u = .pointer (some ⟨b, 0, none⟩)) ∧ ∀ y, h.ty = some y → ty = y) ∧ w.heap[b]? = some (.cells vs ty (0, 0)) ∧ vs.size = cs.length ∧
      (∀ p ∈ cs, p.one = true) ∧ ∀ (j : Nat) (x : Value) (p : PV), vs[j]? = some x → cs[j]? = some p → Rep w R Γ x p
  | .rows h ep e sz rs => ∃ l : Option (Nat × Nat), Γ t = some (.rows ep sz l) ∧ (∀ ep0 n0, h = some (ep0, n0) → t < size ∧ Rep w R Γ u (.own t ep0 0 n0 false)) ∧ (∀ r ∈ rs, r.length = sz ∧ ∀ p ∈ r, p.one = true) ∧ 0 < sz ∧
      match l with
      | none => rs = []
      | some (b, cap) => ∃ vs, w.heap[b]? = some (.cells vs e (0, 0)) ∧ rs.length ≤ cap ∧ cap ≤ maxLen ∧ vs.size = cap * sz ∧
          ∀ (i j : Nat) (r : List PV) (p : PV) (x : Value), rs[i]? = some r → r[j]? = some p → vs[i * sz + j]? = some x → Rep w R Γ x p
  | .map h ks vs => ∃ (b : Nat) (es : Array MapEntry) (clock : Nat), Γ t = some (.map b) ∧ (h = true → t < size ∧ u = .map (some b)) ∧ w.heap[b]? = some (.map es clock) ∧ es.size = ks.length ∧ es.size = vs.length ∧
      (∀ (j : Nat) (x : MapEntry) (p : PV), es[j]? = some x → ks[j]? = some p → Rep w R Γ x.key p) ∧ ∀ (j : Nat) (x : MapEntry) (p : PV), es[j]? = some x → vs[j]? = some p → Rep w R Γ x.val p
  | p => Rep w R Γ u p
structure Kept (Prot : Nat → Prop) (w w' : World) : Prop where
  os : w'.os = w.os
  tape : w'.tape = w.tape
  output : w'.output = w.output
  size : w.heap.size ≤ w'.heap.size
  block : ∀ k, Prot k → w'.heap[k]? = w.heap[k]?
theorem Kept.refl (Prot : Nat → Prop) (w : World) : Kept Prot w w := ⟨rfl, rfl, rfl, Nat.le_refl _, fun _ _ => rfl⟩
theorem Kept.trans {Prot : Nat → Prop} {a b c : World} (h : Kept Prot a b) (k : Kept Prot b c) : Kept Prot a c :=
  ⟨k.os.trans h.os, k.tape.trans h.tape, k.output.trans h.output, Nat.le_trans h.size k.size, fun i hi => (k.block i hi).trans (h.block i hi)⟩
theorem Kept.mono {Prot Prot' : Nat → Prop} {a b : World} (h : Kept Prot a b) (hp : ∀ k, Prot' k → Prot k) : Kept Prot' a b := ⟨h.os, h.tape, h.output, h.size, fun k hk => h.block k (hp k hk)⟩
theorem Kept.below {B : Nat} {a b : World} (h : Kept (· < B) a b) : Below B a b := ⟨h.os, h.tape, h.output, h.size, h.block⟩
theorem Kept.of_below {B : Nat} {a b : World} (h : Below B a b) : Kept (· < B) a b := ⟨h.os, h.tape, h.output, h.size, h.block⟩
def isTab (b : Nat) : Prop := ∃ φ, (b, φ) ∈ seatTabs
def tabOk (Prot : Nat → Prop) (w : World) : Prop := ∀ b φ, (b, φ) ∈ seatTabs → Prot b ∧ ∃ cs t fz, w.heap[b]? = some (.cells cs t fz) ∧ φ cs
structure ProtOk (Prot : Nat → Prop) (w0 : World) : Prop where
  lt : ∀ b, Prot b → b < w0.heap.size
  tab : tabOk Prot w0
instance (Prot : Nat → Prop) (w0 : World) : CoeFun (ProtOk Prot w0) (fun _ => ∀ b, Prot b → b < w0.heap.size) := ⟨ProtOk.lt⟩
theorem ProtOk.isP {Prot : Nat → Prop} {w : World} (h : ProtOk Prot w) {b : Nat} (hb : isTab b) : Prot b := let ⟨φ, hc⟩ := hb; (h.tab b φ hc).1
theorem ProtOk.go {Prot Prot' : Nat → Prop} {w w' : World} (h : ProtOk Prot w) (hlt : ∀ b, Prot' b → b < w'.heap.size) (hp : ∀ b, isTab b → Prot b → Prot' b) (hk : ∀ b, isTab b → Prot b → w'.heap[b]? = w.heap[b]?) : ProtOk Prot' w' :=
  ⟨hlt, fun b φ hb => let ⟨h1, cs, t, fz, h2, h3⟩ := h.tab b φ hb; ⟨hp b ⟨φ, hb⟩ h1, cs, t, fz, (hk b ⟨φ, hb⟩ h1).trans h2, h3⟩⟩
structure Base where
  Prot : Nat → Prop
  w0 : World
  R0 : Nat → Nat → Prop
  Γ0 : Nat → Option Loc
  lo : Nat
  D : List Deferred
structure Sim (n : Nat) (B : Base) (R : Nat → Nat → Prop) (Γ : Nat → Option Loc) (a : Act) (w : World) (fr : PF) : Prop where
  size : a.tmps.size = n
  len : n ≤ fr.length
  slot : ∀ (t : Nat) (p : PV), fr[t]? = some p → SlotRep n w R Γ t (a.tmps.getD t undef) p
  inj : ∀ i j l m b, Γ i = some l → Γ j = some m → l.blk = some b → m.blk = some b → i = j
  own : ∀ i l, Γ i = some l → (∃ p, fr[i]? = some p ∧ p.isObj = true) ∧ ∀ b, l.blk = some b → ¬ B.Prot b ∧ b < w.heap.size ∧ ∀ o, ¬ R b o
  bnd : ∀ b o, R b o → b < w.heap.size
  sub : ∀ b o, R b o → B.R0 b o ∨ ¬ B.Prot b
  kept : Kept B.Prot B.w0 w
  prot : ProtOk B.Prot B.w0
  lo : n ≤ B.lo
  base : ∀ j l, B.lo ≤ j → B.Γ0 j = some l → ∃ l', Γ j = some l' ∧ Loc.le l l'
  defers : a.defers = B.D
def pclear (d : Option Tmp) (p : PV) (fr : PF) : Bool :=
  match d with
  | none => true
  | some d => match fr[d]? with
    | some q => if q.isObj then (fr.set d p).all fun q => !q.names.contains d else true
    | none => true
def put (d : Option Tmp) (p : PV) (fr : PF) : PF :=
  match d with
  | none => fr
  | some d => fr.set d p
section
variable {w w' : World} {R R' : Nat → Nat → Prop} {Γ Γ' : Nat → Option Loc}
theorem put_length (d : Option Tmp) (p : PV) (fr : PF) : (put d p fr).length = fr.length := by
  cases d <;> simp [put]
theorem SlotRep.val {size t : Nat} {u : Value} {p : PV} (h : p.isObj = false) (hs : SlotRep size w R Γ t u p) : Rep w R Γ u p := by
  cases p <;> first | exact hs | cases h
theorem Rep.obj {u : Value} {p : PV} (h : Rep w R Γ u p) : p.isObj = false := by
  cases h <;> rfl
theorem Rep.slot {size t : Nat} {u : Value} {p : PV} (hs : Rep w R Γ u p) : SlotRep size w R Γ t u p := by
  have := hs.obj
  cases p <;> first | exact hs | cases this
theorem SlotRep.mono {size : Nat} (h : ∀ b o, R b o → R' b o ∧ w'.cell? ⟨b, o, none⟩ = w.cell? ⟨b, o, none⟩) {t : Nat} {u : Value} {p : PV}
    (hΓ : ∀ i ∈ p.names, ∀ l, Γ i = some l → ∃ l', Γ' i = some l' ∧ Loc.le l l') (ht : p.isObj = true → Γ' t = Γ t)
    (hb : ∀ l b, Γ t = some l → l.blk = some b → w'.heap[b]? = w.heap[b]?) (hv : SlotRep size w R Γ t u p) : SlotRep size w' R' Γ' t u p := by
  cases p with
  | box f cs =>
    obtain ⟨b, vs, ty, h1, h2, h3, h4, h5, h6⟩ := hv
    exact ⟨b, vs, ty, (ht rfl).trans h1, h2, (hb _ b h1 rfl).trans h3, h4, h5, fun j x p hx hp => (h6 j x p hx hp).mono h fun i hi => hΓ i (by simp only [PV.names]; exact mem_namesL.2 ⟨p, List.mem_of_getElem? hp, hi⟩)⟩
  | rows f ep e sz rs =>
    obtain ⟨l, h1, h2, h3, h4, h5⟩ := hv
    refine ⟨l, (ht rfl).trans h1, fun ep0 n0 e => ⟨(h2 ep0 n0 e).1, (h2 ep0 n0 e).2.mono h fun i hi => ?_⟩, h3, h4, ?_⟩
    · obtain rfl : i = t := by simpa [PV.names] using hi
      intro l hl
      exact ⟨l, (ht rfl).trans hl, Loc.le_refl l⟩
    · cases l with
      | none => exact h5
      | some bc =>
        obtain ⟨b, cap⟩ := bc
        obtain ⟨vs, g1, g2, g3, g4, g5⟩ := h5
        exact ⟨vs, (hb _ b h1 rfl).trans g1, g2, g3, g4, fun i j r p x hr hp hx => (g5 i j r p x hr hp hx).mono h fun k hk => hΓ k (by
          simp only [PV.names]; exact mem_namesLL.2 ⟨r, List.mem_of_getElem? hr, mem_namesL.2 ⟨p, List.mem_of_getElem? hp, hk⟩⟩)⟩
  | map f ks vs =>
    obtain ⟨b, es, clock, h1, h2, h3, h4, h5, h6, h7⟩ := hv
    exact ⟨b, es, clock, (ht rfl).trans h1, h2, (hb _ b h1 rfl).trans h3, h4, h5, fun j x p hx hp => (h6 j x p hx hp).mono h fun i hi => hΓ i (by simp only [PV.names, List.mem_append]; exact .inl (mem_namesL.2 ⟨p, List.mem_of_getElem? hp, hi⟩)),
      fun j x p hx hp => (h7 j x p hx hp).mono h fun i hi => hΓ i (by simp only [PV.names, List.mem_append]; exact .inr (mem_namesL.2 ⟨p, List.mem_of_getElem? hp, hi⟩))⟩
  | _ => exact (Rep.mono h (SlotRep.val rfl hv) hΓ).slot
end
end Go.Qg

namespace Go.Qg
open Go.RowKit (Below)
def erase (d : Option Tmp) (Γ : Nat → Option Loc) : Nat → Option Loc := fun s => if some s = d then none else Γ s
def give (d : Nat) (l : Loc) (Γ : Nat → Option Loc) : Nat → Option Loc := fun s => if s = d then some l else Γ s
theorem erase_some {d : Option Tmp} {Γ : Nat → Option Loc} {s : Nat} {l : Loc} (h : erase d Γ s = some l) : some s ≠ d ∧ Γ s = some l := by
  unfold erase at h; split at h
  · cases h
  · exact ⟨‹_›, h⟩
theorem erase_of {d : Option Tmp} {Γ : Nat → Option Loc} {s : Nat} {l : Loc} (h : Γ s = some l) (hs : some s ≠ d) : erase d Γ s = some l := by
  unfold erase; rw [if_neg hs]; exact h
theorem give_self (d : Nat) (l : Loc) (Γ : Nat → Option Loc) : give d l Γ d = some l := by simp [give]
theorem give_ne {d s : Nat} (h : s ≠ d) (l : Loc) (Γ : Nat → Option Loc) : give d l Γ s = Γ s := by simp [give, h]
theorem give_some {d s : Nat} {l m : Loc} {Γ : Nat → Option Loc} (h : give d l Γ s = some m) : (s = d ∧ m = l) ∨ (s ≠ d ∧ Γ s = some m) := by
  unfold give at h; split at h
  · exact .inl ⟨‹_›, (Option.some.inj h).symm⟩
  · exact .inr ⟨‹_›, h⟩
theorem give_le {d : Nat} {l' : Loc} {Γ : Nat → Option Loc} (hd : ∀ m, Γ d = some m → Loc.le m l') {s : Nat} {m : Loc} (h : Γ s = some m) : ∃ m', give d l' Γ s = some m' ∧ Loc.le m m' := by
  by_cases hs : s = d
  · subst hs; exact ⟨l', give_self _ _ _, hd m h⟩
  · exact ⟨m, by rw [give_ne hs]; exact h, Loc.le_refl m⟩
theorem Act.put_size (a : Act) (d : Option Tmp) (v : Value) : (a.put d v).tmps.size = a.tmps.size := by
  cases d <;> simp [Act.put]
theorem Act.put_get (a : Act) (d : Nat) (v : Value) (hd : d < a.tmps.size) : (a.put (some d) v).tmps.getD d undef = v := by
  simp [Act.put, hd]
theorem Act.put_get_ne (a : Act) (d : Nat) (v : Value) (t : Nat) (h : t ≠ d) : (a.put (some d) v).tmps.getD t undef = a.tmps.getD t undef := by
  simp [Act.put, Array.getElem?_setIfInBounds_ne (Ne.symm h)]
theorem cell?_of_heap {w w' : World} {b o : Nat} (h : w'.heap[b]? = w.heap[b]?) : w'.cell? ⟨b, o, none⟩ = w.cell? ⟨b, o, none⟩ := by simp [World.cell?, h]
theorem lt_of_get? {α : Type} {l : List α} {i : Nat} {x : α} (h : l[i]? = some x) : i < l.length := (List.getElem?_eq_some_iff.1 h).1
theorem getElem?_set' {α : Type} {l : List α} {d t : Nat} {p q : α} (h : (l.set d p)[t]? = some q) : (t = d ∧ q = p ∧ d < l.length) ∨ (t ≠ d ∧ l[t]? = some q) := by
  by_cases ht : t = d
  · subst ht
    have hlt : t < l.length := by have := lt_of_get? h; simpa using this
    rw [List.getElem?_set_self hlt] at h
    exact .inl ⟨rfl, (Option.some.inj h).symm, hlt⟩
  · rw [List.getElem?_set_ne (Ne.symm ht)] at h; exact .inr ⟨ht, h⟩
theorem not_contains {l : List Nat} {d : Nat} (h : (!l.contains d) = true) : d ∉ l := by simpa using h
section
variable {n : Nat} {B : Base} {w w' : World} {R R' : Nat → Nat → Prop} {Γ Γ' : Nat → Option Loc} {a : Act} {fr : PF}
theorem Sim.noObj (h : Sim n B R Γ a w fr) {d : Nat} (hd : ∀ p, fr[d]? = some p → p.isObj = false) : Γ d = none := by
  cases hg : Γ d with
  | none => rfl
  | some l =>
    obtain ⟨⟨p, hp, ho⟩, _⟩ := h.own d l hg
    rw [hd p hp] at ho; cases ho
theorem Sim.clear (h : Sim n B R Γ a w fr) {d : Nat} {p : PV} (hc : pclear (some d) p fr = true) : Γ d = none ∨ (d ∉ p.names ∧ ∀ t q, t ≠ d → fr[t]? = some q → d ∉ q.names) := by
  cases hq : fr[d]? with
  | none => exact .inl (h.noObj fun p hp => by rw [hq] at hp; cases hp)
  | some q =>
    by_cases ho : q.isObj = true
    · simp only [pclear, hq, ho, if_true] at hc
      have hlt := lt_of_get? hq
      have := List.all_eq_true.1 hc
      refine .inr ⟨not_contains (this p (List.mem_of_getElem? (i := d) (by rw [List.getElem?_set_self hlt]))), fun t q ht hq => not_contains (this q (List.mem_of_getElem? (i := t) (by rw [List.getElem?_set_ne (Ne.symm ht)]; exact hq)))⟩
    · exact .inl (h.noObj fun p hp => by rw [hq] at hp; obtain rfl := Option.some.inj hp; simpa using ho)
theorem Sim.put (h : Sim n B R Γ a w fr) (d : Option Tmp) {u : Value} {p : PV} (hd : ∀ t, d = some t → t < n) (hc : pclear d p fr = true) (hv : Rep w R Γ u p) :
    Sim n B R (erase d Γ) (a.put d u) w (put d p fr) := by
  cases d with
  | none =>
    have e1 : erase none Γ = Γ := by funext s; simp [erase]
    rw [e1]; exact h
  | some d =>
    have hdn := hd d rfl
    have hR : ∀ b o, R b o → R b o ∧ w.cell? ⟨b, o, none⟩ = w.cell? ⟨b, o, none⟩ := fun b o hb => ⟨hb, rfl⟩
    have hΓ : ∀ q : PV, (d ∉ q.names ∨ Γ d = none) → ∀ i ∈ q.names, ∀ l, Γ i = some l → ∃ l', erase (some d) Γ i = some l' ∧ Loc.le l l' := fun q hq i hi l hl =>
      ⟨l, erase_of hl (fun e => by
        obtain rfl : i = d := by simpa using e
        rcases hq with hq | hq
        · exact hq hi
        · rw [hq] at hl; cases hl), Loc.le_refl l⟩
    have hcl := h.clear hc
    refine ⟨by rw [Act.put_size]; exact h.size, by rw [put_length]; exact h.len, fun t q hq => ?_, fun i j l m b h1 h2 => h.inj i j l m b (erase_some h1).2 (erase_some h2).2, fun i l hl => ?_, h.bnd, h.sub, h.kept, h.prot, h.lo, fun j l hj hl => ?_, by simpa [Act.put] using h.defers⟩
    · simp only [Qg.put] at hq
      rcases getElem?_set' hq with ⟨rfl, rfl, _⟩ | ⟨ht, hq'⟩
      · rw [Act.put_get a t u (by rw [h.size]; exact hdn)]
        exact (hv.mono hR (hΓ q (hcl.elim .inr fun x => .inl x.1))).slot
      · rw [Act.put_get_ne a d u t ht]
        refine (h.slot t q hq').mono hR (hΓ q (hcl.elim .inr fun x => .inl (x.2 t q ht hq'))) (fun _ => ?_) (fun _ _ _ _ => rfl)
        unfold erase; rw [if_neg (by simpa using ht)]
    · obtain ⟨hs, hl'⟩ := erase_some hl
      obtain ⟨⟨q, hq, ho⟩, h2⟩ := h.own i l hl'
      have hne : d ≠ i := fun e => hs (by rw [e])
      exact ⟨⟨q, by simp only [Qg.put]; rw [List.getElem?_set_ne hne]; exact hq, ho⟩, h2⟩
    · obtain ⟨l', h1, h2⟩ := h.base j l hj hl
      exact ⟨l', erase_of h1 (fun e => by obtain rfl := Option.some.inj e; exact absurd hdn (Nat.not_lt.2 (Nat.le_trans h.lo hj))), h2⟩
theorem Sim.grown (h : Sim n B R Γ a w fr) (hb : Below w.heap.size w w') (R' : Nat → Nat → Prop) (hR : ∀ b o, R b o → R' b o) (hR' : ∀ b o, R' b o → R b o ∨ (w.heap.size ≤ b ∧ b < w'.heap.size)) :
    Sim n B R' Γ a w' fr := by
  have hk : ∀ b o, R b o → R' b o ∧ w'.cell? ⟨b, o, none⟩ = w.cell? ⟨b, o, none⟩ := fun b o hbo => ⟨hR b o hbo, cell?_of_heap (hb.block b (h.bnd b o hbo))⟩
  have hpr : ∀ k, B.Prot k → k < w.heap.size := fun k hk => Nat.lt_of_lt_of_le (h.prot k hk) h.kept.size
  refine ⟨h.size, h.len, fun t p hp => ?_, h.inj, fun i l hl => ?_, fun b o hbo => ?_, fun b o hbo => ?_, h.kept.trans ⟨hb.os, hb.tape, hb.output, hb.size, fun k hk => hb.block k (hpr k hk)⟩, h.prot, h.lo, h.base, h.defers⟩
  · exact (h.slot t p hp).mono hk (fun i _ l hl => ⟨l, hl, Loc.le_refl l⟩) (fun _ => rfl) (fun l b hl hlb => hb.block b ((h.own t l hl).2 b hlb).2.1)
  · refine ⟨(h.own i l hl).1, fun b hlb => ?_⟩
    obtain ⟨h1, h2, h3⟩ := (h.own i l hl).2 b hlb
    refine ⟨h1, Nat.lt_of_lt_of_le h2 hb.size, fun o ho => ?_⟩
    rcases hR' b o ho with hh | hh
    · exact h3 o hh
    · omega
  · rcases hR' b o hbo with hh | hh
    · exact Nat.lt_of_lt_of_le (h.bnd b o hh) hb.size
    · exact hh.2
  · rcases hR' b o hbo with hh | hh
    · exact h.sub b o hh
    · exact .inr fun hp => by have := hpr b hp; omega
theorem Sim.setObj (h : Sim n B R Γ a w fr) {i : Nat} {l l' : Loc} {p' : PV} (hi : Γ i = some l) (hle : Loc.le l l') (hg : w.grownBy w' l.blk)
    (hb : l'.blk = l.blk ∨ ∀ b, l'.blk = some b → w.heap.size ≤ b ∧ b < w'.heap.size) (hobj : p'.isObj = true) (hs : SlotRep n w' R (give i l' Γ) i (a.tmps.getD i undef) p') :
    Sim n B R (give i l' Γ) a w' (fr.set i p') := by
  obtain ⟨⟨p, hp, _⟩, hown⟩ := h.own i l hi
  have hlt := lt_of_get? hp
  have hpr : ∀ k, B.Prot k → k < w.heap.size := fun k hk => Nat.lt_of_lt_of_le (h.prot k hk) h.kept.size
  have hk : ∀ b o, R b o → R b o ∧ w'.cell? ⟨b, o, none⟩ = w.cell? ⟨b, o, none⟩ := fun b o hbo =>
    ⟨hbo, cell?_of_heap (hg.block b (h.bnd b o hbo) (fun e => (hown b e.symm).2.2 o hbo))⟩
  have hΓ : ∀ j m, Γ j = some m → ∃ m', give i l' Γ j = some m' ∧ Loc.le m m' := fun j m hm => give_le (fun m hm => by rw [hi] at hm; obtain rfl := Option.some.inj hm; exact hle) hm
  have hfree : ∀ b, l'.blk = some b → ¬ B.Prot b ∧ b < w'.heap.size ∧ (∀ o, ¬ R b o) ∧ ∀ j m, j ≠ i → Γ j = some m → m.blk ≠ some b := fun b hb' => by
    rcases hb with e | e
    · obtain ⟨h1, h2, h3⟩ := hown b (e ▸ hb')
      exact ⟨h1, Nat.lt_of_lt_of_le h2 hg.size, h3, fun j m hj hm hmb => hj (h.inj j i m l b hm hi hmb (e ▸ hb'))⟩
    · have := e b hb'
      refine ⟨fun hp => by have := hpr b hp; omega, this.2, fun o ho => by have := h.bnd b o ho; omega, fun j m _ hm hmb => ?_⟩
      have := ((h.own j m hm).2 b hmb).2.1
      omega
  refine ⟨h.size, by simpa using h.len, fun t q hq => ?_, fun x y m m' b hx hy hmb hmb' => ?_, fun j m hm => ?_, fun b o hbo => Nat.lt_of_lt_of_le (h.bnd b o hbo) hg.size, h.sub,
    h.kept.trans ⟨hg.os, hg.tape, hg.output, hg.size, fun k hk => hg.block k (hpr k hk) (fun e => (hown k e.symm).1 hk)⟩, h.prot, h.lo, fun j m hj hm => (by
      obtain ⟨m1, h1, h2⟩ := h.base j m hj hm
      obtain ⟨m2, h3, h4⟩ := hΓ j m1 h1
      exact ⟨m2, h3, Loc.le_trans h2 h4⟩), h.defers⟩
  · rcases getElem?_set' hq with ⟨rfl, rfl, _⟩ | ⟨ht, hq'⟩
    · exact hs
    · refine (h.slot t q hq').mono hk (fun j _ m hm => hΓ j m hm) (fun _ => give_ne ht _ _) (fun m b hm hmb => hg.block b ((h.own t m hm).2 b hmb).2.1 (fun e => ht (h.inj t i m l b hm hi hmb e.symm)))
  · rcases give_some hx with ⟨hxi, rfl⟩ | ⟨hxi, hx'⟩ <;> rcases give_some hy with ⟨hyi, rfl⟩ | ⟨hyi, hy'⟩
    · rw [hxi, hyi]
    · exact ((hfree b hmb).2.2.2 y m' hyi hy' hmb').elim
    · exact ((hfree b hmb').2.2.2 x m hxi hx' hmb).elim
    · exact h.inj x y m m' b hx' hy' hmb hmb'
  · rcases give_some hm with ⟨rfl, rfl⟩ | ⟨hji, hm'⟩
    · exact ⟨⟨p', List.getElem?_set_self hlt, hobj⟩, fun b hb' => ⟨(hfree b hb').1, (hfree b hb').2.1, (hfree b hb').2.2.1⟩⟩
    · obtain ⟨⟨q, hq, ho⟩, h2⟩ := h.own j m hm'
      exact ⟨⟨q, by rw [List.getElem?_set_ne (Ne.symm hji)]; exact hq, ho⟩, fun b hb' => ⟨(h2 b hb').1, Nat.lt_of_lt_of_le (h2 b hb').2.1 hg.size, (h2 b hb').2.2⟩⟩
theorem Sim.giveObj (h : Sim n B R Γ a w fr) {d : Nat} (hlt : d < fr.length) (hd : Γ d = none) {l' : Loc} {p' : PV}
    (hb : ∀ b, l'.blk = some b → ¬ B.Prot b ∧ b < w.heap.size ∧ (∀ o, ¬ R b o) ∧ ∀ i l, Γ i = some l → l.blk ≠ some b) (hobj : p'.isObj = true)
    (hs : SlotRep n w R (give d l' Γ) d (a.tmps.getD d undef) p') : Sim n B R (give d l' Γ) a w (fr.set d p') := by
  have hΓ : ∀ j m, Γ j = some m → ∃ m', give d l' Γ j = some m' ∧ Loc.le m m' := fun j m hm => give_le (fun m hm => by rw [hd] at hm; cases hm) hm
  refine ⟨h.size, by simpa using h.len, fun t q hq => ?_, fun x y m m' b hx hy hmb hmb' => ?_, fun j m hm => ?_, h.bnd, h.sub, h.kept, h.prot, h.lo, fun j m hj hm => (by
      obtain ⟨m1, h1, h2⟩ := h.base j m hj hm
      obtain ⟨m2, h3, h4⟩ := hΓ j m1 h1
      exact ⟨m2, h3, Loc.le_trans h2 h4⟩), h.defers⟩
  · rcases getElem?_set' hq with ⟨rfl, rfl, _⟩ | ⟨ht, hq'⟩
    · exact hs
    · exact (h.slot t q hq').mono (fun b o hbo => ⟨hbo, rfl⟩) (fun j _ m hm => hΓ j m hm) (fun _ => give_ne ht _ _) (fun _ _ _ _ => rfl)
  · rcases give_some hx with ⟨hxi, rfl⟩ | ⟨hxi, hx'⟩ <;> rcases give_some hy with ⟨hyi, rfl⟩ | ⟨hyi, hy'⟩
    · rw [hxi, hyi]
    · exact ((hb b hmb).2.2.2 y m' hy' hmb').elim
    · exact ((hb b hmb').2.2.2 x m hx' hmb).elim
    · exact h.inj x y m m' b hx' hy' hmb hmb'
  · rcases give_some hm with ⟨rfl, rfl⟩ | ⟨hji, hm'⟩
    · exact ⟨⟨p', List.getElem?_set_self hlt, hobj⟩, fun b hb' => ⟨(hb b hb').1, (hb b hb').2.1, (hb b hb').2.2.1⟩⟩
    · obtain ⟨⟨q, hq, ho⟩, h2⟩ := h.own j m hm'
      exact ⟨⟨q, by rw [List.getElem?_set_ne (Ne.symm hji)]; exact hq, ho⟩, h2⟩
theorem Sim.reread (h : Sim n B R Γ a w fr) {s : Nat} {p : PV} (hs : ∀ q, fr[s]? = some q → q.isObj = false) (hv : Rep w R Γ (a.tmps.getD s undef) p) : Sim n B R Γ a w (fr.set s p) := by
  refine ⟨h.size, by simpa using h.len, fun t q hq => ?_, h.inj, fun j m hm => ?_, h.bnd, h.sub, h.kept, h.prot, h.lo, h.base, h.defers⟩
  · rcases getElem?_set' hq with ⟨rfl, rfl, _⟩ | ⟨_, hq'⟩
    · exact hv.slot
    · exact h.slot t q hq'
  · obtain ⟨⟨q, hq, ho⟩, h2⟩ := h.own j m hm
    have hne : s ≠ j := by rintro rfl; rw [hs q hq] at ho; cases ho
    exact ⟨⟨q, by rw [List.getElem?_set_ne hne]; exact hq, ho⟩, h2⟩
theorem Sim.newObj (h : Sim n B R Γ a w fr) {d : Nat} (hd : d < n) (hc : pclear (some d) .undef fr = true) (o : Obj) {u : Value} {l' : Loc} (hl : ∀ b, l'.blk = some b → b = w.heap.size) {p' : PV} (hobj : p'.isObj = true)
    (hs : ∀ Γ' : Nat → Option Loc, Γ' d = some l' → (∀ i l, i ≠ d → Γ i = some l → Γ' i = some l) → SlotRep n (w.alloc o) R Γ' d u p') :
    ∃ Γ', Sim n B R Γ' (a.put (some d) u) (w.alloc o) (fr.set d p') := by
  have hb : Below w.heap.size w (w.alloc o) := (Below.refl _ w).alloc (Nat.le_refl _) _
  have h1 := h.grown hb R (fun _ _ x => x) (fun _ _ x => .inl x)
  have h2 := h1.put (some d) (u := u) (p := .undef) (fun t ht => by obtain rfl := Option.some.inj ht; exact hd) hc (.undef u)
  have hlt : d < fr.length := Nat.lt_of_lt_of_le hd h.len
  have hΓd : erase (some d) Γ d = none := by simp [erase]
  have h3 := h2.giveObj (d := d) (l' := l') (p' := p') (by simpa [Qg.put] using hlt) hΓd (fun b hb' => by
    obtain rfl := hl b hb'
    refine ⟨fun hp => ?_, by simp, fun o ho => ?_, fun i l hil hlb => ?_⟩
    · have := h.prot _ hp; have := h.kept.size; omega
    · have := h.bnd _ _ ho; omega
    · have := ((h.own i l (erase_some hil).2).2 _ hlb).2.1; omega) hobj (by
    rw [Act.put_get a d u (by rw [h.size]; exact hd)]
    exact hs _ (give_self _ _ _) (fun i l hi hil => by rw [give_ne hi]; exact erase_of hil (by simpa using hi)))
  exact ⟨_, by simpa [Qg.put, List.set_set] using h3⟩
end
end Go.Qg

namespace Go.Qg
open Go.RowKit (Below)
def guard {α : Type} (c : Prop) [Decidable c] (x : Option α) : Option α := if c then x else none
theorem guard_pos {α : Type} {c : Prop} [Decidable c] {x : Option α} (h : c) : guard c x = x := if_pos h
theorem guard_some {α : Type} {c : Prop} [Decidable c] {x : Option α} {y : α} (h : guard c x = some y) : c ∧ x = some y := by
  unfold guard at h; split at h
  · exact ⟨‹_›, h⟩
  · cases h
def tsz (P : Program) (t : TypeId) : Option Nat := (P.info? t).map (·.size)
def trow (P : Program) (t : TypeId) : Option Bool := (P.underlying t).map (·.isRow)
def tel (P : Program) (t : TypeId) : Option TypeId := match P.underlying t with | some (.slice e) => some e | _ => none
def tarr (P : Program) (t : TypeId) : Option (Nat × TypeId) := match P.underlying t with | some (.array n e) => some (n, e) | _ => none
def tfld (P : Program) (t : TypeId) (k : Nat) : Option (Nat × TypeId) :=
  match P.underlying t with
  | some (.struct fs) => match fs[k]? with
    | some f => match tsz P f.type with
      | some 0 => none
      | some _ => some (f.offset, f.type)
      | none => none
    | none => none
  | _ => none
def tbool (P : Program) (t : TypeId) : Bool := match P.underlying t with | some .bool => true | _ => false
def tstr (P : Program) (t : TypeId) : Bool := match P.underlying t with | some .string => true | _ => false
def tint (P : Program) (t : TypeId) : Option IntKind := match P.underlying t with | some (.int k) => some k | _ => none
def teqf (P : Program) (t : TypeId) : Option (List (Nat × Nat)) :=
  match P.underlying t with
  | some (.struct fs) => if P.stoodInHeld t || P.eqGuardType P.depth t then none else
    fs.toList.mapM fun f => if f.name = "_" then none else match P.underlying f.type with
      | some (.int _) => some (f.offset, 0)
      | some .bool => some (f.offset, 1)
      | some .string => some (f.offset, 2)
      | _ => none
  | _ => none
def cv1 : Value → PV
  | .slice none 0 0 => .nil
  | x => .v x
def cv : Value → PV
  | .agg cs => if cs.toList.all (·.oneCell') then .agg (cs.toList.map cv1) else .undef
  | .tuple _ => .undef
  | x => cv1 x
def rdAt (t : Nat) : PV → PV
  | .box h _ => bif h.own then .ref t 0 else .undef
  | .rows (some (ep, n)) _ _ _ _ => .own t ep 0 n false
  | .map true _ _ => .mp t
  | p => if p.isObj then .undef else p
def rd (fr : PF) : Operand → PV
  | .tmp t => match fr[t]? with
    | some p => rdAt t p
    | none => .undef
  | .const x => cv x
  | .func f => .clo (.func f) [] []
  | .global _ => .undef
def pcont (fr : PF) : PV → Option (List PV × Nat)
  | .rp cs off => some (cs, off)
  | .ref s off => match fr[s]? with
    | some (.box _ cs) => some (cs, off)
    | _ => none
  | .elt s ep k f => match fr[s]? with
    | some (.rows _ ep' _ _ rs) => if ep' = ep then match rs[k]? with
      | some r => some (r, f)
      | none => none
      else none
    | _ => none
  | _ => none
def pload (P : Program) (t : TypeId) (cs : List PV) (off : Nat) : Option PV :=
  match trow P t, tsz P t with
  | some true, some n => if off + n ≤ cs.length then some (.agg ((cs.drop off).take n)) else none
  | some false, _ => cs[off]?
  | _, _ => none
section
variable {P : Program} {N : Nat} {B : Base} {w w' : World} {R R' : Nat → Nat → Prop} {Γ Γ' : Nat → Option Loc} {a : Act} {fr : PF}
theorem cv1_rep (x : Value) (h : x.oneCell' = true) : Rep w R Γ x (cv1 x) := by
  unfold cv1
  split
  · exact .nil
  · exact .v x h
theorem cv1_one (x : Value) : (cv1 x).one = true := by unfold cv1; split <;> rfl
theorem cv_rep (x : Value) : Rep w R Γ x (cv x) := by
  cases x with
  | agg cs =>
    simp only [cv]
    split
    · rename_i h
      have := Rep.agg (w := w) (R := R) (Γ := Γ) cs.toList (cs.toList.map cv1) (by simp) (fun p hp => by
        obtain ⟨x, _, rfl⟩ := List.mem_map.1 hp; exact cv1_one x) (fun i u p hu hp => by
        rw [List.getElem?_map, hu] at hp
        obtain rfl : cv1 u = p := by simpa using hp
        exact cv1_rep u (List.all_eq_true.1 h u (List.mem_of_getElem? hu)))
      simpa using this
    · exact .undef _
  | tuple => exact .undef _
  | _ => exact cv1_rep _ rfl
theorem Rep.of_rep {u : Value} {p : PV} (h : Rep w R Γ u p) : Rep w R Γ u p := h
theorem Sim.rdAt (h : Sim N B R Γ a w fr) {t : Nat} {p : PV} (hp : fr[t]? = some p) : Rep w R Γ (a.tmps.getD t undef) (Qg.rdAt t p) := by
  have hs := h.slot t p hp
  cases p with
  | box f cs =>
    obtain ⟨fo, ft⟩ := f
    cases fo with
    | true =>
      obtain ⟨b, vs, ty, h1, h2, _⟩ := hs
      show Rep w R Γ _ (.ref t 0)
      rw [(h2.1 rfl).2]
      exact .ref t 0 b h1
    | false => exact .undef _
  | rows f ep e sz rs =>
    cases f with
    | none => exact .undef _
    | some en =>
      obtain ⟨ep0, n0⟩ := en
      obtain ⟨l, h1, h2, _⟩ := hs
      exact (h2 ep0 n0 rfl).2
  | map f ks vs =>
    cases f with
    | true =>
      obtain ⟨b, es, clock, h1, h2, _⟩ := hs
      show Rep w R Γ _ (.mp t)
      rw [(h2 rfl).2]
      exact .mp t b h1
    | false => exact .undef _
  | _ => exact SlotRep.val rfl hs
theorem Sim.rd (h : Sim N B R Γ a w fr) (x : Operand) : Rep w R Γ (a.eval x) (rd fr x) := by
  cases x with
  | tmp t =>
    simp only [Qg.rd, Act.eval]
    split
    · rename_i p hp; exact h.rdAt hp
    · exact .undef _
  | const x => exact cv_rep x
  | func f => exact .clo (.func f) [] [] [] [] rfl rfl (fun i u p hi => by simp at hi) (fun i u p hi => by simp at hi)
  | _ => exact .undef _
structure PtrAt (w : World) (R : Nat → Nat → Prop) (Γ : Nat → Option Loc) (b o : Nat) (cs : List PV) (us : Nat → Value) : Prop where
  one : ∀ p ∈ cs, p.one = true
  cell : ∀ j, j < cs.length → w.cell? ⟨b, o + j, none⟩ = some (us j)
  rep : ∀ (j : Nat) (p : PV), cs[j]? = some p → Rep w R Γ (us j) p
theorem Sim.ptr (h : Sim N B R Γ a w fr) {u : Value} {p : PV} (hv : Rep w R Γ u p) {cs : List PV} {off : Nat} (hc : pcont fr p = some (cs, off)) :
    ∃ b o us, u = .pointer (some ⟨b, o + off, none⟩) ∧ PtrAt w R Γ b o cs us := by
  cases p with
  | rp cs' off' =>
    simp only [pcont, Option.some.injEq, Prod.mk.injEq] at hc
    obtain ⟨rfl, rfl⟩ := hc
    cases hv with
    | rp b o _ _ us h1 h2 h3 => exact ⟨b, o, us, rfl, fun p hp => (h1 p hp).1, fun j hj => (h2 j hj).2, h3⟩
  | ref s off' =>
    simp only [pcont] at hc
    split at hc
    · rename_i f cs' hs
      simp only [Option.some.injEq, Prod.mk.injEq] at hc
      obtain ⟨rfl, rfl⟩ := hc
      cases hv with
      | ref _ _ g hg =>
      obtain ⟨g', vs, ty, hg', _, hh, hsz, h1, h2⟩ := h.slot s _ hs
      obtain rfl : g' = g := by rw [hg] at hg'; simpa using hg'.symm
      refine ⟨g', 0, fun j => vs.getD j undef, by simp, h1, fun j hj => ?_, fun j p hp => ?_⟩
      · have hj' : j < vs.size := by omega
        simp [World.cell?, hh, hj']
      · have hj' : j < vs.size := by have := lt_of_get? hp; omega
        exact h2 j _ p (by simp [hj']) hp
    · cases hc
  | elt s ep k f =>
    simp only [pcont] at hc
    split at hc
    · rename_i f' ep' e sz rs hs
      split at hc
      case isFalse => cases hc
      rename_i he
      subst he
      split at hc
      case h_2 => cases hc
      rename_i r hr
      simp only [Option.some.injEq, Prod.mk.injEq] at hc
      obtain ⟨rfl, rfl⟩ := hc
      cases hv with
      | elt _ _ _ _ _ ep2 sz2 l hg h1 h2 h3 =>
      obtain ⟨l', hg', _, hrow, hsz, hl⟩ := h.slot s _ hs
      rw [hg] at hg'
      simp only [Option.some.injEq, Loc.rows.injEq] at hg'
      obtain ⟨rfl, rfl, rfl⟩ := hg'
      have h3 := h3 rfl
      cases l with
      | none => exact h3.elim
      | some bc =>
        obtain ⟨b, cap⟩ := bc
        obtain ⟨vs, g1, g2, g3, g4, g5⟩ := hl
        have hk := lt_of_get? hr
        obtain ⟨hrl, hone⟩ := hrow r (List.mem_of_getElem? hr)
        have hin : ∀ j, j < r.length → k * sz2 + j < vs.size := fun j hj => by
          have : (k + 1) * sz2 ≤ cap * sz2 := Nat.mul_le_mul_right _ (by omega)
          rw [Nat.add_mul] at this; omega
        refine ⟨b, k * sz2, fun j => vs.getD (k * sz2 + j) undef, h3, hone, fun j hj => ?_, fun j p hp => ?_⟩
        · simp [World.cell?, g1, hin j hj]
        · exact g5 k j r p _ hr hp (by simp [hin j (lt_of_get? hp)])
    · cases hc
  | _ => cases hc
theorem run_isAgg {t : TypeId} {b : Bool} (h : trow P t = some b) (w : World) : (isAgg t).run P w = .ok b w := by
  unfold trow at h
  cases hu : P.underlying t with
  | none => simp [hu] at h
  | some d =>
    rw [hu] at h
    simp only [Option.map_some, Option.some.injEq] at h
    unfold isAgg
    rw [Sem.run_bind, run_underlying hu w]
    cases d <;> simp_all
theorem run_sizeOf {t : TypeId} {n : Nat} (h : tsz P t = some n) (w : World) : (sizeOf t).run P w = .ok n w := by
  unfold tsz at h
  cases hu : P.info? t with
  | none => simp [hu] at h
  | some i => rw [hu] at h; simp at h; simp [sizeOf, typeInfo, hu, h]
theorem tel_some {t e : TypeId} (h : tel P t = some e) : P.underlying t = some (.slice e) := by
  unfold tel at h; split at h
  · rename_i e' he; simp at h; rw [he, h]
  · cases h
theorem tarr_some {t e : TypeId} {n : Nat} (h : tarr P t = some (n, e)) : P.underlying t = some (.array n e) := by
  unfold tarr at h; split at h
  · rename_i n' e' he; simp at h; rw [he, h.1, h.2]
  · cases h
theorem tfld_some {t : TypeId} {k off : Nat} {ft : TypeId} (h : tfld P t k = some (off, ft)) : ∃ fs f n, P.underlying t = some (.struct fs) ∧ fs[k]? = some f ∧ f.offset = off ∧ f.type = ft ∧ tsz P ft = some (n + 1) := by
  unfold tfld at h
  split at h
  · rename_i fs hfs
    split at h
    · rename_i f hf
      split at h
      · cases h
      · rename_i n hn hs
        simp only [Option.some.injEq, Prod.mk.injEq] at h
        obtain ⟨rfl, rfl⟩ := h
        cases n with
        | zero => exact (hn rfl).elim
        | succ n => exact ⟨fs, f, n, hfs, hf, rfl, rfl, hs⟩
      · cases h
    · cases h
  · cases h
theorem rep_agg {cs : List PV} {us : Nat → Value} {off n : Nat} (h1 : ∀ p ∈ cs, p.one = true) (hrep : ∀ (j : Nat) (p : PV), cs[j]? = some p → Rep w R Γ (us j) p) (hn : off + n ≤ cs.length) :
    Rep w R Γ (.agg (((List.range n).map fun j => us (off + j)).toArray)) (.agg ((cs.drop off).take n)) := by
  refine .agg _ _ (by simp; omega) (fun p hp => h1 p (List.mem_of_mem_drop (List.mem_of_mem_take hp))) (fun i u p hu hp => ?_)
  have hi : i < n := by have := lt_of_get? hu; simpa using this
  rw [List.getElem?_map, List.getElem?_range hi] at hu
  obtain rfl : us (off + i) = u := by simpa using hu
  rw [List.getElem?_take, if_pos hi, List.getElem?_drop] at hp
  exact hrep _ p hp
theorem load_sound {b o : Nat} {cs : List PV} {us : Nat → Value} (hp : PtrAt w R Γ b o cs us) {t : TypeId} {off : Nat} {p : PV} (hl : pload P t cs off = some p) :
    ∃ u, (loadVar t ⟨b, o + off, none⟩).run P w = .ok u w ∧ Rep w R Γ u p := by
  unfold pload at hl
  split at hl
  · rename_i n hr hs
    split at hl
    · rename_i hn
      obtain rfl : PV.agg ((cs.drop off).take n) = p := by simpa using hl
      refine ⟨_, ?_, rep_agg hp.one hp.rep hn⟩
      have hc : (loadCells ⟨b, o + off, none⟩ n).run P w = .ok (((List.range n).map fun j => us (off + j)).toArray) w := by
        have := run_loadCells_list (P := P) w ⟨b, o + off, none⟩ ((List.range n).map fun j => us (off + j)) (fun j v hv => by
          have hj : j < n := by have := lt_of_get? hv; simpa using this
          rw [List.getElem?_map, List.getElem?_range hj] at hv
          obtain rfl : us (off + j) = v := by simpa using hv
          rw [Addr.add_mid, Nat.add_assoc]
          exact hp.cell _ (by omega))
        simpa using this
      simp [loadVar, run_isAgg hr, run_sizeOf hs, hc]
    · cases hl
  · rename_i hr
    have hj := lt_of_get? hl
    exact ⟨us off, by simp [loadVar, run_isAgg hr, hp.cell off hj], hp.rep off p hl⟩
  · cases hl
theorem part_sound {us : List Value} {cs : List PV} (hlen : us.length = cs.length) (h1 : ∀ p ∈ cs, p.one = true) (hrep : ∀ (i : Nat) (u : Value) (p : PV), us[i]? = some u → cs[i]? = some p → Rep w R Γ u p)
    {t : TypeId} {off : Nat} {p : PV} (hl : pload P t cs off = some p) : ∃ u, (part t us.toArray off).run P w = .ok u w ∧ Rep w R Γ u p := by
  unfold pload at hl
  split at hl
  · rename_i n hr hs
    split at hl
    · rename_i hn
      obtain rfl : PV.agg ((cs.drop off).take n) = p := by simpa using hl
      refine ⟨.agg ((us.drop off).take n).toArray, ?_, ?_⟩
      · simp [part, run_isAgg hr, run_sizeOf hs, List.take_drop]
      · refine .agg _ _ (by simp; omega) (fun p hp => h1 p (List.mem_of_mem_drop (List.mem_of_mem_take hp))) (fun i u p hu hp => ?_)
        rw [List.getElem?_take] at hu hp
        split at hu
        · rename_i hi
          rw [if_pos hi] at hp
          rw [List.getElem?_drop] at hu hp
          exact hrep _ u p hu hp
        · cases hu
    · cases hl
  · rename_i hr
    have hj := lt_of_get? hl
    have hu : us[off]? = some (us[off]'(by omega)) := List.getElem?_eq_getElem (by omega)
    exact ⟨_, by simp [part, run_isAgg hr, hu], hrep off _ p hu hl⟩
  · cases hl
end
end Go.Qg

namespace Go.Qg
open Go.RowKit (Below)
def pint (op : BinOp) (k : IntKind) (a b : Int) : Option Value :=
  match op with
  | .add => some (.int k (k.wrap (a + b)))
  | .sub => some (.int k (k.wrap (a - b)))
  | .mul => some (.int k (k.wrap (a * b)))
  | .quo => guard (b ≠ 0) (some (.int k (k.wrap (a.tdiv b))))
  | .rem => guard (b ≠ 0) (some (.int k (a.tmod b)))
  | .and => some (.int k (bits .and k a b))
  | .or => some (.int k (bits .or k a b))
  | .xor => some (.int k (bits .xor k a b))
  | .andNot => some (.int k (bits .andNot k a b))
  | .eql => some (.bool (a == b))
  | .neq => some (.bool (a != b))
  | .lss => some (.bool (decide (a < b)))
  | .leq => some (.bool (decide (a ≤ b)))
  | .gtr => some (.bool (decide (b < a)))
  | .geq => some (.bool (decide (b ≤ a)))
  | _ => none
def pshift (op : BinOp) (k : IntKind) (a b : Int) : Option Value :=
  match op with
  | .shl => guard (0 ≤ b ∧ b ≤ k.bits) (some (.int k (k.wrap (a * 2 ^ b.toNat))))
  | .shr => guard (0 ≤ b ∧ b ≤ k.bits) (some (.int k (a / 2 ^ b.toNat)))
  | _ => none
def pstring (op : BinOp) (x y : ByteArray) : Option Value :=
  match op with
  | .add => guard (x.size + y.size ≤ 9223372036854775807) (some (.string (x ++ y)))
  | .eql => some (.bool (x.toList == y.toList))
  | .neq => some (.bool !(x.toList == y.toList))
  | .lss => some (.bool (Op.bytesLess x.toList y.toList))
  | .leq => some (.bool (Op.bytesLess x.toList y.toList || x.toList == y.toList))
  | .gtr => some (.bool !(Op.bytesLess x.toList y.toList || x.toList == y.toList))
  | .geq => some (.bool !(Op.bytesLess x.toList y.toList))
  | _ => none
def peq1 : Nat → PV → PV → Option Bool
  | 0, .v (.int k a), .v (.int k' b) => if k = k' then some (a == b) else none
  | 1, .v (.bool a), .v (.bool b) => some (a == b)
  | 2, .v (.string a), .v (.string b) => some (a.toList == b.toList)
  | _, _, _ => none
def peq (xs ys : List PV) : List (Nat × Nat) → Option Bool
  | [] => some true
  | (off, m) :: fs =>
    match xs[off]?, ys[off]? with
    | some x, some y => match peq1 m x y, peq xs ys fs with
      | some s, some r => some (s && r)
      | _, _ => none
    | _, _ => none
def pbin (P : Program) (op : BinOp) (t : TypeId) (x y : PV) : Option PV :=
  match x, y with
  | .v (.int k a), .v (.int k' b) =>
    match op with
    | .shl => (pshift .shl k a b).map .v
    | .shr => (pshift .shr k a b).map .v
    | op => if k = k' then (pint op k a b).map .v else none
  | .v (.bool a), .v (.bool b) =>
    if tbool P t then match op with
      | .eql => some (.v (.bool (a == b)))
      | .neq => some (.v (.bool !(a == b)))
      | _ => none
    else none
  | .v (.string a), .v (.string b) => (pstring op a b).map .v
  | .agg xs, .agg ys =>
    match teqf P t with
    | some fs => match op with
      | .eql => (peq xs ys fs).map fun b => .v (.bool b)
      | .neq => (peq xs ys fs).map fun b => .v (.bool !b)
      | _ => none
    | none => none
  | _, _ => none
def pun (op : UnOp) (x : PV) : Option PV :=
  match op, x with
  | .neg, .v (.int k n) => some (.v (.int k (k.wrap (0 - n))))
  | .not, .v (.bool b) => some (.v (.bool !b))
  | _, _ => none
def pconv (P : Program) (src dst : TypeId) (x : PV) : Option PV :=
  match x with
  | .v (.int _ n) => match tint P dst, trow P src with
    | some k, some _ => some (.v (.int k (k.wrap n)))
    | _, _ => none
  | .v (.string s) => if tstr P dst && (trow P src).isSome then some (.v (.string s)) else none
  | _ => none
section
variable {P : Program} {N : Nat} {B : Base} {w w' : World} {R R' : Nat → Nat → Prop} {Γ Γ' : Nat → Option Loc} {a : Act} {fr : PF}
theorem Rep.of_v {u x : Value} (h : Rep w R Γ u (.v x)) : u = x := by cases h; rfl
theorem shift_bits (k : IntKind) (b : Int) (h : 0 ≤ b ∧ b ≤ k.bits) : min b.toNat k.bits = b.toNat := by omega
theorem tbool_some {t : TypeId} (h : tbool P t = true) : P.underlying t = some .bool := by
  unfold tbool at h; split at h
  · assumption
  · cases h
theorem pint_sound {op : BinOp} {k : IntKind} {a b : Int} {v : Value} (h : pint op k a b = some v) (t : TypeId) (w : World) : (binOp op t (.int k a) (.int k b)).run P w = .ok v w := by
  cases op <;> simp only [pint] at h
  all_goals first
    | cases h; done
    | (obtain rfl := Option.some.inj h; simp [binOp, Op.intArith]; done)
    | (obtain rfl := Option.some.inj h; simp [binOp, intBits_and, intBits_or, intBits_xor, intBits_andNot]; done)
    | (obtain rfl := Option.some.inj h; simp [binOp, Op.intCmp]; done)
    | (obtain ⟨hb, h⟩ := guard_some h
       obtain rfl := Option.some.inj h; simp [binOp, Op.intDiv, hb])
theorem pshift_sound {op : BinOp} {k k' : IntKind} {a b : Int} {v : Value} (h : pshift op k a b = some v) (t : TypeId) (w : World) : (binOp op t (.int k a) (.int k' b)).run P w = .ok v w := by
  cases op <;> simp only [pshift] at h
  all_goals first
    | cases h; done
    | (obtain ⟨hb, h⟩ := guard_some h
       · obtain rfl := Option.some.inj h
         have hm := shift_bits k b hb
         have h0 : ¬ b < 0 := by omega
         simp [binOp, Op.shift, h0, hm]
         try exact Int.fdiv_eq_ediv_of_nonneg _ (Int.pow_nonneg (by omega)))
theorem pstring_sound {op : BinOp} {a b : ByteArray} {v : Value} (h : pstring op a b = some v) (t : TypeId) (w : World) : (binOp op t (.string a) (.string b)).run P w = .ok v w := by
  have e : binOp op t (.string a) (.string b) = Op.stringOp op a b := by cases op <;> rfl
  rw [e]
  cases op <;> simp only [pstring] at h
  all_goals first
    | cases h; done
    | (obtain rfl := Option.some.inj h; simp [Op.stringOp]; done)
    | (obtain ⟨hb, h⟩ := guard_some h
       · obtain rfl := Option.some.inj h
         have h0 : ¬ ((a.size + b.size : Nat) : Int) > IntKind.i64.max := by simp [IntKind.max, IntKind.signed, IntKind.bits]; omega
         simp only [Op.stringOp, h0, if_false]; rfl)
theorem eqGuard_v (op : BinOp) (t : TypeId) (x y : Operand) (u v : Value) (hu : u.oneCell' = true) (hn : u ≠ .nilIface) : eqGuard op t x y u v = pure () := by
  cases u <;> first | exact (hn rfl).elim | (cases op <;> rfl) | cases hu
theorem peq1_inv {m : Nat} {x y : PV} {s : Bool} (h : peq1 m x y = some s) : (m = 0 ∧ ∃ k a b, x = .v (.int k a) ∧ y = .v (.int k b) ∧ s = (a == b)) ∨
    (m = 1 ∧ ∃ a b, x = .v (.bool a) ∧ y = .v (.bool b) ∧ s = (a == b)) ∨ (m = 2 ∧ ∃ a b, x = .v (.string a) ∧ y = .v (.string b) ∧ s = (a.toList == b.toList)) := by
  unfold peq1 at h
  split at h
  · split at h
    · rename_i hk; subst hk; exact .inl ⟨rfl, _, _, _, rfl, rfl, (Option.some.inj h).symm⟩
    · cases h
  · exact .inr (.inl ⟨rfl, _, _, rfl, rfl, (Option.some.inj h).symm⟩)
  · exact .inr (.inr ⟨rfl, _, _, rfl, rfl, (Option.some.inj h).symm⟩)
  · cases h
theorem peq_sound {xs ys : List PV} {ux uy : List Value} (hx : ∀ (i : Nat) (p : PV), xs[i]? = some p → ∃ u, ux[i]? = some u ∧ Rep w R Γ u p) (hy : ∀ (i : Nat) (p : PV), ys[i]? = some p → ∃ u, uy[i]? = some u ∧ Rep w R Γ u p) (d : Nat) :
    ∀ (fs : List Field) (ms : List (Nat × Nat)) (r : Bool),
      (fs.mapM fun f => if f.name = "_" then none else match P.underlying f.type with
        | some (.int _) => some (f.offset, 0)
        | some .bool => some (f.offset, 1)
        | some .string => some (f.offset, 2)
        | _ => none) = some ms → peq xs ys ms = some r → (Op.eqFields (d + 1) ux.toArray uy.toArray fs).run P w = .ok r w
  | [], ms, r, hm, hr => by
    simp at hm; subst hm
    simp [peq] at hr; subst hr
    simp [Op.eqFields]
  | f :: fs, ms, r, hm, hr => by
    rw [List.mapM_cons] at hm
    simp only [Option.bind_eq_bind, Option.bind_eq_some_iff] at hm
    obtain ⟨m, hm1, ms', hm2, hms⟩ := hm
    obtain rfl : m :: ms' = ms := by simpa using hms
    split at hm1
    · cases hm1
    · rename_i hname
      simp only [Op.eqFields, ne_eq, hname, not_false_eq_true, if_true]
      simp only [peq] at hr
      split at hr
      case h_2 => cases hr
      rename_i x y hxa hya
      split at hr
      case h_2 => cases hr
      rename_i s r' hs hr'
      obtain rfl := Option.some.inj hr
      obtain ⟨u, hu1, hu2⟩ := hx _ _ hxa
      obtain ⟨v, hv1, hv2⟩ := hy _ _ hya
      have h3 : trow P f.type = some false ∧ (Op.equalIn (d + 1) f.type u v).run P w = .ok s w ∧ m.1 = f.offset := by
        split at hm1
        case h_4 => cases hm1
        all_goals
          rename_i hund
          obtain rfl := Option.some.inj hm1
          refine ⟨by simp [trow, hund], ?_, rfl⟩
          rcases peq1_inv hs with ⟨h0, k, a, b, rfl, rfl, rfl⟩ | ⟨h0, a, b, rfl, rfl, rfl⟩ | ⟨h0, a, b, rfl, rfl, rfl⟩ <;> simp at h0
          all_goals
            obtain rfl := Rep.of_v hu2
            obtain rfl := Rep.of_v hv2
            first
              | exact run_equalIn_int w d f.type _ _ _ _ hund
              | exact run_equalIn_bool' w d f.type _ _ hund
              | exact run_equalIn_string w d f.type _ _ hund
      obtain ⟨hrow, h3, hoff⟩ := h3
      rw [hoff] at hu1 hv1
      have hpart : ∀ (us : List Value) (u : Value), us[f.offset]? = some u → (part f.type us.toArray f.offset).run P w = .ok u w := fun us u hu' => by
        simp [part, run_isAgg hrow, hu']
      have h4 := peq_sound hx hy d fs ms' r' hm2 hr'
      cases s
      · simp [hpart _ _ hu1, hpart _ _ hv1, h3]
      · simp [hpart _ _ hu1, hpart _ _ hv1, h3, h4]
theorem rep_cells {xs : List PV} {ux : List Value} (hl : ux.length = xs.length) (h : ∀ (i : Nat) (u : Value) (p : PV), ux[i]? = some u → xs[i]? = some p → Rep w R Γ u p) (i : Nat) (p : PV) (hp : xs[i]? = some p) : ∃ u, ux[i]? = some u ∧ Rep w R Γ u p := by
  have hi := lt_of_get? hp
  have hu : ux[i]? = some (ux[i]'(by omega)) := List.getElem?_eq_getElem (by omega)
  exact ⟨_, hu, h i _ p hu hp⟩
theorem pbin_sound {op : BinOp} {t : TypeId} {x y p : PV} (h : pbin P op t x y = some p) (ox oy : Operand) {u v : Value} (hu : Rep w R Γ u x) (hv : Rep w R Γ v y) :
    ∃ r, (do eqGuard op t ox oy u v; binOp op t u v : Sem Value).run P w = .ok r w ∧ Rep w R Γ r p := by
  unfold pbin at h
  split at h
  · rename_i k a k' b
    obtain rfl := Rep.of_v hu
    obtain rfl := Rep.of_v hv
    have hg : ∀ op, eqGuard op t ox oy (.int k a) (.int k' b) = pure () := fun op => eqGuard_v op t ox oy _ _ rfl (by simp)
    rw [hg]
    split at h
    · simp only [Option.map_eq_some_iff] at h
      obtain ⟨r, hr, rfl⟩ := h
      refine ⟨r, by simpa using pshift_sound hr t w, ?_⟩
      simp only [pshift] at hr
      obtain ⟨_, hr⟩ := guard_some hr
      obtain rfl := Option.some.inj hr; exact .v _ rfl
    · simp only [Option.map_eq_some_iff] at h
      obtain ⟨r, hr, rfl⟩ := h
      refine ⟨r, by simpa using pshift_sound hr t w, ?_⟩
      simp only [pshift] at hr
      obtain ⟨_, hr⟩ := guard_some hr
      obtain rfl := Option.some.inj hr; exact .v _ rfl
    · split at h
      · rename_i hk; subst hk
        simp only [Option.map_eq_some_iff] at h
        obtain ⟨r, hr, rfl⟩ := h
        refine ⟨r, by simpa using pint_sound hr t w, ?_⟩
        refine Rep.v _ ?_
        cases op <;> simp only [pint] at hr <;> first
          | (obtain rfl := Option.some.inj hr; rfl)
          | cases hr; done
          | (obtain ⟨_, hr⟩ := guard_some hr
             obtain rfl := Option.some.inj hr; rfl)
      · cases h
  · rename_i a b
    obtain rfl := Rep.of_v hu
    obtain rfl := Rep.of_v hv
    split at h
    · rename_i hb
      have hb' := tbool_some hb
      split at h
      · obtain rfl := Option.some.inj h
        exact ⟨.bool (a == b), by rw [eqGuard_v _ _ _ _ _ _ rfl (by simp)]; simpa using run_eql_bool w t a b hb', .v _ rfl⟩
      · obtain rfl := Option.some.inj h
        exact ⟨.bool (!(a == b)), by rw [eqGuard_v _ _ _ _ _ _ rfl (by simp)]; simpa using run_neq_bool w t a b hb', .v _ rfl⟩
      · cases h
    · cases h
  · rename_i a b
    obtain rfl := Rep.of_v hu
    obtain rfl := Rep.of_v hv
    simp only [Option.map_eq_some_iff] at h
    obtain ⟨r, hr, rfl⟩ := h
    refine ⟨r, by rw [eqGuard_v _ _ _ _ _ _ rfl (by simp)]; simpa using pstring_sound hr t w, ?_⟩
    refine Rep.v _ ?_
    cases op <;> simp only [pstring] at hr <;> first
      | (obtain rfl := Option.some.inj hr; rfl)
      | cases hr; done
      | (obtain ⟨_, hr⟩ := guard_some hr
         obtain rfl := Option.some.inj hr; rfl)
  · rename_i xs ys
    cases hu with
    | agg ux _ l1 _ r1 =>
    cases hv with
    | agg uy _ l2 _ r2 =>
    split at h
    · rename_i fs hfs
      unfold teqf at hfs
      split at hfs
      · rename_i fields hund
        split at hfs
        · cases hfs
        · rename_i hok
          simp only [Bool.or_eq_true, not_or, Bool.not_eq_true] at hok
          have hf : P.fieldsOf t = fields := by simp [Program.fieldsOf, hund]
          have hg := run_eqGuard_agg (P := P) w op t ox oy ux.toArray uy.toArray hok.2
          have hrun : ∀ b, peq xs ys fs = some b → (Op.equalIn 10000 t (.agg ux.toArray) (.agg uy.toArray)).run P w = .ok b w := fun b hb => by
            rw [run_equalIn_agg w 9999 t _ _ (by rw [hf]; exact hund) hok.1, hf]
            exact peq_sound (rep_cells l1 r1) (rep_cells l2 r2) 9998 _ _ _ hfs hb
          split at h
          · simp only [Option.map_eq_some_iff] at h
            obtain ⟨b, hb, rfl⟩ := h
            refine ⟨.bool b, ?_, .v _ rfl⟩
            simp only [Sem.run_bind, hg, Result.andThen_ok]
            rw [run_eql_struct, hrun b hb]; rfl
          · simp only [Option.map_eq_some_iff] at h
            obtain ⟨b, hb, rfl⟩ := h
            refine ⟨.bool (!b), ?_, .v _ rfl⟩
            simp only [Sem.run_bind, hg, Result.andThen_ok]
            rw [run_neq_struct, hrun b hb]; rfl
          · cases h
      · cases hfs
    · cases h
  · cases h
theorem pun_sound {op : UnOp} {x p : PV} (h : pun op x = some p) {u : Value} (hu : Rep w R Γ u x) : ∃ r, (Op.unary op u).run P w = .ok r w ∧ Rep w R Γ r p := by
  unfold pun at h
  split at h
  · obtain rfl := Rep.of_v hu
    obtain rfl := Option.some.inj h
    exact ⟨_, by rw [unary_neg]; rfl, .v _ rfl⟩
  · obtain rfl := Rep.of_v hu
    obtain rfl := Option.some.inj h
    exact ⟨_, by rw [unary_not]; rfl, .v _ rfl⟩
  · cases h
theorem pconv_sound {src dst : TypeId} {x p : PV} (h : pconv P src dst x = some p) {u : Value} (hu : Rep w R Γ u x) : ∃ r, (convert src dst u).run P w = .ok r w ∧ Rep w R Γ r p := by
  unfold pconv at h
  split at h
  · obtain rfl := Rep.of_v hu
    split at h
    · rename_i k b hk hs
      obtain rfl := Option.some.inj h
      refine ⟨_, ?_, .v _ rfl⟩
      unfold tint at hk; split at hk
      · rename_i k' hd
        obtain rfl := Option.some.inj hk
        unfold trow at hs
        cases hu' : P.underlying src with
        | none => simp [hu'] at hs
        | some d => cases d <;> simp [convert, run_underlying hu', run_underlying hd, Conv.intToInt] <;> rfl
      · cases hk
    · cases h
  · obtain rfl := Rep.of_v hu
    split at h
    · rename_i hb
      obtain rfl := Option.some.inj h
      simp only [Bool.and_eq_true] at hb
      obtain ⟨hd, hs⟩ := hb
      refine ⟨_, ?_, .v _ rfl⟩
      unfold tstr at hd; split at hd
      · rename_i hd'
        unfold trow at hs
        cases hu' : P.underlying src with
        | none => simp [hu'] at hs
        | some d => cases d <;> simp [convert, run_underlying hu', run_underlying hd'] <;> rfl
      · cases hd
    · cases h
  · cases h
end
end Go.Qg

namespace Go.Qg
open Go.RowKit (Below)
def tzero (P : Program) (t : TypeId) : Option (List PV) :=
  match (P.info? t).bind (·.zero) with
  | some z => if z.cells.toList.all (·.oneCell') then some (z.cells.toList.map cv1) else none
  | none => none
def tpl (P : Program) (t : TypeId) : Option (List (Nat × Nat)) :=
  match P.underlying t with
  | some (.struct fs) => fs.toList.mapM fun f => (tsz P f.type).map fun n => (f.offset, n)
  | _ => none
def setRange (cells : List PV) (off : Nat) : List PV → List PV
  | [] => cells
  | p :: ps => setRange (cells.set off p) (off + 1) ps
def pfill (place : Nat → Option (Nat × Nat)) (cells : List PV) : List (Nat × PV) → Option (List PV)
  | [] => some cells
  | (i, p) :: rest =>
    match place i with
    | none => none
    | some (off, size) => if p.cells.length = size ∧ off + p.cells.length ≤ cells.length ∧ p.cells.all (·.one) = true then pfill place (setRange cells off p.cells) rest else none
def pbuild (P : Program) (t : TypeId) (parts : List (Nat × PV)) : Option PV :=
  match tzero P t with
  | some z => match tpl P t with
    | some places => (pfill (fun i => places[i]?) z parts).map .agg
    | none => match tarr P t with
      | some (_, e) => match tsz P e with
        | some n => (pfill (fun i => some (i * n, n)) z parts).map .agg
        | none => none
      | none => none
  | none => none
def pown (fr : PF) (i ep : Nat) : Option (Nat × List (List PV)) :=
  match fr[i]? with
  | some (.rows _ ep' _ sz rs) => if ep' = ep then some (sz, rs) else none
  | _ => none
def padd (fr : PF) (p : PV) (n : Nat) : Option PV :=
  match p with
  | .rp cs off => some (.rp cs (off + n))
  | .ref s off => some (.ref s (off + n))
  | .elt i ep k f => match pown fr i ep with
    | some _ => some (.elt i ep k (f + n))
    | none => none
  | _ => none
def pindexAddr (P : Program) (fr : PF) (t : TypeId) (x : PV) (n : Int) : Option PV :=
  match tel P t with
  | some e => match x with
    | .sl sz len f => if tsz P e = some sz ∧ 0 < sz then guard (0 ≤ n ∧ n < (len : Int)) (some (.rp (f n.toNat) 0)) else none
    | .own i ep off len _ => match pown fr i ep with
      | some (sz, _) => if tsz P e = some sz then guard (0 ≤ n ∧ n < (len : Int)) (some (.elt i ep (off + n.toNat) 0)) else none
      | none => none
    | _ => none
  | none => match tarr P t with
    | some (len, e) => match tsz P e with
      | some sz => guard (0 ≤ n ∧ n < (len : Int)) (padd fr x (n.toNat * sz))
      | none => none
    | none => none
def pindex (P : Program) (t : TypeId) (x : PV) (n : Int) : Option PV :=
  match x with
  | .agg cs => match tarr P t with
    | some (len, e) => match tsz P e with
      | some sz => guard (0 ≤ n ∧ n < (len : Int)) (pload P e cs (n.toNat * sz))
      | none => none
    | none => none
  | .v (.string s) => if tstr P t then guard (0 ≤ n ∧ n < (s.size : Int)) (some (.v (.int .u8 (s.data.toList.getD n.toNat 0).toNat))) else none
  | _ => none
def pbound : Option PV → Option (Option Int)
  | none => some none
  | some (.v (.int _ n)) => some (some n)
  | _ => none
def pslice (P : Program) (fr : PF) (t : TypeId) (x : PV) (lo hi mx : Option PV) : Option PV :=
  match tel P t with
  | some e => match x, mx with
    | .sl sz len f, none =>
      if tsz P e = some sz then
        match lo, hi with
        | none, none => some (.sl sz len f)
        | some (.v (.int _ l)), none => guard (0 ≤ l ∧ l ≤ (len : Int)) (some (.sl sz (len - l.toNat) fun i => f (l.toNat + i)))
        | none, some (.v (.int _ h)) => guard (0 ≤ h ∧ h ≤ (len : Int)) (some (.sl sz h.toNat f))
        | some (.v (.int _ l)), some (.v (.int _ h)) => guard (0 ≤ l ∧ l ≤ h ∧ h ≤ (len : Int)) (some (.sl sz (h.toNat - l.toNat) fun i => f (l.toNat + i)))
        | _, _ => none
      else none
    | .own i ep off len c, mx => match pown fr i ep, pbound lo, pbound hi, pbound mx with
      | some (sz, _), some l, some h, some m => if tsz P e = some sz ∧ (m.isSome → h.isSome) then
          guard (0 ≤ l.getD 0 ∧ l.getD 0 ≤ h.getD len ∧ h.getD len ≤ (len : Int) ∧ (m = none ∨ m = h) ∧ (c = true → m = none → h.getD len = len))
            (some (if l.getD 0 = 0 ∨ l.getD 0 < h.getD len then .own i ep (off + (l.getD 0).toNat) ((h.getD len).toNat - (l.getD 0).toNat) (c || m.isSome) else .sl sz 0 fun _ => [])) else none
      | _, _, _, _ => none
    | .nil, mx => match pbound lo, pbound hi, pbound mx with
      | some l, some h, some m => if (m.isSome → h.isSome) ∧ (tsz P e).isSome then guard (l.getD 0 = 0 ∧ h.getD 0 = 0 ∧ m.getD 0 = 0) (some .nil) else none
      | _, _, _ => none
    | .sl sz len f, some (.v (.int _ m)) =>
      if tsz P e = some sz then
        match lo, hi with
        | none, some (.v (.int _ h)) => guard (0 ≤ h ∧ h = m ∧ h ≤ (len : Int)) (some (.slc sz h.toNat f))
        | _, _ => none
      else none
    | _, _ => none
  | none => none
def tmap (P : Program) (t : TypeId) : Option (TypeId × TypeId) := match P.underlying t with | some (.map k e) => some (k, e) | _ => none
def plen (P : Program) (fr : PF) (t : TypeId) (x : PV) : Option PV :=
  match x with
  | .sl _ n _ => if (tel P t).isSome then some (.v (.int .i64 n)) else none
  | .nil => if (tel P t).isSome then some (.v (.int .i64 0)) else none
  | .own i ep _ n _ => match pown fr i ep with
    | some _ => if (tel P t).isSome then some (.v (.int .i64 n)) else none
    | none => none
  | .mp i => match fr[i]? with
    | some (.map _ _ vs) => if (tmap P t).isSome then some (.v (.int .i64 vs.length)) else none
    | _ => none
  | .v (.string s) => if tstr P t then some (.v (.int .i64 s.size)) else none
  | _ => none
def pbuiltin (P : Program) (fr : PF) : Builtin → List PV → List TypeId → Option PV
  | .len, [x], [t] => plen P fr t x
  | .min, [.v (.int k a), .v (.int k' b)], _ => if k = k' then some (.v (.int k (if b < a then b else a))) else none
  | .max, [.v (.int k a), .v (.int k' b)], _ => if k = k' then some (.v (.int k (if b > a then b else a))) else none
  | _, _, _ => none
def pisNil (fr : PF) : PV → Option Bool
  | .nil => some true
  | .sl sz n _ => guard (0 < n ∧ 0 < sz) (some false)
  | .own i ep _ n _ => match pown fr i ep with
    | some _ => guard (0 < n) (some false)
    | none => none
  | _ => none
def pisNilIface : PV → Option Bool
  | .v .nilIface => some true
  | .ifc _ _ => some false
  | _ => none
def isLit : Operand → Bool
  | .const _ => true
  | _ => false
def pnil (P : Program) (fr : PF) (op : BinOp) (t : TypeId) (lit : Bool) (x y : PV) : Option PV :=
  match y with
  | .nil => if (tel P t).isSome then match op, pisNil fr x with
    | .eql, some b => some (.v (.bool b))
    | .neq, some b => some (.v (.bool !b))
    | _, _ => none
    else none
  | .v .nilIface => match P.underlying t with
    | some (.interface _) => if lit then match op, pisNilIface x with
      | .eql, some b => some (.v (.bool b))
      | .neq, some b => some (.v (.bool !b))
      | _, _ => none
      else none
    | _ => none
  | _ => none
def isIfc : TypeDesc → Bool
  | .interface _ => true
  | _ => false
def tifc (P : Program) (t : TypeId) : Option Bool := (P.underlying t).map isIfc
def pzero (P : Program) (t : TypeId) : Option PV := (P.info? t).bind (·.zero) |>.map cv
def pfail (P : Program) (t : TypeId) : Option PV := (pzero P t).map fun z => .tup [z, .v (.bool false)]
def ptypeAssert (P : Program) (x : PV) (t : TypeId) (ok : Bool) : Option PV :=
  match tifc P t, x with
  | some false, .v .nilIface => if ok then pfail P t else none
  | some false, .ifc s p => if s = t then some (if ok then .tup [p, .v (.bool true)] else p) else if ok then pfail P t else none
  | _, _ => none
def pval (P : Program) (fr : PF) (op : Op) : Option PV :=
  match op with
  | .move x | .assign x => some (rd fr x)
  | .pick c x y => match rd fr c with
    | .v (.bool b) => match rd fr x, rd fr y with
      | .v (.bool p), .v (.bool q) => some (.v (.bool (if b then p else q)))
      | p, q => if b then some p else some q
    | _ => none
  | .load t x => match pcont fr (rd fr x) with
    | some (cs, off) => pload P t cs off
    | none => none
  | .fieldAddr s x k => match tfld P s k with
    | some (o, _) => padd fr (rd fr x) o
    | none => none
  | .field t x k => match tfld P t k, rd fr x with
    | some (o, ft), .agg cs => pload P ft cs o
    | _, _ => none
  | .indexAddr t x i => match rd fr i with
    | .v (.int _ n) => pindexAddr P fr t (rd fr x) n
    | _ => none
  | .index t x i => match rd fr i with
    | .v (.int _ n) => pindex P t (rd fr x) n
    | _ => none
  | .slice t x lo hi mx => pslice P fr t (rd fr x) (lo.map (rd fr)) (hi.map (rd fr)) (mx.map (rd fr))
  | .extract x k => match rd fr x with
    | .tup cs => cs[k]?
    | _ => none
  | .nilCheck x => match rd fr x with
    | .rp cs off => some (.rp cs off)
    | .ref s off => some (.ref s off)
    | .elt i ep k f => match pown fr i ep with
      | some _ => some (.elt i ep k f)
      | none => none
    | _ => none
  | .makeFunc fn first cap => some (.clo fn (first.toList.map (rd fr)) (cap.toList.map (rd fr)))
  | .makeInterface t x => match tifc P t with
    | some false => some (.ifc t (rd fr x))
    | _ => none
  | .typeAssert x _ t ok => ptypeAssert P (rd fr x) t ok
  | .binOp op t x y _ => match pnil P fr op t (isLit y) (rd fr x) (rd fr y) with
    | some p => some p
    | none => pbin P op t (rd fr x) (rd fr y)
  | .unOp op _ x => pun op (rd fr x)
  | .convert s d x => pconv P s d (rd fr x)
  | .build t parts => pbuild P t (parts.toList.map fun p => (p.1, rd fr p.2))
  | .call c => match c.callee with
    | .builtin b => pbuiltin P fr b (c.args.toList.map (rd fr)) c.argTypes.toList
    | _ => none
  | _ => none
section
variable {P : Program} {N : Nat} {B : Base} {w w' : World} {R R' : Nat → Nat → Prop} {Γ Γ' : Nat → Option Loc} {a : Act} {fr : PF}
theorem setRange_spec (ps : List PV) : ∀ (us : List Value) (cells : List PV) (cv : Array Value) (off : Nat), us.length = ps.length → (∀ (i : Nat) (u : Value) (p : PV), us[i]? = some u → ps[i]? = some p → Rep w R Γ u p) → (∀ p ∈ ps, p.one = true) →
    cv.size = cells.length → (∀ (i : Nat) (u : Value) (p : PV), cv[i]? = some u → cells[i]? = some p → Rep w R Γ u p) → (∀ p ∈ cells, p.one = true) →
    ∀ k, ((us.zipIdx k).foldl (fun cs (x : Value × Nat) => cs.setIfInBounds (off + x.2) x.1) cv).size = (setRange cells (off + k) ps).length ∧
      (∀ (i : Nat) (u : Value) (p : PV), ((us.zipIdx k).foldl (fun cs (x : Value × Nat) => cs.setIfInBounds (off + x.2) x.1) cv)[i]? = some u → (setRange cells (off + k) ps)[i]? = some p → Rep w R Γ u p) ∧
      (∀ p ∈ setRange cells (off + k) ps, p.one = true) ∧ (setRange cells (off + k) ps).length = cells.length := by
  induction ps with
  | nil =>
    intro us cells cv off hl _ _ hs hr h1 k
    obtain rfl : us = [] := by simpa using hl
    exact ⟨by simpa [setRange] using hs, by simpa [setRange] using hr, by simpa [setRange] using h1, rfl⟩
  | cons p ps ih =>
    intro us cells cv off hl hps h1p hs hr h1 k
    cases us with
    | nil => simp at hl
    | cons u us =>
      simp only [List.zipIdx_cons, List.foldl_cons, setRange]
      have := ih us (cells.set (off + k) p) (cv.setIfInBounds (off + k) u) off (by simpa using hl) (fun i u' p' hu hp => hps (i + 1) u' p' (by simpa using hu) (by simpa using hp)) (fun q hq => h1p q (List.mem_cons_of_mem _ hq))
        (by simpa using hs) (fun i u' p' hu hp => by
          by_cases hi : off + k = i
          · subst hi
            have hlt := lt_of_get? hp
            rw [List.length_set] at hlt
            rw [List.getElem?_set_self hlt] at hp
            rw [Array.getElem?_setIfInBounds_self_of_lt (by omega)] at hu
            obtain rfl := Option.some.inj hp
            obtain rfl := Option.some.inj hu
            exact hps 0 _ _ rfl rfl
          · rw [List.getElem?_set_ne hi] at hp
            rw [Array.getElem?_setIfInBounds_ne hi] at hu
            exact hr i u' p' hu hp)
        (fun q hq => by
          rcases List.mem_or_eq_of_mem_set hq with h | h
          · exact h1 q h
          · subst h; exact h1p _ List.mem_cons_self) (k + 1)
      rw [List.length_set] at this
      simpa [Nat.add_assoc] using this
theorem cells_of_one {u : Value} (h : u.oneCell' = true) : u.cells = #[u] := by
  cases u <;> first | rfl | cases h
theorem cells_single {u : Value} {p : PV} (h : Rep w R Γ u p) (h1 : p.one = true) : u.cells = #[u] ∧ p.cells = [p] :=
  ⟨cells_of_one (h.oneCell h1), by cases p <;> first | rfl | cases h1⟩
theorem PV.cells_or (p : PV) : (∃ cs, p = .agg cs) ∨ p.cells = [p] := by
  cases p <;> first | exact .inr rfl | exact .inl ⟨_, rfl⟩
theorem rep_cells_of {u : Value} {p : PV} (h : Rep w R Γ u p) (h1 : p.cells.all (·.one) = true) : u.cells.size = p.cells.length ∧ ∀ (i : Nat) (x : Value) (q : PV), u.cells[i]? = some x → p.cells[i]? = some q → Rep w R Γ x q := by
  rcases p.cells_or with ⟨cs, rfl⟩ | hp
  · cases h with
    | agg us _ hl _ hr => exact ⟨by simpa [Value.cells, PV.cells] using hl, by simpa [Value.cells, PV.cells] using hr⟩
  · have ho : p.one = true := by rw [hp] at h1; simpa using h1
    obtain ⟨e1, e2⟩ := cells_single h ho
    rw [e1, e2]
    refine ⟨rfl, fun i x q hx hq => ?_⟩
    have hi : i = 0 := by have := lt_of_get? hq; simpa using this
    subst hi
    obtain rfl := Option.some.inj hx
    obtain rfl := Option.some.inj hq
    exact h
theorem pfill_sound (place : Nat → Option (Nat × Nat)) : ∀ (ps : List (Nat × PV)) (us : List (Nat × Value)) (cells cs : List PV) (cv : Array Value), us.length = ps.length →
    (∀ (i : Nat) (u : Nat × Value) (p : Nat × PV), us[i]? = some u → ps[i]? = some p → u.1 = p.1 ∧ Rep w R Γ u.2 p.2) →
    cv.size = cells.length → (∀ (i : Nat) (u : Value) (p : PV), cv[i]? = some u → cells[i]? = some p → Rep w R Γ u p) → (∀ p ∈ cells, p.one = true) → pfill place cells ps = some cs →
    ∃ cv', Instr.fill place cv us = some cv' ∧ cv'.size = cs.length ∧ (∀ (i : Nat) (u : Value) (p : PV), cv'[i]? = some u → cs[i]? = some p → Rep w R Γ u p) ∧ ∀ p ∈ cs, p.one = true
  | [], us, cells, cs, cv, hl, _, hs, hr, h1, h => by
    obtain rfl : us = [] := by simpa using hl
    obtain rfl := Option.some.inj h
    exact ⟨cv, rfl, hs, hr, h1⟩
  | (i, p) :: ps, us, cells, cs, cv, hl, hps, hs, hr, h1, h => by
    cases us with
    | nil => simp at hl
    | cons u us =>
      obtain ⟨j, u⟩ := u
      obtain ⟨hij, hrep⟩ := hps 0 _ _ rfl rfl
      dsimp only at hij hrep
      subst hij
      simp only [pfill] at h
      split at h
      · cases h
      · rename_i off size hpl
        split at h
        · rename_i hc
          obtain ⟨hc1, hc2, hc3⟩ := hc
          obtain ⟨e1, e2⟩ := rep_cells_of hrep hc3
          have hset := setRange_spec (w := w) (R := R) p.cells u.cells.toList cells cv off (by simpa using e1) (by simpa using e2) (fun q hq => List.all_eq_true.1 hc3 q hq) hs hr h1 0
          simp only [Nat.add_zero] at hset
          obtain ⟨s1, s2, s3, s4⟩ := hset
          have hfold : u.cells.zipIdx.foldl (fun cs (x : Value × Nat) => cs.setIfInBounds (off + x.2) x.1) cv = (u.cells.toList.zipIdx 0).foldl (fun cs (x : Value × Nat) => cs.setIfInBounds (off + x.2) x.1) cv := by
            rw [← Array.foldl_toList]; simp
          have hnot : ¬ (u.cells.size ≠ size ∨ off + u.cells.size > cv.size) := by omega
          obtain ⟨cv', f1, f2⟩ := pfill_sound place ps us _ cs _ (by simpa using hl) (fun k u' p' hu hp => hps (k + 1) u' p' (by simpa using hu) (by simpa using hp)) s1 s2 s3 h
          refine ⟨cv', ?_, f2⟩
          unfold Instr.fill
          simp only [hpl]
          rw [if_neg (by simp; omega), ← f1, hfold]
        · cases h
end
end Go.Qg

namespace Go.Qg
open Go.RowKit (Below)
section
variable {P : Program} {N : Nat} {B : Base} {w w' : World} {R R' : Nat → Nat → Prop} {Γ Γ' : Nat → Option Loc} {a : Act} {fr : PF}
theorem tel_elem {t e : TypeId} (h : tel P t = some e) : P.underlying t = some (.slice (P.elem t)) ∧ P.elem t = e := by
  have hu := tel_some h
  have : P.elem t = e := by simp [Program.elem, hu]
  exact ⟨by rw [this]; exact hu, this⟩
theorem tmap_some {t k e : TypeId} (h : tmap P t = some (k, e)) : P.underlying t = some (.map k e) := by
  unfold tmap at h; split at h
  · rename_i k' e' he; simp at h; rw [he, h.1, h.2]
  · cases h
theorem tstr_some {t : TypeId} (h : tstr P t = true) : P.underlying t = some .string := by
  unfold tstr at h; split at h
  · assumption
  · cases h
theorem rep_elem {u : Value} {sz n : Nat} {f : Nat → List PV} (h : Rep w R Γ u (.sl sz n f)) {i : Nat} (hi : i < n) (hsz : 0 < sz) :
    ∃ b o c, u = .slice (some ⟨b, o, none⟩) n c ∧ Rep w R Γ (.pointer (some ⟨b, o + i * sz, none⟩)) (.rp (f i) 0) := by
  cases h with
  | sl A n c sz f us hn hc hl h1 hcell hr =>
    obtain ⟨b, o, hA, _⟩ := hcell i 0 hi hsz
    subst hA
    refine ⟨b, o, c, rfl, .rp b (o + i * sz) (f i) 0 (us i) (fun p hp => ?_) (fun j hj => ?_) (fun j p hp => hr i j p hi hp)⟩
    · obtain ⟨k, hk⟩ := List.mem_iff_getElem?.1 hp
      exact h1 i k p hi hk
    · rw [hl i hi] at hj
      obtain ⟨b', o', hA', hR, hc'⟩ := hcell i j hi hj
      obtain ⟨rfl, rfl⟩ : b = b' ∧ o = o' := by simpa using hA'
      rw [Nat.add_assoc]
      exact ⟨hR, hc'⟩
theorem Sim.pown (h : Sim N B R Γ a w fr) {i ep sz : Nat} {rs : List (List PV)} (hp : pown fr i ep = some (sz, rs)) : ∃ l f e, Γ i = some (.rows ep sz l) ∧ fr[i]? = some (.rows f ep e sz rs) ∧ 0 < sz := by
  unfold Qg.pown at hp
  split at hp
  case h_2 => cases hp
  rename_i f ep' e sz' rs' hs
  split at hp
  case isFalse => cases hp
  rename_i he
  subst he
  simp only [Option.some.injEq, Prod.mk.injEq] at hp
  obtain ⟨rfl, rfl⟩ := hp
  obtain ⟨l, h1, _, _, h4, _⟩ := h.slot i _ hs
  exact ⟨l, f, e, h1, hs, h4⟩
theorem Sim.ownAt (h : Sim N B R Γ a w fr) {i ep off n sz : Nat} {c : Bool} {rs : List (List PV)} {u : Value} (hv : Rep w R Γ u (.own i ep off n c)) (hp : Qg.pown fr i ep = some (sz, rs)) :
    ∃ l, Γ i = some (.rows ep sz l) ∧ OwnAt l sz off n c u ∧ 0 < sz := by
  obtain ⟨l, f, e, h1, h2, h3⟩ := h.pown hp
  cases hv with
  | own _ _ _ _ _ _ ep' sz' l' g1 g2 g3 g4 =>
    rw [h1] at g1
    simp only [Option.some.injEq, Loc.rows.injEq] at g1
    obtain ⟨rfl, rfl, rfl⟩ := g1
    exact ⟨_, h1, g4 rfl, h3⟩
theorem Sim.eltAt (h : Sim N B R Γ a w fr) {i ep k f sz : Nat} {rs : List (List PV)} {u : Value} (hv : Rep w R Γ u (.elt i ep k f)) (hp : Qg.pown fr i ep = some (sz, rs)) :
    ∃ b cap, Γ i = some (.rows ep sz (some (b, cap))) ∧ u = .pointer (some ⟨b, k * sz + f, none⟩) := by
  obtain ⟨l, f, e, h1, h2, h3⟩ := h.pown hp
  cases hv with
  | elt _ _ _ _ _ ep' sz' l' g1 g2 g3 g4 =>
    rw [h1] at g1
    simp only [Option.some.injEq, Loc.rows.injEq] at g1
    obtain ⟨rfl, rfl, rfl⟩ := g1
    have := g4 rfl
    cases l with
    | none => exact this.elim
    | some bc => exact ⟨bc.1, bc.2, h1, this⟩
theorem Rep.elt_of {i ep k f b sz cap : Nat} (h : Γ i = some (.rows ep sz (some (b, cap)))) : Rep w R Γ (.pointer (some ⟨b, k * sz + f, none⟩)) (.elt i ep k f) :=
  .elt i ep k f _ ep sz _ h (Nat.le_refl _) rfl (fun _ => rfl)
theorem OwnAt.slice {l : Option (Nat × Nat)} {sz off n : Nat} {c : Bool} {u : Value} (h : OwnAt l sz off n c u) : ∃ A cap, u = .slice A n cap ∧ n ≤ cap := by
  cases l with
  | none => obtain ⟨rfl, rfl, _⟩ := h; exact ⟨none, 0, rfl, Nat.le_refl _⟩
  | some bc =>
    obtain ⟨rfl, h2⟩ := h
    refine ⟨_, _, rfl, ?_⟩
    split <;> omega
theorem padd_sound (h : Sim N B R Γ a w fr) {u : Value} {x p : PV} {n : Nat} (hv : Rep w R Γ u x) (hp : padd fr x n = some p) : ∃ b o, u = .pointer (some ⟨b, o, none⟩) ∧ Rep w R Γ (.pointer (some ⟨b, o + n, none⟩)) p := by
  unfold padd at hp
  split at hp
  · obtain rfl := Option.some.inj hp
    cases hv with
    | rp b o cs off us h1 h2 h3 => exact ⟨b, _, rfl, by rw [Nat.add_assoc]; exact .rp b o _ _ us h1 h2 h3⟩
  · obtain rfl := Option.some.inj hp
    cases hv with
    | ref _ _ b hb => exact ⟨b, _, rfl, .ref _ _ b hb⟩
  · split at hp
    · rename_i szrs hown
      obtain ⟨sz, rs⟩ := szrs
      obtain rfl := Option.some.inj hp
      obtain ⟨b, cap, hg, rfl⟩ := h.eltAt hv hown
      exact ⟨b, _, rfl, by rw [Nat.add_assoc]; exact Rep.elt_of hg⟩
    · cases hp
  · cases hp
theorem pindexAddr_sound (h : Sim N B R Γ a w fr) {t : TypeId} {x p : PV} {n : Int} {k : IntKind} {u : Value} (hv : Rep w R Γ u x) (hp : pindexAddr P fr t x n = some p) :
    ∃ r, (Instr.indexAt t u (.int k n)).run P w = .ok r w ∧ Rep w R Γ r p := by
  unfold pindexAddr at hp
  split at hp
  · rename_i e he
    obtain ⟨hu, hel⟩ := tel_elem he
    split at hp
    · rename_i sz len f
      split at hp
      · rename_i hs
        obtain ⟨hb, hp⟩ := guard_some hp
        obtain rfl := Option.some.inj hp
        obtain ⟨b, o, c, rfl, hr⟩ := rep_elem (i := n.toNat) hv (by omega) hs.2
        refine ⟨_, ?_, hr⟩
        have := run_sizeOf hs.1 w
        simp [Instr.indexAt, asIntOf, run_underlying (tel_some he), hb.1, hb.2, this, Addr.add_mid]
      · cases hp
    · rename_i i ep off len c
      split at hp
      case h_2 => cases hp
      rename_i sz rs hown
      split at hp
      case isFalse => cases hp
      rename_i hs
      obtain ⟨hb, hp⟩ := guard_some hp
      obtain rfl := Option.some.inj hp
      obtain ⟨l, hg, ho, _⟩ := h.ownAt hv hown
      cases l with
      | none => obtain ⟨rfl, rfl, _⟩ := ho; omega
      | some bc =>
        obtain ⟨b, cap⟩ := bc
        obtain ⟨rfl, h2⟩ := ho
        have e1 : off * sz + n.toNat * sz = (off + n.toNat) * sz + 0 := by rw [Nat.add_mul]; omega
        refine ⟨.pointer (some ⟨b, (off + n.toNat) * sz + 0, none⟩), ?_, Rep.elt_of hg⟩
        have := run_sizeOf hs w
        simp [Instr.indexAt, asIntOf, run_underlying (tel_some he), hb.1, hb.2, this, Addr.add_mid, e1]
    · cases hp
  · split at hp
    · rename_i len e ht
      split at hp
      · rename_i sz hs
        obtain ⟨hb, hp⟩ := guard_some hp
        obtain ⟨b, o, rfl, hr⟩ := padd_sound h hv hp
        refine ⟨_, ?_, hr⟩
        have := run_sizeOf hs w
        simp [Instr.indexAt, asIntOf, run_underlying (tarr_some ht), hb.1, hb.2, this, Addr.add_mid, Instr.sureAddr]
      · cases hp
    · cases hp
theorem pindex_sound {t : TypeId} {x p : PV} {n : Int} {k : IntKind} {u : Value} (hv : Rep w R Γ u x) (hp : pindex P t x n = some p) :
    ∃ r, (Instr.index t u (.int k n)).run P w = .ok r w ∧ Rep w R Γ r p := by
  unfold pindex at hp
  split at hp
  · cases hv with
    | agg us cs hl h1 hr =>
    split at hp
    · rename_i len e ht
      split at hp
      · rename_i sz hs
        obtain ⟨hb, hp⟩ := guard_some hp
        obtain ⟨r, hrun, hrep⟩ := part_sound (P := P) (w := w) hl h1 hr hp
        refine ⟨r, ?_, .of_rep hrep⟩
        simp [Instr.index, asIntOf, run_underlying (tarr_some ht), hb.1, hb.2, run_sizeOf hs w, hrun]
      · cases hp
    · cases hp
  · rename_i s
    obtain rfl := Rep.of_v hv
    split at hp
    · rename_i ht
      obtain ⟨hb, hp⟩ := guard_some hp
      obtain rfl := Option.some.inj hp
      refine ⟨_, ?_, .v _ rfl⟩
      have hlt : n.toNat < s.size := by omega
      have hs : s[n.toNat]? = some (s.data.toList.getD n.toNat 0) := by
        have : s[n.toNat]? = some (s[n.toNat]'hlt) := getElem?_pos s n.toNat hlt
        rw [this]
        have h2 : n.toNat < s.data.toList.length := by simpa using hlt
        simp only [List.getD, List.getElem?_eq_getElem h2, Option.getD_some]
        rfl
      simp [Instr.index, asIntOf, run_underlying (tstr_some ht), hb.1, hs]
    · cases hp
  · cases hp
theorem rep_sub {A : Option Addr} {c sz n : Nat} {f : Nat → List PV} (h : Rep w R Γ (.slice A n c) (.sl sz n f)) {l m : Nat} (hlm : l + m ≤ n) :
    Rep w R Γ (.slice (if c = l then A else A.map (·.add (l * sz))) m (c - l)) (.sl sz m fun i => f (l + i)) := by
  cases h with
  | sl A n c sz f us hn hc hl h1 hcell hr =>
    refine .sl _ _ _ _ _ (fun i j => us (l + i) j) (by omega) (by omega) (fun i hi => hl _ (by omega)) (fun i j p hi hp => h1 _ j p (by omega) hp) (fun i j hi hj => ?_) (fun i j p hi hp => hr _ j p (by omega) hp)
    obtain ⟨b, o, hA, hR, hcl⟩ := hcell (l + i) j (by omega) hj
    subst hA
    rw [if_neg (by omega)]
    have e : o + l * sz + (i * sz + j) = o + ((l + i) * sz + j) := by rw [Nat.add_mul]; omega
    exact ⟨b, o + l * sz, by simp [Addr.add_mid], by rw [e]; exact hR, by rw [e]; exact hcl⟩
theorem rep_capped {A : Option Addr} {c sz n : Nat} {f : Nat → List PV} (h : Rep w R Γ (.slice A n c) (.sl sz n f)) {m : Nat} (hm : m ≤ n) (s : Nat) : Rep w R Γ (sliced A 0 m m s) (.slc sz m f) := by
  cases h with
  | sl A n c sz f us hn hc hl h1 hcell hr =>
    simp only [sliced, Nat.sub_zero]
    refine .slc _ _ _ _ (.sl _ _ _ _ _ us (Nat.le_refl _) (by omega) (fun i hi => hl _ (by omega)) (fun i j p hi hp => h1 _ j p (by omega) hp) (fun i j hi hj => ?_) (fun i j p hi hp => hr _ j p (by omega) hp))
    obtain ⟨b, o, hA, hR, hcl⟩ := hcell i j (by omega) hj
    subst hA
    rw [if_neg (by omega)]
    exact ⟨b, o, by simp [Addr.add_mid], hR, hcl⟩
theorem rep_slice {u : Value} {sz n : Nat} {f : Nat → List PV} (h : Rep w R Γ u (.sl sz n f)) : ∃ A c, u = .slice A n c ∧ n ≤ c := by
  cases h with
  | sl A n c sz f us hn hc hl h1 hcell hr => exact ⟨A, c, rfl, hn⟩
theorem bound_some {x : Option Operand} {b : Option Int} (h : pbound (x.map (rd fr)) = some b) (hx : ∀ y, x = some y → Rep w R Γ (a.eval y) (rd fr y)) : (x = none ∧ b = none) ∨ ∃ y k n, x = some y ∧ b = some n ∧ a.eval y = .int k n := by
  cases x with
  | none => exact .inl ⟨rfl, by simpa [pbound] using h.symm⟩
  | some y =>
    right
    simp only [Option.map_some] at h
    unfold pbound at h
    split at h
    · rename_i hq; cases hq
    · rename_i k n hq
      have hr := hx y rfl
      rw [Option.some.inj hq] at hr
      exact ⟨y, k, n, rfl, by simpa using h.symm, Rep.of_v hr⟩
    · cases h
theorem run_slice_gen {t : TypeId} (hu : P.underlying t = some (.slice (P.elem t))) (A : Option Addr) (len cap : Nat) (hlc : len ≤ cap) (lo hi mx : Option Value) (l h m : Nat) (hlo : (lo = none ∧ l = 0) ∨ ∃ k, lo = some (.int k l))
    (hhi : (hi = none ∧ h = len) ∨ ∃ k, hi = some (.int k h)) (hmx : (mx = none ∧ m = cap) ∨ ((∃ k, mx = some (.int k m)) ∧ hi.isSome = true)) (h1 : l ≤ h) (h2 : h ≤ m) (h3 : m ≤ cap) (w : World) :
    (Instr.sliceAt t (.slice A len cap) lo hi mx).run P w = ((sizeOf (P.elem t)).run P w).andThen fun s w => .ok (sliced A l h m s) w := by
  rw [run_sliceAt_slice w t _ _ _ _ hu, run_slice_any w t A len cap hu]
  have hb : (Instr.sliceBounds true len cap lo hi mx).run P w = .ok (l, h, m) w := by
    have i1 : (0 : Int) ≤ l := by omega
    have i2 : (0 : Int) ≤ h := by omega
    have i3 : (0 : Int) ≤ m := by omega
    have i4 : (l : Int) ≤ h := by omega
    have i5 : (h : Int) ≤ m := by omega
    have i6 : (m : Int) ≤ cap := by omega
    rcases hmx with ⟨rfl, rfl⟩ | ⟨⟨km, rfl⟩, hhs⟩
    · rcases hlo with ⟨rfl, rfl⟩ | ⟨kl, rfl⟩ <;> rcases hhi with ⟨rfl, rfl⟩ | ⟨kh, rfl⟩ <;> simp [Instr.sliceBounds, run_sliceBound, *]
    · rcases hhi with ⟨rfl, rfl⟩ | ⟨kh, rfl⟩
      · cases hhs
      · rcases hlo with ⟨rfl, rfl⟩ | ⟨kl, rfl⟩ <;> simp [Instr.sliceBounds, run_sliceBound, *]
  rw [hb]
  rfl
theorem pslice_sound (h : Sim N B R Γ a w fr) {t : TypeId} {x p : PV} {lo hi mx : Option Operand} {u : Value} (hv : Rep w R Γ u x) (hlo : ∀ y, lo = some y → Rep w R Γ (a.eval y) (rd fr y)) (hhi : ∀ y, hi = some y → Rep w R Γ (a.eval y) (rd fr y)) (hmx : ∀ y, mx = some y → Rep w R Γ (a.eval y) (rd fr y))
    (hp : pslice P fr t x (lo.map (rd fr)) (hi.map (rd fr)) (mx.map (rd fr)) = some p) : ∃ r, (Instr.sliceAt t u (lo.map a.eval) (hi.map a.eval) (mx.map a.eval)).run P w = .ok r w ∧ Rep w R Γ r p := by
  unfold pslice at hp
  split at hp
  case h_2 => cases hp
  rename_i e he
  obtain ⟨hu, hel⟩ := tel_elem he
  split at hp
  · rename_i sz len f hmn
    obtain rfl : mx = none := by cases mx <;> simp_all
    simp only [Option.map_none]
    split at hp
    · rename_i hs
      obtain ⟨A, c, rfl, hn⟩ := rep_slice hv
      have hsz := run_sizeOf hs w
      rw [run_sliceAt_slice w t _ _ _ _ hu]
      split at hp
      · rename_i h1 h2
        obtain rfl : lo = none := by cases lo <;> simp_all
        obtain rfl : hi = none := by cases hi <;> simp_all
        obtain rfl := Option.some.inj hp
        refine ⟨_, by simp only [Option.map_none]; rw [run_slice_all w t A len c hu, hel, hsz]; rfl, ?_⟩
        have := rep_sub hv (l := 0) (m := len) (by omega)
        simp only [Nat.zero_add] at this
        exact .of_rep (by simpa [sliced] using this)
      · rename_i kl l h1 h2
        obtain rfl : hi = none := by cases hi <;> simp_all
        obtain ⟨y, rfl⟩ : ∃ y, lo = some y := by cases lo <;> simp_all
        obtain ⟨hb, hp⟩ := guard_some hp
        obtain rfl := Option.some.inj hp
        have hy := hlo y rfl
        have hy' : a.eval y = .int kl l := by rw [Option.map_some] at h1; rw [Option.some.inj h1] at hy; exact Rep.of_v hy
        refine ⟨_, by simp only [Option.map_none, Option.map_some, hy']; rw [run_slice_l w t A len c hu kl l hb.1 hb.2, hel, hsz]; rfl, ?_⟩
        exact .of_rep (rep_sub hv (l := l.toNat) (m := len - l.toNat) (by omega))
      · rename_i kh h h1 h2
        obtain rfl : lo = none := by cases lo <;> simp_all
        obtain ⟨y, rfl⟩ : ∃ y, hi = some y := by cases hi <;> simp_all
        obtain ⟨hb, hp⟩ := guard_some hp
        obtain rfl := Option.some.inj hp
        have hy := hhi y rfl
        have hy' : a.eval y = .int kh h := by rw [Option.map_some] at h2; rw [Option.some.inj h2] at hy; exact Rep.of_v hy
        refine ⟨_, by simp only [Option.map_none, Option.map_some, hy']; rw [run_slice_h w t A len c hu kh h hb.1 (by omega), hel, hsz]; rfl, ?_⟩
        have := rep_sub hv (l := 0) (m := h.toNat) (by omega)
        simp only [Nat.zero_add] at this
        exact .of_rep (by simpa [sliced] using this)
      · rename_i kl l kh h h1 h2
        obtain ⟨y, rfl⟩ : ∃ y, lo = some y := by cases lo <;> simp_all
        obtain ⟨z, rfl⟩ : ∃ y, hi = some y := by cases hi <;> simp_all
        obtain ⟨hb, hp⟩ := guard_some hp
        obtain rfl := Option.some.inj hp
        have hy := hlo y rfl
        have hz := hhi z rfl
        have hy' : a.eval y = .int kl l := by rw [Option.map_some] at h1; rw [Option.some.inj h1] at hy; exact Rep.of_v hy
        have hz' : a.eval z = .int kh h := by rw [Option.map_some] at h2; rw [Option.some.inj h2] at hz; exact Rep.of_v hz
        refine ⟨_, by simp only [Option.map_some, hy', hz']; rw [run_slice_lh w t A len c hu kl kh l h hb.1 hb.2.1 (by omega), hel, hsz]; rfl, ?_⟩
        exact .of_rep (rep_sub hv (l := l.toNat) (m := h.toNat - l.toNat) (by omega))
      · cases hp
    · cases hp
  · rename_i i ep off len c
    split at hp
    case h_2 => cases hp
    rename_i sz rs l hh m hown hbl hbh hbm
    split at hp
    case isFalse => cases hp
    rename_i hs
    obtain ⟨hg, hp⟩ := guard_some hp
    obtain rfl := Option.some.inj hp
    obtain ⟨g0, g1, g2, g4, g5⟩ := hg
    obtain ⟨lc, hΓ, ho, hsz⟩ := h.ownAt hv hown
    have hmax : ∀ A cap, u = .slice A len cap → cap ≤ maxLen := fun A cap hu => by
      obtain ⟨l2, f2, e2, hΓ2, hfr2, _⟩ := h.pown hown
      obtain ⟨l3, hΓ3, _, _, _, hl3⟩ := h.slot i _ hfr2
      rw [hΓ] at hΓ3
      simp only [Option.some.injEq, Loc.rows.injEq, true_and] at hΓ3
      subst hΓ3
      cases lc with
      | none =>
        obtain ⟨q1, _, _⟩ := ho
        rw [q1] at hu
        simp only [Value.slice.injEq] at hu
        omega
      | some bc =>
        obtain ⟨b, cp⟩ := bc
        obtain ⟨q1, q2⟩ := ho
        obtain ⟨_, _, _, q3, _⟩ := hl3
        rw [q1] at hu
        simp only [Value.slice.injEq, true_and] at hu
        have := hu.2
        split at this <;> omega
    obtain ⟨A, cap, hu', hle⟩ := ho.slice
    subst hu'
    have b1 := bound_some (a := a) (w := w) (R := R) (Γ := Γ) hbl hlo
    have b2 := bound_some (a := a) (w := w) (R := R) (Γ := Γ) hbh hhi
    have b3 := bound_some (a := a) (w := w) (R := R) (Γ := Γ) hbm hmx
    have hrun := run_slice_gen (P := P) hu A len cap hle (lo.map a.eval) (hi.map a.eval) (mx.map a.eval) (l.getD 0).toNat (hh.getD len).toNat (if m = none then cap else (hh.getD len).toNat) (by
      rcases b1 with ⟨rfl, rfl⟩ | ⟨y, k, n, rfl, rfl, he⟩
      · exact .inl ⟨rfl, rfl⟩
      · refine .inr ⟨k, ?_⟩
        simp only [Option.getD_some] at g0
        simp [he, Int.toNat_of_nonneg g0]) (by
      rcases b2 with ⟨rfl, rfl⟩ | ⟨y, k, n, rfl, rfl, he⟩
      · exact .inl ⟨rfl, by simp⟩
      · refine .inr ⟨k, ?_⟩
        simp only [Option.getD_some] at g0 g1
        simp [he, Int.toNat_of_nonneg (Int.le_trans g0 g1)]) (by
      rcases b3 with ⟨rfl, rfl⟩ | ⟨y, k, n, rfl, rfl, he⟩
      · exact .inl ⟨rfl, by simp⟩
      · rcases g4 with g4 | g4
        · cases g4
        · subst g4
          refine .inr ⟨⟨k, ?_⟩, ?_⟩
          · simp only [Option.getD_some] at g0 g1
            simp [he, Int.toNat_of_nonneg (Int.le_trans g0 g1)]
          · rcases b2 with ⟨rfl, hq⟩ | ⟨y', k', n', rfl, _, _⟩
            · cases hq
            · rfl) (by omega) (by split <;> omega) (by split <;> omega) w
    rw [hel, run_sizeOf hs.1 w] at hrun
    refine ⟨_, hrun, ?_⟩
    have hlh : (l.getD 0).toNat ≤ (hh.getD ↑len).toNat ∧ (hh.getD ↑len).toNat ≤ len := by omega
    by_cases hor0 : l.getD 0 = 0 ∨ l.getD 0 < hh.getD (len : Int)
    case neg =>
      rw [if_neg hor0]
      have e : (hh.getD ↑len).toNat = (l.getD 0).toNat := by omega
      have hcm := hmax A cap rfl
      have : ∃ A' c', sliced A (l.getD 0).toNat (hh.getD ↑len).toNat (if m = none then cap else (hh.getD ↑len).toNat) sz = .slice A' 0 c' ∧ c' ≤ maxLen := by
        refine ⟨_, _, by simp only [sliced, e, Nat.sub_self]; rfl, ?_⟩
        split <;> omega
      obtain ⟨A', c', e1, e2⟩ := this
      rw [e1]
      exact .sl A' 0 c' sz (fun _ => []) (fun _ _ => undef) (Nat.zero_le _) e2 (fun i hi => absurd hi (Nat.not_lt_zero _)) (fun i j p hi => absurd hi (Nat.not_lt_zero _)) (fun i j hi => absurd hi (Nat.not_lt_zero _)) (fun i j p hi => absurd hi (Nat.not_lt_zero _))
    rw [if_pos hor0]
    have hor : (l.getD 0).toNat = 0 ∨ (l.getD 0).toNat < (hh.getD ↑len).toNat := by omega
    have hfull : c = true → m = none → (hh.getD ↑len).toNat = len := fun x y => by have := g5 x y; omega
    generalize (l.getD 0).toNat = L at hlh hor ⊢
    generalize (hh.getD (len : Int)).toNat = H at hlh hor hfull ⊢
    refine .own _ _ _ _ _ _ ep sz lc hΓ (Nat.le_refl _) ?_ fun _ => ?_
    · simp [sliced, Value.oneCell']
    · cases lc with
      | none =>
        obtain ⟨e1, e2, e3⟩ := ho
        simp only [Value.slice.injEq] at e1
        obtain ⟨rfl, rfl, rfl⟩ := e1
        obtain rfl : L = 0 := by omega
        obtain rfl : H = 0 := by omega
        refine ⟨?_, by omega, by omega⟩
        simp [sliced]
      | some bc =>
        obtain ⟨b, cp⟩ := bc
        obtain ⟨e1, e2⟩ := ho
        simp only [Value.slice.injEq, true_and] at e1
        obtain ⟨rfl, rfl⟩ := e1
        refine ⟨?_, by omega⟩
        have hadd : (if (if m = none then (if c = true then len else cp - off) else H) = L then some (⟨b, off * sz, none⟩ : Addr) else (some (⟨b, off * sz, none⟩ : Addr)).map (·.add (L * sz))) = some ⟨b, (off + L) * sz, none⟩ := by
          rcases hor with rfl | hor
          · split <;> simp [Addr.add_mid]
          · rw [if_neg]
            · simp [Addr.add_mid, Nat.add_mul]
            · split
              · split <;> omega
              · omega
        simp only [sliced]
        rw [hadd]
        congr 1
        cases m with
        | some m' => simp
        | none =>
          cases c with
          | true => have := hfull rfl rfl; simp; omega
          | false => simp; omega
  · split at hp
    case h_2 => cases hp
    rename_i l hh m hbl hbh hbm
    split at hp
    case isFalse => cases hp
    rename_i hs
    obtain ⟨hg, hp⟩ := guard_some hp
    obtain rfl := Option.some.inj hp
    obtain ⟨g0, g1, g2⟩ := hg
    cases hv with
    | nil =>
    have b1 := bound_some (a := a) (w := w) (R := R) (Γ := Γ) hbl hlo
    have b2 := bound_some (a := a) (w := w) (R := R) (Γ := Γ) hbh hhi
    have b3 := bound_some (a := a) (w := w) (R := R) (Γ := Γ) hbm hmx
    obtain ⟨sz, hsz⟩ := Option.isSome_iff_exists.1 hs.2
    have hrun := run_slice_gen (P := P) hu none 0 0 (Nat.le_refl _) (lo.map a.eval) (hi.map a.eval) (mx.map a.eval) 0 0 0 (by
      rcases b1 with ⟨rfl, rfl⟩ | ⟨y, k, n, rfl, rfl, he⟩
      · exact .inl ⟨rfl, rfl⟩
      · simp only [Option.getD_some] at g0; subst g0; exact .inr ⟨k, by simp [he]⟩) (by
      rcases b2 with ⟨rfl, rfl⟩ | ⟨y, k, n, rfl, rfl, he⟩
      · exact .inl ⟨rfl, rfl⟩
      · simp only [Option.getD_some] at g1; subst g1; exact .inr ⟨k, by simp [he]⟩) (by
      rcases b3 with ⟨rfl, rfl⟩ | ⟨y, k, n, rfl, rfl, he⟩
      · exact .inl ⟨rfl, rfl⟩
      · simp only [Option.getD_some] at g2; subst g2
        refine .inr ⟨⟨k, by simp [he]⟩, ?_⟩
        rcases b2 with ⟨rfl, rfl⟩ | ⟨y', k', n', rfl, _, _⟩
        · exact absurd (hs.1 rfl) (by simp)
        · rfl) (Nat.le_refl _) (Nat.le_refl _) (Nat.le_refl _) w
    rw [hel, run_sizeOf hsz w] at hrun
    exact ⟨_, hrun, by simpa [sliced] using Rep.nil⟩
  · rename_i sz len f km m hmx'
    split at hp
    case isFalse => cases hp
    rename_i hs
    split at hp
    case h_2 => cases hp
    rename_i kh hh h1 h2
    obtain rfl : lo = none := by cases lo <;> simp_all
    obtain ⟨y, rfl⟩ : ∃ y, hi = some y := by cases hi <;> simp_all
    obtain ⟨z, rfl⟩ : ∃ y, mx = some y := by cases mx <;> simp_all
    obtain ⟨hb, hp⟩ := guard_some hp
    obtain rfl := Option.some.inj hp
    obtain ⟨b1, rfl, b3⟩ := hb
    obtain ⟨A, c, rfl, hn⟩ := rep_slice hv
    have hy := hhi y rfl
    have hz := hmx z rfl
    have hy' : a.eval y = .int kh hh := by rw [Option.map_some] at h2; rw [Option.some.inj h2] at hy; exact Rep.of_v hy
    have hz' : a.eval z = .int km hh := by rw [Option.map_some] at hmx'; rw [Option.some.inj hmx'] at hz; exact Rep.of_v hz
    have hsz := run_sizeOf hs w
    rw [run_sliceAt_slice w t _ _ _ _ hu]
    refine ⟨_, by simp only [Option.map_none, Option.map_some, hy', hz']; rw [run_slice_hm w t A len c hu kh km hh hh b1 (Int.le_refl _) (by omega), hel, hsz]; rfl, ?_⟩
    exact .of_rep (rep_capped hv (by omega) _)
  · cases hp
theorem plen_sound (h : Sim N B R Γ a w fr) {t ty : TypeId} {x p : PV} {u : Value} (hv : Rep w R Γ u x) (hp : plen P fr t x = some p) : ∃ r, (Builtin.len_ #[t] ty #[u]).run P w = .ok r w ∧ Rep w R Γ r p := by
  unfold plen at hp
  split at hp
  · split at hp
    · rename_i ht
      obtain rfl := Option.some.inj hp
      obtain ⟨e, he⟩ := Option.isSome_iff_exists.1 ht
      obtain ⟨A, c, rfl, _⟩ := rep_slice hv
      exact ⟨_, by simp [Builtin.len_, run_underlying (tel_some he), goInt], .v _ rfl⟩
    · cases hp
  · split at hp
    · rename_i ht
      obtain rfl := Option.some.inj hp
      obtain ⟨e, he⟩ := Option.isSome_iff_exists.1 ht
      cases hv with
      | nil => exact ⟨_, by simp [Builtin.len_, run_underlying (tel_some he), goInt], .v _ rfl⟩
    · cases hp
  · split at hp
    case h_2 => cases hp
    rename_i szrs hown
    obtain ⟨sz, rs⟩ := szrs
    split at hp
    · rename_i ht
      obtain rfl := Option.some.inj hp
      obtain ⟨e, he⟩ := Option.isSome_iff_exists.1 ht
      obtain ⟨l, _, ho, _⟩ := h.ownAt hv hown
      obtain ⟨A, cap, rfl, _⟩ := ho.slice
      exact ⟨_, by simp [Builtin.len_, run_underlying (tel_some he), goInt], .v _ rfl⟩
    · cases hp
  · split at hp
    case h_2 => cases hp
    rename_i f ks vs hm
    split at hp
    · rename_i ht
      obtain rfl := Option.some.inj hp
      obtain ⟨ke, hke⟩ := Option.isSome_iff_exists.1 ht
      obtain ⟨k, e⟩ := ke
      obtain ⟨b, es, clock, h1, _, h3, _, h5, _, _⟩ := h.slot _ _ hm
      cases hv with
      | mp _ b' hb =>
        obtain rfl : b = b' := by rw [h1] at hb; simpa using hb
        refine ⟨_, ?_, .v _ rfl⟩
        simp [Builtin.len_, run_underlying (tmap_some hke), goInt, MapKept.run_getObj_map h3, Result.andThen, h5]
    · cases hp
  · split at hp
    · rename_i ht
      obtain rfl := Option.some.inj hp
      obtain rfl := Rep.of_v hv
      exact ⟨_, by simp [Builtin.len_, run_underlying (tstr_some ht), goInt], .v _ rfl⟩
    · cases hp
  · cases hp
theorem run_places' : ∀ (fs : List Field) (places : List (Nat × Nat)), (fs.mapM fun f => (tsz P f.type).map fun n => (f.offset, n)) = some places →
    (fs.mapM (fun f => do pure (f.offset, ← sizeOf f.type)) : Sem (List (Nat × Nat))).run P w = .ok places w
  | [], places, h => by simp at h; subst h; simp
  | f :: fs, places, h => by
    rw [List.mapM_cons] at h
    simp only [Option.bind_eq_bind, Option.bind_eq_some_iff, Option.map_eq_some_iff] at h
    obtain ⟨m, ⟨n, hn, rfl⟩, ms, hms, he⟩ := h
    obtain rfl : _ = places := by simpa using he
    have := run_places' fs ms hms
    rw [List.mapM_cons]
    simp only [Sem.run_bind, run_sizeOf hn w, Result.andThen_ok, Sem.run_pure, this]
theorem pbuild_sound {t : TypeId} {ps : List (Nat × PV)} {us : List (Nat × Value)} {p : PV} (hl : us.length = ps.length)
    (hr : ∀ (i : Nat) (u : Nat × Value) (p : Nat × PV), us[i]? = some u → ps[i]? = some p → u.1 = p.1 ∧ Rep w R Γ u.2 p.2) (hp : pbuild P t ps = some p) :
    ∃ r, (Instr.build t us.toArray).run P w = .ok r w ∧ Rep w R Γ r p := by
  unfold pbuild at hp
  split at hp
  case h_2 => cases hp
  rename_i z hz
  unfold tzero at hz
  split at hz
  case h_2 => cases hz
  rename_i zv hzv
  split at hz
  case isFalse => cases hz
  rename_i hone
  obtain rfl := Option.some.inj hz
  have hzrun : (zeroValue t).run P w = .ok zv w := by
    cases hi : P.info? t with
    | none => simp [hi] at hzv
    | some i => rw [hi] at hzv; simp at hzv; simp [zeroValue, typeInfo, hi, hzv]
  have hcells : ∀ (i : Nat) (u : Value) (p : PV), zv.cells[i]? = some u → (zv.cells.toList.map cv1)[i]? = some p → Rep w R Γ u p := fun i u p hu hp => by
    rw [List.getElem?_map, Array.getElem?_toList, hu] at hp
    obtain rfl : cv1 u = p := by simpa using hp
    exact cv1_rep u (List.all_eq_true.1 hone u (by simpa using Array.mem_of_getElem? hu))
  have hones : ∀ p ∈ zv.cells.toList.map cv1, p.one = true := fun p hp => by
    obtain ⟨x, _, rfl⟩ := List.mem_map.1 hp; exact cv1_one x
  have fin : ∀ (place : Nat → Option (Nat × Nat)), (pfill place (zv.cells.toList.map cv1) ps).map PV.agg = some p → ∃ cv', Instr.fill place zv.cells us = some cv' ∧ Rep w R Γ (.agg cv') p := fun place h => by
    simp only [Option.map_eq_some_iff] at h
    obtain ⟨cs, hcs, rfl⟩ := h
    obtain ⟨cv', h1, h2, h3, h4⟩ := pfill_sound place ps us _ cs zv.cells hl hr (by simp) hcells hones hcs
    refine ⟨cv', h1, ?_⟩
    have := Rep.agg (w := w) (R := R) cv'.toList cs (by simpa using h2) h4 (by simpa using h3)
    simpa using this
  split at hp
  · rename_i places hpl
    unfold tpl at hpl
    split at hpl
    case h_2 => cases hpl
    rename_i fs hfs
    obtain ⟨cv', h1, h2⟩ := fin _ hp
    refine ⟨_, ?_, h2⟩
    have hpr := run_places' (w := w) fs.toList places hpl
    have hm : (fs.mapM (fun f => do pure (f.offset, ← sizeOf f.type)) : Sem (Array (Nat × Nat))).run P w = .ok places.toArray w := by
      rw [Array.mapM_eq_mapM_toList]
      simp only [Sem.run_map, hpr, Result.andThen_ok]
    simp only [Instr.build, Sem.run_bind, hzrun, Result.andThen_ok, run_underlying hfs, hm]
    have e : (fun i : Nat => places.toArray[i]?) = fun i : Nat => places[i]? := by funext i; simp
    rw [e, h1]
    rfl
  · split at hp
    · rename_i n e ht
      split at hp
      · rename_i s hs
        obtain ⟨cv', h1, h2⟩ := fin _ hp
        refine ⟨_, ?_, h2⟩
        simp only [Instr.build, Sem.run_bind, hzrun, Result.andThen_ok, run_underlying (tarr_some ht), run_sizeOf hs, h1]
        rfl
      · cases hp
    · cases hp
end
end Go.Qg

namespace Go.Qg
open Go.RowKit (Below)
section
variable {P : Program} {N : Nat} {B : Base} {w w' : World} {R R' : Nat → Nat → Prop} {Γ Γ' : Nat → Option Loc} {a : Act} {fr : PF}
theorem pfield_place {t : TypeId} {k off : Nat} {ft : TypeId} (h : tfld P t k = some (off, ft)) (b o : Nat) (w : World) : (Instr.fieldAt t (.pointer (some ⟨b, o, none⟩)) k).run P w = .ok (.pointer (some ⟨b, o + off, none⟩)) w := by
  obtain ⟨fs, f, n, hu, hf, rfl, rfl, hs⟩ := tfld_some h
  simp [Instr.fieldAt, run_underlying hu, hf, Instr.sureAddr, fieldPlace, run_sizeOf hs, Addr.add_mid]
theorem pbuiltin_sound (h : Sim N B R Γ a w fr) {b : Builtin} {us : List Value} {ps : List PV} {ts : List TypeId} {ty : TypeId} {p : PV} (hl : us.length = ps.length)
    (hr : ∀ (i : Nat) (u : Value) (p : PV), us[i]? = some u → ps[i]? = some p → Rep w R Γ u p) (hp : pbuiltin P fr b ps ts = some p) :
    ∃ r, (∀ cs, (builtin b ts.toArray ty cs us.toArray).run P w = .ok (.value r) w) ∧ Rep w R Γ r p := by
  unfold pbuiltin at hp
  split at hp
  · rename_i x t
    match us, hl with
    | [u], _ =>
      obtain ⟨r, h1, h2⟩ := plen_sound (P := P) h (ty := ty) (hr 0 u x rfl rfl) hp
      exact ⟨r, fun cs => by simp [builtin, h1], h2⟩
  · rename_i k a k' b ts
    match us, hl with
    | [u, v], _ =>
      have h1 := Rep.of_v (hr 0 u _ rfl rfl)
      have h2 := Rep.of_v (hr 1 v _ rfl rfl)
      subst h1 h2
      split at hp
      case isFalse => cases hp
      rename_i hk; subst hk
      obtain rfl := Option.some.inj hp
      exact ⟨_, fun cs => by simp [builtin, run_min_int2], .v _ rfl⟩
  · rename_i k a k' b ts
    match us, hl with
    | [u, v], _ =>
      have h1 := Rep.of_v (hr 0 u _ rfl rfl)
      have h2 := Rep.of_v (hr 1 v _ rfl rfl)
      subst h1 h2
      split at hp
      case isFalse => cases hp
      rename_i hk; subst hk
      obtain rfl := Option.some.inj hp
      exact ⟨_, fun cs => by simp [builtin, run_max_int2], .v _ rfl⟩
  · cases hp
theorem tifc_some {t : TypeId} {b : Bool} (h : tifc P t = some b) : ∃ d, P.underlying t = some d ∧ isIfc d = b := by
  unfold tifc at h
  cases hu : P.underlying t with
  | none => simp [hu] at h
  | some d => rw [hu] at h; exact ⟨d, rfl, Option.some.inj h⟩
theorem rep_pair {u v : Value} {p q : PV} (h : Rep w R Γ u p) (k : Rep w R Γ v q) : Rep w R Γ (.tuple #[u, v]) (.tup [p, q]) := by
  refine .tup [u, v] [p, q] rfl fun i x r hx hr => ?_
  match i, hx, hr with
  | 0, hx, hr => obtain rfl := Option.some.inj hx; obtain rfl := Option.some.inj hr; exact h
  | 1, hx, hr => obtain rfl := Option.some.inj hx; obtain rfl := Option.some.inj hr; exact k
theorem pzero_sound {t : TypeId} {p : PV} (h : pzero P t = some p) : ∃ zv, (∀ w : World, (zeroValue t).run P w = .ok zv w) ∧ ∀ (w : World) (R : Nat → Nat → Prop) (Γ : Nat → Option Loc), Rep w R Γ zv p := by
  simp only [pzero, Option.map_eq_some_iff] at h
  obtain ⟨zv, hzv, rfl⟩ := h
  refine ⟨zv, fun w => ?_, fun w R Γ => cv_rep zv⟩
  cases hi : P.info? t with
  | none => simp [hi] at hzv
  | some i => rw [hi] at hzv; simp at hzv; simp [zeroValue, typeInfo, hi, hzv]
theorem pfail_sound {t : TypeId} {p : PV} (h : pfail P t = some p) : ∃ zv, (∀ w : World, (zeroValue t).run P w = .ok zv w) ∧ ∀ (w : World) (R : Nat → Nat → Prop) (Γ : Nat → Option Loc), Rep w R Γ (.tuple #[zv, .bool false]) p := by
  simp only [pfail, Option.map_eq_some_iff] at h
  obtain ⟨z, hz, rfl⟩ := h
  obtain ⟨zv, h1, h2⟩ := pzero_sound hz
  exact ⟨zv, h1, fun w R Γ => rep_pair (h2 w R Γ) (.v _ rfl)⟩
theorem ptypeAssert_sound {u : Value} {x p : PV} {xt t : TypeId} {ok : Bool} (hv : Rep w R Γ u x) (hp : ptypeAssert P x t ok = some p) : ∃ r, (Instr.typeAssert u xt t ok).run P w = .ok r w ∧ Rep w R Γ r p := by
  unfold ptypeAssert at hp
  split at hp
  · rename_i ht
    obtain ⟨d, hd, hi⟩ := tifc_some ht
    obtain rfl := Rep.of_v hv
    cases ok with
    | false => simp at hp
    | true =>
      simp only [if_true] at hp
      obtain ⟨zv, h1, h2⟩ := pfail_sound hp
      refine ⟨_, ?_, h2 w R Γ⟩
      cases d <;> first
        | cases hi; done
        | simp [Instr.typeAssert, run_underlying hd, h1]
  · rename_i s q ht
    obtain ⟨d, hd, hi⟩ := tifc_some ht
    cases hv with
    | ifc _ v _ hv =>
    split at hp
    · rename_i hs
      subst hs
      obtain rfl := Option.some.inj hp
      cases ok with
      | false =>
        refine ⟨v, ?_, hv⟩
        cases d <;> first
          | cases hi; done
          | simp [Instr.typeAssert, run_underlying hd]
      | true =>
        refine ⟨_, ?_, rep_pair hv (.v (.bool true) rfl)⟩
        cases d <;> first
          | cases hi; done
          | simp [Instr.typeAssert, run_underlying hd]
    · rename_i hs
      cases ok with
      | false => simp at hp
      | true =>
        simp only [if_true] at hp
        obtain ⟨zv, h1, h2⟩ := pfail_sound hp
        refine ⟨_, ?_, h2 w R Γ⟩
        cases d <;> first
          | cases hi; done
          | simp [Instr.typeAssert, run_underlying hd, h1, hs]
  · cases hp
theorem pisNil_sound (h : Sim N B R Γ a w fr) {u : Value} {x : PV} {b : Bool} (hv : Rep w R Γ u x) (hp : pisNil fr x = some b) : ∃ A n c, u = .slice A n c ∧ A.isNone = b := by
  unfold pisNil at hp
  split at hp
  · obtain rfl := Option.some.inj hp
    cases hv with
    | nil => exact ⟨none, 0, 0, rfl, rfl⟩
  · obtain ⟨hg, hp⟩ := guard_some hp
    obtain rfl := Option.some.inj hp
    cases hv with
    | sl A _ c _ f us h1 h2 h3 h4 h5 h6 =>
      obtain ⟨b, o, hA, _⟩ := h5 0 0 hg.1 hg.2
      exact ⟨A, _, c, rfl, by rw [hA]; rfl⟩
  · split at hp
    case h_2 => cases hp
    rename_i szrs hown
    obtain ⟨sz, rs⟩ := szrs
    obtain ⟨hg, hp⟩ := guard_some hp
    obtain rfl := Option.some.inj hp
    obtain ⟨l, _, ho, _⟩ := h.ownAt hv hown
    cases l with
    | none => obtain ⟨_, rfl, _⟩ := ho; omega
    | some bc => obtain ⟨rfl, _⟩ := ho; exact ⟨_, _, _, rfl, rfl⟩
  · cases hp
theorem pisNilIface_sound {u : Value} {x : PV} {b : Bool} (hv : Rep w R Γ u x) (hp : pisNilIface x = some b) : (u = .nilIface ∧ b = true) ∨ ∃ t v, u = .iface t v ∧ b = false := by
  unfold pisNilIface at hp
  split at hp
  · exact .inl ⟨Rep.of_v hv, (Option.some.inj hp).symm⟩
  · cases hv with
    | ifc _ v _ hv => exact .inr ⟨_, v, rfl, (Option.some.inj hp).symm⟩
  · cases hp
theorem run_eq_nilSlice {t e : TypeId} (he : P.underlying t = some (.slice e)) (A : Option Addr) (n c : Nat) (w : World) : (binOp .eql t (.slice A n c) (.slice none 0 0)).run P w = .ok (.bool A.isNone) w ∧ (binOp .neq t (.slice A n c) (.slice none 0 0)).run P w = .ok (.bool !A.isNone) w := by
  refine ⟨?_, run_neq_slice_nil w t e A n c he⟩
  simp only [binOp]
  simp [run_equal_slice_nil w t e A n c he]
theorem run_equalIn_nilIface (d : Nat) {t : TypeId} {ms : Array (String × TypeId)} (ht : P.underlying t = some (.interface ms)) (w : World) : (Op.equalIn (d + 1) t .nilIface .nilIface).run P w = .ok true w := by
  simp [Op.equalIn, run_underlying ht]
theorem run_equalIn_iface_nil (d : Nat) {t : TypeId} {ms : Array (String × TypeId)} (ht : P.underlying t = some (.interface ms)) (s : TypeId) (v : Value) (w : World) : (Op.equalIn (d + 1) t (.iface s v) .nilIface).run P w = .ok false w := by
  simp [Op.equalIn, run_underlying ht]
theorem run_eq_nilIface {t : TypeId} {ms : Array (String × TypeId)} (ht : P.underlying t = some (.interface ms)) (ox : Operand) (k : Value) (w : World) :
    (do eqGuard .eql t ox (.const k) .nilIface .nilIface; binOp .eql t .nilIface .nilIface : Sem Value).run P w = .ok (.bool true) w ∧ (do eqGuard .neq t ox (.const k) .nilIface .nilIface; binOp .neq t .nilIface .nilIface : Sem Value).run P w = .ok (.bool !true) w := by
  have e : (Op.equal t .nilIface .nilIface).run P w = .ok true w := run_equalIn_nilIface 9999 ht w
  constructor <;> simp [eqGuard, binOp, e]
theorem run_eq_iface_nil {t : TypeId} {ms : Array (String × TypeId)} (ht : P.underlying t = some (.interface ms)) (ox : Operand) (k : Value) (s : TypeId) (v : Value) (w : World) :
    (do eqGuard .eql t ox (.const k) (.iface s v) .nilIface; binOp .eql t (.iface s v) .nilIface : Sem Value).run P w = .ok (.bool false) w ∧ (do eqGuard .neq t ox (.const k) (.iface s v) .nilIface; binOp .neq t (.iface s v) .nilIface : Sem Value).run P w = .ok (.bool !false) w := by
  have e : (Op.equal t (.iface s v) .nilIface).run P w = .ok false w := run_equalIn_iface_nil 9999 ht s v w
  constructor <;> simp [eqGuard, binOp, e]
theorem pnil_sound (h : Sim N B R Γ a w fr) {op : BinOp} {t : TypeId} {x y p : PV} (ox oy : Operand) (hp : pnil P fr op t (isLit oy) x y = some p) {u v : Value} (hu : Rep w R Γ u x) (hv : Rep w R Γ v y) :
    ∃ r, (do eqGuard op t ox oy u v; binOp op t u v : Sem Value).run P w = .ok r w ∧ Rep w R Γ r p := by
  unfold pnil at hp
  split at hp
  · split at hp
    case isFalse => cases hp
    rename_i ht
    obtain ⟨e, he⟩ := Option.isSome_iff_exists.1 ht
    cases hv with
    | nil =>
    split at hp
    · rename_i b hb
      obtain rfl := Option.some.inj hp
      obtain ⟨A, n, c, rfl, rfl⟩ := pisNil_sound h hu hb
      exact ⟨_, by rw [eqGuard_v _ _ _ _ _ _ rfl (by simp)]; simpa using (run_eq_nilSlice (tel_some he) A n c w).1, .v _ rfl⟩
    · rename_i b hb
      obtain rfl := Option.some.inj hp
      obtain ⟨A, n, c, rfl, rfl⟩ := pisNil_sound h hu hb
      exact ⟨_, by rw [eqGuard_v _ _ _ _ _ _ rfl (by simp)]; simpa using (run_eq_nilSlice (tel_some he) A n c w).2, .v _ rfl⟩
    · cases hp
  · split at hp
    case h_2 => cases hp
    rename_i ms ht
    obtain rfl := Rep.of_v hv
    split at hp
    case isFalse => cases hp
    rename_i hlit
    obtain ⟨k, rfl⟩ : ∃ k, oy = .const k := by cases oy <;> first | exact ⟨_, rfl⟩ | cases hlit
    split at hp
    · rename_i b hb
      obtain rfl := Option.some.inj hp
      refine ⟨.bool b, ?_, .v _ rfl⟩
      rcases pisNilIface_sound hu hb with ⟨rfl, rfl⟩ | ⟨t', v', rfl, rfl⟩
      · exact (run_eq_nilIface ht ox k w).1
      · exact (run_eq_iface_nil ht ox k t' v' w).1
    · rename_i b hb
      obtain rfl := Option.some.inj hp
      refine ⟨.bool !b, ?_, .v _ rfl⟩
      rcases pisNilIface_sound hu hb with ⟨rfl, rfl⟩ | ⟨t', v', rfl, rfl⟩
      · exact (run_eq_nilIface ht ox k w).2
      · exact (run_eq_iface_nil ht ox k t' v' w).2
    · cases hp
  · cases hp
theorem pval_sound (h : Sim N B R Γ a w fr) {o : Oper} {p : PV} (hp : pval P fr o.op = some p) :
    ∃ u, (execOp a.eval o).run P w = .ok (.value u) w ∧ Rep w R Γ u p := by
  obtain ⟨dst, op, ty, pos, after, gd⟩ := o
  dsimp only at hp ⊢
  cases op with
  | move x => obtain rfl := Option.some.inj hp; exact ⟨_, rfl, h.rd x⟩
  | assign x => obtain rfl := Option.some.inj hp; exact ⟨_, rfl, h.rd x⟩
  | pick c x y =>
    simp only [pval] at hp
    split at hp
    case h_2 => cases hp
    rename_i b hc
    have hcv := h.rd c
    rw [hc] at hcv
    have hcv' := Rep.of_v hcv
    have hrun : (execOp a.eval ⟨dst, .pick c x y, ty, pos, after, gd⟩).run P w = .ok (.value (if b then a.eval x else a.eval y)) w := by
      simp [execOp, hcv', asBool]
    refine ⟨_, hrun, ?_⟩
    split at hp
    · rename_i p q hx hy
      obtain rfl := Option.some.inj hp
      have h1 := h.rd x; rw [hx] at h1
      have h2 := h.rd y; rw [hy] at h2
      cases b
      · exact h2
      · exact h1
    · cases b
      · obtain rfl := Option.some.inj hp; exact h.rd y
      · obtain rfl := Option.some.inj hp; exact h.rd x
  | load t x =>
    simp only [pval] at hp
    split at hp
    case h_2 => cases hp
    rename_i cs off hc
    obtain ⟨b, o, us, hu, hptr⟩ := h.ptr (h.rd x) hc
    obtain ⟨r, hr, hrep⟩ := load_sound (P := P) hptr hp
    exact ⟨r, by simp [execOp, Instr.loadAt, Instr.sureAddr, hu, hr], .of_rep hrep⟩
  | fieldAddr s x k =>
    simp only [pval] at hp
    split at hp
    case h_2 => cases hp
    rename_i off ft hf
    obtain ⟨b, o, hu, hr⟩ := padd_sound h (h.rd x) hp
    exact ⟨_, by simp [execOp, hu, pfield_place hf], hr⟩
  | field t x k =>
    simp only [pval] at hp
    split at hp
    case h_2 => cases hp
    rename_i off ft cs hf hx
    have hv := h.rd x
    rw [hx] at hv
    generalize hu : a.eval x = u at hv
    cases hv with
    | agg us _ hl h1 hr =>
    obtain ⟨fs, f, n, hund, hfk, rfl, rfl, hs⟩ := tfld_some hf
    obtain ⟨r, hrun, hrep⟩ := part_sound (P := P) (w := w) hl h1 hr hp
    exact ⟨r, by simp [execOp, hu, Instr.field, run_underlying hund, hfk, asAgg, hrun], .of_rep hrep⟩
  | indexAddr t x i =>
    simp only [pval] at hp
    split at hp
    case h_2 => cases hp
    rename_i k n hi
    have hiv := h.rd i
    rw [hi] at hiv
    have hiv' := Rep.of_v hiv
    obtain ⟨r, hr, hrep⟩ := pindexAddr_sound (P := P) h (k := k) (h.rd x) hp
    exact ⟨r, by simp [execOp, hiv', hr], hrep⟩
  | index t x i =>
    simp only [pval] at hp
    split at hp
    case h_2 => cases hp
    rename_i k n hi
    have hiv := h.rd i
    rw [hi] at hiv
    have hiv' := Rep.of_v hiv
    obtain ⟨r, hr, hrep⟩ := pindex_sound (P := P) (k := k) (h.rd x) hp
    exact ⟨r, by simp [execOp, hiv', hr], hrep⟩
  | slice t x lo hi mx =>
    simp only [pval] at hp
    obtain ⟨r, hr, hrep⟩ := pslice_sound (P := P) h (h.rd x) (fun y _ => h.rd y) (fun y _ => h.rd y) (fun y _ => h.rd y) hp
    exact ⟨r, by simp [execOp, hr], hrep⟩
  | extract x k =>
    simp only [pval] at hp
    split at hp
    case h_2 => cases hp
    rename_i cs hx
    have hv := h.rd x
    rw [hx] at hv
    generalize hu : a.eval x = u at hv
    cases hv with
    | tup us _ hl hr =>
    have hk := lt_of_get? hp
    have hus : us[k]? = some (us[k]'(by omega)) := List.getElem?_eq_getElem (by omega)
    exact ⟨us[k]'(by omega), by simp [execOp, hu, Instr.extract, hus], .of_rep (hr k _ p hus hp)⟩
  | nilCheck x =>
    simp only [pval] at hp
    have hv := h.rd x
    split at hp
    · rename_i cs off hx
      obtain rfl := Option.some.inj hp
      rw [hx] at hv
      generalize hu : a.eval x = u at hv
      cases hv with
      | rp b o _ _ us h1 h2 h3 => exact ⟨_, by simp [execOp, hu], .rp b o _ _ us h1 h2 h3⟩
    · rename_i s off hx
      obtain rfl := Option.some.inj hp
      rw [hx] at hv
      generalize hu : a.eval x = u at hv
      cases hv with
      | ref _ _ b hb => exact ⟨_, by simp [execOp, hu], .ref _ _ b hb⟩
    · rename_i i ep k f hx
      split at hp
      case h_2 => cases hp
      rename_i szrs hown
      obtain ⟨sz, rs⟩ := szrs
      obtain rfl := Option.some.inj hp
      rw [hx] at hv
      obtain ⟨b, cap, hg, hu⟩ := h.eltAt hv hown
      exact ⟨_, by simp [execOp, hu], Rep.elt_of hg⟩
    · cases hp
  | makeFunc fn first cap =>
    simp only [pval] at hp
    obtain rfl := Option.some.inj hp
    refine ⟨.func fn (first.map a.eval) (cap.map a.eval), by simp only [execOp, Instr.makeFunc, Sem.run_bind, Sem.run_pure, Result.andThen_ok], ?_⟩
    have := Rep.clo (w := w) (R := R) (Γ := Γ) fn (first.map a.eval).toList (cap.map a.eval).toList (first.toList.map (rd fr)) (cap.toList.map (rd fr)) (by simp) (by simp) (fun i u p hi hp => by
      rw [Array.toList_map, List.getElem?_map] at hi
      rw [List.getElem?_map] at hp
      cases hx : first.toList[i]? with
      | none => rw [hx] at hi; cases hi
      | some x =>
        rw [hx] at hi hp
        obtain rfl := Option.some.inj hi
        obtain rfl := Option.some.inj hp
        exact h.rd x) (fun i u p hi hp => by
      rw [Array.toList_map, List.getElem?_map] at hi
      rw [List.getElem?_map] at hp
      cases hx : cap.toList[i]? with
      | none => rw [hx] at hi; cases hi
      | some x =>
        rw [hx] at hi hp
        obtain rfl := Option.some.inj hi
        obtain rfl := Option.some.inj hp
        exact h.rd x)
    simpa only [Array.toArray_toList] using this
  | makeInterface t x =>
    simp only [pval] at hp
    split at hp
    case h_2 => cases hp
    rename_i ht
    obtain rfl := Option.some.inj hp
    refine ⟨.iface t (a.eval x), ?_, .ifc t _ _ (h.rd x)⟩
    obtain ⟨d, hd, hi⟩ := tifc_some ht
    simp only [execOp, Instr.makeInterface, Sem.run_bind, run_underlying hd, Result.andThen_ok]
    cases d <;> first | rfl | cases hi
  | typeAssert x xt t ok =>
    simp only [pval] at hp
    obtain ⟨r, hr, hrep⟩ := ptypeAssert_sound (P := P) (w := w) (R := R) (Γ := Γ) (xt := xt) (h.rd x) hp
    exact ⟨r, by simp [execOp, hr], hrep⟩
  | binOp op t x y yt =>
    simp only [pval] at hp
    split at hp
    · rename_i q hq
      obtain rfl := Option.some.inj hp
      obtain ⟨r, hr, hrep⟩ := pnil_sound (P := P) h x y hq (h.rd x) (h.rd y)
      exact ⟨r, by simp only [execOp, Sem.run_bind] at hr ⊢; rw [hr]; rfl, hrep⟩
    · obtain ⟨r, hr, hrep⟩ := pbin_sound (P := P) hp x y (h.rd x) (h.rd y)
      exact ⟨r, by simp only [execOp, Sem.run_bind] at hr ⊢; rw [hr]; rfl, hrep⟩
  | unOp op t x =>
    simp only [pval] at hp
    obtain ⟨r, hr, hrep⟩ := pun_sound (P := P) (w := w) hp (h.rd x)
    exact ⟨r, by simp [execOp, hr], hrep⟩
  | convert s d x =>
    simp only [pval] at hp
    obtain ⟨r, hr, hrep⟩ := pconv_sound (P := P) (w := w) hp (h.rd x)
    exact ⟨r, by simp [execOp, hr], hrep⟩
  | build t parts =>
    simp only [pval] at hp
    obtain ⟨r, hr, hrep⟩ := pbuild_sound (P := P) (w := w) (R := R) (us := (parts.map fun p => (p.1, a.eval p.2)).toList) (by simp) (fun i u p hu hp => by
      rw [Array.toList_map, List.getElem?_map] at hu
      rw [List.getElem?_map] at hp
      cases hx : parts.toList[i]? with
      | none => rw [hx] at hu; cases hu
      | some x =>
        rw [hx] at hu hp
        obtain rfl := Option.some.inj hu
        obtain rfl := Option.some.inj hp
        exact ⟨rfl, h.rd x.2⟩) hp
    refine ⟨r, ?_, .of_rep hrep⟩
    have e : (parts.map fun p => (p.1, a.eval p.2)).toList.toArray = parts.map fun (p : Nat × Operand) => (p.1, a.eval p.2) := Array.toArray_toList
    rw [e] at hr
    simp only [execOp, Sem.run_bind]
    rw [show (parts.map fun x : Nat × Operand => match x with | (i, x) => (i, a.eval x)) = parts.map fun (p : Nat × Operand) => (p.1, a.eval p.2) from rfl, hr]
    rfl
  | call c =>
    obtain ⟨callee, args, ats⟩ := c
    cases callee with
    | builtin b =>
      simp only [pval] at hp
      obtain ⟨r, hr, hrep⟩ := pbuiltin_sound (P := P) h (ty := ty) (us := (args.map a.eval).toList) (by simp) (fun i u p hu hp => by
        rw [Array.toList_map, List.getElem?_map] at hu
        rw [List.getElem?_map] at hp
        cases hx : args.toList[i]? with
        | none => rw [hx] at hu; cases hu
        | some x =>
          rw [hx] at hu hp
          obtain rfl := Option.some.inj hu
          obtain rfl := Option.some.inj hp
          exact h.rd x) hp
      rw [Array.toArray_toList, Array.toArray_toList] at hr
      exact ⟨r, by simp only [execOp, resolve, invoke, Sem.run_bind, Sem.run_pure, Result.andThen_ok, hr _], hrep⟩
    | _ => cases hp
  | _ => cases hp
end
end Go.Qg

namespace Go.Qg
open Go.RowKit (Below)
def SimE (N : Nat) (B : Base) (a : Act) (w : World) (fr : PF) : Prop := ∃ R Γ, Sim N B R Γ a w fr
def tbytes (P : Program) (t : TypeId) : Option Nat := (P.info? t).map (·.bytes)
def prows (fr : PF) : PV → Option (Nat × List (List PV))
  | .own i ep off n _ => match pown fr i ep with
    | some (sz, rs) => guard (off + n ≤ rs.length) (some (sz, (rs.drop off).take n))
    | none => none
  | .sl sz n f => if 0 < sz then some (sz, (List.range n).map f) else none
  | .nil => some (0, [])
  | _ => none
def zeros (z : List PV) (n : Nat) : List PV := (List.range n).map fun i => z.getD (i % z.length) .undef
def chunk (sz n : Nat) (cs : List PV) : List (List PV) := (List.range n).map fun i => (cs.drop (i * sz)).take sz
def pnew (d : Option Tmp) (p : PV) (fr : PF) : Option PF :=
  match d with
  | some d => if d < fr.length ∧ pclear (some d) p fr = true then some (fr.set d p) else none
  | none => none
def pput (d : Option Tmp) (p : PV) (fr : PF) : Option PF := if pclear d p fr = true then some (put d p fr) else none
def pappend (P : Program) (t : TypeId) (x y : PV) (d : Nat) (fr : PF) : Option PF :=
  match tel P t with
  | none => none
  | some e => match tsz P e, tbytes P e, (tzero P e).map (·.length), prows fr y with
    | some sz, some bytes, some zl, some (sz', news) =>
      if (sz' = sz ∨ news = []) ∧ zl = sz ∧ 0 < sz then
        match x with
        | .own i ep off n c => match fr[i]? with
          | some (.rows h ep' e' sz'' rs) =>
            if ep' = ep ∧ e' = e ∧ sz'' = sz ∧ off = 0 ∧ c = false then
              guard ((n + news.length) * bytes ≤ 140737488355328 ∧ n + news.length ≤ maxLen ∧ n ≤ rs.length)
                (if d = i then if d < fr.length then some (fr.set i (.rows (some (ep + 1, n + news.length)) (ep + 1) e sz (rs.take n ++ news))) else none
                else pput (some d) (.own i (ep + 1) 0 (n + news.length) false) (fr.set i (.rows h (ep + 1) e sz (rs.take n ++ news))))
            else if ep' = ep ∧ e' = e ∧ sz'' = sz ∧ c = true ∧ news ≠ [] ∧ d ≠ i then
              guard (((n + news.length) * bytes ≤ 140737488355328 ∧ n + news.length ≤ maxLen) ∧ off + n ≤ rs.length)
                (pnew (some d) (.rows (some (0, n + news.length)) 0 e sz ((rs.drop off).take n ++ news)) fr)
            else none
          | _ => none
        | .nil => guard (news.length * bytes ≤ 140737488355328 ∧ news.length ≤ maxLen) (pnew (some d) (.rows (some (0, news.length)) 0 e sz news) fr)
        | .slc sz'' n f => if sz'' = sz ∧ news ≠ [] then
            guard ((n + news.length) * bytes ≤ 140737488355328 ∧ n + news.length ≤ maxLen) (pnew (some d) (.rows (some (0, n + news.length)) 0 e sz ((List.range n).map f ++ news)) fr)
          else none
        | _ => none
      else none
    | _, _, _, _ => none
def psame : List PV → List PV → Bool
  | [], [] => true
  | .v (.int k a) :: xs, .v (.int k' b) :: ys => decide (k = k') && a == b && psame xs ys
  | .v (.bool a) :: xs, .v (.bool b) :: ys => a == b && psame xs ys
  | _, _ => false
def pkeyEq (P : Program) (t : TypeId) (x y : PV) : Option Bool :=
  match x, y with
  | .v (.int k a), .v (.int k' b) => if k = k' ∧ (tint P t).isSome then some (a == b) else none
  | .agg xs, .agg ys => match teqf P t with
    | some fs => match peq xs ys fs with
      | some true => if psame ys xs then some true else none
      | some false => some false
      | none => none
    | none => none
  | _, _ => none
def pkfind (P : Program) (t : TypeId) (k : PV) : List PV → Nat → Option (Option Nat)
  | [], _ => some none
  | q :: ks, i => match pkeyEq P t k q with
    | some true => some (some i)
    | some false => pkfind P t k ks (i + 1)
    | none => none
def pkeyOk (P : Program) (t : TypeId) (x : PV) : Bool :=
  match x with
  | .v (.int _ _) => (tint P t).isSome
  | .agg xs => match teqf P t with
    | some fs => (peq xs xs fs).isSome
    | none => false
  | _ => false
section
variable {P : Program} {N : Nat} {B : Base} {w w' : World} {R R' : Nat → Nat → Prop} {Γ Γ' : Nat → Option Loc} {a : Act} {fr fr' : PF}
theorem Sim.toE (h : Sim N B R Γ a w fr) : SimE N B a w fr := ⟨R, Γ, h⟩
theorem wp_val' {o : Oper} {K : Act → World → Prop} {Q : Exit → Act → World → Prop} {u : Value} (hr : (execOp a.eval o).run P w = .ok (.value u) w') (hK : K (a.put o.dst u) w') : o.wp P a w K Q := by
  unfold Oper.wp; rw [hr]; exact hK
theorem run_newVar (t : TypeId) (v : Value) : (newVar t v).run P w = .ok ⟨w.heap.size, 0, none⟩ (w.alloc (.cells v.cells t)) := rfl
theorem Sim.named (h : Sim N B R Γ a w fr) {d : Nat} {p : PV} (hc : pclear (some d) p fr = true) {Γ' : Nat → Option Loc} (hΓ : ∀ i l, i ≠ d → Γ i = some l → Γ' i = some l) :
    ∀ i ∈ p.names, ∀ l, Γ i = some l → ∃ l', Γ' i = some l' ∧ Loc.le l l' := fun i hi l hl => by
  refine ⟨l, hΓ i l (fun e => ?_) hl, Loc.le_refl l⟩
  subst e
  rcases h.clear hc with hn | ⟨hn, _⟩
  · rw [hn] at hl; cases hl
  · exact hn hi
theorem pclear_undef {d : Nat} {p : PV} (h : pclear (some d) p fr = true) : pclear (some d) .undef fr = true := by
  unfold pclear at h ⊢
  dsimp only at h ⊢
  split
  · rename_i q hq
    simp only [hq] at h
    split at h
    · rename_i ho
      rw [if_pos ho]
      refine List.all_eq_true.2 fun x hx => ?_
      obtain ⟨t, ht⟩ := List.mem_iff_getElem?.1 hx
      rcases getElem?_set' ht with ⟨rfl, rfl, _⟩ | ⟨hne, ht'⟩
      · simp [PV.names]
      · exact List.all_eq_true.1 h x (List.mem_of_getElem? (i := t) (by rw [List.getElem?_set_ne (Ne.symm hne)]; exact ht'))
    · rename_i ho; rw [if_neg ho]
  · rfl
theorem pnew_some {d : Option Tmp} {p : PV} (h : pnew d p fr = some fr') : ∃ d', d = some d' ∧ d' < fr.length ∧ pclear (some d') p fr = true ∧ fr' = fr.set d' p := by
  unfold pnew at h
  split at h
  · split at h
    · rename_i hc; exact ⟨_, rfl, hc.1, hc.2, (Option.some.inj h).symm⟩
    · cases h
  · cases h
theorem pput_some {d : Option Tmp} {p : PV} (h : pput d p fr = some fr') : pclear d p fr = true ∧ fr' = put d p fr := by
  unfold pput at h
  split at h
  · rename_i hc; exact ⟨hc, (Option.some.inj h).symm⟩
  · cases h
theorem boxT_ty (t : TypeId) : ∀ y, (boxT t).ty = some y → t = y := fun y h => by
  unfold boxT at h
  cases hs : seatTyped t with
  | true => rw [hs] at h; exact Option.some.inj h
  | false => rw [hs] at h; cases h
theorem Sim.newBox (h : Sim N B R Γ a w fr) {d : Nat} (hd : d < N) (ty : TypeId) {vs : Array Value} {cs : List PV} (f : BoxF) (hf : ∀ y, f.ty = some y → ty = y) (hc : pclear (some d) (.box f cs) fr = true) (hsz : vs.size = cs.length) (h1 : ∀ p ∈ cs, p.one = true)
    (hrep : ∀ (j : Nat) (x : Value) (p : PV), vs[j]? = some x → cs[j]? = some p → Rep w R Γ x p) :
    SimE N B (a.put (some d) (.pointer (some ⟨w.heap.size, 0, none⟩))) (w.alloc (.cells vs ty)) (fr.set d (.box f cs)) := by
  have hb : Below w.heap.size w (w.alloc (.cells vs ty)) := (Below.refl _ w).alloc (Nat.le_refl _) _
  obtain ⟨Γ', h'⟩ := h.newObj hd (pclear_undef hc) (.cells vs ty) (u := .pointer (some ⟨w.heap.size, 0, none⟩)) (l' := .cells w.heap.size) (fun b hb => (Option.some.inj hb).symm) (p' := .box f cs) rfl (fun Γ' h1' h2' =>
    ⟨w.heap.size, vs, ty, h1', ⟨fun _ => ⟨hd, rfl⟩, hf⟩, heap_alloc_new w _, hsz, h1, fun j x p hx hp => (hrep j x p hx hp).mono (fun b o hbo => ⟨hbo, cell?_of_heap (hb.block b (h.bnd b o hbo))⟩) fun i hi =>
      h.named hc h2' i (by simp only [PV.names]; exact mem_namesL.2 ⟨p, List.mem_of_getElem? hp, hi⟩)⟩)
  exact h'.toE
theorem tzero_run {t : TypeId} {z : List PV} (hz : tzero P t = some z) : ∃ zv, (∀ w : World, (zeroValue t).run P w = .ok zv w) ∧ (P.info? t).bind (·.zero) = some zv ∧ zv.cells.size = z.length ∧ (∀ p ∈ z, p.one = true) ∧
    (∀ (w : World) (R : Nat → Nat → Prop) (Γ : Nat → Option Loc) (i : Nat) (u : Value) (p : PV), zv.cells[i]? = some u → z[i]? = some p → Rep w R Γ u p) ∧ ∀ u ∈ zv.cells.toList, u.oneCell' = true := by
  unfold tzero at hz
  split at hz
  case h_2 => cases hz
  rename_i zv hzv
  split at hz
  case isFalse => cases hz
  rename_i hone
  obtain rfl := Option.some.inj hz
  refine ⟨zv, fun w => ?_, hzv, by simp, fun p hp => ?_, fun w R Γ i u p hu hp => ?_, fun u hu => List.all_eq_true.1 hone u hu⟩
  · cases hi : P.info? t with
    | none => simp [hi] at hzv
    | some i => rw [hi] at hzv; simp at hzv; simp [zeroValue, typeInfo, hi, hzv]
  · obtain ⟨x, _, rfl⟩ := List.mem_map.1 hp; exact cv1_one x
  · rw [List.getElem?_map, Array.getElem?_toList, hu] at hp
    obtain rfl : cv1 u = p := by simpa using hp
    exact cv1_rep u (List.all_eq_true.1 hone u (by simpa using Array.mem_of_getElem? hu))
theorem Sim.newRows (h : Sim N B R Γ a w fr) {d : Nat} (hd : d < N) {e : TypeId} {sz n cap : Nat} {vs : Array Value} {rs : List (List PV)} (hc : pclear (some d) (.rows (some (0, n)) 0 e sz rs) fr = true) (hn : rs.length = n) (hcap : n ≤ cap) (hmax : cap ≤ maxLen) (hvs : vs.size = cap * sz) (hsz : 0 < sz)
    (hl : ∀ r ∈ rs, r.length = sz ∧ ∀ p ∈ r, p.one = true) (hrep : ∀ (i j : Nat) (r : List PV) (p : PV) (x : Value), rs[i]? = some r → r[j]? = some p → vs[i * sz + j]? = some x → Rep w R Γ x p) :
    SimE N B (a.put (some d) (.slice (some ⟨w.heap.size, 0, none⟩) n cap)) (w.alloc (.cells vs e)) (fr.set d (.rows (some (0, n)) 0 e sz rs)) := by
  subst hn
  have hb : Below w.heap.size w (w.alloc (.cells vs e)) := (Below.refl _ w).alloc (Nat.le_refl _) _
  obtain ⟨Γ', h'⟩ := h.newObj hd (pclear_undef hc) (.cells vs e) (u := .slice (some ⟨w.heap.size, 0, none⟩) rs.length cap) (l' := .rows 0 sz (some (w.heap.size, cap))) (fun b hb => (Option.some.inj hb).symm) (p' := .rows (some (0, rs.length)) 0 e sz rs) rfl (fun Γ' h1' h2' =>
    ⟨some (w.heap.size, cap), h1', fun ep0 n0 he => by
      simp only [Option.some.injEq, Prod.mk.injEq] at he
      obtain ⟨rfl, rfl⟩ := he
      exact ⟨hd, .own d 0 0 _ false _ 0 sz _ h1' (Nat.le_refl _) rfl fun _ => ⟨by simp, by omega⟩⟩, hl, hsz,
      ⟨vs, heap_alloc_new w _, hcap, hmax, hvs, fun i j r p x hr hp hx => (hrep i j r p x hr hp hx).mono (fun b o hbo => ⟨hbo, cell?_of_heap (hb.block b (h.bnd b o hbo))⟩) fun k hk =>
        h.named hc h2' k (by simp only [PV.names]; exact mem_namesLL.2 ⟨r, List.mem_of_getElem? hr, mem_namesL.2 ⟨p, List.mem_of_getElem? hp, hk⟩⟩)⟩⟩)
  exact h'.toE
theorem Sim.newMap (h : Sim N B R Γ a w fr) {d : Nat} (hd : d < N) (hc : pclear (some d) (.map true [] []) fr = true) (clock : Nat) :
    SimE N B (a.put (some d) (.map (some w.heap.size))) (w.alloc (.map #[] clock)) (fr.set d (.map true [] [])) := by
  obtain ⟨Γ', h'⟩ := h.newObj hd (pclear_undef hc) (.map #[] clock) (u := .map (some w.heap.size)) (l' := .map w.heap.size) (fun b hb => (Option.some.inj hb).symm) (p' := .map true [] []) rfl (fun Γ' h1' h2' =>
    ⟨w.heap.size, #[], clock, h1', fun _ => ⟨hd, rfl⟩, heap_alloc_new w _, rfl, rfl, fun j x p hx => by simp at hx, fun j x p hx => by simp at hx⟩)
  exact h'.toE
theorem chunk_get {sz n i j : Nat} {cs r : List PV} {p : PV} (hi : (chunk sz n cs)[i]? = some r) (hj : r[j]? = some p) : i < n ∧ j < sz ∧ cs[i * sz + j]? = some p := by
  unfold chunk at hi
  have hn : i < n := by have := lt_of_get? hi; simpa using this
  rw [List.getElem?_map, List.getElem?_range hn] at hi
  obtain rfl := Option.some.inj hi
  rw [List.getElem?_take] at hj
  split at hj
  · rw [List.getElem?_drop] at hj; exact ⟨hn, ‹_›, hj⟩
  · cases hj
theorem zeros_get {z : List PV} {n i : Nat} {p : PV} (h : (zeros z n)[i]? = some p) : i < n ∧ p = z.getD (i % z.length) .undef := by
  unfold zeros at h
  have hi : i < n := by have := lt_of_get? h; simpa using this
  rw [List.getElem?_map, List.getElem?_range hi] at h
  exact ⟨hi, (Option.some.inj h).symm⟩
end
end Go.Qg
