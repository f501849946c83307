/-
  Lemmas and contracts that hold of the whole program: 3 texts in one.
  No condition.
-/
import Derived.Test.YtnjhblcfjhpoiaaGreatDoorZr3
import Derived.Test.YtnjhblcfjhpoiaaGreatDoorChecked
import Derived.KernelRfl
import Derived.Shelf.LaysM
import Derived.Shelf.LaysC
import Derived.Shelf.Strconv.AtoiAll
import Derived.Shelf.Strings.Cut
import Derived.Shelf.Strings.Prefix
import Derived.Shelf.Strings.Split
import Derived.Test.YtnjhblcfjhpoiaaGreatDoorProg
set_option linter.all false

namespace Go.Qg
open Go.RowKit (Below)
def splitOk (all : List Oper) (m : Nat) : Bool := (List.range all.length).all fun j => decide (j < m) || (List.range m).all fun i => ((befs all []).getD j 0).testBit i
def drawOkS (all : List Oper) (m : Nat) (its : List Fp) : Bool := edgesOk all && pairsOk (befs all []) 0 [] its && splitOk all m
def pdrawS (P : Program) (all : List Oper) (m : Nat) (C : PF → Prop) : List Oper → List Fp → PF → Prop
  | [], fps, fr => drawOkS all m fps = true ∧ C fr
  | o :: rest, fps, fr => match pwanted all o fr with
    | some b => if b = true then match isCall o with
        | some c => pdCall P o c fr fun news fr' => pdrawS P all m C rest (fps ++ [fpOf all o news fr]) fr'
        | none => isPanic o = none ∧ dstOk o fr = true ∧ match pstep P o fr with
          | some fr' => pdrawS P all m C rest (fps ++ [fpOf all o [] fr]) fr'
          | none => False
      else noObj o.dst fr = true ∧ pdrawS P all m C rest (fps ++ [fpOf all o [] fr]) (put o.dst (.tup []) fr)
    | none => False
section
variable {P : Program} {N : Nat} {B : Base} {w w' : World} {R R' R2 : Nat → Nat → Prop} {Γ Γ' Γ2 : Nat → Option Loc} {a : Act} {fr fr' : PF} {Q : Exit → Act → World → Prop} {all : List Oper}
theorem pdrawS_cons {m : Nat} {C : PF → Prop} {o : Oper} {rest : List Oper} {fps : List Fp} (h : pdrawS P all m C (o :: rest) fps fr) : ∃ news fr', PStep P all o news fr fr' ∧ pdrawS P all m C rest (fps ++ [fpOf all o news fr]) fr' := by
  simp only [pdrawS] at h
  unfold PStep
  split at h
  case h_2 => exact h.elim
  rename_i b hw
  rw [hw]
  split at h
  · rename_i hb
    subst hb
    split at h
    · rename_i c hc
      unfold pdCall at h
      split at h
      case h_2 => exact h.elim
      rename_i f ps hps
      obtain ⟨h1, md, qs, r, H2, news, h2, hm, h3, h4, h5, h6⟩ := h
      refine ⟨news, _, ?_, h6⟩
      simp only [hc, hps]
      exact ⟨h1, md, qs, r, H2, h2, hm, h3, h4, h5, rfl⟩
    · rename_i hc
      obtain ⟨h1, h2, h3⟩ := h
      split at h3
      case h_2 => exact h3.elim
      rename_i fr' hs
      refine ⟨[], fr', ?_, h3⟩
      simp only [hc]
      exact ⟨h1, h2, hs⟩
  · rename_i hb
    obtain rfl : b = false := by simpa using hb
    exact ⟨[], _, ⟨h.1, rfl⟩, h.2⟩
theorem pdrawS_run {m : Nat} {C : PF → Prop} : ∀ (l : List Oper) (fps : List Fp) (fr : PF), pdrawS P all m C l fps fr → ∃ (its : List It) (fr' : PF), its.map (·.o) = l ∧ Run P all its fr fr' ∧ drawOkS all m (fps ++ its.map (·.fp)) = true ∧ C fr'
  | [], fps, fr, h => ⟨[], fr, rfl, rfl, by simpa using h.1, h.2⟩
  | o :: l, fps, fr, h => by
    obtain ⟨news, x, hs, hr⟩ := pdrawS_cons h
    obtain ⟨its, fr', h1, h2, h3, h4⟩ := pdrawS_run l _ x hr
    refine ⟨⟨o, news, fpOf all o news fr⟩ :: its, fr', by simp [h1], ⟨x, ⟨hs, rfl⟩, h2⟩, ?_, h4⟩
    simpa [List.append_assoc] using h3
theorem any_soundS {ro : Option Nat} (ops : Array Oper) (hall : ops.toList = all) (hN : ∀ o ∈ all, ∀ d, o.dst = some d → d < N) (he : edgesOk all = true) {m : Nat} (hm : m ≤ all.length) (hseq : splitOk all m = true) {C : PF → Prop} (hout : ∀ a w, ¬ Q .outgrown a w) (hC : ∀ (fuel : Nat) (listed : Array Bool) (a : Act) (w : World) (fr : PF), all.length ≤ m + fuel → (∀ i, i < all.length → (listed.getD i true = false ↔ m ≤ i)) → listed.size = all.length → SimE N B a w fr → C fr → AnyR P ro ops Q fuel listed a w) :
    ∀ (fuel : Nat) (rem : List (Nat × It)) (listed : Array Bool) (a : Act) (w : World) (fr fr' : PF), SimE N B a w fr → Run P all (rem.map (·.2)) fr fr' →
    rem.Pairwise (Ordered (befs all [])) → (∀ x ∈ rem, all[x.1]? = some x.2.o ∧ x.1 < m) → (∀ i, i < all.length → (listed.getD i true = false ↔ m ≤ i ∨ ∃ x ∈ rem, x.1 = i)) → listed.size = all.length →
    (∀ (k : Nat) (o : Oper), all[k]? = some o → listed.getD k false = true → ∀ e ∈ o.after.toList, Region.binds .any e = true → listed.getD e.on false = true) → rem.length + (all.length - m) ≤ fuel →
    C fr' → AnyR P ro ops Q fuel listed a w := by
  intro fuel
  have hops : ∀ i : Nat, ops[i]? = all[i]? := fun i => by rw [← hall]; simp
  induction fuel with
  | zero =>
    intro rem listed a w fr fr' h hrun hpw hin hli hsz hcl hf hp
    obtain rfl : rem = [] := List.eq_nil_of_length_eq_zero (by omega)
    obtain rfl : fr = fr' := hrun
    exact hC 0 listed a w fr (by simp at hf; omega) (fun i hi => by rw [hli i hi]; simp) hsz h hp
  | succ fuel ih =>
    intro rem listed a w fr fr' h hrun hpw hin hli hsz hcl hf hp
    cases rem with
    | nil =>
      obtain rfl : fr = fr' := hrun
      exact hC (fuel + 1) listed a w fr (by simp at hf; omega) (fun i hi => by rw [hli i hi]; simp) hsz h hp
    | cons x0 rem0 =>
    generalize hrem : x0 :: rem0 = rem at hrun hpw hin hli hf
    have hne : rem ≠ [] := by rw [← hrem]; simp
    have hbef : ∀ (i : Nat) (o : Oper), all[i]? = some o → (∀ e ∈ o.after.toList, Region.binds .any e = true → listed.getD e.on false = true) → ∀ j, ((befs all []).getD i 0).testBit j = true → listed.getD j false = true := fun i o ho hafter j hj =>
      befs_closed (fun k => listed.getD k false = true) all hcl all [] [] rfl rfl (fun i o hi => by simp at hi) i o ho hafter j hj
    refine AnyR_succ (fun hr => ?_) (fun i hi => ?_)
    · -- the first of what is left is ready
      exfalso
      have ho := (hin x0 (by rw [← hrem]; exact List.mem_cons_self)).1
      have : x0.1 ∈ Region.ready .any ops listed := by
        rw [mem_ready]
        refine ⟨(hli x0.1 (lt_of_get? ho)).2 (.inr ⟨x0, by rw [← hrem]; exact List.mem_cons_self, rfl⟩), x0.2.o, by rw [hops]; exact ho, fun e hein hb => ?_⟩
        have hlt : e.on < x0.1 := by
          have := List.all_eq_true.1 (List.all_eq_true.1 he (x0.2.o, x0.1) (by rw [List.mem_zipIdx_iff_getElem?]; exact ho)) e (by simpa using hein)
          simpa [hb] using this
        have hx0m := (hin x0 (by rw [← hrem]; exact List.mem_cons_self)).2
        have hel : e.on < all.length := by have := lt_of_get? ho; omega
        have hne : listed.getD e.on true ≠ false := fun hf => by
          rcases (hli e.on hel).1 hf with h1 | ⟨y, hy, hye⟩
          · omega
          · rw [← hrem] at hy hpw
            rcases List.mem_cons.1 hy with rfl | hy
            · omega
            · have := ((List.pairwise_cons.1 hpw).1 y hy).1; omega
        have hs : e.on < listed.size := by omega
        simp only [Array.getD_eq_getD_getElem?, Array.getElem?_eq_getElem hs, Option.getD_some] at hne ⊢
        simpa using hne
      rw [hr] at this; cases this
    · rw [mem_ready] at hi
      obtain ⟨h0, o, ho, hafter⟩ := hi
      rw [hops] at ho
      have hil := lt_of_get? ho
      have hafter' : ∀ e ∈ o.after.toList, Region.binds .any e = true → listed.getD e.on false = true := fun e hein hb => hafter e (by simpa using hein) hb
      have hunl : ∀ j, j < all.length → listed.getD j true = false → listed.getD j false = false := fun j hj hh => (getD_bool (by omega)).1 hh
      rcases (hli i hil).1 h0 with hmi | ⟨y, hy, hyi⟩
      · -- one that stands behind all is not ready
        exfalso
        have hx0 := hin x0 (by rw [← hrem]; exact List.mem_cons_self)
        have hx0l := lt_of_get? hx0.1
        have hb : ((befs all []).getD i 0).testBit x0.1 = true := by
          have := List.all_eq_true.1 hseq i (List.mem_range.2 hil)
          simp only [Bool.or_eq_true, decide_eq_true_eq] at this
          rcases this with h | h
          · omega
          · exact List.all_eq_true.1 h x0.1 (List.mem_range.2 hx0.2)
        have h1 := hbef i o ho hafter' x0.1 hb
        have h2 := hunl x0.1 hx0l ((hli x0.1 hx0l).2 (.inr ⟨x0, by rw [← hrem]; exact List.mem_cons_self, rfl⟩))
        rw [h2] at h1; cases h1
      obtain ⟨xs, ys, rfl⟩ := List.append_of_mem hy
      obtain ⟨yi, it⟩ := y
      dsimp only at hyi
      subst hyi
      have hoy : it.o = o := by
        have := (hin (yi, it) hy).1
        rw [ho] at this
        exact (Option.some.inj this).symm
      have hym := (hin (yi, it) hy).2
      have hpw' := List.pairwise_append.1 hpw
      have hindep : ∀ x ∈ xs.map (·.2), x.fp.indep it.fp = true := fun x hx => by
        obtain ⟨⟨j, x'⟩, hx', rfl⟩ := List.mem_map.1 hx
        have hord := hpw'.2.2 (j, x') hx' (yi, it) List.mem_cons_self
        rcases hord.2 with h1 | h1
        · exact h1
        · exfalso
          have hD := hbef yi o ho hafter' j h1
          have hjl := lt_of_get? (hin (j, x') (List.mem_append_left _ hx')).1
          have hjf := hunl j hjl ((hli j hjl).2 (.inr ⟨(j, x'), List.mem_append_left _ hx', rfl⟩))
          rw [hjf] at hD; cases hD
      have hrun' : Run P all (it :: (xs.map (·.2) ++ ys.map (·.2))) fr fr' := bubble hindep (by simpa using hrun)
      obtain ⟨x, ⟨hst, _⟩, hrest⟩ := hrun'
      rw [hoy] at hst
      have hpwr : (xs ++ ys).Pairwise (Ordered (befs all [])) := List.pairwise_append.2 ⟨hpw'.1, (List.pairwise_cons.1 hpw'.2.1).2, fun x hx y hy => hpw'.2.2 x hx y (List.mem_cons_of_mem _ hy)⟩
      have hmr : ∀ x ∈ xs ++ ys, x ∈ xs ++ (yi, it) :: ys := fun x hx => by
        rcases List.mem_append.1 hx with hx | hx
        · exact List.mem_append_left _ hx
        · exact List.mem_append_right _ (List.mem_cons_of_mem _ hx)
      have hnot : ∀ x ∈ xs ++ ys, x.1 ≠ yi := fun x hx => by
        rcases List.mem_append.1 hx with hx | hx
        · have := (hpw'.2.2 x hx (yi, it) List.mem_cons_self).1; dsimp only at this; omega
        · have := ((List.pairwise_cons.1 hpw'.2.1).1 x hx).1; dsimp only at this; omega
      have hyl : yi < listed.size := by omega
      have next : ∀ a' w', SimE N B a' w' x → AnyR P ro ops Q fuel (listed.setIfInBounds yi true) a' w' := fun a' w' h' => by
        refine ih (xs ++ ys) _ a' w' x fr' h' (by simpa using hrest) hpwr (fun x hx => hin x (hmr x hx)) (fun k hk => ?_) (by simpa using hsz) (fun k o' hk hkl e hein hb => ?_) (by simp at hf ⊢; omega) hp
        · by_cases hky : k = yi
          · subst hky
            constructor
            · intro hh; simp [hyl] at hh
            · rintro (h1 | ⟨x, hx, rfl⟩)
              · omega
              · exact (hnot x hx rfl).elim
          · rw [show (listed.setIfInBounds yi true).getD k true = listed.getD k true from getD_set_ne true (Ne.symm hky), hli k hk]
            refine or_congr Iff.rfl ⟨?_, ?_⟩
            · rintro ⟨x, hx, rfl⟩
              refine ⟨x, ?_, rfl⟩
              rcases List.mem_append.1 hx with hx | hx
              · exact List.mem_append_left _ hx
              · rcases List.mem_cons.1 hx with rfl | hx
                · exact (hky rfl).elim
                · exact List.mem_append_right _ hx
            · rintro ⟨x, hx, rfl⟩
              exact ⟨x, hmr x hx, rfl⟩
        · refine getD_set_true ?_
          by_cases hky : k = yi
          · subst hky
            rw [ho] at hk
            obtain rfl := Option.some.inj hk
            exact hafter' e hein hb
          · rw [show (listed.setIfInBounds yi true).getD k false = listed.getD k false from getD_set_ne false (Ne.symm hky)] at hkl
            exact hcl k o' hk hkl e hein hb
      exact PStep_sound h hall hN hout ho hst next
theorem drawS_sound {ro : Option Nat} (hmx : P.follows .mixedOrders = true) (ops : Array Oper) (hall : ops.toList = all) (hN : ∀ o ∈ all, ∀ d, o.dst = some d → d < N) (hout : ∀ a w, ¬ Q .outgrown a w) (id : Nat) (h : SimE N B a w fr) {m : Nat} (hm : m ≤ all.length) {C : PF → Prop} (hC : edgesOk all = true → splitOk all m = true → ∀ (fuel : Nat) (listed : Array Bool) (a : Act) (w : World) (fr : PF), all.length ≤ m + fuel → (∀ i, i < all.length → (listed.getD i true = false ↔ m ≤ i)) → listed.size = all.length → SimE N B a w fr → C fr → AnyR P ro ops Q fuel listed a w) (hp : pdrawS P all m C (all.take m) [] fr) :
    wr P ro (.region id ops true) Q a w := by
  obtain ⟨its, fr', h1, h2, h3, h4⟩ := pdrawS_run _ _ _ hp
  simp only [List.nil_append, drawOkS, Bool.and_eq_true] at h3
  obtain ⟨⟨he, hpairs⟩, hseq⟩ := h3
  have hl : its.length = m := by
    have : (its.map (·.o)).length = (all.take m).length := by rw [h1]
    rw [List.length_map, List.length_take] at this
    omega
  have hz : ((its.zipIdx 0).map fun z => (z.2, z.1)).map (·.2) = its := by
    rw [List.map_map]
    have : ((fun x : Nat × It => x.2) ∘ fun z : It × Nat => (z.2, z.1)) = Prod.fst := rfl
    rw [this]; simp
  have hmem : ∀ x ∈ (its.zipIdx 0).map (fun z => (z.2, z.1)), its[x.1]? = some x.2 := fun x hx => by
    obtain ⟨⟨it, i⟩, hz, rfl⟩ := List.mem_map.1 hx
    rw [List.mem_zipIdx_iff_getElem?] at hz
    exact hz
  refine wr_region_any hmx (any_soundS ops hall hN he hm hseq hout (hC he hseq) ops.size ((its.zipIdx 0).map fun z => (z.2, z.1)) _ a _ fr fr' h.drew (by rw [hz]; exact h2) (pairsOk_ordered _ its 0 [] rfl hpairs).2 (fun x hx => ?_) (fun i hi => ?_) (by rw [← hall]; simp) (fun k o hk hkl => ?_) ?_ h4)
  · have hx' := hmem x hx
    have hxm := lt_of_get? hx'
    refine ⟨?_, by omega⟩
    have : (its.map (·.o))[x.1]? = some x.2.o := by rw [List.getElem?_map, hx']; rfl
    rw [h1, List.getElem?_take, if_pos (by omega)] at this
    exact this
  · have hs : i < ops.size := by rw [← hall] at hi; simpa using hi
    constructor
    · intro _
      by_cases him : m ≤ i
      · exact .inl him
      · have hit : its[i]? = some (its[i]'(by omega)) := List.getElem?_eq_getElem (by omega)
        exact .inr ⟨(i, its[i]'(by omega)), List.mem_map.2 ⟨(its[i]'(by omega), i), by rw [List.mem_zipIdx_iff_getElem?]; exact hit, rfl⟩, rfl⟩
    · intro _; simp [hs]
  · simp only [Array.getD_eq_getD_getElem?, Array.getElem?_replicate] at hkl
    split at hkl <;> simp at hkl
  · have : all.length = ops.size := by rw [← hall]; simp
    simp only [List.length_map, List.length_zipIdx, hl]; omega
end
def panyS (P : Program) (M : Nat) (ops : Array Oper) (K : PF → Prop) (Kp : PV → PF → Prop) : Nat → Array Bool → PF → Prop
  | 0, _, fr => K fr
  | n + 1, listed, fr => (Region.ready .any ops listed = [] → K fr) ∧ ∀ i ∈ Region.ready .any ops listed, ∃ o, ops.toList[i]? = some o ∧ pops P M ops.toList (panyS P M ops K Kp n (listed.setIfInBounds i true)) Kp [o] fr
theorem panyS_sound {P : Program} {N : Nat} {B : Base} {Q : Exit → Act → World → Prop} {ro : Option Nat} (ops : Array Oper) (hN : ∀ o ∈ ops.toList, ∀ d, o.dst = some d → d < N) {M : Nat} (hM : B.lo = M) {K : PF → Prop} {Kp : PV → PF → Prop} (hpan : PanUp N B Q Kp) (hout : ∀ a w, ¬ Q .outgrown a w)
    (hQ : ∀ a w fr, SimE N B a w fr → K fr → Q .normal a w) : ∀ (fuel : Nat) (listed : Array Bool) (a : Act) (w : World) (fr : PF), SimE N B a w fr → panyS P M ops K Kp fuel listed fr → AnyR P ro ops Q fuel listed a w
  | 0, listed, a, w, fr, h, hp => AnyR_zero (hQ a w fr h hp)
  | fuel + 1, listed, a, w, fr, h, hp => AnyR_succ (fun hr => hQ a w fr h (hp.1 hr)) fun i hi => by
    obtain ⟨o, ho, hp⟩ := hp.2 i hi
    exact op_sound h rfl hN hM hpan hout ho hp fun a' w' fr' h1 h2 => panyS_sound ops hN hM hpan hout hQ fuel _ a' w' fr' h1 h2
theorem panyS_step {P : Program} {M : Nat} {ops : Array Oper} {K : PF → Prop} {Kp : PV → PF → Prop} {n : Nat} {listed : Array Bool} {fr : PF} (rs : List Nat) (hr : Region.ready .any ops listed = rs) (hne : rs ≠ [])
    (h : ∀ i ∈ rs, ∃ o, ops.toList[i]? = some o ∧ pops P M ops.toList (panyS P M ops K Kp n (listed.setIfInBounds i true)) Kp [o] fr) : panyS P M ops K Kp (n + 1) listed fr :=
  ⟨fun e => (hne (hr.symm.trans e)).elim, by rw [hr]; exact h⟩
theorem panyS_one {P : Program} {M : Nat} {ops : Array Oper} {K : PF → Prop} {Kp : PV → PF → Prop} {n : Nat} {listed : Array Bool} {fr : PF} (a : Nat) (hr : Region.ready .any ops listed = [a])
    (ha : ∃ o, ops.toList[a]? = some o ∧ pops P M ops.toList (panyS P M ops K Kp n (listed.setIfInBounds a true)) Kp [o] fr) : panyS P M ops K Kp (n + 1) listed fr :=
  panyS_step [a] hr (by simp) fun i hi => by
    obtain rfl := List.mem_singleton.1 hi
    exact ha
theorem panyS_two {P : Program} {M : Nat} {ops : Array Oper} {K : PF → Prop} {Kp : PV → PF → Prop} {n : Nat} {listed : Array Bool} {fr : PF} (a b : Nat) (hr : Region.ready .any ops listed = [a, b])
    (ha : ∃ o, ops.toList[a]? = some o ∧ pops P M ops.toList (panyS P M ops K Kp n (listed.setIfInBounds a true)) Kp [o] fr)
    (hb : ∃ o, ops.toList[b]? = some o ∧ pops P M ops.toList (panyS P M ops K Kp n (listed.setIfInBounds b true)) Kp [o] fr) : panyS P M ops K Kp (n + 1) listed fr :=
  panyS_step [a, b] hr (by simp) fun i hi => by
    simp only [List.mem_cons, List.not_mem_nil, or_false] at hi
    rcases hi with rfl | rfl
    · exact ha
    · exact hb
@[simp] theorem panyS_zero (P : Program) (M : Nat) (ops : Array Oper) (K : PF → Prop) (Kp : PV → PF → Prop) (listed : Array Bool) (fr : PF) : panyS P M ops K Kp 0 listed fr = K fr := rfl
theorem panyS_end {P : Program} {M : Nat} {ops : Array Oper} {K : PF → Prop} {Kp : PV → PF → Prop} {listed : Array Bool} {fr : PF} (hr : Region.ready .any ops listed = []) (h : K fr) : ∀ n, panyS P M ops K Kp n listed fr
  | 0 => h
  | n + 1 => ⟨fun _ => h, fun i hi => by rw [hr] at hi; cases hi⟩
attribute [irreducible] panyS
def listedTo (m n : Nat) : Array Bool := (List.replicate m true ++ List.replicate (n - m) false).toArray
theorem XW_drawS {ι : Type} {P : Program} {N M : Nat} {𝒞 : ι → Base → Prop} {i : ι} {Q : ι → PX → PF → Prop} {fr : PF} (hmx : P.follows .mixedOrders = true) (hlo : ∀ i B, 𝒞 i B → B.lo = M) {id : Nat} {ops : Array Oper} (hd : dstsIn N (.region id ops true) = true) (m : Nat) (hm : m ≤ ops.toList.length)
    (hp : pdrawS P ops.toList m (fun fr => ∀ fuel, ops.toList.length ≤ m + fuel → panyS P M ops (Q i .normal) (fun p => Q i (.panic p)) fuel (listedTo m ops.toList.length) fr) (ops.toList.take m) [] fr) : XW P N 𝒞 i (.region id ops true) Q fr := fun B a w hC hs =>
  wr_mono (drawS_sound (Q := Up N B (Q i)) hmx ops rfl (dsts_mem hd) up_out id hs hm (fun _ _ fuel listed a w fr hf hli hsz hs hc => by
    have hm' : m ≤ ops.size := by simpa using hm
    have hsz' : listed.size = ops.size := by simpa using hsz
    have e : listed = listedTo m ops.toList.length := by
      refine Array.ext (by simp [listedTo, hsz']; omega) fun k h1 h2 => ?_
      have h3 := hli k (by rw [← hsz]; exact h1)
      simp only [Array.getD_eq_getD_getElem?, Array.getElem?_eq_getElem h1, Option.getD_some] at h3
      by_cases hk : k < m
      · have : listed[k] = true := by
          cases hb : listed[k] with
          | true => rfl
          | false => have := h3.1 hb; omega
        rw [this]; simp [listedTo, List.getElem_append, hk]
      · rw [h3.2 (by omega)]; simp [listedTo, List.getElem_append, hk]
    subst e
    exact panyS_sound ops (dsts_mem hd) (hlo i B hC) pan_up up_out (fun a w fr ⟨R, Γ, hs⟩ hk => ⟨R, Γ, fr, .normal, hs, trivial, hk⟩) fuel _ a w fr hs (hc fuel hf)) hp) fun _ _ _ hu => ⟨i, B, hC, hu⟩
section
variable {P : Program} {m : Nat} {p : PV} {fr : PF} {all : List Oper} {C : PF → Prop}
@[simp] theorem pdrawS_nil_ (fps : List Fp) : pdrawS P all m C [] fps (p :: fr) = (drawOkS all m fps = true ∧ C (p :: fr)) := (rfl)
@[simp] theorem pdrawS_cons_ (o : Oper) (rest : List Oper) (fps : List Fp) : pdrawS P all m C (o :: rest) fps (p :: fr) = match pwanted all o (p :: fr) with
    | some b => if b = true then match isCall o with
        | some c => pdCall P o c (p :: fr) fun news fr' => pdrawS P all m C rest (fps ++ [fpOf all o news (p :: fr)]) fr'
        | none => isPanic o = none ∧ dstOk o (p :: fr) = true ∧ match pstep P o (p :: fr) with
          | some fr' => pdrawS P all m C rest (fps ++ [fpOf all o [] (p :: fr)]) fr'
          | none => False
      else noObj o.dst (p :: fr) = true ∧ pdrawS P all m C rest (fps ++ [fpOf all o [] (p :: fr)]) (put o.dst (.tup []) (p :: fr))
    | none => False := (rfl)
end
attribute [irreducible] pdrawS
end Go.Qg

namespace Go.Qg
open Go.Proofs
theorem mixed : Tryz.prog.follows .mixedOrders = true := by kernel_rfl
@[simp] theorem tsz1 : tsz Tryz.prog 1 = some 1 ∧ trow Tryz.prog 1 = some false ∧ tel Tryz.prog 1 = none ∧ tarr Tryz.prog 1 = none ∧ tifc Tryz.prog 1 = some false ∧ pzero Tryz.prog 1 = some (.v (.nilFunc)) ∧ tbytes Tryz.prog 1 = some 8 ∧ tzero Tryz.prog 1 = some [.v (.nilFunc)] ∧ tsz Tryz.prog 2 = some 1 ∧ trow Tryz.prog 2 = some false ∧ tel Tryz.prog 2 = none ∧ tarr Tryz.prog 2 = none ∧ tifc Tryz.prog 2 = some false ∧ pzero Tryz.prog 2 = some (.v (.int .i64 0)) ∧ tint Tryz.prog 2 = some .i64 ∧ tbytes Tryz.prog 2 = some 8 ∧ tzero Tryz.prog 2 = some [.v (.int .i64 0)] ∧ tsz Tryz.prog 3 = some 1 ∧ trow Tryz.prog 3 = some false ∧ tel Tryz.prog 3 = none ∧ tarr Tryz.prog 3 = none ∧ tifc Tryz.prog 3 = some false ∧ pzero Tryz.prog 3 = some (.v (.int .i64 0)) ∧ tint Tryz.prog 3 = some .i64 := by refine ⟨?_, ?_, ?_, ?_, ?_, ?_, ?_, ?_, ?_, ?_, ?_, ?_, ?_, ?_, ?_, ?_, ?_, ?_, ?_, ?_, ?_, ?_, ?_, ?_⟩ <;> kernel_rfl
@[simp] theorem tbytes3 : tbytes Tryz.prog 3 = some 8 ∧ tzero Tryz.prog 3 = some [.v (.int .i64 0)] ∧ tsz Tryz.prog 4 = some 1 ∧ trow Tryz.prog 4 = some false ∧ tel Tryz.prog 4 = none ∧ tarr Tryz.prog 4 = none ∧ tifc Tryz.prog 4 = some false ∧ pzero Tryz.prog 4 = some (.v (.bool false)) ∧ tbool Tryz.prog 4 = true ∧ tbytes Tryz.prog 4 = some 1 ∧ tzero Tryz.prog 4 = some [.v (.bool false)] ∧ tsz Tryz.prog 5 = some 1 ∧ trow Tryz.prog 5 = some false ∧ tel Tryz.prog 5 = none ∧ tarr Tryz.prog 5 = none ∧ tifc Tryz.prog 5 = some false ∧ pzero Tryz.prog 5 = some (.v (.int .u8 0)) ∧ tint Tryz.prog 5 = some .u8 ∧ tbytes Tryz.prog 5 = some 1 ∧ tzero Tryz.prog 5 = some [.v (.int .u8 0)] ∧ tsz Tryz.prog 6 = some 1 ∧ trow Tryz.prog 6 = some false ∧ tel Tryz.prog 6 = none ∧ tarr Tryz.prog 6 = none := by refine ⟨?_, ?_, ?_, ?_, ?_, ?_, ?_, ?_, ?_, ?_, ?_, ?_, ?_, ?_, ?_, ?_, ?_, ?_, ?_, ?_, ?_, ?_, ?_, ?_⟩ <;> kernel_rfl
@[simp] theorem tifc6 : tifc Tryz.prog 6 = some false ∧ pzero Tryz.prog 6 = some (.v (.int .u8 0)) ∧ tint Tryz.prog 6 = some .u8 ∧ tbytes Tryz.prog 6 = some 1 ∧ tzero Tryz.prog 6 = some [.v (.int .u8 0)] ∧ tsz Tryz.prog 7 = some 4 ∧ trow Tryz.prog 7 = some true ∧ tel Tryz.prog 7 = none ∧ tarr Tryz.prog 7 = none ∧ tifc Tryz.prog 7 = some false ∧ pzero Tryz.prog 7 = some (.agg [.v (.int .i64 0), .v (.int .i64 0), .v (.bool false), .v (.int .u8 0)]) ∧ tfld Tryz.prog 7 0 = some (0, 2) ∧ tfld Tryz.prog 7 1 = some (1, 3) ∧ tfld Tryz.prog 7 2 = some (2, 4) ∧ tfld Tryz.prog 7 3 = some (3, 6) ∧ tpl Tryz.prog 7 = some [(0, 1), (1, 1), (2, 1), (3, 1)] ∧ teqf Tryz.prog 7 = some [(0, 0), (1, 0), (2, 1), (3, 0)] ∧ tbytes Tryz.prog 7 = some 24 ∧ tzero Tryz.prog 7 = some [.v (.int .i64 0), .v (.int .i64 0), .v (.bool false), .v (.int .u8 0)] ∧ tsz Tryz.prog 8 = some 4 ∧ trow Tryz.prog 8 = some true ∧ tel Tryz.prog 8 = none ∧ tarr Tryz.prog 8 = none ∧ tifc Tryz.prog 8 = some false := by refine ⟨?_, ?_, ?_, ?_, ?_, ?_, ?_, ?_, ?_, ?_, ?_, ?_, ?_, ?_, ?_, ?_, ?_, ?_, ?_, ?_, ?_, ?_, ?_, ?_⟩ <;> kernel_rfl
@[simp] theorem pzero8 : pzero Tryz.prog 8 = some (.agg [.v (.int .i64 0), .v (.int .i64 0), .v (.bool false), .v (.int .u8 0)]) ∧ tfld Tryz.prog 8 0 = some (0, 2) ∧ tfld Tryz.prog 8 1 = some (1, 3) ∧ tfld Tryz.prog 8 2 = some (2, 4) ∧ tfld Tryz.prog 8 3 = some (3, 6) ∧ tpl Tryz.prog 8 = some [(0, 1), (1, 1), (2, 1), (3, 1)] ∧ teqf Tryz.prog 8 = some [(0, 0), (1, 0), (2, 1), (3, 0)] ∧ tbytes Tryz.prog 8 = some 24 ∧ tzero Tryz.prog 8 = some [.v (.int .i64 0), .v (.int .i64 0), .v (.bool false), .v (.int .u8 0)] ∧ tsz Tryz.prog 9 = some 1 ∧ trow Tryz.prog 9 = some false ∧ tel Tryz.prog 9 = none ∧ tarr Tryz.prog 9 = none ∧ tifc Tryz.prog 9 = some false ∧ pzero Tryz.prog 9 = some (.v (.string ByteArray.empty)) ∧ tstr Tryz.prog 9 = true ∧ tbytes Tryz.prog 9 = some 16 ∧ tzero Tryz.prog 9 = some [.v (.string ByteArray.empty)] ∧ tsz Tryz.prog 10 = some 1 ∧ trow Tryz.prog 10 = some false ∧ tel Tryz.prog 10 = none ∧ tarr Tryz.prog 10 = none ∧ tifc Tryz.prog 10 = some false ∧ pzero Tryz.prog 10 = some (.v (.string ByteArray.empty)) := by refine ⟨?_, ?_, ?_, ?_, ?_, ?_, ?_, ?_, ?_, ?_, ?_, ?_, ?_, ?_, ?_, ?_, ?_, ?_, ?_, ?_, ?_, ?_, ?_, ?_⟩ <;> kernel_rfl
@[simp] theorem tstr10 : tstr Tryz.prog 10 = true ∧ tbytes Tryz.prog 10 = some 16 ∧ tzero Tryz.prog 10 = some [.v (.string ByteArray.empty)] ∧ tsz Tryz.prog 11 = some 1 ∧ trow Tryz.prog 11 = some false ∧ tel Tryz.prog 11 = none ∧ tarr Tryz.prog 11 = none ∧ tifc Tryz.prog 11 = some false ∧ pzero Tryz.prog 11 = some (.v (.string ByteArray.empty)) ∧ tstr Tryz.prog 11 = true ∧ tbytes Tryz.prog 11 = some 16 ∧ tzero Tryz.prog 11 = some [.v (.string ByteArray.empty)] ∧ tsz Tryz.prog 12 = some 1 ∧ trow Tryz.prog 12 = some false ∧ tel Tryz.prog 12 = none ∧ tarr Tryz.prog 12 = none ∧ tifc Tryz.prog 12 = some false ∧ pzero Tryz.prog 12 = some (.v (.int .u64 0)) ∧ tint Tryz.prog 12 = some .u64 ∧ tbytes Tryz.prog 12 = some 8 ∧ tzero Tryz.prog 12 = some [.v (.int .u64 0)] ∧ tsz Tryz.prog 13 = some 2 ∧ trow Tryz.prog 13 = some true ∧ tel Tryz.prog 13 = none := by refine ⟨?_, ?_, ?_, ?_, ?_, ?_, ?_, ?_, ?_, ?_, ?_, ?_, ?_, ?_, ?_, ?_, ?_, ?_, ?_, ?_, ?_, ?_, ?_, ?_⟩ <;> kernel_rfl
@[simp] theorem tarr13 : tarr Tryz.prog 13 = none ∧ tifc Tryz.prog 13 = some false ∧ pzero Tryz.prog 13 = some (.agg [.v (.string ByteArray.empty), .v (.int .u64 0)]) ∧ tfld Tryz.prog 13 0 = some (0, 9) ∧ tfld Tryz.prog 13 1 = some (1, 12) ∧ tpl Tryz.prog 13 = some [(0, 1), (1, 1)] ∧ tbytes Tryz.prog 13 = some 24 ∧ tzero Tryz.prog 13 = some [.v (.string ByteArray.empty), .v (.int .u64 0)] ∧ tsz Tryz.prog 14 = some 2 ∧ trow Tryz.prog 14 = some true ∧ tel Tryz.prog 14 = none ∧ tarr Tryz.prog 14 = none ∧ tifc Tryz.prog 14 = some false ∧ pzero Tryz.prog 14 = some (.agg [.v (.string ByteArray.empty), .v (.int .u64 0)]) ∧ tfld Tryz.prog 14 0 = some (0, 9) ∧ tfld Tryz.prog 14 1 = some (1, 12) ∧ tpl Tryz.prog 14 = some [(0, 1), (1, 1)] ∧ tbytes Tryz.prog 14 = some 24 ∧ tzero Tryz.prog 14 = some [.v (.string ByteArray.empty), .v (.int .u64 0)] ∧ tsz Tryz.prog 15 = some 1 ∧ trow Tryz.prog 15 = some false ∧ tel Tryz.prog 15 = none ∧ tarr Tryz.prog 15 = none ∧ tifc Tryz.prog 15 = some false := by refine ⟨?_, ?_, ?_, ?_, ?_, ?_, ?_, ?_, ?_, ?_, ?_, ?_, ?_, ?_, ?_, ?_, ?_, ?_, ?_, ?_, ?_, ?_, ?_, ?_⟩ <;> kernel_rfl
@[simp] theorem pzero15 : pzero Tryz.prog 15 = some (.v (.pointer none)) ∧ tbytes Tryz.prog 15 = some 8 ∧ tzero Tryz.prog 15 = some [.v (.pointer none)] ∧ tsz Tryz.prog 16 = some 1 ∧ trow Tryz.prog 16 = some false ∧ tel Tryz.prog 16 = none ∧ tarr Tryz.prog 16 = none ∧ tifc Tryz.prog 16 = some false ∧ pzero Tryz.prog 16 = some (.v (.pointer none)) ∧ tbytes Tryz.prog 16 = some 8 ∧ tzero Tryz.prog 16 = some [.v (.pointer none)] ∧ tsz Tryz.prog 17 = some 1 ∧ trow Tryz.prog 17 = some false ∧ tel Tryz.prog 17 = none ∧ tarr Tryz.prog 17 = none ∧ tifc Tryz.prog 17 = some false ∧ pzero Tryz.prog 17 = some (.v (.pointer none)) ∧ tbytes Tryz.prog 17 = some 8 ∧ tzero Tryz.prog 17 = some [.v (.pointer none)] ∧ tsz Tryz.prog 18 = some 1 ∧ trow Tryz.prog 18 = some true ∧ tel Tryz.prog 18 = none ∧ tarr Tryz.prog 18 = none ∧ tifc Tryz.prog 18 = some false := by refine ⟨?_, ?_, ?_, ?_, ?_, ?_, ?_, ?_, ?_, ?_, ?_, ?_, ?_, ?_, ?_, ?_, ?_, ?_, ?_, ?_, ?_, ?_, ?_, ?_⟩ <;> kernel_rfl
@[simp] theorem pzero18 : pzero Tryz.prog 18 = some (.agg [.v (.pointer none)]) ∧ tfld Tryz.prog 18 0 = some (0, 17) ∧ tpl Tryz.prog 18 = some [(0, 1)] ∧ tbytes Tryz.prog 18 = some 8 ∧ tzero Tryz.prog 18 = some [.v (.pointer none)] ∧ tsz Tryz.prog 19 = some 1 ∧ trow Tryz.prog 19 = some true ∧ tel Tryz.prog 19 = none ∧ tarr Tryz.prog 19 = none ∧ tifc Tryz.prog 19 = some false ∧ pzero Tryz.prog 19 = some (.agg [.v (.pointer none)]) ∧ tfld Tryz.prog 19 0 = some (0, 17) ∧ tpl Tryz.prog 19 = some [(0, 1)] ∧ tbytes Tryz.prog 19 = some 8 ∧ tzero Tryz.prog 19 = some [.v (.pointer none)] ∧ tsz Tryz.prog 20 = some 1 ∧ trow Tryz.prog 20 = some false ∧ tel Tryz.prog 20 = none ∧ tarr Tryz.prog 20 = none ∧ tifc Tryz.prog 20 = some true ∧ pzero Tryz.prog 20 = some (.v (.nilIface)) ∧ tbytes Tryz.prog 20 = some 16 ∧ tzero Tryz.prog 20 = some [.v (.nilIface)] ∧ tsz Tryz.prog 21 = some 1 := by refine ⟨?_, ?_, ?_, ?_, ?_, ?_, ?_, ?_, ?_, ?_, ?_, ?_, ?_, ?_, ?_, ?_, ?_, ?_, ?_, ?_, ?_, ?_, ?_, ?_⟩ <;> kernel_rfl
@[simp] theorem trow21 : trow Tryz.prog 21 = some false ∧ tel Tryz.prog 21 = none ∧ tarr Tryz.prog 21 = none ∧ tifc Tryz.prog 21 = some false ∧ pzero Tryz.prog 21 = some (.v (.int .i32 0)) ∧ tint Tryz.prog 21 = some .i32 ∧ tbytes Tryz.prog 21 = some 4 ∧ tzero Tryz.prog 21 = some [.v (.int .i32 0)] ∧ tsz Tryz.prog 22 = some 1 ∧ trow Tryz.prog 22 = some false ∧ tel Tryz.prog 22 = some 116 ∧ tarr Tryz.prog 22 = none ∧ tifc Tryz.prog 22 = some false ∧ pzero Tryz.prog 22 = some (.nil) ∧ tbytes Tryz.prog 22 = some 24 ∧ tzero Tryz.prog 22 = some [.nil] ∧ tsz Tryz.prog 23 = some 1 ∧ trow Tryz.prog 23 = some false ∧ tel Tryz.prog 23 = some 25 ∧ tarr Tryz.prog 23 = none ∧ tifc Tryz.prog 23 = some false ∧ pzero Tryz.prog 23 = some (.nil) ∧ tbytes Tryz.prog 23 = some 24 ∧ tzero Tryz.prog 23 = some [.nil] := by refine ⟨?_, ?_, ?_, ?_, ?_, ?_, ?_, ?_, ?_, ?_, ?_, ?_, ?_, ?_, ?_, ?_, ?_, ?_, ?_, ?_, ?_, ?_, ?_, ?_⟩ <;> kernel_rfl
@[simp] theorem tsz24 : tsz Tryz.prog 24 = some 2 ∧ trow Tryz.prog 24 = some true ∧ tel Tryz.prog 24 = none ∧ tarr Tryz.prog 24 = none ∧ tifc Tryz.prog 24 = some false ∧ pzero Tryz.prog 24 = some (.agg [.v (.int .i64 0), .v (.int .i64 0)]) ∧ tfld Tryz.prog 24 0 = some (0, 3) ∧ tfld Tryz.prog 24 1 = some (1, 3) ∧ tpl Tryz.prog 24 = some [(0, 1), (1, 1)] ∧ teqf Tryz.prog 24 = some [(0, 0), (1, 0)] ∧ tbytes Tryz.prog 24 = some 16 ∧ tzero Tryz.prog 24 = some [.v (.int .i64 0), .v (.int .i64 0)] ∧ tsz Tryz.prog 25 = some 2 ∧ trow Tryz.prog 25 = some true ∧ tel Tryz.prog 25 = none ∧ tarr Tryz.prog 25 = none ∧ tifc Tryz.prog 25 = some false ∧ pzero Tryz.prog 25 = some (.agg [.v (.int .i64 0), .v (.int .i64 0)]) ∧ tfld Tryz.prog 25 0 = some (0, 3) ∧ tfld Tryz.prog 25 1 = some (1, 3) ∧ tpl Tryz.prog 25 = some [(0, 1), (1, 1)] ∧ teqf Tryz.prog 25 = some [(0, 0), (1, 0)] ∧ tbytes Tryz.prog 25 = some 16 ∧ tzero Tryz.prog 25 = some [.v (.int .i64 0), .v (.int .i64 0)] := by refine ⟨?_, ?_, ?_, ?_, ?_, ?_, ?_, ?_, ?_, ?_, ?_, ?_, ?_, ?_, ?_, ?_, ?_, ?_, ?_, ?_, ?_, ?_, ?_, ?_⟩ <;> kernel_rfl
@[simp] theorem tsz26 : tsz Tryz.prog 26 = some 10 ∧ trow Tryz.prog 26 = some true ∧ tel Tryz.prog 26 = none ∧ tarr Tryz.prog 26 = none ∧ tifc Tryz.prog 26 = some false ∧ pzero Tryz.prog 26 = some (.agg [.v (.int .i64 0), .v (.int .i64 0), .v (.int .i64 0), .v (.int .i64 0), .nil, .nil, .v (.int .i64 0), .v (.int .i64 0), .v (.int .i64 0), .nil]) ∧ tfld Tryz.prog 26 0 = some (0, 3) ∧ tfld Tryz.prog 26 1 = some (1, 3) ∧ tfld Tryz.prog 26 2 = some (2, 3) ∧ tfld Tryz.prog 26 3 = some (3, 3) ∧ tfld Tryz.prog 26 4 = some (4, 22) ∧ tfld Tryz.prog 26 5 = some (5, 23) ∧ tfld Tryz.prog 26 6 = some (6, 25) ∧ tfld Tryz.prog 26 7 = some (8, 3) ∧ tfld Tryz.prog 26 8 = some (9, 23) ∧ tpl Tryz.prog 26 = some [(0, 1), (1, 1), (2, 1), (3, 1), (4, 1), (5, 1), (6, 2), (8, 1), (9, 1)] ∧ tbytes Tryz.prog 26 = some 128 ∧ tzero Tryz.prog 26 = some [.v (.int .i64 0), .v (.int .i64 0), .v (.int .i64 0), .v (.int .i64 0), .nil, .nil, .v (.int .i64 0), .v (.int .i64 0), .v (.int .i64 0), .nil] ∧ tsz Tryz.prog 27 = some 10 ∧ trow Tryz.prog 27 = some true ∧ tel Tryz.prog 27 = none ∧ tarr Tryz.prog 27 = none ∧ tifc Tryz.prog 27 = some false ∧ pzero Tryz.prog 27 = some (.agg [.v (.int .i64 0), .v (.int .i64 0), .v (.int .i64 0), .v (.int .i64 0), .nil, .nil, .v (.int .i64 0), .v (.int .i64 0), .v (.int .i64 0), .nil]) := by refine ⟨?_, ?_, ?_, ?_, ?_, ?_, ?_, ?_, ?_, ?_, ?_, ?_, ?_, ?_, ?_, ?_, ?_, ?_, ?_, ?_, ?_, ?_, ?_, ?_⟩ <;> kernel_rfl
@[simp] theorem tfld27x0 : tfld Tryz.prog 27 0 = some (0, 3) ∧ tfld Tryz.prog 27 1 = some (1, 3) ∧ tfld Tryz.prog 27 2 = some (2, 3) ∧ tfld Tryz.prog 27 3 = some (3, 3) ∧ tfld Tryz.prog 27 4 = some (4, 22) ∧ tfld Tryz.prog 27 5 = some (5, 23) ∧ tfld Tryz.prog 27 6 = some (6, 25) ∧ tfld Tryz.prog 27 7 = some (8, 3) ∧ tfld Tryz.prog 27 8 = some (9, 23) ∧ tpl Tryz.prog 27 = some [(0, 1), (1, 1), (2, 1), (3, 1), (4, 1), (5, 1), (6, 2), (8, 1), (9, 1)] ∧ tbytes Tryz.prog 27 = some 128 ∧ tzero Tryz.prog 27 = some [.v (.int .i64 0), .v (.int .i64 0), .v (.int .i64 0), .v (.int .i64 0), .nil, .nil, .v (.int .i64 0), .v (.int .i64 0), .v (.int .i64 0), .nil] ∧ tsz Tryz.prog 28 = some 1 ∧ trow Tryz.prog 28 = some false ∧ tel Tryz.prog 28 = some 112 ∧ tarr Tryz.prog 28 = none ∧ tifc Tryz.prog 28 = some false ∧ pzero Tryz.prog 28 = some (.nil) ∧ tbytes Tryz.prog 28 = some 24 ∧ tzero Tryz.prog 28 = some [.nil] ∧ tsz Tryz.prog 29 = some 1 ∧ trow Tryz.prog 29 = some false ∧ tel Tryz.prog 29 = none ∧ tarr Tryz.prog 29 = none := by refine ⟨?_, ?_, ?_, ?_, ?_, ?_, ?_, ?_, ?_, ?_, ?_, ?_, ?_, ?_, ?_, ?_, ?_, ?_, ?_, ?_, ?_, ?_, ?_, ?_⟩ <;> kernel_rfl
@[simp] theorem tifc29 : tifc Tryz.prog 29 = some false ∧ pzero Tryz.prog 29 = some (.v (.nilFunc)) ∧ tbytes Tryz.prog 29 = some 8 ∧ tzero Tryz.prog 29 = some [.v (.nilFunc)] ∧ tsz Tryz.prog 30 = some 1 ∧ trow Tryz.prog 30 = some false ∧ tel Tryz.prog 30 = none ∧ tarr Tryz.prog 30 = none ∧ tifc Tryz.prog 30 = some false ∧ pzero Tryz.prog 30 = some (.v (.nilFunc)) ∧ tbytes Tryz.prog 30 = some 8 ∧ tzero Tryz.prog 30 = some [.v (.nilFunc)] ∧ tsz Tryz.prog 31 = some 1 ∧ trow Tryz.prog 31 = some false ∧ tel Tryz.prog 31 = none ∧ tarr Tryz.prog 31 = none ∧ tifc Tryz.prog 31 = some false ∧ pzero Tryz.prog 31 = some (.v (.nilFunc)) ∧ tbytes Tryz.prog 31 = some 8 ∧ tzero Tryz.prog 31 = some [.v (.nilFunc)] ∧ tsz Tryz.prog 32 = some 1 ∧ trow Tryz.prog 32 = some false ∧ tel Tryz.prog 32 = none ∧ tarr Tryz.prog 32 = none := by refine ⟨?_, ?_, ?_, ?_, ?_, ?_, ?_, ?_, ?_, ?_, ?_, ?_, ?_, ?_, ?_, ?_, ?_, ?_, ?_, ?_, ?_, ?_, ?_, ?_⟩ <;> kernel_rfl
@[simp] theorem tifc32 : tifc Tryz.prog 32 = some false ∧ pzero Tryz.prog 32 = some (.v (.int .i64 0)) ∧ tint Tryz.prog 32 = some .i64 ∧ tbytes Tryz.prog 32 = some 8 ∧ tzero Tryz.prog 32 = some [.v (.int .i64 0)] ∧ tsz Tryz.prog 34 = some 1 ∧ trow Tryz.prog 34 = some false ∧ tel Tryz.prog 34 = none ∧ tarr Tryz.prog 34 = none ∧ tifc Tryz.prog 34 = some false ∧ pzero Tryz.prog 34 = some (.v (.nilFunc)) ∧ tbytes Tryz.prog 34 = some 8 ∧ tzero Tryz.prog 34 = some [.v (.nilFunc)] ∧ tsz Tryz.prog 35 = some 1 ∧ trow Tryz.prog 35 = some false ∧ tel Tryz.prog 35 = none ∧ tarr Tryz.prog 35 = none ∧ tifc Tryz.prog 35 = some false ∧ pzero Tryz.prog 35 = some (.v (.nilFunc)) ∧ tbytes Tryz.prog 35 = some 8 ∧ tzero Tryz.prog 35 = some [.v (.nilFunc)] ∧ tsz Tryz.prog 36 = some 2 ∧ trow Tryz.prog 36 = some true ∧ tel Tryz.prog 36 = none := by refine ⟨?_, ?_, ?_, ?_, ?_, ?_, ?_, ?_, ?_, ?_, ?_, ?_, ?_, ?_, ?_, ?_, ?_, ?_, ?_, ?_, ?_, ?_, ?_, ?_⟩ <;> kernel_rfl
@[simp] theorem tarr36 : tarr Tryz.prog 36 = none ∧ tifc Tryz.prog 36 = some false ∧ pzero Tryz.prog 36 = some (.agg [.v (.int .i64 0), .v (.int .i64 0)]) ∧ tfld Tryz.prog 36 0 = some (0, 3) ∧ tfld Tryz.prog 36 1 = some (1, 3) ∧ tpl Tryz.prog 36 = some [(0, 1), (1, 1)] ∧ teqf Tryz.prog 36 = some [(0, 0), (1, 0)] ∧ tbytes Tryz.prog 36 = some 16 ∧ tzero Tryz.prog 36 = some [.v (.int .i64 0), .v (.int .i64 0)] ∧ tsz Tryz.prog 37 = some 2 ∧ trow Tryz.prog 37 = some true ∧ tel Tryz.prog 37 = none ∧ tarr Tryz.prog 37 = none ∧ tifc Tryz.prog 37 = some false ∧ pzero Tryz.prog 37 = some (.agg [.v (.int .i64 0), .v (.int .i64 0)]) ∧ tfld Tryz.prog 37 0 = some (0, 3) ∧ tfld Tryz.prog 37 1 = some (1, 3) ∧ tpl Tryz.prog 37 = some [(0, 1), (1, 1)] ∧ teqf Tryz.prog 37 = some [(0, 0), (1, 0)] ∧ tbytes Tryz.prog 37 = some 16 ∧ tzero Tryz.prog 37 = some [.v (.int .i64 0), .v (.int .i64 0)] ∧ tsz Tryz.prog 38 = some 1 ∧ trow Tryz.prog 38 = some false ∧ tel Tryz.prog 38 = none := by refine ⟨?_, ?_, ?_, ?_, ?_, ?_, ?_, ?_, ?_, ?_, ?_, ?_, ?_, ?_, ?_, ?_, ?_, ?_, ?_, ?_, ?_, ?_, ?_, ?_⟩ <;> kernel_rfl
@[simp] theorem tarr38 : tarr Tryz.prog 38 = none ∧ tifc Tryz.prog 38 = some false ∧ pzero Tryz.prog 38 = some (.v (.nilFunc)) ∧ tbytes Tryz.prog 38 = some 8 ∧ tzero Tryz.prog 38 = some [.v (.nilFunc)] ∧ tsz Tryz.prog 39 = some 1 ∧ trow Tryz.prog 39 = some false ∧ tel Tryz.prog 39 = none ∧ tarr Tryz.prog 39 = none ∧ tifc Tryz.prog 39 = some false ∧ pzero Tryz.prog 39 = some (.v (.nilFunc)) ∧ tbytes Tryz.prog 39 = some 8 ∧ tzero Tryz.prog 39 = some [.v (.nilFunc)] ∧ tsz Tryz.prog 40 = some 1 ∧ trow Tryz.prog 40 = some false ∧ tel Tryz.prog 40 = some 123 ∧ tarr Tryz.prog 40 = none ∧ tifc Tryz.prog 40 = some false ∧ pzero Tryz.prog 40 = some (.nil) ∧ tbytes Tryz.prog 40 = some 24 ∧ tzero Tryz.prog 40 = some [.nil] ∧ tsz Tryz.prog 41 = some 1 ∧ trow Tryz.prog 41 = some false ∧ tel Tryz.prog 41 = some 3 := by refine ⟨?_, ?_, ?_, ?_, ?_, ?_, ?_, ?_, ?_, ?_, ?_, ?_, ?_, ?_, ?_, ?_, ?_, ?_, ?_, ?_, ?_, ?_, ?_, ?_⟩ <;> kernel_rfl
@[simp] theorem tarr41 : tarr Tryz.prog 41 = none ∧ tifc Tryz.prog 41 = some false ∧ pzero Tryz.prog 41 = some (.nil) ∧ tbytes Tryz.prog 41 = some 24 ∧ tzero Tryz.prog 41 = some [.nil] ∧ tsz Tryz.prog 43 = some 1 ∧ trow Tryz.prog 43 = some false ∧ tel Tryz.prog 43 = none ∧ tarr Tryz.prog 43 = none ∧ tifc Tryz.prog 43 = some false ∧ pzero Tryz.prog 43 = some (.v (.nilFunc)) ∧ tbytes Tryz.prog 43 = some 8 ∧ tzero Tryz.prog 43 = some [.v (.nilFunc)] ∧ tsz Tryz.prog 44 = some 1 ∧ trow Tryz.prog 44 = some false ∧ tel Tryz.prog 44 = none ∧ tarr Tryz.prog 44 = none ∧ tifc Tryz.prog 44 = some false ∧ pzero Tryz.prog 44 = some (.v (.nilFunc)) ∧ tbytes Tryz.prog 44 = some 8 ∧ tzero Tryz.prog 44 = some [.v (.nilFunc)] ∧ tsz Tryz.prog 46 = some 1 ∧ trow Tryz.prog 46 = some false ∧ tel Tryz.prog 46 = none := by refine ⟨?_, ?_, ?_, ?_, ?_, ?_, ?_, ?_, ?_, ?_, ?_, ?_, ?_, ?_, ?_, ?_, ?_, ?_, ?_, ?_, ?_, ?_, ?_, ?_⟩ <;> kernel_rfl
@[simp] theorem tarr46 : tarr Tryz.prog 46 = none ∧ tifc Tryz.prog 46 = some false ∧ pzero Tryz.prog 46 = some (.v (.nilFunc)) ∧ tbytes Tryz.prog 46 = some 8 ∧ tzero Tryz.prog 46 = some [.v (.nilFunc)] ∧ tsz Tryz.prog 47 = some 1 ∧ trow Tryz.prog 47 = some false ∧ tel Tryz.prog 47 = none ∧ tarr Tryz.prog 47 = none ∧ tifc Tryz.prog 47 = some false ∧ pzero Tryz.prog 47 = some (.v (.nilFunc)) ∧ tbytes Tryz.prog 47 = some 8 ∧ tzero Tryz.prog 47 = some [.v (.nilFunc)] ∧ tsz Tryz.prog 48 = some 1 ∧ trow Tryz.prog 48 = some false ∧ tel Tryz.prog 48 = none ∧ tarr Tryz.prog 48 = none ∧ tifc Tryz.prog 48 = some false ∧ pzero Tryz.prog 48 = some (.v (.nilFunc)) ∧ tbytes Tryz.prog 48 = some 8 ∧ tzero Tryz.prog 48 = some [.v (.nilFunc)] ∧ tsz Tryz.prog 49 = some 1 ∧ trow Tryz.prog 49 = some false ∧ tel Tryz.prog 49 = none := by refine ⟨?_, ?_, ?_, ?_, ?_, ?_, ?_, ?_, ?_, ?_, ?_, ?_, ?_, ?_, ?_, ?_, ?_, ?_, ?_, ?_, ?_, ?_, ?_, ?_⟩ <;> kernel_rfl
@[simp] theorem tarr49 : tarr Tryz.prog 49 = none ∧ tifc Tryz.prog 49 = some false ∧ pzero Tryz.prog 49 = some (.v (.nilFunc)) ∧ tbytes Tryz.prog 49 = some 8 ∧ tzero Tryz.prog 49 = some [.v (.nilFunc)] ∧ tsz Tryz.prog 50 = some 1 ∧ trow Tryz.prog 50 = some false ∧ tel Tryz.prog 50 = none ∧ tarr Tryz.prog 50 = none ∧ tifc Tryz.prog 50 = some false ∧ pzero Tryz.prog 50 = some (.v (.nilFunc)) ∧ tbytes Tryz.prog 50 = some 8 ∧ tzero Tryz.prog 50 = some [.v (.nilFunc)] ∧ tsz Tryz.prog 51 = some 1 ∧ trow Tryz.prog 51 = some false ∧ tel Tryz.prog 51 = none ∧ tarr Tryz.prog 51 = none ∧ tifc Tryz.prog 51 = some false ∧ pzero Tryz.prog 51 = some (.v (.nilFunc)) ∧ tbytes Tryz.prog 51 = some 8 ∧ tzero Tryz.prog 51 = some [.v (.nilFunc)] ∧ tsz Tryz.prog 52 = some 1 ∧ trow Tryz.prog 52 = some false ∧ tel Tryz.prog 52 = some 66 := by refine ⟨?_, ?_, ?_, ?_, ?_, ?_, ?_, ?_, ?_, ?_, ?_, ?_, ?_, ?_, ?_, ?_, ?_, ?_, ?_, ?_, ?_, ?_, ?_, ?_⟩ <;> kernel_rfl
@[simp] theorem tarr52 : tarr Tryz.prog 52 = none ∧ tifc Tryz.prog 52 = some false ∧ pzero Tryz.prog 52 = some (.nil) ∧ tbytes Tryz.prog 52 = some 24 ∧ tzero Tryz.prog 52 = some [.nil] ∧ tsz Tryz.prog 54 = some 1 ∧ trow Tryz.prog 54 = some false ∧ tel Tryz.prog 54 = none ∧ tarr Tryz.prog 54 = none ∧ tifc Tryz.prog 54 = some false ∧ pzero Tryz.prog 54 = some (.v (.nilFunc)) ∧ tbytes Tryz.prog 54 = some 8 ∧ tzero Tryz.prog 54 = some [.v (.nilFunc)] ∧ tsz Tryz.prog 55 = some 1 ∧ trow Tryz.prog 55 = some false ∧ tel Tryz.prog 55 = none ∧ tarr Tryz.prog 55 = none ∧ tifc Tryz.prog 55 = some false ∧ pzero Tryz.prog 55 = some (.v (.int .i64 0)) ∧ tint Tryz.prog 55 = some .i64 ∧ tbytes Tryz.prog 55 = some 8 ∧ tzero Tryz.prog 55 = some [.v (.int .i64 0)] ∧ tsz Tryz.prog 57 = some 1 ∧ trow Tryz.prog 57 = some false := by refine ⟨?_, ?_, ?_, ?_, ?_, ?_, ?_, ?_, ?_, ?_, ?_, ?_, ?_, ?_, ?_, ?_, ?_, ?_, ?_, ?_, ?_, ?_, ?_, ?_⟩ <;> kernel_rfl
@[simp] theorem tel57 : tel Tryz.prog 57 = none ∧ tarr Tryz.prog 57 = none ∧ tifc Tryz.prog 57 = some false ∧ pzero Tryz.prog 57 = some (.v (.nilFunc)) ∧ tbytes Tryz.prog 57 = some 8 ∧ tzero Tryz.prog 57 = some [.v (.nilFunc)] ∧ tsz Tryz.prog 59 = some 1 ∧ trow Tryz.prog 59 = some false ∧ tel Tryz.prog 59 = none ∧ tarr Tryz.prog 59 = none ∧ tifc Tryz.prog 59 = some false ∧ pzero Tryz.prog 59 = some (.v (.nilFunc)) ∧ tbytes Tryz.prog 59 = some 8 ∧ tzero Tryz.prog 59 = some [.v (.nilFunc)] ∧ tsz Tryz.prog 60 = some 1 ∧ trow Tryz.prog 60 = some false ∧ tel Tryz.prog 60 = none ∧ tarr Tryz.prog 60 = none ∧ tifc Tryz.prog 60 = some false ∧ pzero Tryz.prog 60 = some (.v (.nilFunc)) ∧ tbytes Tryz.prog 60 = some 8 ∧ tzero Tryz.prog 60 = some [.v (.nilFunc)] ∧ tsz Tryz.prog 61 = some 1 ∧ trow Tryz.prog 61 = some false := by refine ⟨?_, ?_, ?_, ?_, ?_, ?_, ?_, ?_, ?_, ?_, ?_, ?_, ?_, ?_, ?_, ?_, ?_, ?_, ?_, ?_, ?_, ?_, ?_, ?_⟩ <;> kernel_rfl
@[simp] theorem tel61 : tel Tryz.prog 61 = none ∧ tarr Tryz.prog 61 = none ∧ tifc Tryz.prog 61 = some false ∧ pzero Tryz.prog 61 = some (.v (.nilFunc)) ∧ tbytes Tryz.prog 61 = some 8 ∧ tzero Tryz.prog 61 = some [.v (.nilFunc)] ∧ tsz Tryz.prog 62 = some 1 ∧ trow Tryz.prog 62 = some false ∧ tel Tryz.prog 62 = none ∧ tarr Tryz.prog 62 = none ∧ tifc Tryz.prog 62 = some false ∧ pzero Tryz.prog 62 = some (.v (.nilFunc)) ∧ tbytes Tryz.prog 62 = some 8 ∧ tzero Tryz.prog 62 = some [.v (.nilFunc)] ∧ tsz Tryz.prog 63 = some 1 ∧ trow Tryz.prog 63 = some false ∧ tel Tryz.prog 63 = some 120 ∧ tarr Tryz.prog 63 = none ∧ tifc Tryz.prog 63 = some false ∧ pzero Tryz.prog 63 = some (.nil) ∧ tbytes Tryz.prog 63 = some 24 ∧ tzero Tryz.prog 63 = some [.nil] ∧ tsz Tryz.prog 64 = some 1 ∧ trow Tryz.prog 64 = some false := by refine ⟨?_, ?_, ?_, ?_, ?_, ?_, ?_, ?_, ?_, ?_, ?_, ?_, ?_, ?_, ?_, ?_, ?_, ?_, ?_, ?_, ?_, ?_, ?_, ?_⟩ <;> kernel_rfl
@[simp] theorem tel64 : tel Tryz.prog 64 = some 37 ∧ tarr Tryz.prog 64 = none ∧ tifc Tryz.prog 64 = some false ∧ pzero Tryz.prog 64 = some (.nil) ∧ tbytes Tryz.prog 64 = some 24 ∧ tzero Tryz.prog 64 = some [.nil] ∧ tsz Tryz.prog 65 = some 5 ∧ trow Tryz.prog 65 = some true ∧ tel Tryz.prog 65 = none ∧ tarr Tryz.prog 65 = none ∧ tifc Tryz.prog 65 = some false ∧ pzero Tryz.prog 65 = some (.agg [.nil, .v (.int .i64 0), .v (.int .i64 0), .nil, .v (.bool false)]) ∧ tfld Tryz.prog 65 0 = some (0, 63) ∧ tfld Tryz.prog 65 1 = some (1, 37) ∧ tfld Tryz.prog 65 2 = some (3, 64) ∧ tfld Tryz.prog 65 3 = some (4, 4) ∧ tpl Tryz.prog 65 = some [(0, 1), (1, 2), (3, 1), (4, 1)] ∧ tbytes Tryz.prog 65 = some 72 ∧ tzero Tryz.prog 65 = some [.nil, .v (.int .i64 0), .v (.int .i64 0), .nil, .v (.bool false)] ∧ tsz Tryz.prog 66 = some 5 ∧ trow Tryz.prog 66 = some true ∧ tel Tryz.prog 66 = none ∧ tarr Tryz.prog 66 = none ∧ tifc Tryz.prog 66 = some false := by refine ⟨?_, ?_, ?_, ?_, ?_, ?_, ?_, ?_, ?_, ?_, ?_, ?_, ?_, ?_, ?_, ?_, ?_, ?_, ?_, ?_, ?_, ?_, ?_, ?_⟩ <;> kernel_rfl
@[simp] theorem pzero66 : pzero Tryz.prog 66 = some (.agg [.nil, .v (.int .i64 0), .v (.int .i64 0), .nil, .v (.bool false)]) ∧ tfld Tryz.prog 66 0 = some (0, 63) ∧ tfld Tryz.prog 66 1 = some (1, 37) ∧ tfld Tryz.prog 66 2 = some (3, 64) ∧ tfld Tryz.prog 66 3 = some (4, 4) ∧ tpl Tryz.prog 66 = some [(0, 1), (1, 2), (3, 1), (4, 1)] ∧ tbytes Tryz.prog 66 = some 72 ∧ tzero Tryz.prog 66 = some [.nil, .v (.int .i64 0), .v (.int .i64 0), .nil, .v (.bool false)] ∧ tsz Tryz.prog 67 = some 1 ∧ trow Tryz.prog 67 = some false ∧ tel Tryz.prog 67 = none ∧ tarr Tryz.prog 67 = none ∧ tifc Tryz.prog 67 = some false ∧ pzero Tryz.prog 67 = some (.v (.nilFunc)) ∧ tbytes Tryz.prog 67 = some 8 ∧ tzero Tryz.prog 67 = some [.v (.nilFunc)] ∧ tsz Tryz.prog 68 = some 4 ∧ trow Tryz.prog 68 = some true ∧ tel Tryz.prog 68 = none ∧ tarr Tryz.prog 68 = none ∧ tifc Tryz.prog 68 = some false ∧ pzero Tryz.prog 68 = some (.agg [.v (.int .i64 0), .v (.int .i64 0), .v (.int .i64 0), .v (.int .i64 0)]) ∧ tfld Tryz.prog 68 0 = some (0, 37) ∧ tfld Tryz.prog 68 1 = some (2, 37) := by refine ⟨?_, ?_, ?_, ?_, ?_, ?_, ?_, ?_, ?_, ?_, ?_, ?_, ?_, ?_, ?_, ?_, ?_, ?_, ?_, ?_, ?_, ?_, ?_, ?_⟩ <;> kernel_rfl
@[simp] theorem tpl68 : tpl Tryz.prog 68 = some [(0, 2), (2, 2)] ∧ teqf Tryz.prog 68 = none ∧ teqn Tryz.prog 68 = some [(0, (3, (2, [(0, 0), (1, 0)]))), (2, (3, (2, [(0, 0), (1, 0)])))] ∧ tbytes Tryz.prog 68 = some 32 ∧ tzero Tryz.prog 68 = some [.v (.int .i64 0), .v (.int .i64 0), .v (.int .i64 0), .v (.int .i64 0)] ∧ tsz Tryz.prog 69 = some 4 ∧ trow Tryz.prog 69 = some true ∧ tel Tryz.prog 69 = none ∧ tarr Tryz.prog 69 = none ∧ tifc Tryz.prog 69 = some false ∧ pzero Tryz.prog 69 = some (.agg [.v (.int .i64 0), .v (.int .i64 0), .v (.int .i64 0), .v (.int .i64 0)]) ∧ tfld Tryz.prog 69 0 = some (0, 37) ∧ tfld Tryz.prog 69 1 = some (2, 37) ∧ tpl Tryz.prog 69 = some [(0, 2), (2, 2)] ∧ teqf Tryz.prog 69 = none ∧ teqn Tryz.prog 69 = some [(0, (3, (2, [(0, 0), (1, 0)]))), (2, (3, (2, [(0, 0), (1, 0)])))] ∧ tbytes Tryz.prog 69 = some 32 ∧ tzero Tryz.prog 69 = some [.v (.int .i64 0), .v (.int .i64 0), .v (.int .i64 0), .v (.int .i64 0)] ∧ tsz Tryz.prog 71 = some 1 ∧ trow Tryz.prog 71 = some false ∧ tel Tryz.prog 71 = none ∧ tarr Tryz.prog 71 = none ∧ tifc Tryz.prog 71 = some false ∧ pzero Tryz.prog 71 = some (.v (.nilFunc)) := by refine ⟨?_, ?_, ?_, ?_, ?_, ?_, ?_, ?_, ?_, ?_, ?_, ?_, ?_, ?_, ?_, ?_, ?_, ?_, ?_, ?_, ?_, ?_, ?_, ?_⟩ <;> kernel_rfl
@[simp] theorem tbytes71 : tbytes Tryz.prog 71 = some 8 ∧ tzero Tryz.prog 71 = some [.v (.nilFunc)] ∧ tsz Tryz.prog 72 = some 3 ∧ trow Tryz.prog 72 = some true ∧ tel Tryz.prog 72 = none ∧ tarr Tryz.prog 72 = none ∧ tifc Tryz.prog 72 = some false ∧ pzero Tryz.prog 72 = some (.agg [.nil, .v (.int .i64 0), .nil]) ∧ tfld Tryz.prog 72 0 = some (0, 41) ∧ tfld Tryz.prog 72 1 = some (1, 3) ∧ tfld Tryz.prog 72 2 = some (2, 41) ∧ tpl Tryz.prog 72 = some [(0, 1), (1, 1), (2, 1)] ∧ tbytes Tryz.prog 72 = some 56 ∧ tzero Tryz.prog 72 = some [.nil, .v (.int .i64 0), .nil] ∧ tsz Tryz.prog 73 = some 3 ∧ trow Tryz.prog 73 = some true ∧ tel Tryz.prog 73 = none ∧ tarr Tryz.prog 73 = none ∧ tifc Tryz.prog 73 = some false ∧ pzero Tryz.prog 73 = some (.agg [.nil, .v (.int .i64 0), .nil]) ∧ tfld Tryz.prog 73 0 = some (0, 41) ∧ tfld Tryz.prog 73 1 = some (1, 3) ∧ tfld Tryz.prog 73 2 = some (2, 41) ∧ tpl Tryz.prog 73 = some [(0, 1), (1, 1), (2, 1)] := by refine ⟨?_, ?_, ?_, ?_, ?_, ?_, ?_, ?_, ?_, ?_, ?_, ?_, ?_, ?_, ?_, ?_, ?_, ?_, ?_, ?_, ?_, ?_, ?_, ?_⟩ <;> kernel_rfl
@[simp] theorem tbytes73 : tbytes Tryz.prog 73 = some 56 ∧ tzero Tryz.prog 73 = some [.nil, .v (.int .i64 0), .nil] ∧ tsz Tryz.prog 75 = some 1 ∧ trow Tryz.prog 75 = some false ∧ tel Tryz.prog 75 = none ∧ tarr Tryz.prog 75 = none ∧ tifc Tryz.prog 75 = some false ∧ pzero Tryz.prog 75 = some (.v (.nilFunc)) ∧ tbytes Tryz.prog 75 = some 8 ∧ tzero Tryz.prog 75 = some [.v (.nilFunc)] ∧ tsz Tryz.prog 76 = some 1 ∧ trow Tryz.prog 76 = some false ∧ tel Tryz.prog 76 = none ∧ tarr Tryz.prog 76 = none ∧ tifc Tryz.prog 76 = some false ∧ pzero Tryz.prog 76 = some (.v (.nilFunc)) ∧ tbytes Tryz.prog 76 = some 8 ∧ tzero Tryz.prog 76 = some [.v (.nilFunc)] ∧ tsz Tryz.prog 77 = some 1 ∧ trow Tryz.prog 77 = some false ∧ tel Tryz.prog 77 = none ∧ tarr Tryz.prog 77 = none ∧ tifc Tryz.prog 77 = some false ∧ pzero Tryz.prog 77 = some (.v (.nilFunc)) := by refine ⟨?_, ?_, ?_, ?_, ?_, ?_, ?_, ?_, ?_, ?_, ?_, ?_, ?_, ?_, ?_, ?_, ?_, ?_, ?_, ?_, ?_, ?_, ?_, ?_⟩ <;> kernel_rfl
@[simp] theorem tbytes77 : tbytes Tryz.prog 77 = some 8 ∧ tzero Tryz.prog 77 = some [.v (.nilFunc)] ∧ tsz Tryz.prog 79 = some 1 ∧ trow Tryz.prog 79 = some false ∧ tel Tryz.prog 79 = none ∧ tarr Tryz.prog 79 = none ∧ tifc Tryz.prog 79 = some false ∧ pzero Tryz.prog 79 = some (.v (.nilFunc)) ∧ tbytes Tryz.prog 79 = some 8 ∧ tzero Tryz.prog 79 = some [.v (.nilFunc)] ∧ tsz Tryz.prog 80 = some 1 ∧ trow Tryz.prog 80 = some false ∧ tel Tryz.prog 80 = none ∧ tarr Tryz.prog 80 = none ∧ tifc Tryz.prog 80 = some false ∧ pzero Tryz.prog 80 = some (.v (.nilFunc)) ∧ tbytes Tryz.prog 80 = some 8 ∧ tzero Tryz.prog 80 = some [.v (.nilFunc)] ∧ tsz Tryz.prog 82 = some 1 ∧ trow Tryz.prog 82 = some false ∧ tel Tryz.prog 82 = none ∧ tarr Tryz.prog 82 = none ∧ tifc Tryz.prog 82 = some false ∧ pzero Tryz.prog 82 = some (.v (.nilFunc)) := by refine ⟨?_, ?_, ?_, ?_, ?_, ?_, ?_, ?_, ?_, ?_, ?_, ?_, ?_, ?_, ?_, ?_, ?_, ?_, ?_, ?_, ?_, ?_, ?_, ?_⟩ <;> kernel_rfl
@[simp] theorem tbytes82 : tbytes Tryz.prog 82 = some 8 ∧ tzero Tryz.prog 82 = some [.v (.nilFunc)] ∧ tsz Tryz.prog 84 = some 1 ∧ trow Tryz.prog 84 = some false ∧ tel Tryz.prog 84 = none ∧ tarr Tryz.prog 84 = none ∧ tifc Tryz.prog 84 = some false ∧ pzero Tryz.prog 84 = some (.v (.nilFunc)) ∧ tbytes Tryz.prog 84 = some 8 ∧ tzero Tryz.prog 84 = some [.v (.nilFunc)] ∧ tsz Tryz.prog 85 = some 1 ∧ trow Tryz.prog 85 = some false ∧ tel Tryz.prog 85 = none ∧ tarr Tryz.prog 85 = none ∧ tifc Tryz.prog 85 = some false ∧ pzero Tryz.prog 85 = some (.v (.nilFunc)) ∧ tbytes Tryz.prog 85 = some 8 ∧ tzero Tryz.prog 85 = some [.v (.nilFunc)] ∧ tsz Tryz.prog 86 = some 1 ∧ trow Tryz.prog 86 = some false ∧ tel Tryz.prog 86 = none ∧ tarr Tryz.prog 86 = none ∧ tifc Tryz.prog 86 = some false ∧ pzero Tryz.prog 86 = some (.v (.nilFunc)) := by refine ⟨?_, ?_, ?_, ?_, ?_, ?_, ?_, ?_, ?_, ?_, ?_, ?_, ?_, ?_, ?_, ?_, ?_, ?_, ?_, ?_, ?_, ?_, ?_, ?_⟩ <;> kernel_rfl
@[simp] theorem tbytes86 : tbytes Tryz.prog 86 = some 8 ∧ tzero Tryz.prog 86 = some [.v (.nilFunc)] ∧ tsz Tryz.prog 87 = some 1 ∧ trow Tryz.prog 87 = some false ∧ tel Tryz.prog 87 = none ∧ tarr Tryz.prog 87 = none ∧ tifc Tryz.prog 87 = some false ∧ pzero Tryz.prog 87 = some (.v (.nilFunc)) ∧ tbytes Tryz.prog 87 = some 8 ∧ tzero Tryz.prog 87 = some [.v (.nilFunc)] ∧ tsz Tryz.prog 88 = some 1 ∧ trow Tryz.prog 88 = some false ∧ tel Tryz.prog 88 = none ∧ tarr Tryz.prog 88 = none ∧ tifc Tryz.prog 88 = some false ∧ pzero Tryz.prog 88 = some (.v (.nilFunc)) ∧ tbytes Tryz.prog 88 = some 8 ∧ tzero Tryz.prog 88 = some [.v (.nilFunc)] ∧ tsz Tryz.prog 90 = some 1 ∧ trow Tryz.prog 90 = some false ∧ tel Tryz.prog 90 = none ∧ tarr Tryz.prog 90 = none ∧ tifc Tryz.prog 90 = some false ∧ pzero Tryz.prog 90 = some (.v (.nilFunc)) := by refine ⟨?_, ?_, ?_, ?_, ?_, ?_, ?_, ?_, ?_, ?_, ?_, ?_, ?_, ?_, ?_, ?_, ?_, ?_, ?_, ?_, ?_, ?_, ?_, ?_⟩ <;> kernel_rfl
@[simp] theorem tbytes90 : tbytes Tryz.prog 90 = some 8 ∧ tzero Tryz.prog 90 = some [.v (.nilFunc)] ∧ tsz Tryz.prog 91 = some 1 ∧ trow Tryz.prog 91 = some false ∧ tel Tryz.prog 91 = none ∧ tarr Tryz.prog 91 = none ∧ tifc Tryz.prog 91 = some false ∧ pzero Tryz.prog 91 = some (.v (.nilFunc)) ∧ tbytes Tryz.prog 91 = some 8 ∧ tzero Tryz.prog 91 = some [.v (.nilFunc)] ∧ tsz Tryz.prog 92 = some 1 ∧ trow Tryz.prog 92 = some false ∧ tel Tryz.prog 92 = none ∧ tarr Tryz.prog 92 = none ∧ tifc Tryz.prog 92 = some false ∧ pzero Tryz.prog 92 = some (.v (.nilFunc)) ∧ tbytes Tryz.prog 92 = some 8 ∧ tzero Tryz.prog 92 = some [.v (.nilFunc)] ∧ tsz Tryz.prog 93 = some 1 ∧ trow Tryz.prog 93 = some false ∧ tel Tryz.prog 93 = none ∧ tarr Tryz.prog 93 = none ∧ tifc Tryz.prog 93 = some false ∧ pzero Tryz.prog 93 = some (.v (.nilFunc)) := by refine ⟨?_, ?_, ?_, ?_, ?_, ?_, ?_, ?_, ?_, ?_, ?_, ?_, ?_, ?_, ?_, ?_, ?_, ?_, ?_, ?_, ?_, ?_, ?_, ?_⟩ <;> kernel_rfl
@[simp] theorem tbytes93 : tbytes Tryz.prog 93 = some 8 ∧ tzero Tryz.prog 93 = some [.v (.nilFunc)] ∧ tsz Tryz.prog 94 = some 1 ∧ trow Tryz.prog 94 = some false ∧ tel Tryz.prog 94 = none ∧ tarr Tryz.prog 94 = none ∧ tifc Tryz.prog 94 = some false ∧ pzero Tryz.prog 94 = some (.v (.nilFunc)) ∧ tbytes Tryz.prog 94 = some 8 ∧ tzero Tryz.prog 94 = some [.v (.nilFunc)] ∧ tsz Tryz.prog 95 = some 1 ∧ trow Tryz.prog 95 = some false ∧ tel Tryz.prog 95 = none ∧ tarr Tryz.prog 95 = none ∧ tifc Tryz.prog 95 = some false ∧ pzero Tryz.prog 95 = some (.v (.nilFunc)) ∧ tbytes Tryz.prog 95 = some 8 ∧ tzero Tryz.prog 95 = some [.v (.nilFunc)] ∧ tsz Tryz.prog 96 = some 1 ∧ trow Tryz.prog 96 = some false ∧ tel Tryz.prog 96 = none ∧ tarr Tryz.prog 96 = none ∧ tifc Tryz.prog 96 = some false ∧ pzero Tryz.prog 96 = some (.v (.nilFunc)) := by refine ⟨?_, ?_, ?_, ?_, ?_, ?_, ?_, ?_, ?_, ?_, ?_, ?_, ?_, ?_, ?_, ?_, ?_, ?_, ?_, ?_, ?_, ?_, ?_, ?_⟩ <;> kernel_rfl
@[simp] theorem tbytes96 : tbytes Tryz.prog 96 = some 8 ∧ tzero Tryz.prog 96 = some [.v (.nilFunc)] ∧ tsz Tryz.prog 98 = some 1 ∧ trow Tryz.prog 98 = some false ∧ tel Tryz.prog 98 = none ∧ tarr Tryz.prog 98 = none ∧ tifc Tryz.prog 98 = some false ∧ pzero Tryz.prog 98 = some (.v (.nilFunc)) ∧ tbytes Tryz.prog 98 = some 8 ∧ tzero Tryz.prog 98 = some [.v (.nilFunc)] ∧ tsz Tryz.prog 99 = some 1 ∧ trow Tryz.prog 99 = some false ∧ tel Tryz.prog 99 = none ∧ tarr Tryz.prog 99 = none ∧ tifc Tryz.prog 99 = some false ∧ pzero Tryz.prog 99 = some (.v (.nilFunc)) ∧ tbytes Tryz.prog 99 = some 8 ∧ tzero Tryz.prog 99 = some [.v (.nilFunc)] ∧ tsz Tryz.prog 100 = some 1 ∧ trow Tryz.prog 100 = some false ∧ tel Tryz.prog 100 = none ∧ tarr Tryz.prog 100 = none ∧ tifc Tryz.prog 100 = some false ∧ pzero Tryz.prog 100 = some (.v (.nilFunc)) := by refine ⟨?_, ?_, ?_, ?_, ?_, ?_, ?_, ?_, ?_, ?_, ?_, ?_, ?_, ?_, ?_, ?_, ?_, ?_, ?_, ?_, ?_, ?_, ?_, ?_⟩ <;> kernel_rfl
@[simp] theorem tbytes100 : tbytes Tryz.prog 100 = some 8 ∧ tzero Tryz.prog 100 = some [.v (.nilFunc)] ∧ tsz Tryz.prog 102 = some 1 ∧ trow Tryz.prog 102 = some false ∧ tel Tryz.prog 102 = none ∧ tarr Tryz.prog 102 = none ∧ tifc Tryz.prog 102 = some false ∧ pzero Tryz.prog 102 = some (.v (.nilFunc)) ∧ tbytes Tryz.prog 102 = some 8 ∧ tzero Tryz.prog 102 = some [.v (.nilFunc)] ∧ tsz Tryz.prog 103 = some 1 ∧ trow Tryz.prog 103 = some false ∧ tel Tryz.prog 103 = none ∧ tarr Tryz.prog 103 = none ∧ tifc Tryz.prog 103 = some false ∧ pzero Tryz.prog 103 = some (.v (.nilFunc)) ∧ tbytes Tryz.prog 103 = some 8 ∧ tzero Tryz.prog 103 = some [.v (.nilFunc)] ∧ tsz Tryz.prog 104 = some 1 ∧ trow Tryz.prog 104 = some false ∧ tel Tryz.prog 104 = none ∧ tarr Tryz.prog 104 = none ∧ tifc Tryz.prog 104 = some false ∧ pzero Tryz.prog 104 = some (.v (.nilFunc)) := by refine ⟨?_, ?_, ?_, ?_, ?_, ?_, ?_, ?_, ?_, ?_, ?_, ?_, ?_, ?_, ?_, ?_, ?_, ?_, ?_, ?_, ?_, ?_, ?_, ?_⟩ <;> kernel_rfl
@[simp] theorem tbytes104 : tbytes Tryz.prog 104 = some 8 ∧ tzero Tryz.prog 104 = some [.v (.nilFunc)] ∧ tsz Tryz.prog 105 = some 1 ∧ trow Tryz.prog 105 = some false ∧ tel Tryz.prog 105 = none ∧ tarr Tryz.prog 105 = none ∧ tifc Tryz.prog 105 = some false ∧ pzero Tryz.prog 105 = some (.v (.nilFunc)) ∧ tbytes Tryz.prog 105 = some 8 ∧ tzero Tryz.prog 105 = some [.v (.nilFunc)] ∧ tsz Tryz.prog 107 = some 1 ∧ trow Tryz.prog 107 = some false ∧ tel Tryz.prog 107 = none ∧ tarr Tryz.prog 107 = none ∧ tifc Tryz.prog 107 = some false ∧ pzero Tryz.prog 107 = some (.v (.nilFunc)) ∧ tbytes Tryz.prog 107 = some 8 ∧ tzero Tryz.prog 107 = some [.v (.nilFunc)] ∧ tsz Tryz.prog 108 = some 1 ∧ trow Tryz.prog 108 = some false ∧ tel Tryz.prog 108 = none ∧ tarr Tryz.prog 108 = none ∧ tifc Tryz.prog 108 = some false ∧ pzero Tryz.prog 108 = some (.v (.nilFunc)) := by refine ⟨?_, ?_, ?_, ?_, ?_, ?_, ?_, ?_, ?_, ?_, ?_, ?_, ?_, ?_, ?_, ?_, ?_, ?_, ?_, ?_, ?_, ?_, ?_, ?_⟩ <;> kernel_rfl
@[simp] theorem tbytes108 : tbytes Tryz.prog 108 = some 8 ∧ tzero Tryz.prog 108 = some [.v (.nilFunc)] ∧ tsz Tryz.prog 109 = some 1 ∧ trow Tryz.prog 109 = some false ∧ tel Tryz.prog 109 = some 5 ∧ tarr Tryz.prog 109 = none ∧ tifc Tryz.prog 109 = some false ∧ pzero Tryz.prog 109 = some (.nil) ∧ tbytes Tryz.prog 109 = some 24 ∧ tzero Tryz.prog 109 = some [.nil] ∧ tsz Tryz.prog 110 = some 1 ∧ trow Tryz.prog 110 = some false ∧ tel Tryz.prog 110 = none ∧ tarr Tryz.prog 110 = none ∧ tifc Tryz.prog 110 = some false ∧ pzero Tryz.prog 110 = some (.v (.nilFunc)) ∧ tbytes Tryz.prog 110 = some 8 ∧ tzero Tryz.prog 110 = some [.v (.nilFunc)] ∧ tsz Tryz.prog 111 = some 7 ∧ trow Tryz.prog 111 = some true ∧ tel Tryz.prog 111 = none ∧ tarr Tryz.prog 111 = none ∧ tifc Tryz.prog 111 = some false ∧ pzero Tryz.prog 111 = some (.agg [.nil, .v (.bool false), .v (.int .i64 0), .v (.int .i64 0), .v (.int .i64 0), .v (.int .i64 0), .v (.int .i64 0)]) := by refine ⟨?_, ?_, ?_, ?_, ?_, ?_, ?_, ?_, ?_, ?_, ?_, ?_, ?_, ?_, ?_, ?_, ?_, ?_, ?_, ?_, ?_, ?_, ?_, ?_⟩ <;> kernel_rfl
@[simp] theorem tfld111x0 : tfld Tryz.prog 111 0 = some (0, 63) ∧ tfld Tryz.prog 111 1 = some (1, 4) ∧ tfld Tryz.prog 111 2 = some (2, 3) ∧ tfld Tryz.prog 111 3 = some (3, 37) ∧ tfld Tryz.prog 111 4 = some (5, 37) ∧ tpl Tryz.prog 111 = some [(0, 1), (1, 1), (2, 1), (3, 2), (5, 2)] ∧ tbytes Tryz.prog 111 = some 72 ∧ tzero Tryz.prog 111 = some [.nil, .v (.bool false), .v (.int .i64 0), .v (.int .i64 0), .v (.int .i64 0), .v (.int .i64 0), .v (.int .i64 0)] ∧ tsz Tryz.prog 112 = some 7 ∧ trow Tryz.prog 112 = some true ∧ tel Tryz.prog 112 = none ∧ tarr Tryz.prog 112 = none ∧ tifc Tryz.prog 112 = some false ∧ pzero Tryz.prog 112 = some (.agg [.nil, .v (.bool false), .v (.int .i64 0), .v (.int .i64 0), .v (.int .i64 0), .v (.int .i64 0), .v (.int .i64 0)]) ∧ tfld Tryz.prog 112 0 = some (0, 63) ∧ tfld Tryz.prog 112 1 = some (1, 4) ∧ tfld Tryz.prog 112 2 = some (2, 3) ∧ tfld Tryz.prog 112 3 = some (3, 37) ∧ tfld Tryz.prog 112 4 = some (5, 37) ∧ tpl Tryz.prog 112 = some [(0, 1), (1, 1), (2, 1), (3, 2), (5, 2)] ∧ tbytes Tryz.prog 112 = some 72 ∧ tzero Tryz.prog 112 = some [.nil, .v (.bool false), .v (.int .i64 0), .v (.int .i64 0), .v (.int .i64 0), .v (.int .i64 0), .v (.int .i64 0)] ∧ tsz Tryz.prog 113 = some 1 ∧ trow Tryz.prog 113 = some false := by refine ⟨?_, ?_, ?_, ?_, ?_, ?_, ?_, ?_, ?_, ?_, ?_, ?_, ?_, ?_, ?_, ?_, ?_, ?_, ?_, ?_, ?_, ?_, ?_, ?_⟩ <;> kernel_rfl
@[simp] theorem tel113 : tel Tryz.prog 113 = none ∧ tarr Tryz.prog 113 = none ∧ tifc Tryz.prog 113 = some false ∧ pzero Tryz.prog 113 = some (.v (.nilFunc)) ∧ tbytes Tryz.prog 113 = some 8 ∧ tzero Tryz.prog 113 = some [.v (.nilFunc)] ∧ tsz Tryz.prog 114 = some 1 ∧ trow Tryz.prog 114 = some false ∧ tel Tryz.prog 114 = none ∧ tarr Tryz.prog 114 = none ∧ tifc Tryz.prog 114 = some false ∧ pzero Tryz.prog 114 = some (.v (.nilFunc)) ∧ tbytes Tryz.prog 114 = some 8 ∧ tzero Tryz.prog 114 = some [.v (.nilFunc)] ∧ tsz Tryz.prog 115 = some 2 ∧ trow Tryz.prog 115 = some true ∧ tel Tryz.prog 115 = none ∧ tarr Tryz.prog 115 = none ∧ tifc Tryz.prog 115 = some false ∧ pzero Tryz.prog 115 = some (.agg [.v (.int .i64 0), .v (.int .i64 0)]) ∧ tfld Tryz.prog 115 0 = some (0, 3) ∧ tfld Tryz.prog 115 1 = some (1, 3) ∧ tpl Tryz.prog 115 = some [(0, 1), (1, 1)] ∧ teqf Tryz.prog 115 = some [(0, 0), (1, 0)] := by refine ⟨?_, ?_, ?_, ?_, ?_, ?_, ?_, ?_, ?_, ?_, ?_, ?_, ?_, ?_, ?_, ?_, ?_, ?_, ?_, ?_, ?_, ?_, ?_, ?_⟩ <;> kernel_rfl
@[simp] theorem tbytes115 : tbytes Tryz.prog 115 = some 16 ∧ tzero Tryz.prog 115 = some [.v (.int .i64 0), .v (.int .i64 0)] ∧ tsz Tryz.prog 116 = some 2 ∧ trow Tryz.prog 116 = some true ∧ tel Tryz.prog 116 = none ∧ tarr Tryz.prog 116 = none ∧ tifc Tryz.prog 116 = some false ∧ pzero Tryz.prog 116 = some (.agg [.v (.int .i64 0), .v (.int .i64 0)]) ∧ tfld Tryz.prog 116 0 = some (0, 3) ∧ tfld Tryz.prog 116 1 = some (1, 3) ∧ tpl Tryz.prog 116 = some [(0, 1), (1, 1)] ∧ teqf Tryz.prog 116 = some [(0, 0), (1, 0)] ∧ tbytes Tryz.prog 116 = some 16 ∧ tzero Tryz.prog 116 = some [.v (.int .i64 0), .v (.int .i64 0)] ∧ tsz Tryz.prog 117 = some 1 ∧ trow Tryz.prog 117 = some false ∧ tel Tryz.prog 117 = none ∧ tarr Tryz.prog 117 = none ∧ tifc Tryz.prog 117 = some false ∧ pzero Tryz.prog 117 = some (.v (.nilFunc)) ∧ tbytes Tryz.prog 117 = some 8 ∧ tzero Tryz.prog 117 = some [.v (.nilFunc)] ∧ tsz Tryz.prog 118 = some 1 ∧ trow Tryz.prog 118 = some false := by refine ⟨?_, ?_, ?_, ?_, ?_, ?_, ?_, ?_, ?_, ?_, ?_, ?_, ?_, ?_, ?_, ?_, ?_, ?_, ?_, ?_, ?_, ?_, ?_, ?_⟩ <;> kernel_rfl
@[simp] theorem tel118 : tel Tryz.prog 118 = none ∧ tarr Tryz.prog 118 = none ∧ tifc Tryz.prog 118 = some false ∧ pzero Tryz.prog 118 = some (.v (.nilFunc)) ∧ tbytes Tryz.prog 118 = some 8 ∧ tzero Tryz.prog 118 = some [.v (.nilFunc)] ∧ tsz Tryz.prog 119 = some 3 ∧ trow Tryz.prog 119 = some true ∧ tel Tryz.prog 119 = none ∧ tarr Tryz.prog 119 = none ∧ tifc Tryz.prog 119 = some false ∧ pzero Tryz.prog 119 = some (.agg [.v (.int .i64 0), .v (.int .i64 0), .v (.int .i64 0)]) ∧ tfld Tryz.prog 119 0 = some (0, 3) ∧ tfld Tryz.prog 119 1 = some (1, 37) ∧ tpl Tryz.prog 119 = some [(0, 1), (1, 2)] ∧ teqf Tryz.prog 119 = none ∧ teqn Tryz.prog 119 = some [(0, (0, (0, []))), (1, (3, (2, [(0, 0), (1, 0)])))] ∧ tbytes Tryz.prog 119 = some 24 ∧ tzero Tryz.prog 119 = some [.v (.int .i64 0), .v (.int .i64 0), .v (.int .i64 0)] ∧ tsz Tryz.prog 120 = some 3 ∧ trow Tryz.prog 120 = some true ∧ tel Tryz.prog 120 = none ∧ tarr Tryz.prog 120 = none ∧ tifc Tryz.prog 120 = some false := by refine ⟨?_, ?_, ?_, ?_, ?_, ?_, ?_, ?_, ?_, ?_, ?_, ?_, ?_, ?_, ?_, ?_, ?_, ?_, ?_, ?_, ?_, ?_, ?_, ?_⟩ <;> kernel_rfl
@[simp] theorem pzero120 : pzero Tryz.prog 120 = some (.agg [.v (.int .i64 0), .v (.int .i64 0), .v (.int .i64 0)]) ∧ tfld Tryz.prog 120 0 = some (0, 3) ∧ tfld Tryz.prog 120 1 = some (1, 37) ∧ tpl Tryz.prog 120 = some [(0, 1), (1, 2)] ∧ teqf Tryz.prog 120 = none ∧ teqn Tryz.prog 120 = some [(0, (0, (0, []))), (1, (3, (2, [(0, 0), (1, 0)])))] ∧ tbytes Tryz.prog 120 = some 24 ∧ tzero Tryz.prog 120 = some [.v (.int .i64 0), .v (.int .i64 0), .v (.int .i64 0)] ∧ tsz Tryz.prog 121 = some 1 ∧ trow Tryz.prog 121 = some false ∧ tel Tryz.prog 121 = none ∧ tarr Tryz.prog 121 = none ∧ tifc Tryz.prog 121 = some false ∧ pzero Tryz.prog 121 = some (.v (.nilFunc)) ∧ tbytes Tryz.prog 121 = some 8 ∧ tzero Tryz.prog 121 = some [.v (.nilFunc)] ∧ tsz Tryz.prog 122 = some 6 ∧ trow Tryz.prog 122 = some true ∧ tel Tryz.prog 122 = none ∧ tarr Tryz.prog 122 = none ∧ tifc Tryz.prog 122 = some false ∧ pzero Tryz.prog 122 = some (.agg [.v (.int .i64 0), .v (.int .i64 0), .v (.int .i64 0), .v (.int .i64 0), .v (.int .i64 0), .v (.int .i64 0)]) ∧ tfld Tryz.prog 122 0 = some (0, 37) ∧ tfld Tryz.prog 122 1 = some (2, 3) := by refine ⟨?_, ?_, ?_, ?_, ?_, ?_, ?_, ?_, ?_, ?_, ?_, ?_, ?_, ?_, ?_, ?_, ?_, ?_, ?_, ?_, ?_, ?_, ?_, ?_⟩ <;> kernel_rfl
@[simp] theorem tfld122x2 : tfld Tryz.prog 122 2 = some (3, 37) ∧ tfld Tryz.prog 122 3 = some (5, 3) ∧ tpl Tryz.prog 122 = some [(0, 2), (2, 1), (3, 2), (5, 1)] ∧ teqf Tryz.prog 122 = none ∧ teqn Tryz.prog 122 = some [(0, (3, (2, [(0, 0), (1, 0)]))), (2, (0, (0, []))), (3, (3, (2, [(0, 0), (1, 0)]))), (5, (0, (0, [])))] ∧ tbytes Tryz.prog 122 = some 48 ∧ tzero Tryz.prog 122 = some [.v (.int .i64 0), .v (.int .i64 0), .v (.int .i64 0), .v (.int .i64 0), .v (.int .i64 0), .v (.int .i64 0)] ∧ tsz Tryz.prog 123 = some 6 ∧ trow Tryz.prog 123 = some true ∧ tel Tryz.prog 123 = none ∧ tarr Tryz.prog 123 = none ∧ tifc Tryz.prog 123 = some false ∧ pzero Tryz.prog 123 = some (.agg [.v (.int .i64 0), .v (.int .i64 0), .v (.int .i64 0), .v (.int .i64 0), .v (.int .i64 0), .v (.int .i64 0)]) ∧ tfld Tryz.prog 123 0 = some (0, 37) ∧ tfld Tryz.prog 123 1 = some (2, 3) ∧ tfld Tryz.prog 123 2 = some (3, 37) ∧ tfld Tryz.prog 123 3 = some (5, 3) ∧ tpl Tryz.prog 123 = some [(0, 2), (2, 1), (3, 2), (5, 1)] ∧ teqf Tryz.prog 123 = none ∧ teqn Tryz.prog 123 = some [(0, (3, (2, [(0, 0), (1, 0)]))), (2, (0, (0, []))), (3, (3, (2, [(0, 0), (1, 0)]))), (5, (0, (0, [])))] ∧ tbytes Tryz.prog 123 = some 48 ∧ tzero Tryz.prog 123 = some [.v (.int .i64 0), .v (.int .i64 0), .v (.int .i64 0), .v (.int .i64 0), .v (.int .i64 0), .v (.int .i64 0)] ∧ tsz Tryz.prog 124 = some 1 ∧ trow Tryz.prog 124 = some false := by refine ⟨?_, ?_, ?_, ?_, ?_, ?_, ?_, ?_, ?_, ?_, ?_, ?_, ?_, ?_, ?_, ?_, ?_, ?_, ?_, ?_, ?_, ?_, ?_, ?_⟩ <;> kernel_rfl
@[simp] theorem tel124 : tel Tryz.prog 124 = none ∧ tarr Tryz.prog 124 = none ∧ tifc Tryz.prog 124 = some false ∧ pzero Tryz.prog 124 = some (.v (.nilFunc)) ∧ tbytes Tryz.prog 124 = some 8 ∧ tzero Tryz.prog 124 = some [.v (.nilFunc)] ∧ tsz Tryz.prog 125 = some 1 ∧ trow Tryz.prog 125 = some false ∧ tel Tryz.prog 125 = some 4 ∧ tarr Tryz.prog 125 = none ∧ tifc Tryz.prog 125 = some false ∧ pzero Tryz.prog 125 = some (.nil) ∧ tbytes Tryz.prog 125 = some 24 ∧ tzero Tryz.prog 125 = some [.nil] ∧ tsz Tryz.prog 126 = some 1 ∧ trow Tryz.prog 126 = some false ∧ tel Tryz.prog 126 = none ∧ tarr Tryz.prog 126 = none ∧ tifc Tryz.prog 126 = some false ∧ pzero Tryz.prog 126 = some (.v (.nilFunc)) ∧ tbytes Tryz.prog 126 = some 8 ∧ tzero Tryz.prog 126 = some [.v (.nilFunc)] ∧ tsz Tryz.prog 127 = some 1 ∧ trow Tryz.prog 127 = some false := by refine ⟨?_, ?_, ?_, ?_, ?_, ?_, ?_, ?_, ?_, ?_, ?_, ?_, ?_, ?_, ?_, ?_, ?_, ?_, ?_, ?_, ?_, ?_, ?_, ?_⟩ <;> kernel_rfl
@[simp] theorem tel127 : tel Tryz.prog 127 = none ∧ tarr Tryz.prog 127 = none ∧ tifc Tryz.prog 127 = some false ∧ pzero Tryz.prog 127 = some (.v (.nilFunc)) ∧ tbytes Tryz.prog 127 = some 8 ∧ tzero Tryz.prog 127 = some [.v (.nilFunc)] ∧ tsz Tryz.prog 128 = some 1 ∧ trow Tryz.prog 128 = some false ∧ tel Tryz.prog 128 = none ∧ tarr Tryz.prog 128 = none ∧ tifc Tryz.prog 128 = some false ∧ pzero Tryz.prog 128 = some (.v (.nilFunc)) ∧ tbytes Tryz.prog 128 = some 8 ∧ tzero Tryz.prog 128 = some [.v (.nilFunc)] ∧ tsz Tryz.prog 129 = some 1 ∧ trow Tryz.prog 129 = some false ∧ tel Tryz.prog 129 = none ∧ tarr Tryz.prog 129 = none ∧ tifc Tryz.prog 129 = some false ∧ pzero Tryz.prog 129 = some (.v (.nilFunc)) ∧ tbytes Tryz.prog 129 = some 8 ∧ tzero Tryz.prog 129 = some [.v (.nilFunc)] ∧ tsz Tryz.prog 130 = some 1 ∧ trow Tryz.prog 130 = some false := by refine ⟨?_, ?_, ?_, ?_, ?_, ?_, ?_, ?_, ?_, ?_, ?_, ?_, ?_, ?_, ?_, ?_, ?_, ?_, ?_, ?_, ?_, ?_, ?_, ?_⟩ <;> kernel_rfl
@[simp] theorem tel130 : tel Tryz.prog 130 = none ∧ tarr Tryz.prog 130 = none ∧ tifc Tryz.prog 130 = some false ∧ pzero Tryz.prog 130 = some (.v (.nilFunc)) ∧ tbytes Tryz.prog 130 = some 8 ∧ tzero Tryz.prog 130 = some [.v (.nilFunc)] ∧ tsz Tryz.prog 131 = some 1 ∧ trow Tryz.prog 131 = some false ∧ tel Tryz.prog 131 = none ∧ tarr Tryz.prog 131 = none ∧ tifc Tryz.prog 131 = some false ∧ pzero Tryz.prog 131 = some (.v (.nilFunc)) ∧ tbytes Tryz.prog 131 = some 8 ∧ tzero Tryz.prog 131 = some [.v (.nilFunc)] ∧ tsz Tryz.prog 133 = some 1 ∧ trow Tryz.prog 133 = some false ∧ tel Tryz.prog 133 = none ∧ tarr Tryz.prog 133 = none ∧ tifc Tryz.prog 133 = some false ∧ pzero Tryz.prog 133 = some (.v (.nilFunc)) ∧ tbytes Tryz.prog 133 = some 8 ∧ tzero Tryz.prog 133 = some [.v (.nilFunc)] ∧ tsz Tryz.prog 134 = some 1 ∧ trow Tryz.prog 134 = some false := by refine ⟨?_, ?_, ?_, ?_, ?_, ?_, ?_, ?_, ?_, ?_, ?_, ?_, ?_, ?_, ?_, ?_, ?_, ?_, ?_, ?_, ?_, ?_, ?_, ?_⟩ <;> kernel_rfl
@[simp] theorem tel134 : tel Tryz.prog 134 = none ∧ tarr Tryz.prog 134 = none ∧ tifc Tryz.prog 134 = some false ∧ pzero Tryz.prog 134 = some (.v (.nilFunc)) ∧ tbytes Tryz.prog 134 = some 8 ∧ tzero Tryz.prog 134 = some [.v (.nilFunc)] ∧ tsz Tryz.prog 135 = some 1 ∧ trow Tryz.prog 135 = some false ∧ tel Tryz.prog 135 = none ∧ tarr Tryz.prog 135 = none ∧ tifc Tryz.prog 135 = some false ∧ pzero Tryz.prog 135 = some (.v (.nilFunc)) ∧ tbytes Tryz.prog 135 = some 8 ∧ tzero Tryz.prog 135 = some [.v (.nilFunc)] ∧ tsz Tryz.prog 136 = some 1 ∧ trow Tryz.prog 136 = some false ∧ tel Tryz.prog 136 = none ∧ tarr Tryz.prog 136 = none ∧ tifc Tryz.prog 136 = some false ∧ pzero Tryz.prog 136 = some (.v (.nilFunc)) ∧ tbytes Tryz.prog 136 = some 8 ∧ tzero Tryz.prog 136 = some [.v (.nilFunc)] ∧ tsz Tryz.prog 137 = some 1 ∧ trow Tryz.prog 137 = some false := by refine ⟨?_, ?_, ?_, ?_, ?_, ?_, ?_, ?_, ?_, ?_, ?_, ?_, ?_, ?_, ?_, ?_, ?_, ?_, ?_, ?_, ?_, ?_, ?_, ?_⟩ <;> kernel_rfl
@[simp] theorem tel137 : tel Tryz.prog 137 = none ∧ tarr Tryz.prog 137 = none ∧ tifc Tryz.prog 137 = some false ∧ pzero Tryz.prog 137 = some (.v (.nilFunc)) ∧ tbytes Tryz.prog 137 = some 8 ∧ tzero Tryz.prog 137 = some [.v (.nilFunc)] ∧ tsz Tryz.prog 138 = some 1 ∧ trow Tryz.prog 138 = some false ∧ tel Tryz.prog 138 = none ∧ tarr Tryz.prog 138 = none ∧ tifc Tryz.prog 138 = some false ∧ pzero Tryz.prog 138 = some (.v (.nilFunc)) ∧ tbytes Tryz.prog 138 = some 8 ∧ tzero Tryz.prog 138 = some [.v (.nilFunc)] ∧ tsz Tryz.prog 139 = some 10 ∧ trow Tryz.prog 139 = some true ∧ tel Tryz.prog 139 = none ∧ tarr Tryz.prog 139 = none ∧ tifc Tryz.prog 139 = some false ∧ pzero Tryz.prog 139 = some (.agg [.v (.int .i64 0), .v (.int .i64 0), .v (.int .i64 0), .v (.int .i64 0), .nil, .nil, .v (.int .i64 0), .v (.int .i64 0), .v (.int .i64 0), .nil]) ∧ tfld Tryz.prog 139 0 = some (0, 27) ∧ tpl Tryz.prog 139 = some [(0, 10)] ∧ tbytes Tryz.prog 139 = some 128 ∧ tzero Tryz.prog 139 = some [.v (.int .i64 0), .v (.int .i64 0), .v (.int .i64 0), .v (.int .i64 0), .nil, .nil, .v (.int .i64 0), .v (.int .i64 0), .v (.int .i64 0), .nil] := by refine ⟨?_, ?_, ?_, ?_, ?_, ?_, ?_, ?_, ?_, ?_, ?_, ?_, ?_, ?_, ?_, ?_, ?_, ?_, ?_, ?_, ?_, ?_, ?_, ?_⟩ <;> kernel_rfl
@[simp] theorem tsz140 : tsz Tryz.prog 140 = some 10 ∧ trow Tryz.prog 140 = some true ∧ tel Tryz.prog 140 = none ∧ tarr Tryz.prog 140 = none ∧ tifc Tryz.prog 140 = some false ∧ pzero Tryz.prog 140 = some (.agg [.v (.int .i64 0), .v (.int .i64 0), .v (.int .i64 0), .v (.int .i64 0), .nil, .nil, .v (.int .i64 0), .v (.int .i64 0), .v (.int .i64 0), .nil]) ∧ tfld Tryz.prog 140 0 = some (0, 27) ∧ tpl Tryz.prog 140 = some [(0, 10)] ∧ tbytes Tryz.prog 140 = some 128 ∧ tzero Tryz.prog 140 = some [.v (.int .i64 0), .v (.int .i64 0), .v (.int .i64 0), .v (.int .i64 0), .nil, .nil, .v (.int .i64 0), .v (.int .i64 0), .v (.int .i64 0), .nil] ∧ tsz Tryz.prog 141 = some 15 ∧ trow Tryz.prog 141 = some true ∧ tel Tryz.prog 141 = none ∧ tarr Tryz.prog 141 = none ∧ tifc Tryz.prog 141 = some false ∧ pzero Tryz.prog 141 = some (.agg [.v (.int .i64 0), .v (.int .i64 0), .v (.int .i64 0), .v (.int .i64 0), .nil, .nil, .v (.int .i64 0), .v (.int .i64 0), .v (.int .i64 0), .nil, .nil, .v (.int .i64 0), .v (.int .i64 0), .nil, .v (.bool false)]) ∧ tfld Tryz.prog 141 0 = some (0, 140) ∧ tfld Tryz.prog 141 1 = some (10, 66) ∧ tpl Tryz.prog 141 = some [(0, 10), (10, 5)] ∧ tbytes Tryz.prog 141 = some 200 ∧ tzero Tryz.prog 141 = some [.v (.int .i64 0), .v (.int .i64 0), .v (.int .i64 0), .v (.int .i64 0), .nil, .nil, .v (.int .i64 0), .v (.int .i64 0), .v (.int .i64 0), .nil, .nil, .v (.int .i64 0), .v (.int .i64 0), .nil, .v (.bool false)] ∧ tsz Tryz.prog 142 = some 15 ∧ trow Tryz.prog 142 = some true ∧ tel Tryz.prog 142 = none := by refine ⟨?_, ?_, ?_, ?_, ?_, ?_, ?_, ?_, ?_, ?_, ?_, ?_, ?_, ?_, ?_, ?_, ?_, ?_, ?_, ?_, ?_, ?_, ?_, ?_⟩ <;> kernel_rfl
@[simp] theorem tarr142 : tarr Tryz.prog 142 = none ∧ tifc Tryz.prog 142 = some false ∧ pzero Tryz.prog 142 = some (.agg [.v (.int .i64 0), .v (.int .i64 0), .v (.int .i64 0), .v (.int .i64 0), .nil, .nil, .v (.int .i64 0), .v (.int .i64 0), .v (.int .i64 0), .nil, .nil, .v (.int .i64 0), .v (.int .i64 0), .nil, .v (.bool false)]) ∧ tfld Tryz.prog 142 0 = some (0, 140) ∧ tfld Tryz.prog 142 1 = some (10, 66) ∧ tpl Tryz.prog 142 = some [(0, 10), (10, 5)] ∧ tbytes Tryz.prog 142 = some 200 ∧ tzero Tryz.prog 142 = some [.v (.int .i64 0), .v (.int .i64 0), .v (.int .i64 0), .v (.int .i64 0), .nil, .nil, .v (.int .i64 0), .v (.int .i64 0), .v (.int .i64 0), .nil, .nil, .v (.int .i64 0), .v (.int .i64 0), .nil, .v (.bool false)] ∧ tsz Tryz.prog 143 = some 1 ∧ trow Tryz.prog 143 = some false ∧ tel Tryz.prog 143 = none ∧ tarr Tryz.prog 143 = none ∧ tifc Tryz.prog 143 = some false ∧ pzero Tryz.prog 143 = some (.v (.nilFunc)) ∧ tbytes Tryz.prog 143 = some 8 ∧ tzero Tryz.prog 143 = some [.v (.nilFunc)] ∧ tsz Tryz.prog 145 = some 1 ∧ trow Tryz.prog 145 = some false ∧ tel Tryz.prog 145 = none ∧ tarr Tryz.prog 145 = none ∧ tifc Tryz.prog 145 = some false ∧ pzero Tryz.prog 145 = some (.v (.nilFunc)) ∧ tbytes Tryz.prog 145 = some 8 ∧ tzero Tryz.prog 145 = some [.v (.nilFunc)] := by refine ⟨?_, ?_, ?_, ?_, ?_, ?_, ?_, ?_, ?_, ?_, ?_, ?_, ?_, ?_, ?_, ?_, ?_, ?_, ?_, ?_, ?_, ?_, ?_, ?_⟩ <;> kernel_rfl
@[simp] theorem tsz146 : tsz Tryz.prog 146 = some 1 ∧ trow Tryz.prog 146 = some false ∧ tel Tryz.prog 146 = none ∧ tarr Tryz.prog 146 = none ∧ tifc Tryz.prog 146 = some false ∧ pzero Tryz.prog 146 = some (.v (.nilFunc)) ∧ tbytes Tryz.prog 146 = some 8 ∧ tzero Tryz.prog 146 = some [.v (.nilFunc)] ∧ tsz Tryz.prog 147 = some 1 ∧ trow Tryz.prog 147 = some false ∧ tel Tryz.prog 147 = none ∧ tarr Tryz.prog 147 = none ∧ tifc Tryz.prog 147 = some false ∧ pzero Tryz.prog 147 = some (.v (.nilFunc)) ∧ tbytes Tryz.prog 147 = some 8 ∧ tzero Tryz.prog 147 = some [.v (.nilFunc)] ∧ tsz Tryz.prog 148 = some 1 ∧ trow Tryz.prog 148 = some false ∧ tel Tryz.prog 148 = none ∧ tarr Tryz.prog 148 = none ∧ tifc Tryz.prog 148 = some false ∧ pzero Tryz.prog 148 = some (.v (.nilFunc)) ∧ tbytes Tryz.prog 148 = some 8 ∧ tzero Tryz.prog 148 = some [.v (.nilFunc)] := by refine ⟨?_, ?_, ?_, ?_, ?_, ?_, ?_, ?_, ?_, ?_, ?_, ?_, ?_, ?_, ?_, ?_, ?_, ?_, ?_, ?_, ?_, ?_, ?_, ?_⟩ <;> kernel_rfl
@[simp] theorem tsz149 : tsz Tryz.prog 149 = some 1 ∧ trow Tryz.prog 149 = some false ∧ tel Tryz.prog 149 = none ∧ tarr Tryz.prog 149 = none ∧ tifc Tryz.prog 149 = some false ∧ pzero Tryz.prog 149 = some (.v (.nilFunc)) ∧ tbytes Tryz.prog 149 = some 8 ∧ tzero Tryz.prog 149 = some [.v (.nilFunc)] ∧ tsz Tryz.prog 150 = some 1 ∧ trow Tryz.prog 150 = some false ∧ tel Tryz.prog 150 = none ∧ tarr Tryz.prog 150 = none ∧ tifc Tryz.prog 150 = some false ∧ pzero Tryz.prog 150 = some (.v (.nilFunc)) ∧ tbytes Tryz.prog 150 = some 8 ∧ tzero Tryz.prog 150 = some [.v (.nilFunc)] ∧ tsz Tryz.prog 151 = some 1 ∧ trow Tryz.prog 151 = some false ∧ tel Tryz.prog 151 = none ∧ tarr Tryz.prog 151 = none ∧ tifc Tryz.prog 151 = some false ∧ pzero Tryz.prog 151 = some (.v (.nilFunc)) ∧ tbytes Tryz.prog 151 = some 8 ∧ tzero Tryz.prog 151 = some [.v (.nilFunc)] := by refine ⟨?_, ?_, ?_, ?_, ?_, ?_, ?_, ?_, ?_, ?_, ?_, ?_, ?_, ?_, ?_, ?_, ?_, ?_, ?_, ?_, ?_, ?_, ?_, ?_⟩ <;> kernel_rfl
@[simp] theorem tsz152 : tsz Tryz.prog 152 = some 1 ∧ trow Tryz.prog 152 = some false ∧ tel Tryz.prog 152 = none ∧ tarr Tryz.prog 152 = none ∧ tifc Tryz.prog 152 = some false ∧ pzero Tryz.prog 152 = some (.v (.nilFunc)) ∧ tbytes Tryz.prog 152 = some 8 ∧ tzero Tryz.prog 152 = some [.v (.nilFunc)] ∧ tsz Tryz.prog 154 = some 1 ∧ trow Tryz.prog 154 = some false ∧ tel Tryz.prog 154 = none ∧ tarr Tryz.prog 154 = none ∧ tifc Tryz.prog 154 = some false ∧ pzero Tryz.prog 154 = some (.v (.nilFunc)) ∧ tbytes Tryz.prog 154 = some 8 ∧ tzero Tryz.prog 154 = some [.v (.nilFunc)] ∧ tsz Tryz.prog 155 = some 1 ∧ trow Tryz.prog 155 = some false ∧ tel Tryz.prog 155 = none ∧ tarr Tryz.prog 155 = none ∧ tifc Tryz.prog 155 = some false ∧ pzero Tryz.prog 155 = some (.v (.nilFunc)) ∧ tbytes Tryz.prog 155 = some 8 ∧ tzero Tryz.prog 155 = some [.v (.nilFunc)] := by refine ⟨?_, ?_, ?_, ?_, ?_, ?_, ?_, ?_, ?_, ?_, ?_, ?_, ?_, ?_, ?_, ?_, ?_, ?_, ?_, ?_, ?_, ?_, ?_, ?_⟩ <;> kernel_rfl
@[simp] theorem tsz156 : tsz Tryz.prog 156 = some 1 ∧ trow Tryz.prog 156 = some false ∧ tel Tryz.prog 156 = none ∧ tarr Tryz.prog 156 = none ∧ tifc Tryz.prog 156 = some false ∧ pzero Tryz.prog 156 = some (.v (.nilFunc)) ∧ tbytes Tryz.prog 156 = some 8 ∧ tzero Tryz.prog 156 = some [.v (.nilFunc)] ∧ tsz Tryz.prog 157 = some 1 ∧ trow Tryz.prog 157 = some false ∧ tel Tryz.prog 157 = none ∧ tarr Tryz.prog 157 = none ∧ tmap Tryz.prog 157 = some (3, 3) ∧ tifc Tryz.prog 157 = some false ∧ pzero Tryz.prog 157 = some (.v (.map none)) ∧ tbytes Tryz.prog 157 = some 8 ∧ tzero Tryz.prog 157 = some [.v (.map none)] ∧ tsz Tryz.prog 158 = some 1 ∧ trow Tryz.prog 158 = some false ∧ tel Tryz.prog 158 = none ∧ tarr Tryz.prog 158 = none ∧ tifc Tryz.prog 158 = some false ∧ pzero Tryz.prog 158 = some (.v (.nilFunc)) ∧ tbytes Tryz.prog 158 = some 8 := by refine ⟨?_, ?_, ?_, ?_, ?_, ?_, ?_, ?_, ?_, ?_, ?_, ?_, ?_, ?_, ?_, ?_, ?_, ?_, ?_, ?_, ?_, ?_, ?_, ?_⟩ <;> kernel_rfl
@[simp] theorem tzero158 : tzero Tryz.prog 158 = some [.v (.nilFunc)] ∧ tsz Tryz.prog 159 = some 1 ∧ trow Tryz.prog 159 = some false ∧ tel Tryz.prog 159 = none ∧ tarr Tryz.prog 159 = none ∧ tifc Tryz.prog 159 = some false ∧ pzero Tryz.prog 159 = some (.v (.nilFunc)) ∧ tbytes Tryz.prog 159 = some 8 ∧ tzero Tryz.prog 159 = some [.v (.nilFunc)] ∧ tsz Tryz.prog 160 = some 1 ∧ trow Tryz.prog 160 = some false ∧ tel Tryz.prog 160 = none ∧ tarr Tryz.prog 160 = none ∧ tifc Tryz.prog 160 = some false ∧ pzero Tryz.prog 160 = some (.v (.pointer none)) ∧ tbytes Tryz.prog 160 = some 8 ∧ tzero Tryz.prog 160 = some [.v (.pointer none)] ∧ tsz Tryz.prog 161 = some 2 ∧ trow Tryz.prog 161 = some true ∧ tel Tryz.prog 161 = none ∧ tarr Tryz.prog 161 = none ∧ tifc Tryz.prog 161 = some false ∧ pzero Tryz.prog 161 = some (.agg [.v (.pointer none), .nil]) ∧ tfld Tryz.prog 161 0 = some (0, 160) := by refine ⟨?_, ?_, ?_, ?_, ?_, ?_, ?_, ?_, ?_, ?_, ?_, ?_, ?_, ?_, ?_, ?_, ?_, ?_, ?_, ?_, ?_, ?_, ?_, ?_⟩ <;> kernel_rfl
@[simp] theorem tfld161x1 : tfld Tryz.prog 161 1 = some (1, 109) ∧ tpl Tryz.prog 161 = some [(0, 1), (1, 1)] ∧ tbytes Tryz.prog 161 = some 32 ∧ tzero Tryz.prog 161 = some [.v (.pointer none), .nil] ∧ tsz Tryz.prog 162 = some 2 ∧ trow Tryz.prog 162 = some true ∧ tel Tryz.prog 162 = none ∧ tarr Tryz.prog 162 = none ∧ tifc Tryz.prog 162 = some false ∧ pzero Tryz.prog 162 = some (.agg [.v (.pointer none), .nil]) ∧ tfld Tryz.prog 162 0 = some (0, 160) ∧ tfld Tryz.prog 162 1 = some (1, 109) ∧ tpl Tryz.prog 162 = some [(0, 1), (1, 1)] ∧ tbytes Tryz.prog 162 = some 32 ∧ tzero Tryz.prog 162 = some [.v (.pointer none), .nil] ∧ tsz Tryz.prog 163 = some 3 ∧ trow Tryz.prog 163 = some true ∧ tel Tryz.prog 163 = none ∧ tarr Tryz.prog 163 = none ∧ tifc Tryz.prog 163 = some false ∧ pzero Tryz.prog 163 = some (.agg [.v (.pointer none), .nil, .v (.int .i64 0)]) ∧ tfld Tryz.prog 163 0 = some (0, 162) ∧ tfld Tryz.prog 163 1 = some (2, 3) ∧ tpl Tryz.prog 163 = some [(0, 2), (2, 1)] := by refine ⟨?_, ?_, ?_, ?_, ?_, ?_, ?_, ?_, ?_, ?_, ?_, ?_, ?_, ?_, ?_, ?_, ?_, ?_, ?_, ?_, ?_, ?_, ?_, ?_⟩ <;> kernel_rfl
@[simp] theorem tbytes163 : tbytes Tryz.prog 163 = some 40 ∧ tzero Tryz.prog 163 = some [.v (.pointer none), .nil, .v (.int .i64 0)] ∧ tsz Tryz.prog 164 = some 3 ∧ trow Tryz.prog 164 = some true ∧ tel Tryz.prog 164 = none ∧ tarr Tryz.prog 164 = none ∧ tifc Tryz.prog 164 = some false ∧ pzero Tryz.prog 164 = some (.agg [.v (.pointer none), .nil, .v (.int .i64 0)]) ∧ tfld Tryz.prog 164 0 = some (0, 162) ∧ tfld Tryz.prog 164 1 = some (2, 3) ∧ tpl Tryz.prog 164 = some [(0, 2), (2, 1)] ∧ tbytes Tryz.prog 164 = some 40 ∧ tzero Tryz.prog 164 = some [.v (.pointer none), .nil, .v (.int .i64 0)] ∧ tsz Tryz.prog 165 = some 1 ∧ trow Tryz.prog 165 = some false ∧ tel Tryz.prog 165 = none ∧ tarr Tryz.prog 165 = none ∧ tifc Tryz.prog 165 = some false ∧ pzero Tryz.prog 165 = some (.v (.nilFunc)) ∧ tbytes Tryz.prog 165 = some 8 ∧ tzero Tryz.prog 165 = some [.v (.nilFunc)] ∧ tsz Tryz.prog 166 = some 1 ∧ trow Tryz.prog 166 = some false ∧ tel Tryz.prog 166 = some 9 := by refine ⟨?_, ?_, ?_, ?_, ?_, ?_, ?_, ?_, ?_, ?_, ?_, ?_, ?_, ?_, ?_, ?_, ?_, ?_, ?_, ?_, ?_, ?_, ?_, ?_⟩ <;> kernel_rfl
@[simp] theorem tarr166 : tarr Tryz.prog 166 = none ∧ tifc Tryz.prog 166 = some false ∧ pzero Tryz.prog 166 = some (.nil) ∧ tbytes Tryz.prog 166 = some 24 ∧ tzero Tryz.prog 166 = some [.nil] ∧ tsz Tryz.prog 167 = some 1 ∧ trow Tryz.prog 167 = some false ∧ tel Tryz.prog 167 = none ∧ tarr Tryz.prog 167 = none ∧ tifc Tryz.prog 167 = some false ∧ pzero Tryz.prog 167 = some (.v (.nilFunc)) ∧ tbytes Tryz.prog 167 = some 8 ∧ tzero Tryz.prog 167 = some [.v (.nilFunc)] ∧ tsz Tryz.prog 168 = some 1 ∧ trow Tryz.prog 168 = some false ∧ tel Tryz.prog 168 = none ∧ tarr Tryz.prog 168 = none ∧ tifc Tryz.prog 168 = some false ∧ pzero Tryz.prog 168 = some (.v (.nilFunc)) ∧ tbytes Tryz.prog 168 = some 8 ∧ tzero Tryz.prog 168 = some [.v (.nilFunc)] ∧ tsz Tryz.prog 169 = some 1 ∧ trow Tryz.prog 169 = some true ∧ tel Tryz.prog 169 = none := by refine ⟨?_, ?_, ?_, ?_, ?_, ?_, ?_, ?_, ?_, ?_, ?_, ?_, ?_, ?_, ?_, ?_, ?_, ?_, ?_, ?_, ?_, ?_, ?_, ?_⟩ <;> kernel_rfl
@[simp] theorem tarr169 : tarr Tryz.prog 169 = none ∧ tifc Tryz.prog 169 = some false ∧ pzero Tryz.prog 169 = some (.agg [.v (.string ByteArray.empty)]) ∧ tfld Tryz.prog 169 0 = some (0, 9) ∧ tpl Tryz.prog 169 = some [(0, 1)] ∧ teqf Tryz.prog 169 = some [(0, 2)] ∧ tbytes Tryz.prog 169 = some 16 ∧ tzero Tryz.prog 169 = some [.v (.string ByteArray.empty)] ∧ tsz Tryz.prog 170 = some 1 ∧ trow Tryz.prog 170 = some true ∧ tel Tryz.prog 170 = none ∧ tarr Tryz.prog 170 = none ∧ tifc Tryz.prog 170 = some false ∧ pzero Tryz.prog 170 = some (.agg [.v (.string ByteArray.empty)]) ∧ tfld Tryz.prog 170 0 = some (0, 9) ∧ tpl Tryz.prog 170 = some [(0, 1)] ∧ teqf Tryz.prog 170 = some [(0, 2)] ∧ tbytes Tryz.prog 170 = some 16 ∧ tzero Tryz.prog 170 = some [.v (.string ByteArray.empty)] ∧ tsz Tryz.prog 171 = some 1 ∧ trow Tryz.prog 171 = some false ∧ tel Tryz.prog 171 = none ∧ tarr Tryz.prog 171 = none ∧ tifc Tryz.prog 171 = some false := by refine ⟨?_, ?_, ?_, ?_, ?_, ?_, ?_, ?_, ?_, ?_, ?_, ?_, ?_, ?_, ?_, ?_, ?_, ?_, ?_, ?_, ?_, ?_, ?_, ?_⟩ <;> kernel_rfl
@[simp] theorem pzero171 : pzero Tryz.prog 171 = some (.v (.pointer none)) ∧ tbytes Tryz.prog 171 = some 8 ∧ tzero Tryz.prog 171 = some [.v (.pointer none)] ∧ tsz Tryz.prog 172 = some 2 ∧ trow Tryz.prog 172 = some true ∧ tel Tryz.prog 172 = none ∧ tarr Tryz.prog 172 = none ∧ tifc Tryz.prog 172 = some false ∧ pzero Tryz.prog 172 = some (.agg [.v (.string ByteArray.empty), .v (.int .i64 0)]) ∧ tfld Tryz.prog 172 0 = some (0, 9) ∧ tfld Tryz.prog 172 1 = some (1, 3) ∧ tpl Tryz.prog 172 = some [(0, 1), (1, 1)] ∧ teqf Tryz.prog 172 = some [(0, 2), (1, 0)] ∧ tbytes Tryz.prog 172 = some 24 ∧ tzero Tryz.prog 172 = some [.v (.string ByteArray.empty), .v (.int .i64 0)] ∧ tsz Tryz.prog 173 = some 2 ∧ trow Tryz.prog 173 = some true ∧ tel Tryz.prog 173 = none ∧ tarr Tryz.prog 173 = none ∧ tifc Tryz.prog 173 = some false ∧ pzero Tryz.prog 173 = some (.agg [.v (.string ByteArray.empty), .v (.int .i64 0)]) ∧ tfld Tryz.prog 173 0 = some (0, 9) ∧ tfld Tryz.prog 173 1 = some (1, 3) ∧ tpl Tryz.prog 173 = some [(0, 1), (1, 1)] := by refine ⟨?_, ?_, ?_, ?_, ?_, ?_, ?_, ?_, ?_, ?_, ?_, ?_, ?_, ?_, ?_, ?_, ?_, ?_, ?_, ?_, ?_, ?_, ?_, ?_⟩ <;> kernel_rfl
@[simp] theorem teqf173 : teqf Tryz.prog 173 = some [(0, 2), (1, 0)] ∧ tbytes Tryz.prog 173 = some 24 ∧ tzero Tryz.prog 173 = some [.v (.string ByteArray.empty), .v (.int .i64 0)] ∧ tsz Tryz.prog 174 = some 1 ∧ trow Tryz.prog 174 = some false ∧ tel Tryz.prog 174 = none ∧ tarr Tryz.prog 174 = none ∧ tifc Tryz.prog 174 = some false ∧ pzero Tryz.prog 174 = some (.v (.nilFunc)) ∧ tbytes Tryz.prog 174 = some 8 ∧ tzero Tryz.prog 174 = some [.v (.nilFunc)] ∧ tsz Tryz.prog 176 = some 1 ∧ trow Tryz.prog 176 = some false ∧ tel Tryz.prog 176 = none ∧ tarr Tryz.prog 176 = none ∧ tifc Tryz.prog 176 = some false ∧ pzero Tryz.prog 176 = some (.v (.nilFunc)) ∧ tbytes Tryz.prog 176 = some 8 ∧ tzero Tryz.prog 176 = some [.v (.nilFunc)] ∧ tsz Tryz.prog 177 = some 1 ∧ trow Tryz.prog 177 = some false ∧ tel Tryz.prog 177 = none ∧ tarr Tryz.prog 177 = none ∧ tifc Tryz.prog 177 = some false := by refine ⟨?_, ?_, ?_, ?_, ?_, ?_, ?_, ?_, ?_, ?_, ?_, ?_, ?_, ?_, ?_, ?_, ?_, ?_, ?_, ?_, ?_, ?_, ?_, ?_⟩ <;> kernel_rfl
@[simp] theorem pzero177 : pzero Tryz.prog 177 = some (.v (.nilFunc)) ∧ tbytes Tryz.prog 177 = some 8 ∧ tzero Tryz.prog 177 = some [.v (.nilFunc)] ∧ tsz Tryz.prog 178 = some 1 ∧ trow Tryz.prog 178 = some false ∧ tel Tryz.prog 178 = none ∧ tarr Tryz.prog 178 = none ∧ tifc Tryz.prog 178 = some false ∧ pzero Tryz.prog 178 = some (.v (.nilFunc)) ∧ tbytes Tryz.prog 178 = some 8 ∧ tzero Tryz.prog 178 = some [.v (.nilFunc)] ∧ tsz Tryz.prog 179 = some 1 ∧ trow Tryz.prog 179 = some false ∧ tel Tryz.prog 179 = none ∧ tarr Tryz.prog 179 = none ∧ tifc Tryz.prog 179 = some false ∧ pzero Tryz.prog 179 = some (.v (.nilFunc)) ∧ tbytes Tryz.prog 179 = some 8 ∧ tzero Tryz.prog 179 = some [.v (.nilFunc)] ∧ tsz Tryz.prog 180 = some 1 ∧ trow Tryz.prog 180 = some false ∧ tel Tryz.prog 180 = none ∧ tarr Tryz.prog 180 = none ∧ tifc Tryz.prog 180 = some false := by refine ⟨?_, ?_, ?_, ?_, ?_, ?_, ?_, ?_, ?_, ?_, ?_, ?_, ?_, ?_, ?_, ?_, ?_, ?_, ?_, ?_, ?_, ?_, ?_, ?_⟩ <;> kernel_rfl
@[simp] theorem pzero180 : pzero Tryz.prog 180 = some (.v (.nilFunc)) ∧ tbytes Tryz.prog 180 = some 8 ∧ tzero Tryz.prog 180 = some [.v (.nilFunc)] ∧ tsz Tryz.prog 181 = some 6 ∧ trow Tryz.prog 181 = some true ∧ tel Tryz.prog 181 = none ∧ tarr Tryz.prog 181 = some (6, 180) ∧ tifc Tryz.prog 181 = some false ∧ pzero Tryz.prog 181 = some (.agg [.v (.nilFunc), .v (.nilFunc), .v (.nilFunc), .v (.nilFunc), .v (.nilFunc), .v (.nilFunc)]) ∧ tpl Tryz.prog 181 = none ∧ tbytes Tryz.prog 181 = some 48 ∧ tzero Tryz.prog 181 = some [.v (.nilFunc), .v (.nilFunc), .v (.nilFunc), .v (.nilFunc), .v (.nilFunc), .v (.nilFunc)] ∧ tsz Tryz.prog 182 = some 1 ∧ trow Tryz.prog 182 = some false ∧ tel Tryz.prog 182 = none ∧ tarr Tryz.prog 182 = none ∧ tifc Tryz.prog 182 = some false ∧ pzero Tryz.prog 182 = some (.v (.nilFunc)) ∧ tbytes Tryz.prog 182 = some 8 ∧ tzero Tryz.prog 182 = some [.v (.nilFunc)] ∧ tsz Tryz.prog 183 = some 1 ∧ trow Tryz.prog 183 = some false ∧ tel Tryz.prog 183 = none ∧ tarr Tryz.prog 183 = none := by refine ⟨?_, ?_, ?_, ?_, ?_, ?_, ?_, ?_, ?_, ?_, ?_, ?_, ?_, ?_, ?_, ?_, ?_, ?_, ?_, ?_, ?_, ?_, ?_, ?_⟩ <;> kernel_rfl
@[simp] theorem tifc183 : tifc Tryz.prog 183 = some false ∧ pzero Tryz.prog 183 = some (.v (.nilFunc)) ∧ tbytes Tryz.prog 183 = some 8 ∧ tzero Tryz.prog 183 = some [.v (.nilFunc)] ∧ tsz Tryz.prog 184 = some 1 ∧ trow Tryz.prog 184 = some false ∧ tel Tryz.prog 184 = none ∧ tarr Tryz.prog 184 = none ∧ tifc Tryz.prog 184 = some false ∧ pzero Tryz.prog 184 = some (.v (.nilFunc)) ∧ tbytes Tryz.prog 184 = some 8 ∧ tzero Tryz.prog 184 = some [.v (.nilFunc)] ∧ tsz Tryz.prog 185 = some 1 ∧ trow Tryz.prog 185 = some false ∧ tel Tryz.prog 185 = none ∧ tarr Tryz.prog 185 = none ∧ tifc Tryz.prog 185 = some false ∧ pzero Tryz.prog 185 = some (.v (.nilFunc)) ∧ tbytes Tryz.prog 185 = some 8 ∧ tzero Tryz.prog 185 = some [.v (.nilFunc)] ∧ tsz Tryz.prog 186 = some 1 ∧ trow Tryz.prog 186 = some false ∧ tel Tryz.prog 186 = none ∧ tarr Tryz.prog 186 = none := by refine ⟨?_, ?_, ?_, ?_, ?_, ?_, ?_, ?_, ?_, ?_, ?_, ?_, ?_, ?_, ?_, ?_, ?_, ?_, ?_, ?_, ?_, ?_, ?_, ?_⟩ <;> kernel_rfl
@[simp] theorem tifc186 : tifc Tryz.prog 186 = some false ∧ pzero Tryz.prog 186 = some (.v (.int .i64 0)) ∧ tint Tryz.prog 186 = some .i64 ∧ tbytes Tryz.prog 186 = some 8 ∧ tzero Tryz.prog 186 = some [.v (.int .i64 0)] ∧ tsz Tryz.prog 187 = some 5 ∧ trow Tryz.prog 187 = some true ∧ tel Tryz.prog 187 = none ∧ tarr Tryz.prog 187 = none ∧ tifc Tryz.prog 187 = some false ∧ pzero Tryz.prog 187 = some (.agg [.v (.int .i64 0), .v (.int .i64 0), .v (.int .i64 0), .v (.int .i64 0), .v (.int .i64 0)]) ∧ tfld Tryz.prog 187 0 = some (0, 186) ∧ tfld Tryz.prog 187 1 = some (1, 3) ∧ tfld Tryz.prog 187 2 = some (2, 3) ∧ tfld Tryz.prog 187 3 = some (3, 37) ∧ tpl Tryz.prog 187 = some [(0, 1), (1, 1), (2, 1), (3, 2)] ∧ teqf Tryz.prog 187 = none ∧ teqn Tryz.prog 187 = some [(0, (0, (0, []))), (1, (0, (0, []))), (2, (0, (0, []))), (3, (3, (2, [(0, 0), (1, 0)])))] ∧ tbytes Tryz.prog 187 = some 40 ∧ tzero Tryz.prog 187 = some [.v (.int .i64 0), .v (.int .i64 0), .v (.int .i64 0), .v (.int .i64 0), .v (.int .i64 0)] ∧ tsz Tryz.prog 188 = some 5 ∧ trow Tryz.prog 188 = some true ∧ tel Tryz.prog 188 = none ∧ tarr Tryz.prog 188 = none := by refine ⟨?_, ?_, ?_, ?_, ?_, ?_, ?_, ?_, ?_, ?_, ?_, ?_, ?_, ?_, ?_, ?_, ?_, ?_, ?_, ?_, ?_, ?_, ?_, ?_⟩ <;> kernel_rfl
@[simp] theorem tifc188 : tifc Tryz.prog 188 = some false ∧ pzero Tryz.prog 188 = some (.agg [.v (.int .i64 0), .v (.int .i64 0), .v (.int .i64 0), .v (.int .i64 0), .v (.int .i64 0)]) ∧ tfld Tryz.prog 188 0 = some (0, 186) ∧ tfld Tryz.prog 188 1 = some (1, 3) ∧ tfld Tryz.prog 188 2 = some (2, 3) ∧ tfld Tryz.prog 188 3 = some (3, 37) ∧ tpl Tryz.prog 188 = some [(0, 1), (1, 1), (2, 1), (3, 2)] ∧ teqf Tryz.prog 188 = none ∧ teqn Tryz.prog 188 = some [(0, (0, (0, []))), (1, (0, (0, []))), (2, (0, (0, []))), (3, (3, (2, [(0, 0), (1, 0)])))] ∧ tbytes Tryz.prog 188 = some 40 ∧ tzero Tryz.prog 188 = some [.v (.int .i64 0), .v (.int .i64 0), .v (.int .i64 0), .v (.int .i64 0), .v (.int .i64 0)] ∧ tsz Tryz.prog 189 = some 1 ∧ trow Tryz.prog 189 = some false ∧ tel Tryz.prog 189 = none ∧ tarr Tryz.prog 189 = none ∧ tifc Tryz.prog 189 = some false ∧ pzero Tryz.prog 189 = some (.v (.nilFunc)) ∧ tbytes Tryz.prog 189 = some 8 ∧ tzero Tryz.prog 189 = some [.v (.nilFunc)] ∧ tsz Tryz.prog 190 = some 1 ∧ trow Tryz.prog 190 = some false ∧ tel Tryz.prog 190 = none ∧ tarr Tryz.prog 190 = none ∧ tifc Tryz.prog 190 = some false := by refine ⟨?_, ?_, ?_, ?_, ?_, ?_, ?_, ?_, ?_, ?_, ?_, ?_, ?_, ?_, ?_, ?_, ?_, ?_, ?_, ?_, ?_, ?_, ?_, ?_⟩ <;> kernel_rfl
@[simp] theorem pzero190 : pzero Tryz.prog 190 = some (.v (.nilFunc)) ∧ tbytes Tryz.prog 190 = some 8 ∧ tzero Tryz.prog 190 = some [.v (.nilFunc)] ∧ tsz Tryz.prog 191 = some 5 ∧ trow Tryz.prog 191 = some true ∧ tel Tryz.prog 191 = none ∧ tarr Tryz.prog 191 = none ∧ tifc Tryz.prog 191 = some false ∧ pzero Tryz.prog 191 = some (.agg [.v (.int .i64 0), .v (.int .i64 0), .v (.int .i64 0), .v (.int .i64 0), .v (.int .i64 0)]) ∧ tfld Tryz.prog 191 0 = some (0, 3) ∧ tfld Tryz.prog 191 1 = some (1, 3) ∧ tfld Tryz.prog 191 2 = some (2, 3) ∧ tfld Tryz.prog 191 3 = some (3, 3) ∧ tfld Tryz.prog 191 4 = some (4, 3) ∧ tpl Tryz.prog 191 = some [(0, 1), (1, 1), (2, 1), (3, 1), (4, 1)] ∧ teqf Tryz.prog 191 = some [(0, 0), (1, 0), (2, 0), (3, 0), (4, 0)] ∧ tbytes Tryz.prog 191 = some 40 ∧ tzero Tryz.prog 191 = some [.v (.int .i64 0), .v (.int .i64 0), .v (.int .i64 0), .v (.int .i64 0), .v (.int .i64 0)] ∧ tsz Tryz.prog 192 = some 5 ∧ trow Tryz.prog 192 = some true ∧ tel Tryz.prog 192 = none ∧ tarr Tryz.prog 192 = none ∧ tifc Tryz.prog 192 = some false ∧ pzero Tryz.prog 192 = some (.agg [.v (.int .i64 0), .v (.int .i64 0), .v (.int .i64 0), .v (.int .i64 0), .v (.int .i64 0)]) := by refine ⟨?_, ?_, ?_, ?_, ?_, ?_, ?_, ?_, ?_, ?_, ?_, ?_, ?_, ?_, ?_, ?_, ?_, ?_, ?_, ?_, ?_, ?_, ?_, ?_⟩ <;> kernel_rfl
@[simp] theorem tfld192x0 : tfld Tryz.prog 192 0 = some (0, 3) ∧ tfld Tryz.prog 192 1 = some (1, 3) ∧ tfld Tryz.prog 192 2 = some (2, 3) ∧ tfld Tryz.prog 192 3 = some (3, 3) ∧ tfld Tryz.prog 192 4 = some (4, 3) ∧ tpl Tryz.prog 192 = some [(0, 1), (1, 1), (2, 1), (3, 1), (4, 1)] ∧ teqf Tryz.prog 192 = some [(0, 0), (1, 0), (2, 0), (3, 0), (4, 0)] ∧ tbytes Tryz.prog 192 = some 40 ∧ tzero Tryz.prog 192 = some [.v (.int .i64 0), .v (.int .i64 0), .v (.int .i64 0), .v (.int .i64 0), .v (.int .i64 0)] ∧ tsz Tryz.prog 193 = some 1 ∧ trow Tryz.prog 193 = some false ∧ tel Tryz.prog 193 = none ∧ tarr Tryz.prog 193 = none ∧ tifc Tryz.prog 193 = some false ∧ pzero Tryz.prog 193 = some (.v (.nilFunc)) ∧ tbytes Tryz.prog 193 = some 8 ∧ tzero Tryz.prog 193 = some [.v (.nilFunc)] ∧ tsz Tryz.prog 194 = some 1 ∧ trow Tryz.prog 194 = some false ∧ tel Tryz.prog 194 = none ∧ tarr Tryz.prog 194 = none ∧ tifc Tryz.prog 194 = some false ∧ pzero Tryz.prog 194 = some (.v (.nilFunc)) ∧ tbytes Tryz.prog 194 = some 8 := by refine ⟨?_, ?_, ?_, ?_, ?_, ?_, ?_, ?_, ?_, ?_, ?_, ?_, ?_, ?_, ?_, ?_, ?_, ?_, ?_, ?_, ?_, ?_, ?_, ?_⟩ <;> kernel_rfl
@[simp] theorem tzero194 : tzero Tryz.prog 194 = some [.v (.nilFunc)] ∧ tsz Tryz.prog 195 = some 1 ∧ trow Tryz.prog 195 = some false ∧ tel Tryz.prog 195 = none ∧ tarr Tryz.prog 195 = none ∧ tifc Tryz.prog 195 = some false ∧ pzero Tryz.prog 195 = some (.v (.nilFunc)) ∧ tbytes Tryz.prog 195 = some 8 ∧ tzero Tryz.prog 195 = some [.v (.nilFunc)] ∧ tsz Tryz.prog 196 = some 1 ∧ trow Tryz.prog 196 = some false ∧ tel Tryz.prog 196 = none ∧ tarr Tryz.prog 196 = none ∧ tifc Tryz.prog 196 = some false ∧ pzero Tryz.prog 196 = some (.v (.nilFunc)) ∧ tbytes Tryz.prog 196 = some 8 ∧ tzero Tryz.prog 196 = some [.v (.nilFunc)] ∧ tsz Tryz.prog 197 = some 1 ∧ trow Tryz.prog 197 = some false ∧ tel Tryz.prog 197 = none ∧ tarr Tryz.prog 197 = none ∧ tifc Tryz.prog 197 = some false ∧ pzero Tryz.prog 197 = some (.v (.nilFunc)) ∧ tbytes Tryz.prog 197 = some 8 := by refine ⟨?_, ?_, ?_, ?_, ?_, ?_, ?_, ?_, ?_, ?_, ?_, ?_, ?_, ?_, ?_, ?_, ?_, ?_, ?_, ?_, ?_, ?_, ?_, ?_⟩ <;> kernel_rfl
@[simp] theorem tzero197 : tzero Tryz.prog 197 = some [.v (.nilFunc)] ∧ tsz Tryz.prog 198 = some 1 ∧ trow Tryz.prog 198 = some false ∧ tel Tryz.prog 198 = none ∧ tarr Tryz.prog 198 = none ∧ tifc Tryz.prog 198 = some false ∧ pzero Tryz.prog 198 = some (.v (.nilFunc)) ∧ tbytes Tryz.prog 198 = some 8 ∧ tzero Tryz.prog 198 = some [.v (.nilFunc)] ∧ tsz Tryz.prog 199 = some 1 ∧ trow Tryz.prog 199 = some false ∧ tel Tryz.prog 199 = none ∧ tarr Tryz.prog 199 = none ∧ tifc Tryz.prog 199 = some false ∧ pzero Tryz.prog 199 = some (.v (.nilFunc)) ∧ tbytes Tryz.prog 199 = some 8 ∧ tzero Tryz.prog 199 = some [.v (.nilFunc)] ∧ tsz Tryz.prog 200 = some 1 ∧ trow Tryz.prog 200 = some false ∧ tel Tryz.prog 200 = none ∧ tarr Tryz.prog 200 = none ∧ tifc Tryz.prog 200 = some false ∧ pzero Tryz.prog 200 = some (.v (.pointer none)) ∧ tbytes Tryz.prog 200 = some 8 := by refine ⟨?_, ?_, ?_, ?_, ?_, ?_, ?_, ?_, ?_, ?_, ?_, ?_, ?_, ?_, ?_, ?_, ?_, ?_, ?_, ?_, ?_, ?_, ?_, ?_⟩ <;> kernel_rfl
@[simp] theorem tzero200 : tzero Tryz.prog 200 = some [.v (.pointer none)] ∧ tsz Tryz.prog 201 = some 1 ∧ trow Tryz.prog 201 = some false ∧ tel Tryz.prog 201 = none ∧ tarr Tryz.prog 201 = none ∧ tifc Tryz.prog 201 = some true ∧ pzero Tryz.prog 201 = some (.v (.nilIface)) ∧ tbytes Tryz.prog 201 = some 16 ∧ tzero Tryz.prog 201 = some [.v (.nilIface)] ∧ tsz Tryz.prog 202 = some 1 ∧ trow Tryz.prog 202 = some false ∧ tel Tryz.prog 202 = none ∧ tarr Tryz.prog 202 = none ∧ tifc Tryz.prog 202 = some true ∧ pzero Tryz.prog 202 = some (.v (.nilIface)) ∧ tbytes Tryz.prog 202 = some 16 ∧ tzero Tryz.prog 202 = some [.v (.nilIface)] ∧ tsz Tryz.prog 204 = some 1 ∧ trow Tryz.prog 204 = some false ∧ tel Tryz.prog 204 = none ∧ tarr Tryz.prog 204 = none ∧ tifc Tryz.prog 204 = some false ∧ pzero Tryz.prog 204 = some (.v (.nilFunc)) ∧ tbytes Tryz.prog 204 = some 8 := by refine ⟨?_, ?_, ?_, ?_, ?_, ?_, ?_, ?_, ?_, ?_, ?_, ?_, ?_, ?_, ?_, ?_, ?_, ?_, ?_, ?_, ?_, ?_, ?_, ?_⟩ <;> kernel_rfl
@[simp] theorem tzero204 : tzero Tryz.prog 204 = some [.v (.nilFunc)] ∧ tsz Tryz.prog 205 = some 1 ∧ trow Tryz.prog 205 = some false ∧ tel Tryz.prog 205 = none ∧ tarr Tryz.prog 205 = none ∧ tifc Tryz.prog 205 = some false ∧ pzero Tryz.prog 205 = some (.v (.nilFunc)) ∧ tbytes Tryz.prog 205 = some 8 ∧ tzero Tryz.prog 205 = some [.v (.nilFunc)] ∧ tsz Tryz.prog 206 = some 1 ∧ trow Tryz.prog 206 = some false ∧ tel Tryz.prog 206 = none ∧ tarr Tryz.prog 206 = none ∧ tifc Tryz.prog 206 = some false ∧ pzero Tryz.prog 206 = some (.v (.pointer none)) ∧ tbytes Tryz.prog 206 = some 8 ∧ tzero Tryz.prog 206 = some [.v (.pointer none)] ∧ tsz Tryz.prog 207 = some 1 ∧ trow Tryz.prog 207 = some false ∧ tel Tryz.prog 207 = none ∧ tarr Tryz.prog 207 = none ∧ tifc Tryz.prog 207 = some false ∧ pzero Tryz.prog 207 = some (.v (.nilFunc)) ∧ tbytes Tryz.prog 207 = some 8 := by refine ⟨?_, ?_, ?_, ?_, ?_, ?_, ?_, ?_, ?_, ?_, ?_, ?_, ?_, ?_, ?_, ?_, ?_, ?_, ?_, ?_, ?_, ?_, ?_, ?_⟩ <;> kernel_rfl
@[simp] theorem tzero207 : tzero Tryz.prog 207 = some [.v (.nilFunc)] ∧ tsz Tryz.prog 208 = some 1 ∧ trow Tryz.prog 208 = some false ∧ tel Tryz.prog 208 = none ∧ tarr Tryz.prog 208 = none ∧ tifc Tryz.prog 208 = some false ∧ pzero Tryz.prog 208 = some (.v (.nilFunc)) ∧ tbytes Tryz.prog 208 = some 8 ∧ tzero Tryz.prog 208 = some [.v (.nilFunc)] ∧ tsz Tryz.prog 209 = some 1 ∧ trow Tryz.prog 209 = some false ∧ tel Tryz.prog 209 = none ∧ tarr Tryz.prog 209 = none ∧ tifc Tryz.prog 209 = some false ∧ pzero Tryz.prog 209 = some (.v (.nilFunc)) ∧ tbytes Tryz.prog 209 = some 8 ∧ tzero Tryz.prog 209 = some [.v (.nilFunc)] ∧ tsz Tryz.prog 211 = some 1 ∧ trow Tryz.prog 211 = some false ∧ tel Tryz.prog 211 = none ∧ tarr Tryz.prog 211 = none ∧ tifc Tryz.prog 211 = some false ∧ pzero Tryz.prog 211 = some (.v (.nilFunc)) ∧ tbytes Tryz.prog 211 = some 8 := by refine ⟨?_, ?_, ?_, ?_, ?_, ?_, ?_, ?_, ?_, ?_, ?_, ?_, ?_, ?_, ?_, ?_, ?_, ?_, ?_, ?_, ?_, ?_, ?_, ?_⟩ <;> kernel_rfl
@[simp] theorem tzero211 : tzero Tryz.prog 211 = some [.v (.nilFunc)] ∧ tsz Tryz.prog 212 = some 1 ∧ trow Tryz.prog 212 = some false ∧ tel Tryz.prog 212 = none ∧ tarr Tryz.prog 212 = none ∧ tifc Tryz.prog 212 = some false ∧ pzero Tryz.prog 212 = some (.v (.nilFunc)) ∧ tbytes Tryz.prog 212 = some 8 ∧ tzero Tryz.prog 212 = some [.v (.nilFunc)] ∧ tsz Tryz.prog 213 = some 1 ∧ trow Tryz.prog 213 = some false ∧ tel Tryz.prog 213 = none ∧ tarr Tryz.prog 213 = none ∧ tifc Tryz.prog 213 = some false ∧ pzero Tryz.prog 213 = some (.v (.nilFunc)) ∧ tbytes Tryz.prog 213 = some 8 ∧ tzero Tryz.prog 213 = some [.v (.nilFunc)] ∧ tsz Tryz.prog 214 = some 1 ∧ trow Tryz.prog 214 = some false ∧ tel Tryz.prog 214 = none ∧ tarr Tryz.prog 214 = none ∧ tifc Tryz.prog 214 = some false ∧ pzero Tryz.prog 214 = some (.v (.nilFunc)) ∧ tbytes Tryz.prog 214 = some 8 := by refine ⟨?_, ?_, ?_, ?_, ?_, ?_, ?_, ?_, ?_, ?_, ?_, ?_, ?_, ?_, ?_, ?_, ?_, ?_, ?_, ?_, ?_, ?_, ?_, ?_⟩ <;> kernel_rfl
@[simp] theorem tzero214 : tzero Tryz.prog 214 = some [.v (.nilFunc)] ∧ tsz Tryz.prog 215 = some 1 ∧ trow Tryz.prog 215 = some false ∧ tel Tryz.prog 215 = none ∧ tarr Tryz.prog 215 = none ∧ tifc Tryz.prog 215 = some false ∧ pzero Tryz.prog 215 = some (.v (.nilFunc)) ∧ tbytes Tryz.prog 215 = some 8 ∧ tzero Tryz.prog 215 = some [.v (.nilFunc)] ∧ tsz Tryz.prog 216 = some 1 ∧ trow Tryz.prog 216 = some false ∧ tel Tryz.prog 216 = none ∧ tarr Tryz.prog 216 = none ∧ tifc Tryz.prog 216 = some false ∧ pzero Tryz.prog 216 = some (.v (.nilFunc)) ∧ tbytes Tryz.prog 216 = some 8 ∧ tzero Tryz.prog 216 = some [.v (.nilFunc)] ∧ tsz Tryz.prog 217 = some 1 ∧ trow Tryz.prog 217 = some false ∧ tel Tryz.prog 217 = none ∧ tarr Tryz.prog 217 = none ∧ tifc Tryz.prog 217 = some false ∧ pzero Tryz.prog 217 = some (.v (.nilFunc)) ∧ tbytes Tryz.prog 217 = some 8 := by refine ⟨?_, ?_, ?_, ?_, ?_, ?_, ?_, ?_, ?_, ?_, ?_, ?_, ?_, ?_, ?_, ?_, ?_, ?_, ?_, ?_, ?_, ?_, ?_, ?_⟩ <;> kernel_rfl
@[simp] theorem tzero217 : tzero Tryz.prog 217 = some [.v (.nilFunc)] ∧ tsz Tryz.prog 218 = some 1 ∧ trow Tryz.prog 218 = some false ∧ tel Tryz.prog 218 = none ∧ tarr Tryz.prog 218 = none ∧ tifc Tryz.prog 218 = some false ∧ pzero Tryz.prog 218 = some (.v (.nilFunc)) ∧ tbytes Tryz.prog 218 = some 8 ∧ tzero Tryz.prog 218 = some [.v (.nilFunc)] ∧ tsz Tryz.prog 219 = some 1 ∧ trow Tryz.prog 219 = some false ∧ tel Tryz.prog 219 = none ∧ tarr Tryz.prog 219 = none ∧ tifc Tryz.prog 219 = some false ∧ pzero Tryz.prog 219 = some (.v (.nilFunc)) ∧ tbytes Tryz.prog 219 = some 8 ∧ tzero Tryz.prog 219 = some [.v (.nilFunc)] ∧ tsz Tryz.prog 220 = some 1 ∧ trow Tryz.prog 220 = some false ∧ tel Tryz.prog 220 = none ∧ tarr Tryz.prog 220 = none ∧ tifc Tryz.prog 220 = some false ∧ pzero Tryz.prog 220 = some (.v (.nilFunc)) ∧ tbytes Tryz.prog 220 = some 8 := by refine ⟨?_, ?_, ?_, ?_, ?_, ?_, ?_, ?_, ?_, ?_, ?_, ?_, ?_, ?_, ?_, ?_, ?_, ?_, ?_, ?_, ?_, ?_, ?_, ?_⟩ <;> kernel_rfl
@[simp] theorem tzero220 : tzero Tryz.prog 220 = some [.v (.nilFunc)] ∧ tsz Tryz.prog 222 = some 1 ∧ trow Tryz.prog 222 = some false ∧ tel Tryz.prog 222 = none ∧ tarr Tryz.prog 222 = none ∧ tifc Tryz.prog 222 = some false ∧ pzero Tryz.prog 222 = some (.v (.nilFunc)) ∧ tbytes Tryz.prog 222 = some 8 ∧ tzero Tryz.prog 222 = some [.v (.nilFunc)] ∧ tsz Tryz.prog 223 = some 1 ∧ trow Tryz.prog 223 = some false ∧ tel Tryz.prog 223 = none ∧ tarr Tryz.prog 223 = none ∧ tifc Tryz.prog 223 = some false ∧ pzero Tryz.prog 223 = some (.v (.nilFunc)) ∧ tbytes Tryz.prog 223 = some 8 ∧ tzero Tryz.prog 223 = some [.v (.nilFunc)] ∧ tsz Tryz.prog 224 = some 1 ∧ trow Tryz.prog 224 = some false ∧ tel Tryz.prog 224 = none ∧ tarr Tryz.prog 224 = none ∧ tifc Tryz.prog 224 = some false ∧ pzero Tryz.prog 224 = some (.v (.nilFunc)) ∧ tbytes Tryz.prog 224 = some 8 := by refine ⟨?_, ?_, ?_, ?_, ?_, ?_, ?_, ?_, ?_, ?_, ?_, ?_, ?_, ?_, ?_, ?_, ?_, ?_, ?_, ?_, ?_, ?_, ?_, ?_⟩ <;> kernel_rfl
@[simp] theorem tzero224 : tzero Tryz.prog 224 = some [.v (.nilFunc)] ∧ tsz Tryz.prog 225 = some 1 ∧ trow Tryz.prog 225 = some false ∧ tel Tryz.prog 225 = none ∧ tarr Tryz.prog 225 = none ∧ tifc Tryz.prog 225 = some false ∧ pzero Tryz.prog 225 = some (.v (.nilFunc)) ∧ tbytes Tryz.prog 225 = some 8 ∧ tzero Tryz.prog 225 = some [.v (.nilFunc)] ∧ tsz Tryz.prog 227 = some 1 ∧ trow Tryz.prog 227 = some false ∧ tel Tryz.prog 227 = none ∧ tarr Tryz.prog 227 = none ∧ tifc Tryz.prog 227 = some false ∧ pzero Tryz.prog 227 = some (.v (.nilFunc)) ∧ tbytes Tryz.prog 227 = some 8 ∧ tzero Tryz.prog 227 = some [.v (.nilFunc)] ∧ tsz Tryz.prog 228 = some 1 ∧ trow Tryz.prog 228 = some false ∧ tel Tryz.prog 228 = none ∧ tarr Tryz.prog 228 = none ∧ tifc Tryz.prog 228 = some false ∧ pzero Tryz.prog 228 = some (.v (.nilFunc)) ∧ tbytes Tryz.prog 228 = some 8 := by refine ⟨?_, ?_, ?_, ?_, ?_, ?_, ?_, ?_, ?_, ?_, ?_, ?_, ?_, ?_, ?_, ?_, ?_, ?_, ?_, ?_, ?_, ?_, ?_, ?_⟩ <;> kernel_rfl
@[simp] theorem tzero228 : tzero Tryz.prog 228 = some [.v (.nilFunc)] ∧ tsz Tryz.prog 229 = some 1 ∧ trow Tryz.prog 229 = some false ∧ tel Tryz.prog 229 = none ∧ tarr Tryz.prog 229 = none ∧ tifc Tryz.prog 229 = some false ∧ pzero Tryz.prog 229 = some (.v (.nilFunc)) ∧ tbytes Tryz.prog 229 = some 8 ∧ tzero Tryz.prog 229 = some [.v (.nilFunc)] ∧ tsz Tryz.prog 230 = some 1 ∧ trow Tryz.prog 230 = some false ∧ tel Tryz.prog 230 = none ∧ tarr Tryz.prog 230 = none ∧ tifc Tryz.prog 230 = some false ∧ pzero Tryz.prog 230 = some (.v (.nilFunc)) ∧ tbytes Tryz.prog 230 = some 8 ∧ tzero Tryz.prog 230 = some [.v (.nilFunc)] ∧ tsz Tryz.prog 231 = some 1 ∧ trow Tryz.prog 231 = some false ∧ tel Tryz.prog 231 = none ∧ tarr Tryz.prog 231 = none ∧ tifc Tryz.prog 231 = some false ∧ pzero Tryz.prog 231 = some (.v (.nilFunc)) ∧ tbytes Tryz.prog 231 = some 8 := by refine ⟨?_, ?_, ?_, ?_, ?_, ?_, ?_, ?_, ?_, ?_, ?_, ?_, ?_, ?_, ?_, ?_, ?_, ?_, ?_, ?_, ?_, ?_, ?_, ?_⟩ <;> kernel_rfl
@[simp] theorem tzero231 : tzero Tryz.prog 231 = some [.v (.nilFunc)] ∧ tsz Tryz.prog 232 = some 24 ∧ trow Tryz.prog 232 = some true ∧ tel Tryz.prog 232 = none ∧ tarr Tryz.prog 232 = some (24, 5) ∧ tifc Tryz.prog 232 = some false ∧ pzero Tryz.prog 232 = some (.agg [.v (.int .u8 0), .v (.int .u8 0), .v (.int .u8 0), .v (.int .u8 0), .v (.int .u8 0), .v (.int .u8 0), .v (.int .u8 0), .v (.int .u8 0), .v (.int .u8 0), .v (.int .u8 0), .v (.int .u8 0), .v (.int .u8 0), .v (.int .u8 0), .v (.int .u8 0), .v (.int .u8 0), .v (.int .u8 0), .v (.int .u8 0), .v (.int .u8 0), .v (.int .u8 0), .v (.int .u8 0), .v (.int .u8 0), .v (.int .u8 0), .v (.int .u8 0), .v (.int .u8 0)]) ∧ tpl Tryz.prog 232 = none ∧ tbytes Tryz.prog 232 = some 24 ∧ tzero Tryz.prog 232 = some [.v (.int .u8 0), .v (.int .u8 0), .v (.int .u8 0), .v (.int .u8 0), .v (.int .u8 0), .v (.int .u8 0), .v (.int .u8 0), .v (.int .u8 0), .v (.int .u8 0), .v (.int .u8 0), .v (.int .u8 0), .v (.int .u8 0), .v (.int .u8 0), .v (.int .u8 0), .v (.int .u8 0), .v (.int .u8 0), .v (.int .u8 0), .v (.int .u8 0), .v (.int .u8 0), .v (.int .u8 0), .v (.int .u8 0), .v (.int .u8 0), .v (.int .u8 0), .v (.int .u8 0)] ∧ tsz Tryz.prog 233 = some 1 ∧ trow Tryz.prog 233 = some false ∧ tel Tryz.prog 233 = none ∧ tarr Tryz.prog 233 = none ∧ tifc Tryz.prog 233 = some false ∧ pzero Tryz.prog 233 = some (.v (.int .u64 0)) ∧ tint Tryz.prog 233 = some .u64 ∧ tbytes Tryz.prog 233 = some 8 ∧ tzero Tryz.prog 233 = some [.v (.int .u64 0)] ∧ tsz Tryz.prog 234 = some 1 ∧ trow Tryz.prog 234 = some false ∧ tel Tryz.prog 234 = none ∧ tarr Tryz.prog 234 = none ∧ tifc Tryz.prog 234 = some false := by refine ⟨?_, ?_, ?_, ?_, ?_, ?_, ?_, ?_, ?_, ?_, ?_, ?_, ?_, ?_, ?_, ?_, ?_, ?_, ?_, ?_, ?_, ?_, ?_, ?_⟩ <;> kernel_rfl
@[simp] theorem pzero234 : pzero Tryz.prog 234 = some (.v (.nilFunc)) ∧ tbytes Tryz.prog 234 = some 8 ∧ tzero Tryz.prog 234 = some [.v (.nilFunc)] ∧ tsz Tryz.prog 235 = some 1 ∧ trow Tryz.prog 235 = some false ∧ tel Tryz.prog 235 = none ∧ tarr Tryz.prog 235 = none ∧ tifc Tryz.prog 235 = some false ∧ pzero Tryz.prog 235 = some (.v (.nilFunc)) ∧ tbytes Tryz.prog 235 = some 8 ∧ tzero Tryz.prog 235 = some [.v (.nilFunc)] ∧ tsz Tryz.prog 237 = some 1 ∧ trow Tryz.prog 237 = some false ∧ tel Tryz.prog 237 = none ∧ tarr Tryz.prog 237 = none ∧ tifc Tryz.prog 237 = some false ∧ pzero Tryz.prog 237 = some (.v (.nilFunc)) ∧ tbytes Tryz.prog 237 = some 8 ∧ tzero Tryz.prog 237 = some [.v (.nilFunc)] ∧ tsz Tryz.prog 238 = some 1 ∧ trow Tryz.prog 238 = some false ∧ tel Tryz.prog 238 = none ∧ tarr Tryz.prog 238 = none ∧ tifc Tryz.prog 238 = some false := by refine ⟨?_, ?_, ?_, ?_, ?_, ?_, ?_, ?_, ?_, ?_, ?_, ?_, ?_, ?_, ?_, ?_, ?_, ?_, ?_, ?_, ?_, ?_, ?_, ?_⟩ <;> kernel_rfl
@[simp] theorem pzero238 : pzero Tryz.prog 238 = some (.v (.nilFunc)) ∧ tbytes Tryz.prog 238 = some 8 ∧ tzero Tryz.prog 238 = some [.v (.nilFunc)] ∧ tsz Tryz.prog 239 = some 1 ∧ trow Tryz.prog 239 = some false ∧ tel Tryz.prog 239 = none ∧ tarr Tryz.prog 239 = none ∧ tifc Tryz.prog 239 = some false ∧ pzero Tryz.prog 239 = some (.v (.nilFunc)) ∧ tbytes Tryz.prog 239 = some 8 ∧ tzero Tryz.prog 239 = some [.v (.nilFunc)] ∧ tsz Tryz.prog 240 = some 1 ∧ trow Tryz.prog 240 = some false ∧ tel Tryz.prog 240 = none ∧ tarr Tryz.prog 240 = none ∧ tifc Tryz.prog 240 = some false ∧ pzero Tryz.prog 240 = some (.v (.int .i64 0)) ∧ tint Tryz.prog 240 = some .i64 ∧ tbytes Tryz.prog 240 = some 8 ∧ tzero Tryz.prog 240 = some [.v (.int .i64 0)] ∧ tsz Tryz.prog 242 = some 1 ∧ trow Tryz.prog 242 = some false ∧ tel Tryz.prog 242 = none ∧ tarr Tryz.prog 242 = none := by refine ⟨?_, ?_, ?_, ?_, ?_, ?_, ?_, ?_, ?_, ?_, ?_, ?_, ?_, ?_, ?_, ?_, ?_, ?_, ?_, ?_, ?_, ?_, ?_, ?_⟩ <;> kernel_rfl
@[simp] theorem tifc242 : tifc Tryz.prog 242 = some false ∧ pzero Tryz.prog 242 = some (.v (.nilFunc)) ∧ tbytes Tryz.prog 242 = some 8 ∧ tzero Tryz.prog 242 = some [.v (.nilFunc)] ∧ tsz Tryz.prog 243 = some 1 ∧ trow Tryz.prog 243 = some false ∧ tel Tryz.prog 243 = none ∧ tarr Tryz.prog 243 = none ∧ tifc Tryz.prog 243 = some false ∧ pzero Tryz.prog 243 = some (.v (.pointer none)) ∧ tbytes Tryz.prog 243 = some 8 ∧ tzero Tryz.prog 243 = some [.v (.pointer none)] ∧ tsz Tryz.prog 244 = some 1 ∧ trow Tryz.prog 244 = some false ∧ tel Tryz.prog 244 = none ∧ tarr Tryz.prog 244 = none ∧ tifc Tryz.prog 244 = some false ∧ pzero Tryz.prog 244 = some (.v (.nilFunc)) ∧ tbytes Tryz.prog 244 = some 8 ∧ tzero Tryz.prog 244 = some [.v (.nilFunc)] ∧ tsz Tryz.prog 245 = some 1 ∧ trow Tryz.prog 245 = some false ∧ tel Tryz.prog 245 = none ∧ tarr Tryz.prog 245 = none := by refine ⟨?_, ?_, ?_, ?_, ?_, ?_, ?_, ?_, ?_, ?_, ?_, ?_, ?_, ?_, ?_, ?_, ?_, ?_, ?_, ?_, ?_, ?_, ?_, ?_⟩ <;> kernel_rfl
@[simp] theorem tifc245 : tifc Tryz.prog 245 = some false ∧ pzero Tryz.prog 245 = some (.v (.nilFunc)) ∧ tbytes Tryz.prog 245 = some 8 ∧ tzero Tryz.prog 245 = some [.v (.nilFunc)] ∧ tsz Tryz.prog 246 = some 1 ∧ trow Tryz.prog 246 = some false ∧ tel Tryz.prog 246 = none ∧ tarr Tryz.prog 246 = none ∧ tifc Tryz.prog 246 = some false ∧ pzero Tryz.prog 246 = some (.v (.nilFunc)) ∧ tbytes Tryz.prog 246 = some 8 ∧ tzero Tryz.prog 246 = some [.v (.nilFunc)] ∧ tsz Tryz.prog 247 = some 20 ∧ trow Tryz.prog 247 = some true ∧ tel Tryz.prog 247 = none ∧ tarr Tryz.prog 247 = some (20, 233) ∧ tifc Tryz.prog 247 = some false ∧ pzero Tryz.prog 247 = some (.agg [.v (.int .u64 0), .v (.int .u64 0), .v (.int .u64 0), .v (.int .u64 0), .v (.int .u64 0), .v (.int .u64 0), .v (.int .u64 0), .v (.int .u64 0), .v (.int .u64 0), .v (.int .u64 0), .v (.int .u64 0), .v (.int .u64 0), .v (.int .u64 0), .v (.int .u64 0), .v (.int .u64 0), .v (.int .u64 0), .v (.int .u64 0), .v (.int .u64 0), .v (.int .u64 0), .v (.int .u64 0)]) ∧ tpl Tryz.prog 247 = none ∧ tbytes Tryz.prog 247 = some 160 ∧ tzero Tryz.prog 247 = some [.v (.int .u64 0), .v (.int .u64 0), .v (.int .u64 0), .v (.int .u64 0), .v (.int .u64 0), .v (.int .u64 0), .v (.int .u64 0), .v (.int .u64 0), .v (.int .u64 0), .v (.int .u64 0), .v (.int .u64 0), .v (.int .u64 0), .v (.int .u64 0), .v (.int .u64 0), .v (.int .u64 0), .v (.int .u64 0), .v (.int .u64 0), .v (.int .u64 0), .v (.int .u64 0), .v (.int .u64 0)] ∧ tsz Tryz.prog 248 = some 1 ∧ trow Tryz.prog 248 = some false ∧ tel Tryz.prog 248 = none := by refine ⟨?_, ?_, ?_, ?_, ?_, ?_, ?_, ?_, ?_, ?_, ?_, ?_, ?_, ?_, ?_, ?_, ?_, ?_, ?_, ?_, ?_, ?_, ?_, ?_⟩ <;> kernel_rfl
@[simp] theorem tarr248 : tarr Tryz.prog 248 = none ∧ tifc Tryz.prog 248 = some false ∧ pzero Tryz.prog 248 = some (.v (.int .u32 0)) ∧ tint Tryz.prog 248 = some .u32 ∧ tbytes Tryz.prog 248 = some 4 ∧ tzero Tryz.prog 248 = some [.v (.int .u32 0)] ∧ tsz Tryz.prog 249 = some 65 ∧ trow Tryz.prog 249 = some true ∧ tel Tryz.prog 249 = none ∧ tarr Tryz.prog 249 = some (65, 5) ∧ tifc Tryz.prog 249 = some false ∧ tpl Tryz.prog 249 = none ∧ tbytes Tryz.prog 249 = some 65 ∧ tsz Tryz.prog 250 = some 1 ∧ trow Tryz.prog 250 = some false ∧ tel Tryz.prog 250 = none ∧ tarr Tryz.prog 250 = none ∧ tifc Tryz.prog 250 = some false ∧ pzero Tryz.prog 250 = some (.v (.int .u64 0)) ∧ tint Tryz.prog 250 = some .u64 ∧ tbytes Tryz.prog 250 = some 8 ∧ tzero Tryz.prog 250 = some [.v (.int .u64 0)] ∧ tsz Tryz.prog 251 = some 1 ∧ trow Tryz.prog 251 = some false := by refine ⟨?_, ?_, ?_, ?_, ?_, ?_, ?_, ?_, ?_, ?_, ?_, ?_, ?_, ?_, ?_, ?_, ?_, ?_, ?_, ?_, ?_, ?_, ?_, ?_⟩ <;> kernel_rfl
@[simp] theorem tel251 : tel Tryz.prog 251 = none ∧ tarr Tryz.prog 251 = none ∧ tifc Tryz.prog 251 = some false ∧ pzero Tryz.prog 251 = some (.v (.nilFunc)) ∧ tbytes Tryz.prog 251 = some 8 ∧ tzero Tryz.prog 251 = some [.v (.nilFunc)] ∧ tsz Tryz.prog 252 = some 1 ∧ trow Tryz.prog 252 = some false ∧ tel Tryz.prog 252 = none ∧ tarr Tryz.prog 252 = none ∧ tifc Tryz.prog 252 = some false ∧ pzero Tryz.prog 252 = some (.v (.nilFunc)) ∧ tbytes Tryz.prog 252 = some 8 ∧ tzero Tryz.prog 252 = some [.v (.nilFunc)] ∧ tsz Tryz.prog 254 = some 1 ∧ trow Tryz.prog 254 = some false ∧ tel Tryz.prog 254 = none ∧ tarr Tryz.prog 254 = none ∧ tifc Tryz.prog 254 = some false ∧ pzero Tryz.prog 254 = some (.v (.nilFunc)) ∧ tbytes Tryz.prog 254 = some 8 ∧ tzero Tryz.prog 254 = some [.v (.nilFunc)] ∧ tsz Tryz.prog 256 = some 1 ∧ trow Tryz.prog 256 = some false := by refine ⟨?_, ?_, ?_, ?_, ?_, ?_, ?_, ?_, ?_, ?_, ?_, ?_, ?_, ?_, ?_, ?_, ?_, ?_, ?_, ?_, ?_, ?_, ?_, ?_⟩ <;> kernel_rfl
@[simp] theorem tel256 : tel Tryz.prog 256 = none ∧ tarr Tryz.prog 256 = none ∧ tifc Tryz.prog 256 = some false ∧ pzero Tryz.prog 256 = some (.v (.nilFunc)) ∧ tbytes Tryz.prog 256 = some 8 ∧ tzero Tryz.prog 256 = some [.v (.nilFunc)] ∧ tsz Tryz.prog 257 = some 1 ∧ trow Tryz.prog 257 = some false ∧ tel Tryz.prog 257 = none ∧ tarr Tryz.prog 257 = none ∧ tifc Tryz.prog 257 = some false ∧ pzero Tryz.prog 257 = some (.v (.nilFunc)) ∧ tbytes Tryz.prog 257 = some 8 ∧ tzero Tryz.prog 257 = some [.v (.nilFunc)] ∧ tsz Tryz.prog 258 = some 3 ∧ trow Tryz.prog 258 = some true ∧ tel Tryz.prog 258 = none ∧ tarr Tryz.prog 258 = none ∧ tifc Tryz.prog 258 = some false ∧ pzero Tryz.prog 258 = some (.agg [.v (.string ByteArray.empty), .v (.string ByteArray.empty), .v (.nilIface)]) ∧ tfld Tryz.prog 258 0 = some (0, 9) ∧ tfld Tryz.prog 258 1 = some (1, 9) ∧ tfld Tryz.prog 258 2 = some (2, 202) ∧ tpl Tryz.prog 258 = some [(0, 1), (1, 1), (2, 1)] := by refine ⟨?_, ?_, ?_, ?_, ?_, ?_, ?_, ?_, ?_, ?_, ?_, ?_, ?_, ?_, ?_, ?_, ?_, ?_, ?_, ?_, ?_, ?_, ?_, ?_⟩ <;> kernel_rfl
@[simp] theorem tbytes258 : tbytes Tryz.prog 258 = some 48 ∧ tzero Tryz.prog 258 = some [.v (.string ByteArray.empty), .v (.string ByteArray.empty), .v (.nilIface)] ∧ tsz Tryz.prog 259 = some 3 ∧ trow Tryz.prog 259 = some true ∧ tel Tryz.prog 259 = none ∧ tarr Tryz.prog 259 = none ∧ tifc Tryz.prog 259 = some false ∧ pzero Tryz.prog 259 = some (.agg [.v (.string ByteArray.empty), .v (.string ByteArray.empty), .v (.nilIface)]) ∧ tfld Tryz.prog 259 0 = some (0, 9) ∧ tfld Tryz.prog 259 1 = some (1, 9) ∧ tfld Tryz.prog 259 2 = some (2, 202) ∧ tpl Tryz.prog 259 = some [(0, 1), (1, 1), (2, 1)] ∧ tbytes Tryz.prog 259 = some 48 ∧ tzero Tryz.prog 259 = some [.v (.string ByteArray.empty), .v (.string ByteArray.empty), .v (.nilIface)] ∧ tsz Tryz.prog 260 = some 1 ∧ trow Tryz.prog 260 = some false ∧ tel Tryz.prog 260 = none ∧ tarr Tryz.prog 260 = none ∧ tifc Tryz.prog 260 = some false ∧ pzero Tryz.prog 260 = some (.v (.nilFunc)) ∧ tbytes Tryz.prog 260 = some 8 ∧ tzero Tryz.prog 260 = some [.v (.nilFunc)] ∧ tsz Tryz.prog 261 = some 1 ∧ trow Tryz.prog 261 = some false := by refine ⟨?_, ?_, ?_, ?_, ?_, ?_, ?_, ?_, ?_, ?_, ?_, ?_, ?_, ?_, ?_, ?_, ?_, ?_, ?_, ?_, ?_, ?_, ?_, ?_⟩ <;> kernel_rfl
@[simp] theorem tel261 : tel Tryz.prog 261 = none ∧ tarr Tryz.prog 261 = none ∧ tifc Tryz.prog 261 = some false ∧ pzero Tryz.prog 261 = some (.v (.nilFunc)) ∧ tbytes Tryz.prog 261 = some 8 ∧ tzero Tryz.prog 261 = some [.v (.nilFunc)] ∧ tsz Tryz.prog 263 = some 1 ∧ trow Tryz.prog 263 = some false ∧ tel Tryz.prog 263 = none ∧ tarr Tryz.prog 263 = none ∧ tifc Tryz.prog 263 = some false ∧ pzero Tryz.prog 263 = some (.v (.nilFunc)) ∧ tbytes Tryz.prog 263 = some 8 ∧ tzero Tryz.prog 263 = some [.v (.nilFunc)] ∧ tsz Tryz.prog 264 = some 1 ∧ trow Tryz.prog 264 = some false ∧ tel Tryz.prog 264 = none ∧ tarr Tryz.prog 264 = none ∧ tifc Tryz.prog 264 = some false ∧ pzero Tryz.prog 264 = some (.v (.nilFunc)) ∧ tbytes Tryz.prog 264 = some 8 ∧ tzero Tryz.prog 264 = some [.v (.nilFunc)] ∧ tsz Tryz.prog 265 = some 1 ∧ trow Tryz.prog 265 = some false := by refine ⟨?_, ?_, ?_, ?_, ?_, ?_, ?_, ?_, ?_, ?_, ?_, ?_, ?_, ?_, ?_, ?_, ?_, ?_, ?_, ?_, ?_, ?_, ?_, ?_⟩ <;> kernel_rfl
@[simp] theorem tel265 : tel Tryz.prog 265 = none ∧ tarr Tryz.prog 265 = none ∧ tifc Tryz.prog 265 = some false ∧ pzero Tryz.prog 265 = some (.v (.pointer none)) ∧ tbytes Tryz.prog 265 = some 8 ∧ tzero Tryz.prog 265 = some [.v (.pointer none)] ∧ tsz Tryz.prog 266 = some 1 ∧ trow Tryz.prog 266 = some true ∧ tel Tryz.prog 266 = none ∧ tarr Tryz.prog 266 = none ∧ tifc Tryz.prog 266 = some false ∧ pzero Tryz.prog 266 = some (.agg [.v (.string ByteArray.empty)]) ∧ tfld Tryz.prog 266 0 = some (0, 9) ∧ tpl Tryz.prog 266 = some [(0, 1)] ∧ teqf Tryz.prog 266 = some [(0, 2)] ∧ tbytes Tryz.prog 266 = some 16 ∧ tzero Tryz.prog 266 = some [.v (.string ByteArray.empty)] ∧ tsz Tryz.prog 267 = some 1 ∧ trow Tryz.prog 267 = some true ∧ tel Tryz.prog 267 = none ∧ tarr Tryz.prog 267 = none ∧ tifc Tryz.prog 267 = some false ∧ pzero Tryz.prog 267 = some (.agg [.v (.string ByteArray.empty)]) ∧ tfld Tryz.prog 267 0 = some (0, 9) := by refine ⟨?_, ?_, ?_, ?_, ?_, ?_, ?_, ?_, ?_, ?_, ?_, ?_, ?_, ?_, ?_, ?_, ?_, ?_, ?_, ?_, ?_, ?_, ?_, ?_⟩ <;> kernel_rfl
@[simp] theorem tpl267 : tpl Tryz.prog 267 = some [(0, 1)] ∧ teqf Tryz.prog 267 = some [(0, 2)] ∧ tbytes Tryz.prog 267 = some 16 ∧ tzero Tryz.prog 267 = some [.v (.string ByteArray.empty)] ∧ tsz Tryz.prog 268 = some 32 ∧ trow Tryz.prog 268 = some true ∧ tel Tryz.prog 268 = none ∧ tarr Tryz.prog 268 = some (32, 5) ∧ tifc Tryz.prog 268 = some false ∧ pzero Tryz.prog 268 = some (.agg [.v (.int .u8 0), .v (.int .u8 0), .v (.int .u8 0), .v (.int .u8 0), .v (.int .u8 0), .v (.int .u8 0), .v (.int .u8 0), .v (.int .u8 0), .v (.int .u8 0), .v (.int .u8 0), .v (.int .u8 0), .v (.int .u8 0), .v (.int .u8 0), .v (.int .u8 0), .v (.int .u8 0), .v (.int .u8 0), .v (.int .u8 0), .v (.int .u8 0), .v (.int .u8 0), .v (.int .u8 0), .v (.int .u8 0), .v (.int .u8 0), .v (.int .u8 0), .v (.int .u8 0), .v (.int .u8 0), .v (.int .u8 0), .v (.int .u8 0), .v (.int .u8 0), .v (.int .u8 0), .v (.int .u8 0), .v (.int .u8 0), .v (.int .u8 0)]) ∧ tpl Tryz.prog 268 = none ∧ tbytes Tryz.prog 268 = some 32 ∧ tzero Tryz.prog 268 = some [.v (.int .u8 0), .v (.int .u8 0), .v (.int .u8 0), .v (.int .u8 0), .v (.int .u8 0), .v (.int .u8 0), .v (.int .u8 0), .v (.int .u8 0), .v (.int .u8 0), .v (.int .u8 0), .v (.int .u8 0), .v (.int .u8 0), .v (.int .u8 0), .v (.int .u8 0), .v (.int .u8 0), .v (.int .u8 0), .v (.int .u8 0), .v (.int .u8 0), .v (.int .u8 0), .v (.int .u8 0), .v (.int .u8 0), .v (.int .u8 0), .v (.int .u8 0), .v (.int .u8 0), .v (.int .u8 0), .v (.int .u8 0), .v (.int .u8 0), .v (.int .u8 0), .v (.int .u8 0), .v (.int .u8 0), .v (.int .u8 0), .v (.int .u8 0)] ∧ tsz Tryz.prog 269 = some 64 ∧ trow Tryz.prog 269 = some true ∧ tel Tryz.prog 269 = none ∧ tarr Tryz.prog 269 = some (64, 5) ∧ tifc Tryz.prog 269 = some false ∧ tpl Tryz.prog 269 = none ∧ tbytes Tryz.prog 269 = some 64 ∧ tsz Tryz.prog 270 = some 256 ∧ trow Tryz.prog 270 = some true ∧ tel Tryz.prog 270 = none ∧ tarr Tryz.prog 270 = some (256, 5) := by refine ⟨?_, ?_, ?_, ?_, ?_, ?_, ?_, ?_, ?_, ?_, ?_, ?_, ?_, ?_, ?_, ?_, ?_, ?_, ?_, ?_, ?_, ?_, ?_, ?_⟩ <;> kernel_rfl
@[simp] theorem tifc270 : tifc Tryz.prog 270 = some false ∧ tpl Tryz.prog 270 = none ∧ tbytes Tryz.prog 270 = some 256 ∧ tsz Tryz.prog 271 = some 2 ∧ trow Tryz.prog 271 = some true ∧ tel Tryz.prog 271 = none ∧ tarr Tryz.prog 271 = none ∧ tifc Tryz.prog 271 = some false ∧ pzero Tryz.prog 271 = some (.agg [.v (.int .u8 0), .v (.int .u8 0)]) ∧ tfld Tryz.prog 271 0 = some (0, 5) ∧ tfld Tryz.prog 271 1 = some (1, 5) ∧ tpl Tryz.prog 271 = some [(0, 1), (1, 1)] ∧ teqf Tryz.prog 271 = some [(0, 0), (1, 0)] ∧ tbytes Tryz.prog 271 = some 2 ∧ tzero Tryz.prog 271 = some [.v (.int .u8 0), .v (.int .u8 0)] ∧ tsz Tryz.prog 272 = some 2 ∧ trow Tryz.prog 272 = some true ∧ tel Tryz.prog 272 = none ∧ tarr Tryz.prog 272 = none ∧ tifc Tryz.prog 272 = some false ∧ pzero Tryz.prog 272 = some (.agg [.v (.int .u8 0), .v (.int .u8 0)]) ∧ tfld Tryz.prog 272 0 = some (0, 5) ∧ tfld Tryz.prog 272 1 = some (1, 5) ∧ tpl Tryz.prog 272 = some [(0, 1), (1, 1)] := by refine ⟨?_, ?_, ?_, ?_, ?_, ?_, ?_, ?_, ?_, ?_, ?_, ?_, ?_, ?_, ?_, ?_, ?_, ?_, ?_, ?_, ?_, ?_, ?_, ?_⟩ <;> kernel_rfl
@[simp] theorem teqf272 : teqf Tryz.prog 272 = some [(0, 0), (1, 0)] ∧ tbytes Tryz.prog 272 = some 2 ∧ tzero Tryz.prog 272 = some [.v (.int .u8 0), .v (.int .u8 0)] ∧ tsz Tryz.prog 273 = some 32 ∧ trow Tryz.prog 273 = some true ∧ tel Tryz.prog 273 = none ∧ tarr Tryz.prog 273 = some (16, 272) ∧ tifc Tryz.prog 273 = some false ∧ pzero Tryz.prog 273 = some (.agg [.v (.int .u8 0), .v (.int .u8 0), .v (.int .u8 0), .v (.int .u8 0), .v (.int .u8 0), .v (.int .u8 0), .v (.int .u8 0), .v (.int .u8 0), .v (.int .u8 0), .v (.int .u8 0), .v (.int .u8 0), .v (.int .u8 0), .v (.int .u8 0), .v (.int .u8 0), .v (.int .u8 0), .v (.int .u8 0), .v (.int .u8 0), .v (.int .u8 0), .v (.int .u8 0), .v (.int .u8 0), .v (.int .u8 0), .v (.int .u8 0), .v (.int .u8 0), .v (.int .u8 0), .v (.int .u8 0), .v (.int .u8 0), .v (.int .u8 0), .v (.int .u8 0), .v (.int .u8 0), .v (.int .u8 0), .v (.int .u8 0), .v (.int .u8 0)]) ∧ tpl Tryz.prog 273 = none ∧ tbytes Tryz.prog 273 = some 32 ∧ tzero Tryz.prog 273 = some [.v (.int .u8 0), .v (.int .u8 0), .v (.int .u8 0), .v (.int .u8 0), .v (.int .u8 0), .v (.int .u8 0), .v (.int .u8 0), .v (.int .u8 0), .v (.int .u8 0), .v (.int .u8 0), .v (.int .u8 0), .v (.int .u8 0), .v (.int .u8 0), .v (.int .u8 0), .v (.int .u8 0), .v (.int .u8 0), .v (.int .u8 0), .v (.int .u8 0), .v (.int .u8 0), .v (.int .u8 0), .v (.int .u8 0), .v (.int .u8 0), .v (.int .u8 0), .v (.int .u8 0), .v (.int .u8 0), .v (.int .u8 0), .v (.int .u8 0), .v (.int .u8 0), .v (.int .u8 0), .v (.int .u8 0), .v (.int .u8 0), .v (.int .u8 0)] ∧ tsz Tryz.prog 274 = some 4 ∧ trow Tryz.prog 274 = some true ∧ tel Tryz.prog 274 = none ∧ tarr Tryz.prog 274 = none ∧ tifc Tryz.prog 274 = some false ∧ pzero Tryz.prog 274 = some (.agg [.v (.pointer none), .v (.pointer none), .v (.pointer none), .v (.string ByteArray.empty)]) ∧ tfld Tryz.prog 274 0 = some (0, 17) ∧ tfld Tryz.prog 274 1 = some (1, 17) ∧ tfld Tryz.prog 274 2 = some (2, 17) ∧ tfld Tryz.prog 274 3 = some (3, 9) ∧ tpl Tryz.prog 274 = some [(0, 1), (1, 1), (2, 1), (3, 1)] ∧ tbytes Tryz.prog 274 = some 40 := by refine ⟨?_, ?_, ?_, ?_, ?_, ?_, ?_, ?_, ?_, ?_, ?_, ?_, ?_, ?_, ?_, ?_, ?_, ?_, ?_, ?_, ?_, ?_, ?_, ?_⟩ <;> kernel_rfl
@[simp] theorem tzero274 : tzero Tryz.prog 274 = some [.v (.pointer none), .v (.pointer none), .v (.pointer none), .v (.string ByteArray.empty)] ∧ tsz Tryz.prog 275 = some 4 ∧ trow Tryz.prog 275 = some true ∧ tel Tryz.prog 275 = none ∧ tarr Tryz.prog 275 = none ∧ tifc Tryz.prog 275 = some false ∧ pzero Tryz.prog 275 = some (.agg [.v (.pointer none), .v (.pointer none), .v (.pointer none), .v (.string ByteArray.empty)]) ∧ tfld Tryz.prog 275 0 = some (0, 17) ∧ tfld Tryz.prog 275 1 = some (1, 17) ∧ tfld Tryz.prog 275 2 = some (2, 17) ∧ tfld Tryz.prog 275 3 = some (3, 9) ∧ tpl Tryz.prog 275 = some [(0, 1), (1, 1), (2, 1), (3, 1)] ∧ tbytes Tryz.prog 275 = some 40 ∧ tzero Tryz.prog 275 = some [.v (.pointer none), .v (.pointer none), .v (.pointer none), .v (.string ByteArray.empty)] ∧ tsz Tryz.prog 276 = some 0 ∧ trow Tryz.prog 276 = some true ∧ tel Tryz.prog 276 = none ∧ tarr Tryz.prog 276 = some (0, 16) ∧ tifc Tryz.prog 276 = some false ∧ pzero Tryz.prog 276 = some (.agg []) ∧ tpl Tryz.prog 276 = none ∧ tbytes Tryz.prog 276 = some 0 ∧ tzero Tryz.prog 276 = some [] ∧ tsz Tryz.prog 277 = some 0 := by refine ⟨?_, ?_, ?_, ?_, ?_, ?_, ?_, ?_, ?_, ?_, ?_, ?_, ?_, ?_, ?_, ?_, ?_, ?_, ?_, ?_, ?_, ?_, ?_, ?_⟩ <;> kernel_rfl
@[simp] theorem trow277 : trow Tryz.prog 277 = some true ∧ tel Tryz.prog 277 = none ∧ tarr Tryz.prog 277 = none ∧ tifc Tryz.prog 277 = some false ∧ pzero Tryz.prog 277 = some (.agg []) ∧ tpl Tryz.prog 277 = some [(0, 0)] ∧ tbytes Tryz.prog 277 = some 0 ∧ tzero Tryz.prog 277 = some [] ∧ tsz Tryz.prog 278 = some 0 ∧ trow Tryz.prog 278 = some true ∧ tel Tryz.prog 278 = none ∧ tarr Tryz.prog 278 = none ∧ tifc Tryz.prog 278 = some false ∧ pzero Tryz.prog 278 = some (.agg []) ∧ tpl Tryz.prog 278 = some [(0, 0)] ∧ tbytes Tryz.prog 278 = some 0 ∧ tzero Tryz.prog 278 = some [] ∧ tsz Tryz.prog 279 = some 1 ∧ trow Tryz.prog 279 = some false ∧ tel Tryz.prog 279 = none ∧ tarr Tryz.prog 279 = none ∧ tifc Tryz.prog 279 = some false ∧ pzero Tryz.prog 279 = some (.v (.int .u8 0)) ∧ tint Tryz.prog 279 = some .u8 := by refine ⟨?_, ?_, ?_, ?_, ?_, ?_, ?_, ?_, ?_, ?_, ?_, ?_, ?_, ?_, ?_, ?_, ?_, ?_, ?_, ?_, ?_, ?_, ?_, ?_⟩ <;> kernel_rfl
@[simp] theorem tbytes279 : tbytes Tryz.prog 279 = some 1 ∧ tzero Tryz.prog 279 = some [.v (.int .u8 0)] ∧ tsz Tryz.prog 280 = some 1 ∧ trow Tryz.prog 280 = some false ∧ tel Tryz.prog 280 = none ∧ tarr Tryz.prog 280 = none ∧ tifc Tryz.prog 280 = some false ∧ pzero Tryz.prog 280 = some (.v (.int .u8 0)) ∧ tint Tryz.prog 280 = some .u8 ∧ tbytes Tryz.prog 280 = some 1 ∧ tzero Tryz.prog 280 = some [.v (.int .u8 0)] ∧ tsz Tryz.prog 281 = some 1 ∧ trow Tryz.prog 281 = some false ∧ tel Tryz.prog 281 = none ∧ tarr Tryz.prog 281 = none ∧ tifc Tryz.prog 281 = some false ∧ pzero Tryz.prog 281 = some (.v (.nilFunc)) ∧ tbytes Tryz.prog 281 = some 8 ∧ tzero Tryz.prog 281 = some [.v (.nilFunc)] ∧ tsz Tryz.prog 282 = some 1 ∧ trow Tryz.prog 282 = some false ∧ tel Tryz.prog 282 = none ∧ tarr Tryz.prog 282 = none ∧ tifc Tryz.prog 282 = some false := by refine ⟨?_, ?_, ?_, ?_, ?_, ?_, ?_, ?_, ?_, ?_, ?_, ?_, ?_, ?_, ?_, ?_, ?_, ?_, ?_, ?_, ?_, ?_, ?_, ?_⟩ <;> kernel_rfl
@[simp] theorem pzero282 : pzero Tryz.prog 282 = some (.v (.int .i32 0)) ∧ tint Tryz.prog 282 = some .i32 ∧ tbytes Tryz.prog 282 = some 4 ∧ tzero Tryz.prog 282 = some [.v (.int .i32 0)] ∧ tsz Tryz.prog 283 = some 1 ∧ trow Tryz.prog 283 = some false ∧ tel Tryz.prog 283 = none ∧ tarr Tryz.prog 283 = none ∧ tifc Tryz.prog 283 = some false ∧ pzero Tryz.prog 283 = some (.v (.int .i32 0)) ∧ tint Tryz.prog 283 = some .i32 ∧ tbytes Tryz.prog 283 = some 4 ∧ tzero Tryz.prog 283 = some [.v (.int .i32 0)] ∧ tsz Tryz.prog 284 = some 11 ∧ trow Tryz.prog 284 = some true ∧ tel Tryz.prog 284 = none ∧ tarr Tryz.prog 284 = none ∧ tifc Tryz.prog 284 = some false ∧ pzero Tryz.prog 284 = some (.agg [.v (.int .u64 0), .v (.int .u64 0), .v (.int .u32 0), .v (.int .u8 0), .v (.int .u8 0), .v (.int .u8 0), .v (.int .u8 0), .v (.nilFunc), .v (.pointer none), .v (.int .i32 0), .v (.int .i32 0)]) ∧ tfld Tryz.prog 284 0 = some (0, 12) ∧ tfld Tryz.prog 284 1 = some (1, 12) ∧ tfld Tryz.prog 284 2 = some (2, 248) ∧ tfld Tryz.prog 284 3 = some (3, 279) ∧ tfld Tryz.prog 284 4 = some (4, 5) := by refine ⟨?_, ?_, ?_, ?_, ?_, ?_, ?_, ?_, ?_, ?_, ?_, ?_, ?_, ?_, ?_, ?_, ?_, ?_, ?_, ?_, ?_, ?_, ?_, ?_⟩ <;> kernel_rfl
@[simp] theorem tfld284x5 : tfld Tryz.prog 284 5 = some (5, 5) ∧ tfld Tryz.prog 284 6 = some (6, 280) ∧ tfld Tryz.prog 284 7 = some (7, 281) ∧ tfld Tryz.prog 284 8 = some (8, 206) ∧ tfld Tryz.prog 284 9 = some (9, 282) ∧ tfld Tryz.prog 284 10 = some (10, 283) ∧ tpl Tryz.prog 284 = some [(0, 1), (1, 1), (2, 1), (3, 1), (4, 1), (5, 1), (6, 1), (7, 1), (8, 1), (9, 1), (10, 1)] ∧ tbytes Tryz.prog 284 = some 48 ∧ tzero Tryz.prog 284 = some [.v (.int .u64 0), .v (.int .u64 0), .v (.int .u32 0), .v (.int .u8 0), .v (.int .u8 0), .v (.int .u8 0), .v (.int .u8 0), .v (.nilFunc), .v (.pointer none), .v (.int .i32 0), .v (.int .i32 0)] ∧ tsz Tryz.prog 285 = some 11 ∧ trow Tryz.prog 285 = some true ∧ tel Tryz.prog 285 = none ∧ tarr Tryz.prog 285 = none ∧ tifc Tryz.prog 285 = some false ∧ pzero Tryz.prog 285 = some (.agg [.v (.int .u64 0), .v (.int .u64 0), .v (.int .u32 0), .v (.int .u8 0), .v (.int .u8 0), .v (.int .u8 0), .v (.int .u8 0), .v (.nilFunc), .v (.pointer none), .v (.int .i32 0), .v (.int .i32 0)]) ∧ tfld Tryz.prog 285 0 = some (0, 12) ∧ tfld Tryz.prog 285 1 = some (1, 12) ∧ tfld Tryz.prog 285 2 = some (2, 248) ∧ tfld Tryz.prog 285 3 = some (3, 279) ∧ tfld Tryz.prog 285 4 = some (4, 5) ∧ tfld Tryz.prog 285 5 = some (5, 5) ∧ tfld Tryz.prog 285 6 = some (6, 280) ∧ tfld Tryz.prog 285 7 = some (7, 281) ∧ tfld Tryz.prog 285 8 = some (8, 206) := by refine ⟨?_, ?_, ?_, ?_, ?_, ?_, ?_, ?_, ?_, ?_, ?_, ?_, ?_, ?_, ?_, ?_, ?_, ?_, ?_, ?_, ?_, ?_, ?_, ?_⟩ <;> kernel_rfl
@[simp] theorem tfld285x9 : tfld Tryz.prog 285 9 = some (9, 282) ∧ tfld Tryz.prog 285 10 = some (10, 283) ∧ tpl Tryz.prog 285 = some [(0, 1), (1, 1), (2, 1), (3, 1), (4, 1), (5, 1), (6, 1), (7, 1), (8, 1), (9, 1), (10, 1)] ∧ tbytes Tryz.prog 285 = some 48 ∧ tzero Tryz.prog 285 = some [.v (.int .u64 0), .v (.int .u64 0), .v (.int .u32 0), .v (.int .u8 0), .v (.int .u8 0), .v (.int .u8 0), .v (.int .u8 0), .v (.nilFunc), .v (.pointer none), .v (.int .i32 0), .v (.int .i32 0)] := by refine ⟨?_, ?_, ?_, ?_, ?_⟩ <;> kernel_rfl
end Go.Qg

namespace Go.Proofs
open Go.Shelf
def Tryz.laysC172_ren : Go.Shelf.Ren := ⟨fun | 172 => 153 | 244 => 162 | 245 => 163 | 247 => 173 | 279 => 174 | 280 => 175 | 281 => 176 | 282 => 177 | 287 => 190 | 316 => 191 | 171 => 125 | 205 => 192 | 321 => 198 | 322 => 199 | 243 => 150 | 246 => 159 | 283 => 165 | 284 => 166 | 285 => 167 | 286 => 168 | 129 => 179 | 317 => 178 | 318 => 180 | 319 => 181 | 320 => 182 | 337 => 193 | 338 => 194 | n => n, fun | 9 => 9 | 3 => 3 | 75 => 202 | 76 => 203 | 4 => 4 | 5 => 5 | 167 => 240 | 37 => 109 | 0 => 0 | 85 => 241 | 2 => 2 | 168 => 243 | 53 => 233 | 175 => 255 | 46 => 250 | 210 => 259 | 127 => 206 | 145 => 267 | 143 => 265 | 21 => 21 | 171 => 232 | 173 => 236 | 212 => 247 | 51 => 248 | 20 => 20 | 213 => 249 | 232 => 268 | 233 => 269 | 80 => 167 | n => n, fun | 15 => 2 | 16 => 3 | 17 => 1 | 18 => 4 | 19 => 5 | n => n⟩
theorem Tryz.laysC172 : Go.Proofs.LaysC.n172 Tryz.prog Tryz.laysC172_ren := {
  mixed := by kernel_rfl
  f129 := Tryz.func179.trans (congrArg some (by kernel_rfl))
  f171 := Tryz.func125.trans (congrArg some (by kernel_rfl))
  f172 := Tryz.func153.trans (congrArg some (by kernel_rfl))
  f205 := Tryz.func192.trans (congrArg some (by kernel_rfl))
  f243 := Tryz.func150.trans (congrArg some (by kernel_rfl))
  f244 := Tryz.func162.trans (congrArg some (by kernel_rfl))
  f245 := Tryz.func163.trans (congrArg some (by kernel_rfl))
  f246 := Tryz.func159.trans (congrArg some (by kernel_rfl))
  f247 := Tryz.func173.trans (congrArg some (by kernel_rfl))
  f279 := Tryz.func174.trans (congrArg some (by kernel_rfl))
  f280 := Tryz.func175.trans (congrArg some (by kernel_rfl))
  f281 := Tryz.func176.trans (congrArg some (by kernel_rfl))
  f282 := Tryz.func177.trans (congrArg some (by kernel_rfl))
  f283 := Tryz.func165.trans (congrArg some (by kernel_rfl))
  f284 := Tryz.func166.trans (congrArg some (by kernel_rfl))
  f285 := Tryz.func167.trans (congrArg some (by kernel_rfl))
  f286 := Tryz.func168.trans (congrArg some (by kernel_rfl))
  f287 := Tryz.func190.trans (congrArg some (by kernel_rfl))
  f316 := Tryz.func191.trans (congrArg some (by kernel_rfl))
  f317 := Tryz.func178.trans (congrArg some (by kernel_rfl))
  f318 := Tryz.func180.trans (congrArg some (by kernel_rfl))
  f319 := Tryz.func181.trans (congrArg some (by kernel_rfl))
  f320 := Tryz.func182.trans (congrArg some (by kernel_rfl))
  f321 := Tryz.func198.trans (congrArg some (by kernel_rfl))
  f322 := Tryz.func199.trans (congrArg some (by kernel_rfl))
  f337 := Tryz.func193.trans (congrArg some (by kernel_rfl))
  f338 := Tryz.func194.trans (congrArg some (by kernel_rfl))
  t0 := Tryz.underlying0
  a0 := Tryz.isAgg0
  z0 := Tryz.sizeOf0
  v0 := Tryz.zeroValue0
  t2 := Tryz.underlying2
  a2 := Tryz.isAgg2
  z2 := Tryz.sizeOf2
  v2 := Tryz.zeroValue2
  t3 := Tryz.underlying3
  a3 := Tryz.isAgg3
  z3 := Tryz.sizeOf3
  v3 := Tryz.zeroValue3
  t4 := Tryz.underlying4
  a4 := Tryz.isAgg4
  z4 := Tryz.sizeOf4
  v4 := Tryz.zeroValue4
  t5 := Tryz.underlying5
  a5 := Tryz.isAgg5
  z5 := Tryz.sizeOf5
  v5 := Tryz.zeroValue5
  t9 := Tryz.underlying9
  a9 := Tryz.isAgg9
  z9 := Tryz.sizeOf9
  v9 := Tryz.zeroValue9
  t20 := Tryz.underlying20
  a20 := Tryz.isAgg20
  z20 := Tryz.sizeOf20
  v20 := Tryz.zeroValue20
  t21 := Tryz.underlying21
  a21 := Tryz.isAgg21
  z21 := Tryz.sizeOf21
  v21 := Tryz.zeroValue21
  t37 := Tryz.underlying109
  a37 := Tryz.isAgg109
  z37 := Tryz.sizeOf109
  v37 := Tryz.zeroValue109
  t46 := Tryz.underlying250
  a46 := Tryz.isAgg250
  z46 := Tryz.sizeOf250
  v46 := Tryz.zeroValue250
  t51 := Tryz.underlying248
  a51 := Tryz.isAgg248
  z51 := Tryz.sizeOf248
  v51 := Tryz.zeroValue248
  t53 := Tryz.underlying233
  a53 := Tryz.isAgg233
  z53 := Tryz.sizeOf233
  v53 := Tryz.zeroValue233
  t75 := Tryz.underlying202
  a75 := Tryz.isAgg202
  z75 := Tryz.sizeOf202
  v75 := Tryz.zeroValue202
  t76 := Tryz.underlying203
  a76 := Tryz.isAgg203
  z76 := Tryz.sizeOf203
  v76 := Tryz.zeroValue203
  t85 := Tryz.underlying241
  a85 := Tryz.isAgg241
  z85 := Tryz.sizeOf241
  v85 := Tryz.zeroValue241
  t127 := Tryz.underlying206
  a127 := Tryz.isAgg206
  z127 := Tryz.sizeOf206
  v127 := Tryz.zeroValue206
  t143 := Tryz.underlying265
  a143 := Tryz.isAgg265
  z143 := Tryz.sizeOf265
  v143 := Tryz.zeroValue265
  t145 := Tryz.underlying267
  a145 := Tryz.isAgg267
  z145 := Tryz.sizeOf267
  v145 := Tryz.zeroValue267
  t167 := Tryz.underlying240
  a167 := Tryz.isAgg240
  z167 := Tryz.sizeOf240
  v167 := Tryz.zeroValue240
  t168 := Tryz.underlying243
  a168 := Tryz.isAgg243
  z168 := Tryz.sizeOf243
  v168 := Tryz.zeroValue243
  t171 := Tryz.underlying232
  a171 := Tryz.isAgg232
  z171 := Tryz.sizeOf232
  v171 := Tryz.zeroValue232
  t173 := Tryz.underlying236
  a173 := Tryz.isAgg236
  z173 := Tryz.sizeOf236
  v173 := Tryz.zeroValue236
  t175 := Tryz.underlying255
  a175 := Tryz.isAgg255
  z175 := Tryz.sizeOf255
  v175 := Tryz.zeroValue255
  t210 := Tryz.underlying259
  a210 := Tryz.isAgg259
  z210 := Tryz.sizeOf259
  v210 := Tryz.zeroValue259
  t212 := Tryz.underlying247
  a212 := Tryz.isAgg247
  z212 := Tryz.sizeOf247
  v212 := Tryz.zeroValue247
  t213 := Tryz.underlying249
  a213 := Tryz.isAgg249
  z213 := Tryz.sizeOf249
  t232 := Tryz.underlying268
  a232 := Tryz.isAgg268
  z232 := Tryz.sizeOf268
  v232 := Tryz.zeroValue268
  t233 := Tryz.underlying269
  a233 := Tryz.isAgg269
  z233 := Tryz.sizeOf269
  v233 := Tryz.zeroValue269
  g15 := by kernel_rfl
  g16 := by kernel_rfl
  g17 := by kernel_rfl
  g18 := by kernel_rfl
  g19 := by kernel_rfl
  t80 := Tryz.underlying167
  a80 := Tryz.isAgg167
  z80 := Tryz.sizeOf167
  v80 := Tryz.zeroValue167
  i0 := by kernel_rfl
  i2 := by kernel_rfl
  i3 := by kernel_rfl
  i4 := by kernel_rfl
  i5 := by kernel_rfl
  i9 := by kernel_rfl
  i20 := by kernel_rfl
  i21 := by kernel_rfl
  i37 := by kernel_rfl
  i46 := by kernel_rfl
  i51 := by kernel_rfl
  i53 := by kernel_rfl
  i75 := by kernel_rfl
  i76 := by kernel_rfl
  i80 := by kernel_rfl
  i85 := by kernel_rfl
  i127 := by kernel_rfl
  i143 := by kernel_rfl
  i145 := by kernel_rfl
  i167 := by kernel_rfl
  i168 := by kernel_rfl
  i171 := by kernel_rfl
  i173 := by kernel_rfl
  i175 := by kernel_rfl
  i210 := by kernel_rfl
  i212 := by kernel_rfl
  i232 := by kernel_rfl
  i233 := by kernel_rfl
  m15 := by kernel_rfl
  m16 := by kernel_rfl
  m17 := by kernel_rfl
  m18 := by kernel_rfl
  m19 := by kernel_rfl
  c0 := by kernel_rfl
  c2 := by kernel_rfl
  c3 := by kernel_rfl
  c4 := by kernel_rfl
  c5 := by kernel_rfl
  c9 := by kernel_rfl
  c20 := by kernel_rfl
  c21 := by kernel_rfl
  c37 := by kernel_rfl
  c46 := by kernel_rfl
  c51 := by kernel_rfl
  c53 := by kernel_rfl
  c75 := by kernel_rfl
  c76 := by kernel_rfl
  c80 := by kernel_rfl
  c85 := by kernel_rfl
  c127 := by kernel_rfl
  c143 := by kernel_rfl
  c145 := by kernel_rfl
  c167 := by kernel_rfl
  c168 := by kernel_rfl
  c171 := by kernel_rfl
  c173 := by kernel_rfl
  c175 := by kernel_rfl
  c210 := by kernel_rfl
  c212 := by kernel_rfl
  c213 := by kernel_rfl
  c232 := by kernel_rfl
  c233 := by kernel_rfl }
open Go.RowKit in
theorem Tryz.strconv_Atoi_ok (s : ByteArray) (hmax : s.size ≤ 9223372036854775806) (v : Int) (h : Lib.atoiAll s.data.toList = .ok v) (w : World) :
    Calls Tryz.prog 153 #[.string s] w fun e w' => e = .returned (.tuple #[.int .i64 v, .nilIface]) ∧ (w' = w ∨ ∃ t, w' = Lib.bytesWorld w 5 t) := Any.strconv_Atoi_ok Tryz.laysC172 s hmax v h w
open Go.RowKit in
theorem Tryz.strconv_Atoi_bad (s : ByteArray) (hlim : s.size ≤ 281474976710656) (h : Lib.atoiAll s.data.toList = Lib.atoiAll []) (ev : Value) (w : World) (hv : w.cell? ⟨2, 0, none⟩ = some ev) (hev : ev = .nilIface ∨ ∃ te pe, ev = .iface te pe) :
    Calls Tryz.prog 153 #[.string s] w fun e w' => ∃ N, e = .returned (.tuple #[.int .i64 (0), .iface 243 (.pointer (some ⟨N, 0, none⟩))]) ∧ w.heap.size ≤ N ∧ w'.heap[N]? = some (.cells #[.string ⟨#[65, 116, 111, 105]⟩, .string s, ev] 259 (0, 0)) ∧ Below w.heap.size w w' := Any.strconv_Atoi_syntax Tryz.laysC172 s hlim (h.trans rfl) ev w hv hev
open Go.RowKit in
theorem Tryz.strconv_Atoi_range (s : ByteArray) (hlim : s.size ≤ 281474976710656) (h : Lib.atoiAll s.data.toList = .range) (ev : Value) (w : World) (hv : w.cell? ⟨3, 0, none⟩ = some ev) (hev : ev = .nilIface ∨ ∃ te pe, ev = .iface te pe) :
    Calls Tryz.prog 153 #[.string s] w fun e w' => ∃ N, e = .returned (.tuple #[.int .i64 (Lib.atoiSat s.data.toList), .iface 243 (.pointer (some ⟨N, 0, none⟩))]) ∧ w.heap.size ≤ N ∧ w'.heap[N]? = some (.cells #[.string ⟨#[65, 116, 111, 105]⟩, .string s, ev] 259 (0, 0)) ∧ Below w.heap.size w w' := Any.strconv_Atoi_range Tryz.laysC172 s hlim h ev w hv hev
def Tryz.lays145_ren : Go.Shelf.Ren := ⟨fun | 145 => 151 | 220 => 160 | 219 => 169 | 217 => 183 | 225 => 184 | 224 => 185 | 267 => 186 | 266 => 195 | 314 => 196 | n => n, fun | 9 => 9 | 4 => 4 | 59 => 221 | 3 => 3 | 5 => 5 | 46 => 250 | 146 => 262 | 51 => 248 | n => n, fun | 1 => 0 | n => n⟩
theorem Tryz.lays145 : Go.Proofs.Lays.n145 Tryz.prog Tryz.lays145_ren := {
  mixed := by kernel_rfl
  f145 := Tryz.func151.trans (congrArg some (by kernel_rfl))
  f217 := Tryz.func183.trans (congrArg some (by kernel_rfl))
  f219 := Tryz.func169.trans (congrArg some (by kernel_rfl))
  f220 := Tryz.func160.trans (congrArg some (by kernel_rfl))
  f224 := Tryz.func185.trans (congrArg some (by kernel_rfl))
  f225 := Tryz.func184.trans (congrArg some (by kernel_rfl))
  f266 := Tryz.func195.trans (congrArg some (by kernel_rfl))
  f267 := Tryz.func186.trans (congrArg some (by kernel_rfl))
  f314 := Tryz.func196.trans (congrArg some (by kernel_rfl))
  t3 := Tryz.underlying3
  a3 := Tryz.isAgg3
  z3 := Tryz.sizeOf3
  v3 := Tryz.zeroValue3
  t4 := Tryz.underlying4
  a4 := Tryz.isAgg4
  z4 := Tryz.sizeOf4
  v4 := Tryz.zeroValue4
  t5 := Tryz.underlying5
  a5 := Tryz.isAgg5
  z5 := Tryz.sizeOf5
  v5 := Tryz.zeroValue5
  t9 := Tryz.underlying9
  a9 := Tryz.isAgg9
  z9 := Tryz.sizeOf9
  v9 := Tryz.zeroValue9
  t46 := Tryz.underlying250
  a46 := Tryz.isAgg250
  z46 := Tryz.sizeOf250
  v46 := Tryz.zeroValue250
  t51 := Tryz.underlying248
  a51 := Tryz.isAgg248
  z51 := Tryz.sizeOf248
  v51 := Tryz.zeroValue248
  t59 := Tryz.underlying221
  a59 := Tryz.isAgg221
  z59 := Tryz.sizeOf221
  v59 := Tryz.zeroValue221
  t146 := Tryz.underlying262
  a146 := Tryz.isAgg262
  z146 := Tryz.sizeOf262
  v146 := Tryz.zeroValue262
  g1 := by kernel_rfl }
open Go.RowKit Go.Lib in
theorem Tryz.strings_Cut (s sep : ByteArray) (m : Int) (w : World) (hs : s.size < 4294967281) (hm : w.cell? ⟨0, 0, none⟩ = some (.int .i64 m)) :
    Calls Tryz.prog 151 #[.string s, .string sep] w fun e w' => e = .returned (.tuple #[.string ⟨(Lib.cut s.data.toList sep.data.toList).1.toArray⟩, .string ⟨(Lib.cut s.data.toList sep.data.toList).2.1.toArray⟩, .bool (Lib.cut s.data.toList sep.data.toList).2.2]) ∧ ∃ n, w' = w.drewN n := Any.strings_Cut Tryz.lays145 s sep m w hs hm
def Tryz.lays99_ren : Go.Shelf.Ren := ⟨fun | 99 => 128 | 206 => 154 | n => n, fun | 9 => 9 | 4 => 4 | 3 => 3 | n => n, fun | n => n⟩
theorem Tryz.lays99 : Go.Proofs.Lays.n99 Tryz.prog Tryz.lays99_ren := {
  mixed := by kernel_rfl
  f99 := Tryz.func128.trans (congrArg some (by kernel_rfl))
  f206 := Tryz.func154.trans (congrArg some (by kernel_rfl))
  t3 := Tryz.underlying3
  a3 := Tryz.isAgg3
  z3 := Tryz.sizeOf3
  v3 := Tryz.zeroValue3
  t4 := Tryz.underlying4
  a4 := Tryz.isAgg4
  z4 := Tryz.sizeOf4
  v4 := Tryz.zeroValue4
  t9 := Tryz.underlying9
  a9 := Tryz.isAgg9
  z9 := Tryz.sizeOf9
  v9 := Tryz.zeroValue9 }
open Go.RowKit Go.Lib in
theorem Tryz.strings_HasPrefix (s p : ByteArray) (w : World) :
    Calls Tryz.prog 128 #[.string s, .string p] w fun e w' => e = .returned (.bool (Lib.hasPrefix s.data.toList p.data.toList)) ∧ w' = w := Any.strings_HasPrefix Tryz.lays99 s p w
def Tryz.lays146_ren : Go.Shelf.Ren := ⟨fun | 146 => 152 | 221 => 161 | 268 => 170 | 138 => 171 | 143 => 172 | 195 => 187 | 197 => 188 | 218 => 189 | 219 => 169 | 260 => 197 | 217 => 183 | 225 => 184 | 224 => 185 | 267 => 186 | 266 => 195 | 314 => 196 | n => n, fun | 9 => 9 | 31 => 166 | 3 => 3 | 4 => 4 | 0 => 0 | 105 => 253 | 21 => 21 | 5 => 5 | 46 => 250 | 119 => 270 | 139 => 273 | 138 => 272 | 146 => 262 | 51 => 248 | n => n, fun | 1 => 0 | 3 => 6 | 4 => 7 | n => n⟩
theorem Tryz.lays146 : Go.Proofs.Lays.n146 Tryz.prog Tryz.lays146_ren := {
  mixed := by kernel_rfl
  f138 := Tryz.func171.trans (congrArg some (by kernel_rfl))
  f143 := Tryz.func172.trans (congrArg some (by kernel_rfl))
  f146 := Tryz.func152.trans (congrArg some (by kernel_rfl))
  f195 := Tryz.func187.trans (congrArg some (by kernel_rfl))
  f197 := Tryz.func188.trans (congrArg some (by kernel_rfl))
  f217 := Tryz.func183.trans (congrArg some (by kernel_rfl))
  f218 := Tryz.func189.trans (congrArg some (by kernel_rfl))
  f219 := Tryz.func169.trans (congrArg some (by kernel_rfl))
  f221 := Tryz.func161.trans (congrArg some (by kernel_rfl))
  f224 := Tryz.func185.trans (congrArg some (by kernel_rfl))
  f225 := Tryz.func184.trans (congrArg some (by kernel_rfl))
  f260 := Tryz.func197.trans (congrArg some (by kernel_rfl))
  f266 := Tryz.func195.trans (congrArg some (by kernel_rfl))
  f267 := Tryz.func186.trans (congrArg some (by kernel_rfl))
  f268 := Tryz.func170.trans (congrArg some (by kernel_rfl))
  f314 := Tryz.func196.trans (congrArg some (by kernel_rfl))
  t0 := Tryz.underlying0
  a0 := Tryz.isAgg0
  z0 := Tryz.sizeOf0
  v0 := Tryz.zeroValue0
  t3 := Tryz.underlying3
  a3 := Tryz.isAgg3
  z3 := Tryz.sizeOf3
  v3 := Tryz.zeroValue3
  t4 := Tryz.underlying4
  a4 := Tryz.isAgg4
  z4 := Tryz.sizeOf4
  v4 := Tryz.zeroValue4
  t5 := Tryz.underlying5
  a5 := Tryz.isAgg5
  z5 := Tryz.sizeOf5
  v5 := Tryz.zeroValue5
  t9 := Tryz.underlying9
  a9 := Tryz.isAgg9
  z9 := Tryz.sizeOf9
  v9 := Tryz.zeroValue9
  t21 := Tryz.underlying21
  a21 := Tryz.isAgg21
  z21 := Tryz.sizeOf21
  v21 := Tryz.zeroValue21
  t31 := Tryz.underlying166
  a31 := Tryz.isAgg166
  z31 := Tryz.sizeOf166
  v31 := Tryz.zeroValue166
  t46 := Tryz.underlying250
  a46 := Tryz.isAgg250
  z46 := Tryz.sizeOf250
  v46 := Tryz.zeroValue250
  t51 := Tryz.underlying248
  a51 := Tryz.isAgg248
  z51 := Tryz.sizeOf248
  v51 := Tryz.zeroValue248
  t105 := Tryz.underlying253
  a105 := Tryz.isAgg253
  z105 := Tryz.sizeOf253
  v105 := Tryz.zeroValue253
  t119 := Tryz.underlying270
  a119 := Tryz.isAgg270
  z119 := Tryz.sizeOf270
  t138 := Tryz.underlying272
  a138 := Tryz.isAgg272
  z138 := Tryz.sizeOf272
  v138 := Tryz.zeroValue272
  t139 := Tryz.underlying273
  a139 := Tryz.isAgg273
  z139 := Tryz.sizeOf273
  v139 := Tryz.zeroValue273
  t146 := Tryz.underlying262
  a146 := Tryz.isAgg262
  z146 := Tryz.sizeOf262
  v146 := Tryz.zeroValue262
  g1 := by kernel_rfl
  g3 := by kernel_rfl
  g4 := by kernel_rfl }
open Go.RowKit Go.Lib in
theorem Tryz.strings_Split (s sep : ByteArray) (m : Int) (w : World) (hs : s.size < 4294967281) (hm : w.cell? ⟨0, 0, none⟩ = some (.int .i64 m)) (h1 : 1 ≤ sep.size) :
    Calls Tryz.prog 152 #[.string s, .string sep] w fun e w' =>
      e = .returned (.slice (some ⟨w.heap.size, 0, none⟩) (Lib.countB s sep + 1) (Lib.countB s sep + 1)) ∧ w' = w.alloc (.cells ((Lib.splitB sep 0 (Lib.countB s sep) s).map Value.string).toArray 9) := Any.strings_Split Tryz.lays146 (by kernel_rfl) s sep m w hs hm h1
end Go.Proofs
