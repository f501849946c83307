/-
  Lemmas and contracts that hold of the whole program: 12 texts in one.
  No condition.
-/
import Derived.Test.YthfdpekgbdjniaaZ2
import Derived.WalkKit
import Derived.AtR
import Derived.Orders
import Derived.Scope
import Derived.Recover
import Derived.IntWalk
import Derived.RangeFuncRecord
set_option linter.all false

namespace Go.Qg
def quiet : List Item → Prop
  | .call .. :: _ => False
  | _ => True
theorem step_raise {P : Program} {fr c : Frame} {cs : List Frame} {w : World} {ch : List PanicEntry} (hm : fr.mode = .panicking ch) (hd : fr.defers = []) (hq : quiet fr.todo) : step P (lone fr (c :: cs) w) = .next (lone (c.raise ch) cs w) := by
  have hc : fr.catches P = false := by
    unfold Frame.catches
    split
    · rename_i ht
      rw [ht] at hq; exact hq.elim
    · rfl
  exact step_lone_go (by simp [stepG, unwind, hc, hm, hd])
def ArrR (P : Program) (m : Machine) (b : Frame) (k : List Item) (cs : List Frame) : Exit → Act → World → Prop
  | .normal, a, w => Steps P m (lone (b.atR a k) cs w)
  | .exit id, a, w => ∃ k1, Steps P m (lone (b.atR a (.code (.exit id) :: k1)) cs w) ∧ exitTo id k1 = exitTo id k
  | .goto l, a, w => ∃ k1, Steps P m (lone (b.atR a (.code (.goto l) :: k1)) cs w) ∧ gotoIn l k1 = gotoIn l k
  | .ret, a, w => ∃ k1, Steps P m (lone (b.atR a (.code .ret :: k1)) cs w)
  | .panic ch, a, w => ∃ k1, quiet k1 ∧ Steps P m (lone { b.atR a k1 with mode := .panicking ch } cs w)
  | .outgrown, _, _ => False
theorem ArrR.of_steps {P : Program} {m m₁ : Machine} {b : Frame} {k : List Item} {cs : List Frame} {e : Exit} {a : Act} {w : World} (h : Steps P m m₁) (h' : ArrR P m₁ b k cs e a w) : ArrR P m b k cs e a w := by
  cases e with
  | normal => exact h.trans h'
  | exit id => obtain ⟨k1, h1, h2⟩ := h'; exact ⟨k1, h.trans h1, h2⟩
  | goto l => obtain ⟨k1, h1, h2⟩ := h'; exact ⟨k1, h.trans h1, h2⟩
  | ret => obtain ⟨k1, h1⟩ := h'; exact ⟨k1, h.trans h1⟩
  | panic ch => obtain ⟨k1, hk, h1⟩ := h'; exact ⟨k1, hk, h.trans h1⟩
  | outgrown => exact h'.elim
theorem ArrR.pass {P : Program} {m : Machine} {b : Frame} {x : Item} {k : List Item} {cs : List Frame} {e : Exit} {a : Act} {w : World} (hx : x.plain = true) (he : e ≠ .normal) (h : ArrR P m b (x :: k) cs e a w) : ArrR P m b k cs e a w := by
  cases e with
  | normal => exact (he rfl).elim
  | exit id => obtain ⟨k1, h1, h2⟩ := h; exact ⟨k1, h1, h2.trans (by cases x <;> simp_all [exitTo, Item.plain])⟩
  | goto l => obtain ⟨k1, h1, h2⟩ := h; exact ⟨k1, h1, h2.trans (by cases x <;> simp_all [gotoIn, Item.plain])⟩
  | ret => exact h
  | panic ch => exact h
  | outgrown => exact h.elim
def wr (P : Program) (ro : Option Nat) (c : Code) (Q : Exit → Act → World → Prop) (a : Act) (w : World) : Prop :=
  ∀ (b : Frame) (k : List Item) (cs : List Frame), b.roundOf = ro → ∃ e a' w', Q e a' w' ∧ ArrR P (lone (b.atR a (.code c :: k)) cs w) b k cs e a' w'
def RegR (P : Program) (ro : Option Nat) (ops : Array Oper) (l : List Nat) (Q : Exit → Act → World → Prop) (a : Act) (w : World) : Prop :=
  ∀ (b : Frame) (k : List Item) (cs : List Frame), b.roundOf = ro → ∃ e a' w', Q e a' w' ∧ ArrR P (lone (b.atR a (.inRegion ops l :: k)) cs w) b k cs e a' w'
def OpR (P : Program) (ro : Option Nat) (ops : Array Oper) (Q : Exit → Act → World → Prop) (i : Nat) (K : Act → World → Prop) (a : Act) (w : World) : Prop :=
  ∀ rest : List Nat, (∀ a' w', K a' w' → RegR P ro ops rest Q a' w') → RegR P ro ops (i :: rest) Q a w
def RoundW (P : Program) (l : Nat) (f : FuncId) (tmps : Array Value) (assign body : Code) (w : World) (R : Ending → World → Prop) : Prop :=
  ∀ (c : Frame) (cs : List Frame), ∃ e w', R e w' ∧ match e with
    | .returned v => Steps P (lone (Frame.round l f tmps assign body .normal) (c :: cs) w) (lone (c.finish v) cs w')
    | .panicked ch => Steps P (lone (Frame.round l f tmps assign body .normal) (c :: cs) w) (lone (c.raise ch) cs w')
    | .outgrown => False
section
variable {P : Program} {ro : Option Nat} {ops : Array Oper} {Q : Exit → Act → World → Prop} {a : Act} {w : World}
theorem wr_mono {c : Code} {Q' : Exit → Act → World → Prop} (h : wr P ro c Q a w) (hq : ∀ e a w, Q e a w → Q' e a w) : wr P ro c Q' a w :=
  fun b k cs hb => let ⟨e, a', w', q, r⟩ := h b k cs hb; ⟨e, a', w', hq _ _ _ q, r⟩
theorem wr_skip (h : Q .normal a w) : wr P ro .skip Q a w := fun _ _ _ _ => ⟨.normal, a, w, h, Steps.one stepR_skip⟩
theorem wr_label {l : Nat} (h : Q .normal a w) : wr P ro (.label l) Q a w := fun _ _ _ _ => ⟨.normal, a, w, h, Steps.one stepR_label⟩
theorem wr_exit {id : Nat} (h : Q (.exit id) a w) : wr P ro (.exit id) Q a w := fun _ k _ _ => ⟨.exit id, a, w, h, k, Steps.refl P _, rfl⟩
theorem wr_ret (h : Q .ret a w) : wr P ro .ret Q a w := fun _ k _ _ => ⟨.ret, a, w, h, k, Steps.refl P _⟩
theorem wr_seq {x y : Code} (h : wr P ro x (Exit.then (wr P ro y Q) Q) a w) : wr P ro (.seq x y) Q a w := by
  intro b k cs hb
  obtain ⟨e, a₁, w₁, hq, harr⟩ := h b (.code y :: k) cs hb
  have step := Steps.one (stepR_seq (P := P) (b := b) (a := a) (k := k) (cs := cs) (w := w) (x := x) (y := y))
  cases e with
  | normal =>
    obtain ⟨e₂, a₂, w₂, hq₂, harr₂⟩ := hq b k cs hb
    exact ⟨e₂, a₂, w₂, hq₂, .of_steps (step.trans harr) harr₂⟩
  | exit id => exact ⟨_, a₁, w₁, hq, .of_steps step (.pass (x := .code y) rfl (by simp) harr)⟩
  | goto l => exact ⟨_, a₁, w₁, hq, .of_steps step (.pass (x := .code y) rfl (by simp) harr)⟩
  | ret => exact ⟨_, a₁, w₁, hq, .of_steps step (.pass (x := .code y) rfl (by simp) harr)⟩
  | panic ch => exact ⟨_, a₁, w₁, hq, .of_steps step (.pass (x := .code y) rfl (by simp) harr)⟩
  | outgrown => exact harr.elim
theorem wr_cond {c : Operand} {x y : Code} {t : Bool} (hc : a.eval c = .bool t) (h : wr P ro (if t then x else y) Q a w) : wr P ro (.cond c x y) Q a w :=
  fun b k cs hb => let ⟨e, a', w', q, r⟩ := h b k cs hb; ⟨e, a', w', q, .of_steps (.one (stepR_cond hc)) r⟩
theorem wr_block {id : Nat} {c : Code} (h : wr P ro c (Exit.inBlock id Q) a w) : wr P ro (.block id c) Q a w := by
  intro b k cs hb
  obtain ⟨e, a₁, w₁, hq, harr⟩ := h b (.inBlock id :: k) cs hb
  have step := Steps.one (stepR_block (P := P) (b := b) (a := a) (k := k) (cs := cs) (w := w) (id := id) (c := c))
  cases e with
  | normal => exact ⟨.normal, a₁, w₁, hq, step.trans (Steps.trans harr (.one stepR_inBlock))⟩
  | exit id' =>
    obtain ⟨k1, h1, h2⟩ := harr
    by_cases hid : id' = id
    · simp only [Exit.inBlock, hid, if_true] at hq
      refine ⟨.normal, a₁, w₁, hq, step.trans (h1.trans (.one (stepR_exit (h2.trans ?_))))⟩
      simp [exitTo, hid]
    · simp only [Exit.inBlock, hid, if_false] at hq
      refine ⟨.exit id', a₁, w₁, hq, k1, step.trans h1, h2.trans ?_⟩
      have : (id == id') = false := by simp; exact fun h => hid h.symm
      simp [exitTo, this]
  | goto l =>
    obtain ⟨k1, h1, h2⟩ := harr
    exact ⟨_, a₁, w₁, hq, k1, step.trans h1, h2.trans (by simp [gotoIn])⟩
  | ret => obtain ⟨k1, h1⟩ := harr; exact ⟨_, a₁, w₁, hq, k1, step.trans h1⟩
  | panic ch => obtain ⟨k1, hk, h1⟩ := harr; exact ⟨_, a₁, w₁, hq, k1, hk, step.trans h1⟩
  | outgrown => exact harr.elim
theorem stepR_scope {b : Frame} {k : List Item} {cs : List Frame} {c : Code} : step P (lone (b.atR a (.code (.scope c) :: k)) cs w) = .next (lone (b.atR a (.code c :: .inScope c :: k)) cs w) :=
  step_lone_go (by simp [stepG, stepG.exec, Frame.atR])
theorem stepR_inScope {b : Frame} {k : List Item} {cs : List Frame} {c : Code} : step P (lone (b.atR a (.inScope c :: k)) cs w) = .next (lone (b.atR a k) cs w) :=
  step_lone_go (by simp [stepG, stepG.exec, Frame.atR])
theorem wr_scope {c : Code} (h : wr P ro c (fun e a w => match e with | .goto _ => False | e => Q e a w) a w) : wr P ro (.scope c) Q a w := by
  intro b k cs hb
  obtain ⟨e, a₁, w₁, hq, harr⟩ := h b (.inScope c :: k) cs hb
  have step := Steps.one (stepR_scope (P := P) (b := b) (a := a) (k := k) (cs := cs) (w := w) (c := c))
  cases e with
  | normal => exact ⟨.normal, a₁, w₁, hq, step.trans (Steps.trans harr (.one stepR_inScope))⟩
  | exit id =>
    obtain ⟨k1, h1, h2⟩ := harr
    exact ⟨.exit id, a₁, w₁, hq, k1, step.trans h1, h2.trans (by simp [exitTo])⟩
  | goto l => exact hq.elim
  | ret => obtain ⟨k1, h1⟩ := harr; exact ⟨_, a₁, w₁, hq, k1, step.trans h1⟩
  | panic ch => obtain ⟨k1, hk, h1⟩ := harr; exact ⟨_, a₁, w₁, hq, k1, hk, step.trans h1⟩
  | outgrown => exact harr.elim
theorem wr_loop {c : Code} (h : ∀ X : Act → World → Prop, (∀ a w, wr P ro c (Exit.then X Q) a w → X a w) → X a w) : wr P ro (.loop c) Q a w := by
  intro b k cs hb
  have key := h (fun a w => ∃ e a' w', Q e a' w' ∧ ArrR P (lone (b.atR a (.code c :: .inLoop c :: k)) cs w) b k cs e a' w') fun a w hr => by
    obtain ⟨e, a₁, w₁, hq, harr⟩ := hr b (.inLoop c :: k) cs hb
    cases e with
    | normal =>
      obtain ⟨e₂, a₂, w₂, hq₂, harr₂⟩ := hq
      exact ⟨e₂, a₂, w₂, hq₂, .of_steps (Steps.trans harr (.one stepR_inLoop)) harr₂⟩
    | exit id => exact ⟨_, a₁, w₁, hq, .pass (x := .inLoop c) rfl (by simp) harr⟩
    | goto l => exact ⟨_, a₁, w₁, hq, .pass (x := .inLoop c) rfl (by simp) harr⟩
    | ret => exact ⟨_, a₁, w₁, hq, .pass (x := .inLoop c) rfl (by simp) harr⟩
    | panic ch => exact ⟨_, a₁, w₁, hq, .pass (x := .inLoop c) rfl (by simp) harr⟩
    | outgrown => exact harr.elim
  obtain ⟨e, a', w', hq, harr⟩ := key
  exact ⟨e, a', w', hq, .of_steps (.one stepR_loop) harr⟩
theorem RegR_nil (h : Q .normal a w) : RegR P ro ops [] Q a w := fun _ _ _ _ => ⟨.normal, a, w, h, Steps.one stepR_region_end⟩
theorem wr_region {id : Nat} (h : RegR P ro ops (List.range ops.size) Q a w) : wr P ro (.region id ops false) Q a w :=
  fun b k cs hb => let ⟨e, a', w', q, r⟩ := h b k cs hb; ⟨e, a', w', q, .of_steps (.one stepR_region) r⟩
theorem wr_region_draw {id : Nat} (hm : P.follows .mixedOrders = true) (h : ∀ t, RegR P ro ops (Region.linearise .any ops t) Q a { w with drawn := w.drawn + 1 }) : wr P ro (.region id ops true) Q a w :=
  fun b k cs hb => by
    obtain ⟨e, a', w', q, r⟩ := h (w.tape w.drawn (.order b.fn id)) b k cs hb
    refine ⟨e, a', w', q, .of_steps (.one stepR_region_draw) ?_⟩
    simp only [Region.schedule, hm, Bool.true_or, if_true]
    exact r
theorem OpR_out {i : Nat} {K : Act → World → Prop} (hi : ops[i]? = none) (h : K a w) : OpR P ro ops Q i K a w := fun rest hr b k cs hb => by
  obtain ⟨e, a', w', hq, harr⟩ := hr a w h b k cs hb
  have hs := stepR_op_skip (P := P) (b := b) (a := a) (k := k) (cs := cs) (w := w) (ops := ops) (i := i) (rest := rest) (by simp [hi])
  simp only [hi, Option.bind_none, Act.put] at hs
  exact ⟨e, a', w', hq, .of_steps (.one hs) harr⟩
theorem OpR_skip {i : Nat} {o : Oper} {K : Act → World → Prop} (hi : ops[i]? = some o) (hw : Region.wanted o (yielded ops a.tmps) = false) (h : K (a.put o.dst undef) w) : OpR P ro ops Q i K a w := fun rest hr b k cs hb => by
  obtain ⟨e, a', w', hq, harr⟩ := hr _ _ h b k cs hb
  have hs := stepR_op_skip (P := P) (b := b) (a := a) (k := k) (cs := cs) (w := w) (ops := ops) (i := i) (rest := rest) (by simp [hi, hw])
  simp only [hi, Option.bind_some] at hs
  exact ⟨e, a', w', hq, .of_steps (.one hs) harr⟩
theorem OpR_wp {i : Nat} {o : Oper} {K : Act → World → Prop} (hi : ops[i]? = some o) (hw : Region.wanted o (yielded ops a.tmps) = true) (hd : ro = none ∨ ∀ c, o.op ≠ .defer c) (hout : ∀ a w, ¬ Q .outgrown a w) (h : o.wp P a w K Q) : OpR P ro ops Q i K a w := fun rest hr b k cs hb => by
  have hg := stepGR_op (P := P) (b := b) (k := k) (cs := cs) (w := w) (rest := rest) hi hw
  have hsem : o.semAt b.roundOf a.eval = execOp a.eval o := by
    rcases hd with hd | hd
    · rw [hb, hd]; rfl
    · exact Oper.semAt_eq _ _ _ hd
  rw [hsem] at hg
  have hfin : ∀ v, (b.atR a (.inRegion ops (i :: rest) :: k)).finish v = b.atR (a.put o.dst v) (.inRegion ops rest :: k) := by
    intro v; rw [Frame.finish_atR, hi]; rfl
  simp only [Oper.wp, Oper.upon] at h
  split at h
  · rename_i v w' hrun
    obtain ⟨e, a', w'', hq, harr⟩ := hr _ _ h b k cs hb
    refine ⟨e, a', w'', hq, .of_steps (.one (step_lone_go ?_)) harr⟩
    rw [hg, ← hfin]; simp [stepG.apply, hrun]
  · rename_i w' hrun
    obtain ⟨e, a', w'', hq, harr⟩ := hr _ _ h b k cs hb
    refine ⟨e, a', w'', hq, .of_steps (.one (step_lone_go ?_)) harr⟩
    rw [hg, ← hfin]; simp [stepG.apply, hrun]
  · rename_i d w' hrun
    obtain ⟨e, a', w'', hq, harr⟩ := hr _ _ h b k cs hb
    refine ⟨e, a', w'', hq, .of_steps (.one (step_lone_go ?_)) harr⟩
    have : ({ b.atR a (.inRegion ops (i :: rest) :: k) with defers := d :: a.defers } : Frame).finish undef = b.atR ({ a with defers := d :: a.defers }.put o.dst undef) (.inRegion ops rest :: k) := by
      have := Frame.finish_atR b { a with defers := d :: a.defers } ops i rest k undef
      rw [hi] at this; exact this
    rw [hg]; simp only [stepG.apply, Sem.runT_eq, hrun, GStep.bare_after]
    exact congrArg (fun fr => GStep.go { frame := fr, callers := cs, status := .running, dying := none } w') this
  · rename_i f args w' hrun
    obtain ⟨e, w'', fr, hR, hsteps, _, hleave⟩ := h (b.atR a (.inRegion ops (i :: rest) :: k) :: cs)
    have henter : step P (lone (b.atR a (.inRegion ops (i :: rest) :: k)) cs w) = .next (lone (Frame.enter P f args .normal) (b.atR a (.inRegion ops (i :: rest) :: k) :: cs) w') :=
      step_lone_go (by rw [hg]; simp [stepG.apply, hrun, Frame.atR])
    cases e with
    | returned v =>
      obtain ⟨e, a', w₃, hq, harr⟩ := hr _ _ hR b k cs hb
      refine ⟨e, a', w₃, hq, .of_steps (.head henter (Steps.trans hsteps (.one ?_))) harr⟩
      rw [← hfin]; exact step_leave_returned hleave
    | panicked chain =>
      refine ⟨.panic chain, a, w'', hR, .inRegion ops (i :: rest) :: k, trivial, .head henter (Steps.trans hsteps (.one ?_))⟩
      rw [← Frame.raise_atR]; exact step_leave_panicked hleave
    | outgrown =>
      obtain ⟨a₀, w₀, hq⟩ := hR
      exact (hout _ _ hq).elim
  · rename_i row args w' hrun
    obtain ⟨v, w'', hR, hsteps⟩ := h (b.atR a (.inRegion ops (i :: rest) :: k)) cs
    have henter : step P (lone (b.atR a (.inRegion ops (i :: rest) :: k)) cs w) = .next (lone (Frame.ofRow P row args .normal) (b.atR a (.inRegion ops (i :: rest) :: k) :: cs) w') :=
      step_lone_go (by rw [hg]; simp [stepG.apply, hrun, Frame.atR])
    obtain ⟨e, a', w₃, hq, harr⟩ := hr _ _ hR b k cs hb
    refine ⟨e, a', w₃, hq, .of_steps (.head henter ?_) harr⟩
    rw [← hfin]; exact hsteps
  · rename_i v w' hrun
    refine ⟨_, a, w', h, .inRegion ops (i :: rest) :: k, trivial, .one (step_lone_go ?_)⟩
    rw [hg, ← Frame.raise_atR]; simp [stepG.apply, hrun]
  · exact h.elim
theorem OpR_yield {i : Nat} {o : Oper} {K : Act → World → Prop} {l : Nat} {f : FuncId} {tmps : Array Value} {assign body : Code} {w1 : World} (hi : ops[i]? = some o) (hw : Region.wanted o (yielded ops a.tmps) = true) (hd : ∀ c, o.op ≠ .defer c)
    (hrun : (execOp a.eval o).run P w = .ok (.round l f tmps assign body) w1) (h : RoundW P l f tmps assign body w1 fun e w2 => match e with
      | .returned v => K (a.put o.dst v) w2
      | .panicked ch => Q (.panic ch) a w2
      | .outgrown => False) : OpR P ro ops Q i K a w := fun rest hr b k cs hb => by
  have hg := stepGR_op (P := P) (b := b) (k := k) (cs := cs) (w := w) (rest := rest) hi hw
  rw [Oper.semAt_eq _ _ _ hd] at hg
  have hfin : ∀ v, (b.atR a (.inRegion ops (i :: rest) :: k)).finish v = b.atR (a.put o.dst v) (.inRegion ops rest :: k) := by
    intro v; rw [Frame.finish_atR, hi]; rfl
  obtain ⟨e, w2, hR, hsteps⟩ := h (b.atR a (.inRegion ops (i :: rest) :: k)) cs
  have henter : step P (lone (b.atR a (.inRegion ops (i :: rest) :: k)) cs w) = .next (lone (Frame.round l f tmps assign body .normal) (b.atR a (.inRegion ops (i :: rest) :: k) :: cs) w1) :=
    step_lone_go (by rw [hg]; simp [stepG.apply, hrun, Frame.atR])
  cases e with
  | returned v =>
    obtain ⟨e, a', w₃, hq, harr⟩ := hr _ _ hR b k cs hb
    refine ⟨e, a', w₃, hq, .of_steps (.head henter ?_) harr⟩
    rw [← hfin]; exact hsteps
  | panicked ch =>
    refine ⟨.panic ch, a, w2, hR, .inRegion ops (i :: rest) :: k, trivial, .head henter ?_⟩
    rw [← Frame.raise_atR]; exact hsteps
  | outgrown => exact hR.elim
def AnyR (P : Program) (ro : Option Nat) (ops : Array Oper) (Q : Exit → Act → World → Prop) (fuel : Nat) (listed : Array Bool) (a : Act) (w : World) : Prop :=
  ∀ t, RegR P ro ops (Region.linearise.go .any ops fuel t listed []) Q a w
theorem AnyR_zero {listed : Array Bool} (h : Q .normal a w) : AnyR P ro ops Q 0 listed a w := fun t => by
  simp only [Region.linearise.go, List.reverse_nil]
  exact RegR_nil h
theorem AnyR_succ {fuel : Nat} {listed : Array Bool} (h0 : Region.ready .any ops listed = [] → Q .normal a w) (h1 : ∀ i ∈ Region.ready .any ops listed, OpR P ro ops Q i (AnyR P ro ops Q fuel (listed.setIfInBounds i true)) a w) : AnyR P ro ops Q (fuel + 1) listed a w := fun t => by
  simp only [Region.linearise.go]
  change RegR P ro ops (match (Region.ready .any ops listed)[t % (Region.ready .any ops listed).length]? with
    | some i => Region.linearise.go .any ops fuel (t / (Region.ready .any ops listed).length) (listed.setIfInBounds i true) [i]
    | none => [].reverse) Q a w
  cases hi : (Region.ready .any ops listed)[t % (Region.ready .any ops listed).length]? with
  | none =>
    have hnil : Region.ready .any ops listed = [] := by
      cases hr : Region.ready .any ops listed with
      | nil => rfl
      | cons x xs =>
        rw [hr] at hi
        have hlt : t % (x :: xs).length < (x :: xs).length := Nat.mod_lt _ (by simp)
        simp at hi
        simp at hlt
        omega
    exact RegR_nil (h0 hnil)
  | some i =>
    simp only []
    rw [linearise_go_acc, List.reverse_singleton, List.singleton_append]
    exact h1 i (List.mem_of_getElem? hi) _ fun a' w' hk => hk _
theorem wr_region_any {id : Nat} (hm : P.follows .mixedOrders = true) (h : AnyR P ro ops Q ops.size (Array.replicate ops.size false) a { w with drawn := w.drawn + 1 }) : wr P ro (.region id ops true) Q a w :=
  wr_region_draw hm fun t => h t
theorem wp_of_wr {c : Code} (h : wr P none c Q a w) : c.wp P Q a w := fun b k cs => by
  obtain ⟨e, a', w', hq, harr⟩ := h { b with roundOf := none } k cs rfl
  have hat : ∀ (a : Act) (k : List Item), ({ b with roundOf := none } : Frame).atR a k = b.at a k := fun a k => rfl
  refine ⟨e, a', w', hq, ?_⟩
  cases e with
  | normal => exact harr
  | exit id => obtain ⟨k1, h1, h2⟩ := harr; exact fun k' hk => h1.trans (.one (step_exit (h2.trans hk)))
  | goto l => obtain ⟨k1, h1, h2⟩ := harr; exact fun k' hk => h1.trans (.one (step_goto (h2.trans hk)))
  | ret => obtain ⟨k1, h1⟩ := harr; exact ⟨_, h1.trans (.one step_ret)⟩
  | panic ch => obtain ⟨k1, _, h1⟩ := harr; exact ⟨k1, h1⟩
  | outgrown => exact harr.elim
end
end Go.Qg

namespace Go.Qg
open Go.RowKit (Below)
def isPtr : TypeDesc → Bool
  | .pointer _ => true
  | _ => false
def pmeth (P : Program) (t : TypeId) (name : String) : Option FuncId :=
  match (P.info? t).bind fun i => i.methods.find? (·.name == name) with
  | some m => match m.path.toList, m.func, P.underlying t with
    | [], some (f, b), some u => if isPtr u = b then some f else none
    | _, _, _ => none
  | none => none
def pcallee (P : Program) (fr : PF) (c : Call) : Option (FuncId × List PV) :=
  match c.callee with
  | .value x => match rd fr x with
    | .clo (.func f) first cap => some (f, first ++ (c.args.toList.map (rd fr) ++ cap))
    | _ => none
  | .invoke x name => match rd fr x with
    | .ifc t p => match pmeth P t name with
      | some f => some (f, p :: c.args.toList.map (rd fr))
      | none => none
    | _ => none
  | _ => none
def isCall (o : Oper) : Option Call :=
  match o.op with
  | .call c => match c.callee with
    | .value _ => some c
    | .invoke _ _ => some c
    | _ => none
  | _ => none
def isPanic (o : Oper) : Option Operand :=
  match o.op with
  | .panic x => some x
  | _ => none
def lentTgt (H : PF) (ι : List Nat) (md : Bool) : Tgt := tgtAt H ι fun s => md && !ι.contains s
def backOk (fr : PF) (ι news : List Nat) (H2 : PF) : Prop := (ι ++ news).Nodup ∧ H2.length = (ι ++ news).length ∧ ∀ s ∈ news, s < fr.length ∧ objAt fr s = false
def back (fr : PF) (π : List Nat) (H2 : PF) : PF := placeAll (π.getD · 0) π H2 fr
def backV (π : List Nat) (p : PV) : PV := p.ren (π.getD · 0)
def argsOk (fr : PF) (T : Tgt) (qs ps : List PV) : Prop := vwAll (vw fr T 8) qs ps ∨ (qs = ps ∧ namesL ps = [])
def pcall (P : Program) (fr : PF) (f : FuncId) (ps : List PV) (K Kp : PV → PF → Prop) : Prop :=
  ∃ (ι : List Nat) (md : Bool) (H : PF) (qs : List PV) (Q : Out → Prop), ι.Nodup ∧ outF fr (lentTgt H ι md) 8 H ι ∧ argsOk fr (lentTgt H ι md) qs ps ∧ CallW P f qs H Q ∧
    ∀ out, Q out → match out with
      | .ret r H2 => ∃ news, backOk fr ι news H2 ∧ (md = false ∨ (flatL H2 && r.flat) = true) ∧ K (backV (ι ++ news) r) (back fr (ι ++ news) H2)
      | .pan p H2 => ∃ news, backOk fr ι news H2 ∧ (md = false ∨ (flatL H2 && p.flat) = true) ∧ Kp (backV (ι ++ news) p) (back fr (ι ++ news) H2)
def popCall (P : Program) (M : Nat) (K : PF → Prop) (Kp : PV → PF → Prop) (o : Oper) (c : Call) (fr : PF) : Prop :=
  ∃ g, (g = fr ∨ leF fr (tgtOf fr g) M 8 0 g fr) ∧ match pcallee P g c with
    | some (f, ps) => pcall P g f ps (fun r g => pclear o.dst r g = true ∧ K (put o.dst r g)) Kp
    | none => False
def popAny (P : Program) (o : Oper) (fr : PF) (K : PF → Prop) : Prop :=
  match o.op with
  | .binOp .eql t x y _ => match rd fr x, rd fr y with
    | .sl _ _ _, .nil => (tel P t).isSome = true ∧ ∀ b : Bool, pclear o.dst (.v (.bool b)) fr = true ∧ K (put o.dst (.v (.bool b)) fr)
    | _, _ => False
  | _ => False
def pop (P : Program) (M : Nat) (K : PF → Prop) (Kp : PV → PF → Prop) (o : Oper) (fr : PF) : Prop :=
  match isCall o with
  | some c => popCall P M K Kp o c fr
  | none => match isPanic o with
    | some x => match rd fr x with
      | .ifc t p => Kp (.ifc t p) fr
      | _ => False
    | none => match pstep P o fr with
      | some fr' => K fr'
      | none => popAny P o fr K
def pwanted (all : List Oper) (o : Oper) (fr : PF) : Option Bool :=
  match o.guard with
  | none => some true
  | some (j, want) => match (all[j]?).bind (·.dst) with
    | some d => match fr[d]? with
      | some (.v (.bool b)) => some (b == want)
      | some (.tup _) => some false
      | _ => none
    | none => some false
def pops (P : Program) (M : Nat) (all : List Oper) (K : PF → Prop) (Kp : PV → PF → Prop) : List Oper → PF → Prop
  | [], fr => K fr
  | o :: rest, fr => match pwanted all o fr with
    | some b => if b = true then pop P M (pops P M all K Kp rest) Kp o fr else pclear o.dst (.tup []) fr = true ∧ pops P M all K Kp rest (put o.dst (.tup []) fr)
    | none => False
section
variable {P : Program} {N : Nat} {B : Base} {w w' : World} {R R' R2 : Nat → Nat → Prop} {Γ Γ' Γ2 : Nat → Option Loc} {a : Act} {fr fr' : PF} {Q : Exit → Act → World → Prop} {all : List Oper}
theorem isCall_some {o : Oper} {c : Call} (h : isCall o = some c) : o.op = .call c ∧ ∃ x, c.callee = .value x ∨ ∃ m, c.callee = .invoke x m := by
  unfold isCall at h
  split at h
  · rename_i c' ho
    split at h
    · rename_i x hx
      obtain rfl := Option.some.inj h
      exact ⟨ho, x, .inl hx⟩
    · rename_i x m hx
      obtain rfl := Option.some.inj h
      exact ⟨ho, x, .inr ⟨m, hx⟩⟩
    · cases h
  · cases h
theorem run_method {t : TypeId} {name : String} {f : FuncId} (h : pmeth P t name = some f) (n : Nat) (v : Value) (w : World) : (method (n + 1) t v name).run P w = .ok (f, v) w := by
  unfold pmeth at h
  split at h
  case h_2 => cases h
  rename_i m hm
  obtain ⟨i, hi, hf⟩ := Option.bind_eq_some_iff.1 hm
  split at h
  case h_2 => cases h
  rename_i f' b u hp hfn hu
  split at h
  case isFalse => cases h
  rename_i hb
  obtain rfl := Option.some.inj h
  unfold method
  simp only [Sem.run_bind, run_typeInfo w hi, Result.andThen_ok, hf, hp, follow, Sem.run_pure, hfn]
  unfold receiverAt
  simp only [Sem.run_bind, run_underlying hu, Result.andThen_ok]
  cases b with
  | true =>
    cases u with
    | pointer e => simp only [Place.get, Sem.run_bind, Sem.run_pure, Result.andThen_ok]
    | _ => cases hb
  | false =>
    cases u with
    | pointer e => cases hb
    | _ => simp only [Place.get, Sem.run_bind, Sem.run_pure, Result.andThen_ok]
theorem Sim.callee (h : Sim N B R Γ a w fr) {c : Call} {f : FuncId} {ps : List PV} (hp : pcallee P fr c = some (f, ps)) (ty : TypeId) : ∃ vs : List Value, vs.length = ps.length ∧
    (∀ (i : Nat) (u : Value) (p : PV), vs[i]? = some u → ps[i]? = some p → Rep w R Γ u p) ∧ ∀ w, (do let d ← resolve a.eval c ty; invoke d.target d.args : Sem Next).run P w = (callFunc f vs.toArray).run P w := by
  obtain ⟨callee, cargs, ats⟩ := c
  simp only [pcallee] at hp
  split at hp
  case h_3 => cases hp
  case h_2 =>
    rename_i x name
    split at hp
    case h_2 => cases hp
    rename_i t p hrd
    split at hp
    case h_2 => cases hp
    rename_i f' hm
    simp only [Option.some.injEq, Prod.mk.injEq] at hp
    obtain ⟨rfl, rfl⟩ := hp
    have hv := h.rd x
    rw [hrd] at hv
    generalize hux : a.eval x = ux at hv
    cases hv with
    | ifc _ u _ hr =>
    refine ⟨u :: cargs.toList.map a.eval, by simp, fun i u' p' hi hp => ?_, fun w => ?_⟩
    · cases i with
      | zero =>
        have hi := Option.some.inj hi
        have hp := Option.some.inj hp
        subst hi hp
        exact hr
      | succ i =>
        simp only [List.getElem?_cons_succ, List.getElem?_map] at hi hp
        cases hy : cargs.toList[i]? with
        | none => rw [hy] at hi; cases hi
        | some y =>
          rw [hy] at hi hp
          obtain rfl := Option.some.inj hi
          obtain rfl := Option.some.inj hp
          exact h.rd y
    · simp only [resolve, hux]
      rw [show ∀ (x : Deferred) (k : Deferred → Sem Next), (pure x >>= k) = k x from fun _ _ => rfl]
      simp only [invoke]
      have e0 : (#[Value.iface t u] ++ Array.map a.eval cargs)[0]? = some (Value.iface t u) := by rw [Array.getElem?_append_left (by simp)]; rfl
      have e1 : (#[Value.iface t u] ++ Array.map a.eval cargs).extract 1 (#[Value.iface t u] ++ Array.map a.eval cargs).size = Array.map a.eval cargs := by
        apply Array.ext'
        simp only [Array.toList_extract, Array.toList_append, Array.toList_map]
        simp [List.extract]
        exact List.take_of_length_le (by simp)
      rw [e0, e1]
      simp only [callMethod, Sem.run_bind, run_program, Result.andThen_ok]
      rw [show P.types.size + Made.depth = (P.types.size + 99) + 1 from rfl, run_method hm]
      simp only [Result.andThen_ok]
      congr 2
      apply Array.ext'
      simp
  rename_i x
  split at hp
  case h_2 => cases hp
  rename_i f' first cap hrd
  simp only [Option.some.injEq, Prod.mk.injEq] at hp
  obtain ⟨rfl, rfl⟩ := hp
  have hv := h.rd x
  rw [hrd] at hv
  generalize hux : a.eval x = ux at hv
  cases hv with
  | clo _ uf uc _ _ h1 h2 h3 h4 =>
  refine ⟨uf ++ (cargs.toList.map a.eval ++ uc), by simp; omega, fun i u p hi hp => ?_, fun w => ?_⟩
  · by_cases hif : i < uf.length
    · rw [List.getElem?_append_left hif] at hi
      rw [List.getElem?_append_left (by omega)] at hp
      exact h3 i u p hi hp
    · rw [List.getElem?_append_right (by omega)] at hi
      rw [List.getElem?_append_right (by omega), ← h1] at hp
      by_cases hic : i - uf.length < cargs.toList.length
      · rw [List.getElem?_append_left (by simpa using hic), List.getElem?_map] at hi
        rw [List.getElem?_append_left (by simpa using hic), List.getElem?_map] at hp
        cases hy : cargs.toList[i - uf.length]? with
        | none => rw [hy] at hi; cases hi
        | some y =>
          rw [hy] at hi hp
          obtain rfl := Option.some.inj hi
          obtain rfl := Option.some.inj hp
          exact h.rd y
      · rw [List.getElem?_append_right (by simpa using hic)] at hi
        rw [List.getElem?_append_right (by simpa using hic)] at hp
        simp only [List.length_map] at hi hp
        exact h4 _ u p hi hp
  · simp only [resolve, Deferred.ofValue, hux]
    rw [show ∀ (x : Deferred) (k : Deferred → Sem Next), (pure x >>= k) = k x from fun _ _ => rfl]
    simp only [invoke]
    congr 2
    simp [Array.append_assoc]
theorem pcall_sound (h : Sim N B R Γ a w fr) {f : FuncId} {ps : List PV} {vs : List Value} (hl : vs.length = ps.length) (hrep : ∀ (i : Nat) (u : Value) (p : PV), vs[i]? = some u → ps[i]? = some p → Rep w R Γ u p)
    {K Kp : PV → PF → Prop} (hp : pcall P fr f ps K Kp) : (∀ (vs : Array Value) (w : World), (callFunc f vs).run P w = .ok (.enter f vs) w) ∧
    Calls P f vs.toArray w fun e w' => ∃ R' Γ' fr' v q, Sim N B R' Γ' a w' fr' ∧ Rep w' R' Γ' v q ∧ ((e = .returned v ∧ K q fr') ∨ (e = .panicked [{ v := v, recovered := false }] ∧ Kp q fr')) := by
  obtain ⟨ι, md, H, qs, Qo, hι, hout, hvw, hc, hk⟩ := hp
  have hgone : ∀ s ∈ ι, (md && !ι.contains s) = false := fun s hs => by simp [hs]
  obtain ⟨hlend, hRp⟩ := h.lend hout hι hgone
  obtain ⟨_, hview⟩ := h.leave hout hι hgone
  have hlq : qs.length = ps.length := by
    rcases hvw with hvw | ⟨rfl, _⟩
    · exact vwAll_length hvw
    · rfl
  refine ⟨hc.1, (hc.2 w vs _ _ _ hRp hlend (hl.trans hlq.symm) fun i u q hu hq => ?_).mono ?_⟩
  · rcases hvw with hvw | ⟨rfl, hnm⟩
    · obtain ⟨p, hp, hv⟩ := vwAll_get hvw i q hq
      exact hview q p u hv (hrep i u p hu hp)
    · refine (hrep i u q hu hq).free (fun b o hb => ⟨.inl hb, rfl⟩) ?_
      refine List.eq_nil_iff_forall_not_mem.2 fun j hj => ?_
      have := mem_namesL.2 ⟨q, List.mem_of_getElem? hq, hj⟩
      rw [hnm] at this; cases this
  · rintro e w' ⟨R2, Γ2, hcase⟩
    have hmd : ∀ {b : Bool}, md = false ∨ b = true → (∀ s, (md && !ι.contains s) = false) ∨ b = true := fun h => h.imp_left fun h s => by simp [h]
    rcases hcase with ⟨v, r, H2, rfl, hq, hr, hs, hobj⟩ | ⟨v, r, H2, rfl, hq, hr, hs, hobj⟩
    · obtain ⟨news, ⟨h1, h2, h3⟩, hm, hK⟩ := hk _ hq
      have hm1 := hmd (hm.imp_right fun h => by simp only [Bool.and_eq_true] at h; exact h.1)
      have hm2 := hmd (hm.imp_right fun h => by simp only [Bool.and_eq_true] at h; exact h.2)
      obtain ⟨m1, m2⟩ := h.merge (news := news) hout hs h1 h2 h3 hm1 hobj
      exact ⟨_, _, _, v, _, m1, m2 v r hm2 hr, .inl ⟨rfl, hK⟩⟩
    · obtain ⟨news, ⟨h1, h2, h3⟩, hm, hK⟩ := hk _ hq
      have hm1 := hmd (hm.imp_right fun h => by simp only [Bool.and_eq_true] at h; exact h.1)
      have hm2 := hmd (hm.imp_right fun h => by simp only [Bool.and_eq_true] at h; exact h.2)
      obtain ⟨m1, m2⟩ := h.merge (news := news) hout hs h1 h2 h3 hm1 hobj
      exact ⟨_, _, _, v, _, m1, m2 v r hm2 hr, .inr ⟨rfl, hK⟩⟩
def PanUp (N : Nat) (B : Base) (Q : Exit → Act → World → Prop) (Kp : PV → PF → Prop) : Prop := ∀ (R : Nat → Nat → Prop) (Γ : Nat → Option Loc) (a : Act) (w : World) (fr : PF) (v : Value) (p : PV), Sim N B R Γ a w fr → Rep w R Γ v p → Kp p fr → Q (.panic [{ v := v, recovered := false }]) a w
theorem pop_sound (h : SimE N B a w fr) {o : Oper} (hN : ∀ d, o.dst = some d → d < N) {K : PF → Prop} {Kp : PV → PF → Prop} {M : Nat} (hM : B.lo = M) (hp : pop P M K Kp o fr) (hpan : PanUp N B Q Kp) {K' : Act → World → Prop} (hK : ∀ a' w' fr', SimE N B a' w' fr' → K fr' → K' a' w') : o.wp P a w K' Q := by
  unfold pop at hp
  split at hp
  · rename_i c hc
    obtain ⟨g, hg, hp⟩ := hp
    have h : SimE N B a w g := by
      rcases hg with rfl | hg
      · exact h
      · subst hM
        obtain ⟨R, Γ, h⟩ := h
        exact (weak_le h hg).toE
    split at hp
    case h_2 => exact hp.elim
    rename_i f ps hps
    obtain ⟨R, Γ, h⟩ := h
    obtain ⟨ho, _⟩ := isCall_some hc
    obtain ⟨vs, hl, hrep, hcall⟩ := h.callee hps o.type
    obtain ⟨hen, hcalls⟩ := pcall_sound h hl hrep hp
    have he : (execOp a.eval o).run P w = .ok (.enter f vs.toArray) w := by
      simp only [execOp, ho]
      rw [hcall w]
      exact hen _ _
    unfold Oper.wp
    rw [he, Oper.upon_enter]
    refine hcalls.mono ?_
    rintro e w' ⟨R', Γ', fr', v, q, hs, hr, ⟨rfl, hcl, hk⟩ | ⟨rfl, hk⟩⟩
    · exact hK _ _ _ (hs.put o.dst hN hcl hr).toE hk
    · exact hpan _ _ _ _ _ _ _ hs hr hk
  · split at hp
    · rename_i x hx
      split at hp
      case h_2 => exact hp.elim
      rename_i t p hrd
      obtain ⟨R, Γ, h⟩ := h
      have hop : o.op = .panic x := by
        unfold isPanic at hx
        split at hx
        · rename_i y hy
          rw [← Option.some.inj hx]; exact hy
        · cases hx
      have hv := h.rd x
      rw [hrd] at hv
      generalize hux : a.eval x = ux at hv
      cases hv with
      | ifc _ u _ hr =>
      unfold Oper.wp
      have : (execOp a.eval o).run P w = .halt (.panic (.iface t u)) w := by
        simp only [execOp, hop, hux, Instr.panic]
        rfl
      rw [this, Oper.upon_panic]
      exact hpan _ _ _ _ _ _ _ h (.ifc t u p hr) hp
    · split at hp
      · rename_i fr' hs
        exact pstep_sound h hN hs fun a' w' hs' => hK a' w' fr' hs' hp
      · unfold popAny at hp
        split at hp
        case h_2 => exact hp.elim
        rename_i t x y yt ho
        split at hp
        case h_2 => exact hp.elim
        rename_i sz n f hx hy
        obtain ⟨ht, hb⟩ := hp
        obtain ⟨e, he⟩ := Option.isSome_iff_exists.1 ht
        obtain ⟨R, Γ, h⟩ := h
        have hu := h.rd x
        have hv := h.rd y
        rw [hx] at hu
        rw [hy] at hv
        generalize hux : a.eval x = ux at hu
        generalize hvx : a.eval y = vx at hv
        cases hv with
        | nil =>
        cases hu with
        | sl A _ c _ _ us h1 h2 h3 h4 h5 h6 =>
        refine wp_val' (u := .bool A.isNone) (w' := w) ?_ (hK _ _ _ (h.put o.dst hN (hb A.isNone).1 (.v _ rfl)).toE (hb A.isNone).2)
        have hr : (do eqGuard .eql t x y (.slice A n c) (.slice none 0 0); binOp .eql t (.slice A n c) (.slice none 0 0) : Sem Value).run P w = .ok (.bool A.isNone) w := by
          rw [eqGuard_v _ _ _ _ _ _ rfl (by simp)]
          simpa using (run_eq_nilSlice (tel_some he) A n c w).1
        simp only [execOp, ho, hux, hvx, Sem.run_bind] at hr ⊢
        rw [hr]; rfl
theorem SimE.skip (h : SimE N B a w fr) {d : Option Tmp} (hN : ∀ t, d = some t → t < N) (hc : pclear d (.tup []) fr = true) : SimE N B (a.put d undef) w (put d (.tup []) fr) := by
  obtain ⟨R, Γ, h⟩ := h
  exact (h.put d hN hc (u := undef) (p := .tup []) (.tup [] [] rfl (fun i u p hu => by simp at hu))).toE
theorem wanted_sound (h : SimE N B a w fr) {ops : Array Oper} (hall : ops.toList = all) (hN : ∀ o ∈ all, ∀ d, o.dst = some d → d < N) {o : Oper} {b : Bool} (hw : pwanted all o fr = some b) : Region.wanted o (yielded ops a.tmps) = b := by
  obtain ⟨R, Γ, h⟩ := h
  unfold pwanted at hw
  unfold Region.wanted
  split at hw
  · rename_i hg; simp only [hg]; exact Option.some.inj hw
  · rename_i j want hg
    simp only [hg]
    have hj : ops[j]? = all[j]? := by rw [← hall]; simp
    unfold yielded
    rw [hj]
    split at hw
    · rename_i d hd
      rw [hd]
      have hsz := h.size
      have hdN : d < a.tmps.size := by
        rw [hsz]
        cases ho : all[j]? with
        | none => rw [ho] at hd; cases hd
        | some o' => rw [ho] at hd; exact hN o' (List.mem_of_getElem? ho) d hd
      split at hw
      · rename_i b' hs
        have hv : Rep w R Γ (a.tmps.getD d undef) (.v (.bool b')) := SlotRep.val rfl (h.slot d _ hs)
        have hv' : a.tmps[d]? = some (.bool b') := by
          generalize hu : a.tmps.getD d undef = u at hv
          cases hv
          rw [← hu, Array.getD_eq_getD_getElem?, Array.getElem?_eq_getElem hdN]; rfl
        simp only [Option.bind_some, hv']
        rw [← Option.some.inj hw]
        cases b' <;> cases want <;> rfl
      · rename_i cs hs
        have hr : Rep w R Γ (a.tmps.getD d undef) (.tup cs) := SlotRep.val rfl (h.slot d _ hs)
        have hv' : a.tmps[d]? = some (a.tmps.getD d undef) := by
          rw [Array.getD_eq_getD_getElem?, Array.getElem?_eq_getElem hdN]; rfl
        generalize a.tmps.getD d undef = u at hr hv'
        cases hr
        simp only [Option.bind_some, hv']
        exact Option.some.inj hw
      · cases hw
    · rename_i hd
      rw [hd]
      exact Option.some.inj hw
theorem pop_not_defer {M : Nat} {K : PF → Prop} {Kp : PV → PF → Prop} {o : Oper} (hp : pop P M K Kp o fr) : ∀ c, o.op ≠ .defer c := fun c hc => by
  have e1 : isCall o = none := by unfold isCall; rw [hc]
  have e2 : isPanic o = none := by unfold isPanic; rw [hc]
  have e3 : pstep P o fr = none := by unfold pstep; rw [hc]; rfl
  unfold pop at hp
  rw [e1, e2, e3] at hp
  unfold popAny at hp
  rw [hc] at hp
  exact hp
theorem op_sound {ro : Option Nat} (h : SimE N B a w fr) {ops : Array Oper} (hall : ops.toList = all) (hN : ∀ o ∈ all, ∀ d, o.dst = some d → d < N) {M : Nat} (hM : B.lo = M) {K : PF → Prop} {Kp : PV → PF → Prop} (hpan : PanUp N B Q Kp) (hout : ∀ a w, ¬ Q .outgrown a w) {k : Nat} {o : Oper} (hk : all[k]? = some o)
    (hp : match pwanted all o fr with
      | some b => if b = true then pop P M K Kp o fr else pclear o.dst (.tup []) fr = true ∧ K (put o.dst (.tup []) fr)
      | none => False) {K' : Act → World → Prop} (hK : ∀ a' w' fr', SimE N B a' w' fr' → K fr' → K' a' w') : OpR P ro ops Q k K' a w := by
  have hi : ops[k]? = some o := by rw [← hk, ← hall]; simp
  have hoN := hN o (List.mem_of_getElem? hk)
  split at hp
  case h_2 => exact hp.elim
  rename_i b hw
  have hwd := wanted_sound h hall hN hw
  split at hp
  · rename_i hb
    subst hb
    exact OpR_wp hi hwd (.inr (pop_not_defer hp)) hout (pop_sound h hoN hM hp hpan hK)
  · rename_i hb
    obtain rfl : b = false := by simpa using hb
    exact OpR_skip hi hwd (hK _ _ _ (h.skip hoN hp.1) hp.2)
theorem pops_sound {ro : Option Nat} (ops : Array Oper) (hall : ops.toList = all) (hN : ∀ o ∈ all, ∀ d, o.dst = some d → d < N) {M : Nat} (hM : B.lo = M) {K : PF → Prop} {Kp : PV → PF → Prop} (hpan : PanUp N B Q Kp) (hout : ∀ a w, ¬ Q .outgrown a w) (hQ : ∀ a w fr, SimE N B a w fr → K fr → Q .normal a w) :
    ∀ (m k : Nat), k + m = all.length → ∀ (a : Act) (w : World) (fr : PF), SimE N B a w fr → pops P M all K Kp (all.drop k) fr → RegR P ro ops (List.range' k m) Q a w
  | 0, k, hk, a, w, fr, h, hp => by
    rw [List.drop_eq_nil_of_le (by omega)] at hp
    exact RegR_nil (hQ a w fr h hp)
  | m + 1, k, hk, a, w, fr, h, hp => by
    have hlt : k < all.length := by omega
    rw [List.drop_eq_getElem_cons hlt] at hp
    rw [List.range'_succ]
    exact op_sound h hall hN hM hpan hout (List.getElem?_eq_getElem hlt) hp (K' := fun a' w' => ∃ fr', SimE N B a' w' fr' ∧ pops P M all K Kp (all.drop (k + 1)) fr') (fun a' w' fr' h1 h2 => ⟨fr', h1, h2⟩) _
      fun a' w' ⟨fr', h1, h2⟩ => pops_sound ops hall hN hM hpan hout hQ m (k + 1) (by omega) a' w' fr' h1 h2
end
end Go.Qg

namespace Go.Qg
open Go.RowKit (Below)
def deref : PV → List Nat
  | .ref s _ | .elt s _ _ _ | .own s _ _ _ _ | .mp s => [s]
  | _ => []
def tmpOf : Operand → List Nat
  | .tmp t => [t]
  | _ => []
def guardSlot (all : List Oper) (o : Oper) : List Nat :=
  match o.guard with
  | some (j, _) => ((all[j]?).bind (·.dst)).toList
  | none => []
def shapeOnly : Op → Bool
  | .indexAddr _ _ _ | .move _ | .assign _ => true
  | _ => false
def readsOf (all : List Oper) (o : Oper) (fr : PF) : List Nat :=
  let ts := o.op.operands.toList.flatMap tmpOf
  ts ++ (if shapeOnly o.op = true then [] else ts.flatMap fun t => deref (rd fr (.tmp t))) ++ guardSlot all o ++ o.dst.toList
def shapesOf (o : Oper) (fr : PF) : List Nat :=
  if shapeOnly o.op = true then (o.op.operands.toList.flatMap tmpOf).flatMap fun t => deref (rd fr (.tmp t)) else []
def shp : PV → Option (Nat × Nat)
  | .rows _ ep _ sz _ => some (ep, sz)
  | _ => none
def shAt (fr : PF) (s : Nat) : Option (Nat × Nat) := (fr[s]?).bind shp
def writesOf (o : Oper) (fr : PF) : List Nat :=
  o.dst.toList ++ match o.op with
    | .store _ p _ => deref (rd fr p)
    | .mapUpdate _ m _ _ => deref (rd fr m)
    | .call c => match c.callee, c.args.toList with
      | .builtin .append, x :: _ => deref (rd fr x)
      | _, _ => []
    | _ => []
def keeps : PV → Bool
  | .elt _ _ _ _ => true
  | _ => false
def turnsOf (o : Oper) (fr : PF) : List Nat :=
  o.dst.toList ++ match o.op with
    | .store _ p _ => if keeps (rd fr p) = true then [] else deref (rd fr p)
    | .mapUpdate _ m _ _ => deref (rd fr m)
    | .call c => match c.callee, c.args.toList with
      | .builtin .append, x :: _ => deref (rd fr x)
      | _, _ => []
    | _ => []
def noObj (d : Option Tmp) (fr : PF) : Bool :=
  match d with
  | some d => !objAt fr d
  | none => true
def isAppTo (o : Oper) (fr : PF) : Bool :=
  match o.op with
  | .call c => match c.callee, c.args.toList, o.dst with
    | .builtin .append, x :: _, some d => match rd fr x with
      | .own i _ _ _ _ => i == d
      | _ => false
    | _, _, _ => false
  | _ => false
def dstOk (o : Oper) (fr : PF) : Bool := noObj o.dst fr || isAppTo o fr
def dargs (fr : PF) (c : Call) (md : Bool) (qs ps : List PV) : Prop :=
  (md = false ∧ qs = ps ∧ namesL ps = []) ∨ (md = true ∧ ∀ g : PF, (∀ y ∈ c.args.toList, ∀ s ∈ deref (rd fr y), g[s]? = fr[s]?) → vwAll (vw g (lentTgt [] [] true) 8) qs ps)
def PStep (P : Program) (all : List Oper) (o : Oper) (news : List Nat) (fr fr' : PF) : Prop :=
  match pwanted all o fr with
  | some true => match isCall o with
    | some c => match pcallee P fr c with
      | some (f, ps) => noObj o.dst fr = true ∧ ∃ md qs r H2, dargs fr c md qs ps ∧ (md = false ∨ (flatL H2 && r.flat) = true) ∧ CallW P f qs [] (fun out => out = .ret r H2) ∧ backOk fr [] news H2 ∧ (∀ d, o.dst = some d → d ∉ news) ∧ fr' = put o.dst (backV news r) (back fr news H2)
      | none => False
    | none => isPanic o = none ∧ dstOk o fr = true ∧ pstep P o fr = some fr'
  | some false => noObj o.dst fr = true ∧ fr' = put o.dst (.tup []) fr
  | none => False
def apply (us : List (Nat × PV)) (fr : PF) : PF := us.foldl (fun f u => f.set u.1 u.2) fr
theorem apply_length (us : List (Nat × PV)) : ∀ fr : PF, (apply us fr).length = fr.length := by
  induction us with
  | nil => intro fr; rfl
  | cons u us ih => intro fr; simp only [apply, List.foldl_cons]; exact (ih _).trans (by simp)
theorem apply_out {us : List (Nat × PV)} {s : Nat} (h : ∀ u ∈ us, u.1 ≠ s) : ∀ fr : PF, (apply us fr)[s]? = fr[s]? := by
  induction us with
  | nil => intro fr; rfl
  | cons u us ih =>
    intro fr
    simp only [apply, List.foldl_cons]
    have := ih (fun v hv => h v (List.mem_cons_of_mem _ hv)) (fr.set u.1 u.2)
    simp only [apply] at this
    rw [this, List.getElem?_set_ne (h u List.mem_cons_self)]
theorem apply_in {s : Nat} (us : List (Nat × PV)) : ∀ {fr g : PF}, g.length = fr.length → ((∃ u ∈ us, u.1 = s) ∨ g[s]? = fr[s]?) → (apply us g)[s]? = (apply us fr)[s]? := by
  induction us with
  | nil =>
    intro fr g _ h
    rcases h with ⟨u, hu, _⟩ | h
    · cases hu
    · exact h
  | cons u us ih =>
    intro fr g hl h
    simp only [apply, List.foldl_cons]
    refine ih (fr := fr.set u.1 u.2) (g := g.set u.1 u.2) (by simpa using hl) ?_
    by_cases hu : u.1 = s
    · right
      subst hu
      by_cases hlt : u.1 < fr.length
      · rw [List.getElem?_set_self (by omega), List.getElem?_set_self hlt]
      · rw [List.getElem?_eq_none (by simp; omega), List.getElem?_eq_none (by simp; omega)]
    · rcases h with ⟨v, hv, hvs⟩ | h
      · rcases List.mem_cons.1 hv with rfl | hv
        · exact (hu hvs).elim
        · exact .inl ⟨v, hv, hvs⟩
      · right
        rw [List.getElem?_set_ne hu, List.getElem?_set_ne hu, h]
section
variable {P : Program} {fr fr' g : PF} {all : List Oper}
theorem rd_congr {x : Operand} (h : ∀ t ∈ tmpOf x, g[t]? = fr[t]?) : rd g x = rd fr x := by
  cases x with
  | tmp t => simp only [rd, h t (by simp [tmpOf])]
  | _ => rfl
def Ag (fr g : PF) (p : PV) : Prop := ∀ s ∈ deref p, g[s]? = fr[s]?
theorem pown_congr {i ep : Nat} (h : g[i]? = fr[i]?) : pown g i ep = pown fr i ep := by simp only [pown, h]
theorem pcont_congr {p : PV} (h : Ag fr g p) : pcont g p = pcont fr p := by
  cases p with
  | ref s off => simp only [pcont, h s (by simp [deref])]
  | elt s ep k f => simp only [pcont, h s (by simp [deref])]
  | _ => rfl
theorem padd_congr {p : PV} (n : Nat) (h : Ag fr g p) : padd g p n = padd fr p n := by
  cases p with
  | elt s ep k f => simp only [padd, pown_congr (h s (by simp [deref]))]
  | _ => rfl
theorem pindexAddr_congr {t : TypeId} {p : PV} {n : Int} (h : Ag fr g p) : pindexAddr P g t p n = pindexAddr P fr t p n := by
  simp only [pindexAddr]
  split
  · cases p with
    | own s ep off len c => simp only [pown_congr (h s (by simp [deref]))]
    | _ => rfl
  · split
    · split
      · rw [padd_congr _ h]
      · rfl
    · rfl
theorem pslice_congr {t : TypeId} {p : PV} {lo hi mx : Option PV} (h : Ag fr g p) : pslice P g t p lo hi mx = pslice P fr t p lo hi mx := by
  simp only [pslice]
  split
  · cases p with
    | own s ep off len c => cases mx <;> simp only [pown_congr (h s (by simp [deref]))]
    | _ => cases mx <;> rfl
  · rfl
theorem plen_congr {t : TypeId} {p : PV} (h : Ag fr g p) : plen P g t p = plen P fr t p := by
  cases p with
  | own s ep off len c => simp only [plen, pown_congr (h s (by simp [deref]))]
  | mp s => simp only [plen, h s (by simp [deref])]
  | v x => cases x <;> rfl
  | _ => rfl
theorem pisNil_congr {p : PV} (h : Ag fr g p) : pisNil g p = pisNil fr p := by
  cases p with
  | own s ep off len c => simp only [pisNil, pown_congr (h s (by simp [deref]))]
  | _ => rfl
theorem pnil_congr {op : BinOp} {t : TypeId} {lit : Bool} {x y : PV} (h : Ag fr g x) : pnil P g op t lit x y = pnil P fr op t lit x y := by
  cases y <;> simp only [pnil, pisNil_congr h]
theorem prows_congr {p : PV} (h : Ag fr g p) : prows g p = prows fr p := by
  cases p with
  | own s ep off len c => simp only [prows, pown_congr (h s (by simp [deref]))]
  | _ => rfl
theorem pval_congr {op : Op} (h1 : ∀ x ∈ op.operands.toList, rd g x = rd fr x) (h2 : ∀ x ∈ op.operands.toList, Ag fr g (rd fr x)) : pval P g op = pval P fr op := by
  cases op with
  | move x => simp only [pval, h1 x (by simp [Op.operands])]
  | assign x => simp only [pval, h1 x (by simp [Op.operands])]
  | pick c x y => simp only [pval, h1 c (by simp [Op.operands]), h1 x (by simp [Op.operands]), h1 y (by simp [Op.operands])]
  | load t x => simp only [pval, h1 x (by simp [Op.operands]), pcont_congr (h2 x (by simp [Op.operands]))]
  | fieldAddr s x k => simp only [pval, h1 x (by simp [Op.operands]), padd_congr _ (h2 x (by simp [Op.operands]))]
  | field s x k => simp only [pval, h1 x (by simp [Op.operands])]
  | indexAddr t x i => simp only [pval, h1 x (by simp [Op.operands]), h1 i (by simp [Op.operands]), pindexAddr_congr (h2 x (by simp [Op.operands]))]
  | index t x i => simp only [pval, h1 x (by simp [Op.operands]), h1 i (by simp [Op.operands])]
  | slice t x lo hi mx =>
    have hlo : lo.map (rd g) = lo.map (rd fr) := by
      cases lo with
      | none => rfl
      | some y => simp only [Option.map_some, h1 y (by simp [Op.operands])]
    have hhi : hi.map (rd g) = hi.map (rd fr) := by
      cases hi with
      | none => rfl
      | some y => simp only [Option.map_some, h1 y (by simp [Op.operands])]
    have hmx : mx.map (rd g) = mx.map (rd fr) := by
      cases mx with
      | none => rfl
      | some y => simp only [Option.map_some, h1 y (by simp [Op.operands])]
    simp only [pval, h1 x (by simp [Op.operands]), hlo, hhi, hmx, pslice_congr (h2 x (by simp [Op.operands]))]
  | extract x k => simp only [pval, h1 x (by simp [Op.operands])]
  | nilCheck x =>
    have hx := h2 x (by simp [Op.operands])
    simp only [pval, h1 x (by simp [Op.operands])]
    generalize rd fr x = p at hx
    cases p with
    | elt s ep k f => simp only [pown_congr (hx s (by simp [deref]))]
    | _ => rfl
  | makeFunc fn first cap =>
    have e1 : first.toList.map (rd g) = first.toList.map (rd fr) := List.map_congr_left fun x hx => h1 x (by simp [Op.operands]; exact .inl (by simpa using hx))
    have e2 : cap.toList.map (rd g) = cap.toList.map (rd fr) := List.map_congr_left fun x hx => h1 x (by simp [Op.operands]; exact .inr (by simpa using hx))
    simp only [pval, e1, e2]
  | makeInterface t x => simp only [pval, h1 x (by simp [Op.operands])]
  | typeAssert x a b ok => simp only [pval, h1 x (by simp [Op.operands])]
  | binOp op t x y yt => simp only [pval, h1 x (by simp [Op.operands]), h1 y (by simp [Op.operands]), pnil_congr (h2 x (by simp [Op.operands]))]
  | unOp op t x => simp only [pval, h1 x (by simp [Op.operands])]
  | convert s d x => simp only [pval, h1 x (by simp [Op.operands])]
  | build t parts =>
    have e : ∀ p ∈ parts.toList, rd g p.2 = rd fr p.2 := fun p hp => h1 p.2 (by simp only [Op.operands]; exact List.mem_map_of_mem (f := (·.2)) hp)
    have e2 : (parts.toList.map fun p => (p.1, rd g p.2)) = parts.toList.map fun p => (p.1, rd fr p.2) := List.map_congr_left fun p hp => by rw [e p hp]
    simp only [pval, e2]
  | call c =>
    have hm : ∀ x ∈ c.args.toList, x ∈ (Op.call c).operands.toList := fun x hx => by simp only [Op.operands, Call.operands, Array.toList_append]; exact List.mem_append_right _ hx
    have e : c.args.toList.map (rd g) = c.args.toList.map (rd fr) := List.map_congr_left fun x hx => h1 x (hm x hx)
    simp only [pval, e]
    split
    · have hag : ∀ p ∈ c.args.toList.map (rd fr), Ag fr g p := fun p hp => by
        obtain ⟨x, hx, rfl⟩ := List.mem_map.1 hp
        exact h2 x (hm x hx)
      generalize c.args.toList.map (rd fr) = ps at hag
      generalize c.argTypes.toList = ts
      unfold pbuiltin
      split
      · exact plen_congr (hag _ (by simp))
      · rfl
      · rfl
      · rfl
    · rfl
  | _ => rfl
theorem rd_nilv {v : Value} : deref (rd fr (.const v)) = [] := by
  simp only [Qg.rd]
  cases v with
  | agg cs => simp only [cv]; split <;> rfl
  | slice a n c => simp only [cv, cv1]; split <;> rfl
  | _ => rfl
structure Agree (all : List Oper) (o : Oper) (fr g : PF) : Prop where
  len : g.length = fr.length
  reads : ∀ s ∈ readsOf all o fr, g[s]? = fr[s]?
  shapes : ∀ s ∈ shapesOf o fr, shAt g s = shAt fr s
theorem Agree.rd {o : Oper} (h : Agree all o fr g) {x : Operand} (hx : x ∈ o.op.operands.toList) : rd g x = rd fr x :=
  rd_congr fun t ht => h.reads t (by simp only [readsOf]; exact List.mem_append_left _ (List.mem_append_left _ (List.mem_append_left _ (List.mem_flatMap.2 ⟨x, hx, ht⟩))))
theorem Agree.deref {o : Oper} (h : Agree all o fr g) (ho : shapeOnly o.op = false) {x : Operand} (hx : x ∈ o.op.operands.toList) : Ag fr g (Qg.rd fr x) := fun s hs => by
  refine h.reads s ?_
  cases x with
  | tmp t => simp only [readsOf, ho, Bool.false_eq_true, if_false]; exact List.mem_append_left _ (List.mem_append_left _ (List.mem_append_right _ (List.mem_flatMap.2 ⟨t, List.mem_flatMap.2 ⟨_, hx, by simp [tmpOf]⟩, hs⟩)))
  | func f => simp [Qg.rd, Qg.deref] at hs
  | const v => rw [rd_nilv] at hs; cases hs
  | _ => simp [Qg.rd, Qg.deref] at hs
theorem pown_shape {i ep : Nat} (h : shAt g i = shAt fr i) : (pown g i ep).map (·.1) = (pown fr i ep).map (·.1) := by
  have key : ∀ f : PF, (pown f i ep).map (·.1) = (shAt f i).bind fun x => if x.1 = ep then some x.2 else none := fun f => by
    simp only [pown, shAt]
    cases f[i]? with
    | none => rfl
    | some p =>
      cases p <;> simp only [Option.bind_some, shp, Option.bind_none, Option.map_none]
      split <;> rfl
  rw [key, key, h]
theorem pindexAddr_shape {t : TypeId} {p : PV} {n : Int} (h : ∀ s ∈ deref p, shAt g s = shAt fr s) : pindexAddr P g t p n = pindexAddr P fr t p n := by
  have two : ∀ {i ep : Nat}, i ∈ deref p → (pown g i ep = none ∧ pown fr i ep = none) ∨ ∃ sz r r', pown g i ep = some (sz, r) ∧ pown fr i ep = some (sz, r') := fun {i ep} hi => by
    have := pown_shape (ep := ep) (h i hi)
    cases h1 : pown g i ep with
    | none => cases h2 : pown fr i ep with
      | none => exact .inl ⟨rfl, rfl⟩
      | some y => rw [h1, h2] at this; cases this
    | some x => cases h2 : pown fr i ep with
      | none => rw [h1, h2] at this; cases this
      | some y =>
        rw [h1, h2] at this
        obtain ⟨x1, x2⟩ := x
        obtain ⟨y1, y2⟩ := y
        obtain rfl : x1 = y1 := by simpa using this
        exact .inr ⟨x1, x2, y2, rfl, rfl⟩
  simp only [pindexAddr]
  split
  · cases p with
    | own s ep off len c =>
      rcases two (i := s) (ep := ep) (by simp [deref]) with ⟨h1, h2⟩ | ⟨sz, r, r', h1, h2⟩ <;> simp only [h1, h2]
    | _ => rfl
  · split
    · split
      · cases p with
        | elt s ep k f =>
          rcases two (i := s) (ep := ep) (by simp [deref]) with ⟨h1, h2⟩ | ⟨sz, r, r', h1, h2⟩ <;> simp only [padd, h1, h2]
        | _ => rfl
      · rfl
    · rfl
theorem Agree.shape {o : Oper} (h : Agree all o fr g) (ho : shapeOnly o.op = true) {x : Operand} (hx : x ∈ o.op.operands.toList) : ∀ s ∈ Qg.deref (Qg.rd fr x), shAt g s = shAt fr s := fun s hs => by
  refine h.shapes s ?_
  cases x with
  | tmp t => simp only [shapesOf, ho, if_true]; exact List.mem_flatMap.2 ⟨t, List.mem_flatMap.2 ⟨_, hx, by simp [tmpOf]⟩, hs⟩
  | func f => simp [Qg.rd, Qg.deref] at hs
  | const v => rw [rd_nilv] at hs; cases hs
  | _ => simp [Qg.rd, Qg.deref] at hs
theorem Agree.pval {o : Oper} (h : Agree all o fr g) : pval P g o.op = pval P fr o.op := by
  cases hs : shapeOnly o.op with
  | false => exact pval_congr (fun x hx => h.rd hx) (fun x hx => h.deref hs hx)
  | true =>
    have hsh := fun x hx => h.shape hs (x := x) hx
    have hrd := fun x hx => h.rd (x := x) hx
    cases ho : o.op with
    | indexAddr t x i =>
      rw [ho] at hsh hrd
      simp only [Qg.pval, hrd x (by simp [Op.operands]), hrd i (by simp [Op.operands]), pindexAddr_shape (hsh x (by simp [Op.operands]))]
    | move x =>
      rw [ho] at hrd
      simp only [Qg.pval, hrd x (by simp [Op.operands])]
    | assign x =>
      rw [ho] at hrd
      simp only [Qg.pval, hrd x (by simp [Op.operands])]
    | _ => rw [ho] at hs; cases hs
theorem Agree.dst {o : Oper} (h : Agree all o fr g) {d : Nat} (hd : o.dst = some d) : g[d]? = fr[d]? :=
  h.reads d (by simp only [readsOf]; exact List.mem_append_right _ (by simp [hd]))
theorem Agree.noObj {o : Oper} (h : Agree all o fr g) : noObj o.dst g = noObj o.dst fr := by
  unfold Qg.noObj
  cases hd : o.dst with
  | none => rfl
  | some d => simp only [objAt, h.dst hd]
theorem Agree.isAppTo {o : Oper} (h : Agree all o fr g) : isAppTo o g = isAppTo o fr := by
  unfold Qg.isAppTo
  cases ho : o.op with
  | call c =>
    dsimp only
    split
    · rename_i x _ d hc hargs hd
      rw [h.rd (x := x) (by simp [ho, Op.operands, Call.operands, hc, hargs])]
    · rfl
  | _ => rfl
theorem Agree.wanted {o : Oper} (h : Agree all o fr g) : pwanted all o g = pwanted all o fr := by
  unfold pwanted
  cases hg : o.guard with
  | none => rfl
  | some jw =>
    obtain ⟨j, want⟩ := jw
    dsimp only
    cases hd : (all[j]?).bind (·.dst) with
    | none => rfl
    | some d =>
      dsimp only
      rw [h.reads d (by simp only [readsOf]; exact List.mem_append_left _ (List.mem_append_right _ (by simp [guardSlot, hg, hd])))]
def Upd (ws : List Nat) (fr fr' : PF) (S : PF → PF → Prop) (g : PF) : Prop := ∃ us : List (Nat × PV), (∀ u ∈ us, u.1 ∈ ws) ∧ fr' = apply us fr ∧ S g (apply us g)
theorem pclear_noObj {d : Option Tmp} {p : PV} (h : noObj d fr = true) : pclear d p fr = true := by
  cases d with
  | none => rfl
  | some d =>
    simp only [noObj, objAt] at h
    simp only [pclear]
    split
    · rename_i q hq
      rw [hq] at h
      have : q.isObj = false := by simpa using h
      rw [this]; rfl
    · rfl
theorem pput_noObj {d : Option Tmp} {p : PV} (h : noObj d fr = true) : pput d p fr = some (put d p fr) := by
  unfold pput; rw [if_pos (pclear_noObj h)]
theorem noObj_set {d : Option Tmp} (h : noObj d fr = true) {i : Nat} {p : PV} (hi : objAt fr i = true) : noObj d (fr.set i p) = true := by
  cases d with
  | none => rfl
  | some d =>
    simp only [noObj, objAt] at h ⊢
    have hne : i ≠ d := by
      rintro rfl
      simp only [objAt] at hi
      rw [hi] at h; cases h
    rw [List.getElem?_set_ne hne]; exact h
theorem upd_set_put {ws : List Nat} {d : Option Tmp} {i : Nat} {q p : PV} {S : PF → PF → Prop} (hi : i ∈ ws) (hd : ∀ t, d = some t → t ∈ ws) (hS : S g (put d p (g.set i q))) : Upd ws fr (put d p (fr.set i q)) S g := by
  cases d with
  | none => exact ⟨[(i, q)], by simpa using hi, rfl, hS⟩
  | some t => exact ⟨[(i, q), (t, p)], by simp [hi, hd t rfl], rfl, hS⟩
theorem upd_put {ws : List Nat} {d : Option Tmp} {p : PV} {S : PF → PF → Prop} (hd : ∀ t, d = some t → t ∈ ws) (hS : S g (put d p g)) : Upd ws fr (put d p fr) S g := by
  cases d with
  | none => exact ⟨[], by simp, rfl, hS⟩
  | some t => exact ⟨[(t, p)], by simp [hd t rfl], rfl, hS⟩
theorem pnew_local {ws : List Nat} {d : Option Tmp} {p : PV} (hl : g.length = fr.length) (hn : noObj d fr = true) (hn' : noObj d g = true) (hd : ∀ t, d = some t → t ∈ ws) (h : pnew d p fr = some fr') {S : PF → PF → Prop} (hS : ∀ g', pnew d p g = some g' → S g g') : Upd ws fr fr' S g := by
  obtain ⟨t, rfl, ht, _, rfl⟩ := pnew_some h
  refine ⟨[(t, p)], by simp [hd t rfl], rfl, hS _ ?_⟩
  unfold pnew
  dsimp only
  rw [if_pos ⟨hl ▸ ht, pclear_noObj hn'⟩]; rfl
theorem pstore_local {p : PV} {cells : List PV} (hag : Ag fr g p) (h : pstore fr p cells = some fr') : ∃ i q, i ∈ deref p ∧ objAt fr i = true ∧ fr' = fr.set i q ∧ pstore g p cells = some (g.set i q) := by
  cases p with
  | ref s off =>
    have e := hag s (by simp [deref])
    simp only [pstore] at h ⊢
    rw [e]
    split at h
    · rename_i f cs hs
      split at h
      · rename_i hc
        obtain rfl := Option.some.inj h
        refine ⟨s, _, by simp [deref], by simp [objAt, hs, PV.isObj], rfl, ?_⟩
        simp only [if_pos hc]
      · cases h
    · cases h
  | elt i ep k f =>
    have e := hag i (by simp [deref])
    simp only [pstore] at h ⊢
    rw [e]
    split at h
    · rename_i hh ep' e' sz rs hs
      split at h
      · rename_i hep
        split at h
        · rename_i r hr
          split at h
          · rename_i hc
            obtain rfl := Option.some.inj h
            refine ⟨i, _, by simp [deref], by simp [objAt, hs, PV.isObj], rfl, ?_⟩
            simp only [if_pos hep, if_pos hc]
          · cases h
        · cases h
      · cases h
    · cases h
  | _ => cases h
theorem pmapUpdate_local {t : TypeId} {m k v : PV} (hag : Ag fr g m) (h : pmapUpdate P fr t m k v = some fr') : ∃ i q, i ∈ deref m ∧ objAt fr i = true ∧ fr' = fr.set i q ∧ pmapUpdate P g t m k v = some (g.set i q) := by
  unfold pmapUpdate at h ⊢
  split at h
  case h_2 => cases h
  rename_i kt et i ht
  have e := hag i (by simp [deref])
  rw [e]
  split at h
  case h_2 => cases h
  rename_i hh ks vs hs
  split at h
  case isFalse => cases h
  rename_i hok
  simp only [if_pos hok]
  split at h
  · obtain rfl := Option.some.inj h
    exact ⟨i, _, by simp [deref], by simp [objAt, hs, PV.isObj], rfl, rfl⟩
  · obtain rfl := Option.some.inj h
    exact ⟨i, _, by simp [deref], by simp [objAt, hs, PV.isObj], rfl, rfl⟩
  · cases h
theorem plookup_congr {t : TypeId} {m k : PV} {ok : Bool} (hag : Ag fr g m) : plookup P g t m k ok = plookup P fr t m k ok := by
  unfold plookup
  split
  · rename_i i ht
    rw [hag i (by simp [deref])]
  · rfl
end
end Go.Qg

namespace Go.Qg
open Go.RowKit (Below)
section
variable {P : Program} {fr fr' g : PF} {all : List Oper}
theorem step_of {o : Oper} {news : List Nat} (hw : pwanted all o g = some true) (hc : isCall o = none) (hp : isPanic o = none) (hd : dstOk o g = true) (h : pstep P o g = some fr') : PStep P all o news g fr' := by
  unfold PStep; rw [hw]
  simp only [hc]; exact ⟨hp, hd, h⟩
theorem objAt_congr {i : Nat} (h : g[i]? = fr[i]?) : objAt g i = objAt fr i := by simp only [objAt, h]
theorem pappend_local {o : Oper} {c : Call} (ho : o.op = .call c) (hcal : c.callee = .builtin .append) {d : Nat} (hd : o.dst = some d) {t : TypeId} {x y : Operand} (hargs : c.args.toList = [x, y]) (h : Agree all o fr g) (hb : dstOk o fr = true) (hp : pappend P t (rd fr x) (rd fr y) d fr = some fr')
    {S : PF → PF → Prop} (hS : ∀ g', pappend P t (rd g x) (rd g y) d g = some g' → S g g') : Upd (writesOf o fr) fr fr' S g := by
  have hx : x ∈ o.op.operands.toList := by simp [ho, Op.operands, Call.operands, hcal, hargs]
  have hy : y ∈ o.op.operands.toList := by simp [ho, Op.operands, Call.operands, hcal, hargs]
  have hwd : ∀ t, some d = some t → t ∈ writesOf o fr := fun t e => by obtain rfl := Option.some.inj e; simp [writesOf, hd]
  rw [h.rd hx, h.rd hy] at hS
  have hpy : prows g (rd fr y) = prows fr (rd fr y) := prows_congr (h.deref (by rw [ho]; rfl) hy)
  have hax := h.deref (by rw [ho]; rfl) hx
  have hwx : ∀ i ∈ deref (rd fr x), i ∈ writesOf o fr := fun i hi => by simp [writesOf, ho, hcal, hargs, hi]
  have hno : (∀ i ep off n cc, rd fr x = .own i ep off n cc → i ≠ d) → noObj (some d) fr = true ∧ noObj (some d) g = true := fun hne => by
    have h1 : noObj (some d) fr = true := by
      simp only [dstOk, Bool.or_eq_true] at hb
      rcases hb with hb | hb
      · rwa [hd] at hb
      · exfalso
        simp only [isAppTo, ho, hcal, hargs, hd] at hb
        split at hb
        · rename_i i ep off n cc hxe
          exact hne _ _ _ _ _ hxe (by simpa using hb)
        · cases hb
    refine ⟨h1, ?_⟩
    have := h.noObj
    rw [hd] at this
    rw [this]; exact h1
  unfold pappend at hp hS
  rw [hpy] at hS
  split at hp
  case h_1 => cases hp
  rename_i e he
  rw [he] at hS
  dsimp only at hS
  split at hp
  case h_2 => cases hp
  rename_i sz bytes zl sz' news hs hby hz hyr
  rw [hs, hby, hz, hyr] at hS
  dsimp only at hS
  split at hp
  case isFalse => cases hp
  rename_i hcond
  rw [if_pos hcond] at hS
  generalize hxe : rd fr x = px at *
  split at hp
  · rename_i i ep off n cc
    have hgi : g[i]? = fr[i]? := hax i (by simp [deref])
    have hwi := hwx i (by simp [deref])
    simp only [hgi] at hS
    split at hp
    case h_2 => cases hp
    rename_i hh ep' e' sz'' rs hfr
    simp only [hfr] at hS
    split at hp
    case isFalse => cases hp
    rename_i hq
    rw [if_pos hq] at hS
    obtain ⟨hlim, hp⟩ := guard_some hp
    rw [guard_pos hlim] at hS
    split at hp
    · rename_i hdi
      rw [if_pos hdi] at hS
      split at hp
      case isFalse => cases hp
      rename_i hdl
      obtain rfl := Option.some.inj hp
      refine ⟨[(i, _)], by simpa using hwi, rfl, hS _ ?_⟩
      rw [if_pos (by rw [h.len]; exact hdl)]; rfl
    · rename_i hdi
      rw [if_neg hdi] at hS
      obtain ⟨n1, n2⟩ := hno (fun i' _ _ _ _ e => by obtain ⟨rfl, _⟩ := PV.own.inj e; exact fun e => hdi e.symm)
      obtain ⟨_, rfl⟩ := pput_some hp
      refine upd_set_put hwi hwd (hS _ ?_)
      rw [pput_noObj (noObj_set n2 (by rw [objAt_congr hgi]; simp [objAt, hfr, PV.isObj]))]
  · obtain ⟨hlim, hp⟩ := guard_some hp
    dsimp only at hS
    rw [guard_pos hlim] at hS
    obtain ⟨n1, n2⟩ := hno (fun i' _ _ _ _ e => by cases e)
    exact pnew_local h.len n1 n2 hwd hp hS
  · cases hp
theorem noObj_of_dstOk {o : Oper} (hb : dstOk o fr = true) (hn : isAppTo o fr = false) : noObj o.dst fr = true := by
  simpa [dstOk, hn] using hb
theorem upd_places {ws : List Nat} (us : List (Nat × PV)) (h : ∀ u ∈ us, u.1 ∈ ws) {S : PF → PF → Prop} (hS : S g (apply us g)) : Upd ws fr (apply us fr) S g := ⟨us, h, rfl, hS⟩
theorem apply_append (us vs : List (Nat × PV)) (f : PF) : apply (us ++ vs) f = apply vs (apply us f) := by simp [apply, List.foldl_append]
theorem placeAll_apply (r : Nat → Nat) : ∀ (π : List Nat) (H : List PV) (f g : PF), π.Nodup → (∀ s ∈ π, objAt f s = false) → (∀ s ∈ π, objAt g s = false) →
    ∃ us : List (Nat × PV), (∀ u ∈ us, u.1 ∈ π) ∧ placeAll r π H f = apply us f ∧ placeAll r π H g = apply us g
  | [], H, f, g, _, _, _ => ⟨[], by simp, by cases H <;> rfl, by cases H <;> rfl⟩
  | s :: π, [], f, g, _, _, _ => ⟨[], by simp, rfl, rfl⟩
  | s :: π, q :: H, f, g, hn, h1, h2 => by
    have hfl : ∀ {f : PF}, objAt f s = false → (f.getD s .undef).flagOf (q.ren r) = q.ren r := fun {f} h => by
      have : (f.getD s .undef).isObj = false := by
        simp only [List.getD]
        cases hf : f[s]? with
        | none => rfl
        | some p => simpa [objAt, hf] using h
      generalize f.getD s .undef = p at this
      cases p <;> first | rfl | cases this
    have hset : ∀ {f : PF}, (∀ s' ∈ s :: π, objAt f s' = false) → ∀ s' ∈ π, objAt (f.set s (q.ren r)) s' = false := fun {f} h s' hs' => by
      have hne : s ≠ s' := by rintro rfl; exact (List.nodup_cons.1 hn).1 hs'
      simp only [objAt, List.getElem?_set_ne hne]
      exact h s' (List.mem_cons_of_mem _ hs')
    obtain ⟨us, e1, e2, e3⟩ := placeAll_apply r π H (f.set s (q.ren r)) (g.set s (q.ren r)) (List.nodup_cons.1 hn).2 (hset h1) (hset h2)
    refine ⟨(s, q.ren r) :: us, fun u hu => ?_, ?_, ?_⟩
    · rcases List.mem_cons.1 hu with rfl | hu
      · exact List.mem_cons_self
      · exact List.mem_cons_of_mem _ (e1 u hu)
    · simp only [placeAll]; rw [hfl (h1 s List.mem_cons_self), e2]; rfl
    · simp only [placeAll]; rw [hfl (h2 s List.mem_cons_self), e3]; rfl
theorem deref_names {p : PV} : ∀ s ∈ deref p, s ∈ p.names := fun s hs => by
  cases p <;> simp_all [deref, PV.names]
theorem step_local {o : Oper} {news : List Nat} (hs : PStep P all o news fr fr') (h : Agree all o fr g) (hnews : ∀ s ∈ news, g[s]? = fr[s]?) : Upd (writesOf o fr ++ news) fr fr' (fun g g' => PStep P all o news g g') g := by
  have hw := h.wanted
  have wd : ∀ t, o.dst = some t → t ∈ writesOf o fr := fun t ht => by simp [writesOf, ht]
  have wd' : ∀ t, o.dst = some t → t ∈ writesOf o fr ++ news := fun t ht => List.mem_append_left _ (wd t ht)
  have weak : ∀ {S : PF → PF → Prop}, Upd (writesOf o fr) fr fr' S g → Upd (writesOf o fr ++ news) fr fr' S g := fun ⟨us, h1, h2⟩ => ⟨us, fun u hu => List.mem_append_left _ (h1 u hu), h2⟩
  unfold PStep at hs
  split at hs
  case h_3 => exact hs.elim
  case h_2 =>
    rename_i hwf
    obtain ⟨hn, rfl⟩ := hs
    refine upd_put wd' ?_
    unfold PStep; rw [hw, hwf]
    exact ⟨h.noObj.trans hn, rfl⟩
  rename_i hwt
  have hwg : pwanted all o g = some true := hw.trans hwt
  split at hs
  · -- a call
    rename_i c hc
    obtain ⟨ho, x, hx⟩ := isCall_some hc
    split at hs
    case h_2 => exact hs.elim
    rename_i f ps hpa
    obtain ⟨hno, md, qs, r, H2, hfree, hmd, hcw, ⟨b1, b2, b3⟩, hdn, rfl⟩ := hs
    have hxo : x ∈ o.op.operands.toList := by rcases hx with hx | ⟨m, hx⟩ <;> simp [ho, Op.operands, Call.operands, hx]
    have hargs : ∀ y ∈ c.args.toList, y ∈ o.op.operands.toList := fun y hy => by
      simp only [ho, Op.operands, Call.operands, Array.toList_append]; exact List.mem_append_right _ hy
    have hfree' : dargs g c md qs ps := hfree.imp_right fun ⟨e, hv⟩ => ⟨e, fun g' hg' => hv g' fun y hy s hs => by
      have e1 : rd g y = rd fr y := h.rd (hargs y hy)
      rw [hg' y hy s (by rw [e1]; exact hs)]
      exact h.deref (by rw [ho]; rfl) (hargs y hy) s hs⟩
    have hpg : pcallee P g c = some (f, ps) := by
      have e : c.args.toList.map (rd g) = c.args.toList.map (rd fr) := List.map_congr_left fun y hy => h.rd (hargs y hy)
      unfold pcallee at hpa ⊢
      rcases hx with hx | ⟨m, hx⟩
      all_goals
        simp only [hx] at hpa ⊢
        rw [h.rd hxo, e]; exact hpa
    have hog : ∀ s ∈ news, objAt g s = false := fun s hs => by rw [objAt_congr (hnews s hs)]; exact (b3 s hs).2
    obtain ⟨us, e1, e2, e3⟩ := placeAll_apply (news.getD · 0) news H2 fr g (by simpa using b1) (fun s hs => (b3 s hs).2) hog
    have key : PStep P all o news g (put o.dst (backV news r) (back g news H2)) := by
      unfold PStep
      rw [hwg]
      simp only [hc, hpg]
      exact ⟨h.noObj.trans hno, md, qs, r, H2, hfree', hmd, hcw, ⟨b1, b2, fun s hs => ⟨by rw [h.len]; exact (b3 s hs).1, hog s hs⟩⟩, hdn, rfl⟩
    simp only [back] at key ⊢
    rw [e3] at key
    rw [e2]
    cases hd : o.dst with
    | none =>
      rw [hd] at key
      exact ⟨us, fun u hu => List.mem_append_right _ (e1 u hu), rfl, key⟩
    | some d =>
      rw [hd] at key
      refine ⟨us ++ [(d, backV news r)], fun u hu => ?_, by rw [apply_append]; rfl, ?_⟩
      · rcases List.mem_append.1 hu with hu | hu
        · exact List.mem_append_right _ (e1 u hu)
        · obtain rfl : u = (d, backV news r) := by simpa using hu
          exact wd' _ hd
      · rw [apply_append]; exact key
  · -- any other operation
    rename_i hc
    obtain ⟨hpn, hb, hs⟩ := hs
    have hbg : dstOk o g = true := by
      unfold dstOk at hb ⊢
      rw [h.noObj, h.isAppTo]; exact hb
    refine weak ?_
    have val : isAppTo o fr = false → ∀ fr', (match pval P fr o.op with | some p => pput o.dst p fr | none => none) = some fr' → (∀ g', (match pval P g o.op with | some p => pput o.dst p g | none => none) = some g' → pstep P o g = some g') → Upd (writesOf o fr) fr fr' (fun g g' => PStep P all o news g g') g := by
      intro hna fr' hp hg
      have hno := noObj_of_dstOk hb hna
      split at hp
      case h_2 => cases hp
      rename_i p hpv
      have hpg : pval P g o.op = some p := by
        rw [h.pval]; exact hpv
      obtain ⟨_, rfl⟩ := pput_some hp
      refine upd_put wd (step_of hwg hc hpn hbg (hg _ ?_))
      rw [hpg]
      exact pput_noObj (h.noObj.trans hno)
    have newl : isAppTo o fr = false → ∀ (p : PV), pnew o.dst p fr = some fr' → (∀ g', pnew o.dst p g = some g' → pstep P o g = some g') → Upd (writesOf o fr) fr fr' (fun g g' => PStep P all o news g g') g := fun hna p hp hg => by
      have hno := noObj_of_dstOk hb hna
      exact pnew_local h.len hno (h.noObj.trans hno) wd hp fun g' hg' => step_of hwg hc hpn hbg (hg g' hg')
    have hop' : ∀ {op}, o.op = op → (∀ c, op ≠ .call c) → isAppTo o fr = false := fun he hne => by
      unfold isAppTo
      split
      · rename_i c hcc
        exact (hne c (he.symm.trans hcc)).elim
      · rfl
    cases hop : o.op with
    | alloc t =>
      simp only [pstep, hop] at hs
      split at hs
      case h_2 => cases hs
      rename_i z hz
      exact newl (hop' hop (by simp)) _ hs fun g' hg' => by simp only [pstep, hop, hz]; exact hg'
    | box t x =>
      have hx : x ∈ o.op.operands.toList := by simp [hop, Op.operands]
      simp only [pstep, hop] at hs
      split at hs
      case isFalse => cases hs
      rename_i hcond
      exact newl (hop' hop (by simp)) _ hs fun g' hg' => by simp only [pstep, hop, h.rd hx]; rw [if_pos hcond]; exact hg'
    | store t p x =>
      have hx : x ∈ o.op.operands.toList := by simp [hop, Op.operands]
      have hp : p ∈ o.op.operands.toList := by simp [hop, Op.operands]
      have hno := noObj_of_dstOk hb (hop' hop (by simp))
      simp only [pstep, hop] at hs
      split at hs
      case isFalse => cases hs
      rename_i hcond
      split at hs
      case h_2 => cases hs
      rename_i fr1 hst
      obtain ⟨i, q, hi, hoi, rfl, hsg⟩ := pstore_local (h.deref (by rw [hop]; rfl) hp) hst
      obtain ⟨_, rfl⟩ := pput_some hs
      have hgi : g[i]? = fr[i]? := h.deref (by rw [hop]; rfl) hp i hi
      refine upd_set_put (by simp [writesOf, hop, hi]) wd (step_of hwg hc hpn hbg ?_)
      simp only [pstep, hop, h.rd hx, h.rd hp]
      rw [if_pos hcond, hsg]
      exact pput_noObj (noObj_set (h.noObj.trans hno) (by rw [objAt_congr hgi]; exact hoi))
    | mapUpdate t m k x =>
      have hx : x ∈ o.op.operands.toList := by simp [hop, Op.operands]
      have hk : k ∈ o.op.operands.toList := by simp [hop, Op.operands]
      have hm : m ∈ o.op.operands.toList := by simp [hop, Op.operands]
      have hno := noObj_of_dstOk hb (hop' hop (by simp))
      simp only [pstep, hop] at hs
      split at hs
      case h_2 => cases hs
      rename_i fr1 hst
      obtain ⟨i, q, hi, hoi, rfl, hsg⟩ := pmapUpdate_local (h.deref (by rw [hop]; rfl) hm) hst
      obtain ⟨_, rfl⟩ := pput_some hs
      have hgi : g[i]? = fr[i]? := h.deref (by rw [hop]; rfl) hm i hi
      refine upd_set_put (by simp [writesOf, hop, hi]) wd (step_of hwg hc hpn hbg ?_)
      simp only [pstep, hop, h.rd hx, h.rd hm, h.rd hk, hsg]
      exact pput_noObj (noObj_set (h.noObj.trans hno) (by rw [objAt_congr hgi]; exact hoi))
    | lookup t m k ok =>
      have hk : k ∈ o.op.operands.toList := by simp [hop, Op.operands]
      have hm : m ∈ o.op.operands.toList := by simp [hop, Op.operands]
      have hno := noObj_of_dstOk hb (hop' hop (by simp))
      simp only [pstep, hop] at hs
      split at hs
      case h_2 => cases hs
      rename_i p hp
      obtain ⟨_, rfl⟩ := pput_some hs
      refine upd_put wd (step_of hwg hc hpn hbg ?_)
      simp only [pstep, hop, h.rd hm, h.rd hk, plookup_congr (h.deref (by rw [hop]; rfl) hm), hp]
      exact pput_noObj (h.noObj.trans hno)
    | buildSlice t len parts =>
      have hr : ∀ p ∈ parts.toList, rd g p.2 = rd fr p.2 := fun p hp => h.rd (by simp only [hop, Op.operands]; exact List.mem_map_of_mem (f := (·.2)) hp)
      have e2 : (parts.toList.map fun p => (p.1, rd g p.2)) = parts.toList.map fun p => (p.1, rd fr p.2) := List.map_congr_left fun p hp => by rw [hr p hp]
      simp only [pstep, hop] at hs
      split at hs
      case h_2 => cases hs
      rename_i e he
      split at hs
      case h_2 => cases hs
      rename_i sz z hsz hz
      split at hs
      case isFalse => cases hs
      rename_i hcond
      split at hs
      case h_2 => cases hs
      rename_i cs hcs
      exact newl (hop' hop (by simp)) _ hs fun g' hg' => by
        simp only [pstep, hop, he, hsz, hz, e2]
        rw [if_pos hcond, hcs]; exact hg'
    | makeSlice t l c =>
      have hl : l ∈ o.op.operands.toList := by simp [hop, Op.operands]
      have hcc : c ∈ o.op.operands.toList := by simp [hop, Op.operands]
      simp only [pstep, hop] at hs
      split at hs
      case h_2 => cases hs
      rename_i e n m he hn hm
      split at hs
      case h_2 => cases hs
      rename_i sz z bytes hsz hz hby
      split at hs
      case isFalse => cases hs
      rename_i hcond
      obtain ⟨hg', hs⟩ := guard_some hs
      exact newl (hop' hop (by simp)) _ hs fun g1 hg1 => by
        simp only [pstep, hop, he, h.rd hl, h.rd hcc, hn, hm, hsz, hz, hby]
        rw [if_pos hcond, guard_pos hg']; exact hg1
    | makeMap t r =>
      cases r with
      | some r => simp only [pstep, hop, pval] at hs; cases hs
      | none =>
        simp only [pstep, hop] at hs
        exact newl (hop' hop (by simp)) _ hs fun g' hg' => by simp only [pstep, hop]; exact hg'
    | call c =>
      simp only [pstep, hop] at hs
      split at hs
      · rename_i d hcal hd
        split at hs
        · rename_i x y t t' hargs hts
          split at hs
          case isFalse => cases hs
          rename_i htt
          refine pappend_local hop hcal hd hargs h hb hs fun g' hg' => step_of hwg hc hpn hbg ?_
          simp only [pstep, hop, hcal, hd, hargs, hts]
          rw [if_pos htt]; exact hg'
        · cases hs
      · rename_i hno
        have hna : isAppTo o fr = false := by
          unfold isAppTo
          rw [hop]
          dsimp only
          split
          · rename_i d hcal hargs hd
            exact (hno d hcal hd).elim
          · rfl
        rw [← hop] at hs
        refine val hna _ hs fun g' hg' => ?_
        simp only [pstep, hop]
        rw [← hop]; exact hg'
    | _ => simp only [pstep, hop] at hs; rw [← hop] at hs; exact val (hop' hop (by simp)) _ hs fun g' hg' => by simp only [pstep, hop]; rw [← hop]; exact hg'
theorem step_shape {o : Oper} {news : List Nat} (hs : PStep P all o news fr fr') {s : Nat} (h : s ∉ turnsOf o fr ++ news) : shAt fr' s = shAt fr s := by
  obtain ⟨us, h0, he, _⟩ := step_local hs (g := fr) ⟨rfl, fun _ _ => rfl, fun _ _ => rfl⟩ (fun _ _ => rfl)
  have out : s ∉ writesOf o fr ++ news → shAt fr' s = shAt fr s := fun hn => by
    simp only [shAt]
    rw [he, apply_out (s := s) (fun u hu e => hn (by have := h0 u hu; rwa [e] at this))]
  have hd : ∀ d, o.dst = some d → d ≠ s := fun d e1 e2 => h (List.mem_append_left _ (by simp [turnsOf, e1, e2]))
  have hput : ∀ (p : PV) (f : PF), shAt (put o.dst p f) s = shAt f s := fun p f => by
    cases e : o.dst with
    | none => rfl
    | some d => simp only [put, shAt]; rw [List.getElem?_set_ne (hd d e)]
  have other : turnsOf o fr = writesOf o fr → shAt fr' s = shAt fr s := fun e => out (e ▸ h)
  cases hop : o.op with
  | store t p x =>
    cases hk : keeps (rd fr p) with
    | false => exact other (by simp [turnsOf, writesOf, hop, hk])
    | true =>
      unfold PStep at hs
      split at hs
      case h_3 => exact hs.elim
      case h_2 => rw [hs.2]; exact hput _ _
      split at hs
      · rename_i c hc
        rw [(isCall_some hc).1] at hop
        cases hop
      · obtain ⟨_, _, hs⟩ := hs
        simp only [pstep, hop] at hs
        split at hs
        case isFalse => cases hs
        split at hs
        case h_2 => cases hs
        rename_i fr1 hst
        obtain ⟨_, rfl⟩ := pput_some hs
        rw [hput]
        cases hp : rd fr p with
        | elt i ep k f =>
          rw [hp] at hst
          simp only [pstore] at hst
          split at hst
          case h_2 => cases hst
          rename_i hh ep' e sz rs hi
          split at hst
          case isFalse => cases hst
          rename_i hep
          split at hst
          case h_2 => cases hst
          split at hst
          case isFalse => cases hst
          obtain rfl := Option.some.inj hst
          simp only [shAt]
          by_cases his : i = s
          · subst his
            rw [List.getElem?_set_self (lt_of_get? hi), hi]
            simp [shp, hep]
          · rw [List.getElem?_set_ne his]
        | _ => rw [hp] at hk; cases hk
  | _ => exact other (by simp only [turnsOf, writesOf, hop])
end
end Go.Qg

namespace Go.Qg
open Go.RowKit (Below)
structure Fp where
  rs : List Nat
  ss : List Nat
  ws : List Nat
  ts : List Nat
def Fp.indep (x y : Fp) : Bool := x.ws.all (fun s => !y.rs.contains s && !y.ws.contains s) && y.ws.all (fun s => !x.rs.contains s) && x.ts.all (fun s => !y.ss.contains s) && y.ts.all (fun s => !x.ss.contains s)
def fpOf (all : List Oper) (o : Oper) (news : List Nat) (fr : PF) : Fp := ⟨readsOf all o fr ++ news, shapesOf o fr, writesOf o fr ++ news, turnsOf o fr ++ news⟩
def befs : List Oper → List Nat → List Nat
  | [], acc => acc
  | o :: l, acc => befs l (acc ++ [o.after.toList.foldl (fun s e => if Region.binds .any e then s ||| (2 ^ e.on ||| acc.getD e.on 0) else s) 0])
def edgesOk (all : List Oper) : Bool := all.zipIdx.all fun x => x.1.after.toList.all fun e => !Region.binds .any e || decide (e.on < x.2)
def pairsOk (m : List Nat) : Nat → List Fp → List Fp → Bool
  | _, _, [] => true
  | i, before, y :: l => (before.zipIdx.all fun x => x.1.indep y || (m.getD i 0).testBit x.2) && pairsOk m (i + 1) (before ++ [y]) l
def seqOk (all : List Oper) (m : Nat) : Bool := (List.range all.length).all fun j => decide (j < m) || (List.range j).all fun i => ((befs all []).getD j 0).testBit i
def drawOk (all : List Oper) (m : Nat) (its : List Fp) : Bool := edgesOk all && pairsOk (befs all []) 0 [] its && seqOk all m
section
variable {P : Program} {fr fr' g : PF} {all : List Oper}
theorem flatMap_congr {α β : Type} {f f' : α → List β} : ∀ {l : List α}, (∀ x ∈ l, f x = f' x) → l.flatMap f = l.flatMap f'
  | [], _ => rfl
  | x :: l, h => by rw [List.flatMap_cons, List.flatMap_cons, h x List.mem_cons_self, flatMap_congr fun y hy => h y (List.mem_cons_of_mem _ hy)]
theorem Agree.fp {o : Oper} (h : Agree all o fr g) (news : List Nat) : fpOf all o news g = fpOf all o news fr := by
  have hfl : ((o.op.operands.toList.flatMap tmpOf).flatMap fun t => Qg.deref (Qg.rd g (.tmp t))) = (o.op.operands.toList.flatMap tmpOf).flatMap fun t => Qg.deref (Qg.rd fr (.tmp t)) := by
    refine flatMap_congr fun t ht => ?_
    obtain ⟨x, hx, htx⟩ := List.mem_flatMap.1 ht
    cases x with
    | tmp t' =>
      obtain rfl : t = t' := by simpa [tmpOf] using htx
      rw [h.rd hx]
    | _ => simp [tmpOf] at htx
  have e1 : readsOf all o g = readsOf all o fr := by
    simp only [readsOf, hfl]
  have e3 : shapesOf o g = shapesOf o fr := by
    simp only [shapesOf, hfl]
  have e2 : writesOf o g = writesOf o fr := by
    simp only [writesOf]
    congr 1
    cases hop : o.op with
    | store t p x => simp only; rw [h.rd (by simp [hop, Op.operands])]
    | mapUpdate t m k x => simp only; rw [h.rd (by simp [hop, Op.operands])]
    | call c =>
      dsimp only
      split
      · rename_i x _ hc hargs
        rw [h.rd (by simp [hop, Op.operands, Call.operands, hc, hargs])]
      · rfl
    | _ => rfl
  have e4 : turnsOf o g = turnsOf o fr := by
    simp only [turnsOf]
    congr 1
    cases hop : o.op with
    | store t p x => simp only; rw [h.rd (by simp [hop, Op.operands])]
    | mapUpdate t m k x => simp only; rw [h.rd (by simp [hop, Op.operands])]
    | call c =>
      dsimp only
      split
      · rename_i x _ hc hargs
        rw [h.rd (by simp [hop, Op.operands, Call.operands, hc, hargs])]
      · rfl
    | _ => rfl
  simp only [fpOf, e1, e2, e3, e4]
structure It where
  o : Oper
  news : List Nat
  fp : Fp
def Run (P : Program) (all : List Oper) : List It → PF → PF → Prop
  | [], fr, fr' => fr = fr'
  | it :: l, fr, fr' => ∃ m, (PStep P all it.o it.news fr m ∧ fpOf all it.o it.news fr = it.fp) ∧ Run P all l m fr'
theorem indep_spec {x y : Fp} (h : x.indep y = true) : (∀ s ∈ x.ws, s ∉ y.rs ∧ s ∉ y.ws) ∧ (∀ s ∈ y.ws, s ∉ x.rs) ∧ (∀ s ∈ x.ts, s ∉ y.ss) ∧ ∀ s ∈ y.ts, s ∉ x.ss := by
  simp only [Fp.indep, Bool.and_eq_true, List.all_eq_true] at h
  refine ⟨fun s hs => ?_, fun s hs => ?_, fun s hs => ?_, fun s hs => ?_⟩
  · have := h.1.1.1 s hs; simpa using this
  · have := h.1.1.2 s hs; simpa using this
  · have := h.1.2 s hs; simpa using this
  · have := h.2 s hs; simpa using this
theorem swap {x y : It} {m : PF} (h : x.fp.indep y.fp = true) (hx : PStep P all x.o x.news fr m ∧ fpOf all x.o x.news fr = x.fp) (hy : PStep P all y.o y.news m fr' ∧ fpOf all y.o y.news m = y.fp) :
    ∃ m', (PStep P all y.o y.news fr m' ∧ fpOf all y.o y.news fr = y.fp) ∧ (PStep P all x.o x.news m' fr' ∧ fpOf all x.o x.news m' = x.fp) := by
  obtain ⟨hx1, hx3⟩ := hx
  obtain ⟨hy1, hy3⟩ := hy
  obtain ⟨i1, i2, i3, i4⟩ := indep_spec h
  have rx : readsOf all x.o fr ++ x.news = x.fp.rs := by rw [← hx3]; rfl
  have wx : writesOf x.o fr ++ x.news = x.fp.ws := by rw [← hx3]; rfl
  have ry : readsOf all y.o m ++ y.news = y.fp.rs := by rw [← hy3]; rfl
  have wy : writesOf y.o m ++ y.news = y.fp.ws := by rw [← hy3]; rfl
  have tx : turnsOf x.o fr ++ x.news = x.fp.ts := by rw [← hx3]; rfl
  have sx : shapesOf x.o fr = x.fp.ss := by rw [← hx3]; rfl
  have ty : turnsOf y.o m ++ y.news = y.fp.ts := by rw [← hy3]; rfl
  have sy : shapesOf y.o m = y.fp.ss := by rw [← hy3]; rfl
  obtain ⟨u0, h0, hm0, _⟩ := step_local hx1 (g := fr) ⟨rfl, fun _ _ => rfl, fun _ _ => rfl⟩ (fun _ _ => rfl)
  have sh1 : ∀ s ∈ shapesOf y.o m, shAt fr s = shAt m s := fun s hs => by
    rw [sy] at hs
    exact (step_shape hx1 (by rw [tx]; exact fun ht => i3 s ht hs)).symm
  have same1 : ∀ s ∈ readsOf all y.o m ++ y.news, fr[s]? = m[s]? := fun s hs => by
    rw [ry] at hs
    rw [hm0, apply_out (fun u hu => ?_)]
    rintro rfl
    have := h0 u hu
    rw [wx] at this
    exact (i1 _ this).1 hs
  have ag1 : Agree all y.o m fr := ⟨by rw [hm0, apply_length], fun s hs => same1 s (List.mem_append_left _ hs), sh1⟩
  obtain ⟨uy, hy0, hfr', hyst⟩ := step_local hy1 ag1 (fun s hs => same1 s (List.mem_append_right _ hs))
  rw [wy] at hy0
  have same2 : ∀ s ∈ readsOf all x.o fr ++ x.news, (apply uy fr)[s]? = fr[s]? := fun s hs => by
    rw [rx] at hs
    rw [apply_out (fun u hu => ?_)]
    rintro rfl
    exact i2 _ (hy0 u hu) hs
  have sh2 : ∀ s ∈ shapesOf x.o fr, shAt (apply uy fr) s = shAt fr s := fun s hs => by
    rw [sx] at hs
    have ft : turnsOf y.o fr ++ y.news = turnsOf y.o m ++ y.news := congrArg Fp.ts (ag1.fp y.news)
    exact step_shape hyst (by rw [ft, ty]; exact fun ht => i4 s ht hs)
  have ag2 : Agree all x.o fr (apply uy fr) := ⟨apply_length _ _, fun s hs => same2 s (List.mem_append_left _ hs), sh2⟩
  obtain ⟨ux, hx0, hm, hxst⟩ := step_local hx1 ag2 (fun s hs => same2 s (List.mem_append_right _ hs))
  rw [wx] at hx0
  have e : apply ux (apply uy fr) = fr' := by
    rw [hfr', hm]
    refine List.ext_getElem? fun s => ?_
    by_cases hs : ∃ u ∈ ux, u.1 = s
    · obtain ⟨u, hu, rfl⟩ := hs
      rw [apply_in ux (fr := fr) (apply_length _ _) (.inl ⟨u, hu, rfl⟩), apply_out (us := uy) (s := u.1) (fun v hv hvu => (i1 _ (hx0 u hu)).2 (by rw [← hvu]; exact hy0 v hv))]
    · have hs' : ∀ u ∈ ux, u.1 ≠ s := fun u hu hus => hs ⟨u, hu, hus⟩
      rw [apply_out hs', apply_in uy (fr := fr) (g := apply ux fr) (apply_length _ _) (.inr (apply_out hs' fr))]
  have f1 := ag1.fp y.news
  have f2 := ag2.fp x.news
  exact ⟨apply uy fr, ⟨hyst, by rw [f1]; exact hy3⟩, by rw [← e]; exact hxst, by rw [f2]; exact hx3⟩
theorem bubble {y : It} {ys : List It} : ∀ {xs : List It} {fr : PF}, (∀ x ∈ xs, x.fp.indep y.fp = true) → Run P all (xs ++ y :: ys) fr fr' → Run P all (y :: (xs ++ ys)) fr fr'
  | [], fr, _, h => h
  | x :: xs, fr, hi, h => by
    obtain ⟨m, hx, hr⟩ := h
    obtain ⟨m2, hy, hr2⟩ := bubble (fun z hz => hi z (List.mem_cons_of_mem _ hz)) hr
    obtain ⟨m', h1, h2⟩ := swap (hi x List.mem_cons_self) hx hy
    exact ⟨m', h1, m2, h2, hr2⟩
theorem befs_length : ∀ (l : List Oper) (acc : List Nat), (befs l acc).length = acc.length + l.length
  | [], acc => rfl
  | o :: l, acc => by simp only [befs]; rw [befs_length l]; simp; omega
theorem befs_prefix : ∀ (l : List Oper) (acc : List Nat) (i : Nat), i < acc.length → (befs l acc).getD i 0 = acc.getD i 0
  | [], acc, i, _ => rfl
  | o :: l, acc, i, h => by
    simp only [befs]
    rw [befs_prefix l _ i (by simp; omega)]
    simp [List.getElem?_append_left h]
theorem testBit_fold {acc : List Nat} {j : Nat} : ∀ (es : List Edge) (s : Nat), (es.foldl (fun s e => if Region.binds .any e then s ||| (2 ^ e.on ||| acc.getD e.on 0) else s) s).testBit j = true →
    s.testBit j = true ∨ ∃ e ∈ es, Region.binds .any e = true ∧ (j = e.on ∨ (acc.getD e.on 0).testBit j = true)
  | [], s, h => .inl h
  | e :: es, s, h => by
    simp only [List.foldl_cons] at h
    rcases testBit_fold es _ h with h1 | ⟨e', he', h2⟩
    · split at h1
      · rename_i hb
        simp only [Nat.testBit_or, Bool.or_eq_true] at h1
        rcases h1 with h1 | h1 | h1
        · exact .inl h1
        · refine .inr ⟨e, List.mem_cons_self, hb, .inl ?_⟩
          rw [Nat.testBit_two_pow] at h1
          exact (of_decide_eq_true h1).symm
        · exact .inr ⟨e, List.mem_cons_self, hb, .inr h1⟩
      · exact .inl h1
    · exact .inr ⟨e', List.mem_cons_of_mem _ he', h2⟩
theorem befs_closed (D : Nat → Prop) (all : List Oper) (hD : ∀ (k : Nat) (o : Oper), all[k]? = some o → D k → ∀ e ∈ o.after.toList, Region.binds .any e = true → D e.on) :
    ∀ (l : List Oper) (acc : List Nat) (pre : List Oper), all = pre ++ l → acc.length = pre.length →
      (∀ (i : Nat) (o : Oper), i < acc.length → all[i]? = some o → (∀ e ∈ o.after.toList, Region.binds .any e = true → D e.on) → ∀ j, (acc.getD i 0).testBit j = true → D j) →
      ∀ (i : Nat) (o : Oper), all[i]? = some o → (∀ e ∈ o.after.toList, Region.binds .any e = true → D e.on) → ∀ j, ((befs l acc).getD i 0).testBit j = true → D j
  | [], acc, pre, hpre, hlen, hacc => fun i o ho he j hj => by
    have hi : i < acc.length := by
      have := lt_of_get? ho
      rw [hpre] at this; simp at this; omega
    exact hacc i o hi ho he j hj
  | o' :: l, acc, pre, hpre, hlen, hacc => by
    simp only [befs]
    refine befs_closed D all hD l _ (pre ++ [o']) (by simp [hpre]) (by simp [hlen]) (fun i o hi ho he j hj => ?_)
    by_cases hia : i < acc.length
    · refine hacc i o hia ho he j ?_
      simpa [List.getElem?_append_left hia] using hj
    · have hi' : i = acc.length := by simp at hi; omega
      subst hi'
      have hoo : o' = o := by
        rw [hpre, hlen, List.getElem?_append_right (Nat.le_refl _), Nat.sub_self] at ho
        simpa using ho
      subst hoo
      have hj' : (o'.after.toList.foldl (fun s e => if Region.binds .any e then s ||| (2 ^ e.on ||| acc.getD e.on 0) else s) 0).testBit j = true := by
        simpa [List.getElem?_append_right] using hj
      rcases testBit_fold _ _ hj' with h0 | ⟨e, hein, hb, h1⟩
      · simp at h0
      · have hDe := he e hein hb
        rcases h1 with rfl | h1
        · exact hDe
        · by_cases hel : e.on < acc.length
          · have : e.on < all.length := by rw [hpre]; simp; omega
            have hoe : all[e.on]? = some (all[e.on]) := List.getElem?_eq_getElem this
            exact hacc e.on _ hel hoe (hD e.on _ hoe hDe) j h1
          · rw [List.getD, List.getElem?_eq_none (by omega)] at h1
            simp at h1
end
end Go.Qg

namespace Go.Qg
open Go.RowKit (Below)
def pdCall (P : Program) (o : Oper) (c : Call) (fr : PF) (k : List Nat → PF → Prop) : Prop :=
  match pcallee P fr c with
  | some (f, ps) => noObj o.dst fr = true ∧ ∃ md qs r H2 news, dargs fr c md qs ps ∧ (md = false ∨ (flatL H2 && r.flat) = true) ∧ CallW P f qs [] (fun out => out = .ret r H2) ∧ backOk fr [] news H2 ∧ (∀ d, o.dst = some d → d ∉ news) ∧
      k news (put o.dst (backV news r) (back fr news H2))
  | none => False
def pdrawC (P : Program) (all : List Oper) (m : Nat) (C : PF → Prop) : List Oper → List Fp → PF → Prop
  | [], fps, fr => drawOk all m fps = true ∧ C fr
  | o :: rest, fps, fr => match pwanted all o fr with
    | some b => if b = true then match isCall o with
        | some c => pdCall P o c fr fun news fr' => pdrawC P all m C rest (fps ++ [fpOf all o news fr]) fr'
        | none => isPanic o = none ∧ dstOk o fr = true ∧ match pstep P o fr with
          | some fr' => pdrawC P all m C rest (fps ++ [fpOf all o [] fr]) fr'
          | none => False
      else noObj o.dst fr = true ∧ pdrawC P all m C rest (fps ++ [fpOf all o [] fr]) (put o.dst (.tup []) fr)
    | none => False
def pdraw (P : Program) (M : Nat) (all : List Oper) (m : Nat) (K : PF → Prop) (Kp : PV → PF → Prop) : List Oper → List Fp → PF → Prop := pdrawC P all m fun fr => pops P M all K Kp (all.drop m) fr
section
variable {P : Program} {N : Nat} {B : Base} {w w' : World} {R R' R2 : Nat → Nat → Prop} {Γ Γ' Γ2 : Nat → Option Loc} {a : Act} {fr fr' : PF} {Q : Exit → Act → World → Prop} {all : List Oper}
theorem pdraw_cons {m : Nat} {C : PF → Prop} {o : Oper} {rest : List Oper} {fps : List Fp} (h : pdrawC P all m C (o :: rest) fps fr) : ∃ news fr', PStep P all o news fr fr' ∧ pdrawC P all m C rest (fps ++ [fpOf all o news fr]) fr' := by
  simp only [pdrawC] at h
  unfold PStep
  split at h
  case h_2 => exact h.elim
  rename_i b hw
  rw [hw]
  split at h
  · rename_i hb
    subst hb
    split at h
    · rename_i c hc
      unfold pdCall at h
      split at h
      case h_2 => exact h.elim
      rename_i f ps hps
      obtain ⟨h1, md, qs, r, H2, news, h2, hm, h3, h4, h5, h6⟩ := h
      refine ⟨news, _, ?_, h6⟩
      simp only [hc, hps]
      exact ⟨h1, md, qs, r, H2, h2, hm, h3, h4, h5, rfl⟩
    · rename_i hc
      obtain ⟨h1, h2, h3⟩ := h
      split at h3
      case h_2 => exact h3.elim
      rename_i fr' hs
      refine ⟨[], fr', ?_, h3⟩
      simp only [hc]
      exact ⟨h1, h2, hs⟩
  · rename_i hb
    obtain rfl : b = false := by simpa using hb
    exact ⟨[], _, ⟨h.1, rfl⟩, h.2⟩
theorem pdraw_run {m : Nat} {C : PF → Prop} : ∀ (l : List Oper) (fps : List Fp) (fr : PF), pdrawC P all m C l fps fr → ∃ (its : List It) (fr' : PF), its.map (·.o) = l ∧ Run P all its fr fr' ∧ drawOk all m (fps ++ its.map (·.fp)) = true ∧ C fr'
  | [], fps, fr, h => ⟨[], fr, rfl, rfl, by simpa using h.1, h.2⟩
  | o :: l, fps, fr, h => by
    obtain ⟨news, x, hs, hr⟩ := pdraw_cons h
    obtain ⟨its, fr', h1, h2, h3, h4⟩ := pdraw_run l _ x hr
    refine ⟨⟨o, news, fpOf all o news fr⟩ :: its, fr', by simp [h1], ⟨x, ⟨hs, rfl⟩, h2⟩, ?_, h4⟩
    simpa [List.append_assoc] using h3
theorem PStep_sound {ro : Option Nat} (h : SimE N B a w fr) {ops : Array Oper} (hall : ops.toList = all) (hN : ∀ o ∈ all, ∀ d, o.dst = some d → d < N) (hout : ∀ a w, ¬ Q .outgrown a w) {k : Nat} {o : Oper} (hk : all[k]? = some o) {news : List Nat} (hs : PStep P all o news fr fr') {K : Act → World → Prop} (hK : ∀ a' w', SimE N B a' w' fr' → K a' w') :
    OpR P ro ops Q k K a w := by
  refine op_sound (Kp := fun _ _ => False) (K := fun g => g = fr') h hall hN rfl (fun _ _ _ _ _ _ _ _ _ hf => hf.elim) hout hk ?_ (fun a' w' g hs hk => hK a' w' (by rw [← hk]; exact hs))
  unfold PStep at hs
  split at hs
  · rename_i hw
    rw [hw]
    simp only [if_true]
    split at hs
    · rename_i c hc
      split at hs
      case h_2 => exact hs.elim
      rename_i f ps hps
      obtain ⟨h1, md, qs, r, H2, h2, hmd, h3, h4, hdn, rfl⟩ := hs
      unfold pop
      rw [hc]
      dsimp only
      refine ⟨fr, .inl rfl, ?_⟩
      rw [hps]
      refine ⟨[], md, [], qs, _, List.nodup_nil, trivial, ?_, h3, fun out ho => ?_⟩
      · rcases h2 with ⟨rfl, rfl, h2⟩ | ⟨rfl, h2⟩
        · exact .inr ⟨rfl, h2⟩
        · exact .inl (h2 fr fun _ _ _ _ => rfl)
      subst ho
      refine ⟨news, h4, hmd, ?_, rfl⟩
      refine pclear_noObj ?_
      cases hd : o.dst with
      | none => rfl
      | some d =>
        have hdn' := hdn d hd
        rw [hd] at h1
        simp only [noObj, objAt] at h1 ⊢
        rw [show ([] : List Nat) ++ news = news from rfl]
        simp only [back]
        rw [placeAll_out _ _ _ _ hdn']
        exact h1
    · rename_i hc
      obtain ⟨h1, _, h3⟩ := hs
      unfold pop
      rw [hc, h1, h3]
  · rename_i hw
    rw [hw]
    simp only [Bool.false_eq_true, if_false]
    obtain ⟨h1, rfl⟩ := hs
    exact ⟨pclear_noObj h1, rfl⟩
  · exact hs.elim
def Ordered (m : List Nat) (x y : Nat × It) : Prop := x.1 < y.1 ∧ (x.2.fp.indep y.2.fp = true ∨ (m.getD y.1 0).testBit x.1 = true)
theorem pairsOk_ordered (m : List Nat) : ∀ (its : List It) (i : Nat) (before : List Fp), before.length = i → pairsOk m i before (its.map (·.fp)) = true →
    (∀ (j : Nat) (x : Fp) (y : Nat × It), before[j]? = some x → y ∈ (its.zipIdx i).map (fun z => (z.2, z.1)) → j < y.1 ∧ (x.indep y.2.fp = true ∨ (m.getD y.1 0).testBit j = true)) ∧
    ((its.zipIdx i).map fun z => (z.2, z.1)).Pairwise (Ordered m)
  | [], i, before, _, _ => by
    refine ⟨fun j x y _ hy => ?_, List.Pairwise.nil⟩
    cases hy
  | it :: its, i, before, hl, h => by
    simp only [List.map_cons, pairsOk, Bool.and_eq_true] at h
    obtain ⟨h1, h2⟩ := h
    obtain ⟨ih1, ih2⟩ := pairsOk_ordered m its (i + 1) (before ++ [it.fp]) (by simp [hl]) h2
    have first : ∀ (j : Nat) (x : Fp), before[j]? = some x → j < i ∧ (x.indep it.fp = true ∨ (m.getD i 0).testBit j = true) := fun j x hj => by
      refine ⟨by have := lt_of_get? hj; omega, ?_⟩
      have := List.all_eq_true.1 h1 (x, j) (by rw [List.mem_zipIdx_iff_getElem?]; exact hj)
      simpa using this
    rw [List.zipIdx_cons, List.map_cons]
    refine ⟨fun j x y hj hy => ?_, List.pairwise_cons.2 ⟨fun y hy => ?_, ih2⟩⟩
    · rcases List.mem_cons.1 hy with rfl | hy
      · exact first j x hj
      · exact ih1 j x y (by rw [List.getElem?_append_left (lt_of_get? hj)]; exact hj) hy
    · have := ih1 i it.fp y (by rw [List.getElem?_append_right (by omega), hl, Nat.sub_self]; rfl) hy
      exact this
theorem getD_bool {l : Array Bool} {i : Nat} (hi : i < l.size) : (l.getD i true = false ↔ l.getD i false = false) := by
  simp [Array.getD_eq_getD_getElem?, Array.getElem?_eq_getElem hi]
theorem seq_only (ops : Array Oper) (hall : ops.toList = all) (he : edgesOk all = true) {m : Nat} (hseq : seqOk all m = true) (k : Nat) (listed : Array Bool) (hmk : m ≤ k) (hli : ∀ i, i < all.length → (listed.getD i true = false ↔ k ≤ i)) (hsz : listed.size = all.length) : ∀ i ∈ Region.ready .any ops listed, i = k := by
  have hops : ∀ i : Nat, ops[i]? = all[i]? := fun i => by rw [← hall]; simp
  intro i hi
  rw [mem_ready] at hi
  obtain ⟨h0, o, ho, hafter⟩ := hi
  rw [hops] at ho
  have hil := lt_of_get? ho
  have hki := (hli i hil).1 h0
  rcases Nat.lt_or_eq_of_le hki with hlt | he'
  case inr => exact he'.symm
  exfalso
  have hcl : ∀ (j : Nat) (o : Oper), all[j]? = some o → j < k → ∀ e ∈ o.after.toList, Region.binds .any e = true → e.on < k := fun j o hj hjk e hein hb => by
    have := List.all_eq_true.1 (List.all_eq_true.1 he (o, j) (by rw [List.mem_zipIdx_iff_getElem?]; exact hj)) e hein
    have : e.on < j := by simpa [hb] using this
    omega
  have hD := befs_closed (fun j => j < k) all hcl all [] [] rfl rfl (fun i o hi => by simp at hi) i o ho (fun e hein hb => by
    have h1 := hafter e (by simpa using hein) hb
    have h2 : e.on < i := by
      have := List.all_eq_true.1 (List.all_eq_true.1 he (o, i) (by rw [List.mem_zipIdx_iff_getElem?]; exact ho)) e hein
      simpa [hb] using this
    have h3 : e.on < all.length := by omega
    refine Nat.lt_of_not_le fun h4 => ?_
    have := (getD_bool (by omega)).1 ((hli e.on h3).2 h4)
    rw [this] at h1; cases h1) k (by
      have := List.all_eq_true.1 hseq i (List.mem_range.2 hil)
      simp only [Bool.or_eq_true, decide_eq_true_eq] at this
      rcases this with h | h
      · omega
      · exact List.all_eq_true.1 h k (List.mem_range.2 hlt))
  exact absurd hD (Nat.lt_irrefl k)
theorem seq_ready (ops : Array Oper) (hall : ops.toList = all) (he : edgesOk all = true) {k : Nat} (hlt : k < all.length) (listed : Array Bool) (hli : ∀ i, i < all.length → (listed.getD i true = false ↔ k ≤ i)) (hsz : listed.size = all.length) : k ∈ Region.ready .any ops listed := by
  have ho : all[k]? = some (all[k]) := List.getElem?_eq_getElem hlt
  rw [mem_ready]
  refine ⟨(hli k hlt).2 (Nat.le_refl _), all[k], by rw [← ho, ← hall]; simp, fun e hein hb => ?_⟩
  have h2 : e.on < k := by
    have := List.all_eq_true.1 (List.all_eq_true.1 he (all[k], k) (by rw [List.mem_zipIdx_iff_getElem?]; exact ho)) e (by simpa using hein)
    simpa [hb] using this
  have h3 : e.on < listed.size := by omega
  have h4 := mt (hli e.on (by omega)).1 (by omega)
  simp only [Array.getD_eq_getD_getElem?, Array.getElem?_eq_getElem h3, Option.getD_some] at h4 ⊢
  simpa using h4
theorem seq_next {k : Nat} (hlt : k < all.length) (listed : Array Bool) (hli : ∀ i, i < all.length → (listed.getD i true = false ↔ k ≤ i)) (hsz : listed.size = all.length) : ∀ j, j < all.length → ((listed.setIfInBounds k true).getD j true = false ↔ k + 1 ≤ j) := fun j hj => by
  have hks : k < listed.size := by omega
  by_cases hji : j = k
  · subst hji
    constructor
    · intro hh; simp [hks] at hh
    · intro hh; omega
  · rw [show (listed.setIfInBounds k true).getD j true = listed.getD j true from getD_set_ne true (Ne.symm hji), hli j hj]
    omega
theorem seq_sound {ro : Option Nat} (ops : Array Oper) (hall : ops.toList = all) (hN : ∀ o ∈ all, ∀ d, o.dst = some d → d < N) (he : edgesOk all = true) {m : Nat} (hseq : seqOk all m = true) {M : Nat} (hM : B.lo = M) {K : PF → Prop} {Kp : PV → PF → Prop} (hpan : PanUp N B Q Kp) (hout : ∀ a w, ¬ Q .outgrown a w) (hQ : ∀ a w fr, SimE N B a w fr → K fr → Q .normal a w) :
    ∀ (fuel k : Nat) (listed : Array Bool) (a : Act) (w : World) (fr : PF), m ≤ k → k ≤ all.length → all.length ≤ k + fuel → (∀ i, i < all.length → (listed.getD i true = false ↔ k ≤ i)) → listed.size = all.length → SimE N B a w fr → pops P M all K Kp (all.drop k) fr → AnyR P ro ops Q fuel listed a w := by
  intro fuel
  induction fuel with
  | zero =>
    intro k listed a w fr hmk hkl hf hli hsz h hp
    have : all.drop k = [] := List.drop_eq_nil_of_le (by omega)
    rw [this] at hp
    exact AnyR_zero (hQ a w fr h hp)
  | succ fuel ih =>
    intro k listed a w fr hmk hkl hf hli hsz h hp
    have only := seq_only ops hall he hseq k listed hmk hli hsz
    rcases Nat.lt_or_eq_of_le hkl with hlt | hk
    case inr =>
      have : all.drop k = [] := List.drop_eq_nil_of_le (by omega)
      rw [this] at hp
      refine AnyR_succ (fun _ => hQ a w fr h hp) (fun i hi => ?_)
      exfalso
      have he' := only i hi
      subst he'
      rw [mem_ready] at hi
      obtain ⟨_, o, ho, _⟩ := hi
      have ho' : all[i]? = some o := by rw [← ho, ← hall]; simp
      have := lt_of_get? ho'
      omega
    have ho : all[k]? = some (all[k]) := List.getElem?_eq_getElem hlt
    rw [List.drop_eq_getElem_cons hlt] at hp
    have hready := seq_ready ops hall he hlt listed hli hsz
    refine AnyR_succ (fun hr => (by rw [hr] at hready; cases hready)) (fun i hi => ?_)
    obtain rfl := only i hi
    exact op_sound h hall hN hM hpan hout ho hp fun a' w' fr' h' hp' => ih (i + 1) _ a' w' fr' (by omega) (by omega) (by omega) (seq_next hlt listed hli hsz) (by simpa using hsz) h' hp'
theorem any_sound {ro : Option Nat} (ops : Array Oper) (hall : ops.toList = all) (hN : ∀ o ∈ all, ∀ d, o.dst = some d → d < N) (he : edgesOk all = true) {m : Nat} (hm : m ≤ all.length) (hseq : seqOk all m = true) {C : PF → Prop} (hout : ∀ a w, ¬ Q .outgrown a w) (hC : ∀ (fuel : Nat) (listed : Array Bool) (a : Act) (w : World) (fr : PF), all.length ≤ m + fuel → (∀ i, i < all.length → (listed.getD i true = false ↔ m ≤ i)) → listed.size = all.length → SimE N B a w fr → C fr → AnyR P ro ops Q fuel listed a w) :
    ∀ (fuel : Nat) (rem : List (Nat × It)) (listed : Array Bool) (a : Act) (w : World) (fr fr' : PF), SimE N B a w fr → Run P all (rem.map (·.2)) fr fr' →
    rem.Pairwise (Ordered (befs all [])) → (∀ x ∈ rem, all[x.1]? = some x.2.o ∧ x.1 < m) → (∀ i, i < all.length → (listed.getD i true = false ↔ m ≤ i ∨ ∃ x ∈ rem, x.1 = i)) → listed.size = all.length →
    (∀ (k : Nat) (o : Oper), all[k]? = some o → listed.getD k false = true → ∀ e ∈ o.after.toList, Region.binds .any e = true → listed.getD e.on false = true) → rem.length + (all.length - m) ≤ fuel →
    C fr' → AnyR P ro ops Q fuel listed a w := by
  intro fuel
  have hops : ∀ i : Nat, ops[i]? = all[i]? := fun i => by rw [← hall]; simp
  induction fuel with
  | zero =>
    intro rem listed a w fr fr' h hrun hpw hin hli hsz hcl hf hp
    obtain rfl : rem = [] := List.eq_nil_of_length_eq_zero (by omega)
    obtain rfl : fr = fr' := hrun
    exact hC 0 listed a w fr (by simp at hf; omega) (fun i hi => by rw [hli i hi]; simp) hsz h hp
  | succ fuel ih =>
    intro rem listed a w fr fr' h hrun hpw hin hli hsz hcl hf hp
    cases rem with
    | nil =>
      obtain rfl : fr = fr' := hrun
      exact hC (fuel + 1) listed a w fr (by simp at hf; omega) (fun i hi => by rw [hli i hi]; simp) hsz h hp
    | cons x0 rem0 =>
    generalize hrem : x0 :: rem0 = rem at hrun hpw hin hli hf
    have hne : rem ≠ [] := by rw [← hrem]; simp
    have hbef : ∀ (i : Nat) (o : Oper), all[i]? = some o → (∀ e ∈ o.after.toList, Region.binds .any e = true → listed.getD e.on false = true) → ∀ j, ((befs all []).getD i 0).testBit j = true → listed.getD j false = true := fun i o ho hafter j hj =>
      befs_closed (fun k => listed.getD k false = true) all hcl all [] [] rfl rfl (fun i o hi => by simp at hi) i o ho hafter j hj
    refine AnyR_succ (fun hr => ?_) (fun i hi => ?_)
    · -- the first of what is left is ready
      exfalso
      have ho := (hin x0 (by rw [← hrem]; exact List.mem_cons_self)).1
      have : x0.1 ∈ Region.ready .any ops listed := by
        rw [mem_ready]
        refine ⟨(hli x0.1 (lt_of_get? ho)).2 (.inr ⟨x0, by rw [← hrem]; exact List.mem_cons_self, rfl⟩), x0.2.o, by rw [hops]; exact ho, fun e hein hb => ?_⟩
        have hlt : e.on < x0.1 := by
          have := List.all_eq_true.1 (List.all_eq_true.1 he (x0.2.o, x0.1) (by rw [List.mem_zipIdx_iff_getElem?]; exact ho)) e (by simpa using hein)
          simpa [hb] using this
        have hx0m := (hin x0 (by rw [← hrem]; exact List.mem_cons_self)).2
        have hel : e.on < all.length := by have := lt_of_get? ho; omega
        have hne : listed.getD e.on true ≠ false := fun hf => by
          rcases (hli e.on hel).1 hf with h1 | ⟨y, hy, hye⟩
          · omega
          · rw [← hrem] at hy hpw
            rcases List.mem_cons.1 hy with rfl | hy
            · omega
            · have := ((List.pairwise_cons.1 hpw).1 y hy).1; omega
        have hs : e.on < listed.size := by omega
        simp only [Array.getD_eq_getD_getElem?, Array.getElem?_eq_getElem hs, Option.getD_some] at hne ⊢
        simpa using hne
      rw [hr] at this; cases this
    · rw [mem_ready] at hi
      obtain ⟨h0, o, ho, hafter⟩ := hi
      rw [hops] at ho
      have hil := lt_of_get? ho
      have hafter' : ∀ e ∈ o.after.toList, Region.binds .any e = true → listed.getD e.on false = true := fun e hein hb => hafter e (by simpa using hein) hb
      have hunl : ∀ j, j < all.length → listed.getD j true = false → listed.getD j false = false := fun j hj hh => (getD_bool (by omega)).1 hh
      rcases (hli i hil).1 h0 with hmi | ⟨y, hy, hyi⟩
      · -- one that stands behind all is not ready
        exfalso
        have hx0 := hin x0 (by rw [← hrem]; exact List.mem_cons_self)
        have hx0l := lt_of_get? hx0.1
        have hb : ((befs all []).getD i 0).testBit x0.1 = true := by
          have := List.all_eq_true.1 hseq i (List.mem_range.2 hil)
          simp only [Bool.or_eq_true, decide_eq_true_eq] at this
          rcases this with h | h
          · omega
          · exact List.all_eq_true.1 h x0.1 (List.mem_range.2 (by omega))
        have h1 := hbef i o ho hafter' x0.1 hb
        have h2 := hunl x0.1 hx0l ((hli x0.1 hx0l).2 (.inr ⟨x0, by rw [← hrem]; exact List.mem_cons_self, rfl⟩))
        rw [h2] at h1; cases h1
      obtain ⟨xs, ys, rfl⟩ := List.append_of_mem hy
      obtain ⟨yi, it⟩ := y
      dsimp only at hyi
      subst hyi
      have hoy : it.o = o := by
        have := (hin (yi, it) hy).1
        rw [ho] at this
        exact (Option.some.inj this).symm
      have hym := (hin (yi, it) hy).2
      have hpw' := List.pairwise_append.1 hpw
      have hindep : ∀ x ∈ xs.map (·.2), x.fp.indep it.fp = true := fun x hx => by
        obtain ⟨⟨j, x'⟩, hx', rfl⟩ := List.mem_map.1 hx
        have hord := hpw'.2.2 (j, x') hx' (yi, it) List.mem_cons_self
        rcases hord.2 with h1 | h1
        · exact h1
        · exfalso
          have hD := hbef yi o ho hafter' j h1
          have hjl := lt_of_get? (hin (j, x') (List.mem_append_left _ hx')).1
          have hjf := hunl j hjl ((hli j hjl).2 (.inr ⟨(j, x'), List.mem_append_left _ hx', rfl⟩))
          rw [hjf] at hD; cases hD
      have hrun' : Run P all (it :: (xs.map (·.2) ++ ys.map (·.2))) fr fr' := bubble hindep (by simpa using hrun)
      obtain ⟨x, ⟨hst, _⟩, hrest⟩ := hrun'
      rw [hoy] at hst
      have hpwr : (xs ++ ys).Pairwise (Ordered (befs all [])) := List.pairwise_append.2 ⟨hpw'.1, (List.pairwise_cons.1 hpw'.2.1).2, fun x hx y hy => hpw'.2.2 x hx y (List.mem_cons_of_mem _ hy)⟩
      have hmr : ∀ x ∈ xs ++ ys, x ∈ xs ++ (yi, it) :: ys := fun x hx => by
        rcases List.mem_append.1 hx with hx | hx
        · exact List.mem_append_left _ hx
        · exact List.mem_append_right _ (List.mem_cons_of_mem _ hx)
      have hnot : ∀ x ∈ xs ++ ys, x.1 ≠ yi := fun x hx => by
        rcases List.mem_append.1 hx with hx | hx
        · have := (hpw'.2.2 x hx (yi, it) List.mem_cons_self).1; dsimp only at this; omega
        · have := ((List.pairwise_cons.1 hpw'.2.1).1 x hx).1; dsimp only at this; omega
      have hyl : yi < listed.size := by omega
      have next : ∀ a' w', SimE N B a' w' x → AnyR P ro ops Q fuel (listed.setIfInBounds yi true) a' w' := fun a' w' h' => by
        refine ih (xs ++ ys) _ a' w' x fr' h' (by simpa using hrest) hpwr (fun x hx => hin x (hmr x hx)) (fun k hk => ?_) (by simpa using hsz) (fun k o' hk hkl e hein hb => ?_) (by simp at hf ⊢; omega) hp
        · by_cases hky : k = yi
          · subst hky
            constructor
            · intro hh; simp [hyl] at hh
            · rintro (h1 | ⟨x, hx, rfl⟩)
              · omega
              · exact (hnot x hx rfl).elim
          · rw [show (listed.setIfInBounds yi true).getD k true = listed.getD k true from getD_set_ne true (Ne.symm hky), hli k hk]
            refine or_congr Iff.rfl ⟨?_, ?_⟩
            · rintro ⟨x, hx, rfl⟩
              refine ⟨x, ?_, rfl⟩
              rcases List.mem_append.1 hx with hx | hx
              · exact List.mem_append_left _ hx
              · rcases List.mem_cons.1 hx with rfl | hx
                · exact (hky rfl).elim
                · exact List.mem_append_right _ hx
            · rintro ⟨x, hx, rfl⟩
              exact ⟨x, hmr x hx, rfl⟩
        · refine getD_set_true ?_
          by_cases hky : k = yi
          · subst hky
            rw [ho] at hk
            obtain rfl := Option.some.inj hk
            exact hafter' e hein hb
          · rw [show (listed.setIfInBounds yi true).getD k false = listed.getD k false from getD_set_ne false (Ne.symm hky)] at hkl
            exact hcl k o' hk hkl e hein hb
      exact PStep_sound h hall hN hout ho hst next
theorem SimE.drew (h : SimE N B a w fr) : SimE N B a { w with drawn := w.drawn + 1 } fr := by
  obtain ⟨R, Γ, h⟩ := h
  have hb : Below w.heap.size w { w with drawn := w.drawn + 1 } := ⟨rfl, rfl, rfl, Nat.le_refl _, fun _ _ => rfl⟩
  exact ⟨R, Γ, h.grown hb R (fun _ _ x => x) (fun _ _ x => .inl x)⟩
theorem drawC_sound {ro : Option Nat} (hmx : P.follows .mixedOrders = true) (ops : Array Oper) (hall : ops.toList = all) (hN : ∀ o ∈ all, ∀ d, o.dst = some d → d < N) (hout : ∀ a w, ¬ Q .outgrown a w) (id : Nat) (h : SimE N B a w fr) {m : Nat} (hm : m ≤ all.length) {C : PF → Prop} (hC : edgesOk all = true → seqOk all m = true → ∀ (fuel : Nat) (listed : Array Bool) (a : Act) (w : World) (fr : PF), all.length ≤ m + fuel → (∀ i, i < all.length → (listed.getD i true = false ↔ m ≤ i)) → listed.size = all.length → SimE N B a w fr → C fr → AnyR P ro ops Q fuel listed a w) (hp : pdrawC P all m C (all.take m) [] fr) :
    wr P ro (.region id ops true) Q a w := by
  obtain ⟨its, fr', h1, h2, h3, h4⟩ := pdraw_run _ _ _ hp
  simp only [List.nil_append, drawOk, Bool.and_eq_true] at h3
  obtain ⟨⟨he, hpairs⟩, hseq⟩ := h3
  have hl : its.length = m := by
    have : (its.map (·.o)).length = (all.take m).length := by rw [h1]
    rw [List.length_map, List.length_take] at this
    omega
  have hz : ((its.zipIdx 0).map fun z => (z.2, z.1)).map (·.2) = its := by
    rw [List.map_map]
    have : ((fun x : Nat × It => x.2) ∘ fun z : It × Nat => (z.2, z.1)) = Prod.fst := rfl
    rw [this]; simp
  have hmem : ∀ x ∈ (its.zipIdx 0).map (fun z => (z.2, z.1)), its[x.1]? = some x.2 := fun x hx => by
    obtain ⟨⟨it, i⟩, hz, rfl⟩ := List.mem_map.1 hx
    rw [List.mem_zipIdx_iff_getElem?] at hz
    exact hz
  refine wr_region_any hmx (any_sound ops hall hN he hm hseq hout (hC he hseq) ops.size ((its.zipIdx 0).map fun z => (z.2, z.1)) _ a _ fr fr' h.drew (by rw [hz]; exact h2) (pairsOk_ordered _ its 0 [] rfl hpairs).2 (fun x hx => ?_) (fun i hi => ?_) (by rw [← hall]; simp) (fun k o hk hkl => ?_) ?_ h4)
  · have hx' := hmem x hx
    have hxm := lt_of_get? hx'
    refine ⟨?_, by omega⟩
    have : (its.map (·.o))[x.1]? = some x.2.o := by rw [List.getElem?_map, hx']; rfl
    rw [h1, List.getElem?_take, if_pos (by omega)] at this
    exact this
  · have hs : i < ops.size := by rw [← hall] at hi; simpa using hi
    constructor
    · intro _
      by_cases him : m ≤ i
      · exact .inl him
      · have hit : its[i]? = some (its[i]'(by omega)) := List.getElem?_eq_getElem (by omega)
        exact .inr ⟨(i, its[i]'(by omega)), List.mem_map.2 ⟨(its[i]'(by omega), i), by rw [List.mem_zipIdx_iff_getElem?]; exact hit, rfl⟩, rfl⟩
    · intro _; simp [hs]
  · simp only [Array.getD_eq_getD_getElem?, Array.getElem?_replicate] at hkl
    split at hkl <;> simp at hkl
  · have : all.length = ops.size := by rw [← hall]; simp
    simp only [List.length_map, List.length_zipIdx, hl]; omega
theorem draw_sound {ro : Option Nat} (hmx : P.follows .mixedOrders = true) (ops : Array Oper) (hall : ops.toList = all) (hN : ∀ o ∈ all, ∀ d, o.dst = some d → d < N) {M : Nat} (hM : B.lo = M) {K : PF → Prop} {Kp : PV → PF → Prop} (hpan : PanUp N B Q Kp) (hout : ∀ a w, ¬ Q .outgrown a w) (hQ : ∀ a w fr, SimE N B a w fr → K fr → Q .normal a w) (id : Nat) (h : SimE N B a w fr) {m : Nat} (hm : m ≤ all.length) (hp : pdraw P M all m K Kp (all.take m) [] fr) :
    wr P ro (.region id ops true) Q a w :=
  drawC_sound hmx ops hall hN hout id h hm (fun he hseq fuel listed a w fr hf hli hsz hs hc => seq_sound ops hall hN he hseq hM hpan hout hQ fuel m listed a w fr (Nat.le_refl _) hm hf hli hsz hs hc) hp
end
end Go.Qg

namespace Go.Qg
open Go.RowKit (Below)
inductive PX where
  | normal
  | exit (id : Nat)
  | ret
  | goto (l : Nat)
  | panic (p : PV)
def thenP (K : PF → Prop) (Q : PX → PF → Prop) : PX → PF → Prop
  | .normal, fr => K fr
  | e, fr => Q e fr
def blockP (id : Nat) (Q : PX → PF → Prop) : PX → PF → Prop
  | .exit id', fr => if id' = id then Q .normal fr else Q (.exit id') fr
  | e, fr => Q e fr
def Weak (M : Nat) (fr g : PF) : Prop := ∀ (N : Nat) (B : Base) (a : Act) (w : World), B.lo = M → SimE N B a w fr → SimE N B a w g
def loopP (M : Nat) (round : (PX → PF → Prop) → PF → Prop) (Q : PX → PF → Prop) (fr : PF) : Prop := ∀ X : PF → Prop, (∀ fr, round (thenP X Q) fr → X fr) → (∀ fr g, Weak M fr g → X g → X fr) → X fr
def scopeP (Q : PX → PF → Prop) : PX → PF → Prop
  | .goto _, _ => False
  | e, fr => Q e fr
def pwp (P : Program) (M : Nat) : Code → (PX → PF → Prop) → PF → Prop
  | .skip, Q, fr => Q .normal fr
  | .label _, Q, fr => Q .normal fr
  | .region _ ops false, Q, fr => pops P M ops.toList (Q .normal) (fun p => Q (.panic p)) ops.toList fr
  | .region _ ops true, Q, fr => ∃ m, m ≤ ops.toList.length ∧ pdraw P M ops.toList m (Q .normal) (fun p => Q (.panic p)) (ops.toList.take m) [] fr
  | .seq x y, Q, fr => pwp P M x (thenP (pwp P M y Q) Q) fr
  | .cond c x y, Q, fr => match rd fr c with
    | .v (.bool b) => if b = true then pwp P M x Q fr else pwp P M y Q fr
    | _ => False
  | .block id c, Q, fr => pwp P M c (blockP id Q) fr
  | .loop c, Q, fr => loopP M (pwp P M c) Q fr
  | .exit id, Q, fr => Q (.exit id) fr
  | .ret, Q, fr => Q .ret fr
  | .scope c, Q, fr => pwp P M c (scopeP Q) fr
  | _, _, _ => False
def dstsIn (N : Nat) : Code → Bool
  | .region _ ops _ => ops.toList.all fun o => match o.dst with
    | some d => decide (d < N)
    | none => true
  | .seq a b | .cond _ a b => dstsIn N a && dstsIn N b
  | .block _ c | .loop c | .scope c => dstsIn N c
  | .rangeFunc _ _ a b => dstsIn N a && dstsIn N b
  | _ => true
def PX.up (R : Nat → Nat → Prop) (Γ : Nat → Option Loc) (w : World) : Exit → PX → Prop
  | .normal, .normal => True
  | .exit id, .exit id' => id = id'
  | .ret, .ret => True
  | .goto l, .goto l' => l = l'
  | .panic ch, .panic p => ∃ v, ch = [{ v := v, recovered := false }] ∧ Rep w R Γ v p
  | _, _ => False
def Up (N : Nat) (B : Base) (Q : PX → PF → Prop) : Exit → Act → World → Prop := fun e a w => ∃ R Γ fr x, Sim N B R Γ a w fr ∧ PX.up R Γ w e x ∧ Q x fr
section
variable {P : Program} {N M : Nat} {B : Base}
theorem pops_mono {all : List Oper} {K K' : PF → Prop} {Kp Kp' : PV → PF → Prop} (hK : ∀ fr, K fr → K' fr) (hKp : ∀ p fr, Kp p fr → Kp' p fr) : ∀ (l : List Oper) (fr : PF), pops P M all K Kp l fr → pops P M all K' Kp' l fr
  | [], fr, h => hK fr h
  | o :: l, fr, h => by
    have ih := pops_mono hK hKp l (all := all)
    simp only [pops] at h ⊢
    split at h
    case h_2 => exact h.elim
    rename_i b hw
    split at h
    · rename_i hb
      rw [if_pos hb]
      unfold pop at h ⊢
      split at h
      · obtain ⟨g, hg, h⟩ := h
        refine ⟨g, hg, ?_⟩
        split at h
        · obtain ⟨ι, md, H, qs, Q, h1, h2, h3, h4, h5⟩ := h
          refine ⟨ι, md, H, qs, Q, h1, h2, h3, h4, fun out ho => ?_⟩
          have := h5 out ho
          cases out with
          | ret r H2 =>
            obtain ⟨news, g1, g2, g3, g4⟩ := this
            exact ⟨news, g1, g2, g3, ih _ g4⟩
          | pan p H2 =>
            obtain ⟨news, g1, g2, g3⟩ := this
            exact ⟨news, g1, g2, hKp _ _ g3⟩
        · exact h.elim
      · split at h
        · split at h
          · exact hKp _ _ h
          · exact h.elim
        · split at h
          · exact ih _ h
          · unfold popAny at h ⊢
            split at h
            case h_2 => exact h.elim
            split at h
            case h_2 => exact h.elim
            exact ⟨h.1, fun b => ⟨(h.2 b).1, ih _ (h.2 b).2⟩⟩
    · rename_i hb
      rw [if_neg hb]
      exact ⟨h.1, ih _ h.2⟩
theorem pdrawC_mono {all : List Oper} {m : Nat} {C C' : PF → Prop} (hC : ∀ fr, C fr → C' fr) : ∀ (l : List Oper) (fps : List Fp) (fr : PF), pdrawC P all m C l fps fr → pdrawC P all m C' l fps fr
  | [], fps, fr, h => ⟨h.1, hC _ h.2⟩
  | o :: l, fps, fr, h => by
    have ih := pdrawC_mono hC l (all := all) (m := m)
    simp only [pdrawC] at h ⊢
    split at h
    case h_2 => exact h.elim
    rename_i b hw
    split at h
    · rename_i hb
      rw [if_pos hb]
      split at h
      · unfold pdCall at h ⊢
        split at h
        · obtain ⟨h1, md, qs, r, H2, news, h2, hm, h3, h4, h5, h6⟩ := h
          exact ⟨h1, md, qs, r, H2, news, h2, hm, h3, h4, h5, ih _ _ h6⟩
        · exact h.elim
      · obtain ⟨h1, h2, h3⟩ := h
        refine ⟨h1, h2, ?_⟩
        split at h3
        · exact ih _ _ h3
        · exact h3.elim
    · rename_i hb
      rw [if_neg hb]
      exact ⟨h.1, ih _ _ h.2⟩
theorem pdraw_mono {all : List Oper} {m : Nat} {K K' : PF → Prop} {Kp Kp' : PV → PF → Prop} (hK : ∀ fr, K fr → K' fr) (hKp : ∀ p fr, Kp p fr → Kp' p fr) (l : List Oper) (fps : List Fp) (fr : PF) (h : pdraw P M all m K Kp l fps fr) : pdraw P M all m K' Kp' l fps fr :=
  pdrawC_mono (fun _ => pops_mono hK hKp _ _) l fps fr h
theorem thenP_mono {K K' : PF → Prop} {Q Q' : PX → PF → Prop} (hK : ∀ fr, K fr → K' fr) (h : ∀ e fr, Q e fr → Q' e fr) : ∀ e fr, thenP K Q e fr → thenP K' Q' e fr := fun e fr he => by
  cases e with
  | normal => exact hK _ he
  | _ => exact h _ _ he
theorem pwp_mono : ∀ (c : Code) {Q Q' : PX → PF → Prop} {fr : PF}, (∀ e fr, Q e fr → Q' e fr) → pwp P M c Q fr → pwp P M c Q' fr
  | .skip, _, _, _, h, hp => h _ _ hp
  | .label _, _, _, _, h, hp => h _ _ hp
  | .region _ ops false, _, _, _, h, hp => pops_mono (fun fr => h _ fr) (fun p fr => h _ fr) _ _ hp
  | .region _ ops true, _, _, _, h, hp => by
    obtain ⟨m, hm, hp⟩ := hp
    exact ⟨m, hm, pdraw_mono (fun fr => h _ fr) (fun p fr => h _ fr) _ _ _ hp⟩
  | .seq x y, _, _, _, h, hp => pwp_mono x (thenP_mono (fun _ => pwp_mono y h) h) hp
  | .cond c x y, _, _, fr, h, hp => by
    simp only [pwp] at hp ⊢
    split at hp
    · rename_i b hb
      cases b
      · simp only [Bool.false_eq_true, if_false] at hp ⊢; exact pwp_mono y h hp
      · simp only [if_true] at hp ⊢; exact pwp_mono x h hp
    · exact hp
  | .block id c, _, _, _, h, hp => pwp_mono c (fun e fr he => by
      cases e with
      | exit id' =>
        simp only [blockP] at he ⊢
        split at he
        · rw [if_pos ‹_›]; exact h _ _ he
        · rw [if_neg ‹_›]; exact h _ _ he
      | _ => exact h _ _ he) hp
  | .loop c, _, _, _, h, hp => fun X hX hW => hp X (fun fr hr => hX fr (pwp_mono c (thenP_mono (fun _ x => x) h) hr)) hW
  | .exit _, _, _, _, h, hp => h _ _ hp
  | .ret, _, _, _, h, hp => h _ _ hp
  | .scope c, _, _, _, h, hp => pwp_mono c (fun e fr he => by
      cases e with
      | goto l => exact he
      | _ => exact h _ _ he) hp
  | .rangeFunc .., _, _, _, _, hp => hp.elim
  | .goto _, _, _, _, _, hp => hp.elim
  | .refuse _, _, _, _, _, hp => hp.elim
theorem pan_up {Q : PX → PF → Prop} : PanUp N B (Up N B Q) (fun p => Q (.panic p)) := fun R Γ a w fr v p hs hr hk => ⟨R, Γ, fr, .panic p, hs, ⟨v, rfl, hr⟩, hk⟩
theorem dsts_mem {N : Nat} {l : List Oper} (h : (l.all fun o => match o.dst with | some d => decide (d < N) | none => true) = true) : ∀ o ∈ l, ∀ d, o.dst = some d → d < N := fun o ho d hd => by
  have := List.all_eq_true.1 h o ho
  rw [hd] at this
  simpa using this
theorem up_out {Q : PX → PF → Prop} : ∀ a w, ¬ Up N B Q .outgrown a w := fun a w ⟨_, _, _, x, _, hu, _⟩ => by cases x <;> exact hu
theorem pwp_sound {ro : Option Nat} (hm : P.follows .mixedOrders = true) (hM : B.lo = M) : ∀ (c : Code) (Q : PX → PF → Prop) (fr : PF) (a : Act) (w : World), dstsIn N c = true → SimE N B a w fr → pwp P M c Q fr → wr P ro c (Up N B Q) a w
  | .skip, Q, fr, a, w, _, ⟨R, Γ, h⟩, hp => wr_skip ⟨R, Γ, fr, .normal, h, trivial, hp⟩
  | .label _, Q, fr, a, w, _, ⟨R, Γ, h⟩, hp => wr_label ⟨R, Γ, fr, .normal, h, trivial, hp⟩
  | .region id ops false, Q, fr, a, w, hd, h, hp => wr_region (by
      rw [List.range_eq_range']
      exact pops_sound ops rfl (dsts_mem hd) hM pan_up up_out (fun a w fr ⟨R, Γ, hs⟩ hk => ⟨R, Γ, fr, .normal, hs, trivial, hk⟩) ops.size 0 (by simp) a w fr h hp)
  | .region id ops true, Q, fr, a, w, hd, h, hp => by
    obtain ⟨m, hml, hp⟩ := hp
    exact draw_sound hm ops rfl (dsts_mem hd) hM pan_up up_out (fun a w fr ⟨R, Γ, hs⟩ hk => ⟨R, Γ, fr, .normal, hs, trivial, hk⟩) id h hml hp
  | .seq x y, Q, fr, a, w, hd, h, hp => by
    simp only [dstsIn, Bool.and_eq_true] at hd
    refine wr_seq (wr_mono (pwp_sound hm hM x _ fr a w hd.1 h hp) fun e a' w' ⟨R, Γ, fr', x, hs, hu, hq⟩ => ?_)
    cases e with
    | normal => cases x with
      | normal => exact pwp_sound hm hM y Q fr' a' w' hd.2 hs.toE hq
      | _ => exact hu.elim
    | _ => cases x with
      | normal => exact hu.elim
      | _ => exact ⟨R, Γ, fr', _, hs, hu, hq⟩
  | .cond c x y, Q, fr, a, w, hd, h, hp => by
    simp only [dstsIn, Bool.and_eq_true] at hd
    simp only [pwp] at hp
    split at hp
    case h_2 => exact hp.elim
    rename_i b hb
    have hv : a.eval c = .bool b := by
      obtain ⟨R, Γ, hs⟩ := h
      have := hs.rd c
      rw [hb] at this
      generalize a.eval c = u at this
      cases this; rfl
    refine wr_cond hv ?_
    cases b
    · simp only [Bool.false_eq_true, if_false] at hp ⊢; exact pwp_sound hm hM y Q fr a w hd.2 h hp
    · simp only [if_true] at hp ⊢; exact pwp_sound hm hM x Q fr a w hd.1 h hp
  | .block id c, Q, fr, a, w, hd, h, hp => wr_block (wr_mono (pwp_sound hm hM c _ fr a w hd h hp) fun e a' w' ⟨R, Γ, fr', x, hs, hu, hq⟩ => by
      cases e with
      | exit id' => cases x with
        | exit id'' =>
          obtain rfl : id' = id'' := hu
          simp only [blockP, Exit.inBlock] at hq ⊢
          split at hq
          · rw [if_pos ‹_›]; exact ⟨R, Γ, fr', .normal, hs, trivial, hq⟩
          · rw [if_neg ‹_›]; exact ⟨R, Γ, fr', .exit id', hs, rfl, hq⟩
        | _ => exact hu.elim
      | _ => cases x with
        | exit id'' => exact hu.elim
        | _ => exact ⟨R, Γ, fr', _, hs, hu, hq⟩)
  | .loop c, Q, fr, a, w, hd, h, hp => wr_loop fun X hX => by
    have key := hp (fun fr => ∀ a w, SimE N B a w fr → X a w)
      (fun fr hr a w hs => hX a w (wr_mono (pwp_sound hm hM c _ fr a w hd hs hr) fun e a₁ w₁ ⟨R, Γ, fr₁, x, hs₁, hu, hq⟩ => by
        cases e with
        | normal => cases x with
          | normal => exact hq a₁ w₁ hs₁.toE
          | _ => exact hu.elim
        | _ => cases x with
          | normal => exact hu.elim
          | _ => exact ⟨R, Γ, fr₁, _, hs₁, hu, hq⟩))
      (fun fr g hw hx a w hs => hx a w (hw _ _ _ _ hM hs))
    exact key a w h
  | .exit id, Q, fr, a, w, _, ⟨R, Γ, h⟩, hp => wr_exit ⟨R, Γ, fr, .exit id, h, rfl, hp⟩
  | .ret, Q, fr, a, w, _, ⟨R, Γ, h⟩, hp => wr_ret ⟨R, Γ, fr, .ret, h, trivial, hp⟩
  | .scope c, Q, fr, a, w, hd, h, hp => wr_scope (wr_mono (pwp_sound hm hM c _ fr a w hd h hp) fun e a' w' ⟨R, Γ, fr', x, hs, hu, hq⟩ => by
      cases e with
      | goto l => cases x with
        | goto l' => exact hq.elim
        | _ => exact hu.elim
      | _ => cases x with
        | goto l' => exact hu.elim
        | _ => exact ⟨R, Γ, fr', _, hs, hu, hq⟩)
  | .rangeFunc .., _, _, _, _, _, _, hp => hp.elim
  | .goto _, _, _, _, _, _, _, hp => hp.elim
  | .refuse _, _, _, _, _, _, _, hp => hp.elim
end
end Go.Qg

namespace Go.Qg
open Go.RowKit (Below)
def presult (P : Program) (fr : PF) : ResultVar → Option PV
  | .tmp t => some (rd fr (.tmp t))
  | .cell t ty => match pcont fr (rd fr (.tmp t)) with
    | some (cs, off) => pload P ty cs off
    | none => none
def presultsL (P : Program) (fr : PF) : List ResultVar → Option (List PV)
  | [] => some []
  | r :: rs => match presult P fr r with
    | some p => match presultsL P fr rs with
      | some ps => some (p :: ps)
      | none => none
    | none => none
def presults (P : Program) (fr : PF) (rs : List ResultVar) : Option PV :=
  match rs with
  | [r] => presult P fr r
  | rs => match presultsL P fr rs with
    | some ps => some (.tup ps)
    | none => none
def leaves (M k : Nat) (fr : PF) (x : PV) (r : PV) (H2 : PF) (news : List Nat) : Prop :=
  let κ := (List.range k).map (M + ·) ++ news
  κ.Nodup ∧ outF fr (tgtAt H2 κ fun s => !κ.contains s) 8 H2 κ ∧ vw fr (tgtAt H2 κ fun s => !κ.contains s) 8 r x
def ppost (P : Program) (M k : Nat) (rs : List ResultVar) (Q : Out → Prop) : PX → PF → Prop
  | .ret, fr | .normal, fr => ∃ x r H2 news, presults P fr rs = some x ∧ leaves M k fr x r H2 news ∧ Q (.ret r H2)
  | .panic x, fr => ∃ r H2 news, leaves M k fr x r H2 news ∧ Q (.pan r H2)
  | _, _ => False
section
variable {P : Program} {N M : Nat} {B : Base} {w w' : World} {R R' : Nat → Nat → Prop} {Γ Γ' : Nat → Option Loc} {a : Act} {fr : PF}
def resOne (tmps : Array Value) : ResultVar → Sem Value
  | .tmp t => pure (tmps.getD t undef)
  | .cell t ty => do loadVar ty (← asAddr (tmps.getD t undef))
theorem results_eq (fn : Func) (tmps : Array Value) : results fn tmps = (do let vs ← fn.results.mapM (resOne tmps); pure (if h : vs.size = 1 then vs[0] else .tuple vs)) := by
  rfl
theorem presult_sound (h : Sim N B R Γ a w fr) {r : ResultVar} {p : PV} (hp : presult P fr r = some p) :
    ∃ v, (resOne a.tmps r).run P w = .ok v w ∧ Rep w R Γ v p := by
  cases r with
  | tmp t =>
    simp only [presult] at hp
    obtain rfl := Option.some.inj hp
    exact ⟨_, rfl, h.rd (.tmp t)⟩
  | cell t ty =>
    simp only [presult] at hp
    split at hp
    case h_2 => cases hp
    rename_i cs off hc
    obtain ⟨b, o, us, hu, hptr⟩ := h.ptr (h.rd (.tmp t)) hc
    obtain ⟨v, hr, hrep⟩ := load_sound (P := P) hptr hp
    refine ⟨v, ?_, hrep⟩
    have hu' : a.tmps.getD t undef = .pointer (some ⟨b, o + off, none⟩) := hu
    simp only [resOne, hu', asAddr, Sem.run_bind, Sem.run_pure, Result.andThen_ok, hr]
theorem presultsL_sound (h : Sim N B R Γ a w fr) : ∀ (rs : List ResultVar) (ps : List PV), presultsL P fr rs = some ps → ∃ vs : List Value, (rs.mapM (resOne a.tmps)).run P w = .ok vs w ∧ vs.length = ps.length ∧ ps.length = rs.length ∧ ∀ (i : Nat) (u : Value) (p : PV), vs[i]? = some u → ps[i]? = some p → Rep w R Γ u p
  | [], ps, hps => by
    obtain rfl := Option.some.inj hps
    exact ⟨[], by simp, rfl, rfl, fun i u p hu => by simp at hu⟩
  | r :: rs, ps, hps => by
    simp only [presultsL] at hps
    split at hps
    case h_2 => cases hps
    rename_i q hq
    split at hps
    case h_2 => cases hps
    rename_i qs hqs
    obtain rfl := Option.some.inj hps
    obtain ⟨v, hv, hrep⟩ := presult_sound (P := P) h hq
    obtain ⟨vs, hvs, hl, hl2, hr⟩ := presultsL_sound h rs qs hqs
    refine ⟨v :: vs, ?_, by simp [hl], by simp [hl2], fun i u p hu hp => ?_⟩
    · rw [List.mapM_cons]
      simp only [Sem.run_bind, hv, Result.andThen_ok, hvs, Sem.run_pure]
    · cases i with
      | zero => simp at hu hp; subst hu hp; exact hrep
      | succ i => exact hr i u p (by simpa using hu) (by simpa using hp)
theorem presults_sound (h : Sim N B R Γ a w fr) (fn : Func) {p : PV} (hp : presults P fr fn.results.toList = some p) : ∃ v, (results fn a.tmps).run P w = .ok v w ∧ Rep w R Γ v p := by
  have hrun : ∀ (vs : List Value), (fn.results.toList.mapM (resOne a.tmps)).run P w = .ok vs w → (results fn a.tmps).run P w = .ok (if h : vs.toArray.size = 1 then vs.toArray[0] else .tuple vs.toArray) w := fun vs hvs => by
    rw [results_eq, Array.mapM_eq_mapM_toList]
    simp only [Sem.run_bind, Sem.run_map, hvs, Result.andThen_ok, Sem.run_pure]
  unfold presults at hp
  split at hp
  · rename_i r hr
    obtain ⟨v, hv, hrep⟩ := presult_sound (P := P) h hp
    refine ⟨v, ?_, hrep⟩
    have := hrun [v] (by rw [hr]; simp [List.mapM_cons, hv])
    simpa using this
  · rename_i hne
    split at hp
    case h_2 => cases hp
    rename_i ps hps
    obtain rfl := Option.some.inj hp
    obtain ⟨vs, hvs, hl, hl2, hr⟩ := presultsL_sound h _ _ hps
    refine ⟨.tuple vs.toArray, ?_, .tup vs ps hl hr⟩
    have h1 : ¬ vs.toArray.size = 1 := fun hone => by
      have hrl : fn.results.toList.length = 1 := by rw [← hl2, ← hl]; simpa using hone
      obtain ⟨r, hr'⟩ := List.length_eq_one_iff.1 hrl
      exact hne r hr'
    have := hrun vs hvs
    rw [dif_neg h1] at this
    exact this
theorem leaves_sound {Prot : Nat → Prop} {w0 : World} {R0 : Nat → Nat → Prop} {Γ0 : Nat → Option Loc} {H H2 : PF} {news : List Nat} {x r : PV} {D : List Deferred} (h0 : Sim 0 ⟨Prot, w0, R0, Γ0, 0, []⟩ R0 Γ0 noAct w0 H) (h : Sim N { base0 Prot w0 R0 Γ0 M with D := D } R Γ a w fr)
    (hl : leaves M H.length fr x r H2 news) {u : Value} (hu : Rep w R Γ u x) : ∃ R' Γ', Rep w R' Γ' u r ∧ Sim 0 ⟨Prot, w0, R0, Γ0, 0, []⟩ R' Γ' noAct w H2 ∧ ∀ q ∈ H2, q.isObj = true := by
  obtain ⟨hn, hout, hv⟩ := hl
  obtain ⟨h1, h2⟩ := h.leave hout hn (fun s hs => by have := List.contains_iff_mem.2 hs; show (!_) = false; rw [this]; rfl)
  refine ⟨_, _, h2 r x u hv hu, h1.rebase fun j l hjl => ?_, fun q hq => ?_⟩
  · obtain ⟨⟨p, hp, _⟩, _⟩ := h0.own j l hjl
    have hj := lt_of_get? hp
    have hb : (base0 Prot w0 R0 Γ0 M).Γ0 (M + j) = some l := by
      simp only [base0]
      rw [if_pos (by omega), Nat.add_sub_cancel_left]; exact hjl
    obtain ⟨l1, e1, e2⟩ := h.base (M + j) l (Nat.le_add_right _ _) hb
    have hκ : ((List.range H.length).map (M + ·) ++ news)[j]? = some (M + j) := by
      rw [List.getElem?_append_left (by simpa using hj), List.getElem?_map, List.getElem?_range hj]; rfl
    obtain ⟨l2, e3, e4⟩ := Γout_le h hout hκ e1
    exact ⟨l2, e3, Loc.le_trans e2 e4⟩
  · obtain ⟨i, hi⟩ := List.mem_iff_getElem?.1 hq
    obtain ⟨s, p, _, _, hbare, _⟩ := outF_get hout i q hi
    cases q <;> first | rfl | cases hbare
theorem callW_of (hm : P.follows .mixedOrders = true) {f : FuncId} {fn : Func} {c : Code} (hf : P.funcs[f]? = some fn) (hname : (fn.name == "runtime.NumGoroutine") = false) (hb : fn.body = some c) {rs : List ResultVar} (hrs : fn.results.toList = rs) (hn : fn.ntmps = N) (hd : dstsIn N c = true) {args : List PV} {H : PF} {Q : Out → Prop}
    (M : Nat) (hargs : args.length ≤ N) (hM : N ≤ M) (h : pwp P M c (ppost P M H.length rs Q) (frame0 M args H)) : CallW P f args H Q := by
  subst hrs hn
  refine ⟨fun vs w => ?_, fun w vs R Γ Prot hRp h0 hl hrep => ?_⟩
  · simp only [callFunc, Sem.run_bind, run_program, Result.andThen_ok, hf, hname, hb]
    rfl
  · have hsim := h0.enter hl hrep hargs hM
    have he : ({ tmps := vs.toArray ++ Array.replicate (fn.ntmps - vs.toArray.size) undef, defers := [] } : Act) = { tmps := vs.toArray ++ Array.replicate (fn.ntmps - vs.toArray.size) undef, defers := [] } := rfl
    refine calls_of_wp hf hb (wp_mono (wp_of_wr (pwp_sound hm rfl c _ _ _ w hd hsim.toE h)) fun e a w' ⟨R', Γ', fr, x, hs, hu, hq⟩ => ?_)
    have fin : (∃ x r H2 news, presults P fr fn.results.toList = some x ∧ leaves M H.length fr x r H2 news ∧ Q (.ret r H2)) → a.defers = [] ∧ ∃ v, (results fn a.tmps).run P w' = .ok v w' ∧ Left Prot w R Γ Q (.returned v) w' := by
      rintro ⟨x, r, H2, news, hx, hlv, hQ⟩
      obtain ⟨v, hv, hrv⟩ := presults_sound (P := P) hs fn hx
      obtain ⟨R2, Γ2, k1, k2, k3⟩ := leaves_sound (D := []) h0 hs hlv hrv
      exact ⟨hs.defers, v, hv, R2, Γ2, .inl ⟨v, r, H2, rfl, hQ, k1, k2, k3⟩⟩
    cases e with
    | ret => cases x with
      | ret => exact fin hq
      | _ => exact hu.elim
    | normal => cases x with
      | normal => exact fin hq
      | _ => exact hu.elim
    | panic ch => cases x with
      | panic p =>
        obtain ⟨v, rfl, hrv⟩ := hu
        obtain ⟨r, H2, news, hlv, hQ⟩ := hq
        obtain ⟨R2, Γ2, k1, k2, k3⟩ := leaves_sound (D := []) h0 hs hlv hrv
        exact ⟨hs.defers, R2, Γ2, .inr ⟨v, r, H2, rfl, hQ, k1, k2, k3⟩⟩
      | _ => exact hu.elim
    | exit id => cases x with
      | exit id' => exact hq.elim
      | _ => exact hu.elim
    | goto id => cases x with
      | goto id' => exact hq.elim
      | _ => exact hu.elim
    | outgrown => cases x <;> exact hu.elim
end
end Go.Qg

namespace Go.Qg
open Go.RowKit (Below)
def dsts : Code → List Nat
  | .region _ ops _ => ops.toList.filterMap (·.dst)
  | .seq a b => dsts a ++ dsts b
  | .cond _ a b => dsts a ++ dsts b
  | .block _ c => dsts c
  | .loop c => dsts c
  | .scope c => dsts c
  | .rangeFunc _ _ a b => dsts a ++ dsts b
  | _ => []
def forgetAll (S : List Nat) (fr : PF) : PF := S.foldl (fun f s => f.set s .undef) fr
def less (M : Nat) (fr g : PF) : Prop := leF fr (tgtOf fr g) M 8 0 g fr
def again {σ : Type} (M : Nat) (H : σ → PF) (I : σ → Prop) (μ : σ → Nat) (s : σ) (fr : PF) : Prop := ∃ s', I s' ∧ μ s' < μ s ∧ less M fr (H s')
theorem again_of {σ : Type} {M : Nat} {H : σ → PF} {I : σ → Prop} {μ : σ → Nat} {s : σ} {fr : PF} (s' : σ) (h1 : I s') (h2 : μ s' < μ s) (h3 : less M fr (H s')) : again M H I μ s fr := ⟨s', h1, h2, h3⟩
theorem weak_of_less {M : Nat} {fr g : PF} (h : less M fr g) : Weak M fr g := fun N B a w hM ⟨R, Γ, hs⟩ => by
  subst hM
  exact (weak_le hs h).toE
theorem pwp_loop {P : Program} {M : Nat} {c : Code} {Q : PX → PF → Prop} {fr B : PF} {σ : Type} (V : σ → List (Nat × PV)) (I : σ → Prop) (μ : σ → Nat) (s0 : σ) (h0 : I s0) (_hB : forgetAll (dsts c) fr = B) (e0 : less M fr (apply (V s0) B))
    (round : ∀ s, I s → pwp P M c (thenP (again M (fun s => apply (V s) B) I μ s) Q) (apply (V s) B)) : pwp P M (.loop c) Q fr := fun X hX hW => by
  refine hW _ _ (weak_of_less e0) ?_
  have key : ∀ n s, μ s = n → I s → X (apply (V s) B) := by
    intro n
    induction n using Nat.strongRecOn with
    | _ n ih =>
      intro s hn hI
      refine hX _ (pwp_mono c (fun e fr' he => ?_) (round s hI))
      cases e with
      | normal =>
        obtain ⟨s', h1, h2, h3⟩ := he
        exact hW _ _ (weak_of_less h3) (ih (μ s') (hn ▸ h2) s' rfl h1)
      | _ => exact he
  exact key _ s0 rfl h0
def answers (P : Program) (rs : List ResultVar) (r : PV) (fr : PF) : Prop := ∃ x, presults P fr rs = some x ∧ vw fr (tgtAt [] [] fun _ => true) 8 r x
theorem answers_of {P : Program} {rs : List ResultVar} {r x : PV} {fr : PF} (h : presults P fr rs = some x) (hv : vw fr (tgtAt [] [] fun _ => true) 8 r x) : answers P rs r fr := ⟨x, h, hv⟩
def pspec (P : Program) (rs : List ResultVar) (r : PV) : PX → PF → Prop
  | .ret, fr | .normal, fr => answers P rs r fr
  | _, _ => False
theorem spec_of {P : Program} (hm : P.follows .mixedOrders = true) {f : FuncId} {fn : Func} {c : Code} (hf : P.funcs[f]? = some fn) (hname : (fn.name == "runtime.NumGoroutine") = false) (hb : fn.body = some c) {rs : List ResultVar} (hrs : fn.results = rs.toArray) {N : Nat} (hn : fn.ntmps = N) (hd : dstsIn N c = true) {args : List PV} {r : PV} (S : Nat) (hargs : args.length ≤ N)
    (h : pwp P (N + S) c (pspec P rs r) (frame0 (N + S) args [])) : Spec P f args r := by
  refine callW_of hm hf hname hb (show fn.results.toList = rs by rw [hrs]) hn hd (N + S) hargs (Nat.le_add_right _ _) (pwp_mono c (fun e fr he => ?_) h)
  have fin : answers P rs r fr → ∃ x r' H2 news, presults P fr rs = some x ∧ leaves (N + S) ([] : PF).length fr x r' H2 news ∧ Out.ret r' H2 = .ret r [] := by
    rintro ⟨x, hx, hv⟩
    exact ⟨x, r, [], [], hx, ⟨List.nodup_nil, trivial, hv⟩, rfl⟩
  cases e with
  | ret => exact fin he
  | normal => exact fin he
  | _ => exact he.elim
theorem pop_spec {P : Program} {M : Nat} {K : PF → Prop} {Kp : PV → PF → Prop} {o : Oper} {fr : PF} {c : Call} {f : FuncId} {ps qs : List PV} {r : PV} (h : Spec P f qs r) (hp : pcallee P fr c = some (f, ps)) (md : Bool) (ha : argsOk fr (lentTgt [] [] md) qs ps) (hfl : md = false ∨ r.flat = true)
    (hn : r.names = []) (hcl : pclear o.dst r fr = true) (hK : K (put o.dst r fr)) : popCall P M K Kp o c fr := by
  refine ⟨fr, .inl rfl, ?_⟩
  rw [hp]
  refine ⟨[], md, [], qs, _, List.nodup_nil, trivial, ha, h, fun out ho => ?_⟩
  subst ho
  have e : backV [] r = r := PV.ren_free _ _ hn
  refine ⟨[], ⟨List.nodup_nil, rfl, fun s hs => by cases hs⟩, hfl.imp_right fun h => by simpa [flatL] using h, ?_⟩
  simp only [List.append_nil]
  rw [e]
  exact ⟨hcl, hK⟩
theorem pwp_draw {P : Program} {M : Nat} {Q : PX → PF → Prop} {fr : PF} {id : Nat} {ops : Array Oper} (m : Nat) (h : m ≤ ops.toList.length) (hp : pdraw P M ops.toList m (Q .normal) (fun p => Q (.panic p)) (ops.toList.take m) [] fr) : pwp P M (.region id ops true) Q fr := ⟨m, h, hp⟩
section
variable (f g H : PF) (κ : List Nat) (gone : Nat → Bool) (md : Bool) (i : Nat)
@[simp] theorem tgtOf_G_ : (tgtOf f g).G = g := rfl
@[simp] theorem tgtOf_ρ_ : (tgtOf f g).ρ i = if objAt g i && objAt f i then some i else none := rfl
@[simp] theorem tgtOf_gone_ : (tgtOf f g).gone i = !objAt g i := rfl
@[simp] theorem tgtAt_G_ : (tgtAt H κ gone).G = H := rfl
@[simp] theorem tgtAt_ρ_ : (tgtAt H κ gone).ρ i = κ[i]? := rfl
@[simp] theorem tgtAt_gone_ : (tgtAt H κ gone).gone i = gone i := rfl
@[simp] theorem lentTgt_G_ : (lentTgt H κ md).G = H := rfl
@[simp] theorem lentTgt_ρ_ : (lentTgt H κ md).ρ i = κ[i]? := rfl
@[simp] theorem lentTgt_gone_ : (lentTgt H κ md).gone i = (md && !κ.contains i) := rfl
end
def rowsOf (g : Nat → List PV) (k : Nat) : List (List PV) := (List.range k).map g
@[simp] theorem rowsOf_length (g : Nat → List PV) (k : Nat) : (rowsOf g k).length = k := by simp [rowsOf]
@[simp] theorem rowsOf_zero (g : Nat → List PV) : rowsOf g 0 = [] := rfl
@[simp] theorem rowsOf_mem {g : Nat → List PV} {k : Nat} {r : List PV} : r ∈ rowsOf g k ↔ ∃ i, i < k ∧ g i = r := by simp [rowsOf]
@[simp] theorem vwAllL_rowsOf (f : PF) (T : Tgt) (d : Nat) (g g' : Nat → List PV) (k k' : Nat) : vo.vwAllL f T d (rowsOf g k) (rowsOf g' k') = (k = k' ∧ ∀ i, i < k → vwAll (vw f T d) (g i) (g' i)) := by
  refine propext ⟨fun h => ?_, fun ⟨e, h⟩ => ?_⟩
  · have hl := vwAllL_length h
    simp only [rowsOf_length] at hl
    refine ⟨hl, fun i hi => ?_⟩
    obtain ⟨p, h1, h2⟩ := vwAllL_get h i (g i) (by simp [rowsOf, hi])
    have : (rowsOf g' k')[i]? = some (g' i) := by simp [rowsOf, hl ▸ hi]
    rw [this] at h1
    rw [Option.some.inj h1]; exact h2
  · subst e
    have key : ∀ (l : List Nat), (∀ i ∈ l, vwAll (vw f T d) (g i) (g' i)) → vo.vwAllL f T d (l.map g) (l.map g') := by
      intro l
      induction l with
      | nil => intro _; trivial
      | cons x l ih => intro h; exact ⟨h x List.mem_cons_self, ih fun i hi => h i (List.mem_cons_of_mem _ hi)⟩
    exact key _ fun i hi => h i (List.mem_range.1 hi)
theorem rowsOf_all {g : Nat → List PV} {k : Nat} {p : List PV → Bool} : (rowsOf g k).all p = true ↔ ∀ i, i < k → p (g i) = true := by simp [rowsOf]
theorem rowsOf_take (g : Nat → List PV) {j k : Nat} (h : j ≤ k) : (rowsOf g k).take j = rowsOf g j := by
  simp [rowsOf, ← List.map_take, List.take_range, Nat.min_eq_left h]
@[simp] theorem rowsOf_take_self (g : Nat → List PV) (k : Nat) : (rowsOf g k).take k = rowsOf g k := rowsOf_take g (Nat.le_refl k)
theorem rowsOf_snoc {g : Nat → List PV} {k : Nat} {x : List PV} (h : g k = x) : rowsOf g k ++ [x] = rowsOf g (k + 1) := by
  subst h; simp [rowsOf, List.range_succ]
theorem rowsOf_get {g : Nat → List PV} {i k : Nat} (h : i < k) : (rowsOf g k)[i]? = some (g i) := by simp [rowsOf, h]
theorem rowsOf_getD {g : Nat → List PV} {i k : Nat} (h : i < k) : (rowsOf g k).getD i [] = g i := by simp [List.getD, rowsOf_get h]
theorem rowsOf_congr {g g' : Nat → List PV} {k : Nat} (h : ∀ i, i < k → g i = g' i) : rowsOf g k = rowsOf g' k := by
  simp only [rowsOf]; exact List.map_congr_left fun i hi => h i (List.mem_range.1 hi)
@[simp] theorem guard_true {α : Type} {x : Option α} {i : Decidable True} : @guard α True i x = x := by unfold guard; simp
theorem i64_wrap {n : Int} (h : -9223372036854775808 ≤ n ∧ n ≤ 9223372036854775807) : IntKind.i64.wrap n = n := IntWalk.i64_in n h
theorem i64_quo {x y : Int} (h : 0 ≤ x ∧ x ≤ 9223372036854775807 ∧ 1 ≤ y) : IntKind.i64.wrap (x.tdiv y) = x / y := IntWalk.i64_quo x y h
theorem tmod_pos {x y : Int} (h : 0 ≤ x) : x.tmod y = x % y := Int.tmod_eq_emod_of_nonneg h
@[simp] theorem one_undef_  : PV.undef.one = false := rfl
@[simp] theorem isObj_undef_  : PV.undef.isObj = false := rfl
@[simp] theorem cells_undef_  : PV.undef.cells = [PV.undef] := rfl
@[simp] theorem bare_undef_  : PV.undef.bare = false := rfl
@[simp] theorem rdAt_undef_ (s : Nat)  : rdAt s PV.undef = PV.undef := rfl
@[simp] theorem one_v_ (x : Value) : (PV.v x).one = true := rfl
@[simp] theorem isObj_v_ (x : Value) : (PV.v x).isObj = false := rfl
@[simp] theorem cells_v_ (x : Value) : (PV.v x).cells = [(PV.v x)] := rfl
@[simp] theorem bare_v_ (x : Value) : (PV.v x).bare = false := rfl
@[simp] theorem rdAt_v_ (s : Nat) (x : Value) : rdAt s (PV.v x) = (PV.v x) := rfl
@[simp] theorem one_nil_  : PV.nil.one = true := rfl
@[simp] theorem isObj_nil_  : PV.nil.isObj = false := rfl
@[simp] theorem cells_nil_  : PV.nil.cells = [PV.nil] := rfl
@[simp] theorem bare_nil_  : PV.nil.bare = false := rfl
@[simp] theorem rdAt_nil_ (s : Nat)  : rdAt s PV.nil = PV.nil := rfl
@[simp] theorem one_agg_ (cs : List PV) : (PV.agg cs).one = false := rfl
@[simp] theorem isObj_agg_ (cs : List PV) : (PV.agg cs).isObj = false := rfl
@[simp] theorem cells_agg_ (cs : List PV) : (PV.agg cs).cells = cs := rfl
@[simp] theorem bare_agg_ (cs : List PV) : (PV.agg cs).bare = false := rfl
@[simp] theorem rdAt_agg_ (s : Nat) (cs : List PV) : rdAt s (PV.agg cs) = (PV.agg cs) := rfl
@[simp] theorem one_tup_ (cs : List PV) : (PV.tup cs).one = false := rfl
@[simp] theorem isObj_tup_ (cs : List PV) : (PV.tup cs).isObj = false := rfl
@[simp] theorem cells_tup_ (cs : List PV) : (PV.tup cs).cells = [(PV.tup cs)] := rfl
@[simp] theorem bare_tup_ (cs : List PV) : (PV.tup cs).bare = false := rfl
@[simp] theorem rdAt_tup_ (s : Nat) (cs : List PV) : rdAt s (PV.tup cs) = (PV.tup cs) := rfl
@[simp] theorem one_sl_ (sz : Nat) (n : Nat) (f : Nat → List PV) : (PV.sl sz n f).one = true := rfl
@[simp] theorem isObj_sl_ (sz : Nat) (n : Nat) (f : Nat → List PV) : (PV.sl sz n f).isObj = false := rfl
@[simp] theorem cells_sl_ (sz : Nat) (n : Nat) (f : Nat → List PV) : (PV.sl sz n f).cells = [(PV.sl sz n f)] := rfl
@[simp] theorem bare_sl_ (sz : Nat) (n : Nat) (f : Nat → List PV) : (PV.sl sz n f).bare = false := rfl
@[simp] theorem rdAt_sl_ (s : Nat) (sz : Nat) (n : Nat) (f : Nat → List PV) : rdAt s (PV.sl sz n f) = (PV.sl sz n f) := rfl
@[simp] theorem one_rp_ (cs : List PV) (off : Nat) : (PV.rp cs off).one = true := rfl
@[simp] theorem isObj_rp_ (cs : List PV) (off : Nat) : (PV.rp cs off).isObj = false := rfl
@[simp] theorem cells_rp_ (cs : List PV) (off : Nat) : (PV.rp cs off).cells = [(PV.rp cs off)] := rfl
@[simp] theorem bare_rp_ (cs : List PV) (off : Nat) : (PV.rp cs off).bare = false := rfl
@[simp] theorem rdAt_rp_ (s : Nat) (cs : List PV) (off : Nat) : rdAt s (PV.rp cs off) = (PV.rp cs off) := rfl
@[simp] theorem one_clo_ (fn : Fn) (a : List PV) (b : List PV) : (PV.clo fn a b).one = true := rfl
@[simp] theorem isObj_clo_ (fn : Fn) (a : List PV) (b : List PV) : (PV.clo fn a b).isObj = false := rfl
@[simp] theorem cells_clo_ (fn : Fn) (a : List PV) (b : List PV) : (PV.clo fn a b).cells = [(PV.clo fn a b)] := rfl
@[simp] theorem bare_clo_ (fn : Fn) (a : List PV) (b : List PV) : (PV.clo fn a b).bare = false := rfl
@[simp] theorem rdAt_clo_ (s : Nat) (fn : Fn) (a : List PV) (b : List PV) : rdAt s (PV.clo fn a b) = (PV.clo fn a b) := rfl
@[simp] theorem one_ref_ (i : Nat) (off : Nat) : (PV.ref i off).one = true := rfl
@[simp] theorem isObj_ref_ (i : Nat) (off : Nat) : (PV.ref i off).isObj = false := rfl
@[simp] theorem cells_ref_ (i : Nat) (off : Nat) : (PV.ref i off).cells = [(PV.ref i off)] := rfl
@[simp] theorem bare_ref_ (i : Nat) (off : Nat) : (PV.ref i off).bare = false := rfl
@[simp] theorem rdAt_ref_ (s : Nat) (i : Nat) (off : Nat) : rdAt s (PV.ref i off) = (PV.ref i off) := rfl
@[simp] theorem one_elt_ (i : Nat) (ep : Nat) (k : Nat) (f : Nat) : (PV.elt i ep k f).one = true := rfl
@[simp] theorem isObj_elt_ (i : Nat) (ep : Nat) (k : Nat) (f : Nat) : (PV.elt i ep k f).isObj = false := rfl
@[simp] theorem cells_elt_ (i : Nat) (ep : Nat) (k : Nat) (f : Nat) : (PV.elt i ep k f).cells = [(PV.elt i ep k f)] := rfl
@[simp] theorem bare_elt_ (i : Nat) (ep : Nat) (k : Nat) (f : Nat) : (PV.elt i ep k f).bare = false := rfl
@[simp] theorem rdAt_elt_ (s : Nat) (i : Nat) (ep : Nat) (k : Nat) (f : Nat) : rdAt s (PV.elt i ep k f) = (PV.elt i ep k f) := rfl
@[simp] theorem one_own_ (i : Nat) (ep : Nat) (off : Nat) (n : Nat) (c : Bool) : (PV.own i ep off n c).one = true := rfl
@[simp] theorem isObj_own_ (i : Nat) (ep : Nat) (off : Nat) (n : Nat) (c : Bool) : (PV.own i ep off n c).isObj = false := rfl
@[simp] theorem cells_own_ (i : Nat) (ep : Nat) (off : Nat) (n : Nat) (c : Bool) : (PV.own i ep off n c).cells = [(PV.own i ep off n c)] := rfl
@[simp] theorem bare_own_ (i : Nat) (ep : Nat) (off : Nat) (n : Nat) (c : Bool) : (PV.own i ep off n c).bare = false := rfl
@[simp] theorem rdAt_own_ (s : Nat) (i : Nat) (ep : Nat) (off : Nat) (n : Nat) (c : Bool) : rdAt s (PV.own i ep off n c) = (PV.own i ep off n c) := rfl
@[simp] theorem one_mp_ (i : Nat) : (PV.mp i).one = true := rfl
@[simp] theorem isObj_mp_ (i : Nat) : (PV.mp i).isObj = false := rfl
@[simp] theorem cells_mp_ (i : Nat) : (PV.mp i).cells = [(PV.mp i)] := rfl
@[simp] theorem bare_mp_ (i : Nat) : (PV.mp i).bare = false := rfl
@[simp] theorem rdAt_mp_ (s : Nat) (i : Nat) : rdAt s (PV.mp i) = (PV.mp i) := rfl
@[simp] theorem one_ifc_ (t : TypeId) (p : PV) : (PV.ifc t p).one = true := rfl
@[simp] theorem isObj_ifc_ (t : TypeId) (p : PV) : (PV.ifc t p).isObj = false := rfl
@[simp] theorem cells_ifc_ (t : TypeId) (p : PV) : (PV.ifc t p).cells = [(PV.ifc t p)] := rfl
@[simp] theorem bare_ifc_ (t : TypeId) (p : PV) : (PV.ifc t p).bare = false := rfl
@[simp] theorem rdAt_ifc_ (s : Nat) (t : TypeId) (p : PV) : rdAt s (PV.ifc t p) = (PV.ifc t p) := rfl
@[simp] theorem one_box_ (h : Bool) (cs : List PV) : (PV.box h cs).one = false := rfl
@[simp] theorem isObj_box_ (h : Bool) (cs : List PV) : (PV.box h cs).isObj = true := rfl
@[simp] theorem cells_box_ (h : Bool) (cs : List PV) : (PV.box h cs).cells = [(PV.box h cs)] := rfl
@[simp] theorem bare_box_ (h : Bool) (cs : List PV) : (PV.box h cs).bare = !h := rfl
@[simp] theorem rdAt_box_t_ (t : Nat) (cs : List PV) : rdAt t (PV.box true cs) = .ref t 0 := rfl
@[simp] theorem rdAt_box_f_ (t : Nat) (cs : List PV) : rdAt t (PV.box false cs) = .undef := rfl
@[simp] theorem one_rows_ (h : Option (Nat × Nat)) (ep : Nat) (e : TypeId) (sz : Nat) (rs : List (List PV)) : (PV.rows h ep e sz rs).one = false := rfl
@[simp] theorem isObj_rows_ (h : Option (Nat × Nat)) (ep : Nat) (e : TypeId) (sz : Nat) (rs : List (List PV)) : (PV.rows h ep e sz rs).isObj = true := rfl
@[simp] theorem cells_rows_ (h : Option (Nat × Nat)) (ep : Nat) (e : TypeId) (sz : Nat) (rs : List (List PV)) : (PV.rows h ep e sz rs).cells = [(PV.rows h ep e sz rs)] := rfl
@[simp] theorem bare_rows_ (h : Option (Nat × Nat)) (ep : Nat) (e : TypeId) (sz : Nat) (rs : List (List PV)) : (PV.rows h ep e sz rs).bare = h.isNone := rfl
@[simp] theorem rdAt_rows_s_ (t ep0 n ep e sz : Nat) (rs : List (List PV)) : rdAt t (PV.rows (some (ep0, n)) ep e sz rs) = .own t ep0 0 n false := rfl
@[simp] theorem rdAt_rows_n_ (t ep e sz : Nat) (rs : List (List PV)) : rdAt t (PV.rows none ep e sz rs) = .undef := rfl
@[simp] theorem one_map_ (h : Bool) (ks : List PV) (vs : List PV) : (PV.map h ks vs).one = false := rfl
@[simp] theorem isObj_map_ (h : Bool) (ks : List PV) (vs : List PV) : (PV.map h ks vs).isObj = true := rfl
@[simp] theorem cells_map_ (h : Bool) (ks : List PV) (vs : List PV) : (PV.map h ks vs).cells = [(PV.map h ks vs)] := rfl
@[simp] theorem bare_map_ (h : Bool) (ks : List PV) (vs : List PV) : (PV.map h ks vs).bare = !h := rfl
@[simp] theorem rdAt_map_t_ (t : Nat) (ks vs : List PV) : rdAt t (PV.map true ks vs) = .mp t := rfl
@[simp] theorem rdAt_map_f_ (t : Nat) (ks vs : List PV) : rdAt t (PV.map false ks vs) = .undef := rfl
section
variable {f : PF} {T : Tgt} {d t : Nat}
@[simp] theorem vw_undef_ (p : PV) : vw f T (d + 1) .undef p = True := by cases p <;> rfl
@[simp] theorem vw_v_ (x y : Value) : vw f T (d + 1) (.v x) (.v y) = (x = y) := by
  simp only [vw, PV.names, and_true, PV.v.injEq]
@[simp] theorem vw_nil_ : vw f T (d + 1) .nil .nil = True := by simp only [vw, PV.names, and_true]
@[simp] theorem vw_agg_ (qs ps : List PV) : vw f T (d + 1) (.agg qs) (.agg ps) = (vwAll (vw f T d) qs ps ∧ qs.all (·.one) = true) := rfl
@[simp] theorem vw_tup_ (qs ps : List PV) : vw f T (d + 1) (.tup qs) (.tup ps) = vwAll (vw f T d) qs ps := rfl
@[simp] theorem vw_clo_ (fn fn' : Fn) (q1 q2 p1 p2 : List PV) : vw f T (d + 1) (.clo fn q1 q2) (.clo fn' p1 p2) = (fn = fn' ∧ vwAll (vw f T d) q1 p1 ∧ vwAll (vw f T d) q2 p2) := rfl
@[simp] theorem vw_ifc_ (s s' : TypeId) (q p : PV) : vw f T (d + 1) (.ifc s q) (.ifc s' p) = (s = s' ∧ vw f T d q p) := rfl
@[simp] theorem vw_ref_ (i off s off' : Nat) : vw f T (d + 1) (.ref i off) (.ref s off') = (T.ρ i = some s ∧ off = off' ∧ epAt f s = none) := rfl
@[simp] theorem vw_mp_ (i s : Nat) : vw f T (d + 1) (.mp i) (.mp s) = (T.ρ i = some s ∧ epAt f s = none) := rfl
@[simp] theorem vw_elt_ (i ep k g s ep0 k' g' : Nat) : vw f T (d + 1) (.elt i ep k g) (.elt s ep0 k' g') = (T.ρ i = some s ∧ k = k' ∧ g = g' ∧ epAt T.G i = some ep ∧ epAt f s = some ep0) := rfl
@[simp] theorem vw_own_ (i ep off n s ep0 off' n' : Nat) (c c' : Bool) : vw f T (d + 1) (.own i ep off n c) (.own s ep0 off' n' c') = (T.ρ i = some s ∧ off = off' ∧ n = n' ∧ c = c' ∧ epAt T.G i = some ep ∧ epAt f s = some ep0) := rfl
@[simp] theorem vw_own_nil_ (i ep off n : Nat) (c : Bool) : vw f T (d + 1) (.own i ep off n c) .nil = (off = 0 ∧ n = 0 ∧ newAt T i ep) := rfl
@[simp] theorem vw_sl_own_ (sz n : Nat) (h : Nat → List PV) (s ep off m : Nat) (c : Bool) : vw f T (d + 1) (.sl sz n h) (.own s ep off m c) = (T.gone s = true ∧ n = m ∧ ∃ rs, pown f s ep = some (sz, rs) ∧ off + n ≤ rs.length ∧ ∀ k, k < n → vwAll (vw f T d) (h k) (rs.getD (off + k) []) ∧ (h k).all (fun q => q.one && q.free) = true) := rfl
@[simp] theorem vw_sl_nil_ (sz n : Nat) (h : Nat → List PV) : vw f T (d + 1) (.sl sz n h) .nil = (n = 0) := rfl
@[simp] theorem vw_sl_ (sz n sz' m : Nat) (h h' : Nat → List PV) : vw f T (d + 1) (.sl sz n h) (.sl sz' m h') = ((n = 0 ∧ m = 0) ∨ (sz = sz' ∧ n = m ∧ ∀ k, k < n → h k = h' k)) := rfl
@[simp] theorem vw_rp_ref_ (qs : List PV) (off s off' : Nat) : vw f T (d + 1) (.rp qs off) (.ref s off') = (T.gone s = true ∧ off = off' ∧ ∃ hb ps, f[s]? = some (.box hb ps) ∧ vwAll (vw f T d) qs ps ∧ qs.all (fun q => q.one && q.free) = true) := rfl
@[simp] theorem vw_rp_elt_ (qs : List PV) (off s ep k off' : Nat) : vw f T (d + 1) (.rp qs off) (.elt s ep k off') = (T.gone s = true ∧ off = off' ∧ ∃ sz rs, pown f s ep = some (sz, rs) ∧ k < rs.length ∧ vwAll (vw f T d) qs (rs.getD k []) ∧ qs.all (fun q => q.one && q.free) = true) := rfl
@[simp] theorem vw_rp_ (qs ps : List PV) (off off' : Nat) : vw f T (d + 1) (.rp qs off) (.rp ps off') = (qs = ps ∧ off = off') := by
  simp only [vw, PV.names, and_true, PV.rp.injEq]
@[simp] theorem vo_box_ (h h' : Bool) (qs ps : List PV) : vo f T d t (.box h qs) (.box h' ps) = ((h = true → h' = true) ∧ vwAll (vw f T d) qs ps ∧ qs.all (·.one) = true) := rfl
@[simp] theorem vo_map_ (h h' : Bool) (ks vs ks' vs' : List PV) : vo f T d t (.map h ks vs) (.map h' ks' vs') = ((h = true → h' = true) ∧ vwAll (vw f T d) ks ks' ∧ vwAll (vw f T d) vs vs') := rfl
@[simp] theorem vo_rows_ (h h' : Option (Nat × Nat)) (ep e sz ep' e' sz' : Nat) (rs rs' : List (List PV)) : vo f T d t (.rows h ep e sz rs) (.rows h' ep' e' sz' rs') = ((h = none ∨ (h = h' ∧ ep = ep')) ∧ ep' ≤ ep ∧ e = e' ∧ sz = sz' ∧ vo.vwAllL f T d rs rs' ∧ rs.all (fun r => r.all (·.one)) = true) := rfl
theorem vo_rows_new_ (h : Option (Nat × Nat)) (ep e sz : Nat) (rs : List (List PV)) (p : PV) (hp : p.isObj = false) : vo f T d t (.rows h ep e sz rs) p = (h = none ∧ rs = [] ∧ 0 < sz) := by
  cases p <;> first | rfl | cases hp
@[simp] theorem vo_rows_undef_ (h : Option (Nat × Nat)) (ep e sz : Nat) (rs : List (List PV)) : vo f T d t (.rows h ep e sz rs) .undef = (h = none ∧ rs = [] ∧ 0 < sz) := rfl
@[simp] theorem vo_undef_ (p : PV) : vo f T d t .undef p = vw f T d .undef (rdAt t p) := rfl
@[simp] theorem vo_v_ (x : Value) (p : PV) : vo f T d t (.v x) p = vw f T d (.v x) (rdAt t p) := rfl
@[simp] theorem vo_nil_ (p : PV) : vo f T d t .nil p = vw f T d .nil (rdAt t p) := rfl
@[simp] theorem vo_agg_ (cs : List PV) (p : PV) : vo f T d t (.agg cs) p = vw f T d (.agg cs) (rdAt t p) := rfl
@[simp] theorem vo_tup_ (cs : List PV) (p : PV) : vo f T d t (.tup cs) p = vw f T d (.tup cs) (rdAt t p) := rfl
@[simp] theorem vo_sl_ (sz n : Nat) (h : Nat → List PV) (p : PV) : vo f T d t (.sl sz n h) p = vw f T d (.sl sz n h) (rdAt t p) := rfl
@[simp] theorem vo_rp_ (cs : List PV) (off : Nat) (p : PV) : vo f T d t (.rp cs off) p = vw f T d (.rp cs off) (rdAt t p) := rfl
@[simp] theorem vo_clo_ (fn : Fn) (a b : List PV) (p : PV) : vo f T d t (.clo fn a b) p = vw f T d (.clo fn a b) (rdAt t p) := rfl
@[simp] theorem vo_ref_ (i off : Nat) (p : PV) : vo f T d t (.ref i off) p = vw f T d (.ref i off) (rdAt t p) := rfl
@[simp] theorem vo_elt_ (i ep k g : Nat) (p : PV) : vo f T d t (.elt i ep k g) p = vw f T d (.elt i ep k g) (rdAt t p) := rfl
@[simp] theorem vo_own_ (i ep off n : Nat) (c : Bool) (p : PV) : vo f T d t (.own i ep off n c) p = vw f T d (.own i ep off n c) (rdAt t p) := rfl
@[simp] theorem vo_mp_ (i : Nat) (p : PV) : vo f T d t (.mp i) p = vw f T d (.mp i) (rdAt t p) := rfl
@[simp] theorem vo_ifc_ (s : TypeId) (q p : PV) : vo f T d t (.ifc s q) p = vw f T d (.ifc s q) (rdAt t p) := rfl
mutual
def PV.plain : PV → Bool
  | .agg cs => cs.all (·.one) && plainL cs
  | .tup cs => plainL cs
  | .clo _ first cap => plainL first && plainL cap
  | .ifc _ p => p.plain
  | .undef | .v _ | .nil | .sl .. | .rp .. => true
  | _ => false
def plainL : List PV → Bool
  | [] => true
  | p :: ps => p.plain && plainL ps
end
theorem plain_spec (d : Nat) : (∀ p : PV, p.plain = true → p.names = [] ∧ vw f T d p p) ∧ ∀ ps : List PV, plainL ps = true → namesL ps = [] ∧ vwAll (vw f T d) ps ps := by
  have nm : (∀ p : PV, p.plain = true → p.names = []) := fun p h => by
    refine PV.rec (motive_1 := fun p => p.plain = true → p.names = []) (motive_2 := fun ps => plainL ps = true → namesL ps = []) (motive_3 := fun _ => True) ?_ ?_ ?_ ?_ ?_ ?_ ?_ ?_ ?_ ?_ ?_ ?_ ?_ ?_ ?_ ?_ ?_ ?_ ?_ ?_ p h
    · intro _; rfl
    · intro x _; rfl
    · intro _; rfl
    · intro cs ih h; simp only [PV.plain, Bool.and_eq_true] at h; exact ih h.2
    · intro cs ih h; exact ih h
    · intro sz n f _ _; rfl
    · intro cs off _ _; rfl
    · intro fn first cap ih1 ih2 h
      simp only [PV.plain, Bool.and_eq_true] at h
      simp only [PV.names, ih1 h.1, ih2 h.2]; rfl
    · intro i off h; cases h
    · intro i ep k f h; cases h
    · intro i ep off n c h; cases h
    · intro i h; cases h
    · intro t p ih h; exact ih h
    · intro f cs ih h; cases h
    · intro f ep e sz rs ih h; cases h
    · intro f ks vs ih1 ih2 h; cases h
    · intro _; rfl
    · intro p ps ih1 ih2 h
      simp only [plainL, Bool.and_eq_true] at h
      simp only [namesL, ih1 h.1, ih2 h.2]; rfl
    · trivial
    · intros; trivial
  have nmL : ∀ ps : List PV, plainL ps = true → namesL ps = [] := fun ps => by
    induction ps with
    | nil => intro _; rfl
    | cons p ps ih =>
      intro h
      simp only [plainL, Bool.and_eq_true] at h
      simp only [namesL, nm p h.1, ih h.2]; rfl
  induction d with
  | zero =>
    refine ⟨fun p h => ⟨nm p h, .inr ⟨rfl, nm p h⟩⟩, fun ps => ?_⟩
    induction ps with
    | nil => intro _; exact ⟨rfl, trivial⟩
    | cons p ps ih =>
      intro h
      refine ⟨nmL _ h, ?_⟩
      simp only [plainL, Bool.and_eq_true] at h
      exact ⟨.inr ⟨rfl, nm p h.1⟩, (ih h.2).2⟩
  | succ d ih =>
    have h1 : ∀ p : PV, p.plain = true → vw f T (d + 1) p p := fun p h => by
      cases p with
      | agg cs =>
        simp only [PV.plain, Bool.and_eq_true] at h
        exact ⟨(ih.2 cs h.2).2, h.1⟩
      | tup cs => exact (ih.2 cs h).2
      | clo fn first cap =>
        simp only [PV.plain, Bool.and_eq_true] at h
        exact ⟨rfl, (ih.2 _ h.1).2, (ih.2 _ h.2).2⟩
      | ifc t p => exact ⟨rfl, (ih.1 p h).2⟩
      | sl sz n g => exact .inr ⟨rfl, rfl, fun _ _ => rfl⟩
      | undef => trivial
      | v x => simp
      | nil => simp
      | rp cs off => simp
      | _ => cases h
    refine ⟨fun p h => ⟨nm p h, h1 p h⟩, fun ps => ?_⟩
    induction ps with
    | nil => intro _; exact ⟨rfl, trivial⟩
    | cons p ps ih2 =>
      intro h
      refine ⟨nmL _ h, ?_⟩
      simp only [plainL, Bool.and_eq_true] at h
      exact ⟨h1 p h.1, (ih2 h.2).2⟩
theorem vw_plain {p : PV} (h : p.plain = true) : vw f T d p p := ((plain_spec d).1 p h).2
theorem vwAll_plain {ps : List PV} (h : plainL ps = true) : vwAll (vw f T d) ps ps := ((plain_spec d).2 ps h).2
theorem plain_names {p : PV} (h : p.plain = true) : p.names = [] := ((plain_spec (f := []) (T := ⟨[], fun _ => none, fun _ => false⟩) 0).1 p h).1
theorem plainL_names {ps : List PV} (h : plainL ps = true) : namesL ps = [] := ((plain_spec (f := []) (T := ⟨[], fun _ => none, fun _ => false⟩) 0).2 ps h).1
theorem namesL_append (a b : List PV) : namesL (a ++ b) = namesL a ++ namesL b := by
  induction a with
  | nil => rfl
  | cons p ps ih => simp only [List.cons_append, namesL, ih, List.append_assoc]
theorem renL_plain {π : Nat → Nat} {ps : List PV} (h : plainL ps = true) : renL π ps = ps := by
  have := PV.ren_free π (.tup ps) (plainL_names h)
  simpa [PV.ren] using this
theorem ren_plain {π : Nat → Nat} {p : PV} (h : p.plain = true) : p.ren π = p := PV.ren_free π p (plain_names h)
theorem plain_obj {p : PV} (h : p.plain = true) : p.isObj = false := by cases p <;> first | rfl | cases h
theorem plain_rdAt {p : PV} {t : Nat} (h : p.plain = true) : rdAt t p = p := by cases p <;> first | rfl | cases h
theorem vo_plain {p : PV} (h : p.plain = true) : vo f T d t p p := by
  have h1 := vw_plain (f := f) (T := T) (d := d) h
  cases p <;> first | exact h1 | cases h
end
theorem ends_of {P : Program} {M k : Nat} {rs : List ResultVar} {Q : Out → Prop} {fr : PF} {x : PV} (r : PV) (H2 : PF) (news : List Nat) (hx : presults P fr rs = some x) (hn : ((List.range k).map (M + ·) ++ news).Nodup)
    (ho : outF fr (tgtAt H2 ((List.range k).map (M + ·) ++ news) fun s => !((List.range k).map (M + ·) ++ news).contains s) 8 H2 ((List.range k).map (M + ·) ++ news))
    (hv : vw fr (tgtAt H2 ((List.range k).map (M + ·) ++ news) fun s => !((List.range k).map (M + ·) ++ news).contains s) 8 r x) (hq : Q (.ret r H2)) : ppost P M k rs Q .ret fr := ⟨x, r, H2, news, hx, ⟨hn, ho, hv⟩, hq⟩
section
variable {P : Program} {M m : Nat} {Q : PX → PF → Prop} {p : PV} {fr : PF} {all : List Oper} {K : PF → Prop} {Kp : PV → PF → Prop}
@[simp] theorem pwp_skip_ : pwp P M .skip Q (p :: fr) = Q .normal (p :: fr) := (rfl)
@[simp] theorem pwp_label_ (l : Nat) : pwp P M (.label l) Q (p :: fr) = Q .normal (p :: fr) := (rfl)
@[simp] theorem pwp_region_ (id : Nat) (ops : Array Oper) : pwp P M (.region id ops false) Q (p :: fr) = pops P M ops.toList (Q .normal) (fun p => Q (.panic p)) ops.toList (p :: fr) := (rfl)
@[simp] theorem pwp_seq_ (x y : Code) : pwp P M (.seq x y) Q (p :: fr) = pwp P M x (thenP (pwp P M y Q) Q) (p :: fr) := (rfl)
@[simp] theorem pwp_cond_ (c : Operand) (x y : Code) : pwp P M (.cond c x y) Q (p :: fr) = match rd (p :: fr) c with
    | .v (.bool b) => if b = true then pwp P M x Q (p :: fr) else pwp P M y Q (p :: fr)
    | _ => False := (rfl)
@[simp] theorem pwp_block_ (id : Nat) (c : Code) : pwp P M (.block id c) Q (p :: fr) = pwp P M c (blockP id Q) (p :: fr) := (rfl)
@[simp] theorem pwp_exit_ (id : Nat) : pwp P M (.exit id) Q (p :: fr) = Q (.exit id) (p :: fr) := (rfl)
@[simp] theorem pwp_ret_ : pwp P M .ret Q (p :: fr) = Q .ret (p :: fr) := (rfl)
@[simp] theorem pwp_scope_ (c : Code) : pwp P M (.scope c) Q (p :: fr) = pwp P M c (scopeP Q) (p :: fr) := (rfl)
@[simp] theorem thenP_normal_ : thenP K Q .normal (p :: fr) = K (p :: fr) := (rfl)
@[simp] theorem thenP_exit_ (id : Nat) : thenP K Q (.exit id) (p :: fr) = Q (.exit id) (p :: fr) := (rfl)
@[simp] theorem thenP_ret_ : thenP K Q .ret (p :: fr) = Q .ret (p :: fr) := (rfl)
@[simp] theorem thenP_goto_ (l : Nat) : thenP K Q (.goto l) (p :: fr) = Q (.goto l) (p :: fr) := (rfl)
@[simp] theorem thenP_panic_ (x : PV) : thenP K Q (.panic x) (p :: fr) = Q (.panic x) (p :: fr) := (rfl)
@[simp] theorem blockP_normal_ (id : Nat) : blockP id Q .normal (p :: fr) = Q .normal (p :: fr) := (rfl)
@[simp] theorem blockP_exit_ (id id' : Nat) : blockP id Q (.exit id') (p :: fr) = if id' = id then Q .normal (p :: fr) else Q (.exit id') (p :: fr) := (rfl)
@[simp] theorem blockP_ret_ (id : Nat) : blockP id Q .ret (p :: fr) = Q .ret (p :: fr) := (rfl)
@[simp] theorem blockP_panic_ (id : Nat) (x : PV) : blockP id Q (.panic x) (p :: fr) = Q (.panic x) (p :: fr) := (rfl)
@[simp] theorem scopeP_normal_ : scopeP Q .normal (p :: fr) = Q .normal (p :: fr) := (rfl)
@[simp] theorem scopeP_exit_ (id : Nat) : scopeP Q (.exit id) (p :: fr) = Q (.exit id) (p :: fr) := (rfl)
@[simp] theorem scopeP_ret_ : scopeP Q .ret (p :: fr) = Q .ret (p :: fr) := (rfl)
@[simp] theorem scopeP_panic_ (x : PV) : scopeP Q (.panic x) (p :: fr) = Q (.panic x) (p :: fr) := (rfl)
@[simp] theorem pspec_ret_ (rs : List ResultVar) (r : PV) : pspec P rs r .ret (p :: fr) = answers P rs r (p :: fr) := (rfl)
@[simp] theorem pspec_normal_ (rs : List ResultVar) (r : PV) : pspec P rs r .normal (p :: fr) = answers P rs r (p :: fr) := (rfl)
@[simp] theorem pspec_panic_ (rs : List ResultVar) (r x : PV) : pspec P rs r (.panic x) (p :: fr) = False := (rfl)
@[simp] theorem pops_nil_ : pops P M all K Kp [] (p :: fr) = K (p :: fr) := (rfl)
@[simp] theorem pops_cons_ (o : Oper) (rest : List Oper) : pops P M all K Kp (o :: rest) (p :: fr) = match pwanted all o (p :: fr) with
    | some b => if b = true then pop P M (pops P M all K Kp rest) Kp o (p :: fr) else pclear o.dst (.tup []) (p :: fr) = true ∧ pops P M all K Kp rest (put o.dst (.tup []) (p :: fr))
    | none => False := (rfl)
@[simp] theorem pdraw_nil_ (fps : List Fp) : pdraw P M all m K Kp [] fps (p :: fr) = (drawOk all m fps = true ∧ pops P M all K Kp (all.drop m) (p :: fr)) := (rfl)
@[simp] theorem pop_ (o : Oper) : pop P M K Kp o (p :: fr) = match isCall o with
    | some c => popCall P M K Kp o c (p :: fr)
    | none => match isPanic o with
      | some x => match rd (p :: fr) x with
        | .ifc t q => Kp (.ifc t q) (p :: fr)
        | _ => False
      | none => match pstep P o (p :: fr) with
        | some fr' => K fr'
        | none => popAny P o (p :: fr) K := (rfl)
@[simp] theorem popAny_ (o : Oper) (K : PF → Prop) : popAny P o (p :: fr) K = match o.op with
  | .binOp .eql t x y _ => match rd (p :: fr) x, rd (p :: fr) y with
    | .sl _ _ _, .nil => (tel P t).isSome = true ∧ ∀ b : Bool, pclear o.dst (.v (.bool b)) (p :: fr) = true ∧ K (put o.dst (.v (.bool b)) (p :: fr))
    | _, _ => False
  | _ => False := (rfl)
@[simp] theorem pdraw_cons_ (o : Oper) (rest : List Oper) (fps : List Fp) : pdraw P M all m K Kp (o :: rest) fps (p :: fr) = match pwanted all o (p :: fr) with
    | some b => if b = true then match isCall o with
        | some c => pdCall P o c (p :: fr) fun news fr' => pdraw P M all m K Kp rest (fps ++ [fpOf all o news (p :: fr)]) fr'
        | none => isPanic o = none ∧ dstOk o (p :: fr) = true ∧ match pstep P o (p :: fr) with
          | some fr' => pdraw P M all m K Kp rest (fps ++ [fpOf all o [] (p :: fr)]) fr'
          | none => False
      else noObj o.dst (p :: fr) = true ∧ pdraw P M all m K Kp rest (fps ++ [fpOf all o [] (p :: fr)]) (put o.dst (.tup []) (p :: fr))
    | none => False := (rfl)
end
attribute [simp] isCall isPanic pcallee pwanted pstep pval rd cv cv1 put pput pnew pclear pbin pint pun pconv pbuild pfill setRange padd pown pindexAddr pindex pbound pslice plen pbuiltin pcont pload pstore pshift pstring peq peq1 prows pappend zeros chunk
  pisNil pisNilIface pnil ptypeAssert pfail plookup pmapUpdate isLit
  PV.free PV.names namesL namesLL PV.ren renL renLL PV.flat flatL flatLL PV.flagOf presult presults presultsL frame0 Op.operands Call.operands forgetAll apply dsts
  leF vo.vwAllL vwAll less objAt epAt newAt argsOk readsOf writesOf shapesOf turnsOf shapeOnly keeps deref tmpOf guardSlot noObj isAppTo dstOk fpOf outF
attribute [irreducible] again
end Go.Qg

namespace Go.Qg
section
variable {P : Program} {ro : Option Nat} {Q : Exit → Act → World → Prop} {a : Act} {w : World}
def LeavesC (P : Program) (fn : Func) (tmps : Array Value) (R : Ending → World → Prop) : List Deferred → FrameMode → World → Prop
  | [], .returning, w => ∃ v, (results fn tmps).run P w = .ok v w ∧ R (.returned v) w
  | [], .panicking chain, w => R (.panicked chain) w
  | [], .run, _ => False
  | d :: ds, u, w => u ≠ .run ∧
      ((∃ r w', d.target = .collected r ∧ (Instr.takeDeferred r).run P w = .ok [] w' ∧ LeavesC P fn tmps R ds u w') ∨
       (∃ fv cap f args, d.target = .fn fv cap ∧ (invoke d.target d.args).run P w = .ok (.enter f args) w ∧
        CallsD P f args u w fun
          | .returned _, u', w' => LeavesC P fn tmps R ds (settle u') w'
          | .panicked chain, u', w' => LeavesC P fn tmps R ds (raised u' chain) w'
          | .outgrown, _, _ => False))
theorem leavesC_steps {fn : Func} {tmps : Array Value} {R : Ending → World → Prop} : ∀ (ds : List Deferred) (u : FrameMode) (w : World) (fr : Frame) (cs : List Frame), fr.mode = u → fr.defers = ds → fr.tmps = tmps → P.funcs[fr.fn]? = some fn → fr.kind = .normal → LeavesC P fn tmps R ds u w →
    ∃ e w' fr', R e w' ∧ Comes P (lone fr cs w) (lone fr' cs w') e ∧ fr'.fn = fr.fn ∧ fr'.leaving P w' e := by
  intro ds
  induction ds with
  | nil =>
    intro u w fr cs hu hd ht hf hk h
    cases u with
    | run => exact h.elim
    | returning =>
      obtain ⟨v, hr, hR⟩ := h
      exact ⟨.returned v, w, fr, hR, Steps.refl P _, rfl, hu, hd, hk, fn, hf, ht ▸ hr⟩
    | panicking chain => exact ⟨.panicked chain, w, fr, h, Steps.refl P _, rfl, hu, hd, fn, hf⟩
  | cons d ds ih =>
    intro u w fr cs hu hd ht hf hk h
    obtain ⟨hrun, h⟩ := h
    rcases h with ⟨r, w', htar, htake, hrest⟩ | ⟨fv, cap, f, args, htar, hinv, hcall⟩
    · have h1 := step_collected (cs := cs) (hu ▸ hrun) hd htar htake
      obtain ⟨e', w'', fr', hR', hs', hfn', hl'⟩ := ih u w' { fr with defers := [] ++ ds } cs hu rfl ht hf hk hrest
      exact ⟨e', w'', fr', hR', Comes.of_steps (.one h1) hs', hfn', hl'⟩
    · have h1 := step_defer (cs := cs) (hu ▸ hrun) hd htar hinv
      obtain ⟨e, u', w', frX, hR, hsteps, hkX, hgo⟩ := hcall { fr with defers := ds } cs hu
      cases e with
      | returned v =>
        have h2 := step_going_returned (c := { { fr with defers := ds } with mode := u' }) (cs := cs) hkX hgo
        obtain ⟨e', w'', fr', hR', hs', hfn', hl'⟩ := ih (settle u') w' { { { fr with defers := ds } with mode := u' } with mode := settle u' } cs rfl rfl ht hf hk hR
        exact ⟨e', w'', fr', hR', Comes.of_steps (.head h1 (Steps.trans hsteps (.one h2))) hs', hfn', hl'⟩
      | panicked chain =>
        have h2 := step_going_panicked (c := { { fr with defers := ds } with mode := u' }) (cs := cs) hgo
        obtain ⟨e', w'', fr', hR', hs', hfn', hl'⟩ := ih (raised u' chain) w' { { { fr with defers := ds } with mode := u' } with mode := raised u' chain } cs rfl rfl ht hf hk hR
        exact ⟨e', w'', fr', hR', Comes.of_steps (.head h1 (Steps.trans hsteps (.one h2))) hs', hfn', hl'⟩
      | outgrown => exact hR.elim
def bodyPostC (P : Program) (fn : Func) (R : Ending → World → Prop) : Exit → Act → World → Prop
  | .normal, a, w | .ret, a, w => LeavesC P fn a.tmps R a.defers .returning w
  | .panic chain, a, w => LeavesC P fn a.tmps R a.defers (.panicking chain) w
  | _, _, _ => False
theorem calls_of_wr {f : FuncId} {fn : Func} {c : Code} {args : Array Value} {R : Ending → World → Prop} (hf : P.funcs[f]? = some fn) (hb : fn.body = some c)
    (h : wr P none c (bodyPostC P fn R) { tmps := args ++ Array.replicate (fn.ntmps - args.size) undef, defers := [] } w) : Calls P f args w R := by
  intro cs
  let b : Frame := { (default : Frame) with fn := f, kind := .normal, roundOf := none }
  have henter : Frame.enter P f args .normal = b.atR { tmps := args ++ Array.replicate (fn.ntmps - args.size) undef, defers := [] } [.code c] := by
    simp [Frame.enter, Frame.atR, hf, hb, b]
  obtain ⟨e, a', w', hq, harr⟩ := h b [] cs rfl
  rw [← henter] at harr
  cases e with
  | normal =>
    obtain ⟨e', w'', fr', hR, hs, hfn, hl⟩ := leavesC_steps a'.defers .returning w' { b.atR a' [] with mode := .returning } cs rfl rfl rfl hf rfl hq
    exact ⟨e', w'', fr', hR, Comes.of_steps (Steps.trans harr (.one (stepR_end rfl))) hs, hfn, hl⟩
  | ret =>
    obtain ⟨k1, hs₀⟩ := harr
    obtain ⟨e', w'', fr', hR, hs, hfn, hl⟩ := leavesC_steps a'.defers .returning w' { b.atR a' (.code .ret :: k1) with mode := .returning } cs rfl rfl rfl hf rfl hq
    exact ⟨e', w'', fr', hR, Comes.of_steps (Steps.trans hs₀ (.one (stepR_ret rfl))) hs, hfn, hl⟩
  | panic chain =>
    obtain ⟨k1, _, hs₀⟩ := harr
    obtain ⟨e', w'', fr', hR, hs, hfn, hl⟩ := leavesC_steps a'.defers (.panicking chain) w' { b.atR a' k1 with mode := .panicking chain } cs rfl rfl rfl hf rfl hq
    exact ⟨e', w'', fr', hR, Comes.of_steps hs₀ hs, hfn, hl⟩
  | exit id => exact hq.elim
  | goto l => exact hq.elim
  | outgrown => exact hq.elim
def roundEnd (P : Program) (l : Nat) (R : Ending → World → Prop) : Exit → Act → World → Prop
  | .normal, _, w => ∃ v w', (Instr.endRound l none).run P w = .ok v w' ∧ R (.returned v) w'
  | .ret, _, w => ∃ v w', (Instr.endRound l (some .ret)).run P w = .ok v w' ∧ R (.returned v) w'
  | .exit id, _, w => ∃ v w', (Instr.endRound l (some (.exit id))).run P w = .ok v w' ∧ R (.returned v) w'
  | .panic ch, a, w => a.defers = [] ∧ R (.panicked ch) w
  | _, _, _ => False
theorem round_of_wr {l : Nat} {f : FuncId} {tmps : Array Value} {assign body : Code} {R : Ending → World → Prop}
    (h : wr P (some l) assign (Exit.then (fun a₁ w₁ => ∃ w₂, (Instr.beginRound l).run P w₁ = .ok () w₂ ∧ wr P (some l) body (roundEnd P l R) a₁ w₂) (fun _ _ _ => False)) { tmps := tmps, defers := [] } w) :
    RoundW P l f tmps assign body w R := by
  intro c cs
  let b : Frame := { (default : Frame) with fn := f, kind := .normal, roundOf := some l }
  have hb0 : Frame.round l f tmps assign body .normal = b.atR { tmps := tmps, defers := [] } [.code assign, .beginRound, .code body] := by
    simp [Frame.round, Frame.atR, b]
  obtain ⟨e, a₁, w₁, hq, harr⟩ := h b [.beginRound, .code body] (c :: cs) rfl
  rw [← hb0] at harr
  cases e with
  | normal =>
    obtain ⟨w₂, hbr, hbody⟩ := hq
    have s1 : Steps P (lone (b.atR a₁ [.beginRound, .code body]) (c :: cs) w₁) (lone (b.atR a₁ [.code body]) (c :: cs) w₂) := .one (stepR_beginRound rfl hbr)
    obtain ⟨e₂, a₂, w₃, hq₂, harr₂⟩ := hbody b [] (c :: cs) rfl
    have s2 := Steps.trans harr s1
    cases e₂ with
    | normal =>
      obtain ⟨v, w₄, hend, hR⟩ := hq₂
      exact ⟨.returned v, w₄, hR, s2.trans (Steps.trans harr₂ (.one (stepR_round_end rfl rfl hend)))⟩
    | ret =>
      obtain ⟨v, w₄, hend, hR⟩ := hq₂
      obtain ⟨k₁, hs⟩ := harr₂
      exact ⟨.returned v, w₄, hR, s2.trans (Steps.trans hs (.one (stepR_round_ret rfl rfl hend)))⟩
    | exit id =>
      obtain ⟨v, w₄, hend, hR⟩ := hq₂
      obtain ⟨k₁, hs, hk⟩ := harr₂
      exact ⟨.returned v, w₄, hR, s2.trans (Steps.trans hs (.one (stepR_round_exit rfl rfl (hk.trans rfl) hend)))⟩
    | goto t => exact hq₂.elim
    | panic chain =>
      obtain ⟨hd0, hR⟩ := hq₂
      obtain ⟨k₁, hk₁, hs⟩ := harr₂
      exact ⟨.panicked chain, w₃, hR, s2.trans (Steps.trans hs (.one (step_raise rfl hd0 hk₁)))⟩
    | outgrown => exact hq₂.elim
  | exit id => exact hq.elim
  | goto t => exact hq.elim
  | ret => exact hq.elim
  | panic chain => exact hq.elim
  | outgrown => exact hq.elim
def loopRec (fn : FuncId) (a : Act) (ps : Array Tmp) (assign body : Code) (D : Nat) (st : LoopState) (pe : Option Code) : Loop := { state := st, pending := pe, fn, tmps := a.tmps, params := ps, assign, body, defers := D }
def pendEnd (Q : Exit → Act → World → Prop) : Option Code → Act → World → Prop
  | none, a, w => Q .normal a w
  | some .ret, a, w => Q .ret a w
  | some (.exit id), a, w => Q (.exit id) a w
  | _, _, _ => False
theorem wr_rangeF {g : Operand} {ps : Array Tmp} {assign body : Code} {gf : FuncId} {first caps : Array Value} (hg : a.eval g = .func (.func gf) first caps) (hen : ∀ args w, (callFunc gf args).run P w = .ok (.enter gf args) w)
    (h : ∀ fn : FuncId, Calls P gf (first ++ #[.func (.yield (w.heap.size + 1)) #[] #[]] ++ caps) ((w.alloc (.deferred (some []))).alloc (.loop (loopRec fn a ps assign body w.heap.size .ready none))) fun e w' => match e with
      | .panicked ch => Q (.panic ch) { a with defers := { target := .collected w.heap.size, args := #[] } :: a.defers } w'
      | .outgrown => False
      | .returned _ => ∃ st pe, w'.heap[w.heap.size + 1]? = some (.loop (loopRec fn a ps assign body w.heap.size st pe)) ∧ st ≠ .busy ∧
        pendEnd Q pe { a with defers := { target := .collected w.heap.size, args := #[] } :: a.defers } (w'.putObj (w.heap.size + 1) (.loop (loopRec fn a ps assign body w.heap.size .exhausted pe)))) :
    wr P none (.rangeFunc g ps assign body) Q a w := by
  intro b k cs hb
  have he := run_enterLoop_outer (P := P) (w := w) b.fn a.tmps ps assign body
  rw [← hb] at he
  have hres : (resolve a.eval (rangeCall g (w.heap.size + 1)) 0).run P ((w.alloc (.deferred (some []))).alloc (.loop (loopRec b.fn a ps assign body w.heap.size .ready none))) = .ok { target := .fn (.func gf) caps, args := first ++ #[.func (.yield (w.heap.size + 1)) #[] #[]] } ((w.alloc (.deferred (some []))).alloc (.loop (loopRec b.fn a ps assign body w.heap.size .ready none))) := by
    simp only [resolve, hg]
    simp [go_sem]
  have hinv : (invoke (.fn (.func gf) caps) (first ++ #[.func (.yield (w.heap.size + 1)) #[] #[]])).run P ((w.alloc (.deferred (some []))).alloc (.loop (loopRec b.fn a ps assign body w.heap.size .ready none))) = .ok (.enter gf (first ++ #[.func (.yield (w.heap.size + 1)) #[] #[]] ++ caps)) ((w.alloc (.deferred (some []))).alloc (.loop (loopRec b.fn a ps assign body w.heap.size .ready none))) := by
    simp [invoke, go_sem, hen]
  have henter := stepR_rangeFunc (P := P) (b := b) (a := a) (k := k) (cs := cs) (w := w) he hres hinv
  obtain ⟨e, w₃, fr, hR, hsteps, _, hleave⟩ := h b.fn (b.atR { a with defers := [{ target := .collected w.heap.size, args := #[] }] ++ a.defers } (.inRangeFunc (w.heap.size + 1) :: k) :: cs)
  cases e with
  | outgrown => exact hR.elim
  | panicked ch =>
    have h1 := step_leave_panicked (c := b.atR { a with defers := [{ target := .collected w.heap.size, args := #[] }] ++ a.defers } (.inRangeFunc (w.heap.size + 1) :: k)) (cs := cs) hleave
    rw [Frame.raise_atR] at h1
    exact ⟨.panic ch, _, _, hR, .inRangeFunc (w.heap.size + 1) :: k, trivial, (Steps.one henter).trans (Steps.trans hsteps (.one h1))⟩
  | returned v =>
  obtain ⟨st, pe, hrec, hst, hq⟩ := hR
  have h1 := step_leave_returned (c := b.atR { a with defers := [{ target := .collected w.heap.size, args := #[] }] ++ a.defers } (.inRangeFunc (w.heap.size + 1) :: k)) (cs := cs) hleave
  rw [finish_atR_inRangeFunc] at h1
  have hend := run_endLoop (P := P) hrec hst
  have h2 := stepR_endRangeFunc (P := P) (b := b) (a := { a with defers := [{ target := .collected w.heap.size, args := #[] }] ++ a.defers }) (k := k) (cs := cs) hend
  have all : Steps P (lone (b.atR a (.code (.rangeFunc g ps assign body) :: k)) cs w) _ := (Steps.one henter).trans (Steps.trans hsteps ((Steps.one h1).trans (.one h2)))
  cases pe with
  | none => exact ⟨.normal, _, _, hq, all⟩
  | some c =>
    cases c with
    | ret => exact ⟨.ret, _, _, hq, k, all⟩
    | exit id => exact ⟨.exit id, _, _, hq, k, all, rfl⟩
    | _ => exact hq.elim
theorem wr_range {g : Operand} {ps : Array Tmp} {assign body : Code} {gf : FuncId} {caps : Array Value} (hg : a.eval g = .func (.func gf) #[] caps) (hen : ∀ args w, (callFunc gf args).run P w = .ok (.enter gf args) w)
    (h : ∀ fn : FuncId, Calls P gf (#[.func (.yield (w.heap.size + 1)) #[] #[]] ++ caps) ((w.alloc (.deferred (some []))).alloc (.loop (loopRec fn a ps assign body w.heap.size .ready none))) fun e w' => match e with
      | .panicked ch => Q (.panic ch) { a with defers := { target := .collected w.heap.size, args := #[] } :: a.defers } w'
      | .outgrown => False
      | .returned _ => ∃ st pe, w'.heap[w.heap.size + 1]? = some (.loop (loopRec fn a ps assign body w.heap.size st pe)) ∧ st ≠ .busy ∧
        pendEnd Q pe { a with defers := { target := .collected w.heap.size, args := #[] } :: a.defers } (w'.putObj (w.heap.size + 1) (.loop (loopRec fn a ps assign body w.heap.size .exhausted pe)))) :
    wr P none (.rangeFunc g ps assign body) Q a w := wr_rangeF hg hen fun fn => by
  rw [Array.empty_append]; exact h fn
end
end Go.Qg

namespace Go.Qg
open Go.RowKit (Below)
def UpX {ι : Type} (N : Nat) (𝒞 : ι → Base → Prop) (Q : ι → PX → PF → Prop) : Exit → Act → World → Prop := fun e a w => ∃ i B, 𝒞 i B ∧ Up N B (Q i) e a w
def XW {ι : Type} (P : Program) (N : Nat) (𝒞 : ι → Base → Prop) (i : ι) (c : Code) (Q : ι → PX → PF → Prop) (fr : PF) : Prop :=
  ∀ (B : Base) (a : Act) (w : World), 𝒞 i B → SimE N B a w fr → wr P none c (UpX N 𝒞 Q) a w
def thenX {ι : Type} (K : ι → PF → Prop) (Q : ι → PX → PF → Prop) : ι → PX → PF → Prop
  | i, .normal, fr => K i fr
  | i, e, fr => Q i e fr
def blockX {ι : Type} (id : Nat) (Q : ι → PX → PF → Prop) : ι → PX → PF → Prop
  | i, .exit id', fr => if id' = id then Q i .normal fr else Q i (.exit id') fr
  | i, e, fr => Q i e fr
section
variable {ι : Type} {P : Program} {N M : Nat} {𝒞 : ι → Base → Prop} {i : ι} {Q : ι → PX → PF → Prop} {fr : PF}
theorem upX_out : ∀ a w, ¬ UpX N 𝒞 Q .outgrown a w := fun a w ⟨_, _, _, hu⟩ => up_out a w hu
theorem XW_pwp (hm : P.follows .mixedOrders = true) (hlo : ∀ i B, 𝒞 i B → B.lo = M) {c : Code} (hd : dstsIn N c = true) (h : pwp P M c (Q i) fr) : XW P N 𝒞 i c Q fr := fun B a w hC hs =>
  wr_mono (pwp_sound hm (hlo i B hC) c (Q i) fr a w hd hs h) fun _ _ _ hu => ⟨i, B, hC, hu⟩
theorem XW_mono {c : Code} {Q' : ι → PX → PF → Prop} (h : XW P N 𝒞 i c Q fr) (hq : ∀ i e fr, Q i e fr → Q' i e fr) : XW P N 𝒞 i c Q' fr := fun B a w hC hs =>
  wr_mono (h B a w hC hs) fun _ _ _ ⟨i, B, hC, R, Γ, fr, x, h1, h2, h3⟩ => ⟨i, B, hC, R, Γ, fr, x, h1, h2, hq _ _ _ h3⟩
theorem XW_weak (hlo : ∀ i B, 𝒞 i B → B.lo = M) {c : Code} {g : PF} (hl : less M fr g) (h : XW P N 𝒞 i c Q g) : XW P N 𝒞 i c Q fr := fun B a w hC hs =>
  h B a w hC (weak_of_less hl N B a w (hlo i B hC) hs)
theorem XW_seq {x y : Code} {K : ι → PF → Prop} (h : XW P N 𝒞 i x (thenX K Q) fr) (hk : ∀ i fr, K i fr → XW P N 𝒞 i y Q fr) : XW P N 𝒞 i (.seq x y) Q fr := fun B a w hC hs =>
  wr_seq (wr_mono (h B a w hC hs) fun e a' w' ⟨i', B', hC', R, Γ, fr', x, hs', hu, hq⟩ => by
    cases e with
    | normal => cases x with
      | normal => exact hk _ _ hq B' a' w' hC' hs'.toE
      | _ => exact hu.elim
    | _ => cases x with
      | normal => exact hu.elim
      | _ => exact ⟨i', B', hC', R, Γ, fr', _, hs', hu, hq⟩)
theorem XW_cond {c : Operand} {x y : Code} {b : Bool} (hc : rd fr c = .v (.bool b)) (h : XW P N 𝒞 i (if b then x else y) Q fr) : XW P N 𝒞 i (.cond c x y) Q fr := fun B a w hC hs => by
  have hv : a.eval c = .bool b := by
    obtain ⟨R, Γ, hs⟩ := hs
    have := hs.rd c
    rw [hc] at this
    generalize a.eval c = u at this
    cases this; rfl
  exact wr_cond hv (h B a w hC hs)
theorem XW_block {id : Nat} {c : Code} (h : XW P N 𝒞 i c (blockX id Q) fr) : XW P N 𝒞 i (.block id c) Q fr := fun B a w hC hs =>
  wr_block (wr_mono (h B a w hC hs) fun e a' w' ⟨i', B', hC', R, Γ, fr', x, hs', hu, hq⟩ => by
    cases e with
    | exit id' => cases x with
      | exit id'' =>
        obtain rfl : id' = id'' := hu
        simp only [blockX, Exit.inBlock] at hq ⊢
        split at hq
        · rw [if_pos ‹_›]; exact ⟨i', B', hC', R, Γ, fr', .normal, hs', trivial, hq⟩
        · rw [if_neg ‹_›]; exact ⟨i', B', hC', R, Γ, fr', .exit id', hs', rfl, hq⟩
      | _ => exact hu.elim
    | _ => cases x with
      | exit id'' => exact hu.elim
      | _ => exact ⟨i', B', hC', R, Γ, fr', _, hs', hu, hq⟩)
theorem XW_loop (hlo : ∀ i B, 𝒞 i B → B.lo = M) {c : Code} {σ : Type} (H : σ → PF) (J : σ → ι) (I : σ → Prop) (μ : σ → Nat) (s0 : σ) (h0 : I s0) (hj : J s0 = i) (e0 : less M fr (H s0))
    (round : ∀ s, I s → XW P N 𝒞 (J s) c (thenX (fun i' fr' => ∃ s', I s' ∧ μ s' < μ s ∧ J s' = i' ∧ less M fr' (H s')) Q) (H s)) : XW P N 𝒞 i (.loop c) Q fr := fun B a w hC hs => wr_loop fun X hX => by
  have key : ∀ n s B a w, μ s = n → I s → 𝒞 (J s) B → SimE N B a w (H s) → X a w := by
    intro n
    induction n using Nat.strongRecOn with
    | _ n ih =>
      intro s B a w hn hI hC hs
      refine hX a w (wr_mono (round s hI B a w hC hs) fun e a' w' ⟨i', B', hC', R, Γ, fr', x, hs', hu, hq⟩ => ?_)
      cases e with
      | normal => cases x with
        | normal =>
          obtain ⟨s', h1, h2, rfl, h4⟩ := hq
          exact ih (μ s') (hn ▸ h2) s' B' a' w' rfl h1 hC' (weak_of_less h4 N B' a' w' (hlo _ _ hC') hs'.toE)
        | _ => exact hu.elim
      | _ => cases x with
        | normal => exact hu.elim
        | _ => exact ⟨i', B', hC', R, Γ, fr', _, hs', hu, hq⟩
  subst hj
  exact key _ s0 B a w rfl h0 hC (weak_of_less e0 N B a w (hlo _ _ hC) hs)
end
inductive GS where
  | on (n : Nat)
  | off
  | pan (p : PV)
theorem plain_rep {w : World} {R : Nat → Nat → Prop} {Γ : Nat → Option Loc} {v : Value} {q : PV} (hr : Rep w R Γ v q) (h1 : q.plain = true) (h2 : q.flat = true) (w' : World) (R' : Nat → Nat → Prop) (Γ' : Nat → Option Loc) : Rep w' R' Γ' v q := by
  have := hr.ren (π := id) (R' := R') (w' := w') (Γ' := Γ') (.inl h2) (fun j hj => by rw [plain_names h1] at hj; cases hj)
  rwa [ren_plain h1] at this
structure Env (P : Program) (l : Nat) (els : List PV) (Rb : Nat → Prop) (J : GS → (Nat → Prop) → World → Prop) : Prop where
  bnd : ∀ s F w b, J s F w → F b → b < w.heap.size
  stab : ∀ s F w w', J s F w → (∀ b, F b → w'.heap[b]? = w.heap[b]?) → w.heap.size ≤ w'.heap.size → w'.os = w.os → w'.tape = w.tape → w'.output = w.output → J s F w'
  pan : ∀ p F w, J (.pan p) F w → p.plain = true ∧ p.flat = true
  yield : ∀ n F w v p R Γ, J (.on n) F w → els[n]? = some p → Rep w R Γ v p → ∃ f tmps assign body, (Instr.yield l #[v]).run P w = .ok (.round l f tmps assign body) w ∧
    RoundW P l f tmps assign body w fun e w' => ∃ F', (match e with
      | .returned ret => ∃ b, ret = .bool b ∧ J (if b then .on (n + 1) else .off) F' w'
      | .panicked ch => ∃ v p, ch = [{ v := v, recovered := false }] ∧ (∀ w R Γ, Rep w R Γ v p) ∧ J (.pan p) F' w'
      | .outgrown => False) ∧ (∀ x, F' x → F x ∨ w.heap.size ≤ x) ∧ Kept (fun x => x < w.heap.size ∧ (¬ F x ∨ Rb x)) w w'
def genPost (els : List PV) (J : GS → (Nat → Prop) → World → Prop) (e : Ending) (w' : World) : Prop :=
  match e with
  | .returned _ => ∃ s F', (s = .on els.length ∨ s = .off) ∧ J s F' w'
  | .panicked ch => ∃ v p F', ch = [{ v := v, recovered := false }] ∧ (∀ w R Γ, Rep w R Γ v p) ∧ J (.pan p) F' w'
  | .outgrown => False
def GenW (P : Program) (gf : FuncId) (caps els : List PV) : Prop :=
  (∀ (args : Array Value) (w : World), (callFunc gf args).run P w = .ok (.enter gf args) w) ∧
  ∀ (w : World) (vs : List Value) (R : Nat → Nat → Prop) (Rb : Nat → Prop) (l : Nat) (J : GS → (Nat → Prop) → World → Prop) (F0 : Nat → Prop), (∀ b o, R b o → Rb b) → (∀ b, Rb b → b < w.heap.size) → Env P l els Rb J → J (.on 0) F0 w → vs.length = caps.length →
    (∀ (i : Nat) (u : Value) (p : PV), vs[i]? = some u → caps[i]? = some p → Rep w R (fun _ => none) u p) →
    Calls P gf (#[.func (.yield l) #[] #[]] ++ vs.toArray) w (genPost els J)
def GCtx (M : Nat) (Rb : Nat → Prop) (J : GS → (Nat → Prop) → World → Prop) (s : GS) (B : Base) : Prop :=
  B.lo = M ∧ B.D = [] ∧ ∃ F, J s F B.w0 ∧ (∀ b, F b → B.Prot b) ∧ (∀ b, Rb b → B.Prot b) ∧ ∀ b o, B.R0 b o → Rb b ∨ ¬ F b
def yargs (c : Call) : Option (Operand × Operand) :=
  match c.callee, c.args.toList with
  | .value x, [y] => some (x, y)
  | _, _ => none
theorem yargs_some {c : Call} {x y : Operand} (h : yargs c = some (x, y)) : c.callee = .value x ∧ c.args.toList = [y] := by
  unfold yargs at h
  split at h
  · rename_i hc ha
    simp only [Option.some.injEq, Prod.mk.injEq] at h
    rw [← h.1, ← h.2]; exact ⟨hc, ha⟩
  · cases h
def pyield (P : Program) (M : Nat) (all : List Oper) (m l : Nat) (els : List PV) (Q : GS → PX → PF → Prop) (s : GS) (fr : PF) : Prop :=
  match all[m]? with
  | some o => match pwanted all o fr with
    | some true => match isCall o with
      | some c => match yargs c with
        | some (x, y) => rd fr x = .clo (.yield l) [] [] ∧ ∃ n, s = .on n ∧ els[n]? = some (rd fr y) ∧ pclear o.dst (.v (.bool true)) fr = true ∧
            pops P M all (Q (.on (n + 1)) .normal) (fun p => Q (.on (n + 1)) (.panic p)) (all.drop (m + 1)) (put o.dst (.v (.bool true)) fr) ∧
            pops P M all (Q .off .normal) (fun p => Q .off (.panic p)) (all.drop (m + 1)) (put o.dst (.v (.bool false)) fr) ∧ ∀ p, Q (.pan p) (.panic p) fr
        | none => False
      | none => False
    | some false => pclear o.dst (.tup []) fr = true ∧ pops P M all (Q s .normal) (fun p => Q s (.panic p)) (all.drop (m + 1)) (put o.dst (.tup []) fr)
    | none => False
  | none => False
section
variable {P : Program} {N M l : Nat} {els : List PV} {Rb : Nat → Prop} {J : GS → (Nat → Prop) → World → Prop} {s : GS} {Q : GS → PX → PF → Prop} {fr : PF} {B : Base} {a : Act} {w w' : World} {R : Nat → Nat → Prop} {Γ : Nat → Option Loc}
theorem Sim.turn (h : Sim N B R Γ a w fr) (hD : B.D = []) {F : Nat → Prop} (hF : ∀ b, F b → B.Prot b) (hR0 : ∀ b o, B.R0 b o → Rb b ∨ ¬ F b) (hk : Kept (fun x => x < w.heap.size ∧ (¬ F x ∨ Rb x)) w w') :
    Sim N ⟨fun b => b < w'.heap.size ∧ ∀ i l, Γ i = some l → l.blk ≠ some b, w', R, fun i => if B.lo ≤ i then Γ i else none, B.lo, []⟩ R Γ a w' fr := by
  have hRk : ∀ b o, R b o → w'.heap[b]? = w.heap[b]? := fun b o hb => hk.block b ⟨h.bnd b o hb, by
    rcases h.sub b o hb with h0 | h0
    · exact (hR0 b o h0).symm
    · exact .inl fun hf => h0 (hF b hf)⟩
  have hok : ∀ i l b, Γ i = some l → l.blk = some b → w'.heap[b]? = w.heap[b]? := fun i l b hl hb => by
    obtain ⟨h1, h2, _⟩ := (h.own i l hl).2 b hb
    exact hk.block b ⟨h2, .inl fun hf => h1 (hF b hf)⟩
  refine ⟨h.size, h.len, fun t p hp => ?_, h.inj, fun i l hl => ⟨(h.own i l hl).1, fun b hb => ?_⟩, fun b o hb => Nat.lt_of_lt_of_le (h.bnd b o hb) hk.size, fun b o hb => .inl hb, Kept.refl _ _, fun b hb => hb.1, h.lo, fun j l hj hl => ?_, h.defers.trans hD⟩
  · exact (h.slot t p hp).mono (fun b o hb => ⟨hb, cell?_of_heap (hRk b o hb)⟩) (fun i _ l hl => ⟨l, hl, Loc.le_refl l⟩) (fun _ => rfl) fun l b hl hb => hok t l b hl hb
  · obtain ⟨_, h2, h3⟩ := (h.own i l hl).2 b hb
    exact ⟨fun hp => hp.2 i l hl hb, Nat.lt_of_lt_of_le h2 hk.size, h3⟩
  · dsimp only at hl hj
    rw [if_pos hj] at hl
    exact ⟨l, hl, Loc.le_refl l⟩
theorem XW_yield (hmx : P.follows .mixedOrders = true) (henv : Env P l els Rb J) {id : Nat} {ops : Array Oper} (hd : dstsIn N (.region id ops true) = true) {m : Nat} (hm : m ≤ ops.toList.length) (hp : pdrawC P ops.toList m (pyield P M ops.toList m l els Q s) (ops.toList.take m) [] fr) :
    XW P N (GCtx M Rb J) s (.region id ops true) Q fr := fun B a w hC hs => by
  have hN := dsts_mem hd
  refine drawC_sound hmx ops rfl hN upX_out id hs hm (fun he hseq fuel listed a w fr hf hli hsz hs hy => ?_) hp
  have hnd : ∀ {s' : GS} {B' : Base}, GCtx M Rb J s' B' → PanUp N B' (UpX N (GCtx M Rb J) Q) (fun p => Q s' (.panic p)) := fun {s' B'} hC' R Γ a w fr v p hs hr hk => ⟨s', B', hC', pan_up R Γ a w fr v p hs hr hk⟩
  have hnq : ∀ {s' : GS} {B' : Base}, GCtx M Rb J s' B' → ∀ a w fr, SimE N B' a w fr → Q s' .normal fr → UpX N (GCtx M Rb J) Q .normal a w := fun {s' B'} hC' a w fr ⟨R, Γ, hs⟩ hk => ⟨s', B', hC', R, Γ, fr, .normal, hs, trivial, hk⟩
  unfold pyield at hy
  split at hy
  case h_2 => exact hy.elim
  rename_i o ho
  have hlt := lt_of_get? ho
  cases fuel with
  | zero => omega
  | succ fuel =>
  have hready := seq_ready ops rfl he hlt listed hli hsz
  refine AnyR_succ (fun hr => (by rw [hr] at hready; cases hready)) (fun i hi => ?_)
  obtain rfl := seq_only ops rfl he hseq m listed (Nat.le_refl _) hli hsz i hi
  have hops : ops[i]? = some o := by rw [← ho]; simp
  have hoN := hN o (List.mem_of_getElem? ho)
  have rest : ∀ {s' : GS} {B' : Base} (a' : Act) (w' : World) (fr' : PF), GCtx M Rb J s' B' → SimE N B' a' w' fr' → pops P M ops.toList (Q s' .normal) (fun p => Q s' (.panic p)) (ops.toList.drop (i + 1)) fr' → AnyR P none ops (UpX N (GCtx M Rb J) Q) fuel (listed.setIfInBounds i true) a' w' := fun {s' B'} a' w' fr' hC' hs' hp' =>
    seq_sound ops rfl hN he hseq hC'.1 (hnd hC') upX_out (hnq hC') fuel (i + 1) _ a' w' fr' (Nat.le_succ i) (by omega) (by omega) (seq_next hlt listed hli hsz) (by simpa using hsz) hs' hp'
  split at hy
  · rename_i hw
    have hwd := wanted_sound hs rfl hN hw
    split at hy
    case h_2 => exact hy.elim
    rename_i c hc
    obtain ⟨hop, _⟩ := isCall_some hc
    split at hy
    case h_2 => exact hy.elim
    rename_i x y hya
    obtain ⟨hcal, hargs⟩ := yargs_some hya
    obtain ⟨hx, n, rfl, hel, hcl, hyt, hyf, hyp⟩ := hy
    obtain ⟨hlo, hD, F, hJ, hF, hRb, hR0⟩ := hC
    obtain ⟨R, Γ, hs⟩ := hs
    have hxv := hs.rd x
    rw [hx] at hxv
    have hyv := hs.rd y
    have hux : a.eval x = .func (.yield l) #[] #[] := by
      generalize a.eval x = u at hxv
      cases hxv with
      | clo _ uf uc _ _ h1 h2 _ _ =>
        obtain rfl : uf = [] := by simpa using h1
        obtain rfl : uc = [] := by simpa using h2
        rfl
    have hJw : J (.on n) F w := henv.stab _ F B.w0 w hJ (fun b hb => hs.kept.block b (hF b hb)) hs.kept.size hs.kept.os hs.kept.tape hs.kept.output
    obtain ⟨f, tmps, assign, body, hrun, hround⟩ := henv.yield n F w (a.eval y) _ R Γ hJw hel hyv
    have hex : (execOp a.eval o).run P w = .ok (.round l f tmps assign body) w := by
      have e1 : c.args = #[y] := by rw [← Array.toArray_toList (xs := c.args), hargs]
      obtain ⟨callee, args, ats⟩ := c
      dsimp only at hcal e1
      subst hcal e1
      simp only [execOp, hop, resolve, Deferred.ofValue, hux, Sem.run_bind, Sem.run_pure, Result.andThen_ok, invoke, List.map_toArray, List.map_cons, List.map_nil]
      simpa using hrun
    refine OpR_yield hops hwd (fun c' hc' => by rw [hop] at hc'; cases hc') hex ?_
    intro cf cs
    obtain ⟨e, w', ⟨F', hcase, hF', hk⟩, hsteps⟩ := hround cf cs
    have hs' := hs.turn hD hF hR0 hk
    have hnF : ∀ x, x < w.heap.size → ¬ F x → ¬ F' x := fun x hx hn hf => by
      rcases hF' x hf with h | h
      · exact hn h
      · omega
    have mkC : ∀ s', J s' F' w' → GCtx M Rb J s' ⟨fun b => b < w'.heap.size ∧ ∀ i l, Γ i = some l → l.blk ≠ some b, w', R, fun i => if B.lo ≤ i then Γ i else none, B.lo, []⟩ := fun s' hJ' => by
      refine ⟨hlo, rfl, F', hJ', fun x hx => ⟨henv.bnd _ _ _ _ hJ' hx, fun i l hl hb => ?_⟩, fun x hx => ⟨?_, fun i l hl hb => ?_⟩, fun x o hx => ?_⟩
      · obtain ⟨h1, h2, _⟩ := (hs.own i l hl).2 x hb
        exact hnF x h2 (fun hf => h1 (hF x hf)) hx
      · have := hs.prot x (hRb x hx)
        have := hs.kept.size
        have := hk.size
        omega
      · exact ((hs.own i l hl).2 x hb).1 (hRb x hx)
      · rcases hs.sub x o hx with h0 | h0
        · rcases hR0 x o h0 with h1 | h1
          · exact .inl h1
          · exact .inr (hnF x (hs.bnd x o hx) h1)
        · exact .inr (hnF x (hs.bnd x o hx) fun hf => h0 (hF x hf))
    cases e with
    | outgrown => exact hcase.elim
    | panicked ch =>
      obtain ⟨pv, p, rfl, hrep, hJ'⟩ := hcase
      exact ⟨.panicked _, w', ⟨.pan p, _, mkC _ hJ', R, Γ, fr, .panic p, hs', ⟨pv, rfl, hrep _ _ _⟩, hyp p⟩, hsteps⟩
    | returned ret =>
    obtain ⟨b, rfl, hJ'⟩ := hcase
    have hC' := mkC _ hJ'
    refine ⟨.returned (.bool b), w', ?_, hsteps⟩
    have hput := fun (bb : Bool) (hc : pclear o.dst (.v (.bool bb)) fr = true) => (hs'.put o.dst hoN hc (u := .bool bb) (.v (.bool bb) rfl)).toE
    cases b with
    | true => exact rest _ _ _ hC' (hput true hcl) hyt
    | false =>
      refine rest _ _ _ hC' (hput false ?_) hyf
      revert hcl
      unfold pclear
      cases o.dst with
      | none => intro _; rfl
      | some d =>
        dsimp only
        cases fr[d]? with
        | none => intro _; rfl
        | some q =>
          dsimp only
          split
          · intro hcl
            refine List.all_eq_true.2 fun z hz => ?_
            obtain ⟨t, ht⟩ := List.mem_iff_getElem?.1 hz
            rcases getElem?_set' ht with ⟨rfl, rfl, hl'⟩ | ⟨hne, ht'⟩
            · simp [PV.names]
            · exact List.all_eq_true.1 hcl z (List.mem_of_getElem? (i := t) (by rw [List.getElem?_set_ne (Ne.symm hne)]; exact ht'))
          · intro _; rfl
  · rename_i hw
    exact OpR_skip hops (wanted_sound hs rfl hN hw) (rest _ _ _ hC (hs.skip hoN hy.1) hy.2)
  · exact hy.elim
theorem gen_of {f : FuncId} {fn : Func} {c : Code} (hf : P.funcs[f]? = some fn) (hname : (fn.name == "runtime.NumGoroutine") = false) (hb : fn.body = some c) (hrs : fn.results = #[]) (hn : fn.ntmps = N) {caps : List PV} (S : Nat) (hargs : caps.length + 1 ≤ N)
    (h : ∀ (l : Nat) (Rb : Nat → Prop) (J : GS → (Nat → Prop) → World → Prop), Env P l els Rb J → XW P N (GCtx (N + S) Rb J) (.on 0) c (fun s x _ => (x = .normal ∨ x = .ret) ∧ (s = .on els.length ∨ s = .off) ∨ ∃ p, s = .pan p ∧ x = .panic p) (frame0 (N + S) (.clo (.yield l) [] [] :: caps) [])) : GenW P f caps els := by
  subst hn
  refine ⟨fun vs w => ?_, fun w vs R Rb l J F0 hR hRb henv hJ hl hrep => ?_⟩
  · simp only [callFunc, Sem.run_bind, run_program, Result.andThen_ok, hf, hname, hb]
    rfl
  · have h0 : Sim 0 ⟨fun b => F0 b ∨ Rb b, w, R, fun _ => none, 0, []⟩ R (fun _ => none) noAct w [] :=
      ⟨rfl, Nat.zero_le _, fun t p hp => (by simp at hp), fun i j l m b hi => (by cases hi), fun i l hi => (by cases hi), fun b o hb => hRb b (hR b o hb), fun b o hb => .inl hb, Kept.refl _ _, fun b hb => hb.elim (henv.bnd _ _ _ _ hJ) (hRb b), Nat.le_refl _, fun j l _ hl => (by cases hl), rfl⟩
    have hsim := h0.enter (N := fn.ntmps) (M := fn.ntmps + S) (vs := .func (.yield l) #[] #[] :: vs) (args := .clo (.yield l) [] [] :: caps) (by simp [hl]) (fun i u p hu hp => by
      cases i with
      | zero =>
        simp only [List.getElem?_cons_zero, Option.some.injEq] at hu hp
        subst hu hp
        exact .clo _ [] [] [] [] rfl rfl (fun i u p hi => by simp at hi) (fun i u p hi => by simp at hi)
      | succ i => exact hrep i u p (by simpa using hu) (by simpa using hp)) (by simpa using hargs) (Nat.le_add_right _ _)
    have hC : GCtx (fn.ntmps + S) Rb J (.on 0) (base0 (fun b => F0 b ∨ Rb b) w R (fun _ => none) (fn.ntmps + S)) := ⟨rfl, rfl, F0, hJ, fun b hb => .inl hb, fun b hb => .inr hb, fun b o hb => .inl (hR b o hb)⟩
    have hw := h l Rb J henv _ _ w hC hsim.toE
    have ea : (#[Value.func (.yield l) #[] #[]] ++ vs.toArray) = (Value.func (.yield l) #[] #[] :: vs).toArray := by simp
    rw [ea]
    refine calls_of_wr hf hb (wr_mono hw fun e a w' ⟨s, B, ⟨hlo, hD, F, hJ', hF, _, _⟩, R', Γ', fr, x, hs, hu, hx⟩ => ?_)
    have hJ2 : J s F w' := henv.stab _ _ _ _ hJ' (fun b hb => hs.kept.block b (hF b hb)) hs.kept.size hs.kept.os hs.kept.tape hs.kept.output
    rcases hx with ⟨hx, hs'⟩ | ⟨p, rfl, rfl⟩
    · have fin : LeavesC P fn a.tmps (genPost els J) a.defers .returning w' := by
        rw [hs.defers, hD]
        refine ⟨.tuple #[], ?_, s, F, hs', hJ2⟩
        simp [results, hrs]
      rcases hx with rfl | rfl
      · cases e with
        | normal => exact fin
        | _ => exact hu.elim
      · cases e with
        | ret => exact fin
        | _ => exact hu.elim
    · cases e with
      | panic ch =>
        obtain ⟨v, rfl, hr⟩ := hu
        obtain ⟨p1, p2⟩ := henv.pan p F w' hJ2
        show LeavesC P fn a.tmps (genPost els J) a.defers _ w'
        rw [hs.defers, hD]
        exact ⟨v, p, F, rfl, plain_rep hr p1 p2, hJ2⟩
      | _ => exact hu.elim
end
end Go.Qg

namespace Go.Qg
open Go.RowKit (Below)
section
variable {P : Program} {N M : Nat} {B B' B0 : Base} {a a' : Act} {w w' : World} {R : Nat → Nat → Prop} {Γ : Nat → Option Loc} {fr : PF}
theorem Sim.moved (h : Sim N B R Γ a w fr) (hcell : ∀ b o, R b o → w'.cell? ⟨b, o, none⟩ = w.cell? ⟨b, o, none⟩) (hobj : ∀ i l b, Γ i = some l → l.blk = some b → w'.heap[b]? = w.heap[b]?) (hsz : w.heap.size ≤ w'.heap.size)
    (hown : ∀ i l b, Γ i = some l → l.blk = some b → ¬ B'.Prot b) (hsub : ∀ b o, R b o → B'.R0 b o ∨ ¬ B'.Prot b) (hkept : Kept B'.Prot B'.w0 w') (hprot : ∀ b, B'.Prot b → b < B'.w0.heap.size) (hlo : N ≤ B'.lo)
    (hbase : ∀ j l, B'.lo ≤ j → B'.Γ0 j = some l → ∃ l', Γ j = some l' ∧ Loc.le l l') (htmps : a'.tmps = a.tmps) (hD : a'.defers = B'.D) : Sim N B' R Γ a' w' fr := by
  refine ⟨htmps ▸ h.size, h.len, fun t p hp => ?_, h.inj, fun i l hl => ⟨(h.own i l hl).1, fun b hb => ?_⟩, fun b o hb => Nat.lt_of_lt_of_le (h.bnd b o hb) hsz, hsub, hkept, hprot, hlo, hbase, hD⟩
  · rw [htmps]
    exact (h.slot t p hp).mono (fun b o hb => ⟨hb, hcell b o hb⟩) (fun i _ l hl => ⟨l, hl, Loc.le_refl l⟩) (fun _ => rfl) fun l b hl hb => hobj t l b hl hb
  · obtain ⟨_, h2, h3⟩ := (h.own i l hl).2 b hb
    exact ⟨hown i l b hl hb, Nat.lt_of_lt_of_le h2 hsz, h3⟩
theorem Sim.not_own (h : Sim N B R Γ a w fr) {l : Nat} {ob : Obj} (hl : w.heap[l]? = some ob) (hc : ∀ cs e fz, ob ≠ .cells cs e fz) (hm : ∀ es ck, ob ≠ .map es ck) {i : Nat} {m : Loc} (hi : Γ i = some m) : m.blk ≠ some l := fun hb => by
  obtain ⟨⟨p, hp, ho⟩, _⟩ := h.own i m hi
  have hs := h.slot i p hp
  cases p with
  | box f cs =>
    obtain ⟨b, vs, ty, h1, _, h3, _⟩ := hs
    rw [hi] at h1
    obtain rfl := Option.some.inj h1
    obtain rfl : b = l := Option.some.inj hb
    rw [hl] at h3
    exact hc _ _ _ (Option.some.inj h3)
  | map f ks vs =>
    obtain ⟨b, es, ck, h1, _, h3, _⟩ := hs
    rw [hi] at h1
    obtain rfl := Option.some.inj h1
    obtain rfl : b = l := Option.some.inj hb
    rw [hl] at h3
    exact hm _ _ (Option.some.inj h3)
  | rows f ep e sz rs =>
    obtain ⟨lc, h1, _, _, _, h5⟩ := hs
    rw [hi] at h1
    obtain rfl := Option.some.inj h1
    cases lc with
    | none => cases hb
    | some bc =>
      obtain ⟨b, cap⟩ := bc
      obtain ⟨vs, g1, _⟩ := h5
      obtain rfl : b = l := Option.some.inj hb
      rw [hl] at g1
      exact hc _ _ _ (Option.some.inj g1)
  | _ => cases ho
theorem cell_putObj {l b o : Nat} {ob ob' : Obj} (hl : w.heap[l]? = some ob) (hc : ∀ cs e fz, ob ≠ .cells cs e fz) (hc' : ∀ cs e fz, ob' ≠ .cells cs e fz) : (w.putObj l ob').cell? ⟨b, o, none⟩ = w.cell? ⟨b, o, none⟩ := by
  by_cases hb : b = l
  · subst hb
    have hlt : b < w.heap.size := (Array.getElem?_eq_some_iff.1 hl).1
    have e1 : w.cell? ⟨b, o, none⟩ = none := by
      simp only [World.cell?, hl]
      cases ob <;> first | rfl | exact (hc _ _ _ rfl).elim
    have e2 : (w.putObj b ob').cell? ⟨b, o, none⟩ = none := by
      simp only [World.cell?, World.putObj_heap_same hlt]
      cases ob' <;> first | rfl | exact (hc' _ _ _ rfl).elim
    rw [e1, e2]
  · exact cell?_of_heap (World.putObj_heap_other hb)
def ECtx (B0 : Base) (_ : Unit) (B : Base) : Prop :=
  B.lo = B0.lo ∧ (∀ b, B0.Prot b → B.Prot b) ∧ Kept B0.Prot B0.w0 B.w0 ∧ (∀ b o, B.R0 b o → B0.R0 b o ∨ ¬ B0.Prot b) ∧ B.Γ0 = B0.Γ0 ∧
    ∃ rs : List Nat, rs.Nodup ∧ B.D = rs.map (fun r => { target := .collected r, args := #[] }) ++ B0.D ∧ ∀ r ∈ rs, B.Prot r ∧ ¬ B0.Prot r ∧ B.w0.heap[r]? = some (.deferred (some []))
theorem Sim.ofE (h : Sim N B R Γ a w fr) (hC : ECtx B0 () B) (hp0 : ∀ b, B0.Prot b → b < B0.w0.heap.size) : Sim N { B0 with D := B.D } R Γ a w fr := by
  obtain ⟨hlo, hpr, hk, hR0, hΓ0, _⟩ := hC
  exact h.moved (fun _ _ _ => rfl) (fun _ _ _ _ _ => rfl) (Nat.le_refl _) (fun i l b hl hb hp => ((h.own i l hl).2 b hb).1 (hpr b hp)) (fun b o hb => by
    rcases h.sub b o hb with h0 | h0
    · exact hR0 b o h0
    · exact .inr fun hp => h0 (hpr b hp)) (hk.trans (h.kept.mono hpr)) hp0 (hlo ▸ h.lo) (fun j l hj hl => h.base j l (by rw [hlo]; exact hj) (by rw [hΓ0]; exact hl)) rfl h.defers
theorem marks_leave {fn : Func} {R1 : Ending → World → Prop} {ds : List Deferred} {u : FrameMode} (hu : u ≠ .run) : ∀ (rs : List Nat) (w : World) (B : Base), rs.Nodup → (∀ r ∈ rs, ¬ B.Prot r ∧ w.heap[r]? = some (.deferred (some []))) → Sim N B R Γ a w fr →
    (∀ w' : World, Sim N B R Γ a w' fr → LeavesC P fn a.tmps R1 ds u w') → LeavesC P fn a.tmps R1 (rs.map (fun r => { target := .collected r, args := #[] }) ++ ds) u w
  | [], w, B, _, _, h, hend => hend w h
  | r :: rs, w, B, hn, hr, h, hend => by
    obtain ⟨hr1, hr2⟩ := hr r List.mem_cons_self
    refine ⟨hu, .inl ⟨r, w.putObj r (.deferred none), rfl, run_takeDeferred hr2, ?_⟩⟩
    refine marks_leave hu rs _ B (List.nodup_cons.1 hn).2 (fun r' hr' => ?_) ?_ hend
    · obtain ⟨h1, h2⟩ := hr r' (List.mem_cons_of_mem _ hr')
      have hne : r' ≠ r := fun e => (List.nodup_cons.1 hn).1 (e ▸ hr')
      exact ⟨h1, by rw [World.putObj_heap_other hne]; exact h2⟩
    · refine h.moved (fun b o _ => cell_putObj hr2 (by simp) (by simp)) (fun i l b hl hb => World.putObj_heap_other fun e => h.not_own hr2 (by simp) (by simp) hl (e ▸ hb)) (by simp) (fun i l b hl hb => ((h.own i l hl).2 b hb).1) h.sub ?_ h.prot h.lo h.base rfl h.defers
      refine h.kept.trans ⟨rfl, rfl, rfl, by simp, fun k hk => World.putObj_heap_other fun e => hr1 (e ▸ hk)⟩
theorem callW_ofE {f : FuncId} {fn : Func} {c : Code} (hf : P.funcs[f]? = some fn) (hname : (fn.name == "runtime.NumGoroutine") = false) (hb : fn.body = some c) {rs : List ResultVar} (hrs : fn.results.toList = rs) (hn : fn.ntmps = N) {args : List PV} {H : PF} {Q : Out → Prop}
    (M : Nat) (hargs : args.length ≤ N) (hM : N ≤ M) (h : ∀ B0 : Base, B0.lo = M → B0.D = [] → XW P N (ECtx B0) () c (fun _ x fr => (x = .normal ∨ x = .ret) ∧ ppost P M H.length rs Q x fr) (frame0 M args H)) : CallW P f args H Q := by
  subst hrs hn
  refine ⟨fun vs w => ?_, fun w vs R Γ Prot hRp h0 hl hrep => ?_⟩
  · simp only [callFunc, Sem.run_bind, run_program, Result.andThen_ok, hf, hname, hb]
    rfl
  · have hsim := h0.enter hl hrep hargs hM
    have hC : ECtx (base0 Prot w R Γ M) () (base0 Prot w R Γ M) := ⟨rfl, fun _ x => x, Kept.refl _ _, fun b o hb => .inl hb, rfl, [], List.nodup_nil, rfl, fun r hr => by cases hr⟩
    have hD0 : (base0 Prot w R Γ M).D = [] := rfl
    refine calls_of_wr hf hb (wr_mono (h (base0 Prot w R Γ M) rfl rfl _ _ w hC hsim.toE) fun e a w' ⟨_, B, hC', R', Γ', fr, x, hs, hu, hx, hq⟩ => ?_)
    have hs0 := hs.ofE hC' h0.prot
    obtain ⟨hlo, hpr, hk, _, _, ms, hms, hD, hm⟩ := hC'
    have hfin : (∃ x r H2 news, presults P fr fn.results.toList = some x ∧ leaves M H.length fr x r H2 news ∧ Q (.ret r H2)) → LeavesC P fn a.tmps (Left Prot w R Γ Q) a.defers .returning w' := by
      rintro ⟨x, r, H2, news, hx, hlv, hQ⟩
      rw [hs.defers, hD, hD0]
      refine marks_leave (by simp) ms w' _ hms (fun r hr => ?_) hs0 fun w'' hs'' => ?_
      · obtain ⟨h1, h2, h3⟩ := hm r hr
        exact ⟨h2, (hs.kept.block r h1).trans h3⟩
      · obtain ⟨v, hv, hrv⟩ := presults_sound (P := P) hs'' fn hx
        obtain ⟨R2, Γ2, k1, k2, k3⟩ := leaves_sound (D := B.D) h0 hs'' hlv hrv
        exact ⟨v, hv, R2, Γ2, .inl ⟨v, r, H2, rfl, hQ, k1, k2, k3⟩⟩
    rcases hx with rfl | rfl
    · cases e with
      | normal => exact hfin hq
      | _ => exact hu.elim
    · cases e with
      | ret => exact hfin hq
      | _ => exact hu.elim
end
end Go.Qg
