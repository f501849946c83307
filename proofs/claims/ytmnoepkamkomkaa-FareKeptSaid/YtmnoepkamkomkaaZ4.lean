/-
  Lemmas and contracts that hold of the whole program: 24 texts in one.
  No condition.
-/
import Derived.Test.YtmnoepkamkomkaaZ3
import Derived.RangeFuncRecord
set_option linter.all false

/-! Over the machine's steps: a function that leaves with deferred calls and with marks of range loops; a round of a range over a function; the statement itself. No condition: lemmas that hold of every program. -/
namespace Go.Qg

section
variable {P : Program} {ro : Option Nat} {Q : Exit → Act → World → Prop} {a : Act} {w : World}

/-- A frame on its way out, with deferred calls of functions and marks of range loops. -/
def LeavesC (P : Program) (fn : Func) (tmps : Array Value) (R : Ending → World → Prop) : List Deferred → FrameMode → World → Prop
  | [], .returning, w => ∃ v, (results fn tmps).run P w = .ok v w ∧ R (.returned v) w
  | [], .panicking chain, w => R (.panicked chain) w
  | [], .run, _ => False
  | d :: ds, u, w => u ≠ .run ∧
      ((∃ r w', d.target = .collected r ∧ (Instr.takeDeferred r).run P w = .ok [] w' ∧ LeavesC P fn tmps R ds u w') ∨
       (∃ fv cap f args, d.target = .fn fv cap ∧ (invoke d.target d.args).run P w = .ok (.enter f args) w ∧
        CallsD P f args u w fun
          | .returned _, u', w' => LeavesC P fn tmps R ds (settle u') w'
          | .panicked chain, u', w' => LeavesC P fn tmps R ds (raised u' chain) w'
          | .outgrown, _, _ => False))

theorem leavesC_steps {fn : Func} {tmps : Array Value} {R : Ending → World → Prop} : ∀ (ds : List Deferred) (u : FrameMode) (w : World) (fr : Frame) (cs : List Frame), fr.mode = u → fr.defers = ds → fr.tmps = tmps → P.funcs[fr.fn]? = some fn → fr.kind = .normal → LeavesC P fn tmps R ds u w →
    ∃ e w' fr', R e w' ∧ Comes P (lone fr cs w) (lone fr' cs w') e ∧ fr'.fn = fr.fn ∧ fr'.leaving P w' e := by
  intro ds
  induction ds with
  | nil =>
    intro u w fr cs hu hd ht hf hk h
    cases u with
    | run => exact h.elim
    | returning =>
      obtain ⟨v, hr, hR⟩ := h
      exact ⟨.returned v, w, fr, hR, Steps.refl P _, rfl, hu, hd, hk, fn, hf, ht ▸ hr⟩
    | panicking chain => exact ⟨.panicked chain, w, fr, h, Steps.refl P _, rfl, hu, hd, fn, hf⟩
  | cons d ds ih =>
    intro u w fr cs hu hd ht hf hk h
    obtain ⟨hrun, h⟩ := h
    rcases h with ⟨r, w', htar, htake, hrest⟩ | ⟨fv, cap, f, args, htar, hinv, hcall⟩
    · have h1 := step_collected (cs := cs) (hu ▸ hrun) hd htar htake
      obtain ⟨e', w'', fr', hR', hs', hfn', hl'⟩ := ih u w' { fr with defers := [] ++ ds } cs hu rfl ht hf hk hrest
      exact ⟨e', w'', fr', hR', Comes.of_steps (.one h1) hs', hfn', hl'⟩
    · have h1 := step_defer (cs := cs) (hu ▸ hrun) hd htar hinv
      obtain ⟨e, u', w', frX, hR, hsteps, hkX, hgo⟩ := hcall { fr with defers := ds } cs hu
      cases e with
      | returned v =>
        have h2 := step_going_returned (c := { { fr with defers := ds } with mode := u' }) (cs := cs) hkX hgo
        obtain ⟨e', w'', fr', hR', hs', hfn', hl'⟩ := ih (settle u') w' { { { fr with defers := ds } with mode := u' } with mode := settle u' } cs rfl rfl ht hf hk hR
        exact ⟨e', w'', fr', hR', Comes.of_steps (.head h1 (Steps.trans hsteps (.one h2))) hs', hfn', hl'⟩
      | panicked chain =>
        have h2 := step_going_panicked (c := { { fr with defers := ds } with mode := u' }) (cs := cs) hgo
        obtain ⟨e', w'', fr', hR', hs', hfn', hl'⟩ := ih (raised u' chain) w' { { { fr with defers := ds } with mode := u' } with mode := raised u' chain } cs rfl rfl ht hf hk hR
        exact ⟨e', w'', fr', hR', Comes.of_steps (.head h1 (Steps.trans hsteps (.one h2))) hs', hfn', hl'⟩
      | outgrown => exact hR.elim

/-- What a body must come to. -/
def bodyPostC (P : Program) (fn : Func) (R : Ending → World → Prop) : Exit → Act → World → Prop
  | .normal, a, w | .ret, a, w => LeavesC P fn a.tmps R a.defers .returning w
  | .panic chain, a, w => LeavesC P fn a.tmps R a.defers (.panicking chain) w
  | _, _, _ => False

/-- A FUNCTION's CONTRACT FROM ITS BODY. -/
theorem calls_of_wr {f : FuncId} {fn : Func} {c : Code} {args : Array Value} {R : Ending → World → Prop} (hf : P.funcs[f]? = some fn) (hb : fn.body = some c)
    (h : wr P none c (bodyPostC P fn R) { tmps := args ++ Array.replicate (fn.ntmps - args.size) undef, defers := [] } w) : Calls P f args w R := by
  intro cs
  let b : Frame := { (default : Frame) with fn := f, kind := .normal, roundOf := none }
  have henter : Frame.enter P f args .normal = b.atR { tmps := args ++ Array.replicate (fn.ntmps - args.size) undef, defers := [] } [.code c] := by
    simp [Frame.enter, Frame.atR, hf, hb, b]
  obtain ⟨e, a', w', hq, harr⟩ := h b [] cs rfl
  rw [← henter] at harr
  cases e with
  | normal =>
    obtain ⟨e', w'', fr', hR, hs, hfn, hl⟩ := leavesC_steps a'.defers .returning w' { b.atR a' [] with mode := .returning } cs rfl rfl rfl hf rfl hq
    exact ⟨e', w'', fr', hR, Comes.of_steps (Steps.trans harr (.one (stepR_end rfl))) hs, hfn, hl⟩
  | ret =>
    obtain ⟨k1, hs₀⟩ := harr
    obtain ⟨e', w'', fr', hR, hs, hfn, hl⟩ := leavesC_steps a'.defers .returning w' { b.atR a' (.code .ret :: k1) with mode := .returning } cs rfl rfl rfl hf rfl hq
    exact ⟨e', w'', fr', hR, Comes.of_steps (Steps.trans hs₀ (.one (stepR_ret rfl))) hs, hfn, hl⟩
  | panic chain =>
    obtain ⟨k1, hs₀⟩ := harr
    obtain ⟨e', w'', fr', hR, hs, hfn, hl⟩ := leavesC_steps a'.defers (.panicking chain) w' { b.atR a' k1 with mode := .panicking chain } cs rfl rfl rfl hf rfl hq
    exact ⟨e', w'', fr', hR, Comes.of_steps hs₀ hs, hfn, hl⟩
  | exit id => exact hq.elim
  | goto l => exact hq.elim
  | outgrown => exact hq.elim

/-- What a round's body must come to. -/
def roundEnd (P : Program) (l : Nat) (R : Value → World → Prop) : Exit → Act → World → Prop
  | .normal, _, w => ∃ v w', (Instr.endRound l none).run P w = .ok v w' ∧ R v w'
  | .ret, _, w => ∃ v w', (Instr.endRound l (some .ret)).run P w = .ok v w' ∧ R v w'
  | .exit id, _, w => ∃ v w', (Instr.endRound l (some (.exit id))).run P w = .ok v w' ∧ R v w'
  | _, _, _ => False

/-- A ROUND, FROM ITS BODY. -/
theorem round_of_wr {l : Nat} {f : FuncId} {tmps : Array Value} {assign body : Code} {R : Value → World → Prop}
    (h : wr P (some l) assign (Exit.then (fun a₁ w₁ => ∃ w₂, (Instr.beginRound l).run P w₁ = .ok () w₂ ∧ wr P (some l) body (roundEnd P l R) a₁ w₂) (fun _ _ _ => False)) { tmps := tmps, defers := [] } w) :
    RoundW P l f tmps assign body w R := by
  intro c cs
  let b : Frame := { (default : Frame) with fn := f, kind := .normal, roundOf := some l }
  have hb0 : Frame.round l f tmps assign body .normal = b.atR { tmps := tmps, defers := [] } [.code assign, .beginRound, .code body] := by
    simp [Frame.round, Frame.atR, b]
  obtain ⟨e, a₁, w₁, hq, harr⟩ := h b [.beginRound, .code body] (c :: cs) rfl
  rw [← hb0] at harr
  cases e with
  | normal =>
    obtain ⟨w₂, hbr, hbody⟩ := hq
    have s1 : Steps P (lone (b.atR a₁ [.beginRound, .code body]) (c :: cs) w₁) (lone (b.atR a₁ [.code body]) (c :: cs) w₂) := .one (stepR_beginRound rfl hbr)
    obtain ⟨e₂, a₂, w₃, hq₂, harr₂⟩ := hbody b [] (c :: cs) rfl
    have s2 := Steps.trans harr s1
    cases e₂ with
    | normal =>
      obtain ⟨v, w₄, hend, hR⟩ := hq₂
      exact ⟨v, w₄, hR, s2.trans (Steps.trans harr₂ (.one (stepR_round_end rfl rfl hend)))⟩
    | ret =>
      obtain ⟨v, w₄, hend, hR⟩ := hq₂
      obtain ⟨k₁, hs⟩ := harr₂
      exact ⟨v, w₄, hR, s2.trans (Steps.trans hs (.one (stepR_round_ret rfl rfl hend)))⟩
    | exit id =>
      obtain ⟨v, w₄, hend, hR⟩ := hq₂
      obtain ⟨k₁, hs, hk⟩ := harr₂
      exact ⟨v, w₄, hR, s2.trans (Steps.trans hs (.one (stepR_round_exit rfl rfl (hk.trans rfl) hend)))⟩
    | goto t => exact hq₂.elim
    | panic chain => exact hq₂.elim
    | outgrown => exact hq₂.elim
  | exit id => exact hq.elim
  | goto t => exact hq.elim
  | ret => exact hq.elim
  | panic chain => exact hq.elim
  | outgrown => exact hq.elim

/-- The loop's record. -/
def loopRec (fn : FuncId) (a : Act) (ps : Array Tmp) (assign body : Code) (D : Nat) (st : LoopState) (pe : Option Code) : Loop := { state := st, pending := pe, fn, tmps := a.tmps, params := ps, assign, body, defers := D }

/-- How the loop is left by what a round has left pending. -/
def pendEnd (Q : Exit → Act → World → Prop) : Option Code → Act → World → Prop
  | none, a, w => Q .normal a w
  | some .ret, a, w => Q .ret a w
  | some (.exit id), a, w => Q (.exit id) a w
  | _, _, _ => False

/-- THE STATEMENT, in a function's frame. -/
theorem wr_range {g : Operand} {ps : Array Tmp} {assign body : Code} {gf : FuncId} {caps : Array Value} (hg : a.eval g = .func (.func gf) #[] caps) (hen : ∀ args w, (callFunc gf args).run P w = .ok (.enter gf args) w)
    (h : ∀ fn : FuncId, Calls P gf (#[.func (.yield (w.heap.size + 1)) #[] #[]] ++ caps) ((w.alloc (.deferred (some []))).alloc (.loop (loopRec fn a ps assign body w.heap.size .ready none))) fun e w' =>
      (∃ v, e = .returned v) ∧ ∃ st pe, w'.heap[w.heap.size + 1]? = some (.loop (loopRec fn a ps assign body w.heap.size st pe)) ∧ st ≠ .busy ∧
        pendEnd Q pe { a with defers := { target := .collected w.heap.size, args := #[] } :: a.defers } (w'.putObj (w.heap.size + 1) (.loop (loopRec fn a ps assign body w.heap.size .exhausted pe)))) :
    wr P none (.rangeFunc g ps assign body) Q a w := by
  intro b k cs hb
  have he := run_enterLoop_outer (P := P) (w := w) b.fn a.tmps ps assign body
  rw [← hb] at he
  have hres : (resolve a.eval (rangeCall g (w.heap.size + 1)) 0).run P ((w.alloc (.deferred (some []))).alloc (.loop (loopRec b.fn a ps assign body w.heap.size .ready none))) = .ok { target := .fn (.func gf) caps, args := #[.func (.yield (w.heap.size + 1)) #[] #[]] } ((w.alloc (.deferred (some []))).alloc (.loop (loopRec b.fn a ps assign body w.heap.size .ready none))) := by
    simp only [resolve, hg]
    simp [go_sem]
  have hinv : (invoke (.fn (.func gf) caps) #[.func (.yield (w.heap.size + 1)) #[] #[]]).run P ((w.alloc (.deferred (some []))).alloc (.loop (loopRec b.fn a ps assign body w.heap.size .ready none))) = .ok (.enter gf (#[.func (.yield (w.heap.size + 1)) #[] #[]] ++ caps)) ((w.alloc (.deferred (some []))).alloc (.loop (loopRec b.fn a ps assign body w.heap.size .ready none))) := by
    simp [invoke, go_sem, hen]
  have henter := stepR_rangeFunc (P := P) (b := b) (a := a) (k := k) (cs := cs) (w := w) he hres hinv
  obtain ⟨e, w₃, fr, ⟨⟨v, rfl⟩, st, pe, hrec, hst, hq⟩, hsteps, _, hleave⟩ := h b.fn (b.atR { a with defers := [{ target := .collected w.heap.size, args := #[] }] ++ a.defers } (.inRangeFunc (w.heap.size + 1) :: k) :: cs)
  have h1 := step_leave_returned (c := b.atR { a with defers := [{ target := .collected w.heap.size, args := #[] }] ++ a.defers } (.inRangeFunc (w.heap.size + 1) :: k)) (cs := cs) hleave
  rw [finish_atR_inRangeFunc] at h1
  have hend := run_endLoop (P := P) hrec hst
  have h2 := stepR_endRangeFunc (P := P) (b := b) (a := { a with defers := [{ target := .collected w.heap.size, args := #[] }] ++ a.defers }) (k := k) (cs := cs) hend
  have all : Steps P (lone (b.atR a (.code (.rangeFunc g ps assign body) :: k)) cs w) _ := (Steps.one henter).trans (Steps.trans hsteps ((Steps.one h1).trans (.one h2)))
  cases pe with
  | none => exact ⟨.normal, _, _, hq, all⟩
  | some c =>
    cases c with
    | ret => exact ⟨.ret, _, _, hq, k, all⟩
    | exit id => exact ⟨.exit id, _, _, hq, k, all, rfl⟩
    | _ => exact hq.elim
end
end Go.Qg

/-! Bodies whose surroundings turn while they run: a generator, between whose yields the loop's body runs; a function that holds a range loop. No condition: definitions, and lemmas that hold of every program. -/
namespace Go.Qg
open Go.RowKit (Below)

/-! ### Code under surroundings: i: the state of the surroundings; 𝒞 i B: what the body may take for granted in state i -/

/-- The end of a piece of code, in memory. -/
def UpX {ι : Type} (N : Nat) (𝒞 : ι → Base → Prop) (Q : ι → PX → PF → Prop) : Exit → Act → World → Prop := fun e a w => ∃ i B, 𝒞 i B ∧ Up N B (Q i) e a w

def XW {ι : Type} (P : Program) (N : Nat) (𝒞 : ι → Base → Prop) (i : ι) (c : Code) (Q : ι → PX → PF → Prop) (fr : PF) : Prop :=
  ∀ (B : Base) (a : Act) (w : World), 𝒞 i B → SimE N B a w fr → wr P none c (UpX N 𝒞 Q) a w

def thenX {ι : Type} (K : ι → PF → Prop) (Q : ι → PX → PF → Prop) : ι → PX → PF → Prop
  | i, .normal, fr => K i fr
  | i, e, fr => Q i e fr

def blockX {ι : Type} (id : Nat) (Q : ι → PX → PF → Prop) : ι → PX → PF → Prop
  | i, .exit id', fr => if id' = id then Q i .normal fr else Q i (.exit id') fr
  | i, e, fr => Q i e fr

section
variable {ι : Type} {P : Program} {N M : Nat} {𝒞 : ι → Base → Prop} {i : ι} {Q : ι → PX → PF → Prop} {fr : PF}

theorem upX_out : ∀ a w, ¬ UpX N 𝒞 Q .outgrown a w := fun a w ⟨_, _, _, hu⟩ => up_out a w hu

theorem XW_pwp (hm : P.follows .mixedOrders = true) (hlo : ∀ i B, 𝒞 i B → B.lo = M) {c : Code} (hd : dstsIn N c = true) (h : pwp P M c (Q i) fr) : XW P N 𝒞 i c Q fr := fun B a w hC hs =>
  wr_mono (pwp_sound hm (hlo i B hC) c (Q i) fr a w hd hs h) fun _ _ _ hu => ⟨i, B, hC, hu⟩

theorem XW_mono {c : Code} {Q' : ι → PX → PF → Prop} (h : XW P N 𝒞 i c Q fr) (hq : ∀ i e fr, Q i e fr → Q' i e fr) : XW P N 𝒞 i c Q' fr := fun B a w hC hs =>
  wr_mono (h B a w hC hs) fun _ _ _ ⟨i, B, hC, R, Γ, fr, x, h1, h2, h3⟩ => ⟨i, B, hC, R, Γ, fr, x, h1, h2, hq _ _ _ h3⟩

theorem XW_weak (hlo : ∀ i B, 𝒞 i B → B.lo = M) {c : Code} {g : PF} (hl : less M fr g) (h : XW P N 𝒞 i c Q g) : XW P N 𝒞 i c Q fr := fun B a w hC hs =>
  h B a w hC (weak_of_less hl N B a w (hlo i B hC) hs)

theorem XW_seq {x y : Code} {K : ι → PF → Prop} (h : XW P N 𝒞 i x (thenX K Q) fr) (hk : ∀ i fr, K i fr → XW P N 𝒞 i y Q fr) : XW P N 𝒞 i (.seq x y) Q fr := fun B a w hC hs =>
  wr_seq (wr_mono (h B a w hC hs) fun e a' w' ⟨i', B', hC', R, Γ, fr', x, hs', hu, hq⟩ => by
    cases e with
    | normal => cases x with
      | normal => exact hk _ _ hq B' a' w' hC' hs'.toE
      | _ => exact hu.elim
    | _ => cases x with
      | normal => exact hu.elim
      | _ => exact ⟨i', B', hC', R, Γ, fr', _, hs', hu, hq⟩)

theorem XW_cond {c : Operand} {x y : Code} {b : Bool} (hc : rd fr c = .v (.bool b)) (h : XW P N 𝒞 i (if b then x else y) Q fr) : XW P N 𝒞 i (.cond c x y) Q fr := fun B a w hC hs => by
  have hv : a.eval c = .bool b := by
    obtain ⟨R, Γ, hs⟩ := hs
    have := hs.rd c
    rw [hc] at this
    generalize a.eval c = u at this
    cases this; rfl
  exact wr_cond hv (h B a w hC hs)

theorem XW_block {id : Nat} {c : Code} (h : XW P N 𝒞 i c (blockX id Q) fr) : XW P N 𝒞 i (.block id c) Q fr := fun B a w hC hs =>
  wr_block (wr_mono (h B a w hC hs) fun e a' w' ⟨i', B', hC', R, Γ, fr', x, hs', hu, hq⟩ => by
    cases e with
    | exit id' => cases x with
      | exit id'' =>
        obtain rfl : id' = id'' := hu
        simp only [blockX, Exit.inBlock] at hq ⊢
        split at hq
        · rw [if_pos ‹_›]; exact ⟨i', B', hC', R, Γ, fr', .normal, hs', trivial, hq⟩
        · rw [if_neg ‹_›]; exact ⟨i', B', hC', R, Γ, fr', .exit id', hs', rfl, hq⟩
      | _ => exact hu.elim
    | _ => cases x with
      | exit id'' => exact hu.elim
      | _ => exact ⟨i', B', hC', R, Γ, fr', _, hs', hu, hq⟩)

/-- A LOOP. H: the frame in a state; J: the surroundings in a state. -/
theorem XW_loop (hlo : ∀ i B, 𝒞 i B → B.lo = M) {c : Code} {σ : Type} (H : σ → PF) (J : σ → ι) (I : σ → Prop) (μ : σ → Nat) (s0 : σ) (h0 : I s0) (hj : J s0 = i) (e0 : less M fr (H s0))
    (round : ∀ s, I s → XW P N 𝒞 (J s) c (thenX (fun i' fr' => ∃ s', I s' ∧ μ s' < μ s ∧ J s' = i' ∧ less M fr' (H s')) Q) (H s)) : XW P N 𝒞 i (.loop c) Q fr := fun B a w hC hs => wr_loop fun X hX => by
  have key : ∀ n s B a w, μ s = n → I s → 𝒞 (J s) B → SimE N B a w (H s) → X a w := by
    intro n
    induction n using Nat.strongRecOn with
    | _ n ih =>
      intro s B a w hn hI hC hs
      refine hX a w (wr_mono (round s hI B a w hC hs) fun e a' w' ⟨i', B', hC', R, Γ, fr', x, hs', hu, hq⟩ => ?_)
      cases e with
      | normal => cases x with
        | normal =>
          obtain ⟨s', h1, h2, rfl, h4⟩ := hq
          exact ih (μ s') (hn ▸ h2) s' B' a' w' rfl h1 hC' (weak_of_less h4 N B' a' w' (hlo _ _ hC') hs'.toE)
        | _ => exact hu.elim
      | _ => cases x with
        | normal => exact hu.elim
        | _ => exact ⟨i', B', hC', R, Γ, fr', _, hs', hu, hq⟩
  subst hj
  exact key _ s0 B a w rfl h0 hC (weak_of_less e0 N B a w (hlo _ _ hC) hs)
end

/-! ### Generators -/

/-- What surrounds a generator: J: what holds when so many elements were yielded (none: no more are wanted), of memory among the blocks F. Rb: blocks that nobody writes. -/
structure Env (P : Program) (l : Nat) (els : List PV) (Rb : Nat → Prop) (J : Option Nat → (Nat → Prop) → World → Prop) : Prop where
  bnd : ∀ s F w b, J s F w → F b → b < w.heap.size
  stab : ∀ s F w w', J s F w → (∀ b, F b → w'.heap[b]? = w.heap[b]?) → w.heap.size ≤ w'.heap.size → w'.os = w.os → w'.tape = w.tape → w'.output = w.output → J s F w'
  yield : ∀ n F w v p R Γ, J (some n) F w → els[n]? = some p → Rep w R Γ v p → ∃ f tmps assign body, (Instr.yield l #[v]).run P w = .ok (.round l f tmps assign body) w ∧
    RoundW P l f tmps assign body w fun ret w' => ∃ b F', ret = .bool b ∧ J (if b then some (n + 1) else none) F' w' ∧ (∀ x, F' x → F x ∨ w.heap.size ≤ x) ∧ Kept (fun x => x < w.heap.size ∧ (¬ F x ∨ Rb x)) w w'

/-- THE CONTRACT OF A GENERATOR: it yields els, one after the other. -/
def GenW (P : Program) (gf : FuncId) (caps els : List PV) : Prop :=
  (∀ (args : Array Value) (w : World), (callFunc gf args).run P w = .ok (.enter gf args) w) ∧
  ∀ (w : World) (vs : List Value) (R : Nat → Nat → Prop) (Rb : Nat → Prop) (l : Nat) (J : Option Nat → (Nat → Prop) → World → Prop) (F0 : Nat → Prop), (∀ b o, R b o → Rb b) → (∀ b, Rb b → b < w.heap.size) → Env P l els Rb J → J (some 0) F0 w → vs.length = caps.length →
    (∀ (i : Nat) (u : Value) (p : PV), vs[i]? = some u → caps[i]? = some p → Rep w R (fun _ => none) u p) →
    Calls P gf (#[.func (.yield l) #[] #[]] ++ vs.toArray) w fun e w' => (∃ v, e = .returned v) ∧ ∃ s F', (s = some els.length ∨ s = none) ∧ J s F' w'

/-- What a generator's body may take for granted. -/
def GCtx (M : Nat) (Rb : Nat → Prop) (J : Option Nat → (Nat → Prop) → World → Prop) (s : Option Nat) (B : Base) : Prop :=
  B.lo = M ∧ B.D = [] ∧ ∃ F, J s F B.w0 ∧ (∀ b, F b → B.Prot b) ∧ (∀ b, Rb b → B.Prot b) ∧ ∀ b o, B.R0 b o → Rb b ∨ ¬ F b

/-- A call of a value with one argument. -/
def yargs (c : Call) : Option (Operand × Operand) :=
  match c.callee, c.args.toList with
  | .value x, [y] => some (x, y)
  | _, _ => none
theorem yargs_some {c : Call} {x y : Operand} (h : yargs c = some (x, y)) : c.callee = .value x ∧ c.args.toList = [y] := by
  unfold yargs at h
  split at h
  · rename_i hc ha
    simp only [Option.some.injEq, Prod.mk.injEq] at h
    rw [← h.1, ← h.2]; exact ⟨hc, ha⟩
  · cases h

/-- What a yield in a statement comes to: the operation at place m of the statement; q: the closure yield; els: what is yielded. -/
def pyield (P : Program) (M : Nat) (all : List Oper) (m l : Nat) (els : List PV) (Q : Option Nat → PX → PF → Prop) (s : Option Nat) (fr : PF) : Prop :=
  match all[m]? with
  | some o => match pwanted all o fr with
    | some true => match isCall o with
      | some c => match yargs c with
        | some (x, y) => rd fr x = .clo (.yield l) [] [] ∧ ∃ n, s = some n ∧ els[n]? = some (rd fr y) ∧ pclear o.dst (.v (.bool true)) fr = true ∧
            pops P M all (Q (some (n + 1)) .normal) (fun p => Q (some (n + 1)) (.panic p)) (all.drop (m + 1)) (put o.dst (.v (.bool true)) fr) ∧
            pops P M all (Q none .normal) (fun p => Q none (.panic p)) (all.drop (m + 1)) (put o.dst (.v (.bool false)) fr)
        | none => False
      | none => False
    | some false => pclear o.dst (.tup []) fr = true ∧ pops P M all (Q s .normal) (fun p => Q s (.panic p)) (all.drop (m + 1)) (put o.dst (.tup []) fr)
    | none => False
  | none => False

section
variable {P : Program} {N M l : Nat} {els : List PV} {Rb : Nat → Prop} {J : Option Nat → (Nat → Prop) → World → Prop} {s : Option Nat} {Q : Option Nat → PX → PF → Prop} {fr : PF} {B : Base} {a : Act} {w w' : World} {R : Nat → Nat → Prop} {Γ : Nat → Option Loc}

/-- The frame stands where the surroundings have turned. -/
theorem Sim.turn (h : Sim N B R Γ a w fr) (hD : B.D = []) {F : Nat → Prop} (hF : ∀ b, F b → B.Prot b) (hR0 : ∀ b o, B.R0 b o → Rb b ∨ ¬ F b) (hk : Kept (fun x => x < w.heap.size ∧ (¬ F x ∨ Rb x)) w w') :
    Sim N ⟨fun b => b < w'.heap.size ∧ ∀ i l, Γ i = some l → l.blk ≠ some b, w', R, fun i => if B.lo ≤ i then Γ i else none, B.lo, []⟩ R Γ a w' fr := by
  have hRk : ∀ b o, R b o → w'.heap[b]? = w.heap[b]? := fun b o hb => hk.block b ⟨h.bnd b o hb, by
    rcases h.sub b o hb with h0 | h0
    · exact (hR0 b o h0).symm
    · exact .inl fun hf => h0 (hF b hf)⟩
  have hok : ∀ i l b, Γ i = some l → l.blk = some b → w'.heap[b]? = w.heap[b]? := fun i l b hl hb => by
    obtain ⟨h1, h2, _⟩ := (h.own i l hl).2 b hb
    exact hk.block b ⟨h2, .inl fun hf => h1 (hF b hf)⟩
  refine ⟨h.size, h.len, fun t p hp => ?_, h.inj, fun i l hl => ⟨(h.own i l hl).1, fun b hb => ?_⟩, fun b o hb => Nat.lt_of_lt_of_le (h.bnd b o hb) hk.size, fun b o hb => .inl hb, Kept.refl _ _, fun b hb => hb.1, h.lo, fun j l hj hl => ?_, h.defers.trans hD⟩
  · exact (h.slot t p hp).mono (fun b o hb => ⟨hb, cell?_of_heap (hRk b o hb)⟩) (fun i _ l hl => ⟨l, hl, Loc.le_refl l⟩) (fun _ => rfl) fun l b hl hb => hok t l b hl hb
  · obtain ⟨_, h2, h3⟩ := (h.own i l hl).2 b hb
    exact ⟨fun hp => hp.2 i l hl hb, Nat.lt_of_lt_of_le h2 hk.size, h3⟩
  · dsimp only at hl hj
    rw [if_pos hj] at hl
    exact ⟨l, hl, Loc.le_refl l⟩

/-- A STATEMENT WITH A YIELD. -/
theorem XW_yield (hmx : P.follows .mixedOrders = true) (henv : Env P l els Rb J) {id : Nat} {ops : Array Oper} (hd : dstsIn N (.region id ops true) = true) {m : Nat} (hm : m ≤ ops.toList.length) (hp : pdrawC P ops.toList m (pyield P M ops.toList m l els Q s) (ops.toList.take m) [] fr) :
    XW P N (GCtx M Rb J) s (.region id ops true) Q fr := fun B a w hC hs => by
  have hN := dsts_mem hd
  refine drawC_sound hmx ops rfl hN upX_out id hs hm (fun he hseq fuel listed a w fr hf hli hsz hs hy => ?_) hp
  have hnd : ∀ {s' : Option Nat} {B' : Base}, GCtx M Rb J s' B' → PanUp N B' (UpX N (GCtx M Rb J) Q) (fun p => Q s' (.panic p)) := fun {s' B'} hC' R Γ a w fr v p hs hr hk => ⟨s', B', hC', pan_up R Γ a w fr v p hs hr hk⟩
  have hnq : ∀ {s' : Option Nat} {B' : Base}, GCtx M Rb J s' B' → ∀ a w fr, SimE N B' a w fr → Q s' .normal fr → UpX N (GCtx M Rb J) Q .normal a w := fun {s' B'} hC' a w fr ⟨R, Γ, hs⟩ hk => ⟨s', B', hC', R, Γ, fr, .normal, hs, trivial, hk⟩
  unfold pyield at hy
  split at hy
  case h_2 => exact hy.elim
  rename_i o ho
  have hlt := lt_of_get? ho
  cases fuel with
  | zero => omega
  | succ fuel =>
  have hready := seq_ready ops rfl he hlt listed hli hsz
  refine AnyR_succ (fun hr => (by rw [hr] at hready; cases hready)) (fun i hi => ?_)
  obtain rfl := seq_only ops rfl he hseq m listed (Nat.le_refl _) hli hsz i hi
  have hops : ops[i]? = some o := by rw [← ho]; simp
  have hoN := hN o (List.mem_of_getElem? ho)
  -- what stands behind the yield
  have rest : ∀ {s' : Option Nat} {B' : Base} (a' : Act) (w' : World) (fr' : PF), GCtx M Rb J s' B' → SimE N B' a' w' fr' → pops P M ops.toList (Q s' .normal) (fun p => Q s' (.panic p)) (ops.toList.drop (i + 1)) fr' → AnyR P none ops (UpX N (GCtx M Rb J) Q) fuel (listed.setIfInBounds i true) a' w' := fun {s' B'} a' w' fr' hC' hs' hp' =>
    seq_sound ops rfl hN he hseq hC'.1 (hnd hC') upX_out (hnq hC') fuel (i + 1) _ a' w' fr' (Nat.le_succ i) (by omega) (by omega) (seq_next hlt listed hli hsz) (by simpa using hsz) hs' hp'
  split at hy
  · rename_i hw
    have hwd := wanted_sound hs rfl hN hw
    split at hy
    case h_2 => exact hy.elim
    rename_i c hc
    obtain ⟨hop, _⟩ := isCall_some hc
    split at hy
    case h_2 => exact hy.elim
    rename_i x y hya
    obtain ⟨hcal, hargs⟩ := yargs_some hya
    obtain ⟨hx, n, rfl, hel, hcl, hyt, hyf⟩ := hy
    obtain ⟨hlo, hD, F, hJ, hF, hRb, hR0⟩ := hC
    obtain ⟨R, Γ, hs⟩ := hs
    have hxv := hs.rd x
    rw [hx] at hxv
    have hyv := hs.rd y
    have hux : a.eval x = .func (.yield l) #[] #[] := by
      generalize a.eval x = u at hxv
      cases hxv with
      | clo _ uf uc _ _ h1 h2 _ _ =>
        obtain rfl : uf = [] := by simpa using h1
        obtain rfl : uc = [] := by simpa using h2
        rfl
    have hJw : J (some n) F w := henv.stab _ F B.w0 w hJ (fun b hb => hs.kept.block b (hF b hb)) hs.kept.size hs.kept.os hs.kept.tape hs.kept.output
    obtain ⟨f, tmps, assign, body, hrun, hround⟩ := henv.yield n F w (a.eval y) _ R Γ hJw hel hyv
    have hex : (execOp a.eval o).run P w = .ok (.round l f tmps assign body) w := by
      have e1 : c.args = #[y] := by rw [← Array.toArray_toList (xs := c.args), hargs]
      obtain ⟨callee, args, ats⟩ := c
      dsimp only at hcal e1
      subst hcal e1
      simp only [execOp, hop, resolve, Deferred.ofValue, hux, Sem.run_bind, Sem.run_pure, Result.andThen_ok, invoke, List.map_toArray, List.map_cons, List.map_nil]
      simpa using hrun
    refine OpR_yield hops hwd (fun c' hc' => by rw [hop] at hc'; cases hc') hex ?_
    intro cf cs
    obtain ⟨ret, w', ⟨b, F', rfl, hJ', hF', hk⟩, hsteps⟩ := hround cf cs
    refine ⟨.bool b, w', ?_, hsteps⟩
    have hs' := hs.turn hD hF hR0 hk
    have hnF : ∀ x, x < w.heap.size → ¬ F x → ¬ F' x := fun x hx hn hf => by
      rcases hF' x hf with h | h
      · exact hn h
      · omega
    have hC' : GCtx M Rb J (if b then some (n + 1) else none) ⟨fun b => b < w'.heap.size ∧ ∀ i l, Γ i = some l → l.blk ≠ some b, w', R, fun i => if B.lo ≤ i then Γ i else none, B.lo, []⟩ := by
      refine ⟨hlo, rfl, F', hJ', fun x hx => ⟨henv.bnd _ _ _ _ hJ' hx, fun i l hl hb => ?_⟩, fun x hx => ⟨?_, fun i l hl hb => ?_⟩, fun x o hx => ?_⟩
      · obtain ⟨h1, h2, _⟩ := (hs.own i l hl).2 x hb
        exact hnF x h2 (fun hf => h1 (hF x hf)) hx
      · have := hs.prot x (hRb x hx)
        have := hs.kept.size
        have := hk.size
        omega
      · exact ((hs.own i l hl).2 x hb).1 (hRb x hx)
      · rcases hs.sub x o hx with h0 | h0
        · rcases hR0 x o h0 with h1 | h1
          · exact .inl h1
          · exact .inr (hnF x (hs.bnd x o hx) h1)
        · exact .inr (hnF x (hs.bnd x o hx) fun hf => h0 (hF x hf))
    have hput := fun (bb : Bool) (hc : pclear o.dst (.v (.bool bb)) fr = true) => (hs'.put o.dst hoN hc (u := .bool bb) (.v (.bool bb) rfl)).toE
    cases b with
    | true => exact rest _ _ _ hC' (hput true hcl) hyt
    | false =>
      refine rest _ _ _ hC' (hput false ?_) hyf
      revert hcl
      unfold pclear
      cases o.dst with
      | none => intro _; rfl
      | some d =>
        dsimp only
        cases fr[d]? with
        | none => intro _; rfl
        | some q =>
          dsimp only
          split
          · intro hcl
            refine List.all_eq_true.2 fun z hz => ?_
            obtain ⟨t, ht⟩ := List.mem_iff_getElem?.1 hz
            rcases getElem?_set' ht with ⟨rfl, rfl, hl'⟩ | ⟨hne, ht'⟩
            · simp [PV.names]
            · exact List.all_eq_true.1 hcl z (List.mem_of_getElem? (i := t) (by rw [List.getElem?_set_ne (Ne.symm hne)]; exact ht'))
          · intro _; rfl
  · rename_i hw
    exact OpR_skip hops (wanted_sound hs rfl hN hw) (rest _ _ _ hC (hs.skip hoN hy.1) hy.2)
  · exact hy.elim

/-- A GENERATOR's CONTRACT FROM ITS BODY. (S: how many places more are wanted.) -/
theorem gen_of {f : FuncId} {fn : Func} {c : Code} (hf : P.funcs[f]? = some fn) (hname : (fn.name == "runtime.NumGoroutine") = false) (hb : fn.body = some c) (hrs : fn.results = #[]) (hn : fn.ntmps = N) {caps : List PV} (S : Nat) (hargs : caps.length + 1 ≤ N)
    (h : ∀ (l : Nat) (Rb : Nat → Prop) (J : Option Nat → (Nat → Prop) → World → Prop), Env P l els Rb J → XW P N (GCtx (N + S) Rb J) (some 0) c (fun s x _ => (x = .normal ∨ x = .ret) ∧ (s = some els.length ∨ s = none)) (frame0 (N + S) (.clo (.yield l) [] [] :: caps) [])) : GenW P f caps els := by
  subst hn
  refine ⟨fun vs w => ?_, fun w vs R Rb l J F0 hR hRb henv hJ hl hrep => ?_⟩
  · simp only [callFunc, Sem.run_bind, run_program, Result.andThen_ok, hf, hname, hb]
    rfl
  · have h0 : Sim 0 ⟨fun b => F0 b ∨ Rb b, w, R, fun _ => none, 0, []⟩ R (fun _ => none) noAct w [] :=
      ⟨rfl, Nat.zero_le _, fun t p hp => (by simp at hp), fun i j l m b hi => (by cases hi), fun i l hi => (by cases hi), fun b o hb => hRb b (hR b o hb), fun b o hb => .inl hb, Kept.refl _ _, fun b hb => hb.elim (henv.bnd _ _ _ _ hJ) (hRb b), Nat.le_refl _, fun j l _ hl => (by cases hl), rfl⟩
    have hsim := h0.enter (N := fn.ntmps) (M := fn.ntmps + S) (vs := .func (.yield l) #[] #[] :: vs) (args := .clo (.yield l) [] [] :: caps) (by simp [hl]) (fun i u p hu hp => by
      cases i with
      | zero =>
        simp only [List.getElem?_cons_zero, Option.some.injEq] at hu hp
        subst hu hp
        exact .clo _ [] [] [] [] rfl rfl (fun i u p hi => by simp at hi) (fun i u p hi => by simp at hi)
      | succ i => exact hrep i u p (by simpa using hu) (by simpa using hp)) (by simpa using hargs) (Nat.le_add_right _ _)
    have hC : GCtx (fn.ntmps + S) Rb J (some 0) (base0 (fun b => F0 b ∨ Rb b) w R (fun _ => none) (fn.ntmps + S)) := ⟨rfl, rfl, F0, hJ, fun b hb => .inl hb, fun b hb => .inr hb, fun b o hb => .inl (hR b o hb)⟩
    have hw := h l Rb J henv _ _ w hC hsim.toE
    have ea : (#[Value.func (.yield l) #[] #[]] ++ vs.toArray) = (Value.func (.yield l) #[] #[] :: vs).toArray := by simp
    rw [ea]
    refine calls_of_wr hf hb (wr_mono hw fun e a w' ⟨s, B, ⟨hlo, hD, F, hJ', hF, _, _⟩, R', Γ', fr, x, hs, hu, hx, hs'⟩ => ?_)
    have fin : LeavesC P fn a.tmps (fun e w' => (∃ v, e = .returned v) ∧ ∃ s F', (s = some els.length ∨ s = none) ∧ J s F' w') a.defers .returning w' := by
      rw [hs.defers, hD]
      refine ⟨.tuple #[], ?_, ⟨_, rfl⟩, s, F, hs', henv.stab _ _ _ _ hJ' (fun b hb => hs.kept.block b (hF b hb)) hs.kept.size hs.kept.os hs.kept.tape hs.kept.output⟩
      simp [results, hrs]
    rcases hx with rfl | rfl
    · cases e with
      | normal => exact fin
      | _ => exact hu.elim
    · cases e with
      | ret => exact fin
      | _ => exact hu.elim
end
end Go.Qg

/-! A function that holds range loops over generators: its contract from its body; the loop. No condition: definitions, and lemmas that hold of every program. -/
namespace Go.Qg
open Go.RowKit (Below)

section
variable {P : Program} {N M : Nat} {B B' B0 : Base} {a a' : Act} {w w' : World} {R : Nat → Nat → Prop} {Γ : Nat → Option Loc} {fr : PF}

/-- The same frame in another memory that agrees where it matters, from another beginning. -/
theorem Sim.moved (h : Sim N B R Γ a w fr) (hcell : ∀ b o, R b o → w'.cell? ⟨b, o, none⟩ = w.cell? ⟨b, o, none⟩) (hobj : ∀ i l b, Γ i = some l → l.blk = some b → w'.heap[b]? = w.heap[b]?) (hsz : w.heap.size ≤ w'.heap.size)
    (hown : ∀ i l b, Γ i = some l → l.blk = some b → ¬ B'.Prot b) (hsub : ∀ b o, R b o → B'.R0 b o ∨ ¬ B'.Prot b) (hkept : Kept B'.Prot B'.w0 w') (hprot : ∀ b, B'.Prot b → b < B'.w0.heap.size) (hlo : N ≤ B'.lo)
    (hbase : ∀ j l, B'.lo ≤ j → B'.Γ0 j = some l → ∃ l', Γ j = some l' ∧ Loc.le l l') (htmps : a'.tmps = a.tmps) (hD : a'.defers = B'.D) : Sim N B' R Γ a' w' fr := by
  refine ⟨htmps ▸ h.size, h.len, fun t p hp => ?_, h.inj, fun i l hl => ⟨(h.own i l hl).1, fun b hb => ?_⟩, fun b o hb => Nat.lt_of_lt_of_le (h.bnd b o hb) hsz, hsub, hkept, hprot, hlo, hbase, hD⟩
  · rw [htmps]
    exact (h.slot t p hp).mono (fun b o hb => ⟨hb, hcell b o hb⟩) (fun i _ l hl => ⟨l, hl, Loc.le_refl l⟩) (fun _ => rfl) fun l b hl hb => hobj t l b hl hb
  · obtain ⟨_, h2, h3⟩ := (h.own i l hl).2 b hb
    exact ⟨hown i l b hl hb, Nat.lt_of_lt_of_le h2 hsz, h3⟩

/-- What is neither cells nor a map is no object of a frame. -/
theorem Sim.not_own (h : Sim N B R Γ a w fr) {l : Nat} {ob : Obj} (hl : w.heap[l]? = some ob) (hc : ∀ cs e fz, ob ≠ .cells cs e fz) (hm : ∀ es ck, ob ≠ .map es ck) {i : Nat} {m : Loc} (hi : Γ i = some m) : m.blk ≠ some l := fun hb => by
  obtain ⟨⟨p, hp, ho⟩, _⟩ := h.own i m hi
  have hs := h.slot i p hp
  cases p with
  | box f cs =>
    obtain ⟨b, vs, ty, h1, _, h3, _⟩ := hs
    rw [hi] at h1
    obtain rfl := Option.some.inj h1
    obtain rfl : b = l := Option.some.inj hb
    rw [hl] at h3
    exact hc _ _ _ (Option.some.inj h3)
  | map f ks vs =>
    obtain ⟨b, es, ck, h1, _, h3, _⟩ := hs
    rw [hi] at h1
    obtain rfl := Option.some.inj h1
    obtain rfl : b = l := Option.some.inj hb
    rw [hl] at h3
    exact hm _ _ (Option.some.inj h3)
  | rows f ep e sz rs =>
    obtain ⟨lc, h1, _, _, _, h5⟩ := hs
    rw [hi] at h1
    obtain rfl := Option.some.inj h1
    cases lc with
    | none => cases hb
    | some bc =>
      obtain ⟨b, cap⟩ := bc
      obtain ⟨vs, g1, _⟩ := h5
      obtain rfl : b = l := Option.some.inj hb
      rw [hl] at g1
      exact hc _ _ _ (Option.some.inj g1)
  | _ => cases ho

theorem cell_putObj {l b o : Nat} {ob ob' : Obj} (hl : w.heap[l]? = some ob) (hc : ∀ cs e fz, ob ≠ .cells cs e fz) (hc' : ∀ cs e fz, ob' ≠ .cells cs e fz) : (w.putObj l ob').cell? ⟨b, o, none⟩ = w.cell? ⟨b, o, none⟩ := by
  by_cases hb : b = l
  · subst hb
    have hlt : b < w.heap.size := (Array.getElem?_eq_some_iff.1 hl).1
    have e1 : w.cell? ⟨b, o, none⟩ = none := by
      simp only [World.cell?, hl]
      cases ob <;> first | rfl | exact (hc _ _ _ rfl).elim
    have e2 : (w.putObj b ob').cell? ⟨b, o, none⟩ = none := by
      simp only [World.cell?, World.putObj_heap_same hlt]
      cases ob' <;> first | rfl | exact (hc' _ _ _ rfl).elim
    rw [e1, e2]
  · exact cell?_of_heap (World.putObj_heap_other hb)

/-- What the body of a function with range loops may take for granted: marks: the blocks of its loops. -/
def ECtx (B0 : Base) (_ : Unit) (B : Base) : Prop :=
  B.lo = B0.lo ∧ (∀ b, B0.Prot b → B.Prot b) ∧ Kept B0.Prot B0.w0 B.w0 ∧ (∀ b o, B.R0 b o → B0.R0 b o ∨ ¬ B0.Prot b) ∧ B.Γ0 = B0.Γ0 ∧
    ∃ rs : List Nat, rs.Nodup ∧ B.D = rs.map (fun r => { target := .collected r, args := #[] }) ∧ ∀ r ∈ rs, B.Prot r ∧ ¬ B0.Prot r ∧ B.w0.heap[r]? = some (.deferred (some []))

/-- The frame, from the function's own beginning. -/
theorem Sim.ofE (h : Sim N B R Γ a w fr) (hC : ECtx B0 () B) (hp0 : ∀ b, B0.Prot b → b < B0.w0.heap.size) : Sim N { B0 with D := B.D } R Γ a w fr := by
  obtain ⟨hlo, hpr, hk, hR0, hΓ0, _⟩ := hC
  exact h.moved (fun _ _ _ => rfl) (fun _ _ _ _ _ => rfl) (Nat.le_refl _) (fun i l b hl hb hp => ((h.own i l hl).2 b hb).1 (hpr b hp)) (fun b o hb => by
    rcases h.sub b o hb with h0 | h0
    · exact hR0 b o h0
    · exact .inr fun hp => h0 (hpr b hp)) (hk.trans (h.kept.mono hpr)) hp0 (hlo ▸ h.lo) (fun j l hj hl => h.base j l (by rw [hlo]; exact hj) (by rw [hΓ0]; exact hl)) rfl h.defers

/-- The marks of a function's loops are taken away at its end. -/
theorem marks_leave {fn : Func} {R1 : Ending → World → Prop} : ∀ (rs : List Nat) (w : World) (B : Base), rs.Nodup → (∀ r ∈ rs, ¬ B.Prot r ∧ w.heap[r]? = some (.deferred (some []))) → Sim N B R Γ a w fr →
    (∀ w' : World, Sim N B R Γ a w' fr → ∃ v, (results fn a.tmps).run P w' = .ok v w' ∧ R1 (.returned v) w') → LeavesC P fn a.tmps R1 (rs.map fun r => { target := .collected r, args := #[] }) .returning w
  | [], w, B, _, _, h, hend => hend w h
  | r :: rs, w, B, hn, hr, h, hend => by
    obtain ⟨hr1, hr2⟩ := hr r List.mem_cons_self
    refine ⟨by simp, .inl ⟨r, w.putObj r (.deferred none), rfl, run_takeDeferred hr2, ?_⟩⟩
    refine marks_leave rs _ B (List.nodup_cons.1 hn).2 (fun r' hr' => ?_) ?_ hend
    · obtain ⟨h1, h2⟩ := hr r' (List.mem_cons_of_mem _ hr')
      have hne : r' ≠ r := fun e => (List.nodup_cons.1 hn).1 (e ▸ hr')
      exact ⟨h1, by rw [World.putObj_heap_other hne]; exact h2⟩
    · refine h.moved (fun b o _ => cell_putObj hr2 (by simp) (by simp)) (fun i l b hl hb => World.putObj_heap_other fun e => h.not_own hr2 (by simp) (by simp) hl (e ▸ hb)) (by simp) (fun i l b hl hb => ((h.own i l hl).2 b hb).1) h.sub ?_ h.prot h.lo h.base rfl h.defers
      refine h.kept.trans ⟨rfl, rfl, rfl, by simp, fun k hk => World.putObj_heap_other fun e => hr1 (e ▸ hk)⟩

/-- THE CONTRACT OF A FUNCTION WITH RANGE LOOPS, FROM ITS BODY. -/
theorem callW_ofE {f : FuncId} {fn : Func} {c : Code} (hf : P.funcs[f]? = some fn) (hname : (fn.name == "runtime.NumGoroutine") = false) (hb : fn.body = some c) {rs : List ResultVar} (hrs : fn.results.toList = rs) (hn : fn.ntmps = N) {args : List PV} {H : PF} {Q : Out → Prop}
    (M : Nat) (hargs : args.length ≤ N) (hM : N ≤ M) (h : ∀ B0 : Base, B0.lo = M → B0.D = [] → XW P N (ECtx B0) () c (fun _ x fr => (x = .normal ∨ x = .ret) ∧ ppost P M H.length rs Q x fr) (frame0 M args H)) : CallW P f args H Q := by
  subst hrs hn
  refine ⟨fun vs w => ?_, fun w vs R Γ Prot hRp h0 hl hrep => ?_⟩
  · simp only [callFunc, Sem.run_bind, run_program, Result.andThen_ok, hf, hname, hb]
    rfl
  · have hsim := h0.enter hl hrep hargs hM
    have hC : ECtx (base0 Prot w R Γ M) () (base0 Prot w R Γ M) := ⟨rfl, fun _ x => x, Kept.refl _ _, fun b o hb => .inl hb, rfl, [], List.nodup_nil, rfl, fun r hr => by cases hr⟩
    refine calls_of_wr hf hb (wr_mono (h (base0 Prot w R Γ M) rfl rfl _ _ w hC hsim.toE) fun e a w' ⟨_, B, hC', R', Γ', fr, x, hs, hu, hx, hq⟩ => ?_)
    have hs0 := hs.ofE hC' h0.prot
    obtain ⟨hlo, hpr, hk, _, _, ms, hms, hD, hm⟩ := hC'
    have hfin : (∃ x r H2 news, presults P fr fn.results.toList = some x ∧ leaves M H.length fr x r H2 news ∧ Q (.ret r H2)) → LeavesC P fn a.tmps (Left Prot w R Γ Q) a.defers .returning w' := by
      rintro ⟨x, r, H2, news, hx, hlv, hQ⟩
      rw [hs.defers, hD]
      refine marks_leave ms w' _ hms (fun r hr => ?_) hs0 fun w'' hs'' => ?_
      · obtain ⟨h1, h2, h3⟩ := hm r hr
        exact ⟨h2, (hs.kept.block r h1).trans h3⟩
      · obtain ⟨v, hv, hrv⟩ := presults_sound (P := P) hs'' fn hx
        obtain ⟨R2, Γ2, k1, k2, k3⟩ := leaves_sound (D := B.D) h0 hs'' hlv hrv
        exact ⟨v, hv, R2, Γ2, .inl ⟨v, r, H2, rfl, hQ, k1, k2, k3⟩⟩
    rcases hx with rfl | rfl
    · cases e with
      | normal => exact hfin hq
      | _ => exact hu.elim
    · cases e with
      | ret => exact hfin hq
      | _ => exact hu.elim
end
end Go.Qg

/-! A range loop over a generator, in a function's frame. No condition: definitions, and lemmas that hold of every program. -/
namespace Go.Qg
open Go.RowKit (Below)

/-- The blocks on which a frame hangs. -/
def foot (B : Base) (R : Nat → Nat → Prop) (Γ : Nat → Option Loc) (l D : Nat) : Nat → Prop := fun b => B.Prot b ∨ (∃ o, R b o) ∨ (∃ i m, Γ i = some m ∧ m.blk = some b) ∨ b = l ∨ b = D

/-- How a round that does not end at its end leaves the loop. -/
def jumpX : Code → PX → Prop
  | .ret, .ret => True
  | .exit id, .exit id' => id = id'
  | _, _ => False

/-- What holds of a loop's surroundings: V n: the frame behind n rounds. -/
def LoopJ (N : Nat) (B : Base) (a : Act) (l D : Nat) (rec : LoopState → Option Code → Loop) (R00 : Nat → Nat → Prop) (V : Nat → PF) (Q : Unit → PX → PF → Prop) (s : Option Nat) (F : Nat → Prop) (w : World) : Prop :=
  ∃ R Γ fr st pe, Sim N B R Γ a w fr ∧ F = foot B R Γ l D ∧ w.heap[l]? = some (.loop (rec st pe)) ∧ w.heap[D]? = some (.deferred (some [])) ∧ (∀ b o, R00 b o → R b o) ∧ (∀ o, ¬ R l o) ∧
    match s with
    | some n => st = .ready ∧ pe = none ∧ fr = V n
    | none => st = .done ∧ ∃ c x, pe = some c ∧ jumpX c x ∧ Q () x fr

/-- A round's end: H2: the objects then. -/
def rend (M M' : Nat) (κ : List Nat) (fr : PF) (next : PF) (Q : Unit → PX → PF → Prop) : PX → PF → Prop
  | .normal, g => ∃ H2, outF g (tgtAt H2 ((List.range κ.length).map (M' + ·)) fun s => !((List.range κ.length).map (M' + ·)).contains s) 8 H2 ((List.range κ.length).map (M' + ·)) ∧ less M (back fr κ H2) next
  | .ret, g => ∃ H2, outF g (tgtAt H2 ((List.range κ.length).map (M' + ·)) fun s => !((List.range κ.length).map (M' + ·)).contains s) 8 H2 ((List.range κ.length).map (M' + ·)) ∧ Q () .ret (back fr κ H2)
  | .exit id, g => ∃ H2, outF g (tgtAt H2 ((List.range κ.length).map (M' + ·)) fun s => !((List.range κ.length).map (M' + ·)).contains s) 8 H2 ((List.range κ.length).map (M' + ·)) ∧ Q () (.exit id) (back fr κ H2)
  | _, _ => False

section
variable {P : Program} {N M M' : Nat} {B B0 : Base} {a a' : Act} {w w' : World} {R R00 : Nat → Nat → Prop} {Γ : Nat → Option Loc} {fr : PF} {Q : Unit → PX → PF → Prop} {κ : List Nat} {l D : Nat} {rec : LoopState → Option Code → Loop} {V : Nat → PF}

theorem foot_stay (h : Sim N B R Γ a w fr) (hF : ∀ b, foot B R Γ l D b → w'.heap[b]? = w.heap[b]?) (hsz : w.heap.size ≤ w'.heap.size) (ho : w'.os = w.os) (ht : w'.tape = w.tape) (hu : w'.output = w.output) : Sim N B R Γ a w' fr :=
  h.moved (fun b o hb => cell?_of_heap (hF b (.inr (.inl ⟨o, hb⟩)))) (fun i m b hi hb => hF b (.inr (.inr (.inl ⟨i, m, hi, hb⟩)))) hsz (fun i m b hi hb => ((h.own i m hi).2 b hb).1) h.sub
    (h.kept.trans ⟨ho, ht, hu, hsz, fun k hk => hF k (.inl hk)⟩) h.prot h.lo h.base rfl h.defers

theorem foot_bnd (h : Sim N B R Γ a w fr) {ob ob' : Obj} (hl : w.heap[l]? = some ob) (hD : w.heap[D]? = some ob') {b : Nat} (hb : foot B R Γ l D b) : b < w.heap.size := by
  rcases hb with hb | ⟨o, hb⟩ | ⟨i, m, hi, hb⟩ | rfl | rfl
  · exact Nat.lt_of_lt_of_le (h.prot b hb) h.kept.size
  · exact h.bnd b o hb
  · exact ((h.own i m hi).2 b hb).2.1
  · exact (Array.getElem?_eq_some_iff.1 hl).1
  · exact (Array.getElem?_eq_some_iff.1 hD).1

/-- What is said less: nothing new is read but what the frame's objects held. -/
theorem weak_R {f g : PF} (h : Sim N B R Γ a w f) (hl : less B.lo f g) : Sim N B (freed R Γ g) (Γof Γ g) a w g := weak_le h hl

/-- ONE ROUND. -/
theorem round_sound (hmx : P.follows .mixedOrders = true) {fn : FuncId} {t : Tmp} {assign body : Code} (hda : dstsIn N assign = true) (hdb : dstsIn N body = true) (hM' : N ≤ M') (hκ : κ.Nodup) {H A : List PV} {next : PF} {p : PV} {v : Value} {Ra : Nat → Nat → Prop} {Γa : Nat → Option Loc}
    (hs : Sim N B R Γ a w fr) (hBD : l ∉ ([] : List Nat) ∧ ∀ b, B.Prot b → b < l) (hrec : rec = loopRec fn a #[t] assign body D) (hl : w.heap[l]? = some (.loop (rec .ready none))) (hD : w.heap[D]? = some (.deferred (some []))) (hDl : D ≠ l) (hRl : ∀ o, ¬ R l o) (h00 : ∀ b o, R00 b o → R b o)
    (hout : outF fr (tgtAt H κ fun _ => false) 8 H κ) (hA : A.length = N) (hAv : ∀ i, i < N → i ≠ t → vw fr (tgtAt H κ fun _ => false) 8 (A.getD i .undef) (rd fr (.tmp i))) (hp : p.plain = true ∧ p.flat = true) (hv : Rep w Ra Γa v p)
    (hr : pwp P M' assign (thenP (pwp P M' body (rend B.lo M' κ fr next Q)) (fun _ _ => False)) (frame0 M' (A.set t p) H)) :
    RoundW P l fn (a.tmps.setIfInBounds t v) assign body w fun ret w' => ∃ b R' Γ' fr' st pe, ret = .bool b ∧ Sim N B R' Γ' a w' fr' ∧ w'.heap[l]? = some (.loop (rec st pe)) ∧ w'.heap[D]? = some (.deferred (some [])) ∧ (∀ b o, R00 b o → R' b o) ∧ (∀ o, ¬ R' l o) ∧
      (∀ x, foot B R' Γ' l D x → foot B R Γ l D x ∨ w.heap.size ≤ x) ∧ Kept (fun x => x < w.heap.size ∧ (¬ foot B R Γ l D x ∨ ∃ o, R x o)) w w' ∧
      match b with
      | true => st = .ready ∧ pe = none ∧ fr' = next
      | false => st = .done ∧ ∃ c x, pe = some c ∧ jumpX c x ∧ Q () x fr' := by
  have hgn : ∀ s ∈ κ, (fun _ : Nat => false) s = false := fun _ _ => rfl
  obtain ⟨hlend, hRp⟩ := hs.lend hout hκ hgn
  obtain ⟨_, hview⟩ := hs.leave hout hκ hgn
  -- what must not be written
  have hR1 : ∀ b o, freedAt R Γ (fun _ => false) b o → R b o := fun b o hb => by
    rcases hb with hb | ⟨s, m, hg, _⟩
    · exact hb
    · cases hg
  have hlp : ∀ b, b < w.heap.size → (∀ i m, Γ i = some m → m.blk ≠ some b) → lentProt w (Γout Γ H κ) b := fun b hb hn => ⟨hb, fun j m hm hmb => by
    obtain ⟨s, m', _, hm', hmb'⟩ := Γout_blk hm hmb
    exact hn s m' hm' hmb'⟩
  have hll : l < w.heap.size := (Array.getElem?_eq_some_iff.1 hl).1
  have hDlt : D < w.heap.size := (Array.getElem?_eq_some_iff.1 hD).1
  have hlL := hlp l hll fun i m hi => hs.not_own hl (by simp) (by simp) hi
  have hlD := hlp D hDlt fun i m hi => hs.not_own hD (by simp) (by simp) hi
  -- the round's first frame
  have hsz : (a.tmps.setIfInBounds t v).toList.length = N := by simpa using hs.size
  have hent := hlend.enter (N := N) (M := M') (vs := (a.tmps.setIfInBounds t v).toList) (args := A.set t p) (by simp [hA, hs.size]) (fun i u q hu hq => by
    by_cases hit : i = t
    · subst hit
      have hlt : i < A.length := by have := lt_of_get? hq; simpa using this
      rw [List.getElem?_set_self hlt] at hq
      obtain rfl := Option.some.inj hq
      have hlt' : i < a.tmps.size := by rw [hs.size, ← hA]; exact hlt
      rw [Array.getElem?_toList, Array.getElem?_setIfInBounds_self_of_lt hlt'] at hu
      obtain rfl := Option.some.inj hu
      have := hv.ren (π := id) (R' := freedAt R Γ (fun _ => false)) (w' := w) (Γ' := Γout Γ H κ) (.inl hp.2) (fun j hj => by rw [plain_names hp.1] at hj; cases hj)
      rwa [ren_plain hp.1] at this
    · rw [List.getElem?_set_ne (Ne.symm hit)] at hq
      have hlt := lt_of_get? hq
      rw [hA] at hlt
      have hqA : A.getD i .undef = q := by simp [List.getD, hq]
      have h1 := hAv i hlt hit
      rw [hqA] at h1
      refine hview q _ u h1 ?_
      have h2 := hs.rd (.tmp i)
      rw [Array.getElem?_toList, Array.getElem?_setIfInBounds_ne (Ne.symm hit)] at hu
      have : a.eval (.tmp i) = u := by simp [Act.eval, hu]
      rwa [this] at h2) (by simp [hA]) hM'
  have hact : ({ tmps := (a.tmps.setIfInBounds t v).toList.toArray ++ Array.replicate (N - (a.tmps.setIfInBounds t v).toList.toArray.size) undef, defers := [] } : Act) = { tmps := a.tmps.setIfInBounds t v, defers := [] } := by
    have e1 : (a.tmps.setIfInBounds t v).toList.toArray = a.tmps.setIfInBounds t v := Array.toArray_toList
    rw [e1, Array.size_setIfInBounds, hs.size]
    simp
  rw [hact] at hent
  refine round_of_wr (wr_mono (pwp_sound (ro := some l) hmx rfl assign _ _ _ w hda hent.toE hr) fun e a1 w1 ⟨R1, Γ1, fr1, x, hs1, hu, hq⟩ => ?_)
  cases e with
  | normal =>
    cases x with
    | normal =>
      -- the round begins
      have hl1 : w1.heap[l]? = some (.loop (rec .ready none)) := (hs1.kept.block l hlL).trans hl
      have hl1t : l < w1.heap.size := (Array.getElem?_eq_some_iff.1 hl1).1
      refine ⟨_, run_beginRound hl1 (by rw [hrec]; rfl), ?_⟩
      have hn1 : ∀ i m, Γ1 i = some m → m.blk ≠ some l := fun i m hi => hs1.not_own hl1 (by simp) (by simp) hi
      have hs2 : Sim N ⟨fun b => b < w1.heap.size ∧ ∀ i m, Γ1 i = some m → m.blk ≠ some b, w1.putObj l (.loop { rec .ready none with state := .busy }), R1, fun i => if M' ≤ i then Γ1 i else none, M', []⟩ R1 Γ1 a1 (w1.putObj l (.loop { rec .ready none with state := .busy })) fr1 := by
        refine hs1.moved (fun b o _ => cell_putObj hl1 (by simp) (by simp)) (fun i m b hi hb => World.putObj_heap_other fun e => hn1 i m hi (e ▸ hb)) (by simp) (fun i m b hi hb hp => hp.2 i m hi hb) (fun b o hb => .inl hb) (Kept.refl _ _) (fun b hb => by simpa using hb.1) hM' (fun j m hj hm => ?_) rfl hs1.defers
        dsimp only at hm
        rw [if_pos hj] at hm
        exact ⟨m, hm, Loc.le_refl m⟩
      refine wr_mono (pwp_sound (ro := some l) hmx rfl body _ _ _ _ hdb hs2.toE hq) fun e a3 w3 ⟨R3, Γ3, fr3, x, hs3, hu3, hq3⟩ => ?_
      -- the record
      have hl2 : (w1.putObj l (.loop { rec .ready none with state := .busy })).heap[l]? = some (.loop { rec .ready none with state := .busy }) := World.putObj_heap_same hl1t
      have hl3 : w3.heap[l]? = some (.loop { rec .ready none with state := .busy }) := (hs3.kept.block l ⟨hl1t, hn1⟩).trans hl2
      have hn3 : ∀ i m, Γ3 i = some m → m.blk ≠ some l := fun i m hi => hs3.not_own hl3 (by simp) (by simp) hi
      have hlp1 : ∀ b, lentProt w (Γout Γ H κ) b → b < w1.heap.size ∧ ∀ i m, Γ1 i = some m → m.blk ≠ some b := fun b hb => ⟨Nat.lt_of_lt_of_le hb.1 hs1.kept.size, fun i m hi hm => ((hs1.own i m hi).2 b hm).1 hb⟩
      have fin : ∀ (jump : Option Code) (H2 : PF), outF fr3 (tgtAt H2 ((List.range κ.length).map (M' + ·)) fun s => !((List.range κ.length).map (M' + ·)).contains s) 8 H2 ((List.range κ.length).map (M' + ·)) →
          ∃ R' Γ', Sim N B R' Γ' a (w3.putObj l (.loop (rec (if jump.isNone then .ready else .done) jump))) (back fr κ H2) ∧ (w3.putObj l (.loop (rec (if jump.isNone then .ready else .done) jump))).heap[D]? = some (.deferred (some [])) ∧ (∀ b o, R b o → R' b o) ∧ (∀ o, ¬ R' l o) ∧
            (∀ x, foot B R' Γ' l D x → foot B R Γ l D x ∨ w.heap.size ≤ x) ∧ Kept (fun x => x < w.heap.size ∧ (¬ foot B R Γ l D x ∨ ∃ o, R x o)) w (w3.putObj l (.loop (rec (if jump.isNone then .ready else .done) jump))) := by
        intro jump H2 hout2
        have hnd : ((List.range κ.length).map (M' + ·)).Nodup := List.Pairwise.map _ (fun x y h => by simpa using h) List.nodup_range
        obtain ⟨hleave, _⟩ := hs3.leave hout2 hnd (fun s hs => by have := List.contains_iff_mem.2 hs; show (!_) = false; rw [this]; rfl)
        have hlen2 : H2.length = κ.length := by rw [outF_length hout2]; simp
        have hn0 : ∀ i m, Γout Γ3 H2 ((List.range κ.length).map (M' + ·)) i = some m → m.blk ≠ some l := fun i m hi => hleave.not_own hl3 (by simp) (by simp) hi
        -- what the round may have written
        have hnp : ∀ b, b < w.heap.size → ¬ (b < w1.heap.size ∧ ∀ i m, Γ1 i = some m → m.blk ≠ some b) → ¬ lentProt w (Γout Γ H κ) b := fun b hb hn hl => hn (hlp1 b hl)
        have hkept4 : Kept (fun b => lentProt w (Γout Γ H κ) b ∧ b ≠ l) w (w3.putObj l (.loop (rec (if jump.isNone then .ready else .done) jump))) := by
          refine (hs1.kept.mono fun b hb => hb.1).trans (Kept.trans (b := w1.putObj l (.loop { rec .ready none with state := .busy })) ⟨rfl, rfl, rfl, by simp, fun k hk => World.putObj_heap_other hk.2⟩ ((hs3.kept.mono fun b hb => hlp1 b hb.1).trans ⟨rfl, rfl, rfl, by simp, fun k hk => World.putObj_heap_other hk.2⟩))
        have h4 : Sim 0 ⟨fun b => lentProt w (Γout Γ H κ) b ∧ b ≠ l, w, freedAt R Γ (fun _ => false), Γout Γ H κ, 0, []⟩ (freedAt R3 Γ3 fun s => !((List.range κ.length).map (M' + ·)).contains s) (Γout Γ3 H2 ((List.range κ.length).map (M' + ·))) noAct (w3.putObj l (.loop (rec (if jump.isNone then .ready else .done) jump))) H2 := by
          refine hleave.moved (fun b o _ => cell_putObj hl3 (by simp) (by simp)) (fun i m b hi hb => World.putObj_heap_other fun e => hn0 i m hi (e ▸ hb)) (by simp) (fun i m b hi hb hp => ?_) (fun b o hb => ?_) hkept4 (fun b hb => hb.1.1) (Nat.le_refl _) (fun j m _ hm => ?_) rfl rfl
          · exact ((hleave.own i m hi).2 b hb).1 (hlp1 b hp.1)
          · rcases hleave.sub b o hb with h5 | h5
            · rcases hs1.sub b o h5 with h6 | h6
              · exact .inl h6
              · exact .inr fun hp => h6 hp.1
            · exact .inr fun hp => h5 (hlp1 b hp.1)
          · obtain ⟨⟨q, hq, _⟩, _⟩ := hlend.own j m hm
            have hj : j < κ.length := by rw [← outF_length hout]; exact lt_of_get? hq
            have hb0 : (base0 (lentProt w (Γout Γ H κ)) w (freedAt R Γ fun _ => false) (Γout Γ H κ) M').Γ0 (M' + j) = some m := by
              simp only [base0]
              rw [if_pos (by omega), Nat.add_sub_cancel_left]; exact hm
            obtain ⟨m1, e1, e2⟩ := hs1.base (M' + j) m (Nat.le_add_right _ _) hb0
            obtain ⟨m2, e3, e4⟩ := hs3.base (M' + j) m1 (Nat.le_add_right _ _) (by dsimp only; rw [if_pos (by omega)]; exact e1)
            have hκj : ((List.range κ.length).map (M' + ·))[j]? = some (M' + j) := by
              rw [List.getElem?_map, List.getElem?_range hj]; rfl
            obtain ⟨m3, e5, e6⟩ := Γout_le hs3 hout2 hκj e3
            exact ⟨m3, e5, Loc.le_trans e2 (Loc.le_trans e4 e6)⟩
        have hobj : ∀ q ∈ H2, q.isObj = true := fun q hq => by
          obtain ⟨i, hi⟩ := List.mem_iff_getElem?.1 hq
          obtain ⟨s, p, _, _, hbare, _⟩ := outF_get hout2 i q hi
          cases q <;> first | rfl | cases hbare
        have hpr : ∀ b, B.Prot b → lentProt w (Γout Γ H κ) b ∧ b ≠ l := fun b hb => ⟨hlp b (Nat.lt_of_lt_of_le (hs.prot b hb) hs.kept.size) fun i m hi hm => ((hs.own i m hi).2 b hm).1 hb, fun e => by have := hBD.2 b hb; omega⟩
        have hRpp : ∀ b o, R b o → lentProt w (Γout Γ H κ) b ∧ b ≠ l := fun b o hb => ⟨hlp b (hs.bnd b o hb) fun i m hi hm => ((hs.own i m hi).2 b hm).2.2 o hb, fun e => hRl o (e ▸ hb)⟩
        have hop : ∀ s m b, s ∉ κ → Γ s = some m → m.blk = some b → lentProt w (Γout Γ H κ) b ∧ b ≠ l := fun s m b hsκ hm hb => ⟨⟨((hs.own s m hm).2 b hb).2.1, fun j m' hm' hmb' => by
          obtain ⟨s', m2, hs', hm2, hmb2⟩ := Γout_blk hm' hmb'
          obtain rfl := hs.inj s s' m m2 b hm hm2 hb hmb2
          exact hsκ (List.mem_of_getElem? hs')⟩, fun e => hs.not_own hl (by simp) (by simp) hm (e ▸ hb)⟩
        obtain ⟨hm1, _⟩ := hs.mergeP (news := []) hout hpr hRpp hop h4 (by simpa using hκ) (by simpa using hlen2) (fun s hs => by cases hs) (.inl fun _ => rfl) hobj
        have eback : placeAll ((κ ++ []).getD · 0) (κ ++ []) H2 fr = back fr κ H2 := by simp only [List.append_nil]; rfl
        rw [eback] at hm1
        have hlent : ∀ x, x < w.heap.size → ¬ (lentProt w (Γout Γ H κ) x ∧ x ≠ l) → foot B R Γ l D x := fun x hx hn => by
          by_cases hxl : x = l
          · exact .inr (.inr (.inr (.inl hxl)))
          · by_cases hex : ∃ i m, Γ i = some m ∧ m.blk = some x
            · exact .inr (.inr (.inl hex))
            · exact (hn ⟨hlp x hx fun i m hi hm => hex ⟨i, m, hi, hm⟩, hxl⟩).elim
        refine ⟨_, _, hm1, (hkept4.block D ⟨hlD, hDl⟩).trans hD, fun b o hb => .inl hb, fun o ho => ?_, fun x hx => ?_, ⟨hkept4.os, hkept4.tape, hkept4.output, hkept4.size, fun k hk => hkept4.block k ?_⟩⟩
        · rcases ho with ho | ⟨ho, _⟩
          · exact hRl o ho
          · rcases ho with ho | ⟨s, m, _, hsm, hmb⟩
            · rcases hs3.sub l o ho with h5 | h5
              · rcases hs1.sub l o h5 with h6 | h6
                · exact hRl o (hR1 l o h6)
                · exact h6 hlL
              · exact h5 ⟨hl1t, hn1⟩
            · exact hn3 s m hsm hmb
        · rcases hx with hx | ⟨o, hx⟩ | ⟨i, m, hi, hmb⟩ | rfl | rfl
          · exact .inl (.inl hx)
          · rcases hx with hx | ⟨_, hx⟩
            · exact .inl (.inr (.inl ⟨o, hx⟩))
            · by_cases hlt : x < w.heap.size
              · exact .inl (hlent x hlt hx)
              · exact .inr (by omega)
          · by_cases hlt : x < w.heap.size
            · refine .inl ?_
              by_cases hiκ : i ∈ κ ++ []
              · obtain ⟨j, hj⟩ := List.mem_iff_getElem?.1 hiκ
                rw [Γput_in (by simpa using hκ) hj] at hi
                exact hlent x hlt ((h4.own j m hi).2 x hmb).1
              · rw [Γput_out hiκ] at hi
                exact .inr (.inr (.inl ⟨i, m, hi, hmb⟩))
            · exact .inr (by omega)
          · exact .inl (.inr (.inr (.inr (.inl rfl))))
          · exact .inl (.inr (.inr (.inr (.inr rfl))))
        · rcases hk.2 with h5 | ⟨o, h5⟩
          · by_cases hc : lentProt w (Γout Γ H κ) k ∧ k ≠ l
            · exact hc
            · exact (h5 (hlent k hk.1 hc)).elim
          · exact hRpp k o h5
      have hl4 : ∀ ob, (w3.putObj l ob).heap[l]? = some ob := fun ob => World.putObj_heap_same (Array.getElem?_eq_some_iff.1 hl3).1
      have hre : ∀ jump : Option Code, (Instr.endRound l jump).run P w3 = .ok (.bool jump.isNone) (w3.putObj l (.loop (rec (if jump.isNone then .ready else .done) jump))) := fun jump => by
        rw [run_endRound jump hl3, hrec]
        rfl
      cases e with
      | normal =>
        cases x with
        | normal =>
          obtain ⟨H2, hout2, hless⟩ := hq3
          obtain ⟨R', Γ', k1, k2, k3, k4, k5, k6⟩ := fin none H2 hout2
          refine ⟨_, _, hre none, true, _, _, next, .ready, none, rfl, weak_R k1 hless, hl4 _, k2, fun b o hb => .inl (k3 b o (h00 b o hb)), fun o ho => ?_, fun x hx => ?_, k6, rfl, rfl, rfl⟩
          · rcases ho with ho | ⟨s, m, _, hsm, hmb⟩
            · exact k4 o ho
            · exact k1.not_own (hl4 _) (by simp) (by simp) hsm hmb
          · refine k5 x ?_
            rcases hx with hx | ⟨o, hx | ⟨s, m, _, hsm, hmb⟩⟩ | ⟨i, m, hi, hmb⟩ | hx | hx
            · exact .inl hx
            · exact .inr (.inl ⟨o, hx⟩)
            · exact .inr (.inr (.inl ⟨s, m, hsm, hmb⟩))
            · obtain ⟨m', h1, h2⟩ := Γof_blk hi hmb
              exact .inr (.inr (.inl ⟨i, m', h1, h2⟩))
            · exact .inr (.inr (.inr (.inl hx)))
            · exact .inr (.inr (.inr (.inr hx)))
        | _ => exact hu3.elim
      | ret =>
        cases x with
        | ret =>
          obtain ⟨H2, hout2, hQ⟩ := hq3
          obtain ⟨R', Γ', k1, k2, k3, k4, k5, k6⟩ := fin (some .ret) H2 hout2
          exact ⟨_, _, hre (some .ret), false, _, _, _, .done, some .ret, rfl, k1, hl4 _, k2, fun b o hb => k3 b o (h00 b o hb), k4, k5, k6, rfl, .ret, .ret, rfl, trivial, hQ⟩
        | _ => exact hu3.elim
      | exit id =>
        cases x with
        | exit id' =>
          obtain rfl : id = id' := hu3
          obtain ⟨H2, hout2, hQ⟩ := hq3
          obtain ⟨R', Γ', k1, k2, k3, k4, k5, k6⟩ := fin (some (.exit id)) H2 hout2
          exact ⟨_, _, hre (some (.exit id)), false, _, _, _, .done, some (.exit id), rfl, k1, hl4 _, k2, fun b o hb => k3 b o (h00 b o hb), k4, k5, k6, rfl, .exit id, .exit id, rfl, rfl, hQ⟩
        | _ => exact hu3.elim
      | panic ch => cases x with
        | panic q => exact hq3.elim
        | _ => exact hu3.elim
      | goto id => cases x with
        | goto id' => exact hq3.elim
        | _ => exact hu3.elim
      | outgrown => cases x <;> exact hu3.elim
    | _ => exact hu.elim
  | _ => cases x with
    | normal => exact hu.elim
    | _ => exact hq.elim

/-- THE LOOP. κ: the places of the frame's objects; V n: the frame behind n rounds; A n, H n: its slots and its objects, as the round sees them. -/
theorem XW_range (hmx : P.follows .mixedOrders = true) {g : Operand} {t : Tmp} {assign body : Code} {gf : FuncId} {caps els : List PV} (hg : rd fr g = .clo (.func gf) [] caps) (hcaps : plainL caps = true) (hgen : GenW P gf caps els) (hels : ∀ p ∈ els, p.plain = true ∧ p.flat = true)
    (hda : dstsIn N assign = true) (hdb : dstsIn N body = true) (M' : Nat) (hM' : N ≤ M') (κ : List Nat) (hκ : κ.Nodup) (V : Nat → PF) (A : Nat → List PV) (H : Nat → PF) (h0 : less B0.lo fr (V 0))
    (hview : ∀ n, n < els.length → (A n).length = N ∧ outF (V n) (tgtAt (H n) κ fun _ => false) 8 (H n) κ ∧ ∀ i, i < N → i ≠ t → vw (V n) (tgtAt (H n) κ fun _ => false) 8 ((A n).getD i .undef) (rd (V n) (.tmp i)))
    (hround : ∀ n p, els[n]? = some p → pwp P M' assign (thenP (pwp P M' body (rend B0.lo M' κ (V n) (V (n + 1)) Q)) (fun _ _ => False)) (frame0 M' ((A n).set t p) (H n)))
    (hend : Q () .normal (V els.length)) : XW P N (ECtx B0) () (.rangeFunc g #[t] assign body) Q fr := fun B a w hC ⟨R, Γ, hs⟩ => by
  have hlo := hC.1
  have hgv := hs.rd g
  rw [hg] at hgv
  generalize hu : a.eval g = u at hgv
  cases hgv with
  | clo _ uf uc _ _ l1 l2 _ r2 =>
  obtain rfl : uf = [] := by simpa using l1
  refine wr_range hu hgen.1 fun fn => ?_
  generalize hW1 : (w.alloc (.deferred (some []))).alloc (.loop (loopRec fn a #[t] assign body w.heap.size .ready none)) = W1
  have hbel : Below w.heap.size w W1 := by
    rw [← hW1]; exact (((Below.refl _ w).alloc (Nat.le_refl _) _).alloc (by simp) _)
  have hl1 : W1.heap[w.heap.size + 1]? = some (.loop (loopRec fn a #[t] assign body w.heap.size .ready none)) := by
    rw [← hW1]; have := World.alloc_heap_new (w.alloc (.deferred (some []))) (.loop (loopRec fn a #[t] assign body w.heap.size .ready none)); rwa [World.size_alloc] at this
  have hD1 : W1.heap[w.heap.size]? = some (.deferred (some [])) := by
    rw [← hW1]; exact (Below.heap_alloc _ _ _ (by simp)).trans (World.alloc_heap_new w _)
  have hw1 := weak_R hs (by rw [hlo]; exact h0)
  have hs1 := hw1.grown hbel _ (fun _ _ x => x) (fun _ _ x => .inl x)
  have hBl : ∀ b, B.Prot b → b < w.heap.size := fun b hb => Nat.lt_of_lt_of_le (hs.prot b hb) hs.kept.size
  have henv : Env P (w.heap.size + 1) els (fun b => ∃ o, R b o) (LoopJ N B a (w.heap.size + 1) w.heap.size (loopRec fn a #[t] assign body w.heap.size) R V Q) := by
    refine ⟨fun s F W b hJ hb => ?_, fun s F W W' hJ hF hsz ho ht hou => ?_, fun n F W v p Ra Γa hJ hel hv => ?_⟩
    · obtain ⟨R, Γ, fr, st, pe, k1, rfl, k3, k4, _⟩ := hJ
      exact foot_bnd k1 k3 k4 hb
    · obtain ⟨R, Γ, fr, st, pe, k1, rfl, k3, k4, k5⟩ := hJ
      exact ⟨R, Γ, fr, st, pe, foot_stay k1 hF hsz ho ht hou, rfl, (hF _ (.inr (.inr (.inr (.inl rfl))))).trans k3, (hF _ (.inr (.inr (.inr (.inr rfl))))).trans k4, k5⟩
    · obtain ⟨R', Γ', fr', st, pe, k1, rfl, k3, k4, k5, k6, rfl, rfl, rfl⟩ := hJ
      have hlt := lt_of_get? hel
      obtain ⟨v1, v2, v3⟩ := hview n hlt
      have hy : (Instr.yield (w.heap.size + 1) #[v]).run P W = .ok (.round (w.heap.size + 1) fn (a.tmps.setIfInBounds t v) assign body) W := by
        have := run_yield (P := P) (args := #[v]) k3 rfl
        simpa [loopRec] using this
      refine ⟨_, _, _, _, hy, fun c cs => ?_⟩
      obtain ⟨ret, W2, ⟨b, R2, Γ2, fr2, st2, pe2, q1, q2, q3, q4, q5, q6, q7, q8, q9⟩, hsteps⟩ := round_sound (l := w.heap.size + 1) (D := w.heap.size) (R00 := R) hmx hda hdb hM' hκ (p := p) (v := v) (Q := Q) (next := V (n + 1)) k1 ⟨by simp, fun b hb => Nat.lt_succ_of_lt (hBl b hb)⟩ rfl k3 k4 (by omega) k6 k5 v2 v1 v3 (hels p (List.mem_of_getElem? hel)) hv (by rw [hlo]; exact hround n p hel) c cs
      refine ⟨ret, W2, ⟨b, foot B R2 Γ2 (w.heap.size + 1) w.heap.size, q1, ⟨R2, Γ2, fr2, st2, pe2, q2, rfl, q3, q4, q5, q6, ?_⟩, q7, q8.mono fun x hx => ⟨hx.1, hx.2.imp_right fun ⟨o, ho⟩ => ⟨o, k5 x o ho⟩⟩⟩, hsteps⟩
      cases b with
      | true => exact q9
      | false => exact q9
  have hJ0 : LoopJ N B a (w.heap.size + 1) w.heap.size (loopRec fn a #[t] assign body w.heap.size) R V Q (some 0) (foot B (freed R Γ (V 0)) (Γof Γ (V 0)) (w.heap.size + 1) w.heap.size) W1 := by
    refine ⟨_, _, V 0, .ready, none, hs1, rfl, hl1, hD1, fun b o hb => .inl hb, fun o ho => ?_, rfl, rfl, rfl⟩
    rcases ho with ho | ⟨s, m, _, hm, hmb⟩
    · have := hs.bnd _ o ho; omega
    · have := ((hs.own s m hm).2 _ hmb).2.1; omega
  -- behind the loop
  have after : ∀ {R' : Nat → Nat → Prop} {Γ' : Nat → Option Loc} {fr' : PF} {w' : World} {rc : Loop} (rc' : Loop), Sim N B R' Γ' a w' fr' → w'.heap[w.heap.size + 1]? = some (.loop rc) → w'.heap[w.heap.size]? = some (.deferred (some [])) →
      ∃ B', ECtx B0 () B' ∧ Sim N B' R' Γ' { a with defers := { target := .collected w.heap.size, args := #[] } :: a.defers } (w'.putObj (w.heap.size + 1) (.loop rc')) fr' := by
    intro R' Γ' fr' w' rc rc' k1 k3 k4
    obtain ⟨c1, c2, c3, c4, c5, ms, hms, hDs, hm⟩ := hC
    have hlt := (Array.getElem?_eq_some_iff.1 k3).1
    refine ⟨⟨fun b => B.Prot b ∨ b = w.heap.size, w'.putObj (w.heap.size + 1) (.loop rc'), R', B.Γ0, B.lo, { target := .collected w.heap.size, args := #[] } :: B.D⟩, ⟨c1, fun b hb => .inl (c2 b hb), ?_, fun b o hb => ?_, c5, w.heap.size :: ms, ?_, by rw [hDs]; rfl, fun r hr => ?_⟩, ?_⟩
    · refine (c3.trans (k1.kept.mono c2)).trans ⟨rfl, rfl, rfl, by simp, fun k hk => World.putObj_heap_other fun e => ?_⟩
      have := hBl k (c2 k hk)
      omega
    · rcases k1.sub b o hb with h1 | h1
      · exact c4 b o h1
      · exact .inr fun hp => h1 (c2 b hp)
    · refine List.nodup_cons.2 ⟨fun hin => ?_, hms⟩
      have := hBl _ (hm _ hin).1
      omega
    · rcases List.mem_cons.1 hr with rfl | hr
      · refine ⟨.inr rfl, fun hp => ?_, (World.putObj_heap_other (by omega)).trans k4⟩
        have := hBl _ (c2 _ hp)
        omega
      · obtain ⟨h1, h2, h3⟩ := hm r hr
        refine ⟨.inl h1, h2, ?_⟩
        have hrl := hBl r h1
        exact (World.putObj_heap_other (by omega)).trans ((k1.kept.block r h1).trans h3)
    · refine k1.moved (fun b o _ => cell_putObj k3 (by simp) (by simp)) (fun i m b hi hb => World.putObj_heap_other fun e => k1.not_own k3 (by simp) (by simp) hi (e ▸ hb)) (by simp) (fun i m b hi hb hp => ?_) (fun b o hb => .inl hb) (Kept.refl _ _) (fun b hb => ?_) k1.lo k1.base rfl (by rw [k1.defers])
      · rcases hp with hp | rfl
        · exact ((k1.own i m hi).2 b hb).1 hp
        · exact k1.not_own k4 (by simp) (by simp) hi hb
      · rcases hb with hb | rfl
        · have := hBl b hb
          simp
          omega
        · simp
          omega
  refine (hgen.2 W1 uc R (fun b => ∃ o, R b o) (w.heap.size + 1) _ _ (fun b o hb => ⟨o, hb⟩) (fun b ⟨o, hb⟩ => Nat.lt_of_lt_of_le (hs.bnd b o hb) hbel.size) henv hJ0 l2 (fun i u p hu hp => ?_)).mono ?_
  · refine (r2 i u p hu hp).free (fun b o hb => ⟨hb, cell?_of_heap (hbel.block b (hs.bnd b o hb))⟩) ?_
    have := plainL_names hcaps
    refine List.eq_nil_iff_forall_not_mem.2 fun j hj => ?_
    have := mem_namesL.2 ⟨p, List.mem_of_getElem? hp, hj⟩
    rw [plainL_names hcaps] at this; cases this
  · rintro e w' ⟨hv, s, F', hs', R', Γ', fr', st, pe, k1, _, k3, k4, _, _, hm⟩
    refine ⟨hv, st, pe, k3, ?_⟩
    obtain ⟨B', hC', hs2⟩ := after (loopRec fn a #[t] assign body w.heap.size .exhausted pe) k1 k3 k4
    rcases hs' with rfl | rfl
    · obtain ⟨rfl, rfl, rfl⟩ := hm
      exact ⟨by simp, (), B', hC', R', Γ', _, .normal, hs2, trivial, hend⟩
    · obtain ⟨rfl, c, x, rfl, hjx, hQ⟩ := hm
      refine ⟨by simp, ?_⟩
      cases c with
      | ret => cases x with
        | ret => exact ⟨(), B', hC', R', Γ', _, .ret, hs2, trivial, hQ⟩
        | _ => exact hjx.elim
      | exit id => cases x with
        | exit id' => exact ⟨(), B', hC', R', Γ', _, .exit id', hs2, hjx, hQ⟩
        | _ => exact hjx.elim
      | _ => cases x <;> exact hjx.elim
end
end Go.Qg

/-! A function that defers a closure which may recover; such a closure. No condition: definitions, and lemmas that hold of every program. -/
namespace Go.Qg
open Go.RowKit (Below)

/-- The frame's mode when its deferred calls are made: it returns, or it panics with v. -/
def modeOf : Option Value → FrameMode
  | none => .returning
  | some v => .panicking [{ v := v, recovered := false }]
/-- The same behind a deferred call that has recovered. -/
def modeRec : Option Value → FrameMode
  | none => .returning
  | some v => .panicking [{ v := v, recovered := true }]

/-- THE CONTRACT OF A DEFERRED CLOSURE that recovers. rc: what the function panics with, if it does. -/
def DefW (P : Program) (f : FuncId) (caps : List PV) (H : PF) (rc : Option PV) (Q : PF → Prop) : Prop :=
  (∀ (vs : Array Value) (w : World), (callFunc f vs).run P w = .ok (.enter f vs) w) ∧
  ∀ (w : World) (vs : List Value) (R : Nat → Nat → Prop) (Γ : Nat → Option Loc) (Prot : Nat → Prop) (rv : Option Value), (∀ b o, R b o → Prot b) → Sim 0 ⟨Prot, w, R, Γ, 0, []⟩ R Γ noAct w H → vs.length = caps.length →
    (∀ (i : Nat) (u : Value) (p : PV), vs[i]? = some u → caps[i]? = some p → Rep w R Γ u p) → (match rv, rc with | none, none => True | some v, some p => Rep w R Γ v p | _, _ => False) →
    CallsD P f vs.toArray (modeOf rv) w fun e u' w' => (∃ v, e = .returned v) ∧ u' = modeRec rv ∧ ∃ R' Γ' H2, Q H2 ∧ Sim 0 ⟨Prot, w, R, Γ, 0, []⟩ R' Γ' noAct w' H2 ∧ ∀ q ∈ H2, q.isObj = true

/-- The objects that go back to the caller, in one numbering. -/
def leavesH (M k : Nat) (fr : PF) (H2 : PF) : Prop := outF fr (tgtAt H2 ((List.range k).map (M + ·)) fun s => !((List.range k).map (M + ·)).contains s) 8 H2 ((List.range k).map (M + ·))

section
variable {P : Program} {N M M' : Nat} {B : Base} {a : Act} {w w' : World} {R : Nat → Nat → Prop} {Γ : Nat → Option Loc} {fr : PF}

theorem range_nodup (M k : Nat) : ((List.range k).map (M + ·)).Nodup := List.Pairwise.map _ (fun x y h => by simpa using h) List.nodup_range
theorem range_get (M : Nat) {k j : Nat} (h : j < k) : ((List.range k).map (M + ·))[j]? = some (M + j) := by
  rw [List.getElem?_map, List.getElem?_range h]; rfl

/-- A DEFERRED CLOSURE's CONTRACT FROM ITS BODY: it recovers first. -/
theorem def_of (hm : P.follows .mixedOrders = true) {f : FuncId} {fn : Func} {id : Nat} {o : Oper} {c : Code} (hf : P.funcs[f]? = some fn) (hname : (fn.name == "runtime.NumGoroutine") = false) (hb : fn.body = some (.seq (.region id #[o] false) c)) {d : Tmp} {ats : Array TypeId} (ho : o.op = .call { callee := .builtin .recover, args := #[], argTypes := ats }) (hg : o.guard = none) (hdst : o.dst = some d) (hrs : fn.results = #[]) (hn : fn.ntmps = N) (hdN : d < N) (hd : dstsIn N c = true)
    {caps : List PV} {H : PF} {rc : Option PV} {Q : PF → Prop} (hrc : ∀ p, rc = some p → p.plain = true ∧ p.flat = true) (M : Nat) (hargs : caps.length ≤ N) (hM : N ≤ M) (hfree : (frame0 M caps H)[d]? = some .undef)
    (h : pwp P M c (fun x fr => (x = .normal ∨ x = .ret) ∧ ∃ H2, leavesH M H.length fr H2 ∧ Q H2) ((frame0 M caps H).set d (rc.getD (.v .nilIface)))) : DefW P f caps H rc Q := by
  subst hn
  refine ⟨fun vs w => ?_, fun w vs R Γ Prot rv hRp h0 hl hrep hrv => ?_⟩
  · simp only [callFunc, Sem.run_bind, run_program, Result.andThen_ok, hf, hname, hb]
    rfl
  · refine callsD_of_wpS hf hb fun c₀ cs hmode => ?_
    have hsim := h0.enter hl hrep hargs hM
    generalize hact : ({ tmps := vs.toArray ++ Array.replicate (fn.ntmps - vs.toArray.size) undef, defers := [] } : Act) = a0 at hsim
    have hact' : ({ tmps := vs.toArray ++ Array.replicate (fn.ntmps - vs.toArray.size) undef, defers := [] } : Act) = a0 := hact
    -- what recover gives
    have hex : (execOp a0.eval o).run P w = .ok .recover w := by
      simp only [execOp, ho, resolve, Sem.run_bind, Sem.run_pure, Result.andThen_ok, invoke, builtin, List.map_toArray, List.map_nil]
    have hwant : Region.wanted o (yielded #[o] a0.tmps) = true := by simp [Region.wanted, hg]
    have hclear : ∀ p, pclear (some d) p (frame0 M caps H) = true := fun p => by unfold pclear; simp only [hfree]; rfl
    have cont : ∀ (u : Value) (p : PV) (u' : FrameMode), Rep w R (fun i => if M ≤ i then Γ (i - M) else none) u p → p = rc.getD (.v .nilIface) → u' = modeRec rv →
        c.wpS P (bodyPostS P fn c₀ cs fun e u' w' => (∃ v, e = .returned v) ∧ u' = modeRec rv ∧ ∃ R' Γ' H2, Q H2 ∧ Sim 0 ⟨Prot, w, R, Γ, 0, []⟩ R' Γ' noAct w' H2 ∧ ∀ q ∈ H2, q.isObj = true) (a0.put o.dst u) ({ c₀ with mode := u' } :: cs) w := by
      intro u p u' hu hp hu'
      subst hp hu'
      have hs1 := hsim.put (some d) (u := u) (fun t ht => by obtain rfl := Option.some.inj ht; exact hdN) (hclear _) hu
      rw [hdst]
      refine wpS_of_wp (wp_mono (wp_of_wr (pwp_sound hm rfl c _ _ _ w hd hs1.toE h)) fun e a' w' ⟨R', Γ', fr, x, hs, hux, hx, H2, hout, hQ⟩ => ?_)
      have fin : a'.defers = [] ∧ ∃ u', ({ c₀ with mode := modeRec rv } :: cs : List Frame) = { c₀ with mode := u' } :: cs ∧ ∃ v, (results fn a'.tmps).run P w' = .ok v w' ∧ (∃ v', Ending.returned v = .returned v') ∧ u' = modeRec rv ∧ ∃ R' Γ' H2, Q H2 ∧ Sim 0 ⟨Prot, w, R, Γ, 0, []⟩ R' Γ' noAct w' H2 ∧ ∀ q ∈ H2, q.isObj = true := by
        refine ⟨hs.defers, _, rfl, .tuple #[], by simp [results, hrs], ⟨_, rfl⟩, rfl, ?_⟩
        obtain ⟨h1, _⟩ := hs.leave hout (range_nodup M _) (fun s hs => by have := List.contains_iff_mem.2 hs; show (!_) = false; rw [this]; rfl)
        refine ⟨_, _, H2, hQ, h1.rebase fun j l hjl => ?_, fun q hq => ?_⟩
        · obtain ⟨⟨p, hp, _⟩, _⟩ := h0.own j l hjl
          have hj := lt_of_get? hp
          have hb : (base0 Prot w R Γ M).Γ0 (M + j) = some l := by
            simp only [base0]
            rw [if_pos (by omega), Nat.add_sub_cancel_left]; exact hjl
          obtain ⟨l1, e1, e2⟩ := hs.base (M + j) l (Nat.le_add_right _ _) hb
          obtain ⟨l2, e3, e4⟩ := Γout_le hs hout (range_get M hj) e1
          exact ⟨l2, e3, Loc.le_trans e2 e4⟩
        · obtain ⟨i, hi⟩ := List.mem_iff_getElem?.1 hq
          obtain ⟨s, p, _, _, hbare, _⟩ := outF_get hout i q hi
          cases q <;> first | rfl | cases hbare
      rcases hx with rfl | rfl
      · cases e with
        | normal => exact fin
        | _ => exact hux.elim
      · cases e with
        | ret => exact fin
        | _ => exact hux.elim
    refine wpS_seq (wpS_region ?_)
    have hr1 : List.range (#[o] : Array Oper).size = [0] := rfl
    rw [hr1]
    have hcs : ∀ (v : Value) (cs' : List Frame), c.wpS P (bodyPostS P fn c₀ cs fun e u' w' => (∃ v, e = .returned v) ∧ u' = modeRec rv ∧ ∃ R' Γ' H2, Q H2 ∧ Sim 0 ⟨Prot, w, R, Γ, 0, []⟩ R' Γ' noAct w' H2 ∧ ∀ q ∈ H2, q.isObj = true) (a0.put o.dst v) cs' w →
        wpOpsS P #[o] (Exit.thenS (c.wpS P (bodyPostS P fn c₀ cs fun e u' w' => (∃ v, e = .returned v) ∧ u' = modeRec rv ∧ ∃ R' Γ' H2, Q H2 ∧ Sim 0 ⟨Prot, w, R, Γ, 0, []⟩ R' Γ' noAct w' H2 ∧ ∀ q ∈ H2, q.isObj = true)) (bodyPostS P fn c₀ cs fun e u' w' => (∃ v, e = .returned v) ∧ u' = modeRec rv ∧ ∃ R' Γ' H2, Q H2 ∧ Sim 0 ⟨Prot, w, R, Γ, 0, []⟩ R' Γ' noAct w' H2 ∧ ∀ q ∈ H2, q.isObj = true)) [] (a0.put o.dst v) cs' w := fun v cs' h => h
    simp only [wpOpsS, List.getElem?_toArray, List.getElem?_cons_zero, hwant, if_true, hex]
    cases rv with
    | none =>
      cases rc with
      | some p => exact hrv.elim
      | none =>
        have hrec : recoverD (c₀ :: cs) = none := by simp [recoverD, hmode, modeOf]
        rw [hrec]
        have := cont .nilIface (.v .nilIface) c₀.mode (.v _ rfl) rfl (by rw [hmode]; rfl)
        exact this
    | some v =>
      cases rc with
      | none => exact hrv.elim
      | some p =>
        have hrec : recoverD (c₀ :: cs) = some (v, { c₀ with mode := .panicking [{ v := v, recovered := true }] } :: cs) := by simp [recoverD, hmode, modeOf]
        rw [hrec]
        refine cont v p _ ?_ rfl rfl
        obtain ⟨hp1, hp2⟩ := hrc p rfl
        have := Rep.ren (π := fun i => i) (R' := R) (w' := w) (Γ' := fun i => if M ≤ i then Γ (i - M) else none) (show Rep w R Γ v p from hrv) (.inl hp2) (fun j hj => by rw [plain_names hp1] at hj; cases hj)
        rwa [ren_plain hp1] at this
end
end Go.Qg

/-! A function that defers one closure and then does its work: its contract from its body. No condition: definitions, and lemmas that hold of every program. -/
namespace Go.Qg
open Go.RowKit (Below)

/-- The end of a function with a deferred closure: rc: what it panics with. k: how many objects were lent to it. -/
def dend (P : Program) (M' k : Nat) (rs : List ResultVar) (gf : FuncId) (caps : List PV) (Q : Out → Prop) (rc : Option PV) (g : PF) : Prop :=
  ∃ ιd Hd capsd, ιd.Nodup ∧ outF g (tgtAt Hd ιd fun _ => false) 8 Hd ιd ∧ vwAll (vw g (tgtAt Hd ιd fun _ => false) 8) capsd (renL (M' + ·) caps) ∧
    DefW P gf capsd Hd rc fun H3 => H3.length = ιd.length ∧ ∃ x r H2 news, presults P (back g ιd H3) rs = some x ∧ leaves M' k (back g ιd H3) x r H2 news ∧ Q (.ret r H2)
def dpost (P : Program) (M' k : Nat) (rs : List ResultVar) (gf : FuncId) (caps : List PV) (Q : Out → Prop) : PX → PF → Prop
  | .ret, g | .normal, g => dend P M' k rs gf caps Q none g
  | .panic p, g => p.plain = true ∧ p.flat = true ∧ dend P M' k rs gf caps Q (some p) g
  | _, _ => False

/-- Where the deferring happens: the frame fr, before the operation that defers x. -/
def dmid (P : Program) (N M k : Nat) (rs : List ResultVar) (c : Code) (x : Operand) (Q : Out → Prop) (fr : PF) : Prop :=
  ∃ gf ps caps M' news H A, rd fr x = .clo (.func gf) [] ps ∧ N ≤ M' ∧ ((List.range k).map (M + ·) ++ news).Nodup ∧ A.length = N ∧
    outF fr (tgtAt H ((List.range k).map (M + ·) ++ news) fun _ => false) 8 H ((List.range k).map (M + ·) ++ news) ∧
    (∀ i, i < N → vw fr (tgtAt H ((List.range k).map (M + ·) ++ news) fun _ => false) 8 (A.getD i .undef) (rd fr (.tmp i))) ∧
    vwAll (vw fr (tgtAt H ((List.range k).map (M + ·) ++ news) fun _ => false) 8) caps ps ∧ (∀ p ∈ caps, p.flat = true) ∧
    pwp P M' c (dpost P M' k rs gf caps Q) (frame0 M' A H)

section
variable {P : Program} {N M M' : Nat} {B : Base} {a a' : Act} {w w' : World} {R : Nat → Nat → Prop} {Γ : Nat → Option Loc} {fr : PF}

/-- THE CONTRACT OF A FUNCTION THAT DEFERS A CLOSURE, FROM ITS BODY. -/
theorem callW_ofD (hm : P.follows .mixedOrders = true) {f : FuncId} {fn : Func} {id : Nat} {o1 o2 : Oper} {c0 c2 : Code} {x : Operand} {ats : Array TypeId} (hf : P.funcs[f]? = some fn) (hname : (fn.name == "runtime.NumGoroutine") = false) (hb : fn.body = some (.seq c0 (.seq (.region id #[o1, o2] false) c2)))
    (ho : o2.op = .defer { callee := .value x, args := #[], argTypes := ats }) (hg : o2.guard = none) (hdst : o2.dst = none) {rs : List ResultVar} (hrs : fn.results.toList = rs) (hn : fn.ntmps = N) (hd0 : dstsIn N c0 = true) (hd1 : ∀ d, o1.dst = some d → d < N) (hd2 : dstsIn N c2 = true) {args : List PV} {H : PF} {Q : Out → Prop}
    (M : Nat) (hargs : args.length ≤ N) (hM : N ≤ M) (h : pwp P M c0 (thenP (pops P M [o1, o2] (dmid P N M H.length rs c2 x Q) (fun _ _ => False) [o1]) (fun _ _ => False)) (frame0 M args H)) : CallW P f args H Q := by
  subst hrs hn
  refine ⟨fun vs w => ?_, fun w vs R Γ Prot hRp h0 hl hrep => ?_⟩
  · simp only [callFunc, Sem.run_bind, run_program, Result.andThen_ok, hf, hname, hb]
    rfl
  · have hsim := h0.enter hl hrep hargs hM
    refine calls_of_wr hf hb (wr_seq (wr_mono (pwp_sound (ro := none) hm rfl c0 _ _ _ w hd0 hsim.toE h) fun e a0 w0 ⟨R0, Γ0, fr0, x0, hs0, hu0, hq0⟩ => ?_))
    cases x0 with
    | normal =>
      cases e with
      | normal =>
        refine wr_seq (wr_region ?_)
        have hr1 : List.range (#[o1, o2] : Array Oper).size = [0, 1] := rfl
        rw [hr1]
        have hN : ∀ o ∈ [o1, o2], ∀ d, o.dst = some d → d < fn.ntmps := fun o ho d hd => by
          rcases List.mem_cons.1 ho with rfl | ho
          · exact hd1 d hd
          · obtain rfl := List.mem_singleton.1 ho
            rw [hdst] at hd; cases hd
        refine op_sound (all := [o1, o2]) (K := pops P M [o1, o2] (dmid P fn.ntmps M H.length fn.results.toList c2 x Q) (fun _ _ => False) []) (Kp := fun _ _ => False) hs0.toE rfl hN rfl (fun _ _ _ _ _ _ _ _ _ hk => hk.elim) (fun _ _ hq => hq.elim) (k := 0) (o := o1) rfl hq0 (K' := fun a' w' => ∃ fr', SimE fn.ntmps (base0 Prot w R Γ M) a' w' fr' ∧ dmid P fn.ntmps M H.length fn.results.toList c2 x Q fr') (fun a' w' fr' h1 h2 => ⟨fr', h1, h2⟩) [1] fun a1 w1 hq1 => ?_
        obtain ⟨fr1, ⟨R1, Γ1, hs1⟩, gf, ps, caps, M', news, Ho, A, hx, hM', hκ, hA, hout, hAv, hcaps, hflat, hrest⟩ := hq1
        have hgn : ∀ s ∈ (List.range H.length).map (M + ·) ++ news, (fun _ : Nat => false) s = false := fun _ _ => rfl
        generalize hκe : (List.range H.length).map (M + ·) ++ news = κ at hκ hout hAv hcaps hgn
        -- what is deferred
        have hv := hs1.rd x
        rw [hx] at hv
        generalize hux : a1.eval x = ux at hv
        cases hv with
        | clo _ uf uc _ _ l1 l2 _ r2 =>
        obtain rfl : uf = [] := by simpa using l1
        have hex : (execOp a1.eval o2).run P w1 = .ok (.defer { target := .fn (.func gf) uc.toArray, args := #[] }) w1 := by
          simp only [execOp, ho, resolve, Deferred.ofValue, hux]
          simp [go_sem]
        refine OpR_wp (K := fun a' w' => a' = { a1 with defers := [{ target := .fn (.func gf) uc.toArray, args := #[] }] } ∧ w' = w1) (ops := #[o1, o2]) (o := o2) rfl (by simp [Region.wanted, hg]) (.inl rfl) (fun _ _ hq => hq.elim) ?_ [] fun a' w' ⟨ha', hw'⟩ => RegR_nil ?_
        · unfold Oper.wp
          rw [hex, Oper.upon_defer]
          refine ⟨?_, rfl⟩
          rw [hdst, hs1.defers]
          rfl
        · subst ha' hw'
          obtain ⟨hlend, hRp1⟩ := hs1.lend hout hκ hgn
          obtain ⟨_, hview⟩ := hs1.leave hout hκ hgn
          have hR1 : ∀ b o, freedAt R1 Γ1 (fun _ => false) b o → R1 b o := fun b o hb => by
            rcases hb with hb | ⟨s, m, hg, _⟩
            · exact hb
            · cases hg
          have hent := hlend.enter (N := fn.ntmps) (M := M') (vs := a1.tmps.toList) (args := A) (by simp [hA, hs1.size]) (fun i u q hu hq => by
            have hlt := lt_of_get? hq
            rw [hA] at hlt
            have hqA : A.getD i .undef = q := by simp [List.getD, hq]
            have h1 := hAv i hlt
            rw [hqA] at h1
            refine hview q _ u h1 ?_
            have h2 := hs1.rd (.tmp i)
            rw [Array.getElem?_toList] at hu
            have : a1.eval (.tmp i) = u := by simp [Act.eval, hu]
            rwa [this] at h2) (by simp [hA]) hM'
          have hact : ({ tmps := a1.tmps.toList.toArray ++ Array.replicate (fn.ntmps - a1.tmps.toList.toArray.size) undef, defers := [] } : Act) = { tmps := a1.tmps, defers := [] } := by
            have e1 : a1.tmps.toList.toArray = a1.tmps := Array.toArray_toList
            rw [e1, hs1.size]
            simp
          rw [hact] at hent
          have hs2 : Sim fn.ntmps ⟨Prot, w, R, fun i => if M' ≤ i then Γout Γ1 Ho κ (i - M') else none, M', [{ target := .fn (.func gf) uc.toArray, args := #[] }]⟩ (freedAt R1 Γ1 fun _ => false) (fun i => if M' ≤ i then Γout Γ1 Ho κ (i - M') else none) { a1 with defers := [{ target := .fn (.func gf) uc.toArray, args := #[] }] } w' (frame0 M' A Ho) := by
            refine hent.moved (fun b o _ => rfl) (fun i l b hi hb => rfl) (Nat.le_refl _) (fun i l b hi hb hp => ?_) (fun b o hb => ?_) hs1.kept hs1.prot hM' (fun j l hj hl => ⟨l, hl, Loc.le_refl l⟩) rfl rfl
            · skip
              split at hi
              · obtain ⟨s, m, _, hm', hmb⟩ := Γout_blk hi hb
                exact ((hs1.own s m hm').2 b hmb).1 hp
              · cases hi
            · exact hs1.sub b o (hR1 b o hb)
          refine wr_mono (pwp_sound (ro := none) hm rfl c2 _ _ _ w' hd2 hs2.toE hrest) fun e a2 w2 ⟨R2, Γ2, g, x2, hs3, hu, hq⟩ => ?_
          -- what was captured
          have hcap : ∀ (i : Nat) (u : Value) (q : PV), uc[i]? = some u → (renL (M' + ·) caps)[i]? = some q → Rep w2 R2 Γ2 u q := fun i u q hu hq => by
            rw [renL_get] at hq
            simp only [Option.map_eq_some_iff] at hq
            obtain ⟨q0, hq0, rfl⟩ := hq
            obtain ⟨p0, hp0, hv0⟩ := vwAll_get hcaps i q0 hq0
            refine (hview q0 p0 u hv0 (r2 i u p0 hu hp0)).ren (.inl (hflat q0 (List.mem_of_getElem? hq0))) fun j _ l hl => ?_
            exact hs3.base (M' + j) l (Nat.le_add_right _ _) (by dsimp only; rw [if_pos (by omega), Nat.add_sub_cancel_left]; exact hl)
          have hlc : uc.length = (renL (M' + ·) caps).length := by rw [renL_length, vwAll_length hcaps]; exact l2
          -- the end
          have fin : ∀ (rv : Option Value) (rc : Option PV), (match rv, rc with | none, none => True | some v, some p => p.plain = true ∧ p.flat = true ∧ Rep w2 R2 Γ2 v p | _, _ => False) → dend P M' H.length fn.results.toList gf caps Q rc g → LeavesC P fn a2.tmps (Left Prot w R Γ Q) a2.defers (modeOf rv) w2 := by
            rintro rv rc hrv ⟨ιd, Hd, capsd, hιd, houtd, hcapsd, hdw, hdc⟩
            have hgd : ∀ s ∈ ιd, (fun _ : Nat => false) s = false := fun _ _ => rfl
            obtain ⟨hlend3, hRp3⟩ := hs3.lend houtd hιd hgd
            obtain ⟨_, hview3⟩ := hs3.leave houtd hιd hgd
            rw [hs3.defers]
            refine ⟨by cases rv <;> simp [modeOf], .inr ⟨.func gf, uc.toArray, gf, uc.toArray, rfl, ?_, ?_⟩⟩
            · simp [invoke, go_sem, hdw]
            · refine (hdc w2 uc _ _ _ rv hRp3 hlend3 ?_ (fun i u q hu hq => ?_) ?_).mono ?_
              · rw [hlc, vwAll_length hcapsd]
              · obtain ⟨p, hp, hv⟩ := vwAll_get hcapsd i q hq
                exact hview3 q p u hv (hcap i u p hu hp)
              · cases rv with
                | none => cases rc with
                  | none => trivial
                  | some p => exact hrv.elim
                | some v => cases rc with
                  | none => exact hrv.elim
                  | some p =>
                    obtain ⟨hp1, hp2, hr⟩ := hrv
                    have := Rep.ren (π := fun i => i) (R' := freedAt R2 Γ2 fun _ => false) (w' := w2) (Γ' := Γout Γ2 Hd ιd) hr (.inl hp2) (fun j hj => by rw [plain_names hp1] at hj; cases hj)
                    rwa [ren_plain hp1] at this
              · rintro e u' w3 ⟨⟨v, rfl⟩, rfl, R3, Γ3, H3, ⟨hl3, xr, r, H2, news2, hpr, hlv, hQ⟩, hs4, hobj⟩
                have hset : settle (modeRec rv) = .returning := by cases rv <;> rfl
                show LeavesC P fn a2.tmps _ [] (settle (modeRec rv)) w3
                rw [hset]
                obtain ⟨hm1, _⟩ := hs3.merge (news := []) houtd hs4 (by simpa using hιd) (by simpa using hl3) (fun s hs => by cases hs) (.inl fun _ => rfl) hobj
                have eback : placeAll ((ιd ++ []).getD · 0) (ιd ++ []) H3 g = back g ιd H3 := by simp only [List.append_nil]; rfl
                rw [eback] at hm1
                obtain ⟨v, hv, hrv⟩ := presults_sound (P := P) hm1 fn hpr
                refine ⟨v, hv, ?_⟩
                obtain ⟨hn2, hout2, hv2⟩ := hlv
                obtain ⟨h1, h2⟩ := hm1.leave hout2 hn2 (fun s hs => by have := List.contains_iff_mem.2 hs; show (!_) = false; rw [this]; rfl)
                refine ⟨_, _, .inl ⟨v, r, H2, rfl, hQ, h2 r xr v hv2 hrv, h1.rebase fun j l hjl => ?_, fun q hq => ?_⟩⟩
                · obtain ⟨⟨p, hp, _⟩, _⟩ := h0.own j l hjl
                  have hj := lt_of_get? hp
                  have hb : (base0 Prot w R Γ M).Γ0 (M + j) = some l := by
                    simp only [base0]
                    rw [if_pos (by omega), Nat.add_sub_cancel_left]; exact hjl
                  obtain ⟨l1, e1, e2⟩ := hs1.base (M + j) l (Nat.le_add_right _ _) hb
                  have hκ1 : κ[j]? = some (M + j) := by
                    rw [← hκe, List.getElem?_append_left (by simpa using hj)]; exact range_get M hj
                  obtain ⟨l2, e3, e4⟩ := Γout_le hs1 hout hκ1 e1
                  obtain ⟨l3, e5, e6⟩ := hm1.base (M' + j) l2 (Nat.le_add_right _ _) (by dsimp only; rw [if_pos (by omega), Nat.add_sub_cancel_left]; exact e3)
                  have hκ2 : ((List.range H.length).map (M' + ·) ++ news2)[j]? = some (M' + j) := by
                    rw [List.getElem?_append_left (by simpa using hj)]; exact range_get M' hj
                  obtain ⟨l4, e7, e8⟩ := Γout_le hm1 hout2 hκ2 e5
                  exact ⟨l4, e7, Loc.le_trans e2 (Loc.le_trans e4 (Loc.le_trans e6 e8))⟩
                · obtain ⟨i, hi⟩ := List.mem_iff_getElem?.1 hq
                  obtain ⟨s, p, _, _, hbare, _⟩ := outF_get hout2 i q hi
                  cases q <;> first | rfl | cases hbare
          cases e with
          | ret => cases x2 with
            | ret => exact fin none none trivial hq
            | _ => exact hu.elim
          | normal => cases x2 with
            | normal => exact fin none none trivial hq
            | _ => exact hu.elim
          | panic ch => cases x2 with
            | panic p =>
              obtain ⟨v, rfl, hrv⟩ := hu
              obtain ⟨hp1, hp2, hq⟩ := hq
              exact fin (some v) (some p) ⟨hp1, hp2, hrv⟩ hq
            | _ => exact hu.elim
          | exit id => cases x2 with
            | exit id' => exact hq.elim
            | _ => exact hu.elim
          | goto id => cases x2 with
            | goto id' => exact hq.elim
            | _ => exact hu.elim
          | outgrown => cases x2 <;> exact hu.elim
      | _ => exact hu0.elim
    | _ => exact hq0.elim
end
end Go.Qg

/-! Deferred closures and the functions that defer them: the ends of their bodies. No condition: definitions, and lemmas that hold of every program. -/
namespace Go.Qg

/-- What the body of a deferred closure comes to. -/
def dleaves (M k : Nat) (Q : PF → Prop) (x : PX) (fr : PF) : Prop := (x = .normal ∨ x = .ret) ∧ ∃ H2, leavesH M k fr H2 ∧ Q H2
theorem dleaves_n {M k : Nat} {Q : PF → Prop} {fr : PF} (H2 : PF) (h : outF fr (tgtAt H2 ((List.range k).map (M + ·)) fun s => !((List.range k).map (M + ·)).contains s) 8 H2 ((List.range k).map (M + ·))) (hq : Q H2) : dleaves M k Q .normal fr := ⟨.inl rfl, H2, h, hq⟩
theorem dleaves_r {M k : Nat} {Q : PF → Prop} {fr : PF} (H2 : PF) (h : outF fr (tgtAt H2 ((List.range k).map (M + ·)) fun s => !((List.range k).map (M + ·)).contains s) 8 H2 ((List.range k).map (M + ·))) (hq : Q H2) : dleaves M k Q .ret fr := ⟨.inr rfl, H2, h, hq⟩

/-- What the first slots read. -/
def slots : Nat → Nat → PF → List PV
  | _, 0, _ => []
  | i, n + 1, [] => .undef :: slots (i + 1) n []
  | i, n + 1, p :: fr => rdAt i p :: slots (i + 1) n fr
theorem slots_get : ∀ (n i : Nat) (fr : PF) (j : Nat), j < n → (slots i n fr)[j]? = some (match fr[j]? with | some p => rdAt (i + j) p | none => .undef)
  | n + 1, i, [], 0, _ => by simp [slots]
  | n + 1, i, p :: fr, 0, _ => by simp [slots]
  | n + 1, i, [], j + 1, h => by
    simp only [slots, List.getElem?_cons_succ]
    rw [slots_get n (i + 1) [] j (by omega)]; simp
  | n + 1, i, p :: fr, j + 1, h => by
    simp only [slots, List.getElem?_cons_succ]
    rw [slots_get n (i + 1) fr j (by omega)]
    rw [show i + 1 + j = i + (j + 1) from by omega]
theorem slots_vw {fr : PF} {T : Tgt} {d N : Nat} {A : List PV} (h : vwAll (vw fr T d) A (slots 0 N fr)) : ∀ i, i < N → vw fr T d (A.getD i .undef) (rd fr (.tmp i)) := fun i hi => by
  have h1 := slots_get N 0 fr i hi
  have hl : (slots 0 N fr).length = A.length := (vwAll_length h).symm
  have hlt : i < A.length := by rw [← hl]; exact lt_of_get? h1
  obtain ⟨p, h2, h3⟩ := vwAll_get h i _ (List.getElem?_eq_getElem hlt)
  rw [h1] at h2
  have e : A.getD i .undef = A[i] := by simp [List.getD, List.getElem?_eq_getElem hlt]
  rw [e, show rd fr (.tmp i) = p from by
    rw [Nat.zero_add] at h2
    have h2 := Option.some.inj h2
    rw [← h2]; rfl]
  exact h3

/-- A deferred closure's contract from its body. -/
theorem def_ofL {P : Program} {N : Nat} (hm : P.follows .mixedOrders = true) {f : FuncId} {fn : Func} {id : Nat} {o : Oper} {c : Code} (hf : P.funcs[f]? = some fn) (hname : (fn.name == "runtime.NumGoroutine") = false) (hb : fn.body = some (.seq (.region id #[o] false) c)) {d : Tmp} {ats : Array TypeId} (ho : o.op = .call { callee := .builtin .recover, args := #[], argTypes := ats }) (hg : o.guard = none) (hdst : o.dst = some d) (hrs : fn.results = #[]) (hn : fn.ntmps = N) (hdN : d < N) (hd : dstsIn N c = true)
    {caps : List PV} {H : PF} {rc : Option PV} {Q : PF → Prop} (hrc : ∀ p, rc = some p → p.plain = true ∧ p.flat = true) (M : Nat) (hargs : caps.length ≤ N) (hM : N ≤ M) (hfree : (frame0 M caps H)[d]? = some .undef)
    (h : pwp P M c (dleaves M H.length Q) ((frame0 M caps H).set d (rc.getD (.v .nilIface)))) : DefW P f caps H rc Q :=
  def_of hm hf hname hb ho hg hdst hrs hn hdN hd hrc M hargs hM hfree h

/-- The end of a function that defers a closure. -/
theorem dend_of {P : Program} {M' k : Nat} {rs : List ResultVar} {gf : FuncId} {caps : List PV} {Q : Out → Prop} {rc : Option PV} {g : PF} {H3 : PF} {x : PV} (ιd : List Nat) (Hd : PF) (capsd : List PV) (hιd : ιd.Nodup) (ho : outF g (tgtAt Hd ιd fun _ => false) 8 Hd ιd) (hc : vwAll (vw g (tgtAt Hd ιd fun _ => false) 8) capsd (renL (M' + ·) caps))
    (hd : DefW P gf capsd Hd rc fun H => H = H3) (hl : H3.length = ιd.length) (hx : presults P (back g ιd H3) rs = some x) (r : PV) (H2 : PF) (news : List Nat) (hlv : leaves M' k (back g ιd H3) x r H2 news) (hq : Q (.ret r H2)) : dend P M' k rs gf caps Q rc g := by
  refine ⟨ιd, Hd, capsd, hιd, ho, hc, hd.1, fun w vs R Γ Prot rv h1 h2 h3 h4 h5 => (hd.2 w vs R Γ Prot rv h1 h2 h3 h4 h5).mono ?_⟩
  rintro e u' w' ⟨a1, a2, R', Γ', H, rfl, a3⟩
  exact ⟨a1, a2, R', Γ', H, ⟨hl, x, r, H2, news, hx, hlv, hq⟩, a3⟩

theorem dpost_n {P : Program} {M' k : Nat} {rs : List ResultVar} {gf : FuncId} {caps : List PV} {Q : Out → Prop} {g : PF} (h : dend P M' k rs gf caps Q none g) : dpost P M' k rs gf caps Q .normal g := h
theorem dpost_r {P : Program} {M' k : Nat} {rs : List ResultVar} {gf : FuncId} {caps : List PV} {Q : Out → Prop} {g : PF} (h : dend P M' k rs gf caps Q none g) : dpost P M' k rs gf caps Q .ret g := h
theorem dpost_p {P : Program} {M' k : Nat} {rs : List ResultVar} {gf : FuncId} {caps : List PV} {Q : Out → Prop} {g : PF} {p : PV} (h1 : p.plain = true) (h2 : p.flat = true) (h : dend P M' k rs gf caps Q (some p) g) : dpost P M' k rs gf caps Q (.panic p) g := ⟨h1, h2, h⟩

theorem dmid_of {P : Program} {N M k : Nat} {rs : List ResultVar} {c : Code} {x : Operand} {Q : Out → Prop} {fr : PF} {gf : FuncId} {ps : List PV} (caps : List PV) (M' : Nat) (news : List Nat) (H A : PF) (hx : rd fr x = .clo (.func gf) [] ps) (hM : N ≤ M') (hn : ((List.range k).map (M + ·) ++ news).Nodup) (hA : A.length = N)
    (ho : outF fr (tgtAt H ((List.range k).map (M + ·) ++ news) fun _ => false) 8 H ((List.range k).map (M + ·) ++ news))
    (hv : vwAll (vw fr (tgtAt H ((List.range k).map (M + ·) ++ news) fun _ => false) 8) A (slots 0 N fr))
    (hc : vwAll (vw fr (tgtAt H ((List.range k).map (M + ·) ++ news) fun _ => false) 8) caps ps) (hf : ∀ p ∈ caps, p.flat = true)
    (h : pwp P M' c (dpost P M' k rs gf caps Q) (frame0 M' A H)) : dmid P N M k rs c x Q fr := ⟨gf, ps, caps, M', news, H, A, hx, hM, hn, hA, ho, slots_vw hv, hc, hf, h⟩
end Go.Qg

/-! Code with yields or range loops: forms for reckoning. No condition: definitions, and lemmas that hold of every program. -/
namespace Go.Qg

/-- A round comes back to the loop's head. -/
def againX {σ ι : Type} (M : Nat) (H : σ → PF) (J : σ → ι) (I : σ → Prop) (μ : σ → Nat) (s : σ) (i : ι) (fr : PF) : Prop := ∃ s', I s' ∧ μ s' < μ s ∧ J s' = i ∧ less M fr (H s')
theorem againX_of {σ ι : Type} {M : Nat} {H : σ → PF} {J : σ → ι} {I : σ → Prop} {μ : σ → Nat} {s : σ} {i : ι} {fr : PF} (s' : σ) (h1 : I s') (h2 : μ s' < μ s) (h3 : J s' = i) (h4 : less M fr (H s')) : againX M H J I μ s i fr := ⟨s', h1, h2, h3, h4⟩

section
variable {ι : Type} {P : Program} {N M : Nat} {𝒞 : ι → Base → Prop} {Q : ι → PX → PF → Prop} {i : ι} {fr : PF}

theorem XW_seqP (hm : P.follows .mixedOrders = true) (hlo : ∀ i B, 𝒞 i B → B.lo = M) {x y : Code} (hd : dstsIn N x = true) (h : pwp P M x (thenP (fun fr => XW P N 𝒞 i y Q fr) (Q i)) fr) : XW P N 𝒞 i (.seq x y) Q fr := by
  refine XW_seq (K := fun i fr => XW P N 𝒞 i y Q fr) (XW_pwp hm hlo hd (pwp_mono x (fun e fr he => ?_) h)) fun _ _ h => h
  cases e with
  | normal => exact he
  | _ => exact he
theorem XW_seqX {x y : Code} (h : XW P N 𝒞 i x (thenX (fun i fr => XW P N 𝒞 i y Q fr) Q) fr) : XW P N 𝒞 i (.seq x y) Q fr := XW_seq h fun _ _ h => h

theorem XW_loopV (hlo : ∀ i B, 𝒞 i B → B.lo = M) {c : Code} {B : PF} {σ : Type} (V : σ → List (Nat × PV)) (J : σ → ι) (I : σ → Prop) (μ : σ → Nat) (s0 : σ) (h0 : I s0) (hj : J s0 = i) (_hB : forgetAll (dsts c) fr = B) (e0 : less M fr (apply (V s0) B))
    (round : ∀ s, I s → XW P N 𝒞 (J s) c (thenX (againX M (fun s => apply (V s) B) J I μ s) Q) (apply (V s) B)) : XW P N 𝒞 i (.loop c) Q fr :=
  XW_loop hlo (fun s => apply (V s) B) J I μ s0 h0 hj e0 round
end

section
variable {ι : Type} {P : Program} {m : Nat} {p : PV} {fr : PF} {all : List Oper} {C : PF → Prop} {K : ι → PF → Prop} {Q : ι → PX → PF → Prop} {i : ι}
@[simp] theorem pdrawC_nil_ (fps : List Fp) : pdrawC P all m C [] fps (p :: fr) = (drawOk all m fps = true ∧ C (p :: fr)) := (rfl)
@[simp] theorem pdrawC_cons_ (o : Oper) (rest : List Oper) (fps : List Fp) : pdrawC P all m C (o :: rest) fps (p :: fr) = match pwanted all o (p :: fr) with
    | some b => if b = true then match isCall o with
        | some c => pdCall P o c (p :: fr) fun news fr' => pdrawC P all m C rest (fps ++ [fpOf all o news (p :: fr)]) fr'
        | none => isPanic o = none ∧ dstOk o (p :: fr) = true ∧ match pstep P o (p :: fr) with
          | some fr' => pdrawC P all m C rest (fps ++ [fpOf all o [] (p :: fr)]) fr'
          | none => False
      else noObj o.dst (p :: fr) = true ∧ pdrawC P all m C rest (fps ++ [fpOf all o [] (p :: fr)]) (put o.dst (.tup []) (p :: fr))
    | none => False := (rfl)
@[simp] theorem thenX_normal_ : thenX K Q i .normal (p :: fr) = K i (p :: fr) := (rfl)
@[simp] theorem thenX_exit_ (id : Nat) : thenX K Q i (.exit id) (p :: fr) = Q i (.exit id) (p :: fr) := (rfl)
@[simp] theorem thenX_ret_ : thenX K Q i .ret (p :: fr) = Q i .ret (p :: fr) := (rfl)
@[simp] theorem blockX_normal_ (id : Nat) : blockX id Q i .normal (p :: fr) = Q i .normal (p :: fr) := (rfl)
@[simp] theorem blockX_exit_ (id id' : Nat) : blockX id Q i (.exit id') (p :: fr) = if id' = id then Q i .normal (p :: fr) else Q i (.exit id') (p :: fr) := (rfl)
@[simp] theorem blockX_ret_ (id : Nat) : blockX id Q i .ret (p :: fr) = Q i .ret (p :: fr) := (rfl)
end

theorem rend_n {M M' : Nat} {κ : List Nat} {fr next g : PF} {Q : Unit → PX → PF → Prop} (H2 : PF) (h1 : outF g (tgtAt H2 ((List.range κ.length).map (M' + ·)) fun s => !((List.range κ.length).map (M' + ·)).contains s) 8 H2 ((List.range κ.length).map (M' + ·))) (h2 : less M (back fr κ H2) next) : rend M M' κ fr next Q .normal g := ⟨H2, h1, h2⟩
theorem rend_r {M M' : Nat} {κ : List Nat} {fr next g : PF} {Q : Unit → PX → PF → Prop} (H2 : PF) (h1 : outF g (tgtAt H2 ((List.range κ.length).map (M' + ·)) fun s => !((List.range κ.length).map (M' + ·)).contains s) 8 H2 ((List.range κ.length).map (M' + ·))) (h2 : Q () .ret (back fr κ H2)) : rend M M' κ fr next Q .ret g := ⟨H2, h1, h2⟩
theorem slots_view {fr : PF} {T : Tgt} {d N t : Nat} {A : List PV} (h : vwAll (vw fr T d) A ((slots 0 N fr).set t .undef)) (hA : A.length = N) : ∀ i, i < N → i ≠ t → vw fr T d (A.getD i .undef) (rd fr (.tmp i)) := fun i hi hit => by
  have h1 := slots_get N 0 fr i hi
  obtain ⟨p, h2, h3⟩ := vwAll_get h i _ (List.getElem?_eq_getElem (show i < A.length by omega))
  rw [List.getElem?_set_ne (Ne.symm hit), h1] at h2
  have e : A.getD i .undef = A[i]'(by omega) := by simp [List.getD, List.getElem?_eq_getElem (show i < A.length by omega)]
  rw [e, show rd fr (.tmp i) = p from by
    rw [Nat.zero_add] at h2
    have h2 := Option.some.inj h2
    rw [← h2]; rfl]
  exact h3
attribute [irreducible] againX
end Go.Qg

/-! Contracts of begins, of the generator of all uses, of uses. No condition. -/
namespace Go.Qg
open Go.Proofs
set_option maxRecDepth 100000
set_option maxHeartbeats 4000000
attribute [local irreducible] pwp pops pdraw pop popCall pdCall thenP blockP scopeP pspec Spec answers ppost CallW

theorem begins1_spec (j : List Int) (k : Nat) (n : Int) (hk : k < j.length) : Spec Try.prog 120 [.v (.int .i64 k), .v (.int .i64 n), .rp [ints j] 0] (.v (.bool (geti j k == n))) := by
  refine spec_of mixed Try.func120 (by decide) rfl Try.results120 Try.ntmps120 (by decide) 0 (by simp) ?_
  simp [ints, hk]
  refine answers_of rfl ?_; simp

def beginsB (j l : List Int) : Bool := decide (l.length ≤ j.length) && allN l.length fun k => geti j k == geti l k
theorem begins_spec (j l : List Int) (hl : l.length ≤ 9223372036854775807) : Spec Try.prog 118 [ints j, ints l] (.v (.bool (beginsB j l))) := by
  refine spec_of mixed Try.func118 (by decide) rfl Try.results118 Try.ntmps118 (by decide) 0 (by simp) ?_
  simp [ints]
  by_cases h : l.length ≤ j.length
  · simp [h]
    refine pop_spec (allInt_spec l hl 120 [] [.rp [ints j] 0] rfl rfl _ fun k hk => begins1_spec j k (geti l k) (by omega)) rfl true (.inl (by simp [ints])) (.inr rfl) rfl (by simp) ?_
    simp
    refine answers_of rfl ?_; simp [beginsB, h]
  · simp [h, Nat.not_le.1 h]
    refine answers_of rfl ?_; simp [beginsB, h]

/-- A use, with the leg behind those that it covers, and its price. -/
structure Use where
  offer : Int
  leg : Int
  fin : Int
  price : Int
  deriving Inhabited, DecidableEq
def Use.cells (u : Use) : List PV := [.v (.int .i64 u.offer), .v (.int .i64 u.leg), .v (.int .i64 u.fin), .v (.int .i64 u.price)]
def useAt (l : List Use) (i : Nat) : Use := l.getD i default
def useL (l : List Use) : PV := .sl 4 l.length fun i => (useAt l i).cells

/-- The use of offer i at a leg, if it can be made. -/
def useOf (t : Table) (p : Person) (j : List Int) (leg i : Nat) : Option Use :=
  match priceOf t p (offerAt t.offers i) with
  | none => none
  | some n => if beginsB (j.drop leg) (offerAt t.offers i).places then some ⟨i, leg, leg + (offerAt t.offers i).places.length - 1, n⟩ else none
/-- All uses at a leg, of the first i offers; all uses of the first legs. -/
def usesAt (t : Table) (p : Person) (j : List Int) (leg : Nat) : Nat → List Use
  | 0 => []
  | i + 1 => usesAt t p j leg i ++ (useOf t p j leg i).toList
def usesTo (t : Table) (p : Person) (j : List Int) : Nat → List Use
  | 0 => []
  | leg + 1 => usesTo t p j leg ++ usesAt t p j leg t.offers.length
def usesOf (t : Table) (p : Person) (j : List Int) : List Use := usesTo t p j (j.length - 1)

def genClo (t : Table) (p : Person) (j : List Int) : PV := .clo (.func 117) [] [.rp [ints j] 0, .rp (deskC t p) 0]
theorem uses_spec (t : Table) (p : Person) (j : List Int) : Spec Try.prog 88 [.agg (deskC t p), ints j] (genClo t p j) := by
  refine spec_of mixed Try.func88 (by decide) rfl Try.results88 Try.ntmps88 (by decide) 0 (by simp) ?_
  simp [deskC, ints, offerL, bandL]
  refine answers_of rfl ?_; simp [genClo, deskC, ints, offerL, bandL]

theorem usesAt_prefix (t : Table) (p : Person) (j : List Int) (leg : Nat) : ∀ {i m : Nat}, i ≤ m → usesAt t p j leg i <+: usesAt t p j leg m
  | i, 0, h => by obtain rfl : i = 0 := by omega
                  exact List.prefix_refl _
  | i, m + 1, h => by
    rcases Nat.lt_or_eq_of_le h with h | rfl
    · exact (usesAt_prefix t p j leg (show i ≤ m by omega)).trans (List.prefix_append _ _)
    · exact List.prefix_refl _
theorem usesTo_prefix (t : Table) (p : Person) (j : List Int) : ∀ {i m : Nat}, i ≤ m → usesTo t p j i <+: usesTo t p j m
  | i, 0, h => by obtain rfl : i = 0 := by omega
                  exact List.prefix_refl _
  | i, m + 1, h => by
    rcases Nat.lt_or_eq_of_le h with h | rfl
    · exact (usesTo_prefix t p j (show i ≤ m by omega)).trans (List.prefix_append _ _)
    · exact List.prefix_refl _
theorem usesOf_get {t : Table} {p : Person} {j : List Int} {leg i : Nat} {u : Use} (hl : leg < j.length - 1) (hi : i < t.offers.length) (hu : useOf t p j leg i = some u) : (usesOf t p j)[(usesTo t p j leg).length + (usesAt t p j leg i).length]? = some u := by
  have h1 : usesTo t p j leg ++ usesAt t p j leg (i + 1) <+: usesOf t p j := by
    refine List.IsPrefix.trans ?_ (usesTo_prefix t p j (show leg + 1 ≤ j.length - 1 by omega))
    simp only [usesTo]
    exact (List.prefix_append_right_inj _).2 (usesAt_prefix t p j leg (show i + 1 ≤ t.offers.length by omega))
  obtain ⟨rest, hr⟩ := h1
  rw [← hr]
  simp only [usesAt, hu, Option.toList_some]
  rw [List.append_assoc, List.append_assoc, List.getElem?_append_right (by omega), List.getElem?_append_right (by omega)]
  simp
theorem geti_drop (l : List Int) (k i : Nat) : geti (l.drop k) i = geti l (k + i) := by simp [geti, List.getD]

theorem uses1_gen (t : Table) (p : Person) (j : List Int) (ht : TableOk t) (hj : 1 ≤ j.length ∧ j.length ≤ 9) : GenW Try.prog 117 [.rp [ints j] 0, .rp (deskC t p) 0] ((usesOf t p j).map fun u => .agg u.cells) := by
  refine gen_of Try.func117 (by decide) rfl Try.results117 Try.ntmps117 0 (by simp) fun l Rb J henv => ?_
  have hlo : ∀ s B, GCtx 57 Rb J s B → B.lo = 57 := fun _ _ h => h.1
  have w0 : IntKind.i64.wrap ((j.length : Int) - 1) = (j.length : Int) - 1 := i64_wrap (by omega)
  refine XW_seqP mixed hlo (by decide) ?_
  simp [deskC, ints, offerL, bandL, w0]
  refine XW_block ?_
  refine XW_loopV hlo (fun leg : Nat => [(12, .v (.int .i64 leg))]) (fun leg => some (usesTo t p j leg).length) (fun leg => leg ≤ j.length - 1) (fun leg => j.length - leg) 0 (Nat.zero_le _) rfl (by simp; rfl) (by simp) ?_
  intro leg hleg
  refine XW_seqP mixed hlo (by decide) ?_
  by_cases hlt : leg < j.length - 1
  · simp [show (leg : Int) < (j.length : Int) - 1 from by omega]
    refine XW_seqP mixed hlo (by decide) ?_
    simp
    refine XW_seqX (XW_block ?_)
    refine XW_seqP mixed hlo (by decide) ?_
    simp
    refine XW_seqP mixed hlo (by decide) ?_
    simp
    refine XW_block ?_
    refine XW_loopV hlo (fun i : Nat => [(19, .v (.int .i64 i))]) (fun i => some ((usesTo t p j leg).length + (usesAt t p j leg i).length)) (fun i => i ≤ t.offers.length) (fun i => t.offers.length - i) 0 (Nat.zero_le _) (by simp [usesAt]) (by simp; rfl) (by simp) ?_
    intro i hi
    refine XW_seqP mixed hlo (by decide) ?_
    have hno := ht.no
    have wk := i64_wrap (show -9223372036854775808 ≤ (i : Int) + 1 ∧ _ from by omega)
    have wl := i64_wrap (show -9223372036854775808 ≤ (leg : Int) + 1 ∧ _ from by omega)
    by_cases hit : i < t.offers.length
    · simp [hit]
      refine XW_seqP mixed hlo (by decide) ?_
      simp
      refine XW_seqX (XW_block ?_)
      refine XW_seqP mixed hlo (by decide) ?_
      simp [hit, Offer.cells_eq (offerAt t.offers i)]
      refine XW_seqP mixed hlo (by decide) ?_
      have hm := offerAt_mem hit
      simp
      refine pop_spec (price_spec t p (offerAt t.offers i) ht hm) rfl false (.inl (by simp [deskC, offerL, bandL, Offer.cells_eq (offerAt t.offers i)])) (.inl rfl) rfl (by simp [optI]) ?_
      cases hx : priceOf t p (offerAt t.offers i) with
      | none =>
        have hu : useOf t p j leg i = none := by simp [useOf, hx]
        simp [optI]
        refine XW_seqX (XW_yield (m := 22) mixed henv (by decide) (by decide) ?_)
        simp
        refine ⟨by decide, ?_⟩
        simp [pyield, yargs]
        refine XW_pwp mixed hlo (by decide) ?_
        simp
        refine XW_pwp mixed hlo (by decide) ?_
        simp [wk]
        refine againX_of (i + 1) (by omega) (by omega) (by simp [usesAt, hu]) ?_
        simp
      | some n =>
        simp [optI]
        refine XW_seqX (XW_yield (m := 22) mixed henv (by decide) (by decide) ?_)
        simp [show (leg : Int) ≤ (j.length : Int) from by omega]
        have hdl : (j.drop leg).length = j.length - leg := List.length_drop
        refine pd_spec (begins_spec (j.drop leg) (offerAt t.offers i).places (by have := (ht.offer _ hm).2; omega)) (by simp [ints, hdl, geti_drop]) (by simp) (by simp [ints]) (by simp) ?_
        cases hb : beginsB (j.drop leg) (offerAt t.offers i).places with
        | false =>
          have hu : useOf t p j leg i = none := by simp [useOf, hx, hb]
          simp
          refine ⟨by decide, ?_⟩
          simp [pyield, yargs]
          refine XW_pwp mixed hlo (by decide) ?_
          simp
          refine XW_pwp mixed hlo (by decide) ?_
          simp [wk]
          refine againX_of (i + 1) (by omega) (by omega) (by simp [usesAt, hu]) ?_
          simp
        | true =>
          have hu : useOf t p j leg i = some ⟨i, leg, leg + (offerAt t.offers i).places.length - 1, n⟩ := by simp [useOf, hx, hb]
          have hpl := (ht.offer _ hm).2
          have w1 : IntKind.i64.wrap ((leg : Int) + ((offerAt t.offers i).places.length : Int)) = (leg : Int) + ((offerAt t.offers i).places.length : Int) := i64_wrap (by omega)
          have w2 : IntKind.i64.wrap ((leg : Int) + ((offerAt t.offers i).places.length : Int) - 1) = (leg : Int) + ((offerAt t.offers i).places.length : Int) - 1 := i64_wrap (by omega)
          have hget := usesOf_get hlt hit hu
          simp [w1, w2]
          refine ⟨by decide, ?_⟩
          simp [pyield, yargs]
          refine ⟨⟨_, hget, rfl⟩, ?_, ?_⟩
          · refine XW_pwp mixed hlo (by decide) ?_
            simp
            refine XW_pwp mixed hlo (by decide) ?_
            simp [wk]
            refine againX_of (i + 1) (by omega) (by omega) (by simp [usesAt, hu]; omega) ?_
            simp
          · refine XW_pwp mixed hlo (by decide) ?_
            simp
    · simp [hit]
      refine XW_seqP mixed hlo (by decide) ?_
      simp
      refine XW_pwp mixed hlo (by decide) ?_
      simp [wl]
      obtain rfl : i = t.offers.length := by omega
      refine againX_of (leg + 1) (by omega) (by omega) (by simp [usesTo]) ?_
      simp
  · simp [show ¬ (leg : Int) < (j.length : Int) - 1 from by omega]
    refine XW_pwp mixed hlo (by decide) ?_
    simp
    obtain rfl : leg = j.length - 1 := by omega
    rfl
end Go.Qg

/-! The contract of listed. No condition. -/
namespace Go.Qg
open Go.Proofs
set_option maxRecDepth 100000
set_option maxHeartbeats 4000000
attribute [local irreducible] pwp pops pdraw pop popCall pdCall thenP blockP scopeP pspec Spec answers ppost CallW rend

@[simp] theorem renLL_rowsOf (π : Nat → Nat) (g : Nat → List PV) (k : Nat) : renLL π (rowsOf g k) = rowsOf (fun i => renL π (g i)) k := by
  have key : ∀ (l : List Nat), renLL π (l.map g) = l.map fun i => renL π (g i) := by
    intro l
    induction l with
    | nil => rfl
    | cons x l ih => simp [renLL, ih]
  exact key _
theorem namesLL_rowsOf {g : Nat → List PV} {k : Nat} (h : ∀ i, i < k → namesL (g i) = []) : namesLL (rowsOf g k) = [] := by
  have key : ∀ (l : List Nat), (∀ i ∈ l, namesL (g i) = []) → namesLL (l.map g) = [] := by
    intro l
    induction l with
    | nil => intro _; rfl
    | cons x l ih => intro h; simp [namesLL, h x List.mem_cons_self, ih fun i hi => h i (List.mem_cons_of_mem _ hi)]
  exact key _ fun i hi => h i (List.mem_range.1 hi)
theorem useAt_get {l : List Use} {n : Nat} {p : PV} (h : (l.map fun u => PV.agg u.cells)[n]? = some p) : n < l.length ∧ p = .agg (useAt l n).cells := by
  have hn := lt_of_get? h
  simp at hn
  simp [hn] at h
  exact ⟨hn, by rw [← h]; simp [useAt, hn]⟩
theorem usesAt_length (t : Table) (p : Person) (j : List Int) (leg : Nat) : ∀ i, (usesAt t p j leg i).length ≤ i
  | 0 => by simp [usesAt]
  | i + 1 => by
    have := usesAt_length t p j leg i
    simp only [usesAt, List.length_append]
    have : (useOf t p j leg i).toList.length ≤ 1 := by cases useOf t p j leg i <;> simp
    omega
theorem usesTo_length (t : Table) (p : Person) (j : List Int) : ∀ k, (usesTo t p j k).length ≤ k * t.offers.length
  | 0 => by simp [usesTo]
  | k + 1 => by
    have h1 := usesTo_length t p j k
    have h2 := usesAt_length t p j k t.offers.length
    simp only [usesTo, List.length_append]
    rw [Nat.add_mul]; omega
theorem usesOf_length {t : Table} (ht : TableOk t) (p : Person) {j : List Int} (hj : j.length ≤ 9) : (usesOf t p j).length ≤ 96 := by
  have h1 := usesTo_length t p j (j.length - 1)
  have h2 := ht.no
  have h3 : (j.length - 1) * t.offers.length ≤ 8 * 12 := Nat.mul_le_mul (by omega) h2
  unfold usesOf; omega

theorem listed_spec (t : Table) (p : Person) (j : List Int) (ht : TableOk t) (hj : 1 ≤ j.length ∧ j.length ≤ 9) : Spec Try.prog 65 [.agg (deskC t p), ints j] (useL (usesOf t p j)) := by
  have hlen := usesOf_length ht p hj.2
  have hgen := uses1_gen t p j ht hj
  generalize hl : usesOf t p j = l at hlen hgen
  unfold Spec
  refine callW_ofE Try.func65 (by decide) rfl (congrArg Array.toList Try.results65) Try.ntmps65 17 (by simp) (by decide) fun B0 hB0 hD0 => ?_
  have hlo : ∀ s B, ECtx B0 s B → B.lo = 17 := fun _ _ h => h.1.trans hB0
  refine XW_seqP mixed hlo (by decide) ?_
  simp [deskC, ints, offerL, bandL]
  refine XW_seqP mixed hlo (by decide) ?_
  simp
  refine XW_seqX (XW_seqP mixed hlo (by decide) ?_)
  simp
  refine pop_spec (uses_spec t p j) rfl false (.inl (by simp [deskC, ints, offerL, bandL])) (.inl rfl) rfl (by simp) ?_
  simp [genClo, deskC, ints, offerL, bandL]
  refine XW_block ?_
  refine XW_range mixed rfl (by rfl) (by simpa [deskC, ints, offerL, bandL] using hgen) (fun p hp => ?_) (by decide) (by decide) 17 (by decide) [5, 16] (by decide)
    (fun n => [.undef, .undef, .undef, .undef, .undef, .box true [.own 16 n 0 n false], .undef, .undef, .undef, .undef, .undef, .undef, .undef, .undef, .undef, .undef, .rows none n 119 4 (rowsOf (fun i => (useAt l i).cells) n)])
    (fun n => [.undef, .undef, .undef, .undef, .undef, .ref 0 0, .undef, .undef, .undef, .undef, .undef, .undef, .undef, .undef, .undef, .undef])
    (fun n => [.box false [.own 1 n 0 n false], .rows none n 119 4 (rowsOf (fun i => (useAt l i).cells) n)]) ?_ (fun n hn => ⟨rfl, ?_, slots_view (t := 10) ?_ rfl⟩) (fun n p hp => ?_) ?_
  · obtain ⟨u, _, rfl⟩ := List.mem_map.1 hp
    exact ⟨rfl, rfl⟩
  · rw [hB0]
    simp
  · simp [Use.cells]
  · simp [slots]
  · obtain ⟨hn, rfl⟩ := useAt_get hp
    rw [hB0]
    simp [Use.cells, show (n + 1) * 32 ≤ 140737488355328 from by omega, show n + 1 ≤ maxLen from by simp [maxLen]; omega]
    refine rend_n [.box false [.own 1 (n + 1) 0 (n + 1) false], .rows none (n + 1) 119 4 (rowsOf (fun i => (useAt l i).cells) (n + 1))] ?_ ?_
    · simp [Use.cells, rowsOf_snoc]
    · simp [back, placeAll, Use.cells]
  · simp
    refine XW_pwp mixed hlo (by decide) ?_
    simp
    refine ends_of (useL l) [] [] rfl (by decide) ?_ ?_ rfl
    · simp
    · simp [useL]
      intro k hk; simp [rowsOf_get hk, Use.cells]
end Go.Qg

/-! More forms of calls: the frame says less ahead of the call; new objects in statements that draw their order. Maps whose keys are integers. No condition: definitions, and lemmas that hold of every program. -/
namespace Go.Qg

/-- A call of a function that leaves new objects, in a statement that draws its order. -/
theorem pd_call {P : Program} {o : Oper} {fr : PF} {c : Call} {f : FuncId} {ps : List PV} {r : PV} {H2 : PF} {k : List Nat → PF → Prop} (h : CallW P f ps [] fun out => out = .ret r H2) (news : List Nat) (hp : pcallee P fr c = some (f, ps)) (hno : noObj o.dst fr = true) (hnm : namesL ps = [])
    (hb : backOk fr [] news H2) (hd : ∀ d, o.dst = some d → d ∉ news) (hk : k news (put o.dst (backV news r) (back fr news H2))) : pdCall P o c fr k := by
  unfold pdCall
  rw [hp]
  exact ⟨hno, hnm, r, H2, news, h, hb, hd, hk⟩

/-- A call with the objects at ι lent, ahead of which the places of V say what V says. -/
theorem pop_callF {P : Program} {M : Nat} {K : PF → Prop} {Kp : PV → PF → Prop} {o : Oper} {fr : PF} {c : Call} {f : FuncId} {ps qs : List PV} {H : PF} {Q : Out → Prop} (V : List (Nat × PV)) (hg : less M fr (apply V fr)) (h : CallW P f qs H Q) (hp : pcallee P (apply V fr) c = some (f, ps)) (ι : List Nat) (md : Bool) (hι : ι.Nodup)
    (ho : outF (apply V fr) (lentTgt H ι md) 8 H ι) (ha : argsOk (apply V fr) (lentTgt H ι md) qs ps)
    (hk : ∀ out, Q out → match out with
      | .ret r H2 => ∃ news, backOk (apply V fr) ι news H2 ∧ (md = false ∨ (flatL H2 && r.flat) = true) ∧ pclear o.dst (backV (ι ++ news) r) (back (apply V fr) (ι ++ news) H2) = true ∧ K (put o.dst (backV (ι ++ news) r) (back (apply V fr) (ι ++ news) H2))
      | .pan p H2 => ∃ news, backOk (apply V fr) ι news H2 ∧ (md = false ∨ (flatL H2 && p.flat) = true) ∧ Kp (backV (ι ++ news) p) (back (apply V fr) (ι ++ news) H2)) : popCall P M K Kp o c fr :=
  pop_callG (apply V fr) hg h hp ι md hι ho ha hk

/-- A call of a pure function, ahead of which the places of V say what V says. -/
theorem pop_specF {P : Program} {M : Nat} {K : PF → Prop} {Kp : PV → PF → Prop} {o : Oper} {fr : PF} {c : Call} {f : FuncId} {ps qs : List PV} {r : PV} (V : List (Nat × PV)) (hg : less M fr (apply V fr)) (h : Spec P f qs r) (hp : pcallee P (apply V fr) c = some (f, ps)) (md : Bool) (ha : argsOk (apply V fr) (lentTgt [] [] md) qs ps) (hfl : md = false ∨ r.flat = true)
    (hn : r.names = []) (hcl : pclear o.dst r (apply V fr) = true) (hK : K (put o.dst r (apply V fr))) : popCall P M K Kp o c fr :=
  pop_specG (apply V fr) hg h hp md ha hfl hn hcl hK

/-! ### Sets of integers as maps -/
def keysI (d : List Int) : List PV := d.map fun x => .v (.int .i64 x)
def trues (d : List Int) : List PV := d.map fun _ => .v (.bool true)
@[simp] theorem keysI_length (d : List Int) : (keysI d).length = d.length := by simp [keysI]
@[simp] theorem trues_length (d : List Int) : (trues d).length = d.length := by simp [trues]
@[simp] theorem keysI_nil : keysI [] = [] := rfl
@[simp] theorem trues_nil : trues [] = [] := rfl
theorem keysI_plain (d : List Int) : plainL (keysI d) = true := by
  induction d with
  | nil => rfl
  | cons x d ih => simpa [keysI, plainL, PV.plain] using ih
theorem trues_plain (d : List Int) : plainL (trues d) = true := by
  induction d with
  | nil => rfl
  | cons x d ih => simpa [trues, plainL, PV.plain] using ih
@[simp] theorem keysI_names (d : List Int) : namesL (keysI d) = [] := plainL_names (keysI_plain d)
@[simp] theorem trues_names (d : List Int) : namesL (trues d) = [] := plainL_names (trues_plain d)
@[simp] theorem keysI_ren (π : Nat → Nat) (d : List Int) : renL π (keysI d) = keysI d := renL_plain (keysI_plain d)
@[simp] theorem trues_ren (π : Nat → Nat) (d : List Int) : renL π (trues d) = trues d := renL_plain (trues_plain d)
@[simp] theorem keysI_vw (f : PF) (T : Tgt) (e : Nat) (d : List Int) : vwAll (vw f T e) (keysI d) (keysI d) = True := eq_true (vwAll_plain (keysI_plain d))
@[simp] theorem trues_vw (f : PF) (T : Tgt) (e : Nat) (d : List Int) : vwAll (vw f T e) (trues d) (trues d) = True := eq_true (vwAll_plain (trues_plain d))
@[simp] theorem keysI_flat (d : List Int) : flatL (keysI d) = true := by
  induction d with
  | nil => rfl
  | cons x d ih => simpa [keysI, flatL, PV.flat] using ih
@[simp] theorem trues_flat (d : List Int) : flatL (trues d) = true := by
  induction d with
  | nil => rfl
  | cons x d ih => simpa [trues, flatL, PV.flat] using ih

/-- Where a number stands. -/
def dfind (d : List Int) (x : Int) : Nat → Option Nat := fun j => match d with
  | [] => none
  | y :: d => if x == y then some j else dfind d x (j + 1)
theorem pkfind_ints {P : Program} {t : TypeId} (ht : (tint P t).isSome = true) (d : List Int) (x : Int) : ∀ j, pkfind P t (.v (.int .i64 x)) (keysI d) j = some (dfind d x j) := by
  induction d with
  | nil => intro j; rfl
  | cons y d ih =>
    intro j
    have e : keysI (y :: d) = .v (.int .i64 y) :: keysI d := rfl
    rw [e]
    simp only [pkfind, pkeyEq, ht, and_self, if_true, dfind]
    by_cases h : x == y
    · simp [h]
    · simp only [h, if_false]
      exact ih (j + 1)
theorem dfind_some {d : List Int} {x : Int} : ∀ {j i : Nat}, dfind d x j = some i → j ≤ i ∧ i - j < d.length ∧ d[i - j]? = some x := by
  induction d with
  | nil => intro j i h; cases h
  | cons y d ih =>
    intro j i h
    simp only [dfind] at h
    split at h
    · rename_i hxy
      obtain rfl := Option.some.inj h
      simp at hxy
      simp [hxy]
    · obtain ⟨h1, h2, h3⟩ := ih h
      refine ⟨by omega, by simp; omega, ?_⟩
      rw [show i - j = (i - (j + 1)) + 1 from by omega, List.getElem?_cons_succ]; exact h3
theorem dfind_mem {d : List Int} {x : Int} : ∀ {j : Nat}, (dfind d x j).isSome = d.contains x := by
  induction d with
  | nil => intro j; rfl
  | cons y d ih =>
    intro j
    simp only [dfind, List.contains_cons]
    by_cases h : x == y
    · simp [h]
    · simp only [h, if_false, Bool.false_or]; exact ih
theorem trues_get {d : List Int} {x : Int} {i : Nat} (h : dfind d x 0 = some i) : (trues d)[i]? = some (.v (.bool true)) := by
  obtain ⟨_, h2, _⟩ := dfind_some h
  have h2 : i < d.length := by simpa using h2
  simp [trues, h2]
theorem keysI_set {d : List Int} {x : Int} {i : Nat} (h : dfind d x 0 = some i) : (keysI d).set i (.v (.int .i64 x)) = keysI d := by
  obtain ⟨_, h2, h3⟩ := dfind_some h
  refine List.ext_getElem? fun j => ?_
  rw [List.getElem?_set]
  split
  · rename_i hij; subst hij
    have h3 : d[i]? = some x := by simpa using h3
    have h2 : i < d.length := by simpa using h2
    simp [keysI, h2, h3]
    have := List.getElem?_eq_getElem h2
    rw [this] at h3
    exact (Option.some.inj h3).symm
  · rfl
theorem trues_set {d : List Int} {i : Nat} (h : i < d.length) : (trues d).set i (.v (.bool true)) = trues d := by
  refine List.ext_getElem? fun j => ?_
  rw [List.getElem?_set]
  split
  · rename_i hij; subst hij
    simp [trues, h]
  · rfl
theorem keysI_snoc (d : List Int) (x : Int) : keysI d ++ [.v (.int .i64 x)] = keysI (d ++ [x]) := by simp [keysI]
theorem trues_snoc (d : List Int) (x : Int) : trues d ++ [.v (.bool true)] = trues (d ++ [x]) := by simp [trues]
end Go.Qg

/-! Contracts of better, of first[tickets]. No condition. -/
namespace Go.Qg
open Go.Proofs
set_option maxRecDepth 100000
set_option maxHeartbeats 4000000
attribute [local irreducible] pwp pops pdraw pop popCall pdCall thenP blockP scopeP pspec Spec answers ppost CallW rend

structure Tick where
  uses : List Use
  cost : Int
  deriving Inhabited
def Tick.cells (t : Tick) : List PV := [useL t.uses, .v (.int .i64 t.cost)]
def tickAt (l : List Tick) (i : Nat) : Tick := l.getD i default
def tickL (l : List Tick) : PV := .sl 2 l.length fun i => (tickAt l i).cells
theorem Tick.cells_eq (t : Tick) : t.cells = [.sl 4 t.uses.length fun i => (useAt t.uses i).cells, .v (.int .i64 t.cost)] := rfl

def betterB (a b : Tick) : Bool := decide (a.cost < b.cost) || (decide (a.cost = b.cost) && decide (a.uses.length < b.uses.length))
theorem better_spec (a b : Tick) : Spec Try.prog 100 [.agg a.cells, .agg b.cells] (.v (.bool (betterB a b))) := by
  refine spec_of mixed Try.func100 (by decide) rfl Try.results100 Try.ntmps100 (by decide) 0 (by simp) ?_
  by_cases h1 : a.cost < b.cost
  · simp [Tick.cells, useL, h1, show ¬ b.cost ≤ a.cost from by omega]
    refine answers_of rfl ?_; simp [betterB, h1]
  · have h1' := Int.not_lt.1 h1
    by_cases h2 : a.cost = b.cost
    · by_cases h3 : a.uses.length < b.uses.length
      · simp [Tick.cells, useL, h2, h3]
        refine answers_of rfl ?_; simp [betterB, h2, h3]
      · simp [Tick.cells, useL, h2, h3]
        refine answers_of rfl ?_; simp [betterB, h2, h3]
    · simp [Tick.cells, useL, h1, h1', h2]
      refine answers_of rfl ?_; simp [betterB, h1, h1', h2]

/-- The best of the first k. -/
def pickTo (l : List Tick) : Nat → Tick
  | 0 => ⟨[], 0⟩
  | k + 1 => if k = 0 ∨ betterB (tickAt l k) (pickTo l k) = true then tickAt l k else pickTo l k

theorem first_spec (l : List Tick) (hl : l.length ≤ 9223372036854775807) : Spec Try.prog 99 [tickL l, .clo (.func 100) [] []] (.tup [.agg (pickTo l l.length).cells, .v (.bool (decide (0 < l.length)))]) := by
  refine spec_of mixed Try.func99 (by decide) rfl Try.results99 Try.ntmps99 (by decide) 0 (by simp) ?_
  simp [tickL]
  refine pwp_loop (fun k : Nat => [(6, .box true (pickTo l k).cells), (11, .v (.int .i64 k))]) (fun k => k ≤ l.length) (fun k => l.length - k) 0 (Nat.zero_le _) (by simp; rfl) (by simp [pickTo, Tick.cells_eq]) ?_
  intro k hk
  have hc := Tick.cells_eq (pickTo l k)
  have ht := Tick.cells_eq (tickAt l k)
  by_cases hkl : k < l.length
  · have wk := i64_wrap (show -9223372036854775808 ≤ (k : Int) + 1 ∧ _ from by omega)
    by_cases h0 : k = 0
    · subst h0
      simp [hkl, hc, ht]
      refine again_of 1 (by omega) (by omega) ?_
      simp [pickTo, ht]
    · simp [hkl, hc, ht, h0]
      refine pop_spec (better_spec (tickAt l k) (pickTo l k)) rfl false (.inl (by simp [hc, ht])) (.inl rfl) rfl (by simp) ?_
      cases hb : betterB (tickAt l k) (pickTo l k) with
      | true =>
        simp [hc, ht, h0]
        refine again_of (k + 1) (by omega) (by omega) ?_
        simp [wk, pickTo, h0, hb, ht]
      | false =>
        simp [hc, ht, h0]
        refine again_of (k + 1) (by omega) (by omega) ?_
        simp [wk, pickTo, h0, hb, hc]
  · simp [hkl, hc]
    obtain rfl : k = l.length := by omega
    refine answers_of (x := .tup [.agg (pickTo l l.length).cells, .v (.bool (decide (0 < l.length)))]) (by simp [hc]) ?_
    simp [hc]
end Go.Qg

/-! The contract of the recursion of best. No condition. -/
namespace Go.Qg
open Go.Proofs
set_option maxRecDepth 100000
set_option maxHeartbeats 4000000
attribute [local irreducible] pwp pops pdraw pop popCall pdCall thenP blockP scopeP pspec Spec answers ppost CallW rend

/-- The cheapest tickets for the rest of the legs, if there are any. -/
structure Ans where
  tick : Tick
  is : Bool
def Ans.cells (x : Ans) : List PV := [useL x.tick.uses, .v (.int .i64 x.tick.cost), .v (.bool x.is)]
theorem Ans.cells_eq (x : Ans) : x.cells = [.sl 4 x.tick.uses.length fun i => (useAt x.tick.uses i).cells, .v (.int .i64 x.tick.cost), .v (.bool x.is)] := rfl
def pickA (c : List Tick) : Ans := ⟨pickTo c c.length, decide (0 < c.length)⟩
/-- The candidates with the uses of a list, where a legs are covered. -/
def candL (legs : Int) : List Use → Int → List Tick
  | [], _ => []
  | u :: rest, a =>
    (if a < u.leg ∨ u.fin ≤ a then []
     else if u.fin = legs then [⟨[u], 0 + u.price⟩]
     else if (pickA (candL legs rest u.fin)).is then [⟨u :: (pickA (candL legs rest u.fin)).tick.uses, (pickA (candL legs rest u.fin)).tick.cost + u.price⟩] else []) ++ candL legs rest a
def ansOf (legs : Int) (l : List Use) (a : Int) : Ans := if a = legs then ⟨⟨[], 0⟩, true⟩ else pickA (candL legs l a)

/-- One use's candidate. -/
def oneC (legs : Int) (u : Use) (rest : List Use) (a : Int) : List Tick :=
  if a < u.leg ∨ u.fin ≤ a then [] else if (ansOf legs rest u.fin).is then [⟨u :: (ansOf legs rest u.fin).tick.uses, (ansOf legs rest u.fin).tick.cost + u.price⟩] else []
theorem candL_cons (legs : Int) (u : Use) (rest : List Use) (a : Int) : candL legs (u :: rest) a = oneC legs u rest a ++ candL legs rest a := by
  simp only [candL, oneC, ansOf]
  by_cases h1 : a < u.leg ∨ u.fin ≤ a
  · simp [h1]
  · by_cases h2 : u.fin = legs
    · simp [h1, h2]
    · simp [h1, h2]

structure UsesOk (l : List Use) : Prop where
  each : ∀ u ∈ l, -10000000000 ≤ u.price ∧ u.price ≤ 10000000000
theorem candL_mem {legs : Int} : ∀ {l : List Use} {a : Int}, UsesOk l → ∀ t ∈ candL legs l a, t.uses.length ≤ l.length ∧ -10000000000 * (l.length : Int) ≤ t.cost ∧ t.cost ≤ 10000000000 * (l.length : Int)
  | [], _, _, t, ht => by cases ht
  | u :: rest, a, hok, t, ht => by
    have hrest : UsesOk rest := ⟨fun v hv => hok.each v (List.mem_cons_of_mem _ hv)⟩
    have hu := hok.each u List.mem_cons_self
    rw [candL_cons] at ht
    rcases List.mem_append.1 ht with ht | ht
    · unfold oneC at ht
      split at ht
      · cases ht
      · split at ht
        · rename_i h1 h2
          obtain rfl := List.mem_singleton.1 ht
          have key : (ansOf legs rest u.fin).tick.uses.length ≤ rest.length ∧ -10000000000 * (rest.length : Int) ≤ (ansOf legs rest u.fin).tick.cost ∧ (ansOf legs rest u.fin).tick.cost ≤ 10000000000 * (rest.length : Int) := by
            unfold ansOf
            split
            · simp; omega
            · have hp : ∀ k, k ≤ (candL legs rest u.fin).length → (pickTo (candL legs rest u.fin) k).uses.length ≤ rest.length ∧ -10000000000 * (rest.length : Int) ≤ (pickTo (candL legs rest u.fin) k).cost ∧ (pickTo (candL legs rest u.fin) k).cost ≤ 10000000000 * (rest.length : Int) := by
                intro k
                induction k with
                | zero => intro _; simp [pickTo]; omega
                | succ k ih =>
                  intro hk
                  simp only [pickTo]
                  split
                  · have hlt : k < (candL legs rest u.fin).length := by omega
                    have : tickAt (candL legs rest u.fin) k ∈ candL legs rest u.fin := by simp [tickAt, hlt]
                    exact candL_mem hrest _ this
                  · exact ih (by omega)
              exact hp _ (Nat.le_refl _)
          simp only [List.length_cons]
          refine ⟨by omega, ?_, ?_⟩ <;> (push_cast; omega)
        · cases ht
    · have := candL_mem hrest t ht
      simp only [List.length_cons]
      refine ⟨by omega, ?_, ?_⟩ <;> (push_cast; omega)

/-! ### What is known -/
def keyP (k : Int × Nat) : PV := .agg [.v (.int .i64 k.1), .v (.int .i64 k.2)]
def keysP (d : List (Int × Nat)) : List PV := d.map keyP
def valP (legs : Int) (l : List Use) (k : Int × Nat) : PV := .agg (ansOf legs (l.drop k.2) k.1).cells
def valsP (legs : Int) (l : List Use) (d : List (Int × Nat)) : List PV := d.map (valP legs l)
@[simp] theorem keysP_length (d : List (Int × Nat)) : (keysP d).length = d.length := by simp [keysP]
@[simp] theorem valsP_length (legs : Int) (l : List Use) (d : List (Int × Nat)) : (valsP legs l d).length = d.length := by simp [valsP]
@[simp] theorem keysP_nil : keysP [] = [] := rfl
@[simp] theorem valsP_nil (legs : Int) (l : List Use) : valsP legs l [] = [] := rfl
theorem keysP_plain (d : List (Int × Nat)) : plainL (keysP d) = true := by
  induction d with
  | nil => rfl
  | cons x d ih =>
    show ((keyP x).plain && plainL (keysP d)) = true
    rw [ih]; rfl
theorem valsP_plain (legs : Int) (l : List Use) (d : List (Int × Nat)) : plainL (valsP legs l d) = true := by
  induction d with
  | nil => rfl
  | cons x d ih =>
    show ((valP legs l x).plain && plainL (valsP legs l d)) = true
    rw [ih]; rfl
@[simp] theorem keysP_names (d : List (Int × Nat)) : namesL (keysP d) = [] := plainL_names (keysP_plain d)
@[simp] theorem valsP_names (legs : Int) (l : List Use) (d : List (Int × Nat)) : namesL (valsP legs l d) = [] := plainL_names (valsP_plain legs l d)
@[simp] theorem keysP_ren (π : Nat → Nat) (d : List (Int × Nat)) : renL π (keysP d) = keysP d := renL_plain (keysP_plain d)
@[simp] theorem valsP_ren (π : Nat → Nat) (legs : Int) (l : List Use) (d : List (Int × Nat)) : renL π (valsP legs l d) = valsP legs l d := renL_plain (valsP_plain legs l d)
@[simp] theorem keysP_vw (f : PF) (T : Tgt) (e : Nat) (d : List (Int × Nat)) : vwAll (vw f T e) (keysP d) (keysP d) = True := eq_true (vwAll_plain (keysP_plain d))
@[simp] theorem valsP_vw (f : PF) (T : Tgt) (e : Nat) (legs : Int) (l : List Use) (d : List (Int × Nat)) : vwAll (vw f T e) (valsP legs l d) (valsP legs l d) = True := eq_true (vwAll_plain (valsP_plain legs l d))

def pfind (d : List (Int × Nat)) (x : Int × Nat) : Nat → Option Nat := fun j => match d with
  | [] => none
  | y :: d => if x == y then some j else pfind d x (j + 1)
theorem pkfind_P (d : List (Int × Nat)) (x : Int × Nat) : ∀ j, pkfind Try.prog 156 (.agg [.v (.int .i64 x.1), .v (.int .i64 x.2)]) (keysP d) j = some (pfind d x j) := by
  induction d with
  | nil => intro j; rfl
  | cons y d ih =>
    intro j
    have e : keysP (y :: d) = .agg [.v (.int .i64 y.1), .v (.int .i64 y.2)] :: keysP d := rfl
    rw [e]
    simp only [pkfind, pkeyEq, pfind]
    obtain ⟨x1, x2⟩ := x
    obtain ⟨y1, y2⟩ := y
    by_cases h1 : x1 = y1
    · by_cases h2 : x2 = y2
      · subst h1 h2
        simp [psame]
      · have h2' : ((x2 : Int) == (y2 : Int)) = false := by simp; omega
        subst h1
        simp [h2, h2']
        exact ih (j + 1)
    · have h1' : (x1 == y1) = false := by simp [h1]
      simp [h1, h1']
      exact ih (j + 1)
theorem pfind_some {d : List (Int × Nat)} {x : Int × Nat} : ∀ {j i : Nat}, pfind d x j = some i → j ≤ i ∧ i - j < d.length ∧ d[i - j]? = some x := by
  induction d with
  | nil => intro j i h; cases h
  | cons y d ih =>
    intro j i h
    simp only [pfind] at h
    split at h
    · rename_i hxy
      obtain rfl := Option.some.inj h
      have := eq_of_beq hxy
      simp [this]
    · obtain ⟨h1, h2, h3⟩ := ih h
      refine ⟨by omega, by simp; omega, ?_⟩
      rw [show i - j = (i - (j + 1)) + 1 from by omega, List.getElem?_cons_succ]; exact h3
theorem valsP_get {legs : Int} {l : List Use} {d : List (Int × Nat)} {x : Int × Nat} {i : Nat} (h : pfind d x 0 = some i) : (valsP legs l d)[i]? = some (.agg (ansOf legs (l.drop x.2) x.1).cells) := by
  obtain ⟨_, _, h3⟩ := pfind_some h
  have h3 : d[i]? = some x := by simpa using h3
  simp [valsP, h3, valP]
theorem keysP_set {d : List (Int × Nat)} {x : Int × Nat} {i : Nat} (h : pfind d x 0 = some i) : (keysP d).set i (.agg [.v (.int .i64 x.1), .v (.int .i64 x.2)]) = keysP d := by
  obtain ⟨_, _, h3⟩ := pfind_some h
  have h3 : d[i]? = some x := by simpa using h3
  refine List.ext_getElem? fun j => ?_
  rw [List.getElem?_set]
  split
  · rename_i hij; subst hij
    have h2 := lt_of_get? h3
    have h4 : d[i] = x := by rw [List.getElem?_eq_getElem h2] at h3; exact Option.some.inj h3
    simp [keysP, h2, h4, keyP]
  · rfl
theorem valsP_set {legs : Int} {l : List Use} {d : List (Int × Nat)} {x : Int × Nat} {i : Nat} (h : pfind d x 0 = some i) : (valsP legs l d).set i (.agg (ansOf legs (l.drop x.2) x.1).cells) = valsP legs l d := by
  obtain ⟨_, _, h3⟩ := pfind_some h
  have h3 : d[i]? = some x := by simpa using h3
  refine List.ext_getElem? fun j => ?_
  rw [List.getElem?_set]
  split
  · rename_i hij; subst hij
    have h2 := lt_of_get? h3
    have h4 : d[i] = x := by rw [List.getElem?_eq_getElem h2] at h3; exact Option.some.inj h3
    simp [valsP, h2, h4, valP]
  · rfl
theorem keysP_snoc (d : List (Int × Nat)) (x : Int × Nat) : keysP d ++ [.agg [.v (.int .i64 x.1), .v (.int .i64 x.2)]] = keysP (d ++ [x]) := by simp [keysP, keyP]
theorem valsP_snoc (legs : Int) (l : List Use) (d : List (Int × Nat)) (x : Int × Nat) : valsP legs l d ++ [.agg (ansOf legs (l.drop x.2) x.1).cells] = valsP legs l (d ++ [x]) := by simp [valsP, valP]
theorem pfind_snoc {d : List (Int × Nat)} {x : Int × Nat} : ∀ {j : Nat}, pfind d x j = none → pfind (d ++ [x]) x j = some (j + d.length) := by
  induction d with
  | nil => intro j _; simp [pfind]
  | cons y d ih =>
    intro j h
    simp only [pfind] at h
    split at h
    · cases h
    · rename_i hxy
      simp only [List.cons_append, pfind, hxy, if_false, Bool.false_eq_true]
      rw [ih h]; simp; omega
end Go.Qg

/-! The contract of the recursion of best. No condition. -/
namespace Go.Qg
open Go.Proofs
set_option maxRecDepth 100000
set_option maxHeartbeats 4000000
attribute [local irreducible] pwp pops pdraw pop popCall pdCall thenP blockP scopeP pspec Spec answers ppost CallW rend

/-- What the recursion is lent: how many legs, what is known (d: the places), the uses, itself. -/
def bestH (l : List Use) (legs : Int) (d : List (Int × Nat)) : PF :=
  [.box false [.v (.int .i64 legs)], .box false [.mp 4], .box false [useL l], .box false [.clo (.func 98) [] [.ref 0 0, .ref 1 0, .ref 2 0, .ref 3 0]], .map false (keysP d) (valsP legs l d)]

theorem ans_bound {legs : Int} {l : List Use} {a : Int} (h : UsesOk l) : (ansOf legs l a).tick.uses.length ≤ l.length ∧ -10000000000 * (l.length : Int) ≤ (ansOf legs l a).tick.cost ∧ (ansOf legs l a).tick.cost ≤ 10000000000 * (l.length : Int) := by
  unfold ansOf
  split
  · simp; omega
  · have hp : ∀ k, k ≤ (candL legs l a).length → (pickTo (candL legs l a) k).uses.length ≤ l.length ∧ -10000000000 * (l.length : Int) ≤ (pickTo (candL legs l a) k).cost ∧ (pickTo (candL legs l a) k).cost ≤ 10000000000 * (l.length : Int) := by
      intro k
      induction k with
      | zero => intro _; simp [pickTo]; omega
      | succ k ih =>
        intro hk
        simp only [pickTo]
        split
        · have hlt : k < (candL legs l a).length := by omega
          have : tickAt (candL legs l a) k ∈ candL legs l a := by simp [tickAt, hlt]
          exact candL_mem h _ this
        · exact ih (by omega)
    exact hp _ (Nat.le_refl _)
theorem candL_length {legs : Int} : ∀ (l : List Use) (a : Int), (candL legs l a).length ≤ l.length
  | [], _ => by simp [candL]
  | u :: rest, a => by
    have := candL_length (legs := legs) rest a
    rw [candL_cons, List.length_append, List.length_cons]
    have : (oneC legs u rest a).length ≤ 1 := by unfold oneC; split <;> (try split) <;> simp
    omega

/-- The rows of candidates. -/
def tickR (c : List Tick) : List (List PV) := rowsOf (fun i => (tickAt c i).cells) c.length

theorem vwAllL_plain {f : PF} {T : Tgt} {d : Nat} : ∀ {rs : List (List PV)}, (∀ r ∈ rs, plainL r = true) → vo.vwAllL f T d rs rs
  | [], _ => trivial
  | r :: rs, h => ⟨vwAll_plain (h r List.mem_cons_self), vwAllL_plain fun x hx => h x (List.mem_cons_of_mem _ hx)⟩
theorem vwAllL_snoc {f : PF} {T : Tgt} {d : Nat} {q p : List PV} : ∀ {rs : List (List PV)}, (∀ r ∈ rs, plainL r = true) → vwAll (vw f T d) q p → vo.vwAllL f T d (rs ++ [q]) (rs ++ [p])
  | [], _, h => ⟨h, trivial⟩
  | r :: rs, h, hq => ⟨vwAll_plain (h r List.mem_cons_self), vwAllL_snoc (fun x hx => h x (List.mem_cons_of_mem _ hx)) hq⟩
@[simp] theorem tickR_length (c : List Tick) : (tickR c).length = c.length := by simp [tickR]
@[simp] theorem tickR_nil : tickR [] = [] := rfl
@[simp] theorem tickR_mem {c : List Tick} {r : List PV} : r ∈ tickR c ↔ ∃ i, i < c.length ∧ (tickAt c i).cells = r := by simp [tickR]
@[simp] theorem tickR_vw (f : PF) (T : Tgt) (d : Nat) (c : List Tick) : vo.vwAllL f T d (tickR c) (tickR c) = True := eq_true (vwAllL_plain fun r hr => by
  obtain ⟨i, _, rfl⟩ := tickR_mem.1 hr
  rfl)
@[simp] theorem tickR_take (c : List Tick) : (tickR c).take c.length = tickR c := List.take_of_length_le (by simp)
@[simp] theorem Tick.cells_one (t : Tick) : (∀ x ∈ t.cells, x.one = true) = True := eq_true fun x hx => by
  rw [Tick.cells_eq] at hx
  rcases List.mem_cons.1 hx with rfl | hx
  · rfl
  · obtain rfl := List.mem_singleton.1 hx; rfl
theorem tickR_snoc (c : List Tick) (t : Tick) : tickR (c ++ [t]) = tickR c ++ [t.cells] := by
  simp only [tickR, List.length_append, List.length_singleton]
  rw [← rowsOf_snoc (g := fun i => (tickAt (c ++ [t]) i).cells) (k := c.length) (x := t.cells) (by simp [tickAt])]
  congr 1
  refine rowsOf_congr fun i hi => ?_
  simp [tickAt, List.getElem?_append_left hi]

theorem best1_spec (l : List Use) (legs : Int) (hl : l.length ≤ 200) (hok : UsesOk l) : ∀ (n : Nat) (a : Int) (from_ : Nat) (d : List (Int × Nat)), from_ ≤ l.length → l.length - from_ < n →
    CallW Try.prog 98 [.agg [.v (.int .i64 a), .v (.int .i64 from_)], .ref 0 0, .ref 1 0, .ref 2 0, .ref 3 0] (bestH l legs d) (fun out => ∃ d', out = .ret (.agg (ansOf legs (l.drop from_) a).cells) (bestH l legs d')) := by
  intro n
  induction n with
  | zero => intro a from_ d h1 h2; omega
  | succ n ih =>
    intro a from_ d hfl hn
    refine callW_of mixed Try.func98 (by decide) rfl (congrArg Array.toList Try.results98) Try.ntmps98 (by decide) 91 (by simp) (by decide) ?_
    by_cases h0 : a = legs
    · subst h0
      have hr : ansOf a (l.drop from_) a = ⟨⟨[], 0⟩, true⟩ := by simp [ansOf]
      rw [hr]
      simp [bestH, useL]
      refine ends_of (.agg [useL [], .v (.int .i64 0), .v (.bool true)]) (bestH l a d) [] (x := .agg [.nil, .v (.int .i64 0), .v (.bool true)]) (by simp) (by decide) ?_ ?_ ⟨d, rfl⟩
      · simp [bestH, useL]
      · simp [useL]
    cases hk : pfind d (a, from_) 0 with
    | some j =>
      have hv := valsP_get (legs := legs) (l := l) hk
      have hpk := pkfind_P d (a, from_) 0
      simp only at hpk hv
      simp [bestH, useL, h0, pkeyOk, peq, peq1, hpk, hk, hv, Ans.cells_eq]
      have hae : (ansOf legs (l.drop from_) a).cells = [.sl 4 (ansOf legs (l.drop from_) a).tick.uses.length fun i => (useAt (ansOf legs (l.drop from_) a).tick.uses i).cells, .v (.int .i64 (ansOf legs (l.drop from_) a).tick.cost), .v (.bool (ansOf legs (l.drop from_) a).is)] := rfl
      refine ends_of (.agg (ansOf legs (l.drop from_) a).cells) (bestH l legs d) [] (x := .agg (ansOf legs (l.drop from_) a).cells) (by simp [hae]) (by decide) ?_ ?_ ⟨d, by simp [hae, bestH, useL]⟩
      · simp [bestH, useL]
      · simp [hae]
    | none =>
      have hpk := pkfind_P d (a, from_) 0
      simp only at hpk
      have hans : ansOf legs (l.drop from_) a = pickA (candL legs (l.drop from_) a) := by simp [ansOf, h0]
      simp [bestH, useL, h0, pkeyOk, peq, peq1, hpk, hk]
      refine pwp_loop (fun s : Nat × List Tick × List (Int × Nat) => [(9, .own 77 s.2.1.length 0 s.2.1.length false), (10, .v (.int .i64 s.1)), (77, .rows none s.2.1.length 115 2 (tickR s.2.1)), (95, .map false (keysP s.2.2) (valsP legs l s.2.2))])
        (fun s => from_ ≤ s.1 ∧ s.1 ≤ l.length ∧ s.2.1.length ≤ s.1 ∧ s.2.1 ++ candL legs (l.drop s.1) a = candL legs (l.drop from_) a) (fun s => l.length - s.1) (from_, [], d) ⟨Nat.le_refl _, hfl, by simp, rfl⟩ (by simp; rfl) (by simp [tickR]) ?_
      rintro ⟨i, c, d⟩ ⟨hi1, hi2, hi3, hi4⟩
      simp only at hi1 hi2 hi3 hi4
      by_cases hil : i < l.length
      · have wk := i64_wrap (show -9223372036854775808 ≤ (i : Int) + 1 ∧ _ from by omega)
        have hdrop : l.drop i = useAt l i :: l.drop (i + 1) := by
          rw [List.drop_eq_getElem_cons hil]; simp [useAt, hil]
        rw [hdrop, candL_cons] at hi4
        have hue : (useAt l i).cells = [.v (.int .i64 (useAt l i).offer), .v (.int .i64 (useAt l i).leg), .v (.int .i64 (useAt l i).fin), .v (.int .i64 (useAt l i).price)] := rfl
        by_cases hskip : a < (useAt l i).leg ∨ (useAt l i).fin ≤ a
        · have hone : oneC legs (useAt l i) (l.drop (i + 1)) a = [] := by simp [oneC, hskip]
          rw [hone, List.nil_append] at hi4
          by_cases h1 : a < (useAt l i).leg
          · simp [hil, hue, h1, show ¬ (useAt l i).leg ≤ a from by omega]
            refine again_of (i + 1, c, d) ⟨by simp; omega, by simp; omega, by simp; omega, hi4⟩ (by simp; omega) ?_
            simp [wk]
          · have h2 : (useAt l i).fin ≤ a := by omega
            simp [hil, hue, h1, h2, Int.not_lt.1 h1]
            refine again_of (i + 1, c, d) ⟨by simp; omega, by simp; omega, by simp; omega, hi4⟩ (by simp; omega) ?_
            simp [wk]
        · have h1 : ¬ a < (useAt l i).leg := by omega
          have h2 : ¬ (useAt l i).fin ≤ a := by omega
          have hrec := ih (useAt l i).fin (i + 1) d (by omega) (by omega)
          have hone : oneC legs (useAt l i) (l.drop (i + 1)) a = if (ansOf legs (l.drop (i + 1)) (useAt l i).fin).is then [⟨useAt l i :: (ansOf legs (l.drop (i + 1)) (useAt l i).fin).tick.uses, (ansOf legs (l.drop (i + 1)) (useAt l i).fin).tick.cost + (useAt l i).price⟩] else [] := by
            unfold oneC; rw [if_neg hskip]
          have hbd := ans_bound (legs := legs) (l := l.drop (i + 1)) (a := (useAt l i).fin) ⟨fun u hu => hok.each u (List.mem_of_mem_drop hu)⟩
          have hup := hok.each (useAt l i) (by simp [useAt, hil])
          rw [hone] at hi4
          generalize ansOf legs (l.drop (i + 1)) (useAt l i).fin = x at hrec hi4 hbd
          have hxe := Ans.cells_eq x
          simp [hil, hue, h1, h2, Int.not_lt.1 h1, Int.not_le.1 h2, wk]
          refine pop_callW hrec rfl [91, 92, 93, 94, 95] false (by decide) ?_ (.inl ?_) ?_
          · simp [bestH, useL]
          · simp
          · rintro out ⟨d', rfl⟩
            refine ⟨[], ?_, by simp, ?_, ?_⟩
            · simp [backOk, bestH]
            · simp [back, backV, placeAll, bestH, useL, hxe]
            cases hxi : x.is with
            | false =>
              simp [back, backV, placeAll, bestH, useL, hxe, hxi]
              rw [hxi] at hi4
              refine again_of (i + 1, c, d') ⟨by simp; omega, by simp; omega, by simp; omega, by simpa using hi4⟩ (by simp; omega) ?_
              simp [wk]
            | true =>
              have hll : (l.drop (i + 1)).length ≤ 200 := by rw [List.length_drop]; omega
              have w1 : IntKind.i64.wrap (x.tick.cost + (useAt l i).price) = x.tick.cost + (useAt l i).price := i64_wrap (by omega)
              simp [back, backV, placeAll, bestH, useL, hxe, hxi]
              refine pwp_draw 17 (by decide) ?_
              simp [w1, show (1 + x.tick.uses.length) * 32 ≤ 140737488355328 from by omega, show 1 + x.tick.uses.length ≤ maxLen from by simp [maxLen]; omega, show (c.length + 1) * 32 ≤ 140737488355328 from by omega, show c.length + 1 ≤ maxLen from by simp [maxLen]; omega]
              refine ⟨by decide, ?_⟩
              rw [hxi] at hi4
              refine again_of (i + 1, c ++ [⟨useAt l i :: x.tick.uses, x.tick.cost + (useAt l i).price⟩], d') ⟨by simp; omega, by simp; omega, by simp; omega, by simpa using hi4⟩ (by simp; omega) ?_
              simp [wk, tickR_snoc]
              refine vwAllL_snoc (fun r hr => by obtain ⟨j, _, rfl⟩ := tickR_mem.1 hr; rfl) ?_
              simp [Tick.cells_eq, Nat.add_comm 1]
              intro k hk
              cases k with
              | zero => simp [useAt, Use.cells]
              | succ k => simp [useAt, Use.cells, show k < x.tick.uses.length from by omega]
      · obtain rfl : i = l.length := by omega
        rw [List.drop_length, candL, List.append_nil] at hi4
        subst hi4
        simp [hil]
        have hcl := candL_length (legs := legs) (l.drop from_) a
        have hcl2 : (candL legs (l.drop from_) a).length ≤ 200 := by rw [List.length_drop] at hcl; omega
        have hans2 : (ansOf legs (l.drop from_) a).cells = [.sl 4 (pickTo (candL legs (l.drop from_) a) (candL legs (l.drop from_) a).length).uses.length fun i => (useAt (pickTo (candL legs (l.drop from_) a) (candL legs (l.drop from_) a).length).uses i).cells, .v (.int .i64 (pickTo (candL legs (l.drop from_) a) (candL legs (l.drop from_) a).length).cost), .v (.bool (decide (0 < (candL legs (l.drop from_) a).length)))] := by rw [hans]; rfl
        generalize candL legs (l.drop from_) a = c at hcl2 hans2
        have hpe := Tick.cells_eq (pickTo c c.length)
        refine pop_specF [(9, .undef), (77, .undef), (79, tickL c)] ?_ (first_spec c (by omega)) rfl false (.inl ?_) (.inl rfl) (by simp [hpe]) ?_ ?_
        · simp [tickL]
          intro k hk
          have e : (tickR c)[k]? = some (tickAt c k).cells := rowsOf_get hk
          simp [e, Tick.cells_eq]
        · simp [tickL]
        · simp [tickL, hpe]
        simp [tickL, hpe]
        have hpk2 := pkfind_P d (a, from_) 0
        simp only at hpk2
        cases hk2 : pfind d (a, from_) 0 with
        | some j =>
          have hks := keysP_set hk2
          have hvs := valsP_set (legs := legs) (l := l) hk2
          have hv := valsP_get (legs := legs) (l := l) hk2
          simp only [hans2] at hks hvs hv
          simp [pkeyOk, peq, peq1, hpk2, hk2, hks, hvs, hv]
          refine ends_of (.agg (ansOf legs (l.drop from_) a).cells) (bestH l legs d) [] (x := .agg (ansOf legs (l.drop from_) a).cells) (by simp [hans2]) (by decide) ?_ ?_ ⟨d, by simp [bestH, useL]⟩
          · simp [bestH, useL]
          · simp [hans2]
        | none =>
          have hks := keysP_snoc d (a, from_)
          have hvs := valsP_snoc legs l d (a, from_)
          have hpk3 := pkfind_P (d ++ [(a, from_)]) (a, from_) 0
          have hk3 := pfind_snoc hk2
          have hv := valsP_get (legs := legs) (l := l) hk3
          simp only [hans2] at hks hvs hv hpk3
          have hvl : ∀ (h : d.length < (valsP legs l (d ++ [(a, from_)])).length), (valsP legs l (d ++ [(a, from_)]))[d.length] = .agg (ansOf legs (l.drop from_) a).cells := fun h => by
            rw [Nat.zero_add, List.getElem?_eq_getElem h, ← hans2] at hv
            exact Option.some.inj hv
          rw [hans2] at hvl
          simp [pkeyOk, peq, peq1, hpk2, hk2, hks, hvs, hpk3, hk3, hvl]
          refine ends_of (.agg (ansOf legs (l.drop from_) a).cells) (bestH l legs (d ++ [(a, from_)])) [] (x := .agg (ansOf legs (l.drop from_) a).cells) (by simp [hans2]) (by decide) ?_ ?_ ⟨d ++ [(a, from_)], by simp [bestH, useL]⟩
          · simp [bestH, useL]
          · simp [hans2]
end Go.Qg

/-! Contracts of best, of proof, of Best. No condition. -/
namespace Go.Qg
open Go.Proofs
set_option maxRecDepth 100000
set_option maxHeartbeats 4000000
attribute [local irreducible] pwp pops pdraw pop popCall pdCall thenP blockP scopeP pspec Spec answers ppost CallW rend

theorem best_spec (l : List Use) (legs : Int) (hl : l.length ≤ 200) (hok : UsesOk l) : Spec Try.prog 66 [useL l, .v (.int .i64 legs)] (.tup [.agg (ansOf legs l 0).tick.cells, .v (.bool (ansOf legs l 0).is)]) := by
  have hb := best1_spec l legs hl hok (l.length + 1) 0 0 [] (Nat.zero_le _) (by omega)
  rw [List.drop_zero] at hb
  generalize ansOf legs l 0 = x at hb
  have hxe := Ans.cells_eq x
  have hte := Tick.cells_eq x.tick
  refine spec_of mixed Try.func66 (by decide) rfl Try.results66 Try.ntmps66 (by decide) 0 (by simp) ?_
  simp [useL]
  refine pop_callW hb rfl [3, 6, 2, 7, 9] false (by decide) ?_ (.inl ?_) ?_
  · simp [bestH, useL]
  · simp
  · rintro out ⟨d', rfl⟩
    refine ⟨[], ?_, by simp, ?_, ?_⟩
    · simp [backOk, bestH]
    · simp [back, backV, placeAll, bestH, useL, hxe]
    simp [back, backV, placeAll, bestH, useL, hxe]
    refine pwp_draw 6 (by decide) ?_
    simp
    refine ⟨by decide, ?_⟩
    refine answers_of (x := .tup [.agg x.tick.cells, .v (.bool x.is)]) (by simp [hte]) ?_
    simp [hte]
end Go.Qg

/-! The contract of posted. No condition. -/
namespace Go.Qg
open Go.Proofs
set_option maxRecDepth 100000
set_option maxHeartbeats 4000000
attribute [local irreducible] pwp pops pdraw pop popCall pdCall thenP blockP scopeP pspec Spec answers ppost CallW

def accB (a : Acc) : Bool := inB a.bal (-1000000000) 1000000000 && inB a.least (-1000000000) a.bal
theorem posted1_spec (k : Int) (a : Acc) : Spec Try.prog 104 [.v (.int .i64 k), .agg a.cells] (.v (.bool (accB a))) := by
  refine spec_of mixed Try.func104 (by decide) rfl Try.results104 Try.ntmps104 (by decide) 0 (by simp) ?_
  simp [Acc.cells]
  refine pop_spec (in_spec a.bal (-1000000000) 1000000000) rfl false (.inl (by simp)) (.inl rfl) rfl (by simp) ?_
  cases h : inB a.bal (-1000000000) 1000000000 with
  | false => simp; refine answers_of rfl ?_; simp [accB, h]
  | true =>
    simp
    refine pop_spec (in_spec a.least (-1000000000) a.bal) rfl false (.inl (by simp)) (.inl rfl) rfl (by simp) ?_
    simp; refine answers_of rfl ?_; simp [accB, h]
theorem posted2_spec (n : Int) (l : List Acc) (hl : l.length ≤ 9223372036854775807) : Spec Try.prog 105 [.v (.int .i64 n), .rp [accL l] 0] (.v (.bool (inB n 0 ((l.length : Int) - 1)))) := by
  refine spec_of mixed Try.func105 (by decide) rfl Try.results105 Try.ntmps105 (by decide) 0 (by simp) ?_
  simp [accL, i64_wrap (show -9223372036854775808 ≤ (l.length : Int) - 1 ∧ _ from by omega)]
  refine pop_spec (in_spec n 0 ((l.length : Int) - 1)) rfl false (.inl (by simp)) (.inl rfl) rfl (by simp) ?_
  simp; refine answers_of rfl ?_; simp

def entryB (n : Nat) (e : Entry) : Bool := inB e.src 0 ((n : Int) - 1) && inB e.dst 0 ((n : Int) - 1) && (e.src != e.dst) && inB e.amount 0 1000000000
theorem posted3_spec (k : Int) (e : Entry) (l : List Acc) (hl : l.length ≤ 9223372036854775807) : Spec Try.prog 107 [.v (.int .i64 k), .agg e.cells, .rp [.clo (.func 105) [] [.rp [accL l] 0]] 0] (.v (.bool (entryB l.length e))) := by
  refine spec_of mixed Try.func107 (by decide) rfl Try.results107 Try.ntmps107 (by decide) 0 (by simp) ?_
  simp [Entry.cells]
  refine pop_spec (posted2_spec e.src l hl) rfl false (.inl (by simp [accL])) (.inl rfl) rfl (by simp) ?_
  cases h1 : inB e.src 0 ((l.length : Int) - 1) with
  | false => simp; refine answers_of rfl ?_; simp [entryB, h1]
  | true =>
    simp
    refine pop_spec (posted2_spec e.dst l hl) rfl false (.inl (by simp [accL])) (.inl rfl) rfl (by simp) ?_
    cases h2 : inB e.dst 0 ((l.length : Int) - 1) with
    | false => simp; refine answers_of rfl ?_; simp [entryB, h1, h2]
    | true =>
      by_cases h3 : e.src = e.dst
      · simp [h3]; refine answers_of rfl ?_; simp [entryB, h1, h2, h3]
      · simp [h3]
        refine pop_spec (money_spec [e.amount] (by simp)) rfl true (.inl (by simp [ints, geti])) (.inr rfl) rfl (by simp) ?_
        simp
        refine answers_of rfl ?_; simp [entryB, h1, h2, h3, geti]

def accsB (l : List Acc) : Bool := allN l.length fun k => accB (accAt l k)
def entriesB (n : Nat) (es : List Entry) : Bool := allN es.length fun k => entryB n (entryAt es k)
def postedE (l : List Acc) (es : List Entry) : Int := if 7 < es.length then 3 else if inB l.length 1 8 && accsB l && entriesB l.length es then 0 else 2
theorem posted_spec (l : List Acc) (es : List Entry) (hl : l.length ≤ 9223372036854775807) (he : es.length ≤ 9223372036854775807) : Spec Try.prog 75 [accL l, entryL es] (.v (.int .i64 (postedE l es))) := by
  refine spec_of mixed Try.func75 (by decide) rfl Try.results75 Try.ntmps75 (by decide) 0 (by simp) ?_
  simp [accL, entryL]
  by_cases h0 : 7 < es.length
  · simp [show (7 : Int) < es.length from by omega]
    have hr : postedE l es = 3 := by simp [postedE, h0]
    rw [hr]; exact answers_plain (by simp) rfl
  · simp [show ¬ (7 : Int) < es.length from by omega]
    refine pop_spec (allAcc_spec l hl 104 [] [] rfl rfl _ fun k hk => posted1_spec k (accAt l k)) rfl false (.inl (by simp [accL])) (.inl rfl) rfl (by simp) ?_
    have e : allN l.length (fun k => accB (accAt l k)) = accsB l := rfl
    simp [e]
    refine pop_spec (allEntry_spec es he 107 [] [.rp [.clo (.func 105) [] [.rp [accL l] 0]] 0] rfl rfl _ fun k hk => posted3_spec k (entryAt es k) l hl) rfl true (.inl (by simp [accL, entryL])) (.inr rfl) rfl (by simp) ?_
    have e : allN es.length (fun k => entryB l.length (entryAt es k)) = entriesB l.length es := rfl
    simp [e]
    refine pop_spec (in_spec l.length 1 8) rfl false (.inl (by simp)) (.inl rfl) rfl (by simp) ?_
    cases h1 : inB l.length 1 8 with
    | false =>
      simp
      have hr : postedE l es = 2 := by simp [postedE, h0, h1]
      rw [hr]; exact answers_plain (by simp) rfl
    | true =>
      cases h2 : accsB l with
      | false =>
        simp
        have hr : postedE l es = 2 := by simp [postedE, h0, h1, h2]
        rw [hr]; exact answers_plain (by simp) rfl
      | true =>
        cases h3 : entriesB l.length es with
        | false =>
          simp
          have hr : postedE l es = 2 := by simp [postedE, h0, h1, h2, h3]
          rw [hr]; exact answers_plain (by simp) rfl
        | true =>
          simp
          have hr : postedE l es = 0 := by simp [postedE, h0, h1, h2, h3]
          rw [hr]; exact answers_plain (by simp) rfl
end Go.Qg

/-! Contracts of post, of the deferred function of try, of try, of slices.Clone. No condition. -/
namespace Go.Qg
open Go.Proofs
set_option maxRecDepth 100000
set_option maxHeartbeats 4000000
attribute [local irreducible] pwp pops pdraw pop popCall pdCall thenP blockP scopeP pspec Spec answers ppost CallW

/-- Rows of numbers. -/
def rowsI (l : List Int) : List (List PV) := l.map fun x => [.v (.int .i64 x)]
@[simp] theorem rowsI_length (l : List Int) : (rowsI l).length = l.length := by simp [rowsI]
@[simp] theorem renLL_rowsI (π : Nat → Nat) (l : List Int) : renLL π (rowsI l) = rowsI l := by
  induction l with
  | nil => rfl
  | cons x l ih => simpa [rowsI, renLL, renL, PV.ren] using ih
@[simp] theorem namesLL_rowsI (l : List Int) : namesLL (rowsI l) = [] := by
  induction l with
  | nil => rfl
  | cons x l ih => simpa [rowsI, namesLL, namesL, PV.names] using ih
@[simp] theorem flatLL_rowsI (l : List Int) : flatLL (rowsI l) = true := by
  induction l with
  | nil => rfl
  | cons x l ih => simpa [rowsI, flatLL, flatL, PV.flat] using ih
@[simp] theorem vwAllL_rowsI (f : PF) (T : Tgt) (d : Nat) (a b : List Int) : vo.vwAllL f T (d + 1) (rowsI a) (rowsI b) = (a = b) := by
  induction a generalizing b with
  | nil => cases b <;> simp [rowsI, vo.vwAllL]
  | cons x a ih =>
    cases b with
    | nil => simp [rowsI, vo.vwAllL]
    | cons y b =>
      have := ih b
      simp only [rowsI] at this
      simp [rowsI, vo.vwAllL, this]
@[simp] theorem rowsI_take (l : List Int) (k : Nat) : (rowsI l).take k = rowsI (l.take k) := by simp [rowsI]
@[simp] theorem rowsI_mem {l : List Int} {r : List PV} : r ∈ rowsI l ↔ ∃ x, x ∈ l ∧ [.v (.int .i64 x)] = r := by simp [rowsI]
@[simp] theorem rowsI_nil : rowsI [] = [] := rfl
theorem rowsI_snoc (l : List Int) (x : Int) : rowsI l ++ [[.v (.int .i64 x)]] = rowsI (l ++ [x]) := by simp [rowsI]
theorem rowsI_get {l : List Int} {k : Nat} (h : k < l.length) : (rowsI l)[k]? = some [.v (.int .i64 (geti l k))] := by simp [rowsI, geti, h]
@[simp] theorem rowsI_getElem {l : List Int} {k : Nat} (h : k < (rowsI l).length) : (rowsI l)[k] = [.v (.int .i64 (geti l k))] := by
  have h2 : k < l.length := by simpa using h
  simp [rowsI, geti, h2]
theorem rowsI_getD {l : List Int} {k : Nat} (h : k < l.length) : (rowsI l).getD k [] = [.v (.int .i64 (geti l k))] := by simp [List.getD, rowsI_get h]
theorem rowsI_set (l : List Int) (k : Nat) (x : Int) : (rowsI l).set k [.v (.int .i64 x)] = rowsI (l.set k x) := by simp [rowsI, List.map_set]
theorem geti_set {l : List Int} {i k : Nat} {x : Int} (h : i < l.length) : geti (l.set k x) i = if k = i then x else geti l i := by
  unfold geti
  rw [List.getD_eq_getElem?_getD, List.getElem?_set]
  split
  · rename_i h1; subst h1; simp [h]
  · rw [List.getD_eq_getElem?_getD]

/-- May the entry be made? -/
def mayB (l : List Acc) (now : List Int) (e : Entry) : Bool := decide ((accAt l e.src.toNat).least ≤ geti now e.src.toNat - e.amount)
def made (now : List Int) (e : Entry) : List Int :=
  let a := now.set e.src.toNat (geti now e.src.toNat - e.amount)
  a.set e.dst.toNat (geti a e.dst.toNat + e.amount)
def bookH (l : List Acc) (ep : Nat) (c : Bool) (now : List Int) : PF := [.box false [accL l, .own 1 ep 0 now.length c], .rows none ep 3 1 (rowsI now)]

theorem post_spec (l : List Acc) (now : List Int) (ep : Nat) (c : Bool) (i : Int) (e : Entry) (hn : now.length = l.length) (hs : 0 ≤ e.src ∧ e.src < (l.length : Int)) (ht : 0 ≤ e.dst ∧ e.dst < (l.length : Int)) (ha : 0 ≤ e.amount ∧ e.amount ≤ 1000000000)
    (hb : ∀ k, k < now.length → -100000000000 ≤ geti now k ∧ geti now k ≤ 100000000000) :
    CallW Try.prog 109 [.ref 0 0, .v (.int .i64 i), .agg e.cells] (bookH l ep c now) (fun out => out = if mayB l now e then .ret (.tup []) (bookH l ep c (made now e)) else .pan (.ifc 170 (.agg [.v (.int .i64 i)])) (bookH l ep c now)) := by
  have hsn : e.src.toNat < now.length := by omega
  have htn : e.dst.toNat < now.length := by omega
  have h1 := hb _ hsn
  have w1 : IntKind.i64.wrap (geti now e.src.toNat - e.amount) = geti now e.src.toNat - e.amount := i64_wrap (by omega)
  refine callW_of mixed Try.func109 (by decide) rfl (congrArg Array.toList Try.results109) Try.ntmps109 (by decide) 54 (by simp) (by decide) ?_
  simp [bookH, accL, Entry.cells]
  refine pwp_draw 21 (by decide) ?_
  have g1 : (rowsI now)[e.src.toNat]? = some [.v (.int .i64 (geti now e.src.toNat))] := rowsI_get hsn
  simp [hn, hs, g1, show e.src.toNat < l.length from by omega, Acc.cells, w1]
  by_cases hm : (accAt l e.src.toNat).least ≤ geti now e.src.toNat - e.amount
  · simp [hm, Int.not_lt.2 hm]
    refine ⟨by decide, ?_⟩
    refine pwp_draw 13 (by decide) ?_
    simp [hs, ht, g1, show e.src.toNat < l.length from by omega, w1, rowsI_set]
    refine ⟨by decide, ?_⟩
    refine pwp_draw 13 (by decide) ?_
    have htl : e.dst.toNat < (now.set e.src.toNat (geti now e.src.toNat - e.amount)).length := by simpa using htn
    have h2 := hb _ htn
    have g2 := rowsI_get htl
    have w2 : IntKind.i64.wrap (geti (now.set e.src.toNat (geti now e.src.toNat - e.amount)) e.dst.toNat + e.amount) = geti (now.set e.src.toNat (geti now e.src.toNat - e.amount)) e.dst.toNat + e.amount := i64_wrap (by rw [geti_set htn]; split <;> omega)
    simp [hs, ht, g2, show e.dst.toNat < l.length from by omega, w2, rowsI_set]
    refine ⟨by decide, ?_⟩
    have hml : (made now e).length = l.length := by simp [made, hn]
    refine ends_n (.tup []) (bookH l ep c (made now e)) [] rfl (by decide) ?_ ?_ (by simp [mayB, hm, bookH, accL, Acc.cells, hml])
    · simp [bookH, accL, Acc.cells, made, hn]
    · simp
  · simp [hm, Int.not_le.1 hm]
    refine ⟨by decide, ?_⟩
    refine ends_pan (.ifc 170 (.agg [.v (.int .i64 i)])) (bookH l ep c now) [] (by decide) ?_ ?_ (by simp [mayB, hm, bookH, accL, Acc.cells, hn])
    · simp [bookH, accL, Acc.cells, hn]
    · simp
end Go.Qg

/-! Contracts of try, of its deferred function, of slices.Clone. No condition. -/
namespace Go.Qg
open Go.Proofs
set_option maxRecDepth 100000
set_option maxHeartbeats 4000000
attribute [local irreducible] pwp pops pdraw pop popCall pdCall thenP blockP scopeP pspec Spec answers ppost CallW dleaves dpost dmid DefW

theorem try1_none (at_ : Int) : DefW Try.prog 108 [.ref 0 0] [.box false [.v (.int .i64 at_)]] none (fun H => H = [.box false [.v (.int .i64 at_)]]) := by
  refine def_ofL mixed Try.func108 (by decide) rfl rfl rfl rfl Try.results108 Try.ntmps108 (by decide) (by decide) (fun p hp => by cases hp) 12 (by decide) (by decide) rfl ?_
  simp
  refine dleaves_n [.box false [.v (.int .i64 at_)]] ?_ rfl
  simp
theorem try1_some (at_ i : Int) : DefW Try.prog 108 [.ref 0 0] [.box false [.v (.int .i64 at_)]] (some (.ifc 170 (.agg [.v (.int .i64 i)]))) (fun H => H = [.box false [.v (.int .i64 i)]]) := by
  refine def_ofL mixed Try.func108 (by decide) rfl rfl rfl rfl Try.results108 Try.ntmps108 (by decide) (by decide) (fun p hp => by obtain rfl := Option.some.inj hp; exact ⟨rfl, rfl⟩) 12 (by decide) (by decide) rfl ?_
  simp
  refine dleaves_n [.box false [.v (.int .i64 i)]] ?_ rfl
  simp

/-- Entries one after the other: what is on the accounts then, and the first one that cannot be made. -/
def tryL (l : List Acc) (es : List Entry) : List Int → Int → List Int → List Int × Int
  | [], _, now => (now, -1)
  | k :: ord, i, now => if mayB l now (entryAt es k.toNat) then tryL l es ord (i + 1) (made now (entryAt es k.toNat)) else (now, i)

theorem made_length (now : List Int) (e : Entry) : (made now e).length = now.length := by simp [made]
theorem made_bound {now : List Int} {e : Entry} {c : Int} (ha : 0 ≤ e.amount ∧ e.amount ≤ 1000000000) (h : ∀ k, k < now.length → -c ≤ geti now k ∧ geti now k ≤ c) (hs : e.src.toNat < now.length) (hd : e.dst.toNat < now.length) (hne : e.src.toNat ≠ e.dst.toNat) : ∀ k, k < (made now e).length → -(c + 1000000000) ≤ geti (made now e) k ∧ geti (made now e) k ≤ c + 1000000000 := fun k hk => by
  have hk' : k < now.length := by rwa [made_length] at hk
  have h1 := h k hk'
  have h2 := h _ hs
  have h3 := h _ hd
  simp only [made]
  rw [geti_set (by simpa using hk')]
  split
  · rw [geti_set hd, if_neg hne]
    omega
  · rw [geti_set hk']
    split <;> omega

structure EntriesOk (n : Nat) (es : List Entry) : Prop where
  each : ∀ k, k < es.length → (0 ≤ (entryAt es k).src ∧ (entryAt es k).src < (n : Int)) ∧ (0 ≤ (entryAt es k).dst ∧ (entryAt es k).dst < (n : Int)) ∧ (entryAt es k).src ≠ (entryAt es k).dst ∧ 0 ≤ (entryAt es k).amount ∧ (entryAt es k).amount ≤ 1000000000

set_option linter.unusedSimpArgs false in
theorem try_spec (l : List Acc) (es : List Entry) (ord now : List Int) (ep : Nat) (c : Bool) (hn : now.length = l.length) (he : EntriesOk l.length es) (hord : ord.length ≤ 20) (hin : ∀ k, k < ord.length → 0 ≤ geti ord k ∧ geti ord k < (es.length : Int))
    (hb : ∀ k, k < now.length → -20000000000 ≤ geti now k ∧ geti now k ≤ 20000000000) :
    CallW Try.prog 78 [.ref 0 0, entryL es, ints ord] (bookH l ep c now) (fun out => out = .ret (.v (.int .i64 (tryL l es ord 0 now).2)) (bookH l ep c (tryL l es ord 0 now).1)) := by
  refine callW_ofD mixed Try.func78 (by decide) rfl rfl rfl rfl (congrArg Array.toList Try.results78) Try.ntmps78 (by decide) (by decide) (by decide) 25 (by simp) (by decide) ?_
  simp [bookH, accL, entryL, ints]
  refine dmid_of [.ref 2 0] 25 [6] [.box false [accL l, .own 1 ep 0 now.length c], .rows none ep 3 1 (rowsI now), .box false [.v (.int .i64 0)]] [.ref 0 0, entryL es, ints ord, .undef, .undef, .undef, .ref 2 0, .undef, .undef, .undef, .undef, .undef, .undef, .undef, .undef, .undef, .undef, .undef, .undef, .undef, .undef, .undef, .undef, .undef, .undef] rfl (by decide) (by decide) rfl ?_ ?_ ?_ (by simp) ?_
  · simp [accL]
  · simp [slots, entryL, ints]
  · simp
  simp [accL, entryL, ints]
  refine pwp_loop (fun s : Nat × List Int => [(12, .v (.int .i64 s.1)), (26, .rows none ep 3 1 (rowsI s.2))]) (fun s => s.1 ≤ ord.length ∧ s.2.length = l.length ∧ (∀ j, j < s.2.length → -(20000000000 + 1000000000 * (s.1 : Int)) ≤ geti s.2 j ∧ geti s.2 j ≤ 20000000000 + 1000000000 * (s.1 : Int)) ∧ tryL l es (ord.drop s.1) s.1 s.2 = tryL l es ord 0 now) (fun s => ord.length - s.1) (0, now)
    ⟨Nat.zero_le _, hn, fun j hj => by have := hb j hj; simp; omega, rfl⟩ (by simp; rfl) (by simp) ?_
  rintro ⟨k, nw⟩ ⟨hk, hnl, hbd, htr⟩
  simp only at hk hnl hbd htr
  by_cases hkl : k < ord.length
  · have hik := hin k hkl
    have hlt : (geti ord k).toNat < es.length := by omega
    obtain ⟨e1, e2, e3, e4⟩ := he.each _ hlt
    have hdrop : ord.drop k = geti ord k :: ord.drop (k + 1) := by
      rw [List.drop_eq_getElem_cons hkl]; simp [geti, hkl]
    rw [hdrop, tryL] at htr
    have hp := post_spec l nw ep c k (entryAt es (geti ord k).toNat) hnl e1 e2 e4 (fun j hj => by have := hbd j hj; omega)
    simp [hkl, hik, Entry.cells, hnl, hn]
    refine pop_callW hp rfl [25, 26] false (by decide) ?_ (.inl ?_) ?_
    · simp [bookH, accL, hnl]
    · simp [Entry.cells]
    · intro out ho
      subst ho
      by_cases hm : mayB l nw (entryAt es (geti ord k).toNat) = true
      · rw [if_pos hm] at htr
        simp only [hm, if_true]
        refine ⟨[], ?_, by simp, ?_, ?_⟩
        · simp [backOk, bookH, made_length]
        · simp [back, backV, placeAll, bookH, accL, made_length, hnl]
        · simp [back, backV, placeAll, bookH, accL, made_length, hnl]
          refine again_of (k + 1, made nw (entryAt es (geti ord k).toNat)) ⟨by simp; omega, by simp [made_length, hnl], ?_, ?_⟩ (by simp; omega) ?_
          · intro j hj
            have := made_bound e4 hbd (by omega) (by omega) (by omega) j hj
            simp at this ⊢
            omega
          · exact htr
          · simp [i64_wrap (show -9223372036854775808 ≤ (k : Int) + 1 ∧ _ from by omega), hn]
      · rw [if_neg hm] at htr
        simp only [hm, if_false]
        refine ⟨[], ?_, by simp, ?_⟩
        · simp [backOk, bookH]
        · simp [back, backV, placeAll, bookH, accL, hnl]
          refine dpost_p rfl rfl ?_
          refine dend_of [27] [.box false [.v (.int .i64 0)]] [.ref 0 0] (by decide) ?_ ?_ (try1_some 0 k) rfl rfl (.v (.int .i64 k)) (bookH l ep c nw) [] ?_ ?_
          · simp
          · simp
          · refine ⟨by decide, ?_, ?_⟩
            · simp [back, placeAll, bookH, accL, hnl]
            · simp [back, placeAll]
          · rw [← htr]; simp [bookH, accL, hnl]
  · obtain rfl : k = ord.length := by omega
    rw [List.drop_length, tryL] at htr
    simp [hkl]
    refine dpost_r ?_
    refine dend_of [27] [.box false [.v (.int .i64 (-1))]] [.ref 0 0] (by decide) ?_ ?_ (try1_none (-1)) rfl rfl (.v (.int .i64 (-1))) (bookH l ep c nw) [] ?_ ?_
    · simp
    · simp
    · refine ⟨by decide, ?_, ?_⟩
      · simp [back, placeAll, bookH, accL, hnl, hn]
      · simp [back, placeAll]
    · rw [← htr]; simp [bookH, accL, hnl]
end Go.Qg

/-! Contracts of lengths, share, Share. No condition. -/
namespace Go.Qg
open Go.Proofs
set_option maxRecDepth 100000
set_option maxHeartbeats 4000000
attribute [local irreducible] pwp pops pdraw pop popCall pdCall thenP blockP scopeP pspec Spec answers ppost CallW

/-- The sum of the first k. -/
def far (l : List Int) : Nat → Int
  | 0 => 0
  | k + 1 => far l k + geti l k
theorem far_bound {l : List Int} {c : Int} {n : Nat} (h : ∀ k, k < n → 0 ≤ geti l k ∧ geti l k ≤ c) : ∀ k, k ≤ n → 0 ≤ far l k ∧ far l k ≤ c * k
  | 0, _ => by simp [far]
  | k + 1, hk => by
    have h1 := far_bound h k (by omega)
    have h2 := h k (by omega)
    simp only [far]
    have : c * ((k + 1 : Nat) : Int) = c * k + c := by rw [Int.natCast_add, Int.mul_add]; simp
    omega
theorem far_mono {l : List Int} {n : Nat} (h : ∀ k, k < n → 0 ≤ geti l k) : ∀ j k, j ≤ k → k ≤ n → far l j ≤ far l k
  | j, 0, hj, _ => by obtain rfl : j = 0 := by omega
                      simp
  | j, k + 1, hj, hk => by
    rcases Nat.lt_or_eq_of_le hj with h1 | rfl
    · have := far_mono h j k (by omega) (by omega)
      have := h k (by omega)
      simp only [far]; omega
    · exact Int.le_refl _
theorem sumL_far {l : List Int} (h : ∀ k, k ≤ l.length → -9223372036854775808 ≤ far l k ∧ far l k ≤ 9223372036854775807) : ∀ k, k ≤ l.length → sumL (l.take k) = far l k
  | 0, _ => by simp [sumL, far]
  | k + 1, hk => by
    rw [sumL_snoc l k (by omega), sumL_far h k (by omega), ← far, i64_wrap (h (k + 1) hk)]
theorem sumL_all {l : List Int} (h : ∀ k, k ≤ l.length → -9223372036854775808 ≤ far l k ∧ far l k ≤ 9223372036854775807) : sumL l = far l l.length := by
  have := sumL_far h l.length (Nat.le_refl _)
  rwa [List.take_length] at this

/-- n numbers. -/
def mk (n : Nat) (f : Nat → Int) : List Int := (List.range n).map f
@[simp] theorem mk_length (n : Nat) (f : Nat → Int) : (mk n f).length = n := by simp [mk]
theorem geti_mk {n : Nat} {f : Nat → Int} {i : Nat} (h : i < n) : geti (mk n f) i = f i := by simp [geti, mk, h]

def lensB (l : List Int) : Bool := allN l.length fun k => inB (geti l k) 0 10000
def lengthsE (amount : Int) (l : List Int) : Int :=
  if 8 < l.length then 3 else if inB amount 0 1000000000 && lensB l && decide (far l l.length ≠ 0) then 0 else 2

theorem lens_spec {l : List Int} : lensB l = true ↔ ∀ k, k < l.length → 0 ≤ geti l k ∧ geti l k ≤ 10000 := by simp only [lensB, allN_spec, inB_spec]

theorem lengths1_spec (i n : Int) : Spec Try.prog 102 [.v (.int .i64 i), .v (.int .i64 n)] (.v (.bool (inB n 0 10000))) := by
  refine spec_of mixed Try.func102 (by decide) rfl Try.results102 Try.ntmps102 (by decide) 0 (by simp) ?_
  simp
  refine pop_spec (in_spec n 0 10000) rfl false (.inl (by simp)) (.inl rfl) rfl (by simp) ?_
  simp
  refine answers_of rfl ?_; simp

theorem lengths_spec (amount : Int) (l : List Int) (hl : l.length ≤ 9223372036854775807) : Spec Try.prog 72 [.v (.int .i64 amount), ints l] (.v (.int .i64 (lengthsE amount l))) := by
  refine spec_of mixed Try.func72 (by decide) rfl Try.results72 Try.ntmps72 (by decide) 0 (by simp) ?_
  simp [ints]
  by_cases h0 : 8 < l.length
  · simp [show (8 : Int) < l.length from by omega]
    have hr : lengthsE amount l = 3 := by simp [lengthsE, h0]
    rw [hr]; exact answers_plain (by simp) rfl
  · simp [show ¬ (8 : Int) < l.length from by omega, show (l.length : Int) ≤ 8 from by omega]
    refine pop_spec (money_spec [amount] (by simp)) rfl true (.inl (by simp [ints, geti])) (.inr rfl) rfl (by simp) ?_
    cases h1 : inB amount 0 1000000000 with
    | false =>
      simp [geti, h1]
      have hr : lengthsE amount l = 2 := by simp [lengthsE, h0, h1]
      rw [hr]; exact answers_plain (by simp) rfl
    | true =>
      simp [geti, h1]
      refine pop_spec (allInt_spec l hl 102 [] [] rfl rfl _ fun k hk => lengths1_spec k (geti l k)) rfl false (.inl (by simp [ints, geti])) (.inl rfl) rfl (by simp) ?_
      have e : allN l.length (fun k => inB (geti l k) 0 10000) = lensB l := rfl
      rw [e]
      cases h2 : lensB l with
      | false =>
        simp
        have hr : lengthsE amount l = 2 := by simp [lengthsE, h0, h1, h2]
        rw [hr]; exact answers_plain (by simp) rfl
      | true =>
        simp
        refine pop_spec (fsum_spec l hl) rfl false (.inl (by simp [ints, geti])) (.inl rfl) rfl (by simp) ?_
        have hf := far_bound (lens_spec.1 h2)
        rw [sumL_all fun k hk => by have := hf k hk; omega]
        by_cases h3 : far l l.length = 0
        · simp [h3]
          have hr : lengthsE amount l = 2 := by simp [lengthsE, h0, h1, h2, h3]
          rw [hr]; exact answers_plain (by simp) rfl
        · simp [h3]
          have hr : lengthsE amount l = 0 := by simp [lengthsE, h0, h1, h2, h3]
          rw [hr]; exact answers_plain (by simp) rfl

/-- The shares. -/
def shareTo (amount : Int) (l : List Int) (k : Nat) : Int := amount * far l k / far l l.length
def shareL (amount : Int) (l : List Int) : List Int := mk l.length fun k => shareTo amount l (k + 1) - shareTo amount l k
structure ShareOk (amount : Int) (l : List Int) : Prop where
  amount : 0 ≤ amount ∧ amount ≤ 1000000000
  len : l.length ≤ 8
  each : ∀ k, k < l.length → 0 ≤ geti l k ∧ geti l k ≤ 10000
  whole : far l l.length ≠ 0
theorem share_ok {amount : Int} {l : List Int} (h : lengthsE amount l = 0) : ShareOk amount l := by
  unfold lengthsE at h
  split at h
  · omega
  · split at h
    · rename_i h1 h2
      simp only [Bool.and_eq_true, decide_eq_true_eq] at h2
      exact ⟨inB_spec.1 h2.1.1, by omega, lens_spec.1 h2.1.2, h2.2⟩
    · omega
theorem ShareOk.to {amount : Int} {l : List Int} (h : ShareOk amount l) {k : Nat} (hk : k ≤ l.length) : (0 ≤ amount * far l k ∧ amount * far l k ≤ 80000000000000) ∧ 1 ≤ far l l.length ∧ far l l.length ≤ 80000 ∧ 0 ≤ shareTo amount l k ∧ shareTo amount l k ≤ 80000000000000 := by
  have h1 := far_bound h.each k hk
  have h2 := far_bound h.each l.length (Nat.le_refl _)
  have h3 := h.whole
  have h4 := h.len
  have e0 : 0 ≤ amount * far l k := Int.mul_nonneg h.amount.1 h1.1
  have e1 : amount * far l k ≤ 1000000000 * 80000 := Int.mul_le_mul h.amount.2 (by omega) h1.1 (by omega)
  have e2 : 0 ≤ shareTo amount l k := Int.ediv_nonneg e0 h2.1
  have e3 : shareTo amount l k ≤ amount * far l k := Int.ediv_le_self _ e0
  omega
theorem ShareOk.mono {amount : Int} {l : List Int} (h : ShareOk amount l) {k : Nat} (hk : k < l.length) : shareTo amount l k ≤ shareTo amount l (k + 1) := by
  unfold shareTo
  have h1 : far l k ≤ far l (k + 1) := by have := (h.each k hk).1; simp only [far]; omega
  refine Int.ediv_le_ediv ?_ (Int.mul_le_mul_of_nonneg_left h1 h.amount.1)
  have := (h.to (Nat.le_refl l.length)).2.1
  omega

theorem share_spec (amount : Int) (l : List Int) (h : ShareOk amount l) : Spec Try.prog 74 [.v (.int .i64 amount), ints l] (ints (shareL amount l)) := by
  have h8 := h.len
  have hw := h.whole
  refine spec_of mixed Try.func74 (by decide) rfl Try.results74 Try.ntmps74 (by decide) 0 (by simp) ?_
  simp [ints]
  refine pop_spec (fsum_spec l (by omega)) rfl false (.inl (by simp [ints, geti])) (.inl rfl) rfl (by simp) ?_
  have hf := far_bound h.each
  rw [sumL_all fun k hk => by have := hf k hk; omega]
  simp
  refine pwp_loop (fun k : Nat => [(5, .own 31 k 0 k false), (6, .v (.int .i64 (shareTo amount l k))), (7, .v (.int .i64 (far l k))), (15, .v (.int .i64 k)), (31, .rows none k 3 1 (rowsOf (fun i => [.v (.int .i64 (shareTo amount l (i + 1) - shareTo amount l i))]) k))]) (fun k => k ≤ l.length) (fun k => l.length - k) 0 (Nat.zero_le _) (by simp; rfl) (by simp [shareTo, far]) ?_
  intro k hk
  by_cases hkl : k < l.length
  · have hk1 := hf (k + 1) hkl
    obtain ⟨a1, a2, a3, a4⟩ := h.to (k := k + 1) hkl
    obtain ⟨_, _, _, b4⟩ := h.to (k := k) hk
    have w1 : IntKind.i64.wrap (far l k + geti l k) = far l (k + 1) := i64_wrap (n := far l (k + 1)) (by omega)
    have w2 : IntKind.i64.wrap (amount * far l (k + 1)) = amount * far l (k + 1) := i64_wrap (by omega)
    have w3 : IntKind.i64.wrap ((amount * far l (k + 1)).tdiv (far l l.length)) = shareTo amount l (k + 1) := i64_quo (by omega)
    have w4 : IntKind.i64.wrap (shareTo amount l (k + 1) - shareTo amount l k) = shareTo amount l (k + 1) - shareTo amount l k := i64_wrap (by omega)
    simp [hkl, w1, w2, w3, w4, hw, show (k + 1) * 8 ≤ 140737488355328 from by omega, show k + 1 ≤ maxLen from by simp [maxLen]; omega]
    refine again_of (k + 1) (by omega) (by omega) ?_
    simp [i64_wrap (show -9223372036854775808 ≤ (k : Int) + 1 ∧ _ from by omega), rowsOf_snoc]
  · simp [hkl]
    obtain rfl : k = l.length := by omega
    refine answers_of rfl ?_
    simp [shareL]
    intro k hk; simp [geti_mk hk, rowsOf_get hk]

theorem Share_spec (amount : Int) (l : List Int) (hl : l.length ≤ 9223372036854775807) : Spec Try.prog 35 [.v (.int .i64 amount), ints l] (.tup [ints (if lengthsE amount l = 0 then shareL amount l else []), .v (.int .i64 (lengthsE amount l))]) := by
  refine spec_of mixed Try.func35 (by decide) rfl Try.results35 Try.ntmps35 (by decide) 0 (by simp) ?_
  simp [ints]
  refine pop_spec (lengths_spec amount l hl) rfl false (.inl (by simp [ints, geti])) (.inl rfl) rfl (by simp) ?_
  by_cases h : lengthsE amount l = 0
  · simp [h]
    refine pop_spec (share_spec amount l (share_ok h)) rfl false (.inl (by simp [ints, geti])) (.inl rfl) rfl (by simp [ints]) ?_
    simp [ints]
    refine answers_of rfl ?_; simp [ints]
  · simp [h]
    refine answers_of rfl ?_; simp [ints]

end Go.Qg

/-! Contracts of slices.Clone, of open, of the search of Settle, of Settle. No condition. -/
namespace Go.Qg
open Go.Proofs
set_option maxRecDepth 100000
set_option maxHeartbeats 4000000
attribute [local irreducible] pwp pops pdraw pop popCall pdCall thenP blockP scopeP pspec Spec answers ppost CallW dleaves dpost dmid DefW

theorem rowsI_range (l : List Int) : (List.range l.length).map (fun i => [PV.v (.int .i64 (geti l i))]) = rowsI l := by
  refine List.ext_getElem? fun i => ?_
  by_cases h : i < l.length
  · rw [rowsI_get h, List.getElem?_map, List.getElem?_range h]; rfl
  · rw [List.getElem?_eq_none (by simp; omega), List.getElem?_eq_none (by simp; omega)]

theorem clone_spec (l : List Int) (h0 : 0 < l.length) (hl : l.length ≤ 1000000) : CallW Try.prog 77 [ints l] [] (fun out => out = .ret (.own 0 1 0 l.length false) [.rows none 1 3 1 (rowsI l)]) := by
  refine callW_of mixed Try.func77 (by decide) rfl (congrArg Array.toList Try.results77) Try.ntmps77 (by decide) 8 (by simp) (by decide) ?_
  simp [ints, h0]
  simp [rowsI_range, show l.length * 8 ≤ 140737488355328 from by omega, show l.length ≤ maxLen from by simp [maxLen]; omega]
  refine ends_of (.own 0 1 0 l.length false) [.rows none 1 3 1 (rowsI l)] [5] rfl (by decide) ?_ ?_ rfl
  · simp
  · simp

theorem open_spec (l : List Acc) (hl : l.length ≤ 1000000000000) : CallW Try.prog 79 [accL l] [] (fun out => out = .ret (.ref 0 0) (bookH l l.length false (mk l.length fun i => (accAt l i).bal))) := by
  have hrow : rowsOf (fun i => [PV.v (.int .i64 (accAt l i).bal)]) l.length = rowsI (mk l.length fun i => (accAt l i).bal) := by
    simp [rowsOf, rowsI, mk]
  refine callW_of mixed Try.func79 (by decide) rfl (congrArg Array.toList Try.results79) Try.ntmps79 (by decide) 28 (by simp) (by decide) ?_
  simp [accL]
  refine pwp_loop (fun k : Nat => [(8, .box true [accL l, .own 23 k 0 k false]), (11, .v (.int .i64 k)), (23, .rows none k 3 1 (rowsOf (fun i => [.v (.int .i64 (accAt l i).bal)]) k))]) (fun k => k ≤ l.length) (fun k => l.length - k) 0 (Nat.zero_le _) (by simp; rfl) (by simp [accL]) ?_
  intro k hk
  by_cases h : k < l.length
  · simp [h, accL, Acc.cells]
    refine pwp_draw 12 (by decide) ?_
    simp [show (k + 1) * 8 ≤ 140737488355328 from by omega, show k + 1 ≤ maxLen from by simp [maxLen]; omega]
    refine ⟨by decide, ?_⟩
    refine again_of (k + 1) (by omega) (by omega) ?_
    simp [i64_wrap (show -9223372036854775808 ≤ (k : Int) + 1 ∧ _ from by omega), rowsOf_snoc, Acc.cells]
  · simp [h]
    obtain rfl : k = l.length := by omega
    refine ends_of (.ref 0 0) (bookH l l.length false (mk l.length fun i => (accAt l i).bal)) [8, 23] rfl (by decide) ?_ ?_ rfl
    · simp [bookH, accL, hrow]
    · simp
end Go.Qg

/-! The contract of proof. No condition. -/
namespace Go.Qg
open Go.Proofs
set_option maxRecDepth 100000
set_option maxHeartbeats 4000000
attribute [local irreducible] pwp pops pdraw pop popCall pdCall thenP blockP scopeP pspec Spec answers ppost CallW rend

/-- The least cost of the first n legs, with the first k uses, where lst are the least costs of fewer legs. -/
def leastN (l : List Use) (lst : List Int) (n : Int) : Nat → Option Int
  | 0 => none
  | k + 1 =>
    if (useAt l k).leg < n ∧ n ≤ (useAt l k).fin then
      match leastN l lst n k with
      | none => some (geti lst (useAt l k).leg.toNat + (useAt l k).price)
      | some v => if geti lst (useAt l k).leg.toNat + (useAt l k).price < v then some (geti lst (useAt l k).leg.toNat + (useAt l k).price) else some v
    else leastN l lst n k
/-- The least costs of the first n legs. -/
def lstTo (l : List Use) (legs : Nat) : Nat → List Int
  | 0 => List.replicate (legs + 1) 0
  | n + 1 => (lstTo l legs n).set (n + 1) ((leastN l (lstTo l legs n) ((n + 1 : Nat) : Int) l.length).getD 0)
def proofL (l : List Use) (legs : Nat) : List Int := mk legs fun n => geti (lstTo l legs (n + 1)) (n + 1) - geti (lstTo l legs (n + 1)) n

structure LegsOk (l : List Use) (legs : Nat) : Prop where
  n : l.length ≤ 200
  few : legs ≤ 20
  each : ∀ k, k < l.length → 0 ≤ (useAt l k).leg ∧ (useAt l k).leg ≤ (legs : Int) ∧ -10000000000 ≤ (useAt l k).price ∧ (useAt l k).price ≤ 10000000000
@[simp] theorem lstTo_length (l : List Use) (legs : Nat) : ∀ n, (lstTo l legs n).length = legs + 1
  | 0 => by simp [lstTo]
  | n + 1 => by simp [lstTo, lstTo_length l legs n]
theorem lstTo_zero (l : List Use) (legs : Nat) : ∀ n k, n < k → k ≤ legs → geti (lstTo l legs n) k = 0
  | 0, k, _, hk => by simp [lstTo, geti, List.getElem?_replicate, show k < legs + 1 from by omega]
  | n + 1, k, h1, hk => by
    rw [lstTo, geti_set (by simp; omega), if_neg (by omega)]
    exact lstTo_zero l legs n k (by omega) hk
theorem leastN_bound {l : List Use} {legs : Nat} (h : LegsOk l legs) {lst : List Int} {n : Nat} (hl : lst.length = legs + 1) (hn : n ≤ legs) {c : Int} (hc : 0 ≤ c) (hb : ∀ k, k < n → -c ≤ geti lst k ∧ geti lst k ≤ c) : ∀ k, k ≤ l.length → -(c + 10000000000) ≤ (leastN l lst n k).getD 0 ∧ (leastN l lst n k).getD 0 ≤ c + 10000000000
  | 0, _ => by simp [leastN]; omega
  | k + 1, hk => by
    have ih := leastN_bound h hl hn hc hb k (by omega)
    have hu := h.each k hk
    simp only [leastN]
    split
    · rename_i h1
      have hg := hb (useAt l k).leg.toNat (by omega)
      cases hx : leastN l lst n k with
      | none => simp; omega
      | some v =>
        rw [hx] at ih
        simp at ih
        simp only
        split <;> simp <;> omega
    · exact ih
theorem lstTo_bound {l : List Use} {legs : Nat} (h : LegsOk l legs) : ∀ n, n ≤ legs → ∀ k, k ≤ legs → -(10000000000 * (n : Int)) ≤ geti (lstTo l legs n) k ∧ geti (lstTo l legs n) k ≤ 10000000000 * (n : Int)
  | 0, _, k, hk => by simp [lstTo, geti, List.getElem?_replicate, show k < legs + 1 from by omega]
  | n + 1, hn, k, hk => by
    have ih := lstTo_bound h n (by omega)
    rw [lstTo, geti_set (by simp; omega)]
    split
    · have := leastN_bound h (lst := lstTo l legs n) (n := n + 1) (by simp) hn (c := 10000000000 * (n : Int)) (by omega) (fun k hk => ih k (by omega)) l.length (Nat.le_refl _)
      push_cast at this ⊢
      omega
    · have := ih k hk
      push_cast
      omega

theorem set_same {l : List Int} {i : Nat} (h : i < l.length) (h0 : geti l i = 0) : l.set i 0 = l := by
  refine List.ext_getElem? fun j => ?_
  rw [List.getElem?_set]
  split
  · rename_i hij; subst hij
    simp [geti, h] at h0
    simp [h, h0]
  · rfl
theorem rowsI_rep (n : Nat) : List.replicate n [PV.v (.int .i64 0)] = rowsI (List.replicate n 0) := by simp [rowsI]

theorem proof_spec (l : List Use) (legs : Nat) (h : LegsOk l legs) : Spec Try.prog 67 [useL l, .v (.int .i64 legs)] (ints (proofL l legs)) := by
  have hn := h.n
  have hf := h.few
  have w0 := i64_wrap (show -9223372036854775808 ≤ (legs : Int) + 1 ∧ _ from by omega)
  refine spec_of mixed Try.func67 (by decide) rfl Try.results67 Try.ntmps67 (by decide) 0 (by simp) ?_
  simp [useL, w0, rowsI_rep, show 0 ≤ (legs : Int) + 1 from by omega, show 8 * ((legs : Int) + 1) ≤ 281474976710656 from by omega, show (legs : Int) + 1 ≤ 9223372036854775807 from by omega]
  refine pwp_loop (fun m : Nat => [(5, .own 14 0 0 (legs + 1) false), (6, .own 73 m 0 m false), (7, .v (.int .i64 ((m : Int) + 1))), (14, .rows none 0 3 1 (rowsI (lstTo l legs m))), (73, .rows none m 3 1 (rowsOf (fun i => [.v (.int .i64 (geti (lstTo l legs (i + 1)) (i + 1) - geti (lstTo l legs (i + 1)) i))]) m))]) (fun m => m ≤ legs) (fun m => legs - m) 0 (Nat.zero_le _) (by simp; rfl) (by simp [lstTo]) ?_
  intro m hm
  by_cases hml : m < legs
  · simp [show (m : Int) + 1 ≤ (legs : Int) from by omega]
    have hset : (lstTo l legs m).set (m + 1) 0 = lstTo l legs m := set_same (by simp; omega) (lstTo_zero l legs m (m + 1) (by omega) (by omega))
    refine pwp_loop (fun k : Nat => [(8, .v (.bool (leastN l (lstTo l legs m) ((m : Int) + 1) k).isSome)), (22, .v (.int .i64 k)), (14, .rows none 0 3 1 (rowsI ((lstTo l legs m).set (m + 1) ((leastN l (lstTo l legs m) ((m : Int) + 1) k).getD 0))))]) (fun k => k ≤ l.length) (fun k => l.length - k) 0 (Nat.zero_le _) (by simp; rfl) (by simp [leastN, hset]) ?_
    intro k hk
    have wm := i64_wrap (show -9223372036854775808 ≤ (m : Int) + 1 + 1 ∧ _ from by omega)
    by_cases hkl : k < l.length
    · have wk := i64_wrap (show -9223372036854775808 ≤ (k : Int) + 1 ∧ _ from by omega)
      have hue : (useAt l k).cells = [.v (.int .i64 (useAt l k).offer), .v (.int .i64 (useAt l k).leg), .v (.int .i64 (useAt l k).fin), .v (.int .i64 (useAt l k).price)] := rfl
      obtain ⟨u1, u2, u3, u4⟩ := h.each k hkl
      by_cases h1 : (useAt l k).leg < (m : Int) + 1
      · by_cases h2 : (m : Int) + 1 ≤ (useAt l k).fin
        · have hlt : (useAt l k).leg.toNat < legs + 1 := by omega
          have hgl : ∀ x, geti ((lstTo l legs m).set (m + 1) x) (useAt l k).leg.toNat = geti (lstTo l legs m) (useAt l k).leg.toNat := fun x => by
            rw [geti_set (by simp; omega), if_neg (by omega)]
          have hgn : ∀ x, geti ((lstTo l legs m).set (m + 1) x) (m + 1) = x := fun x => by
            rw [geti_set (by simp; omega), if_pos rfl]
          have hbd := lstTo_bound h m (by omega) (useAt l k).leg.toNat (by omega)
          have w1 : IntKind.i64.wrap (geti (lstTo l legs m) (useAt l k).leg.toNat + (useAt l k).price) = geti (lstTo l legs m) (useAt l k).leg.toNat + (useAt l k).price := i64_wrap (by omega)
          cases hq : leastN l (lstTo l legs m) ((m : Int) + 1) k with
          | none =>
            have hq2 : leastN l (lstTo l legs m) ((m : Int) + 1) (k + 1) = some (geti (lstTo l legs m) (useAt l k).leg.toNat + (useAt l k).price) := by simp [leastN, h1, h2, hq]
            simp [hkl, hue, h1, h2, hq, hset]
            refine pwp_draw 10 (by decide) ?_
            simp [u1, show (useAt l k).leg < (legs : Int) + 1 from by omega, hlt, w1]
            refine ⟨by decide, ?_⟩
            simp [show (0 : Int) ≤ (m : Int) + 1 from by omega, show (m : Int) < (legs : Int) from by omega, hml, rowsI_set]
            refine again_of (k + 1) (by omega) (by omega) ?_
            simp [wk, hq2]
          | some v =>
            by_cases h3 : geti (lstTo l legs m) (useAt l k).leg.toNat + (useAt l k).price < v
            · have hq2 : leastN l (lstTo l legs m) ((m : Int) + 1) (k + 1) = some (geti (lstTo l legs m) (useAt l k).leg.toNat + (useAt l k).price) := by simp [leastN, h1, h2, hq, h3]
              simp [hkl, hue, h1, h2, hq]
              refine pwp_draw 10 (by decide) ?_
              simp [u1, show (useAt l k).leg < (legs : Int) + 1 from by omega, hlt, hgl, w1]
              refine ⟨by decide, ?_⟩
              simp [show (0 : Int) ≤ (m : Int) + 1 from by omega, show (m : Int) < (legs : Int) from by omega, hml, hgn, h3, rowsI_set]
              refine again_of (k + 1) (by omega) (by omega) ?_
              simp [wk, hq2]
            · have hq2 : leastN l (lstTo l legs m) ((m : Int) + 1) (k + 1) = some v := by simp [leastN, h1, h2, hq, h3]
              simp [hkl, hue, h1, h2, hq]
              refine pwp_draw 10 (by decide) ?_
              simp [u1, show (useAt l k).leg < (legs : Int) + 1 from by omega, hlt, hgl, w1]
              refine ⟨by decide, ?_⟩
              simp [show (0 : Int) ≤ (m : Int) + 1 from by omega, show (m : Int) < (legs : Int) from by omega, hml, hgn, h3, Int.not_lt.1 h3]
              refine again_of (k + 1) (by omega) (by omega) ?_
              simp [wk, hq2]
        · have hq2 : leastN l (lstTo l legs m) ((m : Int) + 1) (k + 1) = leastN l (lstTo l legs m) ((m : Int) + 1) k := by simp [leastN, h2]
          simp [hkl, hue, h1, h2, Int.not_le.1 h2]
          refine again_of (k + 1) (by omega) (by omega) ?_
          simp [wk, hq2]
      · have hq2 : leastN l (lstTo l legs m) ((m : Int) + 1) (k + 1) = leastN l (lstTo l legs m) ((m : Int) + 1) k := by simp [leastN, h1]
        simp [hkl, hue, h1, Int.not_lt.1 h1]
        refine again_of (k + 1) (by omega) (by omega) ?_
        simp [wk, hq2]
    · obtain rfl : k = l.length := by omega
      simp [hkl]
      have hb1 := lstTo_bound h (m + 1) (by omega) (m + 1) (by omega)
      have hb2 := lstTo_bound h (m + 1) (by omega) m (by omega)
      have hl1 : (lstTo l legs m).set (m + 1) ((leastN l (lstTo l legs m) ((m : Int) + 1) l.length).getD 0) = lstTo l legs (m + 1) := rfl
      rw [hl1]
      have w2 : IntKind.i64.wrap (geti (lstTo l legs (m + 1)) (m + 1) - geti (lstTo l legs (m + 1)) m) = geti (lstTo l legs (m + 1)) (m + 1) - geti (lstTo l legs (m + 1)) m := i64_wrap (by omega)
      have w3 : IntKind.i64.wrap (m : Int) = (m : Int) := i64_wrap (by omega)
      refine pwp_draw 14 (by decide) ?_
      simp [show (0 : Int) ≤ (m : Int) + 1 from by omega, show (m : Int) < (legs : Int) from by omega, hml, w2, w3, show (m : Int) < (legs : Int) + 1 from by omega, show m < legs + 1 from by omega, show (m + 1) * 8 ≤ 140737488355328 from by omega, show m + 1 ≤ maxLen from by simp [maxLen]; omega]
      refine ⟨by decide, ?_⟩
      refine again_of (m + 1) (by omega) (by omega) ?_
      simp [wm, rowsOf_snoc]
  · simp [show ¬ (m : Int) + 1 ≤ (legs : Int) from by omega]
    obtain rfl : m = legs := by omega
    refine answers_of rfl ?_
    simp [ints, proofL]
    intro k hk
    simp [geti_mk hk, rowsOf_get hk]
end Go.Qg

/-! The contract of Best. No condition. -/
namespace Go.Qg
open Go.Proofs
set_option maxRecDepth 100000
set_option maxHeartbeats 4000000
attribute [local irreducible] pwp pops pdraw pop popCall pdCall thenP blockP scopeP pspec Spec answers ppost CallW rend

structure FUse where
  offer : Int
  leg : Int
  deriving Inhabited, DecidableEq
def FUse.cells (u : FUse) : List PV := [.v (.int .i64 u.offer), .v (.int .i64 u.leg)]
def fuseAt (l : List FUse) (i : Nat) : FUse := l.getD i default
def fuseL (l : List FUse) : PV := .sl 2 l.length fun i => (fuseAt l i).cells
def Use.plain (u : Use) : FUse := ⟨u.offer, u.leg⟩

structure BestR where
  uses : List FUse
  cost : Int
  proof : List Int
  err : Int
def bestBad (t : Table) (p : Person) (j : List Int) : Bool := !validB t || !inB p.weight 0 1000 || !routeB j
def bestOf (t : Table) (p : Person) (j : List Int) : BestR :=
  if bestBad t p j then ⟨[], 0, [], 2⟩
  else if (ansOf ((j.length : Int) - 1) (usesOf t p j) 0).is then ⟨(ansOf ((j.length : Int) - 1) (usesOf t p j) 0).tick.uses.map Use.plain, (ansOf ((j.length : Int) - 1) (usesOf t p j) 0).tick.cost, proofL (usesOf t p j) (j.length - 1), 0⟩
  else ⟨[], 0, [], 5⟩
def BestR.pv (r : BestR) : PV := .tup [fuseL r.uses, .v (.int .i64 r.cost), ints r.proof, .v (.int .i64 r.err)]

theorem price_bound {t : Table} {p : Person} {o : Offer} (ht : TableOk t) (ho : o ∈ t.offers) {n : Int} (h : priceOf t p o = some n) : 0 ≤ n ∧ n ≤ 9000000000 := by
  obtain ⟨⟨c1, c2⟩, c3, c4⟩ := ht.offer o ho
  have hx := extraOf_bound (w := p.weight) ht.extra
  have hv1 : 0 ≤ heavyOf t p o := Int.mul_nonneg hx.1 (by omega)
  have hv2 : heavyOf t p o ≤ 1000000000 * 8 := Int.mul_le_mul hx.2 (by omega) (by omega) (by omega)
  have hl : -o.cost ≤ lessOf t p o ∧ lessOf t p o ≤ 0 := by
    unfold lessOf
    split
    · have e0 : 0 ≤ o.cost * t.less := Int.mul_nonneg c1 ht.less.1
      have e1 : o.cost * t.less ≤ o.cost * 1000 := Int.mul_le_mul_of_nonneg_left ht.less.2 c1
      omega
    · omega
  unfold priceOf at h
  split at h
  · cases h
  · split at h
    · cases h
    · obtain rfl := Option.some.inj h
      omega
theorem usesAt_mem {t : Table} {p : Person} {j : List Int} {leg : Nat} {u : Use} : ∀ {i : Nat}, u ∈ usesAt t p j leg i → ∃ k, k < i ∧ useOf t p j leg k = some u
  | 0, h => by cases h
  | i + 1, h => by
    rcases List.mem_append.1 h with h | h
    · obtain ⟨k, hk, e⟩ := usesAt_mem h
      exact ⟨k, by omega, e⟩
    · exact ⟨i, by omega, by simpa using h⟩
theorem usesTo_mem {t : Table} {p : Person} {j : List Int} {u : Use} : ∀ {n : Nat}, u ∈ usesTo t p j n → ∃ leg k, leg < n ∧ k < t.offers.length ∧ useOf t p j leg k = some u
  | 0, h => by cases h
  | n + 1, h => by
    rcases List.mem_append.1 h with h | h
    · obtain ⟨leg, k, h1, h2⟩ := usesTo_mem h
      exact ⟨leg, k, by omega, h2⟩
    · obtain ⟨k, h1, h2⟩ := usesAt_mem h
      exact ⟨n, k, by omega, h1, h2⟩
theorem usesOf_mem {t : Table} {p : Person} {j : List Int} {u : Use} (ht : TableOk t) (h : u ∈ usesOf t p j) : ∃ leg k : Nat, leg < j.length - 1 ∧ k < t.offers.length ∧ useOf t p j leg k = some u ∧ u.offer = k ∧ u.leg = leg ∧ u.fin = leg + (offerAt t.offers k).places.length - 1 ∧ priceOf t p (offerAt t.offers k) = some u.price ∧ beginsB (j.drop leg) (offerAt t.offers k).places = true ∧ 0 ≤ u.price ∧ u.price ≤ 9000000000 := by
  obtain ⟨leg, k, h1, h2, h3⟩ := usesTo_mem h
  refine ⟨leg, k, h1, h2, h3, ?_⟩
  unfold useOf at h3
  split at h3
  · cases h3
  · rename_i n hn
    split at h3
    · rename_i hb
      obtain rfl := Option.some.inj h3
      have := price_bound ht (offerAt_mem h2) hn
      exact ⟨rfl, rfl, rfl, hn, hb, this⟩
    · cases h3

theorem route_ok {j : List Int} (h : routeB j = true) : 2 ≤ j.length ∧ j.length ≤ 9 := by
  simp only [routeB, Bool.and_eq_true] at h
  have := inB_spec.1 h.1
  omega
theorem usesOf_ok {t : Table} (ht : TableOk t) (p : Person) {j : List Int} (hj : 1 ≤ j.length ∧ j.length ≤ 9) : UsesOk (usesOf t p j) ∧ LegsOk (usesOf t p j) (j.length - 1) := by
  have hlen := usesOf_length ht p hj.2
  refine ⟨⟨fun u hu => ?_⟩, ⟨by omega, by omega, fun k hk => ?_⟩⟩
  · obtain ⟨_, _, _, _, _, _, _, _, _, _, h1, h2⟩ := usesOf_mem ht hu
    omega
  · have hu : useAt (usesOf t p j) k ∈ usesOf t p j := by simp [useAt, hk]
    obtain ⟨leg, _, h0, _, _, _, h3, _, _, _, h1, h2⟩ := usesOf_mem ht hu
    omega

theorem Best_spec (t : Table) (p : Person) (j : List Int) (hf : TableFit t) (hjf : j.length ≤ 9223372036854775807) : Spec Try.prog 20 [.agg t.cells, .agg p.cells, ints j] (bestOf t p j).pv := by
  refine spec_of mixed Try.func20 (by decide) rfl Try.results20 Try.ntmps20 (by decide) 0 (by simp) ?_
  simp [Table.cells, offerL, bandL, Person.cells, ints]
  refine pop_spec (valid_spec t hf.no hf.nb hf.np) rfl false (.inl (by simp [Table.cells, offerL, bandL])) (.inl rfl) rfl (by simp) ?_
  cases h1 : validB t with
  | false =>
    simp
    have hr : bestOf t p j = ⟨[], 0, [], 2⟩ := by simp [bestOf, bestBad, h1]
    rw [hr]
    refine answers_of rfl ?_; simp [BestR.pv, fuseL, ints]
  | true =>
    have ht := valid_ok h1
    simp
    refine pop_spec (weighed_spec p) rfl false (.inl (by simp [Person.cells])) (.inl rfl) rfl (by simp) ?_
    cases h2 : inB p.weight 0 1000 with
    | false =>
      simp
      have hr : bestOf t p j = ⟨[], 0, [], 2⟩ := by simp [bestOf, bestBad, h1, h2]
      rw [hr]
      refine answers_of rfl ?_; simp [BestR.pv, fuseL, ints]
    | true =>
      simp
      refine pop_spec (route_spec j hjf) rfl false (.inl (by simp [ints])) (.inl rfl) rfl (by simp) ?_
      cases h3 : routeB j with
      | false =>
        simp
        have hr : bestOf t p j = ⟨[], 0, [], 2⟩ := by simp [bestOf, bestBad, h1, h2, h3]
        rw [hr]
        refine answers_of rfl ?_; simp [BestR.pv, fuseL, ints]
      | true =>
        have hj := route_ok h3
        obtain ⟨hu1, hu2⟩ := usesOf_ok ht p (j := j) (by omega)
        have hbad : bestBad t p j = false := by simp [bestBad, h1, h2, h3]
        have w1 : IntKind.i64.wrap ((j.length : Int) - 1) = (j.length : Int) - 1 := i64_wrap (by omega)
        simp
        refine pop_spec (listed_spec t p j ht (by omega)) rfl false (.inl (by simp [deskC, offerL, bandL, ints])) (.inl rfl) rfl (by simp [useL]) ?_
        simp [w1, useL]
        refine pop_spec (best_spec (usesOf t p j) ((j.length : Int) - 1) hu2.n hu1) rfl false (.inl (by simp [useL])) (.inl rfl) rfl (by simp [Tick.cells_eq]) ?_
        have hxe := Tick.cells_eq (ansOf ((j.length : Int) - 1) (usesOf t p j) 0).tick
        have hxb := (ans_bound (legs := (j.length : Int) - 1) (a := 0) hu1).1
        have hlen := usesOf_length ht p hj.2
        cases h4 : (ansOf ((j.length : Int) - 1) (usesOf t p j) 0).is with
        | false =>
          simp [hxe]
          have hr : bestOf t p j = ⟨[], 0, [], 5⟩ := by simp [bestOf, hbad, h4]
          rw [hr]
          refine answers_of rfl ?_; simp [BestR.pv, fuseL, ints]
        | true =>
          have hr : bestOf t p j = ⟨(ansOf ((j.length : Int) - 1) (usesOf t p j) 0).tick.uses.map Use.plain, (ansOf ((j.length : Int) - 1) (usesOf t p j) 0).tick.cost, proofL (usesOf t p j) (j.length - 1), 0⟩ := by simp [bestOf, hbad, h4]
          rw [hr]
          simp [hxe]
          generalize (ansOf ((j.length : Int) - 1) (usesOf t p j) 0).tick = x at hxb
          refine pwp_loop (fun k : Nat => [(13, .own 55 k 0 k false), (47, .v (.int .i64 k)), (55, .rows none k 109 2 (rowsOf (fun i => (useAt x.uses i).plain.cells) k))]) (fun k => k ≤ x.uses.length) (fun k => x.uses.length - k) 0 (Nat.zero_le _) (by simp; rfl) (by simp) ?_
          intro k hk
          by_cases hkl : k < x.uses.length
          · simp [hkl, Use.cells, show (k + 1) * 16 ≤ 140737488355328 from by omega, show k + 1 ≤ maxLen from by simp [maxLen]; omega]
            refine again_of (k + 1) (by omega) (by omega) ?_
            simp [i64_wrap (show -9223372036854775808 ≤ (k : Int) + 1 ∧ _ from by omega), rowsOf_snoc, Use.plain, FUse.cells]
          · obtain rfl : k = x.uses.length := by omega
            have e1 : (j.length : Int) - 1 = ((j.length - 1 : Nat) : Int) := by omega
            have hp := proof_spec (usesOf t p j) (j.length - 1) hu2
            rw [← e1] at hp
            simp
            refine pwp_draw 12 (by decide) ?_
            simp [w1]
            refine pd_spec hp (by simp [useL]) (by simp) (by simp [useL]) (by simp [ints]) ?_
            simp [ints]
            refine ⟨by decide, ?_⟩
            refine answers_of rfl ?_
            simp [BestR.pv, fuseL, ints]
            intro k hk
            have e : fuseAt (x.uses.map Use.plain) k = (useAt x.uses k).plain := by simp [fuseAt, useAt, hk]
            simp [rowsOf_get hk, FUse.cells, e]
end Go.Qg

/-! The contract of the search of Settle. No condition. -/
namespace Go.Qg
open Go.Proofs
set_option maxRecDepth 100000
set_option maxHeartbeats 4000000
attribute [local irreducible] pwp pops pdraw pop popCall pdCall thenP blockP scopeP pspec Spec answers ppost CallW dleaves dpost dmid DefW

/-- The mask with entry i made, too; is it made? -/
def withI (m : Int) (i : Nat) : Int := bits .or .i64 m (IntKind.i64.wrap (2 ^ i))
def isI (m : Int) (i : Nat) : Bool := bits .and .i64 (m / 2 ^ i) 1 == 1
def dput (d : List Int) (m : Int) : List Int := if d.contains m then d else d ++ [m]

/-- The entries from i on, where rec searches further. -/
def srchI (rec : Int → List Int → List Int → List Int → Bool × List Int × List Int) (l : List Acc) (es : List Entry) (m : Int) (now : List Int) : Nat → Nat → List Int → List Int → Bool × List Int × List Int
  | 0, _, o, d => (false, o, dput d m)
  | c + 1, i, o, d =>
    if isI m i || d.contains (withI m i) then srchI rec l es m now c (i + 1) o d
    else if mayB l now (entryAt es i) then
      match rec (withI m i) (made now (entryAt es i)) (o ++ [(i : Int)]) d with
      | (true, o', d') => (true, o', d')
      | (false, o', d') => srchI rec l es m now c (i + 1) (o'.take (o'.length - 1)) d'
    else srchI rec l es m now c (i + 1) o d
def srch (l : List Acc) (es : List Entry) : Nat → Int → List Int → List Int → List Int → Bool × List Int × List Int
  | 0, _, _, o, d => (true, o, d)
  | n + 1, m, now, o, d => if o.length = es.length then (true, o, d) else srchI (srch l es n) l es m now es.length 0 o d

theorem srchI_order {rec : Int → List Int → List Int → List Int → Bool × List Int × List Int} {l : List Acc} {es : List Entry} {m : Int} {now : List Int} (h : ∀ m now o d, (rec m now o d).1 = false → (rec m now o d).2.1 = o) :
    ∀ (c i : Nat) (o d : List Int), (srchI rec l es m now c i o d).1 = false → (srchI rec l es m now c i o d).2.1 = o
  | 0, _, _, _ => fun _ => rfl
  | c + 1, i, o, d => by
    simp only [srchI]
    split
    · exact srchI_order h c (i + 1) o d
    · split
      · have h1 := h (withI m i) (made now (entryAt es i)) (o ++ [(i : Int)]) d
        generalize rec (withI m i) (made now (entryAt es i)) (o ++ [(i : Int)]) d = r at h1
        obtain ⟨b, o', d'⟩ := r
        cases b with
        | true => intro h2; cases h2
        | false =>
          have h1 : o' = o ++ [(i : Int)] := h1 rfl
          subst h1
          have e : (o ++ [(i : Int)]).take ((o ++ [(i : Int)]).length - 1) = o := by simp
          simp only [e]
          exact srchI_order h c (i + 1) o d'
      · exact srchI_order h c (i + 1) o d
theorem srch_order (l : List Acc) (es : List Entry) : ∀ (n : Nat) (m : Int) (now o d : List Int), (srch l es n m now o d).1 = false → (srch l es n m now o d).2.1 = o
  | 0, _, _, _, _ => fun h => by cases h
  | n + 1, m, now, o, d => by
    simp only [srch]
    split
    · intro h; cases h
    · exact srchI_order (srch_order l es n) _ _ _ _

/-- What the search is lent: the order (q: what has been there), the entries, the dead ends, the accounts, itself. -/
def srchH (l : List Acc) (es : List Entry) (o : List Int) (ep : Nat) (q d : List Int) : PF :=
  [.box false [.own 5 ep 0 o.length false], .box false [entryL es], .box false [.mp 6], .box false [accL l], .box false [.clo (.func 76) [] [.ref 0 0, .ref 1 0, .ref 2 0, .ref 3 0, .ref 4 0]], .rows none ep 3 1 (rowsI q), .map false (keysI d) (trues d)]

structure NowOk (l : List Acc) (now : List Int) (c : Int) : Prop where
  len : now.length = l.length
  each : ∀ k, k < now.length → -c ≤ geti now k ∧ geti now k ≤ c

theorem search_spec (l : List Acc) (es : List Entry) (hl : 0 < l.length ∧ l.length ≤ 8) (he : EntriesOk l.length es) (hes : es.length ≤ 7) : ∀ (n : Nat) (m : Int) (now o q d : List Int) (ep : Nat), es.length = o.length + n → q.take o.length = o → o.length ≤ q.length →
    NowOk l now (1000000000 + 1000000000 * (o.length : Int)) →
    CallW Try.prog 76 [.v (.int .i64 m), ints now, .ref 0 0, .ref 1 0, .ref 2 0, .ref 3 0, .ref 4 0] (srchH l es o ep q d) (fun out => ∃ ep' q', q'.take (srch l es n m now o d).2.1.length = (srch l es n m now o d).2.1 ∧ (srch l es n m now o d).2.1.length ≤ q'.length ∧
      out = .ret (.v (.bool (srch l es n m now o d).1)) (srchH l es (srch l es n m now o d).2.1 ep' q' (srch l es n m now o d).2.2)) := by
  intro n
  induction n with
  | zero =>
    intro m now o q d ep hn hq hql hnow
    refine callW_of mixed Try.func76 (by decide) rfl (congrArg Array.toList Try.results76) Try.ntmps76 (by decide) 68 (by simp) (by decide) ?_
    simp [srchH, entryL, ints, accL, show o.length = es.length from by omega]
    refine ends_of (.v (.bool true)) (srchH l es o ep q d) [] rfl (by decide) ?_ ?_ ⟨ep, q, hq, hql, by simp [srch, srchH, entryL, accL, hn]⟩
    · simp [srchH, entryL, accL, hn]
    · simp
  | succ n ih =>
    intro m now o q d ep hn hq hql hnow
    have hol : ¬ o.length = es.length := by omega
    refine callW_of mixed Try.func76 (by decide) rfl (congrArg Array.toList Try.results76) Try.ntmps76 (by decide) 68 (by simp) (by decide) ?_
    simp [srchH, entryL, ints, accL, show ¬ (o.length : Int) = es.length from by omega]
    have hres : srch l es (n + 1) m now o d = srchI (srch l es n) l es m now es.length 0 o d := by simp [srch, hol]
    have hord := srch_order l es n
    generalize hR : srch l es (n + 1) m now o d = R at hres
    refine pwp_loop (fun s : Nat × Nat × List Int × List Int => [(13, .undef), (20, .v (.int .i64 s.1)), (68, .box false [.own 73 s.2.1 0 o.length false]), (73, .rows none s.2.1 3 1 (rowsI s.2.2.1)), (74, .map false (keysI s.2.2.2) (trues s.2.2.2))])
      (fun s => s.1 ≤ es.length ∧ s.2.2.1.take o.length = o ∧ o.length ≤ s.2.2.1.length ∧ srchI (srch l es n) l es m now (es.length - s.1) s.1 o s.2.2.2 = R) (fun s => es.length - s.1) (0, ep, q, d)
      ⟨Nat.zero_le _, hq, hql, hres.symm⟩ (by simp; rfl) (by simp) ?_
    rintro ⟨i, ep, q, d⟩ ⟨hi, hq, hql, hR2⟩
    simp only at hi hq hql hR2
    clear hres hR
    by_cases hie : i < es.length
    · have hstep : es.length - i = (es.length - (i + 1)) + 1 := by omega
      rw [hstep, srchI] at hR2
      have wi := i64_wrap (show -9223372036854775808 ≤ (i : Int) + 1 ∧ _ from by omega)
      have hb64 : i ≤ IntKind.i64.bits := Nat.le_trans (show i ≤ 7 by omega) (by decide)
      cases h1 : isI m i with
      | true =>
        simp only [h1, Bool.true_or, if_true] at hR2
        have h1' : bits .and .i64 (m / 2 ^ i) 1 = 1 := by simpa [isI] using h1
        simp [hie, hb64, h1']
        refine again_of (i + 1, ep, q, d) ⟨hie, hq, hql, hR2⟩ (by simp; omega) ?_
        simp [wi]
      | false =>
        have h1' : ¬ bits .and .i64 (m / 2 ^ i) 1 = 1 := by simpa [isI] using h1
        cases hd : dfind d (withI m i) 0 with
        | some j =>
          have hc : d.contains (withI m i) = true := by rw [← dfind_mem (j := 0), hd]; rfl
          simp only [hc, Bool.or_true, if_true] at hR2
          simp [hie, hb64, h1', pkeyOk, pkfind_ints (P := Try.prog) (t := 3) (by simp), show bits .or .i64 m (IntKind.i64.wrap (2 ^ i)) = withI m i from rfl, hd, trues_get hd]
          refine again_of (i + 1, ep, q, d) ⟨hie, hq, hql, hR2⟩ (by simp; omega) ?_
          simp [wi]
        | none =>
          have hc : d.contains (withI m i) = false := by rw [← dfind_mem (j := 0), hd]; rfl
          simp only [hc, h1, Bool.or_false, if_false, Bool.false_eq_true] at hR2
          simp [hie, hb64, h1', pkeyOk, pkfind_ints (P := Try.prog) (t := 3) (by simp), show bits .or .i64 m (IntKind.i64.wrap (2 ^ i)) = withI m i from rfl, hd]
          refine pwp_draw 6 (by decide) ?_
          simp [accL]
          have hnl := hnow.len
          refine pd_call (clone_spec now (by omega) (by omega)) [67] (by simp [ints]) (by simp) (by simp [ints]) (by simp [backOk]) (by simp) ?_
          simp [back, backV, placeAll, ints]
          refine ⟨by decide, ?_⟩
          have hnb := hnow.each
          have htry := try_spec l es [(i : Int)] now 1 false hnl he (by simp) (fun k hk => by
            have : k = 0 := by simpa using hk
            subst this
            simp [geti]; omega) (fun k hk => by have := hnb k hk; omega)
          have hei := he.each i hie
          cases hm : mayB l now (entryAt es i) with
          | false =>
            have ht : tryL l es [(i : Int)] 0 now = (now, 0) := by simp [tryL, hm]
            rw [ht] at htry
            simp only [hm, if_false, Bool.false_eq_true] at hR2
            refine pop_callF [(45, .sl 1 1 fun _ => [.v (.int .i64 i)])] ?_ htry rfl [41, 67] false (by decide) ?_ (.inl ?_) ?_
            · simp
            · simp [bookH, accL, hnl]
            · simp [entryL, ints, geti]
            · intro out ho
              subst ho
              refine ⟨[], ?_, by simp, ?_, ?_⟩
              · simp [backOk, bookH]
              · simp [back, backV, placeAll, bookH, accL]
              simp [back, backV, placeAll, bookH, accL]
              refine again_of (i + 1, ep, q, d) ⟨hie, hq, hql, hR2⟩ (by simp; omega) ?_
              simp [wi]
          | true =>
            have ht : tryL l es [(i : Int)] 0 now = (made now (entryAt es i), -1) := by simp [tryL, hm]
            rw [ht] at htry
            simp only [hm, if_true] at hR2
            have hml := made_length now (entryAt es i)
            have hmb := made_bound (now := now) (e := entryAt es i) hei.2.2.2 hnb (by omega) (by omega) (by omega)
            have hrec := ih (withI m i) (made now (entryAt es i)) (o ++ [(i : Int)]) (o ++ [(i : Int)]) d (ep + 1) (by simp; omega) (List.take_length ..) (Nat.le_refl _) ⟨by omega, fun k hk => by have := hmb k hk; simp; omega⟩
            have hro := hord (withI m i) (made now (entryAt es i)) (o ++ [(i : Int)]) d
            generalize hre : srch l es n (withI m i) (made now (entryAt es i)) (o ++ [(i : Int)]) d = r at hrec hro hR2
            obtain ⟨b, o', d'⟩ := r
            simp only at hrec hro
            generalize hne : made now (entryAt es i) = nw at *
            refine pop_callF [(45, .sl 1 1 fun _ => [.v (.int .i64 i)])] ?_ htry rfl [41, 67] false (by decide) ?_ (.inl ?_) ?_
            · simp
            · simp [bookH, accL, hnl]
            · simp [entryL, ints, geti]
            · intro out ho
              subst ho
              refine ⟨[], ?_, by simp, ?_, ?_⟩
              · simp [backOk, bookH]
              · simp [back, backV, placeAll, bookH, accL]
              simp [back, backV, placeAll, bookH, accL, show (o.length + 1) * 8 ≤ 140737488355328 from by omega, show o.length + 1 ≤ maxLen from by simp [maxLen]; omega, hql, hq, rowsI_snoc]
              refine pwp_draw 6 (by decide) ?_
              simp
              refine ⟨by decide, ?_⟩
              refine pop_callF [(12, .undef), (39, .undef), (40, .undef), (41, .undef), (42, .undef), (45, .undef), (48, .undef), (54, .undef), (55, .undef), (56, .undef), (57, .sl 1 nw.length fun k => [.v (.int .i64 (geti nw k))]), (67, .undef)] ?_ hrec rfl [68, 69, 70, 71, 72, 73, 74] false (by decide) ?_ (.inl ?_) ?_
              · simp [accL]
                refine ⟨fun k hk => by simp [rowsI_get hk], ?_⟩
                rintro x (⟨y, _, rfl⟩ | rfl) <;> simp
              · simp [srchH, accL, entryL]
                rintro x (⟨y, _, rfl⟩ | rfl) <;> simp
              · simp [ints]
              · rintro out ⟨ep', q', hq', hql', rfl⟩
                refine ⟨[], ?_, by simp, ?_, ?_⟩
                · simp [backOk, srchH]
                · simp [back, backV, placeAll, srchH, accL, entryL]
                cases b with
                | true =>
                  simp only at hR2
                  subst hR2
                  simp [back, backV, placeAll, srchH, accL, entryL]
                  refine ends_of (.v (.bool true)) (srchH l es o' ep' q' d') [] rfl (by decide) ?_ ?_ ⟨ep', q', hq', hql', by simp [srchH, entryL, accL]⟩
                  · simp [srchH, entryL, accL]
                  · simp
                | false =>
                  simp only at hR2
                  obtain rfl : o' = o ++ [(i : Int)] := hro rfl
                  have e : (o ++ [(i : Int)]).take ((o ++ [(i : Int)]).length - 1) = o := by simp
                  rw [e] at hR2
                  have w2 : IntKind.i64.wrap (o.length : Int) = (o.length : Int) := i64_wrap (by omega)
                  have hql2 : o.length + 1 ≤ q'.length := by simpa using hql'
                  have hq2 : q'.take o.length = o := by
                    have := congrArg (List.take o.length) hq'
                    simpa [List.take_take, Nat.min_eq_left (Nat.le_succ _)] using this
                  simp [back, backV, placeAll, srchH, accL, entryL, w2, show (o.length : Int) ≤ (o.length : Int) + 1 from by omega]
                  refine again_of (i + 1, ep', q', d') ⟨hie, hq2, by simp; omega, hR2⟩ (by simp; omega) ?_
                  simp [wi]
    · obtain rfl : i = es.length := by omega
      rw [Nat.sub_self, srchI] at hR2
      subst hR2
      cases hd : dfind d m 0 with
      | some j =>
        have hc : d.contains m = true := by rw [← dfind_mem (j := 0), hd]; rfl
        have hdd : dput d m = d := by simp [dput] at hc ⊢; simp [hc]
        have hj : j < d.length := by simpa using (dfind_some hd).2.1
        simp [hie, pkeyOk, pkfind_ints (P := Try.prog) (t := 3) (by simp), hd, keysI_set hd, trues_set hj, hdd]
        refine ends_of (.v (.bool false)) (srchH l es o ep q d) [] rfl (by decide) ?_ ?_ ⟨ep, q, hq, hql, by simp [srchH, entryL, accL]⟩
        · simp [srchH, entryL, accL]
        · simp
      | none =>
        have hc : d.contains m = false := by rw [← dfind_mem (j := 0), hd]; rfl
        have hdd : dput d m = d ++ [m] := by simp [dput] at hc ⊢; simp [hc]
        simp [hie, pkeyOk, pkfind_ints (P := Try.prog) (t := 3) (by simp), hd, keysI_snoc, trues_snoc d m, hdd]
        refine ends_of (.v (.bool false)) (srchH l es o ep q (d ++ [m])) [] rfl (by decide) ?_ ?_ ⟨ep, q, hq, hql, by simp [srchH, entryL, accL]⟩
        · simp [srchH, entryL, accL]
        · simp
end Go.Qg

/-! The contract of Settle. No condition. -/
namespace Go.Qg
open Go.Proofs
set_option maxRecDepth 100000
set_option maxHeartbeats 4000000
attribute [local irreducible] pwp pops pdraw pop popCall pdCall thenP blockP scopeP pspec Spec answers ppost CallW dleaves dpost dmid DefW

theorem accs_ok {l : List Acc} : accsB l = true ↔ ∀ k, k < l.length → (-1000000000 ≤ (accAt l k).bal ∧ (accAt l k).bal ≤ 1000000000) ∧ -1000000000 ≤ (accAt l k).least ∧ (accAt l k).least ≤ (accAt l k).bal := by
  simp only [accsB, allN_spec, accB, Bool.and_eq_true, inB_spec]
theorem entries_ok {n : Nat} {es : List Entry} : entriesB n es = true ↔ EntriesOk n es := by
  simp only [entriesB, allN_spec, entryB, Bool.and_eq_true, inB_spec, bne_iff_ne]
  constructor
  · intro h
    refine ⟨fun k hk => ?_⟩
    obtain ⟨⟨⟨h1, h2⟩, h3⟩, h4⟩ := h k hk
    exact ⟨by omega, by omega, h3, h4⟩
  · intro ⟨h⟩ k hk
    obtain ⟨h1, h2, h3, h4⟩ := h k hk
    exact ⟨⟨⟨by omega, by omega⟩, h3⟩, h4⟩
structure PostedOk (l : List Acc) (es : List Entry) : Prop where
  nl : 0 < l.length ∧ l.length ≤ 8
  ne : es.length ≤ 7
  accs : ∀ k, k < l.length → (-1000000000 ≤ (accAt l k).bal ∧ (accAt l k).bal ≤ 1000000000) ∧ -1000000000 ≤ (accAt l k).least ∧ (accAt l k).least ≤ (accAt l k).bal
  entries : EntriesOk l.length es
theorem posted_ok {l : List Acc} {es : List Entry} (h : postedE l es = 0) : PostedOk l es := by
  unfold postedE at h
  split at h
  · omega
  · split at h
    · rename_i h1 h2
      simp only [Bool.and_eq_true] at h2
      have := inB_spec.1 h2.1.1
      exact ⟨by omega, by omega, accs_ok.1 h2.1.2, entries_ok.1 h2.2⟩
    · omega
def bals (l : List Acc) : List Int := mk l.length fun i => (accAt l i).bal
theorem bals_ok {l : List Acc} {es : List Entry} (h : PostedOk l es) : NowOk l (bals l) 1000000000 := by
  refine ⟨by simp [bals], fun k hk => ?_⟩
  have hk : k < l.length := by simpa [bals] using hk
  rw [bals, geti_mk hk]
  exact (h.accs k hk).1

def settleOf (l : List Acc) (es : List Entry) : List Int × Int :=
  if postedE l es = 0 then match srch l es es.length 0 (bals l) [] [] with
    | (true, o, _) => (o, 0)
    | (false, _, _) => ([], 5)
  else ([], postedE l es)

theorem Settle_spec (l : List Acc) (es : List Entry) (hl : l.length ≤ 9223372036854775807) (he : es.length ≤ 9223372036854775807) : Spec Try.prog 32 [accL l, entryL es] (.tup [ints (settleOf l es).1, .v (.int .i64 (settleOf l es).2)]) := by
  refine spec_of mixed Try.func32 (by decide) rfl Try.results32 Try.ntmps32 (by decide) 3 (by simp) ?_
  simp [accL, entryL]
  refine pop_spec (posted_spec l es hl he) rfl false (.inl (by simp [accL, entryL])) (.inl rfl) rfl (by simp) ?_
  by_cases h : postedE l es = 0
  · have hok := posted_ok h
    obtain ⟨⟨h1, h2⟩, h3, _, h4⟩ := hok
    have hlen : (bals l).length = l.length := by simp [bals]
    have hsr := search_spec l es (posted_ok h).nl h4 h3 es.length 0 (bals l) [] [] [] 0 (by simp) rfl (Nat.le_refl _) (bals_ok (posted_ok h))
    simp [h]
    refine pwp_draw 6 (by decide) ?_
    simp
    refine pd_call (open_spec l (by omega)) [27, 28] (by simp [accL]) (by simp) (by simp [accL]) (by simp [backOk, bookH]) (by simp) ?_
    have e : mk l.length (fun i => (accAt l i).bal) = bals l := rfl
    simp [back, backV, placeAll, bookH, accL, e]
    refine ⟨by decide, ?_⟩
    generalize hr : srch l es es.length 0 (bals l) [] [] = r at hsr
    obtain ⟨b, o, d⟩ := r
    refine pop_callF [(7, .box true [.own 29 0 0 0 false]), (20, .undef), (21, .undef), (22, .undef), (23, .sl 1 (bals l).length fun k => [.v (.int .i64 (geti (bals l) k))]), (27, .undef), (28, .undef), (29, .rows none 0 3 1 [])] ?_ hsr rfl [7, 3, 8, 2, 9, 29, 16] false (by decide) ?_ (.inl ?_) ?_
    · simp [hlen]
      intro k hk
      simp [rowsI_get (show k < (bals l).length by omega)]
    · simp [srchH, accL, entryL]
    · simp [ints]
    · rintro out ⟨ep', q', hq', hql', rfl⟩
      refine ⟨[], ?_, by simp, ?_, ?_⟩
      · simp [backOk, srchH]
      · simp [back, backV, placeAll, srchH, accL, entryL]
      cases b with
      | true =>
        have hs : settleOf l es = (o, 0) := by simp [settleOf, h, hr]
        rw [hs]
        simp [back, backV, placeAll, srchH, accL, entryL]
        refine answers_of rfl ?_
        have hql' : o.length ≤ q'.length := hql'
        have hq' : q'.take o.length = o := hq'
        simp [ints, hql']
        intro k hk
        have e : geti o k = geti q' k := by
          unfold geti
          rw [← hq', List.getD_eq_getElem?_getD, List.getD_eq_getElem?_getD, List.getElem?_take, if_pos hk]
        simp [rowsI_get (show k < q'.length by omega), e]
      | false =>
        have hs : settleOf l es = ([], 5) := by simp [settleOf, h, hr]
        rw [hs]
        simp [back, backV, placeAll, srchH, accL, entryL]
        refine answers_of rfl ?_
        simp [ints]
  · simp [h]
    have hs : settleOf l es = ([], postedE l es) := by simp [settleOf, h]
    rw [hs]
    refine answers_of rfl ?_; simp [ints]
end Go.Qg
