/-
  Lemmas and contracts that hold of the whole program: 14 texts in one.
  No condition.
-/
import Derived.Test.YtnjhblcfjhpoiaaGreatDoorZ4
import Derived.Lib.Builder
import Derived.Lib.AppendStr
import Derived.Lib.UnsafeStr
import Derived.Laws.Externs
import Derived.Shelf.RegionOpenPlain
import Derived.KernelRfl
set_option linter.all false

namespace Go.Qg
open Go.RowKit (Below)
section
variable {P : Program} {N M M' : Nat} {B B0 : Base} {a a' : Act} {w w' : World} {R R00 : Nat → Nat → Prop} {Γ : Nat → Option Loc} {fr : PF} {Q : Unit → PX → PF → Prop} {κ : List Nat} {l D : Nat} {rec : LoopState → Option Code → Loop} {V : Nat → PF}
theorem XW_rangeI (hN : 0 < N) (hmx : P.follows .mixedOrders = true) {g : Operand} {t : Tmp} {assign body : Code} {gf : FuncId} {caps els : List PV} (hg : rd fr g = .clo (.func gf) [] caps) (hcaps : plainL caps = true) (hgen : GenW P gf caps els) (hels : ∀ p ∈ els, p.plain = true ∧ p.flat = true)
    (hda : dstsIn N assign = true) (hdb : dstsIn N body = true) (M' : Nat) (hM' : N ≤ M') (κ : List Nat) (hκ : κ.Nodup) (V : Nat → PF) (A : Nat → List PV) (H : Nat → PF) (h0 : less B0.lo fr (V 0))
    (hview : ∀ n, n < els.length → V n ≠ [] → (A n).length = N ∧ outF (V n) (tgtAt (H n) κ fun _ => false) 8 (H n) κ ∧ ∀ i, i < N → i ≠ t → vw (V n) (tgtAt (H n) κ fun _ => false) 8 ((A n).getD i .undef) (rd (V n) (.tmp i)))
    (hround : ∀ n p, els[n]? = some p → V n ≠ [] → pwp P M' assign (thenP (pwp P M' body (rend B0.lo M' κ (V n) (V (n + 1)) Q)) (fun _ _ => False)) (frame0 M' ((A n).set t p) (H n)))
    (hend : V els.length ≠ [] → Q () .normal (V els.length)) : XW P N (ECtx B0) () (.rangeFunc g #[t] assign body) Q fr := fun B a w hC ⟨R, Γ, hs⟩ => by
  have hlo := hC.1
  have hgv := hs.rd g
  rw [hg] at hgv
  generalize hu : a.eval g = u at hgv
  cases hgv with
  | clo _ uf uc _ _ l1 l2 _ r2 =>
  obtain rfl : uf = [] := by simpa using l1
  refine wr_range hu hgen.1 fun fn => ?_
  generalize hW1 : (w.alloc (.deferred (some []))).alloc (.loop (loopRec fn a #[t] assign body w.heap.size .ready none)) = W1
  have hbel : Below w.heap.size w W1 := by
    rw [← hW1]; exact (((Below.refl _ w).alloc (Nat.le_refl _) _).alloc (by simp) _)
  have hl1 : W1.heap[w.heap.size + 1]? = some (.loop (loopRec fn a #[t] assign body w.heap.size .ready none)) := by
    rw [← hW1]; have := World.alloc_heap_new (w.alloc (.deferred (some []))) (.loop (loopRec fn a #[t] assign body w.heap.size .ready none)); rwa [World.size_alloc] at this
  have hD1 : W1.heap[w.heap.size]? = some (.deferred (some [])) := by
    rw [← hW1]; exact (Below.heap_alloc _ _ _ (by simp)).trans (World.alloc_heap_new w _)
  have hw1 := weak_R hs (by rw [hlo]; exact h0)
  have hs1 := hw1.grown hbel _ (fun _ _ x => x) (fun _ _ x => .inl x)
  have hBl : ∀ b, B.Prot b → b < w.heap.size := fun b hb => Nat.lt_of_lt_of_le (hs.prot b hb) hs.kept.size
  have henv : Env P (w.heap.size + 1) els (fun b => (∃ o, R b o) ∨ isTab b) (LoopJ N B a (w.heap.size + 1) w.heap.size (loopRec fn a #[t] assign body w.heap.size) R V Q) := by
    refine ⟨fun b hb => .inr hb, fun s F W b hJ hb => ?_, fun s F W W' hJ hF hsz ho ht hou => ?_, fun p F W hJ => ?_, fun n F W v p Ra Γa hJ hel hv => ?_⟩
    · obtain ⟨R, Γ, fr, st, pe, k1, rfl, k3, k4, _⟩ := hJ
      exact foot_bnd k1 k3 k4 hb
    · obtain ⟨R, Γ, fr, st, pe, k1, rfl, k3, k4, k5⟩ := hJ
      exact ⟨R, Γ, fr, st, pe, foot_stay k1 hF hsz ho ht hou, rfl, (hF _ (.inr (.inr (.inr (.inl rfl))))).trans k3, (hF _ (.inr (.inr (.inr (.inr rfl))))).trans k4, k5⟩
    · obtain ⟨R, Γ, fr, st, pe, _, _, _, _, _, _, k7, k8, _⟩ := hJ
      exact ⟨k7, k8⟩
    · obtain ⟨R', Γ', fr', st, pe, k1, rfl, k3, k4, k5, k6, rfl, rfl, rfl⟩ := hJ
      have hlt := lt_of_get? hel
      have hV : V n ≠ [] := fun e => by have := k1.len; rw [e] at this; simp at this; omega
      obtain ⟨v1, v2, v3⟩ := hview n hlt hV
      have hy : (Instr.yield (w.heap.size + 1) #[v]).run P W = .ok (.round (w.heap.size + 1) fn (a.tmps.setIfInBounds t v) assign body) W := by
        have := run_yield (P := P) (args := #[v]) k3 rfl
        simpa [loopRec] using this
      refine ⟨_, _, _, _, hy, fun c cs => ?_⟩
      obtain ⟨e, W2, ⟨R2, Γ2, fr2, st2, pe2, q2, q3, q4, q5, q6, q7, q8, q9⟩, hsteps⟩ := round_sound (l := w.heap.size + 1) (D := w.heap.size) (R00 := R) hmx hda hdb hM' hκ (p := p) (v := v) (Q := Q) (next := V (n + 1)) k1 ⟨by simp, fun b hb => Nat.lt_succ_of_lt (hBl b hb)⟩ rfl k3 k4 (by omega) k6 k5 v2 v1 v3 (hels p (List.mem_of_getElem? hel)) hv (by rw [hlo]; exact hround n p hel hV) c cs
      refine ⟨e, W2, ⟨foot B R2 Γ2 (w.heap.size + 1) w.heap.size, ?_, q7, ⟨q8.os, q8.tape, q8.output, q8.size, fun x hx => by
        rcases hx.2 with h | ⟨o, ho⟩ | h
        · exact q8.block x ⟨hx.1, .inl h⟩
        · exact q8.block x ⟨hx.1, .inr ⟨o, k5 x o ho⟩⟩
        · exact (q2.kept.block x (k1.prot.isP h)).trans (k1.kept.block x (k1.prot.isP h)).symm⟩⟩, hsteps⟩
      cases e with
      | outgrown => exact q9.elim
      | panicked ch =>
        obtain ⟨pv, q, e1, e2, e3, e4, e5⟩ := q9
        exact ⟨pv, q, e1, e2, R2, Γ2, fr2, st2, pe2, q2, rfl, q3, q4, q5, q6, e3, e4, e5⟩
      | returned ret =>
        obtain ⟨b, e1, q9⟩ := q9
        refine ⟨b, e1, ?_⟩
        cases b with
        | true => exact ⟨R2, Γ2, fr2, st2, pe2, q2, rfl, q3, q4, q5, q6, q9⟩
        | false => exact ⟨R2, Γ2, fr2, st2, pe2, q2, rfl, q3, q4, q5, q6, q9⟩
  have hJ0 : LoopJ N B a (w.heap.size + 1) w.heap.size (loopRec fn a #[t] assign body w.heap.size) R V Q (.on 0) (foot B (freed R Γ (V 0)) (Γof Γ (V 0)) (w.heap.size + 1) w.heap.size) W1 := by
    refine ⟨_, _, V 0, .ready, none, hs1, rfl, hl1, hD1, fun b o hb => .inl hb, fun o ho => ?_, rfl, rfl, rfl⟩
    rcases ho with ho | ⟨s, m, _, hm, hmb⟩
    · have := hs.bnd _ o ho; omega
    · have := ((hs.own s m hm).2 _ hmb).2.1; omega
  have after : ∀ {R' : Nat → Nat → Prop} {Γ' : Nat → Option Loc} {fr' : PF} {w' : World} {rc : Loop} (w2 : World), Sim N B R' Γ' a w' fr' → w'.heap[w.heap.size + 1]? = some (.loop rc) → w'.heap[w.heap.size]? = some (.deferred (some [])) → (w2 = w' ∨ ∃ rc', w2 = w'.putObj (w.heap.size + 1) (.loop rc')) →
      ∃ B', ECtx B0 () B' ∧ Sim N B' R' Γ' { a with defers := { target := .collected w.heap.size, args := #[] } :: a.defers } w2 fr' := by
    intro R' Γ' fr' w' rc w2 k1 k3 k4 hw2
    obtain ⟨c1, c2, c3, c4, c5, ms, hms, hDs, hm⟩ := hC
    have hlt := (Array.getElem?_eq_some_iff.1 k3).1
    have z1 : ∀ k, k ≠ w.heap.size + 1 → w2.heap[k]? = w'.heap[k]? := fun k hk => by
      rcases hw2 with rfl | ⟨rc', rfl⟩
      · rfl
      · exact World.putObj_heap_other hk
    have z2 : w2.heap.size = w'.heap.size := by
      rcases hw2 with rfl | ⟨rc', rfl⟩
      · rfl
      · simp
    have z3 : w2.os = w'.os ∧ w2.tape = w'.tape ∧ w2.output = w'.output := by
      rcases hw2 with rfl | ⟨rc', rfl⟩ <;> exact ⟨rfl, rfl, rfl⟩
    have z4 : ∀ b o, w2.cell? ⟨b, o, none⟩ = w'.cell? ⟨b, o, none⟩ := fun b o => by
      rcases hw2 with rfl | ⟨rc', rfl⟩
      · rfl
      · exact cell_putObj k3 (by simp) (by simp)
    refine ⟨⟨fun b => B.Prot b ∨ b = w.heap.size, w2, R', B.Γ0, B.lo, { target := .collected w.heap.size, args := #[] } :: B.D⟩, ⟨c1, fun b hb => .inl (c2 b hb), ?_, fun b o hb => ?_, c5, w.heap.size :: ms, ?_, by rw [hDs]; rfl, fun r hr => ?_⟩, ?_⟩
    · refine (c3.trans (k1.kept.mono c2)).trans ⟨z3.1, z3.2.1, z3.2.2, Nat.le_of_eq z2.symm, fun k hk => z1 k fun e => ?_⟩
      have := hBl k (c2 k hk)
      omega
    · rcases k1.sub b o hb with h1 | h1
      · exact c4 b o h1
      · exact .inr fun hp => h1 (c2 b hp)
    · refine List.nodup_cons.2 ⟨fun hin => ?_, hms⟩
      have := hBl _ (hm _ hin).1
      omega
    · rcases List.mem_cons.1 hr with rfl | hr
      · refine ⟨.inr rfl, fun hp => ?_, (z1 _ (by omega)).trans k4⟩
        have := hBl _ (c2 _ hp)
        omega
      · obtain ⟨h1, h2, h3⟩ := hm r hr
        refine ⟨.inl h1, h2, ?_⟩
        have hrl := hBl r h1
        exact (z1 _ (by omega)).trans ((k1.kept.block r h1).trans h3)
    · refine k1.moved (fun b o _ => z4 b o) (fun i m b hi hb => z1 b fun e => k1.not_own k3 (by simp) (by simp) hi (e ▸ hb)) (Nat.le_of_eq z2.symm) (fun i m b hi hb hp => ?_) (fun b o hb => .inl hb) (Kept.refl _ _) (k1.prot.go (fun b hb => ?_) (fun b _ hb => .inl hb) fun b _ hb => (z1 b (by have := hBl b hb; omega)).trans (k1.kept.block b hb)) k1.lo k1.base rfl (by rw [k1.defers])
      · rcases hp with hp | rfl
        · exact ((k1.own i m hi).2 b hb).1 hp
        · exact k1.not_own k4 (by simp) (by simp) hi hb
      · rcases hb with hb | rfl
        · have := hBl b hb
          simp only
          have := k1.kept.size
          omega
        · simp only
          omega
  refine (hgen.2 W1 uc R (fun b => (∃ o, R b o) ∨ isTab b) (w.heap.size + 1) _ _ (fun b o hb => .inl ⟨o, hb⟩) (hs.prot.go (fun b hb => hb.elim (fun ⟨o, hb⟩ => Nat.lt_of_lt_of_le (hs.bnd b o hb) hbel.size) fun hb => Nat.lt_of_lt_of_le (hBl b (hs.prot.isP hb)) hbel.size) (fun b hb _ => .inr hb) fun b _ hb => (hbel.block b (hBl b hb)).trans (hs.kept.block b hb)) henv hJ0 l2 (fun i u p hu hp => ?_)).mono ?_
  · refine (r2 i u p hu hp).free (fun b o hb => ⟨hb, cell?_of_heap (hbel.block b (hs.bnd b o hb))⟩) ?_
    have := plainL_names hcaps
    refine List.eq_nil_iff_forall_not_mem.2 fun j hj => ?_
    have := mem_namesL.2 ⟨p, List.mem_of_getElem? hp, hj⟩
    rw [plainL_names hcaps] at this; cases this
  · intro e w' hgp
    cases e with
    | outgrown => exact hgp.elim
    | panicked ch =>
      obtain ⟨pv, q, F', rfl, hrep, R', Γ', fr', st, pe, k1, _, k3, k4, _, _, _, _, hQ⟩ := hgp
      obtain ⟨B', hC', hs2⟩ := after w' k1 k3 k4 (.inl rfl)
      exact ⟨(), B', hC', R', Γ', _, .panic q, hs2, ⟨pv, rfl, hrep _ _ _⟩, hQ⟩
    | returned rv =>
    obtain ⟨s, F', hs', R', Γ', fr', st, pe, k1, _, k3, k4, _, _, hm⟩ := hgp
    refine ⟨st, pe, k3, ?_⟩
    obtain ⟨B', hC', hs2⟩ := after (w'.putObj (w.heap.size + 1) (.loop (loopRec fn a #[t] assign body w.heap.size .exhausted pe))) k1 k3 k4 (.inr ⟨_, rfl⟩)
    rcases hs' with rfl | rfl
    · obtain ⟨rfl, rfl, rfl⟩ := hm
      exact ⟨by simp, (), B', hC', R', Γ', _, .normal, hs2, trivial, hend fun e => by have := k1.len; rw [e] at this; simp at this; omega⟩
    · obtain ⟨rfl, c, x, rfl, hjx, hQ⟩ := hm
      refine ⟨by simp, ?_⟩
      cases c with
      | ret => cases x with
        | ret => exact ⟨(), B', hC', R', Γ', _, .ret, hs2, trivial, hQ⟩
        | _ => exact hjx.elim
      | exit id => cases x with
        | exit id' => exact ⟨(), B', hC', R', Γ', _, .exit id', hs2, hjx, hQ⟩
        | _ => exact hjx.elim
      | _ => cases x <;> exact hjx.elim
end
end Go.Qg

namespace Go.Qg
open Go.RowKit (Below)
def dmidE (P : Program) (N M k : Nat) (rs : List ResultVar) (c : Code) (x : Operand) (Q : Out → Prop) (fr : PF) : Prop :=
  ∃ gf ps caps M' news H A, rd fr x = .clo (.func gf) [] ps ∧ N ≤ M' ∧ ((List.range k).map (M + ·) ++ news).Nodup ∧ A.length = N ∧
    outF fr (tgtAt H ((List.range k).map (M + ·) ++ news) fun _ => false) 8 H ((List.range k).map (M + ·) ++ news) ∧
    (∀ i, i < N → vw fr (tgtAt H ((List.range k).map (M + ·) ++ news) fun _ => false) 8 (A.getD i .undef) (rd fr (.tmp i))) ∧
    vwAll (vw fr (tgtAt H ((List.range k).map (M + ·) ++ news) fun _ => false) 8) caps ps ∧ (∀ p ∈ caps, p.flat = true) ∧
    ∀ B0 : Base, B0.lo = M' → XW P N (ECtx B0) () c (fun _ => dpost P M' k rs gf caps Q) (frame0 M' A H)
section
variable {P : Program} {N M M' : Nat} {B : Base} {a a' : Act} {w w' : World} {R : Nat → Nat → Prop} {Γ : Nat → Option Loc} {fr : PF}
theorem callW_ofDE (hm : P.follows .mixedOrders = true) {f : FuncId} {fn : Func} {id : Nat} {o1 o2 : Oper} {c0 c2 : Code} {x : Operand} {ats : Array TypeId} (hf : P.funcs[f]? = some fn) (hname : (fn.name == "runtime.NumGoroutine") = false) (hb : fn.body = some (.seq c0 (.seq (.region id #[o1, o2] false) c2)))
    (ho : o2.op = .defer { callee := .value x, args := #[], argTypes := ats }) (hg : o2.guard = none) (hdst : o2.dst = none) {rs : List ResultVar} (hrs : fn.results.toList = rs) (hn : fn.ntmps = N) (hd0 : dstsIn N c0 = true) (hd1 : ∀ d, o1.dst = some d → d < N) (hd2 : dstsIn N c2 = true) {args : List PV} {H : PF} {Q : Out → Prop}
    (M : Nat) (hargs : args.length ≤ N) (hM : N ≤ M) (h : pwp P M c0 (thenP (pops P M [o1, o2] (dmidE P N M H.length rs c2 x Q) (fun _ _ => False) [o1]) (fun _ _ => False)) (frame0 M args H)) : CallW P f args H Q := by
  subst hrs hn
  refine ⟨fun vs w => ?_, fun w vs R Γ Prot hRp h0 hl hrep => ?_⟩
  · simp only [callFunc, Sem.run_bind, run_program, Result.andThen_ok, hf, hname, hb]
    rfl
  · have hsim := h0.enter hl hrep hargs hM
    refine calls_of_wr hf hb (wr_seq (wr_mono (pwp_sound (ro := none) hm rfl c0 _ _ _ w hd0 hsim.toE h) fun e a0 w0 ⟨R0, Γ0, fr0, x0, hs0, hu0, hq0⟩ => ?_))
    cases x0 with
    | normal =>
      cases e with
      | normal =>
        refine wr_seq (wr_region ?_)
        have hr1 : List.range (#[o1, o2] : Array Oper).size = [0, 1] := rfl
        rw [hr1]
        have hN : ∀ o ∈ [o1, o2], ∀ d, o.dst = some d → d < fn.ntmps := fun o ho d hd => by
          rcases List.mem_cons.1 ho with rfl | ho
          · exact hd1 d hd
          · obtain rfl := List.mem_singleton.1 ho
            rw [hdst] at hd; cases hd
        refine op_sound (all := [o1, o2]) (K := pops P M [o1, o2] (dmidE P fn.ntmps M H.length fn.results.toList c2 x Q) (fun _ _ => False) []) (Kp := fun _ _ => False) hs0.toE rfl hN rfl (fun _ _ _ _ _ _ _ _ _ hk => hk.elim) (fun _ _ hq => hq.elim) (k := 0) (o := o1) rfl hq0 (K' := fun a' w' => ∃ fr', SimE fn.ntmps (base0 Prot w R Γ M) a' w' fr' ∧ dmidE P fn.ntmps M H.length fn.results.toList c2 x Q fr') (fun a' w' fr' h1 h2 => ⟨fr', h1, h2⟩) [1] fun a1 w1 hq1 => ?_
        obtain ⟨fr1, ⟨R1, Γ1, hs1⟩, gf, ps, caps, M', news, Ho, A, hx, hM', hκ, hA, hout, hAv, hcaps, hflat, hrest⟩ := hq1
        have hgn : ∀ s ∈ (List.range H.length).map (M + ·) ++ news, (fun _ : Nat => false) s = false := fun _ _ => rfl
        generalize hκe : (List.range H.length).map (M + ·) ++ news = κ at hκ hout hAv hcaps hgn
        have hv := hs1.rd x
        rw [hx] at hv
        generalize hux : a1.eval x = ux at hv
        cases hv with
        | clo _ uf uc _ _ l1 l2 _ r2 =>
        obtain rfl : uf = [] := by simpa using l1
        have hex : (execOp a1.eval o2).run P w1 = .ok (.defer { target := .fn (.func gf) uc.toArray, args := #[] }) w1 := by
          simp only [execOp, ho, resolve, Deferred.ofValue, hux]
          simp [go_sem]
        refine OpR_wp (K := fun a' w' => a' = { a1 with defers := [{ target := .fn (.func gf) uc.toArray, args := #[] }] } ∧ w' = w1) (ops := #[o1, o2]) (o := o2) rfl (by simp [Region.wanted, hg]) (.inl rfl) (fun _ _ hq => hq.elim) ?_ [] fun a' w' ⟨ha', hw'⟩ => RegR_nil ?_
        · unfold Oper.wp
          rw [hex, Oper.upon_defer]
          refine ⟨?_, rfl⟩
          rw [hdst, hs1.defers]
          rfl
        · subst ha' hw'
          obtain ⟨hlend, hRp1⟩ := hs1.lend hout hκ hgn
          obtain ⟨_, hview⟩ := hs1.leave hout hκ hgn
          have hR1 : ∀ b o, freedAt R1 Γ1 (fun _ => false) b o → R1 b o := fun b o hb => by
            rcases hb with hb | ⟨s, m, hg, _⟩
            · exact hb
            · cases hg
          have hent := hlend.enter (N := fn.ntmps) (M := M') (vs := a1.tmps.toList) (args := A) (by simp [hA, hs1.size]) (fun i u q hu hq => by
            have hlt := lt_of_get? hq
            rw [hA] at hlt
            have hqA : A.getD i .undef = q := by simp [List.getD, hq]
            have h1 := hAv i hlt
            rw [hqA] at h1
            refine hview q _ u h1 ?_
            have h2 := hs1.rd (.tmp i)
            rw [Array.getElem?_toList] at hu
            have : a1.eval (.tmp i) = u := by simp [Act.eval, hu]
            rwa [this] at h2) (by simp [hA]) hM'
          have hact : ({ tmps := a1.tmps.toList.toArray ++ Array.replicate (fn.ntmps - a1.tmps.toList.toArray.size) undef, defers := [] } : Act) = { tmps := a1.tmps, defers := [] } := by
            have e1 : a1.tmps.toList.toArray = a1.tmps := Array.toArray_toList
            rw [e1, hs1.size]
            simp
          rw [hact] at hent
          have hs2 : Sim fn.ntmps ⟨Prot, w, R, fun i => if M' ≤ i then Γout Γ1 Ho κ (i - M') else none, M', [{ target := .fn (.func gf) uc.toArray, args := #[] }]⟩ (freedAt R1 Γ1 fun _ => false) (fun i => if M' ≤ i then Γout Γ1 Ho κ (i - M') else none) { a1 with defers := [{ target := .fn (.func gf) uc.toArray, args := #[] }] } w' (frame0 M' A Ho) := by
            refine hent.moved (fun b o _ => rfl) (fun i l b hi hb => rfl) (Nat.le_refl _) (fun i l b hi hb hp => ?_) (fun b o hb => ?_) hs1.kept hs1.prot hM' (fun j l hj hl => ⟨l, hl, Loc.le_refl l⟩) rfl rfl
            · skip
              split at hi
              · obtain ⟨s, m, _, hm', hmb⟩ := Γout_blk hi hb
                exact ((hs1.own s m hm').2 b hmb).1 hp
              · cases hi
            · exact hs1.sub b o (hR1 b o hb)
          generalize hB1 : (⟨Prot, w, R, fun i => if M' ≤ i then Γout Γ1 Ho κ (i - M') else none, M', [{ target := .fn (.func gf) uc.toArray, args := #[] }]⟩ : Base) = B1 at hs2
          have hB1D : B1.D = [{ target := .fn (.func gf) uc.toArray, args := #[] }] := by rw [← hB1]
          have hC : ECtx B1 () ⟨Prot, w, R, fun i => if M' ≤ i then Γout Γ1 Ho κ (i - M') else none, M', [{ target := .fn (.func gf) uc.toArray, args := #[] }]⟩ := by
            subst hB1
            exact ⟨rfl, fun _ x => x, Kept.refl _ _, fun b o hb => .inl hb, rfl, [], List.nodup_nil, rfl, fun r hr => by cases hr⟩
          have hprot : ProtOk B1.Prot B1.w0 := by subst hB1; exact h0.prot
          rw [hB1] at hC
          refine wr_mono (hrest B1 (by rw [← hB1]) B1 _ w' hC hs2.toE) fun e a2 w2 ⟨_, B', hC', R2, Γ2, g, x2, hs30, hu, hq⟩ => ?_
          have hs3 := hs30.ofE hC' hprot
          obtain ⟨_, _, _, _, _, ms, hms, hD', hmk⟩ := hC'
          rw [hB1D] at hD'
          have hΓ1 : ∀ j l, Γout Γ1 Ho κ j = some l → B1.Γ0 (M' + j) = some l := fun j l hl => by
            rw [← hB1]; dsimp only; rw [if_pos (by omega), Nat.add_sub_cancel_left]; exact hl
          have hlo1 : B1.lo = M' := by rw [← hB1]
          have hbase : ∀ {w2 : World}, Sim fn.ntmps { B1 with D := B'.D } R2 Γ2 a2 w2 g → ∀ j l, B1.Γ0 (M' + j) = some l → ∃ l', Γ2 (M' + j) = some l' ∧ Loc.le l l' := fun hs j l hl => hs.base (M' + j) l (by rw [show ({ B1 with D := B'.D } : Base).lo = M' from hlo1]; omega) hl
          have hcap : ∀ (w2 : World), Sim fn.ntmps { B1 with D := B'.D } R2 Γ2 a2 w2 g → ∀ (i : Nat) (u : Value) (q : PV), uc[i]? = some u → (renL (M' + ·) caps)[i]? = some q → Rep w2 R2 Γ2 u q := fun w2 hs3 i u q hu hq => by
            rw [renL_get] at hq
            simp only [Option.map_eq_some_iff] at hq
            obtain ⟨q0, hq0, rfl⟩ := hq
            obtain ⟨p0, hp0, hv0⟩ := vwAll_get hcaps i q0 hq0
            refine (hview q0 p0 u hv0 (r2 i u p0 hu hp0)).ren (.inl (hflat q0 (List.mem_of_getElem? hq0))) fun j _ l hl => ?_
            exact hbase hs3 j l (hΓ1 j l hl)
          have hlc : uc.length = (renL (M' + ·) caps).length := by rw [renL_length, vwAll_length hcaps]; exact l2
          have fin : ∀ (rv : Option Value) (rc : Option PV), (match rv, rc with | none, none => True | some v, some p => p.plain = true ∧ p.flat = true ∧ Rep w2 R2 Γ2 v p | _, _ => False) → dend P M' H.length fn.results.toList gf caps Q rc g → LeavesC P fn a2.tmps (Left Prot w R Γ Q) a2.defers (modeOf rv) w2 := by
            rintro rv rc hrv0 ⟨ιd, Hd, capsd, hιd, houtd, hcapsd, hdw, hdc⟩
            have hrv : ∀ w2 : World, match rv, rc with | none, none => True | some v, some p => p.plain = true ∧ p.flat = true ∧ Rep w2 R2 Γ2 v p | _, _ => False := fun w' => by
              cases rv with
              | none => cases rc with
                | none => trivial
                | some p => exact hrv0.elim
              | some v => cases rc with
                | none => exact hrv0.elim
                | some p => exact ⟨hrv0.1, hrv0.2.1, plain_rep hrv0.2.2 hrv0.1 hrv0.2.1 _ _ _⟩
            rw [hs30.defers, hD']
            refine marks_leave (by cases rv <;> simp [modeOf]) ms w2 { B1 with D := B'.D } hms (fun r hr => ?_) hs3 fun w2 hs3 => ?_
            · obtain ⟨h1, h2, h3⟩ := hmk r hr
              exact ⟨h2, (hs30.kept.block r h1).trans h3⟩
            have hrv := hrv w2
            have hcap := hcap w2 hs3
            have hgd : ∀ s ∈ ιd, (fun _ : Nat => false) s = false := fun _ _ => rfl
            obtain ⟨hlend3, hRp3⟩ := hs3.lend houtd hιd hgd
            obtain ⟨_, hview3⟩ := hs3.leave houtd hιd hgd
            refine ⟨by cases rv <;> simp [modeOf], .inr ⟨.func gf, uc.toArray, gf, uc.toArray, rfl, ?_, ?_⟩⟩
            · simp [invoke, go_sem, hdw]
            · refine (hdc w2 uc _ _ _ rv hRp3 hlend3 ?_ (fun i u q hu hq => ?_) ?_).mono ?_
              · rw [hlc, vwAll_length hcapsd]
              · obtain ⟨p, hp, hv⟩ := vwAll_get hcapsd i q hq
                exact hview3 q p u hv (hcap i u p hu hp)
              · cases rv with
                | none => cases rc with
                  | none => trivial
                  | some p => exact hrv.elim
                | some v => cases rc with
                  | none => exact hrv.elim
                  | some p =>
                    obtain ⟨hp1, hp2, hr⟩ := hrv
                    have := Rep.ren (π := fun i => i) (R' := freedAt R2 Γ2 fun _ => false) (w' := w2) (Γ' := Γout Γ2 Hd ιd) hr (.inl hp2) (fun j hj => by rw [plain_names hp1] at hj; cases hj)
                    rwa [ren_plain hp1] at this
              · rintro e u' w3 ⟨⟨v, rfl⟩, rfl, R3, Γ3, H3, ⟨hl3, xr, r, H2, news2, hpr, hlv, hQ⟩, hs4, hobj⟩
                have hset : settle (modeRec rv) = .returning := by cases rv <;> rfl
                show LeavesC P fn a2.tmps _ [] (settle (modeRec rv)) w3
                rw [hset]
                obtain ⟨hm1, _⟩ := hs3.merge (news := []) houtd hs4 (by simpa using hιd) (by simpa using hl3) (fun s hs => by cases hs) (.inl fun _ => rfl) hobj
                have eback : placeAll ((ιd ++ []).getD · 0) (ιd ++ []) H3 g = back g ιd H3 := by simp only [List.append_nil]; rfl
                rw [eback] at hm1
                obtain ⟨v, hv, hrv⟩ := presults_sound (P := P) hm1 fn hpr
                refine ⟨v, hv, ?_⟩
                obtain ⟨hn2, hout2, hv2⟩ := hlv
                obtain ⟨h1, h2⟩ := hm1.leave hout2 hn2 (fun s hs => by have := List.contains_iff_mem.2 hs; show (!_) = false; rw [this]; rfl)
                subst hB1
                refine ⟨_, _, .inl ⟨v, r, H2, rfl, hQ, h2 r xr v hv2 hrv, h1.rebase fun j l hjl => ?_, fun q hq => ?_⟩⟩
                · obtain ⟨⟨p, hp, _⟩, _⟩ := h0.own j l hjl
                  have hj := lt_of_get? hp
                  have hb : (base0 Prot w R Γ M).Γ0 (M + j) = some l := by
                    simp only [base0]
                    rw [if_pos (by omega), Nat.add_sub_cancel_left]; exact hjl
                  obtain ⟨l1, e1, e2⟩ := hs1.base (M + j) l (Nat.le_add_right _ _) hb
                  have hκ1 : κ[j]? = some (M + j) := by
                    rw [← hκe, List.getElem?_append_left (by simpa using hj)]; exact range_get M hj
                  obtain ⟨l2, e3, e4⟩ := Γout_le hs1 hout hκ1 e1
                  obtain ⟨l3, e5, e6⟩ := hm1.base (M' + j) l2 (Nat.le_add_right _ _) (hΓ1 j l2 e3)
                  have hκ2 : ((List.range H.length).map (M' + ·) ++ news2)[j]? = some (M' + j) := by
                    rw [List.getElem?_append_left (by simpa using hj)]; exact range_get M' hj
                  obtain ⟨l4, e7, e8⟩ := Γout_le hm1 hout2 hκ2 e5
                  exact ⟨l4, e7, Loc.le_trans e2 (Loc.le_trans e4 (Loc.le_trans e6 e8))⟩
                · obtain ⟨i, hi⟩ := List.mem_iff_getElem?.1 hq
                  obtain ⟨s, p, _, _, hbare, _⟩ := outF_get hout2 i q hi
                  cases q <;> first | rfl | cases hbare
          cases e with
          | ret => cases x2 with
            | ret => exact fin none none trivial hq
            | _ => exact hu.elim
          | normal => cases x2 with
            | normal => exact fin none none trivial hq
            | _ => exact hu.elim
          | panic ch => cases x2 with
            | panic p =>
              obtain ⟨v, rfl, hrv⟩ := hu
              obtain ⟨hp1, hp2, hq⟩ := hq
              exact fin (some v) (some p) ⟨hp1, hp2, hrv⟩ hq
            | _ => exact hu.elim
          | exit id => cases x2 with
            | exit id' => exact hq.elim
            | _ => exact hu.elim
          | goto id => cases x2 with
            | goto id' => exact hq.elim
            | _ => exact hu.elim
          | outgrown => cases x2 <;> exact hu.elim
      | _ => exact hu0.elim
    | _ => exact hq0.elim
end
end Go.Qg

namespace Go.Qg
open Go.RowKit (Below)
def GenW1 (P : Program) (gf : FuncId) (first caps els : List PV) : Prop :=
  (∀ (args : Array Value) (w : World), (callFunc gf args).run P w = .ok (.enter gf args) w) ∧
  ∀ (w : World) (us vs : List Value) (R : Nat → Nat → Prop) (Rb : Nat → Prop) (l : Nat) (J : GS → (Nat → Prop) → World → Prop) (F0 : Nat → Prop), (∀ b o, R b o → b < w.heap.size) → ProtOk Rb w → Env P l els Rb J → J (.on 0) F0 w → us.length = first.length → vs.length = caps.length →
    (∀ (i : Nat) (u : Value) (p : PV), us[i]? = some u → first[i]? = some p → Rep w R (fun _ => none) u p) →
    (∀ (i : Nat) (u : Value) (p : PV), vs[i]? = some u → caps[i]? = some p → Rep w R (fun _ => none) u p) →
    Calls P gf (us.toArray ++ #[.func (.yield l) #[] #[]] ++ vs.toArray) w (genPost els J)
section
variable {P : Program} {N M M' : Nat} {B B0 B2 : Base} {a a' : Act} {w w' : World} {R R00 : Nat → Nat → Prop} {Γ : Nat → Option Loc} {fr : PF} {Q : Unit → PX → PF → Prop} {κ : List Nat} {l D : Nat} {rec : LoopState → Option Code → Loop} {V : Nat → PF} {els : List PV}
theorem Sim.dry (h : Sim N B R Γ a w fr) (hd : (fr.all fun p => p.plain && p.flat) = true) (hp : ∀ b, B2.Prot b → B.Prot b) (hT : ∀ b, isTab b → B2.Prot b) (hw : B2.w0 = B.w0) (hD : B2.D = B.D) (hlo : B2.lo = B.lo) (hΓ : ∀ j, B2.Γ0 j = none) : Sim N B2 (fun _ _ => False) (fun _ => none) a w fr := by
  refine ⟨h.size, h.len, fun t p ht => ?_, fun i j l m b hi => (by cases hi), fun i l hi => (by cases hi), fun b o hb => hb.elim, fun b o hb => hb.elim, hw ▸ h.kept.mono hp, hw ▸ h.prot.go (fun b hb => h.prot b (hp b hb)) (fun b hb _ => hT b hb) (fun _ _ _ => rfl), hlo ▸ h.lo, fun j l _ hl => (by rw [hΓ] at hl; cases hl), hD ▸ h.defers⟩
  have hpd := List.all_eq_true.1 hd p (List.mem_of_getElem? ht)
  simp only [Bool.and_eq_true] at hpd
  have hs := h.slot t p ht
  have ho := plain_obj hpd.1
  have hr := plain_rep (SlotRep.val ho hs) hpd.1 hpd.2 w (fun _ _ => False) (fun _ => none)
  cases p <;> first | exact hr | cases ho
theorem gen_of1 (hm : P.follows .mixedOrders = true) {f : FuncId} {fn : Func} {c0 c1 : Code} (hf : P.funcs[f]? = some fn) (hname : (fn.name == "runtime.NumGoroutine") = false) (hb : fn.body = some (.seq c0 c1)) (hrs : fn.results = #[]) (hn : fn.ntmps = N) (hd0 : dstsIn N c0 = true) {first caps : List PV} (S : Nat) (hargs : first.length + (caps.length + 1) ≤ N)
    (h : ∀ (l : Nat) (Rb : Nat → Prop) (J : GS → (Nat → Prop) → World → Prop), Env P l els Rb J → pwp P (N + S) c0 (thenP (fun fr => ∃ g : PF, less (N + S) fr g ∧ (g.all fun p => p.plain && p.flat) = true ∧
      XW P N (GCtx (N + S) Rb J) (.on 0) c1 (fun s x _ => (x = .normal ∨ x = .ret) ∧ (s = .on els.length ∨ s = .off) ∨ ∃ p, s = .pan p ∧ x = .panic p) g) (fun _ _ => False)) (frame0 (N + S) (first ++ (.clo (.yield l) [] [] :: caps)) [])) : GenW1 P f first caps els := by
  subst hn
  refine ⟨fun vs w => ?_, fun w us vs R Rb l J F0 hR hRb henv hJ hlu hl hrepu hrep => ?_⟩
  · simp only [callFunc, Sem.run_bind, run_program, Result.andThen_ok, hf, hname, hb]
    rfl
  · have h0 : Sim 0 ⟨fun b => F0 b ∨ Rb b ∨ ∃ o, R b o, w, R, fun _ => none, 0, []⟩ R (fun _ => none) noAct w [] :=
      ⟨rfl, Nat.zero_le _, fun t p hp => (by simp at hp), fun i j l m b hi => (by cases hi), fun i l hi => (by cases hi), hR, fun b o hb => .inl hb, Kept.refl _ _, hRb.go (fun b hb => hb.elim (henv.bnd _ _ _ _ hJ) fun h => h.elim (hRb b) fun ⟨o, h⟩ => hR b o h) (fun b _ hb => .inr (.inl hb)) (fun _ _ _ => rfl), Nat.le_refl _, fun j l _ hl => (by cases hl), rfl⟩
    have hsim := h0.enter (N := fn.ntmps) (M := fn.ntmps + S) (vs := us ++ (.func (.yield l) #[] #[] :: vs)) (args := first ++ (.clo (.yield l) [] [] :: caps)) (by simp [hl, hlu]) (fun i u p hu hp => by
      by_cases hi : i < us.length
      · rw [List.getElem?_append_left hi] at hu
        rw [List.getElem?_append_left (by omega)] at hp
        exact hrepu i u p hu hp
      · rw [List.getElem?_append_right (by omega)] at hu
        rw [List.getElem?_append_right (by omega), ← hlu] at hp
        generalize i - us.length = i at hu hp
        cases i with
        | zero =>
          simp only [List.getElem?_cons_zero, Option.some.injEq] at hu hp
          subst hu hp
          exact .clo _ [] [] [] [] rfl rfl (fun i u p hi => by simp at hi) (fun i u p hi => by simp at hi)
        | succ i => exact hrep i u p (by simpa using hu) (by simpa using hp)) (by simpa using hargs) (Nat.le_add_right _ _)
    have ea : (us.toArray ++ #[Value.func (.yield l) #[] #[]] ++ vs.toArray) = (us ++ (Value.func (.yield l) #[] #[] :: vs)).toArray := by simp
    rw [ea]
    refine calls_of_wr hf hb (wr_seq (wr_mono (pwp_sound (ro := none) hm rfl c0 _ _ _ w hd0 hsim.toE (h l Rb J henv)) fun e0 a0 w0 ⟨R0, Γ0, fr0, x0, hs0, hu0, hq0⟩ => ?_))
    cases x0 with
    | normal =>
      cases e0 with
      | normal =>
        obtain ⟨g, hless, hdry, hx⟩ := hq0
        have hs1 := weak_R hs0 hless
        have hs2 : Sim fn.ntmps ⟨fun b => F0 b ∨ Rb b, w, fun _ _ => False, fun _ => none, fn.ntmps + S, []⟩ (fun _ _ => False) (fun _ => none) a0 w0 g := hs1.dry hdry (fun b hb => hb.imp_right .inl) (fun b hb => .inr (hRb.isP hb)) rfl rfl rfl (fun _ => rfl)
        refine wr_mono (hx ⟨fun b => F0 b ∨ Rb b, w, fun _ _ => False, fun _ => none, fn.ntmps + S, []⟩ a0 w0 ⟨rfl, rfl, F0, hJ, fun b hb => .inl hb, fun b hb => .inr hb, fun b o hb => hb.elim⟩ hs2.toE) fun e a w' ⟨s, B, ⟨hlo, hD, F, hJ', hF, _, _⟩, R', Γ', fr, x, hs, hu, hx⟩ => ?_
        have hJ2 : J s F w' := henv.stab _ _ _ _ hJ' (fun b hb => hs.kept.block b (hF b hb)) hs.kept.size hs.kept.os hs.kept.tape hs.kept.output
        rcases hx with ⟨hx, hs'⟩ | ⟨p, rfl, rfl⟩
        · have fin : LeavesC P fn a.tmps (genPost els J) a.defers .returning w' := by
            rw [hs.defers, hD]
            refine ⟨.tuple #[], ?_, s, F, hs', hJ2⟩
            simp [results, hrs]
          rcases hx with rfl | rfl
          · cases e with
            | normal => exact fin
            | _ => exact hu.elim
          · cases e with
            | ret => exact fin
            | _ => exact hu.elim
        · cases e with
          | panic ch =>
            obtain ⟨v, rfl, hr⟩ := hu
            obtain ⟨p1, p2⟩ := henv.pan p F w' hJ2
            show LeavesC P fn a.tmps (genPost els J) a.defers _ w'
            rw [hs.defers, hD]
            exact ⟨v, p, F, rfl, plain_rep hr p1 p2, hJ2⟩
          | _ => exact hu.elim
      | _ => exact hu0.elim
    | _ => exact hq0.elim
theorem XW_range1 (hN : 0 < N) (hmx : P.follows .mixedOrders = true) {g : Operand} {t : Tmp} {assign body : Code} {gf : FuncId} {caps els : List PV} {first : List PV} (hg : rd fr g = .clo (.func gf) first caps) (firstd capsd : List PV) (hfv : vwAll (vw fr (tgtAt [] [] fun _ => true) 8) firstd first) (hcv : vwAll (vw fr (tgtAt [] [] fun _ => true) 8) capsd caps) (hfirst : plainL firstd = true) (hcaps : plainL capsd = true) (hgen : GenW1 P gf firstd capsd els) (hels : ∀ p ∈ els, p.plain = true ∧ p.flat = true)
    (hda : dstsIn N assign = true) (hdb : dstsIn N body = true) (M' : Nat) (hM' : N ≤ M') (κ : List Nat) (hκ : κ.Nodup) (V : Nat → PF) (A : Nat → List PV) (H : Nat → PF) (h0 : less B0.lo fr (V 0))
    (hview : ∀ n, n < els.length → V n ≠ [] → (A n).length = N ∧ outF (V n) (tgtAt (H n) κ fun _ => false) 8 (H n) κ ∧ ∀ i, i < N → i ≠ t → vw (V n) (tgtAt (H n) κ fun _ => false) 8 ((A n).getD i .undef) (rd (V n) (.tmp i)))
    (hround : ∀ n p, els[n]? = some p → V n ≠ [] → pwp P M' assign (thenP (pwp P M' body (rend B0.lo M' κ (V n) (V (n + 1)) Q)) (fun _ _ => False)) (frame0 M' ((A n).set t p) (H n)))
    (hend : V els.length ≠ [] → Q () .normal (V els.length)) : XW P N (ECtx B0) () (.rangeFunc g #[t] assign body) Q fr := fun B a w hC ⟨R, Γ, hs⟩ => by
  have hlo := hC.1
  have hgv := hs.rd g
  rw [hg] at hgv
  generalize hu : a.eval g = u at hgv
  cases hgv with
  | clo _ uf uc _ _ l1 l2 r1 r2 =>
  refine wr_rangeF hu hgen.1 fun fn => ?_
  generalize hW1 : (w.alloc (.deferred (some []))).alloc (.loop (loopRec fn a #[t] assign body w.heap.size .ready none)) = W1
  have hbel : Below w.heap.size w W1 := by
    rw [← hW1]; exact (((Below.refl _ w).alloc (Nat.le_refl _) _).alloc (by simp) _)
  have hl1 : W1.heap[w.heap.size + 1]? = some (.loop (loopRec fn a #[t] assign body w.heap.size .ready none)) := by
    rw [← hW1]; have := World.alloc_heap_new (w.alloc (.deferred (some []))) (.loop (loopRec fn a #[t] assign body w.heap.size .ready none)); rwa [World.size_alloc] at this
  have hD1 : W1.heap[w.heap.size]? = some (.deferred (some [])) := by
    rw [← hW1]; exact (Below.heap_alloc _ _ _ (by simp)).trans (World.alloc_heap_new w _)
  have hw1 := weak_R hs (by rw [hlo]; exact h0)
  have hs1 := hw1.grown hbel _ (fun _ _ x => x) (fun _ _ x => .inl x)
  have hBl : ∀ b, B.Prot b → b < w.heap.size := fun b hb => Nat.lt_of_lt_of_le (hs.prot b hb) hs.kept.size
  have henv : Env P (w.heap.size + 1) els (fun b => (∃ o, R b o) ∨ isTab b) (LoopJ N B a (w.heap.size + 1) w.heap.size (loopRec fn a #[t] assign body w.heap.size) R V Q) := by
    refine ⟨fun b hb => .inr hb, fun s F W b hJ hb => ?_, fun s F W W' hJ hF hsz ho ht hou => ?_, fun p F W hJ => ?_, fun n F W v p Ra Γa hJ hel hv => ?_⟩
    · obtain ⟨R, Γ, fr, st, pe, k1, rfl, k3, k4, _⟩ := hJ
      exact foot_bnd k1 k3 k4 hb
    · obtain ⟨R, Γ, fr, st, pe, k1, rfl, k3, k4, k5⟩ := hJ
      exact ⟨R, Γ, fr, st, pe, foot_stay k1 hF hsz ho ht hou, rfl, (hF _ (.inr (.inr (.inr (.inl rfl))))).trans k3, (hF _ (.inr (.inr (.inr (.inr rfl))))).trans k4, k5⟩
    · obtain ⟨R, Γ, fr, st, pe, _, _, _, _, _, _, k7, k8, _⟩ := hJ
      exact ⟨k7, k8⟩
    · obtain ⟨R', Γ', fr', st, pe, k1, rfl, k3, k4, k5, k6, rfl, rfl, rfl⟩ := hJ
      have hlt := lt_of_get? hel
      have hV : V n ≠ [] := fun e => by have := k1.len; rw [e] at this; simp at this; omega
      obtain ⟨v1, v2, v3⟩ := hview n hlt hV
      have hy : (Instr.yield (w.heap.size + 1) #[v]).run P W = .ok (.round (w.heap.size + 1) fn (a.tmps.setIfInBounds t v) assign body) W := by
        have := run_yield (P := P) (args := #[v]) k3 rfl
        simpa [loopRec] using this
      refine ⟨_, _, _, _, hy, fun c cs => ?_⟩
      obtain ⟨e, W2, ⟨R2, Γ2, fr2, st2, pe2, q2, q3, q4, q5, q6, q7, q8, q9⟩, hsteps⟩ := round_sound (l := w.heap.size + 1) (D := w.heap.size) (R00 := R) hmx hda hdb hM' hκ (p := p) (v := v) (Q := Q) (next := V (n + 1)) k1 ⟨by simp, fun b hb => Nat.lt_succ_of_lt (hBl b hb)⟩ rfl k3 k4 (by omega) k6 k5 v2 v1 v3 (hels p (List.mem_of_getElem? hel)) hv (by rw [hlo]; exact hround n p hel hV) c cs
      refine ⟨e, W2, ⟨foot B R2 Γ2 (w.heap.size + 1) w.heap.size, ?_, q7, ⟨q8.os, q8.tape, q8.output, q8.size, fun x hx => by
        rcases hx.2 with h | ⟨o, ho⟩ | h
        · exact q8.block x ⟨hx.1, .inl h⟩
        · exact q8.block x ⟨hx.1, .inr ⟨o, k5 x o ho⟩⟩
        · exact (q2.kept.block x (k1.prot.isP h)).trans (k1.kept.block x (k1.prot.isP h)).symm⟩⟩, hsteps⟩
      cases e with
      | outgrown => exact q9.elim
      | panicked ch =>
        obtain ⟨pv, q, e1, e2, e3, e4, e5⟩ := q9
        exact ⟨pv, q, e1, e2, R2, Γ2, fr2, st2, pe2, q2, rfl, q3, q4, q5, q6, e3, e4, e5⟩
      | returned ret =>
        obtain ⟨b, e1, q9⟩ := q9
        refine ⟨b, e1, ?_⟩
        cases b with
        | true => exact ⟨R2, Γ2, fr2, st2, pe2, q2, rfl, q3, q4, q5, q6, q9⟩
        | false => exact ⟨R2, Γ2, fr2, st2, pe2, q2, rfl, q3, q4, q5, q6, q9⟩
  have hJ0 : LoopJ N B a (w.heap.size + 1) w.heap.size (loopRec fn a #[t] assign body w.heap.size) R V Q (.on 0) (foot B (freed R Γ (V 0)) (Γof Γ (V 0)) (w.heap.size + 1) w.heap.size) W1 := by
    refine ⟨_, _, V 0, .ready, none, hs1, rfl, hl1, hD1, fun b o hb => .inl hb, fun o ho => ?_, rfl, rfl, rfl⟩
    rcases ho with ho | ⟨s, m, _, hm, hmb⟩
    · have := hs.bnd _ o ho; omega
    · have := ((hs.own s m hm).2 _ hmb).2.1; omega
  have after : ∀ {R' : Nat → Nat → Prop} {Γ' : Nat → Option Loc} {fr' : PF} {w' : World} {rc : Loop} (w2 : World), Sim N B R' Γ' a w' fr' → w'.heap[w.heap.size + 1]? = some (.loop rc) → w'.heap[w.heap.size]? = some (.deferred (some [])) → (w2 = w' ∨ ∃ rc', w2 = w'.putObj (w.heap.size + 1) (.loop rc')) →
      ∃ B', ECtx B0 () B' ∧ Sim N B' R' Γ' { a with defers := { target := .collected w.heap.size, args := #[] } :: a.defers } w2 fr' := by
    intro R' Γ' fr' w' rc w2 k1 k3 k4 hw2
    obtain ⟨c1, c2, c3, c4, c5, ms, hms, hDs, hm⟩ := hC
    have hlt := (Array.getElem?_eq_some_iff.1 k3).1
    have z1 : ∀ k, k ≠ w.heap.size + 1 → w2.heap[k]? = w'.heap[k]? := fun k hk => by
      rcases hw2 with rfl | ⟨rc', rfl⟩
      · rfl
      · exact World.putObj_heap_other hk
    have z2 : w2.heap.size = w'.heap.size := by
      rcases hw2 with rfl | ⟨rc', rfl⟩
      · rfl
      · simp
    have z3 : w2.os = w'.os ∧ w2.tape = w'.tape ∧ w2.output = w'.output := by
      rcases hw2 with rfl | ⟨rc', rfl⟩ <;> exact ⟨rfl, rfl, rfl⟩
    have z4 : ∀ b o, w2.cell? ⟨b, o, none⟩ = w'.cell? ⟨b, o, none⟩ := fun b o => by
      rcases hw2 with rfl | ⟨rc', rfl⟩
      · rfl
      · exact cell_putObj k3 (by simp) (by simp)
    refine ⟨⟨fun b => B.Prot b ∨ b = w.heap.size, w2, R', B.Γ0, B.lo, { target := .collected w.heap.size, args := #[] } :: B.D⟩, ⟨c1, fun b hb => .inl (c2 b hb), ?_, fun b o hb => ?_, c5, w.heap.size :: ms, ?_, by rw [hDs]; rfl, fun r hr => ?_⟩, ?_⟩
    · refine (c3.trans (k1.kept.mono c2)).trans ⟨z3.1, z3.2.1, z3.2.2, Nat.le_of_eq z2.symm, fun k hk => z1 k fun e => ?_⟩
      have := hBl k (c2 k hk)
      omega
    · rcases k1.sub b o hb with h1 | h1
      · exact c4 b o h1
      · exact .inr fun hp => h1 (c2 b hp)
    · refine List.nodup_cons.2 ⟨fun hin => ?_, hms⟩
      have := hBl _ (hm _ hin).1
      omega
    · rcases List.mem_cons.1 hr with rfl | hr
      · refine ⟨.inr rfl, fun hp => ?_, (z1 _ (by omega)).trans k4⟩
        have := hBl _ (c2 _ hp)
        omega
      · obtain ⟨h1, h2, h3⟩ := hm r hr
        refine ⟨.inl h1, h2, ?_⟩
        have hrl := hBl r h1
        exact (z1 _ (by omega)).trans ((k1.kept.block r h1).trans h3)
    · refine k1.moved (fun b o _ => z4 b o) (fun i m b hi hb => z1 b fun e => k1.not_own k3 (by simp) (by simp) hi (e ▸ hb)) (Nat.le_of_eq z2.symm) (fun i m b hi hb hp => ?_) (fun b o hb => .inl hb) (Kept.refl _ _) (k1.prot.go (fun b hb => ?_) (fun b _ hb => .inl hb) fun b _ hb => (z1 b (by have := hBl b hb; omega)).trans (k1.kept.block b hb)) k1.lo k1.base rfl (by rw [k1.defers])
      · rcases hp with hp | rfl
        · exact ((k1.own i m hi).2 b hb).1 hp
        · exact k1.not_own k4 (by simp) (by simp) hi hb
      · rcases hb with hb | rfl
        · have := hBl b hb
          simp only
          have := k1.kept.size
          omega
        · simp only
          omega
  obtain ⟨_, hvw⟩ := hs.leave (f := fr) (H := []) (κ := []) (gone := fun _ => true) trivial List.nodup_nil (fun s hs => by cases hs)
  have hR1 : ∀ b o, freedAt R Γ (fun _ => true) b o → b < w.heap.size := fun b o hb => by
    rcases hb with hb | ⟨s, m, _, hm, hmb⟩
    · exact hs.bnd b o hb
    · exact ((hs.own s m hm).2 b hmb).2.1
  have side : ∀ {qs ps : List PV} {us : List Value}, vwAll (vw fr (tgtAt [] [] fun _ => true) 8) qs ps → plainL qs = true → (∀ (i : Nat) (u : Value) (p : PV), us[i]? = some u → ps[i]? = some p → Rep w R Γ u p) → ∀ (i : Nat) (u : Value) (q : PV), us[i]? = some u → qs[i]? = some q → Rep W1 (freedAt R Γ fun _ => true) (fun _ => none) u q := fun hv hpl hr i u q hu hq => by
    obtain ⟨p, hp, hv⟩ := vwAll_get hv i q hq
    refine (hvw q p u hv (hr i u p hu hp)).free (fun b o hb => ⟨hb, cell?_of_heap (hbel.block b (hR1 b o hb))⟩) ?_
    refine List.eq_nil_iff_forall_not_mem.2 fun j hj => ?_
    have := mem_namesL.2 ⟨q, List.mem_of_getElem? hq, hj⟩
    rw [plainL_names hpl] at this; cases this
  refine (hgen.2 W1 uf uc (freedAt R Γ fun _ => true) (fun b => (∃ o, R b o) ∨ isTab b) (w.heap.size + 1) _ _ (fun b o hb => Nat.lt_of_lt_of_le (hR1 b o hb) hbel.size) (hs.prot.go (fun b hb => hb.elim (fun ⟨o, hb⟩ => Nat.lt_of_lt_of_le (hs.bnd b o hb) hbel.size) fun hb => Nat.lt_of_lt_of_le (hBl b (hs.prot.isP hb)) hbel.size) (fun b hb _ => .inr hb) fun b _ hb => (hbel.block b (hBl b hb)).trans (hs.kept.block b hb)) henv hJ0 (l1.trans (vwAll_length hfv).symm) (l2.trans (vwAll_length hcv).symm) (side hfv hfirst r1) (side hcv hcaps r2)).mono ?_
  · intro e w' hgp
    cases e with
    | outgrown => exact hgp.elim
    | panicked ch =>
      obtain ⟨pv, q, F', rfl, hrep, R', Γ', fr', st, pe, k1, _, k3, k4, _, _, _, _, hQ⟩ := hgp
      obtain ⟨B', hC', hs2⟩ := after w' k1 k3 k4 (.inl rfl)
      exact ⟨(), B', hC', R', Γ', _, .panic q, hs2, ⟨pv, rfl, hrep _ _ _⟩, hQ⟩
    | returned rv =>
    obtain ⟨s, F', hs', R', Γ', fr', st, pe, k1, _, k3, k4, _, _, hm⟩ := hgp
    refine ⟨st, pe, k3, ?_⟩
    obtain ⟨B', hC', hs2⟩ := after (w'.putObj (w.heap.size + 1) (.loop (loopRec fn a #[t] assign body w.heap.size .exhausted pe))) k1 k3 k4 (.inr ⟨_, rfl⟩)
    rcases hs' with rfl | rfl
    · obtain ⟨rfl, rfl, rfl⟩ := hm
      exact ⟨by simp, (), B', hC', R', Γ', _, .normal, hs2, trivial, hend fun e => by have := k1.len; rw [e] at this; simp at this; omega⟩
    · obtain ⟨rfl, c, x, rfl, hjx, hQ⟩ := hm
      refine ⟨by simp, ?_⟩
      cases c with
      | ret => cases x with
        | ret => exact ⟨(), B', hC', R', Γ', _, .ret, hs2, trivial, hQ⟩
        | _ => exact hjx.elim
      | exit id => cases x with
        | exit id' => exact ⟨(), B', hC', R', Γ', _, .exit id', hs2, hjx, hQ⟩
        | _ => exact hjx.elim
      | _ => cases x <;> exact hjx.elim
end
end Go.Qg

namespace Go.Qg
theorem pd_call {P : Program} {o : Oper} {fr : PF} {c : Call} {f : FuncId} {ps : List PV} {r : PV} {H2 : PF} {k : List Nat → PF → Prop} (h : CallW P f ps [] fun out => out = .ret r H2) (news : List Nat) (hp : pcallee P fr c = some (f, ps)) (hno : noObj o.dst fr = true) (hnm : namesL ps = [])
    (hb : backOk fr [] news H2) (hd : ∀ d, o.dst = some d → d ∉ news) (hk : k news (put o.dst (backV news r) (back fr news H2))) : pdCall P o c fr k := by
  unfold pdCall
  rw [hp]
  exact ⟨hno, false, ps, r, H2, news, .inl ⟨rfl, rfl, hnm⟩, .inl rfl, h, hb, hd, hk⟩
theorem pop_callF {P : Program} {M : Nat} {K : PF → Prop} {Kp : PV → PF → Prop} {o : Oper} {fr : PF} {c : Call} {f : FuncId} {ps qs : List PV} {H : PF} {Q : Out → Prop} (V : List (Nat × PV)) (hg : less M fr (apply V fr)) (h : CallW P f qs H Q) (hp : pcallee P (apply V fr) c = some (f, ps)) (ι : List Nat) (md : Bool) (hι : ι.Nodup)
    (ho : outF (apply V fr) (lentTgt H ι md) 8 H ι) (ha : argsOk (apply V fr) (lentTgt H ι md) qs ps)
    (hk : ∀ out, Q out → match out with
      | .ret r H2 => ∃ news, backOk (apply V fr) ι news H2 ∧ (md = false ∨ (flatL H2 && r.flat) = true) ∧ pclear o.dst (backV (ι ++ news) r) (back (apply V fr) (ι ++ news) H2) = true ∧ K (put o.dst (backV (ι ++ news) r) (back (apply V fr) (ι ++ news) H2))
      | .pan p H2 => ∃ news, backOk (apply V fr) ι news H2 ∧ (md = false ∨ (flatL H2 && p.flat) = true) ∧ Kp (backV (ι ++ news) p) (back (apply V fr) (ι ++ news) H2)) : popCall P M K Kp o c fr :=
  pop_callG (apply V fr) hg h hp ι md hι ho ha hk
theorem pop_specF {P : Program} {M : Nat} {K : PF → Prop} {Kp : PV → PF → Prop} {o : Oper} {fr : PF} {c : Call} {f : FuncId} {ps qs : List PV} {r : PV} (V : List (Nat × PV)) (hg : less M fr (apply V fr)) (h : Spec P f qs r) (hp : pcallee P (apply V fr) c = some (f, ps)) (md : Bool) (ha : argsOk (apply V fr) (lentTgt [] [] md) qs ps) (hfl : md = false ∨ r.flat = true)
    (hn : r.names = []) (hcl : pclear o.dst r (apply V fr) = true) (hK : K (put o.dst r (apply V fr))) : popCall P M K Kp o c fr :=
  pop_specG (apply V fr) hg h hp md ha hfl hn hcl hK
def keysI (d : List Int) : List PV := d.map fun x => .v (.int .i64 x)
def trues (d : List Int) : List PV := d.map fun _ => .v (.bool true)
@[simp] theorem keysI_length (d : List Int) : (keysI d).length = d.length := by simp [keysI]
@[simp] theorem trues_length (d : List Int) : (trues d).length = d.length := by simp [trues]
@[simp] theorem keysI_nil : keysI [] = [] := rfl
@[simp] theorem trues_nil : trues [] = [] := rfl
theorem keysI_plain (d : List Int) : plainL (keysI d) = true := by
  induction d with
  | nil => rfl
  | cons x d ih => simpa [keysI, plainL, PV.plain] using ih
theorem trues_plain (d : List Int) : plainL (trues d) = true := by
  induction d with
  | nil => rfl
  | cons x d ih => simpa [trues, plainL, PV.plain] using ih
@[simp] theorem keysI_names (d : List Int) : namesL (keysI d) = [] := plainL_names (keysI_plain d)
@[simp] theorem trues_names (d : List Int) : namesL (trues d) = [] := plainL_names (trues_plain d)
@[simp] theorem keysI_ren (π : Nat → Nat) (d : List Int) : renL π (keysI d) = keysI d := renL_plain (keysI_plain d)
@[simp] theorem trues_ren (π : Nat → Nat) (d : List Int) : renL π (trues d) = trues d := renL_plain (trues_plain d)
@[simp] theorem keysI_vw (f : PF) (T : Tgt) (e : Nat) (d : List Int) : vwAll (vw f T e) (keysI d) (keysI d) = True := eq_true (vwAll_plain (keysI_plain d))
@[simp] theorem trues_vw (f : PF) (T : Tgt) (e : Nat) (d : List Int) : vwAll (vw f T e) (trues d) (trues d) = True := eq_true (vwAll_plain (trues_plain d))
@[simp] theorem keysI_flat (d : List Int) : flatL (keysI d) = true := by
  induction d with
  | nil => rfl
  | cons x d ih => simpa [keysI, flatL, PV.flat] using ih
@[simp] theorem trues_flat (d : List Int) : flatL (trues d) = true := by
  induction d with
  | nil => rfl
  | cons x d ih => simpa [trues, flatL, PV.flat] using ih
def dfind (d : List Int) (x : Int) : Nat → Option Nat := fun j => match d with
  | [] => none
  | y :: d => if x == y then some j else dfind d x (j + 1)
theorem pkfind_ints {P : Program} {t : TypeId} (ht : (tint P t).isSome = true) (d : List Int) (x : Int) : ∀ j, pkfind P t (.v (.int .i64 x)) (keysI d) j = some (dfind d x j) := by
  induction d with
  | nil => intro j; rfl
  | cons y d ih =>
    intro j
    have e : keysI (y :: d) = .v (.int .i64 y) :: keysI d := rfl
    rw [e]
    simp only [pkfind, pkeyEq, ht, and_self, if_true, dfind]
    by_cases h : x == y
    · simp [h]
    · simp only [h, if_false]
      exact ih (j + 1)
theorem dfind_some {d : List Int} {x : Int} : ∀ {j i : Nat}, dfind d x j = some i → j ≤ i ∧ i - j < d.length ∧ d[i - j]? = some x := by
  induction d with
  | nil => intro j i h; cases h
  | cons y d ih =>
    intro j i h
    simp only [dfind] at h
    split at h
    · rename_i hxy
      obtain rfl := Option.some.inj h
      simp at hxy
      simp [hxy]
    · obtain ⟨h1, h2, h3⟩ := ih h
      refine ⟨by omega, by simp; omega, ?_⟩
      rw [show i - j = (i - (j + 1)) + 1 from by omega, List.getElem?_cons_succ]; exact h3
theorem dfind_mem {d : List Int} {x : Int} : ∀ {j : Nat}, (dfind d x j).isSome = d.contains x := by
  induction d with
  | nil => intro j; rfl
  | cons y d ih =>
    intro j
    simp only [dfind, List.contains_cons]
    by_cases h : x == y
    · simp [h]
    · simp only [h, if_false, Bool.false_or]; exact ih
theorem trues_get {d : List Int} {x : Int} {i : Nat} (h : dfind d x 0 = some i) : (trues d)[i]? = some (.v (.bool true)) := by
  obtain ⟨_, h2, _⟩ := dfind_some h
  have h2 : i < d.length := by simpa using h2
  simp [trues, h2]
theorem keysI_set {d : List Int} {x : Int} {i : Nat} (h : dfind d x 0 = some i) : (keysI d).set i (.v (.int .i64 x)) = keysI d := by
  obtain ⟨_, h2, h3⟩ := dfind_some h
  refine List.ext_getElem? fun j => ?_
  rw [List.getElem?_set]
  split
  · rename_i hij; subst hij
    have h3 : d[i]? = some x := by simpa using h3
    have h2 : i < d.length := by simpa using h2
    simp [keysI, h2, h3]
    have := List.getElem?_eq_getElem h2
    rw [this] at h3
    exact (Option.some.inj h3).symm
  · rfl
theorem trues_set {d : List Int} {i : Nat} (h : i < d.length) : (trues d).set i (.v (.bool true)) = trues d := by
  refine List.ext_getElem? fun j => ?_
  rw [List.getElem?_set]
  split
  · rename_i hij; subst hij
    simp [trues, h]
  · rfl
theorem keysI_snoc (d : List Int) (x : Int) : keysI d ++ [.v (.int .i64 x)] = keysI (d ++ [x]) := by simp [keysI]
theorem trues_snoc (d : List Int) (x : Int) : trues d ++ [.v (.bool true)] = trues (d ++ [x]) := by simp [trues]
end Go.Qg

namespace Go.Qg
set_option maxRecDepth 100000
@[simp] theorem wrap_0 : IntKind.i64.wrap 0 = 0 := i64_wrap (by omega)
@[simp] theorem wrap_1 : IntKind.i64.wrap 1 = 1 := i64_wrap (by omega)
@[simp] theorem wrap_2 : IntKind.i64.wrap 2 = 2 := i64_wrap (by omega)
@[simp] theorem wrap_3 : IntKind.i64.wrap 3 = 3 := i64_wrap (by omega)
@[simp] theorem wrap_m1 : IntKind.i64.wrap (-1) = -1 := i64_wrap (by omega)
def geti (l : List Int) (i : Nat) : Int := l.getD i 0
def ints (l : List Int) : PV := .sl 1 l.length fun i => [.v (.int .i64 (geti l i))]
def allN (n : Nat) (p : Nat → Bool) : Bool := (List.range n).all p
theorem allN_spec {n : Nat} {p : Nat → Bool} : allN n p = true ↔ ∀ k, k < n → p k = true := by simp [allN]
theorem allN_false {n k : Nat} {p : Nat → Bool} (hk : k < n) (h : p k = false) : allN n p = false := by
  cases he : allN n p with
  | false => rfl
  | true => rw [allN_spec.1 he k hk] at h; cases h
def rowsI (l : List Int) : List (List PV) := l.map fun x => [.v (.int .i64 x)]
@[simp] theorem rowsI_length (l : List Int) : (rowsI l).length = l.length := by simp [rowsI]
@[simp] theorem renLL_rowsI (π : Nat → Nat) (l : List Int) : renLL π (rowsI l) = rowsI l := by
  induction l with
  | nil => rfl
  | cons x l ih => simpa [rowsI, renLL, renL, PV.ren] using ih
@[simp] theorem namesLL_rowsI (l : List Int) : namesLL (rowsI l) = [] := by
  induction l with
  | nil => rfl
  | cons x l ih => simpa [rowsI, namesLL, namesL, PV.names] using ih
@[simp] theorem flatLL_rowsI (l : List Int) : flatLL (rowsI l) = true := by
  induction l with
  | nil => rfl
  | cons x l ih => simpa [rowsI, flatLL, flatL, PV.flat] using ih
@[simp] theorem vwAllL_rowsI (f : PF) (T : Tgt) (d : Nat) (a b : List Int) : vo.vwAllL f T (d + 1) (rowsI a) (rowsI b) = (a = b) := by
  induction a generalizing b with
  | nil => cases b <;> simp [rowsI, vo.vwAllL]
  | cons x a ih =>
    cases b with
    | nil => simp [rowsI, vo.vwAllL]
    | cons y b =>
      have := ih b
      simp only [rowsI] at this
      simp [rowsI, vo.vwAllL, this]
@[simp] theorem rowsI_take (l : List Int) (k : Nat) : (rowsI l).take k = rowsI (l.take k) := by simp [rowsI]
@[simp] theorem rowsI_mem {l : List Int} {r : List PV} : r ∈ rowsI l ↔ ∃ x, x ∈ l ∧ [.v (.int .i64 x)] = r := by simp [rowsI]
@[simp] theorem rowsI_nil : rowsI [] = [] := rfl
theorem rowsI_snoc (l : List Int) (x : Int) : rowsI l ++ [[.v (.int .i64 x)]] = rowsI (l ++ [x]) := by simp [rowsI]
theorem rowsI_get {l : List Int} {k : Nat} (h : k < l.length) : (rowsI l)[k]? = some [.v (.int .i64 (geti l k))] := by simp [rowsI, geti, h]
@[simp] theorem rowsI_getElem {l : List Int} {k : Nat} (h : k < (rowsI l).length) : (rowsI l)[k] = [.v (.int .i64 (geti l k))] := by
  have h2 : k < l.length := by simpa using h
  simp [rowsI, geti, h2]
theorem rowsI_getD {l : List Int} {k : Nat} (h : k < l.length) : (rowsI l).getD k [] = [.v (.int .i64 (geti l k))] := by simp [List.getD, rowsI_get h]
theorem rowsI_set (l : List Int) (k : Nat) (x : Int) : (rowsI l).set k [.v (.int .i64 x)] = rowsI (l.set k x) := by simp [rowsI, List.map_set]
theorem geti_set {l : List Int} {i k : Nat} {x : Int} (h : i < l.length) : geti (l.set k x) i = if k = i then x else geti l i := by
  unfold geti
  rw [List.getD_eq_getElem?_getD, List.getElem?_set]
  split
  · rename_i h1; subst h1; simp [h]
  · rw [List.getD_eq_getElem?_getD]
theorem rowsI_range (l : List Int) : (List.range l.length).map (fun i => [PV.v (.int .i64 (geti l i))]) = rowsI l := by
  refine List.ext_getElem? fun i => ?_
  by_cases h : i < l.length
  · rw [rowsI_get h, List.getElem?_map, List.getElem?_range h]; rfl
  · rw [List.getElem?_eq_none (by simp; omega), List.getElem?_eq_none (by simp; omega)]
theorem rowsI_rep (n : Nat) : List.replicate n [PV.v (.int .i64 0)] = rowsI (List.replicate n 0) := by simp [rowsI]
def getb (l : List Bool) (i : Nat) : Bool := l.getD i false
def bools (l : List Bool) : PV := .sl 1 l.length fun i => [.v (.bool (getb l i))]
def rowsB (l : List Bool) : List (List PV) := l.map fun x => [.v (.bool x)]
@[simp] theorem rowsB_length (l : List Bool) : (rowsB l).length = l.length := by simp [rowsB]
@[simp] theorem renLL_rowsB (π : Nat → Nat) (l : List Bool) : renLL π (rowsB l) = rowsB l := by
  induction l with
  | nil => rfl
  | cons x l ih => simpa [rowsB, renLL, renL, PV.ren] using ih
@[simp] theorem namesLL_rowsB (l : List Bool) : namesLL (rowsB l) = [] := by
  induction l with
  | nil => rfl
  | cons x l ih => simpa [rowsB, namesLL, namesL, PV.names] using ih
@[simp] theorem flatLL_rowsB (l : List Bool) : flatLL (rowsB l) = true := by
  induction l with
  | nil => rfl
  | cons x l ih => simpa [rowsB, flatLL, flatL, PV.flat] using ih
@[simp] theorem vwAllL_rowsB (f : PF) (T : Tgt) (d : Nat) (a b : List Bool) : vo.vwAllL f T (d + 1) (rowsB a) (rowsB b) = (a = b) := by
  induction a generalizing b with
  | nil => cases b <;> simp [rowsB, vo.vwAllL]
  | cons x a ih =>
    cases b with
    | nil => simp [rowsB, vo.vwAllL]
    | cons y b =>
      have := ih b
      simp only [rowsB] at this
      simp [rowsB, vo.vwAllL, this]
@[simp] theorem rowsB_take (l : List Bool) (k : Nat) : (rowsB l).take k = rowsB (l.take k) := by simp [rowsB]
@[simp] theorem rowsB_one {l : List Bool} : (∀ (x : List PV), x ∈ rowsB l → ∀ (y : PV), y ∈ x → y.one = true) ↔ True := by
  refine ⟨fun _ => trivial, fun _ x hx y hy => ?_⟩
  obtain ⟨b, _, rfl⟩ := List.mem_map.1 hx
  obtain rfl := List.mem_singleton.1 hy
  rfl
@[simp] theorem rowsB_len1 {l : List Bool} : (∀ (x : List PV), x ∈ rowsB l → x.length = 1) ↔ True := by
  refine ⟨fun _ => trivial, fun _ x hx => ?_⟩
  obtain ⟨b, _, rfl⟩ := List.mem_map.1 hx
  rfl
theorem rowsB_get {l : List Bool} {k : Nat} (h : k < l.length) : (rowsB l)[k]? = some [.v (.bool (getb l k))] := by simp [rowsB, getb, h]
@[simp] theorem rowsB_getElem {l : List Bool} {k : Nat} (h : k < (rowsB l).length) : (rowsB l)[k] = [.v (.bool (getb l k))] := by
  have h2 : k < l.length := by simpa using h
  simp [rowsB, getb, h2]
theorem rowsB_set (l : List Bool) (k : Nat) (x : Bool) : (rowsB l).set k [.v (.bool x)] = rowsB (l.set k x) := by simp [rowsB, List.map_set]
theorem rowsB_rep (n : Nat) : List.replicate n [PV.v (.bool false)] = rowsB (List.replicate n false) := by simp [rowsB]
theorem rowsB_range (l : List Bool) : (List.range l.length).map (fun i => [PV.v (.bool (getb l i))]) = rowsB l := by
  refine List.ext_getElem? fun i => ?_
  rw [List.getElem?_map]
  by_cases hi : i < l.length
  · rw [List.getElem?_range hi, rowsB_get hi]; rfl
  · rw [List.getElem?_eq_none (by simpa using hi), List.getElem?_eq_none (by simpa using hi)]; rfl
def inB (x lo hi : Int) : Bool := decide (lo ≤ x) && decide (x ≤ hi)
theorem inB_spec {x lo hi : Int} : inB x lo hi = true ↔ lo ≤ x ∧ x ≤ hi := by simp [inB]
abbrev iv (n : Int) : PV := .v (.int .i64 n)
abbrev bv (b : Bool) : PV := .v (.bool b)
end Go.Qg

namespace Go.Qg
set_option maxRecDepth 100000
def sumN (f : Nat → Int) : Nat → Int
  | 0 => 0
  | n + 1 => sumN f n + f n
theorem sumN_congr {f g : Nat → Int} : ∀ {n : Nat}, (∀ i, i < n → f i = g i) → sumN f n = sumN g n
  | 0, _ => rfl
  | n + 1, h => by simp only [sumN, sumN_congr (n := n) fun i hi => h i (by omega), h n (by omega)]
theorem sumN_le {f g : Nat → Int} : ∀ {n : Nat}, (∀ i, i < n → f i ≤ g i) → sumN f n ≤ sumN g n
  | 0, _ => Int.le_refl _
  | n + 1, h => by
    have := sumN_le (n := n) fun i hi => h i (by omega)
    have := h n (by omega)
    simp only [sumN]; omega
theorem sumN_add (f g : Nat → Int) : ∀ n, sumN (fun i => f i + g i) n = sumN f n + sumN g n
  | 0 => rfl
  | n + 1 => by simp only [sumN, sumN_add f g n]; omega
theorem sumN_sub (f g : Nat → Int) : ∀ n, sumN (fun i => f i - g i) n = sumN f n - sumN g n
  | 0 => rfl
  | n + 1 => by simp only [sumN, sumN_sub f g n]; omega
theorem sumN_mul (c : Int) (f : Nat → Int) : ∀ n, sumN (fun i => c * f i) n = c * sumN f n
  | 0 => by simp [sumN]
  | n + 1 => by simp only [sumN, sumN_mul c f n, Int.mul_add]
theorem sumN_zero : ∀ n, sumN (fun _ => 0) n = 0
  | 0 => rfl
  | n + 1 => by simp only [sumN, sumN_zero n]; rfl
theorem sumN_nonneg {f : Nat → Int} {n : Nat} (h : ∀ i, i < n → 0 ≤ f i) : 0 ≤ sumN f n := by
  have := sumN_le (f := fun _ => 0) (g := f) (n := n) h
  rwa [sumN_zero] at this
theorem sumN_bound {f : Nat → Int} {a b : Int} : ∀ {n : Nat}, (∀ i, i < n → a ≤ f i ∧ f i ≤ b) → a * n ≤ sumN f n ∧ sumN f n ≤ b * n
  | 0, _ => by simp [sumN]
  | n + 1, h => by
    have h1 := sumN_bound (n := n) fun i hi => h i (by omega)
    have h2 := h n (by omega)
    have e1 : a * ((n + 1 : Nat) : Int) = a * n + a := by push_cast; rw [Int.mul_add, Int.mul_one]
    have e2 : b * ((n + 1 : Nat) : Int) = b * n + b := by push_cast; rw [Int.mul_add, Int.mul_one]
    rw [e1, e2]
    simp only [sumN]; omega
structure Spn where
  low : Int
  high : Int
  deriving DecidableEq, Inhabited
structure Stn where
  arm : Int
  most : Int
  deriving DecidableEq, Inhabited
structure Cnr where
  weight : Int
  moment : Int
  deriving DecidableEq, Inhabited
structure Itm where
  station : Int
  low : Int
  high : Int
  deriving DecidableEq, Inhabited
structure Pln where
  empty : Int
  moment : Int
  takeoff : Int
  landing : Int
  corners : List Cnr
  stations : List Stn
  tank : Stn
  reserve : Int
  floats : List Stn
structure Pnt where
  items : List Itm
  tank : Spn
  water : List Spn
  landing : Bool
structure Cse where
  items : List Int
  tank : Int
  water : List Int
def spnAt (l : List Spn) (i : Nat) : Spn := l.getD i default
def stnAt (l : List Stn) (i : Nat) : Stn := l.getD i default
def cnrAt (l : List Cnr) (i : Nat) : Cnr := l.getD i default
def itmAt (l : List Itm) (i : Nat) : Itm := l.getD i default
def gi (l : List Int) (i : Nat) : Int := l.getD i 0
def Pln.cA (P : Pln) (e : Nat) : Cnr := cnrAt P.corners e
def Pln.cB (P : Pln) (e : Nat) : Cnr := cnrAt P.corners ((e + 1) % P.corners.length)
def Pln.dw (P : Pln) (e : Nat) : Int := (P.cB e).weight - (P.cA e).weight
def Pln.dm (P : Pln) (e : Nat) : Int := (P.cB e).moment - (P.cA e).moment
def Pln.side (P : Pln) (e : Nat) (w m : Int) : Int := P.dw e * (m - (P.cA e).moment) - P.dm e * (w - (P.cA e).weight)
def Pln.slope (P : Pln) (e : Nat) (arm : Int) : Int := P.dw e * arm - P.dm e
theorem side_add (P : Pln) (e : Nat) (w m x arm : Int) : P.side e (w + x) (m + x * arm) = P.side e w m + P.slope e arm * x := by
  unfold Pln.side Pln.slope
  generalize P.dw e = a
  generalize P.dm e = b
  generalize (P.cA e).moment = c
  generalize (P.cA e).weight = d
  rw [show m + x * arm - c = (m - c) + arm * x from by rw [Int.mul_comm x arm]; omega, show w + x - d = (w - d) + x from by omega, Int.mul_add, Int.mul_add, Int.sub_mul, Int.mul_assoc]
  omega
def Pln.insideB (P : Pln) (w m : Int) : Bool := (List.range P.corners.length).all fun e => decide (0 ≤ P.side e w m)
theorem inside_iff {P : Pln} {w m : Int} : P.insideB w m = true ↔ ∀ e, e < P.corners.length → 0 ≤ P.side e w m := by
  simp [Pln.insideB, List.all_eq_true]
def StnOk (s : Stn) : Prop := (-1000 ≤ s.arm ∧ s.arm ≤ 1000) ∧ 0 ≤ s.most ∧ s.most ≤ 20000
structure PlnOk (P : Pln) : Prop where
  empty : 1 ≤ P.empty ∧ P.empty ≤ 20000
  moment : -20000000 ≤ P.moment ∧ P.moment ≤ 20000000
  takeoff : 0 ≤ P.takeoff ∧ P.takeoff ≤ 20000
  landing : 0 ≤ P.landing ∧ P.landing ≤ 20000
  reserve : 0 ≤ P.reserve ∧ P.reserve ≤ 20000
  n : 3 ≤ P.corners.length ∧ P.corners.length ≤ 12
  ns : P.stations.length ≤ 8
  nf : P.floats.length ≤ 2
  tank : StnOk P.tank
  station : ∀ i, i < P.stations.length → StnOk (stnAt P.stations i)
  float : ∀ i, i < P.floats.length → StnOk (stnAt P.floats i)
  corner : ∀ i, i < P.corners.length → (0 ≤ (cnrAt P.corners i).weight ∧ (cnrAt P.corners i).weight ≤ 20000) ∧ -20000000 ≤ (cnrAt P.corners i).moment ∧ (cnrAt P.corners i).moment ≤ 20000000
  convex : ∀ e, e < P.corners.length → ∀ k, k < P.corners.length → k ≠ e → k ≠ (e + 1) % P.corners.length → 0 < P.side e (cnrAt P.corners k).weight (cnrAt P.corners k).moment
structure PntOk (P : Pln) (X : Pnt) : Prop where
  n : X.items.length ≤ 12
  item : ∀ i, i < X.items.length → (0 ≤ (itmAt X.items i).station ∧ (itmAt X.items i).station < P.stations.length) ∧ 0 ≤ (itmAt X.items i).low ∧ (itmAt X.items i).low ≤ (itmAt X.items i).high ∧ (itmAt X.items i).high ≤ 20000
  tank : -120000 ≤ X.tank.low ∧ X.tank.low ≤ X.tank.high ∧ X.tank.high ≤ 140000
  nw : X.water.length = P.floats.length
  water : ∀ i, i < X.water.length → 0 ≤ (spnAt X.water i).low ∧ (spnAt X.water i).low ≤ (spnAt X.water i).high ∧ (spnAt X.water i).high ≤ 120000
def armI (P : Pln) (X : Pnt) (i : Nat) : Int := (stnAt P.stations (itmAt X.items i).station.toNat).arm
def armF (P : Pln) (i : Nat) : Int := (stnAt P.floats i).arm
def wtC (P : Pln) (c : Cse) : Int := P.empty + c.tank + sumN (gi c.items) c.items.length + sumN (gi c.water) c.water.length
def moC (P : Pln) (X : Pnt) (c : Cse) : Int := P.moment + c.tank * P.tank.arm + sumN (fun i => gi c.items i * armI P X i) c.items.length + sumN (fun i => gi c.water i * armF P i) c.water.length
def atC (X : Pnt) (c : Cse) (s : Nat) : Int := sumN (fun i => if (itmAt X.items i).station = s then gi c.items i else 0) c.items.length
structure InC (X : Pnt) (c : Cse) : Prop where
  ni : c.items.length = X.items.length
  nw : c.water.length = X.water.length
  tank : X.tank.low ≤ c.tank ∧ c.tank ≤ X.tank.high
  item : ∀ i, i < c.items.length → (itmAt X.items i).low ≤ gi c.items i ∧ gi c.items i ≤ (itmAt X.items i).high
  water : ∀ i, i < c.water.length → (spnAt X.water i).low ≤ gi c.water i ∧ gi c.water i ≤ (spnAt X.water i).high
theorem side_truth (P : Pln) (X : Pnt) (c : Cse) (e : Nat) : P.side e (wtC P c) (moC P X c) = P.side e P.empty P.moment + P.slope e P.tank.arm * c.tank + sumN (fun i => P.slope e (armI P X i) * gi c.items i) c.items.length + sumN (fun i => P.slope e (armF P i) * gi c.water i) c.water.length := by
  have add : ∀ (g a : Nat → Int) (n : Nat) (w m : Int), P.side e (w + sumN g n) (m + sumN (fun i => g i * a i) n) = P.side e w m + sumN (fun i => P.slope e (a i) * g i) n := by
    intro g a n
    induction n with
    | zero => intro w m; simp [sumN]
    | succ n ih =>
      intro w m
      simp only [sumN]
      rw [← Int.add_assoc, ← Int.add_assoc, side_add, ih]
      omega
  unfold wtC moC
  rw [add, add, side_add]
def overB (P : Pln) (X : Pnt) (s : Nat) : Bool := decide ((stnAt P.stations s).most < sumN (fun i => if (itmAt X.items i).station = s then (itmAt X.items i).high else 0) X.items.length)
def fullB (P : Pln) (X : Pnt) : Bool := decide (P.tank.most < X.tank.high)
def wetB (P : Pln) (X : Pnt) (i : Nat) : Bool := decide ((stnAt P.floats i).most < (spnAt X.water i).high)
def limitP (P : Pln) (X : Pnt) : Int := if X.landing = true then P.landing else P.takeoff
def highW (P : Pln) (X : Pnt) : Int := P.empty + X.tank.high + sumN (fun i => (itmAt X.items i).high) X.items.length + sumN (fun i => (spnAt X.water i).high) X.water.length
def lowW (P : Pln) (X : Pnt) : Int := P.empty + X.tank.low + sumN (fun i => (itmAt X.items i).low) X.items.length + sumN (fun i => (spnAt X.water i).low) X.water.length
def heavyB (P : Pln) (X : Pnt) : Bool := decide (limitP P X < highW P X)
def minS (s lo hi : Int) : Int := min (s * lo) (s * hi)
def maxS (s lo hi : Int) : Int := max (s * lo) (s * hi)
def leastE (P : Pln) (X : Pnt) (e : Nat) : Int := P.side e P.empty P.moment + sumN (fun i => minS (P.slope e (armI P X i)) (itmAt X.items i).low (itmAt X.items i).high) X.items.length + minS (P.slope e P.tank.arm) X.tank.low X.tank.high + sumN (fun i => minS (P.slope e (armF P i)) (spnAt X.water i).low (spnAt X.water i).high) X.water.length
def outB (P : Pln) (X : Pnt) (e : Nat) : Bool := decide (leastE P X e < 0)
def shortB (P : Pln) (X : Pnt) : Bool := X.landing && decide (X.tank.low < P.reserve)
def manyR (P : Pln) (r : Nat) : Nat := if r = 2 then P.stations.length else if r = 4 then P.floats.length else if r = 6 then P.corners.length else 1
def canB (P : Pln) (X : Pnt) (r i : Nat) : Bool :=
  if r = 2 then overB P X i else if r = 3 then fullB P X else if r = 4 then wetB P X i else if r = 5 then heavyB P X else if r = 6 then outB P X i else shortB P X
def brkB (P : Pln) (X : Pnt) (c : Cse) (r i : Nat) : Bool :=
  if r = 2 then decide ((stnAt P.stations i).most < atC X c i) else if r = 3 then decide (P.tank.most < c.tank) else if r = 4 then decide ((stnAt P.floats i).most < gi c.water i)
  else if r = 5 then decide (limitP P X < wtC P c) else if r = 6 then decide (P.side i (wtC P c) (moC P X c) < 0) else X.landing && decide (c.tank < P.reserve)
def pickS (b : Bool) (lo hi : Int) : Int := if b = true then hi else lo
def worstI (P : Pln) (X : Pnt) (r i j : Nat) : Bool := if r = 2 then decide ((itmAt X.items j).station = i) else if r = 5 then true else if r = 6 then decide (P.slope i (armI P X j) < 0) else false
def worstT (P : Pln) (r i : Nat) : Bool := if r = 3 then true else if r = 5 then true else if r = 6 then decide (P.slope i P.tank.arm < 0) else false
def worstF (P : Pln) (r i j : Nat) : Bool := if r = 4 then decide (j = i) else if r = 5 then true else if r = 6 then decide (P.slope i (armF P j) < 0) else false
def worstC (P : Pln) (X : Pnt) (r i : Nat) : Cse :=
  ⟨(List.range X.items.length).map fun j => pickS (worstI P X r i j) (itmAt X.items j).low (itmAt X.items j).high, pickS (worstT P r i) X.tank.low X.tank.high, (List.range X.water.length).map fun j => pickS (worstF P r i j) (spnAt X.water j).low (spnAt X.water j).high⟩
theorem gi_range {f : Nat → Int} {n j : Nat} (h : j < n) : gi ((List.range n).map f) j = f j := by simp [gi, h]
theorem pickS_in {b : Bool} {lo hi : Int} (h : lo ≤ hi) : lo ≤ pickS b lo hi ∧ pickS b lo hi ≤ hi := by
  unfold pickS; split <;> omega
theorem minS_pick {s lo hi : Int} (h : lo ≤ hi) : s * pickS (decide (s < 0)) lo hi = minS s lo hi := by
  unfold pickS minS
  by_cases hs : s < 0
  · rw [if_pos (by simpa using hs)]
    have := Int.mul_le_mul_of_nonpos_left (show s ≤ 0 by omega) h
    omega
  · rw [if_neg (by simpa using hs)]
    have := Int.mul_le_mul_of_nonneg_left h (show 0 ≤ s by omega)
    omega
theorem minS_le {s lo hi x : Int} (h1 : lo ≤ x) (h2 : x ≤ hi) : minS s lo hi ≤ s * x := by
  unfold minS
  by_cases hs : s < 0
  · have := Int.mul_le_mul_of_nonpos_left (show s ≤ 0 by omega) h2
    omega
  · have := Int.mul_le_mul_of_nonneg_left h1 (show 0 ≤ s by omega)
    omega
theorem le_maxS {s lo hi x : Int} (h1 : lo ≤ x) (h2 : x ≤ hi) : s * x ≤ maxS s lo hi := by
  unfold maxS
  by_cases hs : s < 0
  · have := Int.mul_le_mul_of_nonpos_left (show s ≤ 0 by omega) h1
    omega
  · have := Int.mul_le_mul_of_nonneg_left h2 (show 0 ≤ s by omega)
    omega
theorem worst_in {P : Pln} {X : Pnt} (h : PntOk P X) (r i : Nat) : InC X (worstC P X r i) := by
  refine ⟨by simp [worstC], by simp [worstC], pickS_in h.tank.2.1, fun j hj => ?_, fun j hj => ?_⟩
  · simp only [worstC, List.length_map, List.length_range] at hj ⊢
    rw [gi_range hj]; exact pickS_in (h.item j hj).2.2.1
  · simp only [worstC, List.length_map, List.length_range] at hj ⊢
    rw [gi_range hj]; exact pickS_in (h.water j hj).2.1
theorem worst_breaks {P : Pln} {X : Pnt} (h : PntOk P X) {r i : Nat} (hr : 2 ≤ r ∧ r ≤ 7) (hi : i < manyR P r) : brkB P X (worstC P X r i) r i = canB P X r i := by
  have hc : r = 2 ∨ r = 3 ∨ r = 4 ∨ r = 5 ∨ r = 6 ∨ r = 7 := by omega
  have nw := h.nw
  rcases hc with rfl | rfl | rfl | rfl | rfl | rfl
  · show decide _ = decide _
    congr 1
    unfold atC
    simp only [worstC, List.length_map, List.length_range]
    refine congrArg _ (sumN_congr fun j hj => ?_)
    rw [gi_range hj]
    simp only [worstI, pickS]
    by_cases e : (itmAt X.items j).station = i <;> simp [e]
  · rfl
  · have hi2 : i < X.water.length := by simp [manyR] at hi; omega
    have e : gi (worstC P X 4 i).water i = (spnAt X.water i).high := by
      simp only [worstC]
      rw [gi_range hi2]
      simp [worstF, pickS]
    show decide _ = decide _
    exact decide_eq_decide.2 (by rw [e])
  · show decide _ = decide _
    congr 1
    unfold wtC highW
    simp only [worstC, List.length_map, List.length_range]
    congr 1
    congr 1
    · exact congrArg _ (sumN_congr fun j hj => by rw [gi_range hj]; rfl)
    · exact sumN_congr fun j hj => by rw [gi_range hj]; rfl
  · show decide _ = decide _
    congr 1
    rw [side_truth]
    unfold leastE
    simp only [worstC, List.length_map, List.length_range]
    have e1 : sumN (fun j => P.slope i (armI P X j) * gi ((List.range X.items.length).map fun j => pickS (worstI P X 6 i j) (itmAt X.items j).low (itmAt X.items j).high) j) X.items.length = sumN (fun i_1 => minS (P.slope i (armI P X i_1)) (itmAt X.items i_1).low (itmAt X.items i_1).high) X.items.length :=
      sumN_congr fun j hj => by rw [gi_range hj]; exact minS_pick (h.item j hj).2.2.1
    have e2 : sumN (fun j => P.slope i (armF P j) * gi ((List.range X.water.length).map fun j => pickS (worstF P 6 i j) (spnAt X.water j).low (spnAt X.water j).high) j) X.water.length = sumN (fun i_1 => minS (P.slope i (armF P i_1)) (spnAt X.water i_1).low (spnAt X.water i_1).high) X.water.length :=
      sumN_congr fun j hj => by rw [gi_range hj]; exact minS_pick (h.water j hj).2.1
    have e3 : P.slope i P.tank.arm * pickS (worstT P 6 i) X.tank.low X.tank.high = minS (P.slope i P.tank.arm) X.tank.low X.tank.high := minS_pick h.tank.2.1
    rw [e1, e2, e3]
    congr 1
    omega
  · rfl
theorem truth_can {P : Pln} {X : Pnt} (h : PntOk P X) {c : Cse} (hc : InC X c) {r i : Nat} (hr : 2 ≤ r ∧ r ≤ 7) (hi : i < manyR P r) (hb : brkB P X c r i = true) : canB P X r i = true := by
  have hr2 : r = 2 ∨ r = 3 ∨ r = 4 ∨ r = 5 ∨ r = 6 ∨ r = 7 := by omega
  have ni := hc.ni
  have nw := hc.nw
  have nf := h.nw
  rcases hr2 with rfl | rfl | rfl | rfl | rfl | rfl
  · have hb : decide _ = true := hb
    show decide _ = true
    rw [decide_eq_true_eq] at hb ⊢
    unfold atC at hb
    rw [ni] at hb
    refine Int.lt_of_lt_of_le hb (sumN_le fun j hj => ?_)
    by_cases e : (itmAt X.items j).station = i
    · rw [if_pos e, if_pos e]; exact (hc.item j (by omega)).2
    · rw [if_neg e, if_neg e]; exact Int.le_refl _
  · have hb : decide _ = true := hb
    show decide _ = true
    rw [decide_eq_true_eq] at hb ⊢
    have := hc.tank; omega
  · have hb : decide _ = true := hb
    have hi2 : i < c.water.length := by simp [manyR] at hi; omega
    show decide _ = true
    rw [decide_eq_true_eq] at hb ⊢
    have := hc.water i hi2; omega
  · have hb : decide _ = true := hb
    show decide _ = true
    rw [decide_eq_true_eq] at hb ⊢
    unfold wtC at hb
    rw [ni, nw] at hb
    unfold highW
    have h1 := sumN_le (f := gi c.items) (g := fun i => (itmAt X.items i).high) (n := X.items.length) fun j hj => (hc.item j (by omega)).2
    have h2 := sumN_le (f := gi c.water) (g := fun i => (spnAt X.water i).high) (n := X.water.length) fun j hj => (hc.water j (by omega)).2
    have := hc.tank
    omega
  · have hb : decide _ = true := hb
    show decide _ = true
    rw [decide_eq_true_eq] at hb ⊢
    rw [side_truth, ni, nw] at hb
    unfold leastE
    have h1 := sumN_le (f := fun j => minS (P.slope i (armI P X j)) (itmAt X.items j).low (itmAt X.items j).high) (g := fun j => P.slope i (armI P X j) * gi c.items j) (n := X.items.length) fun j hj => minS_le (hc.item j (by omega)).1 (hc.item j (by omega)).2
    have h2 := sumN_le (f := fun j => minS (P.slope i (armF P j)) (spnAt X.water j).low (spnAt X.water j).high) (g := fun j => P.slope i (armF P j) * gi c.water j) (n := X.water.length) fun j hj => minS_le (hc.water j (by omega)).1 (hc.water j (by omega)).2
    have h3 := minS_le (s := P.slope i P.tank.arm) hc.tank.1 hc.tank.2
    omega
  · have hb : (X.landing && decide _) = true := hb
    show (X.landing && decide _) = true
    rw [Bool.and_eq_true, decide_eq_true_eq] at hb ⊢
    have := hc.tank
    exact ⟨hb.1, by omega⟩
def fstN (p : Nat → Bool) : Nat → Option Nat
  | 0 => none
  | n + 1 => match fstN p n with
    | some k => some k
    | none => if p n = true then some n else none
theorem fstN_none {p : Nat → Bool} : ∀ {n : Nat}, fstN p n = none ↔ ∀ k, k < n → p k = false
  | 0 => by simp [fstN]
  | n + 1 => by
    simp only [fstN]
    cases h : fstN p n with
    | some k =>
      refine ⟨fun h1 => (by cases h1), fun h1 => ?_⟩
      rw [fstN_none.2 fun k hk => h1 k (by omega)] at h; cases h
    | none =>
      have ih := fstN_none.1 h
      by_cases hp : p n = true
      · simp only [hp, if_true]
        refine ⟨fun h1 => (by cases h1), fun h1 => ?_⟩
        rw [h1 n (by omega)] at hp; cases hp
      · rw [if_neg hp]
        refine ⟨fun _ k hk => ?_, fun _ => rfl⟩
        rcases Nat.lt_or_eq_of_le (Nat.le_of_lt_succ hk) with h1 | rfl
        · exact ih k h1
        · simpa using hp
theorem fstN_some {p : Nat → Bool} {j : Nat} : ∀ {n : Nat}, fstN p n = some j ↔ j < n ∧ p j = true ∧ ∀ k, k < j → p k = false
  | 0 => by simp [fstN]
  | n + 1 => by
    simp only [fstN]
    cases h : fstN p n with
    | some k =>
      obtain ⟨h1, h2, h3⟩ := fstN_some.1 h
      simp only [Option.some.injEq]
      refine ⟨fun e => by subst e; exact ⟨by omega, h2, h3⟩, fun ⟨g1, g2, g3⟩ => ?_⟩
      rcases Nat.lt_trichotomy k j with h4 | h4 | h4
      · rw [g3 k h4] at h2; cases h2
      · exact h4
      · rw [h3 j h4] at g2; cases g2
    | none =>
      have ih := fstN_none.1 h
      by_cases hp : p n = true
      · simp only [hp, if_true, Option.some.injEq]
        refine ⟨fun e => by subst e; exact ⟨by omega, hp, ih⟩, fun ⟨g1, g2, g3⟩ => ?_⟩
        rcases Nat.lt_or_eq_of_le (Nat.le_of_lt_succ g1) with h1 | h1
        · rw [ih j h1] at g2; cases g2
        · exact h1.symm
      · rw [if_neg hp]
        refine ⟨fun h1 => (by cases h1), fun ⟨g1, g2, g3⟩ => ?_⟩
        rcases Nat.lt_or_eq_of_le (Nat.le_of_lt_succ g1) with h1 | h1
        · rw [ih j h1] at g2; cases g2
        · subst h1; exact absurd g2 hp
def brokenF (p : Nat → Nat → Bool) (many : Nat → Nat) : Nat → Nat → Nat × Nat
  | 0, _ => (1, 0)
  | c + 1, r => match fstN (p r) (many r) with
    | some i => (r, i)
    | none => brokenF p many c (r + 1)
def brokenP (P : Pln) (X : Pnt) : Nat × Nat := brokenF (canB P X) (manyR P) 6 2
theorem brokenF_spec {p : Nat → Nat → Bool} {many : Nat → Nat} : ∀ (c r : Nat), (brokenF p many c r = (1, 0) ∧ ∀ q, r ≤ q → q < r + c → ∀ i, i < many q → p q i = false) ∨
    ∃ q i, brokenF p many c r = (q, i) ∧ (r ≤ q ∧ q < r + c) ∧ i < many q ∧ p q i = true ∧ (∀ k, k < i → p q k = false) ∧ ∀ s, r ≤ s → s < q → ∀ k, k < many s → p s k = false
  | 0, r => .inl ⟨rfl, fun q h1 h2 => by omega⟩
  | c + 1, r => by
    simp only [brokenF]
    cases h : fstN (p r) (many r) with
    | some i =>
      obtain ⟨h1, h2, h3⟩ := fstN_some.1 h
      exact .inr ⟨r, i, rfl, ⟨Nat.le_refl _, by omega⟩, h1, h2, h3, fun s h4 h5 => by omega⟩
    | none =>
      have h0 := fstN_none.1 h
      rcases brokenF_spec (p := p) (many := many) c (r + 1) with ⟨h1, h2⟩ | ⟨q, i, h1, h2, h3, h4, h5, h6⟩
      · refine .inl ⟨h1, fun q g1 g2 i hi => ?_⟩
        rcases Nat.lt_or_eq_of_le g1 with g | rfl
        · exact h2 q g (by omega) i hi
        · exact h0 i hi
      · refine .inr ⟨q, i, h1, ⟨by omega, by omega⟩, h3, h4, h5, fun s g1 g2 k hk => ?_⟩
        rcases Nat.lt_or_eq_of_le g1 with g | rfl
        · exact h6 s g g2 k hk
        · exact h0 k hk
def sureB (P : Pln) (X : Pnt) : Bool := decide ((brokenP P X).1 = 1)
theorem sure_iff {P : Pln} {X : Pnt} : sureB P X = true ↔ ∀ r, 2 ≤ r → r ≤ 7 → ∀ i, i < manyR P r → canB P X r i = false := by
  unfold sureB brokenP
  rw [decide_eq_true_eq]
  rcases brokenF_spec (p := canB P X) (many := manyR P) 6 2 with ⟨h1, h2⟩ | ⟨q, i, h1, h2, h3, h4, h5, h6⟩
  · rw [h1]
    exact ⟨fun _ r g1 g2 i hi => h2 r g1 (by omega) i hi, fun _ => rfl⟩
  · rw [h1]
    refine ⟨fun e => ?_, fun g => ?_⟩
    · simp only at e; omega
    · rw [g q (by omega) (by omega) i h3] at h4; cases h4
end Go.Qg

namespace Go.Qg
set_option maxRecDepth 100000
theorem side_line (P : Pln) (e : Nat) (w1 m1 w2 m2 p n : Int) (w m : Int) (hw : n * w = (n - p) * w1 + p * w2) (hm : n * m = (n - p) * m1 + p * m2) : n * P.side e w m = (n - p) * P.side e w1 m1 + p * P.side e w2 m2 := by
  unfold Pln.side
  generalize P.dw e = a
  generalize P.dm e = b
  generalize (P.cA e).moment = c
  generalize (P.cA e).weight = d
  have key : ∀ (x x1 x2 u : Int), n * x = (n - p) * x1 + p * x2 → n * (x - u) = (n - p) * (x1 - u) + p * (x2 - u) := fun x x1 x2 u h => by
    rw [Int.mul_sub, Int.mul_sub, Int.mul_sub, h, Int.sub_mul n p u]; omega
  have e1 : n * (a * (m - c)) = a * (n * (m - c)) := by rw [← Int.mul_assoc, Int.mul_comm n a, Int.mul_assoc]
  have e2 : n * (b * (w - d)) = b * (n * (w - d)) := by rw [← Int.mul_assoc, Int.mul_comm n b, Int.mul_assoc]
  rw [Int.mul_sub, e1, e2, key m m1 m2 c hm, key w w1 w2 d hw]
  have f : ∀ (q a x : Int), q * (a * x) = a * (q * x) := fun q a x => by rw [← Int.mul_assoc, Int.mul_comm q a, Int.mul_assoc]
  have r1 : (n - p) * (a * (m1 - c) - b * (w1 - d)) = a * ((n - p) * (m1 - c)) - b * ((n - p) * (w1 - d)) := by rw [Int.mul_sub (n - p), f (n - p) a, f (n - p) b]
  have r2 : p * (a * (m2 - c) - b * (w2 - d)) = a * (p * (m2 - c)) - b * (p * (w2 - d)) := by rw [Int.mul_sub p, f p a, f p b]
  rw [r1, r2, Int.mul_add a, Int.mul_add b]
  omega
theorem convex_law {P : Pln} {w1 m1 w2 m2 p n w m : Int} (hn : 1 ≤ n) (hp : 0 ≤ p ∧ p ≤ n) (hw : n * w = (n - p) * w1 + p * w2) (hm : n * m = (n - p) * m1 + p * m2) (h1 : P.insideB w1 m1 = true) (h2 : P.insideB w2 m2 = true) : P.insideB w m = true := by
  rw [inside_iff] at h1 h2 ⊢
  intro e he
  have hs := side_line P e w1 m1 w2 m2 p n w m hw hm
  have a := Int.mul_nonneg (show 0 ≤ n - p by omega) (h1 e he)
  have b := Int.mul_nonneg hp.1 (h2 e he)
  rcases Int.lt_or_le (P.side e w m) 0 with h | h
  · have := Int.mul_neg_of_pos_of_neg (show 0 < n by omega) h
    omega
  · exact h
theorem line_exact {a x p n : Int} (h : (x * p) % n = 0) : n * (a + x * p / n) = (n - p) * a + p * (a + x) := by
  have e : n * (x * p / n) = x * p := by
    have := Int.mul_ediv_add_emod (x * p) n
    omega
  rw [Int.mul_add, e, Int.mul_add, Int.sub_mul, Int.mul_comm p x]
  omega
theorem corners_law {P : Pln} (h : PlnOk P) {k : Nat} (hk : k < P.corners.length) : P.insideB (cnrAt P.corners k).weight (cnrAt P.corners k).moment = true := by
  rw [inside_iff]
  intro e he
  by_cases h1 : k = e
  · subst h1
    unfold Pln.side Pln.cA
    rw [Int.sub_self, Int.sub_self]; simp
  · by_cases h2 : k = (e + 1) % P.corners.length
    · subst h2
      unfold Pln.side
      rw [show (cnrAt P.corners ((e + 1) % P.corners.length)).moment - (P.cA e).moment = P.dm e from rfl, show (cnrAt P.corners ((e + 1) % P.corners.length)).weight - (P.cA e).weight = P.dw e from rfl, Int.mul_comm]
      omega
    · exact Int.le_of_lt (h.convex e he k hk h1 h2)
structure Leg where
  items : List Itm
  pump : Bool
  fuel : Int
  burn : Spn
  leak : Spn
  deriving Inhabited
def legAt (l : List Leg) (i : Nat) : Leg := l.getD i default
structure LegOk (P : Pln) (l : Leg) : Prop where
  n : l.items.length ≤ 12
  item : ∀ i, i < l.items.length → (0 ≤ (itmAt l.items i).station ∧ (itmAt l.items i).station < P.stations.length) ∧ 0 ≤ (itmAt l.items i).low ∧ (itmAt l.items i).low ≤ (itmAt l.items i).high ∧ (itmAt l.items i).high ≤ 20000
  fuel : 0 ≤ l.fuel ∧ l.fuel ≤ 20000
  burn : 0 ≤ l.burn.low ∧ l.burn.low ≤ l.burn.high ∧ l.burn.high ≤ 20000
  leak : 0 ≤ l.leak.low ∧ l.leak.low ≤ l.leak.high ∧ l.leak.high ≤ 20000
structure TripOk (P : Pln) (fuel : Spn) (legs : List Leg) : Prop where
  fuel : 0 ≤ fuel.low ∧ fuel.low ≤ fuel.high ∧ fuel.high ≤ 20000
  n : 1 ≤ legs.length ∧ legs.length ≤ 6
  leg : ∀ i, i < legs.length → LegOk P (legAt legs i)
def stT (fuel : Spn) (legs : List Leg) : Nat → Spn
  | 0 => fuel
  | k + 1 => ⟨(stT fuel legs k).low + (legAt legs k).fuel - (legAt legs k).burn.high, (stT fuel legs k).high + (legAt legs k).fuel - (legAt legs k).burn.low⟩
def stF (legs : List Leg) : Nat → Spn
  | 0 => ⟨0, 0⟩
  | k + 1 => if (legAt legs k).pump = true then ⟨0 + (legAt legs k).leak.low, 0 + (legAt legs k).leak.high⟩ else ⟨(stF legs k).low + (legAt legs k).leak.low, (stF legs k).high + (legAt legs k).leak.high⟩
def stG (legs : List Leg) (k : Nat) : Spn := if (legAt legs k).pump = true then ⟨0, 0⟩ else stF legs k
theorem stF_succ (legs : List Leg) (k : Nat) : stF legs (k + 1) = ⟨(stG legs k).low + (legAt legs k).leak.low, (stG legs k).high + (legAt legs k).leak.high⟩ := by
  simp only [stF, stG]; split <;> rfl
def ptA (P : Pln) (fuel : Spn) (legs : List Leg) (k : Nat) : Pnt := ⟨(legAt legs k).items, ⟨(stT fuel legs k).low + (legAt legs k).fuel, (stT fuel legs k).high + (legAt legs k).fuel⟩, List.replicate P.floats.length (stG legs k), false⟩
def ptB (P : Pln) (fuel : Spn) (legs : List Leg) (k : Nat) : Pnt := ⟨(legAt legs k).items, stT fuel legs (k + 1), List.replicate P.floats.length (stF legs (k + 1)), true⟩
def ptOf (P : Pln) (fuel : Spn) (legs : List Leg) (j : Nat) : Pnt := if j % 2 = 0 then ptA P fuel legs (j / 2) else ptB P fuel legs (j / 2)
def ptsL (P : Pln) (fuel : Spn) (legs : List Leg) (n : Nat) : List Pnt := (List.range n).map (ptOf P fuel legs)
theorem ptOf_even (P : Pln) (fuel : Spn) (legs : List Leg) (k : Nat) : ptOf P fuel legs (2 * k) = ptA P fuel legs k := by
  unfold ptOf; rw [if_pos (by omega), show 2 * k / 2 = k from by omega]
theorem ptOf_odd (P : Pln) (fuel : Spn) (legs : List Leg) (k : Nat) : ptOf P fuel legs (2 * k + 1) = ptB P fuel legs k := by
  unfold ptOf; rw [if_neg (by omega), show (2 * k + 1) / 2 = k from by omega]
def tripP (P : Pln) (fuel : Spn) (legs : List Leg) : Option Nat := fstN (fun j => !sureB P (ptOf P fuel legs j)) (2 * legs.length)
def sureT (P : Pln) (fuel : Spn) (legs : List Leg) : Prop := ∀ j, j < 2 * legs.length → sureB P (ptOf P fuel legs j) = true
theorem trip_none {P : Pln} {fuel : Spn} {legs : List Leg} : tripP P fuel legs = none ↔ sureT P fuel legs := by
  unfold tripP sureT
  rw [fstN_none]
  exact forall_congr' fun j => forall_congr' fun _ => by cases sureB P (ptOf P fuel legs j) <;> simp
theorem stT_bounds {P : Pln} {fuel : Spn} {legs : List Leg} (h : TripOk P fuel legs) : ∀ k, k ≤ legs.length → -20000 * (k : Int) ≤ (stT fuel legs k).low ∧ (stT fuel legs k).low ≤ (stT fuel legs k).high ∧ (stT fuel legs k).high ≤ 20000 * ((k : Int) + 1)
  | 0, _ => by simp only [stT]; have := h.fuel; omega
  | k + 1, hk => by
    have ih := stT_bounds h k (by omega)
    have hl := h.leg k (by omega)
    have := hl.fuel
    have := hl.burn
    simp only [stT]; push_cast; omega
theorem stF_bounds {P : Pln} {fuel : Spn} {legs : List Leg} (h : TripOk P fuel legs) : ∀ k, k ≤ legs.length → 0 ≤ (stF legs k).low ∧ (stF legs k).low ≤ (stF legs k).high ∧ (stF legs k).high ≤ 20000 * (k : Int)
  | 0, _ => by simp [stF]
  | k + 1, hk => by
    have ih := stF_bounds h k (by omega)
    have hl := (h.leg k (by omega)).leak
    simp only [stF]; push_cast
    split <;> simp only <;> omega
theorem stG_bounds {P : Pln} {fuel : Spn} {legs : List Leg} (h : TripOk P fuel legs) (k : Nat) (hk : k ≤ legs.length) : 0 ≤ (stG legs k).low ∧ (stG legs k).low ≤ (stG legs k).high ∧ (stG legs k).high ≤ 20000 * (k : Int) := by
  have := stF_bounds h k hk
  unfold stG
  split
  · simp only; omega
  · exact this
theorem spnAt_rep {s : Spn} {n i : Nat} (h : i < n) : spnAt (List.replicate n s) i = s := by simp [spnAt, h]
theorem ptA_ok {P : Pln} {fuel : Spn} {legs : List Leg} (h : TripOk P fuel legs) {k : Nat} (hk : k < legs.length) : PntOk P (ptA P fuel legs k) := by
  have hl := h.leg k hk
  have hn := h.n
  have ht := stT_bounds h k (by omega)
  have hg := stG_bounds h k (by omega)
  have hf := hl.fuel
  refine ⟨hl.n, hl.item, ?_, by simp [ptA], fun i hi => ?_⟩
  · simp only [ptA]; omega
  · simp only [ptA, List.length_replicate] at hi ⊢
    rw [spnAt_rep hi]; omega
theorem ptB_ok {P : Pln} {fuel : Spn} {legs : List Leg} (h : TripOk P fuel legs) {k : Nat} (hk : k < legs.length) : PntOk P (ptB P fuel legs k) := by
  have hl := h.leg k hk
  have hn := h.n
  have ht := stT_bounds h (k + 1) (by omega)
  have hg := stF_bounds h (k + 1) (by omega)
  refine ⟨hl.n, hl.item, ?_, by simp [ptB], fun i hi => ?_⟩
  · simp only [ptB]; omega
  · simp only [ptB, List.length_replicate] at hi ⊢
    rw [spnAt_rep hi]; omega
theorem ptOf_ok {P : Pln} {fuel : Spn} {legs : List Leg} (h : TripOk P fuel legs) {j : Nat} (hj : j < 2 * legs.length) : PntOk P (ptOf P fuel legs j) := by
  unfold ptOf
  split
  · exact ptA_ok h (by omega)
  · exact ptB_ok h (by omega)
structure Keeps (P : Pln) (X : Pnt) (c : Cse) : Prop where
  over : ∀ s, s < P.stations.length → atC X c s ≤ (stnAt P.stations s).most
  full : c.tank ≤ P.tank.most
  wet : ∀ i, i < c.water.length → gi c.water i ≤ (stnAt P.floats i).most
  heavy : wtC P c ≤ limitP P X
  inside : ∀ e, e < P.corners.length → 0 ≤ P.side e (wtC P c) (moC P X c)
  short : X.landing = true → P.reserve ≤ c.tank
theorem sure_keeps {P : Pln} {X : Pnt} (h : PntOk P X) {c : Cse} (hc : InC X c) (hs : sureB P X = true) : Keeps P X c := by
  have hs := sure_iff.1 hs
  have no : ∀ r i, 2 ≤ r → r ≤ 7 → i < manyR P r → brkB P X c r i = false := fun r i h1 h2 h3 => by
    cases hb : brkB P X c r i with
    | false => rfl
    | true =>
      have := truth_can h hc ⟨h1, h2⟩ h3 hb
      rw [hs r h1 h2 i h3] at this; cases this
  have nf := hc.nw
  have nw := h.nw
  refine ⟨fun s hs => ?_, ?_, fun i hi => ?_, ?_, fun e he => ?_, fun hl => ?_⟩
  · have := no 2 s (by omega) (by omega) (by simpa [manyR] using hs)
    have : decide _ = false := this
    rw [decide_eq_false_iff_not] at this; omega
  · have := no 3 0 (by omega) (by omega) (by simp [manyR])
    have : decide _ = false := this
    rw [decide_eq_false_iff_not] at this; omega
  · have := no 4 i (by omega) (by omega) (by simp [manyR]; omega)
    have : decide _ = false := this
    rw [decide_eq_false_iff_not] at this; omega
  · have := no 5 0 (by omega) (by omega) (by simp [manyR])
    have : decide _ = false := this
    rw [decide_eq_false_iff_not] at this; omega
  · have := no 6 e (by omega) (by omega) (by simpa [manyR] using he)
    have : decide _ = false := this
    rw [decide_eq_false_iff_not] at this; omega
  · have := no 7 0 (by omega) (by omega) (by simp [manyR])
    have : (X.landing && decide _) = false := this
    rw [hl, Bool.true_and, decide_eq_false_iff_not] at this; omega
theorem keeps_sure {P : Pln} {X : Pnt} (h : PntOk P X) (hk : ∀ c, InC X c → Keeps P X c) : sureB P X = true := by
  rw [sure_iff]
  intro r h1 h2 i hi
  cases hc : canB P X r i with
  | false => rfl
  | true =>
    exfalso
    rw [← worst_breaks h ⟨h1, h2⟩ hi] at hc
    have hin := worst_in h r i
    have k := hk _ hin
    have nf := hin.nw
    have nw := h.nw
    generalize worstC P X r i = c at *
    have hr : r = 2 ∨ r = 3 ∨ r = 4 ∨ r = 5 ∨ r = 6 ∨ r = 7 := by omega
    rcases hr with rfl | rfl | rfl | rfl | rfl | rfl
    · have hc : decide _ = true := hc
      rw [decide_eq_true_eq] at hc
      have := k.over i (by simpa [manyR] using hi); omega
    · have hc : decide _ = true := hc
      rw [decide_eq_true_eq] at hc
      have := k.full; omega
    · have hc : decide _ = true := hc
      rw [decide_eq_true_eq] at hc
      have := k.wet i (by simp [manyR] at hi; omega); omega
    · have hc : decide _ = true := hc
      rw [decide_eq_true_eq] at hc
      have := k.heavy; omega
    · have hc : decide _ = true := hc
      rw [decide_eq_true_eq] at hc
      have := k.inside i (by simpa [manyR] using hi); omega
    · have hc : (X.landing && decide _) = true := hc
      rw [Bool.and_eq_true, decide_eq_true_eq] at hc
      have := k.short hc.1; omega
def inS (a b : Spn) : Prop := b.low ≤ a.low ∧ a.high ≤ b.high
structure Better (P Q : Pln) (X Y : Pnt) : Prop where
  st : Q.stations = P.stations
  fl : Q.floats = P.floats
  co : Q.corners = P.corners
  em : Q.empty = P.empty
  mo : Q.moment = P.moment
  ta : Q.tank = P.tank
  to : P.takeoff ≤ Q.takeoff
  la : P.landing ≤ Q.landing
  re : Q.reserve ≤ P.reserve
  ld : Y.landing = X.landing
  ni : Y.items.length = X.items.length
  item : ∀ i, i < X.items.length → (itmAt Y.items i).station = (itmAt X.items i).station ∧ (itmAt X.items i).low ≤ (itmAt Y.items i).low ∧ (itmAt Y.items i).high ≤ (itmAt X.items i).high
  tank : inS Y.tank X.tank
  nw : Y.water.length = X.water.length
  water : ∀ i, i < X.water.length → inS (spnAt Y.water i) (spnAt X.water i)
theorem better_sure {P Q : Pln} {X Y : Pnt} (h : Better P Q X Y) (hX : PntOk P X) (hY : PntOk Q Y) (hs : sureB P X = true) : sureB Q Y = true := by
  refine keeps_sure hY fun c hc => ?_
  obtain ⟨i1, i2, i3, i4, i5⟩ := hc
  have ni := h.ni
  have nw := h.nw
  have hin : InC X c := ⟨by omega, by omega, by have := h.tank.1; have := h.tank.2; omega, fun i hi => by have := i4 i hi; have := h.item i (by omega); omega, fun i hi => by have := i5 i hi; have := (h.water i (by omega)).1; have := (h.water i (by omega)).2; omega⟩
  have k := sure_keeps hX hin hs
  have ea : ∀ i, i < c.items.length → armI Q Y i = armI P X i := fun i hi => by unfold armI; rw [h.st, (h.item i (by omega)).1]
  have ef : ∀ i, armF Q i = armF P i := fun i => by unfold armF; rw [h.fl]
  have ew : wtC Q c = wtC P c := by unfold wtC; rw [h.em]
  have em : moC Q Y c = moC P X c := by
    unfold moC
    rw [h.mo, h.ta, sumN_congr (n := c.items.length) (g := fun i => gi c.items i * armI P X i) fun i hi => by rw [ea i hi], sumN_congr (n := c.water.length) (g := fun i => gi c.water i * armF P i) fun i hi => by rw [ef i]]
  have es : ∀ e w m, Q.side e w m = P.side e w m := fun e w m => by unfold Pln.side Pln.dw Pln.dm Pln.cA Pln.cB; rw [h.co]
  refine ⟨fun s hs => ?_, by rw [h.ta]; exact k.full, fun i hi => by rw [h.fl]; exact k.wet i hi, ?_, fun e he => by rw [es, ew, em]; exact k.inside e (by rw [h.co] at he; exact he), fun hl => Int.le_trans h.re (k.short (by rw [← h.ld]; exact hl))⟩
  · rw [h.st] at hs ⊢
    have e : atC Y c s = atC X c s := sumN_congr fun i hi => by rw [(h.item i (by omega)).1]
    rw [e]; exact k.over s hs
  · rw [ew]
    have h5 := k.heavy
    unfold limitP at h5 ⊢
    rw [h.ld]
    have := h.to; have := h.la
    by_cases hl : X.landing = true
    · rw [if_pos hl] at h5 ⊢; omega
    · rw [if_neg hl] at h5 ⊢; omega
structure BetterT (P Q : Pln) (fuel fuel' : Spn) (legs legs' : List Leg) : Prop where
  n : legs'.length = legs.length
  fu : inS fuel' fuel
  le : ∀ i, i < legs.length → (legAt legs' i).pump = (legAt legs i).pump ∧ (legAt legs' i).fuel = (legAt legs i).fuel ∧ inS (legAt legs' i).burn (legAt legs i).burn ∧ inS (legAt legs' i).leak (legAt legs i).leak ∧ (legAt legs' i).items.length = (legAt legs i).items.length ∧
    ∀ k, k < (legAt legs i).items.length → (itmAt (legAt legs' i).items k).station = (itmAt (legAt legs i).items k).station ∧ (itmAt (legAt legs i).items k).low ≤ (itmAt (legAt legs' i).items k).low ∧ (itmAt (legAt legs' i).items k).high ≤ (itmAt (legAt legs i).items k).high
theorem better_tank {P Q : Pln} {fuel fuel' : Spn} {legs legs' : List Leg} (h : BetterT P Q fuel fuel' legs legs') : ∀ k, k ≤ legs.length → inS (stT fuel' legs' k) (stT fuel legs k)
  | 0, _ => h.fu
  | k + 1, hk => by
    have ih := better_tank h k (by omega)
    obtain ⟨_, h2, h3, _⟩ := h.le k (by omega)
    unfold inS at *
    simp only [stT, h2]; omega
theorem better_water {P Q : Pln} {fuel fuel' : Spn} {legs legs' : List Leg} (h : BetterT P Q fuel fuel' legs legs') : ∀ k, k ≤ legs.length → inS (stF legs' k) (stF legs k)
  | 0, _ => ⟨Int.le_refl _, Int.le_refl _⟩
  | k + 1, hk => by
    have ih := better_water h k (by omega)
    obtain ⟨h1, _, _, h4, _⟩ := h.le k (by omega)
    unfold inS at *
    simp only [stF, h1]
    split <;> simp only <;> omega
theorem better_trip {P Q : Pln} {fuel fuel' : Spn} {legs legs' : List Leg} (h : BetterT P Q fuel fuel' legs legs') (hT : TripOk P fuel legs) (hT' : TripOk Q fuel' legs')
    (hB : ∀ X Y, Y.landing = X.landing → Y.items.length = X.items.length → (∀ i, i < X.items.length → (itmAt Y.items i).station = (itmAt X.items i).station ∧ (itmAt X.items i).low ≤ (itmAt Y.items i).low ∧ (itmAt Y.items i).high ≤ (itmAt X.items i).high) → inS Y.tank X.tank → Y.water.length = X.water.length → (∀ i, i < X.water.length → inS (spnAt Y.water i) (spnAt X.water i)) → Better P Q X Y)
    (hf : Q.floats.length = P.floats.length) (hs : sureT P fuel legs) : sureT Q fuel' legs' := by
  have hn := h.n
  intro j hj
  have hj2 : j < 2 * legs.length := by omega
  refine better_sure ?_ (ptOf_ok hT hj2) (ptOf_ok hT' hj) (hs j hj2)
  have hk : j / 2 < legs.length := by omega
  obtain ⟨h1, h2, h3, h4, h5, h6⟩ := h.le (j / 2) hk
  have t0 := better_tank h (j / 2) (by omega)
  have t1 := better_tank h (j / 2 + 1) (by omega)
  have w0 := better_water h (j / 2) (by omega)
  have w1 := better_water h (j / 2 + 1) (by omega)
  unfold ptOf
  by_cases he : j % 2 = 0
  · rw [if_pos he, if_pos he]
    refine hB _ _ rfl h5 h6 ?_ (by simp [ptA, hf]) fun i hi => ?_
    · unfold inS at *; simp only [ptA, h2]; omega
    · simp only [ptA, List.length_replicate] at hi ⊢
      rw [spnAt_rep hi, spnAt_rep (by omega)]
      unfold stG
      rw [h1]
      split
      · exact ⟨Int.le_refl _, Int.le_refl _⟩
      · exact w0
  · rw [if_neg he, if_neg he]
    refine hB _ _ rfl h5 h6 t1 (by simp [ptB, hf]) fun i hi => ?_
    simp only [ptB, List.length_replicate] at hi ⊢
    rw [spnAt_rep hi, spnAt_rep (by omega)]
    exact w1
end Go.Qg

namespace Go.Qg
set_option maxRecDepth 100000
structure FlyOk (P : Pln) (fuel : Spn) (legs : List Leg) (t0 : Int) (b : Nat → Int) (it lk : Nat → Nat → Int) : Prop where
  t0 : fuel.low ≤ t0 ∧ t0 ≤ fuel.high
  b : ∀ i, i < legs.length → (legAt legs i).burn.low ≤ b i ∧ b i ≤ (legAt legs i).burn.high
  it : ∀ i, i < legs.length → ∀ j, j < (legAt legs i).items.length → (itmAt (legAt legs i).items j).low ≤ it i j ∧ it i j ≤ (itmAt (legAt legs i).items j).high
  lk : ∀ i, i < legs.length → ∀ k, k < P.floats.length → (legAt legs i).leak.low ≤ lk i k ∧ lk i k ≤ (legAt legs i).leak.high
def tkT (legs : List Leg) (t0 : Int) (b : Nat → Int) : Nat → Int
  | 0 => t0
  | i + 1 => tkT legs t0 b i + (legAt legs i).fuel - b i
def wgT (legs : List Leg) (wa : Nat → Int) (i : Nat) (k : Nat) : Int := if (legAt legs i).pump = true then 0 else wa k
def waT (legs : List Leg) (lk : Nat → Nat → Int) : Nat → Nat → Int
  | 0, _ => 0
  | i + 1, k => wgT legs (waT legs lk i) i k + lk i k
theorem tkT_in {P : Pln} {fuel : Spn} {legs : List Leg} {t0 : Int} {b : Nat → Int} {it lk : Nat → Nat → Int} (h : FlyOk P fuel legs t0 b it lk) : ∀ i, i ≤ legs.length → (stT fuel legs i).low ≤ tkT legs t0 b i ∧ tkT legs t0 b i ≤ (stT fuel legs i).high
  | 0, _ => h.t0
  | i + 1, hi => by
    have ih := tkT_in h i (by omega)
    have := h.b i (by omega)
    simp only [stT, tkT]; omega
theorem waT_in {P : Pln} {fuel : Spn} {legs : List Leg} {t0 : Int} {b : Nat → Int} {it lk : Nat → Nat → Int} (h : FlyOk P fuel legs t0 b it lk) {k : Nat} (hk : k < P.floats.length) : ∀ i, i ≤ legs.length → (stF legs i).low ≤ waT legs lk i k ∧ waT legs lk i k ≤ (stF legs i).high
  | 0, _ => ⟨Int.le_refl _, Int.le_refl _⟩
  | i + 1, hi => by
    have ih := waT_in h hk i (by omega)
    have := h.lk i (by omega) k hk
    simp only [stF, waT, wgT]
    split <;> simp only <;> omega
theorem wgT_in {P : Pln} {fuel : Spn} {legs : List Leg} {t0 : Int} {b : Nat → Int} {it lk : Nat → Nat → Int} (h : FlyOk P fuel legs t0 b it lk) {k : Nat} (hk : k < P.floats.length) {i : Nat} (hi : i ≤ legs.length) : (stG legs i).low ≤ wgT legs (waT legs lk i) i k ∧ wgT legs (waT legs lk i) i k ≤ (stG legs i).high := by
  have := waT_in h hk i hi
  unfold stG wgT
  split
  · exact ⟨Int.le_refl _, Int.le_refl _⟩
  · exact this
theorem side_between (P : Pln) (e : Nat) (w1 m1 w2 m2 p n : Int) : P.dw e * ((n - p) * m1 + p * m2 - n * (P.cA e).moment) - P.dm e * ((n - p) * w1 + p * w2 - n * (P.cA e).weight) = (n - p) * P.side e w1 m1 + p * P.side e w2 m2 := by
  unfold Pln.side
  generalize P.dw e = a
  generalize P.dm e = b
  generalize (P.cA e).moment = c
  generalize (P.cA e).weight = d
  have key : ∀ (x1 x2 u : Int), (n - p) * x1 + p * x2 - n * u = (n - p) * (x1 - u) + p * (x2 - u) := fun x1 x2 u => by
    rw [Int.mul_sub, Int.mul_sub, Int.sub_mul n p u]; omega
  have f : ∀ (q a x : Int), q * (a * x) = a * (q * x) := fun q a x => by rw [← Int.mul_assoc, Int.mul_comm q a, Int.mul_assoc]
  have r1 : (n - p) * (a * (m1 - c) - b * (w1 - d)) = a * ((n - p) * (m1 - c)) - b * ((n - p) * (w1 - d)) := by rw [Int.mul_sub (n - p), f (n - p) a, f (n - p) b]
  have r2 : p * (a * (m2 - c) - b * (w2 - d)) = a * (p * (m2 - c)) - b * (p * (w2 - d)) := by rw [Int.mul_sub p, f p a, f p b]
  rw [key, key, r1, r2, Int.mul_add a, Int.mul_add b]
  omega
def caseA (legs : List Leg) (nf : Nat) (t0 : Int) (b : Nat → Int) (it lk : Nat → Nat → Int) (i : Nat) : Cse := ⟨(List.range (legAt legs i).items.length).map (it i), tkT legs t0 b i + (legAt legs i).fuel, (List.range nf).map fun k => wgT legs (waT legs lk i) i k⟩
def caseB (legs : List Leg) (nf : Nat) (t0 : Int) (b : Nat → Int) (it lk : Nat → Nat → Int) (i : Nat) : Cse := ⟨(List.range (legAt legs i).items.length).map (it i), tkT legs t0 b (i + 1), (List.range nf).map fun k => waT legs lk (i + 1) k⟩
def w100 (P : Pln) (legs : List Leg) (t0 : Int) (b : Nat → Int) (it lk : Nat → Nat → Int) (i : Nat) (f : Int) : Int :=
  100 * (P.empty + (tkT legs t0 b i + (legAt legs i).fuel)) - f * b i + sumN (fun j => 100 * it i j) (legAt legs i).items.length + sumN (fun k => 100 * wgT legs (waT legs lk i) i k + f * lk i k) P.floats.length
def m100 (P : Pln) (legs : List Leg) (t0 : Int) (b : Nat → Int) (it lk : Nat → Nat → Int) (i : Nat) (f : Int) : Int :=
  100 * (P.moment + (tkT legs t0 b i + (legAt legs i).fuel) * P.tank.arm) - f * b i * P.tank.arm + sumN (fun j => 100 * it i j * (stnAt P.stations (itmAt (legAt legs i).items j).station.toNat).arm) (legAt legs i).items.length + sumN (fun k => (100 * wgT legs (waT legs lk i) i k + f * lk i k) * armF P k) P.floats.length
theorem sum_mix (g h : Nat → Int) (p n : Int) (m : Nat) : sumN (fun i => n * g i + p * h i) m = (n - p) * sumN g m + p * sumN (fun i => g i + h i) m := by
  rw [sumN_add, sumN_mul, sumN_mul, sumN_add, Int.sub_mul, Int.mul_add]; omega
theorem w100_eq (P : Pln) (legs : List Leg) (t0 : Int) (b : Nat → Int) (it lk : Nat → Nat → Int) (i : Nat) (f : Int) : w100 P legs t0 b it lk i f = (100 - f) * wtC P (caseA legs P.floats.length t0 b it lk i) + f * wtC P (caseB legs P.floats.length t0 b it lk i) := by
  unfold w100 wtC caseA caseB
  simp only [List.length_map, List.length_range]
  have e1 : sumN (gi ((List.range (legAt legs i).items.length).map (it i))) (legAt legs i).items.length = sumN (it i) (legAt legs i).items.length := sumN_congr fun j hj => gi_range hj
  have e2 : sumN (gi ((List.range P.floats.length).map fun k => wgT legs (waT legs lk i) i k)) P.floats.length = sumN (wgT legs (waT legs lk i) i) P.floats.length := sumN_congr fun j hj => gi_range hj
  have e3 : sumN (gi ((List.range P.floats.length).map fun k => waT legs lk (i + 1) k)) P.floats.length = sumN (fun k => wgT legs (waT legs lk i) i k + lk i k) P.floats.length := sumN_congr fun j hj => gi_range hj
  rw [e1, e2, e3, sumN_mul, sum_mix, tkT]
  generalize sumN (it i) (legAt legs i).items.length = A
  generalize sumN (wgT legs (waT legs lk i) i) P.floats.length = B
  generalize sumN (fun k => wgT legs (waT legs lk i) i k + lk i k) P.floats.length = C
  generalize tkT legs t0 b i + (legAt legs i).fuel = T
  rw [show P.empty + T + A + B = (P.empty + T + A) + B from rfl, Int.mul_add (100 - f), Int.mul_add f (P.empty + (T - b i) + A), show P.empty + (T - b i) + A = (P.empty + T + A) - b i from by omega, Int.mul_sub f, Int.sub_mul 100 f (P.empty + T + A)]
  omega
theorem m100_eq (P : Pln) (fuel : Spn) (legs : List Leg) (t0 : Int) (b : Nat → Int) (it lk : Nat → Nat → Int) (i : Nat) (f : Int) : m100 P legs t0 b it lk i f = (100 - f) * moC P (ptA P fuel legs i) (caseA legs P.floats.length t0 b it lk i) + f * moC P (ptB P fuel legs i) (caseB legs P.floats.length t0 b it lk i) := by
  unfold m100 moC
  simp only [caseA, caseB, List.length_map, List.length_range]
  have ea : ∀ j, armI P (ptA P fuel legs i) j = (stnAt P.stations (itmAt (legAt legs i).items j).station.toNat).arm := fun _ => rfl
  have eb : ∀ j, armI P (ptB P fuel legs i) j = (stnAt P.stations (itmAt (legAt legs i).items j).station.toNat).arm := fun _ => rfl
  simp only [ea, eb]
  generalize hq : (fun j => (stnAt P.stations (itmAt (legAt legs i).items j).station.toNat).arm) = q
  have hq' : ∀ j, (stnAt P.stations (itmAt (legAt legs i).items j).station.toNat).arm = q j := fun j => congrFun hq j
  simp only [hq']
  have e0 : sumN (fun j => 100 * it i j * q j) (legAt legs i).items.length = 100 * sumN (fun j => it i j * q j) (legAt legs i).items.length := by
    rw [← sumN_mul]; exact sumN_congr fun j _ => Int.mul_assoc ..
  have e1 : sumN (fun j => gi ((List.range (legAt legs i).items.length).map (it i)) j * q j) (legAt legs i).items.length = sumN (fun j => it i j * q j) (legAt legs i).items.length := sumN_congr fun j hj => by rw [gi_range hj]
  have e2 : sumN (fun k => gi ((List.range P.floats.length).map fun k => wgT legs (waT legs lk i) i k) k * armF P k) P.floats.length = sumN (fun k => wgT legs (waT legs lk i) i k * armF P k) P.floats.length := sumN_congr fun j hj => by rw [gi_range hj]
  have e3 : sumN (fun k => gi ((List.range P.floats.length).map fun k => waT legs lk (i + 1) k) k * armF P k) P.floats.length = sumN (fun k => wgT legs (waT legs lk i) i k * armF P k + lk i k * armF P k) P.floats.length := sumN_congr fun j hj => by rw [gi_range hj, waT, Int.add_mul]
  have e4 : sumN (fun k => (100 * wgT legs (waT legs lk i) i k + f * lk i k) * armF P k) P.floats.length = sumN (fun k => 100 * (wgT legs (waT legs lk i) i k * armF P k) + f * (lk i k * armF P k)) P.floats.length := sumN_congr fun k _ => by rw [Int.add_mul, Int.mul_assoc, Int.mul_assoc]
  rw [e0, e1, e2, e3, e4, sum_mix, tkT]
  generalize sumN (fun j => it i j * q j) (legAt legs i).items.length = A
  generalize sumN (fun k => wgT legs (waT legs lk i) i k * armF P k) P.floats.length = B
  generalize sumN (fun k => wgT legs (waT legs lk i) i k * armF P k + lk i k * armF P k) P.floats.length = C
  generalize tkT legs t0 b i + (legAt legs i).fuel = T
  rw [Int.sub_mul T, show f * b i * P.tank.arm = f * (b i * P.tank.arm) from Int.mul_assoc ..]
  generalize T * P.tank.arm = U
  generalize b i * P.tank.arm = V
  rw [Int.mul_add (100 - f), Int.mul_add f (P.moment + (U - V) + A), show P.moment + (U - V) + A = (P.moment + U + A) - V from by omega, Int.mul_sub f, Int.sub_mul 100 f (P.moment + U + A)]
  omega
structure AlongL (P : Pln) (legs : List Leg) (t0 : Int) (b : Nat → Int) (it lk : Nat → Nat → Int) (i : Nat) (f : Int) : Prop where
  wet : ∀ k, k < P.floats.length → waT legs lk (i + 1) k ≤ (stnAt P.floats k).most
  inside : ∀ e, e < P.corners.length → 0 ≤ P.dw e * (m100 P legs t0 b it lk i f - 100 * (P.cA e).moment) - P.dm e * (w100 P legs t0 b it lk i f - 100 * (P.cA e).weight)
  reserve : P.reserve ≤ tkT legs t0 b (i + 1)
  heavy : w100 P legs t0 b it lk i f ≤ 100 * max P.takeoff P.landing
theorem along_law {P : Pln} {fuel : Spn} {legs : List Leg} (hT : TripOk P fuel legs) (hs : sureT P fuel legs) {t0 : Int} {b : Nat → Int} {it lk : Nat → Nat → Int} (h : FlyOk P fuel legs t0 b it lk) {i : Nat} (hi : i < legs.length) {f : Int} (hf : 0 ≤ f ∧ f ≤ 100) : AlongL P legs t0 b it lk i f := by
  have iA : InC (ptA P fuel legs i) (caseA legs P.floats.length t0 b it lk i) := by
    refine ⟨by simp [caseA, ptA], by simp [caseA, ptA], ?_, fun j hj => ?_, fun k hk => ?_⟩
    · have := tkT_in h i (by omega); simp only [ptA, caseA]; omega
    · simp only [caseA, List.length_map, List.length_range] at hj ⊢
      rw [gi_range hj]; exact h.it i hi j hj
    · simp only [caseA, ptA, List.length_map, List.length_range] at hk ⊢
      rw [gi_range hk, spnAt_rep hk]; exact wgT_in h hk (by omega)
  have iB : InC (ptB P fuel legs i) (caseB legs P.floats.length t0 b it lk i) := by
    refine ⟨by simp [caseB, ptB], by simp [caseB, ptB], tkT_in h (i + 1) (by omega), fun j hj => ?_, fun k hk => ?_⟩
    · simp only [caseB, List.length_map, List.length_range] at hj ⊢
      rw [gi_range hj]; exact h.it i hi j hj
    · simp only [caseB, ptB, List.length_map, List.length_range] at hk ⊢
      rw [gi_range hk, spnAt_rep hk]; exact waT_in h hk (i + 1) (by omega)
  have sA := hs (2 * i) (by omega)
  have sB := hs (2 * i + 1) (by omega)
  rw [ptOf_even] at sA
  rw [ptOf_odd] at sB
  have kA := sure_keeps (ptA_ok hT hi) iA sA
  have kB := sure_keeps (ptB_ok hT hi) iB sB
  refine ⟨fun k hk => ?_, fun e he => ?_, kB.short rfl, ?_⟩
  · have := kB.wet k (by simpa [caseB] using hk)
    simp only [caseB] at this
    rwa [gi_range hk] at this
  · rw [w100_eq, m100_eq P fuel, side_between]
    have a := Int.mul_nonneg (show 0 ≤ 100 - f by omega) (kA.inside e he)
    have b := Int.mul_nonneg hf.1 (kB.inside e he)
    omega
  · rw [w100_eq]
    have a : wtC P (caseA legs P.floats.length t0 b it lk i) ≤ max P.takeoff P.landing := by
      have := kA.heavy
      simp only [limitP, ptA, Bool.false_eq_true, if_false] at this
      omega
    have c : wtC P (caseB legs P.floats.length t0 b it lk i) ≤ max P.takeoff P.landing := by
      have := kB.heavy
      simp only [limitP, ptB, if_true] at this
      omega
    have a' := Int.mul_le_mul_of_nonneg_left a (show 0 ≤ 100 - f by omega)
    have c' := Int.mul_le_mul_of_nonneg_left c hf.1
    have e : (100 - f) * max P.takeoff P.landing + f * max P.takeoff P.landing = 100 * max P.takeoff P.landing := by rw [← Int.add_mul]; congr 1; omega
    omega
end Go.Qg

namespace Go.Qg
set_option maxRecDepth 100000
def moreX (X : Pnt) (n : Int) : Pnt := ⟨X.items, ⟨X.tank.low + n, X.tank.high + n⟩, X.water, X.landing⟩
theorem stT_shift (legs : List Leg) (n : Int) : ∀ k, stT ⟨n, n⟩ legs k = ⟨(stT ⟨0, 0⟩ legs k).low + n, (stT ⟨0, 0⟩ legs k).high + n⟩
  | 0 => by simp [stT]
  | k + 1 => by
    simp only [stT, stT_shift legs n k, Spn.mk.injEq]
    omega
theorem ptOf_shift (P : Pln) (legs : List Leg) (n : Int) (j : Nat) : ptOf P ⟨n, n⟩ legs j = moreX (ptOf P ⟨0, 0⟩ legs j) n := by
  unfold ptOf
  split
  · simp only [ptA, moreX, stT_shift legs n, Pnt.mk.injEq, Spn.mk.injEq, true_and, and_true]
    omega
  · simp only [ptB, moreX, stT_shift legs n]
theorem minS_shift (s lo hi n : Int) : minS s (lo + n) (hi + n) = minS s lo hi + s * n := by
  unfold minS
  rw [Int.mul_add, Int.mul_add]; omega
def UpB (p : Int → Bool) : Prop := ∀ n m, n ≤ m → p n = true → p m = true
def DownB (p : Int → Bool) : Prop := ∀ n m, n ≤ m → p m = true → p n = true
theorem can_shift (P : Pln) (X : Pnt) (r i : Nat) : UpB (fun n => canB P (moreX X n) r i) ∨ DownB (fun n => canB P (moreX X n) r i) := by
  by_cases h2 : r = 2
  · subst h2; left; intro n m _ h; exact h
  by_cases h3 : r = 3
  · subst h3
    left; intro n m hnm h
    have h : decide (P.tank.most < X.tank.high + n) = true := h
    show decide (P.tank.most < X.tank.high + m) = true
    rw [decide_eq_true_eq] at h ⊢
    omega
  by_cases h4 : r = 4
  · subst h4; left; intro n m _ h; exact h
  by_cases h5 : r = 5
  · subst h5
    left; intro n m hnm h
    have h : decide (limitP P X < P.empty + (X.tank.high + n) + sumN (fun i => (itmAt X.items i).high) X.items.length + sumN (fun i => (spnAt X.water i).high) X.water.length) = true := h
    show decide (limitP P X < P.empty + (X.tank.high + m) + sumN (fun i => (itmAt X.items i).high) X.items.length + sumN (fun i => (spnAt X.water i).high) X.water.length) = true
    rw [decide_eq_true_eq] at h ⊢
    omega
  by_cases h6 : r = 6
  · have e : ∀ n, leastE P (moreX X n) i = leastE P X i + P.slope i P.tank.arm * n := fun n => by
      unfold leastE
      simp only [moreX, minS_shift]
      have : ∀ j, armI P ⟨X.items, ⟨X.tank.low + n, X.tank.high + n⟩, X.water, X.landing⟩ j = armI P X j := fun _ => rfl
      simp only [this]; omega
    have g : ∀ n, canB P (moreX X n) r i = decide (leastE P X i + P.slope i P.tank.arm * n < 0) := fun n => by
      unfold canB
      rw [if_neg h2, if_neg h3, if_neg h4, if_neg h5, if_pos h6]; unfold outB; rw [e]
    rcases Int.lt_or_le (P.slope i P.tank.arm) 0 with hs | hs
    · left; intro n m hnm h
      simp only [g, decide_eq_true_eq] at h ⊢
      have := Int.mul_le_mul_of_nonpos_left (show P.slope i P.tank.arm ≤ 0 by omega) hnm
      omega
    · right; intro n m hnm h
      simp only [g, decide_eq_true_eq] at h ⊢
      have := Int.mul_le_mul_of_nonneg_left hnm hs
      omega
  · have g : ∀ n, canB P (moreX X n) r i = (X.landing && decide (X.tank.low + n < P.reserve)) := fun n => by
      unfold canB
      rw [if_neg h2, if_neg h3, if_neg h4, if_neg h5, if_neg h6]; rfl
    right; intro n m hnm h
    simp only [g, Bool.and_eq_true, decide_eq_true_eq] at h ⊢
    exact ⟨h.1, by omega⟩
def idxR (P : Pln) (j : Nat) : Nat → List (Nat × Nat × Nat)
  | 0 => []
  | c + 1 => idxR P j c ++ (List.range (manyR P (c + 2))).map fun i => (j, c + 2, i)
def idxT (P : Pln) : Nat → List (Nat × Nat × Nat)
  | 0 => []
  | n + 1 => idxT P n ++ idxR P n 6
theorem mem_idxR {P : Pln} {j : Nat} {x : Nat × Nat × Nat} : ∀ {c : Nat}, x ∈ idxR P j c ↔ x.1 = j ∧ (2 ≤ x.2.1 ∧ x.2.1 < c + 2) ∧ x.2.2 < manyR P x.2.1
  | 0 => by simp [idxR]; omega
  | c + 1 => by
    simp only [idxR, List.mem_append, mem_idxR, List.mem_map, List.mem_range]
    constructor
    · rintro (⟨h1, h2, h3⟩ | ⟨i, hi, rfl⟩)
      · exact ⟨h1, by omega, h3⟩
      · exact ⟨rfl, by simp only; omega, hi⟩
    · rintro ⟨h1, h2, h3⟩
      by_cases h : x.2.1 = c + 2
      · refine .inr ⟨x.2.2, by rw [← h]; exact h3, ?_⟩
        rw [← h, ← h1]
      · exact .inl ⟨h1, by omega, h3⟩
theorem mem_idxT {P : Pln} {x : Nat × Nat × Nat} : ∀ {n : Nat}, x ∈ idxT P n ↔ x.1 < n ∧ (2 ≤ x.2.1 ∧ x.2.1 ≤ 7) ∧ x.2.2 < manyR P x.2.1
  | 0 => by simp [idxT]
  | n + 1 => by
    simp only [idxT, List.mem_append, mem_idxT, mem_idxR]
    omega
def canX (P : Pln) (legs : List Leg) (n : Int) (x : Nat × Nat × Nat) : Bool := canB P (ptOf P ⟨n, n⟩ legs x.1) x.2.1 x.2.2
def breaksL (P : Pln) (legs : List Leg) (n : Int) : List Bool := (idxT P (2 * legs.length)).map (canX P legs n)
def brkK (P : Pln) (legs : List Leg) (k : Nat) (n : Int) : Bool := (breaksL P legs n).getD k false
theorem breaksL_length (P : Pln) (legs : List Leg) (n : Int) : (breaksL P legs n).length = (idxT P (2 * legs.length)).length := by simp [breaksL]
theorem sure_breaks {P : Pln} {legs : List Leg} {n : Int} : sureT P ⟨n, n⟩ legs ↔ ∀ k, k < (idxT P (2 * legs.length)).length → brkK P legs k n = false := by
  constructor
  · intro h k hk
    have hm := List.getElem_mem hk
    obtain ⟨h1, h2, h3⟩ := mem_idxT.1 hm
    have := (sure_iff.1 (h _ h1)) _ h2.1 h2.2 _ h3
    simp only [brkK, breaksL, List.getD_eq_getElem?_getD, List.getElem?_map, List.getElem?_eq_getElem hk, Option.map_some, Option.getD_some]
    exact this
  · intro h j hj
    rw [sure_iff]
    intro r h1 h2 i hi
    have hm : (j, r, i) ∈ idxT P (2 * legs.length) := mem_idxT.2 ⟨hj, ⟨h1, h2⟩, hi⟩
    obtain ⟨k, hk, he⟩ := List.getElem_of_mem hm
    have := h k hk
    simp only [brkK, breaksL, List.getD_eq_getElem?_getD, List.getElem?_map, List.getElem?_eq_getElem hk, Option.map_some, Option.getD_some, he] at this
    exact this
theorem brk_shift (P : Pln) (legs : List Leg) (k : Nat) : UpB (brkK P legs k) ∨ DownB (brkK P legs k) := by
  by_cases hk : k < (idxT P (2 * legs.length)).length
  · have e : ∀ n, brkK P legs k n = canB P (moreX (ptOf P ⟨0, 0⟩ legs ((idxT P (2 * legs.length))[k]).1) n) ((idxT P (2 * legs.length))[k]).2.1 ((idxT P (2 * legs.length))[k]).2.2 := fun n => by
      simp only [brkK, breaksL, List.getD_eq_getElem?_getD, List.getElem?_map, List.getElem?_eq_getElem hk, Option.map_some, Option.getD_some, canX]
      rw [ptOf_shift]
    have := can_shift P (ptOf P ⟨0, 0⟩ legs ((idxT P (2 * legs.length))[k]).1) ((idxT P (2 * legs.length))[k]).2.1 ((idxT P (2 * legs.length))[k]).2.2
    rw [show brkK P legs k = fun n => canB P (moreX (ptOf P ⟨0, 0⟩ legs ((idxT P (2 * legs.length))[k]).1) n) ((idxT P (2 * legs.length))[k]).2.1 ((idxT P (2 * legs.length))[k]).2.2 from funext e]
    exact this
  · left
    intro n m _ h
    simp only [brkK, List.getD_eq_getElem?_getD] at h
    rw [List.getElem?_eq_none (by rw [breaksL_length]; omega)] at h
    cases h
def endOf (p : Int → Bool) (K : Nat) : Int := match fstN (fun n => !p n) (K + 1) with
  | some k => k
  | none => 0
theorem endOf_spec {p : Int → Bool} {K : Nat} (h : p K = false) : (0 ≤ endOf p K ∧ endOf p K ≤ K) ∧ p (endOf p K) = false ∧ ∀ n : Int, 0 ≤ n → n < endOf p K → p n = true := by
  unfold endOf
  cases hf : fstN (fun n : Nat => !p n) (K + 1) with
  | some k =>
    obtain ⟨h1, h2, h3⟩ := fstN_some.1 hf
    refine ⟨by simp only; omega, by simpa using h2, fun n hn hk => ?_⟩
    have := h3 n.toNat (by simp only at hk; omega)
    rw [show ((n.toNat : Nat) : Int) = n from by omega] at this
    simpa using this
  | none =>
    have := fstN_none.1 hf K (by omega)
    simp [h] at this
def fuelTo (p : Nat → Int → Bool) (K : Nat) : Nat → Option Int
  | 0 => some 0
  | k + 1 => match fuelTo p K k with
    | none => none
    | some low => if p k 0 = true ∧ p k K = true then none else if p k 0 = true then some (max low (endOf (p k) K)) else some low
theorem fuelTo_spec {p : Nat → Int → Bool} {K : Nat} (hp : ∀ k, UpB (p k) ∨ DownB (p k)) : ∀ N, match fuelTo p K N with
    | none => ∃ k, k < N ∧ ∀ n : Int, 0 ≤ n → n ≤ K → p k n = true
    | some low => (0 ≤ low ∧ low ≤ K) ∧ (∀ n : Int, 0 ≤ n → n ≤ K → (∀ k, k < N → p k n = false) → low ≤ n) ∧ ∀ k, k < N → DownB (p k) → p k low = true → p k 0 = false
  | 0 => by simp only [fuelTo]; exact ⟨by omega, fun n h0 _ _ => h0, fun k hk => by omega⟩
  | N + 1 => by
    have ih := fuelTo_spec (K := K) hp N
    simp only [fuelTo]
    cases hf : fuelTo p K N with
    | none =>
      rw [hf] at ih
      obtain ⟨k, hk, h⟩ := ih
      exact ⟨k, by omega, h⟩
    | some low =>
      rw [hf] at ih
      obtain ⟨h1, h2, h3⟩ := ih
      simp only
      by_cases c1 : p N 0 = true ∧ p N K = true
      · rw [if_pos c1]
        refine ⟨N, by omega, fun n hn hK => ?_⟩
        rcases hp N with h | h
        · exact h 0 n hn c1.1
        · exact h n K hK c1.2
      · rw [if_neg c1]
        by_cases c2 : p N 0 = true
        · rw [if_pos c2]
          have hK : p N K = false := by
            cases h : p N K with
            | false => rfl
            | true => exact absurd ⟨c2, h⟩ c1
          obtain ⟨e1, e2, e3⟩ := endOf_spec hK
          refine ⟨by omega, fun n hn hnK hall => ?_, fun k hk hd hl => ?_⟩
          · have g1 := h2 n hn hnK fun k hk => hall k (by omega)
            have g2 : endOf (p N) K ≤ n := by
              rcases Int.lt_or_le n (endOf (p N) K) with h | h
              · have := e3 n hn h
                rw [hall N (by omega)] at this; cases this
              · exact h
            omega
          · rcases Nat.lt_or_eq_of_le (Nat.le_of_lt_succ hk) with h | rfl
            · exact h3 k h hd (hd _ _ (Int.le_max_left ..) hl)
            · have := hd _ _ (Int.le_max_right low (endOf (p k) K)) hl
              rw [e2] at this; cases this
        · rw [if_neg c2]
          refine ⟨h1, fun n hn hnK hall => h2 n hn hnK fun k hk => hall k (by omega), fun k hk hd hl => ?_⟩
          rcases Nat.lt_or_eq_of_le (Nat.le_of_lt_succ hk) with h | rfl
          · exact h3 k h hd hl
          · simpa using c2
def fuelP (P : Pln) (legs : List Leg) : Option Int := match fuelTo (brkK P legs) 20000 (idxT P (2 * legs.length)).length with
  | none => none
  | some low => if (tripP P ⟨low, low⟩ legs).isNone = true then some low else none
theorem fuel_law (P : Pln) (legs : List Leg) : match fuelP P legs with
    | none => ∀ n : Int, 0 ≤ n → n ≤ 20000 → ¬ sureT P ⟨n, n⟩ legs
    | some low => (0 ≤ low ∧ low ≤ 20000) ∧ sureT P ⟨low, low⟩ legs ∧ ∀ n : Int, 0 ≤ n → n < low → ¬ sureT P ⟨n, n⟩ legs := by
  have h := fuelTo_spec (p := brkK P legs) (K := 20000) (brk_shift P legs) (idxT P (2 * legs.length)).length
  unfold fuelP
  cases hf : fuelTo (brkK P legs) 20000 (idxT P (2 * legs.length)).length with
  | none =>
    rw [hf] at h
    obtain ⟨k, hk, h⟩ := h
    intro n hn hK hs
    have := sure_breaks.1 hs k hk
    rw [h n hn (by omega)] at this; cases this
  | some low =>
    rw [hf] at h
    obtain ⟨h1, h2, h3⟩ := h
    simp only
    have key : ∀ n : Int, 0 ≤ n → n ≤ 20000 → sureT P ⟨n, n⟩ legs → low ≤ n := fun n hn hK hs => h2 n hn (by omega) (sure_breaks.1 hs)
    by_cases hs : (tripP P ⟨low, low⟩ legs).isNone = true
    · rw [if_pos hs]
      have hs' : sureT P ⟨low, low⟩ legs := trip_none.1 (by simpa using hs)
      exact ⟨by omega, hs', fun n hn hlt hsn => by have := key n hn (by omega) hsn; omega⟩
    · rw [if_neg hs]
      intro n hn hK hsn
      have hle := key n hn hK hsn
      apply hs
      have : sureT P ⟨low, low⟩ legs := sure_breaks.2 fun k hk => by
        cases hb : brkK P legs k low with
        | false => rfl
        | true =>
          exfalso
          have hn0 := sure_breaks.1 hsn k hk
          rcases brk_shift P legs k with hu | hd
          · rw [hu _ _ hle hb] at hn0; cases hn0
          · have h0 := h3 k hk hd hb
            rw [hd _ _ h1.1 hb] at h0; cases h0
      rw [trip_none.2 this]; rfl
theorem fuel_span (P : Pln) (legs : List Leg) {a b c : Int} (h1 : a ≤ b) (h2 : b ≤ c) (ha : sureT P ⟨a, a⟩ legs) (hc : sureT P ⟨c, c⟩ legs) : sureT P ⟨b, b⟩ legs := sure_breaks.2 fun k hk => by
  cases hb : brkK P legs k b with
  | false => rfl
  | true =>
    rcases brk_shift P legs k with hu | hd
    · have := hu _ _ h2 hb
      rw [sure_breaks.1 hc k hk] at this; cases this
    · have := hd _ _ h1 hb
      rw [sure_breaks.1 ha k hk] at this; cases this
theorem fuel_most {P : Pln} {legs : List Leg} (h0 : 1 ≤ legs.length) (hf : 0 ≤ (legAt legs 0).fuel) {n : Int} (hs : sureT P ⟨n, n⟩ legs) : n ≤ P.tank.most := by
  have h := hs 0 (by omega)
  have := (sure_iff.1 h) 3 (by omega) (by omega) 0 (by simp [manyR])
  have e : canB P (ptOf P ⟨n, n⟩ legs 0) 3 0 = decide (P.tank.most < n + (legAt legs 0).fuel) := rfl
  rw [e, decide_eq_false_iff_not] at this
  omega
end Go.Qg

namespace Go.Qg
set_option maxRecDepth 100000
def beforeL : List Int → List Int → Bool
  | [], [] => false
  | [], _ :: _ => true
  | _ :: _, [] => false
  | x :: a, y :: b => if x = y then beforeL a b else decide (x < y)
theorem before_nil (a : List Int) : beforeL a [] = false := by cases a <;> rfl
theorem before_app (b : List Int) : ∀ (p : List Int) (a : List Int), beforeL (p ++ a) (p ++ b) = beforeL a b
  | [], _ => rfl
  | x :: p, a => by simp only [List.cons_append, beforeL, if_true, before_app b p a]
def firstS {α : Type} (f : Nat → Option α) : Nat → Option α
  | 0 => none
  | n + 1 => match firstS f n with
    | some x => some x
    | none => f n
theorem firstS_some {α : Type} {f : Nat → Option α} {x : α} : ∀ {n : Nat}, firstS f n = some x ↔ ∃ k, k < n ∧ f k = some x ∧ ∀ j, j < k → f j = none
  | 0 => by simp [firstS]
  | n + 1 => by
    simp only [firstS]
    have ih := firstS_some (f := f) (x := x) (n := n)
    cases h : firstS f n with
    | some y =>
      rw [h] at ih
      simp only [Option.some.injEq] at ih ⊢
      constructor
      · intro e
        obtain ⟨k, h1, h2, h3⟩ := ih.1 e
        exact ⟨k, by omega, h2, h3⟩
      · rintro ⟨k, h1, h2, h3⟩
        rcases Nat.lt_or_eq_of_le (Nat.le_of_lt_succ h1) with h4 | rfl
        · exact ih.2 ⟨k, h4, h2, h3⟩
        · obtain ⟨k', g1, g2, g3⟩ := firstS_some.1 h
          rw [h3 k' g1] at g2; cases g2
    | none =>
      simp only
      constructor
      · intro e
        refine ⟨n, by omega, e, fun j hj => ?_⟩
        cases hf : f j with
        | none => rfl
        | some z =>
          exfalso
          have : ∀ m, m ≤ n → firstS f m = none := by
            intro m
            induction m with
            | zero => intro _; rfl
            | succ m _ =>
              intro hm
              have key : ∀ d, d ≤ n → firstS f (n - d) = none := by
                intro d
                induction d with
                | zero => intro _; exact h
                | succ d ihd =>
                  intro hd
                  have h5 := ihd (by omega)
                  rw [show n - d = (n - (d + 1)) + 1 from by omega] at h5
                  simp only [firstS] at h5
                  cases h6 : firstS f (n - (d + 1)) with
                  | none => rfl
                  | some y => rw [h6] at h5; cases h5
              have := key (n - (m + 1)) (by omega)
              rwa [show n - (n - (m + 1)) = m + 1 from by omega] at this
          have h7 := this (j + 1) (by omega)
          simp only [firstS, this j (by omega), hf] at h7
          cases h7
      · rintro ⟨k, h1, h2, h3⟩
        rcases Nat.lt_or_eq_of_le (Nat.le_of_lt_succ h1) with h4 | rfl
        · have := ih.2 ⟨k, h4, h2, h3⟩
          rw [h] at this; cases this
        · exact h2
theorem firstS_none {α : Type} {f : Nat → Option α} : ∀ {n : Nat}, firstS f n = none ↔ ∀ k, k < n → f k = none
  | 0 => by simp [firstS]
  | n + 1 => by
    simp only [firstS]
    have ih := firstS_none (f := f) (n := n)
    cases h : firstS f n with
    | some y =>
      rw [h] at ih
      refine ⟨fun e => (by cases e), fun g => ?_⟩
      have := ih.2 fun k hk => g k (by omega)
      cases this
    | none =>
      have hn := ih.1 h
      refine ⟨fun e k hk => ?_, fun g => g n (by omega)⟩
      rcases Nat.lt_or_eq_of_le (Nat.le_of_lt_succ hk) with h4 | rfl
      · exact hn k h4
      · exact e
def seatR (ok : List Int → Bool) (S : Nat) : Nat → List Int → Option (List Int)
  | 0, b => if ok b = true then some b else none
  | m + 1, b => firstS (fun s => seatR ok S m (b ++ [(s : Int)])) S
def seatP (ok : List Int → Bool) (cut : List Int → Nat → Bool) (S : Nat) : Nat → List Int → Option (List Int)
  | 0, b => if ok b = true then some b else none
  | m + 1, b => firstS (fun s => if cut b s = true then none else seatP ok cut S m (b ++ [(s : Int)])) S
def InSt (S : Nat) (t : List Int) : Prop := ∀ x ∈ t, 0 ≤ x ∧ x < (S : Int)
theorem seat_none {ok : List Int → Bool} {S : Nat} : ∀ {m : Nat} {b : List Int}, seatR ok S m b = none ↔ ∀ t, t.length = m → InSt S t → ok (b ++ t) = false
  | 0, b => by
    simp only [seatR]
    constructor
    · intro h t ht _
      obtain rfl : t = [] := List.eq_nil_of_length_eq_zero ht
      rw [List.append_nil]
      cases ho : ok b with
      | false => rfl
      | true => rw [if_pos ho] at h; cases h
    · intro h
      have := h [] rfl (fun x hx => by cases hx)
      rw [List.append_nil] at this
      rw [if_neg (by rw [this]; decide)]
  | m + 1, b => by
    simp only [seatR]
    rw [firstS_none]
    constructor
    · intro h t ht hin
      cases t with
      | nil => cases ht
      | cons x t =>
        have hx := hin x (List.mem_cons_self ..)
        have := seat_none.1 (h x.toNat (by omega)) t (by simpa using ht) fun y hy => hin y (List.mem_cons_of_mem _ hy)
        rw [show ((x.toNat : Nat) : Int) = x from by omega, List.append_assoc] at this
        exact this
    · intro h k hk
      rw [seat_none]
      intro t ht hin
      have := h ((k : Int) :: t) (by simp [ht]) (fun y hy => by
        rcases List.mem_cons.1 hy with rfl | hy
        · omega
        · exact hin y hy)
      rw [List.append_assoc]
      exact this
theorem seat_some {ok : List Int → Bool} {S : Nat} : ∀ {m : Nat} {b l : List Int}, seatR ok S m b = some l → ∃ t, l = b ++ t ∧ t.length = m ∧ InSt S t ∧ ok l = true ∧ ∀ t', t'.length = m → InSt S t' → ok (b ++ t') = true → beforeL t' t = false
  | 0, b, l, h => by
    simp only [seatR] at h
    by_cases ho : ok b = true
    · rw [if_pos ho, Option.some.injEq] at h
      subst h
      exact ⟨[], by simp, rfl, fun x hx => (by cases hx), ho, fun t' _ _ _ => before_nil t'⟩
    · rw [if_neg ho] at h; cases h
  | m + 1, b, l, h => by
    simp only [seatR] at h
    obtain ⟨k, hk, h1, h2⟩ := firstS_some.1 h
    obtain ⟨t, g1, g2, g3, g4, g5⟩ := seat_some h1
    refine ⟨(k : Int) :: t, by rw [g1, List.append_assoc]; rfl, by simp [g2], fun y hy => ?_, g4, fun t' ht hin ho => ?_⟩
    · rcases List.mem_cons.1 hy with rfl | hy
      · omega
      · exact g3 y hy
    · cases t' with
      | nil => cases ht
      | cons x t' =>
        have hx := hin x (List.mem_cons_self ..)
        have hin' : InSt S t' := fun y hy => hin y (List.mem_cons_of_mem _ hy)
        simp only [beforeL]
        by_cases e : x = k
        · rw [if_pos e]
          subst e
          exact g5 t' (by simpa using ht) hin' (by rw [List.append_assoc]; exact ho)
        · rw [if_neg e, decide_eq_false_iff_not]
          intro hlt
          have := seat_none.1 (h2 x.toNat (by omega)) t' (by simpa using ht) hin'
          rw [show ((x.toNat : Nat) : Int) = x from by omega, List.append_assoc] at this
          rw [show [x] ++ t' = x :: t' from rfl, ho] at this; cases this
theorem seatP_eq {ok : List Int → Bool} {cut : List Int → Nat → Bool} {S N : Nat} (hcut : ∀ (b : List Int) (s : Nat) (t : List Int), s < S → b.length + 1 + t.length = N → InSt S b → InSt S t → cut b s = true → ok (b ++ (s : Int) :: t) = false) : ∀ {m : Nat} {b : List Int}, b.length + m = N → InSt S b → seatP ok cut S m b = seatR ok S m b
  | 0, _, _, _ => rfl
  | m + 1, b, hb, hin => by
    simp only [seatP, seatR]
    have e : ∀ s, s < S → (if cut b s = true then none else seatP ok cut S m (b ++ [(s : Int)])) = seatR ok S m (b ++ [(s : Int)]) := fun s hs => by
      have hin2 : InSt S (b ++ [(s : Int)]) := fun y hy => by
        rcases List.mem_append.1 hy with hy | hy
        · exact hin y hy
        · obtain rfl := List.mem_singleton.1 hy; omega
      by_cases hc : cut b s = true
      · rw [if_pos hc]
        symm
        rw [seat_none]
        intro t ht ht2
        have := hcut b s t hs (by omega) hin ht2 hc
        rw [List.append_assoc]; exact this
      · rw [if_neg hc]; exact seatP_eq hcut (by simp; omega) hin2
    have : ∀ n, n ≤ S → firstS (fun s => if cut b s = true then none else seatP ok cut S m (b ++ [(s : Int)])) n = firstS (fun s => seatR ok S m (b ++ [(s : Int)])) n := by
      intro n
      induction n with
      | zero => intro _; rfl
      | succ n ih => intro hn; simp only [firstS, ih (by omega), e n (by omega)]
    exact this S (Nat.le_refl _)
def seated (ws : List Spn) (tank : Spn) (water : List Spn) (landing : Bool) (seats : List Int) : Pnt := ⟨(List.range seats.length).map fun i => ⟨gi seats i, (spnAt ws i).low, (spnAt ws i).high⟩, tank, water, landing⟩
def leftP (P : Pln) (ws : List Spn) (b : List Int) (s : Nat) : Int := (stnAt P.stations s).most - sumN (fun i => if gi b i = s then (spnAt ws i).high else 0) b.length
def cutP (P : Pln) (ws : List Spn) (b : List Int) (s : Nat) : Bool := decide (leftP P ws b s < (spnAt ws b.length).high)
theorem itmAt_range {f : Nat → Itm} {n j : Nat} (h : j < n) : itmAt ((List.range n).map f) j = f j := by simp [itmAt, h]
theorem itm_seated {ws : List Spn} {tank : Spn} {water : List Spn} {landing : Bool} {l : List Int} {i : Nat} (h : i < l.length) : itmAt (seated ws tank water landing l).items i = ⟨gi l i, (spnAt ws i).low, (spnAt ws i).high⟩ := itmAt_range h
theorem sumN_split (f : Nat → Int) (a : Nat) : ∀ b, sumN f (a + b) = sumN f a + sumN (fun i => f (a + i)) b
  | 0 => by simp [sumN]
  | b + 1 => by rw [← Nat.add_assoc]; simp only [sumN, sumN_split f a b]; omega
theorem gi_app_l {l t : List Int} {i : Nat} (h : i < l.length) : gi (l ++ t) i = gi l i := by simp [gi, List.getElem?_append_left h]
theorem gi_app_m {l t : List Int} {x : Int} : gi (l ++ x :: t) l.length = x := by simp [gi]
theorem cut_law {P : Pln} {ws : List Spn} {tank : Spn} {water : List Spn} {landing : Bool} (hw : ∀ i, i < ws.length → 0 ≤ (spnAt ws i).low ∧ (spnAt ws i).low ≤ (spnAt ws i).high) (b : List Int) (s : Nat) (t : List Int) (hs : s < P.stations.length) (hn : b.length + 1 + t.length = ws.length) (hc : cutP P ws b s = true) : sureB P (seated ws tank water landing (b ++ (s : Int) :: t)) = false := by
  cases h : sureB P (seated ws tank water landing (b ++ (s : Int) :: t)) with
  | false => rfl
  | true =>
    exfalso
    have hs2 := (sure_iff.1 h) 2 (by omega) (by omega) s (by simpa [manyR] using hs)
    have hs2 : decide _ = false := hs2
    rw [decide_eq_false_iff_not] at hs2
    apply hs2
    unfold cutP leftP at hc
    rw [decide_eq_true_eq] at hc
    have hl : (seated ws tank water landing (b ++ (s : Int) :: t)).items.length = b.length + (1 + t.length) := by simp [seated]; omega
    rw [hl, sumN_split, sumN_split]
    have e1 : sumN (fun i => if (itmAt (seated ws tank water landing (b ++ (s : Int) :: t)).items i).station = s then (itmAt (seated ws tank water landing (b ++ (s : Int) :: t)).items i).high else 0) b.length = sumN (fun i => if gi b i = s then (spnAt ws i).high else 0) b.length := sumN_congr fun i hi => by
      simp only [itm_seated (show i < (b ++ (s : Int) :: t).length by simp; omega), gi_app_l hi]
    have e2 : sumN (fun i => if (itmAt (seated ws tank water landing (b ++ (s : Int) :: t)).items (b.length + i)).station = s then (itmAt (seated ws tank water landing (b ++ (s : Int) :: t)).items (b.length + i)).high else 0) 1 = (spnAt ws b.length).high := by
      simp only [sumN, Nat.add_zero, itm_seated (show b.length < (b ++ (s : Int) :: t).length by simp), gi_app_m, if_true]; omega
    have e3 : 0 ≤ sumN (fun i => if (itmAt (seated ws tank water landing (b ++ (s : Int) :: t)).items (b.length + (1 + i))).station = s then (itmAt (seated ws tank water landing (b ++ (s : Int) :: t)).items (b.length + (1 + i))).high else 0) t.length := sumN_nonneg fun i hi => by
      have hj : b.length + (1 + i) < ws.length := by omega
      have := hw _ hj
      simp only [itm_seated (show b.length + (1 + i) < (b ++ (s : Int) :: t).length by simp; omega)]
      split <;> omega
    rw [e1, e2]
    omega
def Chain (n : Nat) : Nat → List Int → Prop
  | _, [] => True
  | a, x :: t => ((a : Int) ≤ x ∧ x < n) ∧ Chain n (x.toNat + 1) t
def worthL (w : Nat → Int) : List Int → Int
  | [] => 0
  | x :: t => w x.toNat + worthL w t
theorem worth_app (w : Nat → Int) (t : List Int) : ∀ s, worthL w (s ++ t) = worthL w s + worthL w t
  | [] => by simp [worthL]
  | x :: s => by simp only [List.cons_append, worthL, worth_app w t s]; omega
def restW (w : Nat → Int) (a : Nat) : Nat → Int
  | 0 => 0
  | m + 1 => restW w a m + w (a + m)
theorem restW_head (w : Nat → Int) (a : Nat) : ∀ m, restW w a (m + 1) = w a + restW w (a + 1) m
  | 0 => by simp [restW]
  | m + 1 => by
    have ih := restW_head w a m
    rw [restW, ih, restW, show a + 1 + m = a + (m + 1) from by omega]; omega
theorem restW_nonneg {w : Nat → Int} (hw : ∀ i, 0 ≤ w i) (a : Nat) : ∀ m, 0 ≤ restW w a m
  | 0 => Int.le_refl _
  | m + 1 => by have := restW_nonneg hw a m; have := hw (a + m); simp only [restW]; omega
theorem chain_worth {w : Nat → Int} (hw : ∀ i, 0 ≤ w i) {n : Nat} : ∀ {t : List Int} {a : Nat}, a ≤ n → Chain n a t → worthL w t ≤ restW w a (n - a)
  | [], a, _, _ => restW_nonneg hw a _
  | x :: t, a, ha, h => by
    obtain ⟨⟨h1, h2⟩, h3⟩ := h
    have ih := chain_worth hw (by omega) h3
    have key : ∀ d, a + d ≤ n → restW w (a + d) (n - (a + d)) ≤ restW w a (n - a) := by
      intro d
      induction d with
      | zero => intro _; exact Int.le_refl _
      | succ d ihd =>
        intro hd
        have h5 := ihd (by omega)
        rw [show n - (a + d) = (n - (a + (d + 1))) + 1 from by omega, restW_head] at h5
        have := hw (a + d)
        rw [show a + d + 1 = a + (d + 1) from by omega] at h5
        omega
    have h6 := key (x.toNat - a) (by omega)
    rw [show a + (x.toNat - a) = x.toNat from by omega, show n - x.toNat = (n - (x.toNat + 1)) + 1 from by omega, restW_head] at h6
    simp only [worthL]; omega
theorem chain_mono {n : Nat} {t : List Int} {a b : Nat} (hab : a ≤ b) (h : Chain n b t) : Chain n a t := by
  cases t with
  | nil => trivial
  | cons x t => exact ⟨⟨by have := h.1.1; omega, h.1.2⟩, h.2⟩
abbrev Best := List Int × Int
def foldN {β : Type} (f : Nat → β → β) (a : Nat) : Nat → β → β
  | 0, x => x
  | m + 1, x => f (a + m) (foldN f a m x)
def takeP (fits sure : List Int → Bool) (w : Nat → Int) (n : Nat) : Nat → List Int → Nat → Best → Best
  | 0, _, _, st => st
  | c + 1, s, a, st =>
    if fits s = false ∨ worthL w s + restW w a (n - a) ≤ st.2 then st
    else foldN (fun i st => takeP fits sure w n c (s ++ [(i : Int)]) (i + 1) st) a (n - a) (if st.2 < worthL w s ∧ sure s = true then (s, worthL w s) else st)
structure TakeS (fits sure : List Int → Bool) (w : Nat → Int) (s : List Int) (C : List Int → Prop) (st st' : Best) : Prop where
  got : st' = st ∨ ∃ t, C t ∧ st'.1 = s ++ t ∧ (fits (s ++ t) = true ∧ sure (s ++ t) = true) ∧ worthL w (s ++ t) = st'.2 ∧ st.2 < st'.2 ∧ ∀ t', C t' → fits (s ++ t') = true → sure (s ++ t') = true → worthL w (s ++ t') = st'.2 → beforeL t' t = false
  most : ∀ t, C t → fits (s ++ t) = true → sure (s ++ t) = true → worthL w (s ++ t) ≤ st'.2
theorem TakeS.le {fits sure : List Int → Bool} {w : Nat → Int} {s : List Int} {C : List Int → Prop} {st st' : Best} (h : TakeS fits sure w s C st st') : st.2 ≤ st'.2 := by
  rcases h.got with e | ⟨_, _, _, _, _, h5, _⟩
  · rw [e]; exact Int.le_refl _
  · omega
theorem take_spec {fits sure : List Int → Bool} {w : Nat → Int} {n : Nat} (hw : ∀ i, 0 ≤ w i) (hf : ∀ s t, fits (s ++ t) = true → fits s = true) : ∀ (c : Nat) (s : List Int) (a : Nat) (st : Best), a ≤ n → n - a < c → TakeS fits sure w s (Chain n a) st (takeP fits sure w n c s a st)
  | 0, s, a, st, _, hc => by omega
  | c + 1, s, a, st, ha, hc => by
    simp only [takeP]
    by_cases hq : fits s = false ∨ worthL w s + restW w a (n - a) ≤ st.2
    · rw [if_pos hq]
      refine ⟨.inl rfl, fun t ht h1 _ => ?_⟩
      rcases hq with hq | hq
      · rw [hf s t h1] at hq; cases hq
      · have := chain_worth hw ha ht
        rw [worth_app]; omega
    · rw [if_neg hq]
      have step : ∀ m, m ≤ n - a → TakeS fits sure w s (fun t => t = [] ∨ ∃ x u, t = x :: u ∧ ((a : Int) ≤ x ∧ x < ((a + m : Nat) : Int)) ∧ Chain n (x.toNat + 1) u) st (foldN (fun i st => takeP fits sure w n c (s ++ [(i : Int)]) (i + 1) st) a m (if st.2 < worthL w s ∧ sure s = true then (s, worthL w s) else st)) := by
        intro m
        induction m with
        | zero =>
          intro _
          have h0 : ∀ t, (t = [] ∨ ∃ x u, t = x :: u ∧ ((a : Int) ≤ x ∧ x < ((a + 0 : Nat) : Int)) ∧ Chain n (x.toNat + 1) u) → t = [] := fun t ht => by
            rcases ht with rfl | ⟨x, u, _, h1, _⟩
            · rfl
            · omega
          have hfs : fits s = true := by
            cases h : fits s with
            | true => rfl
            | false => exact absurd (.inl h) hq
          simp only [foldN]
          by_cases hb : st.2 < worthL w s ∧ sure s = true
          · rw [if_pos hb]
            refine ⟨.inr ⟨[], .inl rfl, by simp, by simpa using ⟨hfs, hb.2⟩, by simp, hb.1, fun t' _ _ _ _ => before_nil t'⟩, fun t ht _ _ => ?_⟩
            rw [h0 t ht, List.append_nil]; exact Int.le_refl _
          · rw [if_neg hb]
            refine ⟨.inl rfl, fun t ht _ h2 => ?_⟩
            rw [h0 t ht, List.append_nil] at h2 ⊢
            rcases Int.lt_or_le st.2 (worthL w s) with h | h
            · exact absurd ⟨h, h2⟩ hb
            · exact h
        | succ m ih =>
          intro hm
          have h1 := ih (by omega)
          simp only [foldN]
          generalize foldN (fun i st => takeP fits sure w n c (s ++ [(i : Int)]) (i + 1) st) a m (if st.2 < worthL w s ∧ sure s = true then (s, worthL w s) else st) = st1 at h1
          have h2 := take_spec (sure := sure) (n := n) hw hf c (s ++ [((a + m : Nat) : Int)]) (a + m + 1) st1 (by omega) (by omega)
          generalize takeP fits sure w n c (s ++ [((a + m : Nat) : Int)]) (a + m + 1) st1 = st2 at h2
          have hle1 := h1.le
          have hle2 := h2.le
          have es : ∀ u, s ++ [((a + m : Nat) : Int)] ++ u = s ++ ((a + m : Nat) : Int) :: u := fun u => by rw [List.append_assoc]; rfl
          have part : ∀ t, (t = [] ∨ ∃ x u, t = x :: u ∧ ((a : Int) ≤ x ∧ x < ((a + (m + 1) : Nat) : Int)) ∧ Chain n (x.toNat + 1) u) → (t = [] ∨ ∃ x u, t = x :: u ∧ ((a : Int) ≤ x ∧ x < ((a + m : Nat) : Int)) ∧ Chain n (x.toNat + 1) u) ∨ ∃ u, t = ((a + m : Nat) : Int) :: u ∧ Chain n (a + m + 1) u := fun t ht => by
            rcases ht with rfl | ⟨x, u, rfl, hx, hu⟩
            · exact .inl (.inl rfl)
            · by_cases e : x = ((a + m : Nat) : Int)
              · subst e; exact .inr ⟨u, rfl, hu⟩
              · exact .inl (.inr ⟨x, u, rfl, by omega, hu⟩)
          refine ⟨?_, fun t ht g1 g2 => ?_⟩
          · rcases h2.got with e | ⟨t, c1, c2, c3, c4, c5, c6⟩
            · rw [e]
              rcases h1.got with e1 | ⟨t, c1, c2, c3, c4, c5, c6⟩
              · exact .inl e1
              · refine .inr ⟨t, ?_, c2, c3, c4, c5, fun t' ht' g1 g2 g3 => ?_⟩
                · rcases c1 with rfl | ⟨x, u, rfl, hx, hu⟩
                  · exact .inl rfl
                  · exact .inr ⟨x, u, rfl, by omega, hu⟩
                · rcases part t' ht' with h | ⟨u, rfl, hu⟩
                  · exact c6 t' h g1 g2 g3
                  · rcases c1 with rfl | ⟨x, u', rfl, hx, _⟩
                    · exact before_nil _
                    · simp only [beforeL]
                      rw [if_neg (by omega), decide_eq_false_iff_not]; omega
            · refine .inr ⟨((a + m : Nat) : Int) :: t, .inr ⟨((a + m : Nat) : Int), t, rfl, by omega, c1⟩, by rw [c2, es], by rw [← es]; exact c3, by rw [← es]; exact c4, by omega, fun t' ht' g1 g2 g3 => ?_⟩
              rcases part t' ht' with h | ⟨u, rfl, hu⟩
              · have := h1.most t' h g1 g2
                omega
              · simp only [beforeL, if_true]
                exact c6 u hu (by rw [es]; exact g1) (by rw [es]; exact g2) (by rw [es]; exact g3)
          · rcases part t ht with h | ⟨u, rfl, hu⟩
            · have := h1.most t h g1 g2; omega
            · have := h2.most u hu (by rw [es]; exact g1) (by rw [es]; exact g2)
              rw [es] at this; exact this
      have hfin := step (n - a) (Nat.le_refl _)
      have hch : ∀ t, Chain n a t ↔ (t = [] ∨ ∃ x u, t = x :: u ∧ ((a : Int) ≤ x ∧ x < ((a + (n - a) : Nat) : Int)) ∧ Chain n (x.toNat + 1) u) := fun t => by
        cases t with
        | nil => simp [Chain]
        | cons x u =>
          simp only [Chain, reduceCtorEq, false_or, List.cons.injEq]
          constructor
          · rintro ⟨h1, h2⟩; exact ⟨x, u, ⟨rfl, rfl⟩, by omega, h2⟩
          · rintro ⟨x', u', ⟨rfl, rfl⟩, h1, h2⟩; exact ⟨by omega, h2⟩
      refine ⟨?_, fun t ht => hfin.most t ((hch t).1 ht)⟩
      rcases hfin.got with e | ⟨t, c1, c2, c3, c4, c5, c6⟩
      · exact .inl e
      · exact .inr ⟨t, (hch t).2 c1, c2, c3, c4, c5, fun t' ht' => c6 t' ((hch t').1 ht')⟩
theorem take_law {fits sure : List Int → Bool} {w : Nat → Int} {n : Nat} (hw : ∀ i, 0 ≤ w i) (hf : ∀ s t, fits (s ++ t) = true → fits s = true) :
    ((takeP fits sure w n (n + 1) [] 0 ([], -1)) = ([], -1) ∧ ∀ s, Chain n 0 s → ¬ (fits s = true ∧ sure s = true)) ∨
    ∃ s k, takeP fits sure w n (n + 1) [] 0 ([], -1) = (s, k) ∧ Chain n 0 s ∧ (fits s = true ∧ sure s = true) ∧ worthL w s = k ∧ 0 ≤ k ∧ ∀ t, Chain n 0 t → fits t = true → sure t = true → worthL w t < k ∨ worthL w t = k ∧ beforeL t s = false := by
  have h := take_spec (sure := sure) (n := n) hw hf (n + 1) [] 0 ([], -1) (Nat.zero_le _) (by omega)
  generalize takeP fits sure w n (n + 1) [] 0 ([], -1) = st at h
  have hpos : ∀ t, 0 ≤ worthL w t := fun t => by
    induction t with
    | nil => exact Int.le_refl _
    | cons x t ih => have := hw x.toNat; simp only [worthL]; omega
  rcases h.got with e | ⟨t, c1, c2, c3, c4, c5, c6⟩
  · refine .inl ⟨e, fun s hs ⟨g1, g2⟩ => ?_⟩
    have := h.most s hs g1 g2
    rw [e] at this
    have := hpos s
    simp only [List.nil_append] at *
    omega
  · obtain ⟨b, k⟩ := st
    simp only [List.nil_append] at *
    subst c2
    have := hpos b
    refine .inr ⟨b, k, rfl, c1, c3, c4, by omega, fun t ht g1 g2 => ?_⟩
    have h1 := h.most t ht g1 g2
    rcases Int.lt_or_eq_of_le h1 with h2 | h2
    · exact .inl h2
    · exact .inr ⟨h2, c6 t ht g1 g2 h2⟩
end Go.Qg

namespace Go.Qg
set_option maxRecDepth 100000
theorem before_irr : ∀ a : List Int, beforeL a a = false
  | [] => rfl
  | x :: a => by simp only [beforeL, if_true]; exact before_irr a
theorem before_total : ∀ {a b : List Int}, beforeL a b = false → beforeL b a = false → a = b
  | [], [], _, _ => rfl
  | [], _ :: _, h, _ => by cases h
  | _ :: _, [], _, h => by cases h
  | x :: a, y :: b, h1, h2 => by
    simp only [beforeL] at h1 h2
    by_cases e : x = y
    · subst e
      rw [if_pos rfl] at h1 h2
      rw [before_total h1 h2]
    · rw [if_neg e, decide_eq_false_iff_not] at h1
      rw [if_neg fun h => e h.symm, decide_eq_false_iff_not] at h2
      omega
theorem before_trans : ∀ {a b c : List Int}, beforeL a b = true → beforeL b c = true → beforeL a c = true
  | [], _, [], _, h => by rw [before_nil] at h; cases h
  | [], _, _ :: _, _, _ => rfl
  | _ :: _, [], _, h, _ => by cases h
  | _ :: _, _ :: _, [], _, h => by cases h
  | x :: a, y :: b, z :: c, h1, h2 => by
    simp only [beforeL] at h1 h2 ⊢
    by_cases e1 : x = y
    · by_cases e2 : y = z
      · rw [if_pos e1] at h1; rw [if_pos e2] at h2
        rw [if_pos (e1.trans e2)]; exact before_trans h1 h2
      · rw [if_neg e2, decide_eq_true_eq] at h2
        rw [if_neg (by omega), decide_eq_true_eq]; omega
    · rw [if_neg e1, decide_eq_true_eq] at h1
      by_cases e2 : y = z
      · rw [if_neg (by omega), decide_eq_true_eq]; omega
      · rw [if_neg e2, decide_eq_true_eq] at h2
        rw [if_neg (by omega), decide_eq_true_eq]; omega
def bitsN (q : Nat → Bool) : Nat → Nat
  | 0 => 0
  | n + 1 => if q n = true then 2 ^ n + bitsN q n else bitsN q n
theorem bitsN_lt (q : Nat → Bool) : ∀ n, bitsN q n < 2 ^ n
  | 0 => by simp [bitsN]
  | n + 1 => by
    have := bitsN_lt q n
    simp only [bitsN]
    split <;> omega
theorem bitsN_test (q : Nat → Bool) (i : Nat) : ∀ n, (bitsN q n).testBit i = (decide (i < n) && q i)
  | 0 => by simp [bitsN]
  | n + 1 => by
    have ih := bitsN_test q i n
    have hlt := bitsN_lt q n
    simp only [bitsN]
    by_cases hq : q n = true
    · rw [if_pos hq]
      rcases Nat.lt_trichotomy i n with h | h | h
      · rw [Nat.testBit_two_pow_add_gt h, ih]
        simp [h, show i < n + 1 from by omega]
      · subst h
        rw [Nat.testBit_two_pow_add_eq, Nat.testBit_lt_two_pow hlt]
        simp [hq]
      · have : 2 ^ n + bitsN q n < 2 ^ i := by
          have := Nat.pow_le_pow_right (show 0 < 2 by omega) (show n + 1 ≤ i by omega)
          omega
        rw [Nat.testBit_lt_two_pow this]
        simp [show ¬ i < n + 1 from by omega]
    · rw [if_neg hq, ih]
      by_cases h : i = n
      · subst h; simp [hq]
      · by_cases h2 : i < n
        · simp [h2, show i < n + 1 from by omega]
        · simp [h2, show ¬ i < n + 1 from by omega]
def setF (b : Nat) (a : Nat) : Nat → List Int
  | 0 => []
  | c + 1 => if b.testBit a = true then (a : Int) :: setF b (a + 1) c else setF b (a + 1) c
def setL (b : Nat) : List Int := setF b 0 30
theorem setF_chain {b n : Nat} (hb : b < 2 ^ n) : ∀ (c a : Nat), Chain n a (setF b a c)
  | 0, _ => trivial
  | c + 1, a => by
    simp only [setF]
    have ih := setF_chain hb c (a + 1)
    by_cases h : b.testBit a = true
    · rw [if_pos h]
      have ha : a < n := by
        rcases Nat.lt_or_ge a n with h1 | h1
        · exact h1
        · rw [Nat.testBit_lt_two_pow (Nat.lt_of_lt_of_le hb (Nat.pow_le_pow_right (by omega) h1))] at h; cases h
      exact ⟨by omega, ih⟩
    · rw [if_neg h]; exact chain_mono (by omega) ih
theorem chain_mem {n : Nat} : ∀ {t : List Int} {a : Nat}, Chain n a t → ∀ x ∈ t, (a : Int) ≤ x ∧ x < n
  | [], _, _, x, hx => by cases hx
  | y :: t, a, h, x, hx => by
    rcases List.mem_cons.1 hx with rfl | hx
    · exact h.1
    · have := chain_mem h.2 x hx
      have := h.1
      omega
theorem setF_of {n : Nat} : ∀ (c : Nat) {t : List Int} {a b : Nat}, n ≤ a + c → Chain n a t → (∀ i, a ≤ i → i < a + c → b.testBit i = decide ((i : Int) ∈ t)) → setF b a c = t
  | 0, t, a, b, hn, hch, _ => by
    cases t with
    | nil => rfl
    | cons x t => have := hch.1; omega
  | c + 1, t, a, b, hn, hch, hb => by
    simp only [setF]
    have h0 := hb a (Nat.le_refl _) (by omega)
    by_cases h : (a : Int) ∈ t
    · rw [if_pos (by rw [h0]; simpa using h)]
      cases t with
      | nil => cases h
      | cons x t =>
        obtain ⟨h1, h2⟩ := hch
        have hx : x = a := by
          rcases List.mem_cons.1 h with e | e
          · exact e.symm
          · have := chain_mem h2 _ e; omega
        subst hx
        simp only [Int.toNat_natCast] at h2
        congr 1
        refine setF_of c (by omega) h2 fun i hi1 hi2 => ?_
        rw [hb i (by omega) (by omega)]
        exact decide_eq_decide.2 (List.mem_cons.trans ⟨fun h => h.resolve_left (by omega), .inr⟩)
    · rw [if_neg (by rw [h0]; simpa using h)]
      refine setF_of (n := n) c (by omega) ?_ fun i hi1 hi2 => hb i (by omega) (by omega)
      cases t with
      | nil => trivial
      | cons x t =>
        obtain ⟨h1, h2⟩ := hch
        refine ⟨⟨?_, h1.2⟩, h2⟩
        have : x ≠ a := fun e => h (by rw [e]; exact List.mem_cons_self ..)
        omega
theorem set_of_chain {n : Nat} (hn : n ≤ 30) {t : List Int} (h : Chain n 0 t) : ∃ b, b < 2 ^ n ∧ setL b = t := by
  refine ⟨bitsN (fun i => decide ((i : Int) ∈ t)) n, bitsN_lt _ _, setF_of 30 (by omega) h fun i _ _ => ?_⟩
  rw [bitsN_test]
  by_cases hi : i < n
  · simp [hi]
  · have : ¬ (i : Int) ∈ t := fun hm => by have := chain_mem h _ hm; omega
    simp [hi, this]
def bestB (ok : List Int → Bool) (w : Nat → Int) : Nat → Option (List Int)
  | 0 => none
  | m + 1 => if ok (setL m) = true then (match bestB ok w m with
      | none => some (setL m)
      | some b => if worthL w b < worthL w (setL m) ∨ worthL w (setL m) = worthL w b ∧ beforeL (setL m) b = true then some (setL m) else some b)
    else bestB ok w m
structure IsBest (ok : List Int → Bool) (w : Nat → Int) (C : List Int → Prop) (s : List Int) : Prop where
  mem : C s
  fine : ok s = true
  best : ∀ t, C t → ok t = true → worthL w t < worthL w s ∨ worthL w t = worthL w s ∧ beforeL t s = false
theorem best_unique {ok : List Int → Bool} {w : Nat → Int} {C : List Int → Prop} {s t : List Int} (h1 : IsBest ok w C s) (h2 : IsBest ok w C t) : s = t := by
  have a := h1.best t h2.mem h2.fine
  have b := h2.best s h1.mem h1.fine
  exact before_total (by rcases b with b | b; omega; exact b.2) (by rcases a with a | a; omega; exact a.2)
theorem bestB_spec (ok : List Int → Bool) (w : Nat → Int) : ∀ m, (bestB ok w m = none ∧ ∀ j, j < m → ok (setL j) = false) ∨ ∃ s, bestB ok w m = some s ∧ IsBest ok w (fun t => ∃ j, j < m ∧ setL j = t) s
  | 0 => .inl ⟨rfl, fun j hj => by omega⟩
  | m + 1 => by
    simp only [bestB]
    have ih := bestB_spec ok w m
    by_cases ho : ok (setL m) = true
    · rw [if_pos ho]
      rcases ih with ⟨e, h⟩ | ⟨s, e, h⟩
      · rw [e]
        refine .inr ⟨setL m, rfl, ⟨m, by omega, rfl⟩, ho, ?_⟩
        rintro t ⟨j, hj, rfl⟩ ht
        rcases Nat.lt_or_eq_of_le (Nat.le_of_lt_succ hj) with h1 | rfl
        · rw [h j h1] at ht; cases ht
        · exact .inr ⟨rfl, before_irr _⟩
      · rw [e]
        simp only
        by_cases hc : worthL w s < worthL w (setL m) ∨ worthL w (setL m) = worthL w s ∧ beforeL (setL m) s = true
        · rw [if_pos hc]
          refine .inr ⟨setL m, rfl, ⟨m, by omega, rfl⟩, ho, ?_⟩
          rintro t ⟨j, hj, rfl⟩ ht
          rcases Nat.lt_or_eq_of_le (Nat.le_of_lt_succ hj) with h1 | rfl
          · rcases h.best (setL j) ⟨j, h1, rfl⟩ ht with g | ⟨g1, g2⟩
            · exact .inl (by omega)
            · rcases hc with hc | ⟨c1, c2⟩
              · exact .inl (by omega)
              · refine .inr ⟨by omega, ?_⟩
                cases hb : beforeL (setL j) (setL m) with
                | false => rfl
                | true => rw [before_trans hb c2] at g2; cases g2
          · exact .inr ⟨rfl, before_irr _⟩
        · rw [if_neg hc]
          obtain ⟨⟨k, hk, hk2⟩, h2, h3⟩ := h
          refine .inr ⟨s, rfl, ⟨k, by omega, hk2⟩, h2, ?_⟩
          rintro t ⟨j, hj, rfl⟩ ht
          rcases Nat.lt_or_eq_of_le (Nat.le_of_lt_succ hj) with h1 | rfl
          · exact h3 (setL j) ⟨j, h1, rfl⟩ ht
          · rcases Int.lt_trichotomy (worthL w (setL j)) (worthL w s) with g | g | g
            · exact .inl g
            · refine .inr ⟨g, ?_⟩
              cases hb : beforeL (setL j) s with
              | false => rfl
              | true => exact absurd (.inr ⟨g, hb⟩) hc
            · exact absurd (.inl g) hc
    · rw [if_neg ho]
      rcases ih with ⟨e, h⟩ | ⟨s, e, h⟩
      · refine .inl ⟨e, fun j hj => ?_⟩
        rcases Nat.lt_or_eq_of_le (Nat.le_of_lt_succ hj) with h1 | rfl
        · exact h j h1
        · simpa using ho
      · obtain ⟨⟨k, hk, hk2⟩, h2, h3⟩ := h
        refine .inr ⟨s, e, ⟨k, by omega, hk2⟩, h2, ?_⟩
        rintro t ⟨j, hj, rfl⟩ ht
        rcases Nat.lt_or_eq_of_le (Nat.le_of_lt_succ hj) with h1 | rfl
        · exact h3 (setL j) ⟨j, h1, rfl⟩ ht
        · exact absurd ht ho
theorem take_same {fits sure : List Int → Bool} {w : Nat → Int} {n : Nat} (hn : n ≤ 30) (hw : ∀ i, 0 ≤ w i) (hf : ∀ s t, fits (s ++ t) = true → fits s = true) :
    (takeP fits sure w n (n + 1) [] 0 ([], -1) = ([], -1) ∧ bestB (fun s => fits s && sure s) w (2 ^ n) = none) ∨
    ∃ s, takeP fits sure w n (n + 1) [] 0 ([], -1) = (s, worthL w s) ∧ bestB (fun s => fits s && sure s) w (2 ^ n) = some s ∧ 0 ≤ worthL w s ∧ Chain n 0 s := by
  have hl := take_law (sure := sure) (n := n) hw hf
  have hb := bestB_spec (fun s => fits s && sure s) w (2 ^ n)
  rcases hl with ⟨h1, h2⟩ | ⟨s, k, h1, h2, h3, h4, h5, h6⟩
  · rcases hb with ⟨g1, _⟩ | ⟨s, _, g2⟩
    · exact .inl ⟨h1, g1⟩
    · obtain ⟨j, hj, e⟩ := g2.mem
      have := g2.fine
      simp only [Bool.and_eq_true] at this
      exact absurd this (h2 s (by rw [← e]; exact setF_chain hj 30 0))
  · have hs : IsBest (fun s => fits s && sure s) w (fun t => ∃ j, j < 2 ^ n ∧ setL j = t) s := by
      refine ⟨set_of_chain hn h2, by simp [h3.1, h3.2], ?_⟩
      rintro t ⟨j, hj, rfl⟩ ht
      simp only [Bool.and_eq_true] at ht
      rw [h4]
      exact h6 _ (setF_chain hj 30 0) ht.1 ht.2
    rcases hb with ⟨_, g⟩ | ⟨s', g1, g2⟩
    · obtain ⟨j, hj, e⟩ := hs.mem
      have := g j hj
      rw [e] at this
      have := hs.fine
      simp_all
    · have e := best_unique g2 hs
      subst e
      exact .inr ⟨s', by rw [h1, h4], g1, by omega, h2⟩
end Go.Qg

namespace Go.Qg
open Go.Proofs
set_option maxRecDepth 100000
set_option maxHeartbeats 4000000
attribute [local irreducible] pwp pops pdraw pop popCall pdCall thenP blockP scopeP pspec Spec answers ppost CallW
@[simp] theorem gi_geti (l : List Int) (i : Nat) : gi l i = geti l i := rfl
def Spn.cells (b : Spn) : List PV := [.v (.int .i64 b.low), .v (.int .i64 b.high)]
def spnL (l : List Spn) : PV := .sl 2 l.length fun i => (spnAt l i).cells
theorem Spn.eq_iff {x y : Spn} : x = y ↔ x.low = y.low ∧ x.high = y.high := by
  cases x; cases y; simp
theorem spnAt_mem {l : List Spn} {i : Nat} (h : i < l.length) : spnAt l i ∈ l := by simp [spnAt, h]
def rowsSp (l : List Spn) : List (List PV) := l.map Spn.cells
@[simp] theorem rowsSp_length (l : List Spn) : (rowsSp l).length = l.length := by simp [rowsSp]
@[simp] theorem renLL_rowsSp (π : Nat → Nat) (l : List Spn) : renLL π (rowsSp l) = rowsSp l := by
  induction l with
  | nil => rfl
  | cons x l ih => simpa [rowsSp, Spn.cells, renLL, renL, PV.ren] using ih
@[simp] theorem namesLL_rowsSp (l : List Spn) : namesLL (rowsSp l) = [] := by
  induction l with
  | nil => rfl
  | cons x l ih => simpa [rowsSp, Spn.cells, namesLL, namesL, PV.names] using ih
@[simp] theorem flatLL_rowsSp (l : List Spn) : flatLL (rowsSp l) = true := by
  induction l with
  | nil => rfl
  | cons x l ih => simpa [rowsSp, Spn.cells, flatLL, flatL, PV.flat] using ih
@[simp] theorem vwAllL_rowsSp (f : PF) (T : Tgt) (d : Nat) (a b : List Spn) : vo.vwAllL f T (d + 1) (rowsSp a) (rowsSp b) = (a = b) := by
  induction a generalizing b with
  | nil => cases b <;> simp [rowsSp, vo.vwAllL]
  | cons x a ih =>
    cases b with
    | nil => simp [rowsSp, vo.vwAllL]
    | cons y b =>
      have := ih b
      simp only [rowsSp] at this
      simp [rowsSp, vo.vwAllL, this, Spn.cells, Spn.eq_iff]
@[simp] theorem rowsSp_one {l : List Spn} : (∀ (x : List PV), x ∈ rowsSp l → ∀ (y : PV), y ∈ x → y.one = true) ↔ True := by
  refine ⟨fun _ => trivial, fun _ x hx y hy => ?_⟩
  obtain ⟨b, _, rfl⟩ := List.mem_map.1 hx
  simp [Spn.cells] at hy
  rcases hy with rfl | rfl <;> rfl
@[simp] theorem rowsSp_len1 {l : List Spn} : (∀ (x : List PV), x ∈ rowsSp l → x.length = 2) ↔ True := by
  refine ⟨fun _ => trivial, fun _ x hx => ?_⟩
  obtain ⟨b, _, rfl⟩ := List.mem_map.1 hx
  rfl
@[simp] theorem rowsSp_take (l : List Spn) (k : Nat) : (rowsSp l).take k = rowsSp (l.take k) := by simp [rowsSp]
@[simp] theorem rowsSp_nil : rowsSp [] = [] := rfl
theorem rowsSp_get {l : List Spn} {k : Nat} (h : k < l.length) : (rowsSp l)[k]? = some (spnAt l k).cells := by simp [rowsSp, spnAt, h]
@[simp] theorem rowsSp_getElem {l : List Spn} {k : Nat} (h : k < (rowsSp l).length) : (rowsSp l)[k] = (spnAt l k).cells := by
  have h2 : k < l.length := by simpa using h
  simp [rowsSp, spnAt, h2]
theorem rowsSp_snoc (l : List Spn) (x : Spn) : rowsSp l ++ [x.cells] = rowsSp (l ++ [x]) := by simp [rowsSp]
theorem rowsSp_snoc' (l : List Spn) (x : Spn) : rowsSp l ++ [[.v (.int .i64 x.low), .v (.int .i64 x.high)]] = rowsSp (l ++ [x]) := rowsSp_snoc l x
theorem rowsSp_set (l : List Spn) (k : Nat) (x : Spn) : (rowsSp l).set k x.cells = rowsSp (l.set k x) := by simp [rowsSp, List.map_set]
theorem rowsSp_range (l : List Spn) : (List.range l.length).map (fun i => (spnAt l i).cells) = rowsSp l := by
  refine List.ext_getElem? fun i => ?_
  by_cases h : i < l.length
  · rw [rowsSp_get h, List.getElem?_map, List.getElem?_range h]; rfl
  · rw [List.getElem?_eq_none (by simp; omega), List.getElem?_eq_none (by simp; omega)]
def Stn.cells (b : Stn) : List PV := [.v (.int .i64 b.arm), .v (.int .i64 b.most)]
def stnL (l : List Stn) : PV := .sl 2 l.length fun i => (stnAt l i).cells
theorem Stn.eq_iff {x y : Stn} : x = y ↔ x.arm = y.arm ∧ x.most = y.most := by
  cases x; cases y; simp
theorem stnAt_mem {l : List Stn} {i : Nat} (h : i < l.length) : stnAt l i ∈ l := by simp [stnAt, h]
def rowsSn (l : List Stn) : List (List PV) := l.map Stn.cells
@[simp] theorem rowsSn_length (l : List Stn) : (rowsSn l).length = l.length := by simp [rowsSn]
@[simp] theorem renLL_rowsSn (π : Nat → Nat) (l : List Stn) : renLL π (rowsSn l) = rowsSn l := by
  induction l with
  | nil => rfl
  | cons x l ih => simpa [rowsSn, Stn.cells, renLL, renL, PV.ren] using ih
@[simp] theorem namesLL_rowsSn (l : List Stn) : namesLL (rowsSn l) = [] := by
  induction l with
  | nil => rfl
  | cons x l ih => simpa [rowsSn, Stn.cells, namesLL, namesL, PV.names] using ih
@[simp] theorem flatLL_rowsSn (l : List Stn) : flatLL (rowsSn l) = true := by
  induction l with
  | nil => rfl
  | cons x l ih => simpa [rowsSn, Stn.cells, flatLL, flatL, PV.flat] using ih
@[simp] theorem vwAllL_rowsSn (f : PF) (T : Tgt) (d : Nat) (a b : List Stn) : vo.vwAllL f T (d + 1) (rowsSn a) (rowsSn b) = (a = b) := by
  induction a generalizing b with
  | nil => cases b <;> simp [rowsSn, vo.vwAllL]
  | cons x a ih =>
    cases b with
    | nil => simp [rowsSn, vo.vwAllL]
    | cons y b =>
      have := ih b
      simp only [rowsSn] at this
      simp [rowsSn, vo.vwAllL, this, Stn.cells, Stn.eq_iff]
@[simp] theorem rowsSn_one {l : List Stn} : (∀ (x : List PV), x ∈ rowsSn l → ∀ (y : PV), y ∈ x → y.one = true) ↔ True := by
  refine ⟨fun _ => trivial, fun _ x hx y hy => ?_⟩
  obtain ⟨b, _, rfl⟩ := List.mem_map.1 hx
  simp [Stn.cells] at hy
  rcases hy with rfl | rfl <;> rfl
@[simp] theorem rowsSn_len1 {l : List Stn} : (∀ (x : List PV), x ∈ rowsSn l → x.length = 2) ↔ True := by
  refine ⟨fun _ => trivial, fun _ x hx => ?_⟩
  obtain ⟨b, _, rfl⟩ := List.mem_map.1 hx
  rfl
@[simp] theorem rowsSn_take (l : List Stn) (k : Nat) : (rowsSn l).take k = rowsSn (l.take k) := by simp [rowsSn]
@[simp] theorem rowsSn_nil : rowsSn [] = [] := rfl
theorem rowsSn_get {l : List Stn} {k : Nat} (h : k < l.length) : (rowsSn l)[k]? = some (stnAt l k).cells := by simp [rowsSn, stnAt, h]
@[simp] theorem rowsSn_getElem {l : List Stn} {k : Nat} (h : k < (rowsSn l).length) : (rowsSn l)[k] = (stnAt l k).cells := by
  have h2 : k < l.length := by simpa using h
  simp [rowsSn, stnAt, h2]
theorem rowsSn_snoc (l : List Stn) (x : Stn) : rowsSn l ++ [x.cells] = rowsSn (l ++ [x]) := by simp [rowsSn]
theorem rowsSn_snoc' (l : List Stn) (x : Stn) : rowsSn l ++ [[.v (.int .i64 x.arm), .v (.int .i64 x.most)]] = rowsSn (l ++ [x]) := rowsSn_snoc l x
theorem rowsSn_set (l : List Stn) (k : Nat) (x : Stn) : (rowsSn l).set k x.cells = rowsSn (l.set k x) := by simp [rowsSn, List.map_set]
theorem rowsSn_range (l : List Stn) : (List.range l.length).map (fun i => (stnAt l i).cells) = rowsSn l := by
  refine List.ext_getElem? fun i => ?_
  by_cases h : i < l.length
  · rw [rowsSn_get h, List.getElem?_map, List.getElem?_range h]; rfl
  · rw [List.getElem?_eq_none (by simp; omega), List.getElem?_eq_none (by simp; omega)]
def Cnr.cells (b : Cnr) : List PV := [.v (.int .i64 b.weight), .v (.int .i64 b.moment)]
def cnrL (l : List Cnr) : PV := .sl 2 l.length fun i => (cnrAt l i).cells
theorem Cnr.eq_iff {x y : Cnr} : x = y ↔ x.weight = y.weight ∧ x.moment = y.moment := by
  cases x; cases y; simp
theorem cnrAt_mem {l : List Cnr} {i : Nat} (h : i < l.length) : cnrAt l i ∈ l := by simp [cnrAt, h]
def rowsCn (l : List Cnr) : List (List PV) := l.map Cnr.cells
@[simp] theorem rowsCn_length (l : List Cnr) : (rowsCn l).length = l.length := by simp [rowsCn]
@[simp] theorem renLL_rowsCn (π : Nat → Nat) (l : List Cnr) : renLL π (rowsCn l) = rowsCn l := by
  induction l with
  | nil => rfl
  | cons x l ih => simpa [rowsCn, Cnr.cells, renLL, renL, PV.ren] using ih
@[simp] theorem namesLL_rowsCn (l : List Cnr) : namesLL (rowsCn l) = [] := by
  induction l with
  | nil => rfl
  | cons x l ih => simpa [rowsCn, Cnr.cells, namesLL, namesL, PV.names] using ih
@[simp] theorem flatLL_rowsCn (l : List Cnr) : flatLL (rowsCn l) = true := by
  induction l with
  | nil => rfl
  | cons x l ih => simpa [rowsCn, Cnr.cells, flatLL, flatL, PV.flat] using ih
@[simp] theorem vwAllL_rowsCn (f : PF) (T : Tgt) (d : Nat) (a b : List Cnr) : vo.vwAllL f T (d + 1) (rowsCn a) (rowsCn b) = (a = b) := by
  induction a generalizing b with
  | nil => cases b <;> simp [rowsCn, vo.vwAllL]
  | cons x a ih =>
    cases b with
    | nil => simp [rowsCn, vo.vwAllL]
    | cons y b =>
      have := ih b
      simp only [rowsCn] at this
      simp [rowsCn, vo.vwAllL, this, Cnr.cells, Cnr.eq_iff]
@[simp] theorem rowsCn_one {l : List Cnr} : (∀ (x : List PV), x ∈ rowsCn l → ∀ (y : PV), y ∈ x → y.one = true) ↔ True := by
  refine ⟨fun _ => trivial, fun _ x hx y hy => ?_⟩
  obtain ⟨b, _, rfl⟩ := List.mem_map.1 hx
  simp [Cnr.cells] at hy
  rcases hy with rfl | rfl <;> rfl
@[simp] theorem rowsCn_len1 {l : List Cnr} : (∀ (x : List PV), x ∈ rowsCn l → x.length = 2) ↔ True := by
  refine ⟨fun _ => trivial, fun _ x hx => ?_⟩
  obtain ⟨b, _, rfl⟩ := List.mem_map.1 hx
  rfl
@[simp] theorem rowsCn_take (l : List Cnr) (k : Nat) : (rowsCn l).take k = rowsCn (l.take k) := by simp [rowsCn]
@[simp] theorem rowsCn_nil : rowsCn [] = [] := rfl
theorem rowsCn_get {l : List Cnr} {k : Nat} (h : k < l.length) : (rowsCn l)[k]? = some (cnrAt l k).cells := by simp [rowsCn, cnrAt, h]
@[simp] theorem rowsCn_getElem {l : List Cnr} {k : Nat} (h : k < (rowsCn l).length) : (rowsCn l)[k] = (cnrAt l k).cells := by
  have h2 : k < l.length := by simpa using h
  simp [rowsCn, cnrAt, h2]
theorem rowsCn_snoc (l : List Cnr) (x : Cnr) : rowsCn l ++ [x.cells] = rowsCn (l ++ [x]) := by simp [rowsCn]
theorem rowsCn_snoc' (l : List Cnr) (x : Cnr) : rowsCn l ++ [[.v (.int .i64 x.weight), .v (.int .i64 x.moment)]] = rowsCn (l ++ [x]) := rowsCn_snoc l x
theorem rowsCn_set (l : List Cnr) (k : Nat) (x : Cnr) : (rowsCn l).set k x.cells = rowsCn (l.set k x) := by simp [rowsCn, List.map_set]
theorem rowsCn_range (l : List Cnr) : (List.range l.length).map (fun i => (cnrAt l i).cells) = rowsCn l := by
  refine List.ext_getElem? fun i => ?_
  by_cases h : i < l.length
  · rw [rowsCn_get h, List.getElem?_map, List.getElem?_range h]; rfl
  · rw [List.getElem?_eq_none (by simp; omega), List.getElem?_eq_none (by simp; omega)]
def Itm.cells (b : Itm) : List PV := [.v (.int .i64 b.station), .v (.int .i64 b.low), .v (.int .i64 b.high)]
def itmL (l : List Itm) : PV := .sl 3 l.length fun i => (itmAt l i).cells
theorem Itm.eq_iff {x y : Itm} : x = y ↔ x.station = y.station ∧ x.low = y.low ∧ x.high = y.high := by
  cases x; cases y; simp
theorem itmAt_mem {l : List Itm} {i : Nat} (h : i < l.length) : itmAt l i ∈ l := by simp [itmAt, h]
def rowsIt (l : List Itm) : List (List PV) := l.map Itm.cells
@[simp] theorem rowsIt_length (l : List Itm) : (rowsIt l).length = l.length := by simp [rowsIt]
@[simp] theorem renLL_rowsIt (π : Nat → Nat) (l : List Itm) : renLL π (rowsIt l) = rowsIt l := by
  induction l with
  | nil => rfl
  | cons x l ih => simpa [rowsIt, Itm.cells, renLL, renL, PV.ren] using ih
@[simp] theorem namesLL_rowsIt (l : List Itm) : namesLL (rowsIt l) = [] := by
  induction l with
  | nil => rfl
  | cons x l ih => simpa [rowsIt, Itm.cells, namesLL, namesL, PV.names] using ih
@[simp] theorem flatLL_rowsIt (l : List Itm) : flatLL (rowsIt l) = true := by
  induction l with
  | nil => rfl
  | cons x l ih => simpa [rowsIt, Itm.cells, flatLL, flatL, PV.flat] using ih
@[simp] theorem vwAllL_rowsIt (f : PF) (T : Tgt) (d : Nat) (a b : List Itm) : vo.vwAllL f T (d + 1) (rowsIt a) (rowsIt b) = (a = b) := by
  induction a generalizing b with
  | nil => cases b <;> simp [rowsIt, vo.vwAllL]
  | cons x a ih =>
    cases b with
    | nil => simp [rowsIt, vo.vwAllL]
    | cons y b =>
      have := ih b
      simp only [rowsIt] at this
      simp [rowsIt, vo.vwAllL, this, Itm.cells, Itm.eq_iff]
@[simp] theorem rowsIt_one {l : List Itm} : (∀ (x : List PV), x ∈ rowsIt l → ∀ (y : PV), y ∈ x → y.one = true) ↔ True := by
  refine ⟨fun _ => trivial, fun _ x hx y hy => ?_⟩
  obtain ⟨b, _, rfl⟩ := List.mem_map.1 hx
  simp [Itm.cells] at hy
  rcases hy with rfl | rfl | rfl <;> rfl
@[simp] theorem rowsIt_len1 {l : List Itm} : (∀ (x : List PV), x ∈ rowsIt l → x.length = 3) ↔ True := by
  refine ⟨fun _ => trivial, fun _ x hx => ?_⟩
  obtain ⟨b, _, rfl⟩ := List.mem_map.1 hx
  rfl
@[simp] theorem rowsIt_take (l : List Itm) (k : Nat) : (rowsIt l).take k = rowsIt (l.take k) := by simp [rowsIt]
@[simp] theorem rowsIt_nil : rowsIt [] = [] := rfl
theorem rowsIt_get {l : List Itm} {k : Nat} (h : k < l.length) : (rowsIt l)[k]? = some (itmAt l k).cells := by simp [rowsIt, itmAt, h]
@[simp] theorem rowsIt_getElem {l : List Itm} {k : Nat} (h : k < (rowsIt l).length) : (rowsIt l)[k] = (itmAt l k).cells := by
  have h2 : k < l.length := by simpa using h
  simp [rowsIt, itmAt, h2]
theorem rowsIt_snoc (l : List Itm) (x : Itm) : rowsIt l ++ [x.cells] = rowsIt (l ++ [x]) := by simp [rowsIt]
theorem rowsIt_snoc' (l : List Itm) (x : Itm) : rowsIt l ++ [[.v (.int .i64 x.station), .v (.int .i64 x.low), .v (.int .i64 x.high)]] = rowsIt (l ++ [x]) := rowsIt_snoc l x
theorem rowsIt_set (l : List Itm) (k : Nat) (x : Itm) : (rowsIt l).set k x.cells = rowsIt (l.set k x) := by simp [rowsIt, List.map_set]
theorem rowsIt_range (l : List Itm) : (List.range l.length).map (fun i => (itmAt l i).cells) = rowsIt l := by
  refine List.ext_getElem? fun i => ?_
  by_cases h : i < l.length
  · rw [rowsIt_get h, List.getElem?_map, List.getElem?_range h]; rfl
  · rw [List.getElem?_eq_none (by simp; omega), List.getElem?_eq_none (by simp; omega)]
structure Psn where
  low : Int
  high : Int
  station : Int
  first : Int
  last : Int
  worth : Int
  deriving DecidableEq, Inhabited
def psnAt (l : List Psn) (i : Nat) : Psn := l.getD i default
def Psn.cells (x : Psn) : List PV := [.v (.int .i64 x.low), .v (.int .i64 x.high), .v (.int .i64 x.station), .v (.int .i64 x.first), .v (.int .i64 x.last), .v (.int .i64 x.worth)]
def psnL (l : List Psn) : PV := .sl 6 l.length fun i => (psnAt l i).cells
def Leg.cells (x : Leg) : List PV := [itmL x.items, .v (.bool x.pump), .v (.int .i64 x.fuel), .v (.int .i64 x.burn.low), .v (.int .i64 x.burn.high), .v (.int .i64 x.leak.low), .v (.int .i64 x.leak.high)]
def legL (l : List Leg) : PV := .sl 7 l.length fun i => (legAt l i).cells
def Pln.cells (P : Pln) : List PV := [.v (.int .i64 P.empty), .v (.int .i64 P.moment), .v (.int .i64 P.takeoff), .v (.int .i64 P.landing), cnrL P.corners, stnL P.stations, .v (.int .i64 P.tank.arm), .v (.int .i64 P.tank.most), .v (.int .i64 P.reserve), stnL P.floats]
def Pnt.cells (X : Pnt) : List PV := [itmL X.items, .v (.int .i64 X.tank.low), .v (.int .i64 X.tank.high), spnL X.water, .v (.bool X.landing)]
def Cse.cells (c : Cse) : List PV := [ints c.items, .v (.int .i64 c.tank), ints c.water]
theorem allSpn_spec (l : List Spn) (hl : l.length ≤ 9223372036854775807) (f : FuncId) (first cap : List PV) (h1 : plainL first = true) (h2 : plainL cap = true) (p : Nat → Bool)
    (h : ∀ k, k < l.length → Spec Tryz.prog f (first ++ ([.agg (spnAt l k).cells] ++ cap)) (.v (.bool (p k)))) : Spec Tryz.prog 93 [spnL l, .clo (.func f) first cap] (.v (.bool (allN l.length p))) := by
  refine spec_of mixed Tryz.func93 (by decide) rfl Tryz.results93 Tryz.ntmps93 (by decide) 0 (by simp) ?_
  simp [spnL, Spn.cells, renL_plain h1, renL_plain h2]
  refine pwp_loop (fun k : Nat => [(9, .v (.int .i64 k))]) (fun k => k ≤ l.length ∧ ∀ j, j < k → p j = true) (fun k => l.length - k) 0 ⟨Nat.zero_le _, fun j hj => by omega⟩ (by simp; rfl) (by simp [vwAll_plain h1, vwAll_plain h2]) ?_
  intro k ⟨hk, hp⟩
  by_cases hkl : k < l.length
  · simp [hkl, spnL, Spn.cells]
    refine pop_spec (h k hkl) rfl false (.inr ⟨by simp [spnL, Spn.cells], by simp [namesL_append, plainL_names h1, plainL_names h2, spnL, Spn.cells]⟩) (.inl rfl) rfl (by simp) ?_
    cases hpk : p k with
    | true =>
      simp
      refine again_of (k + 1) ⟨by omega, fun j hj => ?_⟩ (by omega) ?_
      · rcases Nat.lt_succ_iff_lt_or_eq.1 hj with hj | rfl
        · exact hp j hj
        · exact hpk
      · simp [i64_wrap (show -9223372036854775808 ≤ (k : Int) + 1 ∧ _ from by omega), vwAll_plain h1, vwAll_plain h2]
    | false =>
      simp
      refine answers_of rfl ?_; simp [allN_false hkl hpk]
  · simp [hkl]
    obtain rfl : k = l.length := by omega
    refine answers_of rfl ?_; simp [allN_spec.2 hp]
theorem allStn_spec (l : List Stn) (hl : l.length ≤ 9223372036854775807) (f : FuncId) (first cap : List PV) (h1 : plainL first = true) (h2 : plainL cap = true) (p : Nat → Bool)
    (h : ∀ k, k < l.length → Spec Tryz.prog f (first ++ ([.agg (stnAt l k).cells] ++ cap)) (.v (.bool (p k)))) : Spec Tryz.prog 132 [stnL l, .clo (.func f) first cap] (.v (.bool (allN l.length p))) := by
  refine spec_of mixed Tryz.func132 (by decide) rfl Tryz.results132 Tryz.ntmps132 (by decide) 0 (by simp) ?_
  simp [stnL, Stn.cells, renL_plain h1, renL_plain h2]
  refine pwp_loop (fun k : Nat => [(9, .v (.int .i64 k))]) (fun k => k ≤ l.length ∧ ∀ j, j < k → p j = true) (fun k => l.length - k) 0 ⟨Nat.zero_le _, fun j hj => by omega⟩ (by simp; rfl) (by simp [vwAll_plain h1, vwAll_plain h2]) ?_
  intro k ⟨hk, hp⟩
  by_cases hkl : k < l.length
  · simp [hkl, stnL, Stn.cells]
    refine pop_spec (h k hkl) rfl false (.inr ⟨by simp [stnL, Stn.cells], by simp [namesL_append, plainL_names h1, plainL_names h2, stnL, Stn.cells]⟩) (.inl rfl) rfl (by simp) ?_
    cases hpk : p k with
    | true =>
      simp
      refine again_of (k + 1) ⟨by omega, fun j hj => ?_⟩ (by omega) ?_
      · rcases Nat.lt_succ_iff_lt_or_eq.1 hj with hj | rfl
        · exact hp j hj
        · exact hpk
      · simp [i64_wrap (show -9223372036854775808 ≤ (k : Int) + 1 ∧ _ from by omega), vwAll_plain h1, vwAll_plain h2]
    | false =>
      simp
      refine answers_of rfl ?_; simp [allN_false hkl hpk]
  · simp [hkl]
    obtain rfl : k = l.length := by omega
    refine answers_of rfl ?_; simp [allN_spec.2 hp]
theorem allCnr_spec (l : List Cnr) (hl : l.length ≤ 9223372036854775807) (f : FuncId) (first cap : List PV) (h1 : plainL first = true) (h2 : plainL cap = true) (p : Nat → Bool)
    (h : ∀ k, k < l.length → Spec Tryz.prog f (first ++ ([.agg (cnrAt l k).cells] ++ cap)) (.v (.bool (p k)))) : Spec Tryz.prog 130 [cnrL l, .clo (.func f) first cap] (.v (.bool (allN l.length p))) := by
  refine spec_of mixed Tryz.func130 (by decide) rfl Tryz.results130 Tryz.ntmps130 (by decide) 0 (by simp) ?_
  simp [cnrL, Cnr.cells, renL_plain h1, renL_plain h2]
  refine pwp_loop (fun k : Nat => [(9, .v (.int .i64 k))]) (fun k => k ≤ l.length ∧ ∀ j, j < k → p j = true) (fun k => l.length - k) 0 ⟨Nat.zero_le _, fun j hj => by omega⟩ (by simp; rfl) (by simp [vwAll_plain h1, vwAll_plain h2]) ?_
  intro k ⟨hk, hp⟩
  by_cases hkl : k < l.length
  · simp [hkl, cnrL, Cnr.cells]
    refine pop_spec (h k hkl) rfl false (.inr ⟨by simp [cnrL, Cnr.cells], by simp [namesL_append, plainL_names h1, plainL_names h2, cnrL, Cnr.cells]⟩) (.inl rfl) rfl (by simp) ?_
    cases hpk : p k with
    | true =>
      simp
      refine again_of (k + 1) ⟨by omega, fun j hj => ?_⟩ (by omega) ?_
      · rcases Nat.lt_succ_iff_lt_or_eq.1 hj with hj | rfl
        · exact hp j hj
        · exact hpk
      · simp [i64_wrap (show -9223372036854775808 ≤ (k : Int) + 1 ∧ _ from by omega), vwAll_plain h1, vwAll_plain h2]
    | false =>
      simp
      refine answers_of rfl ?_; simp [allN_false hkl hpk]
  · simp [hkl]
    obtain rfl : k = l.length := by omega
    refine answers_of rfl ?_; simp [allN_spec.2 hp]
theorem allItm_spec (l : List Itm) (hl : l.length ≤ 9223372036854775807) (f : FuncId) (first cap : List PV) (h1 : plainL first = true) (h2 : plainL cap = true) (p : Nat → Bool)
    (h : ∀ k, k < l.length → Spec Tryz.prog f (first ++ ([.agg (itmAt l k).cells] ++ cap)) (.v (.bool (p k)))) : Spec Tryz.prog 141 [itmL l, .clo (.func f) first cap] (.v (.bool (allN l.length p))) := by
  refine spec_of mixed Tryz.func141 (by decide) rfl Tryz.results141 Tryz.ntmps141 (by decide) 0 (by simp) ?_
  simp [itmL, Itm.cells, renL_plain h1, renL_plain h2]
  refine pwp_loop (fun k : Nat => [(9, .v (.int .i64 k))]) (fun k => k ≤ l.length ∧ ∀ j, j < k → p j = true) (fun k => l.length - k) 0 ⟨Nat.zero_le _, fun j hj => by omega⟩ (by simp; rfl) (by simp [vwAll_plain h1, vwAll_plain h2]) ?_
  intro k ⟨hk, hp⟩
  by_cases hkl : k < l.length
  · simp [hkl, itmL, Itm.cells]
    refine pop_spec (h k hkl) rfl false (.inr ⟨by simp [itmL, Itm.cells], by simp [namesL_append, plainL_names h1, plainL_names h2, itmL, Itm.cells]⟩) (.inl rfl) rfl (by simp) ?_
    cases hpk : p k with
    | true =>
      simp
      refine again_of (k + 1) ⟨by omega, fun j hj => ?_⟩ (by omega) ?_
      · rcases Nat.lt_succ_iff_lt_or_eq.1 hj with hj | rfl
        · exact hp j hj
        · exact hpk
      · simp [i64_wrap (show -9223372036854775808 ≤ (k : Int) + 1 ∧ _ from by omega), vwAll_plain h1, vwAll_plain h2]
    | false =>
      simp
      refine answers_of rfl ?_; simp [allN_false hkl hpk]
  · simp [hkl]
    obtain rfl : k = l.length := by omega
    refine answers_of rfl ?_; simp [allN_spec.2 hp]
theorem allInt_spec (l : List Int) (hl : l.length ≤ 9223372036854775807) (f : FuncId) (first cap : List PV) (h1 : plainL first = true) (h2 : plainL cap = true) (p : Nat → Bool)
    (h : ∀ k, k < l.length → Spec Tryz.prog f (first ++ ([.v (.int .i64 (geti l k))] ++ cap)) (.v (.bool (p k)))) : Spec Tryz.prog 146 [ints l, .clo (.func f) first cap] (.v (.bool (allN l.length p))) := by
  refine spec_of mixed Tryz.func146 (by decide) rfl Tryz.results146 Tryz.ntmps146 (by decide) 0 (by simp) ?_
  simp [ints, renL_plain h1, renL_plain h2]
  refine pwp_loop (fun k : Nat => [(9, .v (.int .i64 k))]) (fun k => k ≤ l.length ∧ ∀ j, j < k → p j = true) (fun k => l.length - k) 0 ⟨Nat.zero_le _, fun j hj => by omega⟩ (by simp; rfl) (by simp [vwAll_plain h1, vwAll_plain h2]) ?_
  intro k ⟨hk, hp⟩
  by_cases hkl : k < l.length
  · simp [hkl, ints]
    refine pop_spec (h k hkl) rfl false (.inr ⟨by simp [ints], by simp [namesL_append, plainL_names h1, plainL_names h2, ints]⟩) (.inl rfl) rfl (by simp) ?_
    cases hpk : p k with
    | true =>
      simp
      refine again_of (k + 1) ⟨by omega, fun j hj => ?_⟩ (by omega) ?_
      · rcases Nat.lt_succ_iff_lt_or_eq.1 hj with hj | rfl
        · exact hp j hj
        · exact hpk
      · simp [i64_wrap (show -9223372036854775808 ≤ (k : Int) + 1 ∧ _ from by omega), vwAll_plain h1, vwAll_plain h2]
    | false =>
      simp
      refine answers_of rfl ?_; simp [allN_false hkl hpk]
  · simp [hkl]
    obtain rfl : k = l.length := by omega
    refine answers_of rfl ?_; simp [allN_spec.2 hp]
theorem allLeg_spec (l : List Leg) (hl : l.length ≤ 9223372036854775807) (f : FuncId) (first cap : List PV) (h1 : plainL first = true) (h2 : plainL cap = true) (p : Nat → Bool)
    (h : ∀ k, k < l.length → Spec Tryz.prog f (first ++ ([.agg (legAt l k).cells] ++ cap)) (.v (.bool (p k)))) : Spec Tryz.prog 120 [legL l, .clo (.func f) first cap] (.v (.bool (allN l.length p))) := by
  refine spec_of mixed Tryz.func120 (by decide) rfl Tryz.results120 Tryz.ntmps120 (by decide) 0 (by simp) ?_
  simp [legL, Leg.cells, itmL, renL_plain h1, renL_plain h2]
  refine pwp_loop (fun k : Nat => [(9, .v (.int .i64 k))]) (fun k => k ≤ l.length ∧ ∀ j, j < k → p j = true) (fun k => l.length - k) 0 ⟨Nat.zero_le _, fun j hj => by omega⟩ (by simp; rfl) (by simp [vwAll_plain h1, vwAll_plain h2]) ?_
  intro k ⟨hk, hp⟩
  by_cases hkl : k < l.length
  · simp [hkl, legL, Leg.cells, itmL]
    refine pop_spec (h k hkl) rfl false (.inr ⟨by simp [legL, Leg.cells, itmL], by simp [namesL_append, plainL_names h1, plainL_names h2, legL, Leg.cells, itmL]⟩) (.inl rfl) rfl (by simp) ?_
    cases hpk : p k with
    | true =>
      simp
      refine again_of (k + 1) ⟨by omega, fun j hj => ?_⟩ (by omega) ?_
      · rcases Nat.lt_succ_iff_lt_or_eq.1 hj with hj | rfl
        · exact hp j hj
        · exact hpk
      · simp [i64_wrap (show -9223372036854775808 ≤ (k : Int) + 1 ∧ _ from by omega), vwAll_plain h1, vwAll_plain h2]
    | false =>
      simp
      refine answers_of rfl ?_; simp [allN_false hkl hpk]
  · simp [hkl]
    obtain rfl : k = l.length := by omega
    refine answers_of rfl ?_; simp [allN_spec.2 hp]
theorem allPsn_spec (l : List Psn) (hl : l.length ≤ 9223372036854775807) (f : FuncId) (first cap : List PV) (h1 : plainL first = true) (h2 : plainL cap = true) (p : Nat → Bool)
    (h : ∀ k, k < l.length → Spec Tryz.prog f (first ++ ([.agg (psnAt l k).cells] ++ cap)) (.v (.bool (p k)))) : Spec Tryz.prog 69 [psnL l, .clo (.func f) first cap] (.v (.bool (allN l.length p))) := by
  refine spec_of mixed Tryz.func69 (by decide) rfl Tryz.results69 Tryz.ntmps69 (by decide) 0 (by simp) ?_
  simp [psnL, Psn.cells, renL_plain h1, renL_plain h2]
  refine pwp_loop (fun k : Nat => [(9, .v (.int .i64 k))]) (fun k => k ≤ l.length ∧ ∀ j, j < k → p j = true) (fun k => l.length - k) 0 ⟨Nat.zero_le _, fun j hj => by omega⟩ (by simp; rfl) (by simp [vwAll_plain h1, vwAll_plain h2]) ?_
  intro k ⟨hk, hp⟩
  by_cases hkl : k < l.length
  · simp [hkl, psnL, Psn.cells]
    refine pop_spec (h k hkl) rfl false (.inr ⟨by simp [psnL, Psn.cells], by simp [namesL_append, plainL_names h1, plainL_names h2, psnL, Psn.cells]⟩) (.inl rfl) rfl (by simp) ?_
    cases hpk : p k with
    | true =>
      simp
      refine again_of (k + 1) ⟨by omega, fun j hj => ?_⟩ (by omega) ?_
      · rcases Nat.lt_succ_iff_lt_or_eq.1 hj with hj | rfl
        · exact hp j hj
        · exact hpk
      · simp [i64_wrap (show -9223372036854775808 ≤ (k : Int) + 1 ∧ _ from by omega), vwAll_plain h1, vwAll_plain h2]
    | false =>
      simp
      refine answers_of rfl ?_; simp [allN_false hkl hpk]
  · simp [hkl]
    obtain rfl : k = l.length := by omega
    refine answers_of rfl ?_; simp [allN_spec.2 hp]
end Go.Qg

namespace Go.Qg
open Go.Proofs
set_option maxRecDepth 100000
set_option maxHeartbeats 8000000
set_option linter.unusedSimpArgs false
attribute [local irreducible] pwp pops pdraw pop popCall pdCall thenP blockP scopeP pspec Spec answers ppost CallW
theorem lin_spec (n lo hi : Int) : Spec Tryz.prog 72 [.v (.int .i64 n), .v (.int .i64 lo), .v (.int .i64 hi)] (.v (.bool (inB n lo hi))) := by
  refine spec_of mixed Tryz.func72 (by decide) rfl Tryz.results72 Tryz.ntmps72 (by decide) 0 (by simp) ?_
  by_cases h1 : lo ≤ n
  · by_cases h2 : n ≤ hi <;> (simp [h1, h2]; refine answers_of rfl ?_; simp [inB, h1, h2])
  · simp [h1]; refine answers_of rfl ?_; simp [inB, h1]
def spanB (s : Spn) (lo hi : Int) : Bool := decide (lo ≤ s.low) && decide (s.low ≤ s.high) && decide (s.high ≤ hi)
theorem spanB_spec {s : Spn} {lo hi : Int} : spanB s lo hi = true ↔ lo ≤ s.low ∧ s.low ≤ s.high ∧ s.high ≤ hi := by simp [spanB, and_assoc]
theorem lspan_spec (s : Spn) (lo hi : Int) : Spec Tryz.prog 71 [.agg s.cells, .v (.int .i64 lo), .v (.int .i64 hi)] (.v (.bool (spanB s lo hi))) := by
  refine spec_of mixed Tryz.func71 (by decide) rfl Tryz.results71 Tryz.ntmps71 (by decide) 0 (by simp) ?_
  simp [Spn.cells]
  by_cases h1 : lo ≤ s.low
  · by_cases h2 : s.low ≤ s.high
    · by_cases h3 : s.high ≤ hi <;> (simp [h1, h2, h3]; refine answers_of rfl ?_; simp [spanB, h1, h2, h3])
    · simp [h1, h2, Int.not_le.1 h2]
      refine answers_of rfl ?_; simp [spanB, h1, h2]
  · simp [h1, Int.not_le.1 h1]; refine answers_of rfl ?_; simp [spanB, h1]
def stnB (s : Stn) : Bool := inB s.arm (-1000) 1000 && inB s.most 0 20000
theorem stnB_spec {s : Stn} : stnB s = true ↔ StnOk s := by simp [stnB, inB_spec, StnOk]
theorem station_spec (s : Stn) : Spec Tryz.prog 133 [.agg s.cells] (.v (.bool (stnB s))) := by
  refine spec_of mixed Tryz.func133 (by decide) rfl Tryz.results133 Tryz.ntmps133 (by decide) 0 (by simp) ?_
  simp [Stn.cells]
  refine pop_spec (lin_spec s.arm (-1000) 1000) rfl false (.inl (by simp)) (.inl rfl) rfl (by simp) ?_
  cases h1 : inB s.arm (-1000) 1000 with
  | false => simp; refine answers_of rfl ?_; simp [stnB, h1]
  | true =>
    simp
    refine pop_spec (lin_spec s.most 0 20000) rfl false (.inl (by simp)) (.inl rfl) rfl (by simp) ?_
    simp
    refine answers_of rfl ?_; simp [stnB, h1]
theorem kilos1_spec (n : Int) : Spec Tryz.prog 147 [.v (.int .i64 n)] (.v (.bool (inB n 0 20000))) := by
  refine spec_of mixed Tryz.func147 (by decide) rfl Tryz.results147 Tryz.ntmps147 (by decide) 0 (by simp) ?_
  simp
  refine pop_spec (lin_spec n 0 20000) rfl false (.inl (by simp)) (.inl rfl) rfl (by simp) ?_
  simp
  refine answers_of rfl ?_; simp
def kilosB (l : List Int) : Bool := allN l.length fun k => inB (geti l k) 0 20000
theorem lkilos_spec (l : List Int) (hl : l.length ≤ 9223372036854775807) : Spec Tryz.prog 122 [ints l] (.v (.bool (kilosB l))) := by
  refine spec_of mixed Tryz.func122 (by decide) rfl Tryz.results122 Tryz.ntmps122 (by decide) 0 (by simp) ?_
  simp [ints]
  refine pop_spec (allInt_spec l hl 147 [] [] rfl rfl (fun k => inB (geti l k) 0 20000) fun k hk => kilos1_spec (geti l k)) rfl false (.inl (by simp [ints])) (.inl rfl) rfl (by simp) ?_
  simp
  refine answers_of rfl ?_; simp [kilosB]
theorem kilosB_one (a : Int) : kilosB [a] = inB a 0 20000 := by simp [kilosB, allN, geti]
theorem kilosB_three (a b c : Int) : kilosB [a, b, c] = (inB a 0 20000 && inB b 0 20000 && inB c 0 20000) := by
  simp [kilosB, allN, geti, List.range, List.range.loop, Bool.and_assoc]
def edgC (P : Pln) (e : Nat) : List PV := [.v (.int .i64 e), .v (.int .i64 (P.cA e).weight), .v (.int .i64 (P.cA e).moment), .v (.int .i64 (P.dw e)), .v (.int .i64 (P.dm e))]
def Small (b x : Int) : Prop := -b ≤ x ∧ x ≤ b
theorem mul_small {a b x y : Int} (hx : Small a x) (hy : Small b y) (_ha : 0 ≤ a) (_hb : 0 ≤ b) : Small (a * b) (x * y) := by
  obtain ⟨h1, h2⟩ := hx
  obtain ⟨h3, h4⟩ := hy
  have key : (x * y).natAbs ≤ (a * b).natAbs := by
    rw [Int.natAbs_mul, Int.natAbs_mul]
    exact Nat.mul_le_mul (by omega) (by omega)
  have h5 : 0 ≤ a * b := Int.mul_nonneg _ha _hb
  constructor <;> omega
theorem side_spec (n w0 m0 dw dm w m : Int) (hw0 : Small 20000 w0) (hm0 : Small 20000000 m0) (hdw : Small 20000 dw) (hdm : Small 40000000 dm) (hw : Small 4000000 w) (hm : Small 4000000000 m) :
    Spec Tryz.prog 145 [.agg [.v (.int .i64 n), .v (.int .i64 w0), .v (.int .i64 m0), .v (.int .i64 dw), .v (.int .i64 dm)], .v (.int .i64 w), .v (.int .i64 m)] (.v (.int .i64 (dw * (m - m0) - dm * (w - w0)))) := by
  have h1 : Small 4020000000 (m - m0) := ⟨by have := hm.1; have := hm0.2; omega, by have := hm.2; have := hm0.1; omega⟩
  have h2 : Small 4020000 (w - w0) := ⟨by have := hw.1; have := hw0.2; omega, by have := hw.2; have := hw0.1; omega⟩
  have h3 := mul_small hdw h1 (by omega) (by omega)
  have h4 := mul_small hdm h2 (by omega) (by omega)
  simp only [Small] at h1 h2 h3 h4
  refine spec_of mixed Tryz.func145 (by decide) rfl Tryz.results145 Tryz.ntmps145 (by decide) 0 (by simp) ?_
  simp
  refine answers_of rfl ?_
  simp [i64_wrap (show -9223372036854775808 ≤ m - m0 ∧ _ from by omega), i64_wrap (show -9223372036854775808 ≤ w - w0 ∧ _ from by omega), i64_wrap (show -9223372036854775808 ≤ dw * (m - m0) ∧ _ from by omega), i64_wrap (show -9223372036854775808 ≤ dm * (w - w0) ∧ _ from by omega), i64_wrap (show -9223372036854775808 ≤ dw * (m - m0) - dm * (w - w0) ∧ _ from by omega)]
theorem slope_spec (n w0 m0 dw dm arm : Int) (hdw : Small 20000 dw) (hdm : Small 40000000 dm) (harm : Small 1000 arm) :
    Spec Tryz.prog 117 [.agg [.v (.int .i64 n), .v (.int .i64 w0), .v (.int .i64 m0), .v (.int .i64 dw), .v (.int .i64 dm)], .v (.int .i64 arm)] (.v (.int .i64 (dw * arm - dm))) := by
  have h3 := mul_small hdw harm (by omega) (by omega)
  simp only [Small] at h3 hdm
  refine spec_of mixed Tryz.func117 (by decide) rfl Tryz.results117 Tryz.ntmps117 (by decide) 0 (by simp) ?_
  simp
  refine answers_of rfl ?_
  simp [i64_wrap (show -9223372036854775808 ≤ dw * arm ∧ _ from by omega), i64_wrap (show -9223372036854775808 ≤ dw * arm - dm ∧ _ from by omega)]
def cnrB (c : Cnr) : Bool := inB c.weight 0 20000 && inB c.moment (-20000000) 20000000
theorem valid1_spec (c : Cnr) : Spec Tryz.prog 131 [.agg c.cells] (.v (.bool (cnrB c))) := by
  refine spec_of mixed Tryz.func131 (by decide) rfl Tryz.results131 Tryz.ntmps131 (by decide) 0 (by simp) ?_
  simp [Cnr.cells]
  refine pop_specF [(5, ints [c.weight])] ?_ (lkilos_spec [c.weight] (by simp)) rfl false (.inl (by simp [ints])) (.inl rfl) rfl (by simp) ?_
  · simp [ints, geti]
  rw [kilosB_one]
  cases h1 : inB c.weight 0 20000 with
  | false => simp; refine answers_of rfl ?_; simp [cnrB, h1]
  | true =>
    simp
    refine pop_spec (lin_spec c.moment (-20000000) 20000000) rfl false (.inl (by simp)) (.inl rfl) rfl (by simp) ?_
    simp
    refine answers_of rfl ?_; simp [cnrB, h1]
def itmB (ns : Int) (i : Itm) : Bool := inB i.station 0 (ns - 1) && spanB ⟨i.low, i.high⟩ 0 20000
theorem items1_spec (i : Itm) (ns : Int) (hns : 0 ≤ ns ∧ ns ≤ 9223372036854775807) : Spec Tryz.prog 142 [.agg i.cells, .rp [.v (.int .i64 ns)] 0] (.v (.bool (itmB ns i))) := by
  refine spec_of mixed Tryz.func142 (by decide) rfl Tryz.results142 Tryz.ntmps142 (by decide) 0 (by simp) ?_
  simp [Itm.cells, i64_wrap (show -9223372036854775808 ≤ ns - 1 ∧ _ from by omega)]
  refine pop_spec (lin_spec i.station 0 (ns - 1)) rfl false (.inl (by simp)) (.inl rfl) rfl (by simp) ?_
  cases h1 : inB i.station 0 (ns - 1) with
  | false => simp; refine answers_of rfl ?_; simp [itmB, h1]
  | true =>
    simp
    refine pop_spec (lspan_spec ⟨i.low, i.high⟩ 0 20000) rfl false (.inl (by simp [Spn.cells])) (.inl rfl) rfl (by simp) ?_
    simp
    refine answers_of rfl ?_; simp [itmB, h1]
def itemsB (l : List Itm) (ns : Int) : Bool := decide (l.length ≤ 12) && allN l.length fun k => itmB ns (itmAt l k)
theorem litems_spec (l : List Itm) (ns : Int) (hl : l.length ≤ 9223372036854775807) (hns : 0 ≤ ns ∧ ns ≤ 9223372036854775807) : Spec Tryz.prog 113 [itmL l, .v (.int .i64 ns)] (.v (.bool (itemsB l ns))) := by
  refine spec_of mixed Tryz.func113 (by decide) rfl Tryz.results113 Tryz.ntmps113 (by decide) 0 (by simp) ?_
  simp [itmL]
  by_cases h : l.length ≤ 12
  · simp [show (l.length : Int) ≤ 12 from by omega]
    refine pop_specF [(3, .undef), (10, .clo (.func 142) [] [.rp [.v (.int .i64 ns)] 0])] (by simp) (allItm_spec l hl 142 [] [.rp [.v (.int .i64 ns)] 0] rfl rfl (fun k => itmB ns (itmAt l k)) fun k hk => items1_spec (itmAt l k) ns hns) rfl false (.inl (by simp [itmL])) (.inl rfl) rfl (by simp) ?_
    simp
    refine answers_of rfl ?_; simp [itemsB, h]
  · simp [show ¬ (l.length : Int) ≤ 12 from by omega]
    refine answers_of rfl ?_; simp [itemsB, h]
theorem right1_spec (s : Spn) : Spec Tryz.prog 112 [.agg s.cells] (.v (.bool (spanB s 0 120000))) := by
  refine spec_of mixed Tryz.func112 (by decide) rfl Tryz.results112 Tryz.ntmps112 (by decide) 0 (by simp) ?_
  simp [Spn.cells]
  refine pop_spec (lspan_spec s 0 120000) rfl false (.inl (by simp [Spn.cells])) (.inl rfl) rfl (by simp) ?_
  simp
  refine answers_of rfl ?_; simp
def legB (ns : Int) (l : Leg) : Bool := itemsB l.items ns && inB l.fuel 0 20000 && spanB l.burn 0 20000 && spanB l.leak 0 20000
theorem trip1_spec (l : Leg) (ns : Int) (hl : l.items.length ≤ 9223372036854775807) (hns : 0 ≤ ns ∧ ns ≤ 9223372036854775807) : Spec Tryz.prog 121 [.agg l.cells, .rp [.v (.int .i64 ns)] 0] (.v (.bool (legB ns l))) := by
  refine spec_of mixed Tryz.func121 (by decide) rfl Tryz.results121 Tryz.ntmps121 (by decide) 0 (by simp) ?_
  simp [Leg.cells, itmL]
  refine pop_spec (litems_spec l.items ns hl hns) rfl false (.inl (by simp [itmL])) (.inl rfl) rfl (by simp) ?_
  cases h1 : itemsB l.items ns with
  | false => simp; refine answers_of rfl ?_; simp [legB, h1]
  | true =>
    simp
    refine pop_specF [(11, ints [l.fuel])] ?_ (lkilos_spec [l.fuel] (by simp)) rfl false (.inl (by simp [ints])) (.inl rfl) rfl (by simp) ?_
    · simp [ints, geti]
    rw [kilosB_one]
    cases h2 : inB l.fuel 0 20000 with
    | false => simp; refine answers_of rfl ?_; simp [legB, h2]
    | true =>
      simp
      refine pop_spec (lspan_spec l.burn 0 20000) rfl false (.inl (by simp [Spn.cells])) (.inl rfl) rfl (by simp) ?_
      cases h3 : spanB l.burn 0 20000 with
      | false => simp; refine answers_of rfl ?_; simp [legB, h3]
      | true =>
        simp
        refine pop_spec (lspan_spec l.leak 0 20000) rfl false (.inl (by simp [Spn.cells])) (.inl rfl) rfl (by simp) ?_
        simp
        refine answers_of rfl ?_; simp [legB, h1, h2, h3]
def tripE (fuel : Spn) (legs : List Leg) (ns : Int) : Int := if 6 < legs.length then 3 else if legs.length = 0 ∨ spanB fuel 0 20000 = false ∨ (allN legs.length fun k => legB ns (legAt legs k)) = false then 2 else 0
theorem trip_spec (fuel : Spn) (legs : List Leg) (ns : Int) (hl : legs.length ≤ 9223372036854775807) (hi : ∀ k, k < legs.length → (legAt legs k).items.length ≤ 9223372036854775807) (hns : 0 ≤ ns ∧ ns ≤ 9223372036854775807) :
    Spec Tryz.prog 97 [.agg fuel.cells, legL legs, .v (.int .i64 ns)] (.v (.int .i64 (tripE fuel legs ns))) := by
  refine spec_of mixed Tryz.func97 (by decide) rfl Tryz.results97 Tryz.ntmps97 (by decide) 0 (by simp) ?_
  simp [legL, Spn.cells]
  by_cases h : 6 < legs.length
  · simp [show (6 : Int) < legs.length from by omega]
    refine answers_of rfl ?_; simp [tripE, h]
  · simp [show ¬ (6 : Int) < legs.length from by omega]
    refine pop_specF [(5, .undef), (12, .clo (.func 121) [] [.rp [.v (.int .i64 ns)] 0])] (by simp) (allLeg_spec legs hl 121 [] [.rp [.v (.int .i64 ns)] 0] rfl rfl (fun k => legB ns (legAt legs k)) fun k hk => trip1_spec (legAt legs k) ns (hi k hk) hns) rfl false (.inl (by simp [legL])) (.inl rfl) rfl (by simp) ?_
    simp
    by_cases h0 : legs = []
    · subst h0
      simp
      refine answers_of rfl ?_
      simp [tripE]
    · have h9 : ¬ legs.length = 0 := fun e => h0 (List.eq_nil_of_length_eq_zero e)
      simp [h0]
      refine pop_spec (lspan_spec fuel 0 20000) rfl false (.inl (by simp [Spn.cells])) (.inl rfl) rfl (by simp) ?_
      cases h1 : spanB fuel 0 20000 with
      | false => simp [h0]; refine answers_of rfl ?_; simp [tripE, h, h1]
      | true =>
        simp [h0]
        cases h2 : allN legs.length fun k => legB ns (legAt legs k) with
        | false => simp [h0]; refine answers_of rfl ?_; simp [tripE, h, h2]
        | true => simp [h0]; refine answers_of rfl ?_; simp [tripE, h, h0, h9, h1, h2]
end Go.Qg

namespace Go.Qg
open Go.Proofs Go.RowKit Go.Lib
set_option maxRecDepth 100000
set_option linter.unusedSimpArgs false
set_option linter.unusedVariables false
def rowsU (l : List UInt8) : List (List PV) := l.map fun b => [.v (.int .u8 b.toNat)]
@[simp] theorem rowsU_length (l : List UInt8) : (rowsU l).length = l.length := by simp [rowsU]
@[simp] theorem renLL_rowsU (π : Nat → Nat) (l : List UInt8) : renLL π (rowsU l) = rowsU l := by
  induction l with
  | nil => rfl
  | cons x l ih => simpa [rowsU, renLL, renL, PV.ren] using ih
@[simp] theorem namesLL_rowsU (l : List UInt8) : namesLL (rowsU l) = [] := by
  induction l with
  | nil => rfl
  | cons x l ih => simpa [rowsU, namesLL, namesL, PV.names] using ih
@[simp] theorem flatLL_rowsU (l : List UInt8) : flatLL (rowsU l) = true := by
  induction l with
  | nil => rfl
  | cons x l ih => simpa [rowsU, flatLL, flatL, PV.flat] using ih
theorem u8_int {x y : UInt8} (h : (x.toNat : Int) = y.toNat) : x = y := UInt8.toNat_inj.1 (by omega)
@[simp] theorem vwAllL_rowsU (f : PF) (T : Tgt) (d : Nat) (a b : List UInt8) : vo.vwAllL f T (d + 1) (rowsU a) (rowsU b) = (a = b) := by
  induction a generalizing b with
  | nil => cases b <;> simp [rowsU, vo.vwAllL]
  | cons x a ih =>
    cases b with
    | nil => simp [rowsU, vo.vwAllL]
    | cons y b =>
      have := ih b
      simp only [rowsU] at this
      have e : ((x.toNat : Int) = y.toNat) = (x = y) := propext ⟨u8_int, fun h => by rw [h]⟩
      simp [rowsU, vo.vwAllL, this, e]
@[simp] theorem rowsU_one {l : List UInt8} : (∀ (x : List PV), x ∈ rowsU l → ∀ (y : PV), y ∈ x → y.one = true) ↔ True := by
  refine ⟨fun _ => trivial, fun _ x hx y hy => ?_⟩
  obtain ⟨b, _, rfl⟩ := List.mem_map.1 hx
  simp at hy
  rcases hy with rfl
  rfl
@[simp] theorem rowsU_nil : rowsU [] = [] := rfl
theorem arr3 {vs : Array Value} (h : vs.size = 3) : ∃ a b c, vs = #[a, b, c] := by
  match vs, h with
  | ⟨[a, b, c]⟩, _ => exact ⟨a, b, c, rfl⟩
section
variable {P : Program}
theorem append_str (w : World) (t u ty e : TypeId) (i : TypeInfo) (ht : P.underlying t = some (.slice e)) (hu : P.underlying u = some .string) (hi : P.info? e = some i) (hz : i.zero = some (.int .u8 0)) (hsize : i.size = 1) (hby : i.bytes = 1)
    (v : Value) (n : Nat) (xs : List Value) (hown : w.ownsRow 0 e 1 v n xs) (s : ByteArray) (hbytes : n + s.size ≤ 140737488355328) :
    ∃ v' w', (Builtin.append_ #[t, u] ty #[v, .string s]).run P w = .ok v' w' ∧ w'.ownsRow 0 e 1 v' (n + s.size) (xs ++ strCells s) ∧ w.grownBy w' v.ownBlock ∧ ∀ g, v'.ownBlock = some g → v.ownBlock = some g ∨ w.heap.size ≤ g := by
  have hm : n + s.size ≤ maxLen := by simp only [maxLen]; omega
  obtain ⟨v', w', h1, h2, h3, _⟩ := run_append_own_string (P := P) w 0 t u ty e i ht hu hi hz hsize hby v n xs hown s hm hbytes (Nat.zero_le _)
  refine ⟨v', w', h1, h2, h3, fun g hg => ?_⟩
  rcases hown.2 with ⟨rfl, rfl⟩ | ⟨g0, cap, cur, rfl, _, hb, hnc, hcm, hcs, htake⟩
  · obtain ⟨v2, w2, k1, k2, _⟩ := run_append_own_string (P := P) w w.heap.size t u ty e i ht hu hi hz hsize hby (.slice none 0 0) 0 xs ⟨hown.1, .inl ⟨rfl, rfl⟩⟩ s hm hbytes (Nat.le_refl _)
    rw [h1] at k1
    simp only [Result.ok.injEq] at k1
    obtain ⟨rfl, rfl⟩ := k1
    rcases k2.2 with ⟨rfl, _⟩ | ⟨g1, cap1, cur1, rfl, hle, _⟩
    · cases hg
    · obtain rfl := Option.some.inj hg
      exact .inr hle
  · have hcs' : cur.size = cap := by simpa using hcs
    by_cases hroom : n + s.size ≤ cap
    · have hr := run_append_room_string (P := P) w t u ty e i ht hu hi hsize g0 n cap cur hb s hroom (by omega)
      rw [h1] at hr
      simp only [Result.ok.injEq] at hr
      obtain ⟨rfl, rfl⟩ := hr
      exact .inl hg
    · have hxl : xs.length = n := by simpa using hown.1
      have holds : ∀ j u, xs[j]? = some u → w.cell? ((⟨g0, 0, none⟩ : Addr).add j) = some u := hown.cells (g := g0) rfl
      have hr := run_append_grow_string (P := P) w t u ty e i (.int .u8 0) ht hu hi hz ⟨g0, 0, none⟩ n cap xs (by rw [hsize]; simpa using hxl) holds s (by omega) (by omega) (by rw [hby]; exact growslice_fits (by omega) (by omega))
      rw [h1] at hr
      simp only [Result.ok.injEq] at hr
      obtain ⟨rfl, rfl⟩ := hr
      obtain rfl := Option.some.inj hg
      exact .inr (Nat.le_refl _)
theorem wpl_append {ops : Array Oper} {rest : List Oper} {o : Oper} {a : Act} {w : World} {Q : Exit → Act → World → Prop} (hgd : o.guard = none) (sl x : Operand) (t u : TypeId)
    (ho : o.op = .call { callee := .builtin .append, args := #[sl, x], argTypes := #[t, u] }) (e : TypeId) (i : TypeInfo) (ht : P.underlying t = some (.slice e)) (hu : P.underlying u = some .string) (hi : P.info? e = some i) (hz : i.zero = some (.int .u8 0)) (hsize : i.size = 1) (hby : i.bytes = 1)
    (v : Value) (n : Nat) (xs : List Value) (hs : a.eval sl = v) (hown : w.ownsRow 0 e 1 v n xs) (s : ByteArray) (hx : a.eval x = .string s) (hbytes : n + s.size ≤ 140737488355328)
    (h : ∀ v' w', w'.ownsRow 0 e 1 v' (n + s.size) (xs ++ strCells s) → w.grownBy w' v.ownBlock → (∀ g, v'.ownBlock = some g → v.ownBlock = some g ∨ w.heap.size ≤ g) → wpList P ops Q rest (a.put o.dst v') w') : wpList P ops Q (o :: rest) a w :=
  wpList_plain hgd fun K hK => by
    obtain ⟨v', w', hr, h2, h3, h4⟩ := append_str (P := P) w t u o.type e i ht hu hi hz hsize hby v n xs hown s hbytes
    unfold Oper.wp execOp
    simp only [ho, resolve, invoke, builtin, Sem.run_bind, Sem.run_pure, Result.andThen_ok, List.map_toArray, List.map_cons, List.map_nil, hs, hx, hr]
    exact hK _ _ (h v' w' h2 h3 h4)
end
theorem cc_used (b : Nat) (w : World) (h0 : w.cell? ⟨b, 0, none⟩ = some (.pointer (some ⟨b, 0, none⟩))) :
    Calls Tryz.prog 148 #[.pointer (some ⟨b, 0, none⟩)] w fun e w' => e = .returned (.tuple #[]) ∧ w' = w := by
  obtain ⟨j, hj, _⟩ : ∃ j, Tryz.prog.info? 162 = some j ∧ j.size = 2 := ⟨Tryz.t162, by kernel_rfl, by kernel_rfl⟩
  have mx := mixed
  go_enter Tryz.func148, Tryz.ntmps148
  go_wp2
  rw [Lib.run_neq_ptr_same w _ Tryz.underlying160 hj]
  go_wp2
  go_end0
  exact ⟨rfl, rfl⟩
theorem cc_fresh (b : Nat) (w : World) (h0 : w.cell? ⟨b, 0, none⟩ = some (.pointer none)) (hsh : w.shape? b = some (164, 3)) (hfz : w.frozen? ⟨b, 0, none⟩ = false) :
    Calls Tryz.prog 148 #[.pointer (some ⟨b, 0, none⟩)] w fun e w' => e = .returned (.tuple #[]) ∧ w' = w.setCell ⟨b, 0, none⟩ (.pointer (some ⟨b, 0, none⟩)) := by
  obtain ⟨j, hj, hjs⟩ : ∃ j, Tryz.prog.info? 162 = some j ∧ j.size = 2 := ⟨Tryz.t162, by kernel_rfl, by kernel_rfl⟩
  have hlies : liesAt Tryz.prog Tryz.prog.depth 164 (3 / Tryz.prog.cellsOf 164) 0 162 1 = true := by kernel_rfl
  have mx := mixed
  go_enter Tryz.func148, Tryz.ntmps148
  go_wp2
  rw [Lib.run_to_unsafe w ⟨b, 0, none⟩ Tryz.underlying160 Tryz.underlying226 hj (by rw [hjs]; decide) hsh (show (0 : Nat) < 3 by decide)]
  simp only [Result.andThen]
  rw [Oper.upon_value]
  go_wp2
  rw [run_callFunc_extern Tryz.func157 (by kernel_rfl) (by kernel_rfl) (by kernel_rfl) (e := Extern.AbiNoEscape.same) (by kernel_rfl)]
  rw [Lib.run_noEscape]
  simp only [Result.andThen]
  rw [Oper.upon_value]
  go_wp2
  rw [Lib.run_from_unsafe w ⟨b, 0, none⟩ Tryz.underlying226 Tryz.underlying160 hj hsh hlies]
  simp only [Result.andThen]
  rw [Oper.upon_value]
  go_wp2
  go_end0
  exact ⟨rfl, rfl⟩
theorem cc_any (b : Nat) (T : TypeId) (p v x : Value) (n : Nat) (bs : List Value) (w : World) (hbk : w.heap[b]? = some (.cells #[p, v, x] T (0, 0)))
    (hp : p = .pointer (some ⟨b, 0, none⟩) ∨ (p = .pointer none ∧ T = 164)) (hown : w.ownsRow 0 5 1 v n bs) (hne : v.ownBlock ≠ some b) :
    Calls Tryz.prog 148 #[.pointer (some ⟨b, 0, none⟩)] w fun e w1 => e = .returned (.tuple #[]) ∧ w1.heap[b]? = some (.cells #[.pointer (some ⟨b, 0, none⟩), v, x] T (0, 0)) ∧ w1.ownsRow 0 5 1 v n bs ∧
      (w1.os = w.os ∧ w1.tape = w.tape ∧ w1.output = w.output ∧ w1.heap.size = w.heap.size) ∧ ∀ k, k ≠ b → w1.heap[k]? = w.heap[k]? := by
  rcases hp with rfl | ⟨rfl, rfl⟩
  · refine (cc_used b w (by simp [World.cell?, hbk])).mono ?_
    rintro e w' ⟨rfl, rfl⟩
    exact ⟨rfl, hbk, hown, ⟨rfl, rfl, rfl, rfl⟩, fun _ _ => rfl⟩
  · refine (cc_fresh b w (by simp [World.cell?, hbk]) (by simp [World.shape?, hbk]) (by simp [World.frozen?, hbk])).mono ?_
    rintro e w' ⟨rfl, rfl⟩
    refine ⟨rfl, by simp [World.setCell, Array.getElem?_modify, hbk], ?_, ⟨rfl, rfl, rfl, by simp [World.setCell]⟩, fun k hk => Below.heap_setCell _ _ _ _ (fun e => hk (by simp [e]))⟩
    exact hown.kept (row := some b) ⟨rfl, rfl, rfl, by simp [World.setCell], fun k _ hk => Below.heap_setCell _ _ _ _ (fun e => hk (by simp [e]))⟩ (.inr hne)
theorem wstr3 (b : Nat) (T : TypeId) (p v x : Value) (n : Nat) (bs : List Value) (s : ByteArray) (w : World) (hbk : w.heap[b]? = some (.cells #[p, v, x] T (0, 0)))
    (hp : p = .pointer (some ⟨b, 0, none⟩) ∨ (p = .pointer none ∧ T = 164)) (hown : w.ownsRow 0 5 1 v n bs) (hne : v.ownBlock ≠ some b) (hlen : n + s.size ≤ 140737488355328) :
    Calls Tryz.prog 123 #[.pointer (some ⟨b, 0, none⟩), .string s] w fun e w' => (∃ r, e = .returned r) ∧ ∃ v', w'.heap[b]? = some (.cells #[.pointer (some ⟨b, 0, none⟩), v', x] T (0, 0)) ∧
      w'.ownsRow 0 5 1 v' (n + s.size) (bs ++ strCells s) ∧ (∀ g, v'.ownBlock = some g → v.ownBlock = some g ∨ w.heap.size ≤ g) ∧ (w'.os = w.os ∧ w'.tape = w.tape ∧ w'.output = w.output ∧ w.heap.size ≤ w'.heap.size) ∧
      ∀ k, k < w.heap.size → k ≠ b → some k ≠ v.ownBlock → w'.heap[k]? = w.heap[k]? := by
  obtain ⟨i0, hi, hz0, hz1, hz2⟩ : ∃ i0, Tryz.prog.info? 5 = some i0 ∧ i0.zero = some (.int .u8 0) ∧ i0.size = 1 ∧ i0.bytes = 1 := ⟨Tryz.t5, by kernel_rfl, by kernel_rfl, by kernel_rfl, by kernel_rfl⟩
  have mx := mixed
  have hcc := cc_any b T p v x n bs w hbk hp hown hne
  have hbs : b < w.heap.size := by
    rcases Nat.lt_or_ge b w.heap.size with h' | h'
    · exact h'
    · simp [Array.getElem?_eq_none h'] at hbk
  go_enter Tryz.func123, Tryz.ntmps123
  go_wp2_with (go_at_call 148; refine hcc.mono ?_)
  rintro e w1 ⟨rfl, hb1, hown1, ⟨q1, q2, q3, q4⟩, q5⟩
  have c0 : w1.cell? ⟨b, 0, none⟩ = some (.pointer (some ⟨b, 0, none⟩)) := by simp [World.cell?, hb1]
  have c1 : w1.cell? ⟨b, 1, none⟩ = some v := by simp [World.cell?, hb1]
  go_wp2_with (at_builtin; refine wpl_append rfl _ _ 109 9 rfl 5 i0 Tryz.underlying109 Tryz.underlying9 hi hz0 hz1 hz2 _ _ _ rfl hown1 s rfl hlen ?_)
  intro v' w2 hown' hgrow hg
  have hb2 : w2.heap[b]? = some (.cells #[.pointer (some ⟨b, 0, none⟩), v, x] T (0, 0)) := by
    rw [hgrow.block b (by omega) (fun e => hne e.symm)]
    exact hb1
  have d0 : w2.cell? ⟨b, 0, none⟩ = some (.pointer (some ⟨b, 0, none⟩)) := by simp [World.cell?, hb2]
  have d1 : w2.cell? ⟨b, 1, none⟩ = some v := by simp [World.cell?, hb2]
  have f1 : w2.frozen? ⟨b, 1, none⟩ = false := by simp [World.frozen?, hb2]
  have hne' : v'.ownBlock ≠ some b := fun e => by
    rcases hg b e with h | h
    · exact hne h
    · omega
  obtain ⟨ao, n', cap, hv'⟩ : ∃ ao n' cap, v' = .slice ao n' cap := by
    rcases hown'.2 with ⟨hv, _⟩ | ⟨g, cap, cur, hv, _⟩
    · exact ⟨_, _, _, hv⟩
    · exact ⟨_, _, _, hv⟩
  subst hv'
  go_wp2
  go_ret2
  refine ⟨⟨_, rfl⟩, _, by simp [World.setCell, Array.getElem?_modify, hb2]; rfl, ?_, fun g hg' => by have := hg g hg'; first | exact this | (rw [q4] at this; exact this), ⟨hgrow.os.trans q1, hgrow.tape.trans q2, hgrow.output.trans q3, by have := hgrow.size; simp only [World.setCell, Array.size_modify]; omega⟩, fun k hk hkb hkv => ?_⟩
  · exact hown'.kept (row := some b) ⟨rfl, rfl, rfl, by simp [World.setCell], fun k _ hk => Below.heap_setCell _ _ _ _ (fun e => hk (by simp [e]))⟩ (.inr hne')
  · rw [Below.heap_setCell _ _ _ _ (fun e => hkb (by simp [e])), hgrow.block k (by omega) hkv, q5 k hkb]
theorem str3 (b g cap : Nat) (T : TypeId) (p x : Value) (cur : Array Value) (l : List UInt8) (h0 : l ≠ []) (w : World) (hbk : w.heap[b]? = some (.cells #[p, .slice (some ⟨g, 0, none⟩) l.length cap, x] T (0, 0))) (hbg : w.heap[g]? = some (.cells cur 5 (0, 0)))
    (hnc : l.length ≤ cap) (hcm : cap ≤ maxLen) (hcs : cur.size = cap) (hcell : ∀ (j : Nat) y, l[j]? = some y → cur[j]? = some (.int .u8 y.toNat)) :
    Calls Tryz.prog 99 #[.pointer (some ⟨b, 0, none⟩)] w fun e w' => e = .returned (.string ⟨l.toArray⟩) ∧ (w'.os = w.os ∧ w'.tape = w.tape ∧ w'.output = w.output ∧ w.heap.size = w'.heap.size) ∧ ∀ k, k ≠ g → w'.heap[k]? = w.heap[k]? := by
  have hl0 : l.length ≠ 0 := by simpa using h0
  have c1 : w.drew.cell? ⟨b, 1, none⟩ = some (.slice (some ⟨g, 0, none⟩) l.length cap) := by
    have : w.drew.heap[b]? = some (.cells #[p, .slice (some ⟨g, 0, none⟩) l.length cap, x] T (0, 0)) := hbk
    simp [World.cell?, this]
  have hSD : (Builtin.unsafeSliceData_ #[109] 206 #[.slice (some ⟨g, 0, none⟩) l.length cap]).run Tryz.prog w.drew = .ok (.pointer (some ⟨g, 0, none⟩)) w.drew :=
    Lib.run_unsafeSliceData_row _ _ _ _ _ _ (by omega)
  have hUS : (Builtin.unsafeString_ #[206, 3] 9 #[.pointer (some ⟨g, 0, none⟩), .int .i64 l.length]).run Tryz.prog w.drew = .ok (.string ⟨l.toArray⟩) (w.drew.freeze ⟨g, 0, none⟩ l.length) := by
    refine Lib.run_unsafeString_row w.drew 206 3 9 5 Tryz.underlying206 (by kernel_rfl) g cur.size (by have hg' : w.drew.heap[g]? = some (.cells cur 5 (0, 0)) := hbg; simp [World.shape?, hg']) l h0 (by omega) (by unfold maxLen at hcm; omega) ?_
    intro j y hy
    have hg' : w.drew.heap[g]? = some (.cells cur 5 (0, 0)) := hbg
    have e : (⟨g, 0, none⟩ : Addr).add j = ⟨g, j, none⟩ := by rw [Addr.add_lit, Nat.zero_add]
    rw [e]
    simp only [World.cell?, hg']
    exact hcell j y hy
  have mx := mixed
  go_enter Tryz.func99, Tryz.ntmps99
  go_wp2
  go_region_o
  all_goals
    go_wp2
    go_ret
    refine ⟨rfl, ?_, fun k hk => ?_⟩
    · simp only [World.freeze]
      split
      · exact ⟨rfl, rfl, rfl, rfl⟩
      · exact ⟨rfl, rfl, rfl, by show w.heap.size = (w.heap.modify _ _).size; simp⟩
    · simp only [World.freeze]
      split
      · rfl
      · simp only [Array.getElem?_modify]
        rw [if_neg (fun e => hk e.symm)]
        rfl
end Go.Qg
