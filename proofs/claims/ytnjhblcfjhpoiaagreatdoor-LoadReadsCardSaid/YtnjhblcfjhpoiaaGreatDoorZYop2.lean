/-
  Lemmas and contracts that hold of the whole program: 22 texts in one.
  No condition.
-/
import Derived.Test.YtnjhblcfjhpoiaaGreatDoorZYop1
import Derived.KernelRfl
import Derived.Test.YtnjhblcfjhpoiaaGreatDoorRows
import Derived.Test.YtnjhblcfjhpoiaaGreatDoorCards
import Derived.Test.YtnjhblcfjhpoiaaGreatDoorTie
import Derived.Stop.LaidErr
import Derived.Lib.LaidTab
import Derived.LaidLaws
import Derived.Shelf.Vars
import Derived.Lib.Split
import Derived.Lib.Join
import Derived.Lib.AtoiAll
import Derived.Lib.ItoaMem
import Derived.Lib.Builder
import Derived.Lib.AppendStr
import Derived.Lib.UnsafeStr
import Derived.Laws.Externs
import Derived.Shelf.RegionOpenPlain
import Derived.Shelf.Strings.Builder1
import Derived.Shelf.Strings.Builder2
import Derived.Shelf.Strings.OnBuilder
import Derived.Shelf.Strconv.Itoa0
import Derived.Shelf.Strconv.Itoa1
import Derived.Shelf.LaysM
import Derived.Shelf.Strconv.Itoa2
import Derived.Shelf.Strconv.Itoa3
import Derived.Test.YtnjhblcfjhpoiaaGreatDoorProg
import Derived.Lib.ItoaLen
import Derived.Lib.AppendIntMem
set_option linter.all false

namespace Go.Qg
open Go.RowKit (Below)
inductive Splits : Code → Code → Code → Prop
  | one (a b : Code) : Splits (.seq a b) a b
  | more (a : Code) {b b0 b1 : Code} : Splits b b0 b1 → Splits (.seq a b) (.seq a b0) b1
section
variable {P : Program} {N M : Nat} {B : Base} {ro : Option Nat}
theorem wr_split (hm : P.follows .mixedOrders = true) (hM : B.lo = M) {K : PF → Prop} {Qw : Exit → Act → World → Prop} {c c0 c1 : Code} (hs : Splits c c0 c1) : ∀ {fr : PF} {a : Act} {w : World}, dstsIn N c0 = true → SimE N B a w fr → pwp P M c0 (thenP K fun _ _ => False) fr →
    (∀ e a w, Up N B (thenP K fun _ _ => False) e a w → Exit.then (wr P ro c1 Qw) Qw e a w) → wr P ro c Qw a w := by
  induction hs with
  | one x y => intro fr a w hd h hp hk; exact wr_seq (wr_mono (pwp_sound hm hM x _ fr a w hd h hp) hk)
  | more x hs ih =>
    intro fr a w hd h hp hk
    simp only [dstsIn, Bool.and_eq_true] at hd
    refine wr_seq (wr_mono (pwp_sound hm hM x _ fr a w hd.1 h hp) fun e a0 w0 ⟨R0, Γ0, fr0, x0, hs0, hu0, hq0⟩ => ?_)
    cases x0 with
    | normal => cases e with
      | normal => exact ih hd.2 ⟨R0, Γ0, hs0⟩ hq0 hk
      | _ => exact hu0.elim
    | _ => exact hq0.elim
end
section
variable {P : Program} {N M M' : Nat} {B B0 B2 : Base} {a a' : Act} {w w' : World} {els : List PV}
end
section
variable {P : Program} {N M M' : Nat} {B : Base} {a a' : Act} {w w' : World} {R : Nat → Nat → Prop} {Γ : Nat → Option Loc} {fr : PF}
theorem callW_ofDES (hm : P.follows .mixedOrders = true) {f : FuncId} {fn : Func} {id : Nat} {o1 o2 : Oper} {c c0 c2 : Code} {x : Operand} {ats : Array TypeId} (hf : P.funcs[f]? = some fn) (hname : (fn.name == "runtime.NumGoroutine") = false) (hb : fn.body = some c) (hsp : Splits c c0 (.seq (.region id #[o1, o2] false) c2))
    (ho : o2.op = .defer { callee := .value x, args := #[], argTypes := ats }) (hg : o2.guard = none) (hdst : o2.dst = none) {rs : List ResultVar} (hrs : fn.results.toList = rs) (hn : fn.ntmps = N) (hd0 : dstsIn N c0 = true) (hd1 : ∀ d, o1.dst = some d → d < N) (hd2 : dstsIn N c2 = true) {args : List PV} {H : PF} {Q : Out → Prop}
    (M : Nat) (hargs : args.length ≤ N) (hM : N ≤ M) (h : pwp P M c0 (thenP (pops P M [o1, o2] (dmidE P N M H.length rs c2 x Q) (fun _ _ => False) [o1]) (fun _ _ => False)) (frame0 M args H)) : CallW P f args H Q := by
  subst hrs hn
  refine ⟨fun vs w => ?_, fun w vs R Γ Prot hRp h0 hl hrep => ?_⟩
  · simp only [callFunc, Sem.run_bind, run_program, Result.andThen_ok, hf, hname, hb]
    rfl
  · have hsim := h0.enter hl hrep hargs hM
    refine calls_of_wr hf hb (wr_split (ro := none) hm rfl hsp hd0 hsim.toE h fun e a0 w0 ⟨R0, Γ0, fr0, x0, hs0, hu0, hq0⟩ => ?_)
    cases x0 with
    | normal =>
      cases e with
      | normal =>
        refine wr_seq (wr_region ?_)
        have hr1 : List.range (#[o1, o2] : Array Oper).size = [0, 1] := rfl
        rw [hr1]
        have hN : ∀ o ∈ [o1, o2], ∀ d, o.dst = some d → d < fn.ntmps := fun o ho d hd => by
          rcases List.mem_cons.1 ho with rfl | ho
          · exact hd1 d hd
          · obtain rfl := List.mem_singleton.1 ho
            rw [hdst] at hd; cases hd
        refine op_sound (all := [o1, o2]) (K := pops P M [o1, o2] (dmidE P fn.ntmps M H.length fn.results.toList c2 x Q) (fun _ _ => False) []) (Kp := fun _ _ => False) hs0.toE rfl hN rfl (fun _ _ _ _ _ _ _ _ _ hk => hk.elim) (fun _ _ hq => hq.elim) (k := 0) (o := o1) rfl hq0 (K' := fun a' w' => ∃ fr', SimE fn.ntmps (base0 Prot w R Γ M) a' w' fr' ∧ dmidE P fn.ntmps M H.length fn.results.toList c2 x Q fr') (fun a' w' fr' h1 h2 => ⟨fr', h1, h2⟩) [1] fun a1 w1 hq1 => ?_
        obtain ⟨fr1, ⟨R1, Γ1, hs1⟩, gf, ps, caps, M', news, Ho, A, hx, hM', hκ, hA, hout, hAv, hcaps, hflat, hrest⟩ := hq1
        have hgn : ∀ s ∈ (List.range H.length).map (M + ·) ++ news, (fun _ : Nat => false) s = false := fun _ _ => rfl
        generalize hκe : (List.range H.length).map (M + ·) ++ news = κ at hκ hout hAv hcaps hgn
        have hv := hs1.rd x
        rw [hx] at hv
        generalize hux : a1.eval x = ux at hv
        cases hv with
        | clo _ uf uc _ _ l1 l2 _ r2 =>
        obtain rfl : uf = [] := by simpa using l1
        have hex : (execOp a1.eval o2).run P w1 = .ok (.defer { target := .fn (.func gf) uc.toArray, args := #[] }) w1 := by
          simp only [execOp, ho, resolve, Deferred.ofValue, hux]
          simp [go_sem]
        refine OpR_wp (K := fun a' w' => a' = { a1 with defers := [{ target := .fn (.func gf) uc.toArray, args := #[] }] } ∧ w' = w1) (ops := #[o1, o2]) (o := o2) rfl (by simp [Region.wanted, hg]) (.inl rfl) (fun _ _ hq => hq.elim) ?_ [] fun a' w' ⟨ha', hw'⟩ => RegR_nil ?_
        · unfold Oper.wp
          rw [hex, Oper.upon_defer]
          refine ⟨?_, rfl⟩
          rw [hdst, hs1.defers]
          rfl
        · subst ha' hw'
          obtain ⟨hlend, hRp1⟩ := hs1.lend hout hκ hgn
          obtain ⟨_, hview⟩ := hs1.leave hout hκ hgn
          have hR1 : ∀ b o, freedAt R1 Γ1 (fun _ => false) b o → R1 b o := fun b o hb => by
            rcases hb with hb | ⟨s, m, hg, _⟩
            · exact hb
            · cases hg
          have hent := hlend.enter (N := fn.ntmps) (M := M') (vs := a1.tmps.toList) (args := A) (by simp [hA, hs1.size]) (fun i u q hu hq => by
            have hlt := lt_of_get? hq
            rw [hA] at hlt
            have hqA : A.getD i .undef = q := by simp [List.getD, hq]
            have h1 := hAv i hlt
            rw [hqA] at h1
            refine hview q _ u h1 ?_
            have h2 := hs1.rd (.tmp i)
            rw [Array.getElem?_toList] at hu
            have : a1.eval (.tmp i) = u := by simp [Act.eval, hu]
            rwa [this] at h2) (by simp [hA]) hM'
          have hact : ({ tmps := a1.tmps.toList.toArray ++ Array.replicate (fn.ntmps - a1.tmps.toList.toArray.size) undef, defers := [] } : Act) = { tmps := a1.tmps, defers := [] } := by
            have e1 : a1.tmps.toList.toArray = a1.tmps := Array.toArray_toList
            rw [e1, hs1.size]
            simp
          rw [hact] at hent
          have hs2 : Sim fn.ntmps ⟨Prot, w, R, fun i => if M' ≤ i then Γout Γ1 Ho κ (i - M') else none, M', [{ target := .fn (.func gf) uc.toArray, args := #[] }]⟩ (freedAt R1 Γ1 fun _ => false) (fun i => if M' ≤ i then Γout Γ1 Ho κ (i - M') else none) { a1 with defers := [{ target := .fn (.func gf) uc.toArray, args := #[] }] } w' (frame0 M' A Ho) := by
            refine hent.moved (fun b o _ => rfl) (fun i l b hi hb => rfl) (Nat.le_refl _) (fun i l b hi hb hp => ?_) (fun b o hb => ?_) hs1.kept hs1.prot hM' (fun j l hj hl => ⟨l, hl, Loc.le_refl l⟩) rfl rfl
            · skip
              split at hi
              · obtain ⟨s, m, _, hm', hmb⟩ := Γout_blk hi hb
                exact ((hs1.own s m hm').2 b hmb).1 hp
              · cases hi
            · exact hs1.sub b o (hR1 b o hb)
          generalize hB1 : (⟨Prot, w, R, fun i => if M' ≤ i then Γout Γ1 Ho κ (i - M') else none, M', [{ target := .fn (.func gf) uc.toArray, args := #[] }]⟩ : Base) = B1 at hs2
          have hB1D : B1.D = [{ target := .fn (.func gf) uc.toArray, args := #[] }] := by rw [← hB1]
          have hC : ECtx B1 () ⟨Prot, w, R, fun i => if M' ≤ i then Γout Γ1 Ho κ (i - M') else none, M', [{ target := .fn (.func gf) uc.toArray, args := #[] }]⟩ := by
            subst hB1
            exact ⟨rfl, fun _ x => x, Kept.refl _ _, fun b o hb => .inl hb, rfl, [], List.nodup_nil, rfl, fun r hr => by cases hr⟩
          have hprot : ProtOk B1.Prot B1.w0 := by subst hB1; exact h0.prot
          rw [hB1] at hC
          refine wr_mono (hrest B1 (by rw [← hB1]) B1 _ w' hC hs2.toE) fun e a2 w2 ⟨_, B', hC', R2, Γ2, g, x2, hs30, hu, hq⟩ => ?_
          have hs3 := hs30.ofE hC' hprot
          obtain ⟨_, _, _, _, _, ms, hms, hD', hmk⟩ := hC'
          rw [hB1D] at hD'
          have hΓ1 : ∀ j l, Γout Γ1 Ho κ j = some l → B1.Γ0 (M' + j) = some l := fun j l hl => by
            rw [← hB1]; dsimp only; rw [if_pos (by omega), Nat.add_sub_cancel_left]; exact hl
          have hlo1 : B1.lo = M' := by rw [← hB1]
          have hbase : ∀ {w2 : World}, Sim fn.ntmps { B1 with D := B'.D } R2 Γ2 a2 w2 g → ∀ j l, B1.Γ0 (M' + j) = some l → ∃ l', Γ2 (M' + j) = some l' ∧ Loc.le l l' := fun hs j l hl => hs.base (M' + j) l (by rw [show ({ B1 with D := B'.D } : Base).lo = M' from hlo1]; omega) hl
          have hcap : ∀ (w2 : World), Sim fn.ntmps { B1 with D := B'.D } R2 Γ2 a2 w2 g → ∀ (i : Nat) (u : Value) (q : PV), uc[i]? = some u → (renL (M' + ·) caps)[i]? = some q → Rep w2 R2 Γ2 u q := fun w2 hs3 i u q hu hq => by
            rw [renL_get] at hq
            simp only [Option.map_eq_some_iff] at hq
            obtain ⟨q0, hq0, rfl⟩ := hq
            obtain ⟨p0, hp0, hv0⟩ := vwAll_get hcaps i q0 hq0
            refine (hview q0 p0 u hv0 (r2 i u p0 hu hp0)).ren (.inl (hflat q0 (List.mem_of_getElem? hq0))) fun j _ l hl => ?_
            exact hbase hs3 j l (hΓ1 j l hl)
          have hlc : uc.length = (renL (M' + ·) caps).length := by rw [renL_length, vwAll_length hcaps]; exact l2
          have fin : ∀ (rv : Option Value) (rc : Option PV), (match rv, rc with | none, none => True | some v, some p => p.plain = true ∧ p.flat = true ∧ Rep w2 R2 Γ2 v p | _, _ => False) → dend P M' H.length fn.results.toList gf caps Q rc g → LeavesC P fn a2.tmps (Left Prot w R Γ Q) a2.defers (modeOf rv) w2 := by
            rintro rv rc hrv0 ⟨ιd, Hd, capsd, hιd, houtd, hcapsd, hdw, hdc⟩
            have hrv : ∀ w2 : World, match rv, rc with | none, none => True | some v, some p => p.plain = true ∧ p.flat = true ∧ Rep w2 R2 Γ2 v p | _, _ => False := fun w' => by
              cases rv with
              | none => cases rc with
                | none => trivial
                | some p => exact hrv0.elim
              | some v => cases rc with
                | none => exact hrv0.elim
                | some p => exact ⟨hrv0.1, hrv0.2.1, plain_rep hrv0.2.2 hrv0.1 hrv0.2.1 _ _ _⟩
            rw [hs30.defers, hD']
            refine marks_leave (by cases rv <;> simp [modeOf]) ms w2 { B1 with D := B'.D } hms (fun r hr => ?_) hs3 fun w2 hs3 => ?_
            · obtain ⟨h1, h2, h3⟩ := hmk r hr
              exact ⟨h2, (hs30.kept.block r h1).trans h3⟩
            have hrv := hrv w2
            have hcap := hcap w2 hs3
            have hgd : ∀ s ∈ ιd, (fun _ : Nat => false) s = false := fun _ _ => rfl
            obtain ⟨hlend3, hRp3⟩ := hs3.lend houtd hιd hgd
            obtain ⟨_, hview3⟩ := hs3.leave houtd hιd hgd
            refine ⟨by cases rv <;> simp [modeOf], .inr ⟨.func gf, uc.toArray, gf, uc.toArray, rfl, ?_, ?_⟩⟩
            · simp [invoke, go_sem, hdw]
            · refine (hdc w2 uc _ _ _ rv hRp3 hlend3 ?_ (fun i u q hu hq => ?_) ?_).mono ?_
              · rw [hlc, vwAll_length hcapsd]
              · obtain ⟨p, hp, hv⟩ := vwAll_get hcapsd i q hq
                exact hview3 q p u hv (hcap i u p hu hp)
              · cases rv with
                | none => cases rc with
                  | none => trivial
                  | some p => exact hrv.elim
                | some v => cases rc with
                  | none => exact hrv.elim
                  | some p =>
                    obtain ⟨hp1, hp2, hr⟩ := hrv
                    have := Rep.ren (π := fun i => i) (R' := freedAt R2 Γ2 fun _ => false) (w' := w2) (Γ' := Γout Γ2 Hd ιd) hr (.inl hp2) (fun j hj => by rw [plain_names hp1] at hj; cases hj)
                    rwa [ren_plain hp1] at this
              · rintro e u' w3 ⟨⟨v, rfl⟩, rfl, R3, Γ3, H3, ⟨hl3, xr, r, H2, news2, hpr, hlv, hQ⟩, hs4, hobj⟩
                have hset : settle (modeRec rv) = .returning := by cases rv <;> rfl
                show LeavesC P fn a2.tmps _ [] (settle (modeRec rv)) w3
                rw [hset]
                obtain ⟨hm1, _⟩ := hs3.merge (news := []) houtd hs4 (by simpa using hιd) (by simpa using hl3) (fun s hs => by cases hs) (.inl fun _ => rfl) hobj
                have eback : placeAll ((ιd ++ []).getD · 0) (ιd ++ []) H3 g = back g ιd H3 := by simp only [List.append_nil]; rfl
                rw [eback] at hm1
                obtain ⟨v, hv, hrv⟩ := presults_sound (P := P) hm1 fn hpr
                refine ⟨v, hv, ?_⟩
                obtain ⟨hn2, hout2, hv2⟩ := hlv
                obtain ⟨h1, h2⟩ := hm1.leave hout2 hn2 (fun s hs => by have := List.contains_iff_mem.2 hs; show (!_) = false; rw [this]; rfl)
                subst hB1
                refine ⟨_, _, .inl ⟨v, r, H2, rfl, hQ, h2 r xr v hv2 hrv, h1.rebase fun j l hjl => ?_, fun q hq => ?_⟩⟩
                · obtain ⟨⟨p, hp, _⟩, _⟩ := h0.own j l hjl
                  have hj := lt_of_get? hp
                  have hb : (base0 Prot w R Γ M).Γ0 (M + j) = some l := by
                    simp only [base0]
                    rw [if_pos (by omega), Nat.add_sub_cancel_left]; exact hjl
                  obtain ⟨l1, e1, e2⟩ := hs1.base (M + j) l (Nat.le_add_right _ _) hb
                  have hκ1 : κ[j]? = some (M + j) := by
                    rw [← hκe, List.getElem?_append_left (by simpa using hj)]; exact range_get M hj
                  obtain ⟨l2, e3, e4⟩ := Γout_le hs1 hout hκ1 e1
                  obtain ⟨l3, e5, e6⟩ := hm1.base (M' + j) l2 (Nat.le_add_right _ _) (hΓ1 j l2 e3)
                  have hκ2 : ((List.range H.length).map (M' + ·) ++ news2)[j]? = some (M' + j) := by
                    rw [List.getElem?_append_left (by simpa using hj)]; exact range_get M' hj
                  obtain ⟨l4, e7, e8⟩ := Γout_le hm1 hout2 hκ2 e5
                  exact ⟨l4, e7, Loc.le_trans e2 (Loc.le_trans e4 (Loc.le_trans e6 e8))⟩
                · obtain ⟨i, hi⟩ := List.mem_iff_getElem?.1 hq
                  obtain ⟨s, p, _, _, hbare, _⟩ := outF_get hout2 i q hi
                  cases q <;> first | rfl | cases hbare
          cases e with
          | ret => cases x2 with
            | ret => exact fin none none trivial hq
            | _ => exact hu.elim
          | normal => cases x2 with
            | normal => exact fin none none trivial hq
            | _ => exact hu.elim
          | panic ch => cases x2 with
            | panic p =>
              obtain ⟨v, rfl, hrv⟩ := hu
              obtain ⟨hp1, hp2, hq⟩ := hq
              exact fin (some v) (some p) ⟨hp1, hp2, hrv⟩ hq
            | _ => exact hu.elim
          | exit id => cases x2 with
            | exit id' => exact hq.elim
            | _ => exact hu.elim
          | goto id => cases x2 with
            | goto id' => exact hq.elim
            | _ => exact hu.elim
          | outgrown => cases x2 <;> exact hu.elim
      | _ => exact hu0.elim
    | _ => exact hq0.elim
end
section
variable {P : Program} {N M l : Nat} {els : List PV} {Rb : Nat → Prop} {J : GS → (Nat → Prop) → World → Prop} {Q : GS → PX → PF → Prop} {s : GS} {fr : PF}
theorem XW_yieldS (henv : Env P l els Rb J) {id : Nat} {ops : Array Oper} (hd : dstsIn N (.region id ops false) = true) {m : Nat} (hm : m < ops.toList.length) (hp : pops P M ops.toList (pyield P M ops.toList m l els Q s) (fun p => Q s (.panic p)) (ops.toList.take m) fr) :
    XW P N (GCtx M Rb J) s (.region id ops false) Q fr := fun B a w hC hs => by
  have hN := dsts_mem hd
  have hnd : ∀ {s' : GS} {B' : Base}, GCtx M Rb J s' B' → PanUp N B' (UpX N (GCtx M Rb J) Q) (fun p => Q s' (.panic p)) := fun {s' B'} hC' R Γ a w fr v p hs hr hk => ⟨s', B', hC', pan_up R Γ a w fr v p hs hr hk⟩
  have hnq : ∀ {s' : GS} {B' : Base}, GCtx M Rb J s' B' → ∀ a w fr, SimE N B' a w fr → Q s' .normal fr → UpX N (GCtx M Rb J) Q .normal a w := fun {s' B'} hC' a w fr ⟨R, Γ, hs⟩ hk => ⟨s', B', hC', R, Γ, fr, .normal, hs, trivial, hk⟩
  refine wr_region ?_
  obtain ⟨r, hr⟩ : ∃ r, ops.toList.length = m + (r + 1) := ⟨ops.toList.length - m - 1, by omega⟩
  have hsz : ops.size = m + (r + 1) := by simpa using hr
  rw [List.range_eq_range', hsz]
  refine pre_sound (K := pyield P M ops.toList m l els Q s) (Kp := fun p => Q s (.panic p)) ops rfl hN hC.1 (hnd hC) upX_out (r := r + 1) m 0 (by omega) (fun a w fr hs hy => ?_) a w fr hs (by simpa using hp)
  rw [Nat.zero_add, List.range'_succ]
  unfold pyield at hy
  split at hy
  case h_2 => exact hy.elim
  rename_i o ho
  have hops : ops[m]? = some o := by rw [← ho]; simp
  have hoN := hN o (List.mem_of_getElem? ho)
  refine (?_ : OpR P none ops (UpX N (GCtx M Rb J) Q) m (fun a' w' => ∃ (s' : GS) (B' : Base) (fr' : PF), GCtx M Rb J s' B' ∧ SimE N B' a' w' fr' ∧ pops P M ops.toList (Q s' .normal) (fun p => Q s' (.panic p)) (ops.toList.drop (m + 1)) fr') a w) (List.range' (m + 1) r) fun a' w' ⟨s', B', fr', hC', hs', hp'⟩ =>
    pops_sound ops rfl hN hC'.1 (hnd hC') upX_out (hnq hC') r (m + 1) (by omega) a' w' fr' hs' hp'
  split at hy
  · rename_i hw
    have hwd := wanted_sound hs rfl hN hw
    split at hy
    case h_2 => exact hy.elim
    rename_i c hc
    obtain ⟨hop, _⟩ := isCall_some hc
    split at hy
    case h_2 => exact hy.elim
    rename_i x y hya
    obtain ⟨hcal, hargs⟩ := yargs_some hya
    obtain ⟨hx, n, rfl, hel, hcl, hyt, hyf, hyp⟩ := hy
    obtain ⟨hlo, hD, F, hJ, hF, hRb, hR0⟩ := hC
    obtain ⟨R, Γ, hs⟩ := hs
    have hxv := hs.rd x
    rw [hx] at hxv
    have hyv := hs.rd y
    have hux : a.eval x = .func (.yield l) #[] #[] := by
      generalize a.eval x = u at hxv
      cases hxv with
      | clo _ uf uc _ _ h1 h2 _ _ =>
        obtain rfl : uf = [] := by simpa using h1
        obtain rfl : uc = [] := by simpa using h2
        rfl
    have hJw : J (.on n) F w := henv.stab _ F B.w0 w hJ (fun b hb => hs.kept.block b (hF b hb)) hs.kept.size hs.kept.os hs.kept.tape hs.kept.output
    obtain ⟨f, tmps, assign, body, hrun, hround⟩ := henv.yield n F w (a.eval y) _ R Γ hJw hel hyv
    have hex : (execOp a.eval o).run P w = .ok (.round l f tmps assign body) w := by
      have e1 : c.args = #[y] := by rw [← Array.toArray_toList (xs := c.args), hargs]
      obtain ⟨callee, args, ats⟩ := c
      dsimp only at hcal e1
      subst hcal e1
      simp only [execOp, hop, resolve, Deferred.ofValue, hux, Sem.run_bind, Sem.run_pure, Result.andThen_ok, invoke, List.map_toArray, List.map_cons, List.map_nil]
      simpa using hrun
    refine OpR_yield hops hwd (fun c' hc' => by rw [hop] at hc'; cases hc') hex ?_
    intro cf cs
    obtain ⟨e, w', ⟨F', hcase, hF', hk⟩, hsteps⟩ := hround cf cs
    have hs' := hs.turn henv.tab hD hF hR0 hk
    have hnF : ∀ x, x < w.heap.size → ¬ F x → ¬ F' x := fun x hx hn hf => by
      rcases hF' x hf with h | h
      · exact hn h
      · omega
    have mkC : ∀ s', J s' F' w' → GCtx M Rb J s' ⟨fun b => b < w'.heap.size ∧ ∀ i l, Γ i = some l → l.blk ≠ some b, w', R, fun i => if B.lo ≤ i then Γ i else none, B.lo, []⟩ := fun s' hJ' => by
      refine ⟨hlo, rfl, F', hJ', fun x hx => ⟨henv.bnd _ _ _ _ hJ' hx, fun i l hl hb => ?_⟩, fun x hx => ⟨?_, fun i l hl hb => ?_⟩, fun x o hx => ?_⟩
      · obtain ⟨h1, h2, _⟩ := (hs.own i l hl).2 x hb
        exact hnF x h2 (fun hf => h1 (hF x hf)) hx
      · have := hs.prot x (hRb x hx)
        have := hs.kept.size
        have := hk.size
        omega
      · exact ((hs.own i l hl).2 x hb).1 (hRb x hx)
      · rcases hs.sub x o hx with h0 | h0
        · rcases hR0 x o h0 with h1 | h1
          · exact .inl h1
          · exact .inr (hnF x (hs.bnd x o hx) h1)
        · exact .inr (hnF x (hs.bnd x o hx) fun hf => h0 (hF x hf))
    cases e with
    | outgrown => exact hcase.elim
    | panicked ch =>
      obtain ⟨pv, p, rfl, hrep, hJ'⟩ := hcase
      exact ⟨.panicked _, w', ⟨.pan p, _, mkC _ hJ', R, Γ, fr, .panic p, hs', ⟨pv, rfl, hrep _ _ _⟩, hyp p⟩, hsteps⟩
    | returned ret =>
    obtain ⟨b, rfl, hJ'⟩ := hcase
    have hC' := mkC _ hJ'
    refine ⟨.returned (.bool b), w', ?_, hsteps⟩
    have hput := fun (bb : Bool) (hc : pclear o.dst (.v (.bool bb)) fr = true) => (hs'.put o.dst hoN hc (u := .bool bb) (.v (.bool bb) rfl)).toE
    cases b with
    | true => exact ⟨_, _, _, hC', hput true hcl, hyt⟩
    | false =>
      refine ⟨_, _, _, hC', hput false ?_, hyf⟩
      revert hcl
      unfold pclear
      cases o.dst with
      | none => intro _; rfl
      | some d =>
        dsimp only
        cases fr[d]? with
        | none => intro _; rfl
        | some q =>
          dsimp only
          split
          · intro hcl
            refine List.all_eq_true.2 fun z hz => ?_
            obtain ⟨t, ht⟩ := List.mem_iff_getElem?.1 hz
            rcases getElem?_set' ht with ⟨rfl, rfl, hl'⟩ | ⟨hne, ht'⟩
            · simp [PV.names]
            · exact List.all_eq_true.1 hcl z (List.mem_of_getElem? (i := t) (by rw [List.getElem?_set_ne (Ne.symm hne)]; exact ht'))
          · intro _; rfl
  · rename_i hw
    exact OpR_skip hops (wanted_sound hs rfl hN hw) ⟨_, _, _, hC, hs.skip hoN hy.1, hy.2⟩
  · exact hy.elim
end
theorem dmidE_of {P : Program} {N M k : Nat} {rs : List ResultVar} {c : Code} {x : Operand} {Q : Out → Prop} {fr : PF} {gf : FuncId} {ps : List PV} (caps : List PV) (M' : Nat) (news : List Nat) (H A : PF) (hx : rd fr x = .clo (.func gf) [] ps) (hM : N ≤ M') (hn : ((List.range k).map (M + ·) ++ news).Nodup) (hA : A.length = N)
    (ho : outF fr (tgtAt H ((List.range k).map (M + ·) ++ news) fun _ => false) 8 H ((List.range k).map (M + ·) ++ news))
    (hv : vwAll (vw fr (tgtAt H ((List.range k).map (M + ·) ++ news) fun _ => false) 8) A (slots 0 N fr))
    (hc : vwAll (vw fr (tgtAt H ((List.range k).map (M + ·) ++ news) fun _ => false) 8) caps ps) (hf : ∀ p ∈ caps, p.flat = true)
    (h : ∀ B0 : Base, B0.lo = M' → XW P N (ECtx B0) () c (fun _ => dpost P M' k rs gf caps Q) (frame0 M' A H)) : dmidE P N M k rs c x Q fr := ⟨gf, ps, caps, M', news, H, A, hx, hM, hn, hA, ho, slots_vw hv, hc, hf, h⟩
end Go.Qg


namespace Go.Qg
open Go.Proofs
set_option maxRecDepth 100000
set_option maxHeartbeats 8000000
attribute [local irreducible] pwp pops pdraw pop popCall pdCall thenP blockP scopeP pspec Spec answers ppost CallW rend
def CnrsOk (P : Pln) : Prop := ∀ i, i < P.corners.length → (0 ≤ (cnrAt P.corners i).weight ∧ (cnrAt P.corners i).weight ≤ 20000) ∧ -20000000 ≤ (cnrAt P.corners i).moment ∧ (cnrAt P.corners i).moment ≤ 20000000
theorem edg_small {P : Pln} (h : CnrsOk P) {e : Nat} (he : e < P.corners.length) : Small 20000 (P.cA e).weight ∧ Small 20000000 (P.cA e).moment ∧ Small 20000 (P.dw e) ∧ Small 40000000 (P.dm e) := by
  have h1 := h e he
  have h2 := h ((e + 1) % P.corners.length) (Nat.mod_lt _ (by omega))
  simp only [Small, Pln.cA, Pln.cB, Pln.dw, Pln.dm]
  omega
def edgs (P : Pln) : List PV := (List.range P.corners.length).map fun e => .agg (edgC P e)
theorem edg_get {P : Pln} {n : Nat} {p : PV} (h : (edgs P)[n]? = some p) : n < P.corners.length ∧ p = .agg (edgC P n) := by
  have hl : n < P.corners.length := by
    have := (List.getElem?_eq_some_iff.1 h).1
    simpa [edgs] using this
  refine ⟨hl, ?_⟩
  simp [edgs, hl] at h
  exact h.symm
theorem edgs_length (P : Pln) : (edgs P).length = P.corners.length := by simp [edgs]
theorem edgs_plain {P : Pln} : ∀ p ∈ edgs P, p.plain = true ∧ p.flat = true := fun p hp => by
  obtain ⟨e, _, rfl⟩ := List.mem_map.1 hp
  exact ⟨rfl, rfl⟩
theorem edges_spec (P : Pln) : Spec Tryz.prog 116 [.agg P.cells] (.clo (.func 144) [] [.rp P.cells 0]) := by
  refine spec_of mixed Tryz.func116 (by decide) rfl Tryz.results116 Tryz.ntmps116 (by decide) 0 (by simp) ?_
  simp [Pln.cells, cnrL, stnL]
  refine answers_of rfl ?_; simp [Pln.cells, cnrL, stnL]
theorem edges_gen (P : Pln) (hc : CnrsOk P) (hn : P.corners.length ≤ 1000000) : GenW Tryz.prog 144 [.rp P.cells 0] (edgs P) := by
  refine gen_of Tryz.func144 (by decide) rfl Tryz.results144 Tryz.ntmps144 0 (by simp) fun l Rb J henv => ?_
  have hlo : ∀ s B, GCtx 47 Rb J s B → B.lo = 47 := fun _ _ h => h.1
  refine XW_seqP mixed hlo (by decide) ?_
  simp [Pln.cells, cnrL, stnL]
  refine XW_block ?_
  refine XW_loopV hlo (fun k : Nat => [(10, .v (.int .i64 k))]) (fun k => GS.on k) (fun k => k ≤ P.corners.length) (fun k => P.corners.length - k) 0 (Nat.zero_le _) rfl (by simp; rfl) (by simp) ?_
  intro k hk
  refine XW_seqP mixed hlo (by decide) ?_
  by_cases hlt : k < P.corners.length
  · have wk := i64_wrap (show -9223372036854775808 ≤ (k : Int) + 1 ∧ _ from by omega)
    have hne : ¬ P.corners = [] := fun e => by rw [e] at hlt; cases hlt
    obtain ⟨j, hj⟩ : ∃ j : Nat, j = (k + 1) % P.corners.length := ⟨_, rfl⟩
    have hjl : j < P.corners.length := hj ▸ Nat.mod_lt _ (by omega)
    have hji : ((k : Int) + 1).tmod (P.corners.length : Int) = (j : Int) := by rw [hj]; rfl
    have hsm := edg_small hc hlt
    obtain ⟨s1, s2, s3, s4⟩ := hsm
    simp only [Small, Pln.dw, Pln.dm, Pln.cA, Pln.cB, ← hj] at s1 s2 s3 s4
    simp [hlt]
    refine XW_seqP mixed hlo (by decide) ?_
    simp
    refine XW_seqX (XW_block ?_)
    refine XW_seqP mixed hlo (by decide) ?_
    simp [hlt, Cnr.cells]
    refine XW_seqP mixed hlo (by decide) ?_
    refine pwp_draw 13 (by decide) ?_
    simp [hlt, Cnr.cells, wk, hne, hji, hjl]
    refine ⟨by decide, ?_⟩
    refine XW_seqX (XW_yieldS (m := 17) henv (by decide) (by decide) ?_)
    have g1 : IntKind.i64.wrap ((cnrAt P.corners j).weight - (cnrAt P.corners k).weight) = P.dw k := by rw [Pln.dw, Pln.cA, Pln.cB, ← hj]; exact i64_wrap (by omega)
    have g2 : IntKind.i64.wrap ((cnrAt P.corners j).moment - (cnrAt P.corners k).moment) = P.dm k := by rw [Pln.dm, Pln.cA, Pln.cB, ← hj]; exact i64_wrap (by omega)
    have hel : (edgs P)[k]? = some (.agg [.v (.int .i64 k), .v (.int .i64 (cnrAt P.corners k).weight), .v (.int .i64 (cnrAt P.corners k).moment), .v (.int .i64 (P.dw k)), .v (.int .i64 (P.dm k))]) := by
      simp [edgs, hlt, edgC, Pln.cA]
    simp
    simp [pyield, yargs, g1, g2, hel]
    refine ⟨?_, ?_⟩
    · refine XW_pwp mixed hlo (by decide) ?_
      simp
      refine XW_pwp mixed hlo (by decide) ?_
      simp [wk]
      refine againX_of (k + 1) (by omega) (by omega) rfl ?_
      simp
    · refine XW_pwp mixed hlo (by decide) ?_
      simp
  · obtain rfl : k = P.corners.length := by omega
    simp
    refine XW_pwp mixed hlo (by decide) ?_
    simp [edgs_length]
end Go.Qg


namespace Go.Qg
open Go.Proofs
set_option maxRecDepth 100000
set_option maxHeartbeats 16000000
attribute [local irreducible] pwp pops pdraw pop popCall pdCall thenP blockP scopeP pspec Spec answers ppost CallW rend
theorem allN_succ (n : Nat) (p : Nat → Bool) : allN (n + 1) p = (allN n p && p n) := by simp [allN, List.range_succ]
theorem allN_no {n : Nat} {p : Nat → Bool} (h : allN n p = false) {k : Nat} (hk : n ≤ k) : allN k p = false := by
  induction k with
  | zero => obtain rfl : n = 0 := by omega
            exact h
  | succ k ih =>
    rcases Nat.lt_or_eq_of_le hk with h1 | rfl
    · rw [allN_succ, ih (by omega)]; rfl
    · exact h
def cvxB (P : Pln) (e k : Nat) : Bool := decide (k = e) || decide (k = (e + 1) % P.corners.length) || decide (0 < P.side e (cnrAt P.corners k).weight (cnrAt P.corners k).moment)
def cvxR (P : Pln) (e : Nat) : Bool := allN P.corners.length (cvxB P e)
def convexB (P : Pln) : Bool := allN P.corners.length (cvxR P)
def cvxV (P : Pln) : PF := [.undef, .rp P.cells 0, .box true [.v (.bool false)], .undef, .undef, .undef, .undef, .undef, .undef, .undef, .undef, .undef, .undef, .undef, .undef, .undef, .undef, .undef, .undef, .undef, .undef, .undef, .undef, .undef, .undef, .undef, .undef, .undef, .undef, .undef, .undef, .undef, .undef, .undef, .undef, .undef, .undef, .undef, .undef, .undef, .undef, .undef, .undef, .undef]
def cvxA (P : Pln) : PF := [.undef, .rp P.cells 0, .ref 0 0, .undef, .undef, .undef, .undef, .undef, .undef, .undef, .undef, .undef, .undef, .undef, .undef, .undef, .undef, .undef, .undef, .undef, .undef, .undef, .undef, .undef, .undef, .undef, .undef, .undef, .undef, .undef, .undef, .undef, .undef, .undef, .undef, .undef, .undef, .undef, .undef, .undef, .undef, .undef, .undef, .undef]
theorem convex_spec (P : Pln) (hc : CnrsOk P) (hn : P.corners.length ≤ 1000000) : Spec Tryz.prog 134 [.agg P.cells] (.v (.bool (convexB P))) := by
  have hgen := edges_gen P hc hn
  unfold Spec
  refine callW_ofE Tryz.func134 (by decide) rfl (congrArg Array.toList Tryz.results134) Tryz.ntmps134 44 (by simp) (by decide) fun B0 hB0 hD0 => ?_
  have hlo : ∀ s B, ECtx B0 s B → B.lo = 44 := fun _ _ h => h.1.trans hB0
  refine XW_seqP mixed hlo (by decide) ?_
  simp [Pln.cells, cnrL, stnL]
  refine XW_seqX (XW_seqP mixed hlo (by decide) ?_)
  simp
  refine pop_spec (edges_spec P) rfl false (.inl (by simp [Pln.cells, cnrL, stnL])) (.inl rfl) rfl (by simp) ?_
  simp
  refine XW_block ?_
  refine XW_rangeI (by decide) mixed rfl (by rfl) hgen edgs_plain (by decide) (by decide) 44 (by decide) [2] (by decide)
    (fun n => if allN n (cvxR P) = true then cvxV P else [])
    (fun n => cvxA P)
    (fun n => [.box false [.v (.bool false)]]) ?_ (fun n hn hV => ?_) (fun n q hq hV => ?_) ?_
  · rw [hB0]
    simp [allN, cvxV, Pln.cells, cnrL, stnL]
  · cases hs : allN n (cvxR P) with
    | false => simp [hs] at hV
    | true =>
      refine ⟨rfl, ?_, slots_view (t := 8) ?_ rfl⟩
      · simp [cvxV, Pln.cells, cnrL, stnL]
      · simp [slots, cvxV, cvxA, Pln.cells, cnrL, stnL]
  · obtain ⟨hnl, rfl⟩ := edg_get hq
    obtain ⟨s1, s2, s3, s4⟩ := edg_small hc hnl
    rw [hB0]
    cases hs : allN n (cvxR P) with
    | false => simp [hs] at hV
    | true =>
      have hsucc := allN_succ n (cvxR P)
      have hne : ¬ P.corners = [] := fun e => by rw [e] at hnl; cases hnl
      obtain ⟨j, hj⟩ : ∃ j : Nat, j = (n + 1) % P.corners.length := ⟨_, rfl⟩
      have hji : ((n : Int) + 1).tmod (P.corners.length : Int) = (j : Int) := by rw [hj]; rfl
      have wn := i64_wrap (show -9223372036854775808 ≤ (n : Int) + 1 ∧ _ from by omega)
      simp [cvxA, edgC, Pln.cells, cnrL, stnL]
      refine pwp_loop (fun k : Nat => [(13, .v (.int .i64 k))]) (fun k => k ≤ P.corners.length ∧ ∀ i, i < k → cvxB P n i = true) (fun k => P.corners.length - k) 0 ⟨Nat.zero_le _, fun i hi => by omega⟩ (by simp; rfl) (by simp) ?_
      intro k ⟨hk, hp⟩
      by_cases hkl : k < P.corners.length
      · have wk := i64_wrap (show -9223372036854775808 ≤ (k : Int) + 1 ∧ _ from by omega)
        have go : cvxB P n k = true → ∀ i, i < k + 1 → cvxB P n i = true := fun hb i hi => by
          rcases Nat.lt_or_eq_of_le (Nat.le_of_lt_succ hi) with h' | rfl
          · exact hp i h'
          · exact hb
        by_cases c1 : k = n
        · subst c1
          simp [hkl, Cnr.cells]
          refine again_of (k + 1) ⟨by omega, go (by simp [cvxB])⟩ (by omega) ?_
          simp [wk]
        by_cases c2 : k = j
        · subst c2
          simp (config := { maxSteps := 4000000 }) [hkl, Cnr.cells, c1, show ¬ (k : Int) = n from by omega, wn, hne, hji]
          refine again_of (k + 1) ⟨by omega, go (by simp [cvxB, ← hj])⟩ (by omega) ?_
          simp [wk]
        have hck := hc k hkl
        have hside := side_spec (n : Int) (P.cA n).weight (P.cA n).moment (P.dw n) (P.dm n) (cnrAt P.corners k).weight (cnrAt P.corners k).moment s1 s2 s3 s4 (by simp only [Small]; omega) (by simp only [Small]; omega)
        rw [show P.dw n * ((cnrAt P.corners k).moment - (P.cA n).moment) - P.dm n * ((cnrAt P.corners k).weight - (P.cA n).weight) = P.side n (cnrAt P.corners k).weight (cnrAt P.corners k).moment from rfl] at hside
        have d1 : ¬ (k : Int) = n := by omega
        have d2 : ¬ (k : Int) = j := by omega
        simp (config := { maxSteps := 4000000 }) [hkl, Cnr.cells, c1, d1, wn, hne, hji, c2, d2]
        refine pop_spec hside rfl false (.inl (by simp)) (.inl rfl) rfl (by simp) ?_
        by_cases c3 : P.side n (cnrAt P.corners k).weight (cnrAt P.corners k).moment ≤ 0
        · have hb : cvxB P n k = false := by simp [cvxB, c1, ← hj, c2, c3]
          have hno : allN (n + 1) (cvxR P) = false := by rw [hsucc, show cvxR P n = false from allN_false hkl hb]; simp
          have hall : convexB P = false := allN_no hno (show n + 1 ≤ P.corners.length by omega)
          simp [c3, hno, d1, d2]
          refine rend_r [.box false [.v (.bool false)]] ?_ ?_
          · simp
          · simp [back, placeAll, cvxV, blockX, thenX]
            refine ends_of (.v (.bool false)) [] [] rfl (by decide) ?_ ?_ (by simp [hall])
            · simp
            · simp
        · simp [c3, d1, d2]
          refine again_of (k + 1) ⟨by omega, go (by simp [cvxB, Int.not_le.1 c3])⟩ (by omega) ?_
          simp [wk]
      · obtain rfl : k = P.corners.length := by omega
        have hyes : allN (n + 1) (cvxR P) = true := by rw [hsucc, hs, show cvxR P n = true from allN_spec.2 hp]; rfl
        simp [hyes]
        refine rend_n [.box false [.v (.bool false)]] ?_ ?_
        · simp
        · simp [back, placeAll, cvxV, Pln.cells, cnrL, stnL]
  · intro hV
    rw [edgs_length] at hV ⊢
    cases hs : allN P.corners.length (cvxR P) with
    | false => simp [hs] at hV
    | true =>
      simp [blockX, thenX, cvxV]
      refine XW_pwp mixed hlo (by decide) ?_
      simp
      refine ends_of (.v (.bool true)) [] [] rfl (by decide) ?_ ?_ (by rw [convexB, hs])
      · simp
      · simp
def cornersB (P : Pln) : Bool := allN P.corners.length fun k => cnrB (cnrAt P.corners k)
def stnsB (l : List Stn) : Bool := allN l.length fun k => stnB (stnAt l k)
def validB (P : Pln) : Bool :=
  inB P.empty 1 20000 && inB P.moment (-20000000) 20000000 && kilosB [P.takeoff, P.landing, P.reserve] && inB P.corners.length 3 12 && decide (P.stations.length ≤ 8) && decide (P.floats.length ≤ 2) && cornersB P && stnsB P.stations && stnB P.tank && stnsB P.floats && convexB P
theorem corners_ok {P : Pln} (h : cornersB P = true) : CnrsOk P := fun i hi => by
  have := allN_spec.1 h i hi
  simpa [cnrB, inB_spec] using this
theorem convex_ok {P : Pln} : convexB P = true ↔ ∀ e, e < P.corners.length → ∀ k, k < P.corners.length → k ≠ e → k ≠ (e + 1) % P.corners.length → 0 < P.side e (cnrAt P.corners k).weight (cnrAt P.corners k).moment := by
  simp only [convexB, cvxR, allN_spec, cvxB, Bool.or_eq_true, decide_eq_true_eq]
  constructor
  · intro h e he k hk h1 h2
    rcases h e he k hk with (h3 | h3) | h3
    · exact (h1 h3).elim
    · exact (h2 h3).elim
    · exact h3
  · intro h e he k hk
    by_cases h1 : k = e
    · exact .inl (.inl h1)
    · by_cases h2 : k = (e + 1) % P.corners.length
      · exact .inl (.inr h2)
      · exact .inr (h e he k hk h1 h2)
theorem valid_ok {P : Pln} : validB P = true ↔ PlnOk P := by
  simp only [validB, Bool.and_eq_true, decide_eq_true_eq, kilosB_three, inB_spec]
  constructor
  · rintro ⟨⟨⟨⟨⟨⟨⟨⟨⟨⟨h1, h2⟩, ⟨h3, h4⟩, h5⟩, h6⟩, h7⟩, h8⟩, h9⟩, h10⟩, h11⟩, h12⟩, h13⟩
    exact ⟨h1, h2, h3, h4, h5, by omega, h7, h8, stnB_spec.1 h11, fun i hi => stnB_spec.1 (allN_spec.1 h10 i hi), fun i hi => stnB_spec.1 (allN_spec.1 h12 i hi), corners_ok h9, convex_ok.1 h13⟩
  · intro h
    exact ⟨⟨⟨⟨⟨⟨⟨⟨⟨⟨h.empty, h.moment⟩, ⟨h.takeoff, h.landing⟩, h.reserve⟩, by have := h.n; omega⟩, h.ns⟩, h.nf⟩, allN_spec.2 fun i hi => by have := h.corner i hi; simpa [cnrB, inB_spec] using this⟩, allN_spec.2 fun i hi => stnB_spec.2 (h.station i hi)⟩, stnB_spec.2 h.tank⟩, allN_spec.2 fun i hi => stnB_spec.2 (h.float i hi)⟩, convex_ok.2 h.convex⟩
structure PlnLen (P : Pln) : Prop where
  c : P.corners.length ≤ 9223372036854775807
  s : P.stations.length ≤ 9223372036854775807
  f : P.floats.length ≤ 9223372036854775807
theorem valid_spec (P : Pln) (hl : PlnLen P) : Spec Tryz.prog 109 [.agg P.cells] (.v (.bool (validB P))) := by
  have l1 := hl.c
  have l2 := hl.s
  have l3 := hl.f
  refine spec_of mixed Tryz.func109 (by decide) rfl Tryz.results109 Tryz.ntmps109 (by decide) 0 (by simp) ?_
  simp [Pln.cells, cnrL, stnL]
  refine pop_spec (allCnr_spec P.corners l1 131 [] [] rfl rfl (fun k => cnrB (cnrAt P.corners k)) fun k hk => valid1_spec (cnrAt P.corners k)) rfl false (.inl (by simp [cnrL])) (.inl rfl) rfl (by simp) ?_
  simp
  refine pop_spec (lin_spec P.empty 1 20000) rfl false (.inl (by simp)) (.inl rfl) rfl (by simp) ?_
  cases h1 : inB P.empty 1 20000 with
  | false => simp; refine answers_of rfl ?_; simp [validB, h1]
  | true =>
  simp
  refine pop_spec (lin_spec P.moment (-20000000) 20000000) rfl false (.inl (by simp)) (.inl rfl) rfl (by simp) ?_
  cases h2 : inB P.moment (-20000000) 20000000 with
  | false => simp; refine answers_of rfl ?_; simp [validB, h2]
  | true =>
  simp
  refine pop_specF [(28, ints [P.takeoff, P.landing, P.reserve])] ?_ (lkilos_spec [P.takeoff, P.landing, P.reserve] (by simp)) rfl false (.inl (by simp [ints])) (.inl rfl) rfl (by simp) ?_
  · simp [ints, geti]
    intro k hk
    rcases k with _ | _ | _ | k
    · simp
    · simp
    · simp
    · omega
  cases h3 : kilosB [P.takeoff, P.landing, P.reserve] with
  | false => simp; refine answers_of rfl ?_; simp [validB, h3]
  | true =>
  simp
  refine pop_spec (lin_spec P.corners.length 3 12) rfl false (.inl (by simp)) (.inl rfl) rfl (by simp) ?_
  cases h4 : inB P.corners.length 3 12 with
  | false => simp; refine answers_of rfl ?_; simp [validB, h4]
  | true =>
  have h4' := inB_spec.1 h4
  by_cases h5 : P.stations.length ≤ 8
  case neg => simp [show ¬ (P.stations.length : Int) ≤ 8 from by omega]; refine answers_of rfl ?_; simp [validB, h5]
  by_cases h6 : P.floats.length ≤ 2
  case neg => simp [show (P.stations.length : Int) ≤ 8 from by omega, show ¬ (P.floats.length : Int) ≤ 2 from by omega]; refine answers_of rfl ?_; simp [validB, h6]
  cases h7 : allN P.corners.length fun k => cnrB (cnrAt P.corners k) with
  | false => simp [show (P.stations.length : Int) ≤ 8 from by omega, show (P.floats.length : Int) ≤ 2 from by omega]; refine answers_of rfl ?_; simp [validB, cornersB, h7]
  | true =>
  simp [show (P.stations.length : Int) ≤ 8 from by omega, show (P.floats.length : Int) ≤ 2 from by omega]
  refine pop_spec (allStn_spec P.stations l2 133 [] [] rfl rfl (fun k => stnB (stnAt P.stations k)) fun k hk => station_spec (stnAt P.stations k)) rfl false (.inl (by simp [stnL])) (.inl rfl) rfl (by simp) ?_
  cases h8 : allN P.stations.length fun k => stnB (stnAt P.stations k) with
  | false => simp; refine answers_of rfl ?_; simp [validB, stnsB, h8]
  | true =>
  simp
  refine pop_spec (station_spec P.tank) rfl false (.inl (by simp [Stn.cells])) (.inl rfl) rfl (by simp) ?_
  cases h9 : stnB P.tank with
  | false => simp; refine answers_of rfl ?_; simp [validB, h9]
  | true =>
  simp
  refine pop_spec (allStn_spec P.floats l3 133 [] [] rfl rfl (fun k => stnB (stnAt P.floats k)) fun k hk => station_spec (stnAt P.floats k)) rfl false (.inl (by simp [stnL])) (.inl rfl) rfl (by simp) ?_
  cases h10 : allN P.floats.length fun k => stnB (stnAt P.floats k) with
  | false => simp; refine answers_of rfl ?_; simp [validB, stnsB, h10]
  | true =>
  simp
  refine pop_spec (convex_spec P (corners_ok h7) (by omega)) rfl false (.inl (by simp [Pln.cells, cnrL, stnL])) (.inl rfl) rfl (by simp) ?_
  simp
  refine answers_of rfl ?_; simp [validB, h1, h2, h3, h4, h5, h6, cornersB, h7, stnsB, h8, h9, h10]
def trippedE (P : Pln) (fuel : Spn) (legs : List Leg) : Int := if 6 < legs.length then 3 else if validB P = true then tripE fuel legs P.stations.length else 2
theorem tripped_spec (P : Pln) (fuel : Spn) (legs : List Leg) (hP : PlnLen P) (hl : legs.length ≤ 9223372036854775807) (hi : ∀ k, k < legs.length → (legAt legs k).items.length ≤ 9223372036854775807) :
    Spec Tryz.prog 63 [.agg P.cells, .agg fuel.cells, legL legs] (.v (.int .i64 (trippedE P fuel legs))) := by
  have l2 := hP.s
  have hv := valid_spec P hP
  have ht := trip_spec fuel legs P.stations.length hl hi (by omega)
  refine spec_of mixed Tryz.func63 (by decide) rfl Tryz.results63 Tryz.ntmps63 (by decide) 0 (by simp) ?_
  simp [Pln.cells, cnrL, stnL, legL, Spn.cells]
  refine pop_spec ht rfl false (.inl (by simp [legL, Spn.cells])) (.inl rfl) rfl (by simp) ?_
  by_cases h : 6 < legs.length
  · have e : tripE fuel legs P.stations.length = 3 := by simp [tripE, h]
    rw [e]
    simp
    refine answers_of rfl ?_; simp [trippedE, h]
  · have e : ¬ tripE fuel legs P.stations.length = 3 := by
      simp only [tripE, if_neg h]
      split <;> omega
    simp [e]
    refine pop_spec hv rfl false (.inl (by simp [Pln.cells, cnrL, stnL])) (.inl rfl) rfl (by simp) ?_
    cases h2 : validB P with
    | true => simp [e]; refine answers_of rfl ?_; simp [trippedE, h, h2]
    | false => simp [e]; refine answers_of rfl ?_; simp [trippedE, h, h2]
end Go.Qg


namespace Go.Qg
open Go.Proofs
set_option maxRecDepth 100000
theorem lenOk {n : Nat} (h : n ≤ maxLen) : n ≤ 9223372036854775807 := h
section
open Tryz
theorem d_int {n : Nat} : tdef Tryz.prog (n + 1) 3 = [.v (.int .i64 0)] := by simp only [tdef, Tryz.underlying3]
theorem d_bool {n : Nat} : tdef Tryz.prog (n + 1) 4 = [.v (.bool false)] := by simp only [tdef, Tryz.underlying4]
theorem d_struct {P : Program} {n : Nat} {t : TypeId} {fs : Array Field} (hu : P.underlying t = some (.struct fs)) : tdef P (n + 1) t = (fs.toList.map fun f => tdef P n f.type).flatten := by
  simp only [tdef, hu]
theorem t_slice {P : Program} {n : Nat} {t e : TypeId} {ps : List PV} {c : Nat} (hu : P.underlying t = some (.slice e)) (hc : P.cellsOf e = c) (h : Typ P (n + 1) t ps) : ∃ (m : Nat) (f : Nat → List PV), ps = [.sl c m f] ∧ m ≤ 9223372036854775807 ∧ (∀ i, i < m → Typ P n e (f i)) ∧ ∀ i, m ≤ i → f i = tdef P n e := by
  unfold Typ at h
  rw [hu] at h
  obtain ⟨m, f, h1, h2, h3, h4⟩ := h
  exact ⟨m, f, by rw [h1, hc], lenOk h2, h3, h4⟩
theorem d_slice {P : Program} {n : Nat} {t e : TypeId} {c : Nat} (hu : P.underlying t = some (.slice e)) (hc : P.cellsOf e = c) : tdef P (n + 1) t = [.sl c 0 fun _ => tdef P n e] := by
  simp only [tdef, hu, hc]
theorem d_spn {n : Nat} : tdef Tryz.prog (n + 2) 37 = (default : Spn).cells := by
  rw [d_struct Tryz.underlying37]; simp [d_int]; rfl
theorem d_itm {n : Nat} : tdef Tryz.prog (n + 3) 120 = (default : Itm).cells := by
  rw [d_struct Tryz.underlying120]; simp [d_int, d_spn]; rfl
theorem cells_itm : Tryz.prog.cellsOf 120 = 3 := by kernel_rfl
theorem d_itms {n : Nat} : tdef Tryz.prog (n + 4) 63 = [itmL []] := by
  rw [d_slice Tryz.underlying63 cells_itm]
  simp only [d_itm]; rfl
theorem d_leg {n : Nat} : tdef Tryz.prog (n + 5) 112 = (default : Leg).cells := by
  rw [d_struct Tryz.underlying112]; simp [d_int, d_spn, d_bool, d_itms]; rfl
end
theorem laidOut_ : laidOutB Tryz.prog = true := by kernel_rfl
theorem ownKnob_ : ownKnob Tryz.prog.godebug = none := by kernel_rfl
theorem a_str {n : Nat} {p : PV} (h : ArgP Tryz.prog (n + 1) 9 p) : ∃ l : List UInt8, p = .v (.string (⟨l.toArray⟩)) := by
  simp only [ArgP, Tryz.underlying9, Typ] at h
  obtain ⟨s, h1, _⟩ := h
  exact ⟨s.data.toList, by rw [List.singleton_inj.1 h1]⟩
def pows : List Int := (List.range 20).map fun i => ((10 ^ i : Nat) : Int)
def laidL : List (String × DataW Unit) := [("math/bits.deBruijn32tab", Go.Proofs.YtnjhblcfjhpoiaaGreatDoor.Rows.laid_math_bits_deBruijn32tab), ("math/bits.deBruijn64tab", Go.Proofs.YtnjhblcfjhpoiaaGreatDoor.Rows.laid_math_bits_deBruijn64tab), ("internal/strconv.uint64pow10", Go.Proofs.YtnjhblcfjhpoiaaGreatDoor.Rows.laid_internal_strconv_uint64pow10), ("unicode/utf8.acceptRanges", Go.Proofs.YtnjhblcfjhpoiaaGreatDoor.Rows.laid_unicode_utf8_acceptRanges), ("strconv.ErrRange", Go.Proofs.YtnjhblcfjhpoiaaGreatDoor.Rows.laid_strconv_ErrRange), ("strconv.ErrSyntax", Go.Proofs.YtnjhblcfjhpoiaaGreatDoor.Rows.laid_strconv_ErrSyntax), ("unicode/utf8.first", Go.Proofs.YtnjhblcfjhpoiaaGreatDoor.Rows.laid_unicode_utf8_first)]
theorem pow_data : (Go.Proofs.YtnjhblcfjhpoiaaGreatDoor.Rows.laid_internal_strconv_uint64pow10 : DataW Unit) = Lib.tabData .u64 pows := rfl
theorem pow_glob : Tryz.prog.globalNamed "internal/strconv.uint64pow10" = some 1 := by kernel_rfl
theorem range_glob : Tryz.prog.globalNamed "strconv.ErrRange" = some 3 := by kernel_rfl
theorem syn_glob : Tryz.prog.globalNamed "strconv.ErrSyntax" = some 2 := by kernel_rfl
theorem err_star : "*" ++ "errors.errorString" = "*errors.errorString" := by decide
theorem err_row (u : TypeId) (h : Tryz.prog.typeName? 3 u = some "*errors.errorString") : u = 265 :=
  typeName_ptr_named (nm := "errors.errorString") (by rw [err_star]; kernel_rfl) (by kernel_rfl) (by decide) u (by rw [err_star]; exact h)
theorem tab_of_cell {w : World} {g : Nat} {v : Value} (h : w.cell? ⟨g, 0, none⟩ = some v) : g < w.heap.size ∧ ∃ cs t fz, w.heap[g]? = some (.cells cs t fz) ∧ cs[0]? = some v := by
  unfold World.cell? at h
  split at h
  · rename_i cs t fz hh
    exact ⟨(Array.getElem?_eq_some_iff.1 hh).1, cs, t, fz, hh, h⟩
  · cases h
theorem sentinel_tab {n : String} {text : List UInt8} {r : List (String × DataW Unit)} {W : World} {g : Nat}
    (h : laidMet Tryz.prog ((n, .iface "*errors.errorString" (.ptr (.agg [.lit (.string text)]))) :: r) W)
    (hg : Tryz.prog.globalNamed n = some g) (ht : (Tryz.prog.globals[g]?).map (·.type) = some 202) : ∃ t p, W.cell? ⟨g, 0, none⟩ = some (.iface t p) := by
  obtain ⟨a, s, h1, _⟩ := laid_sentinel h hg ht Tryz.underlying202 err_row Tryz.underlying265 Tryz.underlying267 rfl rfl Tryz.underlying9 (by kernel_rfl) (by kernel_rfl)
  exact ⟨_, _, by simpa using World.var?_cell hg h1 0⟩
theorem tabs_of_laid : ∀ W : World, W.ShapedOpen Tryz.prog → laidMet Tryz.prog laidL W → tabOk (· < W.heap.size) W := fun W hsh h => by
  have h3 := laidMet.tail (laidMet.tail h)
  have h5 := laidMet.tail (laidMet.tail h3)
  have h6 := laidMet.tail h5
  obtain ⟨tr, pr, hr⟩ := sentinel_tab h5 range_glob (by kernel_rfl)
  obtain ⟨ts, ps, hs⟩ := sentinel_tab h6 syn_glob (by kernel_rfl)
  obtain ⟨m, hm⟩ := cell_of_shapedOpen_int (g := 0) (t := 3) (k := .i64) hsh (by decide +kernel) (zero := #[.int .i64 0]) (by kernel_rfl) rfl (by kernel_rfl) (by kernel_rfl) Tryz.underlying3
  rw [pow_data] at h3
  have ht := Lib.tabIs_of_head (t := 247) (e := 233) (n := 20) pow_glob (by kernel_rfl) Tryz.underlying247 Tryz.underlying233 (by kernel_rfl) (by kernel_rfl) h3
  unfold Lib.TabIs World.var? at ht
  rw [pow_glob] at ht
  simp only [Option.bind_some] at ht
  intro b φ hb
  simp only [seatTabs, List.mem_cons, List.mem_nil_iff, or_false] at hb
  rcases hb with hb | hb | hb | hb
  · obtain ⟨rfl, rfl⟩ := Prod.mk.inj hb
    split at ht
    · rename_i cs t fz hh
      refine ⟨?_, cs, t, fz, hh, ?_⟩
      · rcases Nat.lt_or_ge 1 W.heap.size with h' | h'
        · exact h'
        · rw [Array.getElem?_eq_none h'] at hh
          cases hh
      · rw [Option.some.inj ht]; simp [pows, Function.comp_def]
    · cases ht
  · obtain ⟨rfl, rfl⟩ := Prod.mk.inj hb
    obtain ⟨k1, cs, t, fz, k2, k3⟩ := tab_of_cell hm
    exact ⟨k1, cs, t, fz, k2, m, k3⟩
  · obtain ⟨rfl, rfl⟩ := Prod.mk.inj hb
    obtain ⟨k1, cs, t, fz, k2, k3⟩ := tab_of_cell hs
    exact ⟨k1, cs, t, fz, k2, _, _, k3⟩
  · obtain ⟨rfl, rfl⟩ := Prod.mk.inj hb
    obtain ⟨k1, cs, t, fz, k2, k3⟩ := tab_of_cell hr
    exact ⟨k1, cs, t, fz, k2, _, _, k3⟩
end Go.Qg


namespace Go.Qg
open Go.Proofs
set_option maxRecDepth 100000
mutual
def litsOf : DataW Unit → List Value
  | .lit (.int k z) => [Value.int k z]
  | .agg l => litsAll l
  | _ => []
def litsAll : List (DataW Unit) → List Value
  | [] => []
  | d :: l => litsOf d ++ litsAll l
end
def putAt (g : Nat) (cs : Array Value) (h : Array Obj) : Array Obj := h.modify g fun
  | .cells _ t frozen => .cells cs t frozen
  | o => o
def layAt (g : Nat) (d : DataW Unit) (h : Array Obj) : Array Obj := putAt g (litsOf d).toArray h
abbrev rangeS : ByteArray := { data := #[118, 97, 108, 117, 101, 32, 111, 117, 116, 32, 111, 102, 32, 114, 97, 110, 103, 101] }
abbrev synS : ByteArray := { data := #[105, 110, 118, 97, 108, 105, 100, 32, 115, 121, 110, 116, 97, 120] }
noncomputable def lowN : Nat := (World.holding Tryz.prog default ⟨#[], #[], []⟩).heap.size
noncomputable def laidWorld (os : Os) : World :=
  let w0 := World.holding Tryz.prog os ⟨#[.cells #[.string rangeS] 267, .cells #[.string synS] 267], #[], []⟩
  { w0 with heap := putAt 3 #[.iface 265 (.pointer (some ⟨lowN, 0, none⟩))] (putAt 2 #[.iface 265 (.pointer (some ⟨lowN + 1, 0, none⟩))]
    (layAt 6 Go.Proofs.YtnjhblcfjhpoiaaGreatDoor.Rows.laid_unicode_utf8_first (layAt 7 Go.Proofs.YtnjhblcfjhpoiaaGreatDoor.Rows.laid_unicode_utf8_acceptRanges
    (layAt 4 Go.Proofs.YtnjhblcfjhpoiaaGreatDoor.Rows.laid_math_bits_deBruijn32tab (layAt 5 Go.Proofs.YtnjhblcfjhpoiaaGreatDoor.Rows.laid_math_bits_deBruijn64tab (layAt 1 Go.Proofs.YtnjhblcfjhpoiaaGreatDoor.Rows.laid_internal_strconv_uint64pow10 w0.heap)))))) }
theorem laid_met (os : Os) (args : Array Value) : laidMet Tryz.prog laidL ((laidWorld os).forCall (fun _ _ => 0) ⟨#[], args, []⟩).memory :=
  laidMet_of_run' 8 (by kernel_rfl) (by kernel_rfl)
end Go.Qg


namespace Go.Qg
def splL (c : UInt8) : List UInt8 → List (List UInt8)
  | [] => [[]]
  | b :: l => if b = c then [] :: splL c l else match splL c l with
    | p :: ps => (b :: p) :: ps
    | [] => [[b]]
theorem splL_ne (c : UInt8) (s : List UInt8) : splL c s ≠ [] := by
  cases s with
  | nil => simp [splL]
  | cons b l =>
    unfold splL
    split
    · simp
    · split <;> simp
theorem splL_none {c : UInt8} : ∀ {a : List UInt8}, c ∉ a → splL c a = [a]
  | [], _ => rfl
  | b :: l, h => by
    have h1 : ¬ b = c := fun e => h (by simp [e])
    have h2 : c ∉ l := fun e => h (List.mem_cons_of_mem _ e)
    rw [splL, if_neg h1, splL_none h2]
theorem splL_app {c : UInt8} (t : List UInt8) : ∀ {a : List UInt8}, c ∉ a → splL c (a ++ c :: t) = a :: splL c t
  | [], _ => by simp [splL]
  | b :: l, h => by
    have h1 : ¬ b = c := fun e => h (by simp [e])
    have h2 : c ∉ l := fun e => h (List.mem_cons_of_mem _ e)
    rw [List.cons_append, splL, if_neg h1, splL_app t h2]
theorem index_one (c : UInt8) : ∀ s : List UInt8, (Lib.index s [c] = -1 ∧ c ∉ s) ∨ ∃ a t, s = a ++ c :: t ∧ c ∉ a ∧ Lib.index s [c] = (a.length : Int)
  | [] => .inl ⟨rfl, by simp⟩
  | b :: l => by
    unfold Lib.index
    by_cases h : c = b
    · subst h
      exact .inr ⟨[], l, rfl, by simp, by simp [List.isPrefixOf]⟩
    · have hp : ([c].isPrefixOf (b :: l)) = false := by simp [List.isPrefixOf, h]
      rw [hp]
      rcases index_one c l with ⟨h1, h2⟩ | ⟨a, t, h1, h2, h3⟩
      · exact .inl ⟨by simp [h1], by simp [h, h2]⟩
      · refine .inr ⟨b :: a, t, by simp [h1], by simp [h, h2], ?_⟩
        have : ((a.length : Int) == -1) = false := by rw [beq_eq_false_iff_ne]; omega
        simp [h3, this]
theorem cut_none {c : UInt8} {s : List UInt8} (h : c ∉ s) : Lib.cut s [c] = (s, [], false) := by
  rcases index_one c s with ⟨h1, _⟩ | ⟨a, t, h1, _, _⟩
  · unfold Lib.cut; rw [h1]; rfl
  · exact absurd (by simp [h1]) h
theorem cut_app {c : UInt8} {a t : List UInt8} (h : c ∉ a) : Lib.cut (a ++ c :: t) [c] = (a, t, true) := by
  rcases index_one c (a ++ c :: t) with ⟨_, h1⟩ | ⟨a', t', h1, h2, h3⟩
  · exact absurd (by simp) h1
  · have e := splL_app t h
    rw [h1, splL_app t' h2] at e
    have ea : a' = a := (List.cons.inj e).1
    subst ea
    have : t' = t := by simpa using h1.symm
    subst this
    unfold Lib.cut
    rw [h3]
    simp
theorem splitK_parts (c : UInt8) : ∀ (n : Nat) (s : List UInt8), s.length ≤ n → Lib.split s [c] = splL c s
  | n, s, hn => by
    rcases index_one c s with ⟨h1, h2⟩ | ⟨a, t, h1, h2, h3⟩
    · rw [splL_none h2]
      unfold Lib.split
      cases Lib.count s [c] with
      | zero => rfl
      | succ k => rw [Lib.splitK, h1]; rfl
    · subst h1
      rw [splL_app t h2]
      have hd : (a ++ c :: t).drop (a.length + 1) = t := by
        rw [← List.drop_drop]; simp
      have hc : Lib.count (a ++ c :: t) [c] = 1 + Lib.count t [c] := by
        have := Lib.count_hit (s := a ++ c :: t) (sub := [c]) (i := a.length) (by simp) h3
        simpa [hd] using this
      unfold Lib.split
      rw [hc, Nat.add_comm 1, Lib.splitK, h3]
      have hne : ((a.length : Int) == -1) = false := by rw [beq_eq_false_iff_ne]; omega
      have hl : t.length < n := by simp at hn; omega
      cases n with
      | zero => omega
      | succ n =>
      have ih := splitK_parts c n t (by omega)
      unfold Lib.split at ih
      rw [hne]
      simp only [Bool.false_eq_true, if_false, Int.toNat_natCast, Nat.add_zero, List.length_singleton, hd, ih]
      simp
theorem split_parts (c : UInt8) (s : List UInt8) : Lib.split s [c] = splL c s := splitK_parts c s.length s (Nat.le_refl _)
theorem join_two (x y : List UInt8) (r : List (List UInt8)) (sep : List UInt8) : Lib.join (x :: y :: r) sep = x ++ (sep ++ Lib.join (y :: r) sep) := by
  simp [Lib.join, List.intercalate]
theorem join_parts (c : UInt8) : ∀ s : List UInt8, Lib.join (splL c s) [c] = s
  | [] => rfl
  | b :: l => by
    have ih := join_parts c l
    unfold splL
    have hne := splL_ne c l
    cases h : splL c l with
    | nil => exact absurd h hne
    | cons p ps =>
      rw [h] at ih
      split
      · rename_i hb
        rw [join_two, ih, hb]; rfl
      · simp only
        cases ps with
        | nil => rw [Lib.join_one] at ih ⊢; rw [ih]
        | cons q qs =>
          rw [join_two] at ih ⊢
          rw [List.cons_append, ih]
theorem parts_join {c : UInt8} : ∀ {ps : List (List UInt8)}, ps ≠ [] → (∀ p ∈ ps, c ∉ p) → splL c (Lib.join ps [c]) = ps
  | [], h, _ => absurd rfl h
  | [p], _, h => by rw [Lib.join_one]; exact splL_none (h p (by simp))
  | p :: q :: r, _, h => by
    rw [join_two, List.singleton_append, splL_app _ (h p (by simp)), parts_join (by simp) fun x hx => h x (List.mem_cons_of_mem _ hx)]
theorem uint_app : ∀ (l : List UInt8) (c : UInt8) (acc : Nat), Lib.parseUint10 acc (l ++ [c]) = match Lib.parseUint10 acc l with
    | .ok v => Lib.parseUint10 v [c]
    | e => e
  | [], c, acc => by simp [Lib.parseUint10]
  | b :: l, c, acc => by
    rw [List.cons_append, Lib.parseUint10, Lib.parseUint10]
    split
    · split
      · rfl
      · split
        · rfl
        · exact uint_app l c _
    · rfl
theorem digit_toNat {d : Nat} (h : d < 10) : (UInt8.ofNat (48 + d)).toNat = 48 + d := by
  rw [UInt8.toNat_ofNat']; omega
theorem digits_mem : ∀ (n u : Nat), u ≤ n → ∀ c ∈ Lib.decDigits u, 48 ≤ c.toNat ∧ c.toNat ≤ 57
  | n, u, hu, c, hc => by
    rw [Lib.decDigits] at hc
    split at hc
    · simp only [List.mem_singleton] at hc
      subst hc
      rw [digit_toNat (by assumption)]
      omega
    · cases n with
      | zero => omega
      | succ n =>
      rcases List.mem_append.1 hc with h | h
      · exact digits_mem n (u / 10) (by omega) c h
      · simp only [List.mem_singleton] at h
        subst h
        rw [digit_toNat (by omega)]
        omega
theorem uint_digits : ∀ (n u : Nat), u ≤ n → u < 18446744073709551616 → Lib.parseUint10 0 (Lib.decDigits u) = .ok u
  | n, u, hu, hb => by
    rw [Lib.decDigits]
    split
    · rename_i h
      have h1 : u - 0 = u := rfl
      simp only [Lib.parseUint10, digit_toNat h]
      rw [if_pos (by omega), if_neg (by omega), if_neg (by omega)]
      simp
    · rename_i h
      cases n with
      | zero => omega
      | succ n =>
      rw [uint_app, uint_digits n (u / 10) (by omega) (by omega)]
      have h9 : u % 10 < 10 := by omega
      simp only [Lib.parseUint10, digit_toNat h9]
      rw [if_pos (by omega), if_neg (by omega), if_neg (by omega)]
      congr 1
      omega
theorem digits_ne (u : Nat) : Lib.decDigits u ≠ [] := by
  rw [Lib.decDigits]
  split <;> simp
theorem atoi_digits (u : Nat) (hb : u < 9223372036854775808) : Lib.atoiAll (Lib.decDigits u) = .ok (u : Int) := by
  have h1 := uint_digits u u (Nat.le_refl _) (by omega)
  have h2 := digits_mem u u (Nat.le_refl _)
  have h3 := digits_ne u
  generalize Lib.decDigits u = l at *
  cases l with
  | nil => exact absurd rfl h3
  | cons c r =>
    have hc := h2 c (by simp)
    simp only [Lib.atoiAll]
    rw [if_neg (by omega), Lib.parseMag, if_neg (by simp), h1]
    simp only
    rw [if_neg (by omega), if_neg (by omega), if_neg (by omega)]
def numW (w : List UInt8) : Option Int := match Lib.atoiAll w with
  | .ok n => if 0 ≤ n ∧ w.length ≤ 10 ∧ Lib.itoa n = w then some n else none
  | _ => none
theorem digits_big : ∀ (k u : Nat), 10 ^ k ≤ u → k < (Lib.decDigits u).length
  | 0, u, _ => List.length_pos_iff.2 (digits_ne u)
  | k + 1, u, h => by
    have h10 : ¬ u < 10 := by
      have : 10 ^ 1 ≤ 10 ^ (k + 1) := Nat.pow_le_pow_right (by omega) (by omega)
      omega
    have := digits_big k (u / 10) (by rw [Nat.pow_succ] at h; omega)
    rw [Lib.decDigits, dif_neg h10]
    simp only [List.length_append, List.length_singleton]
    omega
theorem numW_iff {w : List UInt8} {n : Int} : numW w = some n ↔ 0 ≤ n ∧ n < 10000000000 ∧ w.length ≤ 10 ∧ Lib.itoa n = w := by
  unfold numW
  constructor
  · intro h
    split at h
    · rename_i m hm
      split at h
      · rename_i hc
        obtain rfl := Option.some.inj h
        obtain ⟨h0, h1, h2⟩ := hc
        obtain ⟨u, rfl⟩ := Int.eq_ofNat_of_zero_le h0
        refine ⟨h0, ?_, h1, h2⟩
        rw [Lib.itoa_nonneg] at h2
        have := digits_big 10 u
        rw [h2] at this
        omega
      · cases h
    · cases h
  · rintro ⟨h0, h1, h2, h3⟩
    obtain ⟨u, rfl⟩ := Int.eq_ofNat_of_zero_le h0
    have h4 := h3
    rw [Lib.itoa_nonneg] at h3
    rw [← h3, atoi_digits u (by omega)]
    simp only
    rw [if_pos ⟨h0, by rw [h3]; exact h2, by rw [h3]; exact h4⟩]
end Go.Qg


namespace Go.Qg
open Go.Proofs Go.RowKit Go.Lib
set_option maxRecDepth 100000
set_option linter.unusedVariables false
def rowsU (l : List UInt8) : List (List PV) := l.map fun b => [.v (.int .u8 b.toNat)]
@[simp] theorem rowsU_length (l : List UInt8) : (rowsU l).length = l.length := by simp [rowsU]
@[simp] theorem renLL_rowsU (π : Nat → Nat) (l : List UInt8) : renLL π (rowsU l) = rowsU l := by
  induction l with
  | nil => rfl
  | cons x l ih => simpa [rowsU, renLL, renL, PV.ren] using ih
@[simp] theorem namesLL_rowsU (l : List UInt8) : namesLL (rowsU l) = [] := by
  induction l with
  | nil => rfl
  | cons x l ih => simpa [rowsU, namesLL, namesL, PV.names] using ih
@[simp] theorem flatLL_rowsU (l : List UInt8) : flatLL (rowsU l) = true := by
  induction l with
  | nil => rfl
  | cons x l ih => simpa [rowsU, flatLL, flatL, PV.flat] using ih
theorem u8_int {x y : UInt8} (h : (x.toNat : Int) = y.toNat) : x = y := UInt8.toNat_inj.1 (by omega)
@[simp] theorem vwAllL_rowsU (f : PF) (T : Tgt) (d : Nat) (a b : List UInt8) : vo.vwAllL f T (d + 1) (rowsU a) (rowsU b) = (a = b) := by
  induction a generalizing b with
  | nil => cases b <;> simp [rowsU, vo.vwAllL]
  | cons x a ih =>
    cases b with
    | nil => simp [rowsU, vo.vwAllL]
    | cons y b =>
      have := ih b
      simp only [rowsU] at this
      have e : ((x.toNat : Int) = y.toNat) = (x = y) := propext ⟨u8_int, fun h => by rw [h]⟩
      simp [rowsU, vo.vwAllL, this, e]
@[simp] theorem rowsU_one {l : List UInt8} : (∀ (x : List PV), x ∈ rowsU l → ∀ (y : PV), y ∈ x → y.one = true) ↔ True := by
  refine ⟨fun _ => trivial, fun _ x hx y hy => ?_⟩
  obtain ⟨b, _, rfl⟩ := List.mem_map.1 hx
  simp at hy
  rcases hy with rfl
  rfl
@[simp] theorem rowsU_nil : rowsU [] = [] := rfl
theorem arr3 {vs : Array Value} (h : vs.size = 3) : ∃ a b c, vs = #[a, b, c] := by
  match vs, h with
  | ⟨[a, b, c]⟩, _ => exact ⟨a, b, c, rfl⟩
section
variable {P : Program}
theorem append_str (w : World) (t u ty e : TypeId) (i : TypeInfo) (ht : P.underlying t = some (.slice e)) (hu : P.underlying u = some .string) (hi : P.info? e = some i) (hz : i.zero = some (.int .u8 0)) (hsize : i.size = 1) (hby : i.bytes = 1)
    (v : Value) (n : Nat) (xs : List Value) (hown : w.ownsRow 0 e 1 v n xs) (s : ByteArray) (hbytes : n + s.size ≤ 140737488355328) :
    ∃ v' w', (Builtin.append_ #[t, u] ty #[v, .string s]).run P w = .ok v' w' ∧ w'.ownsRow 0 e 1 v' (n + s.size) (xs ++ strCells s) ∧ w.grownBy w' v.ownBlock ∧ ∀ g, v'.ownBlock = some g → v.ownBlock = some g ∨ w.heap.size ≤ g := by
  have hm : n + s.size ≤ maxLen := by simp only [maxLen]; omega
  obtain ⟨v', w', h1, h2, h3, _⟩ := run_append_own_string (P := P) w 0 t u ty e i ht hu hi hz hsize hby v n xs hown s hm hbytes (Nat.zero_le _)
  refine ⟨v', w', h1, h2, h3, fun g hg => ?_⟩
  rcases hown.2 with ⟨rfl, rfl⟩ | ⟨g0, cap, cur, rfl, _, hb, hnc, hcm, hcs, htake⟩
  · obtain ⟨v2, w2, k1, k2, _⟩ := run_append_own_string (P := P) w w.heap.size t u ty e i ht hu hi hz hsize hby (.slice none 0 0) 0 xs ⟨hown.1, .inl ⟨rfl, rfl⟩⟩ s hm hbytes (Nat.le_refl _)
    rw [h1] at k1
    simp only [Result.ok.injEq] at k1
    obtain ⟨rfl, rfl⟩ := k1
    rcases k2.2 with ⟨rfl, _⟩ | ⟨g1, cap1, cur1, rfl, hle, _⟩
    · cases hg
    · obtain rfl := Option.some.inj hg
      exact .inr hle
  · have hcs' : cur.size = cap := by simpa using hcs
    by_cases hroom : n + s.size ≤ cap
    · have hr := run_append_room_string (P := P) w t u ty e i ht hu hi hsize g0 n cap cur hb s hroom (by omega)
      rw [h1] at hr
      simp only [Result.ok.injEq] at hr
      obtain ⟨rfl, rfl⟩ := hr
      exact .inl hg
    · have hxl : xs.length = n := by simpa using hown.1
      have holds : ∀ j u, xs[j]? = some u → w.cell? ((⟨g0, 0, none⟩ : Addr).add j) = some u := hown.cells (g := g0) rfl
      have hr := run_append_grow_string (P := P) w t u ty e i (.int .u8 0) ht hu hi hz ⟨g0, 0, none⟩ n cap xs (by rw [hsize]; simpa using hxl) holds s (by omega) (by omega) (by rw [hby]; exact growslice_fits (by omega) (by omega))
      rw [h1] at hr
      simp only [Result.ok.injEq] at hr
      obtain ⟨rfl, rfl⟩ := hr
      obtain rfl := Option.some.inj hg
      exact .inr (Nat.le_refl _)
theorem wpl_append {ops : Array Oper} {rest : List Oper} {o : Oper} {a : Act} {w : World} {Q : Exit → Act → World → Prop} (hgd : o.guard = none) (sl x : Operand) (t u : TypeId)
    (ho : o.op = .call { callee := .builtin .append, args := #[sl, x], argTypes := #[t, u] }) (e : TypeId) (i : TypeInfo) (ht : P.underlying t = some (.slice e)) (hu : P.underlying u = some .string) (hi : P.info? e = some i) (hz : i.zero = some (.int .u8 0)) (hsize : i.size = 1) (hby : i.bytes = 1)
    (v : Value) (n : Nat) (xs : List Value) (hs : a.eval sl = v) (hown : w.ownsRow 0 e 1 v n xs) (s : ByteArray) (hx : a.eval x = .string s) (hbytes : n + s.size ≤ 140737488355328)
    (h : ∀ v' w', w'.ownsRow 0 e 1 v' (n + s.size) (xs ++ strCells s) → w.grownBy w' v.ownBlock → (∀ g, v'.ownBlock = some g → v.ownBlock = some g ∨ w.heap.size ≤ g) → wpList P ops Q rest (a.put o.dst v') w') : wpList P ops Q (o :: rest) a w :=
  wpList_plain hgd fun K hK => by
    obtain ⟨v', w', hr, h2, h3, h4⟩ := append_str (P := P) w t u o.type e i ht hu hi hz hsize hby v n xs hown s hbytes
    unfold Oper.wp execOp
    simp only [ho, resolve, invoke, builtin, Sem.run_bind, Sem.run_pure, Result.andThen_ok, List.map_toArray, List.map_cons, List.map_nil, hs, hx, hr]
    exact hK _ _ (h v' w' h2 h3 h4)
end
theorem cc_used (b : Nat) (w : World) (h0 : w.cell? ⟨b, 0, none⟩ = some (.pointer (some ⟨b, 0, none⟩))) :
    Calls Tryz.prog 148 #[.pointer (some ⟨b, 0, none⟩)] w fun e w' => e = .returned (.tuple #[]) ∧ w' = w := by
  obtain ⟨j, hj, _⟩ : ∃ j, Tryz.prog.info? 162 = some j ∧ j.size = 2 := ⟨Tryz.t162, by kernel_rfl, by kernel_rfl⟩
  have mx := mixed
  go_enter Tryz.func148, Tryz.ntmps148
  go_wp2
  rw [Lib.run_neq_ptr_same w _ Tryz.underlying160 hj]
  go_wp2
  go_end0
  exact ⟨rfl, rfl⟩
theorem cc_fresh (b : Nat) (w : World) (h0 : w.cell? ⟨b, 0, none⟩ = some (.pointer none)) (hsh : w.shape? b = some (164, 3)) (hfz : w.frozen? ⟨b, 0, none⟩ = false) :
    Calls Tryz.prog 148 #[.pointer (some ⟨b, 0, none⟩)] w fun e w' => e = .returned (.tuple #[]) ∧ w' = w.setCell ⟨b, 0, none⟩ (.pointer (some ⟨b, 0, none⟩)) := by
  obtain ⟨j, hj, hjs⟩ : ∃ j, Tryz.prog.info? 162 = some j ∧ j.size = 2 := ⟨Tryz.t162, by kernel_rfl, by kernel_rfl⟩
  have hlies : liesAt Tryz.prog Tryz.prog.depth 164 (3 / Tryz.prog.cellsOf 164) 0 162 1 = true := by kernel_rfl
  have mx := mixed
  go_enter Tryz.func148, Tryz.ntmps148
  go_wp2
  rw [Lib.run_to_unsafe w ⟨b, 0, none⟩ Tryz.underlying160 Tryz.underlying226 hj (by rw [hjs]; decide) hsh (show (0 : Nat) < 3 by decide)]
  simp only [Result.andThen]
  rw [Oper.upon_value]
  go_wp2
  rw [run_callFunc_extern Tryz.func157 (by kernel_rfl) (by kernel_rfl) (by kernel_rfl) (e := Extern.AbiNoEscape.same) (by kernel_rfl)]
  rw [Lib.run_noEscape]
  simp only [Result.andThen]
  rw [Oper.upon_value]
  go_wp2
  rw [Lib.run_from_unsafe w ⟨b, 0, none⟩ Tryz.underlying226 Tryz.underlying160 hj hsh hlies]
  simp only [Result.andThen]
  rw [Oper.upon_value]
  go_wp2
  go_end0
  exact ⟨rfl, rfl⟩
theorem cc_any (b : Nat) (T : TypeId) (p v x : Value) (n : Nat) (bs : List Value) (w : World) (hbk : w.heap[b]? = some (.cells #[p, v, x] T (0, 0)))
    (hp : p = .pointer (some ⟨b, 0, none⟩) ∨ (p = .pointer none ∧ T = 164)) (hown : w.ownsRow 0 5 1 v n bs) (hne : v.ownBlock ≠ some b) :
    Calls Tryz.prog 148 #[.pointer (some ⟨b, 0, none⟩)] w fun e w1 => e = .returned (.tuple #[]) ∧ w1.heap[b]? = some (.cells #[.pointer (some ⟨b, 0, none⟩), v, x] T (0, 0)) ∧ w1.ownsRow 0 5 1 v n bs ∧
      (w1.os = w.os ∧ w1.tape = w.tape ∧ w1.output = w.output ∧ w1.heap.size = w.heap.size) ∧ ∀ k, k ≠ b → w1.heap[k]? = w.heap[k]? := by
  rcases hp with rfl | ⟨rfl, rfl⟩
  · refine (cc_used b w (by simp [World.cell?, hbk])).mono ?_
    rintro e w' ⟨rfl, rfl⟩
    exact ⟨rfl, hbk, hown, ⟨rfl, rfl, rfl, rfl⟩, fun _ _ => rfl⟩
  · refine (cc_fresh b w (by simp [World.cell?, hbk]) (by simp [World.shape?, hbk]) (by simp [World.frozen?, hbk])).mono ?_
    rintro e w' ⟨rfl, rfl⟩
    refine ⟨rfl, by simp [World.setCell, Array.getElem?_modify, hbk], ?_, ⟨rfl, rfl, rfl, by simp [World.setCell]⟩, fun k hk => Below.heap_setCell _ _ _ _ (fun e => hk (by simp [e]))⟩
    exact hown.kept (row := some b) ⟨rfl, rfl, rfl, by simp [World.setCell], fun k _ hk => Below.heap_setCell _ _ _ _ (fun e => hk (by simp [e]))⟩ (.inr hne)
theorem wstr3 (b : Nat) (T : TypeId) (p v x : Value) (n : Nat) (bs : List Value) (s : ByteArray) (w : World) (hbk : w.heap[b]? = some (.cells #[p, v, x] T (0, 0)))
    (hp : p = .pointer (some ⟨b, 0, none⟩) ∨ (p = .pointer none ∧ T = 164)) (hown : w.ownsRow 0 5 1 v n bs) (hne : v.ownBlock ≠ some b) (hlen : n + s.size ≤ 140737488355328) :
    Calls Tryz.prog 123 #[.pointer (some ⟨b, 0, none⟩), .string s] w fun e w' => (∃ r, e = .returned r) ∧ ∃ v', w'.heap[b]? = some (.cells #[.pointer (some ⟨b, 0, none⟩), v', x] T (0, 0)) ∧
      w'.ownsRow 0 5 1 v' (n + s.size) (bs ++ strCells s) ∧ (∀ g, v'.ownBlock = some g → v.ownBlock = some g ∨ w.heap.size ≤ g) ∧ (w'.os = w.os ∧ w'.tape = w.tape ∧ w'.output = w.output ∧ w.heap.size ≤ w'.heap.size) ∧
      ∀ k, k < w.heap.size → k ≠ b → some k ≠ v.ownBlock → w'.heap[k]? = w.heap[k]? := by
  obtain ⟨i0, hi, hz0, hz1, hz2⟩ : ∃ i0, Tryz.prog.info? 5 = some i0 ∧ i0.zero = some (.int .u8 0) ∧ i0.size = 1 ∧ i0.bytes = 1 := ⟨Tryz.t5, by kernel_rfl, by kernel_rfl, by kernel_rfl, by kernel_rfl⟩
  have mx := mixed
  have hcc := cc_any b T p v x n bs w hbk hp hown hne
  have hbs : b < w.heap.size := by
    rcases Nat.lt_or_ge b w.heap.size with h' | h'
    · exact h'
    · simp [Array.getElem?_eq_none h'] at hbk
  go_enter Tryz.func123, Tryz.ntmps123
  go_wp2_with (go_at_call 148; refine hcc.mono ?_)
  rintro e w1 ⟨rfl, hb1, hown1, ⟨q1, q2, q3, q4⟩, q5⟩
  have c0 : w1.cell? ⟨b, 0, none⟩ = some (.pointer (some ⟨b, 0, none⟩)) := by simp [World.cell?, hb1]
  have c1 : w1.cell? ⟨b, 1, none⟩ = some v := by simp [World.cell?, hb1]
  go_wp2_with (at_builtin; refine wpl_append rfl _ _ 109 9 rfl 5 i0 Tryz.underlying109 Tryz.underlying9 hi hz0 hz1 hz2 _ _ _ rfl hown1 s rfl hlen ?_)
  intro v' w2 hown' hgrow hg
  have hb2 : w2.heap[b]? = some (.cells #[.pointer (some ⟨b, 0, none⟩), v, x] T (0, 0)) := by
    rw [hgrow.block b (by omega) (fun e => hne e.symm)]
    exact hb1
  have d0 : w2.cell? ⟨b, 0, none⟩ = some (.pointer (some ⟨b, 0, none⟩)) := by simp [World.cell?, hb2]
  have d1 : w2.cell? ⟨b, 1, none⟩ = some v := by simp [World.cell?, hb2]
  have f1 : w2.frozen? ⟨b, 1, none⟩ = false := by simp [World.frozen?, hb2]
  have hne' : v'.ownBlock ≠ some b := fun e => by
    rcases hg b e with h | h
    · exact hne h
    · omega
  obtain ⟨ao, n', cap, hv'⟩ : ∃ ao n' cap, v' = .slice ao n' cap := by
    rcases hown'.2 with ⟨hv, _⟩ | ⟨g, cap, cur, hv, _⟩
    · exact ⟨_, _, _, hv⟩
    · exact ⟨_, _, _, hv⟩
  subst hv'
  go_wp2
  go_ret2
  refine ⟨⟨_, rfl⟩, _, by simp [World.setCell, Array.getElem?_modify, hb2]; rfl, ?_, fun g hg' => by have := hg g hg'; first | exact this | (rw [q4] at this; exact this), ⟨hgrow.os.trans q1, hgrow.tape.trans q2, hgrow.output.trans q3, by have := hgrow.size; simp only [World.setCell, Array.size_modify]; omega⟩, fun k hk hkb hkv => ?_⟩
  · exact hown'.kept (row := some b) ⟨rfl, rfl, rfl, by simp [World.setCell], fun k _ hk => Below.heap_setCell _ _ _ _ (fun e => hk (by simp [e]))⟩ (.inr hne')
  · rw [Below.heap_setCell _ _ _ _ (fun e => hkb (by simp [e])), hgrow.block k (by omega) hkv, q5 k hkb]
theorem str3 (b g cap : Nat) (T : TypeId) (p x : Value) (cur : Array Value) (l : List UInt8) (h0 : l ≠ []) (w : World) (hbk : w.heap[b]? = some (.cells #[p, .slice (some ⟨g, 0, none⟩) l.length cap, x] T (0, 0))) (hbg : w.heap[g]? = some (.cells cur 5 (0, 0)))
    (hnc : l.length ≤ cap) (hcm : cap ≤ maxLen) (hcs : cur.size = cap) (hcell : ∀ (j : Nat) y, l[j]? = some y → cur[j]? = some (.int .u8 y.toNat)) :
    Calls Tryz.prog 99 #[.pointer (some ⟨b, 0, none⟩)] w fun e w' => e = .returned (.string ⟨l.toArray⟩) ∧ (w'.os = w.os ∧ w'.tape = w.tape ∧ w'.output = w.output ∧ w.heap.size = w'.heap.size) ∧ ∀ k, k ≠ g → w'.heap[k]? = w.heap[k]? := by
  have hl0 : l.length ≠ 0 := by simpa using h0
  have c1 : w.drew.cell? ⟨b, 1, none⟩ = some (.slice (some ⟨g, 0, none⟩) l.length cap) := by
    have : w.drew.heap[b]? = some (.cells #[p, .slice (some ⟨g, 0, none⟩) l.length cap, x] T (0, 0)) := hbk
    simp [World.cell?, this]
  have hSD : (Builtin.unsafeSliceData_ #[109] 206 #[.slice (some ⟨g, 0, none⟩) l.length cap]).run Tryz.prog w.drew = .ok (.pointer (some ⟨g, 0, none⟩)) w.drew :=
    Lib.run_unsafeSliceData_row _ _ _ _ _ _ (by omega)
  have hUS : (Builtin.unsafeString_ #[206, 3] 9 #[.pointer (some ⟨g, 0, none⟩), .int .i64 l.length]).run Tryz.prog w.drew = .ok (.string ⟨l.toArray⟩) (w.drew.freeze ⟨g, 0, none⟩ l.length) := by
    refine Lib.run_unsafeString_row w.drew 206 3 9 5 Tryz.underlying206 (by kernel_rfl) g cur.size (by have hg' : w.drew.heap[g]? = some (.cells cur 5 (0, 0)) := hbg; simp [World.shape?, hg']) l h0 (by omega) (by unfold maxLen at hcm; omega) ?_
    intro j y hy
    have hg' : w.drew.heap[g]? = some (.cells cur 5 (0, 0)) := hbg
    have e : (⟨g, 0, none⟩ : Addr).add j = ⟨g, j, none⟩ := by rw [Addr.add_lit, Nat.zero_add]
    rw [e]
    simp only [World.cell?, hg']
    exact hcell j y hy
  have mx := mixed
  go_enter Tryz.func99, Tryz.ntmps99
  go_wp2
  go_region_o
  all_goals
    go_wp2
    go_ret
    refine ⟨rfl, ?_, fun k hk => ?_⟩
    · simp only [World.freeze]
      split
      · exact ⟨rfl, rfl, rfl, rfl⟩
      · exact ⟨rfl, rfl, rfl, by show w.heap.size = (w.heap.modify _ _).size; simp⟩
    · simp only [World.freeze]
      split
      · rfl
      · simp only [Array.getElem?_modify]
        rw [if_neg (fun e => hk e.symm)]
        rfl
end Go.Qg


namespace Go.Qg
open Go.Proofs Go.RowKit Go.Lib
set_option maxRecDepth 100000
set_option maxHeartbeats 4000000
theorem sim_two {Prot : Nat → Prop} {w w' : World} {R : Nat → Nat → Prop} {Γ : Nat → Option Loc} {b sz ep ep' : Nat} {l0 l' : Option (Nat × Nat)} {x0 x1 y0 y1 : PV}
    (h0 : Sim 0 ⟨Prot, w, R, Γ, 0, []⟩ R Γ noAct w [x0, x1]) (hb : Γ 0 = some (.cells b)) (h1 : Γ 1 = some (.rows ep sz l0)) (hep : ep < ep')
    (hos : w'.os = w.os ∧ w'.tape = w.tape ∧ w'.output = w.output ∧ w.heap.size ≤ w'.heap.size) (hblk : ∀ k, k < w.heap.size → k ≠ b → (∀ cap, l0 ≠ some (k, cap)) → w'.heap[k]? = w.heap[k]?)
    (hl' : ∀ g cap, l' = some (g, cap) → (w.heap.size ≤ g ∨ ∃ cap0, l0 = some (g, cap0)) ∧ g < w'.heap.size)
    (s0 : SlotRep 0 w' R (fun i => if i = 0 then some (.cells b) else if i = 1 then some (.rows ep' sz l') else none) 0 undef y0)
    (s1 : SlotRep 0 w' R (fun i => if i = 0 then some (.cells b) else if i = 1 then some (.rows ep' sz l') else none) 1 undef y1) (o0 : y0.isObj = true) (o1 : y1.isObj = true) :
    Sim 0 ⟨Prot, w, R, Γ, 0, []⟩ R (fun i => if i = 0 then some (.cells b) else if i = 1 then some (.rows ep' sz l') else none) noAct w' [y0, y1] := by
  obtain ⟨hbp, hbs, hbR⟩ := (h0.own 0 _ hb).2 b rfl
  have hg : ∀ g cap, l' = some (g, cap) → g ≠ b ∧ ¬ Prot g ∧ g < w'.heap.size ∧ ∀ o, ¬ R g o := fun g cap e => by
    obtain ⟨h2, h3⟩ := hl' g cap e
    rcases h2 with h2 | ⟨cap0, rfl⟩
    · refine ⟨by omega, fun hp => ?_, h3, fun o ho => ?_⟩
      · have : g < w.heap.size := h0.prot.lt g hp
        omega
      · have := h0.bnd g o ho; omega
    · obtain ⟨k1, k2, k3⟩ := (h0.own 1 _ h1).2 g rfl
      refine ⟨fun e => ?_, k1, h3, k3⟩
      subst e
      have := h0.inj 0 1 _ _ g hb h1 rfl rfl
      cases this
  have len : ∀ i l, Γ i = some l → i = 0 ∨ i = 1 := fun i l hi => by
    obtain ⟨⟨p, hp, _⟩, _⟩ := h0.own i l hi
    match i, hp with
    | 0, _ => exact .inl rfl
    | 1, _ => exact .inr rfl
  refine ⟨rfl, Nat.zero_le _, fun t p hp => ?_, fun i j l m c hi hj hl hm => ?_, fun i l hi => ?_, fun c o hc => Nat.lt_of_lt_of_le (h0.bnd c o hc) hos.2.2.2, h0.sub, ⟨hos.1, hos.2.1, hos.2.2.1, hos.2.2.2, fun k hk => ?_⟩, h0.prot, Nat.le_refl _, fun j l _ hj => ?_, rfl⟩
  · match t, hp with
    | 0, hp => obtain rfl := Option.some.inj hp; exact s0
    | 1, hp => obtain rfl := Option.some.inj hp; exact s1
  · by_cases i0 : i = 0
    · subst i0
      simp only [if_true, Option.some.injEq] at hi
      subst hi
      obtain rfl := Option.some.inj hl
      by_cases j0 : j = 0
      · exact j0.symm
      · rw [if_neg j0] at hj
        by_cases j1 : j = 1
        · rw [if_pos j1, Option.some.injEq] at hj
          subst hj
          cases l' with
          | none => cases hm
          | some gc =>
            obtain ⟨g, cap⟩ := gc
            obtain rfl := Option.some.inj hm
            exact ((hg _ _ rfl).1 rfl).elim
        · rw [if_neg j1] at hj; cases hj
    · rw [if_neg i0] at hi
      by_cases i1 : i = 1
      · rw [if_pos i1, Option.some.injEq] at hi
        subst hi
        cases l' with
        | none => cases hl
        | some gc =>
          obtain ⟨g, cap⟩ := gc
          obtain rfl := Option.some.inj hl
          by_cases j0 : j = 0
          · rw [if_pos j0, Option.some.injEq] at hj
            subst hj
            obtain rfl := Option.some.inj hm
            exact ((hg _ _ rfl).1 rfl).elim
          · rw [if_neg j0] at hj
            by_cases j1 : j = 1
            · rw [i1, j1]
            · rw [if_neg j1] at hj; cases hj
      · rw [if_neg i1] at hi; cases hi
  · by_cases i0 : i = 0
    · subst i0
      simp only [if_true, Option.some.injEq] at hi
      subst hi
      refine ⟨⟨y0, rfl, o0⟩, fun c hc => ?_⟩
      obtain rfl := Option.some.inj hc
      exact ⟨hbp, Nat.lt_of_lt_of_le hbs hos.2.2.2, hbR⟩
    · rw [if_neg i0] at hi
      by_cases i1 : i = 1
      · subst i1
        simp only [if_true, Option.some.injEq] at hi
        subst hi
        refine ⟨⟨y1, rfl, o1⟩, fun c hc => ?_⟩
        cases l' with
        | none => cases hc
        | some gc =>
          obtain ⟨g, cap⟩ := gc
          obtain rfl := Option.some.inj hc
          exact (hg _ _ rfl).2
      · rw [if_neg i1] at hi; cases hi
  · refine hblk k (h0.prot.lt k hk) (fun e => hbp (e ▸ hk)) fun cap e => ?_
    exact ((h0.own 1 _ h1).2 k (by rw [e]; rfl)).1 hk
  · rcases len j l hj with rfl | rfl
    · have e := hb.symm.trans hj
      obtain rfl := Option.some.inj e
      exact ⟨_, rfl, Loc.le_refl _⟩
    · have e := h1.symm.trans hj
      obtain rfl := Option.some.inj e
      exact ⟨_, rfl, .inr ⟨_, _, _, _, _, _, rfl, rfl, hep⟩⟩
theorem rowsU_row {l : List UInt8} : ∀ r ∈ rowsU l, r.length = 1 ∧ ∀ p ∈ r, p.one = true := fun r hr => by
  obtain ⟨s, _, rfl⟩ := List.mem_map.1 hr
  exact ⟨rfl, fun p hp => by simp only [List.mem_cons, List.not_mem_nil, or_false] at hp; rcases hp with rfl; rfl⟩
theorem rowsU_cells {w : World} {R : Nat → Nat → Prop} {Γ : Nat → Option Loc} {l : List UInt8} {vs : Array Value} {cap : Nat} (hn : l.length ≤ cap) (hs : vs.size = cap * 1)
    (hr : ∀ (i j : Nat) (r : List PV) (p : PV) (x : Value), (rowsU l)[i]? = some r → r[j]? = some p → vs[i * 1 + j]? = some x → Rep w R Γ x p) (j : Nat) (y : UInt8) (hy : l[j]? = some y) : vs[j]? = some (.int .u8 y.toNat) := by
  have hj := lt_of_get? hy
  have hv : vs[j]? = some (vs[j]'(by omega)) := Array.getElem?_eq_getElem (by omega)
  have := hr j 0 [.v (.int .u8 y.toNat)] (.v (.int .u8 y.toNat)) _ (by simp [rowsU, hy]) rfl (by rw [Nat.mul_one, Nat.add_zero]; exact hv)
  generalize vs[j]'(by omega) = u at hv this
  rw [hv]
  cases this
  rfl
theorem wstr_spec (h : BoxF) (a : PV) (l : List UInt8) (x : Int) (s : ByteArray) (ep : Nat) (ha : (a = .ref 0 0 ∧ h = BoxF.of false) ∨ (a = .v (.pointer none) ∧ h = ⟨false, some 164⟩)) (hlen : l.length + s.size ≤ 140737488355328) :
    CallW Tryz.prog 123 [.ref 0 0, .v (.string s)] [.box h [a, .own 1 ep 0 l.length false, .v (.int .i64 x)], .rows none ep 5 1 (rowsU l)]
      (fun out => out = .ret .undef [.box false [.ref 0 0, .own 1 (ep + 1) 0 (l.length + s.size) false, .v (.int .i64 x)], .rows none (ep + 1) 5 1 (rowsU (l ++ s.data.toList))]) := by
  refine ⟨fun vs w => ?_, fun w vs R Γ Prot hRp h0 hlen' hrep => ?_⟩
  · simp only [callFunc, Sem.run_bind, run_program, Result.andThen_ok, Tryz.func123, show (Tryz.f123.name == "runtime.NumGoroutine") = false from by decide]
    rfl
  match vs, hlen' with
  | [u0, u1], _ =>
    have k0 := hrep 0 u0 _ rfl rfl
    have k1 := hrep 1 u1 _ rfl rfl
    obtain ⟨b, vs, T, hΓ0, hfl, hbk, hsz, _, hr0⟩ := h0.slot 0 _ rfl
    obtain ⟨l0, hΓ1, _, _, _, s1⟩ := h0.slot 1 _ rfl
    obtain ⟨p, v, y, rfl⟩ := arr3 (vs := vs) hsz
    have ry := hr0 2 y _ rfl rfl
    have rv := hr0 1 v _ rfl rfl
    have rp := hr0 0 p _ rfl rfl
    cases ry
    cases k0 with
    | ref _ _ b' hb' =>
    rw [hΓ0] at hb'
    obtain rfl := Loc.cells.inj (Option.some.inj hb')
    cases k1
    cases rv with
    | own _ _ _ _ _ _ ep2 sz2 l2 g1 g2 g3 g4 =>
    rw [hΓ1] at g1
    simp only [Option.some.injEq, Loc.rows.injEq] at g1
    obtain ⟨rfl, rfl, rfl⟩ := g1
    have g5 := g4 rfl
    have hp : p = .pointer (some ⟨b, 0, none⟩) ∨ (p = .pointer none ∧ T = 164) := by
      rcases ha with ⟨rfl, rfl⟩ | ⟨rfl, rfl⟩
      · cases rp with
        | ref _ _ b2 hb2 =>
        rw [hΓ0] at hb2
        obtain rfl := Loc.cells.inj (Option.some.inj hb2)
        exact .inl rfl
      · cases rp
        exact .inr ⟨rfl, hfl.2 _ rfl⟩
    have hown : w.ownsRow 0 5 1 v l.length (byteCells l) := by
      refine ⟨by simp [byteCells], ?_⟩
      cases l0 with
      | none => exact .inl ⟨g5.1, g5.2.1⟩
      | some gc =>
        obtain ⟨g, cap⟩ := gc
        obtain ⟨cur, q1, q2, q3, q4, q5⟩ := s1
        obtain ⟨hv, _⟩ := g5
        simp only [rowsU_length] at q2
        refine .inr ⟨g, cap, cur, by simpa using hv, Nat.zero_le _, q1, q2, q3, q4, ?_⟩
        refine List.ext_getElem? fun j => ?_
        by_cases hj : j < l.length
        · rw [List.getElem?_take_of_lt (by omega), Array.getElem?_toList, rowsU_cells q2 q4 q5 j l[j] (List.getElem?_eq_getElem hj)]
          simp [byteCells, hj]
        · rw [List.getElem?_eq_none (by simp; omega), List.getElem?_eq_none (by simp [byteCells]; omega)]
    have hvl : ∀ g, v.ownBlock = some g → ∃ cap, l0 = some (g, cap) := fun g hg => by
      cases l0 with
      | none => rw [g5.1] at hg; cases hg
      | some gc =>
        obtain ⟨g', cap⟩ := gc
        rw [g5.1] at hg
        obtain rfl := Option.some.inj hg
        exact ⟨cap, rfl⟩
    have hne : v.ownBlock ≠ some b := fun e => by
      obtain ⟨cap, rfl⟩ := hvl b e
      have := h0.inj 0 1 _ _ b hΓ0 hΓ1 rfl rfl
      cases this
    refine (wstr3 b T p v (.int .i64 x) l.length (byteCells l) s w hbk hp hown hne hlen).mono ?_
    rintro e w' ⟨⟨r, rfl⟩, v', m1, m2, m3, m4, m5⟩
    have hcells : byteCells l ++ strCells s = byteCells (l ++ s.data.toList) := by simp [byteCells, strCells]
    rw [hcells] at m2
    have hln : (l ++ s.data.toList).length = l.length + s.size := by rw [List.length_append, Array.length_toList]; rfl
    obtain ⟨l', hl1, hl2⟩ : ∃ l' : Option (Nat × Nat), OwnAt l' 1 0 (l.length + s.size) false v' ∧ (match l' with
        | none => rowsU (l ++ s.data.toList) = []
        | some (g, cap) => v'.ownBlock = some g ∧ ∃ cur, w'.heap[g]? = some (.cells cur 5 (0, 0)) ∧ (rowsU (l ++ s.data.toList)).length ≤ cap ∧ cap ≤ maxLen ∧ cur.size = cap * 1 ∧ ∀ j, j < (l ++ s.data.toList).length → cur[j]? = (byteCells (l ++ s.data.toList))[j]?) := by
      rcases m2.2 with ⟨e1, e2⟩ | ⟨g, cap, cur, e1, _, e3, e4, e5, e6, e7⟩
      · refine ⟨none, ⟨e1, e2, rfl⟩, ?_⟩
        have : l ++ s.data.toList = [] := List.eq_nil_of_length_eq_zero (by omega)
        rw [this]; rfl
      · refine ⟨some (g, cap), ⟨by simpa using e1, by omega⟩, by rw [e1]; rfl, cur, e3, by simp only [rowsU_length]; omega, e5, e6, fun j hj => ?_⟩
        rw [← e7, List.getElem?_take_of_lt (by omega), Array.getElem?_toList]
    refine ⟨R, _, .inl ⟨r, .undef, _, rfl, rfl, .undef _, sim_two (l' := l') (ep' := ep + 1) h0 hΓ0 hΓ1 (by omega) m4 (fun k hk hkb hkl => m5 k hk hkb fun e => ?_) (fun g cap e => ?_) ?_ ?_ rfl rfl, ?_⟩⟩
    · obtain ⟨cap, hc⟩ := hvl k e.symm
      exact hkl cap hc
    · subst e
      obtain ⟨hg, cur, hcur, _⟩ := hl2
      refine ⟨?_, ?_⟩
      · rcases m3 g hg with h' | h'
        · obtain ⟨cap0, hc⟩ := hvl g h'
          exact .inr ⟨cap0, hc⟩
        · exact .inl h'
      · rcases Nat.lt_or_ge g w'.heap.size with h' | h'
        · exact h'
        · simp [Array.getElem?_eq_none h'] at hcur
    · refine ⟨b, _, T, rfl, ⟨fun e => Bool.noConfusion e, fun y e => (by cases e)⟩, m1, rfl, fun q hq => ?_, fun j u q hu hq => ?_⟩
      · simp only [List.mem_cons, List.not_mem_nil, or_false] at hq
        rcases hq with rfl | rfl | rfl <;> rfl
      · match j, hu, hq with
        | 0, hu, hq =>
          obtain rfl := Option.some.inj hu
          obtain rfl := Option.some.inj hq
          exact .ref 0 0 b rfl
        | 1, hu, hq =>
          obtain rfl := Option.some.inj hu
          obtain rfl := Option.some.inj hq
          refine .own 1 (ep + 1) 0 _ false _ (ep + 1) 1 l' rfl (Nat.le_refl _) ?_ fun _ => hl1
          rcases m2.2 with ⟨e1, _⟩ | ⟨g, cap, cur, e1, _⟩ <;> rw [e1] <;> rfl
        | 2, hu, hq =>
          obtain rfl := Option.some.inj hu
          obtain rfl := Option.some.inj hq
          exact .v _ rfl
    · refine ⟨l', rfl, fun _ _ e => (by cases e), rowsU_row, by omega, ?_⟩
      cases l' with
      | none => exact hl2
      | some gc =>
        obtain ⟨g, cap⟩ := gc
        obtain ⟨_, cur, t1, t2, t3, t4, t5⟩ := hl2
        refine ⟨cur, t1, t2, t3, t4, fun i j r q z hr hq hz => ?_⟩
        have hi := lt_of_get? hr
        simp only [rowsU_length] at hi
        simp only [rowsU, List.getElem?_map, Option.map_eq_some_iff] at hr
        obtain ⟨c, hc, rfl⟩ := hr
        match j, hq with
        | 0, hq =>
          obtain rfl := Option.some.inj hq
          have := t5 i hi
          simp only [Nat.mul_one, Nat.add_zero] at hz
          rw [hz] at this
          simp only [byteCells, List.getElem?_map, hc, Option.map_some, Option.some.injEq] at this
          rw [this]
          exact .v _ rfl
    · intro q hq
      simp only [List.mem_cons, List.not_mem_nil, or_false] at hq
      rcases hq with rfl | rfl <;> rfl
theorem bstr_spec (l : List UInt8) (x : Int) (ep : Nat) (h0l : l ≠ []) :
    CallW Tryz.prog 99 [.ref 0 0] [.box false [.ref 0 0, .own 1 ep 0 l.length false, .v (.int .i64 x)], .rows none ep 5 1 (rowsU l)]
      (fun out => out = .ret (.v (.string ⟨l.toArray⟩)) [.box false [.ref 0 0, .own 1 ep 0 l.length false, .v (.int .i64 x)], .rows none (ep + 1) 5 1 []]) := by
  refine ⟨fun vs w => ?_, fun w vs R Γ Prot hRp h0 hlen' hrep => ?_⟩
  · simp only [callFunc, Sem.run_bind, run_program, Result.andThen_ok, Tryz.func99, show (Tryz.f99.name == "runtime.NumGoroutine") = false from by decide]
    rfl
  match vs, hlen' with
  | [u0], _ =>
    have k0 := hrep 0 u0 _ rfl rfl
    obtain ⟨b, vs, T, hΓ0, hfl, hbk, hsz, hone, hr0⟩ := h0.slot 0 _ rfl
    obtain ⟨l0, hΓ1, _, _, _, s1⟩ := h0.slot 1 _ rfl
    obtain ⟨p, v, y, rfl⟩ := arr3 (vs := vs) hsz
    have ry := hr0 2 y _ rfl rfl
    have rv := hr0 1 v _ rfl rfl
    have rp := hr0 0 p _ rfl rfl
    cases ry
    cases k0 with
    | ref _ _ b' hb' =>
    rw [hΓ0] at hb'
    obtain rfl := Loc.cells.inj (Option.some.inj hb')
    cases rp with
    | ref _ _ b2 hb2 =>
    rw [hΓ0] at hb2
    obtain rfl := Loc.cells.inj (Option.some.inj hb2)
    cases rv with
    | own _ _ _ _ _ _ ep2 sz2 l2 g1 g2 g3 g4 =>
    rw [hΓ1] at g1
    simp only [Option.some.injEq, Loc.rows.injEq] at g1
    obtain ⟨rfl, rfl, rfl⟩ := g1
    have g5 := g4 rfl
    cases l0 with
    | none => exact (h0l (List.eq_nil_of_length_eq_zero g5.2.1)).elim
    | some gc =>
    obtain ⟨g, cap⟩ := gc
    obtain ⟨cur, q1, q2, q3, q4, q5⟩ := s1
    obtain ⟨hv, _⟩ := g5
    simp only [rowsU_length] at q2
    have hv' : v = .slice (some ⟨g, 0, none⟩) l.length cap := by simpa using hv
    subst hv'
    have hgb : g ≠ b := fun e => by
      subst e
      have := h0.inj 0 1 _ _ g hΓ0 hΓ1 rfl rfl
      cases this
    refine (str3 b g cap T _ (.int .i64 x) cur l h0l w hbk q1 q2 q3 (by omega) (rowsU_cells q2 q4 q5)).mono ?_
    rintro e w' ⟨rfl, m4, m5⟩
    refine ⟨R, _, .inl ⟨_, _, _, rfl, rfl, .v _ rfl, sim_two (l' := none) (ep' := ep + 1) h0 hΓ0 hΓ1 (by omega) ⟨m4.1, m4.2.1, m4.2.2.1, Nat.le_of_eq m4.2.2.2⟩ (fun k hk hkb hkl => m5 k fun e => hkl cap (by rw [e])) (fun g cap e => by cases e) ?_ ?_ rfl rfl, ?_⟩⟩
    · refine ⟨b, _, T, rfl, ⟨fun e => Bool.noConfusion e, fun y e => (by cases e)⟩, (m5 b hgb.symm).trans hbk, rfl, hone, fun j u q hu hq => ?_⟩
      match j, hu, hq with
      | 0, hu, hq =>
        obtain rfl := Option.some.inj hu
        obtain rfl := Option.some.inj hq
        exact .ref 0 0 b rfl
      | 1, hu, hq =>
        obtain rfl := Option.some.inj hu
        obtain rfl := Option.some.inj hq
        exact .own 1 ep 0 _ false _ (ep + 1) 1 none rfl (by omega) rfl fun e => by omega
      | 2, hu, hq =>
        obtain rfl := Option.some.inj hu
        obtain rfl := Option.some.inj hq
        exact .v _ rfl
    · exact ⟨none, rfl, fun _ _ e => (by cases e), fun r hr => (by cases hr), by omega, rfl⟩
    · intro q hq
      simp only [List.mem_cons, List.not_mem_nil, or_false] at hq
      rcases hq with rfl | rfl <;> rfl
end Go.Qg


namespace Go.Proofs
open Go.Shelf
def Tryz.lays156_ren : Go.Shelf.Ren := ⟨fun | 156 => 124 | 165 => 149 | 166 => 123 | 169 => 99 | 240 => 148 | 241 => 158 | 276 => 157 | 277 => 164 | n => n, fun | 31 => 166 | 9 => 9 | 3 => 3 | 4 => 4 | 0 => 0 | 20 => 20 | 72 => 162 | 76 => 203 | 70 => 160 | 37 => 109 | 75 => 202 | 127 => 206 | 164 => 226 | 5 => 5 | 80 => 167 | n => n, fun | n => n⟩
theorem Tryz.lays156 : Go.Proofs.Lays.n156 Tryz.prog Tryz.lays156_ren := {
  mixed := by kernel_rfl
  f156 := Tryz.func124.trans (congrArg some (by kernel_rfl))
  f165 := Tryz.func149.trans (congrArg some (by kernel_rfl))
  f166 := Tryz.func123.trans (congrArg some (by kernel_rfl))
  f169 := Tryz.func99.trans (congrArg some (by kernel_rfl))
  f240 := Tryz.func148.trans (congrArg some (by kernel_rfl))
  f241 := Tryz.func158.trans (congrArg some (by kernel_rfl))
  f276 := Tryz.func157.trans (congrArg some (by kernel_rfl))
  f277 := Tryz.func164.trans (congrArg some (by kernel_rfl))
  t0 := Tryz.underlying0
  a0 := Tryz.isAgg0
  z0 := Tryz.sizeOf0
  v0 := Tryz.zeroValue0
  t3 := Tryz.underlying3
  a3 := Tryz.isAgg3
  z3 := Tryz.sizeOf3
  v3 := Tryz.zeroValue3
  t4 := Tryz.underlying4
  a4 := Tryz.isAgg4
  z4 := Tryz.sizeOf4
  v4 := Tryz.zeroValue4
  t9 := Tryz.underlying9
  a9 := Tryz.isAgg9
  z9 := Tryz.sizeOf9
  v9 := Tryz.zeroValue9
  t20 := Tryz.underlying20
  a20 := Tryz.isAgg20
  z20 := Tryz.sizeOf20
  v20 := Tryz.zeroValue20
  t31 := Tryz.underlying166
  a31 := Tryz.isAgg166
  z31 := Tryz.sizeOf166
  v31 := Tryz.zeroValue166
  t37 := Tryz.underlying109
  a37 := Tryz.isAgg109
  z37 := Tryz.sizeOf109
  v37 := Tryz.zeroValue109
  t70 := Tryz.underlying160
  a70 := Tryz.isAgg160
  z70 := Tryz.sizeOf160
  v70 := Tryz.zeroValue160
  t72 := Tryz.underlying162
  a72 := Tryz.isAgg162
  z72 := Tryz.sizeOf162
  v72 := Tryz.zeroValue162
  t75 := Tryz.underlying202
  a75 := Tryz.isAgg202
  z75 := Tryz.sizeOf202
  v75 := Tryz.zeroValue202
  t76 := Tryz.underlying203
  a76 := Tryz.isAgg203
  z76 := Tryz.sizeOf203
  v76 := Tryz.zeroValue203
  t127 := Tryz.underlying206
  a127 := Tryz.isAgg206
  z127 := Tryz.sizeOf206
  v127 := Tryz.zeroValue206
  t164 := Tryz.underlying226
  a164 := Tryz.isAgg226
  z164 := Tryz.sizeOf226
  v164 := Tryz.zeroValue226 }
theorem Tryz.Builder_Extra_156 : Builder.Extra Tryz.prog Tryz.lays156_ren := {
  sizeBuilder := by kernel_rfl
  liesBuilder := by kernel_rfl
  t5 := Tryz.underlying5
  a5 := Tryz.isAgg5
  z5 := Tryz.sizeOf5
  v5 := Tryz.zeroValue5
  infoByte := by kernel_rfl
  cellsByte := by kernel_rfl
  sizeByte := by kernel_rfl
  neB5 := by decide }
open Go.RowKit in
open Go.RowKit in
theorem Tryz.strings_Join (bk o c : Nat) (xs : List ByteArray) (sep : ByteArray) (w : World) (hcells : ∀ (j : Nat) x, xs[j]? = some x → w.cell? ⟨bk, o + j, none⟩ = some (.string x)) (hbk : bk < w.heap.size) (hN : xs.length ≤ 140737488355328) (hcap : xs.length ≤ c) (hlen : (Lib.join (xs.map (·.data.toList)) sep.data.toList).length ≤ 140737488355328) :
    Calls Tryz.prog 124 #[.slice (some ⟨bk, o, none⟩) xs.length c, .string sep] w fun e w' => e = .returned (.string ⟨(Lib.join (xs.map (·.data.toList)) sep.data.toList).toArray⟩) ∧ Below w.heap.size w w' := Any.strings_Join Tryz.lays156 Tryz.Builder_Extra_156 bk o c xs sep w hcells hbk hN hcap hlen
def Tryz.laysM171_ren : Go.Shelf.Ren := ⟨fun | 171 => 125 | 243 => 150 | 246 => 159 | 283 => 165 | 284 => 166 | 285 => 167 | 286 => 168 | 129 => 179 | 317 => 178 | 318 => 180 | 319 => 181 | 320 => 182 | 337 => 193 | 338 => 194 | n => n, fun | 3 => 3 | 9 => 9 | 2 => 2 | 4 => 4 | 171 => 232 | 0 => 0 | 53 => 233 | 37 => 109 | 5 => 5 | 173 => 236 | 212 => 247 | 51 => 248 | 20 => 20 | 213 => 249 | 46 => 250 | 232 => 268 | 233 => 269 | n => n, fun | 17 => 1 | 18 => 4 | 19 => 5 | n => n⟩
theorem Tryz.laysM171 : Go.Proofs.LaysM.n171 Tryz.prog Tryz.laysM171_ren := {
  mixed := by kernel_rfl
  f129 := Tryz.func179.trans (congrArg some (by kernel_rfl))
  f171 := Tryz.func125.trans (congrArg some (by kernel_rfl))
  f243 := Tryz.func150.trans (congrArg some (by kernel_rfl))
  f246 := Tryz.func159.trans (congrArg some (by kernel_rfl))
  f283 := Tryz.func165.trans (congrArg some (by kernel_rfl))
  f284 := Tryz.func166.trans (congrArg some (by kernel_rfl))
  f285 := Tryz.func167.trans (congrArg some (by kernel_rfl))
  f286 := Tryz.func168.trans (congrArg some (by kernel_rfl))
  f317 := Tryz.func178.trans (congrArg some (by kernel_rfl))
  f318 := Tryz.func180.trans (congrArg some (by kernel_rfl))
  f319 := Tryz.func181.trans (congrArg some (by kernel_rfl))
  f320 := Tryz.func182.trans (congrArg some (by kernel_rfl))
  f337 := Tryz.func193.trans (congrArg some (by kernel_rfl))
  f338 := Tryz.func194.trans (congrArg some (by kernel_rfl))
  t0 := Tryz.underlying0
  a0 := Tryz.isAgg0
  z0 := Tryz.sizeOf0
  v0 := Tryz.zeroValue0
  t2 := Tryz.underlying2
  a2 := Tryz.isAgg2
  z2 := Tryz.sizeOf2
  v2 := Tryz.zeroValue2
  t3 := Tryz.underlying3
  a3 := Tryz.isAgg3
  z3 := Tryz.sizeOf3
  v3 := Tryz.zeroValue3
  t4 := Tryz.underlying4
  a4 := Tryz.isAgg4
  z4 := Tryz.sizeOf4
  v4 := Tryz.zeroValue4
  t5 := Tryz.underlying5
  a5 := Tryz.isAgg5
  z5 := Tryz.sizeOf5
  v5 := Tryz.zeroValue5
  t9 := Tryz.underlying9
  a9 := Tryz.isAgg9
  z9 := Tryz.sizeOf9
  v9 := Tryz.zeroValue9
  t20 := Tryz.underlying20
  a20 := Tryz.isAgg20
  z20 := Tryz.sizeOf20
  v20 := Tryz.zeroValue20
  t37 := Tryz.underlying109
  a37 := Tryz.isAgg109
  z37 := Tryz.sizeOf109
  v37 := Tryz.zeroValue109
  t46 := Tryz.underlying250
  a46 := Tryz.isAgg250
  z46 := Tryz.sizeOf250
  v46 := Tryz.zeroValue250
  t51 := Tryz.underlying248
  a51 := Tryz.isAgg248
  z51 := Tryz.sizeOf248
  v51 := Tryz.zeroValue248
  t53 := Tryz.underlying233
  a53 := Tryz.isAgg233
  z53 := Tryz.sizeOf233
  v53 := Tryz.zeroValue233
  t171 := Tryz.underlying232
  a171 := Tryz.isAgg232
  z171 := Tryz.sizeOf232
  v171 := Tryz.zeroValue232
  t173 := Tryz.underlying236
  a173 := Tryz.isAgg236
  z173 := Tryz.sizeOf236
  v173 := Tryz.zeroValue236
  t212 := Tryz.underlying247
  a212 := Tryz.isAgg247
  z212 := Tryz.sizeOf247
  v212 := Tryz.zeroValue247
  t213 := Tryz.underlying249
  a213 := Tryz.isAgg249
  z213 := Tryz.sizeOf249
  t232 := Tryz.underlying268
  a232 := Tryz.isAgg268
  z232 := Tryz.sizeOf268
  v232 := Tryz.zeroValue268
  t233 := Tryz.underlying269
  a233 := Tryz.isAgg269
  z233 := Tryz.sizeOf269
  v233 := Tryz.zeroValue269
  g17 := by kernel_rfl
  g18 := by kernel_rfl
  g19 := by kernel_rfl
  i0 := by kernel_rfl
  i2 := by kernel_rfl
  i3 := by kernel_rfl
  i4 := by kernel_rfl
  i5 := by kernel_rfl
  i9 := by kernel_rfl
  i20 := by kernel_rfl
  i37 := by kernel_rfl
  i46 := by kernel_rfl
  i51 := by kernel_rfl
  i53 := by kernel_rfl
  i171 := by kernel_rfl
  i173 := by kernel_rfl
  i212 := by kernel_rfl
  i232 := by kernel_rfl
  i233 := by kernel_rfl
  m17 := by kernel_rfl
  m18 := by kernel_rfl
  m19 := by kernel_rfl }
open Go.RowKit Go.Sort Go.Lib in
theorem Tryz.strconv_Itoa (n : Int) (h0 : -9223372036854775808 ≤ n) (h1 : n ≤ 9223372036854775807) (w : World) (htab : Lib.TabIs Tryz.prog w "internal/strconv.uint64pow10" .u64 Lib.pow10Tab) :
    Calls Tryz.prog 125 #[.int .i64 n] w fun e w' => e = .returned (.string ⟨(Lib.itoa n).toArray⟩) ∧ ∃ k os, w' = grow (w.drewN k) os := Any.strconv_Itoa Tryz.laysM171 n h0 h1 w htab
end Go.Proofs


namespace Go.Qg
open Go.Proofs Go.RowKit Go.Lib
set_option maxRecDepth 100000
set_option maxHeartbeats 4000000
theorem spec_of_calls {P : Program} {f : FuncId} {ps : List PV} {r : Value} (hr : r.oneCell' = true) (hent : ∀ (vs : Array Value) (w : World), (callFunc f vs).run P w = .ok (.enter f vs) w)
    (h : ∀ (w : World) (vs : List Value) (R : Nat → Nat → Prop) (Γ : Nat → Option Loc) (Prot : Nat → Prop), tabOk Prot w → (∀ b o, R b o → b < w.heap.size) → vs.length = ps.length →
      (∀ (i : Nat) (u : Value) (p : PV), vs[i]? = some u → ps[i]? = some p → Rep w R Γ u p) → Calls P f vs.toArray w fun e w' => e = .returned r ∧ Below w.heap.size w w') : Spec P f ps (.v r) := by
  refine ⟨hent, fun w vs R Γ Prot hRp h0 hl hrep => (h w vs R Γ Prot h0.prot.tab h0.bnd hl hrep).mono ?_⟩
  rintro e w' ⟨rfl, hb⟩
  exact ⟨R, Γ, .inl ⟨r, .v r, [], rfl, rfl, .v r hr, h0.grown hb R (fun _ _ x => x) (fun _ _ x => .inl x), fun q hq => by cases hq⟩⟩
theorem itoa_spec (n : Int) (h0 : -9223372036854775808 ≤ n) (h1 : n ≤ 9223372036854775807) : Spec Tryz.prog 125 [.v (.int .i64 n)] (.v (.string ⟨(Lib.itoa n).toArray⟩)) := by
  refine spec_of_calls rfl (fun vs w => ?_) fun w vs R Γ Prot hT hb hl hrep => ?_
  · simp only [callFunc, Sem.run_bind, run_program, Result.andThen_ok, Tryz.func125, show (Tryz.f125.name == "runtime.NumGoroutine") = false from by decide]
    rfl
  match vs, hl with
  | [u0], _ =>
    have k0 := hrep 0 u0 _ rfl rfl
    cases k0
    obtain ⟨_, cs, t, fz, hh, hcs⟩ := hT 1 _ (by simp [seatTabs]; rfl)
    have htab : Lib.TabIs Tryz.prog w "internal/strconv.uint64pow10" .u64 Lib.pow10Tab := by
      have hg : Tryz.prog.globalNamed "internal/strconv.uint64pow10" = some 1 := by kernel_rfl
      simp only [Lib.TabIs, World.var?, hg, Option.bind_some, hh]
      rw [hcs]
      rfl
    refine (Tryz.strconv_Itoa n h0 h1 w htab).mono ?_
    rintro e w' ⟨rfl, k, os, rfl⟩
    exact ⟨rfl, below_grow _ w (Nat.le_refl _) k os⟩
def strsL (xs : List ByteArray) : PV := .sl 1 xs.length fun i => [.v (.string (xs.getD i ByteArray.empty))]
def joinB (xs : List ByteArray) (sep : ByteArray) : List UInt8 := Lib.join (xs.map (·.data.toList)) sep.data.toList
theorem join_spec (xs : List ByteArray) (sep : ByteArray) (hx : xs ≠ []) (hN : xs.length ≤ 140737488355328) (hlen : (joinB xs sep).length ≤ 140737488355328) :
    Spec Tryz.prog 124 [strsL xs, .v (.string sep)] (.v (.string ⟨(joinB xs sep).toArray⟩)) := by
  refine spec_of_calls rfl (fun vs w => ?_) fun w vs R Γ Prot hT hb hl hrep => ?_
  · simp only [callFunc, Sem.run_bind, run_program, Result.andThen_ok, Tryz.func124, show (Tryz.f124.name == "runtime.NumGoroutine") = false from by decide]
    rfl
  match vs, hl with
  | [u0, u1], _ =>
    have k0 := hrep 0 u0 _ rfl rfl
    have k1 := hrep 1 u1 _ rfl rfl
    cases k1
    cases k0 with
    | sl A n c sz f us h1 h2 h3 h4 h5 h6 =>
    have hpos : 0 < xs.length := List.length_pos_iff.2 hx
    obtain ⟨b, o, hA, hR, _⟩ := h5 0 0 hpos (by omega)
    subst hA
    refine (Tryz.strings_Join b o c xs sep w (fun j x hj => ?_) (hb _ _ hR) hN h1 hlen).mono ?_
    · have hjl := lt_of_get? hj
      obtain ⟨b2, o2, hA2, _, hcell⟩ := h5 j 0 hjl (by omega)
      simp only [Option.some.injEq, Addr.mk.injEq, and_true] at hA2
      obtain ⟨rfl, rfl⟩ := hA2
      have hr := h6 j 0 _ hjl rfl
      simp only [Nat.mul_one, Nat.add_zero] at hcell
      rw [hcell]
      have hx : xs.getD j ByteArray.empty = x := by simp [List.getD, hj]
      rw [hx] at hr
      generalize us j 0 = u at hr
      cases hr
      rfl
    · rintro e w' ⟨rfl, hbl⟩
      exact ⟨rfl, hbl⟩
end Go.Qg


namespace Go.Qg
open Go.RowKit (Below)
section
variable {P : Program} {N : Nat} {B : Base} {w : World} {R : Nat → Nat → Prop} {Γ Γ' : Nat → Option Loc} {a : Act} {fr : PF} {π : Nat → Nat}
end
theorem Weak.trans {M : Nat} {f g h : PF} (h1 : Weak M f g) (h2 : Weak M g h) : Weak M f h := fun N B a w hM hs => h2 N B a w hM (h1 N B a w hM hs)
end Go.Qg


namespace Go.Qg
def dropO (e : Nat) (fr : PF) : PF := (fr.map fun p => if p.names.contains e then .undef else p).set e .undef
end Go.Qg



namespace Go.Qg
open Go.Proofs Go.RowKit Go.Lib
set_option maxRecDepth 100000
set_option maxHeartbeats 16000000
attribute [local irreducible] pwp pops pdraw pop popCall pdCall thenP blockP scopeP pspec Spec answers ppost CallW
def bytesOf (l : List UInt8) : ByteArray := ⟨l.toArray⟩
@[simp] theorem bytesOf_size (l : List UInt8) : (bytesOf l).size = l.length := by simp [bytesOf, ByteArray.size]
@[simp] theorem bytesOf_list (l : List UInt8) : (bytesOf l).data.toList = l := by simp [bytesOf]
def numsB : List Int → List UInt8
  | [] => []
  | n :: ns => 32 :: Lib.itoa n ++ numsB ns
theorem numsB_snoc (l : List Int) (n : Int) : numsB (l ++ [n]) = numsB l ++ 32 :: Lib.itoa n := by
  induction l with
  | nil => simp [numsB]
  | cons x l ih => simp [numsB, ih]
theorem take_snoc {l : List Int} {k : Nat} (h : k < l.length) : l.take (k + 1) = l.take k ++ [geti l k] := by
  rw [List.take_add_one]
  simp [geti, h]
theorem numsB_take {l : List Int} {k : Nat} (h : k < l.length) : numsB (l.take (k + 1)) = numsB (l.take k) ++ 32 :: Lib.itoa (geti l k) := by
  rw [take_snoc h, numsB_snoc]
theorem numsB_len {l : List Int} (h : ∀ x ∈ l, -9223372036854775808 ≤ x ∧ x ≤ 9223372036854775807) : (numsB l).length ≤ 22 * l.length := by
  induction l with
  | nil => simp [numsB]
  | cons x l ih =>
    have h1 := ih fun y hy => h y (List.mem_cons_of_mem _ hy)
    have h2 := itoa_length_le x (h x List.mem_cons_self).1 (h x List.mem_cons_self).2
    simp [numsB]
    omega
def sumI (l : List Int) : Int := l.foldl (· + ·) 0
theorem sumI_take {l : List Int} {k : Nat} (h : k < l.length) : sumI (l.take (k + 1)) = sumI (l.take k) + geti l k := by
  rw [take_snoc h, sumI, List.foldl_append]
  rfl
def lineB (ws : List ByteArray) (ns : List Int) : List UInt8 := joinB ws (bytesOf [32]) ++ numsB ns ++ [10]
theorem sumI_bound {l : List Int} {b : Int} (h : ∀ x ∈ l, 0 ≤ x ∧ x ≤ b) : 0 ≤ sumI l ∧ sumI l ≤ b * l.length := by
  have key : ∀ (l : List Int) (a : Int), (∀ x ∈ l, 0 ≤ x ∧ x ≤ b) → a ≤ l.foldl (· + ·) a ∧ l.foldl (· + ·) a ≤ a + b * l.length := by
    intro l
    induction l with
    | nil => intro a _; simp
    | cons x l ih =>
      intro a h
      have h1 := ih (a + x) fun y hy => h y (List.mem_cons_of_mem _ hy)
      have h2 := h x List.mem_cons_self
      have e : b * ((l.length + 1 : Nat) : Int) = b * l.length + b := by push_cast; rw [Int.mul_add, Int.mul_one]
      simp only [List.foldl_cons, List.length_cons]
      rw [e]
      omega
  have := key l 0 h
  simpa [sumI] using this
theorem mem_take_of {l : List Int} {k : Nat} {x : Int} (h : x ∈ l.take k) : x ∈ l := List.mem_of_mem_take h
def spB : ByteArray := bytesOf [32]
theorem sp_data (l : List UInt8) : ((⟨#[32]⟩ : ByteArray) ++ ⟨l.toArray⟩).data.toList = 32 :: l := by simp [ByteArray.data_append]
theorem sp_size (l : List UInt8) : ((⟨#[32]⟩ : ByteArray) ++ ⟨l.toArray⟩).size = l.length + 1 := by
  have : ((⟨#[32]⟩ : ByteArray) ++ ⟨l.toArray⟩).size = (((⟨#[32]⟩ : ByteArray) ++ ⟨l.toArray⟩).data.toList).length := by simp [ByteArray.size]
  rw [this, sp_data]
  rfl
def lineK (l : List UInt8) (ws : List ByteArray) (ns : List Int) (k : Nat) : List UInt8 := l ++ joinB ws spB ++ numsB (ns.take k)
theorem line_spec (h : BoxF) (a : PV) (l : List UInt8) (x : Int) (ws : List ByteArray) (ns : List Int) (ep : Nat) (ha : (a = .ref 0 0 ∧ h = BoxF.of false) ∨ (a = .v (.pointer none) ∧ h = ⟨false, some 164⟩))
    (hw : ws ≠ [] ∧ ws.length ≤ 100 ∧ (joinB ws spB).length ≤ 1000) (hns : ns.length ≤ 100) (hn : ∀ y ∈ ns, 0 ≤ y ∧ y ≤ 1000000) (hl : l.length ≤ 1000000) (hx : 0 ≤ x ∧ x ≤ 1000000000000) :
    CallW Tryz.prog 98 [.ref 0 0, strsL ws, ints ns] [.box h [a, .own 1 ep 0 l.length false, .v (.int .i64 x)], .rows none ep 5 1 (rowsU l)]
      (fun out => ∃ ep', out = .ret (.tup []) [.box false [.ref 0 0, .own 1 ep' 0 (l ++ lineB ws ns).length false, .v (.int .i64 (x + sumI ns))], .rows none ep' 5 1 (rowsU (l ++ lineB ws ns))]) := by
  have hj := join_spec ws spB hw.1 (by omega) (by omega)
  have hnl := numsB_len (l := ns) fun y hy => by have := hn y hy; omega
  have hnk : ∀ k, (numsB (ns.take k)).length ≤ 2200 := fun k => by
    have h1 := numsB_len (l := ns.take k) fun y hy => by have := hn y (mem_take_of hy); omega
    have h2 : (ns.take k).length ≤ 100 := by rw [List.length_take]; omega
    omega
  have hw1 := wstr_spec h a l x ⟨(joinB ws spB).toArray⟩ ep ha (by have : (⟨(joinB ws spB).toArray⟩ : ByteArray).size = (joinB ws spB).length := bytesOf_size _; omega)
  have e1 : (⟨(joinB ws spB).toArray⟩ : ByteArray).data.toList = joinB ws spB := bytesOf_list _
  have e2 : (⟨(joinB ws spB).toArray⟩ : ByteArray).size = (joinB ws spB).length := bytesOf_size _
  rw [e1, e2] at hw1
  have hk0 : l ++ joinB ws spB = lineK l ws ns 0 := by simp [lineK, numsB]
  have hk0l : l.length + (joinB ws spB).length = (lineK l ws ns 0).length := by rw [← hk0, List.length_append]
  rw [hk0, hk0l] at hw1
  have hKl : ∀ k, (lineK l ws ns k).length ≤ 1010000 := fun k => by
    have := hnk k
    simp only [lineK, List.length_append]
    omega
  have hsk : ∀ k, 0 ≤ sumI (ns.take k) ∧ sumI (ns.take k) ≤ 100000000 := fun k => by
    have h1 := sumI_bound (l := ns.take k) (b := 1000000) fun y hy => hn y (mem_take_of hy)
    have h2 : ((ns.take k).length : Int) ≤ 100 := by rw [List.length_take]; omega
    omega
  rcases ha with ⟨rfl, rfl⟩ | ⟨rfl, rfl⟩
  all_goals
    refine callW_of mixed Tryz.func98 (by decide) rfl (congrArg Array.toList Tryz.results98) Tryz.ntmps98 (by decide) 40 (by simp) (by decide) ?_
    simp [strsL, ints]
    refine pwp_draw 5 (by decide) ?_
    simp
    refine pd_spec hj (by simp [strsL]; rfl) (by simp) (by simp [strsL]) rfl ?_
    simp
    refine ⟨by decide, ?_⟩
    refine pop_callW hw1 rfl [40, 41] false (by decide) ?_ (.inl ?_) ?_
    · simp
    · simp
    rintro out rfl
    refine ⟨[], by simp [backOk], .inl rfl, by simp [back, backV, placeAll], ?_⟩
    simp [back, backV, placeAll]
    refine pwp_loop (fun k : Nat => [(16, .v (.int .i64 k)), (40, .box false [.ref 40 0, .own 41 (ep + 1 + k) 0 (lineK l ws ns k).length false, .v (.int .i64 (x + sumI (ns.take k)))]), (41, .rows none (ep + 1 + k) 5 1 (rowsU (lineK l ws ns k)))]) (fun k => k ≤ ns.length) (fun k => ns.length - k) 0 (Nat.zero_le _) (by simp; rfl) ?_ ?_
    · simp [sumI]
    intro k hk
    have hKk := hKl k
    by_cases hkl : k < ns.length
    · have wk := i64_wrap (show -9223372036854775808 ≤ (k : Int) + 1 ∧ _ from by omega)
      have hy : 0 ≤ geti ns k ∧ geti ns k ≤ 1000000 := hn _ (by simp [geti, hkl])
      have hs1 := hsk k
      have hs2 := hsk (k + 1)
      have wsu := i64_wrap (show -9223372036854775808 ≤ x + sumI (ns.take k) + geti ns k ∧ _ from by rw [sumI_take hkl] at hs2; omega)
      have hil := itoa_length_le (geti ns k) (by omega) (by omega)
      have hit := itoa_spec (geti ns k) (by omega) (by omega)
      have hz := sp_size (Lib.itoa (geti ns k))
      have hw2 := wstr_spec (BoxF.of false) (.ref 0 0) (lineK l ws ns k) (x + sumI (ns.take k)) (⟨#[32]⟩ ++ ⟨(Lib.itoa (geti ns k)).toArray⟩) (ep + 1 + k) (.inl ⟨rfl, rfl⟩) (by omega)
      have hk1 : lineK l ws ns k ++ 32 :: Lib.itoa (geti ns k) = lineK l ws ns (k + 1) := by
        simp only [lineK, numsB_take hkl, List.append_assoc]
      have hk1l : (lineK l ws ns k).length + ((Lib.itoa (geti ns k)).length + 1) = (lineK l ws ns (k + 1)).length := by rw [← hk1, List.length_append, List.length_cons]
      rw [sp_data, hz, hk1, hk1l] at hw2
      simp [hkl]
      refine pwp_draw 6 (by decide) ?_
      simp
      refine pd_spec hit (by simp) (by simp) (by simp) rfl ?_
      have hz1 : (⟨#[32]⟩ : ByteArray).size = 1 := rfl
      have hz2 : (⟨(Lib.itoa (geti ns k)).toArray⟩ : ByteArray).size = (Lib.itoa (geti ns k)).length := bytesOf_size _
      simp [hz1, hz2, show 1 + (Lib.itoa (geti ns k)).length ≤ 9223372036854775807 from by omega]
      refine ⟨by decide, ?_⟩
      refine pop_callW hw2 rfl [40, 41] false (by decide) ?_ (.inl ?_) ?_
      · simp
      · simp
      rintro out rfl
      refine ⟨[], by simp [backOk], .inl rfl, by simp [back, backV, placeAll], ?_⟩
      simp [back, backV, placeAll, wsu]
      refine again_of (k + 1) (by omega) (by omega) ?_
      simp [wk, sumI_take hkl, Int.add_assoc, show ep + 1 + k + 1 = ep + 1 + (k + 1) from by omega]
    · obtain rfl : k = ns.length := by omega
      have hw3 := wstr_spec (BoxF.of false) (.ref 0 0) (lineK l ws ns ns.length) (x + sumI (ns.take ns.length)) ⟨#[10]⟩ (ep + 1 + ns.length) (.inl ⟨rfl, rfl⟩) (by have : (⟨#[10]⟩ : ByteArray).size = 1 := rfl; omega)
      have hend : lineK l ws ns ns.length ++ [10] = l ++ lineB ws ns := by simp [lineK, lineB, spB]
      have hendl : (lineK l ws ns ns.length).length + 1 = (l ++ lineB ws ns).length := by rw [← hend, List.length_append]; rfl
      rw [show (⟨#[10]⟩ : ByteArray).data.toList = [10] from rfl, show (⟨#[10]⟩ : ByteArray).size = 1 from rfl, hend, hendl, List.take_length] at hw3
      simp
      refine pop_callW hw3 rfl [40, 41] false (by decide) ?_ (.inl ?_) ?_
      · simp
      · simp
      rintro out rfl
      refine ⟨[], by simp [backOk], .inl rfl, by simp [back, backV, placeAll], ?_⟩
      simp [back, backV, placeAll]
      refine ends_n (.tup []) [.box false [.ref 0 0, .own 1 (ep + 1 + ns.length + 1) 0 (l ++ lineB ws ns).length false, .v (.int .i64 (x + sumI ns))], .rows none (ep + 1 + ns.length + 1) 5 1 (rowsU (l ++ lineB ws ns))] [] rfl (by decide) ?_ ?_ ⟨ep + 1 + ns.length + 1, by simp⟩
      · simp
      · simp
end Go.Qg


namespace Go.Qg
open Go.Proofs Go.RowKit Go.Lib
set_option maxRecDepth 100000
set_option maxHeartbeats 16000000
attribute [local irreducible] pwp pops pdraw pop popCall pdCall thenP blockP scopeP pspec Spec answers ppost CallW
theorem bytesOf_app (a b : List UInt8) : bytesOf a ++ bytesOf b = bytesOf (a ++ b) := by
  apply ByteArray.ext
  simp [bytesOf, ByteArray.data_append]
theorem lit_end : (⟨#[101, 110, 100, 32]⟩ : ByteArray) = bytesOf [101, 110, 100, 32] := rfl
theorem lit_nl : (⟨#[10]⟩ : ByteArray) = bytesOf [10] := rfl
def lastB (sum : Int) : List UInt8 := [101, 110, 100, 32] ++ Lib.itoa (sum % 97 / 10) ++ Lib.itoa (sum % 97 % 10) ++ [10]
theorem lastB_len {sum : Int} : (lastB sum).length ≤ 47 := by
  have l1 := itoa_length_le (sum % 97 / 10) (by omega) (by omega)
  have l2 := itoa_length_le (sum % 97 % 10) (by omega) (by omega)
  simp only [lastB, List.length_append, List.length_cons, List.length_nil]
  omega
theorem last_spec (sum : Int) (h : 0 ≤ sum ∧ sum ≤ 1000000000000000) : Spec Tryz.prog 100 [.v (.int .i64 sum)] (.v (.string (bytesOf (lastB sum)))) := by
  have h1 : sum.tmod 97 = sum % 97 := Int.tmod_eq_emod_of_nonneg h.1
  have h2 : (sum % 97).tdiv 10 = sum % 97 / 10 := Int.tdiv_eq_ediv_of_nonneg (by omega)
  have h3 : (sum % 97).tmod 10 = sum % 97 % 10 := Int.tmod_eq_emod_of_nonneg (by omega)
  have i1 : Spec Tryz.prog 125 [.v (.int .i64 (sum % 97 / 10))] (.v (.string (bytesOf (Lib.itoa (sum % 97 / 10))))) := itoa_spec (sum % 97 / 10) (by omega) (by omega)
  have i2 : Spec Tryz.prog 125 [.v (.int .i64 (sum % 97 % 10))] (.v (.string (bytesOf (Lib.itoa (sum % 97 % 10))))) := itoa_spec (sum % 97 % 10) (by omega) (by omega)
  have l1 := itoa_length_le (sum % 97 / 10) (by omega) (by omega)
  have l2 := itoa_length_le (sum % 97 % 10) (by omega) (by omega)
  have w1 := i64_wrap (show -9223372036854775808 ≤ sum % 97 / 10 ∧ _ from by omega)
  have w2 := i64_wrap (show -9223372036854775808 ≤ sum % 97 % 10 ∧ _ from by omega)
  have w3 := i64_wrap (show -9223372036854775808 ≤ sum % 97 ∧ _ from by omega)
  have hb : lastB sum = [101, 110, 100, 32] ++ Lib.itoa (sum % 97 / 10) ++ Lib.itoa (sum % 97 % 10) ++ [10] := rfl
  generalize Lib.itoa (sum % 97 / 10) = A at *
  generalize Lib.itoa (sum % 97 % 10) = B at *
  refine spec_of mixed Tryz.func100 (by decide) rfl Tryz.results100 Tryz.ntmps100 (by decide) 0 (by simp) ?_
  simp [h1, h2, h3, w1, w2, w3]
  refine pop_spec i1 rfl false (.inl (by simp)) (.inl rfl) rfl (by simp) ?_
  simp [h1, h2, h3, w1, w2, w3, lit_end, bytesOf_app, show 4 + A.length ≤ 9223372036854775807 from by omega, show A.length + 4 ≤ 9223372036854775807 from by omega]
  refine pop_spec i2 rfl false (.inl (by simp)) (.inl rfl) rfl (by simp) ?_
  simp [lit_nl, bytesOf_app, show 4 + A.length + B.length ≤ 9223372036854775807 from by omega, show A.length + 4 + B.length ≤ 9223372036854775807 from by omega, show A.length + 1 + 1 + 1 + 1 + B.length ≤ 9223372036854775807 from by omega, show 4 + A.length + B.length + 1 ≤ 9223372036854775807 from by omega, show A.length + B.length + 4 ≤ 9223372036854775807 from by omega, show A.length + B.length + 4 + 1 ≤ 9223372036854775807 from by omega, show A.length + 4 + B.length + 1 ≤ 9223372036854775807 from by omega]
  refine answers_of rfl ?_
  simp [hb]
def tripW : ByteArray := bytesOf [116, 114, 105, 112]
def legW : ByteArray := bytesOf [108, 101, 103]
def keepW : ByteArray := bytesOf [107, 101, 101, 112]
def pumpW : ByteArray := bytesOf [112, 117, 109, 112]
def itemW : ByteArray := bytesOf [105, 116, 101, 109]
def headN (fuel : Spn) (legs : List Leg) : List Int := [fuel.low, fuel.high, legs.length]
def legN (g : Leg) : List Int := [g.fuel, g.burn.low, g.burn.high, g.leak.low, g.leak.high, g.items.length]
def itmN (i : Itm) : List Int := [i.station, i.low, i.high]
def legWs (g : Leg) : List ByteArray := [legW, if g.pump = true then pumpW else keepW]
def itemsTo (l : List Itm) (T : List UInt8) : Nat → List UInt8
  | 0 => T
  | k + 1 => itemsTo l T k ++ lineB [itemW] (itmN (itmAt l k))
def itemsSum (l : List Itm) (x : Int) : Nat → Int
  | 0 => x
  | k + 1 => itemsSum l x k + sumI (itmN (itmAt l k))
def legsTo (legs : List Leg) (T : List UInt8) : Nat → List UInt8
  | 0 => T
  | k + 1 => itemsTo (legAt legs k).items (legsTo legs T k ++ lineB (legWs (legAt legs k)) (legN (legAt legs k))) (legAt legs k).items.length
def legsSum (legs : List Leg) (x : Int) : Nat → Int
  | 0 => x
  | k + 1 => itemsSum (legAt legs k).items (legsSum legs x k + sumI (legN (legAt legs k))) (legAt legs k).items.length
def sheetB (fuel : Spn) (legs : List Leg) : List UInt8 := legsTo legs (lineB [tripW] (headN fuel legs)) legs.length
def sheetS (fuel : Spn) (legs : List Leg) : Int := legsSum legs (sumI (headN fuel legs)) legs.length
def printB (fuel : Spn) (legs : List Leg) : List UInt8 := sheetB fuel legs ++ lastB (sheetS fuel legs)
def printRes (fuel : Spn) (legs : List Leg) : PV := if tripE fuel legs 8 = 0 then .tup [.v (.string (bytesOf (printB fuel legs))), .v (.int .i64 0)] else .tup [.v (.string (bytesOf [])), .v (.int .i64 (tripE fuel legs 8))]
theorem lineB_len {ws : List ByteArray} {ns : List Int} {a : Nat} (hw : (joinB ws spB).length ≤ a) (hn : ∀ y ∈ ns, 0 ≤ y ∧ y ≤ 1000000) : (lineB ws ns).length ≤ a + 22 * ns.length + 1 := by
  have := numsB_len (l := ns) fun y hy => by have := hn y hy; omega
  simp only [lineB, List.length_append, List.length_cons, List.length_nil]
  have e : joinB ws (bytesOf [32]) = joinB ws spB := rfl
  rw [e]
  omega
theorem join_trip : joinB [tripW] spB = [116, 114, 105, 112] := by simp [joinB, tripW, Lib.join_one]
theorem join_item : joinB [itemW] spB = [105, 116, 101, 109] := by simp [joinB, itemW, Lib.join_one]
theorem join_leg (g : Leg) : (joinB (legWs g) spB).length = 8 := by
  cases h : g.pump <;> simp [joinB, legWs, h, legW, keepW, pumpW, spB, Lib.join, List.intercalate]
structure NumI (i : Itm) : Prop where
  a : ∀ y ∈ itmN i, 0 ≤ y ∧ y ≤ 20000
structure NumL (g : Leg) : Prop where
  n : g.items.length ≤ 12
  a : ∀ y ∈ legN g, 0 ≤ y ∧ y ≤ 20000
  i : ∀ k, k < g.items.length → NumI (itmAt g.items k)
theorem numL_of {g : Leg} (h : legB 8 g = true) : NumL g := by
  simp only [legB, itemsB, Bool.and_eq_true, decide_eq_true_eq, inB_spec, spanB_spec] at h
  obtain ⟨⟨⟨⟨h1, h2⟩, h3⟩, h4⟩, h5⟩ := h
  refine ⟨h1, fun y hy => ?_, fun k hk => ⟨fun y hy => ?_⟩⟩
  · simp only [legN, List.mem_cons, List.not_mem_nil, or_false] at hy
    rcases hy with rfl | rfl | rfl | rfl | rfl | rfl <;> omega
  · have := allN_spec.1 h2 k hk
    simp only [itmB, Bool.and_eq_true, inB_spec, spanB_spec] at this
    simp only [itmN, List.mem_cons, List.not_mem_nil, or_false] at hy
    rcases hy with rfl | rfl | rfl <;> omega
theorem items_bound {l : List Itm} {T : List UInt8} {x : Int} : ∀ k, (∀ j, j < k → NumI (itmAt l j)) → (itemsTo l T k).length ≤ T.length + 100 * k ∧ x ≤ itemsSum l x k ∧ itemsSum l x k ≤ x + 60000 * k
  | 0, _ => by simp [itemsTo, itemsSum]
  | k + 1, h => by
    obtain ⟨h1, h2, h3⟩ := items_bound (l := l) (T := T) (x := x) k fun j hj => h j (by omega)
    have hk := h k (by omega)
    have h4 := lineB_len (ws := [itemW]) (ns := itmN (itmAt l k)) (a := 4) (by rw [join_item]; simp) fun y hy => by have := hk.a y hy; omega
    have h5 := sumI_bound (l := itmN (itmAt l k)) (b := 20000) hk.a
    have h6 : (itmN (itmAt l k)).length = 3 := rfl
    rw [h6] at h4 h5
    simp only [itemsTo, itemsSum, List.length_append]
    push_cast
    omega
theorem legs_bound {legs : List Leg} {T : List UInt8} {x : Int} : ∀ k, (∀ j, j < k → NumL (legAt legs j)) → (legsTo legs T k).length ≤ T.length + 2000 * k ∧ x ≤ legsSum legs x k ∧ legsSum legs x k ≤ x + 1000000 * k
  | 0, _ => by simp [legsTo, legsSum]
  | k + 1, h => by
    obtain ⟨h1, h2, h3⟩ := legs_bound (legs := legs) (T := T) (x := x) k fun j hj => h j (by omega)
    have hk := h k (by omega)
    have h4 := lineB_len (ws := legWs (legAt legs k)) (ns := legN (legAt legs k)) (a := 8) (by rw [join_leg]; omega) fun y hy => by have := hk.a y hy; omega
    have h5 := sumI_bound (l := legN (legAt legs k)) (b := 20000) hk.a
    have h6 : (legN (legAt legs k)).length = 6 := rfl
    rw [h6] at h4 h5
    have h7 := items_bound (l := (legAt legs k).items) (T := legsTo legs T k ++ lineB (legWs (legAt legs k)) (legN (legAt legs k))) (x := legsSum legs x k + sumI (legN (legAt legs k))) (legAt legs k).items.length hk.i
    have h8 := hk.n
    simp only [legsTo, legsSum, List.length_append] at h7 ⊢
    push_cast at h7 ⊢
    omega
end Go.Qg


namespace Go.Qg
theorem lt2 {p : Nat → Prop} (h0 : p 0) (h1 : p 1) : ∀ k, k < 2 → p k
  | 0, _ => h0
  | 1, _ => h1
theorem lt3 {p : Nat → Prop} (h0 : p 0) (h1 : p 1) (h2 : p 2) : ∀ k, k < 3 → p k
  | 0, _ => h0
  | 1, _ => h1
  | 2, _ => h2
theorem lt4 {p : Nat → Prop} (h0 : p 0) (h1 : p 1) (h2 : p 2) (h3 : p 3) : ∀ k, k < 4 → p k
  | 0, _ => h0
  | 1, _ => h1
  | 2, _ => h2
  | 3, _ => h3
theorem lt6 {p : Nat → Prop} (h0 : p 0) (h1 : p 1) (h2 : p 2) (h3 : p 3) (h4 : p 4) (h5 : p 5) : ∀ k, k < 6 → p k
  | 0, _ => h0
  | 1, _ => h1
  | 2, _ => h2
  | 3, _ => h3
  | 4, _ => h4
  | 5, _ => h5
theorem ext_geti {a b : List Int} (h : a.length = b.length) (h2 : ∀ k, k < a.length → geti a k = geti b k) : a = b := by
  refine List.ext_getElem h fun i h3 h4 => ?_
  have := h2 i h3
  simpa [geti, h3, h4] using this
end Go.Qg


namespace Go.Qg
open Go.Proofs Go.RowKit Go.Lib
set_option maxRecDepth 100000
set_option maxHeartbeats 32000000
attribute [local irreducible] pwp pops pdraw pop popCall pdCall thenP blockP scopeP pspec Spec answers ppost CallW
theorem numL_all {fuel : Spn} {legs : List Leg} (h : tripE fuel legs 8 = 0) : legs.length ≤ 6 ∧ (0 ≤ fuel.low ∧ fuel.low ≤ fuel.high ∧ fuel.high ≤ 20000) ∧ ∀ k, k < legs.length → NumL (legAt legs k) := by
  unfold tripE at h
  split at h
  · omega
  · split at h
    · omega
    · rename_i h1 h2
      simp only [not_or, Bool.not_eq_false] at h2
      obtain ⟨h3, h4, h5⟩ := h2
      exact ⟨by omega, spanB_spec.1 h4, fun k hk => numL_of (allN_spec.1 h5 k hk)⟩
theorem Print_spec (fuel : Spn) (legs : List Leg) (hl : legs.length ≤ 9223372036854775807) (hi : ∀ k, k < legs.length → (legAt legs k).items.length ≤ 9223372036854775807) :
    Spec Tryz.prog 51 [.agg fuel.cells, legL legs] (printRes fuel legs) := by
  have htrip := trip_spec fuel legs 8 hl hi (by omega)
  simp only [Spn.cells] at htrip
  unfold Spec printRes
  refine callW_ofE Tryz.func51 (by decide) rfl (congrArg Array.toList Tryz.results51) Tryz.ntmps51 84 (by simp) (by decide) fun B0 hB0 hD0 => ?_
  have hlo : ∀ s B, ECtx B0 s B → B.lo = 84 := fun _ _ h => h.1.trans hB0
  refine XW_seqP mixed hlo (by decide) ?_
  simp [Spn.cells, legL]
  refine XW_seqP mixed hlo (by decide) ?_
  simp
  refine pop_spec htrip rfl false (.inl (by simp [legL])) (.inl rfl) rfl (by simp) ?_
  by_cases he : tripE fuel legs 8 = 0
  case neg =>
    simp [he]
    refine ends_of (.tup [.v (.string (bytesOf [])), .v (.int .i64 (tripE fuel legs 8))]) [] [] (x := .tup [.v (.string ⟨#[]⟩), .v (.int .i64 (tripE fuel legs 8))]) (by simp) (by decide) ?_ ?_ rfl
    · simp
    · simp [bytesOf]
  obtain ⟨hn, hf, hL⟩ := numL_all he
  simp [he]
  refine XW_seqP mixed hlo (by decide) ?_
  simp
  have hlen0 : (lineB [tripW] (headN fuel legs)).length ≤ 71 := by
    have := lineB_len (ws := [tripW]) (ns := headN fuel legs) (a := 4) (by rw [join_trip]; simp) fun y hy => by
      simp only [headN, List.mem_cons, List.not_mem_nil, or_false] at hy
      rcases hy with rfl | rfl | rfl <;> omega
    have e : (headN fuel legs).length = 3 := rfl
    omega
  have hsum0 := sumI_bound (l := headN fuel legs) (b := 20000) fun y hy => by
    simp only [headN, List.mem_cons, List.not_mem_nil, or_false] at hy
    rcases hy with rfl | rfl | rfl <;> omega
  have hl0 := line_spec ⟨false, some 164⟩ (.v (.pointer none)) [] 0 [tripW] (headN fuel legs) 0 (.inr ⟨rfl, rfl⟩) ⟨by simp, by simp, by rw [join_trip]; simp⟩ (by simp [headN]) (fun y hy => by
    simp only [headN, List.mem_cons, List.not_mem_nil, or_false] at hy
    rcases hy with rfl | rfl | rfl <;> omega) (by simp) (by omega)
  simp only [List.nil_append, Int.zero_add, List.length_nil, rowsU_nil] at hl0
  refine XW_seqP mixed hlo (by decide) ?_
  simp
  refine pop_callF [(7, .box ⟨true, some 164⟩ [.v (.pointer none), .own 83 0 0 0 false, .v (.int .i64 0)]), (19, strsL [tripW]), (26, ints (headN fuel legs)), (83, .rows none 0 5 1 [])] ?_ hl0 rfl [7, 83] false (by decide) ?_ (.inl ?_) ?_
  · simp [strsL, ints, headN]
    refine ⟨rfl, lt3 ?_ ?_ ?_⟩ <;> simp [geti]
  · simp
  · simp [strsL, ints, headN]
  rintro out ⟨ep1, rfl⟩
  refine ⟨[], by simp [backOk], .inl rfl, by simp [back, backV, placeAll], ?_⟩
  simp [back, backV, placeAll]
  refine XW_seqP mixed hlo (by decide) ?_
  simp
  refine pwp_loop (fun s : Nat × Nat => [(19, .undef), (26, .undef), (7, .box true [.ref 7 0, .own 83 s.2 0 (legsTo legs (lineB [tripW] (headN fuel legs)) s.1).length false, .v (.int .i64 (legsSum legs (sumI (headN fuel legs)) s.1))]), (30, .v (.int .i64 s.1)), (83, .rows none s.2 5 1 (rowsU (legsTo legs (lineB [tripW] (headN fuel legs)) s.1)))]) (fun s => s.1 ≤ legs.length) (fun s => legs.length - s.1) (0, ep1) (Nat.zero_le _) (by simp; rfl) ?_ ?_
  · simp [legsTo, legsSum]
  rintro ⟨k, ep2⟩ hk
  simp only at hk
  have hb := legs_bound (legs := legs) (T := lineB [tripW] (headN fuel legs)) (x := sumI (headN fuel legs)) k fun j hj => hL j (by omega)
  have hh3 : (headN fuel legs).length = 3 := rfl
  rw [hh3] at hsum0
  by_cases hkl : k < legs.length
  · have wk := i64_wrap (show -9223372036854775808 ≤ (k : Int) + 1 ∧ _ from by omega)
    have hN := hL k hkl
    have hN1 := hN.n
    have eT : legsTo legs (lineB [tripW] (headN fuel legs)) (k + 1) = itemsTo (legAt legs k).items (legsTo legs (lineB [tripW] (headN fuel legs)) k ++ lineB (legWs (legAt legs k)) (legN (legAt legs k))) (legAt legs k).items.length := rfl
    have eS : legsSum legs (sumI (headN fuel legs)) (k + 1) = itemsSum (legAt legs k).items (legsSum legs (sumI (headN fuel legs)) k + sumI (legN (legAt legs k))) (legAt legs k).items.length := rfl
    generalize legsTo legs (lineB [tripW] (headN fuel legs)) k = T at *
    generalize legsSum legs (sumI (headN fuel legs)) k = X at *
    have hl1 := line_spec (BoxF.of false) (.ref 0 0) T X (legWs (legAt legs k)) (legN (legAt legs k)) ep2 (.inl ⟨rfl, rfl⟩) ⟨by simp [legWs], by simp [legWs], by rw [join_leg]; omega⟩ (by simp [legN]) (fun y hy => by have := hN.a y hy; omega) (by omega) (by omega)
    have hlen1 := lineB_len (ws := legWs (legAt legs k)) (ns := legN (legAt legs k)) (a := 8) (by rw [join_leg]; omega) fun y hy => by have := hN.a y hy; omega
    have hsum1 := sumI_bound (l := legN (legAt legs k)) (b := 20000) hN.a
    have hl6 : (legN (legAt legs k)).length = 6 := rfl
    rw [hl6] at hlen1 hsum1
    simp [hkl, Leg.cells, itmL]
    have hpp : (legAt legs k).pump = true ∧ legWs (legAt legs k) = [legW, pumpW] ∨ (legAt legs k).pump = false ∧ legWs (legAt legs k) = [legW, keepW] := by
      cases h : (legAt legs k).pump <;> simp [legWs, h]
    rcases hpp with ⟨hp, hws⟩ | ⟨hp, hws⟩
    all_goals
      simp [hkl, hp]
      refine pop_callF [(37, strsL (legWs (legAt legs k))), (55, ints (legN (legAt legs k)))] ?_ hl1 rfl [7, 83] false (by decide) ?_ (.inl ?_) ?_
      · simp [strsL, ints, legN, hws]
        refine ⟨lt2 ?_ ?_, lt6 ?_ ?_ ?_ ?_ ?_ ?_⟩ <;> simp [geti, legW, keepW, pumpW, bytesOf]
      · simp
      · simp [strsL, ints, legN, hws]
      rintro out ⟨ep3, rfl⟩
      refine ⟨[], by simp [backOk], .inl rfl, by simp [back, backV, placeAll], ?_⟩
      simp [back, backV, placeAll, hkl]
      generalize hT1 : T ++ lineB (legWs (legAt legs k)) (legN (legAt legs k)) = T1 at *
      generalize hX1 : X + sumI (legN (legAt legs k)) = X1 at *
      have hT1l : T1.length = T.length + (lineB (legWs (legAt legs k)) (legN (legAt legs k))).length := by rw [← hT1, List.length_append]
      rw [← hT1l]
      refine pwp_loop (fun s : Nat × Nat => [(37, .undef), (55, .undef), (7, .box true [.ref 7 0, .own 83 s.2 0 (itemsTo (legAt legs k).items T1 s.1).length false, .v (.int .i64 (itemsSum (legAt legs k).items X1 s.1))]), (60, .v (.int .i64 s.1)), (83, .rows none s.2 5 1 (rowsU (itemsTo (legAt legs k).items T1 s.1)))]) (fun s => s.1 ≤ (legAt legs k).items.length) (fun s => (legAt legs k).items.length - s.1) (0, ep3) (Nat.zero_le _) (by simp; rfl) ?_ ?_
      · simp [itemsTo, itemsSum]
      rintro ⟨j, ep4⟩ hj
      simp only at hj
      have hbi := items_bound (l := (legAt legs k).items) (T := T1) (x := X1) j fun i hi => hN.i i (by omega)
      by_cases hjl : j < (legAt legs k).items.length
      · have wj := i64_wrap (show -9223372036854775808 ≤ (j : Int) + 1 ∧ _ from by omega)
        have hNi := hN.i j hjl
        have eI : itemsTo (legAt legs k).items T1 (j + 1) = itemsTo (legAt legs k).items T1 j ++ lineB [itemW] (itmN (itmAt (legAt legs k).items j)) := rfl
        have eJ : itemsSum (legAt legs k).items X1 (j + 1) = itemsSum (legAt legs k).items X1 j + sumI (itmN (itmAt (legAt legs k).items j)) := rfl
        generalize itemsTo (legAt legs k).items T1 j = T2 at *
        generalize itemsSum (legAt legs k).items X1 j = X2 at *
        have hl2 := line_spec (BoxF.of false) (.ref 0 0) T2 X2 [itemW] (itmN (itmAt (legAt legs k).items j)) ep4 (.inl ⟨rfl, rfl⟩) ⟨by simp, by simp, by rw [join_item]; simp⟩ (by simp [itmN]) (fun y hy => by have := hNi.a y hy; omega) (by omega) (by omega)
        simp [hjl, Itm.cells]
        refine pop_callF [(64, strsL [itemW]), (73, ints (itmN (itmAt (legAt legs k).items j)))] ?_ hl2 rfl [7, 83] false (by decide) ?_ (.inl ?_) ?_
        · simp [strsL, ints, itmN, Itm.cells]
          refine ⟨rfl, lt3 ?_ ?_ ?_⟩ <;> simp [geti]
        · simp
        · simp [strsL, ints, itmN]
        rintro out ⟨ep5, rfl⟩
        refine ⟨[], by simp [backOk], .inl rfl, by simp [back, backV, placeAll], ?_⟩
        simp [back, backV, placeAll]
        refine again_of (j + 1, ep5) (by simp only; omega) (by simp only; omega) ?_
        simp [wj, eI, eJ, Itm.cells]
      · obtain rfl : j = (legAt legs k).items.length := by omega
        simp
        refine again_of (k + 1, ep4) (by simp only; omega) (by simp only; omega) ?_
        simp [wk, eT, eS, Leg.cells, itmL]
  · obtain rfl : k = legs.length := by omega
    have eB : printB fuel legs = legsTo legs (lineB [tripW] (headN fuel legs)) legs.length ++ lastB (legsSum legs (sumI (headN fuel legs)) legs.length) := rfl
    have hll := lastB_len (sum := legsSum legs (sumI (headN fuel legs)) legs.length)
    have hlast := last_spec (legsSum legs (sumI (headN fuel legs)) legs.length) (by omega)
    have hne : legsTo legs (lineB [tripW] (headN fuel legs)) legs.length ≠ [] := fun e => by
      have key : ∀ k, (lineB [tripW] (headN fuel legs)).length ≤ (legsTo legs (lineB [tripW] (headN fuel legs)) k).length := fun k => by
        induction k with
        | zero => exact Nat.le_refl _
        | succ k ih =>
          have ki : ∀ (l : List Itm) (T : List UInt8) (j : Nat), T.length ≤ (itemsTo l T j).length := fun l T j => by
            induction j with
            | zero => exact Nat.le_refl _
            | succ j ih => simp only [itemsTo, List.length_append]; omega
          have := ki (legAt legs k).items (legsTo legs (lineB [tripW] (headN fuel legs)) k ++ lineB (legWs (legAt legs k)) (legN (legAt legs k))) (legAt legs k).items.length
          simp only [List.length_append] at this
          simp only [legsTo]
          omega
      have := key legs.length
      rw [e] at this
      simp only [lineB, List.length_append, List.length_cons, List.length_nil] at this
      omega
    generalize legsTo legs (lineB [tripW] (headN fuel legs)) legs.length = T at *
    generalize lastB (legsSum legs (sumI (headN fuel legs)) legs.length) = L at *
    generalize legsSum legs (sumI (headN fuel legs)) legs.length = X at *
    have hstr : CallW Tryz.prog 99 [.ref 0 0] [.box false [.ref 0 0, .own 1 ep2 0 T.length false, .v (.int .i64 X)], .rows none ep2 5 1 (rowsU T)]
      (fun out => out = .ret (.v (.string (bytesOf T))) [.box false [.ref 0 0, .own 1 ep2 0 T.length false, .v (.int .i64 X)], .rows none (ep2 + 1) 5 1 []]) := bstr_spec T X ep2 hne
    have hsz : T.length + L.length ≤ 9223372036854775807 := by omega
    simp
    refine XW_seqX (XW_any mixed hlo (by decide) ?_)
    simp
    repeat' first
      | (refine pany_two 0 2 (by decide +kernel) ⟨_, rfl, ?_⟩ ⟨_, rfl, ?_⟩ <;> simp [bytesOf_app, hsz])
      | (refine pany_two 1 2 (by decide +kernel) ⟨_, rfl, ?_⟩ ⟨_, rfl, ?_⟩ <;> simp [bytesOf_app, hsz])
      | (refine pany_two 0 3 (by decide +kernel) ⟨_, rfl, ?_⟩ ⟨_, rfl, ?_⟩ <;> simp [bytesOf_app, hsz])
      | (refine pany_two 1 3 (by decide +kernel) ⟨_, rfl, ?_⟩ ⟨_, rfl, ?_⟩ <;> simp [bytesOf_app, hsz])
      | (refine pany_two 0 4 (by decide +kernel) ⟨_, rfl, ?_⟩ ⟨_, rfl, ?_⟩ <;> simp [bytesOf_app, hsz])
      | (refine pany_two 1 4 (by decide +kernel) ⟨_, rfl, ?_⟩ ⟨_, rfl, ?_⟩ <;> simp [bytesOf_app, hsz])
      | (refine pany_one 0 (by decide +kernel) ⟨_, rfl, ?_⟩; simp [bytesOf_app, hsz])
      | (refine pany_one 1 (by decide +kernel) ⟨_, rfl, ?_⟩; simp [bytesOf_app, hsz])
      | (refine pany_one 2 (by decide +kernel) ⟨_, rfl, ?_⟩; simp [bytesOf_app, hsz])
      | (refine pany_one 3 (by decide +kernel) ⟨_, rfl, ?_⟩; simp [bytesOf_app, hsz])
      | (refine pany_one 4 (by decide +kernel) ⟨_, rfl, ?_⟩; simp [bytesOf_app, hsz])
      | (refine pany_one 5 (by decide +kernel) ⟨_, rfl, ?_⟩; simp [bytesOf_app, hsz])
      | (refine pany_one 6 (by decide +kernel) ⟨_, rfl, ?_⟩; simp [bytesOf_app, hsz])
      | (refine pany_one 7 (by decide +kernel) ⟨_, rfl, ?_⟩; simp [bytesOf_app, hsz])
      | (refine pop_callW hstr rfl [7, 83] false (by decide) (by simp) (.inl (by simp)) ?_; rintro out rfl; refine ⟨[], by simp [backOk], .inl rfl, by simp [back, backV, placeAll], ?_⟩; simp [back, backV, placeAll])
      | (refine pop_spec hlast rfl false (.inl (by simp)) (.inl rfl) rfl (by simp) ?_; simp)
    all_goals
      refine XW_pwp mixed hlo (by decide) ?_
      simp
      refine ends_of (.tup [.v (.string (bytesOf (printB fuel legs))), .v (.int .i64 0)]) [] [] (x := .tup [.v (.string (bytesOf (T ++ L))), .v (.int .i64 0)]) (by simp) (by decide) ?_ ?_ rfl
      · simp
      · simp [eB]
end Go.Qg


namespace Go.Qg
open Go.Proofs Go.RowKit Go.Lib
set_option maxRecDepth 100000
def wordsR (r : List UInt8) : Option (List (List UInt8) × List UInt8) :=
  match Lib.cut r [10] with
  | (l, t, true) => some (splL 32 l, t)
  | _ => none
def numsW : List (List UInt8) → Option (List Int)
  | [] => some []
  | w :: ws => match numW w, numsW ws with
    | some n, some ns => some (n :: ns)
    | _, _ => none
def rdLine (ahead : List (List UInt8)) (many : Nat) (r : List UInt8) : Option (List Int × List UInt8) :=
  match wordsR r with
  | some (l, t) => if l.length = ahead.length + many ∧ l.take ahead.length = ahead then (numsW (l.drop ahead.length)).map fun ns => (ns, t) else none
  | none => none
theorem wordsR_iff {r : List UInt8} {l : List (List UInt8)} {t : List UInt8} : wordsR r = some (l, t) ↔ ∃ a, r = a ++ 10 :: t ∧ 10 ∉ a ∧ l = splL 32 a := by
  unfold wordsR
  rcases index_one 10 r with ⟨_, h⟩ | ⟨a, u, rfl, h, _⟩
  · rw [cut_none h]
    simp only [reduceCtorEq, false_iff, not_exists, not_and]
    intro a hr
    exact absurd (by simp [hr]) h
  · rw [cut_app h]
    simp only [Option.some.injEq, Prod.mk.injEq]
    constructor
    · rintro ⟨rfl, rfl⟩
      exact ⟨a, rfl, h, rfl⟩
    · rintro ⟨b, hb, h2, rfl⟩
      have e := splL_app u h
      rw [hb, splL_app t h2] at e
      obtain rfl : b = a := (List.cons.inj e).1
      exact ⟨rfl, by simpa using hb⟩
theorem digits_small : ∀ (k u : Nat), u < 10 ^ (k + 1) → (Lib.decDigits u).length ≤ k + 1
  | k, u, h => by
    rw [Lib.decDigits]
    split
    · simp
    · cases k with
      | zero => simp at h; omega
      | succ k =>
        have := digits_small k (u / 10) (by rw [Nat.pow_succ] at h; omega)
        simp only [List.length_append, List.length_singleton]
        omega
theorem itoa_small {n : Int} (h0 : 0 ≤ n) (h1 : n < 10000000000) : (Lib.itoa n).length ≤ 10 := by
  obtain ⟨u, rfl⟩ := Int.eq_ofNat_of_zero_le h0
  rw [Lib.itoa_nonneg]
  exact digits_small 9 u (by omega)
theorem itoa_digit {n : Int} (h0 : 0 ≤ n) : ∀ c ∈ Lib.itoa n, 48 ≤ c.toNat ∧ c.toNat ≤ 57 := by
  obtain ⟨u, rfl⟩ := Int.eq_ofNat_of_zero_le h0
  rw [Lib.itoa_nonneg]
  exact digits_mem u u (Nat.le_refl _)
theorem itoa_free {n : Int} (h0 : 0 ≤ n) {c : UInt8} (hc : c.toNat < 48) : c ∉ Lib.itoa n := fun h => by
  have := itoa_digit h0 c h
  omega
theorem numW_itoa {n : Int} (h0 : 0 ≤ n) (h1 : n < 10000000000) : numW (Lib.itoa n) = some n := numW_iff.2 ⟨h0, h1, itoa_small h0 h1, rfl⟩
def NumR (n : Int) : Prop := 0 ≤ n ∧ n < 10000000000
theorem numsW_iff : ∀ {ws : List (List UInt8)} {ns : List Int}, numsW ws = some ns ↔ (∀ n ∈ ns, NumR n) ∧ ws = ns.map Lib.itoa
  | [], ns => by
    simp only [numsW, Option.some.injEq]
    constructor
    · rintro rfl; simp
    · rintro ⟨_, h⟩
      cases ns with
      | nil => rfl
      | cons _ _ => simp at h
  | w :: ws, ns => by
    simp only [numsW]
    constructor
    · intro h
      split at h
      · rename_i n ms h1 h2
        obtain rfl := Option.some.inj h
        obtain ⟨g0, g1, _, g3⟩ := numW_iff.1 h1
        obtain ⟨k1, k2⟩ := numsW_iff.1 h2
        refine ⟨fun x hx => ?_, by rw [List.map_cons, g3, ← k2]⟩
        rcases List.mem_cons.1 hx with rfl | hx
        · exact ⟨g0, g1⟩
        · exact k1 x hx
      · cases h
    · rintro ⟨h1, h2⟩
      cases ns with
      | nil => simp at h2
      | cons n ns =>
        simp only [List.map_cons, List.cons.injEq] at h2
        have g := h1 n (by simp)
        rw [h2.1, numW_itoa g.1 g.2, numsW_iff.2 ⟨fun x hx => h1 x (List.mem_cons_of_mem _ hx), h2.2⟩]
theorem join_app : ∀ {ws : List (List UInt8)} (ns : List Int), ws ≠ [] → Lib.join (ws ++ ns.map Lib.itoa) [32] = Lib.join ws [32] ++ numsB ns
  | [], _, h => absurd rfl h
  | [w], ns, _ => by
    rw [List.singleton_append, Lib.join_cons, Lib.join_one]
    congr 1
    induction ns with
    | nil => rfl
    | cons n ns ih => simp only [List.map_cons, Lib.joinTail, List.flatten_cons, numsB] at ih ⊢; rw [ih]; simp
  | v :: w :: ws, ns, _ => by
    have ih := join_app (ws := w :: ws) ns (by simp)
    rw [List.cons_append] at ih
    rw [List.cons_append, List.cons_append, join_two, ih, join_two]
    simp
theorem join_free {c : UInt8} (hc : c ≠ 32) : ∀ {ws : List (List UInt8)}, (∀ w ∈ ws, c ∉ w) → c ∉ Lib.join ws [32]
  | [], _ => by simp [Lib.join_nil]
  | [w], h => by rw [Lib.join_one]; exact h w (by simp)
  | v :: w :: ws, h => by
    rw [join_two]
    simp only [List.mem_append, List.mem_singleton, not_or]
    exact ⟨h v (by simp), hc, join_free hc fun x hx => h x (List.mem_cons_of_mem _ hx)⟩
theorem rdLine_iff {ahead : List (List UInt8)} {many : Nat} {r t : List UInt8} {ns : List Int} (ha : ahead ≠ []) (hf : ∀ w ∈ ahead, (32 : UInt8) ∉ w ∧ (10 : UInt8) ∉ w) :
    rdLine ahead many r = some (ns, t) ↔ ns.length = many ∧ (∀ n ∈ ns, NumR n) ∧ r = Lib.join ahead [32] ++ numsB ns ++ 10 :: t := by
  constructor
  · intro h
    unfold rdLine at h
    split at h
    · rename_i l u hw
      obtain ⟨a, hr, hn, hl⟩ := wordsR_iff.1 hw
      split at h
      · rename_i hc
        obtain ⟨h1, h2⟩ := hc
        cases hm : numsW (l.drop ahead.length) with
        | none => rw [hm] at h; cases h
        | some ms =>
          rw [hm] at h
          simp only [Option.map_some, Option.some.injEq, Prod.mk.injEq] at h
          obtain ⟨rfl, rfl⟩ := h
          obtain ⟨g1, g2⟩ := numsW_iff.1 hm
          have hlen : ms.length = many := by
            have := congrArg List.length g2
            simp only [List.length_drop, List.length_map] at this
            omega
          have hl2 : l = ahead ++ ms.map Lib.itoa := by rw [← g2, ← h2, List.length_take]; simp [h1]
          refine ⟨hlen, g1, ?_⟩
          rw [← join_app ms ha, ← hl2, hl, join_parts, hr]
      · cases h
    · cases h
  · rintro ⟨rfl, h2, rfl⟩
    have hp : splL 32 (Lib.join ahead [32] ++ numsB ns) = ahead ++ ns.map Lib.itoa := by
      rw [← join_app ns ha]
      refine parts_join (by simp [ha]) fun p hp => ?_
      rcases List.mem_append.1 hp with hp | hp
      · exact (hf p hp).1
      · obtain ⟨n, hn, rfl⟩ := List.mem_map.1 hp
        exact itoa_free (h2 n hn).1 (by decide)
    have hn : (10 : UInt8) ∉ Lib.join ahead [32] ++ numsB ns := by
      rw [← join_app ns ha]
      refine join_free (by decide) fun p hp => ?_
      rcases List.mem_append.1 hp with hp | hp
      · exact (hf p hp).2
      · obtain ⟨n, hn, rfl⟩ := List.mem_map.1 hp
        exact itoa_free (h2 n hn).1 (by decide)
    have hw : wordsR (Lib.join ahead [32] ++ numsB ns ++ 10 :: t) = some (ahead ++ ns.map Lib.itoa, t) := wordsR_iff.2 ⟨_, rfl, hn, hp.symm⟩
    unfold rdLine
    rw [hw]
    simp only [List.length_append, List.length_map, List.take_left', List.drop_left', and_self, if_true]
    rw [numsW_iff.2 ⟨h2, rfl⟩]
    rfl
end Go.Qg


namespace Go.Qg
open Go.Proofs Go.RowKit Go.Lib
set_option maxRecDepth 100000
def itemsC (l : List Itm) : List UInt8 := (l.map fun i => lineB [itemW] (itmN i)).flatten
def legC (g : Leg) : List UInt8 := lineB (legWs g) (legN g) ++ itemsC g.items
def legsC (l : List Leg) : List UInt8 := (l.map legC).flatten
def itemsI (l : List Itm) : Int := (l.map fun i => sumI (itmN i)).sum
def legI (g : Leg) : Int := sumI (legN g) + itemsI g.items
def legsI (l : List Leg) : Int := (l.map legI).sum
theorem take_at {α : Type} [Inhabited α] {l : List α} {k : Nat} (h : k < l.length) : l.take (k + 1) = l.take k ++ [l.getD k default] := by
  rw [List.take_add_one]
  simp [h]
theorem itemsTo_eq (l : List Itm) (T : List UInt8) : ∀ k, k ≤ l.length → itemsTo l T k = T ++ itemsC (l.take k)
  | 0, _ => by simp [itemsTo, itemsC]
  | k + 1, h => by
    rw [itemsTo, itemsTo_eq l T k (by omega), take_at (by omega)]
    simp [itemsC, itmAt]
theorem itemsSum_eq (l : List Itm) (x : Int) : ∀ k, k ≤ l.length → itemsSum l x k = x + itemsI (l.take k)
  | 0, _ => by simp [itemsSum, itemsI]
  | k + 1, h => by
    rw [itemsSum, itemsSum_eq l x k (by omega), take_at (by omega)]
    simp only [itemsI, List.map_append, List.sum_append, List.map_cons, List.map_nil, List.sum_cons, List.sum_nil, itmAt]
    omega
theorem legsTo_eq (l : List Leg) (T : List UInt8) : ∀ k, k ≤ l.length → legsTo l T k = T ++ legsC (l.take k)
  | 0, _ => by simp [legsTo, legsC]
  | k + 1, h => by
    rw [legsTo, legsTo_eq l T k (by omega), itemsTo_eq _ _ _ (Nat.le_refl _), List.take_length, take_at (by omega)]
    simp [legsC, legC, legAt]
theorem legsSum_eq (l : List Leg) (x : Int) : ∀ k, k ≤ l.length → legsSum l x k = x + legsI (l.take k)
  | 0, _ => by simp [legsSum, legsI]
  | k + 1, h => by
    rw [legsSum, legsSum_eq l x k (by omega), itemsSum_eq _ _ _ (Nat.le_refl _), List.take_length, take_at (by omega)]
    simp only [legsI, legI, List.map_append, List.sum_append, List.map_cons, List.map_nil, List.sum_cons, List.sum_nil, legAt]
    omega
theorem sheetB_eq (fuel : Spn) (legs : List Leg) : sheetB fuel legs = lineB [tripW] (headN fuel legs) ++ legsC legs := by
  rw [sheetB, legsTo_eq _ _ _ (Nat.le_refl _), List.take_length]
theorem sheetS_eq (fuel : Spn) (legs : List Leg) : sheetS fuel legs = sumI (headN fuel legs) + legsI legs := by
  rw [sheetS, legsSum_eq _ _ _ (Nat.le_refl _), List.take_length]
def listsOf (ws : List ByteArray) : List (List UInt8) := ws.map (·.data.toList)
theorem rdB_iff {ws : List ByteArray} {many : Nat} {r t : List UInt8} {ns : List Int} (ha : ws ≠ []) (hf : ∀ w ∈ listsOf ws, (32 : UInt8) ∉ w ∧ (10 : UInt8) ∉ w) :
    rdLine (listsOf ws) many r = some (ns, t) ↔ ns.length = many ∧ (∀ n ∈ ns, NumR n) ∧ r = lineB ws ns ++ t := by
  rw [rdLine_iff (by simpa [listsOf] using ha) hf]
  have : lineB ws ns ++ t = Lib.join (listsOf ws) [32] ++ numsB ns ++ 10 :: t := by
    simp [lineB, joinB, listsOf, bytesOf]
  rw [this]
def rdItems : Nat → List UInt8 → Option (List Itm × List UInt8)
  | 0, r => some ([], r)
  | k + 1, r => match rdLine (listsOf [itemW]) 3 r with
    | some (y, t) => match rdItems k t with
      | some (l, u) => some (⟨geti y 0, geti y 1, geti y 2⟩ :: l, u)
      | none => none
    | none => none
def pumpR (r : List UInt8) : Bool := Lib.hasPrefix r [108, 101, 103, 32, 112, 117, 109, 112, 32]
def howW (b : Bool) : List ByteArray := [legW, if b = true then pumpW else keepW]
def rdLegs : Nat → List UInt8 → Option (List Leg × List UInt8)
  | 0, r => some ([], r)
  | k + 1, r => match rdLine (listsOf (howW (pumpR r))) 6 r with
    | some (x, t) => match rdItems (geti x 5).toNat t with
      | some (is, u) => match rdLegs k u with
        | some (l, v) => some (⟨is, pumpR r, geti x 0, ⟨geti x 1, geti x 2⟩, ⟨geti x 3, geti x 4⟩⟩ :: l, v)
        | none => none
      | none => none
    | none => none
def rdTrip (r : List UInt8) : Option (Spn × List Leg × List UInt8) := match rdLine (listsOf [tripW]) 3 r with
  | some (x, t) => match rdLegs (geti x 2).toNat t with
    | some (l, u) => some (⟨geti x 0, geti x 1⟩, l, u)
    | none => none
  | none => none
theorem list3 {l : List Int} (h : l.length = 3) : l = [geti l 0, geti l 1, geti l 2] := by
  match l, h with
  | [a, b, c], _ => rfl
theorem list6 {l : List Int} (h : l.length = 6) : l = [geti l 0, geti l 1, geti l 2, geti l 3, geti l 4, geti l 5] := by
  match l, h with
  | [a, b, c, d, e, f], _ => rfl
theorem free_item : ∀ w ∈ listsOf [itemW], (32 : UInt8) ∉ w ∧ (10 : UInt8) ∉ w := by decide
theorem free_trip : ∀ w ∈ listsOf [tripW], (32 : UInt8) ∉ w ∧ (10 : UInt8) ∉ w := by decide
theorem free_leg (b : Bool) : ∀ w ∈ listsOf (howW b), (32 : UInt8) ∉ w ∧ (10 : UInt8) ∉ w := by cases b <;> decide
def ItmR (i : Itm) : Prop := ∀ n ∈ itmN i, NumR n
structure LegR (g : Leg) : Prop where
  n : ∀ n ∈ legN g, NumR n
  i : ∀ i ∈ g.items, ItmR i
theorem rdItems_iff : ∀ {k : Nat} {r t : List UInt8} {l : List Itm}, rdItems k r = some (l, t) ↔ l.length = k ∧ (∀ i ∈ l, ItmR i) ∧ r = itemsC l ++ t
  | 0, r, t, l => by
    simp only [rdItems, Option.some.injEq, Prod.mk.injEq]
    constructor
    · rintro ⟨rfl, rfl⟩; simp [itemsC]
    · rintro ⟨h, _, rfl⟩
      obtain rfl := List.length_eq_zero_iff.1 h
      simp [itemsC]
  | k + 1, r, t, l => by
    simp only [rdItems]
    constructor
    · intro h
      split at h
      · rename_i y u hy
        split at h
        · rename_i m v hm
          simp only [Option.some.injEq, Prod.mk.injEq] at h
          obtain ⟨rfl, rfl⟩ := h
          obtain ⟨h1, h2, h3⟩ := (rdB_iff (by simp) free_item).1 hy
          obtain ⟨g1, g2, g3⟩ := rdItems_iff.1 hm
          have e := list3 h1
          refine ⟨by simp [g1], fun i hi => ?_, ?_⟩
          · rcases List.mem_cons.1 hi with rfl | hi
            · intro n hn
              exact h2 n (by rw [e]; simpa [itmN] using hn)
            · exact g2 i hi
          · rw [h3, g3]
            simp only [itemsC, List.map_cons, List.flatten_cons, itmN, ← e, List.append_assoc]
        · cases h
      · cases h
    · rintro ⟨h1, h2, h3⟩
      cases l with
      | nil => simp at h1
      | cons i l =>
        have hy : rdLine (listsOf [itemW]) 3 r = some (itmN i, itemsC l ++ t) := (rdB_iff (by simp) free_item).2 ⟨rfl, h2 i (by simp), by rw [h3]; simp [itemsC]⟩
        rw [hy]
        simp only
        rw [rdItems_iff.2 ⟨by simpa using h1, fun x hx => h2 x (List.mem_cons_of_mem _ hx), rfl⟩]
        rfl
theorem pump_line (b : Bool) {ns : List Int} (t : List UInt8) (h : ns ≠ []) : pumpR (lineB (howW b) ns ++ t) = b := by
  cases ns with
  | nil => exact absurd rfl h
  | cons n ns =>
    cases b
    · simp [pumpR, lineB, howW, joinB, legW, keepW, numsB, Lib.join, List.intercalate, bytesOf, Lib.hasPrefix, List.isPrefixOf]
    · simp [pumpR, lineB, howW, joinB, legW, pumpW, numsB, Lib.join, List.intercalate, bytesOf, Lib.hasPrefix, List.isPrefixOf]
theorem legWs_how (g : Leg) : legWs g = howW g.pump := rfl
theorem rdLegs_iff : ∀ {k : Nat} {r t : List UInt8} {l : List Leg}, rdLegs k r = some (l, t) ↔ l.length = k ∧ (∀ g ∈ l, LegR g) ∧ r = legsC l ++ t
  | 0, r, t, l => by
    simp only [rdLegs, Option.some.injEq, Prod.mk.injEq]
    constructor
    · rintro ⟨rfl, rfl⟩; simp [legsC]
    · rintro ⟨h, _, rfl⟩
      obtain rfl := List.length_eq_zero_iff.1 h
      simp [legsC]
  | k + 1, r, t, l => by
    simp only [rdLegs]
    constructor
    · intro h
      split at h
      · rename_i x u hx
        split at h
        · rename_i is v hi
          split at h
          · rename_i m w hm
            simp only [Option.some.injEq, Prod.mk.injEq] at h
            obtain ⟨rfl, rfl⟩ := h
            obtain ⟨h1, h2, h3⟩ := (rdB_iff (by simp [howW]) (free_leg _)).1 hx
            obtain ⟨g1, g2, g3⟩ := rdItems_iff.1 hi
            obtain ⟨k1, k2, k3⟩ := rdLegs_iff.1 hm
            have e := list6 h1
            have h5 : NumR (geti x 5) := h2 _ (by rw [e]; simp [geti])
            have e5 : ((is.length : Nat) : Int) = geti x 5 := by rw [g1]; exact Int.toNat_of_nonneg h5.1
            have eN : legN ⟨is, pumpR r, geti x 0, ⟨geti x 1, geti x 2⟩, ⟨geti x 3, geti x 4⟩⟩ = x := by
              simp only [legN, e5]; exact e.symm
            refine ⟨by simp [k1], fun g hg => ?_, ?_⟩
            · rcases List.mem_cons.1 hg with rfl | hg
              · exact ⟨fun n hn => h2 n (by rw [eN] at hn; exact hn), g2⟩
              · exact k2 g hg
            · have eC : legC ⟨is, pumpR r, geti x 0, ⟨geti x 1, geti x 2⟩, ⟨geti x 3, geti x 4⟩⟩ = lineB (howW (pumpR r)) x ++ itemsC is := by
                simp only [legC, eN, legWs_how]
              simp only [legsC, List.map_cons, List.flatten_cons, eC]
              rw [List.append_assoc, List.append_assoc]
              refine h3.trans ?_
              rw [g3, k3]; rfl
          · cases h
        · cases h
      · cases h
    · rintro ⟨h1, h2, h3⟩
      cases l with
      | nil => simp at h1
      | cons g l =>
        have hg := h2 g (by simp)
        have hr : r = lineB (howW g.pump) (legN g) ++ (itemsC g.items ++ (legsC l ++ t)) := by rw [h3]; simp [legsC, legC, legWs_how]
        have hp : pumpR r = g.pump := by rw [hr]; exact pump_line _ _ (by simp [legN])
        have hy : rdLine (listsOf (howW (pumpR r))) 6 r = some (legN g, itemsC g.items ++ (legsC l ++ t)) := (rdB_iff (by simp [howW]) (free_leg _)).2 ⟨rfl, hg.n, by rw [hp]; exact hr⟩
        rw [hy]
        simp only
        have e5 : (geti (legN g) 5).toNat = g.items.length := by simp [geti, legN]
        rw [e5, rdItems_iff.2 ⟨rfl, hg.i, rfl⟩]
        simp only
        rw [rdLegs_iff.2 ⟨by simpa using h1, fun x hx => h2 x (List.mem_cons_of_mem _ hx), rfl⟩, hp]
        rfl
structure TripR (fuel : Spn) (legs : List Leg) : Prop where
  n : ∀ n ∈ headN fuel legs, NumR n
  l : ∀ g ∈ legs, LegR g
theorem rdTrip_iff {r t : List UInt8} {fuel : Spn} {legs : List Leg} : rdTrip r = some (fuel, legs, t) ↔ TripR fuel legs ∧ r = sheetB fuel legs ++ t := by
  rw [sheetB_eq]
  unfold rdTrip
  constructor
  · intro h
    split at h
    · rename_i x u hx
      split at h
      · rename_i l v hl
        simp only [Option.some.injEq, Prod.mk.injEq] at h
        obtain ⟨rfl, rfl, rfl⟩ := h
        obtain ⟨h1, h2, h3⟩ := (rdB_iff (by simp) free_trip).1 hx
        obtain ⟨k1, k2, k3⟩ := rdLegs_iff.1 hl
        have e := list3 h1
        have h5 : NumR (geti x 2) := h2 _ (by rw [e]; simp [geti])
        have e5 : ((l.length : Nat) : Int) = geti x 2 := by rw [k1]; exact Int.toNat_of_nonneg h5.1
        have eN : headN ⟨geti x 0, geti x 1⟩ l = x := by
          simp only [headN, e5]; exact e.symm
        refine ⟨⟨fun n hn => h2 n (by rw [eN] at hn; exact hn), k2⟩, ?_⟩
        rw [eN, h3, k3, List.append_assoc]
      · cases h
    · cases h
  · rintro ⟨hR, rfl⟩
    have hy : rdLine (listsOf [tripW]) 3 (lineB [tripW] (headN fuel legs) ++ legsC legs ++ t) = some (headN fuel legs, legsC legs ++ t) := (rdB_iff (by simp) free_trip).2 ⟨rfl, hR.n, by simp⟩
    rw [hy]
    simp only
    have e5 : (geti (headN fuel legs) 2).toNat = legs.length := by simp [geti, headN]
    rw [e5, rdLegs_iff.2 ⟨rfl, hR.l, rfl⟩]
    rfl
end Go.Qg


namespace Go.Qg
open Go.Proofs Go.RowKit Go.Lib
set_option maxRecDepth 100000
def DigB (c : UInt8) : Prop := 48 ≤ c.toNat ∧ c.toNat ≤ 57
def D1 (a b : List UInt8) : Prop := ∃ p d d' q, a = p ++ d :: q ∧ b = p ++ d' :: q ∧ DigB d ∧ DigB d' ∧ d ≠ d'
theorem sep_unique {c : UInt8} : ∀ {x x' y y' : List UInt8}, c ∉ x → c ∉ x' → x ++ c :: y = x' ++ c :: y' → x = x' ∧ y = y' := by
  intro x x' y y' h h' e
  have e2 := splL_app y h
  rw [e, splL_app y' h'] at e2
  obtain rfl := (List.cons.inj e2).1
  exact ⟨rfl, (List.cons.inj (List.append_cancel_left e)).2⟩
theorem D1.sep {c : UInt8} (hc : ¬ DigB c) {x x' y y' : List UInt8} (h : c ∉ x) (h' : c ∉ x') (hd : D1 (x ++ c :: y) (x' ++ c :: y')) : (x = x' ∧ D1 y y') ∨ (D1 x x' ∧ y = y') := by
  obtain ⟨p, d, d', q, h1, h2, hd1, hd2, hne⟩ := hd
  have hcd : c ≠ d := fun e => hc (e ▸ hd1)
  have hcd' : c ≠ d' := fun e => hc (e ▸ hd2)
  rcases List.append_eq_append_iff.1 h1 with ⟨r, hp, hr⟩ | ⟨r, hx, hr⟩
  · -- p = x ++ r
    cases r with
    | nil => exact absurd (List.cons.inj hr).1 hcd
    | cons z r =>
      obtain ⟨hz, hy⟩ := List.cons.inj hr
      subst hz
      rw [hp, List.append_assoc, List.cons_append] at h2
      obtain ⟨e1, e2⟩ := sep_unique h' h h2
      exact .inl ⟨e1.symm, r, d, d', q, hy, e2, hd1, hd2, hne⟩
  · -- x = p ++ r
    cases r with
    | nil => exact absurd (List.cons.inj hr).1.symm hcd
    | cons z r =>
      obtain ⟨hz, hq⟩ := List.cons.inj hr
      subst hz
      have hfree : c ∉ p ++ d' :: r := by
        rw [hx] at h
        simp only [List.mem_append, List.mem_cons, not_or] at h ⊢
        exact ⟨h.1, hcd', h.2.2⟩
      have h3 : x' ++ c :: y' = (p ++ d' :: r) ++ c :: y := by rw [h2, hq]; simp
      obtain ⟨e1, e2⟩ := sep_unique h' hfree h3
      exact .inr ⟨⟨p, d, d', r, hx, e1, hd1, hd2, hne⟩, e2.symm⟩
def valL (l : List UInt8) : Nat := l.foldl (fun n c => n * 10 + (c.toNat - 48)) 0
theorem valL_snoc (l : List UInt8) (c : UInt8) : valL (l ++ [c]) = valL l * 10 + (c.toNat - 48) := by simp [valL]
theorem valL_digits : ∀ (n u : Nat), u ≤ n → valL (Lib.decDigits u) = u
  | n, u, hu => by
    rw [Lib.decDigits]
    split
    · rename_i h
      show 0 * 10 + ((UInt8.ofNat (48 + u)).toNat - 48) = u
      rw [digit_toNat h]
      omega
    · cases n with
      | zero => omega
      | succ n =>
        rw [valL_snoc, valL_digits n (u / 10) (by omega), digit_toNat (by omega)]
        omega
structure Row where
  kind : Fin 4
  ns : List Int
def kindW : Fin 4 → List ByteArray
  | 0 => [tripW]
  | 1 => howW false
  | 2 => howW true
  | 3 => [itemW]
def Row.text (x : Row) : List UInt8 := lineB (kindW x.kind) x.ns
theorem D1.head {c c' : UInt8} {t t' : List UInt8} (h : D1 (c :: t) (c' :: t')) (hc : ¬ DigB c) : c = c' := by
  obtain ⟨p, d, d', q, h1, h2, h3, _, _⟩ := h
  cases p with
  | nil => exact absurd ((List.cons.inj h1).1 ▸ h3) hc
  | cons z p => exact (List.cons.inj h1).1.trans (List.cons.inj h2).1.symm
theorem lastB_eq (s : Int) : lastB s = [101, 110, 100, 32, UInt8.ofNat (48 + (s % 97 / 10).toNat), UInt8.ofNat (48 + (s % 97 % 10).toNat), 10] := by
  have key : ∀ z : Int, 0 ≤ z → z < 10 → Lib.itoa z = [UInt8.ofNat (48 + z.toNat)] := fun z h0 h1 => by
    obtain ⟨u, rfl⟩ := Int.eq_ofNat_of_zero_le h0
    rw [Lib.itoa_nonneg, Lib.decDigits_one (by omega)]
    rfl
  have h1 := key (s % 97 / 10) (by omega) (by omega)
  have h2 := key (s % 97 % 10) (by omega) (by omega)
  rw [lastB, h1, h2]
  rfl
end Go.Qg


namespace Go.Qg
open Go.Proofs Go.RowKit Go.Lib
set_option maxRecDepth 100000
def rrLine (ahead : List (List UInt8)) (many : Nat) (line : List UInt8) : Option (List Int) :=
  if (splL 32 line).length = ahead.length + many ∧ (splL 32 line).take ahead.length = ahead then numsW ((splL 32 line).drop ahead.length) else none
theorem rdLine_rr (ahead : List (List UInt8)) (many : Nat) {a t : List UInt8} (h : (10 : UInt8) ∉ a) : rdLine ahead many (a ++ 10 :: t) = (rrLine ahead many a).map fun ns => (ns, t) := by
  unfold rdLine rrLine
  rw [wordsR_iff.2 ⟨a, rfl, h, rfl⟩]
  simp only
  split <;> rfl
def rrItems : Nat → List (List UInt8) → Option (List Itm × List (List UInt8))
  | 0, r => some ([], r)
  | _ + 1, [] => none
  | k + 1, a :: r => match rrLine (listsOf [itemW]) 3 a with
    | some y => match rrItems k r with
      | some (l, u) => some (⟨geti y 0, geti y 1, geti y 2⟩ :: l, u)
      | none => none
    | none => none
def rrLegs : Nat → List (List UInt8) → Option (List Leg × List (List UInt8))
  | 0, r => some ([], r)
  | _ + 1, [] => none
  | k + 1, a :: r => match (match rrLine (listsOf (howW true)) 6 a with
      | some x => some (true, x)
      | none => (rrLine (listsOf (howW false)) 6 a).map fun x => (false, x)) with
    | some (b, x) => match rrItems (geti x 5).toNat r with
      | some (is, u) => match rrLegs k u with
        | some (l, v) => some (⟨is, b, geti x 0, ⟨geti x 1, geti x 2⟩, ⟨geti x 3, geti x 4⟩⟩ :: l, v)
        | none => none
      | none => none
    | none => none
def rrTrip : List (List UInt8) → Option (Spn × List Leg × List (List UInt8))
  | [] => none
  | a :: r => match rrLine (listsOf [tripW]) 3 a with
    | some x => match rrLegs (geti x 2).toNat r with
      | some (l, u) => some (⟨geti x 0, geti x 1⟩, l, u)
      | none => none
    | none => none
theorem rrLine_iff {ws : List ByteArray} {many : Nat} {a : List UInt8} {ns : List Int} (ha : ws ≠ []) (hf : ∀ w ∈ listsOf ws, (32 : UInt8) ∉ w ∧ (10 : UInt8) ∉ w) (h10 : (10 : UInt8) ∉ a) :
    rrLine (listsOf ws) many a = some ns ↔ ns.length = many ∧ (∀ n ∈ ns, NumR n) ∧ a ++ [10] = lineB ws ns := by
  have h := rdB_iff (ws := ws) (many := many) (r := a ++ 10 :: []) (t := []) (ns := ns) ha hf
  rw [rdLine_rr _ _ h10, List.append_nil] at h
  rw [← h]
  cases rrLine (listsOf ws) many a <;> simp
theorem line_cut (ws : List ByteArray) (ns : List Int) (t : List UInt8) : lineB ws ns ++ t = (joinB ws (bytesOf [32]) ++ numsB ns) ++ 10 :: t := by simp [lineB]
theorem line_free {ws : List ByteArray} {ns : List Int} (hf : ∀ w ∈ listsOf ws, (32 : UInt8) ∉ w ∧ (10 : UInt8) ∉ w) (ha : ws ≠ []) (hn : ∀ n ∈ ns, NumR n) : (10 : UInt8) ∉ joinB ws (bytesOf [32]) ++ numsB ns := by
  have e : joinB ws (bytesOf [32]) ++ numsB ns = Lib.join (listsOf ws ++ ns.map Lib.itoa) [32] := by
    rw [join_app _ (by simpa [listsOf] using ha)]
    simp [joinB, listsOf, bytesOf]
  rw [e]
  refine join_free (by decide) fun w hw => ?_
  rcases List.mem_append.1 hw with hw | hw
  · exact (hf w hw).2
  · obtain ⟨n, hn2, rfl⟩ := List.mem_map.1 hw
    exact itoa_free (hn n hn2).1 (by decide)
theorem rr_line {ws : List ByteArray} {many : Nat} {ns : List Int} (t : List UInt8) (ha : ws ≠ []) (hf : ∀ w ∈ listsOf ws, (32 : UInt8) ∉ w ∧ (10 : UInt8) ∉ w) (hl : ns.length = many) (hn : ∀ n ∈ ns, NumR n) :
    ∃ a, splL 10 (lineB ws ns ++ t) = a :: splL 10 t ∧ a ++ [10] = lineB ws ns ∧ (10 : UInt8) ∉ a ∧ rrLine (listsOf ws) many a = some ns := by
  have hfr := line_free hf ha hn
  refine ⟨joinB ws (bytesOf [32]) ++ numsB ns, ?_, ?_, hfr, ?_⟩
  · rw [line_cut, splL_app _ hfr]
  · simp [lineB]
  · exact (rrLine_iff ha hf hfr).2 ⟨hl, hn, by simp [lineB]⟩
theorem rrItems_of : ∀ (l : List Itm) (t : List UInt8), (∀ i ∈ l, ItmR i) → rrItems l.length (splL 10 (itemsC l ++ t)) = some (l, splL 10 t)
  | [], t, _ => by simp [rrItems, itemsC]
  | i :: l, t, h => by
    obtain ⟨a, h1, _, _, h4⟩ := rr_line (ws := [itemW]) (many := 3) (ns := itmN i) (itemsC l ++ t) (by simp) free_item rfl (h i (by simp))
    have e : itemsC (i :: l) ++ t = lineB [itemW] (itmN i) ++ (itemsC l ++ t) := by simp [itemsC]
    rw [e, h1, List.length_cons, rrItems, h4]
    simp only
    rw [rrItems_of l t fun x hx => h x (List.mem_cons_of_mem _ hx)]
    rfl
theorem rrLegs_of : ∀ (l : List Leg) (t : List UInt8), (∀ g ∈ l, LegR g) → rrLegs l.length (splL 10 (legsC l ++ t)) = some (l, splL 10 t)
  | [], t, _ => by simp [rrLegs, legsC]
  | g :: l, t, h => by
    have hg := h g (by simp)
    obtain ⟨a, h1, h2, h3, h4⟩ := rr_line (ws := howW g.pump) (many := 6) (ns := legN g) (itemsC g.items ++ (legsC l ++ t)) (by simp [howW]) (free_leg _) rfl hg.n
    have e : legsC (g :: l) ++ t = lineB (howW g.pump) (legN g) ++ (itemsC g.items ++ (legsC l ++ t)) := by simp [legsC, legC, legWs_how]
    have hm : (match rrLine (listsOf (howW true)) 6 a with
      | some x => some (true, x)
      | none => (rrLine (listsOf (howW false)) 6 a).map fun x => (false, x)) = some (g.pump, legN g) := by
      cases hp : g.pump
      · rw [hp] at h4 h2
        cases hT : rrLine (listsOf (howW true)) 6 a with
        | none => simp only [h4]; rfl
        | some x =>
          obtain ⟨k1, _, k3⟩ := (rrLine_iff (by simp [howW]) (free_leg true) h3).1 hT
          have p1 := pump_line true (ns := x) [] (by intro e; rw [e] at k1; simp at k1)
          have p2 := pump_line false (ns := legN g) [] (by simp [legN])
          rw [List.append_nil] at p1 p2
          rw [← k3, h2, p2] at p1
          cases p1
      · rw [hp] at h4
        rw [h4]
    rw [e, h1, List.length_cons, rrLegs, hm]
    simp only
    have e5 : (geti (legN g) 5).toNat = g.items.length := by simp [geti, legN]
    rw [e5, rrItems_of g.items _ hg.i]
    simp only
    rw [rrLegs_of l t fun x hx => h x (List.mem_cons_of_mem _ hx)]
    rfl
theorem rrTrip_of {fuel : Spn} {legs : List Leg} (t : List UInt8) (h : TripR fuel legs) : rrTrip (splL 10 (sheetB fuel legs ++ t)) = some (fuel, legs, splL 10 t) := by
  obtain ⟨a, h1, _, _, h4⟩ := rr_line (ws := [tripW]) (many := 3) (ns := headN fuel legs) (legsC legs ++ t) (by simp) free_trip rfl h.n
  have e : sheetB fuel legs ++ t = lineB [tripW] (headN fuel legs) ++ (legsC legs ++ t) := by rw [sheetB_eq]; simp
  rw [e, h1, rrTrip, h4]
  simp only
  have e5 : (geti (headN fuel legs) 2).toNat = legs.length := by simp [geti, headN]
  rw [e5, rrLegs_of legs t h.l]
  rfl
theorem rrLine_num {ahead : List (List UInt8)} {many : Nat} {a : List UInt8} {ns : List Int} (h : rrLine ahead many a = some ns) : ns.length = many ∧ ∀ n ∈ ns, NumR n := by
  unfold rrLine at h
  split at h
  · rename_i hc
    obtain ⟨g1, g2⟩ := numsW_iff.1 h
    have := congrArg List.length g2
    simp only [List.length_drop, List.length_map] at this
    exact ⟨by omega, g1⟩
  · cases h
theorem rrItems_num : ∀ {k : Nat} {r u : List (List UInt8)} {l : List Itm}, rrItems k r = some (l, u) → l.length = k ∧ (∀ i ∈ l, ItmR i) ∧ u.length + k = r.length
  | 0, r, u, l, h => by
    simp only [rrItems, Option.some.injEq, Prod.mk.injEq] at h
    obtain ⟨rfl, rfl⟩ := h
    simp
  | k + 1, [], u, l, h => by cases h
  | k + 1, a :: r, u, l, h => by
    rw [rrItems] at h
    split at h
    · rename_i y hy
      split at h
      · rename_i m v hm
        simp only [Option.some.injEq, Prod.mk.injEq] at h
        obtain ⟨rfl, rfl⟩ := h
        obtain ⟨h1, h2⟩ := rrLine_num hy
        obtain ⟨k1, k2, k3⟩ := rrItems_num hm
        have e := list3 h1
        refine ⟨by simp [k1], fun i hi => ?_, by simp only [List.length_cons]; omega⟩
        rcases List.mem_cons.1 hi with rfl | hi
        · intro n hn
          exact h2 n (by rw [e]; simpa [itmN] using hn)
        · exact k2 i hi
      · cases h
    · cases h
theorem rrLegs_num : ∀ {k : Nat} {r u : List (List UInt8)} {l : List Leg}, rrLegs k r = some (l, u) → l.length = k ∧ (∀ g ∈ l, LegR g) ∧ u.length + k ≤ r.length
  | 0, r, u, l, h => by
    simp only [rrLegs, Option.some.injEq, Prod.mk.injEq] at h
    obtain ⟨rfl, rfl⟩ := h
    simp
  | k + 1, [], u, l, h => by cases h
  | k + 1, a :: r, u, l, h => by
    rw [rrLegs] at h
    split at h
    · rename_i b x hx
      split at h
      · rename_i is v hi
        split at h
        · rename_i m w hm
          simp only [Option.some.injEq, Prod.mk.injEq] at h
          obtain ⟨rfl, rfl⟩ := h
          have hx2 : x.length = 6 ∧ ∀ n ∈ x, NumR n := by
            split at hx
            · rename_i z hz
              simp only [Option.some.injEq, Prod.mk.injEq] at hx
              rw [← hx.2]
              exact rrLine_num hz
            · cases hz : rrLine (listsOf (howW false)) 6 a with
              | none => rw [hz] at hx; cases hx
              | some z =>
                rw [hz] at hx
                simp only [Option.map_some, Option.some.injEq, Prod.mk.injEq] at hx
                rw [← hx.2]
                exact rrLine_num hz
          obtain ⟨h1, h2⟩ := hx2
          obtain ⟨g1, g2, g3⟩ := rrItems_num hi
          obtain ⟨k1, k2, k3⟩ := rrLegs_num hm
          have e := list6 h1
          have h5 : NumR (geti x 5) := h2 _ (by rw [e]; simp [geti])
          have e5 : ((is.length : Nat) : Int) = geti x 5 := by rw [g1]; exact Int.toNat_of_nonneg h5.1
          have eN : legN ⟨is, b, geti x 0, ⟨geti x 1, geti x 2⟩, ⟨geti x 3, geti x 4⟩⟩ = x := by
            simp only [legN, e5]; exact e.symm
          refine ⟨by simp [k1], fun g hg => ?_, by simp only [List.length_cons]; omega⟩
          rcases List.mem_cons.1 hg with rfl | hg
          · exact ⟨fun n hn => h2 n (by rw [eN] at hn; exact hn), g2⟩
          · exact k2 g hg
        · cases h
      · cases h
    · cases h
theorem rrTrip_num {L u : List (List UInt8)} {fuel : Spn} {legs : List Leg} (h : rrTrip L = some (fuel, legs, u)) : TripR fuel legs := by
  cases L with
  | nil => cases h
  | cons a r =>
    rw [rrTrip] at h
    split at h
    · rename_i x hx
      split at h
      · rename_i l v hl
        simp only [Option.some.injEq, Prod.mk.injEq] at h
        obtain ⟨rfl, rfl, rfl⟩ := h
        obtain ⟨h1, h2⟩ := rrLine_num hx
        obtain ⟨k1, k2, _⟩ := rrLegs_num hl
        have e := list3 h1
        have h5 : NumR (geti x 2) := h2 _ (by rw [e]; simp [geti])
        have e5 : ((l.length : Nat) : Int) = geti x 2 := by rw [k1]; exact Int.toNat_of_nonneg h5.1
        have eN : headN ⟨geti x 0, geti x 1⟩ l = x := by
          simp only [headN, e5]; exact e.symm
        exact ⟨fun n hn => h2 n (by rw [eN] at hn; exact hn), k2⟩
      · cases h
    · cases h
theorem parts_last (s : Int) : ∃ a, splL 10 (lastB s) = [a, []] := by
  rw [lastB_eq]
  have h1 : (10 : UInt8) ∉ [101, 110, 100, 32, UInt8.ofNat (48 + (s % 97 / 10).toNat), UInt8.ofNat (48 + (s % 97 % 10).toNat)] := by
    have key : ∀ d : Nat, d < 10 → (10 : UInt8) ≠ UInt8.ofNat (48 + d) := fun d hd e => by
      have := congrArg UInt8.toNat e
      rw [digit_toNat hd] at this
      have h10 : (10 : UInt8).toNat = 10 := rfl
      omega
    simp only [List.mem_cons, List.not_mem_nil, or_false, not_or]
    exact ⟨by decide, by decide, by decide, by decide, key _ (by omega), key _ (by omega)⟩
  exact ⟨_, splL_app [] h1⟩
def refReads (text : List UInt8) (fuel : Spn) (legs : List Leg) : Prop :=
  ∃ u, rrTrip (splL 10 text) = some (fuel, legs, u) ∧ (∃ a, u = [a, []]) ∧ text = sheetB fuel legs ++ lastB (sheetS fuel legs)
theorem refReads_iff {text : List UInt8} {fuel : Spn} {legs : List Leg} : refReads text fuel legs ↔ rdTrip text = some (fuel, legs, lastB (sheetS fuel legs)) := by
  rw [rdTrip_iff]
  constructor
  · rintro ⟨u, h1, _, h2⟩
    exact ⟨rrTrip_num h1, h2⟩
  · rintro ⟨h1, h2⟩
    refine ⟨_, ?_, parts_last (sheetS fuel legs), h2⟩
    rw [h2]
    exact rrTrip_of _ h1
end Go.Qg


namespace Go.Qg
open Go.Proofs Go.RowKit Go.Lib
set_option maxRecDepth 100000
def readE (text : List UInt8) : Int × Spn × List Leg :=
  if 20000 < text.length then (3, ⟨0, 0⟩, []) else match rdTrip text with
    | some (f, l, u) => if u ≠ lastB (sheetS f l) then (4, ⟨0, 0⟩, []) else if tripE f l 8 ≠ 0 then (2, ⟨0, 0⟩, []) else (0, f, l)
    | none => (4, ⟨0, 0⟩, [])
theorem D1.len {a b : List UInt8} (h : D1 a b) : a.length = b.length := by
  obtain ⟨p, d, d', q, rfl, rfl, _⟩ := h
  simp
theorem read_refs {text : List UInt8} {f : Spn} {l : List Leg} (hl : text.length ≤ 20000) (h : refReads text f l) : readE text = if tripE f l 8 ≠ 0 then (2, ⟨0, 0⟩, []) else (0, f, l) := by
  unfold readE
  rw [if_neg (by omega), refReads_iff.1 h]
  simp
theorem read_none {text : List UInt8} (hl : text.length ≤ 20000) (h : ∀ f l, ¬ refReads text f l) : readE text = (4, ⟨0, 0⟩, []) := by
  unfold readE
  rw [if_neg (by omega)]
  cases hr : rdTrip text with
  | none => rfl
  | some x =>
    obtain ⟨f, l, u⟩ := x
    simp only
    by_cases hu : u = lastB (sheetS f l)
    · rw [hu] at hr
      exact absurd (refReads_iff.2 hr) (h f l)
    · rw [if_pos hu]
end Go.Qg

