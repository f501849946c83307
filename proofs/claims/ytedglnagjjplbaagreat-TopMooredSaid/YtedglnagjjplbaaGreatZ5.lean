/-
  Lemmas and contracts that hold of the whole program: 12 texts in one.
  No condition.
-/
import Derived.Test.YtedglnagjjplbaaGreatZ4
import Derived.Laws.CopyRow
import Derived.KernelRfl
set_option linter.all false

namespace Go.Qg
open Go.RowKit (Below)
def dend (P : Program) (M' k : Nat) (rs : List ResultVar) (gf : FuncId) (caps : List PV) (Q : Out → Prop) (rc : Option PV) (g : PF) : Prop :=
  ∃ ιd Hd capsd, ιd.Nodup ∧ outF g (tgtAt Hd ιd fun _ => false) 8 Hd ιd ∧ vwAll (vw g (tgtAt Hd ιd fun _ => false) 8) capsd (renL (M' + ·) caps) ∧
    DefW P gf capsd Hd rc fun H3 => H3.length = ιd.length ∧ ∃ x r H2 news, presults P (back g ιd H3) rs = some x ∧ leaves M' k (back g ιd H3) x r H2 news ∧ Q (.ret r H2)
def dpost (P : Program) (M' k : Nat) (rs : List ResultVar) (gf : FuncId) (caps : List PV) (Q : Out → Prop) : PX → PF → Prop
  | .ret, g | .normal, g => dend P M' k rs gf caps Q none g
  | .panic p, g => p.plain = true ∧ p.flat = true ∧ dend P M' k rs gf caps Q (some p) g
  | _, _ => False
def dmid (P : Program) (N M k : Nat) (rs : List ResultVar) (c : Code) (x : Operand) (Q : Out → Prop) (fr : PF) : Prop :=
  ∃ gf ps caps M' news H A, rd fr x = .clo (.func gf) [] ps ∧ N ≤ M' ∧ ((List.range k).map (M + ·) ++ news).Nodup ∧ A.length = N ∧
    outF fr (tgtAt H ((List.range k).map (M + ·) ++ news) fun _ => false) 8 H ((List.range k).map (M + ·) ++ news) ∧
    (∀ i, i < N → vw fr (tgtAt H ((List.range k).map (M + ·) ++ news) fun _ => false) 8 (A.getD i .undef) (rd fr (.tmp i))) ∧
    vwAll (vw fr (tgtAt H ((List.range k).map (M + ·) ++ news) fun _ => false) 8) caps ps ∧ (∀ p ∈ caps, p.flat = true) ∧
    pwp P M' c (dpost P M' k rs gf caps Q) (frame0 M' A H)
section
variable {P : Program} {N M M' : Nat} {B : Base} {a a' : Act} {w w' : World} {R : Nat → Nat → Prop} {Γ : Nat → Option Loc} {fr : PF}
theorem callW_ofD (hm : P.follows .mixedOrders = true) {f : FuncId} {fn : Func} {id : Nat} {o1 o2 : Oper} {c0 c2 : Code} {x : Operand} {ats : Array TypeId} (hf : P.funcs[f]? = some fn) (hname : (fn.name == "runtime.NumGoroutine") = false) (hb : fn.body = some (.seq c0 (.seq (.region id #[o1, o2] false) c2)))
    (ho : o2.op = .defer { callee := .value x, args := #[], argTypes := ats }) (hg : o2.guard = none) (hdst : o2.dst = none) {rs : List ResultVar} (hrs : fn.results.toList = rs) (hn : fn.ntmps = N) (hd0 : dstsIn N c0 = true) (hd1 : ∀ d, o1.dst = some d → d < N) (hd2 : dstsIn N c2 = true) {args : List PV} {H : PF} {Q : Out → Prop}
    (M : Nat) (hargs : args.length ≤ N) (hM : N ≤ M) (h : pwp P M c0 (thenP (pops P M [o1, o2] (dmid P N M H.length rs c2 x Q) (fun _ _ => False) [o1]) (fun _ _ => False)) (frame0 M args H)) : CallW P f args H Q := by
  subst hrs hn
  refine ⟨fun vs w => ?_, fun w vs R Γ Prot hRp h0 hl hrep => ?_⟩
  · simp only [callFunc, Sem.run_bind, run_program, Result.andThen_ok, hf, hname, hb]
    rfl
  · have hsim := h0.enter hl hrep hargs hM
    refine calls_of_wr hf hb (wr_seq (wr_mono (pwp_sound (ro := none) hm rfl c0 _ _ _ w hd0 hsim.toE h) fun e a0 w0 ⟨R0, Γ0, fr0, x0, hs0, hu0, hq0⟩ => ?_))
    cases x0 with
    | normal =>
      cases e with
      | normal =>
        refine wr_seq (wr_region ?_)
        have hr1 : List.range (#[o1, o2] : Array Oper).size = [0, 1] := rfl
        rw [hr1]
        have hN : ∀ o ∈ [o1, o2], ∀ d, o.dst = some d → d < fn.ntmps := fun o ho d hd => by
          rcases List.mem_cons.1 ho with rfl | ho
          · exact hd1 d hd
          · obtain rfl := List.mem_singleton.1 ho
            rw [hdst] at hd; cases hd
        refine op_sound (all := [o1, o2]) (K := pops P M [o1, o2] (dmid P fn.ntmps M H.length fn.results.toList c2 x Q) (fun _ _ => False) []) (Kp := fun _ _ => False) hs0.toE rfl hN rfl (fun _ _ _ _ _ _ _ _ _ hk => hk.elim) (fun _ _ hq => hq.elim) (k := 0) (o := o1) rfl hq0 (K' := fun a' w' => ∃ fr', SimE fn.ntmps (base0 Prot w R Γ M) a' w' fr' ∧ dmid P fn.ntmps M H.length fn.results.toList c2 x Q fr') (fun a' w' fr' h1 h2 => ⟨fr', h1, h2⟩) [1] fun a1 w1 hq1 => ?_
        obtain ⟨fr1, ⟨R1, Γ1, hs1⟩, gf, ps, caps, M', news, Ho, A, hx, hM', hκ, hA, hout, hAv, hcaps, hflat, hrest⟩ := hq1
        have hgn : ∀ s ∈ (List.range H.length).map (M + ·) ++ news, (fun _ : Nat => false) s = false := fun _ _ => rfl
        generalize hκe : (List.range H.length).map (M + ·) ++ news = κ at hκ hout hAv hcaps hgn
        have hv := hs1.rd x
        rw [hx] at hv
        generalize hux : a1.eval x = ux at hv
        cases hv with
        | clo _ uf uc _ _ l1 l2 _ r2 =>
        obtain rfl : uf = [] := by simpa using l1
        have hex : (execOp a1.eval o2).run P w1 = .ok (.defer { target := .fn (.func gf) uc.toArray, args := #[] }) w1 := by
          simp only [execOp, ho, resolve, Deferred.ofValue, hux]
          simp [go_sem]
        refine OpR_wp (K := fun a' w' => a' = { a1 with defers := [{ target := .fn (.func gf) uc.toArray, args := #[] }] } ∧ w' = w1) (ops := #[o1, o2]) (o := o2) rfl (by simp [Region.wanted, hg]) (.inl rfl) (fun _ _ hq => hq.elim) ?_ [] fun a' w' ⟨ha', hw'⟩ => RegR_nil ?_
        · unfold Oper.wp
          rw [hex, Oper.upon_defer]
          refine ⟨?_, rfl⟩
          rw [hdst, hs1.defers]
          rfl
        · subst ha' hw'
          obtain ⟨hlend, hRp1⟩ := hs1.lend hout hκ hgn
          obtain ⟨_, hview⟩ := hs1.leave hout hκ hgn
          have hR1 : ∀ b o, freedAt R1 Γ1 (fun _ => false) b o → R1 b o := fun b o hb => by
            rcases hb with hb | ⟨s, m, hg, _⟩
            · exact hb
            · cases hg
          have hent := hlend.enter (N := fn.ntmps) (M := M') (vs := a1.tmps.toList) (args := A) (by simp [hA, hs1.size]) (fun i u q hu hq => by
            have hlt := lt_of_get? hq
            rw [hA] at hlt
            have hqA : A.getD i .undef = q := by simp [List.getD, hq]
            have h1 := hAv i hlt
            rw [hqA] at h1
            refine hview q _ u h1 ?_
            have h2 := hs1.rd (.tmp i)
            rw [Array.getElem?_toList] at hu
            have : a1.eval (.tmp i) = u := by simp [Act.eval, hu]
            rwa [this] at h2) (by simp [hA]) hM'
          have hact : ({ tmps := a1.tmps.toList.toArray ++ Array.replicate (fn.ntmps - a1.tmps.toList.toArray.size) undef, defers := [] } : Act) = { tmps := a1.tmps, defers := [] } := by
            have e1 : a1.tmps.toList.toArray = a1.tmps := Array.toArray_toList
            rw [e1, hs1.size]
            simp
          rw [hact] at hent
          have hs2 : Sim fn.ntmps ⟨Prot, w, R, fun i => if M' ≤ i then Γout Γ1 Ho κ (i - M') else none, M', [{ target := .fn (.func gf) uc.toArray, args := #[] }]⟩ (freedAt R1 Γ1 fun _ => false) (fun i => if M' ≤ i then Γout Γ1 Ho κ (i - M') else none) { a1 with defers := [{ target := .fn (.func gf) uc.toArray, args := #[] }] } w' (frame0 M' A Ho) := by
            refine hent.moved (fun b o _ => rfl) (fun i l b hi hb => rfl) (Nat.le_refl _) (fun i l b hi hb hp => ?_) (fun b o hb => ?_) hs1.kept hs1.prot hM' (fun j l hj hl => ⟨l, hl, Loc.le_refl l⟩) rfl rfl
            · skip
              split at hi
              · obtain ⟨s, m, _, hm', hmb⟩ := Γout_blk hi hb
                exact ((hs1.own s m hm').2 b hmb).1 hp
              · cases hi
            · exact hs1.sub b o (hR1 b o hb)
          refine wr_mono (pwp_sound (ro := none) hm rfl c2 _ _ _ w' hd2 hs2.toE hrest) fun e a2 w2 ⟨R2, Γ2, g, x2, hs3, hu, hq⟩ => ?_
          have hcap : ∀ (i : Nat) (u : Value) (q : PV), uc[i]? = some u → (renL (M' + ·) caps)[i]? = some q → Rep w2 R2 Γ2 u q := fun i u q hu hq => by
            rw [renL_get] at hq
            simp only [Option.map_eq_some_iff] at hq
            obtain ⟨q0, hq0, rfl⟩ := hq
            obtain ⟨p0, hp0, hv0⟩ := vwAll_get hcaps i q0 hq0
            refine (hview q0 p0 u hv0 (r2 i u p0 hu hp0)).ren (.inl (hflat q0 (List.mem_of_getElem? hq0))) fun j _ l hl => ?_
            exact hs3.base (M' + j) l (Nat.le_add_right _ _) (by dsimp only; rw [if_pos (by omega), Nat.add_sub_cancel_left]; exact hl)
          have hlc : uc.length = (renL (M' + ·) caps).length := by rw [renL_length, vwAll_length hcaps]; exact l2
          have fin : ∀ (rv : Option Value) (rc : Option PV), (match rv, rc with | none, none => True | some v, some p => p.plain = true ∧ p.flat = true ∧ Rep w2 R2 Γ2 v p | _, _ => False) → dend P M' H.length fn.results.toList gf caps Q rc g → LeavesC P fn a2.tmps (Left Prot w R Γ Q) a2.defers (modeOf rv) w2 := by
            rintro rv rc hrv ⟨ιd, Hd, capsd, hιd, houtd, hcapsd, hdw, hdc⟩
            have hgd : ∀ s ∈ ιd, (fun _ : Nat => false) s = false := fun _ _ => rfl
            obtain ⟨hlend3, hRp3⟩ := hs3.lend houtd hιd hgd
            obtain ⟨_, hview3⟩ := hs3.leave houtd hιd hgd
            rw [hs3.defers]
            refine ⟨by cases rv <;> simp [modeOf], .inr ⟨.func gf, uc.toArray, gf, uc.toArray, rfl, ?_, ?_⟩⟩
            · simp [invoke, go_sem, hdw]
            · refine (hdc w2 uc _ _ _ rv hRp3 hlend3 ?_ (fun i u q hu hq => ?_) ?_).mono ?_
              · rw [hlc, vwAll_length hcapsd]
              · obtain ⟨p, hp, hv⟩ := vwAll_get hcapsd i q hq
                exact hview3 q p u hv (hcap i u p hu hp)
              · cases rv with
                | none => cases rc with
                  | none => trivial
                  | some p => exact hrv.elim
                | some v => cases rc with
                  | none => exact hrv.elim
                  | some p =>
                    obtain ⟨hp1, hp2, hr⟩ := hrv
                    have := Rep.ren (π := fun i => i) (R' := freedAt R2 Γ2 fun _ => false) (w' := w2) (Γ' := Γout Γ2 Hd ιd) hr (.inl hp2) (fun j hj => by rw [plain_names hp1] at hj; cases hj)
                    rwa [ren_plain hp1] at this
              · rintro e u' w3 ⟨⟨v, rfl⟩, rfl, R3, Γ3, H3, ⟨hl3, xr, r, H2, news2, hpr, hlv, hQ⟩, hs4, hobj⟩
                have hset : settle (modeRec rv) = .returning := by cases rv <;> rfl
                show LeavesC P fn a2.tmps _ [] (settle (modeRec rv)) w3
                rw [hset]
                obtain ⟨hm1, _⟩ := hs3.merge (news := []) houtd hs4 (by simpa using hιd) (by simpa using hl3) (fun s hs => by cases hs) (.inl fun _ => rfl) hobj
                have eback : placeAll ((ιd ++ []).getD · 0) (ιd ++ []) H3 g = back g ιd H3 := by simp only [List.append_nil]; rfl
                rw [eback] at hm1
                obtain ⟨v, hv, hrv⟩ := presults_sound (P := P) hm1 fn hpr
                refine ⟨v, hv, ?_⟩
                obtain ⟨hn2, hout2, hv2⟩ := hlv
                obtain ⟨h1, h2⟩ := hm1.leave hout2 hn2 (fun s hs => by have := List.contains_iff_mem.2 hs; show (!_) = false; rw [this]; rfl)
                refine ⟨_, _, .inl ⟨v, r, H2, rfl, hQ, h2 r xr v hv2 hrv, h1.rebase fun j l hjl => ?_, fun q hq => ?_⟩⟩
                · obtain ⟨⟨p, hp, _⟩, _⟩ := h0.own j l hjl
                  have hj := lt_of_get? hp
                  have hb : (base0 Prot w R Γ M).Γ0 (M + j) = some l := by
                    simp only [base0]
                    rw [if_pos (by omega), Nat.add_sub_cancel_left]; exact hjl
                  obtain ⟨l1, e1, e2⟩ := hs1.base (M + j) l (Nat.le_add_right _ _) hb
                  have hκ1 : κ[j]? = some (M + j) := by
                    rw [← hκe, List.getElem?_append_left (by simpa using hj)]; exact range_get M hj
                  obtain ⟨l2, e3, e4⟩ := Γout_le hs1 hout hκ1 e1
                  obtain ⟨l3, e5, e6⟩ := hm1.base (M' + j) l2 (Nat.le_add_right _ _) (by dsimp only; rw [if_pos (by omega), Nat.add_sub_cancel_left]; exact e3)
                  have hκ2 : ((List.range H.length).map (M' + ·) ++ news2)[j]? = some (M' + j) := by
                    rw [List.getElem?_append_left (by simpa using hj)]; exact range_get M' hj
                  obtain ⟨l4, e7, e8⟩ := Γout_le hm1 hout2 hκ2 e5
                  exact ⟨l4, e7, Loc.le_trans e2 (Loc.le_trans e4 (Loc.le_trans e6 e8))⟩
                · obtain ⟨i, hi⟩ := List.mem_iff_getElem?.1 hq
                  obtain ⟨s, p, _, _, hbare, _⟩ := outF_get hout2 i q hi
                  cases q <;> first | rfl | cases hbare
          cases e with
          | ret => cases x2 with
            | ret => exact fin none none trivial hq
            | _ => exact hu.elim
          | normal => cases x2 with
            | normal => exact fin none none trivial hq
            | _ => exact hu.elim
          | panic ch => cases x2 with
            | panic p =>
              obtain ⟨v, rfl, hrv⟩ := hu
              obtain ⟨hp1, hp2, hq⟩ := hq
              exact fin (some v) (some p) ⟨hp1, hp2, hrv⟩ hq
            | _ => exact hu.elim
          | exit id => cases x2 with
            | exit id' => exact hq.elim
            | _ => exact hu.elim
          | goto id => cases x2 with
            | goto id' => exact hq.elim
            | _ => exact hu.elim
          | outgrown => cases x2 <;> exact hu.elim
      | _ => exact hu0.elim
    | _ => exact hq0.elim
end
end Go.Qg

namespace Go.Qg
theorem pd_spec {P : Program} {o : Oper} {fr : PF} {c : Call} {f : FuncId} {ps : List PV} {r : PV} {k : List Nat → PF → Prop} (h : Spec P f ps r) (hp : pcallee P fr c = some (f, ps)) (hno : noObj o.dst fr = true) (hnm : namesL ps = []) (hr : r.names = [])
    (hk : k [] (put o.dst r fr)) : pdCall P o c fr k := by
  unfold pdCall
  rw [hp]
  refine ⟨hno, false, ps, r, [], [], .inl ⟨rfl, rfl, hnm⟩, .inl rfl, h, ⟨List.nodup_nil, rfl, fun s hs => by cases hs⟩, fun d _ hd => (by cases hd), ?_⟩
  have e : backV [] r = r := PV.ren_free _ _ hr
  rw [e]
  exact hk
theorem pd_specM {P : Program} {o : Oper} {fr : PF} {c : Call} {f : FuncId} {ps qs : List PV} {r : PV} {k : List Nat → PF → Prop} (h : Spec P f qs r) (hp : pcallee P fr c = some (f, ps)) (hno : noObj o.dst fr = true)
    (ha : ∀ g : PF, (∀ y ∈ c.args.toList, ∀ s ∈ deref (rd fr y) ++ nest (rd fr y), g[s]? = fr[s]?) → vwAll (vw g (lentTgt [] [] true) 8) qs ps) (hfl : r.flat = true) (hr : r.names = [])
    (hk : k [] (put o.dst r fr)) : pdCall P o c fr k := by
  unfold pdCall
  rw [hp]
  refine ⟨hno, true, qs, r, [], [], .inr ⟨rfl, ha⟩, .inr (by simpa [flatL] using hfl), h, ⟨List.nodup_nil, rfl, fun s hs => by cases hs⟩, fun d _ hd => (by cases hd), ?_⟩
  have e : backV [] r = r := PV.ren_free _ _ hr
  rw [e]
  exact hk
theorem vw_own_local {g : PF} {fl : Option (Nat × Nat)} {s ep off n sz e : Nat} {c : Bool} {rs : List (List PV)} {h : Nat → List PV} (hs : g[s]? = some (.rows fl ep e sz rs)) (hlen : off + n ≤ rs.length) (he : ∀ k, k < n → h k = rs.getD (off + k) [] ∧ plainL (h k) = true ∧ (h k).all (fun q => q.one && q.free) = true) :
    vw g (lentTgt [] [] true) 8 (.sl sz n h) (.own s ep off n c) := by
  rw [vw_sl_own_]
  refine ⟨by simp, rfl, rs, by simp [Qg.pown, hs], hlen, fun k hk => ?_⟩
  obtain ⟨e1, e2, e3⟩ := he k hk
  exact ⟨by rw [← e1]; exact vwAll_plain e2, e3⟩
theorem pop_callW {P : Program} {M : Nat} {K : PF → Prop} {Kp : PV → PF → Prop} {o : Oper} {fr : PF} {c : Call} {f : FuncId} {ps qs : List PV} {H : PF} {Q : Out → Prop} (h : CallW P f qs H Q) (hp : pcallee P fr c = some (f, ps)) (ι : List Nat) (md : Bool) (hι : ι.Nodup)
    (ho : outF fr (lentTgt H ι md) 8 H ι) (ha : argsOk fr (lentTgt H ι md) qs ps)
    (hk : ∀ out, Q out → match out with
      | .ret r H2 => ∃ news, backOk fr ι news H2 ∧ (md = false ∨ (flatL H2 && r.flat) = true) ∧ pclear o.dst (backV (ι ++ news) r) (back fr (ι ++ news) H2) = true ∧ K (put o.dst (backV (ι ++ news) r) (back fr (ι ++ news) H2))
      | .pan p H2 => ∃ news, backOk fr ι news H2 ∧ (md = false ∨ (flatL H2 && p.flat) = true) ∧ Kp (backV (ι ++ news) p) (back fr (ι ++ news) H2)) : popCall P M K Kp o c fr := by
  refine ⟨fr, .inl rfl, ?_⟩
  rw [hp]
  refine ⟨ι, md, H, qs, Q, hι, ho, ha, h, fun out hq => ?_⟩
  have := hk out hq
  cases out with
  | ret r H2 =>
    obtain ⟨news, h1, h2, h3, h4⟩ := this
    exact ⟨news, h1, h2, h3, h4⟩
  | pan p H2 =>
    obtain ⟨news, h1, h2, h3⟩ := this
    exact ⟨news, h1, h2, h3⟩
theorem pop_callG {P : Program} {M : Nat} {K : PF → Prop} {Kp : PV → PF → Prop} {o : Oper} {fr : PF} {c : Call} {f : FuncId} {ps qs : List PV} {H : PF} {Q : Out → Prop} (g : PF) (hg : less M fr g) (h : CallW P f qs H Q) (hp : pcallee P g c = some (f, ps)) (ι : List Nat) (md : Bool) (hι : ι.Nodup)
    (ho : outF g (lentTgt H ι md) 8 H ι) (ha : argsOk g (lentTgt H ι md) qs ps)
    (hk : ∀ out, Q out → match out with
      | .ret r H2 => ∃ news, backOk g ι news H2 ∧ (md = false ∨ (flatL H2 && r.flat) = true) ∧ pclear o.dst (backV (ι ++ news) r) (back g (ι ++ news) H2) = true ∧ K (put o.dst (backV (ι ++ news) r) (back g (ι ++ news) H2))
      | .pan p H2 => ∃ news, backOk g ι news H2 ∧ (md = false ∨ (flatL H2 && p.flat) = true) ∧ Kp (backV (ι ++ news) p) (back g (ι ++ news) H2)) : popCall P M K Kp o c fr := by
  refine ⟨g, .inr hg, ?_⟩
  rw [hp]
  refine ⟨ι, md, H, qs, Q, hι, ho, ha, h, fun out hq => ?_⟩
  have := hk out hq
  cases out with
  | ret r H2 =>
    obtain ⟨news, h1, h2, h3, h4⟩ := this
    exact ⟨news, h1, h2, h3, h4⟩
  | pan p H2 =>
    obtain ⟨news, h1, h2, h3⟩ := this
    exact ⟨news, h1, h2, h3⟩
theorem pop_specG {P : Program} {M : Nat} {K : PF → Prop} {Kp : PV → PF → Prop} {o : Oper} {fr : PF} {c : Call} {f : FuncId} {ps qs : List PV} {r : PV} (g : PF) (hg : less M fr g) (h : Spec P f qs r) (hp : pcallee P g c = some (f, ps)) (md : Bool) (ha : argsOk g (lentTgt [] [] md) qs ps) (hfl : md = false ∨ r.flat = true)
    (hn : r.names = []) (hcl : pclear o.dst r g = true) (hK : K (put o.dst r g)) : popCall P M K Kp o c fr := by
  refine ⟨g, .inr hg, ?_⟩
  rw [hp]
  refine ⟨[], md, [], qs, _, List.nodup_nil, trivial, ha, h, fun out ho => ?_⟩
  subst ho
  have e : backV [] r = r := PV.ren_free _ _ hn
  refine ⟨[], ⟨List.nodup_nil, rfl, fun s hs => by cases hs⟩, hfl.imp_right fun h => by simpa [flatL] using h, ?_⟩
  simp only [List.append_nil]
  rw [e]
  exact ⟨hcl, hK⟩
theorem ends_n {P : Program} {M k : Nat} {rs : List ResultVar} {Q : Out → Prop} {fr : PF} {x : PV} (r : PV) (H2 : PF) (news : List Nat) (hx : presults P fr rs = some x) (hn : ((List.range k).map (M + ·) ++ news).Nodup)
    (ho : outF fr (tgtAt H2 ((List.range k).map (M + ·) ++ news) fun s => !((List.range k).map (M + ·) ++ news).contains s) 8 H2 ((List.range k).map (M + ·) ++ news))
    (hv : vw fr (tgtAt H2 ((List.range k).map (M + ·) ++ news) fun s => !((List.range k).map (M + ·) ++ news).contains s) 8 r x) (hq : Q (.ret r H2)) : ppost P M k rs Q .normal fr := ⟨x, r, H2, news, hx, ⟨hn, ho, hv⟩, hq⟩
theorem ends_pan {P : Program} {M k : Nat} {rs : List ResultVar} {Q : Out → Prop} {fr : PF} {x : PV} (r : PV) (H2 : PF) (news : List Nat) (hn : ((List.range k).map (M + ·) ++ news).Nodup)
    (ho : outF fr (tgtAt H2 ((List.range k).map (M + ·) ++ news) fun s => !((List.range k).map (M + ·) ++ news).contains s) 8 H2 ((List.range k).map (M + ·) ++ news))
    (hv : vw fr (tgtAt H2 ((List.range k).map (M + ·) ++ news) fun s => !((List.range k).map (M + ·) ++ news).contains s) 8 r x) (hq : Q (.pan r H2)) : ppost P M k rs Q (.panic x) fr := ⟨r, H2, news, ⟨hn, ho, hv⟩, hq⟩
theorem answers_plain {P : Program} {rs : List ResultVar} {r : PV} {fr : PF} (h : presults P fr rs = some r) (hp : r.plain = true) : answers P rs r fr := ⟨r, h, vw_plain hp⟩
@[simp] theorem range_2 : List.range 2 = [0, 1] := rfl
@[simp] theorem range_3 : List.range 3 = [0, 1, 2] := rfl
@[simp] theorem range_4 : List.range 4 = [0, 1, 2, 3] := rfl
@[simp] theorem range_5 : List.range 5 = [0, 1, 2, 3, 4] := rfl
@[simp] theorem range_6 : List.range 6 = [0, 1, 2, 3, 4, 5] := rfl
@[simp] theorem range_7 : List.range 7 = [0, 1, 2, 3, 4, 5, 6] := rfl
@[simp] theorem range_8 : List.range 8 = [0, 1, 2, 3, 4, 5, 6, 7] := rfl
@[simp] theorem range_9 : List.range 9 = [0, 1, 2, 3, 4, 5, 6, 7, 8] := rfl
@[simp] theorem range_10 : List.range 10 = [0, 1, 2, 3, 4, 5, 6, 7, 8, 9] := rfl
@[simp] theorem range_11 : List.range 11 = [0, 1, 2, 3, 4, 5, 6, 7, 8, 9, 10] := rfl
@[simp] theorem range_12 : List.range 12 = [0, 1, 2, 3, 4, 5, 6, 7, 8, 9, 10, 11] := rfl
end Go.Qg

namespace Go.Qg
def dleaves (M k : Nat) (Q : PF → Prop) (x : PX) (fr : PF) : Prop := (x = .normal ∨ x = .ret) ∧ ∃ H2, leavesH M k fr H2 ∧ Q H2
theorem dleaves_n {M k : Nat} {Q : PF → Prop} {fr : PF} (H2 : PF) (h : outF fr (tgtAt H2 ((List.range k).map (M + ·)) fun s => !((List.range k).map (M + ·)).contains s) 8 H2 ((List.range k).map (M + ·))) (hq : Q H2) : dleaves M k Q .normal fr := ⟨.inl rfl, H2, h, hq⟩
theorem dleaves_r {M k : Nat} {Q : PF → Prop} {fr : PF} (H2 : PF) (h : outF fr (tgtAt H2 ((List.range k).map (M + ·)) fun s => !((List.range k).map (M + ·)).contains s) 8 H2 ((List.range k).map (M + ·))) (hq : Q H2) : dleaves M k Q .ret fr := ⟨.inr rfl, H2, h, hq⟩
def slots : Nat → Nat → PF → List PV
  | _, 0, _ => []
  | i, n + 1, [] => .undef :: slots (i + 1) n []
  | i, n + 1, p :: fr => rdAt i p :: slots (i + 1) n fr
theorem slots_get : ∀ (n i : Nat) (fr : PF) (j : Nat), j < n → (slots i n fr)[j]? = some (match fr[j]? with | some p => rdAt (i + j) p | none => .undef)
  | n + 1, i, [], 0, _ => by simp [slots]
  | n + 1, i, p :: fr, 0, _ => by simp [slots]
  | n + 1, i, [], j + 1, h => by
    simp only [slots, List.getElem?_cons_succ]
    rw [slots_get n (i + 1) [] j (by omega)]; simp
  | n + 1, i, p :: fr, j + 1, h => by
    simp only [slots, List.getElem?_cons_succ]
    rw [slots_get n (i + 1) fr j (by omega)]
    rw [show i + 1 + j = i + (j + 1) from by omega]
theorem slots_vw {fr : PF} {T : Tgt} {d N : Nat} {A : List PV} (h : vwAll (vw fr T d) A (slots 0 N fr)) : ∀ i, i < N → vw fr T d (A.getD i .undef) (rd fr (.tmp i)) := fun i hi => by
  have h1 := slots_get N 0 fr i hi
  have hl : (slots 0 N fr).length = A.length := (vwAll_length h).symm
  have hlt : i < A.length := by rw [← hl]; exact lt_of_get? h1
  obtain ⟨p, h2, h3⟩ := vwAll_get h i _ (List.getElem?_eq_getElem hlt)
  rw [h1] at h2
  have e : A.getD i .undef = A[i] := by simp [List.getD, List.getElem?_eq_getElem hlt]
  rw [e, show rd fr (.tmp i) = p from by
    rw [Nat.zero_add] at h2
    have h2 := Option.some.inj h2
    rw [← h2]; rfl]
  exact h3
theorem def_ofL {P : Program} {N : Nat} (hm : P.follows .mixedOrders = true) {f : FuncId} {fn : Func} {id : Nat} {o : Oper} {c : Code} (hf : P.funcs[f]? = some fn) (hname : (fn.name == "runtime.NumGoroutine") = false) (hb : fn.body = some (.seq (.region id #[o] false) c)) {d : Tmp} {ats : Array TypeId} (ho : o.op = .call { callee := .builtin .recover, args := #[], argTypes := ats }) (hg : o.guard = none) (hdst : o.dst = some d) (hrs : fn.results = #[]) (hn : fn.ntmps = N) (hdN : d < N) (hd : dstsIn N c = true)
    {caps : List PV} {H : PF} {rc : Option PV} {Q : PF → Prop} (hrc : ∀ p, rc = some p → p.plain = true ∧ p.flat = true) (M : Nat) (hargs : caps.length ≤ N) (hM : N ≤ M) (hfree : (frame0 M caps H)[d]? = some .undef)
    (h : pwp P M c (dleaves M H.length Q) ((frame0 M caps H).set d (rc.getD (.v .nilIface)))) : DefW P f caps H rc Q :=
  def_of hm hf hname hb ho hg hdst hrs hn hdN hd hrc M hargs hM hfree h
theorem dend_of {P : Program} {M' k : Nat} {rs : List ResultVar} {gf : FuncId} {caps : List PV} {Q : Out → Prop} {rc : Option PV} {g : PF} {H3 : PF} {x : PV} (ιd : List Nat) (Hd : PF) (capsd : List PV) (hιd : ιd.Nodup) (ho : outF g (tgtAt Hd ιd fun _ => false) 8 Hd ιd) (hc : vwAll (vw g (tgtAt Hd ιd fun _ => false) 8) capsd (renL (M' + ·) caps))
    (hd : DefW P gf capsd Hd rc fun H => H = H3) (hl : H3.length = ιd.length) (hx : presults P (back g ιd H3) rs = some x) (r : PV) (H2 : PF) (news : List Nat) (hlv : leaves M' k (back g ιd H3) x r H2 news) (hq : Q (.ret r H2)) : dend P M' k rs gf caps Q rc g := by
  refine ⟨ιd, Hd, capsd, hιd, ho, hc, hd.1, fun w vs R Γ Prot rv h1 h2 h3 h4 h5 => (hd.2 w vs R Γ Prot rv h1 h2 h3 h4 h5).mono ?_⟩
  rintro e u' w' ⟨a1, a2, R', Γ', H, rfl, a3⟩
  exact ⟨a1, a2, R', Γ', H, ⟨hl, x, r, H2, news, hx, hlv, hq⟩, a3⟩
theorem dpost_n {P : Program} {M' k : Nat} {rs : List ResultVar} {gf : FuncId} {caps : List PV} {Q : Out → Prop} {g : PF} (h : dend P M' k rs gf caps Q none g) : dpost P M' k rs gf caps Q .normal g := h
theorem dpost_r {P : Program} {M' k : Nat} {rs : List ResultVar} {gf : FuncId} {caps : List PV} {Q : Out → Prop} {g : PF} (h : dend P M' k rs gf caps Q none g) : dpost P M' k rs gf caps Q .ret g := h
theorem dpost_p {P : Program} {M' k : Nat} {rs : List ResultVar} {gf : FuncId} {caps : List PV} {Q : Out → Prop} {g : PF} {p : PV} (h1 : p.plain = true) (h2 : p.flat = true) (h : dend P M' k rs gf caps Q (some p) g) : dpost P M' k rs gf caps Q (.panic p) g := ⟨h1, h2, h⟩
theorem dmid_of {P : Program} {N M k : Nat} {rs : List ResultVar} {c : Code} {x : Operand} {Q : Out → Prop} {fr : PF} {gf : FuncId} {ps : List PV} (caps : List PV) (M' : Nat) (news : List Nat) (H A : PF) (hx : rd fr x = .clo (.func gf) [] ps) (hM : N ≤ M') (hn : ((List.range k).map (M + ·) ++ news).Nodup) (hA : A.length = N)
    (ho : outF fr (tgtAt H ((List.range k).map (M + ·) ++ news) fun _ => false) 8 H ((List.range k).map (M + ·) ++ news))
    (hv : vwAll (vw fr (tgtAt H ((List.range k).map (M + ·) ++ news) fun _ => false) 8) A (slots 0 N fr))
    (hc : vwAll (vw fr (tgtAt H ((List.range k).map (M + ·) ++ news) fun _ => false) 8) caps ps) (hf : ∀ p ∈ caps, p.flat = true)
    (h : pwp P M' c (dpost P M' k rs gf caps Q) (frame0 M' A H)) : dmid P N M k rs c x Q fr := ⟨gf, ps, caps, M', news, H, A, hx, hM, hn, hA, ho, slots_vw hv, hc, hf, h⟩
end Go.Qg

namespace Go.Qg
def againX {σ ι : Type} (M : Nat) (H : σ → PF) (J : σ → ι) (I : σ → Prop) (μ : σ → Nat) (s : σ) (i : ι) (fr : PF) : Prop := ∃ s', I s' ∧ μ s' < μ s ∧ J s' = i ∧ less M fr (H s')
theorem againX_of {σ ι : Type} {M : Nat} {H : σ → PF} {J : σ → ι} {I : σ → Prop} {μ : σ → Nat} {s : σ} {i : ι} {fr : PF} (s' : σ) (h1 : I s') (h2 : μ s' < μ s) (h3 : J s' = i) (h4 : less M fr (H s')) : againX M H J I μ s i fr := ⟨s', h1, h2, h3, h4⟩
section
variable {ι : Type} {P : Program} {N M : Nat} {𝒞 : ι → Base → Prop} {Q : ι → PX → PF → Prop} {i : ι} {fr : PF}
theorem XW_seqP (hm : P.follows .mixedOrders = true) (hlo : ∀ i B, 𝒞 i B → B.lo = M) {x y : Code} (hd : dstsIn N x = true) (h : pwp P M x (thenP (fun fr => XW P N 𝒞 i y Q fr) (Q i)) fr) : XW P N 𝒞 i (.seq x y) Q fr := by
  refine XW_seq (K := fun i fr => XW P N 𝒞 i y Q fr) (XW_pwp hm hlo hd (pwp_mono x (fun e fr he => ?_) h)) fun _ _ h => h
  cases e with
  | normal => exact he
  | _ => exact he
theorem XW_seqX {x y : Code} (h : XW P N 𝒞 i x (thenX (fun i fr => XW P N 𝒞 i y Q fr) Q) fr) : XW P N 𝒞 i (.seq x y) Q fr := XW_seq h fun _ _ h => h
theorem XW_loopV (hlo : ∀ i B, 𝒞 i B → B.lo = M) {c : Code} {B : PF} {σ : Type} (V : σ → List (Nat × PV)) (J : σ → ι) (I : σ → Prop) (μ : σ → Nat) (s0 : σ) (h0 : I s0) (hj : J s0 = i) (_hB : forgetAll (dsts c) fr = B) (e0 : less M fr (apply (V s0) B))
    (round : ∀ s, I s → XW P N 𝒞 (J s) c (thenX (againX M (fun s => apply (V s) B) J I μ s) Q) (apply (V s) B)) : XW P N 𝒞 i (.loop c) Q fr :=
  XW_loop hlo (fun s => apply (V s) B) J I μ s0 h0 hj e0 round
end
section
variable {ι : Type} {P : Program} {m : Nat} {p : PV} {fr : PF} {all : List Oper} {C : PF → Prop} {K : ι → PF → Prop} {Q : ι → PX → PF → Prop} {i : ι}
@[simp] theorem pdrawC_nil_ (fps : List Fp) : pdrawC P all m C [] fps (p :: fr) = (drawOk all m fps = true ∧ C (p :: fr)) := (rfl)
@[simp] theorem pdrawC_cons_ (o : Oper) (rest : List Oper) (fps : List Fp) : pdrawC P all m C (o :: rest) fps (p :: fr) = match pwanted all o (p :: fr) with
    | some b => if b = true then match isCall o with
        | some c => pdCall P o c (p :: fr) fun news fr' => pdrawC P all m C rest (fps ++ [fpOf all o news (p :: fr)]) fr'
        | none => isPanic o = none ∧ dstOk o (p :: fr) = true ∧ match pstep P o (p :: fr) with
          | some fr' => pdrawC P all m C rest (fps ++ [fpOf all o [] (p :: fr)]) fr'
          | none => False
      else noObj o.dst (p :: fr) = true ∧ pdrawC P all m C rest (fps ++ [fpOf all o [] (p :: fr)]) (put o.dst (.tup []) (p :: fr))
    | none => False := (rfl)
@[simp] theorem thenX_normal_ : thenX K Q i .normal (p :: fr) = K i (p :: fr) := (rfl)
@[simp] theorem thenX_exit_ (id : Nat) : thenX K Q i (.exit id) (p :: fr) = Q i (.exit id) (p :: fr) := (rfl)
@[simp] theorem thenX_ret_ : thenX K Q i .ret (p :: fr) = Q i .ret (p :: fr) := (rfl)
@[simp] theorem thenX_panic_ (q : PV) : thenX K Q i (.panic q) (p :: fr) = Q i (.panic q) (p :: fr) := (rfl)
@[simp] theorem blockX_panic_ (id : Nat) (q : PV) : blockX id Q i (.panic q) (p :: fr) = Q i (.panic q) (p :: fr) := (rfl)
@[simp] theorem blockX_normal_ (id : Nat) : blockX id Q i .normal (p :: fr) = Q i .normal (p :: fr) := (rfl)
@[simp] theorem blockX_exit_ (id id' : Nat) : blockX id Q i (.exit id') (p :: fr) = if id' = id then Q i .normal (p :: fr) else Q i (.exit id') (p :: fr) := (rfl)
@[simp] theorem blockX_ret_ (id : Nat) : blockX id Q i .ret (p :: fr) = Q i .ret (p :: fr) := (rfl)
end
theorem rend_n {M M' : Nat} {κ : List Nat} {fr next g : PF} {Q : Unit → PX → PF → Prop} (H2 : PF) (h1 : outF g (tgtAt H2 ((List.range κ.length).map (M' + ·)) fun s => !((List.range κ.length).map (M' + ·)).contains s) 8 H2 ((List.range κ.length).map (M' + ·))) (h2 : less M (back fr κ H2) next) : rend M M' κ fr next Q .normal g := ⟨H2, h1, h2⟩
theorem rend_r {M M' : Nat} {κ : List Nat} {fr next g : PF} {Q : Unit → PX → PF → Prop} (H2 : PF) (h1 : outF g (tgtAt H2 ((List.range κ.length).map (M' + ·)) fun s => !((List.range κ.length).map (M' + ·)).contains s) 8 H2 ((List.range κ.length).map (M' + ·))) (h2 : Q () .ret (back fr κ H2)) : rend M M' κ fr next Q .ret g := ⟨H2, h1, h2⟩
theorem rend_p {M M' : Nat} {κ : List Nat} {fr next g : PF} {Q : Unit → PX → PF → Prop} {q : PV} (hq1 : q.plain = true) (hq2 : q.flat = true) (H2 : PF) (h1 : outF g (tgtAt H2 ((List.range κ.length).map (M' + ·)) fun s => !((List.range κ.length).map (M' + ·)).contains s) 8 H2 ((List.range κ.length).map (M' + ·))) (h2 : Q () (.panic q) (back fr κ H2)) : rend M M' κ fr next Q (.panic q) g := ⟨hq1, hq2, H2, h1, h2⟩
theorem slots_view {fr : PF} {T : Tgt} {d N t : Nat} {A : List PV} (h : vwAll (vw fr T d) A ((slots 0 N fr).set t .undef)) (hA : A.length = N) : ∀ i, i < N → i ≠ t → vw fr T d (A.getD i .undef) (rd fr (.tmp i)) := fun i hi hit => by
  have h1 := slots_get N 0 fr i hi
  obtain ⟨p, h2, h3⟩ := vwAll_get h i _ (List.getElem?_eq_getElem (show i < A.length by omega))
  rw [List.getElem?_set_ne (Ne.symm hit), h1] at h2
  have e : A.getD i .undef = A[i]'(by omega) := by simp [List.getD, List.getElem?_eq_getElem (show i < A.length by omega)]
  rw [e, show rd fr (.tmp i) = p from by
    rw [Nat.zero_add] at h2
    have h2 := Option.some.inj h2
    rw [← h2]; rfl]
  exact h3
attribute [irreducible] againX
end Go.Qg

namespace Go.Qg
open Go.RowKit (Below)
section
variable {P : Program} {N : Nat} {B : Base} {w w' : World} {R R' : Nat → Nat → Prop} {Γ Γ' : Nat → Option Loc} {a : Act} {fr fr' : PF}
theorem copy_sound (h : Sim N B R Γ a w fr) {u v : Value} {i ep n : Nat} {ff : Bool} {fl : Option (Nat × Nat)} {e : TypeId} {rs news : List (List PV)} {T T' ty el : TypeId} (ht : P.underlying T = some (.slice el)) (hz : (P.info? el).map (·.size) = some 1)
    (hs : fr[i]? = some (.rows fl ep e 1 rs)) (hu : Rep w R Γ u (.own i ep 0 n ff)) (hn : rs.length = n) (h0 : 0 < n) (hv : RowsOf w R Γ 1 news v) (hl : news.length = n) :
    ∃ w', (Builtin.copy_ #[T, T'] ty #[u, v]).run P w = .ok (goInt n) w' ∧ Sim N B R Γ a w' (fr.set i (.rows fl ep e 1 news)) := by
  obtain ⟨l, hΓ, hown, _⟩ := h.ownAt (sz := 1) (rs := rs) hu (by simp [Qg.pown, hs])
  obtain ⟨l2, hΓ2, htmp, hrow, _, hl2⟩ := h.slot i _ hs
  rw [hΓ] at hΓ2
  simp only [Option.some.injEq, Loc.rows.injEq, true_and] at hΓ2
  subst hΓ2
  cases l with
  | none => obtain ⟨_, h1, _⟩ := hown; omega
  | some bc =>
    obtain ⟨b, cap⟩ := bc
    obtain ⟨rfl, hcap⟩ := hown
    obtain ⟨vs, hh, hc1, hc2, hvs, hr⟩ := hl2
    obtain ⟨hone, A, c, rfl, hx⟩ := hv
    rcases hx with ⟨e0, _⟩ | ⟨ad, us, rfl, hat⟩
    · rw [e0] at hl; simp at hl; omega
    have hrep : ∀ (k : Nat) (r : List PV) (p : PV), news[k]? = some r → r[0]? = some p → Rep w R Γ (us k) p := fun k r p h1 h2 => by
      have := hat.rep k 0 r p h1 h2
      simpa using this
    have h1 : ∀ x ∈ (List.range n).map us, x.oneCell' = true := fun x hx => by
      obtain ⟨k, hk, rfl⟩ := List.mem_map.1 hx
      have hk := List.mem_range.1 hk
      have hkn : k < news.length := by omega
      have hg := List.getElem?_eq_getElem hkn
      obtain ⟨q1, q2⟩ := hone _ (List.mem_of_getElem? hg)
      have hp0 := List.getElem?_eq_getElem (show 0 < news[k].length by omega)
      exact (hrep k _ _ hg hp0).oneCell (q2 _ (List.mem_of_getElem? hp0))
    have hrun := run_copy_row (P := P) w T T' ty el b (0 * 1) n (if ff then n else cap - 0) ad n c vs e ((List.range n).map us) ht hz hh (by simp) (fun j x hj => by
      rw [List.getElem?_map] at hj
      obtain ⟨j', hj', rfl⟩ := Option.map_eq_some_iff.1 hj
      have hlt := lt_of_get? hj'
      simp at hlt
      rw [List.getElem?_range hlt] at hj'
      obtain rfl := Option.some.inj hj'
      exact hat.cell j (by rw [hl]; omega)) (by simp; omega) h1
    simp only [List.length_map, List.length_range] at hrun
    refine ⟨_, by rw [hl]; exact hrun, ?_⟩
    generalize hW : vs.toList.take (0 * 1) ++ (List.range n).map us ++ vs.toList.drop (0 * 1 + n) = W
    have hWg : ∀ j, j < n → W[j]? = some (us j) := fun j hj => by
      rw [← hW]
      simp only [Nat.zero_mul, List.take_zero, List.nil_append]
      rw [List.getElem?_append_left (by simpa using hj), List.getElem?_map, List.getElem?_range hj]; rfl
    have hWl : W.length = vs.size := by rw [← hW]; simp; omega
    have hg : w.grownBy (w.setRow b W.toArray) (some b) := ⟨rfl, rfl, rfl, by simp, fun k _ hne => setRow_other w b k _ (fun e => hne (by rw [e]))⟩
    have hk : ∀ b' o, R b' o → R b' o ∧ (w.setRow b W.toArray).cell? ⟨b', o, none⟩ = w.cell? ⟨b', o, none⟩ := fun b' o hbo =>
      ⟨hbo, cell?_of_heap (hg.block b' (h.bnd b' o hbo) (fun e => ((h.own i _ hΓ).2 _ rfl).2.2 o (Option.some.inj e ▸ hbo)))⟩
    have := h.setObj hΓ (Loc.le_refl _) hg (.inl rfl) (p' := .rows fl ep e 1 news) rfl (by
      rw [give_same hΓ]
      refine ⟨some (b, cap), hΓ, fun ep0 n0 e => ⟨(htmp ep0 n0 e).1, (htmp ep0 n0 e).2.keep hk⟩, hone, by omega, W.toArray, setRow_heap w b vs _ e _ hh, by omega, hc2, by simpa [hWl] using hvs, fun i' j r q x hr' hq hx => ?_⟩
      have hj : j = 0 := by have := lt_of_get? hq; rw [(hone r (List.mem_of_getElem? hr')).1] at this; omega
      subst hj
      have hi' := lt_of_get? hr'
      rw [Nat.mul_one, Nat.add_zero, List.getElem?_toArray, hWg i' (by omega)] at hx
      obtain rfl := Option.some.inj hx
      exact Rep.keep hk (hrep i' r q hr' hq))
    rwa [give_same hΓ] at this
def pcopy (P : Program) (o : Oper) (fr : PF) : Option PF :=
  match o.op with
  | .call c => match c.callee, c.args.toList, c.argTypes.toList with
    | .builtin .copy, [x, y], [T, _] => match rd fr x, prows fr (rd fr y) with
      | .own i ep 0 n _, some (1, news) => match fr[i]? with
        | some (.rows fl ep' e 1 rs) => if ep' = ep ∧ rs.length = n ∧ 0 < n ∧ news.length = n ∧ (tel P T).bind (tsz P) = some 1 then pput o.dst (.v (.int .i64 n)) (fr.set i (.rows fl ep e 1 news)) else none
        | _ => none
      | _, _ => none
    | _, _, _ => none
  | _ => none
theorem copy_step {Q : Exit → Act → World → Prop} {K : Act → World → Prop} (h : Sim N B R Γ a w fr) {o : Oper} (hN : ∀ d, o.dst = some d → d < N) (hp : pcopy P o fr = some fr') (hK : ∀ a' w', SimE N B a' w' fr' → K a' w') : o.wp P a w K Q := by
  unfold pcopy at hp
  split at hp
  case h_2 => cases hp
  rename_i c ho
  split at hp
  case h_2 => cases hp
  rename_i x y T T' hc hargs hts
  split at hp
  case h_2 => cases hp
  rename_i i ep n ff news hx hy
  split at hp
  case h_2 => cases hp
  rename_i fl ep' e rs hs
  split at hp
  case isFalse => cases hp
  rename_i hq
  obtain ⟨rfl, h1, h2, h3, h4⟩ := hq
  obtain ⟨el, he, hz⟩ := Option.bind_eq_some_iff.1 h4
  have hu := h.rd x
  rw [hx] at hu
  obtain ⟨w', hr, hs'⟩ := copy_sound (P := P) (T' := T') (ty := o.type) h (tel_some he) hz hs hu h1 h2 (h.rows (h.rd y) hy) h3
  obtain ⟨hcl, rfl⟩ := pput_some hp
  refine wp_val' (u := goInt n) (w' := w') ?_ (hK _ _ (hs'.put o.dst hN hcl (.v _ rfl)).toE)
  have e1 : c.args = #[x, y] := by rw [← Array.toArray_toList (xs := c.args), hargs]
  have e2 : c.argTypes = #[T, T'] := by rw [← Array.toArray_toList (xs := c.argTypes), hts]
  obtain ⟨callee, args, ats⟩ := c
  dsimp only at hc e1 e2
  subst hc e1 e2
  simp only [execOp, ho, resolve, invoke, builtin, Sem.run_bind, Sem.run_pure, Result.andThen_ok, List.map_toArray, List.map_cons, List.map_nil, hr]
theorem pre_sound {Q : Exit → Act → World → Prop} {all : List Oper} {ro : Option Nat} (ops : Array Oper) (hall : ops.toList = all) (hN : ∀ o ∈ all, ∀ d, o.dst = some d → d < N) {M : Nat} (hM : B.lo = M) {K : PF → Prop} {Kp : PV → PF → Prop} (hpan : PanUp N B Q Kp) (hout : ∀ a w, ¬ Q .outgrown a w) {r : Nat} :
    ∀ (m k : Nat), k + m ≤ all.length → (∀ a w fr, SimE N B a w fr → K fr → RegR P ro ops (List.range' (k + m) r) Q a w) → ∀ (a : Act) (w : World) (fr : PF), SimE N B a w fr → pops P M all K Kp ((all.drop k).take m) fr → RegR P ro ops (List.range' k (m + r)) Q a w
  | 0, k, hk, hQ, a, w, fr, h, hp => by
    rw [Nat.zero_add]
    simpa using hQ a w fr h (by simpa [pops] using hp)
  | m + 1, k, hk, hQ, a, w, fr, h, hp => by
    have hlt : k < all.length := by omega
    rw [List.drop_eq_getElem_cons hlt, List.take_succ_cons] at hp
    rw [show m + 1 + r = (m + r) + 1 from by omega, List.range'_succ]
    exact op_sound h hall hN hM hpan hout (List.getElem?_eq_getElem hlt) hp (K' := fun a' w' => ∃ fr', SimE N B a' w' fr' ∧ pops P M all K Kp ((all.drop (k + 1)).take m) fr') (fun a' w' fr' h1 h2 => ⟨fr', h1, h2⟩) _
      fun a' w' ⟨fr', h1, h2⟩ => pre_sound ops hall hN hM hpan hout m (k + 1) (by omega) (by rw [show k + 1 + m = k + (m + 1) from by omega]; exact hQ) a' w' fr' h1 h2
end
theorem XW_copy {ι : Type} {P : Program} {N M : Nat} {𝒞 : ι → Base → Prop} {i : ι} {Q : ι → PX → PF → Prop} {fr : PF} (hlo : ∀ i B, 𝒞 i B → B.lo = M) {id : Nat} {ops : Array Oper} (hd : dstsIn N (.region id ops false) = true) {o : Oper} (ho : ops.toList.getLast? = some o)
    (hp : pops P M ops.toList (fun fr => pwanted ops.toList o fr = some true ∧ ∃ fr', pcopy P o fr = some fr' ∧ Q i .normal fr') (fun p => Q i (.panic p)) ops.toList.dropLast fr) : XW P N 𝒞 i (.region id ops false) Q fr := fun B a w hC hs => by
  refine wr_mono (wr_region (Q := Up N B (Q i)) ?_) fun _ _ _ hu => ⟨i, B, hC, hu⟩
  have hN := dsts_mem hd
  obtain ⟨m, hm⟩ : ∃ m, ops.toList.length = m + 1 := by
    cases hl : ops.toList with
    | nil => rw [hl] at ho; cases ho
    | cons x l => exact ⟨l.length, rfl⟩
  have hsz : ops.size = m + 1 := by simpa using hm
  rw [List.range_eq_range', hsz]
  have hget : ops.toList[m]? = some o := by rw [List.getLast?_eq_getElem?, hm] at ho; simpa using ho
  have hdr : (ops.toList.drop 0).take m = ops.toList.dropLast := by rw [List.dropLast_eq_take, hm]; rfl
  rw [← hdr] at hp
  refine pre_sound ops rfl hN (hlo i B hC) pan_up up_out (r := 1) m 0 (by omega) (fun a w fr hs hk => ?_) a w fr hs hp
  obtain ⟨hw, fr', h1, h2⟩ := hk
  obtain ⟨R, Γ, hs⟩ := hs
  have hi : ops[0 + m]? = some o := by rw [Nat.zero_add, ← hget]; simp
  have hno : ∀ c, o.op ≠ .defer c := fun c hc => by
    unfold pcopy at h1
    rw [hc] at h1; cases h1
  rw [List.range'_one]
  exact OpR_wp hi (wanted_sound hs.toE rfl hN hw) (.inr hno) up_out (copy_step hs (hN o (List.mem_of_getElem? hget)) h1 (K := fun a' w' => SimE N B a' w' fr') fun _ _ h => h) [] fun a' w' ⟨R, Γ, hs⟩ => RegR_nil ⟨R, Γ, fr', .normal, hs, trivial, h2⟩
end Go.Qg

namespace Go.Qg
open Go.RowKit (Below)
section
variable {P : Program} {N M M' : Nat} {B B0 : Base} {a a' : Act} {w w' : World} {R R00 : Nat → Nat → Prop} {Γ : Nat → Option Loc} {fr : PF} {Q : Unit → PX → PF → Prop} {κ : List Nat} {l D : Nat} {rec : LoopState → Option Code → Loop} {V : Nat → PF}
theorem XW_rangeI (hN : 0 < N) (hmx : P.follows .mixedOrders = true) {g : Operand} {t : Tmp} {assign body : Code} {gf : FuncId} {caps els : List PV} (hg : rd fr g = .clo (.func gf) [] caps) (hcaps : plainL caps = true) (hgen : GenW P gf caps els) (hels : ∀ p ∈ els, p.plain = true ∧ p.flat = true)
    (hda : dstsIn N assign = true) (hdb : dstsIn N body = true) (M' : Nat) (hM' : N ≤ M') (κ : List Nat) (hκ : κ.Nodup) (V : Nat → PF) (A : Nat → List PV) (H : Nat → PF) (h0 : less B0.lo fr (V 0))
    (hview : ∀ n, n < els.length → V n ≠ [] → (A n).length = N ∧ outF (V n) (tgtAt (H n) κ fun _ => false) 8 (H n) κ ∧ ∀ i, i < N → i ≠ t → vw (V n) (tgtAt (H n) κ fun _ => false) 8 ((A n).getD i .undef) (rd (V n) (.tmp i)))
    (hround : ∀ n p, els[n]? = some p → V n ≠ [] → pwp P M' assign (thenP (pwp P M' body (rend B0.lo M' κ (V n) (V (n + 1)) Q)) (fun _ _ => False)) (frame0 M' ((A n).set t p) (H n)))
    (hend : V els.length ≠ [] → Q () .normal (V els.length)) : XW P N (ECtx B0) () (.rangeFunc g #[t] assign body) Q fr := fun B a w hC ⟨R, Γ, hs⟩ => by
  have hlo := hC.1
  have hgv := hs.rd g
  rw [hg] at hgv
  generalize hu : a.eval g = u at hgv
  cases hgv with
  | clo _ uf uc _ _ l1 l2 _ r2 =>
  obtain rfl : uf = [] := by simpa using l1
  refine wr_range hu hgen.1 fun fn => ?_
  generalize hW1 : (w.alloc (.deferred (some []))).alloc (.loop (loopRec fn a #[t] assign body w.heap.size .ready none)) = W1
  have hbel : Below w.heap.size w W1 := by
    rw [← hW1]; exact (((Below.refl _ w).alloc (Nat.le_refl _) _).alloc (by simp) _)
  have hl1 : W1.heap[w.heap.size + 1]? = some (.loop (loopRec fn a #[t] assign body w.heap.size .ready none)) := by
    rw [← hW1]; have := World.alloc_heap_new (w.alloc (.deferred (some []))) (.loop (loopRec fn a #[t] assign body w.heap.size .ready none)); rwa [World.size_alloc] at this
  have hD1 : W1.heap[w.heap.size]? = some (.deferred (some [])) := by
    rw [← hW1]; exact (Below.heap_alloc _ _ _ (by simp)).trans (World.alloc_heap_new w _)
  have hw1 := weak_R hs (by rw [hlo]; exact h0)
  have hs1 := hw1.grown hbel _ (fun _ _ x => x) (fun _ _ x => .inl x)
  have hBl : ∀ b, B.Prot b → b < w.heap.size := fun b hb => Nat.lt_of_lt_of_le (hs.prot b hb) hs.kept.size
  have henv : Env P (w.heap.size + 1) els (fun b => (∃ o, R b o) ∨ isTab b) (LoopJ N B a (w.heap.size + 1) w.heap.size (loopRec fn a #[t] assign body w.heap.size) R V Q) := by
    refine ⟨fun b hb => .inr hb, fun s F W b hJ hb => ?_, fun s F W W' hJ hF hsz ho ht hou => ?_, fun p F W hJ => ?_, fun n F W v p Ra Γa hJ hel hv => ?_⟩
    · obtain ⟨R, Γ, fr, st, pe, k1, rfl, k3, k4, _⟩ := hJ
      exact foot_bnd k1 k3 k4 hb
    · obtain ⟨R, Γ, fr, st, pe, k1, rfl, k3, k4, k5⟩ := hJ
      exact ⟨R, Γ, fr, st, pe, foot_stay k1 hF hsz ho ht hou, rfl, (hF _ (.inr (.inr (.inr (.inl rfl))))).trans k3, (hF _ (.inr (.inr (.inr (.inr rfl))))).trans k4, k5⟩
    · obtain ⟨R, Γ, fr, st, pe, _, _, _, _, _, _, k7, k8, _⟩ := hJ
      exact ⟨k7, k8⟩
    · obtain ⟨R', Γ', fr', st, pe, k1, rfl, k3, k4, k5, k6, rfl, rfl, rfl⟩ := hJ
      have hlt := lt_of_get? hel
      have hV : V n ≠ [] := fun e => by have := k1.len; rw [e] at this; simp at this; omega
      obtain ⟨v1, v2, v3⟩ := hview n hlt hV
      have hy : (Instr.yield (w.heap.size + 1) #[v]).run P W = .ok (.round (w.heap.size + 1) fn (a.tmps.setIfInBounds t v) assign body) W := by
        have := run_yield (P := P) (args := #[v]) k3 rfl
        simpa [loopRec] using this
      refine ⟨_, _, _, _, hy, fun c cs => ?_⟩
      obtain ⟨e, W2, ⟨R2, Γ2, fr2, st2, pe2, q2, q3, q4, q5, q6, q7, q8, q9⟩, hsteps⟩ := round_sound (l := w.heap.size + 1) (D := w.heap.size) (R00 := R) hmx hda hdb hM' hκ (p := p) (v := v) (Q := Q) (next := V (n + 1)) k1 ⟨by simp, fun b hb => Nat.lt_succ_of_lt (hBl b hb)⟩ rfl k3 k4 (by omega) k6 k5 v2 v1 v3 (hels p (List.mem_of_getElem? hel)) hv (by rw [hlo]; exact hround n p hel hV) c cs
      refine ⟨e, W2, ⟨foot B R2 Γ2 (w.heap.size + 1) w.heap.size, ?_, q7, ⟨q8.os, q8.tape, q8.output, q8.size, fun x hx => by
        rcases hx.2 with h | ⟨o, ho⟩ | h
        · exact q8.block x ⟨hx.1, .inl h⟩
        · exact q8.block x ⟨hx.1, .inr ⟨o, k5 x o ho⟩⟩
        · exact (q2.kept.block x (k1.prot.isP h)).trans (k1.kept.block x (k1.prot.isP h)).symm⟩⟩, hsteps⟩
      cases e with
      | outgrown => exact q9.elim
      | panicked ch =>
        obtain ⟨pv, q, e1, e2, e3, e4, e5⟩ := q9
        exact ⟨pv, q, e1, e2, R2, Γ2, fr2, st2, pe2, q2, rfl, q3, q4, q5, q6, e3, e4, e5⟩
      | returned ret =>
        obtain ⟨b, e1, q9⟩ := q9
        refine ⟨b, e1, ?_⟩
        cases b with
        | true => exact ⟨R2, Γ2, fr2, st2, pe2, q2, rfl, q3, q4, q5, q6, q9⟩
        | false => exact ⟨R2, Γ2, fr2, st2, pe2, q2, rfl, q3, q4, q5, q6, q9⟩
  have hJ0 : LoopJ N B a (w.heap.size + 1) w.heap.size (loopRec fn a #[t] assign body w.heap.size) R V Q (.on 0) (foot B (freed R Γ (V 0)) (Γof Γ (V 0)) (w.heap.size + 1) w.heap.size) W1 := by
    refine ⟨_, _, V 0, .ready, none, hs1, rfl, hl1, hD1, fun b o hb => .inl hb, fun o ho => ?_, rfl, rfl, rfl⟩
    rcases ho with ho | ⟨s, m, _, hm, hmb⟩
    · have := hs.bnd _ o ho; omega
    · have := ((hs.own s m hm).2 _ hmb).2.1; omega
  have after : ∀ {R' : Nat → Nat → Prop} {Γ' : Nat → Option Loc} {fr' : PF} {w' : World} {rc : Loop} (w2 : World), Sim N B R' Γ' a w' fr' → w'.heap[w.heap.size + 1]? = some (.loop rc) → w'.heap[w.heap.size]? = some (.deferred (some [])) → (w2 = w' ∨ ∃ rc', w2 = w'.putObj (w.heap.size + 1) (.loop rc')) →
      ∃ B', ECtx B0 () B' ∧ Sim N B' R' Γ' { a with defers := { target := .collected w.heap.size, args := #[] } :: a.defers } w2 fr' := by
    intro R' Γ' fr' w' rc w2 k1 k3 k4 hw2
    obtain ⟨c1, c2, c3, c4, c5, ms, hms, hDs, hm⟩ := hC
    have hlt := (Array.getElem?_eq_some_iff.1 k3).1
    have z1 : ∀ k, k ≠ w.heap.size + 1 → w2.heap[k]? = w'.heap[k]? := fun k hk => by
      rcases hw2 with rfl | ⟨rc', rfl⟩
      · rfl
      · exact World.putObj_heap_other hk
    have z2 : w2.heap.size = w'.heap.size := by
      rcases hw2 with rfl | ⟨rc', rfl⟩
      · rfl
      · simp
    have z3 : w2.os = w'.os ∧ w2.tape = w'.tape ∧ w2.output = w'.output := by
      rcases hw2 with rfl | ⟨rc', rfl⟩ <;> exact ⟨rfl, rfl, rfl⟩
    have z4 : ∀ b o, w2.cell? ⟨b, o, none⟩ = w'.cell? ⟨b, o, none⟩ := fun b o => by
      rcases hw2 with rfl | ⟨rc', rfl⟩
      · rfl
      · exact cell_putObj k3 (by simp) (by simp)
    refine ⟨⟨fun b => B.Prot b ∨ b = w.heap.size, w2, R', B.Γ0, B.lo, { target := .collected w.heap.size, args := #[] } :: B.D⟩, ⟨c1, fun b hb => .inl (c2 b hb), ?_, fun b o hb => ?_, c5, w.heap.size :: ms, ?_, by rw [hDs]; rfl, fun r hr => ?_⟩, ?_⟩
    · refine (c3.trans (k1.kept.mono c2)).trans ⟨z3.1, z3.2.1, z3.2.2, Nat.le_of_eq z2.symm, fun k hk => z1 k fun e => ?_⟩
      have := hBl k (c2 k hk)
      omega
    · rcases k1.sub b o hb with h1 | h1
      · exact c4 b o h1
      · exact .inr fun hp => h1 (c2 b hp)
    · refine List.nodup_cons.2 ⟨fun hin => ?_, hms⟩
      have := hBl _ (hm _ hin).1
      omega
    · rcases List.mem_cons.1 hr with rfl | hr
      · refine ⟨.inr rfl, fun hp => ?_, (z1 _ (by omega)).trans k4⟩
        have := hBl _ (c2 _ hp)
        omega
      · obtain ⟨h1, h2, h3⟩ := hm r hr
        refine ⟨.inl h1, h2, ?_⟩
        have hrl := hBl r h1
        exact (z1 _ (by omega)).trans ((k1.kept.block r h1).trans h3)
    · refine k1.moved (fun b o _ => z4 b o) (fun i m b hi hb => z1 b fun e => k1.not_own k3 (by simp) (by simp) hi (e ▸ hb)) (Nat.le_of_eq z2.symm) (fun i m b hi hb hp => ?_) (fun b o hb => .inl hb) (Kept.refl _ _) (k1.prot.go (fun b hb => ?_) (fun b _ hb => .inl hb) fun b _ hb => (z1 b (by have := hBl b hb; omega)).trans (k1.kept.block b hb)) k1.lo k1.base rfl (by rw [k1.defers])
      · rcases hp with hp | rfl
        · exact ((k1.own i m hi).2 b hb).1 hp
        · exact k1.not_own k4 (by simp) (by simp) hi hb
      · rcases hb with hb | rfl
        · have := hBl b hb
          simp only
          have := k1.kept.size
          omega
        · simp only
          omega
  refine (hgen.2 W1 uc R (fun b => (∃ o, R b o) ∨ isTab b) (w.heap.size + 1) _ _ (fun b o hb => .inl ⟨o, hb⟩) (hs.prot.go (fun b hb => hb.elim (fun ⟨o, hb⟩ => Nat.lt_of_lt_of_le (hs.bnd b o hb) hbel.size) fun hb => Nat.lt_of_lt_of_le (hBl b (hs.prot.isP hb)) hbel.size) (fun b hb _ => .inr hb) fun b _ hb => (hbel.block b (hBl b hb)).trans (hs.kept.block b hb)) henv hJ0 l2 (fun i u p hu hp => ?_)).mono ?_
  · refine (r2 i u p hu hp).free (fun b o hb => ⟨hb, cell?_of_heap (hbel.block b (hs.bnd b o hb))⟩) ?_
    have := plainL_names hcaps
    refine List.eq_nil_iff_forall_not_mem.2 fun j hj => ?_
    have := mem_namesL.2 ⟨p, List.mem_of_getElem? hp, hj⟩
    rw [plainL_names hcaps] at this; cases this
  · intro e w' hgp
    cases e with
    | outgrown => exact hgp.elim
    | panicked ch =>
      obtain ⟨pv, q, F', rfl, hrep, R', Γ', fr', st, pe, k1, _, k3, k4, _, _, _, _, hQ⟩ := hgp
      obtain ⟨B', hC', hs2⟩ := after w' k1 k3 k4 (.inl rfl)
      exact ⟨(), B', hC', R', Γ', _, .panic q, hs2, ⟨pv, rfl, hrep _ _ _⟩, hQ⟩
    | returned rv =>
    obtain ⟨s, F', hs', R', Γ', fr', st, pe, k1, _, k3, k4, _, _, hm⟩ := hgp
    refine ⟨st, pe, k3, ?_⟩
    obtain ⟨B', hC', hs2⟩ := after (w'.putObj (w.heap.size + 1) (.loop (loopRec fn a #[t] assign body w.heap.size .exhausted pe))) k1 k3 k4 (.inr ⟨_, rfl⟩)
    rcases hs' with rfl | rfl
    · obtain ⟨rfl, rfl, rfl⟩ := hm
      exact ⟨by simp, (), B', hC', R', Γ', _, .normal, hs2, trivial, hend fun e => by have := k1.len; rw [e] at this; simp at this; omega⟩
    · obtain ⟨rfl, c, x, rfl, hjx, hQ⟩ := hm
      refine ⟨by simp, ?_⟩
      cases c with
      | ret => cases x with
        | ret => exact ⟨(), B', hC', R', Γ', _, .ret, hs2, trivial, hQ⟩
        | _ => exact hjx.elim
      | exit id => cases x with
        | exit id' => exact ⟨(), B', hC', R', Γ', _, .exit id', hs2, hjx, hQ⟩
        | _ => exact hjx.elim
      | _ => cases x <;> exact hjx.elim
end
end Go.Qg

namespace Go.Qg
open Go.RowKit (Below)
def dmidE (P : Program) (N M k : Nat) (rs : List ResultVar) (c : Code) (x : Operand) (Q : Out → Prop) (fr : PF) : Prop :=
  ∃ gf ps caps M' news H A, rd fr x = .clo (.func gf) [] ps ∧ N ≤ M' ∧ ((List.range k).map (M + ·) ++ news).Nodup ∧ A.length = N ∧
    outF fr (tgtAt H ((List.range k).map (M + ·) ++ news) fun _ => false) 8 H ((List.range k).map (M + ·) ++ news) ∧
    (∀ i, i < N → vw fr (tgtAt H ((List.range k).map (M + ·) ++ news) fun _ => false) 8 (A.getD i .undef) (rd fr (.tmp i))) ∧
    vwAll (vw fr (tgtAt H ((List.range k).map (M + ·) ++ news) fun _ => false) 8) caps ps ∧ (∀ p ∈ caps, p.flat = true) ∧
    ∀ B0 : Base, B0.lo = M' → XW P N (ECtx B0) () c (fun _ => dpost P M' k rs gf caps Q) (frame0 M' A H)
section
variable {P : Program} {N M M' : Nat} {B : Base} {a a' : Act} {w w' : World} {R : Nat → Nat → Prop} {Γ : Nat → Option Loc} {fr : PF}
theorem callW_ofDE (hm : P.follows .mixedOrders = true) {f : FuncId} {fn : Func} {id : Nat} {o1 o2 : Oper} {c0 c2 : Code} {x : Operand} {ats : Array TypeId} (hf : P.funcs[f]? = some fn) (hname : (fn.name == "runtime.NumGoroutine") = false) (hb : fn.body = some (.seq c0 (.seq (.region id #[o1, o2] false) c2)))
    (ho : o2.op = .defer { callee := .value x, args := #[], argTypes := ats }) (hg : o2.guard = none) (hdst : o2.dst = none) {rs : List ResultVar} (hrs : fn.results.toList = rs) (hn : fn.ntmps = N) (hd0 : dstsIn N c0 = true) (hd1 : ∀ d, o1.dst = some d → d < N) (hd2 : dstsIn N c2 = true) {args : List PV} {H : PF} {Q : Out → Prop}
    (M : Nat) (hargs : args.length ≤ N) (hM : N ≤ M) (h : pwp P M c0 (thenP (pops P M [o1, o2] (dmidE P N M H.length rs c2 x Q) (fun _ _ => False) [o1]) (fun _ _ => False)) (frame0 M args H)) : CallW P f args H Q := by
  subst hrs hn
  refine ⟨fun vs w => ?_, fun w vs R Γ Prot hRp h0 hl hrep => ?_⟩
  · simp only [callFunc, Sem.run_bind, run_program, Result.andThen_ok, hf, hname, hb]
    rfl
  · have hsim := h0.enter hl hrep hargs hM
    refine calls_of_wr hf hb (wr_seq (wr_mono (pwp_sound (ro := none) hm rfl c0 _ _ _ w hd0 hsim.toE h) fun e a0 w0 ⟨R0, Γ0, fr0, x0, hs0, hu0, hq0⟩ => ?_))
    cases x0 with
    | normal =>
      cases e with
      | normal =>
        refine wr_seq (wr_region ?_)
        have hr1 : List.range (#[o1, o2] : Array Oper).size = [0, 1] := rfl
        rw [hr1]
        have hN : ∀ o ∈ [o1, o2], ∀ d, o.dst = some d → d < fn.ntmps := fun o ho d hd => by
          rcases List.mem_cons.1 ho with rfl | ho
          · exact hd1 d hd
          · obtain rfl := List.mem_singleton.1 ho
            rw [hdst] at hd; cases hd
        refine op_sound (all := [o1, o2]) (K := pops P M [o1, o2] (dmidE P fn.ntmps M H.length fn.results.toList c2 x Q) (fun _ _ => False) []) (Kp := fun _ _ => False) hs0.toE rfl hN rfl (fun _ _ _ _ _ _ _ _ _ hk => hk.elim) (fun _ _ hq => hq.elim) (k := 0) (o := o1) rfl hq0 (K' := fun a' w' => ∃ fr', SimE fn.ntmps (base0 Prot w R Γ M) a' w' fr' ∧ dmidE P fn.ntmps M H.length fn.results.toList c2 x Q fr') (fun a' w' fr' h1 h2 => ⟨fr', h1, h2⟩) [1] fun a1 w1 hq1 => ?_
        obtain ⟨fr1, ⟨R1, Γ1, hs1⟩, gf, ps, caps, M', news, Ho, A, hx, hM', hκ, hA, hout, hAv, hcaps, hflat, hrest⟩ := hq1
        have hgn : ∀ s ∈ (List.range H.length).map (M + ·) ++ news, (fun _ : Nat => false) s = false := fun _ _ => rfl
        generalize hκe : (List.range H.length).map (M + ·) ++ news = κ at hκ hout hAv hcaps hgn
        have hv := hs1.rd x
        rw [hx] at hv
        generalize hux : a1.eval x = ux at hv
        cases hv with
        | clo _ uf uc _ _ l1 l2 _ r2 =>
        obtain rfl : uf = [] := by simpa using l1
        have hex : (execOp a1.eval o2).run P w1 = .ok (.defer { target := .fn (.func gf) uc.toArray, args := #[] }) w1 := by
          simp only [execOp, ho, resolve, Deferred.ofValue, hux]
          simp [go_sem]
        refine OpR_wp (K := fun a' w' => a' = { a1 with defers := [{ target := .fn (.func gf) uc.toArray, args := #[] }] } ∧ w' = w1) (ops := #[o1, o2]) (o := o2) rfl (by simp [Region.wanted, hg]) (.inl rfl) (fun _ _ hq => hq.elim) ?_ [] fun a' w' ⟨ha', hw'⟩ => RegR_nil ?_
        · unfold Oper.wp
          rw [hex, Oper.upon_defer]
          refine ⟨?_, rfl⟩
          rw [hdst, hs1.defers]
          rfl
        · subst ha' hw'
          obtain ⟨hlend, hRp1⟩ := hs1.lend hout hκ hgn
          obtain ⟨_, hview⟩ := hs1.leave hout hκ hgn
          have hR1 : ∀ b o, freedAt R1 Γ1 (fun _ => false) b o → R1 b o := fun b o hb => by
            rcases hb with hb | ⟨s, m, hg, _⟩
            · exact hb
            · cases hg
          have hent := hlend.enter (N := fn.ntmps) (M := M') (vs := a1.tmps.toList) (args := A) (by simp [hA, hs1.size]) (fun i u q hu hq => by
            have hlt := lt_of_get? hq
            rw [hA] at hlt
            have hqA : A.getD i .undef = q := by simp [List.getD, hq]
            have h1 := hAv i hlt
            rw [hqA] at h1
            refine hview q _ u h1 ?_
            have h2 := hs1.rd (.tmp i)
            rw [Array.getElem?_toList] at hu
            have : a1.eval (.tmp i) = u := by simp [Act.eval, hu]
            rwa [this] at h2) (by simp [hA]) hM'
          have hact : ({ tmps := a1.tmps.toList.toArray ++ Array.replicate (fn.ntmps - a1.tmps.toList.toArray.size) undef, defers := [] } : Act) = { tmps := a1.tmps, defers := [] } := by
            have e1 : a1.tmps.toList.toArray = a1.tmps := Array.toArray_toList
            rw [e1, hs1.size]
            simp
          rw [hact] at hent
          have hs2 : Sim fn.ntmps ⟨Prot, w, R, fun i => if M' ≤ i then Γout Γ1 Ho κ (i - M') else none, M', [{ target := .fn (.func gf) uc.toArray, args := #[] }]⟩ (freedAt R1 Γ1 fun _ => false) (fun i => if M' ≤ i then Γout Γ1 Ho κ (i - M') else none) { a1 with defers := [{ target := .fn (.func gf) uc.toArray, args := #[] }] } w' (frame0 M' A Ho) := by
            refine hent.moved (fun b o _ => rfl) (fun i l b hi hb => rfl) (Nat.le_refl _) (fun i l b hi hb hp => ?_) (fun b o hb => ?_) hs1.kept hs1.prot hM' (fun j l hj hl => ⟨l, hl, Loc.le_refl l⟩) rfl rfl
            · skip
              split at hi
              · obtain ⟨s, m, _, hm', hmb⟩ := Γout_blk hi hb
                exact ((hs1.own s m hm').2 b hmb).1 hp
              · cases hi
            · exact hs1.sub b o (hR1 b o hb)
          generalize hB1 : (⟨Prot, w, R, fun i => if M' ≤ i then Γout Γ1 Ho κ (i - M') else none, M', [{ target := .fn (.func gf) uc.toArray, args := #[] }]⟩ : Base) = B1 at hs2
          have hB1D : B1.D = [{ target := .fn (.func gf) uc.toArray, args := #[] }] := by rw [← hB1]
          have hC : ECtx B1 () ⟨Prot, w, R, fun i => if M' ≤ i then Γout Γ1 Ho κ (i - M') else none, M', [{ target := .fn (.func gf) uc.toArray, args := #[] }]⟩ := by
            subst hB1
            exact ⟨rfl, fun _ x => x, Kept.refl _ _, fun b o hb => .inl hb, rfl, [], List.nodup_nil, rfl, fun r hr => by cases hr⟩
          have hprot : ProtOk B1.Prot B1.w0 := by subst hB1; exact h0.prot
          rw [hB1] at hC
          refine wr_mono (hrest B1 (by rw [← hB1]) B1 _ w' hC hs2.toE) fun e a2 w2 ⟨_, B', hC', R2, Γ2, g, x2, hs30, hu, hq⟩ => ?_
          have hs3 := hs30.ofE hC' hprot
          obtain ⟨_, _, _, _, _, ms, hms, hD', hmk⟩ := hC'
          rw [hB1D] at hD'
          have hΓ1 : ∀ j l, Γout Γ1 Ho κ j = some l → B1.Γ0 (M' + j) = some l := fun j l hl => by
            rw [← hB1]; dsimp only; rw [if_pos (by omega), Nat.add_sub_cancel_left]; exact hl
          have hlo1 : B1.lo = M' := by rw [← hB1]
          have hbase : ∀ {w2 : World}, Sim fn.ntmps { B1 with D := B'.D } R2 Γ2 a2 w2 g → ∀ j l, B1.Γ0 (M' + j) = some l → ∃ l', Γ2 (M' + j) = some l' ∧ Loc.le l l' := fun hs j l hl => hs.base (M' + j) l (by rw [show ({ B1 with D := B'.D } : Base).lo = M' from hlo1]; omega) hl
          have hcap : ∀ (w2 : World), Sim fn.ntmps { B1 with D := B'.D } R2 Γ2 a2 w2 g → ∀ (i : Nat) (u : Value) (q : PV), uc[i]? = some u → (renL (M' + ·) caps)[i]? = some q → Rep w2 R2 Γ2 u q := fun w2 hs3 i u q hu hq => by
            rw [renL_get] at hq
            simp only [Option.map_eq_some_iff] at hq
            obtain ⟨q0, hq0, rfl⟩ := hq
            obtain ⟨p0, hp0, hv0⟩ := vwAll_get hcaps i q0 hq0
            refine (hview q0 p0 u hv0 (r2 i u p0 hu hp0)).ren (.inl (hflat q0 (List.mem_of_getElem? hq0))) fun j _ l hl => ?_
            exact hbase hs3 j l (hΓ1 j l hl)
          have hlc : uc.length = (renL (M' + ·) caps).length := by rw [renL_length, vwAll_length hcaps]; exact l2
          have fin : ∀ (rv : Option Value) (rc : Option PV), (match rv, rc with | none, none => True | some v, some p => p.plain = true ∧ p.flat = true ∧ Rep w2 R2 Γ2 v p | _, _ => False) → dend P M' H.length fn.results.toList gf caps Q rc g → LeavesC P fn a2.tmps (Left Prot w R Γ Q) a2.defers (modeOf rv) w2 := by
            rintro rv rc hrv0 ⟨ιd, Hd, capsd, hιd, houtd, hcapsd, hdw, hdc⟩
            have hrv : ∀ w2 : World, match rv, rc with | none, none => True | some v, some p => p.plain = true ∧ p.flat = true ∧ Rep w2 R2 Γ2 v p | _, _ => False := fun w' => by
              cases rv with
              | none => cases rc with
                | none => trivial
                | some p => exact hrv0.elim
              | some v => cases rc with
                | none => exact hrv0.elim
                | some p => exact ⟨hrv0.1, hrv0.2.1, plain_rep hrv0.2.2 hrv0.1 hrv0.2.1 _ _ _⟩
            rw [hs30.defers, hD']
            refine marks_leave (by cases rv <;> simp [modeOf]) ms w2 { B1 with D := B'.D } hms (fun r hr => ?_) hs3 fun w2 hs3 => ?_
            · obtain ⟨h1, h2, h3⟩ := hmk r hr
              exact ⟨h2, (hs30.kept.block r h1).trans h3⟩
            have hrv := hrv w2
            have hcap := hcap w2 hs3
            have hgd : ∀ s ∈ ιd, (fun _ : Nat => false) s = false := fun _ _ => rfl
            obtain ⟨hlend3, hRp3⟩ := hs3.lend houtd hιd hgd
            obtain ⟨_, hview3⟩ := hs3.leave houtd hιd hgd
            refine ⟨by cases rv <;> simp [modeOf], .inr ⟨.func gf, uc.toArray, gf, uc.toArray, rfl, ?_, ?_⟩⟩
            · simp [invoke, go_sem, hdw]
            · refine (hdc w2 uc _ _ _ rv hRp3 hlend3 ?_ (fun i u q hu hq => ?_) ?_).mono ?_
              · rw [hlc, vwAll_length hcapsd]
              · obtain ⟨p, hp, hv⟩ := vwAll_get hcapsd i q hq
                exact hview3 q p u hv (hcap i u p hu hp)
              · cases rv with
                | none => cases rc with
                  | none => trivial
                  | some p => exact hrv.elim
                | some v => cases rc with
                  | none => exact hrv.elim
                  | some p =>
                    obtain ⟨hp1, hp2, hr⟩ := hrv
                    have := Rep.ren (π := fun i => i) (R' := freedAt R2 Γ2 fun _ => false) (w' := w2) (Γ' := Γout Γ2 Hd ιd) hr (.inl hp2) (fun j hj => by rw [plain_names hp1] at hj; cases hj)
                    rwa [ren_plain hp1] at this
              · rintro e u' w3 ⟨⟨v, rfl⟩, rfl, R3, Γ3, H3, ⟨hl3, xr, r, H2, news2, hpr, hlv, hQ⟩, hs4, hobj⟩
                have hset : settle (modeRec rv) = .returning := by cases rv <;> rfl
                show LeavesC P fn a2.tmps _ [] (settle (modeRec rv)) w3
                rw [hset]
                obtain ⟨hm1, _⟩ := hs3.merge (news := []) houtd hs4 (by simpa using hιd) (by simpa using hl3) (fun s hs => by cases hs) (.inl fun _ => rfl) hobj
                have eback : placeAll ((ιd ++ []).getD · 0) (ιd ++ []) H3 g = back g ιd H3 := by simp only [List.append_nil]; rfl
                rw [eback] at hm1
                obtain ⟨v, hv, hrv⟩ := presults_sound (P := P) hm1 fn hpr
                refine ⟨v, hv, ?_⟩
                obtain ⟨hn2, hout2, hv2⟩ := hlv
                obtain ⟨h1, h2⟩ := hm1.leave hout2 hn2 (fun s hs => by have := List.contains_iff_mem.2 hs; show (!_) = false; rw [this]; rfl)
                subst hB1
                refine ⟨_, _, .inl ⟨v, r, H2, rfl, hQ, h2 r xr v hv2 hrv, h1.rebase fun j l hjl => ?_, fun q hq => ?_⟩⟩
                · obtain ⟨⟨p, hp, _⟩, _⟩ := h0.own j l hjl
                  have hj := lt_of_get? hp
                  have hb : (base0 Prot w R Γ M).Γ0 (M + j) = some l := by
                    simp only [base0]
                    rw [if_pos (by omega), Nat.add_sub_cancel_left]; exact hjl
                  obtain ⟨l1, e1, e2⟩ := hs1.base (M + j) l (Nat.le_add_right _ _) hb
                  have hκ1 : κ[j]? = some (M + j) := by
                    rw [← hκe, List.getElem?_append_left (by simpa using hj)]; exact range_get M hj
                  obtain ⟨l2, e3, e4⟩ := Γout_le hs1 hout hκ1 e1
                  obtain ⟨l3, e5, e6⟩ := hm1.base (M' + j) l2 (Nat.le_add_right _ _) (hΓ1 j l2 e3)
                  have hκ2 : ((List.range H.length).map (M' + ·) ++ news2)[j]? = some (M' + j) := by
                    rw [List.getElem?_append_left (by simpa using hj)]; exact range_get M' hj
                  obtain ⟨l4, e7, e8⟩ := Γout_le hm1 hout2 hκ2 e5
                  exact ⟨l4, e7, Loc.le_trans e2 (Loc.le_trans e4 (Loc.le_trans e6 e8))⟩
                · obtain ⟨i, hi⟩ := List.mem_iff_getElem?.1 hq
                  obtain ⟨s, p, _, _, hbare, _⟩ := outF_get hout2 i q hi
                  cases q <;> first | rfl | cases hbare
          cases e with
          | ret => cases x2 with
            | ret => exact fin none none trivial hq
            | _ => exact hu.elim
          | normal => cases x2 with
            | normal => exact fin none none trivial hq
            | _ => exact hu.elim
          | panic ch => cases x2 with
            | panic p =>
              obtain ⟨v, rfl, hrv⟩ := hu
              obtain ⟨hp1, hp2, hq⟩ := hq
              exact fin (some v) (some p) ⟨hp1, hp2, hrv⟩ hq
            | _ => exact hu.elim
          | exit id => cases x2 with
            | exit id' => exact hq.elim
            | _ => exact hu.elim
          | goto id => cases x2 with
            | goto id' => exact hq.elim
            | _ => exact hu.elim
          | outgrown => cases x2 <;> exact hu.elim
      | _ => exact hu0.elim
    | _ => exact hq0.elim
end
end Go.Qg

namespace Go.Qg
open Go.RowKit (Below)
def GenW1 (P : Program) (gf : FuncId) (first caps els : List PV) : Prop :=
  (∀ (args : Array Value) (w : World), (callFunc gf args).run P w = .ok (.enter gf args) w) ∧
  ∀ (w : World) (us vs : List Value) (R : Nat → Nat → Prop) (Rb : Nat → Prop) (l : Nat) (J : GS → (Nat → Prop) → World → Prop) (F0 : Nat → Prop), (∀ b o, R b o → b < w.heap.size) → ProtOk Rb w → Env P l els Rb J → J (.on 0) F0 w → us.length = first.length → vs.length = caps.length →
    (∀ (i : Nat) (u : Value) (p : PV), us[i]? = some u → first[i]? = some p → Rep w R (fun _ => none) u p) →
    (∀ (i : Nat) (u : Value) (p : PV), vs[i]? = some u → caps[i]? = some p → Rep w R (fun _ => none) u p) →
    Calls P gf (us.toArray ++ #[.func (.yield l) #[] #[]] ++ vs.toArray) w (genPost els J)
section
variable {P : Program} {N M M' : Nat} {B B0 B2 : Base} {a a' : Act} {w w' : World} {R R00 : Nat → Nat → Prop} {Γ : Nat → Option Loc} {fr : PF} {Q : Unit → PX → PF → Prop} {κ : List Nat} {l D : Nat} {rec : LoopState → Option Code → Loop} {V : Nat → PF} {els : List PV}
theorem Sim.dry (h : Sim N B R Γ a w fr) (hd : (fr.all fun p => p.plain && p.flat) = true) (hp : ∀ b, B2.Prot b → B.Prot b) (hT : ∀ b, isTab b → B2.Prot b) (hw : B2.w0 = B.w0) (hD : B2.D = B.D) (hlo : B2.lo = B.lo) (hΓ : ∀ j, B2.Γ0 j = none) : Sim N B2 (fun _ _ => False) (fun _ => none) a w fr := by
  refine ⟨h.size, h.len, fun t p ht => ?_, fun i j l m b hi => (by cases hi), fun i l hi => (by cases hi), fun b o hb => hb.elim, fun b o hb => hb.elim, hw ▸ h.kept.mono hp, hw ▸ h.prot.go (fun b hb => h.prot b (hp b hb)) (fun b hb _ => hT b hb) (fun _ _ _ => rfl), hlo ▸ h.lo, fun j l _ hl => (by rw [hΓ] at hl; cases hl), hD ▸ h.defers⟩
  have hpd := List.all_eq_true.1 hd p (List.mem_of_getElem? ht)
  simp only [Bool.and_eq_true] at hpd
  have hs := h.slot t p ht
  have ho := plain_obj hpd.1
  have hr := plain_rep (SlotRep.val ho hs) hpd.1 hpd.2 w (fun _ _ => False) (fun _ => none)
  cases p <;> first | exact hr | cases ho
theorem gen_of1 (hm : P.follows .mixedOrders = true) {f : FuncId} {fn : Func} {c0 c1 : Code} (hf : P.funcs[f]? = some fn) (hname : (fn.name == "runtime.NumGoroutine") = false) (hb : fn.body = some (.seq c0 c1)) (hrs : fn.results = #[]) (hn : fn.ntmps = N) (hd0 : dstsIn N c0 = true) {first caps : List PV} (S : Nat) (hargs : first.length + (caps.length + 1) ≤ N)
    (h : ∀ (l : Nat) (Rb : Nat → Prop) (J : GS → (Nat → Prop) → World → Prop), Env P l els Rb J → pwp P (N + S) c0 (thenP (fun fr => ∃ g : PF, less (N + S) fr g ∧ (g.all fun p => p.plain && p.flat) = true ∧
      XW P N (GCtx (N + S) Rb J) (.on 0) c1 (fun s x _ => (x = .normal ∨ x = .ret) ∧ (s = .on els.length ∨ s = .off) ∨ ∃ p, s = .pan p ∧ x = .panic p) g) (fun _ _ => False)) (frame0 (N + S) (first ++ (.clo (.yield l) [] [] :: caps)) [])) : GenW1 P f first caps els := by
  subst hn
  refine ⟨fun vs w => ?_, fun w us vs R Rb l J F0 hR hRb henv hJ hlu hl hrepu hrep => ?_⟩
  · simp only [callFunc, Sem.run_bind, run_program, Result.andThen_ok, hf, hname, hb]
    rfl
  · have h0 : Sim 0 ⟨fun b => F0 b ∨ Rb b ∨ ∃ o, R b o, w, R, fun _ => none, 0, []⟩ R (fun _ => none) noAct w [] :=
      ⟨rfl, Nat.zero_le _, fun t p hp => (by simp at hp), fun i j l m b hi => (by cases hi), fun i l hi => (by cases hi), hR, fun b o hb => .inl hb, Kept.refl _ _, hRb.go (fun b hb => hb.elim (henv.bnd _ _ _ _ hJ) fun h => h.elim (hRb b) fun ⟨o, h⟩ => hR b o h) (fun b _ hb => .inr (.inl hb)) (fun _ _ _ => rfl), Nat.le_refl _, fun j l _ hl => (by cases hl), rfl⟩
    have hsim := h0.enter (N := fn.ntmps) (M := fn.ntmps + S) (vs := us ++ (.func (.yield l) #[] #[] :: vs)) (args := first ++ (.clo (.yield l) [] [] :: caps)) (by simp [hl, hlu]) (fun i u p hu hp => by
      by_cases hi : i < us.length
      · rw [List.getElem?_append_left hi] at hu
        rw [List.getElem?_append_left (by omega)] at hp
        exact hrepu i u p hu hp
      · rw [List.getElem?_append_right (by omega)] at hu
        rw [List.getElem?_append_right (by omega), ← hlu] at hp
        generalize i - us.length = i at hu hp
        cases i with
        | zero =>
          simp only [List.getElem?_cons_zero, Option.some.injEq] at hu hp
          subst hu hp
          exact .clo _ [] [] [] [] rfl rfl (fun i u p hi => by simp at hi) (fun i u p hi => by simp at hi)
        | succ i => exact hrep i u p (by simpa using hu) (by simpa using hp)) (by simpa using hargs) (Nat.le_add_right _ _)
    have ea : (us.toArray ++ #[Value.func (.yield l) #[] #[]] ++ vs.toArray) = (us ++ (Value.func (.yield l) #[] #[] :: vs)).toArray := by simp
    rw [ea]
    refine calls_of_wr hf hb (wr_seq (wr_mono (pwp_sound (ro := none) hm rfl c0 _ _ _ w hd0 hsim.toE (h l Rb J henv)) fun e0 a0 w0 ⟨R0, Γ0, fr0, x0, hs0, hu0, hq0⟩ => ?_))
    cases x0 with
    | normal =>
      cases e0 with
      | normal =>
        obtain ⟨g, hless, hdry, hx⟩ := hq0
        have hs1 := weak_R hs0 hless
        have hs2 : Sim fn.ntmps ⟨fun b => F0 b ∨ Rb b, w, fun _ _ => False, fun _ => none, fn.ntmps + S, []⟩ (fun _ _ => False) (fun _ => none) a0 w0 g := hs1.dry hdry (fun b hb => hb.imp_right .inl) (fun b hb => .inr (hRb.isP hb)) rfl rfl rfl (fun _ => rfl)
        refine wr_mono (hx ⟨fun b => F0 b ∨ Rb b, w, fun _ _ => False, fun _ => none, fn.ntmps + S, []⟩ a0 w0 ⟨rfl, rfl, F0, hJ, fun b hb => .inl hb, fun b hb => .inr hb, fun b o hb => hb.elim⟩ hs2.toE) fun e a w' ⟨s, B, ⟨hlo, hD, F, hJ', hF, _, _⟩, R', Γ', fr, x, hs, hu, hx⟩ => ?_
        have hJ2 : J s F w' := henv.stab _ _ _ _ hJ' (fun b hb => hs.kept.block b (hF b hb)) hs.kept.size hs.kept.os hs.kept.tape hs.kept.output
        rcases hx with ⟨hx, hs'⟩ | ⟨p, rfl, rfl⟩
        · have fin : LeavesC P fn a.tmps (genPost els J) a.defers .returning w' := by
            rw [hs.defers, hD]
            refine ⟨.tuple #[], ?_, s, F, hs', hJ2⟩
            simp [results, hrs]
          rcases hx with rfl | rfl
          · cases e with
            | normal => exact fin
            | _ => exact hu.elim
          · cases e with
            | ret => exact fin
            | _ => exact hu.elim
        · cases e with
          | panic ch =>
            obtain ⟨v, rfl, hr⟩ := hu
            obtain ⟨p1, p2⟩ := henv.pan p F w' hJ2
            show LeavesC P fn a.tmps (genPost els J) a.defers _ w'
            rw [hs.defers, hD]
            exact ⟨v, p, F, rfl, plain_rep hr p1 p2, hJ2⟩
          | _ => exact hu.elim
      | _ => exact hu0.elim
    | _ => exact hq0.elim
theorem XW_range1 (hN : 0 < N) (hmx : P.follows .mixedOrders = true) {g : Operand} {t : Tmp} {assign body : Code} {gf : FuncId} {caps els : List PV} {first : List PV} (hg : rd fr g = .clo (.func gf) first caps) (firstd capsd : List PV) (hfv : vwAll (vw fr (tgtAt [] [] fun _ => true) 8) firstd first) (hcv : vwAll (vw fr (tgtAt [] [] fun _ => true) 8) capsd caps) (hfirst : plainL firstd = true) (hcaps : plainL capsd = true) (hgen : GenW1 P gf firstd capsd els) (hels : ∀ p ∈ els, p.plain = true ∧ p.flat = true)
    (hda : dstsIn N assign = true) (hdb : dstsIn N body = true) (M' : Nat) (hM' : N ≤ M') (κ : List Nat) (hκ : κ.Nodup) (V : Nat → PF) (A : Nat → List PV) (H : Nat → PF) (h0 : less B0.lo fr (V 0))
    (hview : ∀ n, n < els.length → V n ≠ [] → (A n).length = N ∧ outF (V n) (tgtAt (H n) κ fun _ => false) 8 (H n) κ ∧ ∀ i, i < N → i ≠ t → vw (V n) (tgtAt (H n) κ fun _ => false) 8 ((A n).getD i .undef) (rd (V n) (.tmp i)))
    (hround : ∀ n p, els[n]? = some p → V n ≠ [] → pwp P M' assign (thenP (pwp P M' body (rend B0.lo M' κ (V n) (V (n + 1)) Q)) (fun _ _ => False)) (frame0 M' ((A n).set t p) (H n)))
    (hend : V els.length ≠ [] → Q () .normal (V els.length)) : XW P N (ECtx B0) () (.rangeFunc g #[t] assign body) Q fr := fun B a w hC ⟨R, Γ, hs⟩ => by
  have hlo := hC.1
  have hgv := hs.rd g
  rw [hg] at hgv
  generalize hu : a.eval g = u at hgv
  cases hgv with
  | clo _ uf uc _ _ l1 l2 r1 r2 =>
  refine wr_rangeF hu hgen.1 fun fn => ?_
  generalize hW1 : (w.alloc (.deferred (some []))).alloc (.loop (loopRec fn a #[t] assign body w.heap.size .ready none)) = W1
  have hbel : Below w.heap.size w W1 := by
    rw [← hW1]; exact (((Below.refl _ w).alloc (Nat.le_refl _) _).alloc (by simp) _)
  have hl1 : W1.heap[w.heap.size + 1]? = some (.loop (loopRec fn a #[t] assign body w.heap.size .ready none)) := by
    rw [← hW1]; have := World.alloc_heap_new (w.alloc (.deferred (some []))) (.loop (loopRec fn a #[t] assign body w.heap.size .ready none)); rwa [World.size_alloc] at this
  have hD1 : W1.heap[w.heap.size]? = some (.deferred (some [])) := by
    rw [← hW1]; exact (Below.heap_alloc _ _ _ (by simp)).trans (World.alloc_heap_new w _)
  have hw1 := weak_R hs (by rw [hlo]; exact h0)
  have hs1 := hw1.grown hbel _ (fun _ _ x => x) (fun _ _ x => .inl x)
  have hBl : ∀ b, B.Prot b → b < w.heap.size := fun b hb => Nat.lt_of_lt_of_le (hs.prot b hb) hs.kept.size
  have henv : Env P (w.heap.size + 1) els (fun b => (∃ o, R b o) ∨ isTab b) (LoopJ N B a (w.heap.size + 1) w.heap.size (loopRec fn a #[t] assign body w.heap.size) R V Q) := by
    refine ⟨fun b hb => .inr hb, fun s F W b hJ hb => ?_, fun s F W W' hJ hF hsz ho ht hou => ?_, fun p F W hJ => ?_, fun n F W v p Ra Γa hJ hel hv => ?_⟩
    · obtain ⟨R, Γ, fr, st, pe, k1, rfl, k3, k4, _⟩ := hJ
      exact foot_bnd k1 k3 k4 hb
    · obtain ⟨R, Γ, fr, st, pe, k1, rfl, k3, k4, k5⟩ := hJ
      exact ⟨R, Γ, fr, st, pe, foot_stay k1 hF hsz ho ht hou, rfl, (hF _ (.inr (.inr (.inr (.inl rfl))))).trans k3, (hF _ (.inr (.inr (.inr (.inr rfl))))).trans k4, k5⟩
    · obtain ⟨R, Γ, fr, st, pe, _, _, _, _, _, _, k7, k8, _⟩ := hJ
      exact ⟨k7, k8⟩
    · obtain ⟨R', Γ', fr', st, pe, k1, rfl, k3, k4, k5, k6, rfl, rfl, rfl⟩ := hJ
      have hlt := lt_of_get? hel
      have hV : V n ≠ [] := fun e => by have := k1.len; rw [e] at this; simp at this; omega
      obtain ⟨v1, v2, v3⟩ := hview n hlt hV
      have hy : (Instr.yield (w.heap.size + 1) #[v]).run P W = .ok (.round (w.heap.size + 1) fn (a.tmps.setIfInBounds t v) assign body) W := by
        have := run_yield (P := P) (args := #[v]) k3 rfl
        simpa [loopRec] using this
      refine ⟨_, _, _, _, hy, fun c cs => ?_⟩
      obtain ⟨e, W2, ⟨R2, Γ2, fr2, st2, pe2, q2, q3, q4, q5, q6, q7, q8, q9⟩, hsteps⟩ := round_sound (l := w.heap.size + 1) (D := w.heap.size) (R00 := R) hmx hda hdb hM' hκ (p := p) (v := v) (Q := Q) (next := V (n + 1)) k1 ⟨by simp, fun b hb => Nat.lt_succ_of_lt (hBl b hb)⟩ rfl k3 k4 (by omega) k6 k5 v2 v1 v3 (hels p (List.mem_of_getElem? hel)) hv (by rw [hlo]; exact hround n p hel hV) c cs
      refine ⟨e, W2, ⟨foot B R2 Γ2 (w.heap.size + 1) w.heap.size, ?_, q7, ⟨q8.os, q8.tape, q8.output, q8.size, fun x hx => by
        rcases hx.2 with h | ⟨o, ho⟩ | h
        · exact q8.block x ⟨hx.1, .inl h⟩
        · exact q8.block x ⟨hx.1, .inr ⟨o, k5 x o ho⟩⟩
        · exact (q2.kept.block x (k1.prot.isP h)).trans (k1.kept.block x (k1.prot.isP h)).symm⟩⟩, hsteps⟩
      cases e with
      | outgrown => exact q9.elim
      | panicked ch =>
        obtain ⟨pv, q, e1, e2, e3, e4, e5⟩ := q9
        exact ⟨pv, q, e1, e2, R2, Γ2, fr2, st2, pe2, q2, rfl, q3, q4, q5, q6, e3, e4, e5⟩
      | returned ret =>
        obtain ⟨b, e1, q9⟩ := q9
        refine ⟨b, e1, ?_⟩
        cases b with
        | true => exact ⟨R2, Γ2, fr2, st2, pe2, q2, rfl, q3, q4, q5, q6, q9⟩
        | false => exact ⟨R2, Γ2, fr2, st2, pe2, q2, rfl, q3, q4, q5, q6, q9⟩
  have hJ0 : LoopJ N B a (w.heap.size + 1) w.heap.size (loopRec fn a #[t] assign body w.heap.size) R V Q (.on 0) (foot B (freed R Γ (V 0)) (Γof Γ (V 0)) (w.heap.size + 1) w.heap.size) W1 := by
    refine ⟨_, _, V 0, .ready, none, hs1, rfl, hl1, hD1, fun b o hb => .inl hb, fun o ho => ?_, rfl, rfl, rfl⟩
    rcases ho with ho | ⟨s, m, _, hm, hmb⟩
    · have := hs.bnd _ o ho; omega
    · have := ((hs.own s m hm).2 _ hmb).2.1; omega
  have after : ∀ {R' : Nat → Nat → Prop} {Γ' : Nat → Option Loc} {fr' : PF} {w' : World} {rc : Loop} (w2 : World), Sim N B R' Γ' a w' fr' → w'.heap[w.heap.size + 1]? = some (.loop rc) → w'.heap[w.heap.size]? = some (.deferred (some [])) → (w2 = w' ∨ ∃ rc', w2 = w'.putObj (w.heap.size + 1) (.loop rc')) →
      ∃ B', ECtx B0 () B' ∧ Sim N B' R' Γ' { a with defers := { target := .collected w.heap.size, args := #[] } :: a.defers } w2 fr' := by
    intro R' Γ' fr' w' rc w2 k1 k3 k4 hw2
    obtain ⟨c1, c2, c3, c4, c5, ms, hms, hDs, hm⟩ := hC
    have hlt := (Array.getElem?_eq_some_iff.1 k3).1
    have z1 : ∀ k, k ≠ w.heap.size + 1 → w2.heap[k]? = w'.heap[k]? := fun k hk => by
      rcases hw2 with rfl | ⟨rc', rfl⟩
      · rfl
      · exact World.putObj_heap_other hk
    have z2 : w2.heap.size = w'.heap.size := by
      rcases hw2 with rfl | ⟨rc', rfl⟩
      · rfl
      · simp
    have z3 : w2.os = w'.os ∧ w2.tape = w'.tape ∧ w2.output = w'.output := by
      rcases hw2 with rfl | ⟨rc', rfl⟩ <;> exact ⟨rfl, rfl, rfl⟩
    have z4 : ∀ b o, w2.cell? ⟨b, o, none⟩ = w'.cell? ⟨b, o, none⟩ := fun b o => by
      rcases hw2 with rfl | ⟨rc', rfl⟩
      · rfl
      · exact cell_putObj k3 (by simp) (by simp)
    refine ⟨⟨fun b => B.Prot b ∨ b = w.heap.size, w2, R', B.Γ0, B.lo, { target := .collected w.heap.size, args := #[] } :: B.D⟩, ⟨c1, fun b hb => .inl (c2 b hb), ?_, fun b o hb => ?_, c5, w.heap.size :: ms, ?_, by rw [hDs]; rfl, fun r hr => ?_⟩, ?_⟩
    · refine (c3.trans (k1.kept.mono c2)).trans ⟨z3.1, z3.2.1, z3.2.2, Nat.le_of_eq z2.symm, fun k hk => z1 k fun e => ?_⟩
      have := hBl k (c2 k hk)
      omega
    · rcases k1.sub b o hb with h1 | h1
      · exact c4 b o h1
      · exact .inr fun hp => h1 (c2 b hp)
    · refine List.nodup_cons.2 ⟨fun hin => ?_, hms⟩
      have := hBl _ (hm _ hin).1
      omega
    · rcases List.mem_cons.1 hr with rfl | hr
      · refine ⟨.inr rfl, fun hp => ?_, (z1 _ (by omega)).trans k4⟩
        have := hBl _ (c2 _ hp)
        omega
      · obtain ⟨h1, h2, h3⟩ := hm r hr
        refine ⟨.inl h1, h2, ?_⟩
        have hrl := hBl r h1
        exact (z1 _ (by omega)).trans ((k1.kept.block r h1).trans h3)
    · refine k1.moved (fun b o _ => z4 b o) (fun i m b hi hb => z1 b fun e => k1.not_own k3 (by simp) (by simp) hi (e ▸ hb)) (Nat.le_of_eq z2.symm) (fun i m b hi hb hp => ?_) (fun b o hb => .inl hb) (Kept.refl _ _) (k1.prot.go (fun b hb => ?_) (fun b _ hb => .inl hb) fun b _ hb => (z1 b (by have := hBl b hb; omega)).trans (k1.kept.block b hb)) k1.lo k1.base rfl (by rw [k1.defers])
      · rcases hp with hp | rfl
        · exact ((k1.own i m hi).2 b hb).1 hp
        · exact k1.not_own k4 (by simp) (by simp) hi hb
      · rcases hb with hb | rfl
        · have := hBl b hb
          simp only
          have := k1.kept.size
          omega
        · simp only
          omega
  obtain ⟨_, hvw⟩ := hs.leave (f := fr) (H := []) (κ := []) (gone := fun _ => true) trivial List.nodup_nil (fun s hs => by cases hs)
  have hR1 : ∀ b o, freedAt R Γ (fun _ => true) b o → b < w.heap.size := fun b o hb => by
    rcases hb with hb | ⟨s, m, _, hm, hmb⟩
    · exact hs.bnd b o hb
    · exact ((hs.own s m hm).2 b hmb).2.1
  have side : ∀ {qs ps : List PV} {us : List Value}, vwAll (vw fr (tgtAt [] [] fun _ => true) 8) qs ps → plainL qs = true → (∀ (i : Nat) (u : Value) (p : PV), us[i]? = some u → ps[i]? = some p → Rep w R Γ u p) → ∀ (i : Nat) (u : Value) (q : PV), us[i]? = some u → qs[i]? = some q → Rep W1 (freedAt R Γ fun _ => true) (fun _ => none) u q := fun hv hpl hr i u q hu hq => by
    obtain ⟨p, hp, hv⟩ := vwAll_get hv i q hq
    refine (hvw q p u hv (hr i u p hu hp)).free (fun b o hb => ⟨hb, cell?_of_heap (hbel.block b (hR1 b o hb))⟩) ?_
    refine List.eq_nil_iff_forall_not_mem.2 fun j hj => ?_
    have := mem_namesL.2 ⟨q, List.mem_of_getElem? hq, hj⟩
    rw [plainL_names hpl] at this; cases this
  refine (hgen.2 W1 uf uc (freedAt R Γ fun _ => true) (fun b => (∃ o, R b o) ∨ isTab b) (w.heap.size + 1) _ _ (fun b o hb => Nat.lt_of_lt_of_le (hR1 b o hb) hbel.size) (hs.prot.go (fun b hb => hb.elim (fun ⟨o, hb⟩ => Nat.lt_of_lt_of_le (hs.bnd b o hb) hbel.size) fun hb => Nat.lt_of_lt_of_le (hBl b (hs.prot.isP hb)) hbel.size) (fun b hb _ => .inr hb) fun b _ hb => (hbel.block b (hBl b hb)).trans (hs.kept.block b hb)) henv hJ0 (l1.trans (vwAll_length hfv).symm) (l2.trans (vwAll_length hcv).symm) (side hfv hfirst r1) (side hcv hcaps r2)).mono ?_
  · intro e w' hgp
    cases e with
    | outgrown => exact hgp.elim
    | panicked ch =>
      obtain ⟨pv, q, F', rfl, hrep, R', Γ', fr', st, pe, k1, _, k3, k4, _, _, _, _, hQ⟩ := hgp
      obtain ⟨B', hC', hs2⟩ := after w' k1 k3 k4 (.inl rfl)
      exact ⟨(), B', hC', R', Γ', _, .panic q, hs2, ⟨pv, rfl, hrep _ _ _⟩, hQ⟩
    | returned rv =>
    obtain ⟨s, F', hs', R', Γ', fr', st, pe, k1, _, k3, k4, _, _, hm⟩ := hgp
    refine ⟨st, pe, k3, ?_⟩
    obtain ⟨B', hC', hs2⟩ := after (w'.putObj (w.heap.size + 1) (.loop (loopRec fn a #[t] assign body w.heap.size .exhausted pe))) k1 k3 k4 (.inr ⟨_, rfl⟩)
    rcases hs' with rfl | rfl
    · obtain ⟨rfl, rfl, rfl⟩ := hm
      exact ⟨by simp, (), B', hC', R', Γ', _, .normal, hs2, trivial, hend fun e => by have := k1.len; rw [e] at this; simp at this; omega⟩
    · obtain ⟨rfl, c, x, rfl, hjx, hQ⟩ := hm
      refine ⟨by simp, ?_⟩
      cases c with
      | ret => cases x with
        | ret => exact ⟨(), B', hC', R', Γ', _, .ret, hs2, trivial, hQ⟩
        | _ => exact hjx.elim
      | exit id => cases x with
        | exit id' => exact ⟨(), B', hC', R', Γ', _, .exit id', hs2, hjx, hQ⟩
        | _ => exact hjx.elim
      | _ => cases x <;> exact hjx.elim
end
end Go.Qg

namespace Go.Qg
theorem pd_call {P : Program} {o : Oper} {fr : PF} {c : Call} {f : FuncId} {ps : List PV} {r : PV} {H2 : PF} {k : List Nat → PF → Prop} (h : CallW P f ps [] fun out => out = .ret r H2) (news : List Nat) (hp : pcallee P fr c = some (f, ps)) (hno : noObj o.dst fr = true) (hnm : namesL ps = [])
    (hb : backOk fr [] news H2) (hd : ∀ d, o.dst = some d → d ∉ news) (hk : k news (put o.dst (backV news r) (back fr news H2))) : pdCall P o c fr k := by
  unfold pdCall
  rw [hp]
  exact ⟨hno, false, ps, r, H2, news, .inl ⟨rfl, rfl, hnm⟩, .inl rfl, h, hb, hd, hk⟩
theorem pop_callF {P : Program} {M : Nat} {K : PF → Prop} {Kp : PV → PF → Prop} {o : Oper} {fr : PF} {c : Call} {f : FuncId} {ps qs : List PV} {H : PF} {Q : Out → Prop} (V : List (Nat × PV)) (hg : less M fr (apply V fr)) (h : CallW P f qs H Q) (hp : pcallee P (apply V fr) c = some (f, ps)) (ι : List Nat) (md : Bool) (hι : ι.Nodup)
    (ho : outF (apply V fr) (lentTgt H ι md) 8 H ι) (ha : argsOk (apply V fr) (lentTgt H ι md) qs ps)
    (hk : ∀ out, Q out → match out with
      | .ret r H2 => ∃ news, backOk (apply V fr) ι news H2 ∧ (md = false ∨ (flatL H2 && r.flat) = true) ∧ pclear o.dst (backV (ι ++ news) r) (back (apply V fr) (ι ++ news) H2) = true ∧ K (put o.dst (backV (ι ++ news) r) (back (apply V fr) (ι ++ news) H2))
      | .pan p H2 => ∃ news, backOk (apply V fr) ι news H2 ∧ (md = false ∨ (flatL H2 && p.flat) = true) ∧ Kp (backV (ι ++ news) p) (back (apply V fr) (ι ++ news) H2)) : popCall P M K Kp o c fr :=
  pop_callG (apply V fr) hg h hp ι md hι ho ha hk
theorem pop_specF {P : Program} {M : Nat} {K : PF → Prop} {Kp : PV → PF → Prop} {o : Oper} {fr : PF} {c : Call} {f : FuncId} {ps qs : List PV} {r : PV} (V : List (Nat × PV)) (hg : less M fr (apply V fr)) (h : Spec P f qs r) (hp : pcallee P (apply V fr) c = some (f, ps)) (md : Bool) (ha : argsOk (apply V fr) (lentTgt [] [] md) qs ps) (hfl : md = false ∨ r.flat = true)
    (hn : r.names = []) (hcl : pclear o.dst r (apply V fr) = true) (hK : K (put o.dst r (apply V fr))) : popCall P M K Kp o c fr :=
  pop_specG (apply V fr) hg h hp md ha hfl hn hcl hK
theorem popLess_of {P : Program} {M : Nat} {o : Oper} {fr : PF} {K : PF → Prop} {fr' : PF} (V : List (Nat × PV)) (hg : less M fr (apply V fr)) (hs : pstep P o (apply V fr) = some fr') (hK : K fr') : popLess P M o fr K := ⟨_, _, hg, hs, hK⟩
def keysI (d : List Int) : List PV := d.map fun x => .v (.int .i64 x)
def trues (d : List Int) : List PV := d.map fun _ => .v (.bool true)
@[simp] theorem keysI_length (d : List Int) : (keysI d).length = d.length := by simp [keysI]
@[simp] theorem trues_length (d : List Int) : (trues d).length = d.length := by simp [trues]
@[simp] theorem keysI_nil : keysI [] = [] := rfl
@[simp] theorem trues_nil : trues [] = [] := rfl
theorem keysI_plain (d : List Int) : plainL (keysI d) = true := by
  induction d with
  | nil => rfl
  | cons x d ih => simpa [keysI, plainL, PV.plain] using ih
theorem trues_plain (d : List Int) : plainL (trues d) = true := by
  induction d with
  | nil => rfl
  | cons x d ih => simpa [trues, plainL, PV.plain] using ih
@[simp] theorem keysI_names (d : List Int) : namesL (keysI d) = [] := plainL_names (keysI_plain d)
@[simp] theorem trues_names (d : List Int) : namesL (trues d) = [] := plainL_names (trues_plain d)
@[simp] theorem keysI_ren (π : Nat → Nat) (d : List Int) : renL π (keysI d) = keysI d := renL_plain (keysI_plain d)
@[simp] theorem trues_ren (π : Nat → Nat) (d : List Int) : renL π (trues d) = trues d := renL_plain (trues_plain d)
@[simp] theorem keysI_vw (f : PF) (T : Tgt) (e : Nat) (d : List Int) : vwAll (vw f T e) (keysI d) (keysI d) = True := eq_true (vwAll_plain (keysI_plain d))
@[simp] theorem trues_vw (f : PF) (T : Tgt) (e : Nat) (d : List Int) : vwAll (vw f T e) (trues d) (trues d) = True := eq_true (vwAll_plain (trues_plain d))
@[simp] theorem keysI_flat (d : List Int) : flatL (keysI d) = true := by
  induction d with
  | nil => rfl
  | cons x d ih => simpa [keysI, flatL, PV.flat] using ih
@[simp] theorem trues_flat (d : List Int) : flatL (trues d) = true := by
  induction d with
  | nil => rfl
  | cons x d ih => simpa [trues, flatL, PV.flat] using ih
def dfind (d : List Int) (x : Int) : Nat → Option Nat := fun j => match d with
  | [] => none
  | y :: d => if x == y then some j else dfind d x (j + 1)
theorem pkfind_ints {P : Program} {t : TypeId} (ht : (tint P t).isSome = true) (d : List Int) (x : Int) : ∀ j, pkfind P t (.v (.int .i64 x)) (keysI d) j = some (dfind d x j) := by
  induction d with
  | nil => intro j; rfl
  | cons y d ih =>
    intro j
    have e : keysI (y :: d) = .v (.int .i64 y) :: keysI d := rfl
    rw [e]
    simp only [pkfind, pkeyEq, ht, and_self, if_true, dfind]
    by_cases h : x == y
    · simp [h]
    · simp only [h, if_false]
      exact ih (j + 1)
theorem dfind_some {d : List Int} {x : Int} : ∀ {j i : Nat}, dfind d x j = some i → j ≤ i ∧ i - j < d.length ∧ d[i - j]? = some x := by
  induction d with
  | nil => intro j i h; cases h
  | cons y d ih =>
    intro j i h
    simp only [dfind] at h
    split at h
    · rename_i hxy
      obtain rfl := Option.some.inj h
      simp at hxy
      simp [hxy]
    · obtain ⟨h1, h2, h3⟩ := ih h
      refine ⟨by omega, by simp; omega, ?_⟩
      rw [show i - j = (i - (j + 1)) + 1 from by omega, List.getElem?_cons_succ]; exact h3
theorem dfind_mem {d : List Int} {x : Int} : ∀ {j : Nat}, (dfind d x j).isSome = d.contains x := by
  induction d with
  | nil => intro j; rfl
  | cons y d ih =>
    intro j
    simp only [dfind, List.contains_cons]
    by_cases h : x == y
    · simp [h]
    · simp only [h, if_false, Bool.false_or]; exact ih
theorem trues_get {d : List Int} {x : Int} {i : Nat} (h : dfind d x 0 = some i) : (trues d)[i]? = some (.v (.bool true)) := by
  obtain ⟨_, h2, _⟩ := dfind_some h
  have h2 : i < d.length := by simpa using h2
  simp [trues, h2]
theorem keysI_set {d : List Int} {x : Int} {i : Nat} (h : dfind d x 0 = some i) : (keysI d).set i (.v (.int .i64 x)) = keysI d := by
  obtain ⟨_, h2, h3⟩ := dfind_some h
  refine List.ext_getElem? fun j => ?_
  rw [List.getElem?_set]
  split
  · rename_i hij; subst hij
    have h3 : d[i]? = some x := by simpa using h3
    have h2 : i < d.length := by simpa using h2
    simp [keysI, h2, h3]
    have := List.getElem?_eq_getElem h2
    rw [this] at h3
    exact (Option.some.inj h3).symm
  · rfl
theorem trues_set {d : List Int} {i : Nat} (h : i < d.length) : (trues d).set i (.v (.bool true)) = trues d := by
  refine List.ext_getElem? fun j => ?_
  rw [List.getElem?_set]
  split
  · rename_i hij; subst hij
    simp [trues, h]
  · rfl
theorem keysI_snoc (d : List Int) (x : Int) : keysI d ++ [.v (.int .i64 x)] = keysI (d ++ [x]) := by simp [keysI]
theorem trues_snoc (d : List Int) (x : Int) : trues d ++ [.v (.bool true)] = trues (d ++ [x]) := by simp [trues]
end Go.Qg

namespace Go.Qg
set_option maxRecDepth 100000
@[simp] theorem wrap_0 : IntKind.i64.wrap 0 = 0 := i64_wrap (by omega)
@[simp] theorem wrap_1 : IntKind.i64.wrap 1 = 1 := i64_wrap (by omega)
@[simp] theorem wrap_2 : IntKind.i64.wrap 2 = 2 := i64_wrap (by omega)
@[simp] theorem wrap_3 : IntKind.i64.wrap 3 = 3 := i64_wrap (by omega)
@[simp] theorem wrap_m1 : IntKind.i64.wrap (-1) = -1 := i64_wrap (by omega)
def geti (l : List Int) (i : Nat) : Int := l.getD i 0
def ints (l : List Int) : PV := .sl 1 l.length fun i => [.v (.int .i64 (geti l i))]
def allN (n : Nat) (p : Nat → Bool) : Bool := (List.range n).all p
theorem allN_spec {n : Nat} {p : Nat → Bool} : allN n p = true ↔ ∀ k, k < n → p k = true := by simp [allN]
theorem allN_false {n k : Nat} {p : Nat → Bool} (hk : k < n) (h : p k = false) : allN n p = false := by
  cases he : allN n p with
  | false => rfl
  | true => rw [allN_spec.1 he k hk] at h; cases h
def rowsI (l : List Int) : List (List PV) := l.map fun x => [.v (.int .i64 x)]
@[simp] theorem rowsI_length (l : List Int) : (rowsI l).length = l.length := by simp [rowsI]
@[simp] theorem renLL_rowsI (π : Nat → Nat) (l : List Int) : renLL π (rowsI l) = rowsI l := by
  induction l with
  | nil => rfl
  | cons x l ih => simpa [rowsI, renLL, renL, PV.ren] using ih
@[simp] theorem namesLL_rowsI (l : List Int) : namesLL (rowsI l) = [] := by
  induction l with
  | nil => rfl
  | cons x l ih => simpa [rowsI, namesLL, namesL, PV.names] using ih
@[simp] theorem flatLL_rowsI (l : List Int) : flatLL (rowsI l) = true := by
  induction l with
  | nil => rfl
  | cons x l ih => simpa [rowsI, flatLL, flatL, PV.flat] using ih
@[simp] theorem vwAllL_rowsI (f : PF) (T : Tgt) (d : Nat) (a b : List Int) : vo.vwAllL f T (d + 1) (rowsI a) (rowsI b) = (a = b) := by
  induction a generalizing b with
  | nil => cases b <;> simp [rowsI, vo.vwAllL]
  | cons x a ih =>
    cases b with
    | nil => simp [rowsI, vo.vwAllL]
    | cons y b =>
      have := ih b
      simp only [rowsI] at this
      simp [rowsI, vo.vwAllL, this]
@[simp] theorem rowsI_take (l : List Int) (k : Nat) : (rowsI l).take k = rowsI (l.take k) := by simp [rowsI]
@[simp] theorem rowsI_mem {l : List Int} {r : List PV} : r ∈ rowsI l ↔ ∃ x, x ∈ l ∧ [.v (.int .i64 x)] = r := by simp [rowsI]
@[simp] theorem rowsI_nil : rowsI [] = [] := rfl
theorem rowsI_snoc (l : List Int) (x : Int) : rowsI l ++ [[.v (.int .i64 x)]] = rowsI (l ++ [x]) := by simp [rowsI]
theorem rowsI_get {l : List Int} {k : Nat} (h : k < l.length) : (rowsI l)[k]? = some [.v (.int .i64 (geti l k))] := by simp [rowsI, geti, h]
@[simp] theorem rowsI_getElem {l : List Int} {k : Nat} (h : k < (rowsI l).length) : (rowsI l)[k] = [.v (.int .i64 (geti l k))] := by
  have h2 : k < l.length := by simpa using h
  simp [rowsI, geti, h2]
theorem rowsI_getD {l : List Int} {k : Nat} (h : k < l.length) : (rowsI l).getD k [] = [.v (.int .i64 (geti l k))] := by simp [List.getD, rowsI_get h]
theorem rowsI_set (l : List Int) (k : Nat) (x : Int) : (rowsI l).set k [.v (.int .i64 x)] = rowsI (l.set k x) := by simp [rowsI, List.map_set]
theorem geti_set {l : List Int} {i k : Nat} {x : Int} (h : i < l.length) : geti (l.set k x) i = if k = i then x else geti l i := by
  unfold geti
  rw [List.getD_eq_getElem?_getD, List.getElem?_set]
  split
  · rename_i h1; subst h1; simp [h]
  · rw [List.getD_eq_getElem?_getD]
theorem rowsI_range (l : List Int) : (List.range l.length).map (fun i => [PV.v (.int .i64 (geti l i))]) = rowsI l := by
  refine List.ext_getElem? fun i => ?_
  by_cases h : i < l.length
  · rw [rowsI_get h, List.getElem?_map, List.getElem?_range h]; rfl
  · rw [List.getElem?_eq_none (by simp; omega), List.getElem?_eq_none (by simp; omega)]
theorem rowsI_rep (n : Nat) : List.replicate n [PV.v (.int .i64 0)] = rowsI (List.replicate n 0) := by simp [rowsI]
def getb (l : List Bool) (i : Nat) : Bool := l.getD i false
def bools (l : List Bool) : PV := .sl 1 l.length fun i => [.v (.bool (getb l i))]
def rowsB (l : List Bool) : List (List PV) := l.map fun x => [.v (.bool x)]
@[simp] theorem rowsB_length (l : List Bool) : (rowsB l).length = l.length := by simp [rowsB]
@[simp] theorem renLL_rowsB (π : Nat → Nat) (l : List Bool) : renLL π (rowsB l) = rowsB l := by
  induction l with
  | nil => rfl
  | cons x l ih => simpa [rowsB, renLL, renL, PV.ren] using ih
@[simp] theorem namesLL_rowsB (l : List Bool) : namesLL (rowsB l) = [] := by
  induction l with
  | nil => rfl
  | cons x l ih => simpa [rowsB, namesLL, namesL, PV.names] using ih
@[simp] theorem flatLL_rowsB (l : List Bool) : flatLL (rowsB l) = true := by
  induction l with
  | nil => rfl
  | cons x l ih => simpa [rowsB, flatLL, flatL, PV.flat] using ih
@[simp] theorem vwAllL_rowsB (f : PF) (T : Tgt) (d : Nat) (a b : List Bool) : vo.vwAllL f T (d + 1) (rowsB a) (rowsB b) = (a = b) := by
  induction a generalizing b with
  | nil => cases b <;> simp [rowsB, vo.vwAllL]
  | cons x a ih =>
    cases b with
    | nil => simp [rowsB, vo.vwAllL]
    | cons y b =>
      have := ih b
      simp only [rowsB] at this
      simp [rowsB, vo.vwAllL, this]
@[simp] theorem rowsB_take (l : List Bool) (k : Nat) : (rowsB l).take k = rowsB (l.take k) := by simp [rowsB]
@[simp] theorem rowsB_one {l : List Bool} : (∀ (x : List PV), x ∈ rowsB l → ∀ (y : PV), y ∈ x → y.one = true) ↔ True := by
  refine ⟨fun _ => trivial, fun _ x hx y hy => ?_⟩
  obtain ⟨b, _, rfl⟩ := List.mem_map.1 hx
  obtain rfl := List.mem_singleton.1 hy
  rfl
@[simp] theorem rowsB_len1 {l : List Bool} : (∀ (x : List PV), x ∈ rowsB l → x.length = 1) ↔ True := by
  refine ⟨fun _ => trivial, fun _ x hx => ?_⟩
  obtain ⟨b, _, rfl⟩ := List.mem_map.1 hx
  rfl
theorem rowsB_get {l : List Bool} {k : Nat} (h : k < l.length) : (rowsB l)[k]? = some [.v (.bool (getb l k))] := by simp [rowsB, getb, h]
@[simp] theorem rowsB_getElem {l : List Bool} {k : Nat} (h : k < (rowsB l).length) : (rowsB l)[k] = [.v (.bool (getb l k))] := by
  have h2 : k < l.length := by simpa using h
  simp [rowsB, getb, h2]
theorem rowsB_set (l : List Bool) (k : Nat) (x : Bool) : (rowsB l).set k [.v (.bool x)] = rowsB (l.set k x) := by simp [rowsB, List.map_set]
theorem rowsB_rep (n : Nat) : List.replicate n [PV.v (.bool false)] = rowsB (List.replicate n false) := by simp [rowsB]
theorem rowsB_range (l : List Bool) : (List.range l.length).map (fun i => [PV.v (.bool (getb l i))]) = rowsB l := by
  refine List.ext_getElem? fun i => ?_
  rw [List.getElem?_map]
  by_cases hi : i < l.length
  · rw [List.getElem?_range hi, rowsB_get hi]; rfl
  · rw [List.getElem?_eq_none (by simpa using hi), List.getElem?_eq_none (by simpa using hi)]; rfl
def inB (x lo hi : Int) : Bool := decide (lo ≤ x) && decide (x ≤ hi)
theorem inB_spec {x lo hi : Int} : inB x lo hi = true ↔ lo ≤ x ∧ x ≤ hi := by simp [inB]
abbrev iv (n : Int) : PV := .v (.int .i64 n)
abbrev bv (b : Bool) : PV := .v (.bool b)
end Go.Qg

namespace Go.Qg
open Go.RowKit (Below)
inductive Splits : Code → Code → Code → Prop
  | one (a b : Code) : Splits (.seq a b) a b
  | more (a : Code) {b b0 b1 : Code} : Splits b b0 b1 → Splits (.seq a b) (.seq a b0) b1
section
variable {P : Program} {N M : Nat} {B : Base} {ro : Option Nat}
theorem wr_split (hm : P.follows .mixedOrders = true) (hM : B.lo = M) {K : PF → Prop} {Qw : Exit → Act → World → Prop} {c c0 c1 : Code} (hs : Splits c c0 c1) : ∀ {fr : PF} {a : Act} {w : World}, dstsIn N c0 = true → SimE N B a w fr → pwp P M c0 (thenP K fun _ _ => False) fr →
    (∀ e a w, Up N B (thenP K fun _ _ => False) e a w → Exit.then (wr P ro c1 Qw) Qw e a w) → wr P ro c Qw a w := by
  induction hs with
  | one x y => intro fr a w hd h hp hk; exact wr_seq (wr_mono (pwp_sound hm hM x _ fr a w hd h hp) hk)
  | more x hs ih =>
    intro fr a w hd h hp hk
    simp only [dstsIn, Bool.and_eq_true] at hd
    refine wr_seq (wr_mono (pwp_sound hm hM x _ fr a w hd.1 h hp) fun e a0 w0 ⟨R0, Γ0, fr0, x0, hs0, hu0, hq0⟩ => ?_)
    cases x0 with
    | normal => cases e with
      | normal => exact ih hd.2 ⟨R0, Γ0, hs0⟩ hq0 hk
      | _ => exact hu0.elim
    | _ => exact hq0.elim
end
section
variable {P : Program} {N M M' : Nat} {B B0 B2 : Base} {a a' : Act} {w w' : World} {els : List PV}
theorem gen_of1S (hm : P.follows .mixedOrders = true) {f : FuncId} {fn : Func} {c c0 c1 : Code} (hf : P.funcs[f]? = some fn) (hname : (fn.name == "runtime.NumGoroutine") = false) (hb : fn.body = some c) (hsp : Splits c c0 c1) (hrs : fn.results = #[]) (hn : fn.ntmps = N) (hd0 : dstsIn N c0 = true) {first caps : List PV} (S : Nat) (hargs : first.length + (caps.length + 1) ≤ N)
    (h : ∀ (l : Nat) (Rb : Nat → Prop) (J : GS → (Nat → Prop) → World → Prop), Env P l els Rb J → pwp P (N + S) c0 (thenP (fun fr => ∃ g : PF, less (N + S) fr g ∧ (g.all fun p => p.plain && p.flat) = true ∧
      XW P N (GCtx (N + S) Rb J) (.on 0) c1 (fun s x _ => (x = .normal ∨ x = .ret) ∧ (s = .on els.length ∨ s = .off) ∨ ∃ p, s = .pan p ∧ x = .panic p) g) (fun _ _ => False)) (frame0 (N + S) (first ++ (.clo (.yield l) [] [] :: caps)) [])) : GenW1 P f first caps els := by
  subst hn
  refine ⟨fun vs w => ?_, fun w us vs R Rb l J F0 hR hRb henv hJ hlu hl hrepu hrep => ?_⟩
  · simp only [callFunc, Sem.run_bind, run_program, Result.andThen_ok, hf, hname, hb]
    rfl
  · have h0 : Sim 0 ⟨fun b => F0 b ∨ Rb b ∨ ∃ o, R b o, w, R, fun _ => none, 0, []⟩ R (fun _ => none) noAct w [] :=
      ⟨rfl, Nat.zero_le _, fun t p hp => (by simp at hp), fun i j l m b hi => (by cases hi), fun i l hi => (by cases hi), hR, fun b o hb => .inl hb, Kept.refl _ _, hRb.go (fun b hb => hb.elim (henv.bnd _ _ _ _ hJ) fun h => h.elim (hRb b) fun ⟨o, h⟩ => hR b o h) (fun b _ hb => .inr (.inl hb)) (fun _ _ _ => rfl), Nat.le_refl _, fun j l _ hl => (by cases hl), rfl⟩
    have hsim := h0.enter (N := fn.ntmps) (M := fn.ntmps + S) (vs := us ++ (.func (.yield l) #[] #[] :: vs)) (args := first ++ (.clo (.yield l) [] [] :: caps)) (by simp [hl, hlu]) (fun i u p hu hp => by
      by_cases hi : i < us.length
      · rw [List.getElem?_append_left hi] at hu
        rw [List.getElem?_append_left (by omega)] at hp
        exact hrepu i u p hu hp
      · rw [List.getElem?_append_right (by omega)] at hu
        rw [List.getElem?_append_right (by omega), ← hlu] at hp
        generalize i - us.length = i at hu hp
        cases i with
        | zero =>
          simp only [List.getElem?_cons_zero, Option.some.injEq] at hu hp
          subst hu hp
          exact .clo _ [] [] [] [] rfl rfl (fun i u p hi => by simp at hi) (fun i u p hi => by simp at hi)
        | succ i => exact hrep i u p (by simpa using hu) (by simpa using hp)) (by simpa using hargs) (Nat.le_add_right _ _)
    have ea : (us.toArray ++ #[Value.func (.yield l) #[] #[]] ++ vs.toArray) = (us ++ (Value.func (.yield l) #[] #[] :: vs)).toArray := by simp
    rw [ea]
    refine calls_of_wr hf hb (wr_split (ro := none) hm rfl hsp hd0 hsim.toE (h l Rb J henv) fun e0 a0 w0 ⟨R0, Γ0, fr0, x0, hs0, hu0, hq0⟩ => ?_)
    cases x0 with
    | normal =>
      cases e0 with
      | normal =>
        obtain ⟨g, hless, hdry, hx⟩ := hq0
        have hs1 := weak_R hs0 hless
        have hs2 : Sim fn.ntmps ⟨fun b => F0 b ∨ Rb b, w, fun _ _ => False, fun _ => none, fn.ntmps + S, []⟩ (fun _ _ => False) (fun _ => none) a0 w0 g := hs1.dry hdry (fun b hb => hb.imp_right .inl) (fun b hb => .inr (hRb.isP hb)) rfl rfl rfl (fun _ => rfl)
        refine wr_mono (hx ⟨fun b => F0 b ∨ Rb b, w, fun _ _ => False, fun _ => none, fn.ntmps + S, []⟩ a0 w0 ⟨rfl, rfl, F0, hJ, fun b hb => .inl hb, fun b hb => .inr hb, fun b o hb => hb.elim⟩ hs2.toE) fun e a w' ⟨s, B, ⟨hlo, hD, F, hJ', hF, _, _⟩, R', Γ', fr, x, hs, hu, hx⟩ => ?_
        have hJ2 : J s F w' := henv.stab _ _ _ _ hJ' (fun b hb => hs.kept.block b (hF b hb)) hs.kept.size hs.kept.os hs.kept.tape hs.kept.output
        rcases hx with ⟨hx, hs'⟩ | ⟨p, rfl, rfl⟩
        · have fin : LeavesC P fn a.tmps (genPost els J) a.defers .returning w' := by
            rw [hs.defers, hD]
            refine ⟨.tuple #[], ?_, s, F, hs', hJ2⟩
            simp [results, hrs]
          rcases hx with rfl | rfl
          · cases e with
            | normal => exact fin
            | _ => exact hu.elim
          · cases e with
            | ret => exact fin
            | _ => exact hu.elim
        · cases e with
          | panic ch =>
            obtain ⟨v, rfl, hr⟩ := hu
            obtain ⟨p1, p2⟩ := henv.pan p F w' hJ2
            show LeavesC P fn a.tmps (genPost els J) a.defers _ w'
            rw [hs.defers, hD]
            exact ⟨v, p, F, rfl, plain_rep hr p1 p2, hJ2⟩
          | _ => exact hu.elim
      | _ => exact hu0.elim
    | _ => exact hq0.elim
end
section
variable {P : Program} {N M M' : Nat} {B : Base} {a a' : Act} {w w' : World} {R : Nat → Nat → Prop} {Γ : Nat → Option Loc} {fr : PF}
theorem callW_ofDES (hm : P.follows .mixedOrders = true) {f : FuncId} {fn : Func} {id : Nat} {o1 o2 : Oper} {c c0 c2 : Code} {x : Operand} {ats : Array TypeId} (hf : P.funcs[f]? = some fn) (hname : (fn.name == "runtime.NumGoroutine") = false) (hb : fn.body = some c) (hsp : Splits c c0 (.seq (.region id #[o1, o2] false) c2))
    (ho : o2.op = .defer { callee := .value x, args := #[], argTypes := ats }) (hg : o2.guard = none) (hdst : o2.dst = none) {rs : List ResultVar} (hrs : fn.results.toList = rs) (hn : fn.ntmps = N) (hd0 : dstsIn N c0 = true) (hd1 : ∀ d, o1.dst = some d → d < N) (hd2 : dstsIn N c2 = true) {args : List PV} {H : PF} {Q : Out → Prop}
    (M : Nat) (hargs : args.length ≤ N) (hM : N ≤ M) (h : pwp P M c0 (thenP (pops P M [o1, o2] (dmidE P N M H.length rs c2 x Q) (fun _ _ => False) [o1]) (fun _ _ => False)) (frame0 M args H)) : CallW P f args H Q := by
  subst hrs hn
  refine ⟨fun vs w => ?_, fun w vs R Γ Prot hRp h0 hl hrep => ?_⟩
  · simp only [callFunc, Sem.run_bind, run_program, Result.andThen_ok, hf, hname, hb]
    rfl
  · have hsim := h0.enter hl hrep hargs hM
    refine calls_of_wr hf hb (wr_split (ro := none) hm rfl hsp hd0 hsim.toE h fun e a0 w0 ⟨R0, Γ0, fr0, x0, hs0, hu0, hq0⟩ => ?_)
    cases x0 with
    | normal =>
      cases e with
      | normal =>
        refine wr_seq (wr_region ?_)
        have hr1 : List.range (#[o1, o2] : Array Oper).size = [0, 1] := rfl
        rw [hr1]
        have hN : ∀ o ∈ [o1, o2], ∀ d, o.dst = some d → d < fn.ntmps := fun o ho d hd => by
          rcases List.mem_cons.1 ho with rfl | ho
          · exact hd1 d hd
          · obtain rfl := List.mem_singleton.1 ho
            rw [hdst] at hd; cases hd
        refine op_sound (all := [o1, o2]) (K := pops P M [o1, o2] (dmidE P fn.ntmps M H.length fn.results.toList c2 x Q) (fun _ _ => False) []) (Kp := fun _ _ => False) hs0.toE rfl hN rfl (fun _ _ _ _ _ _ _ _ _ hk => hk.elim) (fun _ _ hq => hq.elim) (k := 0) (o := o1) rfl hq0 (K' := fun a' w' => ∃ fr', SimE fn.ntmps (base0 Prot w R Γ M) a' w' fr' ∧ dmidE P fn.ntmps M H.length fn.results.toList c2 x Q fr') (fun a' w' fr' h1 h2 => ⟨fr', h1, h2⟩) [1] fun a1 w1 hq1 => ?_
        obtain ⟨fr1, ⟨R1, Γ1, hs1⟩, gf, ps, caps, M', news, Ho, A, hx, hM', hκ, hA, hout, hAv, hcaps, hflat, hrest⟩ := hq1
        have hgn : ∀ s ∈ (List.range H.length).map (M + ·) ++ news, (fun _ : Nat => false) s = false := fun _ _ => rfl
        generalize hκe : (List.range H.length).map (M + ·) ++ news = κ at hκ hout hAv hcaps hgn
        have hv := hs1.rd x
        rw [hx] at hv
        generalize hux : a1.eval x = ux at hv
        cases hv with
        | clo _ uf uc _ _ l1 l2 _ r2 =>
        obtain rfl : uf = [] := by simpa using l1
        have hex : (execOp a1.eval o2).run P w1 = .ok (.defer { target := .fn (.func gf) uc.toArray, args := #[] }) w1 := by
          simp only [execOp, ho, resolve, Deferred.ofValue, hux]
          simp [go_sem]
        refine OpR_wp (K := fun a' w' => a' = { a1 with defers := [{ target := .fn (.func gf) uc.toArray, args := #[] }] } ∧ w' = w1) (ops := #[o1, o2]) (o := o2) rfl (by simp [Region.wanted, hg]) (.inl rfl) (fun _ _ hq => hq.elim) ?_ [] fun a' w' ⟨ha', hw'⟩ => RegR_nil ?_
        · unfold Oper.wp
          rw [hex, Oper.upon_defer]
          refine ⟨?_, rfl⟩
          rw [hdst, hs1.defers]
          rfl
        · subst ha' hw'
          obtain ⟨hlend, hRp1⟩ := hs1.lend hout hκ hgn
          obtain ⟨_, hview⟩ := hs1.leave hout hκ hgn
          have hR1 : ∀ b o, freedAt R1 Γ1 (fun _ => false) b o → R1 b o := fun b o hb => by
            rcases hb with hb | ⟨s, m, hg, _⟩
            · exact hb
            · cases hg
          have hent := hlend.enter (N := fn.ntmps) (M := M') (vs := a1.tmps.toList) (args := A) (by simp [hA, hs1.size]) (fun i u q hu hq => by
            have hlt := lt_of_get? hq
            rw [hA] at hlt
            have hqA : A.getD i .undef = q := by simp [List.getD, hq]
            have h1 := hAv i hlt
            rw [hqA] at h1
            refine hview q _ u h1 ?_
            have h2 := hs1.rd (.tmp i)
            rw [Array.getElem?_toList] at hu
            have : a1.eval (.tmp i) = u := by simp [Act.eval, hu]
            rwa [this] at h2) (by simp [hA]) hM'
          have hact : ({ tmps := a1.tmps.toList.toArray ++ Array.replicate (fn.ntmps - a1.tmps.toList.toArray.size) undef, defers := [] } : Act) = { tmps := a1.tmps, defers := [] } := by
            have e1 : a1.tmps.toList.toArray = a1.tmps := Array.toArray_toList
            rw [e1, hs1.size]
            simp
          rw [hact] at hent
          have hs2 : Sim fn.ntmps ⟨Prot, w, R, fun i => if M' ≤ i then Γout Γ1 Ho κ (i - M') else none, M', [{ target := .fn (.func gf) uc.toArray, args := #[] }]⟩ (freedAt R1 Γ1 fun _ => false) (fun i => if M' ≤ i then Γout Γ1 Ho κ (i - M') else none) { a1 with defers := [{ target := .fn (.func gf) uc.toArray, args := #[] }] } w' (frame0 M' A Ho) := by
            refine hent.moved (fun b o _ => rfl) (fun i l b hi hb => rfl) (Nat.le_refl _) (fun i l b hi hb hp => ?_) (fun b o hb => ?_) hs1.kept hs1.prot hM' (fun j l hj hl => ⟨l, hl, Loc.le_refl l⟩) rfl rfl
            · skip
              split at hi
              · obtain ⟨s, m, _, hm', hmb⟩ := Γout_blk hi hb
                exact ((hs1.own s m hm').2 b hmb).1 hp
              · cases hi
            · exact hs1.sub b o (hR1 b o hb)
          generalize hB1 : (⟨Prot, w, R, fun i => if M' ≤ i then Γout Γ1 Ho κ (i - M') else none, M', [{ target := .fn (.func gf) uc.toArray, args := #[] }]⟩ : Base) = B1 at hs2
          have hB1D : B1.D = [{ target := .fn (.func gf) uc.toArray, args := #[] }] := by rw [← hB1]
          have hC : ECtx B1 () ⟨Prot, w, R, fun i => if M' ≤ i then Γout Γ1 Ho κ (i - M') else none, M', [{ target := .fn (.func gf) uc.toArray, args := #[] }]⟩ := by
            subst hB1
            exact ⟨rfl, fun _ x => x, Kept.refl _ _, fun b o hb => .inl hb, rfl, [], List.nodup_nil, rfl, fun r hr => by cases hr⟩
          have hprot : ProtOk B1.Prot B1.w0 := by subst hB1; exact h0.prot
          rw [hB1] at hC
          refine wr_mono (hrest B1 (by rw [← hB1]) B1 _ w' hC hs2.toE) fun e a2 w2 ⟨_, B', hC', R2, Γ2, g, x2, hs30, hu, hq⟩ => ?_
          have hs3 := hs30.ofE hC' hprot
          obtain ⟨_, _, _, _, _, ms, hms, hD', hmk⟩ := hC'
          rw [hB1D] at hD'
          have hΓ1 : ∀ j l, Γout Γ1 Ho κ j = some l → B1.Γ0 (M' + j) = some l := fun j l hl => by
            rw [← hB1]; dsimp only; rw [if_pos (by omega), Nat.add_sub_cancel_left]; exact hl
          have hlo1 : B1.lo = M' := by rw [← hB1]
          have hbase : ∀ {w2 : World}, Sim fn.ntmps { B1 with D := B'.D } R2 Γ2 a2 w2 g → ∀ j l, B1.Γ0 (M' + j) = some l → ∃ l', Γ2 (M' + j) = some l' ∧ Loc.le l l' := fun hs j l hl => hs.base (M' + j) l (by rw [show ({ B1 with D := B'.D } : Base).lo = M' from hlo1]; omega) hl
          have hcap : ∀ (w2 : World), Sim fn.ntmps { B1 with D := B'.D } R2 Γ2 a2 w2 g → ∀ (i : Nat) (u : Value) (q : PV), uc[i]? = some u → (renL (M' + ·) caps)[i]? = some q → Rep w2 R2 Γ2 u q := fun w2 hs3 i u q hu hq => by
            rw [renL_get] at hq
            simp only [Option.map_eq_some_iff] at hq
            obtain ⟨q0, hq0, rfl⟩ := hq
            obtain ⟨p0, hp0, hv0⟩ := vwAll_get hcaps i q0 hq0
            refine (hview q0 p0 u hv0 (r2 i u p0 hu hp0)).ren (.inl (hflat q0 (List.mem_of_getElem? hq0))) fun j _ l hl => ?_
            exact hbase hs3 j l (hΓ1 j l hl)
          have hlc : uc.length = (renL (M' + ·) caps).length := by rw [renL_length, vwAll_length hcaps]; exact l2
          have fin : ∀ (rv : Option Value) (rc : Option PV), (match rv, rc with | none, none => True | some v, some p => p.plain = true ∧ p.flat = true ∧ Rep w2 R2 Γ2 v p | _, _ => False) → dend P M' H.length fn.results.toList gf caps Q rc g → LeavesC P fn a2.tmps (Left Prot w R Γ Q) a2.defers (modeOf rv) w2 := by
            rintro rv rc hrv0 ⟨ιd, Hd, capsd, hιd, houtd, hcapsd, hdw, hdc⟩
            have hrv : ∀ w2 : World, match rv, rc with | none, none => True | some v, some p => p.plain = true ∧ p.flat = true ∧ Rep w2 R2 Γ2 v p | _, _ => False := fun w' => by
              cases rv with
              | none => cases rc with
                | none => trivial
                | some p => exact hrv0.elim
              | some v => cases rc with
                | none => exact hrv0.elim
                | some p => exact ⟨hrv0.1, hrv0.2.1, plain_rep hrv0.2.2 hrv0.1 hrv0.2.1 _ _ _⟩
            rw [hs30.defers, hD']
            refine marks_leave (by cases rv <;> simp [modeOf]) ms w2 { B1 with D := B'.D } hms (fun r hr => ?_) hs3 fun w2 hs3 => ?_
            · obtain ⟨h1, h2, h3⟩ := hmk r hr
              exact ⟨h2, (hs30.kept.block r h1).trans h3⟩
            have hrv := hrv w2
            have hcap := hcap w2 hs3
            have hgd : ∀ s ∈ ιd, (fun _ : Nat => false) s = false := fun _ _ => rfl
            obtain ⟨hlend3, hRp3⟩ := hs3.lend houtd hιd hgd
            obtain ⟨_, hview3⟩ := hs3.leave houtd hιd hgd
            refine ⟨by cases rv <;> simp [modeOf], .inr ⟨.func gf, uc.toArray, gf, uc.toArray, rfl, ?_, ?_⟩⟩
            · simp [invoke, go_sem, hdw]
            · refine (hdc w2 uc _ _ _ rv hRp3 hlend3 ?_ (fun i u q hu hq => ?_) ?_).mono ?_
              · rw [hlc, vwAll_length hcapsd]
              · obtain ⟨p, hp, hv⟩ := vwAll_get hcapsd i q hq
                exact hview3 q p u hv (hcap i u p hu hp)
              · cases rv with
                | none => cases rc with
                  | none => trivial
                  | some p => exact hrv.elim
                | some v => cases rc with
                  | none => exact hrv.elim
                  | some p =>
                    obtain ⟨hp1, hp2, hr⟩ := hrv
                    have := Rep.ren (π := fun i => i) (R' := freedAt R2 Γ2 fun _ => false) (w' := w2) (Γ' := Γout Γ2 Hd ιd) hr (.inl hp2) (fun j hj => by rw [plain_names hp1] at hj; cases hj)
                    rwa [ren_plain hp1] at this
              · rintro e u' w3 ⟨⟨v, rfl⟩, rfl, R3, Γ3, H3, ⟨hl3, xr, r, H2, news2, hpr, hlv, hQ⟩, hs4, hobj⟩
                have hset : settle (modeRec rv) = .returning := by cases rv <;> rfl
                show LeavesC P fn a2.tmps _ [] (settle (modeRec rv)) w3
                rw [hset]
                obtain ⟨hm1, _⟩ := hs3.merge (news := []) houtd hs4 (by simpa using hιd) (by simpa using hl3) (fun s hs => by cases hs) (.inl fun _ => rfl) hobj
                have eback : placeAll ((ιd ++ []).getD · 0) (ιd ++ []) H3 g = back g ιd H3 := by simp only [List.append_nil]; rfl
                rw [eback] at hm1
                obtain ⟨v, hv, hrv⟩ := presults_sound (P := P) hm1 fn hpr
                refine ⟨v, hv, ?_⟩
                obtain ⟨hn2, hout2, hv2⟩ := hlv
                obtain ⟨h1, h2⟩ := hm1.leave hout2 hn2 (fun s hs => by have := List.contains_iff_mem.2 hs; show (!_) = false; rw [this]; rfl)
                subst hB1
                refine ⟨_, _, .inl ⟨v, r, H2, rfl, hQ, h2 r xr v hv2 hrv, h1.rebase fun j l hjl => ?_, fun q hq => ?_⟩⟩
                · obtain ⟨⟨p, hp, _⟩, _⟩ := h0.own j l hjl
                  have hj := lt_of_get? hp
                  have hb : (base0 Prot w R Γ M).Γ0 (M + j) = some l := by
                    simp only [base0]
                    rw [if_pos (by omega), Nat.add_sub_cancel_left]; exact hjl
                  obtain ⟨l1, e1, e2⟩ := hs1.base (M + j) l (Nat.le_add_right _ _) hb
                  have hκ1 : κ[j]? = some (M + j) := by
                    rw [← hκe, List.getElem?_append_left (by simpa using hj)]; exact range_get M hj
                  obtain ⟨l2, e3, e4⟩ := Γout_le hs1 hout hκ1 e1
                  obtain ⟨l3, e5, e6⟩ := hm1.base (M' + j) l2 (Nat.le_add_right _ _) (hΓ1 j l2 e3)
                  have hκ2 : ((List.range H.length).map (M' + ·) ++ news2)[j]? = some (M' + j) := by
                    rw [List.getElem?_append_left (by simpa using hj)]; exact range_get M' hj
                  obtain ⟨l4, e7, e8⟩ := Γout_le hm1 hout2 hκ2 e5
                  exact ⟨l4, e7, Loc.le_trans e2 (Loc.le_trans e4 (Loc.le_trans e6 e8))⟩
                · obtain ⟨i, hi⟩ := List.mem_iff_getElem?.1 hq
                  obtain ⟨s, p, _, _, hbare, _⟩ := outF_get hout2 i q hi
                  cases q <;> first | rfl | cases hbare
          cases e with
          | ret => cases x2 with
            | ret => exact fin none none trivial hq
            | _ => exact hu.elim
          | normal => cases x2 with
            | normal => exact fin none none trivial hq
            | _ => exact hu.elim
          | panic ch => cases x2 with
            | panic p =>
              obtain ⟨v, rfl, hrv⟩ := hu
              obtain ⟨hp1, hp2, hq⟩ := hq
              exact fin (some v) (some p) ⟨hp1, hp2, hrv⟩ hq
            | _ => exact hu.elim
          | exit id => cases x2 with
            | exit id' => exact hq.elim
            | _ => exact hu.elim
          | goto id => cases x2 with
            | goto id' => exact hq.elim
            | _ => exact hu.elim
          | outgrown => cases x2 <;> exact hu.elim
      | _ => exact hu0.elim
    | _ => exact hq0.elim
end
section
variable {P : Program} {N M l : Nat} {els : List PV} {Rb : Nat → Prop} {J : GS → (Nat → Prop) → World → Prop} {Q : GS → PX → PF → Prop} {s : GS} {fr : PF}
theorem XW_yieldS (henv : Env P l els Rb J) {id : Nat} {ops : Array Oper} (hd : dstsIn N (.region id ops false) = true) {m : Nat} (hm : m < ops.toList.length) (hp : pops P M ops.toList (pyield P M ops.toList m l els Q s) (fun p => Q s (.panic p)) (ops.toList.take m) fr) :
    XW P N (GCtx M Rb J) s (.region id ops false) Q fr := fun B a w hC hs => by
  have hN := dsts_mem hd
  have hnd : ∀ {s' : GS} {B' : Base}, GCtx M Rb J s' B' → PanUp N B' (UpX N (GCtx M Rb J) Q) (fun p => Q s' (.panic p)) := fun {s' B'} hC' R Γ a w fr v p hs hr hk => ⟨s', B', hC', pan_up R Γ a w fr v p hs hr hk⟩
  have hnq : ∀ {s' : GS} {B' : Base}, GCtx M Rb J s' B' → ∀ a w fr, SimE N B' a w fr → Q s' .normal fr → UpX N (GCtx M Rb J) Q .normal a w := fun {s' B'} hC' a w fr ⟨R, Γ, hs⟩ hk => ⟨s', B', hC', R, Γ, fr, .normal, hs, trivial, hk⟩
  refine wr_region ?_
  obtain ⟨r, hr⟩ : ∃ r, ops.toList.length = m + (r + 1) := ⟨ops.toList.length - m - 1, by omega⟩
  have hsz : ops.size = m + (r + 1) := by simpa using hr
  rw [List.range_eq_range', hsz]
  refine pre_sound (K := pyield P M ops.toList m l els Q s) (Kp := fun p => Q s (.panic p)) ops rfl hN hC.1 (hnd hC) upX_out (r := r + 1) m 0 (by omega) (fun a w fr hs hy => ?_) a w fr hs (by simpa using hp)
  rw [Nat.zero_add, List.range'_succ]
  unfold pyield at hy
  split at hy
  case h_2 => exact hy.elim
  rename_i o ho
  have hops : ops[m]? = some o := by rw [← ho]; simp
  have hoN := hN o (List.mem_of_getElem? ho)
  refine (?_ : OpR P none ops (UpX N (GCtx M Rb J) Q) m (fun a' w' => ∃ (s' : GS) (B' : Base) (fr' : PF), GCtx M Rb J s' B' ∧ SimE N B' a' w' fr' ∧ pops P M ops.toList (Q s' .normal) (fun p => Q s' (.panic p)) (ops.toList.drop (m + 1)) fr') a w) (List.range' (m + 1) r) fun a' w' ⟨s', B', fr', hC', hs', hp'⟩ =>
    pops_sound ops rfl hN hC'.1 (hnd hC') upX_out (hnq hC') r (m + 1) (by omega) a' w' fr' hs' hp'
  split at hy
  · rename_i hw
    have hwd := wanted_sound hs rfl hN hw
    split at hy
    case h_2 => exact hy.elim
    rename_i c hc
    obtain ⟨hop, _⟩ := isCall_some hc
    split at hy
    case h_2 => exact hy.elim
    rename_i x y hya
    obtain ⟨hcal, hargs⟩ := yargs_some hya
    obtain ⟨hx, n, rfl, hel, hcl, hyt, hyf, hyp⟩ := hy
    obtain ⟨hlo, hD, F, hJ, hF, hRb, hR0⟩ := hC
    obtain ⟨R, Γ, hs⟩ := hs
    have hxv := hs.rd x
    rw [hx] at hxv
    have hyv := hs.rd y
    have hux : a.eval x = .func (.yield l) #[] #[] := by
      generalize a.eval x = u at hxv
      cases hxv with
      | clo _ uf uc _ _ h1 h2 _ _ =>
        obtain rfl : uf = [] := by simpa using h1
        obtain rfl : uc = [] := by simpa using h2
        rfl
    have hJw : J (.on n) F w := henv.stab _ F B.w0 w hJ (fun b hb => hs.kept.block b (hF b hb)) hs.kept.size hs.kept.os hs.kept.tape hs.kept.output
    obtain ⟨f, tmps, assign, body, hrun, hround⟩ := henv.yield n F w (a.eval y) _ R Γ hJw hel hyv
    have hex : (execOp a.eval o).run P w = .ok (.round l f tmps assign body) w := by
      have e1 : c.args = #[y] := by rw [← Array.toArray_toList (xs := c.args), hargs]
      obtain ⟨callee, args, ats⟩ := c
      dsimp only at hcal e1
      subst hcal e1
      simp only [execOp, hop, resolve, Deferred.ofValue, hux, Sem.run_bind, Sem.run_pure, Result.andThen_ok, invoke, List.map_toArray, List.map_cons, List.map_nil]
      simpa using hrun
    refine OpR_yield hops hwd (fun c' hc' => by rw [hop] at hc'; cases hc') hex ?_
    intro cf cs
    obtain ⟨e, w', ⟨F', hcase, hF', hk⟩, hsteps⟩ := hround cf cs
    have hs' := hs.turn henv.tab hD hF hR0 hk
    have hnF : ∀ x, x < w.heap.size → ¬ F x → ¬ F' x := fun x hx hn hf => by
      rcases hF' x hf with h | h
      · exact hn h
      · omega
    have mkC : ∀ s', J s' F' w' → GCtx M Rb J s' ⟨fun b => b < w'.heap.size ∧ ∀ i l, Γ i = some l → l.blk ≠ some b, w', R, fun i => if B.lo ≤ i then Γ i else none, B.lo, []⟩ := fun s' hJ' => by
      refine ⟨hlo, rfl, F', hJ', fun x hx => ⟨henv.bnd _ _ _ _ hJ' hx, fun i l hl hb => ?_⟩, fun x hx => ⟨?_, fun i l hl hb => ?_⟩, fun x o hx => ?_⟩
      · obtain ⟨h1, h2, _⟩ := (hs.own i l hl).2 x hb
        exact hnF x h2 (fun hf => h1 (hF x hf)) hx
      · have := hs.prot x (hRb x hx)
        have := hs.kept.size
        have := hk.size
        omega
      · exact ((hs.own i l hl).2 x hb).1 (hRb x hx)
      · rcases hs.sub x o hx with h0 | h0
        · rcases hR0 x o h0 with h1 | h1
          · exact .inl h1
          · exact .inr (hnF x (hs.bnd x o hx) h1)
        · exact .inr (hnF x (hs.bnd x o hx) fun hf => h0 (hF x hf))
    cases e with
    | outgrown => exact hcase.elim
    | panicked ch =>
      obtain ⟨pv, p, rfl, hrep, hJ'⟩ := hcase
      exact ⟨.panicked _, w', ⟨.pan p, _, mkC _ hJ', R, Γ, fr, .panic p, hs', ⟨pv, rfl, hrep _ _ _⟩, hyp p⟩, hsteps⟩
    | returned ret =>
    obtain ⟨b, rfl, hJ'⟩ := hcase
    have hC' := mkC _ hJ'
    refine ⟨.returned (.bool b), w', ?_, hsteps⟩
    have hput := fun (bb : Bool) (hc : pclear o.dst (.v (.bool bb)) fr = true) => (hs'.put o.dst hoN hc (u := .bool bb) (.v (.bool bb) rfl)).toE
    cases b with
    | true => exact ⟨_, _, _, hC', hput true hcl, hyt⟩
    | false =>
      refine ⟨_, _, _, hC', hput false ?_, hyf⟩
      revert hcl
      unfold pclear
      cases o.dst with
      | none => intro _; rfl
      | some d =>
        dsimp only
        cases fr[d]? with
        | none => intro _; rfl
        | some q =>
          dsimp only
          split
          · intro hcl
            refine List.all_eq_true.2 fun z hz => ?_
            obtain ⟨t, ht⟩ := List.mem_iff_getElem?.1 hz
            rcases getElem?_set' ht with ⟨rfl, rfl, hl'⟩ | ⟨hne, ht'⟩
            · simp [PV.names]
            · exact List.all_eq_true.1 hcl z (List.mem_of_getElem? (i := t) (by rw [List.getElem?_set_ne (Ne.symm hne)]; exact ht'))
          · intro _; rfl
  · rename_i hw
    exact OpR_skip hops (wanted_sound hs rfl hN hw) ⟨_, _, _, hC, hs.skip hoN hy.1, hy.2⟩
  · exact hy.elim
end
theorem dmidE_of {P : Program} {N M k : Nat} {rs : List ResultVar} {c : Code} {x : Operand} {Q : Out → Prop} {fr : PF} {gf : FuncId} {ps : List PV} (caps : List PV) (M' : Nat) (news : List Nat) (H A : PF) (hx : rd fr x = .clo (.func gf) [] ps) (hM : N ≤ M') (hn : ((List.range k).map (M + ·) ++ news).Nodup) (hA : A.length = N)
    (ho : outF fr (tgtAt H ((List.range k).map (M + ·) ++ news) fun _ => false) 8 H ((List.range k).map (M + ·) ++ news))
    (hv : vwAll (vw fr (tgtAt H ((List.range k).map (M + ·) ++ news) fun _ => false) 8) A (slots 0 N fr))
    (hc : vwAll (vw fr (tgtAt H ((List.range k).map (M + ·) ++ news) fun _ => false) 8) caps ps) (hf : ∀ p ∈ caps, p.flat = true)
    (h : ∀ B0 : Base, B0.lo = M' → XW P N (ECtx B0) () c (fun _ => dpost P M' k rs gf caps Q) (frame0 M' A H)) : dmidE P N M k rs c x Q fr := ⟨gf, ps, caps, M', news, H, A, hx, hM, hn, hA, ho, slots_vw hv, hc, hf, h⟩
theorem pwp_loop1 {P : Program} {M : Nat} {c : Code} {Q : PX → PF → Prop} {fr : PF} (h : pwp P M c (thenP (pwp P M (.loop c) Q) Q) fr) : pwp P M (.loop c) Q fr := fun X hX hW => hX _ (pwp_mono c (thenP_mono (fun _ hg => hg X hX hW) fun _ _ h => h) h)
theorem pwp_loop_less {P : Program} {M : Nat} {c : Code} {Q : PX → PF → Prop} {fr : PF} (g : PF) (hl : less M fr g) (h : pwp P M (.loop c) Q g) : pwp P M (.loop c) Q fr := fun X hX hW => hW _ _ (weak_of_less hl) (h X hX hW)
theorem pwp_loop_lessV {P : Program} {M : Nat} {c : Code} {Q : PX → PF → Prop} {fr : PF} (V : List (Nat × PV)) (hl : less M fr (apply V fr)) (h : pwp P M (.loop c) Q (apply V fr)) : pwp P M (.loop c) Q fr := pwp_loop_less _ hl h
end Go.Qg

namespace Go.Qg
open Go.Qg
set_option linter.all false
section
set_option maxRecDepth 100000
def sumN (f : Nat → Int) : Nat → Int
  | 0 => 0
  | n + 1 => sumN f n + f n
theorem sumN_congr {f g : Nat → Int} : ∀ {n : Nat}, (∀ i, i < n → f i = g i) → sumN f n = sumN g n
  | 0, _ => rfl
  | n + 1, h => by simp only [sumN, sumN_congr (n := n) fun i hi => h i (by omega), h n (by omega)]
structure Spn where
  low : Int
  high : Int
  deriving DecidableEq, Inhabited
structure Stn where
  arm : Int
  most : Int
  deriving DecidableEq, Inhabited
structure Cnr where
  weight : Int
  moment : Int
  deriving DecidableEq, Inhabited
structure Itm where
  station : Int
  low : Int
  high : Int
  deriving DecidableEq, Inhabited
structure Pln where
  empty : Int
  moment : Int
  takeoff : Int
  landing : Int
  corners : List Cnr
  stations : List Stn
  tank : Stn
  reserve : Int
  floats : List Stn
structure Pnt where
  items : List Itm
  tank : Spn
  water : List Spn
  landing : Bool
structure Cse where
  items : List Int
  tank : Int
  water : List Int
def spnAt (l : List Spn) (i : Nat) : Spn := l.getD i default
def stnAt (l : List Stn) (i : Nat) : Stn := l.getD i default
def cnrAt (l : List Cnr) (i : Nat) : Cnr := l.getD i default
def itmAt (l : List Itm) (i : Nat) : Itm := l.getD i default
def Pln.cA (P : Pln) (e : Nat) : Cnr := cnrAt P.corners e
def Pln.cB (P : Pln) (e : Nat) : Cnr := cnrAt P.corners ((e + 1) % P.corners.length)
def Pln.dw (P : Pln) (e : Nat) : Int := (P.cB e).weight - (P.cA e).weight
def Pln.dm (P : Pln) (e : Nat) : Int := (P.cB e).moment - (P.cA e).moment
def Pln.side (P : Pln) (e : Nat) (w m : Int) : Int := P.dw e * (m - (P.cA e).moment) - P.dm e * (w - (P.cA e).weight)
def Pln.slope (P : Pln) (e : Nat) (arm : Int) : Int := P.dw e * arm - P.dm e
def StnOk (s : Stn) : Prop := (-1000 ≤ s.arm ∧ s.arm ≤ 1000) ∧ 0 ≤ s.most ∧ s.most ≤ 20000
structure PlnOk (P : Pln) : Prop where
  empty : 1 ≤ P.empty ∧ P.empty ≤ 20000
  moment : -20000000 ≤ P.moment ∧ P.moment ≤ 20000000
  takeoff : 0 ≤ P.takeoff ∧ P.takeoff ≤ 20000
  landing : 0 ≤ P.landing ∧ P.landing ≤ 20000
  reserve : 0 ≤ P.reserve ∧ P.reserve ≤ 20000
  n : 3 ≤ P.corners.length ∧ P.corners.length ≤ 12
  ns : P.stations.length ≤ 8
  nf : P.floats.length ≤ 2
  tank : StnOk P.tank
  station : ∀ i, i < P.stations.length → StnOk (stnAt P.stations i)
  float : ∀ i, i < P.floats.length → StnOk (stnAt P.floats i)
  corner : ∀ i, i < P.corners.length → (0 ≤ (cnrAt P.corners i).weight ∧ (cnrAt P.corners i).weight ≤ 20000) ∧ -20000000 ≤ (cnrAt P.corners i).moment ∧ (cnrAt P.corners i).moment ≤ 20000000
  convex : ∀ e, e < P.corners.length → ∀ k, k < P.corners.length → k ≠ e → k ≠ (e + 1) % P.corners.length → 0 < P.side e (cnrAt P.corners k).weight (cnrAt P.corners k).moment
structure PntOk (P : Pln) (X : Pnt) : Prop where
  n : X.items.length ≤ 12
  item : ∀ i, i < X.items.length → (0 ≤ (itmAt X.items i).station ∧ (itmAt X.items i).station < P.stations.length) ∧ 0 ≤ (itmAt X.items i).low ∧ (itmAt X.items i).low ≤ (itmAt X.items i).high ∧ (itmAt X.items i).high ≤ 20000
  tank : -120000 ≤ X.tank.low ∧ X.tank.low ≤ X.tank.high ∧ X.tank.high ≤ 140000
  nw : X.water.length = P.floats.length
  water : ∀ i, i < X.water.length → 0 ≤ (spnAt X.water i).low ∧ (spnAt X.water i).low ≤ (spnAt X.water i).high ∧ (spnAt X.water i).high ≤ 120000
def armI (P : Pln) (X : Pnt) (i : Nat) : Int := (stnAt P.stations (itmAt X.items i).station.toNat).arm
def armF (P : Pln) (i : Nat) : Int := (stnAt P.floats i).arm
def overB (P : Pln) (X : Pnt) (s : Nat) : Bool := decide ((stnAt P.stations s).most < sumN (fun i => if (itmAt X.items i).station = s then (itmAt X.items i).high else 0) X.items.length)
def fullB (P : Pln) (X : Pnt) : Bool := decide (P.tank.most < X.tank.high)
def wetB (P : Pln) (X : Pnt) (i : Nat) : Bool := decide ((stnAt P.floats i).most < (spnAt X.water i).high)
def limitP (P : Pln) (X : Pnt) : Int := if X.landing = true then P.landing else P.takeoff
def highW (P : Pln) (X : Pnt) : Int := P.empty + X.tank.high + sumN (fun i => (itmAt X.items i).high) X.items.length + sumN (fun i => (spnAt X.water i).high) X.water.length
def heavyB (P : Pln) (X : Pnt) : Bool := decide (limitP P X < highW P X)
def minS (s lo hi : Int) : Int := min (s * lo) (s * hi)
def maxS (s lo hi : Int) : Int := max (s * lo) (s * hi)
def leastE (P : Pln) (X : Pnt) (e : Nat) : Int := P.side e P.empty P.moment + sumN (fun i => minS (P.slope e (armI P X i)) (itmAt X.items i).low (itmAt X.items i).high) X.items.length + minS (P.slope e P.tank.arm) X.tank.low X.tank.high + sumN (fun i => minS (P.slope e (armF P i)) (spnAt X.water i).low (spnAt X.water i).high) X.water.length
def outB (P : Pln) (X : Pnt) (e : Nat) : Bool := decide (leastE P X e < 0)
def shortB (P : Pln) (X : Pnt) : Bool := X.landing && decide (X.tank.low < P.reserve)
def manyR (P : Pln) (r : Nat) : Nat := if r = 2 then P.stations.length else if r = 4 then P.floats.length else if r = 6 then P.corners.length else 1
def canB (P : Pln) (X : Pnt) (r i : Nat) : Bool :=
  if r = 2 then overB P X i else if r = 3 then fullB P X else if r = 4 then wetB P X i else if r = 5 then heavyB P X else if r = 6 then outB P X i else shortB P X
def fstN (p : Nat → Bool) : Nat → Option Nat
  | 0 => none
  | n + 1 => match fstN p n with
    | some k => some k
    | none => if p n = true then some n else none
theorem fstN_none {p : Nat → Bool} : ∀ {n : Nat}, fstN p n = none ↔ ∀ k, k < n → p k = false
  | 0 => by simp [fstN]
  | n + 1 => by
    simp only [fstN]
    cases h : fstN p n with
    | some k =>
      refine ⟨fun h1 => (by cases h1), fun h1 => ?_⟩
      rw [fstN_none.2 fun k hk => h1 k (by omega)] at h; cases h
    | none =>
      have ih := fstN_none.1 h
      by_cases hp : p n = true
      · simp only [hp, if_true]
        refine ⟨fun h1 => (by cases h1), fun h1 => ?_⟩
        rw [h1 n (by omega)] at hp; cases hp
      · rw [if_neg hp]
        refine ⟨fun _ k hk => ?_, fun _ => rfl⟩
        rcases Nat.lt_or_eq_of_le (Nat.le_of_lt_succ hk) with h1 | rfl
        · exact ih k h1
        · simpa using hp
theorem fstN_some {p : Nat → Bool} {j : Nat} : ∀ {n : Nat}, fstN p n = some j ↔ j < n ∧ p j = true ∧ ∀ k, k < j → p k = false
  | 0 => by simp [fstN]
  | n + 1 => by
    simp only [fstN]
    cases h : fstN p n with
    | some k =>
      obtain ⟨h1, h2, h3⟩ := fstN_some.1 h
      simp only [Option.some.injEq]
      refine ⟨fun e => by subst e; exact ⟨by omega, h2, h3⟩, fun ⟨g1, g2, g3⟩ => ?_⟩
      rcases Nat.lt_trichotomy k j with h4 | h4 | h4
      · rw [g3 k h4] at h2; cases h2
      · exact h4
      · rw [h3 j h4] at g2; cases g2
    | none =>
      have ih := fstN_none.1 h
      by_cases hp : p n = true
      · simp only [hp, if_true, Option.some.injEq]
        refine ⟨fun e => by subst e; exact ⟨by omega, hp, ih⟩, fun ⟨g1, g2, g3⟩ => ?_⟩
        rcases Nat.lt_or_eq_of_le (Nat.le_of_lt_succ g1) with h1 | h1
        · rw [ih j h1] at g2; cases g2
        · exact h1.symm
      · rw [if_neg hp]
        refine ⟨fun h1 => (by cases h1), fun ⟨g1, g2, g3⟩ => ?_⟩
        rcases Nat.lt_or_eq_of_le (Nat.le_of_lt_succ g1) with h1 | h1
        · rw [ih j h1] at g2; cases g2
        · subst h1; exact absurd g2 hp
def brokenF (p : Nat → Nat → Bool) (many : Nat → Nat) : Nat → Nat → Nat × Nat
  | 0, _ => (1, 0)
  | c + 1, r => match fstN (p r) (many r) with
    | some i => (r, i)
    | none => brokenF p many c (r + 1)
def brokenP (P : Pln) (X : Pnt) : Nat × Nat := brokenF (canB P X) (manyR P) 6 2
theorem brokenF_spec {p : Nat → Nat → Bool} {many : Nat → Nat} : ∀ (c r : Nat), (brokenF p many c r = (1, 0) ∧ ∀ q, r ≤ q → q < r + c → ∀ i, i < many q → p q i = false) ∨
    ∃ q i, brokenF p many c r = (q, i) ∧ (r ≤ q ∧ q < r + c) ∧ i < many q ∧ p q i = true ∧ (∀ k, k < i → p q k = false) ∧ ∀ s, r ≤ s → s < q → ∀ k, k < many s → p s k = false
  | 0, r => .inl ⟨rfl, fun q h1 h2 => by omega⟩
  | c + 1, r => by
    simp only [brokenF]
    cases h : fstN (p r) (many r) with
    | some i =>
      obtain ⟨h1, h2, h3⟩ := fstN_some.1 h
      exact .inr ⟨r, i, rfl, ⟨Nat.le_refl _, by omega⟩, h1, h2, h3, fun s h4 h5 => by omega⟩
    | none =>
      have h0 := fstN_none.1 h
      rcases brokenF_spec (p := p) (many := many) c (r + 1) with ⟨h1, h2⟩ | ⟨q, i, h1, h2, h3, h4, h5, h6⟩
      · refine .inl ⟨h1, fun q g1 g2 i hi => ?_⟩
        rcases Nat.lt_or_eq_of_le g1 with g | rfl
        · exact h2 q g (by omega) i hi
        · exact h0 i hi
      · refine .inr ⟨q, i, h1, ⟨by omega, by omega⟩, h3, h4, h5, fun s g1 g2 k hk => ?_⟩
        rcases Nat.lt_or_eq_of_le g1 with g | rfl
        · exact h6 s g g2 k hk
        · exact h0 k hk
def sureB (P : Pln) (X : Pnt) : Bool := decide ((brokenP P X).1 = 1)
theorem sure_iff {P : Pln} {X : Pnt} : sureB P X = true ↔ ∀ r, 2 ≤ r → r ≤ 7 → ∀ i, i < manyR P r → canB P X r i = false := by
  unfold sureB brokenP
  rw [decide_eq_true_eq]
  rcases brokenF_spec (p := canB P X) (many := manyR P) 6 2 with ⟨h1, h2⟩ | ⟨q, i, h1, h2, h3, h4, h5, h6⟩
  · rw [h1]
    exact ⟨fun _ r g1 g2 i hi => h2 r g1 (by omega) i hi, fun _ => rfl⟩
  · rw [h1]
    refine ⟨fun e => ?_, fun g => ?_⟩
    · simp only at e; omega
    · rw [g q (by omega) (by omega) i h3] at h4; cases h4
end
section
set_option maxRecDepth 100000
structure Leg where
  items : List Itm
  pump : Bool
  fuel : Int
  burn : Spn
  leak : Spn
  deriving Inhabited
def legAt (l : List Leg) (i : Nat) : Leg := l.getD i default
structure LegOk (P : Pln) (l : Leg) : Prop where
  n : l.items.length ≤ 12
  item : ∀ i, i < l.items.length → (0 ≤ (itmAt l.items i).station ∧ (itmAt l.items i).station < P.stations.length) ∧ 0 ≤ (itmAt l.items i).low ∧ (itmAt l.items i).low ≤ (itmAt l.items i).high ∧ (itmAt l.items i).high ≤ 20000
  fuel : 0 ≤ l.fuel ∧ l.fuel ≤ 20000
  burn : 0 ≤ l.burn.low ∧ l.burn.low ≤ l.burn.high ∧ l.burn.high ≤ 20000
  leak : 0 ≤ l.leak.low ∧ l.leak.low ≤ l.leak.high ∧ l.leak.high ≤ 20000
structure TripOk (P : Pln) (fuel : Spn) (legs : List Leg) : Prop where
  fuel : 0 ≤ fuel.low ∧ fuel.low ≤ fuel.high ∧ fuel.high ≤ 20000
  n : 1 ≤ legs.length ∧ legs.length ≤ 6
  leg : ∀ i, i < legs.length → LegOk P (legAt legs i)
def stT (fuel : Spn) (legs : List Leg) : Nat → Spn
  | 0 => fuel
  | k + 1 => ⟨(stT fuel legs k).low + (legAt legs k).fuel - (legAt legs k).burn.high, (stT fuel legs k).high + (legAt legs k).fuel - (legAt legs k).burn.low⟩
def stF (legs : List Leg) : Nat → Spn
  | 0 => ⟨0, 0⟩
  | k + 1 => if (legAt legs k).pump = true then ⟨0 + (legAt legs k).leak.low, 0 + (legAt legs k).leak.high⟩ else ⟨(stF legs k).low + (legAt legs k).leak.low, (stF legs k).high + (legAt legs k).leak.high⟩
def stG (legs : List Leg) (k : Nat) : Spn := if (legAt legs k).pump = true then ⟨0, 0⟩ else stF legs k
theorem stF_succ (legs : List Leg) (k : Nat) : stF legs (k + 1) = ⟨(stG legs k).low + (legAt legs k).leak.low, (stG legs k).high + (legAt legs k).leak.high⟩ := by
  simp only [stF, stG]; split <;> rfl
def ptA (P : Pln) (fuel : Spn) (legs : List Leg) (k : Nat) : Pnt := ⟨(legAt legs k).items, ⟨(stT fuel legs k).low + (legAt legs k).fuel, (stT fuel legs k).high + (legAt legs k).fuel⟩, List.replicate P.floats.length (stG legs k), false⟩
def ptB (P : Pln) (fuel : Spn) (legs : List Leg) (k : Nat) : Pnt := ⟨(legAt legs k).items, stT fuel legs (k + 1), List.replicate P.floats.length (stF legs (k + 1)), true⟩
def ptOf (P : Pln) (fuel : Spn) (legs : List Leg) (j : Nat) : Pnt := if j % 2 = 0 then ptA P fuel legs (j / 2) else ptB P fuel legs (j / 2)
def ptsL (P : Pln) (fuel : Spn) (legs : List Leg) (n : Nat) : List Pnt := (List.range n).map (ptOf P fuel legs)
theorem ptOf_even (P : Pln) (fuel : Spn) (legs : List Leg) (k : Nat) : ptOf P fuel legs (2 * k) = ptA P fuel legs k := by
  unfold ptOf; rw [if_pos (by omega), show 2 * k / 2 = k from by omega]
theorem ptOf_odd (P : Pln) (fuel : Spn) (legs : List Leg) (k : Nat) : ptOf P fuel legs (2 * k + 1) = ptB P fuel legs k := by
  unfold ptOf; rw [if_neg (by omega), show (2 * k + 1) / 2 = k from by omega]
def tripP (P : Pln) (fuel : Spn) (legs : List Leg) : Option Nat := fstN (fun j => !sureB P (ptOf P fuel legs j)) (2 * legs.length)
def sureT (P : Pln) (fuel : Spn) (legs : List Leg) : Prop := ∀ j, j < 2 * legs.length → sureB P (ptOf P fuel legs j) = true
theorem trip_none {P : Pln} {fuel : Spn} {legs : List Leg} : tripP P fuel legs = none ↔ sureT P fuel legs := by
  unfold tripP sureT
  rw [fstN_none]
  exact forall_congr' fun j => forall_congr' fun _ => by cases sureB P (ptOf P fuel legs j) <;> simp
theorem stT_bounds {P : Pln} {fuel : Spn} {legs : List Leg} (h : TripOk P fuel legs) : ∀ k, k ≤ legs.length → -20000 * (k : Int) ≤ (stT fuel legs k).low ∧ (stT fuel legs k).low ≤ (stT fuel legs k).high ∧ (stT fuel legs k).high ≤ 20000 * ((k : Int) + 1)
  | 0, _ => by simp only [stT]; have := h.fuel; omega
  | k + 1, hk => by
    have ih := stT_bounds h k (by omega)
    have hl := h.leg k (by omega)
    have := hl.fuel
    have := hl.burn
    simp only [stT]; push_cast; omega
theorem stF_bounds {P : Pln} {fuel : Spn} {legs : List Leg} (h : TripOk P fuel legs) : ∀ k, k ≤ legs.length → 0 ≤ (stF legs k).low ∧ (stF legs k).low ≤ (stF legs k).high ∧ (stF legs k).high ≤ 20000 * (k : Int)
  | 0, _ => by simp [stF]
  | k + 1, hk => by
    have ih := stF_bounds h k (by omega)
    have hl := (h.leg k (by omega)).leak
    simp only [stF]; push_cast
    split <;> simp only <;> omega
theorem stG_bounds {P : Pln} {fuel : Spn} {legs : List Leg} (h : TripOk P fuel legs) (k : Nat) (hk : k ≤ legs.length) : 0 ≤ (stG legs k).low ∧ (stG legs k).low ≤ (stG legs k).high ∧ (stG legs k).high ≤ 20000 * (k : Int) := by
  have := stF_bounds h k hk
  unfold stG
  split
  · simp only; omega
  · exact this
theorem spnAt_rep {s : Spn} {n i : Nat} (h : i < n) : spnAt (List.replicate n s) i = s := by simp [spnAt, h]
theorem ptA_ok {P : Pln} {fuel : Spn} {legs : List Leg} (h : TripOk P fuel legs) {k : Nat} (hk : k < legs.length) : PntOk P (ptA P fuel legs k) := by
  have hl := h.leg k hk
  have hn := h.n
  have ht := stT_bounds h k (by omega)
  have hg := stG_bounds h k (by omega)
  have hf := hl.fuel
  refine ⟨hl.n, hl.item, ?_, by simp [ptA], fun i hi => ?_⟩
  · simp only [ptA]; omega
  · simp only [ptA, List.length_replicate] at hi ⊢
    rw [spnAt_rep hi]; omega
theorem ptB_ok {P : Pln} {fuel : Spn} {legs : List Leg} (h : TripOk P fuel legs) {k : Nat} (hk : k < legs.length) : PntOk P (ptB P fuel legs k) := by
  have hl := h.leg k hk
  have hn := h.n
  have ht := stT_bounds h (k + 1) (by omega)
  have hg := stF_bounds h (k + 1) (by omega)
  refine ⟨hl.n, hl.item, ?_, by simp [ptB], fun i hi => ?_⟩
  · simp only [ptB]; omega
  · simp only [ptB, List.length_replicate] at hi ⊢
    rw [spnAt_rep hi]; omega
theorem ptOf_ok {P : Pln} {fuel : Spn} {legs : List Leg} (h : TripOk P fuel legs) {j : Nat} (hj : j < 2 * legs.length) : PntOk P (ptOf P fuel legs j) := by
  unfold ptOf
  split
  · exact ptA_ok h (by omega)
  · exact ptB_ok h (by omega)
end
section
set_option maxRecDepth 100000
def moreX (X : Pnt) (n : Int) : Pnt := ⟨X.items, ⟨X.tank.low + n, X.tank.high + n⟩, X.water, X.landing⟩
theorem stT_shift (legs : List Leg) (n : Int) : ∀ k, stT ⟨n, n⟩ legs k = ⟨(stT ⟨0, 0⟩ legs k).low + n, (stT ⟨0, 0⟩ legs k).high + n⟩
  | 0 => by simp [stT]
  | k + 1 => by
    simp only [stT, stT_shift legs n k, Spn.mk.injEq]
    omega
theorem ptOf_shift (P : Pln) (legs : List Leg) (n : Int) (j : Nat) : ptOf P ⟨n, n⟩ legs j = moreX (ptOf P ⟨0, 0⟩ legs j) n := by
  unfold ptOf
  split
  · simp only [ptA, moreX, stT_shift legs n, Pnt.mk.injEq, Spn.mk.injEq, true_and, and_true]
    omega
  · simp only [ptB, moreX, stT_shift legs n]
theorem minS_shift (s lo hi n : Int) : minS s (lo + n) (hi + n) = minS s lo hi + s * n := by
  unfold minS
  rw [Int.mul_add, Int.mul_add]; omega
def UpB (p : Int → Bool) : Prop := ∀ n m, n ≤ m → p n = true → p m = true
def DownB (p : Int → Bool) : Prop := ∀ n m, n ≤ m → p m = true → p n = true
theorem can_shift (P : Pln) (X : Pnt) (r i : Nat) : UpB (fun n => canB P (moreX X n) r i) ∨ DownB (fun n => canB P (moreX X n) r i) := by
  by_cases h2 : r = 2
  · subst h2; left; intro n m _ h; exact h
  by_cases h3 : r = 3
  · subst h3
    left; intro n m hnm h
    have h : decide (P.tank.most < X.tank.high + n) = true := h
    show decide (P.tank.most < X.tank.high + m) = true
    rw [decide_eq_true_eq] at h ⊢
    omega
  by_cases h4 : r = 4
  · subst h4; left; intro n m _ h; exact h
  by_cases h5 : r = 5
  · subst h5
    left; intro n m hnm h
    have h : decide (limitP P X < P.empty + (X.tank.high + n) + sumN (fun i => (itmAt X.items i).high) X.items.length + sumN (fun i => (spnAt X.water i).high) X.water.length) = true := h
    show decide (limitP P X < P.empty + (X.tank.high + m) + sumN (fun i => (itmAt X.items i).high) X.items.length + sumN (fun i => (spnAt X.water i).high) X.water.length) = true
    rw [decide_eq_true_eq] at h ⊢
    omega
  by_cases h6 : r = 6
  · have e : ∀ n, leastE P (moreX X n) i = leastE P X i + P.slope i P.tank.arm * n := fun n => by
      unfold leastE
      simp only [moreX, minS_shift]
      have : ∀ j, armI P ⟨X.items, ⟨X.tank.low + n, X.tank.high + n⟩, X.water, X.landing⟩ j = armI P X j := fun _ => rfl
      simp only [this]; omega
    have g : ∀ n, canB P (moreX X n) r i = decide (leastE P X i + P.slope i P.tank.arm * n < 0) := fun n => by
      unfold canB
      rw [if_neg h2, if_neg h3, if_neg h4, if_neg h5, if_pos h6]; unfold outB; rw [e]
    rcases Int.lt_or_le (P.slope i P.tank.arm) 0 with hs | hs
    · left; intro n m hnm h
      simp only [g, decide_eq_true_eq] at h ⊢
      have := Int.mul_le_mul_of_nonpos_left (show P.slope i P.tank.arm ≤ 0 by omega) hnm
      omega
    · right; intro n m hnm h
      simp only [g, decide_eq_true_eq] at h ⊢
      have := Int.mul_le_mul_of_nonneg_left hnm hs
      omega
  · have g : ∀ n, canB P (moreX X n) r i = (X.landing && decide (X.tank.low + n < P.reserve)) := fun n => by
      unfold canB
      rw [if_neg h2, if_neg h3, if_neg h4, if_neg h5, if_neg h6]; rfl
    right; intro n m hnm h
    simp only [g, Bool.and_eq_true, decide_eq_true_eq] at h ⊢
    exact ⟨h.1, by omega⟩
def idxR (P : Pln) (j : Nat) : Nat → List (Nat × Nat × Nat)
  | 0 => []
  | c + 1 => idxR P j c ++ (List.range (manyR P (c + 2))).map fun i => (j, c + 2, i)
def idxT (P : Pln) : Nat → List (Nat × Nat × Nat)
  | 0 => []
  | n + 1 => idxT P n ++ idxR P n 6
theorem mem_idxR {P : Pln} {j : Nat} {x : Nat × Nat × Nat} : ∀ {c : Nat}, x ∈ idxR P j c ↔ x.1 = j ∧ (2 ≤ x.2.1 ∧ x.2.1 < c + 2) ∧ x.2.2 < manyR P x.2.1
  | 0 => by simp [idxR]; omega
  | c + 1 => by
    simp only [idxR, List.mem_append, mem_idxR, List.mem_map, List.mem_range]
    constructor
    · rintro (⟨h1, h2, h3⟩ | ⟨i, hi, rfl⟩)
      · exact ⟨h1, by omega, h3⟩
      · exact ⟨rfl, by simp only; omega, hi⟩
    · rintro ⟨h1, h2, h3⟩
      by_cases h : x.2.1 = c + 2
      · refine .inr ⟨x.2.2, by rw [← h]; exact h3, ?_⟩
        rw [← h, ← h1]
      · exact .inl ⟨h1, by omega, h3⟩
theorem mem_idxT {P : Pln} {x : Nat × Nat × Nat} : ∀ {n : Nat}, x ∈ idxT P n ↔ x.1 < n ∧ (2 ≤ x.2.1 ∧ x.2.1 ≤ 7) ∧ x.2.2 < manyR P x.2.1
  | 0 => by simp [idxT]
  | n + 1 => by
    simp only [idxT, List.mem_append, mem_idxT, mem_idxR]
    omega
def canX (P : Pln) (legs : List Leg) (n : Int) (x : Nat × Nat × Nat) : Bool := canB P (ptOf P ⟨n, n⟩ legs x.1) x.2.1 x.2.2
def breaksL (P : Pln) (legs : List Leg) (n : Int) : List Bool := (idxT P (2 * legs.length)).map (canX P legs n)
def brkK (P : Pln) (legs : List Leg) (k : Nat) (n : Int) : Bool := (breaksL P legs n).getD k false
theorem breaksL_length (P : Pln) (legs : List Leg) (n : Int) : (breaksL P legs n).length = (idxT P (2 * legs.length)).length := by simp [breaksL]
theorem sure_breaks {P : Pln} {legs : List Leg} {n : Int} : sureT P ⟨n, n⟩ legs ↔ ∀ k, k < (idxT P (2 * legs.length)).length → brkK P legs k n = false := by
  constructor
  · intro h k hk
    have hm := List.getElem_mem hk
    obtain ⟨h1, h2, h3⟩ := mem_idxT.1 hm
    have := (sure_iff.1 (h _ h1)) _ h2.1 h2.2 _ h3
    simp only [brkK, breaksL, List.getD_eq_getElem?_getD, List.getElem?_map, List.getElem?_eq_getElem hk, Option.map_some, Option.getD_some]
    exact this
  · intro h j hj
    rw [sure_iff]
    intro r h1 h2 i hi
    have hm : (j, r, i) ∈ idxT P (2 * legs.length) := mem_idxT.2 ⟨hj, ⟨h1, h2⟩, hi⟩
    obtain ⟨k, hk, he⟩ := List.getElem_of_mem hm
    have := h k hk
    simp only [brkK, breaksL, List.getD_eq_getElem?_getD, List.getElem?_map, List.getElem?_eq_getElem hk, Option.map_some, Option.getD_some, he] at this
    exact this
theorem brk_shift (P : Pln) (legs : List Leg) (k : Nat) : UpB (brkK P legs k) ∨ DownB (brkK P legs k) := by
  by_cases hk : k < (idxT P (2 * legs.length)).length
  · have e : ∀ n, brkK P legs k n = canB P (moreX (ptOf P ⟨0, 0⟩ legs ((idxT P (2 * legs.length))[k]).1) n) ((idxT P (2 * legs.length))[k]).2.1 ((idxT P (2 * legs.length))[k]).2.2 := fun n => by
      simp only [brkK, breaksL, List.getD_eq_getElem?_getD, List.getElem?_map, List.getElem?_eq_getElem hk, Option.map_some, Option.getD_some, canX]
      rw [ptOf_shift]
    have := can_shift P (ptOf P ⟨0, 0⟩ legs ((idxT P (2 * legs.length))[k]).1) ((idxT P (2 * legs.length))[k]).2.1 ((idxT P (2 * legs.length))[k]).2.2
    rw [show brkK P legs k = fun n => canB P (moreX (ptOf P ⟨0, 0⟩ legs ((idxT P (2 * legs.length))[k]).1) n) ((idxT P (2 * legs.length))[k]).2.1 ((idxT P (2 * legs.length))[k]).2.2 from funext e]
    exact this
  · left
    intro n m _ h
    simp only [brkK, List.getD_eq_getElem?_getD] at h
    rw [List.getElem?_eq_none (by rw [breaksL_length]; omega)] at h
    cases h
def endOf (p : Int → Bool) (K : Nat) : Int := match fstN (fun n => !p n) (K + 1) with
  | some k => k
  | none => 0
theorem endOf_spec {p : Int → Bool} {K : Nat} (h : p K = false) : (0 ≤ endOf p K ∧ endOf p K ≤ K) ∧ p (endOf p K) = false ∧ ∀ n : Int, 0 ≤ n → n < endOf p K → p n = true := by
  unfold endOf
  cases hf : fstN (fun n : Nat => !p n) (K + 1) with
  | some k =>
    obtain ⟨h1, h2, h3⟩ := fstN_some.1 hf
    refine ⟨by simp only; omega, by simpa using h2, fun n hn hk => ?_⟩
    have := h3 n.toNat (by simp only at hk; omega)
    rw [show ((n.toNat : Nat) : Int) = n from by omega] at this
    simpa using this
  | none =>
    have := fstN_none.1 hf K (by omega)
    simp [h] at this
def fuelTo (p : Nat → Int → Bool) (K : Nat) : Nat → Option Int
  | 0 => some 0
  | k + 1 => match fuelTo p K k with
    | none => none
    | some low => if p k 0 = true ∧ p k K = true then none else if p k 0 = true then some (max low (endOf (p k) K)) else some low
theorem fuelTo_spec {p : Nat → Int → Bool} {K : Nat} (hp : ∀ k, UpB (p k) ∨ DownB (p k)) : ∀ N, match fuelTo p K N with
    | none => ∃ k, k < N ∧ ∀ n : Int, 0 ≤ n → n ≤ K → p k n = true
    | some low => (0 ≤ low ∧ low ≤ K) ∧ (∀ n : Int, 0 ≤ n → n ≤ K → (∀ k, k < N → p k n = false) → low ≤ n) ∧ ∀ k, k < N → DownB (p k) → p k low = true → p k 0 = false
  | 0 => by simp only [fuelTo]; exact ⟨by omega, fun n h0 _ _ => h0, fun k hk => by omega⟩
  | N + 1 => by
    have ih := fuelTo_spec (K := K) hp N
    simp only [fuelTo]
    cases hf : fuelTo p K N with
    | none =>
      rw [hf] at ih
      obtain ⟨k, hk, h⟩ := ih
      exact ⟨k, by omega, h⟩
    | some low =>
      rw [hf] at ih
      obtain ⟨h1, h2, h3⟩ := ih
      simp only
      by_cases c1 : p N 0 = true ∧ p N K = true
      · rw [if_pos c1]
        refine ⟨N, by omega, fun n hn hK => ?_⟩
        rcases hp N with h | h
        · exact h 0 n hn c1.1
        · exact h n K hK c1.2
      · rw [if_neg c1]
        by_cases c2 : p N 0 = true
        · rw [if_pos c2]
          have hK : p N K = false := by
            cases h : p N K with
            | false => rfl
            | true => exact absurd ⟨c2, h⟩ c1
          obtain ⟨e1, e2, e3⟩ := endOf_spec hK
          refine ⟨by omega, fun n hn hnK hall => ?_, fun k hk hd hl => ?_⟩
          · have g1 := h2 n hn hnK fun k hk => hall k (by omega)
            have g2 : endOf (p N) K ≤ n := by
              rcases Int.lt_or_le n (endOf (p N) K) with h | h
              · have := e3 n hn h
                rw [hall N (by omega)] at this; cases this
              · exact h
            omega
          · rcases Nat.lt_or_eq_of_le (Nat.le_of_lt_succ hk) with h | rfl
            · exact h3 k h hd (hd _ _ (Int.le_max_left ..) hl)
            · have := hd _ _ (Int.le_max_right low (endOf (p k) K)) hl
              rw [e2] at this; cases this
        · rw [if_neg c2]
          refine ⟨h1, fun n hn hnK hall => h2 n hn hnK fun k hk => hall k (by omega), fun k hk hd hl => ?_⟩
          rcases Nat.lt_or_eq_of_le (Nat.le_of_lt_succ hk) with h | rfl
          · exact h3 k h hd hl
          · simpa using c2
def fuelP (P : Pln) (legs : List Leg) : Option Int := match fuelTo (brkK P legs) 20000 (idxT P (2 * legs.length)).length with
  | none => none
  | some low => if (tripP P ⟨low, low⟩ legs).isNone = true then some low else none
theorem fuel_law (P : Pln) (legs : List Leg) : match fuelP P legs with
    | none => ∀ n : Int, 0 ≤ n → n ≤ 20000 → ¬ sureT P ⟨n, n⟩ legs
    | some low => (0 ≤ low ∧ low ≤ 20000) ∧ sureT P ⟨low, low⟩ legs ∧ ∀ n : Int, 0 ≤ n → n < low → ¬ sureT P ⟨n, n⟩ legs := by
  have h := fuelTo_spec (p := brkK P legs) (K := 20000) (brk_shift P legs) (idxT P (2 * legs.length)).length
  unfold fuelP
  cases hf : fuelTo (brkK P legs) 20000 (idxT P (2 * legs.length)).length with
  | none =>
    rw [hf] at h
    obtain ⟨k, hk, h⟩ := h
    intro n hn hK hs
    have := sure_breaks.1 hs k hk
    rw [h n hn (by omega)] at this; cases this
  | some low =>
    rw [hf] at h
    obtain ⟨h1, h2, h3⟩ := h
    simp only
    have key : ∀ n : Int, 0 ≤ n → n ≤ 20000 → sureT P ⟨n, n⟩ legs → low ≤ n := fun n hn hK hs => h2 n hn (by omega) (sure_breaks.1 hs)
    by_cases hs : (tripP P ⟨low, low⟩ legs).isNone = true
    · rw [if_pos hs]
      have hs' : sureT P ⟨low, low⟩ legs := trip_none.1 (by simpa using hs)
      exact ⟨by omega, hs', fun n hn hlt hsn => by have := key n hn (by omega) hsn; omega⟩
    · rw [if_neg hs]
      intro n hn hK hsn
      have hle := key n hn hK hsn
      apply hs
      have : sureT P ⟨low, low⟩ legs := sure_breaks.2 fun k hk => by
        cases hb : brkK P legs k low with
        | false => rfl
        | true =>
          exfalso
          have hn0 := sure_breaks.1 hsn k hk
          rcases brk_shift P legs k with hu | hd
          · rw [hu _ _ hle hb] at hn0; cases hn0
          · have h0 := h3 k hk hd hb
            rw [hd _ _ h1.1 hb] at h0; cases h0
      rw [trip_none.2 this]; rfl
theorem fuel_span (P : Pln) (legs : List Leg) {a b c : Int} (h1 : a ≤ b) (h2 : b ≤ c) (ha : sureT P ⟨a, a⟩ legs) (hc : sureT P ⟨c, c⟩ legs) : sureT P ⟨b, b⟩ legs := sure_breaks.2 fun k hk => by
  cases hb : brkK P legs k b with
  | false => rfl
  | true =>
    rcases brk_shift P legs k with hu | hd
    · have := hu _ _ h2 hb
      rw [sure_breaks.1 hc k hk] at this; cases this
    · have := hd _ _ h1 hb
      rw [sure_breaks.1 ha k hk] at this; cases this
end
section
set_option maxRecDepth 100000
theorem sumN_split (f : Nat → Int) (a : Nat) : ∀ b, sumN f (a + b) = sumN f a + sumN (fun i => f (a + i)) b
  | 0 => by simp [sumN]
  | b + 1 => by rw [← Nat.add_assoc]; simp only [sumN, sumN_split f a b]; omega
end
section
open Go.Proofs
set_option maxRecDepth 100000
set_option maxHeartbeats 4000000
attribute [local irreducible] pwp pops pdraw pop popCall pdCall thenP blockP scopeP pspec Spec answers ppost CallW
def Spn.cells (b : Spn) : List PV := [.v (.int .i64 b.low), .v (.int .i64 b.high)]
def spnL (l : List Spn) : PV := .sl 2 l.length fun i => (spnAt l i).cells
theorem Spn.eq_iff {x y : Spn} : x = y ↔ x.low = y.low ∧ x.high = y.high := by
  cases x; cases y; simp
theorem spnAt_mem {l : List Spn} {i : Nat} (h : i < l.length) : spnAt l i ∈ l := by simp [spnAt, h]
def rowsSp (l : List Spn) : List (List PV) := l.map Spn.cells
@[simp] theorem rowsSp_length (l : List Spn) : (rowsSp l).length = l.length := by simp [rowsSp]
@[simp] theorem renLL_rowsSp (π : Nat → Nat) (l : List Spn) : renLL π (rowsSp l) = rowsSp l := by
  induction l with
  | nil => rfl
  | cons x l ih => simpa [rowsSp, Spn.cells, renLL, renL, PV.ren] using ih
@[simp] theorem namesLL_rowsSp (l : List Spn) : namesLL (rowsSp l) = [] := by
  induction l with
  | nil => rfl
  | cons x l ih => simpa [rowsSp, Spn.cells, namesLL, namesL, PV.names] using ih
@[simp] theorem flatLL_rowsSp (l : List Spn) : flatLL (rowsSp l) = true := by
  induction l with
  | nil => rfl
  | cons x l ih => simpa [rowsSp, Spn.cells, flatLL, flatL, PV.flat] using ih
@[simp] theorem vwAllL_rowsSp (f : PF) (T : Tgt) (d : Nat) (a b : List Spn) : vo.vwAllL f T (d + 1) (rowsSp a) (rowsSp b) = (a = b) := by
  induction a generalizing b with
  | nil => cases b <;> simp [rowsSp, vo.vwAllL]
  | cons x a ih =>
    cases b with
    | nil => simp [rowsSp, vo.vwAllL]
    | cons y b =>
      have := ih b
      simp only [rowsSp] at this
      simp [rowsSp, vo.vwAllL, this, Spn.cells, Spn.eq_iff]
@[simp] theorem rowsSp_one {l : List Spn} : (∀ (x : List PV), x ∈ rowsSp l → ∀ (y : PV), y ∈ x → y.one = true) ↔ True := by
  refine ⟨fun _ => trivial, fun _ x hx y hy => ?_⟩
  obtain ⟨b, _, rfl⟩ := List.mem_map.1 hx
  simp [Spn.cells] at hy
  rcases hy with rfl | rfl <;> rfl
@[simp] theorem rowsSp_len1 {l : List Spn} : (∀ (x : List PV), x ∈ rowsSp l → x.length = 2) ↔ True := by
  refine ⟨fun _ => trivial, fun _ x hx => ?_⟩
  obtain ⟨b, _, rfl⟩ := List.mem_map.1 hx
  rfl
@[simp] theorem rowsSp_take (l : List Spn) (k : Nat) : (rowsSp l).take k = rowsSp (l.take k) := by simp [rowsSp]
@[simp] theorem rowsSp_nil : rowsSp [] = [] := rfl
theorem rowsSp_get {l : List Spn} {k : Nat} (h : k < l.length) : (rowsSp l)[k]? = some (spnAt l k).cells := by simp [rowsSp, spnAt, h]
@[simp] theorem rowsSp_getElem {l : List Spn} {k : Nat} (h : k < (rowsSp l).length) : (rowsSp l)[k] = (spnAt l k).cells := by
  have h2 : k < l.length := by simpa using h
  simp [rowsSp, spnAt, h2]
theorem rowsSp_snoc (l : List Spn) (x : Spn) : rowsSp l ++ [x.cells] = rowsSp (l ++ [x]) := by simp [rowsSp]
theorem rowsSp_set (l : List Spn) (k : Nat) (x : Spn) : (rowsSp l).set k x.cells = rowsSp (l.set k x) := by simp [rowsSp, List.map_set]
theorem rowsSp_range (l : List Spn) : (List.range l.length).map (fun i => (spnAt l i).cells) = rowsSp l := by
  refine List.ext_getElem? fun i => ?_
  by_cases h : i < l.length
  · rw [rowsSp_get h, List.getElem?_map, List.getElem?_range h]; rfl
  · rw [List.getElem?_eq_none (by simp; omega), List.getElem?_eq_none (by simp; omega)]
def Stn.cells (b : Stn) : List PV := [.v (.int .i64 b.arm), .v (.int .i64 b.most)]
def stnL (l : List Stn) : PV := .sl 2 l.length fun i => (stnAt l i).cells
theorem Stn.eq_iff {x y : Stn} : x = y ↔ x.arm = y.arm ∧ x.most = y.most := by
  cases x; cases y; simp
def Cnr.cells (b : Cnr) : List PV := [.v (.int .i64 b.weight), .v (.int .i64 b.moment)]
def cnrL (l : List Cnr) : PV := .sl 2 l.length fun i => (cnrAt l i).cells
theorem Cnr.eq_iff {x y : Cnr} : x = y ↔ x.weight = y.weight ∧ x.moment = y.moment := by
  cases x; cases y; simp
def Itm.cells (b : Itm) : List PV := [.v (.int .i64 b.station), .v (.int .i64 b.low), .v (.int .i64 b.high)]
def itmL (l : List Itm) : PV := .sl 3 l.length fun i => (itmAt l i).cells
theorem Itm.eq_iff {x y : Itm} : x = y ↔ x.station = y.station ∧ x.low = y.low ∧ x.high = y.high := by
  cases x; cases y; simp
def rowsIt (l : List Itm) : List (List PV) := l.map Itm.cells
@[simp] theorem rowsIt_length (l : List Itm) : (rowsIt l).length = l.length := by simp [rowsIt]
@[simp] theorem renLL_rowsIt (π : Nat → Nat) (l : List Itm) : renLL π (rowsIt l) = rowsIt l := by
  induction l with
  | nil => rfl
  | cons x l ih => simpa [rowsIt, Itm.cells, renLL, renL, PV.ren] using ih
@[simp] theorem namesLL_rowsIt (l : List Itm) : namesLL (rowsIt l) = [] := by
  induction l with
  | nil => rfl
  | cons x l ih => simpa [rowsIt, Itm.cells, namesLL, namesL, PV.names] using ih
@[simp] theorem flatLL_rowsIt (l : List Itm) : flatLL (rowsIt l) = true := by
  induction l with
  | nil => rfl
  | cons x l ih => simpa [rowsIt, Itm.cells, flatLL, flatL, PV.flat] using ih
@[simp] theorem vwAllL_rowsIt (f : PF) (T : Tgt) (d : Nat) (a b : List Itm) : vo.vwAllL f T (d + 1) (rowsIt a) (rowsIt b) = (a = b) := by
  induction a generalizing b with
  | nil => cases b <;> simp [rowsIt, vo.vwAllL]
  | cons x a ih =>
    cases b with
    | nil => simp [rowsIt, vo.vwAllL]
    | cons y b =>
      have := ih b
      simp only [rowsIt] at this
      simp [rowsIt, vo.vwAllL, this, Itm.cells, Itm.eq_iff]
@[simp] theorem rowsIt_one {l : List Itm} : (∀ (x : List PV), x ∈ rowsIt l → ∀ (y : PV), y ∈ x → y.one = true) ↔ True := by
  refine ⟨fun _ => trivial, fun _ x hx y hy => ?_⟩
  obtain ⟨b, _, rfl⟩ := List.mem_map.1 hx
  simp [Itm.cells] at hy
  rcases hy with rfl | rfl | rfl <;> rfl
@[simp] theorem rowsIt_len1 {l : List Itm} : (∀ (x : List PV), x ∈ rowsIt l → x.length = 3) ↔ True := by
  refine ⟨fun _ => trivial, fun _ x hx => ?_⟩
  obtain ⟨b, _, rfl⟩ := List.mem_map.1 hx
  rfl
@[simp] theorem rowsIt_take (l : List Itm) (k : Nat) : (rowsIt l).take k = rowsIt (l.take k) := by simp [rowsIt]
@[simp] theorem rowsIt_nil : rowsIt [] = [] := rfl
theorem rowsIt_get {l : List Itm} {k : Nat} (h : k < l.length) : (rowsIt l)[k]? = some (itmAt l k).cells := by simp [rowsIt, itmAt, h]
@[simp] theorem rowsIt_getElem {l : List Itm} {k : Nat} (h : k < (rowsIt l).length) : (rowsIt l)[k] = (itmAt l k).cells := by
  have h2 : k < l.length := by simpa using h
  simp [rowsIt, itmAt, h2]
theorem rowsIt_range (l : List Itm) : (List.range l.length).map (fun i => (itmAt l i).cells) = rowsIt l := by
  refine List.ext_getElem? fun i => ?_
  by_cases h : i < l.length
  · rw [rowsIt_get h, List.getElem?_map, List.getElem?_range h]; rfl
  · rw [List.getElem?_eq_none (by simp; omega), List.getElem?_eq_none (by simp; omega)]
structure Psn where
  low : Int
  high : Int
  station : Int
  first : Int
  last : Int
  worth : Int
  deriving DecidableEq, Inhabited
def Psn.cells (x : Psn) : List PV := [.v (.int .i64 x.low), .v (.int .i64 x.high), .v (.int .i64 x.station), .v (.int .i64 x.first), .v (.int .i64 x.last), .v (.int .i64 x.worth)]
def Leg.cells (x : Leg) : List PV := [itmL x.items, .v (.bool x.pump), .v (.int .i64 x.fuel), .v (.int .i64 x.burn.low), .v (.int .i64 x.burn.high), .v (.int .i64 x.leak.low), .v (.int .i64 x.leak.high)]
def legL (l : List Leg) : PV := .sl 7 l.length fun i => (legAt l i).cells
def Pln.cells (P : Pln) : List PV := [.v (.int .i64 P.empty), .v (.int .i64 P.moment), .v (.int .i64 P.takeoff), .v (.int .i64 P.landing), cnrL P.corners, stnL P.stations, .v (.int .i64 P.tank.arm), .v (.int .i64 P.tank.most), .v (.int .i64 P.reserve), stnL P.floats]
def Pnt.cells (X : Pnt) : List PV := [itmL X.items, .v (.int .i64 X.tank.low), .v (.int .i64 X.tank.high), spnL X.water, .v (.bool X.landing)]
def Cse.cells (c : Cse) : List PV := [ints c.items, .v (.int .i64 c.tank), ints c.water]
theorem allStn_spec (l : List Stn) (hl : l.length ≤ 9223372036854775807) (f : FuncId) (first cap : List PV) (h1 : plainL first = true) (h2 : plainL cap = true) (p : Nat → Bool)
    (h : ∀ k, k < l.length → Spec Tryz.prog f (first ++ ([.agg (stnAt l k).cells] ++ cap)) (.v (.bool (p k)))) : Spec Tryz.prog 212 [stnL l, .clo (.func f) first cap] (.v (.bool (allN l.length p))) := by
  refine spec_of mixed Tryz.func212 (by decide) rfl Tryz.results212 Tryz.ntmps212 (by decide) 0 (by simp) ?_
  simp [stnL, Stn.cells, renL_plain h1, renL_plain h2]
  refine pwp_loop (fun k : Nat => [(9, .v (.int .i64 k))]) (fun k => k ≤ l.length ∧ ∀ j, j < k → p j = true) (fun k => l.length - k) 0 ⟨Nat.zero_le _, fun j hj => by omega⟩ (by simp; rfl) (by simp [vwAll_plain h1, vwAll_plain h2]) ?_
  intro k ⟨hk, hp⟩
  by_cases hkl : k < l.length
  · simp [hkl, stnL, Stn.cells]
    refine pop_spec (h k hkl) rfl false (.inr ⟨by simp [stnL, Stn.cells], by simp [namesL_append, plainL_names h1, plainL_names h2, stnL, Stn.cells]⟩) (.inl rfl) rfl (by simp) ?_
    cases hpk : p k with
    | true =>
      simp
      refine again_of (k + 1) ⟨by omega, fun j hj => ?_⟩ (by omega) ?_
      · rcases Nat.lt_succ_iff_lt_or_eq.1 hj with hj | rfl
        · exact hp j hj
        · exact hpk
      · simp [i64_wrap (show -9223372036854775808 ≤ (k : Int) + 1 ∧ _ from by omega), vwAll_plain h1, vwAll_plain h2]
    | false =>
      simp
      refine answers_of rfl ?_; simp [allN_false hkl hpk]
  · simp [hkl]
    obtain rfl : k = l.length := by omega
    refine answers_of rfl ?_; simp [allN_spec.2 hp]
theorem allCnr_spec (l : List Cnr) (hl : l.length ≤ 9223372036854775807) (f : FuncId) (first cap : List PV) (h1 : plainL first = true) (h2 : plainL cap = true) (p : Nat → Bool)
    (h : ∀ k, k < l.length → Spec Tryz.prog f (first ++ ([.agg (cnrAt l k).cells] ++ cap)) (.v (.bool (p k)))) : Spec Tryz.prog 209 [cnrL l, .clo (.func f) first cap] (.v (.bool (allN l.length p))) := by
  refine spec_of mixed Tryz.func209 (by decide) rfl Tryz.results209 Tryz.ntmps209 (by decide) 0 (by simp) ?_
  simp [cnrL, Cnr.cells, renL_plain h1, renL_plain h2]
  refine pwp_loop (fun k : Nat => [(9, .v (.int .i64 k))]) (fun k => k ≤ l.length ∧ ∀ j, j < k → p j = true) (fun k => l.length - k) 0 ⟨Nat.zero_le _, fun j hj => by omega⟩ (by simp; rfl) (by simp [vwAll_plain h1, vwAll_plain h2]) ?_
  intro k ⟨hk, hp⟩
  by_cases hkl : k < l.length
  · simp [hkl, cnrL, Cnr.cells]
    refine pop_spec (h k hkl) rfl false (.inr ⟨by simp [cnrL, Cnr.cells], by simp [namesL_append, plainL_names h1, plainL_names h2, cnrL, Cnr.cells]⟩) (.inl rfl) rfl (by simp) ?_
    cases hpk : p k with
    | true =>
      simp
      refine again_of (k + 1) ⟨by omega, fun j hj => ?_⟩ (by omega) ?_
      · rcases Nat.lt_succ_iff_lt_or_eq.1 hj with hj | rfl
        · exact hp j hj
        · exact hpk
      · simp [i64_wrap (show -9223372036854775808 ≤ (k : Int) + 1 ∧ _ from by omega), vwAll_plain h1, vwAll_plain h2]
    | false =>
      simp
      refine answers_of rfl ?_; simp [allN_false hkl hpk]
  · simp [hkl]
    obtain rfl : k = l.length := by omega
    refine answers_of rfl ?_; simp [allN_spec.2 hp]
theorem allItm_spec (l : List Itm) (hl : l.length ≤ 9223372036854775807) (f : FuncId) (first cap : List PV) (h1 : plainL first = true) (h2 : plainL cap = true) (p : Nat → Bool)
    (h : ∀ k, k < l.length → Spec Tryz.prog f (first ++ ([.agg (itmAt l k).cells] ++ cap)) (.v (.bool (p k)))) : Spec Tryz.prog 225 [itmL l, .clo (.func f) first cap] (.v (.bool (allN l.length p))) := by
  refine spec_of mixed Tryz.func225 (by decide) rfl Tryz.results225 Tryz.ntmps225 (by decide) 0 (by simp) ?_
  simp [itmL, Itm.cells, renL_plain h1, renL_plain h2]
  refine pwp_loop (fun k : Nat => [(9, .v (.int .i64 k))]) (fun k => k ≤ l.length ∧ ∀ j, j < k → p j = true) (fun k => l.length - k) 0 ⟨Nat.zero_le _, fun j hj => by omega⟩ (by simp; rfl) (by simp [vwAll_plain h1, vwAll_plain h2]) ?_
  intro k ⟨hk, hp⟩
  by_cases hkl : k < l.length
  · simp [hkl, itmL, Itm.cells]
    refine pop_spec (h k hkl) rfl false (.inr ⟨by simp [itmL, Itm.cells], by simp [namesL_append, plainL_names h1, plainL_names h2, itmL, Itm.cells]⟩) (.inl rfl) rfl (by simp) ?_
    cases hpk : p k with
    | true =>
      simp
      refine again_of (k + 1) ⟨by omega, fun j hj => ?_⟩ (by omega) ?_
      · rcases Nat.lt_succ_iff_lt_or_eq.1 hj with hj | rfl
        · exact hp j hj
        · exact hpk
      · simp [i64_wrap (show -9223372036854775808 ≤ (k : Int) + 1 ∧ _ from by omega), vwAll_plain h1, vwAll_plain h2]
    | false =>
      simp
      refine answers_of rfl ?_; simp [allN_false hkl hpk]
  · simp [hkl]
    obtain rfl : k = l.length := by omega
    refine answers_of rfl ?_; simp [allN_spec.2 hp]
theorem allInt_spec (l : List Int) (hl : l.length ≤ 9223372036854775807) (f : FuncId) (first cap : List PV) (h1 : plainL first = true) (h2 : plainL cap = true) (p : Nat → Bool)
    (h : ∀ k, k < l.length → Spec Tryz.prog f (first ++ ([.v (.int .i64 (geti l k))] ++ cap)) (.v (.bool (p k)))) : Spec Tryz.prog 227 [ints l, .clo (.func f) first cap] (.v (.bool (allN l.length p))) := by
  refine spec_of mixed Tryz.func227 (by decide) rfl Tryz.results227 Tryz.ntmps227 (by decide) 0 (by simp) ?_
  simp [ints, renL_plain h1, renL_plain h2]
  refine pwp_loop (fun k : Nat => [(9, .v (.int .i64 k))]) (fun k => k ≤ l.length ∧ ∀ j, j < k → p j = true) (fun k => l.length - k) 0 ⟨Nat.zero_le _, fun j hj => by omega⟩ (by simp; rfl) (by simp [vwAll_plain h1, vwAll_plain h2]) ?_
  intro k ⟨hk, hp⟩
  by_cases hkl : k < l.length
  · simp [hkl, ints]
    refine pop_spec (h k hkl) rfl false (.inr ⟨by simp [ints], by simp [namesL_append, plainL_names h1, plainL_names h2, ints]⟩) (.inl rfl) rfl (by simp) ?_
    cases hpk : p k with
    | true =>
      simp
      refine again_of (k + 1) ⟨by omega, fun j hj => ?_⟩ (by omega) ?_
      · rcases Nat.lt_succ_iff_lt_or_eq.1 hj with hj | rfl
        · exact hp j hj
        · exact hpk
      · simp [i64_wrap (show -9223372036854775808 ≤ (k : Int) + 1 ∧ _ from by omega), vwAll_plain h1, vwAll_plain h2]
    | false =>
      simp
      refine answers_of rfl ?_; simp [allN_false hkl hpk]
  · simp [hkl]
    obtain rfl : k = l.length := by omega
    refine answers_of rfl ?_; simp [allN_spec.2 hp]
theorem allLeg_spec (l : List Leg) (hl : l.length ≤ 9223372036854775807) (f : FuncId) (first cap : List PV) (h1 : plainL first = true) (h2 : plainL cap = true) (p : Nat → Bool)
    (h : ∀ k, k < l.length → Spec Tryz.prog f (first ++ ([.agg (legAt l k).cells] ++ cap)) (.v (.bool (p k)))) : Spec Tryz.prog 204 [legL l, .clo (.func f) first cap] (.v (.bool (allN l.length p))) := by
  refine spec_of mixed Tryz.func204 (by decide) rfl Tryz.results204 Tryz.ntmps204 (by decide) 0 (by simp) ?_
  simp [legL, Leg.cells, itmL, renL_plain h1, renL_plain h2]
  refine pwp_loop (fun k : Nat => [(9, .v (.int .i64 k))]) (fun k => k ≤ l.length ∧ ∀ j, j < k → p j = true) (fun k => l.length - k) 0 ⟨Nat.zero_le _, fun j hj => by omega⟩ (by simp; rfl) (by simp [vwAll_plain h1, vwAll_plain h2]) ?_
  intro k ⟨hk, hp⟩
  by_cases hkl : k < l.length
  · simp [hkl, legL, Leg.cells, itmL]
    refine pop_spec (h k hkl) rfl false (.inr ⟨by simp [legL, Leg.cells, itmL], by simp [namesL_append, plainL_names h1, plainL_names h2, legL, Leg.cells, itmL]⟩) (.inl rfl) rfl (by simp) ?_
    cases hpk : p k with
    | true =>
      simp
      refine again_of (k + 1) ⟨by omega, fun j hj => ?_⟩ (by omega) ?_
      · rcases Nat.lt_succ_iff_lt_or_eq.1 hj with hj | rfl
        · exact hp j hj
        · exact hpk
      · simp [i64_wrap (show -9223372036854775808 ≤ (k : Int) + 1 ∧ _ from by omega), vwAll_plain h1, vwAll_plain h2]
    | false =>
      simp
      refine answers_of rfl ?_; simp [allN_false hkl hpk]
  · simp [hkl]
    obtain rfl : k = l.length := by omega
    refine answers_of rfl ?_; simp [allN_spec.2 hp]
end
section
open Go.Proofs
set_option maxRecDepth 100000
set_option maxHeartbeats 8000000
set_option linter.unusedSimpArgs false
attribute [local irreducible] pwp pops pdraw pop popCall pdCall thenP blockP scopeP pspec Spec answers ppost CallW
theorem lin_spec (n lo hi : Int) : Spec Tryz.prog 211 [.v (.int .i64 n), .v (.int .i64 lo), .v (.int .i64 hi)] (.v (.bool (inB n lo hi))) := by
  refine spec_of mixed Tryz.func211 (by decide) rfl Tryz.results211 Tryz.ntmps211 (by decide) 0 (by simp) ?_
  by_cases h1 : lo ≤ n
  · by_cases h2 : n ≤ hi <;> (simp [h1, h2]; refine answers_of rfl ?_; simp [inB, h1, h2])
  · simp [h1]; refine answers_of rfl ?_; simp [inB, h1]
def spanB (s : Spn) (lo hi : Int) : Bool := decide (lo ≤ s.low) && decide (s.low ≤ s.high) && decide (s.high ≤ hi)
theorem spanB_spec {s : Spn} {lo hi : Int} : spanB s lo hi = true ↔ lo ≤ s.low ∧ s.low ≤ s.high ∧ s.high ≤ hi := by simp [spanB, and_assoc]
theorem lspan_spec (s : Spn) (lo hi : Int) : Spec Tryz.prog 208 [.agg s.cells, .v (.int .i64 lo), .v (.int .i64 hi)] (.v (.bool (spanB s lo hi))) := by
  refine spec_of mixed Tryz.func208 (by decide) rfl Tryz.results208 Tryz.ntmps208 (by decide) 0 (by simp) ?_
  simp [Spn.cells]
  by_cases h1 : lo ≤ s.low
  · by_cases h2 : s.low ≤ s.high
    · by_cases h3 : s.high ≤ hi <;> (simp [h1, h2, h3]; refine answers_of rfl ?_; simp [spanB, h1, h2, h3])
    · simp [h1, h2, Int.not_le.1 h2]
      refine answers_of rfl ?_; simp [spanB, h1, h2]
  · simp [h1, Int.not_le.1 h1]; refine answers_of rfl ?_; simp [spanB, h1]
def stnB (s : Stn) : Bool := inB s.arm (-1000) 1000 && inB s.most 0 20000
theorem stnB_spec {s : Stn} : stnB s = true ↔ StnOk s := by simp [stnB, inB_spec, StnOk]
theorem station_spec (s : Stn) : Spec Tryz.prog 213 [.agg s.cells] (.v (.bool (stnB s))) := by
  refine spec_of mixed Tryz.func213 (by decide) rfl Tryz.results213 Tryz.ntmps213 (by decide) 0 (by simp) ?_
  simp [Stn.cells]
  refine pop_spec (lin_spec s.arm (-1000) 1000) rfl false (.inl (by simp)) (.inl rfl) rfl (by simp) ?_
  cases h1 : inB s.arm (-1000) 1000 with
  | false => simp; refine answers_of rfl ?_; simp [stnB, h1]
  | true =>
    simp
    refine pop_spec (lin_spec s.most 0 20000) rfl false (.inl (by simp)) (.inl rfl) rfl (by simp) ?_
    simp
    refine answers_of rfl ?_; simp [stnB, h1]
theorem kilos1_spec (n : Int) : Spec Tryz.prog 228 [.v (.int .i64 n)] (.v (.bool (inB n 0 20000))) := by
  refine spec_of mixed Tryz.func228 (by decide) rfl Tryz.results228 Tryz.ntmps228 (by decide) 0 (by simp) ?_
  simp
  refine pop_spec (lin_spec n 0 20000) rfl false (.inl (by simp)) (.inl rfl) rfl (by simp) ?_
  simp
  refine answers_of rfl ?_; simp
def kilosB (l : List Int) : Bool := allN l.length fun k => inB (geti l k) 0 20000
theorem lkilos_spec (l : List Int) (hl : l.length ≤ 9223372036854775807) : Spec Tryz.prog 207 [ints l] (.v (.bool (kilosB l))) := by
  refine spec_of mixed Tryz.func207 (by decide) rfl Tryz.results207 Tryz.ntmps207 (by decide) 0 (by simp) ?_
  simp [ints]
  refine pop_spec (allInt_spec l hl 228 [] [] rfl rfl (fun k => inB (geti l k) 0 20000) fun k hk => kilos1_spec (geti l k)) rfl false (.inl (by simp [ints])) (.inl rfl) rfl (by simp) ?_
  simp
  refine answers_of rfl ?_; simp [kilosB]
theorem kilosB_one (a : Int) : kilosB [a] = inB a 0 20000 := by simp [kilosB, allN, geti]
theorem kilosB_three (a b c : Int) : kilosB [a, b, c] = (inB a 0 20000 && inB b 0 20000 && inB c 0 20000) := by
  simp [kilosB, allN, geti, List.range, List.range.loop, Bool.and_assoc]
def edgC (P : Pln) (e : Nat) : List PV := [.v (.int .i64 e), .v (.int .i64 (P.cA e).weight), .v (.int .i64 (P.cA e).moment), .v (.int .i64 (P.dw e)), .v (.int .i64 (P.dm e))]
def Small (b x : Int) : Prop := -b ≤ x ∧ x ≤ b
theorem mul_small {a b x y : Int} (hx : Small a x) (hy : Small b y) (_ha : 0 ≤ a) (_hb : 0 ≤ b) : Small (a * b) (x * y) := by
  obtain ⟨h1, h2⟩ := hx
  obtain ⟨h3, h4⟩ := hy
  have key : (x * y).natAbs ≤ (a * b).natAbs := by
    rw [Int.natAbs_mul, Int.natAbs_mul]
    exact Nat.mul_le_mul (by omega) (by omega)
  have h5 : 0 ≤ a * b := Int.mul_nonneg _ha _hb
  constructor <;> omega
theorem side_spec (n w0 m0 dw dm w m : Int) (hw0 : Small 20000 w0) (hm0 : Small 20000000 m0) (hdw : Small 20000 dw) (hdm : Small 40000000 dm) (hw : Small 4000000 w) (hm : Small 4000000000 m) :
    Spec Tryz.prog 230 [.agg [.v (.int .i64 n), .v (.int .i64 w0), .v (.int .i64 m0), .v (.int .i64 dw), .v (.int .i64 dm)], .v (.int .i64 w), .v (.int .i64 m)] (.v (.int .i64 (dw * (m - m0) - dm * (w - w0)))) := by
  have h1 : Small 4020000000 (m - m0) := ⟨by have := hm.1; have := hm0.2; omega, by have := hm.2; have := hm0.1; omega⟩
  have h2 : Small 4020000 (w - w0) := ⟨by have := hw.1; have := hw0.2; omega, by have := hw.2; have := hw0.1; omega⟩
  have h3 := mul_small hdw h1 (by omega) (by omega)
  have h4 := mul_small hdm h2 (by omega) (by omega)
  simp only [Small] at h1 h2 h3 h4
  refine spec_of mixed Tryz.func230 (by decide) rfl Tryz.results230 Tryz.ntmps230 (by decide) 0 (by simp) ?_
  simp
  refine answers_of rfl ?_
  simp [i64_wrap (show -9223372036854775808 ≤ m - m0 ∧ _ from by omega), i64_wrap (show -9223372036854775808 ≤ w - w0 ∧ _ from by omega), i64_wrap (show -9223372036854775808 ≤ dw * (m - m0) ∧ _ from by omega), i64_wrap (show -9223372036854775808 ≤ dm * (w - w0) ∧ _ from by omega), i64_wrap (show -9223372036854775808 ≤ dw * (m - m0) - dm * (w - w0) ∧ _ from by omega)]
theorem slope_spec (n w0 m0 dw dm arm : Int) (hdw : Small 20000 dw) (hdm : Small 40000000 dm) (harm : Small 1000 arm) :
    Spec Tryz.prog 237 [.agg [.v (.int .i64 n), .v (.int .i64 w0), .v (.int .i64 m0), .v (.int .i64 dw), .v (.int .i64 dm)], .v (.int .i64 arm)] (.v (.int .i64 (dw * arm - dm))) := by
  have h3 := mul_small hdw harm (by omega) (by omega)
  simp only [Small] at h3 hdm
  refine spec_of mixed Tryz.func237 (by decide) rfl Tryz.results237 Tryz.ntmps237 (by decide) 0 (by simp) ?_
  simp
  refine answers_of rfl ?_
  simp [i64_wrap (show -9223372036854775808 ≤ dw * arm ∧ _ from by omega), i64_wrap (show -9223372036854775808 ≤ dw * arm - dm ∧ _ from by omega)]
def cnrB (c : Cnr) : Bool := inB c.weight 0 20000 && inB c.moment (-20000000) 20000000
theorem valid1_spec (c : Cnr) : Spec Tryz.prog 210 [.agg c.cells] (.v (.bool (cnrB c))) := by
  refine spec_of mixed Tryz.func210 (by decide) rfl Tryz.results210 Tryz.ntmps210 (by decide) 0 (by simp) ?_
  simp [Cnr.cells]
  refine pop_specF [(5, ints [c.weight])] ?_ (lkilos_spec [c.weight] (by simp)) rfl false (.inl (by simp [ints])) (.inl rfl) rfl (by simp) ?_
  · simp [ints, geti]
  rw [kilosB_one]
  cases h1 : inB c.weight 0 20000 with
  | false => simp; refine answers_of rfl ?_; simp [cnrB, h1]
  | true =>
    simp
    refine pop_spec (lin_spec c.moment (-20000000) 20000000) rfl false (.inl (by simp)) (.inl rfl) rfl (by simp) ?_
    simp
    refine answers_of rfl ?_; simp [cnrB, h1]
def itmB (ns : Int) (i : Itm) : Bool := inB i.station 0 (ns - 1) && spanB ⟨i.low, i.high⟩ 0 20000
theorem items1_spec (i : Itm) (ns : Int) (hns : 0 ≤ ns ∧ ns ≤ 9223372036854775807) : Spec Tryz.prog 226 [.agg i.cells, .rp [.v (.int .i64 ns)] 0] (.v (.bool (itmB ns i))) := by
  refine spec_of mixed Tryz.func226 (by decide) rfl Tryz.results226 Tryz.ntmps226 (by decide) 0 (by simp) ?_
  simp [Itm.cells, i64_wrap (show -9223372036854775808 ≤ ns - 1 ∧ _ from by omega)]
  refine pop_spec (lin_spec i.station 0 (ns - 1)) rfl false (.inl (by simp)) (.inl rfl) rfl (by simp) ?_
  cases h1 : inB i.station 0 (ns - 1) with
  | false => simp; refine answers_of rfl ?_; simp [itmB, h1]
  | true =>
    simp
    refine pop_spec (lspan_spec ⟨i.low, i.high⟩ 0 20000) rfl false (.inl (by simp [Spn.cells])) (.inl rfl) rfl (by simp) ?_
    simp
    refine answers_of rfl ?_; simp [itmB, h1]
def itemsB (l : List Itm) (ns : Int) : Bool := decide (l.length ≤ 12) && allN l.length fun k => itmB ns (itmAt l k)
theorem litems_spec (l : List Itm) (ns : Int) (hl : l.length ≤ 9223372036854775807) (hns : 0 ≤ ns ∧ ns ≤ 9223372036854775807) : Spec Tryz.prog 206 [itmL l, .v (.int .i64 ns)] (.v (.bool (itemsB l ns))) := by
  refine spec_of mixed Tryz.func206 (by decide) rfl Tryz.results206 Tryz.ntmps206 (by decide) 0 (by simp) ?_
  simp [itmL]
  by_cases h : l.length ≤ 12
  · simp [show (l.length : Int) ≤ 12 from by omega]
    refine pop_specF [(3, .undef), (10, .clo (.func 226) [] [.rp [.v (.int .i64 ns)] 0])] (by simp) (allItm_spec l hl 226 [] [.rp [.v (.int .i64 ns)] 0] rfl rfl (fun k => itmB ns (itmAt l k)) fun k hk => items1_spec (itmAt l k) ns hns) rfl false (.inl (by simp [itmL])) (.inl rfl) rfl (by simp) ?_
    simp
    refine answers_of rfl ?_; simp [itemsB, h]
  · simp [show ¬ (l.length : Int) ≤ 12 from by omega]
    refine answers_of rfl ?_; simp [itemsB, h]
def legB (ns : Int) (l : Leg) : Bool := itemsB l.items ns && inB l.fuel 0 20000 && spanB l.burn 0 20000 && spanB l.leak 0 20000
theorem trip1_spec (l : Leg) (ns : Int) (hl : l.items.length ≤ 9223372036854775807) (hns : 0 ≤ ns ∧ ns ≤ 9223372036854775807) : Spec Tryz.prog 205 [.agg l.cells, .rp [.v (.int .i64 ns)] 0] (.v (.bool (legB ns l))) := by
  refine spec_of mixed Tryz.func205 (by decide) rfl Tryz.results205 Tryz.ntmps205 (by decide) 0 (by simp) ?_
  simp [Leg.cells, itmL]
  refine pop_spec (litems_spec l.items ns hl hns) rfl false (.inl (by simp [itmL])) (.inl rfl) rfl (by simp) ?_
  cases h1 : itemsB l.items ns with
  | false => simp; refine answers_of rfl ?_; simp [legB, h1]
  | true =>
    simp
    refine pop_specF [(11, ints [l.fuel])] ?_ (lkilos_spec [l.fuel] (by simp)) rfl false (.inl (by simp [ints])) (.inl rfl) rfl (by simp) ?_
    · simp [ints, geti]
    rw [kilosB_one]
    cases h2 : inB l.fuel 0 20000 with
    | false => simp; refine answers_of rfl ?_; simp [legB, h2]
    | true =>
      simp
      refine pop_spec (lspan_spec l.burn 0 20000) rfl false (.inl (by simp [Spn.cells])) (.inl rfl) rfl (by simp) ?_
      cases h3 : spanB l.burn 0 20000 with
      | false => simp; refine answers_of rfl ?_; simp [legB, h3]
      | true =>
        simp
        refine pop_spec (lspan_spec l.leak 0 20000) rfl false (.inl (by simp [Spn.cells])) (.inl rfl) rfl (by simp) ?_
        simp
        refine answers_of rfl ?_; simp [legB, h1, h2, h3]
def tripE (fuel : Spn) (legs : List Leg) (ns : Int) : Int := if 6 < legs.length then 3 else if legs.length = 0 ∨ spanB fuel 0 20000 = false ∨ (allN legs.length fun k => legB ns (legAt legs k)) = false then 2 else 0
theorem trip_spec (fuel : Spn) (legs : List Leg) (ns : Int) (hl : legs.length ≤ 9223372036854775807) (hi : ∀ k, k < legs.length → (legAt legs k).items.length ≤ 9223372036854775807) (hns : 0 ≤ ns ∧ ns ≤ 9223372036854775807) :
    Spec Tryz.prog 173 [.agg fuel.cells, legL legs, .v (.int .i64 ns)] (.v (.int .i64 (tripE fuel legs ns))) := by
  refine spec_of mixed Tryz.func173 (by decide) rfl Tryz.results173 Tryz.ntmps173 (by decide) 0 (by simp) ?_
  simp [legL, Spn.cells]
  by_cases h : 6 < legs.length
  · simp [show (6 : Int) < legs.length from by omega]
    refine answers_of rfl ?_; simp [tripE, h]
  · simp [show ¬ (6 : Int) < legs.length from by omega]
    refine pop_specF [(5, .undef), (12, .clo (.func 205) [] [.rp [.v (.int .i64 ns)] 0])] (by simp) (allLeg_spec legs hl 205 [] [.rp [.v (.int .i64 ns)] 0] rfl rfl (fun k => legB ns (legAt legs k)) fun k hk => trip1_spec (legAt legs k) ns (hi k hk) hns) rfl false (.inl (by simp [legL])) (.inl rfl) rfl (by simp) ?_
    simp
    by_cases h0 : legs = []
    · subst h0
      simp
      refine answers_of rfl ?_
      simp [tripE]
    · have h9 : ¬ legs.length = 0 := fun e => h0 (List.eq_nil_of_length_eq_zero e)
      simp [h0]
      refine pop_spec (lspan_spec fuel 0 20000) rfl false (.inl (by simp [Spn.cells])) (.inl rfl) rfl (by simp) ?_
      cases h1 : spanB fuel 0 20000 with
      | false => simp [h0]; refine answers_of rfl ?_; simp [tripE, h, h1]
      | true =>
        simp [h0]
        cases h2 : allN legs.length fun k => legB ns (legAt legs k) with
        | false => simp [h0]; refine answers_of rfl ?_; simp [tripE, h, h2]
        | true => simp [h0]; refine answers_of rfl ?_; simp [tripE, h, h0, h9, h1, h2]
end
section
theorem lt2 {p : Nat → Prop} (h0 : p 0) (h1 : p 1) : ∀ k, k < 2 → p k
  | 0, _ => h0
  | 1, _ => h1
theorem lt4 {p : Nat → Prop} (h0 : p 0) (h1 : p 1) (h2 : p 2) (h3 : p 3) : ∀ k, k < 4 → p k
  | 0, _ => h0
  | 1, _ => h1
  | 2, _ => h2
  | 3, _ => h3
end
section
open Go.Proofs
set_option maxRecDepth 100000
set_option maxHeartbeats 8000000
set_option linter.unusedSimpArgs false
attribute [local irreducible] pwp pops pdraw pop popCall pdCall thenP blockP scopeP pspec Spec answers ppost CallW rend
def CnrsOk (P : Pln) : Prop := ∀ i, i < P.corners.length → (0 ≤ (cnrAt P.corners i).weight ∧ (cnrAt P.corners i).weight ≤ 20000) ∧ -20000000 ≤ (cnrAt P.corners i).moment ∧ (cnrAt P.corners i).moment ≤ 20000000
theorem edg_small {P : Pln} (h : CnrsOk P) {e : Nat} (he : e < P.corners.length) : Small 20000 (P.cA e).weight ∧ Small 20000000 (P.cA e).moment ∧ Small 20000 (P.dw e) ∧ Small 40000000 (P.dm e) := by
  have h1 := h e he
  have h2 := h ((e + 1) % P.corners.length) (Nat.mod_lt _ (by omega))
  simp only [Small, Pln.cA, Pln.cB, Pln.dw, Pln.dm]
  omega
def edgs (P : Pln) : List PV := (List.range P.corners.length).map fun e => .agg (edgC P e)
theorem edg_get {P : Pln} {n : Nat} {p : PV} (h : (edgs P)[n]? = some p) : n < P.corners.length ∧ p = .agg (edgC P n) := by
  have hl : n < P.corners.length := by
    have := (List.getElem?_eq_some_iff.1 h).1
    simpa [edgs] using this
  refine ⟨hl, ?_⟩
  simp [edgs, hl] at h
  exact h.symm
theorem edgs_length (P : Pln) : (edgs P).length = P.corners.length := by simp [edgs]
theorem edgs_plain {P : Pln} : ∀ p ∈ edgs P, p.plain = true ∧ p.flat = true := fun p hp => by
  obtain ⟨e, _, rfl⟩ := List.mem_map.1 hp
  exact ⟨rfl, rfl⟩
theorem edges_spec (P : Pln) : Spec Tryz.prog 229 [.agg P.cells] (.clo (.func 235) [] [.rp P.cells 0]) := by
  refine spec_of mixed Tryz.func229 (by decide) rfl Tryz.results229 Tryz.ntmps229 (by decide) 0 (by simp) ?_
  simp [Pln.cells, cnrL, stnL]
  refine answers_of rfl ?_; simp [Pln.cells, cnrL, stnL]
theorem edges_gen (P : Pln) (hc : CnrsOk P) (hn : P.corners.length ≤ 1000000) : GenW Tryz.prog 235 [.rp P.cells 0] (edgs P) := by
  refine gen_of Tryz.func235 (by decide) rfl Tryz.results235 Tryz.ntmps235 0 (by simp) fun l Rb J henv => ?_
  have hlo : ∀ s B, GCtx 47 Rb J s B → B.lo = 47 := fun _ _ h => h.1
  refine XW_seqP mixed hlo (by decide) ?_
  simp [Pln.cells, cnrL, stnL]
  refine XW_block ?_
  refine XW_loopV hlo (fun k : Nat => [(10, .v (.int .i64 k))]) (fun k => GS.on k) (fun k => k ≤ P.corners.length) (fun k => P.corners.length - k) 0 (Nat.zero_le _) rfl (by simp; rfl) (by simp) ?_
  intro k hk
  refine XW_seqP mixed hlo (by decide) ?_
  by_cases hlt : k < P.corners.length
  · have wk := i64_wrap (show -9223372036854775808 ≤ (k : Int) + 1 ∧ _ from by omega)
    have hne : ¬ P.corners = [] := fun e => by rw [e] at hlt; cases hlt
    obtain ⟨j, hj⟩ : ∃ j : Nat, j = (k + 1) % P.corners.length := ⟨_, rfl⟩
    have hjl : j < P.corners.length := hj ▸ Nat.mod_lt _ (by omega)
    have hji : ((k : Int) + 1).tmod (P.corners.length : Int) = (j : Int) := by rw [hj]; rfl
    have hsm := edg_small hc hlt
    obtain ⟨s1, s2, s3, s4⟩ := hsm
    simp only [Small, Pln.dw, Pln.dm, Pln.cA, Pln.cB, ← hj] at s1 s2 s3 s4
    simp [hlt]
    refine XW_seqP mixed hlo (by decide) ?_
    simp
    refine XW_seqX (XW_block ?_)
    refine XW_seqP mixed hlo (by decide) ?_
    simp [hlt, Cnr.cells]
    refine XW_seqP mixed hlo (by decide) ?_
    refine pwp_draw 13 (by decide) ?_
    simp [hlt, Cnr.cells, wk, hne, hji, hjl]
    refine ⟨by decide, ?_⟩
    refine XW_seqX (XW_yieldS (m := 17) henv (by decide) (by decide) ?_)
    have g1 : IntKind.i64.wrap ((cnrAt P.corners j).weight - (cnrAt P.corners k).weight) = P.dw k := by rw [Pln.dw, Pln.cA, Pln.cB, ← hj]; exact i64_wrap (by omega)
    have g2 : IntKind.i64.wrap ((cnrAt P.corners j).moment - (cnrAt P.corners k).moment) = P.dm k := by rw [Pln.dm, Pln.cA, Pln.cB, ← hj]; exact i64_wrap (by omega)
    have hel : (edgs P)[k]? = some (.agg [.v (.int .i64 k), .v (.int .i64 (cnrAt P.corners k).weight), .v (.int .i64 (cnrAt P.corners k).moment), .v (.int .i64 (P.dw k)), .v (.int .i64 (P.dm k))]) := by
      simp [edgs, hlt, edgC, Pln.cA]
    simp
    simp [pyield, yargs, g1, g2, hel]
    refine ⟨?_, ?_⟩
    · refine XW_pwp mixed hlo (by decide) ?_
      simp
      refine XW_pwp mixed hlo (by decide) ?_
      simp [wk]
      refine againX_of (k + 1) (by omega) (by omega) rfl ?_
      simp
    · refine XW_pwp mixed hlo (by decide) ?_
      simp
  · obtain rfl : k = P.corners.length := by omega
    simp
    refine XW_pwp mixed hlo (by decide) ?_
    simp [edgs_length]
end
end Go.Qg
