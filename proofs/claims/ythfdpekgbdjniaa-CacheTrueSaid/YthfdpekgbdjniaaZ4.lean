/-
  Lemmas and contracts that hold of the whole program: 17 texts in one.
  No condition.
-/
import Derived.Test.YthfdpekgbdjniaaZ3
import Derived.Laws.CopyRow
import Derived.WalkKit
set_option linter.all false

namespace Go.Qg
open Go.RowKit (Below)
def foot (B : Base) (R : Nat → Nat → Prop) (Γ : Nat → Option Loc) (l D : Nat) : Nat → Prop := fun b => B.Prot b ∨ (∃ o, R b o) ∨ (∃ i m, Γ i = some m ∧ m.blk = some b) ∨ b = l ∨ b = D
def jumpX : Code → PX → Prop
  | .ret, .ret => True
  | .exit id, .exit id' => id = id'
  | _, _ => False
def LoopJ (N : Nat) (B : Base) (a : Act) (l D : Nat) (rec : LoopState → Option Code → Loop) (R00 : Nat → Nat → Prop) (V : Nat → PF) (Q : Unit → PX → PF → Prop) (s : GS) (F : Nat → Prop) (w : World) : Prop :=
  ∃ R Γ fr st pe, Sim N B R Γ a w fr ∧ F = foot B R Γ l D ∧ w.heap[l]? = some (.loop (rec st pe)) ∧ w.heap[D]? = some (.deferred (some [])) ∧ (∀ b o, R00 b o → R b o) ∧ (∀ o, ¬ R l o) ∧
    match s with
    | .on n => st = .ready ∧ pe = none ∧ fr = V n
    | .off => st = .done ∧ ∃ c x, pe = some c ∧ jumpX c x ∧ Q () x fr
    | .pan p => p.plain = true ∧ p.flat = true ∧ Q () (.panic p) fr
def rend (M M' : Nat) (κ : List Nat) (fr : PF) (next : PF) (Q : Unit → PX → PF → Prop) : PX → PF → Prop
  | .normal, g => ∃ H2, outF g (tgtAt H2 ((List.range κ.length).map (M' + ·)) fun s => !((List.range κ.length).map (M' + ·)).contains s) 8 H2 ((List.range κ.length).map (M' + ·)) ∧ less M (back fr κ H2) next
  | .ret, g => ∃ H2, outF g (tgtAt H2 ((List.range κ.length).map (M' + ·)) fun s => !((List.range κ.length).map (M' + ·)).contains s) 8 H2 ((List.range κ.length).map (M' + ·)) ∧ Q () .ret (back fr κ H2)
  | .exit id, g => ∃ H2, outF g (tgtAt H2 ((List.range κ.length).map (M' + ·)) fun s => !((List.range κ.length).map (M' + ·)).contains s) 8 H2 ((List.range κ.length).map (M' + ·)) ∧ Q () (.exit id) (back fr κ H2)
  | .panic p, g => p.plain = true ∧ p.flat = true ∧ ∃ H2, outF g (tgtAt H2 ((List.range κ.length).map (M' + ·)) fun s => !((List.range κ.length).map (M' + ·)).contains s) 8 H2 ((List.range κ.length).map (M' + ·)) ∧ Q () (.panic p) (back fr κ H2)
  | _, _ => False
section
variable {P : Program} {N M M' : Nat} {B B0 : Base} {a a' : Act} {w w' : World} {R R00 : Nat → Nat → Prop} {Γ : Nat → Option Loc} {fr : PF} {Q : Unit → PX → PF → Prop} {κ : List Nat} {l D : Nat} {rec : LoopState → Option Code → Loop} {V : Nat → PF}
theorem foot_stay (h : Sim N B R Γ a w fr) (hF : ∀ b, foot B R Γ l D b → w'.heap[b]? = w.heap[b]?) (hsz : w.heap.size ≤ w'.heap.size) (ho : w'.os = w.os) (ht : w'.tape = w.tape) (hu : w'.output = w.output) : Sim N B R Γ a w' fr :=
  h.moved (fun b o hb => cell?_of_heap (hF b (.inr (.inl ⟨o, hb⟩)))) (fun i m b hi hb => hF b (.inr (.inr (.inl ⟨i, m, hi, hb⟩)))) hsz (fun i m b hi hb => ((h.own i m hi).2 b hb).1) h.sub
    (h.kept.trans ⟨ho, ht, hu, hsz, fun k hk => hF k (.inl hk)⟩) h.prot h.lo h.base rfl h.defers
theorem foot_bnd (h : Sim N B R Γ a w fr) {ob ob' : Obj} (hl : w.heap[l]? = some ob) (hD : w.heap[D]? = some ob') {b : Nat} (hb : foot B R Γ l D b) : b < w.heap.size := by
  rcases hb with hb | ⟨o, hb⟩ | ⟨i, m, hi, hb⟩ | rfl | rfl
  · exact Nat.lt_of_lt_of_le (h.prot b hb) h.kept.size
  · exact h.bnd b o hb
  · exact ((h.own i m hi).2 b hb).2.1
  · exact (Array.getElem?_eq_some_iff.1 hl).1
  · exact (Array.getElem?_eq_some_iff.1 hD).1
theorem weak_R {f g : PF} (h : Sim N B R Γ a w f) (hl : less B.lo f g) : Sim N B (freed R Γ g) (Γof Γ g) a w g := weak_le h hl
theorem putObj_self {r : Nat} {o : Obj} (h : w.heap[r]? = some o) : w.putObj r o = w := by
  have e : w.heap.setIfInBounds r o = w.heap := by
    apply Array.ext_getElem?
    intro k
    by_cases hk : k = r
    · subst hk
      rw [Array.getElem?_setIfInBounds_self_of_lt (Array.getElem?_eq_some_iff.1 h).1, h]
    · rw [Array.getElem?_setIfInBounds_ne (Ne.symm hk)]
  unfold World.putObj
  rw [e]
theorem round_sound (hmx : P.follows .mixedOrders = true) {fn : FuncId} {t : Tmp} {assign body : Code} (hda : dstsIn N assign = true) (hdb : dstsIn N body = true) (hM' : N ≤ M') (hκ : κ.Nodup) {H A : List PV} {next : PF} {p : PV} {v : Value} {Ra : Nat → Nat → Prop} {Γa : Nat → Option Loc}
    (hs : Sim N B R Γ a w fr) (hBD : l ∉ ([] : List Nat) ∧ ∀ b, B.Prot b → b < l) (hrec : rec = loopRec fn a #[t] assign body D) (hl : w.heap[l]? = some (.loop (rec .ready none))) (hD : w.heap[D]? = some (.deferred (some []))) (hDl : D ≠ l) (hRl : ∀ o, ¬ R l o) (h00 : ∀ b o, R00 b o → R b o)
    (hout : outF fr (tgtAt H κ fun _ => false) 8 H κ) (hA : A.length = N) (hAv : ∀ i, i < N → i ≠ t → vw fr (tgtAt H κ fun _ => false) 8 (A.getD i .undef) (rd fr (.tmp i))) (hp : p.plain = true ∧ p.flat = true) (hv : Rep w Ra Γa v p)
    (hr : pwp P M' assign (thenP (pwp P M' body (rend B.lo M' κ fr next Q)) (fun _ _ => False)) (frame0 M' (A.set t p) H)) :
    RoundW P l fn (a.tmps.setIfInBounds t v) assign body w fun e w' => ∃ R' Γ' fr' st pe, Sim N B R' Γ' a w' fr' ∧ w'.heap[l]? = some (.loop (rec st pe)) ∧ w'.heap[D]? = some (.deferred (some [])) ∧ (∀ b o, R00 b o → R' b o) ∧ (∀ o, ¬ R' l o) ∧
      (∀ x, foot B R' Γ' l D x → foot B R Γ l D x ∨ w.heap.size ≤ x) ∧ Kept (fun x => x < w.heap.size ∧ (¬ foot B R Γ l D x ∨ ∃ o, R x o)) w w' ∧
      match e with
      | .returned ret => ∃ b, ret = .bool b ∧ match b with
        | true => st = .ready ∧ pe = none ∧ fr' = next
        | false => st = .done ∧ ∃ c x, pe = some c ∧ jumpX c x ∧ Q () x fr'
      | .panicked ch => ∃ v p, ch = [{ v := v, recovered := false }] ∧ (∀ w R Γ, Rep w R Γ v p) ∧ p.plain = true ∧ p.flat = true ∧ Q () (.panic p) fr'
      | .outgrown => False := by
  have hgn : ∀ s ∈ κ, (fun _ : Nat => false) s = false := fun _ _ => rfl
  obtain ⟨hlend, hRp⟩ := hs.lend hout hκ hgn
  obtain ⟨_, hview⟩ := hs.leave hout hκ hgn
  have hR1 : ∀ b o, freedAt R Γ (fun _ => false) b o → R b o := fun b o hb => by
    rcases hb with hb | ⟨s, m, hg, _⟩
    · exact hb
    · cases hg
  have hlp : ∀ b, b < w.heap.size → (∀ i m, Γ i = some m → m.blk ≠ some b) → lentProt w (Γout Γ H κ) b := fun b hb hn => ⟨hb, fun j m hm hmb => by
    obtain ⟨s, m', _, hm', hmb'⟩ := Γout_blk hm hmb
    exact hn s m' hm' hmb'⟩
  have hll : l < w.heap.size := (Array.getElem?_eq_some_iff.1 hl).1
  have hDlt : D < w.heap.size := (Array.getElem?_eq_some_iff.1 hD).1
  have hlL := hlp l hll fun i m hi => hs.not_own hl (by simp) (by simp) hi
  have hlD := hlp D hDlt fun i m hi => hs.not_own hD (by simp) (by simp) hi
  have hsz : (a.tmps.setIfInBounds t v).toList.length = N := by simpa using hs.size
  have hent := hlend.enter (N := N) (M := M') (vs := (a.tmps.setIfInBounds t v).toList) (args := A.set t p) (by simp [hA, hs.size]) (fun i u q hu hq => by
    by_cases hit : i = t
    · subst hit
      have hlt : i < A.length := by have := lt_of_get? hq; simpa using this
      rw [List.getElem?_set_self hlt] at hq
      obtain rfl := Option.some.inj hq
      have hlt' : i < a.tmps.size := by rw [hs.size, ← hA]; exact hlt
      rw [Array.getElem?_toList, Array.getElem?_setIfInBounds_self_of_lt hlt'] at hu
      obtain rfl := Option.some.inj hu
      have := hv.ren (π := id) (R' := freedAt R Γ (fun _ => false)) (w' := w) (Γ' := Γout Γ H κ) (.inl hp.2) (fun j hj => by rw [plain_names hp.1] at hj; cases hj)
      rwa [ren_plain hp.1] at this
    · rw [List.getElem?_set_ne (Ne.symm hit)] at hq
      have hlt := lt_of_get? hq
      rw [hA] at hlt
      have hqA : A.getD i .undef = q := by simp [List.getD, hq]
      have h1 := hAv i hlt hit
      rw [hqA] at h1
      refine hview q _ u h1 ?_
      have h2 := hs.rd (.tmp i)
      rw [Array.getElem?_toList, Array.getElem?_setIfInBounds_ne (Ne.symm hit)] at hu
      have : a.eval (.tmp i) = u := by simp [Act.eval, hu]
      rwa [this] at h2) (by simp [hA]) hM'
  have hact : ({ tmps := (a.tmps.setIfInBounds t v).toList.toArray ++ Array.replicate (N - (a.tmps.setIfInBounds t v).toList.toArray.size) undef, defers := [] } : Act) = { tmps := a.tmps.setIfInBounds t v, defers := [] } := by
    have e1 : (a.tmps.setIfInBounds t v).toList.toArray = a.tmps.setIfInBounds t v := Array.toArray_toList
    rw [e1, Array.size_setIfInBounds, hs.size]
    simp
  rw [hact] at hent
  refine round_of_wr (wr_mono (pwp_sound (ro := some l) hmx rfl assign _ _ _ w hda hent.toE hr) fun e a1 w1 ⟨R1, Γ1, fr1, x, hs1, hu, hq⟩ => ?_)
  cases e with
  | normal =>
    cases x with
    | normal =>
      have hl1 : w1.heap[l]? = some (.loop (rec .ready none)) := (hs1.kept.block l hlL).trans hl
      have hl1t : l < w1.heap.size := (Array.getElem?_eq_some_iff.1 hl1).1
      refine ⟨_, run_beginRound hl1 (by rw [hrec]; rfl), ?_⟩
      have hn1 : ∀ i m, Γ1 i = some m → m.blk ≠ some l := fun i m hi => hs1.not_own hl1 (by simp) (by simp) hi
      have hs2 : Sim N ⟨fun b => b < w1.heap.size ∧ ∀ i m, Γ1 i = some m → m.blk ≠ some b, w1.putObj l (.loop { rec .ready none with state := .busy }), R1, fun i => if M' ≤ i then Γ1 i else none, M', []⟩ R1 Γ1 a1 (w1.putObj l (.loop { rec .ready none with state := .busy })) fr1 := by
        refine hs1.moved (fun b o _ => cell_putObj hl1 (by simp) (by simp)) (fun i m b hi hb => World.putObj_heap_other fun e => hn1 i m hi (e ▸ hb)) (by simp) (fun i m b hi hb hp => hp.2 i m hi hb) (fun b o hb => .inl hb) (Kept.refl _ _) (fun b hb => by simpa using hb.1) hM' (fun j m hj hm => ?_) rfl hs1.defers
        dsimp only at hm
        rw [if_pos hj] at hm
        exact ⟨m, hm, Loc.le_refl m⟩
      refine wr_mono (pwp_sound (ro := some l) hmx rfl body _ _ _ _ hdb hs2.toE hq) fun e a3 w3 ⟨R3, Γ3, fr3, x, hs3, hu3, hq3⟩ => ?_
      have hl2 : (w1.putObj l (.loop { rec .ready none with state := .busy })).heap[l]? = some (.loop { rec .ready none with state := .busy }) := World.putObj_heap_same hl1t
      have hl3 : w3.heap[l]? = some (.loop { rec .ready none with state := .busy }) := (hs3.kept.block l ⟨hl1t, hn1⟩).trans hl2
      have hn3 : ∀ i m, Γ3 i = some m → m.blk ≠ some l := fun i m hi => hs3.not_own hl3 (by simp) (by simp) hi
      have hlp1 : ∀ b, lentProt w (Γout Γ H κ) b → b < w1.heap.size ∧ ∀ i m, Γ1 i = some m → m.blk ≠ some b := fun b hb => ⟨Nat.lt_of_lt_of_le hb.1 hs1.kept.size, fun i m hi hm => ((hs1.own i m hi).2 b hm).1 hb⟩
      have fin : ∀ (rc : Loop) (H2 : PF), outF fr3 (tgtAt H2 ((List.range κ.length).map (M' + ·)) fun s => !((List.range κ.length).map (M' + ·)).contains s) 8 H2 ((List.range κ.length).map (M' + ·)) →
          ∃ R' Γ', Sim N B R' Γ' a (w3.putObj l (.loop rc)) (back fr κ H2) ∧ (w3.putObj l (.loop rc)).heap[D]? = some (.deferred (some [])) ∧ (∀ b o, R b o → R' b o) ∧ (∀ o, ¬ R' l o) ∧
            (∀ x, foot B R' Γ' l D x → foot B R Γ l D x ∨ w.heap.size ≤ x) ∧ Kept (fun x => x < w.heap.size ∧ (¬ foot B R Γ l D x ∨ ∃ o, R x o)) w (w3.putObj l (.loop rc)) := by
        intro rc H2 hout2
        have hnd : ((List.range κ.length).map (M' + ·)).Nodup := List.Pairwise.map _ (fun x y h => by simpa using h) List.nodup_range
        obtain ⟨hleave, _⟩ := hs3.leave hout2 hnd (fun s hs => by have := List.contains_iff_mem.2 hs; show (!_) = false; rw [this]; rfl)
        have hlen2 : H2.length = κ.length := by rw [outF_length hout2]; simp
        have hn0 : ∀ i m, Γout Γ3 H2 ((List.range κ.length).map (M' + ·)) i = some m → m.blk ≠ some l := fun i m hi => hleave.not_own hl3 (by simp) (by simp) hi
        have hnp : ∀ b, b < w.heap.size → ¬ (b < w1.heap.size ∧ ∀ i m, Γ1 i = some m → m.blk ≠ some b) → ¬ lentProt w (Γout Γ H κ) b := fun b hb hn hl => hn (hlp1 b hl)
        have hkept4 : Kept (fun b => lentProt w (Γout Γ H κ) b ∧ b ≠ l) w (w3.putObj l (.loop rc)) := by
          refine (hs1.kept.mono fun b hb => hb.1).trans (Kept.trans (b := w1.putObj l (.loop { rec .ready none with state := .busy })) ⟨rfl, rfl, rfl, by simp, fun k hk => World.putObj_heap_other hk.2⟩ ((hs3.kept.mono fun b hb => hlp1 b hb.1).trans ⟨rfl, rfl, rfl, by simp, fun k hk => World.putObj_heap_other hk.2⟩))
        have h4 : Sim 0 ⟨fun b => lentProt w (Γout Γ H κ) b ∧ b ≠ l, w, freedAt R Γ (fun _ => false), Γout Γ H κ, 0, []⟩ (freedAt R3 Γ3 fun s => !((List.range κ.length).map (M' + ·)).contains s) (Γout Γ3 H2 ((List.range κ.length).map (M' + ·))) noAct (w3.putObj l (.loop rc)) H2 := by
          refine hleave.moved (fun b o _ => cell_putObj hl3 (by simp) (by simp)) (fun i m b hi hb => World.putObj_heap_other fun e => hn0 i m hi (e ▸ hb)) (by simp) (fun i m b hi hb hp => ?_) (fun b o hb => ?_) hkept4 (fun b hb => hb.1.1) (Nat.le_refl _) (fun j m _ hm => ?_) rfl rfl
          · exact ((hleave.own i m hi).2 b hb).1 (hlp1 b hp.1)
          · rcases hleave.sub b o hb with h5 | h5
            · rcases hs1.sub b o h5 with h6 | h6
              · exact .inl h6
              · exact .inr fun hp => h6 hp.1
            · exact .inr fun hp => h5 (hlp1 b hp.1)
          · obtain ⟨⟨q, hq, _⟩, _⟩ := hlend.own j m hm
            have hj : j < κ.length := by rw [← outF_length hout]; exact lt_of_get? hq
            have hb0 : (base0 (lentProt w (Γout Γ H κ)) w (freedAt R Γ fun _ => false) (Γout Γ H κ) M').Γ0 (M' + j) = some m := by
              simp only [base0]
              rw [if_pos (by omega), Nat.add_sub_cancel_left]; exact hm
            obtain ⟨m1, e1, e2⟩ := hs1.base (M' + j) m (Nat.le_add_right _ _) hb0
            obtain ⟨m2, e3, e4⟩ := hs3.base (M' + j) m1 (Nat.le_add_right _ _) (by dsimp only; rw [if_pos (by omega)]; exact e1)
            have hκj : ((List.range κ.length).map (M' + ·))[j]? = some (M' + j) := by
              rw [List.getElem?_map, List.getElem?_range hj]; rfl
            obtain ⟨m3, e5, e6⟩ := Γout_le hs3 hout2 hκj e3
            exact ⟨m3, e5, Loc.le_trans e2 (Loc.le_trans e4 e6)⟩
        have hobj : ∀ q ∈ H2, q.isObj = true := fun q hq => by
          obtain ⟨i, hi⟩ := List.mem_iff_getElem?.1 hq
          obtain ⟨s, p, _, _, hbare, _⟩ := outF_get hout2 i q hi
          cases q <;> first | rfl | cases hbare
        have hpr : ∀ b, B.Prot b → lentProt w (Γout Γ H κ) b ∧ b ≠ l := fun b hb => ⟨hlp b (Nat.lt_of_lt_of_le (hs.prot b hb) hs.kept.size) fun i m hi hm => ((hs.own i m hi).2 b hm).1 hb, fun e => by have := hBD.2 b hb; omega⟩
        have hRpp : ∀ b o, R b o → lentProt w (Γout Γ H κ) b ∧ b ≠ l := fun b o hb => ⟨hlp b (hs.bnd b o hb) fun i m hi hm => ((hs.own i m hi).2 b hm).2.2 o hb, fun e => hRl o (e ▸ hb)⟩
        have hop : ∀ s m b, s ∉ κ → Γ s = some m → m.blk = some b → lentProt w (Γout Γ H κ) b ∧ b ≠ l := fun s m b hsκ hm hb => ⟨⟨((hs.own s m hm).2 b hb).2.1, fun j m' hm' hmb' => by
          obtain ⟨s', m2, hs', hm2, hmb2⟩ := Γout_blk hm' hmb'
          obtain rfl := hs.inj s s' m m2 b hm hm2 hb hmb2
          exact hsκ (List.mem_of_getElem? hs')⟩, fun e => hs.not_own hl (by simp) (by simp) hm (e ▸ hb)⟩
        obtain ⟨hm1, _⟩ := hs.mergeP (news := []) hout hpr hRpp hop h4 (by simpa using hκ) (by simpa using hlen2) (fun s hs => by cases hs) (.inl fun _ => rfl) hobj
        have eback : placeAll ((κ ++ []).getD · 0) (κ ++ []) H2 fr = back fr κ H2 := by simp only [List.append_nil]; rfl
        rw [eback] at hm1
        have hlent : ∀ x, x < w.heap.size → ¬ (lentProt w (Γout Γ H κ) x ∧ x ≠ l) → foot B R Γ l D x := fun x hx hn => by
          by_cases hxl : x = l
          · exact .inr (.inr (.inr (.inl hxl)))
          · by_cases hex : ∃ i m, Γ i = some m ∧ m.blk = some x
            · exact .inr (.inr (.inl hex))
            · exact (hn ⟨hlp x hx fun i m hi hm => hex ⟨i, m, hi, hm⟩, hxl⟩).elim
        refine ⟨_, _, hm1, (hkept4.block D ⟨hlD, hDl⟩).trans hD, fun b o hb => .inl hb, fun o ho => ?_, fun x hx => ?_, ⟨hkept4.os, hkept4.tape, hkept4.output, hkept4.size, fun k hk => hkept4.block k ?_⟩⟩
        · rcases ho with ho | ⟨ho, _⟩
          · exact hRl o ho
          · rcases ho with ho | ⟨s, m, _, hsm, hmb⟩
            · rcases hs3.sub l o ho with h5 | h5
              · rcases hs1.sub l o h5 with h6 | h6
                · exact hRl o (hR1 l o h6)
                · exact h6 hlL
              · exact h5 ⟨hl1t, hn1⟩
            · exact hn3 s m hsm hmb
        · rcases hx with hx | ⟨o, hx⟩ | ⟨i, m, hi, hmb⟩ | rfl | rfl
          · exact .inl (.inl hx)
          · rcases hx with hx | ⟨_, hx⟩
            · exact .inl (.inr (.inl ⟨o, hx⟩))
            · by_cases hlt : x < w.heap.size
              · exact .inl (hlent x hlt hx)
              · exact .inr (by omega)
          · by_cases hlt : x < w.heap.size
            · refine .inl ?_
              by_cases hiκ : i ∈ κ ++ []
              · obtain ⟨j, hj⟩ := List.mem_iff_getElem?.1 hiκ
                rw [Γput_in (by simpa using hκ) hj] at hi
                exact hlent x hlt ((h4.own j m hi).2 x hmb).1
              · rw [Γput_out hiκ] at hi
                exact .inr (.inr (.inl ⟨i, m, hi, hmb⟩))
            · exact .inr (by omega)
          · exact .inl (.inr (.inr (.inr (.inl rfl))))
          · exact .inl (.inr (.inr (.inr (.inr rfl))))
        · rcases hk.2 with h5 | ⟨o, h5⟩
          · by_cases hc : lentProt w (Γout Γ H κ) k ∧ k ≠ l
            · exact hc
            · exact (h5 (hlent k hk.1 hc)).elim
          · exact hRpp k o h5
      have hl4 : ∀ ob, (w3.putObj l ob).heap[l]? = some ob := fun ob => World.putObj_heap_same (Array.getElem?_eq_some_iff.1 hl3).1
      have hre : ∀ jump : Option Code, (Instr.endRound l jump).run P w3 = .ok (.bool jump.isNone) (w3.putObj l (.loop (rec (if jump.isNone then .ready else .done) jump))) := fun jump => by
        rw [run_endRound jump hl3, hrec]
        rfl
      cases e with
      | normal =>
        cases x with
        | normal =>
          obtain ⟨H2, hout2, hless⟩ := hq3
          obtain ⟨R', Γ', k1, k2, k3, k4, k5, k6⟩ := fin (rec (if (none : Option Code).isNone then .ready else .done) none) H2 hout2
          refine ⟨_, _, hre none, _, _, next, .ready, none, weak_R k1 hless, hl4 _, k2, fun b o hb => .inl (k3 b o (h00 b o hb)), fun o ho => ?_, fun x hx => ?_, k6, true, rfl, rfl, rfl, rfl⟩
          · rcases ho with ho | ⟨s, m, _, hsm, hmb⟩
            · exact k4 o ho
            · exact k1.not_own (hl4 _) (by simp) (by simp) hsm hmb
          · refine k5 x ?_
            rcases hx with hx | ⟨o, hx | ⟨s, m, _, hsm, hmb⟩⟩ | ⟨i, m, hi, hmb⟩ | hx | hx
            · exact .inl hx
            · exact .inr (.inl ⟨o, hx⟩)
            · exact .inr (.inr (.inl ⟨s, m, hsm, hmb⟩))
            · obtain ⟨m', h1, h2⟩ := Γof_blk hi hmb
              exact .inr (.inr (.inl ⟨i, m', h1, h2⟩))
            · exact .inr (.inr (.inr (.inl hx)))
            · exact .inr (.inr (.inr (.inr hx)))
        | _ => exact hu3.elim
      | ret =>
        cases x with
        | ret =>
          obtain ⟨H2, hout2, hQ⟩ := hq3
          obtain ⟨R', Γ', k1, k2, k3, k4, k5, k6⟩ := fin (rec (if (some Code.ret).isNone then .ready else .done) (some .ret)) H2 hout2
          exact ⟨_, _, hre (some .ret), _, _, _, .done, some .ret, k1, hl4 _, k2, fun b o hb => k3 b o (h00 b o hb), k4, k5, k6, false, rfl, rfl, .ret, .ret, rfl, trivial, hQ⟩
        | _ => exact hu3.elim
      | exit id =>
        cases x with
        | exit id' =>
          obtain rfl : id = id' := hu3
          obtain ⟨H2, hout2, hQ⟩ := hq3
          obtain ⟨R', Γ', k1, k2, k3, k4, k5, k6⟩ := fin (rec (if (some (Code.exit id)).isNone then .ready else .done) (some (.exit id))) H2 hout2
          exact ⟨_, _, hre (some (.exit id)), _, _, _, .done, some (.exit id), k1, hl4 _, k2, fun b o hb => k3 b o (h00 b o hb), k4, k5, k6, false, rfl, rfl, .exit id, .exit id, rfl, rfl, hQ⟩
        | _ => exact hu3.elim
      | panic ch => cases x with
        | panic q =>
          obtain ⟨p1, p2, H2, hout2, hQ⟩ := hq3
          obtain ⟨pv, rfl, hrep⟩ := hu3
          obtain ⟨R', Γ', k1, k2, k3, k4, k5, k6⟩ := fin (rec .busy none) H2 hout2
          have hb : w3.heap[l]? = some (.loop (rec .busy none)) := by rw [hl3, hrec]; rfl
          rw [putObj_self hb] at k1 k2 k6
          exact ⟨hs3.defers, R', Γ', _, .busy, none, k1, hb, k2, fun b o hb => k3 b o (h00 b o hb), k4, k5, k6, pv, q, rfl, plain_rep hrep p1 p2, p1, p2, hQ⟩
        | _ => exact hu3.elim
      | goto id => cases x with
        | goto id' => exact hq3.elim
        | _ => exact hu3.elim
      | outgrown => cases x <;> exact hu3.elim
    | _ => exact hu.elim
  | _ => cases x with
    | normal => exact hu.elim
    | _ => exact hq.elim
theorem XW_range (hmx : P.follows .mixedOrders = true) {g : Operand} {t : Tmp} {assign body : Code} {gf : FuncId} {caps els : List PV} (hg : rd fr g = .clo (.func gf) [] caps) (hcaps : plainL caps = true) (hgen : GenW P gf caps els) (hels : ∀ p ∈ els, p.plain = true ∧ p.flat = true)
    (hda : dstsIn N assign = true) (hdb : dstsIn N body = true) (M' : Nat) (hM' : N ≤ M') (κ : List Nat) (hκ : κ.Nodup) (V : Nat → PF) (A : Nat → List PV) (H : Nat → PF) (h0 : less B0.lo fr (V 0))
    (hview : ∀ n, n < els.length → (A n).length = N ∧ outF (V n) (tgtAt (H n) κ fun _ => false) 8 (H n) κ ∧ ∀ i, i < N → i ≠ t → vw (V n) (tgtAt (H n) κ fun _ => false) 8 ((A n).getD i .undef) (rd (V n) (.tmp i)))
    (hround : ∀ n p, els[n]? = some p → pwp P M' assign (thenP (pwp P M' body (rend B0.lo M' κ (V n) (V (n + 1)) Q)) (fun _ _ => False)) (frame0 M' ((A n).set t p) (H n)))
    (hend : Q () .normal (V els.length)) : XW P N (ECtx B0) () (.rangeFunc g #[t] assign body) Q fr := fun B a w hC ⟨R, Γ, hs⟩ => by
  have hlo := hC.1
  have hgv := hs.rd g
  rw [hg] at hgv
  generalize hu : a.eval g = u at hgv
  cases hgv with
  | clo _ uf uc _ _ l1 l2 _ r2 =>
  obtain rfl : uf = [] := by simpa using l1
  refine wr_range hu hgen.1 fun fn => ?_
  generalize hW1 : (w.alloc (.deferred (some []))).alloc (.loop (loopRec fn a #[t] assign body w.heap.size .ready none)) = W1
  have hbel : Below w.heap.size w W1 := by
    rw [← hW1]; exact (((Below.refl _ w).alloc (Nat.le_refl _) _).alloc (by simp) _)
  have hl1 : W1.heap[w.heap.size + 1]? = some (.loop (loopRec fn a #[t] assign body w.heap.size .ready none)) := by
    rw [← hW1]; have := World.alloc_heap_new (w.alloc (.deferred (some []))) (.loop (loopRec fn a #[t] assign body w.heap.size .ready none)); rwa [World.size_alloc] at this
  have hD1 : W1.heap[w.heap.size]? = some (.deferred (some [])) := by
    rw [← hW1]; exact (Below.heap_alloc _ _ _ (by simp)).trans (World.alloc_heap_new w _)
  have hw1 := weak_R hs (by rw [hlo]; exact h0)
  have hs1 := hw1.grown hbel _ (fun _ _ x => x) (fun _ _ x => .inl x)
  have hBl : ∀ b, B.Prot b → b < w.heap.size := fun b hb => Nat.lt_of_lt_of_le (hs.prot b hb) hs.kept.size
  have henv : Env P (w.heap.size + 1) els (fun b => ∃ o, R b o) (LoopJ N B a (w.heap.size + 1) w.heap.size (loopRec fn a #[t] assign body w.heap.size) R V Q) := by
    refine ⟨fun s F W b hJ hb => ?_, fun s F W W' hJ hF hsz ho ht hou => ?_, fun p F W hJ => ?_, fun n F W v p Ra Γa hJ hel hv => ?_⟩
    · obtain ⟨R, Γ, fr, st, pe, k1, rfl, k3, k4, _⟩ := hJ
      exact foot_bnd k1 k3 k4 hb
    · obtain ⟨R, Γ, fr, st, pe, k1, rfl, k3, k4, k5⟩ := hJ
      exact ⟨R, Γ, fr, st, pe, foot_stay k1 hF hsz ho ht hou, rfl, (hF _ (.inr (.inr (.inr (.inl rfl))))).trans k3, (hF _ (.inr (.inr (.inr (.inr rfl))))).trans k4, k5⟩
    · obtain ⟨R, Γ, fr, st, pe, _, _, _, _, _, _, k7, k8, _⟩ := hJ
      exact ⟨k7, k8⟩
    · obtain ⟨R', Γ', fr', st, pe, k1, rfl, k3, k4, k5, k6, rfl, rfl, rfl⟩ := hJ
      have hlt := lt_of_get? hel
      obtain ⟨v1, v2, v3⟩ := hview n hlt
      have hy : (Instr.yield (w.heap.size + 1) #[v]).run P W = .ok (.round (w.heap.size + 1) fn (a.tmps.setIfInBounds t v) assign body) W := by
        have := run_yield (P := P) (args := #[v]) k3 rfl
        simpa [loopRec] using this
      refine ⟨_, _, _, _, hy, fun c cs => ?_⟩
      obtain ⟨e, W2, ⟨R2, Γ2, fr2, st2, pe2, q2, q3, q4, q5, q6, q7, q8, q9⟩, hsteps⟩ := round_sound (l := w.heap.size + 1) (D := w.heap.size) (R00 := R) hmx hda hdb hM' hκ (p := p) (v := v) (Q := Q) (next := V (n + 1)) k1 ⟨by simp, fun b hb => Nat.lt_succ_of_lt (hBl b hb)⟩ rfl k3 k4 (by omega) k6 k5 v2 v1 v3 (hels p (List.mem_of_getElem? hel)) hv (by rw [hlo]; exact hround n p hel) c cs
      refine ⟨e, W2, ⟨foot B R2 Γ2 (w.heap.size + 1) w.heap.size, ?_, q7, q8.mono fun x hx => ⟨hx.1, hx.2.imp_right fun ⟨o, ho⟩ => ⟨o, k5 x o ho⟩⟩⟩, hsteps⟩
      cases e with
      | outgrown => exact q9.elim
      | panicked ch =>
        obtain ⟨pv, q, e1, e2, e3, e4, e5⟩ := q9
        exact ⟨pv, q, e1, e2, R2, Γ2, fr2, st2, pe2, q2, rfl, q3, q4, q5, q6, e3, e4, e5⟩
      | returned ret =>
        obtain ⟨b, e1, q9⟩ := q9
        refine ⟨b, e1, ?_⟩
        cases b with
        | true => exact ⟨R2, Γ2, fr2, st2, pe2, q2, rfl, q3, q4, q5, q6, q9⟩
        | false => exact ⟨R2, Γ2, fr2, st2, pe2, q2, rfl, q3, q4, q5, q6, q9⟩
  have hJ0 : LoopJ N B a (w.heap.size + 1) w.heap.size (loopRec fn a #[t] assign body w.heap.size) R V Q (.on 0) (foot B (freed R Γ (V 0)) (Γof Γ (V 0)) (w.heap.size + 1) w.heap.size) W1 := by
    refine ⟨_, _, V 0, .ready, none, hs1, rfl, hl1, hD1, fun b o hb => .inl hb, fun o ho => ?_, rfl, rfl, rfl⟩
    rcases ho with ho | ⟨s, m, _, hm, hmb⟩
    · have := hs.bnd _ o ho; omega
    · have := ((hs.own s m hm).2 _ hmb).2.1; omega
  have after : ∀ {R' : Nat → Nat → Prop} {Γ' : Nat → Option Loc} {fr' : PF} {w' : World} {rc : Loop} (w2 : World), Sim N B R' Γ' a w' fr' → w'.heap[w.heap.size + 1]? = some (.loop rc) → w'.heap[w.heap.size]? = some (.deferred (some [])) → (w2 = w' ∨ ∃ rc', w2 = w'.putObj (w.heap.size + 1) (.loop rc')) →
      ∃ B', ECtx B0 () B' ∧ Sim N B' R' Γ' { a with defers := { target := .collected w.heap.size, args := #[] } :: a.defers } w2 fr' := by
    intro R' Γ' fr' w' rc w2 k1 k3 k4 hw2
    obtain ⟨c1, c2, c3, c4, c5, ms, hms, hDs, hm⟩ := hC
    have hlt := (Array.getElem?_eq_some_iff.1 k3).1
    have z1 : ∀ k, k ≠ w.heap.size + 1 → w2.heap[k]? = w'.heap[k]? := fun k hk => by
      rcases hw2 with rfl | ⟨rc', rfl⟩
      · rfl
      · exact World.putObj_heap_other hk
    have z2 : w2.heap.size = w'.heap.size := by
      rcases hw2 with rfl | ⟨rc', rfl⟩
      · rfl
      · simp
    have z3 : w2.os = w'.os ∧ w2.tape = w'.tape ∧ w2.output = w'.output := by
      rcases hw2 with rfl | ⟨rc', rfl⟩ <;> exact ⟨rfl, rfl, rfl⟩
    have z4 : ∀ b o, w2.cell? ⟨b, o, none⟩ = w'.cell? ⟨b, o, none⟩ := fun b o => by
      rcases hw2 with rfl | ⟨rc', rfl⟩
      · rfl
      · exact cell_putObj k3 (by simp) (by simp)
    refine ⟨⟨fun b => B.Prot b ∨ b = w.heap.size, w2, R', B.Γ0, B.lo, { target := .collected w.heap.size, args := #[] } :: B.D⟩, ⟨c1, fun b hb => .inl (c2 b hb), ?_, fun b o hb => ?_, c5, w.heap.size :: ms, ?_, by rw [hDs]; rfl, fun r hr => ?_⟩, ?_⟩
    · refine (c3.trans (k1.kept.mono c2)).trans ⟨z3.1, z3.2.1, z3.2.2, Nat.le_of_eq z2.symm, fun k hk => z1 k fun e => ?_⟩
      have := hBl k (c2 k hk)
      omega
    · rcases k1.sub b o hb with h1 | h1
      · exact c4 b o h1
      · exact .inr fun hp => h1 (c2 b hp)
    · refine List.nodup_cons.2 ⟨fun hin => ?_, hms⟩
      have := hBl _ (hm _ hin).1
      omega
    · rcases List.mem_cons.1 hr with rfl | hr
      · refine ⟨.inr rfl, fun hp => ?_, (z1 _ (by omega)).trans k4⟩
        have := hBl _ (c2 _ hp)
        omega
      · obtain ⟨h1, h2, h3⟩ := hm r hr
        refine ⟨.inl h1, h2, ?_⟩
        have hrl := hBl r h1
        exact (z1 _ (by omega)).trans ((k1.kept.block r h1).trans h3)
    · refine k1.moved (fun b o _ => z4 b o) (fun i m b hi hb => z1 b fun e => k1.not_own k3 (by simp) (by simp) hi (e ▸ hb)) (Nat.le_of_eq z2.symm) (fun i m b hi hb hp => ?_) (fun b o hb => .inl hb) (Kept.refl _ _) (fun b hb => ?_) k1.lo k1.base rfl (by rw [k1.defers])
      · rcases hp with hp | rfl
        · exact ((k1.own i m hi).2 b hb).1 hp
        · exact k1.not_own k4 (by simp) (by simp) hi hb
      · rcases hb with hb | rfl
        · have := hBl b hb
          simp only
          have := k1.kept.size
          omega
        · simp only
          omega
  refine (hgen.2 W1 uc R (fun b => ∃ o, R b o) (w.heap.size + 1) _ _ (fun b o hb => ⟨o, hb⟩) (fun b ⟨o, hb⟩ => Nat.lt_of_lt_of_le (hs.bnd b o hb) hbel.size) henv hJ0 l2 (fun i u p hu hp => ?_)).mono ?_
  · refine (r2 i u p hu hp).free (fun b o hb => ⟨hb, cell?_of_heap (hbel.block b (hs.bnd b o hb))⟩) ?_
    have := plainL_names hcaps
    refine List.eq_nil_iff_forall_not_mem.2 fun j hj => ?_
    have := mem_namesL.2 ⟨p, List.mem_of_getElem? hp, hj⟩
    rw [plainL_names hcaps] at this; cases this
  · intro e w' hgp
    cases e with
    | outgrown => exact hgp.elim
    | panicked ch =>
      obtain ⟨pv, q, F', rfl, hrep, R', Γ', fr', st, pe, k1, _, k3, k4, _, _, _, _, hQ⟩ := hgp
      obtain ⟨B', hC', hs2⟩ := after w' k1 k3 k4 (.inl rfl)
      exact ⟨(), B', hC', R', Γ', _, .panic q, hs2, ⟨pv, rfl, hrep _ _ _⟩, hQ⟩
    | returned rv =>
    obtain ⟨s, F', hs', R', Γ', fr', st, pe, k1, _, k3, k4, _, _, hm⟩ := hgp
    refine ⟨st, pe, k3, ?_⟩
    obtain ⟨B', hC', hs2⟩ := after (w'.putObj (w.heap.size + 1) (.loop (loopRec fn a #[t] assign body w.heap.size .exhausted pe))) k1 k3 k4 (.inr ⟨_, rfl⟩)
    rcases hs' with rfl | rfl
    · obtain ⟨rfl, rfl, rfl⟩ := hm
      exact ⟨by simp, (), B', hC', R', Γ', _, .normal, hs2, trivial, hend⟩
    · obtain ⟨rfl, c, x, rfl, hjx, hQ⟩ := hm
      refine ⟨by simp, ?_⟩
      cases c with
      | ret => cases x with
        | ret => exact ⟨(), B', hC', R', Γ', _, .ret, hs2, trivial, hQ⟩
        | _ => exact hjx.elim
      | exit id => cases x with
        | exit id' => exact ⟨(), B', hC', R', Γ', _, .exit id', hs2, hjx, hQ⟩
        | _ => exact hjx.elim
      | _ => cases x <;> exact hjx.elim
end
end Go.Qg

namespace Go.Qg
open Go.RowKit (Below)
def modeOf : Option Value → FrameMode
  | none => .returning
  | some v => .panicking [{ v := v, recovered := false }]
def modeRec : Option Value → FrameMode
  | none => .returning
  | some v => .panicking [{ v := v, recovered := true }]
def DefW (P : Program) (f : FuncId) (caps : List PV) (H : PF) (rc : Option PV) (Q : PF → Prop) : Prop :=
  (∀ (vs : Array Value) (w : World), (callFunc f vs).run P w = .ok (.enter f vs) w) ∧
  ∀ (w : World) (vs : List Value) (R : Nat → Nat → Prop) (Γ : Nat → Option Loc) (Prot : Nat → Prop) (rv : Option Value), (∀ b o, R b o → Prot b) → Sim 0 ⟨Prot, w, R, Γ, 0, []⟩ R Γ noAct w H → vs.length = caps.length →
    (∀ (i : Nat) (u : Value) (p : PV), vs[i]? = some u → caps[i]? = some p → Rep w R Γ u p) → (match rv, rc with | none, none => True | some v, some p => Rep w R Γ v p | _, _ => False) →
    CallsD P f vs.toArray (modeOf rv) w fun e u' w' => (∃ v, e = .returned v) ∧ u' = modeRec rv ∧ ∃ R' Γ' H2, Q H2 ∧ Sim 0 ⟨Prot, w, R, Γ, 0, []⟩ R' Γ' noAct w' H2 ∧ ∀ q ∈ H2, q.isObj = true
def leavesH (M k : Nat) (fr : PF) (H2 : PF) : Prop := outF fr (tgtAt H2 ((List.range k).map (M + ·)) fun s => !((List.range k).map (M + ·)).contains s) 8 H2 ((List.range k).map (M + ·))
section
variable {P : Program} {N M M' : Nat} {B : Base} {a : Act} {w w' : World} {R : Nat → Nat → Prop} {Γ : Nat → Option Loc} {fr : PF}
theorem range_nodup (M k : Nat) : ((List.range k).map (M + ·)).Nodup := List.Pairwise.map _ (fun x y h => by simpa using h) List.nodup_range
theorem range_get (M : Nat) {k j : Nat} (h : j < k) : ((List.range k).map (M + ·))[j]? = some (M + j) := by
  rw [List.getElem?_map, List.getElem?_range h]; rfl
theorem def_of (hm : P.follows .mixedOrders = true) {f : FuncId} {fn : Func} {id : Nat} {o : Oper} {c : Code} (hf : P.funcs[f]? = some fn) (hname : (fn.name == "runtime.NumGoroutine") = false) (hb : fn.body = some (.seq (.region id #[o] false) c)) {d : Tmp} {ats : Array TypeId} (ho : o.op = .call { callee := .builtin .recover, args := #[], argTypes := ats }) (hg : o.guard = none) (hdst : o.dst = some d) (hrs : fn.results = #[]) (hn : fn.ntmps = N) (hdN : d < N) (hd : dstsIn N c = true)
    {caps : List PV} {H : PF} {rc : Option PV} {Q : PF → Prop} (hrc : ∀ p, rc = some p → p.plain = true ∧ p.flat = true) (M : Nat) (hargs : caps.length ≤ N) (hM : N ≤ M) (hfree : (frame0 M caps H)[d]? = some .undef)
    (h : pwp P M c (fun x fr => (x = .normal ∨ x = .ret) ∧ ∃ H2, leavesH M H.length fr H2 ∧ Q H2) ((frame0 M caps H).set d (rc.getD (.v .nilIface)))) : DefW P f caps H rc Q := by
  subst hn
  refine ⟨fun vs w => ?_, fun w vs R Γ Prot rv hRp h0 hl hrep hrv => ?_⟩
  · simp only [callFunc, Sem.run_bind, run_program, Result.andThen_ok, hf, hname, hb]
    rfl
  · refine callsD_of_wpS hf hb fun c₀ cs hmode => ?_
    have hsim := h0.enter hl hrep hargs hM
    generalize hact : ({ tmps := vs.toArray ++ Array.replicate (fn.ntmps - vs.toArray.size) undef, defers := [] } : Act) = a0 at hsim
    have hact' : ({ tmps := vs.toArray ++ Array.replicate (fn.ntmps - vs.toArray.size) undef, defers := [] } : Act) = a0 := hact
    have hex : (execOp a0.eval o).run P w = .ok .recover w := by
      simp only [execOp, ho, resolve, Sem.run_bind, Sem.run_pure, Result.andThen_ok, invoke, builtin, List.map_toArray, List.map_nil]
    have hwant : Region.wanted o (yielded #[o] a0.tmps) = true := by simp [Region.wanted, hg]
    have hclear : ∀ p, pclear (some d) p (frame0 M caps H) = true := fun p => by unfold pclear; simp only [hfree]; rfl
    have cont : ∀ (u : Value) (p : PV) (u' : FrameMode), Rep w R (fun i => if M ≤ i then Γ (i - M) else none) u p → p = rc.getD (.v .nilIface) → u' = modeRec rv →
        c.wpS P (bodyPostS P fn c₀ cs fun e u' w' => (∃ v, e = .returned v) ∧ u' = modeRec rv ∧ ∃ R' Γ' H2, Q H2 ∧ Sim 0 ⟨Prot, w, R, Γ, 0, []⟩ R' Γ' noAct w' H2 ∧ ∀ q ∈ H2, q.isObj = true) (a0.put o.dst u) ({ c₀ with mode := u' } :: cs) w := by
      intro u p u' hu hp hu'
      subst hp hu'
      have hs1 := hsim.put (some d) (u := u) (fun t ht => by obtain rfl := Option.some.inj ht; exact hdN) (hclear _) hu
      rw [hdst]
      refine wpS_of_wp (wp_mono (wp_of_wr (pwp_sound hm rfl c _ _ _ w hd hs1.toE h)) fun e a' w' ⟨R', Γ', fr, x, hs, hux, hx, H2, hout, hQ⟩ => ?_)
      have fin : a'.defers = [] ∧ ∃ u', ({ c₀ with mode := modeRec rv } :: cs : List Frame) = { c₀ with mode := u' } :: cs ∧ ∃ v, (results fn a'.tmps).run P w' = .ok v w' ∧ (∃ v', Ending.returned v = .returned v') ∧ u' = modeRec rv ∧ ∃ R' Γ' H2, Q H2 ∧ Sim 0 ⟨Prot, w, R, Γ, 0, []⟩ R' Γ' noAct w' H2 ∧ ∀ q ∈ H2, q.isObj = true := by
        refine ⟨hs.defers, _, rfl, .tuple #[], by simp [results, hrs], ⟨_, rfl⟩, rfl, ?_⟩
        obtain ⟨h1, _⟩ := hs.leave hout (range_nodup M _) (fun s hs => by have := List.contains_iff_mem.2 hs; show (!_) = false; rw [this]; rfl)
        refine ⟨_, _, H2, hQ, h1.rebase fun j l hjl => ?_, fun q hq => ?_⟩
        · obtain ⟨⟨p, hp, _⟩, _⟩ := h0.own j l hjl
          have hj := lt_of_get? hp
          have hb : (base0 Prot w R Γ M).Γ0 (M + j) = some l := by
            simp only [base0]
            rw [if_pos (by omega), Nat.add_sub_cancel_left]; exact hjl
          obtain ⟨l1, e1, e2⟩ := hs.base (M + j) l (Nat.le_add_right _ _) hb
          obtain ⟨l2, e3, e4⟩ := Γout_le hs hout (range_get M hj) e1
          exact ⟨l2, e3, Loc.le_trans e2 e4⟩
        · obtain ⟨i, hi⟩ := List.mem_iff_getElem?.1 hq
          obtain ⟨s, p, _, _, hbare, _⟩ := outF_get hout i q hi
          cases q <;> first | rfl | cases hbare
      rcases hx with rfl | rfl
      · cases e with
        | normal => exact fin
        | _ => exact hux.elim
      · cases e with
        | ret => exact fin
        | _ => exact hux.elim
    refine wpS_seq (wpS_region ?_)
    have hr1 : List.range (#[o] : Array Oper).size = [0] := rfl
    rw [hr1]
    have hcs : ∀ (v : Value) (cs' : List Frame), c.wpS P (bodyPostS P fn c₀ cs fun e u' w' => (∃ v, e = .returned v) ∧ u' = modeRec rv ∧ ∃ R' Γ' H2, Q H2 ∧ Sim 0 ⟨Prot, w, R, Γ, 0, []⟩ R' Γ' noAct w' H2 ∧ ∀ q ∈ H2, q.isObj = true) (a0.put o.dst v) cs' w →
        wpOpsS P #[o] (Exit.thenS (c.wpS P (bodyPostS P fn c₀ cs fun e u' w' => (∃ v, e = .returned v) ∧ u' = modeRec rv ∧ ∃ R' Γ' H2, Q H2 ∧ Sim 0 ⟨Prot, w, R, Γ, 0, []⟩ R' Γ' noAct w' H2 ∧ ∀ q ∈ H2, q.isObj = true)) (bodyPostS P fn c₀ cs fun e u' w' => (∃ v, e = .returned v) ∧ u' = modeRec rv ∧ ∃ R' Γ' H2, Q H2 ∧ Sim 0 ⟨Prot, w, R, Γ, 0, []⟩ R' Γ' noAct w' H2 ∧ ∀ q ∈ H2, q.isObj = true)) [] (a0.put o.dst v) cs' w := fun v cs' h => h
    simp only [wpOpsS, List.getElem?_toArray, List.getElem?_cons_zero, hwant, if_true, hex]
    cases rv with
    | none =>
      cases rc with
      | some p => exact hrv.elim
      | none =>
        have hrec : recoverD (c₀ :: cs) = none := by simp [recoverD, hmode, modeOf]
        rw [hrec]
        have := cont .nilIface (.v .nilIface) c₀.mode (.v _ rfl) rfl (by rw [hmode]; rfl)
        exact this
    | some v =>
      cases rc with
      | none => exact hrv.elim
      | some p =>
        have hrec : recoverD (c₀ :: cs) = some (v, { c₀ with mode := .panicking [{ v := v, recovered := true }] } :: cs) := by simp [recoverD, hmode, modeOf]
        rw [hrec]
        refine cont v p _ ?_ rfl rfl
        obtain ⟨hp1, hp2⟩ := hrc p rfl
        have := Rep.ren (π := fun i => i) (R' := R) (w' := w) (Γ' := fun i => if M ≤ i then Γ (i - M) else none) (show Rep w R Γ v p from hrv) (.inl hp2) (fun j hj => by rw [plain_names hp1] at hj; cases hj)
        rwa [ren_plain hp1] at this
end
end Go.Qg

namespace Go.Qg
open Go.RowKit (Below)
def dend (P : Program) (M' k : Nat) (rs : List ResultVar) (gf : FuncId) (caps : List PV) (Q : Out → Prop) (rc : Option PV) (g : PF) : Prop :=
  ∃ ιd Hd capsd, ιd.Nodup ∧ outF g (tgtAt Hd ιd fun _ => false) 8 Hd ιd ∧ vwAll (vw g (tgtAt Hd ιd fun _ => false) 8) capsd (renL (M' + ·) caps) ∧
    DefW P gf capsd Hd rc fun H3 => H3.length = ιd.length ∧ ∃ x r H2 news, presults P (back g ιd H3) rs = some x ∧ leaves M' k (back g ιd H3) x r H2 news ∧ Q (.ret r H2)
def dpost (P : Program) (M' k : Nat) (rs : List ResultVar) (gf : FuncId) (caps : List PV) (Q : Out → Prop) : PX → PF → Prop
  | .ret, g | .normal, g => dend P M' k rs gf caps Q none g
  | .panic p, g => p.plain = true ∧ p.flat = true ∧ dend P M' k rs gf caps Q (some p) g
  | _, _ => False
def dmid (P : Program) (N M k : Nat) (rs : List ResultVar) (c : Code) (x : Operand) (Q : Out → Prop) (fr : PF) : Prop :=
  ∃ gf ps caps M' news H A, rd fr x = .clo (.func gf) [] ps ∧ N ≤ M' ∧ ((List.range k).map (M + ·) ++ news).Nodup ∧ A.length = N ∧
    outF fr (tgtAt H ((List.range k).map (M + ·) ++ news) fun _ => false) 8 H ((List.range k).map (M + ·) ++ news) ∧
    (∀ i, i < N → vw fr (tgtAt H ((List.range k).map (M + ·) ++ news) fun _ => false) 8 (A.getD i .undef) (rd fr (.tmp i))) ∧
    vwAll (vw fr (tgtAt H ((List.range k).map (M + ·) ++ news) fun _ => false) 8) caps ps ∧ (∀ p ∈ caps, p.flat = true) ∧
    pwp P M' c (dpost P M' k rs gf caps Q) (frame0 M' A H)
section
variable {P : Program} {N M M' : Nat} {B : Base} {a a' : Act} {w w' : World} {R : Nat → Nat → Prop} {Γ : Nat → Option Loc} {fr : PF}
theorem callW_ofD (hm : P.follows .mixedOrders = true) {f : FuncId} {fn : Func} {id : Nat} {o1 o2 : Oper} {c0 c2 : Code} {x : Operand} {ats : Array TypeId} (hf : P.funcs[f]? = some fn) (hname : (fn.name == "runtime.NumGoroutine") = false) (hb : fn.body = some (.seq c0 (.seq (.region id #[o1, o2] false) c2)))
    (ho : o2.op = .defer { callee := .value x, args := #[], argTypes := ats }) (hg : o2.guard = none) (hdst : o2.dst = none) {rs : List ResultVar} (hrs : fn.results.toList = rs) (hn : fn.ntmps = N) (hd0 : dstsIn N c0 = true) (hd1 : ∀ d, o1.dst = some d → d < N) (hd2 : dstsIn N c2 = true) {args : List PV} {H : PF} {Q : Out → Prop}
    (M : Nat) (hargs : args.length ≤ N) (hM : N ≤ M) (h : pwp P M c0 (thenP (pops P M [o1, o2] (dmid P N M H.length rs c2 x Q) (fun _ _ => False) [o1]) (fun _ _ => False)) (frame0 M args H)) : CallW P f args H Q := by
  subst hrs hn
  refine ⟨fun vs w => ?_, fun w vs R Γ Prot hRp h0 hl hrep => ?_⟩
  · simp only [callFunc, Sem.run_bind, run_program, Result.andThen_ok, hf, hname, hb]
    rfl
  · have hsim := h0.enter hl hrep hargs hM
    refine calls_of_wr hf hb (wr_seq (wr_mono (pwp_sound (ro := none) hm rfl c0 _ _ _ w hd0 hsim.toE h) fun e a0 w0 ⟨R0, Γ0, fr0, x0, hs0, hu0, hq0⟩ => ?_))
    cases x0 with
    | normal =>
      cases e with
      | normal =>
        refine wr_seq (wr_region ?_)
        have hr1 : List.range (#[o1, o2] : Array Oper).size = [0, 1] := rfl
        rw [hr1]
        have hN : ∀ o ∈ [o1, o2], ∀ d, o.dst = some d → d < fn.ntmps := fun o ho d hd => by
          rcases List.mem_cons.1 ho with rfl | ho
          · exact hd1 d hd
          · obtain rfl := List.mem_singleton.1 ho
            rw [hdst] at hd; cases hd
        refine op_sound (all := [o1, o2]) (K := pops P M [o1, o2] (dmid P fn.ntmps M H.length fn.results.toList c2 x Q) (fun _ _ => False) []) (Kp := fun _ _ => False) hs0.toE rfl hN rfl (fun _ _ _ _ _ _ _ _ _ hk => hk.elim) (fun _ _ hq => hq.elim) (k := 0) (o := o1) rfl hq0 (K' := fun a' w' => ∃ fr', SimE fn.ntmps (base0 Prot w R Γ M) a' w' fr' ∧ dmid P fn.ntmps M H.length fn.results.toList c2 x Q fr') (fun a' w' fr' h1 h2 => ⟨fr', h1, h2⟩) [1] fun a1 w1 hq1 => ?_
        obtain ⟨fr1, ⟨R1, Γ1, hs1⟩, gf, ps, caps, M', news, Ho, A, hx, hM', hκ, hA, hout, hAv, hcaps, hflat, hrest⟩ := hq1
        have hgn : ∀ s ∈ (List.range H.length).map (M + ·) ++ news, (fun _ : Nat => false) s = false := fun _ _ => rfl
        generalize hκe : (List.range H.length).map (M + ·) ++ news = κ at hκ hout hAv hcaps hgn
        have hv := hs1.rd x
        rw [hx] at hv
        generalize hux : a1.eval x = ux at hv
        cases hv with
        | clo _ uf uc _ _ l1 l2 _ r2 =>
        obtain rfl : uf = [] := by simpa using l1
        have hex : (execOp a1.eval o2).run P w1 = .ok (.defer { target := .fn (.func gf) uc.toArray, args := #[] }) w1 := by
          simp only [execOp, ho, resolve, Deferred.ofValue, hux]
          simp [go_sem]
        refine OpR_wp (K := fun a' w' => a' = { a1 with defers := [{ target := .fn (.func gf) uc.toArray, args := #[] }] } ∧ w' = w1) (ops := #[o1, o2]) (o := o2) rfl (by simp [Region.wanted, hg]) (.inl rfl) (fun _ _ hq => hq.elim) ?_ [] fun a' w' ⟨ha', hw'⟩ => RegR_nil ?_
        · unfold Oper.wp
          rw [hex, Oper.upon_defer]
          refine ⟨?_, rfl⟩
          rw [hdst, hs1.defers]
          rfl
        · subst ha' hw'
          obtain ⟨hlend, hRp1⟩ := hs1.lend hout hκ hgn
          obtain ⟨_, hview⟩ := hs1.leave hout hκ hgn
          have hR1 : ∀ b o, freedAt R1 Γ1 (fun _ => false) b o → R1 b o := fun b o hb => by
            rcases hb with hb | ⟨s, m, hg, _⟩
            · exact hb
            · cases hg
          have hent := hlend.enter (N := fn.ntmps) (M := M') (vs := a1.tmps.toList) (args := A) (by simp [hA, hs1.size]) (fun i u q hu hq => by
            have hlt := lt_of_get? hq
            rw [hA] at hlt
            have hqA : A.getD i .undef = q := by simp [List.getD, hq]
            have h1 := hAv i hlt
            rw [hqA] at h1
            refine hview q _ u h1 ?_
            have h2 := hs1.rd (.tmp i)
            rw [Array.getElem?_toList] at hu
            have : a1.eval (.tmp i) = u := by simp [Act.eval, hu]
            rwa [this] at h2) (by simp [hA]) hM'
          have hact : ({ tmps := a1.tmps.toList.toArray ++ Array.replicate (fn.ntmps - a1.tmps.toList.toArray.size) undef, defers := [] } : Act) = { tmps := a1.tmps, defers := [] } := by
            have e1 : a1.tmps.toList.toArray = a1.tmps := Array.toArray_toList
            rw [e1, hs1.size]
            simp
          rw [hact] at hent
          have hs2 : Sim fn.ntmps ⟨Prot, w, R, fun i => if M' ≤ i then Γout Γ1 Ho κ (i - M') else none, M', [{ target := .fn (.func gf) uc.toArray, args := #[] }]⟩ (freedAt R1 Γ1 fun _ => false) (fun i => if M' ≤ i then Γout Γ1 Ho κ (i - M') else none) { a1 with defers := [{ target := .fn (.func gf) uc.toArray, args := #[] }] } w' (frame0 M' A Ho) := by
            refine hent.moved (fun b o _ => rfl) (fun i l b hi hb => rfl) (Nat.le_refl _) (fun i l b hi hb hp => ?_) (fun b o hb => ?_) hs1.kept hs1.prot hM' (fun j l hj hl => ⟨l, hl, Loc.le_refl l⟩) rfl rfl
            · skip
              split at hi
              · obtain ⟨s, m, _, hm', hmb⟩ := Γout_blk hi hb
                exact ((hs1.own s m hm').2 b hmb).1 hp
              · cases hi
            · exact hs1.sub b o (hR1 b o hb)
          refine wr_mono (pwp_sound (ro := none) hm rfl c2 _ _ _ w' hd2 hs2.toE hrest) fun e a2 w2 ⟨R2, Γ2, g, x2, hs3, hu, hq⟩ => ?_
          have hcap : ∀ (i : Nat) (u : Value) (q : PV), uc[i]? = some u → (renL (M' + ·) caps)[i]? = some q → Rep w2 R2 Γ2 u q := fun i u q hu hq => by
            rw [renL_get] at hq
            simp only [Option.map_eq_some_iff] at hq
            obtain ⟨q0, hq0, rfl⟩ := hq
            obtain ⟨p0, hp0, hv0⟩ := vwAll_get hcaps i q0 hq0
            refine (hview q0 p0 u hv0 (r2 i u p0 hu hp0)).ren (.inl (hflat q0 (List.mem_of_getElem? hq0))) fun j _ l hl => ?_
            exact hs3.base (M' + j) l (Nat.le_add_right _ _) (by dsimp only; rw [if_pos (by omega), Nat.add_sub_cancel_left]; exact hl)
          have hlc : uc.length = (renL (M' + ·) caps).length := by rw [renL_length, vwAll_length hcaps]; exact l2
          have fin : ∀ (rv : Option Value) (rc : Option PV), (match rv, rc with | none, none => True | some v, some p => p.plain = true ∧ p.flat = true ∧ Rep w2 R2 Γ2 v p | _, _ => False) → dend P M' H.length fn.results.toList gf caps Q rc g → LeavesC P fn a2.tmps (Left Prot w R Γ Q) a2.defers (modeOf rv) w2 := by
            rintro rv rc hrv ⟨ιd, Hd, capsd, hιd, houtd, hcapsd, hdw, hdc⟩
            have hgd : ∀ s ∈ ιd, (fun _ : Nat => false) s = false := fun _ _ => rfl
            obtain ⟨hlend3, hRp3⟩ := hs3.lend houtd hιd hgd
            obtain ⟨_, hview3⟩ := hs3.leave houtd hιd hgd
            rw [hs3.defers]
            refine ⟨by cases rv <;> simp [modeOf], .inr ⟨.func gf, uc.toArray, gf, uc.toArray, rfl, ?_, ?_⟩⟩
            · simp [invoke, go_sem, hdw]
            · refine (hdc w2 uc _ _ _ rv hRp3 hlend3 ?_ (fun i u q hu hq => ?_) ?_).mono ?_
              · rw [hlc, vwAll_length hcapsd]
              · obtain ⟨p, hp, hv⟩ := vwAll_get hcapsd i q hq
                exact hview3 q p u hv (hcap i u p hu hp)
              · cases rv with
                | none => cases rc with
                  | none => trivial
                  | some p => exact hrv.elim
                | some v => cases rc with
                  | none => exact hrv.elim
                  | some p =>
                    obtain ⟨hp1, hp2, hr⟩ := hrv
                    have := Rep.ren (π := fun i => i) (R' := freedAt R2 Γ2 fun _ => false) (w' := w2) (Γ' := Γout Γ2 Hd ιd) hr (.inl hp2) (fun j hj => by rw [plain_names hp1] at hj; cases hj)
                    rwa [ren_plain hp1] at this
              · rintro e u' w3 ⟨⟨v, rfl⟩, rfl, R3, Γ3, H3, ⟨hl3, xr, r, H2, news2, hpr, hlv, hQ⟩, hs4, hobj⟩
                have hset : settle (modeRec rv) = .returning := by cases rv <;> rfl
                show LeavesC P fn a2.tmps _ [] (settle (modeRec rv)) w3
                rw [hset]
                obtain ⟨hm1, _⟩ := hs3.merge (news := []) houtd hs4 (by simpa using hιd) (by simpa using hl3) (fun s hs => by cases hs) (.inl fun _ => rfl) hobj
                have eback : placeAll ((ιd ++ []).getD · 0) (ιd ++ []) H3 g = back g ιd H3 := by simp only [List.append_nil]; rfl
                rw [eback] at hm1
                obtain ⟨v, hv, hrv⟩ := presults_sound (P := P) hm1 fn hpr
                refine ⟨v, hv, ?_⟩
                obtain ⟨hn2, hout2, hv2⟩ := hlv
                obtain ⟨h1, h2⟩ := hm1.leave hout2 hn2 (fun s hs => by have := List.contains_iff_mem.2 hs; show (!_) = false; rw [this]; rfl)
                refine ⟨_, _, .inl ⟨v, r, H2, rfl, hQ, h2 r xr v hv2 hrv, h1.rebase fun j l hjl => ?_, fun q hq => ?_⟩⟩
                · obtain ⟨⟨p, hp, _⟩, _⟩ := h0.own j l hjl
                  have hj := lt_of_get? hp
                  have hb : (base0 Prot w R Γ M).Γ0 (M + j) = some l := by
                    simp only [base0]
                    rw [if_pos (by omega), Nat.add_sub_cancel_left]; exact hjl
                  obtain ⟨l1, e1, e2⟩ := hs1.base (M + j) l (Nat.le_add_right _ _) hb
                  have hκ1 : κ[j]? = some (M + j) := by
                    rw [← hκe, List.getElem?_append_left (by simpa using hj)]; exact range_get M hj
                  obtain ⟨l2, e3, e4⟩ := Γout_le hs1 hout hκ1 e1
                  obtain ⟨l3, e5, e6⟩ := hm1.base (M' + j) l2 (Nat.le_add_right _ _) (by dsimp only; rw [if_pos (by omega), Nat.add_sub_cancel_left]; exact e3)
                  have hκ2 : ((List.range H.length).map (M' + ·) ++ news2)[j]? = some (M' + j) := by
                    rw [List.getElem?_append_left (by simpa using hj)]; exact range_get M' hj
                  obtain ⟨l4, e7, e8⟩ := Γout_le hm1 hout2 hκ2 e5
                  exact ⟨l4, e7, Loc.le_trans e2 (Loc.le_trans e4 (Loc.le_trans e6 e8))⟩
                · obtain ⟨i, hi⟩ := List.mem_iff_getElem?.1 hq
                  obtain ⟨s, p, _, _, hbare, _⟩ := outF_get hout2 i q hi
                  cases q <;> first | rfl | cases hbare
          cases e with
          | ret => cases x2 with
            | ret => exact fin none none trivial hq
            | _ => exact hu.elim
          | normal => cases x2 with
            | normal => exact fin none none trivial hq
            | _ => exact hu.elim
          | panic ch => cases x2 with
            | panic p =>
              obtain ⟨v, rfl, hrv⟩ := hu
              obtain ⟨hp1, hp2, hq⟩ := hq
              exact fin (some v) (some p) ⟨hp1, hp2, hrv⟩ hq
            | _ => exact hu.elim
          | exit id => cases x2 with
            | exit id' => exact hq.elim
            | _ => exact hu.elim
          | goto id => cases x2 with
            | goto id' => exact hq.elim
            | _ => exact hu.elim
          | outgrown => cases x2 <;> exact hu.elim
      | _ => exact hu0.elim
    | _ => exact hq0.elim
end
end Go.Qg

namespace Go.Qg
theorem pd_spec {P : Program} {o : Oper} {fr : PF} {c : Call} {f : FuncId} {ps : List PV} {r : PV} {k : List Nat → PF → Prop} (h : Spec P f ps r) (hp : pcallee P fr c = some (f, ps)) (hno : noObj o.dst fr = true) (hnm : namesL ps = []) (hr : r.names = [])
    (hk : k [] (put o.dst r fr)) : pdCall P o c fr k := by
  unfold pdCall
  rw [hp]
  refine ⟨hno, false, ps, r, [], [], .inl ⟨rfl, rfl, hnm⟩, .inl rfl, h, ⟨List.nodup_nil, rfl, fun s hs => by cases hs⟩, fun d _ hd => (by cases hd), ?_⟩
  have e : backV [] r = r := PV.ren_free _ _ hr
  rw [e]
  exact hk
theorem pd_specM {P : Program} {o : Oper} {fr : PF} {c : Call} {f : FuncId} {ps qs : List PV} {r : PV} {k : List Nat → PF → Prop} (h : Spec P f qs r) (hp : pcallee P fr c = some (f, ps)) (hno : noObj o.dst fr = true)
    (ha : ∀ g : PF, (∀ y ∈ c.args.toList, ∀ s ∈ deref (rd fr y), g[s]? = fr[s]?) → vwAll (vw g (lentTgt [] [] true) 8) qs ps) (hfl : r.flat = true) (hr : r.names = [])
    (hk : k [] (put o.dst r fr)) : pdCall P o c fr k := by
  unfold pdCall
  rw [hp]
  refine ⟨hno, true, qs, r, [], [], .inr ⟨rfl, ha⟩, .inr (by simpa [flatL] using hfl), h, ⟨List.nodup_nil, rfl, fun s hs => by cases hs⟩, fun d _ hd => (by cases hd), ?_⟩
  have e : backV [] r = r := PV.ren_free _ _ hr
  rw [e]
  exact hk
theorem vw_own_local {g : PF} {fl : Option (Nat × Nat)} {s ep off n sz e : Nat} {c : Bool} {rs : List (List PV)} {h : Nat → List PV} (hs : g[s]? = some (.rows fl ep e sz rs)) (hlen : off + n ≤ rs.length) (he : ∀ k, k < n → h k = rs.getD (off + k) [] ∧ plainL (h k) = true ∧ (h k).all (fun q => q.one && q.free) = true) :
    vw g (lentTgt [] [] true) 8 (.sl sz n h) (.own s ep off n c) := by
  rw [vw_sl_own_]
  refine ⟨by simp, rfl, rs, by simp [Qg.pown, hs], hlen, fun k hk => ?_⟩
  obtain ⟨e1, e2, e3⟩ := he k hk
  exact ⟨by rw [← e1]; exact vwAll_plain e2, e3⟩
theorem pop_callW {P : Program} {M : Nat} {K : PF → Prop} {Kp : PV → PF → Prop} {o : Oper} {fr : PF} {c : Call} {f : FuncId} {ps qs : List PV} {H : PF} {Q : Out → Prop} (h : CallW P f qs H Q) (hp : pcallee P fr c = some (f, ps)) (ι : List Nat) (md : Bool) (hι : ι.Nodup)
    (ho : outF fr (lentTgt H ι md) 8 H ι) (ha : argsOk fr (lentTgt H ι md) qs ps)
    (hk : ∀ out, Q out → match out with
      | .ret r H2 => ∃ news, backOk fr ι news H2 ∧ (md = false ∨ (flatL H2 && r.flat) = true) ∧ pclear o.dst (backV (ι ++ news) r) (back fr (ι ++ news) H2) = true ∧ K (put o.dst (backV (ι ++ news) r) (back fr (ι ++ news) H2))
      | .pan p H2 => ∃ news, backOk fr ι news H2 ∧ (md = false ∨ (flatL H2 && p.flat) = true) ∧ Kp (backV (ι ++ news) p) (back fr (ι ++ news) H2)) : popCall P M K Kp o c fr := by
  refine ⟨fr, .inl rfl, ?_⟩
  rw [hp]
  refine ⟨ι, md, H, qs, Q, hι, ho, ha, h, fun out hq => ?_⟩
  have := hk out hq
  cases out with
  | ret r H2 =>
    obtain ⟨news, h1, h2, h3, h4⟩ := this
    exact ⟨news, h1, h2, h3, h4⟩
  | pan p H2 =>
    obtain ⟨news, h1, h2, h3⟩ := this
    exact ⟨news, h1, h2, h3⟩
theorem pop_callG {P : Program} {M : Nat} {K : PF → Prop} {Kp : PV → PF → Prop} {o : Oper} {fr : PF} {c : Call} {f : FuncId} {ps qs : List PV} {H : PF} {Q : Out → Prop} (g : PF) (hg : less M fr g) (h : CallW P f qs H Q) (hp : pcallee P g c = some (f, ps)) (ι : List Nat) (md : Bool) (hι : ι.Nodup)
    (ho : outF g (lentTgt H ι md) 8 H ι) (ha : argsOk g (lentTgt H ι md) qs ps)
    (hk : ∀ out, Q out → match out with
      | .ret r H2 => ∃ news, backOk g ι news H2 ∧ (md = false ∨ (flatL H2 && r.flat) = true) ∧ pclear o.dst (backV (ι ++ news) r) (back g (ι ++ news) H2) = true ∧ K (put o.dst (backV (ι ++ news) r) (back g (ι ++ news) H2))
      | .pan p H2 => ∃ news, backOk g ι news H2 ∧ (md = false ∨ (flatL H2 && p.flat) = true) ∧ Kp (backV (ι ++ news) p) (back g (ι ++ news) H2)) : popCall P M K Kp o c fr := by
  refine ⟨g, .inr hg, ?_⟩
  rw [hp]
  refine ⟨ι, md, H, qs, Q, hι, ho, ha, h, fun out hq => ?_⟩
  have := hk out hq
  cases out with
  | ret r H2 =>
    obtain ⟨news, h1, h2, h3, h4⟩ := this
    exact ⟨news, h1, h2, h3, h4⟩
  | pan p H2 =>
    obtain ⟨news, h1, h2, h3⟩ := this
    exact ⟨news, h1, h2, h3⟩
theorem pop_specG {P : Program} {M : Nat} {K : PF → Prop} {Kp : PV → PF → Prop} {o : Oper} {fr : PF} {c : Call} {f : FuncId} {ps qs : List PV} {r : PV} (g : PF) (hg : less M fr g) (h : Spec P f qs r) (hp : pcallee P g c = some (f, ps)) (md : Bool) (ha : argsOk g (lentTgt [] [] md) qs ps) (hfl : md = false ∨ r.flat = true)
    (hn : r.names = []) (hcl : pclear o.dst r g = true) (hK : K (put o.dst r g)) : popCall P M K Kp o c fr := by
  refine ⟨g, .inr hg, ?_⟩
  rw [hp]
  refine ⟨[], md, [], qs, _, List.nodup_nil, trivial, ha, h, fun out ho => ?_⟩
  subst ho
  have e : backV [] r = r := PV.ren_free _ _ hn
  refine ⟨[], ⟨List.nodup_nil, rfl, fun s hs => by cases hs⟩, hfl.imp_right fun h => by simpa [flatL] using h, ?_⟩
  simp only [List.append_nil]
  rw [e]
  exact ⟨hcl, hK⟩
theorem ends_n {P : Program} {M k : Nat} {rs : List ResultVar} {Q : Out → Prop} {fr : PF} {x : PV} (r : PV) (H2 : PF) (news : List Nat) (hx : presults P fr rs = some x) (hn : ((List.range k).map (M + ·) ++ news).Nodup)
    (ho : outF fr (tgtAt H2 ((List.range k).map (M + ·) ++ news) fun s => !((List.range k).map (M + ·) ++ news).contains s) 8 H2 ((List.range k).map (M + ·) ++ news))
    (hv : vw fr (tgtAt H2 ((List.range k).map (M + ·) ++ news) fun s => !((List.range k).map (M + ·) ++ news).contains s) 8 r x) (hq : Q (.ret r H2)) : ppost P M k rs Q .normal fr := ⟨x, r, H2, news, hx, ⟨hn, ho, hv⟩, hq⟩
theorem ends_pan {P : Program} {M k : Nat} {rs : List ResultVar} {Q : Out → Prop} {fr : PF} {x : PV} (r : PV) (H2 : PF) (news : List Nat) (hn : ((List.range k).map (M + ·) ++ news).Nodup)
    (ho : outF fr (tgtAt H2 ((List.range k).map (M + ·) ++ news) fun s => !((List.range k).map (M + ·) ++ news).contains s) 8 H2 ((List.range k).map (M + ·) ++ news))
    (hv : vw fr (tgtAt H2 ((List.range k).map (M + ·) ++ news) fun s => !((List.range k).map (M + ·) ++ news).contains s) 8 r x) (hq : Q (.pan r H2)) : ppost P M k rs Q (.panic x) fr := ⟨r, H2, news, ⟨hn, ho, hv⟩, hq⟩
theorem answers_plain {P : Program} {rs : List ResultVar} {r : PV} {fr : PF} (h : presults P fr rs = some r) (hp : r.plain = true) : answers P rs r fr := ⟨r, h, vw_plain hp⟩
@[simp] theorem range_2 : List.range 2 = [0, 1] := rfl
@[simp] theorem range_3 : List.range 3 = [0, 1, 2] := rfl
@[simp] theorem range_4 : List.range 4 = [0, 1, 2, 3] := rfl
@[simp] theorem range_5 : List.range 5 = [0, 1, 2, 3, 4] := rfl
@[simp] theorem range_6 : List.range 6 = [0, 1, 2, 3, 4, 5] := rfl
@[simp] theorem range_7 : List.range 7 = [0, 1, 2, 3, 4, 5, 6] := rfl
@[simp] theorem range_8 : List.range 8 = [0, 1, 2, 3, 4, 5, 6, 7] := rfl
@[simp] theorem range_9 : List.range 9 = [0, 1, 2, 3, 4, 5, 6, 7, 8] := rfl
@[simp] theorem range_10 : List.range 10 = [0, 1, 2, 3, 4, 5, 6, 7, 8, 9] := rfl
@[simp] theorem range_11 : List.range 11 = [0, 1, 2, 3, 4, 5, 6, 7, 8, 9, 10] := rfl
@[simp] theorem range_12 : List.range 12 = [0, 1, 2, 3, 4, 5, 6, 7, 8, 9, 10, 11] := rfl
end Go.Qg

namespace Go.Qg
def dleaves (M k : Nat) (Q : PF → Prop) (x : PX) (fr : PF) : Prop := (x = .normal ∨ x = .ret) ∧ ∃ H2, leavesH M k fr H2 ∧ Q H2
theorem dleaves_n {M k : Nat} {Q : PF → Prop} {fr : PF} (H2 : PF) (h : outF fr (tgtAt H2 ((List.range k).map (M + ·)) fun s => !((List.range k).map (M + ·)).contains s) 8 H2 ((List.range k).map (M + ·))) (hq : Q H2) : dleaves M k Q .normal fr := ⟨.inl rfl, H2, h, hq⟩
theorem dleaves_r {M k : Nat} {Q : PF → Prop} {fr : PF} (H2 : PF) (h : outF fr (tgtAt H2 ((List.range k).map (M + ·)) fun s => !((List.range k).map (M + ·)).contains s) 8 H2 ((List.range k).map (M + ·))) (hq : Q H2) : dleaves M k Q .ret fr := ⟨.inr rfl, H2, h, hq⟩
def slots : Nat → Nat → PF → List PV
  | _, 0, _ => []
  | i, n + 1, [] => .undef :: slots (i + 1) n []
  | i, n + 1, p :: fr => rdAt i p :: slots (i + 1) n fr
theorem slots_get : ∀ (n i : Nat) (fr : PF) (j : Nat), j < n → (slots i n fr)[j]? = some (match fr[j]? with | some p => rdAt (i + j) p | none => .undef)
  | n + 1, i, [], 0, _ => by simp [slots]
  | n + 1, i, p :: fr, 0, _ => by simp [slots]
  | n + 1, i, [], j + 1, h => by
    simp only [slots, List.getElem?_cons_succ]
    rw [slots_get n (i + 1) [] j (by omega)]; simp
  | n + 1, i, p :: fr, j + 1, h => by
    simp only [slots, List.getElem?_cons_succ]
    rw [slots_get n (i + 1) fr j (by omega)]
    rw [show i + 1 + j = i + (j + 1) from by omega]
theorem slots_vw {fr : PF} {T : Tgt} {d N : Nat} {A : List PV} (h : vwAll (vw fr T d) A (slots 0 N fr)) : ∀ i, i < N → vw fr T d (A.getD i .undef) (rd fr (.tmp i)) := fun i hi => by
  have h1 := slots_get N 0 fr i hi
  have hl : (slots 0 N fr).length = A.length := (vwAll_length h).symm
  have hlt : i < A.length := by rw [← hl]; exact lt_of_get? h1
  obtain ⟨p, h2, h3⟩ := vwAll_get h i _ (List.getElem?_eq_getElem hlt)
  rw [h1] at h2
  have e : A.getD i .undef = A[i] := by simp [List.getD, List.getElem?_eq_getElem hlt]
  rw [e, show rd fr (.tmp i) = p from by
    rw [Nat.zero_add] at h2
    have h2 := Option.some.inj h2
    rw [← h2]; rfl]
  exact h3
theorem def_ofL {P : Program} {N : Nat} (hm : P.follows .mixedOrders = true) {f : FuncId} {fn : Func} {id : Nat} {o : Oper} {c : Code} (hf : P.funcs[f]? = some fn) (hname : (fn.name == "runtime.NumGoroutine") = false) (hb : fn.body = some (.seq (.region id #[o] false) c)) {d : Tmp} {ats : Array TypeId} (ho : o.op = .call { callee := .builtin .recover, args := #[], argTypes := ats }) (hg : o.guard = none) (hdst : o.dst = some d) (hrs : fn.results = #[]) (hn : fn.ntmps = N) (hdN : d < N) (hd : dstsIn N c = true)
    {caps : List PV} {H : PF} {rc : Option PV} {Q : PF → Prop} (hrc : ∀ p, rc = some p → p.plain = true ∧ p.flat = true) (M : Nat) (hargs : caps.length ≤ N) (hM : N ≤ M) (hfree : (frame0 M caps H)[d]? = some .undef)
    (h : pwp P M c (dleaves M H.length Q) ((frame0 M caps H).set d (rc.getD (.v .nilIface)))) : DefW P f caps H rc Q :=
  def_of hm hf hname hb ho hg hdst hrs hn hdN hd hrc M hargs hM hfree h
theorem dend_of {P : Program} {M' k : Nat} {rs : List ResultVar} {gf : FuncId} {caps : List PV} {Q : Out → Prop} {rc : Option PV} {g : PF} {H3 : PF} {x : PV} (ιd : List Nat) (Hd : PF) (capsd : List PV) (hιd : ιd.Nodup) (ho : outF g (tgtAt Hd ιd fun _ => false) 8 Hd ιd) (hc : vwAll (vw g (tgtAt Hd ιd fun _ => false) 8) capsd (renL (M' + ·) caps))
    (hd : DefW P gf capsd Hd rc fun H => H = H3) (hl : H3.length = ιd.length) (hx : presults P (back g ιd H3) rs = some x) (r : PV) (H2 : PF) (news : List Nat) (hlv : leaves M' k (back g ιd H3) x r H2 news) (hq : Q (.ret r H2)) : dend P M' k rs gf caps Q rc g := by
  refine ⟨ιd, Hd, capsd, hιd, ho, hc, hd.1, fun w vs R Γ Prot rv h1 h2 h3 h4 h5 => (hd.2 w vs R Γ Prot rv h1 h2 h3 h4 h5).mono ?_⟩
  rintro e u' w' ⟨a1, a2, R', Γ', H, rfl, a3⟩
  exact ⟨a1, a2, R', Γ', H, ⟨hl, x, r, H2, news, hx, hlv, hq⟩, a3⟩
theorem dpost_n {P : Program} {M' k : Nat} {rs : List ResultVar} {gf : FuncId} {caps : List PV} {Q : Out → Prop} {g : PF} (h : dend P M' k rs gf caps Q none g) : dpost P M' k rs gf caps Q .normal g := h
theorem dpost_r {P : Program} {M' k : Nat} {rs : List ResultVar} {gf : FuncId} {caps : List PV} {Q : Out → Prop} {g : PF} (h : dend P M' k rs gf caps Q none g) : dpost P M' k rs gf caps Q .ret g := h
theorem dpost_p {P : Program} {M' k : Nat} {rs : List ResultVar} {gf : FuncId} {caps : List PV} {Q : Out → Prop} {g : PF} {p : PV} (h1 : p.plain = true) (h2 : p.flat = true) (h : dend P M' k rs gf caps Q (some p) g) : dpost P M' k rs gf caps Q (.panic p) g := ⟨h1, h2, h⟩
theorem dmid_of {P : Program} {N M k : Nat} {rs : List ResultVar} {c : Code} {x : Operand} {Q : Out → Prop} {fr : PF} {gf : FuncId} {ps : List PV} (caps : List PV) (M' : Nat) (news : List Nat) (H A : PF) (hx : rd fr x = .clo (.func gf) [] ps) (hM : N ≤ M') (hn : ((List.range k).map (M + ·) ++ news).Nodup) (hA : A.length = N)
    (ho : outF fr (tgtAt H ((List.range k).map (M + ·) ++ news) fun _ => false) 8 H ((List.range k).map (M + ·) ++ news))
    (hv : vwAll (vw fr (tgtAt H ((List.range k).map (M + ·) ++ news) fun _ => false) 8) A (slots 0 N fr))
    (hc : vwAll (vw fr (tgtAt H ((List.range k).map (M + ·) ++ news) fun _ => false) 8) caps ps) (hf : ∀ p ∈ caps, p.flat = true)
    (h : pwp P M' c (dpost P M' k rs gf caps Q) (frame0 M' A H)) : dmid P N M k rs c x Q fr := ⟨gf, ps, caps, M', news, H, A, hx, hM, hn, hA, ho, slots_vw hv, hc, hf, h⟩
end Go.Qg

namespace Go.Qg
def againX {σ ι : Type} (M : Nat) (H : σ → PF) (J : σ → ι) (I : σ → Prop) (μ : σ → Nat) (s : σ) (i : ι) (fr : PF) : Prop := ∃ s', I s' ∧ μ s' < μ s ∧ J s' = i ∧ less M fr (H s')
theorem againX_of {σ ι : Type} {M : Nat} {H : σ → PF} {J : σ → ι} {I : σ → Prop} {μ : σ → Nat} {s : σ} {i : ι} {fr : PF} (s' : σ) (h1 : I s') (h2 : μ s' < μ s) (h3 : J s' = i) (h4 : less M fr (H s')) : againX M H J I μ s i fr := ⟨s', h1, h2, h3, h4⟩
section
variable {ι : Type} {P : Program} {N M : Nat} {𝒞 : ι → Base → Prop} {Q : ι → PX → PF → Prop} {i : ι} {fr : PF}
theorem XW_seqP (hm : P.follows .mixedOrders = true) (hlo : ∀ i B, 𝒞 i B → B.lo = M) {x y : Code} (hd : dstsIn N x = true) (h : pwp P M x (thenP (fun fr => XW P N 𝒞 i y Q fr) (Q i)) fr) : XW P N 𝒞 i (.seq x y) Q fr := by
  refine XW_seq (K := fun i fr => XW P N 𝒞 i y Q fr) (XW_pwp hm hlo hd (pwp_mono x (fun e fr he => ?_) h)) fun _ _ h => h
  cases e with
  | normal => exact he
  | _ => exact he
theorem XW_seqX {x y : Code} (h : XW P N 𝒞 i x (thenX (fun i fr => XW P N 𝒞 i y Q fr) Q) fr) : XW P N 𝒞 i (.seq x y) Q fr := XW_seq h fun _ _ h => h
theorem XW_loopV (hlo : ∀ i B, 𝒞 i B → B.lo = M) {c : Code} {B : PF} {σ : Type} (V : σ → List (Nat × PV)) (J : σ → ι) (I : σ → Prop) (μ : σ → Nat) (s0 : σ) (h0 : I s0) (hj : J s0 = i) (_hB : forgetAll (dsts c) fr = B) (e0 : less M fr (apply (V s0) B))
    (round : ∀ s, I s → XW P N 𝒞 (J s) c (thenX (againX M (fun s => apply (V s) B) J I μ s) Q) (apply (V s) B)) : XW P N 𝒞 i (.loop c) Q fr :=
  XW_loop hlo (fun s => apply (V s) B) J I μ s0 h0 hj e0 round
end
section
variable {ι : Type} {P : Program} {m : Nat} {p : PV} {fr : PF} {all : List Oper} {C : PF → Prop} {K : ι → PF → Prop} {Q : ι → PX → PF → Prop} {i : ι}
@[simp] theorem pdrawC_nil_ (fps : List Fp) : pdrawC P all m C [] fps (p :: fr) = (drawOk all m fps = true ∧ C (p :: fr)) := (rfl)
@[simp] theorem pdrawC_cons_ (o : Oper) (rest : List Oper) (fps : List Fp) : pdrawC P all m C (o :: rest) fps (p :: fr) = match pwanted all o (p :: fr) with
    | some b => if b = true then match isCall o with
        | some c => pdCall P o c (p :: fr) fun news fr' => pdrawC P all m C rest (fps ++ [fpOf all o news (p :: fr)]) fr'
        | none => isPanic o = none ∧ dstOk o (p :: fr) = true ∧ match pstep P o (p :: fr) with
          | some fr' => pdrawC P all m C rest (fps ++ [fpOf all o [] (p :: fr)]) fr'
          | none => False
      else noObj o.dst (p :: fr) = true ∧ pdrawC P all m C rest (fps ++ [fpOf all o [] (p :: fr)]) (put o.dst (.tup []) (p :: fr))
    | none => False := (rfl)
@[simp] theorem thenX_normal_ : thenX K Q i .normal (p :: fr) = K i (p :: fr) := (rfl)
@[simp] theorem thenX_exit_ (id : Nat) : thenX K Q i (.exit id) (p :: fr) = Q i (.exit id) (p :: fr) := (rfl)
@[simp] theorem thenX_ret_ : thenX K Q i .ret (p :: fr) = Q i .ret (p :: fr) := (rfl)
@[simp] theorem thenX_panic_ (q : PV) : thenX K Q i (.panic q) (p :: fr) = Q i (.panic q) (p :: fr) := (rfl)
@[simp] theorem blockX_panic_ (id : Nat) (q : PV) : blockX id Q i (.panic q) (p :: fr) = Q i (.panic q) (p :: fr) := (rfl)
@[simp] theorem blockX_normal_ (id : Nat) : blockX id Q i .normal (p :: fr) = Q i .normal (p :: fr) := (rfl)
@[simp] theorem blockX_exit_ (id id' : Nat) : blockX id Q i (.exit id') (p :: fr) = if id' = id then Q i .normal (p :: fr) else Q i (.exit id') (p :: fr) := (rfl)
@[simp] theorem blockX_ret_ (id : Nat) : blockX id Q i .ret (p :: fr) = Q i .ret (p :: fr) := (rfl)
end
theorem rend_n {M M' : Nat} {κ : List Nat} {fr next g : PF} {Q : Unit → PX → PF → Prop} (H2 : PF) (h1 : outF g (tgtAt H2 ((List.range κ.length).map (M' + ·)) fun s => !((List.range κ.length).map (M' + ·)).contains s) 8 H2 ((List.range κ.length).map (M' + ·))) (h2 : less M (back fr κ H2) next) : rend M M' κ fr next Q .normal g := ⟨H2, h1, h2⟩
theorem rend_r {M M' : Nat} {κ : List Nat} {fr next g : PF} {Q : Unit → PX → PF → Prop} (H2 : PF) (h1 : outF g (tgtAt H2 ((List.range κ.length).map (M' + ·)) fun s => !((List.range κ.length).map (M' + ·)).contains s) 8 H2 ((List.range κ.length).map (M' + ·))) (h2 : Q () .ret (back fr κ H2)) : rend M M' κ fr next Q .ret g := ⟨H2, h1, h2⟩
theorem rend_p {M M' : Nat} {κ : List Nat} {fr next g : PF} {Q : Unit → PX → PF → Prop} {q : PV} (hq1 : q.plain = true) (hq2 : q.flat = true) (H2 : PF) (h1 : outF g (tgtAt H2 ((List.range κ.length).map (M' + ·)) fun s => !((List.range κ.length).map (M' + ·)).contains s) 8 H2 ((List.range κ.length).map (M' + ·))) (h2 : Q () (.panic q) (back fr κ H2)) : rend M M' κ fr next Q (.panic q) g := ⟨hq1, hq2, H2, h1, h2⟩
theorem slots_view {fr : PF} {T : Tgt} {d N t : Nat} {A : List PV} (h : vwAll (vw fr T d) A ((slots 0 N fr).set t .undef)) (hA : A.length = N) : ∀ i, i < N → i ≠ t → vw fr T d (A.getD i .undef) (rd fr (.tmp i)) := fun i hi hit => by
  have h1 := slots_get N 0 fr i hi
  obtain ⟨p, h2, h3⟩ := vwAll_get h i _ (List.getElem?_eq_getElem (show i < A.length by omega))
  rw [List.getElem?_set_ne (Ne.symm hit), h1] at h2
  have e : A.getD i .undef = A[i]'(by omega) := by simp [List.getD, List.getElem?_eq_getElem (show i < A.length by omega)]
  rw [e, show rd fr (.tmp i) = p from by
    rw [Nat.zero_add] at h2
    have h2 := Option.some.inj h2
    rw [← h2]; rfl]
  exact h3
attribute [irreducible] againX
end Go.Qg

namespace Go.Qg
open Go.RowKit (Below)
section
variable {P : Program} {N : Nat} {B : Base} {w w' : World} {R R' : Nat → Nat → Prop} {Γ Γ' : Nat → Option Loc} {a : Act} {fr fr' : PF}
theorem copy_sound (h : Sim N B R Γ a w fr) {u v : Value} {i ep n : Nat} {ff : Bool} {fl : Option (Nat × Nat)} {e : TypeId} {rs news : List (List PV)} {T T' ty el : TypeId} (ht : P.underlying T = some (.slice el)) (hz : (P.info? el).map (·.size) = some 1)
    (hs : fr[i]? = some (.rows fl ep e 1 rs)) (hu : Rep w R Γ u (.own i ep 0 n ff)) (hn : rs.length = n) (h0 : 0 < n) (hv : RowsOf w R Γ 1 news v) (hl : news.length = n) :
    ∃ w', (Builtin.copy_ #[T, T'] ty #[u, v]).run P w = .ok (goInt n) w' ∧ Sim N B R Γ a w' (fr.set i (.rows fl ep e 1 news)) := by
  obtain ⟨l, hΓ, hown, _⟩ := h.ownAt (sz := 1) (rs := rs) hu (by simp [Qg.pown, hs])
  obtain ⟨l2, hΓ2, htmp, hrow, _, hl2⟩ := h.slot i _ hs
  rw [hΓ] at hΓ2
  simp only [Option.some.injEq, Loc.rows.injEq, true_and] at hΓ2
  subst hΓ2
  cases l with
  | none => obtain ⟨_, h1, _⟩ := hown; omega
  | some bc =>
    obtain ⟨b, cap⟩ := bc
    obtain ⟨rfl, hcap⟩ := hown
    obtain ⟨vs, hh, hc1, hc2, hvs, hr⟩ := hl2
    obtain ⟨hone, A, c, rfl, hx⟩ := hv
    rcases hx with ⟨e0, _⟩ | ⟨ad, us, rfl, hat⟩
    · rw [e0] at hl; simp at hl; omega
    have hrep : ∀ (k : Nat) (r : List PV) (p : PV), news[k]? = some r → r[0]? = some p → Rep w R Γ (us k) p := fun k r p h1 h2 => by
      have := hat.rep k 0 r p h1 h2
      simpa using this
    have h1 : ∀ x ∈ (List.range n).map us, x.oneCell' = true := fun x hx => by
      obtain ⟨k, hk, rfl⟩ := List.mem_map.1 hx
      have hk := List.mem_range.1 hk
      have hkn : k < news.length := by omega
      have hg := List.getElem?_eq_getElem hkn
      obtain ⟨q1, q2⟩ := hone _ (List.mem_of_getElem? hg)
      have hp0 := List.getElem?_eq_getElem (show 0 < news[k].length by omega)
      exact (hrep k _ _ hg hp0).oneCell (q2 _ (List.mem_of_getElem? hp0))
    have hrun := run_copy_row (P := P) w T T' ty el b (0 * 1) n (if ff then n else cap - 0) ad n c vs e ((List.range n).map us) ht hz hh (by simp) (fun j x hj => by
      rw [List.getElem?_map] at hj
      obtain ⟨j', hj', rfl⟩ := Option.map_eq_some_iff.1 hj
      have hlt := lt_of_get? hj'
      simp at hlt
      rw [List.getElem?_range hlt] at hj'
      obtain rfl := Option.some.inj hj'
      exact hat.cell j (by rw [hl]; omega)) (by simp; omega) h1
    simp only [List.length_map, List.length_range] at hrun
    refine ⟨_, by rw [hl]; exact hrun, ?_⟩
    generalize hW : vs.toList.take (0 * 1) ++ (List.range n).map us ++ vs.toList.drop (0 * 1 + n) = W
    have hWg : ∀ j, j < n → W[j]? = some (us j) := fun j hj => by
      rw [← hW]
      simp only [Nat.zero_mul, List.take_zero, List.nil_append]
      rw [List.getElem?_append_left (by simpa using hj), List.getElem?_map, List.getElem?_range hj]; rfl
    have hWl : W.length = vs.size := by rw [← hW]; simp; omega
    have hg : w.grownBy (w.setRow b W.toArray) (some b) := ⟨rfl, rfl, rfl, by simp, fun k _ hne => setRow_other w b k _ (fun e => hne (by rw [e]))⟩
    have hk : ∀ b' o, R b' o → R b' o ∧ (w.setRow b W.toArray).cell? ⟨b', o, none⟩ = w.cell? ⟨b', o, none⟩ := fun b' o hbo =>
      ⟨hbo, cell?_of_heap (hg.block b' (h.bnd b' o hbo) (fun e => ((h.own i _ hΓ).2 _ rfl).2.2 o (Option.some.inj e ▸ hbo)))⟩
    have := h.setObj hΓ (Loc.le_refl _) hg (.inl rfl) (p' := .rows fl ep e 1 news) rfl (by
      rw [give_same hΓ]
      refine ⟨some (b, cap), hΓ, fun ep0 n0 e => ⟨(htmp ep0 n0 e).1, (htmp ep0 n0 e).2.keep hk⟩, hone, by omega, W.toArray, setRow_heap w b vs _ e _ hh, by omega, hc2, by simpa [hWl] using hvs, fun i' j r q x hr' hq hx => ?_⟩
      have hj : j = 0 := by have := lt_of_get? hq; rw [(hone r (List.mem_of_getElem? hr')).1] at this; omega
      subst hj
      have hi' := lt_of_get? hr'
      rw [Nat.mul_one, Nat.add_zero, List.getElem?_toArray, hWg i' (by omega)] at hx
      obtain rfl := Option.some.inj hx
      exact Rep.keep hk (hrep i' r q hr' hq))
    rwa [give_same hΓ] at this
def pcopy (P : Program) (o : Oper) (fr : PF) : Option PF :=
  match o.op with
  | .call c => match c.callee, c.args.toList, c.argTypes.toList with
    | .builtin .copy, [x, y], [T, _] => match rd fr x, prows fr (rd fr y) with
      | .own i ep 0 n _, some (1, news) => match fr[i]? with
        | some (.rows fl ep' e 1 rs) => if ep' = ep ∧ rs.length = n ∧ 0 < n ∧ news.length = n ∧ (tel P T).bind (tsz P) = some 1 then pput o.dst (.v (.int .i64 n)) (fr.set i (.rows fl ep e 1 news)) else none
        | _ => none
      | _, _ => none
    | _, _, _ => none
  | _ => none
theorem copy_step {Q : Exit → Act → World → Prop} {K : Act → World → Prop} (h : Sim N B R Γ a w fr) {o : Oper} (hN : ∀ d, o.dst = some d → d < N) (hp : pcopy P o fr = some fr') (hK : ∀ a' w', SimE N B a' w' fr' → K a' w') : o.wp P a w K Q := by
  unfold pcopy at hp
  split at hp
  case h_2 => cases hp
  rename_i c ho
  split at hp
  case h_2 => cases hp
  rename_i x y T T' hc hargs hts
  split at hp
  case h_2 => cases hp
  rename_i i ep n ff news hx hy
  split at hp
  case h_2 => cases hp
  rename_i fl ep' e rs hs
  split at hp
  case isFalse => cases hp
  rename_i hq
  obtain ⟨rfl, h1, h2, h3, h4⟩ := hq
  obtain ⟨el, he, hz⟩ := Option.bind_eq_some_iff.1 h4
  have hu := h.rd x
  rw [hx] at hu
  obtain ⟨w', hr, hs'⟩ := copy_sound (P := P) (T' := T') (ty := o.type) h (tel_some he) hz hs hu h1 h2 (h.rows (h.rd y) hy) h3
  obtain ⟨hcl, rfl⟩ := pput_some hp
  refine wp_val' (u := goInt n) (w' := w') ?_ (hK _ _ (hs'.put o.dst hN hcl (.v _ rfl)).toE)
  have e1 : c.args = #[x, y] := by rw [← Array.toArray_toList (xs := c.args), hargs]
  have e2 : c.argTypes = #[T, T'] := by rw [← Array.toArray_toList (xs := c.argTypes), hts]
  obtain ⟨callee, args, ats⟩ := c
  dsimp only at hc e1 e2
  subst hc e1 e2
  simp only [execOp, ho, resolve, invoke, builtin, Sem.run_bind, Sem.run_pure, Result.andThen_ok, List.map_toArray, List.map_cons, List.map_nil, hr]
theorem pre_sound {Q : Exit → Act → World → Prop} {all : List Oper} {ro : Option Nat} (ops : Array Oper) (hall : ops.toList = all) (hN : ∀ o ∈ all, ∀ d, o.dst = some d → d < N) {M : Nat} (hM : B.lo = M) {K : PF → Prop} {Kp : PV → PF → Prop} (hpan : PanUp N B Q Kp) (hout : ∀ a w, ¬ Q .outgrown a w) {r : Nat} :
    ∀ (m k : Nat), k + m ≤ all.length → (∀ a w fr, SimE N B a w fr → K fr → RegR P ro ops (List.range' (k + m) r) Q a w) → ∀ (a : Act) (w : World) (fr : PF), SimE N B a w fr → pops P M all K Kp ((all.drop k).take m) fr → RegR P ro ops (List.range' k (m + r)) Q a w
  | 0, k, hk, hQ, a, w, fr, h, hp => by
    rw [Nat.zero_add]
    simpa using hQ a w fr h (by simpa [pops] using hp)
  | m + 1, k, hk, hQ, a, w, fr, h, hp => by
    have hlt : k < all.length := by omega
    rw [List.drop_eq_getElem_cons hlt, List.take_succ_cons] at hp
    rw [show m + 1 + r = (m + r) + 1 from by omega, List.range'_succ]
    exact op_sound h hall hN hM hpan hout (List.getElem?_eq_getElem hlt) hp (K' := fun a' w' => ∃ fr', SimE N B a' w' fr' ∧ pops P M all K Kp ((all.drop (k + 1)).take m) fr') (fun a' w' fr' h1 h2 => ⟨fr', h1, h2⟩) _
      fun a' w' ⟨fr', h1, h2⟩ => pre_sound ops hall hN hM hpan hout m (k + 1) (by omega) (by rw [show k + 1 + m = k + (m + 1) from by omega]; exact hQ) a' w' fr' h1 h2
end
theorem XW_copy {ι : Type} {P : Program} {N M : Nat} {𝒞 : ι → Base → Prop} {i : ι} {Q : ι → PX → PF → Prop} {fr : PF} (hlo : ∀ i B, 𝒞 i B → B.lo = M) {id : Nat} {ops : Array Oper} (hd : dstsIn N (.region id ops false) = true) {o : Oper} (ho : ops.toList.getLast? = some o)
    (hp : pops P M ops.toList (fun fr => pwanted ops.toList o fr = some true ∧ ∃ fr', pcopy P o fr = some fr' ∧ Q i .normal fr') (fun p => Q i (.panic p)) ops.toList.dropLast fr) : XW P N 𝒞 i (.region id ops false) Q fr := fun B a w hC hs => by
  refine wr_mono (wr_region (Q := Up N B (Q i)) ?_) fun _ _ _ hu => ⟨i, B, hC, hu⟩
  have hN := dsts_mem hd
  obtain ⟨m, hm⟩ : ∃ m, ops.toList.length = m + 1 := by
    cases hl : ops.toList with
    | nil => rw [hl] at ho; cases ho
    | cons x l => exact ⟨l.length, rfl⟩
  have hsz : ops.size = m + 1 := by simpa using hm
  rw [List.range_eq_range', hsz]
  have hget : ops.toList[m]? = some o := by rw [List.getLast?_eq_getElem?, hm] at ho; simpa using ho
  have hdr : (ops.toList.drop 0).take m = ops.toList.dropLast := by rw [List.dropLast_eq_take, hm]; rfl
  rw [← hdr] at hp
  refine pre_sound ops rfl hN (hlo i B hC) pan_up up_out (r := 1) m 0 (by omega) (fun a w fr hs hk => ?_) a w fr hs hp
  obtain ⟨hw, fr', h1, h2⟩ := hk
  obtain ⟨R, Γ, hs⟩ := hs
  have hi : ops[0 + m]? = some o := by rw [Nat.zero_add, ← hget]; simp
  have hno : ∀ c, o.op ≠ .defer c := fun c hc => by
    unfold pcopy at h1
    rw [hc] at h1; cases h1
  rw [List.range'_one]
  exact OpR_wp hi (wanted_sound hs.toE rfl hN hw) (.inr hno) up_out (copy_step hs (hN o (List.mem_of_getElem? hget)) h1 (K := fun a' w' => SimE N B a' w' fr') fun _ _ h => h) [] fun a' w' ⟨R, Γ, hs⟩ => RegR_nil ⟨R, Γ, fr', .normal, hs, trivial, h2⟩
end Go.Qg

namespace Go.Qg
open Go.RowKit (Below)
section
variable {P : Program} {N M M' : Nat} {B B0 : Base} {a a' : Act} {w w' : World} {R R00 : Nat → Nat → Prop} {Γ : Nat → Option Loc} {fr : PF} {Q : Unit → PX → PF → Prop} {κ : List Nat} {l D : Nat} {rec : LoopState → Option Code → Loop} {V : Nat → PF}
theorem XW_rangeI (hN : 0 < N) (hmx : P.follows .mixedOrders = true) {g : Operand} {t : Tmp} {assign body : Code} {gf : FuncId} {caps els : List PV} (hg : rd fr g = .clo (.func gf) [] caps) (hcaps : plainL caps = true) (hgen : GenW P gf caps els) (hels : ∀ p ∈ els, p.plain = true ∧ p.flat = true)
    (hda : dstsIn N assign = true) (hdb : dstsIn N body = true) (M' : Nat) (hM' : N ≤ M') (κ : List Nat) (hκ : κ.Nodup) (V : Nat → PF) (A : Nat → List PV) (H : Nat → PF) (h0 : less B0.lo fr (V 0))
    (hview : ∀ n, n < els.length → V n ≠ [] → (A n).length = N ∧ outF (V n) (tgtAt (H n) κ fun _ => false) 8 (H n) κ ∧ ∀ i, i < N → i ≠ t → vw (V n) (tgtAt (H n) κ fun _ => false) 8 ((A n).getD i .undef) (rd (V n) (.tmp i)))
    (hround : ∀ n p, els[n]? = some p → V n ≠ [] → pwp P M' assign (thenP (pwp P M' body (rend B0.lo M' κ (V n) (V (n + 1)) Q)) (fun _ _ => False)) (frame0 M' ((A n).set t p) (H n)))
    (hend : V els.length ≠ [] → Q () .normal (V els.length)) : XW P N (ECtx B0) () (.rangeFunc g #[t] assign body) Q fr := fun B a w hC ⟨R, Γ, hs⟩ => by
  have hlo := hC.1
  have hgv := hs.rd g
  rw [hg] at hgv
  generalize hu : a.eval g = u at hgv
  cases hgv with
  | clo _ uf uc _ _ l1 l2 _ r2 =>
  obtain rfl : uf = [] := by simpa using l1
  refine wr_range hu hgen.1 fun fn => ?_
  generalize hW1 : (w.alloc (.deferred (some []))).alloc (.loop (loopRec fn a #[t] assign body w.heap.size .ready none)) = W1
  have hbel : Below w.heap.size w W1 := by
    rw [← hW1]; exact (((Below.refl _ w).alloc (Nat.le_refl _) _).alloc (by simp) _)
  have hl1 : W1.heap[w.heap.size + 1]? = some (.loop (loopRec fn a #[t] assign body w.heap.size .ready none)) := by
    rw [← hW1]; have := World.alloc_heap_new (w.alloc (.deferred (some []))) (.loop (loopRec fn a #[t] assign body w.heap.size .ready none)); rwa [World.size_alloc] at this
  have hD1 : W1.heap[w.heap.size]? = some (.deferred (some [])) := by
    rw [← hW1]; exact (Below.heap_alloc _ _ _ (by simp)).trans (World.alloc_heap_new w _)
  have hw1 := weak_R hs (by rw [hlo]; exact h0)
  have hs1 := hw1.grown hbel _ (fun _ _ x => x) (fun _ _ x => .inl x)
  have hBl : ∀ b, B.Prot b → b < w.heap.size := fun b hb => Nat.lt_of_lt_of_le (hs.prot b hb) hs.kept.size
  have henv : Env P (w.heap.size + 1) els (fun b => ∃ o, R b o) (LoopJ N B a (w.heap.size + 1) w.heap.size (loopRec fn a #[t] assign body w.heap.size) R V Q) := by
    refine ⟨fun s F W b hJ hb => ?_, fun s F W W' hJ hF hsz ho ht hou => ?_, fun p F W hJ => ?_, fun n F W v p Ra Γa hJ hel hv => ?_⟩
    · obtain ⟨R, Γ, fr, st, pe, k1, rfl, k3, k4, _⟩ := hJ
      exact foot_bnd k1 k3 k4 hb
    · obtain ⟨R, Γ, fr, st, pe, k1, rfl, k3, k4, k5⟩ := hJ
      exact ⟨R, Γ, fr, st, pe, foot_stay k1 hF hsz ho ht hou, rfl, (hF _ (.inr (.inr (.inr (.inl rfl))))).trans k3, (hF _ (.inr (.inr (.inr (.inr rfl))))).trans k4, k5⟩
    · obtain ⟨R, Γ, fr, st, pe, _, _, _, _, _, _, k7, k8, _⟩ := hJ
      exact ⟨k7, k8⟩
    · obtain ⟨R', Γ', fr', st, pe, k1, rfl, k3, k4, k5, k6, rfl, rfl, rfl⟩ := hJ
      have hlt := lt_of_get? hel
      have hV : V n ≠ [] := fun e => by have := k1.len; rw [e] at this; simp at this; omega
      obtain ⟨v1, v2, v3⟩ := hview n hlt hV
      have hy : (Instr.yield (w.heap.size + 1) #[v]).run P W = .ok (.round (w.heap.size + 1) fn (a.tmps.setIfInBounds t v) assign body) W := by
        have := run_yield (P := P) (args := #[v]) k3 rfl
        simpa [loopRec] using this
      refine ⟨_, _, _, _, hy, fun c cs => ?_⟩
      obtain ⟨e, W2, ⟨R2, Γ2, fr2, st2, pe2, q2, q3, q4, q5, q6, q7, q8, q9⟩, hsteps⟩ := round_sound (l := w.heap.size + 1) (D := w.heap.size) (R00 := R) hmx hda hdb hM' hκ (p := p) (v := v) (Q := Q) (next := V (n + 1)) k1 ⟨by simp, fun b hb => Nat.lt_succ_of_lt (hBl b hb)⟩ rfl k3 k4 (by omega) k6 k5 v2 v1 v3 (hels p (List.mem_of_getElem? hel)) hv (by rw [hlo]; exact hround n p hel hV) c cs
      refine ⟨e, W2, ⟨foot B R2 Γ2 (w.heap.size + 1) w.heap.size, ?_, q7, q8.mono fun x hx => ⟨hx.1, hx.2.imp_right fun ⟨o, ho⟩ => ⟨o, k5 x o ho⟩⟩⟩, hsteps⟩
      cases e with
      | outgrown => exact q9.elim
      | panicked ch =>
        obtain ⟨pv, q, e1, e2, e3, e4, e5⟩ := q9
        exact ⟨pv, q, e1, e2, R2, Γ2, fr2, st2, pe2, q2, rfl, q3, q4, q5, q6, e3, e4, e5⟩
      | returned ret =>
        obtain ⟨b, e1, q9⟩ := q9
        refine ⟨b, e1, ?_⟩
        cases b with
        | true => exact ⟨R2, Γ2, fr2, st2, pe2, q2, rfl, q3, q4, q5, q6, q9⟩
        | false => exact ⟨R2, Γ2, fr2, st2, pe2, q2, rfl, q3, q4, q5, q6, q9⟩
  have hJ0 : LoopJ N B a (w.heap.size + 1) w.heap.size (loopRec fn a #[t] assign body w.heap.size) R V Q (.on 0) (foot B (freed R Γ (V 0)) (Γof Γ (V 0)) (w.heap.size + 1) w.heap.size) W1 := by
    refine ⟨_, _, V 0, .ready, none, hs1, rfl, hl1, hD1, fun b o hb => .inl hb, fun o ho => ?_, rfl, rfl, rfl⟩
    rcases ho with ho | ⟨s, m, _, hm, hmb⟩
    · have := hs.bnd _ o ho; omega
    · have := ((hs.own s m hm).2 _ hmb).2.1; omega
  have after : ∀ {R' : Nat → Nat → Prop} {Γ' : Nat → Option Loc} {fr' : PF} {w' : World} {rc : Loop} (w2 : World), Sim N B R' Γ' a w' fr' → w'.heap[w.heap.size + 1]? = some (.loop rc) → w'.heap[w.heap.size]? = some (.deferred (some [])) → (w2 = w' ∨ ∃ rc', w2 = w'.putObj (w.heap.size + 1) (.loop rc')) →
      ∃ B', ECtx B0 () B' ∧ Sim N B' R' Γ' { a with defers := { target := .collected w.heap.size, args := #[] } :: a.defers } w2 fr' := by
    intro R' Γ' fr' w' rc w2 k1 k3 k4 hw2
    obtain ⟨c1, c2, c3, c4, c5, ms, hms, hDs, hm⟩ := hC
    have hlt := (Array.getElem?_eq_some_iff.1 k3).1
    have z1 : ∀ k, k ≠ w.heap.size + 1 → w2.heap[k]? = w'.heap[k]? := fun k hk => by
      rcases hw2 with rfl | ⟨rc', rfl⟩
      · rfl
      · exact World.putObj_heap_other hk
    have z2 : w2.heap.size = w'.heap.size := by
      rcases hw2 with rfl | ⟨rc', rfl⟩
      · rfl
      · simp
    have z3 : w2.os = w'.os ∧ w2.tape = w'.tape ∧ w2.output = w'.output := by
      rcases hw2 with rfl | ⟨rc', rfl⟩ <;> exact ⟨rfl, rfl, rfl⟩
    have z4 : ∀ b o, w2.cell? ⟨b, o, none⟩ = w'.cell? ⟨b, o, none⟩ := fun b o => by
      rcases hw2 with rfl | ⟨rc', rfl⟩
      · rfl
      · exact cell_putObj k3 (by simp) (by simp)
    refine ⟨⟨fun b => B.Prot b ∨ b = w.heap.size, w2, R', B.Γ0, B.lo, { target := .collected w.heap.size, args := #[] } :: B.D⟩, ⟨c1, fun b hb => .inl (c2 b hb), ?_, fun b o hb => ?_, c5, w.heap.size :: ms, ?_, by rw [hDs]; rfl, fun r hr => ?_⟩, ?_⟩
    · refine (c3.trans (k1.kept.mono c2)).trans ⟨z3.1, z3.2.1, z3.2.2, Nat.le_of_eq z2.symm, fun k hk => z1 k fun e => ?_⟩
      have := hBl k (c2 k hk)
      omega
    · rcases k1.sub b o hb with h1 | h1
      · exact c4 b o h1
      · exact .inr fun hp => h1 (c2 b hp)
    · refine List.nodup_cons.2 ⟨fun hin => ?_, hms⟩
      have := hBl _ (hm _ hin).1
      omega
    · rcases List.mem_cons.1 hr with rfl | hr
      · refine ⟨.inr rfl, fun hp => ?_, (z1 _ (by omega)).trans k4⟩
        have := hBl _ (c2 _ hp)
        omega
      · obtain ⟨h1, h2, h3⟩ := hm r hr
        refine ⟨.inl h1, h2, ?_⟩
        have hrl := hBl r h1
        exact (z1 _ (by omega)).trans ((k1.kept.block r h1).trans h3)
    · refine k1.moved (fun b o _ => z4 b o) (fun i m b hi hb => z1 b fun e => k1.not_own k3 (by simp) (by simp) hi (e ▸ hb)) (Nat.le_of_eq z2.symm) (fun i m b hi hb hp => ?_) (fun b o hb => .inl hb) (Kept.refl _ _) (fun b hb => ?_) k1.lo k1.base rfl (by rw [k1.defers])
      · rcases hp with hp | rfl
        · exact ((k1.own i m hi).2 b hb).1 hp
        · exact k1.not_own k4 (by simp) (by simp) hi hb
      · rcases hb with hb | rfl
        · have := hBl b hb
          simp only
          have := k1.kept.size
          omega
        · simp only
          omega
  refine (hgen.2 W1 uc R (fun b => ∃ o, R b o) (w.heap.size + 1) _ _ (fun b o hb => ⟨o, hb⟩) (fun b ⟨o, hb⟩ => Nat.lt_of_lt_of_le (hs.bnd b o hb) hbel.size) henv hJ0 l2 (fun i u p hu hp => ?_)).mono ?_
  · refine (r2 i u p hu hp).free (fun b o hb => ⟨hb, cell?_of_heap (hbel.block b (hs.bnd b o hb))⟩) ?_
    have := plainL_names hcaps
    refine List.eq_nil_iff_forall_not_mem.2 fun j hj => ?_
    have := mem_namesL.2 ⟨p, List.mem_of_getElem? hp, hj⟩
    rw [plainL_names hcaps] at this; cases this
  · intro e w' hgp
    cases e with
    | outgrown => exact hgp.elim
    | panicked ch =>
      obtain ⟨pv, q, F', rfl, hrep, R', Γ', fr', st, pe, k1, _, k3, k4, _, _, _, _, hQ⟩ := hgp
      obtain ⟨B', hC', hs2⟩ := after w' k1 k3 k4 (.inl rfl)
      exact ⟨(), B', hC', R', Γ', _, .panic q, hs2, ⟨pv, rfl, hrep _ _ _⟩, hQ⟩
    | returned rv =>
    obtain ⟨s, F', hs', R', Γ', fr', st, pe, k1, _, k3, k4, _, _, hm⟩ := hgp
    refine ⟨st, pe, k3, ?_⟩
    obtain ⟨B', hC', hs2⟩ := after (w'.putObj (w.heap.size + 1) (.loop (loopRec fn a #[t] assign body w.heap.size .exhausted pe))) k1 k3 k4 (.inr ⟨_, rfl⟩)
    rcases hs' with rfl | rfl
    · obtain ⟨rfl, rfl, rfl⟩ := hm
      exact ⟨by simp, (), B', hC', R', Γ', _, .normal, hs2, trivial, hend fun e => by have := k1.len; rw [e] at this; simp at this; omega⟩
    · obtain ⟨rfl, c, x, rfl, hjx, hQ⟩ := hm
      refine ⟨by simp, ?_⟩
      cases c with
      | ret => cases x with
        | ret => exact ⟨(), B', hC', R', Γ', _, .ret, hs2, trivial, hQ⟩
        | _ => exact hjx.elim
      | exit id => cases x with
        | exit id' => exact ⟨(), B', hC', R', Γ', _, .exit id', hs2, hjx, hQ⟩
        | _ => exact hjx.elim
      | _ => cases x <;> exact hjx.elim
end
end Go.Qg

namespace Go.Qg
open Go.RowKit (Below)
def dmidE (P : Program) (N M k : Nat) (rs : List ResultVar) (c : Code) (x : Operand) (Q : Out → Prop) (fr : PF) : Prop :=
  ∃ gf ps caps M' news H A, rd fr x = .clo (.func gf) [] ps ∧ N ≤ M' ∧ ((List.range k).map (M + ·) ++ news).Nodup ∧ A.length = N ∧
    outF fr (tgtAt H ((List.range k).map (M + ·) ++ news) fun _ => false) 8 H ((List.range k).map (M + ·) ++ news) ∧
    (∀ i, i < N → vw fr (tgtAt H ((List.range k).map (M + ·) ++ news) fun _ => false) 8 (A.getD i .undef) (rd fr (.tmp i))) ∧
    vwAll (vw fr (tgtAt H ((List.range k).map (M + ·) ++ news) fun _ => false) 8) caps ps ∧ (∀ p ∈ caps, p.flat = true) ∧
    ∀ B0 : Base, B0.lo = M' → XW P N (ECtx B0) () c (fun _ => dpost P M' k rs gf caps Q) (frame0 M' A H)
section
variable {P : Program} {N M M' : Nat} {B : Base} {a a' : Act} {w w' : World} {R : Nat → Nat → Prop} {Γ : Nat → Option Loc} {fr : PF}
theorem callW_ofDE (hm : P.follows .mixedOrders = true) {f : FuncId} {fn : Func} {id : Nat} {o1 o2 : Oper} {c0 c2 : Code} {x : Operand} {ats : Array TypeId} (hf : P.funcs[f]? = some fn) (hname : (fn.name == "runtime.NumGoroutine") = false) (hb : fn.body = some (.seq c0 (.seq (.region id #[o1, o2] false) c2)))
    (ho : o2.op = .defer { callee := .value x, args := #[], argTypes := ats }) (hg : o2.guard = none) (hdst : o2.dst = none) {rs : List ResultVar} (hrs : fn.results.toList = rs) (hn : fn.ntmps = N) (hd0 : dstsIn N c0 = true) (hd1 : ∀ d, o1.dst = some d → d < N) (hd2 : dstsIn N c2 = true) {args : List PV} {H : PF} {Q : Out → Prop}
    (M : Nat) (hargs : args.length ≤ N) (hM : N ≤ M) (h : pwp P M c0 (thenP (pops P M [o1, o2] (dmidE P N M H.length rs c2 x Q) (fun _ _ => False) [o1]) (fun _ _ => False)) (frame0 M args H)) : CallW P f args H Q := by
  subst hrs hn
  refine ⟨fun vs w => ?_, fun w vs R Γ Prot hRp h0 hl hrep => ?_⟩
  · simp only [callFunc, Sem.run_bind, run_program, Result.andThen_ok, hf, hname, hb]
    rfl
  · have hsim := h0.enter hl hrep hargs hM
    refine calls_of_wr hf hb (wr_seq (wr_mono (pwp_sound (ro := none) hm rfl c0 _ _ _ w hd0 hsim.toE h) fun e a0 w0 ⟨R0, Γ0, fr0, x0, hs0, hu0, hq0⟩ => ?_))
    cases x0 with
    | normal =>
      cases e with
      | normal =>
        refine wr_seq (wr_region ?_)
        have hr1 : List.range (#[o1, o2] : Array Oper).size = [0, 1] := rfl
        rw [hr1]
        have hN : ∀ o ∈ [o1, o2], ∀ d, o.dst = some d → d < fn.ntmps := fun o ho d hd => by
          rcases List.mem_cons.1 ho with rfl | ho
          · exact hd1 d hd
          · obtain rfl := List.mem_singleton.1 ho
            rw [hdst] at hd; cases hd
        refine op_sound (all := [o1, o2]) (K := pops P M [o1, o2] (dmidE P fn.ntmps M H.length fn.results.toList c2 x Q) (fun _ _ => False) []) (Kp := fun _ _ => False) hs0.toE rfl hN rfl (fun _ _ _ _ _ _ _ _ _ hk => hk.elim) (fun _ _ hq => hq.elim) (k := 0) (o := o1) rfl hq0 (K' := fun a' w' => ∃ fr', SimE fn.ntmps (base0 Prot w R Γ M) a' w' fr' ∧ dmidE P fn.ntmps M H.length fn.results.toList c2 x Q fr') (fun a' w' fr' h1 h2 => ⟨fr', h1, h2⟩) [1] fun a1 w1 hq1 => ?_
        obtain ⟨fr1, ⟨R1, Γ1, hs1⟩, gf, ps, caps, M', news, Ho, A, hx, hM', hκ, hA, hout, hAv, hcaps, hflat, hrest⟩ := hq1
        have hgn : ∀ s ∈ (List.range H.length).map (M + ·) ++ news, (fun _ : Nat => false) s = false := fun _ _ => rfl
        generalize hκe : (List.range H.length).map (M + ·) ++ news = κ at hκ hout hAv hcaps hgn
        have hv := hs1.rd x
        rw [hx] at hv
        generalize hux : a1.eval x = ux at hv
        cases hv with
        | clo _ uf uc _ _ l1 l2 _ r2 =>
        obtain rfl : uf = [] := by simpa using l1
        have hex : (execOp a1.eval o2).run P w1 = .ok (.defer { target := .fn (.func gf) uc.toArray, args := #[] }) w1 := by
          simp only [execOp, ho, resolve, Deferred.ofValue, hux]
          simp [go_sem]
        refine OpR_wp (K := fun a' w' => a' = { a1 with defers := [{ target := .fn (.func gf) uc.toArray, args := #[] }] } ∧ w' = w1) (ops := #[o1, o2]) (o := o2) rfl (by simp [Region.wanted, hg]) (.inl rfl) (fun _ _ hq => hq.elim) ?_ [] fun a' w' ⟨ha', hw'⟩ => RegR_nil ?_
        · unfold Oper.wp
          rw [hex, Oper.upon_defer]
          refine ⟨?_, rfl⟩
          rw [hdst, hs1.defers]
          rfl
        · subst ha' hw'
          obtain ⟨hlend, hRp1⟩ := hs1.lend hout hκ hgn
          obtain ⟨_, hview⟩ := hs1.leave hout hκ hgn
          have hR1 : ∀ b o, freedAt R1 Γ1 (fun _ => false) b o → R1 b o := fun b o hb => by
            rcases hb with hb | ⟨s, m, hg, _⟩
            · exact hb
            · cases hg
          have hent := hlend.enter (N := fn.ntmps) (M := M') (vs := a1.tmps.toList) (args := A) (by simp [hA, hs1.size]) (fun i u q hu hq => by
            have hlt := lt_of_get? hq
            rw [hA] at hlt
            have hqA : A.getD i .undef = q := by simp [List.getD, hq]
            have h1 := hAv i hlt
            rw [hqA] at h1
            refine hview q _ u h1 ?_
            have h2 := hs1.rd (.tmp i)
            rw [Array.getElem?_toList] at hu
            have : a1.eval (.tmp i) = u := by simp [Act.eval, hu]
            rwa [this] at h2) (by simp [hA]) hM'
          have hact : ({ tmps := a1.tmps.toList.toArray ++ Array.replicate (fn.ntmps - a1.tmps.toList.toArray.size) undef, defers := [] } : Act) = { tmps := a1.tmps, defers := [] } := by
            have e1 : a1.tmps.toList.toArray = a1.tmps := Array.toArray_toList
            rw [e1, hs1.size]
            simp
          rw [hact] at hent
          have hs2 : Sim fn.ntmps ⟨Prot, w, R, fun i => if M' ≤ i then Γout Γ1 Ho κ (i - M') else none, M', [{ target := .fn (.func gf) uc.toArray, args := #[] }]⟩ (freedAt R1 Γ1 fun _ => false) (fun i => if M' ≤ i then Γout Γ1 Ho κ (i - M') else none) { a1 with defers := [{ target := .fn (.func gf) uc.toArray, args := #[] }] } w' (frame0 M' A Ho) := by
            refine hent.moved (fun b o _ => rfl) (fun i l b hi hb => rfl) (Nat.le_refl _) (fun i l b hi hb hp => ?_) (fun b o hb => ?_) hs1.kept hs1.prot hM' (fun j l hj hl => ⟨l, hl, Loc.le_refl l⟩) rfl rfl
            · skip
              split at hi
              · obtain ⟨s, m, _, hm', hmb⟩ := Γout_blk hi hb
                exact ((hs1.own s m hm').2 b hmb).1 hp
              · cases hi
            · exact hs1.sub b o (hR1 b o hb)
          generalize hB1 : (⟨Prot, w, R, fun i => if M' ≤ i then Γout Γ1 Ho κ (i - M') else none, M', [{ target := .fn (.func gf) uc.toArray, args := #[] }]⟩ : Base) = B1 at hs2
          have hB1D : B1.D = [{ target := .fn (.func gf) uc.toArray, args := #[] }] := by rw [← hB1]
          have hC : ECtx B1 () ⟨Prot, w, R, fun i => if M' ≤ i then Γout Γ1 Ho κ (i - M') else none, M', [{ target := .fn (.func gf) uc.toArray, args := #[] }]⟩ := by
            subst hB1
            exact ⟨rfl, fun _ x => x, Kept.refl _ _, fun b o hb => .inl hb, rfl, [], List.nodup_nil, rfl, fun r hr => by cases hr⟩
          have hprot : ∀ b, B1.Prot b → b < B1.w0.heap.size := by subst hB1; exact h0.prot
          rw [hB1] at hC
          refine wr_mono (hrest B1 (by rw [← hB1]) B1 _ w' hC hs2.toE) fun e a2 w2 ⟨_, B', hC', R2, Γ2, g, x2, hs30, hu, hq⟩ => ?_
          have hs3 := hs30.ofE hC' hprot
          obtain ⟨_, _, _, _, _, ms, hms, hD', hmk⟩ := hC'
          rw [hB1D] at hD'
          have hΓ1 : ∀ j l, Γout Γ1 Ho κ j = some l → B1.Γ0 (M' + j) = some l := fun j l hl => by
            rw [← hB1]; dsimp only; rw [if_pos (by omega), Nat.add_sub_cancel_left]; exact hl
          have hlo1 : B1.lo = M' := by rw [← hB1]
          have hbase : ∀ {w2 : World}, Sim fn.ntmps { B1 with D := B'.D } R2 Γ2 a2 w2 g → ∀ j l, B1.Γ0 (M' + j) = some l → ∃ l', Γ2 (M' + j) = some l' ∧ Loc.le l l' := fun hs j l hl => hs.base (M' + j) l (by rw [show ({ B1 with D := B'.D } : Base).lo = M' from hlo1]; omega) hl
          have hcap : ∀ (w2 : World), Sim fn.ntmps { B1 with D := B'.D } R2 Γ2 a2 w2 g → ∀ (i : Nat) (u : Value) (q : PV), uc[i]? = some u → (renL (M' + ·) caps)[i]? = some q → Rep w2 R2 Γ2 u q := fun w2 hs3 i u q hu hq => by
            rw [renL_get] at hq
            simp only [Option.map_eq_some_iff] at hq
            obtain ⟨q0, hq0, rfl⟩ := hq
            obtain ⟨p0, hp0, hv0⟩ := vwAll_get hcaps i q0 hq0
            refine (hview q0 p0 u hv0 (r2 i u p0 hu hp0)).ren (.inl (hflat q0 (List.mem_of_getElem? hq0))) fun j _ l hl => ?_
            exact hbase hs3 j l (hΓ1 j l hl)
          have hlc : uc.length = (renL (M' + ·) caps).length := by rw [renL_length, vwAll_length hcaps]; exact l2
          have fin : ∀ (rv : Option Value) (rc : Option PV), (match rv, rc with | none, none => True | some v, some p => p.plain = true ∧ p.flat = true ∧ Rep w2 R2 Γ2 v p | _, _ => False) → dend P M' H.length fn.results.toList gf caps Q rc g → LeavesC P fn a2.tmps (Left Prot w R Γ Q) a2.defers (modeOf rv) w2 := by
            rintro rv rc hrv0 ⟨ιd, Hd, capsd, hιd, houtd, hcapsd, hdw, hdc⟩
            have hrv : ∀ w2 : World, match rv, rc with | none, none => True | some v, some p => p.plain = true ∧ p.flat = true ∧ Rep w2 R2 Γ2 v p | _, _ => False := fun w' => by
              cases rv with
              | none => cases rc with
                | none => trivial
                | some p => exact hrv0.elim
              | some v => cases rc with
                | none => exact hrv0.elim
                | some p => exact ⟨hrv0.1, hrv0.2.1, plain_rep hrv0.2.2 hrv0.1 hrv0.2.1 _ _ _⟩
            rw [hs30.defers, hD']
            refine marks_leave (by cases rv <;> simp [modeOf]) ms w2 { B1 with D := B'.D } hms (fun r hr => ?_) hs3 fun w2 hs3 => ?_
            · obtain ⟨h1, h2, h3⟩ := hmk r hr
              exact ⟨h2, (hs30.kept.block r h1).trans h3⟩
            have hrv := hrv w2
            have hcap := hcap w2 hs3
            have hgd : ∀ s ∈ ιd, (fun _ : Nat => false) s = false := fun _ _ => rfl
            obtain ⟨hlend3, hRp3⟩ := hs3.lend houtd hιd hgd
            obtain ⟨_, hview3⟩ := hs3.leave houtd hιd hgd
            refine ⟨by cases rv <;> simp [modeOf], .inr ⟨.func gf, uc.toArray, gf, uc.toArray, rfl, ?_, ?_⟩⟩
            · simp [invoke, go_sem, hdw]
            · refine (hdc w2 uc _ _ _ rv hRp3 hlend3 ?_ (fun i u q hu hq => ?_) ?_).mono ?_
              · rw [hlc, vwAll_length hcapsd]
              · obtain ⟨p, hp, hv⟩ := vwAll_get hcapsd i q hq
                exact hview3 q p u hv (hcap i u p hu hp)
              · cases rv with
                | none => cases rc with
                  | none => trivial
                  | some p => exact hrv.elim
                | some v => cases rc with
                  | none => exact hrv.elim
                  | some p =>
                    obtain ⟨hp1, hp2, hr⟩ := hrv
                    have := Rep.ren (π := fun i => i) (R' := freedAt R2 Γ2 fun _ => false) (w' := w2) (Γ' := Γout Γ2 Hd ιd) hr (.inl hp2) (fun j hj => by rw [plain_names hp1] at hj; cases hj)
                    rwa [ren_plain hp1] at this
              · rintro e u' w3 ⟨⟨v, rfl⟩, rfl, R3, Γ3, H3, ⟨hl3, xr, r, H2, news2, hpr, hlv, hQ⟩, hs4, hobj⟩
                have hset : settle (modeRec rv) = .returning := by cases rv <;> rfl
                show LeavesC P fn a2.tmps _ [] (settle (modeRec rv)) w3
                rw [hset]
                obtain ⟨hm1, _⟩ := hs3.merge (news := []) houtd hs4 (by simpa using hιd) (by simpa using hl3) (fun s hs => by cases hs) (.inl fun _ => rfl) hobj
                have eback : placeAll ((ιd ++ []).getD · 0) (ιd ++ []) H3 g = back g ιd H3 := by simp only [List.append_nil]; rfl
                rw [eback] at hm1
                obtain ⟨v, hv, hrv⟩ := presults_sound (P := P) hm1 fn hpr
                refine ⟨v, hv, ?_⟩
                obtain ⟨hn2, hout2, hv2⟩ := hlv
                obtain ⟨h1, h2⟩ := hm1.leave hout2 hn2 (fun s hs => by have := List.contains_iff_mem.2 hs; show (!_) = false; rw [this]; rfl)
                subst hB1
                refine ⟨_, _, .inl ⟨v, r, H2, rfl, hQ, h2 r xr v hv2 hrv, h1.rebase fun j l hjl => ?_, fun q hq => ?_⟩⟩
                · obtain ⟨⟨p, hp, _⟩, _⟩ := h0.own j l hjl
                  have hj := lt_of_get? hp
                  have hb : (base0 Prot w R Γ M).Γ0 (M + j) = some l := by
                    simp only [base0]
                    rw [if_pos (by omega), Nat.add_sub_cancel_left]; exact hjl
                  obtain ⟨l1, e1, e2⟩ := hs1.base (M + j) l (Nat.le_add_right _ _) hb
                  have hκ1 : κ[j]? = some (M + j) := by
                    rw [← hκe, List.getElem?_append_left (by simpa using hj)]; exact range_get M hj
                  obtain ⟨l2, e3, e4⟩ := Γout_le hs1 hout hκ1 e1
                  obtain ⟨l3, e5, e6⟩ := hm1.base (M' + j) l2 (Nat.le_add_right _ _) (hΓ1 j l2 e3)
                  have hκ2 : ((List.range H.length).map (M' + ·) ++ news2)[j]? = some (M' + j) := by
                    rw [List.getElem?_append_left (by simpa using hj)]; exact range_get M' hj
                  obtain ⟨l4, e7, e8⟩ := Γout_le hm1 hout2 hκ2 e5
                  exact ⟨l4, e7, Loc.le_trans e2 (Loc.le_trans e4 (Loc.le_trans e6 e8))⟩
                · obtain ⟨i, hi⟩ := List.mem_iff_getElem?.1 hq
                  obtain ⟨s, p, _, _, hbare, _⟩ := outF_get hout2 i q hi
                  cases q <;> first | rfl | cases hbare
          cases e with
          | ret => cases x2 with
            | ret => exact fin none none trivial hq
            | _ => exact hu.elim
          | normal => cases x2 with
            | normal => exact fin none none trivial hq
            | _ => exact hu.elim
          | panic ch => cases x2 with
            | panic p =>
              obtain ⟨v, rfl, hrv⟩ := hu
              obtain ⟨hp1, hp2, hq⟩ := hq
              exact fin (some v) (some p) ⟨hp1, hp2, hrv⟩ hq
            | _ => exact hu.elim
          | exit id => cases x2 with
            | exit id' => exact hq.elim
            | _ => exact hu.elim
          | goto id => cases x2 with
            | goto id' => exact hq.elim
            | _ => exact hu.elim
          | outgrown => cases x2 <;> exact hu.elim
      | _ => exact hu0.elim
    | _ => exact hq0.elim
end
end Go.Qg

namespace Go.Qg
open Go.RowKit (Below)
def GenW1 (P : Program) (gf : FuncId) (first caps els : List PV) : Prop :=
  (∀ (args : Array Value) (w : World), (callFunc gf args).run P w = .ok (.enter gf args) w) ∧
  ∀ (w : World) (us vs : List Value) (R : Nat → Nat → Prop) (Rb : Nat → Prop) (l : Nat) (J : GS → (Nat → Prop) → World → Prop) (F0 : Nat → Prop), (∀ b o, R b o → b < w.heap.size) → (∀ b, Rb b → b < w.heap.size) → Env P l els Rb J → J (.on 0) F0 w → us.length = first.length → vs.length = caps.length →
    (∀ (i : Nat) (u : Value) (p : PV), us[i]? = some u → first[i]? = some p → Rep w R (fun _ => none) u p) →
    (∀ (i : Nat) (u : Value) (p : PV), vs[i]? = some u → caps[i]? = some p → Rep w R (fun _ => none) u p) →
    Calls P gf (us.toArray ++ #[.func (.yield l) #[] #[]] ++ vs.toArray) w (genPost els J)
section
variable {P : Program} {N M M' : Nat} {B B0 B2 : Base} {a a' : Act} {w w' : World} {R R00 : Nat → Nat → Prop} {Γ : Nat → Option Loc} {fr : PF} {Q : Unit → PX → PF → Prop} {κ : List Nat} {l D : Nat} {rec : LoopState → Option Code → Loop} {V : Nat → PF} {els : List PV}
theorem Sim.dry (h : Sim N B R Γ a w fr) (hd : (fr.all fun p => p.plain && p.flat) = true) (hp : ∀ b, B2.Prot b → B.Prot b) (hw : B2.w0 = B.w0) (hD : B2.D = B.D) (hlo : B2.lo = B.lo) (hΓ : ∀ j, B2.Γ0 j = none) : Sim N B2 (fun _ _ => False) (fun _ => none) a w fr := by
  refine ⟨h.size, h.len, fun t p ht => ?_, fun i j l m b hi => (by cases hi), fun i l hi => (by cases hi), fun b o hb => hb.elim, fun b o hb => hb.elim, hw ▸ h.kept.mono hp, fun b hb => hw ▸ h.prot b (hp b hb), hlo ▸ h.lo, fun j l _ hl => (by rw [hΓ] at hl; cases hl), hD ▸ h.defers⟩
  have hpd := List.all_eq_true.1 hd p (List.mem_of_getElem? ht)
  simp only [Bool.and_eq_true] at hpd
  have hs := h.slot t p ht
  have ho := plain_obj hpd.1
  have hr := plain_rep (SlotRep.val ho hs) hpd.1 hpd.2 w (fun _ _ => False) (fun _ => none)
  cases p <;> first | exact hr | cases ho
theorem gen_of1 (hm : P.follows .mixedOrders = true) {f : FuncId} {fn : Func} {c0 c1 : Code} (hf : P.funcs[f]? = some fn) (hname : (fn.name == "runtime.NumGoroutine") = false) (hb : fn.body = some (.seq c0 c1)) (hrs : fn.results = #[]) (hn : fn.ntmps = N) (hd0 : dstsIn N c0 = true) {first caps : List PV} (S : Nat) (hargs : first.length + (caps.length + 1) ≤ N)
    (h : ∀ (l : Nat) (Rb : Nat → Prop) (J : GS → (Nat → Prop) → World → Prop), Env P l els Rb J → pwp P (N + S) c0 (thenP (fun fr => ∃ g : PF, less (N + S) fr g ∧ (g.all fun p => p.plain && p.flat) = true ∧
      XW P N (GCtx (N + S) Rb J) (.on 0) c1 (fun s x _ => (x = .normal ∨ x = .ret) ∧ (s = .on els.length ∨ s = .off) ∨ ∃ p, s = .pan p ∧ x = .panic p) g) (fun _ _ => False)) (frame0 (N + S) (first ++ (.clo (.yield l) [] [] :: caps)) [])) : GenW1 P f first caps els := by
  subst hn
  refine ⟨fun vs w => ?_, fun w us vs R Rb l J F0 hR hRb henv hJ hlu hl hrepu hrep => ?_⟩
  · simp only [callFunc, Sem.run_bind, run_program, Result.andThen_ok, hf, hname, hb]
    rfl
  · have h0 : Sim 0 ⟨fun b => F0 b ∨ Rb b ∨ ∃ o, R b o, w, R, fun _ => none, 0, []⟩ R (fun _ => none) noAct w [] :=
      ⟨rfl, Nat.zero_le _, fun t p hp => (by simp at hp), fun i j l m b hi => (by cases hi), fun i l hi => (by cases hi), hR, fun b o hb => .inl hb, Kept.refl _ _, fun b hb => hb.elim (henv.bnd _ _ _ _ hJ) fun h => h.elim (hRb b) fun ⟨o, h⟩ => hR b o h, Nat.le_refl _, fun j l _ hl => (by cases hl), rfl⟩
    have hsim := h0.enter (N := fn.ntmps) (M := fn.ntmps + S) (vs := us ++ (.func (.yield l) #[] #[] :: vs)) (args := first ++ (.clo (.yield l) [] [] :: caps)) (by simp [hl, hlu]) (fun i u p hu hp => by
      by_cases hi : i < us.length
      · rw [List.getElem?_append_left hi] at hu
        rw [List.getElem?_append_left (by omega)] at hp
        exact hrepu i u p hu hp
      · rw [List.getElem?_append_right (by omega)] at hu
        rw [List.getElem?_append_right (by omega), ← hlu] at hp
        generalize i - us.length = i at hu hp
        cases i with
        | zero =>
          simp only [List.getElem?_cons_zero, Option.some.injEq] at hu hp
          subst hu hp
          exact .clo _ [] [] [] [] rfl rfl (fun i u p hi => by simp at hi) (fun i u p hi => by simp at hi)
        | succ i => exact hrep i u p (by simpa using hu) (by simpa using hp)) (by simpa using hargs) (Nat.le_add_right _ _)
    have ea : (us.toArray ++ #[Value.func (.yield l) #[] #[]] ++ vs.toArray) = (us ++ (Value.func (.yield l) #[] #[] :: vs)).toArray := by simp
    rw [ea]
    refine calls_of_wr hf hb (wr_seq (wr_mono (pwp_sound (ro := none) hm rfl c0 _ _ _ w hd0 hsim.toE (h l Rb J henv)) fun e0 a0 w0 ⟨R0, Γ0, fr0, x0, hs0, hu0, hq0⟩ => ?_))
    cases x0 with
    | normal =>
      cases e0 with
      | normal =>
        obtain ⟨g, hless, hdry, hx⟩ := hq0
        have hs1 := weak_R hs0 hless
        have hs2 : Sim fn.ntmps ⟨fun b => F0 b ∨ Rb b, w, fun _ _ => False, fun _ => none, fn.ntmps + S, []⟩ (fun _ _ => False) (fun _ => none) a0 w0 g := hs1.dry hdry (fun b hb => hb.imp_right .inl) rfl rfl rfl (fun _ => rfl)
        refine wr_mono (hx ⟨fun b => F0 b ∨ Rb b, w, fun _ _ => False, fun _ => none, fn.ntmps + S, []⟩ a0 w0 ⟨rfl, rfl, F0, hJ, fun b hb => .inl hb, fun b hb => .inr hb, fun b o hb => hb.elim⟩ hs2.toE) fun e a w' ⟨s, B, ⟨hlo, hD, F, hJ', hF, _, _⟩, R', Γ', fr, x, hs, hu, hx⟩ => ?_
        have hJ2 : J s F w' := henv.stab _ _ _ _ hJ' (fun b hb => hs.kept.block b (hF b hb)) hs.kept.size hs.kept.os hs.kept.tape hs.kept.output
        rcases hx with ⟨hx, hs'⟩ | ⟨p, rfl, rfl⟩
        · have fin : LeavesC P fn a.tmps (genPost els J) a.defers .returning w' := by
            rw [hs.defers, hD]
            refine ⟨.tuple #[], ?_, s, F, hs', hJ2⟩
            simp [results, hrs]
          rcases hx with rfl | rfl
          · cases e with
            | normal => exact fin
            | _ => exact hu.elim
          · cases e with
            | ret => exact fin
            | _ => exact hu.elim
        · cases e with
          | panic ch =>
            obtain ⟨v, rfl, hr⟩ := hu
            obtain ⟨p1, p2⟩ := henv.pan p F w' hJ2
            show LeavesC P fn a.tmps (genPost els J) a.defers _ w'
            rw [hs.defers, hD]
            exact ⟨v, p, F, rfl, plain_rep hr p1 p2, hJ2⟩
          | _ => exact hu.elim
      | _ => exact hu0.elim
    | _ => exact hq0.elim
theorem XW_range1 (hN : 0 < N) (hmx : P.follows .mixedOrders = true) {g : Operand} {t : Tmp} {assign body : Code} {gf : FuncId} {caps els : List PV} {first : List PV} (hg : rd fr g = .clo (.func gf) first caps) (firstd capsd : List PV) (hfv : vwAll (vw fr (tgtAt [] [] fun _ => true) 8) firstd first) (hcv : vwAll (vw fr (tgtAt [] [] fun _ => true) 8) capsd caps) (hfirst : plainL firstd = true) (hcaps : plainL capsd = true) (hgen : GenW1 P gf firstd capsd els) (hels : ∀ p ∈ els, p.plain = true ∧ p.flat = true)
    (hda : dstsIn N assign = true) (hdb : dstsIn N body = true) (M' : Nat) (hM' : N ≤ M') (κ : List Nat) (hκ : κ.Nodup) (V : Nat → PF) (A : Nat → List PV) (H : Nat → PF) (h0 : less B0.lo fr (V 0))
    (hview : ∀ n, n < els.length → V n ≠ [] → (A n).length = N ∧ outF (V n) (tgtAt (H n) κ fun _ => false) 8 (H n) κ ∧ ∀ i, i < N → i ≠ t → vw (V n) (tgtAt (H n) κ fun _ => false) 8 ((A n).getD i .undef) (rd (V n) (.tmp i)))
    (hround : ∀ n p, els[n]? = some p → V n ≠ [] → pwp P M' assign (thenP (pwp P M' body (rend B0.lo M' κ (V n) (V (n + 1)) Q)) (fun _ _ => False)) (frame0 M' ((A n).set t p) (H n)))
    (hend : V els.length ≠ [] → Q () .normal (V els.length)) : XW P N (ECtx B0) () (.rangeFunc g #[t] assign body) Q fr := fun B a w hC ⟨R, Γ, hs⟩ => by
  have hlo := hC.1
  have hgv := hs.rd g
  rw [hg] at hgv
  generalize hu : a.eval g = u at hgv
  cases hgv with
  | clo _ uf uc _ _ l1 l2 r1 r2 =>
  refine wr_rangeF hu hgen.1 fun fn => ?_
  generalize hW1 : (w.alloc (.deferred (some []))).alloc (.loop (loopRec fn a #[t] assign body w.heap.size .ready none)) = W1
  have hbel : Below w.heap.size w W1 := by
    rw [← hW1]; exact (((Below.refl _ w).alloc (Nat.le_refl _) _).alloc (by simp) _)
  have hl1 : W1.heap[w.heap.size + 1]? = some (.loop (loopRec fn a #[t] assign body w.heap.size .ready none)) := by
    rw [← hW1]; have := World.alloc_heap_new (w.alloc (.deferred (some []))) (.loop (loopRec fn a #[t] assign body w.heap.size .ready none)); rwa [World.size_alloc] at this
  have hD1 : W1.heap[w.heap.size]? = some (.deferred (some [])) := by
    rw [← hW1]; exact (Below.heap_alloc _ _ _ (by simp)).trans (World.alloc_heap_new w _)
  have hw1 := weak_R hs (by rw [hlo]; exact h0)
  have hs1 := hw1.grown hbel _ (fun _ _ x => x) (fun _ _ x => .inl x)
  have hBl : ∀ b, B.Prot b → b < w.heap.size := fun b hb => Nat.lt_of_lt_of_le (hs.prot b hb) hs.kept.size
  have henv : Env P (w.heap.size + 1) els (fun b => ∃ o, R b o) (LoopJ N B a (w.heap.size + 1) w.heap.size (loopRec fn a #[t] assign body w.heap.size) R V Q) := by
    refine ⟨fun s F W b hJ hb => ?_, fun s F W W' hJ hF hsz ho ht hou => ?_, fun p F W hJ => ?_, fun n F W v p Ra Γa hJ hel hv => ?_⟩
    · obtain ⟨R, Γ, fr, st, pe, k1, rfl, k3, k4, _⟩ := hJ
      exact foot_bnd k1 k3 k4 hb
    · obtain ⟨R, Γ, fr, st, pe, k1, rfl, k3, k4, k5⟩ := hJ
      exact ⟨R, Γ, fr, st, pe, foot_stay k1 hF hsz ho ht hou, rfl, (hF _ (.inr (.inr (.inr (.inl rfl))))).trans k3, (hF _ (.inr (.inr (.inr (.inr rfl))))).trans k4, k5⟩
    · obtain ⟨R, Γ, fr, st, pe, _, _, _, _, _, _, k7, k8, _⟩ := hJ
      exact ⟨k7, k8⟩
    · obtain ⟨R', Γ', fr', st, pe, k1, rfl, k3, k4, k5, k6, rfl, rfl, rfl⟩ := hJ
      have hlt := lt_of_get? hel
      have hV : V n ≠ [] := fun e => by have := k1.len; rw [e] at this; simp at this; omega
      obtain ⟨v1, v2, v3⟩ := hview n hlt hV
      have hy : (Instr.yield (w.heap.size + 1) #[v]).run P W = .ok (.round (w.heap.size + 1) fn (a.tmps.setIfInBounds t v) assign body) W := by
        have := run_yield (P := P) (args := #[v]) k3 rfl
        simpa [loopRec] using this
      refine ⟨_, _, _, _, hy, fun c cs => ?_⟩
      obtain ⟨e, W2, ⟨R2, Γ2, fr2, st2, pe2, q2, q3, q4, q5, q6, q7, q8, q9⟩, hsteps⟩ := round_sound (l := w.heap.size + 1) (D := w.heap.size) (R00 := R) hmx hda hdb hM' hκ (p := p) (v := v) (Q := Q) (next := V (n + 1)) k1 ⟨by simp, fun b hb => Nat.lt_succ_of_lt (hBl b hb)⟩ rfl k3 k4 (by omega) k6 k5 v2 v1 v3 (hels p (List.mem_of_getElem? hel)) hv (by rw [hlo]; exact hround n p hel hV) c cs
      refine ⟨e, W2, ⟨foot B R2 Γ2 (w.heap.size + 1) w.heap.size, ?_, q7, q8.mono fun x hx => ⟨hx.1, hx.2.imp_right fun ⟨o, ho⟩ => ⟨o, k5 x o ho⟩⟩⟩, hsteps⟩
      cases e with
      | outgrown => exact q9.elim
      | panicked ch =>
        obtain ⟨pv, q, e1, e2, e3, e4, e5⟩ := q9
        exact ⟨pv, q, e1, e2, R2, Γ2, fr2, st2, pe2, q2, rfl, q3, q4, q5, q6, e3, e4, e5⟩
      | returned ret =>
        obtain ⟨b, e1, q9⟩ := q9
        refine ⟨b, e1, ?_⟩
        cases b with
        | true => exact ⟨R2, Γ2, fr2, st2, pe2, q2, rfl, q3, q4, q5, q6, q9⟩
        | false => exact ⟨R2, Γ2, fr2, st2, pe2, q2, rfl, q3, q4, q5, q6, q9⟩
  have hJ0 : LoopJ N B a (w.heap.size + 1) w.heap.size (loopRec fn a #[t] assign body w.heap.size) R V Q (.on 0) (foot B (freed R Γ (V 0)) (Γof Γ (V 0)) (w.heap.size + 1) w.heap.size) W1 := by
    refine ⟨_, _, V 0, .ready, none, hs1, rfl, hl1, hD1, fun b o hb => .inl hb, fun o ho => ?_, rfl, rfl, rfl⟩
    rcases ho with ho | ⟨s, m, _, hm, hmb⟩
    · have := hs.bnd _ o ho; omega
    · have := ((hs.own s m hm).2 _ hmb).2.1; omega
  have after : ∀ {R' : Nat → Nat → Prop} {Γ' : Nat → Option Loc} {fr' : PF} {w' : World} {rc : Loop} (w2 : World), Sim N B R' Γ' a w' fr' → w'.heap[w.heap.size + 1]? = some (.loop rc) → w'.heap[w.heap.size]? = some (.deferred (some [])) → (w2 = w' ∨ ∃ rc', w2 = w'.putObj (w.heap.size + 1) (.loop rc')) →
      ∃ B', ECtx B0 () B' ∧ Sim N B' R' Γ' { a with defers := { target := .collected w.heap.size, args := #[] } :: a.defers } w2 fr' := by
    intro R' Γ' fr' w' rc w2 k1 k3 k4 hw2
    obtain ⟨c1, c2, c3, c4, c5, ms, hms, hDs, hm⟩ := hC
    have hlt := (Array.getElem?_eq_some_iff.1 k3).1
    have z1 : ∀ k, k ≠ w.heap.size + 1 → w2.heap[k]? = w'.heap[k]? := fun k hk => by
      rcases hw2 with rfl | ⟨rc', rfl⟩
      · rfl
      · exact World.putObj_heap_other hk
    have z2 : w2.heap.size = w'.heap.size := by
      rcases hw2 with rfl | ⟨rc', rfl⟩
      · rfl
      · simp
    have z3 : w2.os = w'.os ∧ w2.tape = w'.tape ∧ w2.output = w'.output := by
      rcases hw2 with rfl | ⟨rc', rfl⟩ <;> exact ⟨rfl, rfl, rfl⟩
    have z4 : ∀ b o, w2.cell? ⟨b, o, none⟩ = w'.cell? ⟨b, o, none⟩ := fun b o => by
      rcases hw2 with rfl | ⟨rc', rfl⟩
      · rfl
      · exact cell_putObj k3 (by simp) (by simp)
    refine ⟨⟨fun b => B.Prot b ∨ b = w.heap.size, w2, R', B.Γ0, B.lo, { target := .collected w.heap.size, args := #[] } :: B.D⟩, ⟨c1, fun b hb => .inl (c2 b hb), ?_, fun b o hb => ?_, c5, w.heap.size :: ms, ?_, by rw [hDs]; rfl, fun r hr => ?_⟩, ?_⟩
    · refine (c3.trans (k1.kept.mono c2)).trans ⟨z3.1, z3.2.1, z3.2.2, Nat.le_of_eq z2.symm, fun k hk => z1 k fun e => ?_⟩
      have := hBl k (c2 k hk)
      omega
    · rcases k1.sub b o hb with h1 | h1
      · exact c4 b o h1
      · exact .inr fun hp => h1 (c2 b hp)
    · refine List.nodup_cons.2 ⟨fun hin => ?_, hms⟩
      have := hBl _ (hm _ hin).1
      omega
    · rcases List.mem_cons.1 hr with rfl | hr
      · refine ⟨.inr rfl, fun hp => ?_, (z1 _ (by omega)).trans k4⟩
        have := hBl _ (c2 _ hp)
        omega
      · obtain ⟨h1, h2, h3⟩ := hm r hr
        refine ⟨.inl h1, h2, ?_⟩
        have hrl := hBl r h1
        exact (z1 _ (by omega)).trans ((k1.kept.block r h1).trans h3)
    · refine k1.moved (fun b o _ => z4 b o) (fun i m b hi hb => z1 b fun e => k1.not_own k3 (by simp) (by simp) hi (e ▸ hb)) (Nat.le_of_eq z2.symm) (fun i m b hi hb hp => ?_) (fun b o hb => .inl hb) (Kept.refl _ _) (fun b hb => ?_) k1.lo k1.base rfl (by rw [k1.defers])
      · rcases hp with hp | rfl
        · exact ((k1.own i m hi).2 b hb).1 hp
        · exact k1.not_own k4 (by simp) (by simp) hi hb
      · rcases hb with hb | rfl
        · have := hBl b hb
          simp only
          have := k1.kept.size
          omega
        · simp only
          omega
  obtain ⟨_, hvw⟩ := hs.leave (f := fr) (H := []) (κ := []) (gone := fun _ => true) trivial List.nodup_nil (fun s hs => by cases hs)
  have hR1 : ∀ b o, freedAt R Γ (fun _ => true) b o → b < w.heap.size := fun b o hb => by
    rcases hb with hb | ⟨s, m, _, hm, hmb⟩
    · exact hs.bnd b o hb
    · exact ((hs.own s m hm).2 b hmb).2.1
  have side : ∀ {qs ps : List PV} {us : List Value}, vwAll (vw fr (tgtAt [] [] fun _ => true) 8) qs ps → plainL qs = true → (∀ (i : Nat) (u : Value) (p : PV), us[i]? = some u → ps[i]? = some p → Rep w R Γ u p) → ∀ (i : Nat) (u : Value) (q : PV), us[i]? = some u → qs[i]? = some q → Rep W1 (freedAt R Γ fun _ => true) (fun _ => none) u q := fun hv hpl hr i u q hu hq => by
    obtain ⟨p, hp, hv⟩ := vwAll_get hv i q hq
    refine (hvw q p u hv (hr i u p hu hp)).free (fun b o hb => ⟨hb, cell?_of_heap (hbel.block b (hR1 b o hb))⟩) ?_
    refine List.eq_nil_iff_forall_not_mem.2 fun j hj => ?_
    have := mem_namesL.2 ⟨q, List.mem_of_getElem? hq, hj⟩
    rw [plainL_names hpl] at this; cases this
  refine (hgen.2 W1 uf uc (freedAt R Γ fun _ => true) (fun b => ∃ o, R b o) (w.heap.size + 1) _ _ (fun b o hb => Nat.lt_of_lt_of_le (hR1 b o hb) hbel.size) (fun b ⟨o, hb⟩ => Nat.lt_of_lt_of_le (hs.bnd b o hb) hbel.size) henv hJ0 (l1.trans (vwAll_length hfv).symm) (l2.trans (vwAll_length hcv).symm) (side hfv hfirst r1) (side hcv hcaps r2)).mono ?_
  · intro e w' hgp
    cases e with
    | outgrown => exact hgp.elim
    | panicked ch =>
      obtain ⟨pv, q, F', rfl, hrep, R', Γ', fr', st, pe, k1, _, k3, k4, _, _, _, _, hQ⟩ := hgp
      obtain ⟨B', hC', hs2⟩ := after w' k1 k3 k4 (.inl rfl)
      exact ⟨(), B', hC', R', Γ', _, .panic q, hs2, ⟨pv, rfl, hrep _ _ _⟩, hQ⟩
    | returned rv =>
    obtain ⟨s, F', hs', R', Γ', fr', st, pe, k1, _, k3, k4, _, _, hm⟩ := hgp
    refine ⟨st, pe, k3, ?_⟩
    obtain ⟨B', hC', hs2⟩ := after (w'.putObj (w.heap.size + 1) (.loop (loopRec fn a #[t] assign body w.heap.size .exhausted pe))) k1 k3 k4 (.inr ⟨_, rfl⟩)
    rcases hs' with rfl | rfl
    · obtain ⟨rfl, rfl, rfl⟩ := hm
      exact ⟨by simp, (), B', hC', R', Γ', _, .normal, hs2, trivial, hend fun e => by have := k1.len; rw [e] at this; simp at this; omega⟩
    · obtain ⟨rfl, c, x, rfl, hjx, hQ⟩ := hm
      refine ⟨by simp, ?_⟩
      cases c with
      | ret => cases x with
        | ret => exact ⟨(), B', hC', R', Γ', _, .ret, hs2, trivial, hQ⟩
        | _ => exact hjx.elim
      | exit id => cases x with
        | exit id' => exact ⟨(), B', hC', R', Γ', _, .exit id', hs2, hjx, hQ⟩
        | _ => exact hjx.elim
      | _ => cases x <;> exact hjx.elim
end
end Go.Qg

namespace Go.Qg
theorem pd_call {P : Program} {o : Oper} {fr : PF} {c : Call} {f : FuncId} {ps : List PV} {r : PV} {H2 : PF} {k : List Nat → PF → Prop} (h : CallW P f ps [] fun out => out = .ret r H2) (news : List Nat) (hp : pcallee P fr c = some (f, ps)) (hno : noObj o.dst fr = true) (hnm : namesL ps = [])
    (hb : backOk fr [] news H2) (hd : ∀ d, o.dst = some d → d ∉ news) (hk : k news (put o.dst (backV news r) (back fr news H2))) : pdCall P o c fr k := by
  unfold pdCall
  rw [hp]
  exact ⟨hno, false, ps, r, H2, news, .inl ⟨rfl, rfl, hnm⟩, .inl rfl, h, hb, hd, hk⟩
theorem pop_callF {P : Program} {M : Nat} {K : PF → Prop} {Kp : PV → PF → Prop} {o : Oper} {fr : PF} {c : Call} {f : FuncId} {ps qs : List PV} {H : PF} {Q : Out → Prop} (V : List (Nat × PV)) (hg : less M fr (apply V fr)) (h : CallW P f qs H Q) (hp : pcallee P (apply V fr) c = some (f, ps)) (ι : List Nat) (md : Bool) (hι : ι.Nodup)
    (ho : outF (apply V fr) (lentTgt H ι md) 8 H ι) (ha : argsOk (apply V fr) (lentTgt H ι md) qs ps)
    (hk : ∀ out, Q out → match out with
      | .ret r H2 => ∃ news, backOk (apply V fr) ι news H2 ∧ (md = false ∨ (flatL H2 && r.flat) = true) ∧ pclear o.dst (backV (ι ++ news) r) (back (apply V fr) (ι ++ news) H2) = true ∧ K (put o.dst (backV (ι ++ news) r) (back (apply V fr) (ι ++ news) H2))
      | .pan p H2 => ∃ news, backOk (apply V fr) ι news H2 ∧ (md = false ∨ (flatL H2 && p.flat) = true) ∧ Kp (backV (ι ++ news) p) (back (apply V fr) (ι ++ news) H2)) : popCall P M K Kp o c fr :=
  pop_callG (apply V fr) hg h hp ι md hι ho ha hk
theorem pop_specF {P : Program} {M : Nat} {K : PF → Prop} {Kp : PV → PF → Prop} {o : Oper} {fr : PF} {c : Call} {f : FuncId} {ps qs : List PV} {r : PV} (V : List (Nat × PV)) (hg : less M fr (apply V fr)) (h : Spec P f qs r) (hp : pcallee P (apply V fr) c = some (f, ps)) (md : Bool) (ha : argsOk (apply V fr) (lentTgt [] [] md) qs ps) (hfl : md = false ∨ r.flat = true)
    (hn : r.names = []) (hcl : pclear o.dst r (apply V fr) = true) (hK : K (put o.dst r (apply V fr))) : popCall P M K Kp o c fr :=
  pop_specG (apply V fr) hg h hp md ha hfl hn hcl hK
def keysI (d : List Int) : List PV := d.map fun x => .v (.int .i64 x)
def trues (d : List Int) : List PV := d.map fun _ => .v (.bool true)
@[simp] theorem keysI_length (d : List Int) : (keysI d).length = d.length := by simp [keysI]
@[simp] theorem trues_length (d : List Int) : (trues d).length = d.length := by simp [trues]
@[simp] theorem keysI_nil : keysI [] = [] := rfl
@[simp] theorem trues_nil : trues [] = [] := rfl
theorem keysI_plain (d : List Int) : plainL (keysI d) = true := by
  induction d with
  | nil => rfl
  | cons x d ih => simpa [keysI, plainL, PV.plain] using ih
theorem trues_plain (d : List Int) : plainL (trues d) = true := by
  induction d with
  | nil => rfl
  | cons x d ih => simpa [trues, plainL, PV.plain] using ih
@[simp] theorem keysI_names (d : List Int) : namesL (keysI d) = [] := plainL_names (keysI_plain d)
@[simp] theorem trues_names (d : List Int) : namesL (trues d) = [] := plainL_names (trues_plain d)
@[simp] theorem keysI_ren (π : Nat → Nat) (d : List Int) : renL π (keysI d) = keysI d := renL_plain (keysI_plain d)
@[simp] theorem trues_ren (π : Nat → Nat) (d : List Int) : renL π (trues d) = trues d := renL_plain (trues_plain d)
@[simp] theorem keysI_vw (f : PF) (T : Tgt) (e : Nat) (d : List Int) : vwAll (vw f T e) (keysI d) (keysI d) = True := eq_true (vwAll_plain (keysI_plain d))
@[simp] theorem trues_vw (f : PF) (T : Tgt) (e : Nat) (d : List Int) : vwAll (vw f T e) (trues d) (trues d) = True := eq_true (vwAll_plain (trues_plain d))
@[simp] theorem keysI_flat (d : List Int) : flatL (keysI d) = true := by
  induction d with
  | nil => rfl
  | cons x d ih => simpa [keysI, flatL, PV.flat] using ih
@[simp] theorem trues_flat (d : List Int) : flatL (trues d) = true := by
  induction d with
  | nil => rfl
  | cons x d ih => simpa [trues, flatL, PV.flat] using ih
def dfind (d : List Int) (x : Int) : Nat → Option Nat := fun j => match d with
  | [] => none
  | y :: d => if x == y then some j else dfind d x (j + 1)
theorem pkfind_ints {P : Program} {t : TypeId} (ht : (tint P t).isSome = true) (d : List Int) (x : Int) : ∀ j, pkfind P t (.v (.int .i64 x)) (keysI d) j = some (dfind d x j) := by
  induction d with
  | nil => intro j; rfl
  | cons y d ih =>
    intro j
    have e : keysI (y :: d) = .v (.int .i64 y) :: keysI d := rfl
    rw [e]
    simp only [pkfind, pkeyEq, ht, and_self, if_true, dfind]
    by_cases h : x == y
    · simp [h]
    · simp only [h, if_false]
      exact ih (j + 1)
theorem dfind_some {d : List Int} {x : Int} : ∀ {j i : Nat}, dfind d x j = some i → j ≤ i ∧ i - j < d.length ∧ d[i - j]? = some x := by
  induction d with
  | nil => intro j i h; cases h
  | cons y d ih =>
    intro j i h
    simp only [dfind] at h
    split at h
    · rename_i hxy
      obtain rfl := Option.some.inj h
      simp at hxy
      simp [hxy]
    · obtain ⟨h1, h2, h3⟩ := ih h
      refine ⟨by omega, by simp; omega, ?_⟩
      rw [show i - j = (i - (j + 1)) + 1 from by omega, List.getElem?_cons_succ]; exact h3
theorem dfind_mem {d : List Int} {x : Int} : ∀ {j : Nat}, (dfind d x j).isSome = d.contains x := by
  induction d with
  | nil => intro j; rfl
  | cons y d ih =>
    intro j
    simp only [dfind, List.contains_cons]
    by_cases h : x == y
    · simp [h]
    · simp only [h, if_false, Bool.false_or]; exact ih
theorem trues_get {d : List Int} {x : Int} {i : Nat} (h : dfind d x 0 = some i) : (trues d)[i]? = some (.v (.bool true)) := by
  obtain ⟨_, h2, _⟩ := dfind_some h
  have h2 : i < d.length := by simpa using h2
  simp [trues, h2]
theorem keysI_set {d : List Int} {x : Int} {i : Nat} (h : dfind d x 0 = some i) : (keysI d).set i (.v (.int .i64 x)) = keysI d := by
  obtain ⟨_, h2, h3⟩ := dfind_some h
  refine List.ext_getElem? fun j => ?_
  rw [List.getElem?_set]
  split
  · rename_i hij; subst hij
    have h3 : d[i]? = some x := by simpa using h3
    have h2 : i < d.length := by simpa using h2
    simp [keysI, h2, h3]
    have := List.getElem?_eq_getElem h2
    rw [this] at h3
    exact (Option.some.inj h3).symm
  · rfl
theorem trues_set {d : List Int} {i : Nat} (h : i < d.length) : (trues d).set i (.v (.bool true)) = trues d := by
  refine List.ext_getElem? fun j => ?_
  rw [List.getElem?_set]
  split
  · rename_i hij; subst hij
    simp [trues, h]
  · rfl
theorem keysI_snoc (d : List Int) (x : Int) : keysI d ++ [.v (.int .i64 x)] = keysI (d ++ [x]) := by simp [keysI]
theorem trues_snoc (d : List Int) (x : Int) : trues d ++ [.v (.bool true)] = trues (d ++ [x]) := by simp [trues]
end Go.Qg

namespace Go.Qg
set_option maxRecDepth 100000
@[simp] theorem wrap_0 : IntKind.i64.wrap 0 = 0 := i64_wrap (by omega)
@[simp] theorem wrap_1 : IntKind.i64.wrap 1 = 1 := i64_wrap (by omega)
@[simp] theorem wrap_2 : IntKind.i64.wrap 2 = 2 := i64_wrap (by omega)
@[simp] theorem wrap_3 : IntKind.i64.wrap 3 = 3 := i64_wrap (by omega)
@[simp] theorem wrap_m1 : IntKind.i64.wrap (-1) = -1 := i64_wrap (by omega)
def geti (l : List Int) (i : Nat) : Int := l.getD i 0
def ints (l : List Int) : PV := .sl 1 l.length fun i => [.v (.int .i64 (geti l i))]
def allN (n : Nat) (p : Nat → Bool) : Bool := (List.range n).all p
theorem allN_spec {n : Nat} {p : Nat → Bool} : allN n p = true ↔ ∀ k, k < n → p k = true := by simp [allN]
theorem allN_false {n k : Nat} {p : Nat → Bool} (hk : k < n) (h : p k = false) : allN n p = false := by
  cases he : allN n p with
  | false => rfl
  | true => rw [allN_spec.1 he k hk] at h; cases h
def rowsI (l : List Int) : List (List PV) := l.map fun x => [.v (.int .i64 x)]
@[simp] theorem rowsI_length (l : List Int) : (rowsI l).length = l.length := by simp [rowsI]
@[simp] theorem renLL_rowsI (π : Nat → Nat) (l : List Int) : renLL π (rowsI l) = rowsI l := by
  induction l with
  | nil => rfl
  | cons x l ih => simpa [rowsI, renLL, renL, PV.ren] using ih
@[simp] theorem namesLL_rowsI (l : List Int) : namesLL (rowsI l) = [] := by
  induction l with
  | nil => rfl
  | cons x l ih => simpa [rowsI, namesLL, namesL, PV.names] using ih
@[simp] theorem flatLL_rowsI (l : List Int) : flatLL (rowsI l) = true := by
  induction l with
  | nil => rfl
  | cons x l ih => simpa [rowsI, flatLL, flatL, PV.flat] using ih
@[simp] theorem vwAllL_rowsI (f : PF) (T : Tgt) (d : Nat) (a b : List Int) : vo.vwAllL f T (d + 1) (rowsI a) (rowsI b) = (a = b) := by
  induction a generalizing b with
  | nil => cases b <;> simp [rowsI, vo.vwAllL]
  | cons x a ih =>
    cases b with
    | nil => simp [rowsI, vo.vwAllL]
    | cons y b =>
      have := ih b
      simp only [rowsI] at this
      simp [rowsI, vo.vwAllL, this]
@[simp] theorem rowsI_take (l : List Int) (k : Nat) : (rowsI l).take k = rowsI (l.take k) := by simp [rowsI]
@[simp] theorem rowsI_mem {l : List Int} {r : List PV} : r ∈ rowsI l ↔ ∃ x, x ∈ l ∧ [.v (.int .i64 x)] = r := by simp [rowsI]
@[simp] theorem rowsI_nil : rowsI [] = [] := rfl
theorem rowsI_snoc (l : List Int) (x : Int) : rowsI l ++ [[.v (.int .i64 x)]] = rowsI (l ++ [x]) := by simp [rowsI]
theorem rowsI_get {l : List Int} {k : Nat} (h : k < l.length) : (rowsI l)[k]? = some [.v (.int .i64 (geti l k))] := by simp [rowsI, geti, h]
@[simp] theorem rowsI_getElem {l : List Int} {k : Nat} (h : k < (rowsI l).length) : (rowsI l)[k] = [.v (.int .i64 (geti l k))] := by
  have h2 : k < l.length := by simpa using h
  simp [rowsI, geti, h2]
theorem rowsI_getD {l : List Int} {k : Nat} (h : k < l.length) : (rowsI l).getD k [] = [.v (.int .i64 (geti l k))] := by simp [List.getD, rowsI_get h]
theorem rowsI_set (l : List Int) (k : Nat) (x : Int) : (rowsI l).set k [.v (.int .i64 x)] = rowsI (l.set k x) := by simp [rowsI, List.map_set]
theorem geti_set {l : List Int} {i k : Nat} {x : Int} (h : i < l.length) : geti (l.set k x) i = if k = i then x else geti l i := by
  unfold geti
  rw [List.getD_eq_getElem?_getD, List.getElem?_set]
  split
  · rename_i h1; subst h1; simp [h]
  · rw [List.getD_eq_getElem?_getD]
theorem rowsI_range (l : List Int) : (List.range l.length).map (fun i => [PV.v (.int .i64 (geti l i))]) = rowsI l := by
  refine List.ext_getElem? fun i => ?_
  by_cases h : i < l.length
  · rw [rowsI_get h, List.getElem?_map, List.getElem?_range h]; rfl
  · rw [List.getElem?_eq_none (by simp; omega), List.getElem?_eq_none (by simp; omega)]
theorem rowsI_rep (n : Nat) : List.replicate n [PV.v (.int .i64 0)] = rowsI (List.replicate n 0) := by simp [rowsI]
def getb (l : List Bool) (i : Nat) : Bool := l.getD i false
def bools (l : List Bool) : PV := .sl 1 l.length fun i => [.v (.bool (getb l i))]
def rowsB (l : List Bool) : List (List PV) := l.map fun x => [.v (.bool x)]
@[simp] theorem rowsB_length (l : List Bool) : (rowsB l).length = l.length := by simp [rowsB]
@[simp] theorem renLL_rowsB (π : Nat → Nat) (l : List Bool) : renLL π (rowsB l) = rowsB l := by
  induction l with
  | nil => rfl
  | cons x l ih => simpa [rowsB, renLL, renL, PV.ren] using ih
@[simp] theorem namesLL_rowsB (l : List Bool) : namesLL (rowsB l) = [] := by
  induction l with
  | nil => rfl
  | cons x l ih => simpa [rowsB, namesLL, namesL, PV.names] using ih
@[simp] theorem flatLL_rowsB (l : List Bool) : flatLL (rowsB l) = true := by
  induction l with
  | nil => rfl
  | cons x l ih => simpa [rowsB, flatLL, flatL, PV.flat] using ih
@[simp] theorem vwAllL_rowsB (f : PF) (T : Tgt) (d : Nat) (a b : List Bool) : vo.vwAllL f T (d + 1) (rowsB a) (rowsB b) = (a = b) := by
  induction a generalizing b with
  | nil => cases b <;> simp [rowsB, vo.vwAllL]
  | cons x a ih =>
    cases b with
    | nil => simp [rowsB, vo.vwAllL]
    | cons y b =>
      have := ih b
      simp only [rowsB] at this
      simp [rowsB, vo.vwAllL, this]
@[simp] theorem rowsB_take (l : List Bool) (k : Nat) : (rowsB l).take k = rowsB (l.take k) := by simp [rowsB]
@[simp] theorem rowsB_one {l : List Bool} : (∀ (x : List PV), x ∈ rowsB l → ∀ (y : PV), y ∈ x → y.one = true) ↔ True := by
  refine ⟨fun _ => trivial, fun _ x hx y hy => ?_⟩
  obtain ⟨b, _, rfl⟩ := List.mem_map.1 hx
  obtain rfl := List.mem_singleton.1 hy
  rfl
@[simp] theorem rowsB_len1 {l : List Bool} : (∀ (x : List PV), x ∈ rowsB l → x.length = 1) ↔ True := by
  refine ⟨fun _ => trivial, fun _ x hx => ?_⟩
  obtain ⟨b, _, rfl⟩ := List.mem_map.1 hx
  rfl
theorem rowsB_get {l : List Bool} {k : Nat} (h : k < l.length) : (rowsB l)[k]? = some [.v (.bool (getb l k))] := by simp [rowsB, getb, h]
@[simp] theorem rowsB_getElem {l : List Bool} {k : Nat} (h : k < (rowsB l).length) : (rowsB l)[k] = [.v (.bool (getb l k))] := by
  have h2 : k < l.length := by simpa using h
  simp [rowsB, getb, h2]
theorem rowsB_set (l : List Bool) (k : Nat) (x : Bool) : (rowsB l).set k [.v (.bool x)] = rowsB (l.set k x) := by simp [rowsB, List.map_set]
theorem rowsB_rep (n : Nat) : List.replicate n [PV.v (.bool false)] = rowsB (List.replicate n false) := by simp [rowsB]
theorem rowsB_range (l : List Bool) : (List.range l.length).map (fun i => [PV.v (.bool (getb l i))]) = rowsB l := by
  refine List.ext_getElem? fun i => ?_
  rw [List.getElem?_map]
  by_cases hi : i < l.length
  · rw [List.getElem?_range hi, rowsB_get hi]; rfl
  · rw [List.getElem?_eq_none (by simpa using hi), List.getElem?_eq_none (by simpa using hi)]; rfl
def inB (x lo hi : Int) : Bool := decide (lo ≤ x) && decide (x ≤ hi)
theorem inB_spec {x lo hi : Int} : inB x lo hi = true ↔ lo ≤ x ∧ x ≤ hi := by simp [inB]
abbrev iv (n : Int) : PV := .v (.int .i64 n)
abbrev bv (b : Bool) : PV := .v (.bool b)
end Go.Qg

namespace Go.Qg
set_option maxRecDepth 100000
structure Brl where
  kilos : Int
  til : Int
  deriving DecidableEq, Inhabited
def pass (u : Int) : List Brl → Int → List Brl × Int
  | [], n => ([], n)
  | b :: l, n => if b.til = u then (⟨b.kilos - min n b.kilos, b.til⟩ :: (pass u l (n - min n b.kilos)).1, (pass u l (n - min n b.kilos)).2) else (b :: (pass u l n).1, (pass u l n).2)
def sweep : Nat → Int → List Brl → Int → List Brl × Int
  | 0, _, l, n => (l, n)
  | k + 1, u, l, n => sweep k (u + 1) (pass u l n).1 (pass u l n).2
def full (l : List Brl) : List Brl := l.filter fun b => decide (0 < b.kilos)
def days400 (day : Int) : Nat := (401 - day).toNat
def drawL (l : List Brl) (day n : Int) : List Brl := full (sweep (days400 day) day l n).1
def sumK : List Brl → Int
  | [] => 0
  | b :: l => b.kilos + sumK l
def goodL (l : List Brl) (day : Int) : List Brl := l.filter fun b => decide (day ≤ b.til)
def hasL (l : List Brl) (day : Int) : Int := sumK (goodL l day)
def totK (l : List Brl) (u : Int) : Int := sumK (l.filter fun b => decide (b.til = u))
def Pos (l : List Brl) : Prop := ∀ b ∈ l, 0 ≤ b.kilos
theorem Pos.tail {b : Brl} {l : List Brl} (h : Pos (b :: l)) : Pos l := fun x hx => h x (List.mem_cons_of_mem _ hx)
theorem Pos.head {b : Brl} {l : List Brl} (h : Pos (b :: l)) : 0 ≤ b.kilos := h b List.mem_cons_self
theorem Pos.cons {b : Brl} {l : List Brl} (h : 0 ≤ b.kilos) (hl : Pos l) : Pos (b :: l) := fun x hx => by
  rcases List.mem_cons.1 hx with rfl | hx
  · exact h
  · exact hl x hx
theorem sumK_nonneg : ∀ {l : List Brl}, Pos l → 0 ≤ sumK l
  | [], _ => Int.le_refl _
  | b :: l, h => by have := sumK_nonneg h.tail; have := h.head; simp only [sumK]; omega
theorem Pos.filter {l : List Brl} (h : Pos l) (p : Brl → Bool) : Pos (l.filter p) := fun x hx => h x (List.mem_filter.1 hx).1
theorem totK_nonneg {l : List Brl} (h : Pos l) (u : Int) : 0 ≤ totK l u := sumK_nonneg (h.filter _)
theorem totK_cons (b : Brl) (l : List Brl) (u : Int) : totK (b :: l) u = (if b.til = u then b.kilos else 0) + totK l u := by
  unfold totK
  rw [List.filter_cons]
  split
  · rename_i h; rw [if_pos (by simpa using h)]; rfl
  · rename_i h; rw [if_neg (by simpa using h)]; omega
theorem hasL_cons (b : Brl) (l : List Brl) (d : Int) : hasL (b :: l) d = (if d ≤ b.til then b.kilos else 0) + hasL l d := by
  unfold hasL goodL
  rw [List.filter_cons]
  split
  · rename_i h; rw [if_pos (by simpa using h)]; rfl
  · rename_i h; rw [if_neg (by simpa using h)]; omega
theorem hasL_nonneg {l : List Brl} (h : Pos l) (d : Int) : 0 ≤ hasL l d := sumK_nonneg (h.filter _)
theorem pass_length (u : Int) : ∀ (l : List Brl) (n : Int), (pass u l n).1.length = l.length
  | [], n => rfl
  | b :: l, n => by simp only [pass]; split <;> simp [pass_length u l]
theorem pass_til (u : Int) : ∀ (l : List Brl) (n : Int), (pass u l n).1.map (·.til) = l.map (·.til)
  | [], n => rfl
  | b :: l, n => by simp only [pass]; split <;> simp [pass_til u l]
theorem pass_ok (u : Int) : ∀ {l : List Brl} {n : Int}, Pos l → 0 ≤ n → Pos (pass u l n).1 ∧ (pass u l n).2 = max 0 (n - totK l u)
  | [], n, _, hn => ⟨fun b hb => (by cases hb), by simp [pass, totK, sumK]; omega⟩
  | b :: l, n, h, hn => by
    have hb := h.head
    simp only [pass]
    split
    · rename_i hu
      obtain ⟨h1, h2⟩ := pass_ok u (l := l) (n := n - min n b.kilos) h.tail (by omega)
      refine ⟨Pos.cons (by simp only; omega) h1, ?_⟩
      rw [h2, totK_cons, if_pos hu]
      have := totK_nonneg h.tail u
      omega
    · rename_i hu
      obtain ⟨h1, h2⟩ := pass_ok u (l := l) (n := n) h.tail hn
      refine ⟨Pos.cons hb h1, ?_⟩
      rw [h2, totK_cons, if_neg hu]
      omega
theorem pass_tot (u : Int) : ∀ {l : List Brl} {n : Int}, Pos l → 0 ≤ n → ∀ v, totK (pass u l n).1 v = if v = u then max 0 (totK l u - n) else totK l v
  | [], n, _, hn, v => by
    simp [pass, totK, sumK]; omega
  | b :: l, n, h, hn, v => by
    have hb := h.head
    simp only [pass]
    split
    · rename_i hu
      have ih := pass_tot u (l := l) (n := n - min n b.kilos) h.tail (by omega) v
      have h0 := totK_nonneg h.tail u
      rw [totK_cons, totK_cons, totK_cons, ih]
      simp only [hu]
      by_cases hv : v = u
      · subst hv; simp only [if_true]; omega
      · have hv' : ¬ u = v := fun e => hv e.symm
        simp only [if_neg hv', if_neg hv]
    · rename_i hu
      have ih := pass_tot u (l := l) (n := n) h.tail hn v
      rw [totK_cons, totK_cons, totK_cons, ih, if_neg hu]
      by_cases hv : v = u
      · subst hv; rw [if_neg hu, if_pos rfl, if_pos rfl]; omega
      · rw [if_neg hv, if_neg hv]
theorem pass_zero (u : Int) : ∀ {l : List Brl}, Pos l → pass u l 0 = (l, 0)
  | [], _ => rfl
  | b :: l, h => by
    have hb := h.head
    have e : min 0 b.kilos = 0 := by omega
    simp only [pass, e, Int.sub_zero, pass_zero u h.tail]
    split <;> rfl
theorem pass_add (u : Int) : ∀ {l : List Brl} {a b : Int}, Pos l → 0 ≤ a → 0 ≤ b → pass u l (a + b) = pass u (pass u l a).1 ((pass u l a).2 + b)
  | [], a, b, _, _, _ => rfl
  | x :: l, a, b, h, ha, hb => by
    have hx := h.head
    have ih := fun (a b : Int) (ha : 0 ≤ a) (hb : 0 ≤ b) => pass_add u (l := l) (a := a) (b := b) h.tail ha hb
    by_cases hu : x.til = u
    · have hr := (pass_ok u (l := l) (n := a - min a x.kilos) h.tail (by omega)).2
      have h0 := totK_nonneg h.tail u
      simp only [pass, hu, if_true]
      by_cases hax : a ≤ x.kilos
      · have e1 : a - min a x.kilos = 0 := by omega
        have e2 : min a x.kilos = a := by omega
        rw [e1] at hr
        rw [e1, pass_zero u h.tail, e2]
        dsimp only
        rw [show a + b - min (a + b) x.kilos = 0 + b - min (0 + b) (x.kilos - a) from by omega, show x.kilos - min (a + b) x.kilos = x.kilos - a - min (0 + b) (x.kilos - a) from by omega]
      · have e2 : min a x.kilos = x.kilos := by omega
        have e3 : min (a + b) x.kilos = x.kilos := by omega
        rw [e2, e3, show x.kilos - x.kilos = 0 from by omega]
        have e5 := ih (a - x.kilos) b (by omega) hb
        rw [show a - x.kilos + b = a + b - x.kilos from by omega] at e5
        rw [e2] at hr
        generalize hp : pass u l (a - x.kilos) = P at *
        rw [show min (P.2 + b) 0 = 0 from by omega, e5]
        simp
    · simp only [pass, hu, if_false]
      rw [ih a b ha hb]
theorem sweep_ok : ∀ (k : Nat) (u : Int) {l : List Brl} {n : Int}, Pos l → 0 ≤ n → Pos (sweep k u l n).1 ∧ 0 ≤ (sweep k u l n).2
  | 0, u, l, n, h, hn => ⟨h, hn⟩
  | k + 1, u, l, n, h, hn => by
    have h1 := pass_ok u h hn
    exact sweep_ok k (u + 1) h1.1 (by rw [h1.2]; omega)
theorem sweep_length : ∀ (k : Nat) (u : Int) (l : List Brl) (n : Int), (sweep k u l n).1.length = l.length
  | 0, u, l, n => rfl
  | k + 1, u, l, n => by simp only [sweep]; rw [sweep_length, pass_length]
theorem sweep_til : ∀ (k : Nat) (u : Int) (l : List Brl) (n : Int), (sweep k u l n).1.map (·.til) = l.map (·.til)
  | 0, u, l, n => rfl
  | k + 1, u, l, n => by simp only [sweep]; rw [sweep_til, pass_til]
theorem sweep_zero : ∀ (k : Nat) (u : Int) {l : List Brl}, Pos l → sweep k u l 0 = (l, 0)
  | 0, u, l, h => rfl
  | k + 1, u, l, h => by simp only [sweep, pass_zero u h]; exact sweep_zero k (u + 1) h
theorem sweep_tot_past : ∀ (k : Nat) (u : Int) {l : List Brl} {n : Int}, Pos l → 0 ≤ n → ∀ v, (v < u ∨ u + k ≤ v) → totK (sweep k u l n).1 v = totK l v
  | 0, u, l, n, h, hn, v, hv => rfl
  | k + 1, u, l, n, h, hn, v, hv => by
    have h1 := pass_ok u h hn
    simp only [sweep]
    rw [sweep_tot_past k (u + 1) h1.1 (by rw [h1.2]; omega) v (by push_cast at hv; omega), pass_tot u h hn v, if_neg (by push_cast at hv; omega)]
theorem pass_empty (u : Int) : ∀ {l : List Brl}, Pos l → totK l u = 0 → ∀ {n : Int}, 0 ≤ n → pass u l n = (l, n)
  | [], _, _, n, _ => rfl
  | b :: l, h, h0, n, hn => by
    rw [totK_cons] at h0
    have h1 := totK_nonneg h.tail u
    have hb := h.head
    simp only [pass]
    split
    · rename_i hu
      rw [if_pos hu] at h0
      have e : b.kilos = 0 := by omega
      simp only [show min n b.kilos = 0 from by omega, Int.sub_zero, pass_empty u h.tail (show totK l u = 0 by omega) hn]
    · rename_i hu
      rw [if_neg hu] at h0
      rw [pass_empty u h.tail (by omega) hn]
theorem sweep_add : ∀ (k : Nat) (u : Int) {l : List Brl} {a b : Int}, Pos l → 0 ≤ a → 0 ≤ b → (sweep k u l (a + b)).1 = (sweep k u (sweep k u l a).1 b).1
  | 0, u, l, a, b, h, ha, hb => rfl
  | k + 1, u, l, a, b, h, ha, hb => by
    have h1 := pass_ok u h ha
    simp only [sweep]
    rw [pass_add u h ha hb]
    have hr0 : 0 ≤ (pass u l a).2 := by rw [h1.2]; omega
    generalize hP : pass u l a = P at *
    obtain ⟨l1, r⟩ := P
    dsimp only at *
    have hs := sweep_ok k (u + 1) h1.1 hr0
    have htu : totK (sweep k (u + 1) l1 r).1 u = totK l1 u := sweep_tot_past k (u + 1) h1.1 hr0 u (by omega)
    have ht : totK l1 u = max 0 (totK l u - a) := by
      have := pass_tot u h ha u
      rw [hP, if_pos rfl] at this; exact this
    by_cases hr : r = 0
    · subst hr
      rw [Int.zero_add, sweep_zero k (u + 1) h1.1]
    · have e0 : totK l1 u = 0 := by omega
      rw [pass_empty u h1.1 e0 (by omega), pass_empty u hs.1 (by rw [htu]; exact e0) hb]
      exact sweep_add k (u + 1) h1.1 hr0 hb
theorem full_cons (b : Brl) (l : List Brl) : full (b :: l) = if 0 < b.kilos then b :: full l else full l := by
  unfold full
  rw [List.filter_cons]
  by_cases h : 0 < b.kilos <;> simp [h]
theorem Pos.full {l : List Brl} (h : Pos l) : Pos (full l) := h.filter _
theorem pass_full (u : Int) : ∀ {l : List Brl} {n : Int}, Pos l → 0 ≤ n → full (pass u (full l) n).1 = full (pass u l n).1 ∧ (pass u (full l) n).2 = (pass u l n).2
  | [], n, _, _ => ⟨rfl, rfl⟩
  | b :: l, n, h, hn => by
    have hb := h.head
    rw [full_cons]
    by_cases h0 : 0 < b.kilos
    · rw [if_pos h0]
      by_cases hu : b.til = u
      · obtain ⟨e1, e2⟩ := pass_full u (l := l) (n := n - min n b.kilos) h.tail (by omega)
        simp only [pass, hu, if_true, full_cons, e1, e2, and_self]
      · obtain ⟨e1, e2⟩ := pass_full u (l := l) (n := n) h.tail hn
        simp only [pass, hu, if_false, full_cons, e1, e2, and_self]
    · rw [if_neg h0]
      have ek : b.kilos = 0 := by omega
      obtain ⟨e1, e2⟩ := pass_full u (l := l) (n := n) h.tail hn
      by_cases hu : b.til = u
      · simp only [pass, hu, if_true, show min n b.kilos = 0 from by omega, Int.sub_zero, full_cons, h0, if_false, e1, e2, and_self]
      · simp only [pass, hu, if_false, full_cons, h0, e1, e2, and_self]
theorem sweep_same : ∀ (k : Nat) (u : Int) {a b : List Brl} {n : Int}, Pos a → Pos b → 0 ≤ n → full a = full b → full (sweep k u a n).1 = full (sweep k u b n).1 ∧ (sweep k u a n).2 = (sweep k u b n).2
  | 0, u, a, b, n, _, _, _, h => ⟨h, rfl⟩
  | k + 1, u, a, b, n, ha, hb, hn, h => by
    obtain ⟨a1, a2⟩ := pass_full u ha hn
    obtain ⟨b1, b2⟩ := pass_full u hb hn
    have p1 := pass_ok u ha hn
    have p2 := pass_ok u hb hn
    have e2 : (pass u a n).2 = (pass u b n).2 := by rw [← a2, ← b2, h]
    simp only [sweep, e2]
    exact sweep_same k (u + 1) p1.1 p2.1 (by rw [p2.2]; omega) (by rw [← a1, ← b1, h])
theorem full_full (l : List Brl) : full (full l) = full l := by simp [full]
theorem drawL_pos {l : List Brl} {day n : Int} (h : Pos l) (hn : 0 ≤ n) : Pos (drawL l day n) := (sweep_ok _ _ h hn).1.full
theorem drawL_add {l : List Brl} {day a b : Int} (h : Pos l) (ha : 0 ≤ a) (hb : 0 ≤ b) : drawL (drawL l day a) day b = drawL l day (a + b) := by
  have h1 := sweep_ok (days400 day) day h ha
  unfold drawL
  rw [(sweep_same (days400 day) day h1.1.full h1.1 hb (full_full _)).1, sweep_add _ _ h ha hb]
theorem pass_first (u : Int) : ∀ {l : List Brl} {i : Nat} {b : Brl} {n : Int}, Pos l → 0 ≤ n → l[i]? = some b → b.til = u → (∀ j c, j < i → l[j]? = some c → c.til = u → c.kilos = 0) →
    pass u l n = pass u (l.set i ⟨b.kilos - min n b.kilos, b.til⟩) (n - min n b.kilos)
  | [], i, b, n, _, _, hi, _, _ => (by cases hi)
  | x :: l, 0, b, n, h, hn, hi, hu, _ => by
    obtain rfl := Option.some.inj hi
    have hb := h.head
    rw [List.set_cons_zero]
    simp only [pass, hu, if_true]
    rw [show min (n - min n x.kilos) (x.kilos - min n x.kilos) = 0 from by omega]
    simp
  | x :: l, i + 1, b, n, h, hn, hi, hu, hz => by
    have ih := fun (n : Int) (hn : 0 ≤ n) => pass_first u (l := l) (i := i) (b := b) (n := n) h.tail hn hi hu fun j c hj hc => hz (j + 1) c (by omega) hc
    have hb : 0 ≤ b.kilos := h b (List.mem_of_getElem? hi)
    rw [List.set_cons_succ]
    by_cases hx : x.til = u
    · have hx0 := hz 0 x (by omega) rfl hx
      simp only [pass, hx, if_true, show min n x.kilos = 0 from by omega, show min (n - min n b.kilos) x.kilos = 0 from by omega, Int.sub_zero]
      rw [ih n hn]
    · simp only [pass, hx, if_false]
      rw [ih n hn]
theorem totK_set {l : List Brl} {i : Nat} {b c : Brl} {u : Int} (hi : l[i]? = some b) (hb : b.til ≠ u) (hc : c.til ≠ u) : totK (l.set i c) u = totK l u := by
  induction l generalizing i with
  | nil => rfl
  | cons x l ih =>
    cases i with
    | zero =>
      obtain rfl := Option.some.inj hi
      rw [List.set_cons_zero, totK_cons, totK_cons, if_neg hb, if_neg hc]
    | succ i => rw [List.set_cons_succ, totK_cons, totK_cons, ih hi]
theorem totK_zero {l : List Brl} {u : Int} (h : ∀ b ∈ l, b.til = u → b.kilos = 0) : totK l u = 0 := by
  induction l with
  | nil => rfl
  | cons x l ih =>
    rw [totK_cons, ih fun b hb => h b (List.mem_cons_of_mem _ hb)]
    split
    · rename_i hx; rw [h x List.mem_cons_self hx]; rfl
    · rfl
theorem Pos.set {l : List Brl} (h : Pos l) {i : Nat} {c : Brl} (hc : 0 ≤ c.kilos) : Pos (l.set i c) := fun b hb => by
  rcases List.mem_or_eq_of_mem_set hb with hb | rfl
  · exact h b hb
  · exact hc
theorem sweep_first : ∀ (k : Nat) (u : Int) {l : List Brl} {i : Nat} {b : Brl} {n : Int}, Pos l → 0 ≤ n → l[i]? = some b → u ≤ b.til → b.til < u + k →
    (∀ j c, l[j]? = some c → u ≤ c.til → (c.til < b.til ∨ c.til = b.til ∧ j < i) → c.kilos = 0) →
    sweep k u l n = sweep k u (l.set i ⟨b.kilos - min n b.kilos, b.til⟩) (n - min n b.kilos)
  | 0, u, l, i, b, n, _, _, _, h1, h2, _ => by omega
  | k + 1, u, l, i, b, n, h, hn, hi, h1, h2, hz => by
    have hb : 0 ≤ b.kilos := h b (List.mem_of_getElem? hi)
    by_cases hu : b.til = u
    · simp only [sweep]
      rw [pass_first u h hn hi hu fun j c hj hc hcu => hz j c hc (by omega) (.inr ⟨by omega, hj⟩)]
    · have t0 : totK l u = 0 := totK_zero fun c hc hcu => by
        obtain ⟨j, hj⟩ := List.getElem?_of_mem hc
        exact hz j c hj (by omega) (.inl (by omega))
      have hset : Pos (l.set i ⟨b.kilos - min n b.kilos, b.til⟩) := h.set (by simp only; omega)
      have t1 : totK (l.set i ⟨b.kilos - min n b.kilos, b.til⟩) u = 0 := by rw [totK_set hi hu (by simpa using hu)]; exact t0
      simp only [sweep]
      rw [pass_empty u h t0 hn, pass_empty u hset t1 (by omega)]
      exact sweep_first k (u + 1) h hn hi (by omega) (by push_cast at h2; omega) fun j c hj h3 h4 => hz j c hj (by omega) h4
theorem pass_sum (u : Int) : ∀ (l : List Brl) (n : Int), sumK (pass u l n).1 = sumK l - (n - (pass u l n).2)
  | [], n => by simp [pass, sumK]
  | b :: l, n => by
    simp only [pass]
    split
    · simp only [sumK, pass_sum u l]; omega
    · simp only [sumK, pass_sum u l]; omega
theorem sweep_sum : ∀ (k : Nat) (u : Int) (l : List Brl) (n : Int), sumK (sweep k u l n).1 = sumK l - (n - (sweep k u l n).2)
  | 0, u, l, n => by simp [sweep]
  | k + 1, u, l, n => by
    simp only [sweep]
    rw [sweep_sum k (u + 1), pass_sum u]
    omega
theorem sumK_full : ∀ {l : List Brl}, Pos l → sumK (full l) = sumK l
  | [], _ => rfl
  | b :: l, h => by
    have hb := h.head
    rw [full_cons]
    split
    · simp only [sumK, sumK_full h.tail]
    · simp only [sumK, sumK_full h.tail]; omega
theorem totK_full {u : Int} : ∀ {l : List Brl}, Pos l → totK (full l) u = totK l u
  | [], _ => rfl
  | b :: l, h => by
    have hb := h.head
    rw [full_cons]
    split
    · rw [totK_cons, totK_cons, totK_full h.tail]
    · rw [totK_cons, totK_full h.tail]
      split <;> omega
theorem hasL_next (l : List Brl) (u : Int) : hasL l u = totK l u + hasL l (u + 1) := by
  induction l with
  | nil => rfl
  | cons b l ih =>
    rw [hasL_cons, hasL_cons, totK_cons, ih]
    by_cases h1 : b.til = u
    · rw [if_pos (show u ≤ b.til by omega), if_pos h1, if_neg (show ¬ u + 1 ≤ b.til by omega)]; omega
    · by_cases h2 : u + 1 ≤ b.til
      · rw [if_pos (show u ≤ b.til by omega), if_neg h1, if_pos h2]; omega
      · rw [if_neg (show ¬ u ≤ b.til by omega), if_neg h1, if_neg h2]; omega
theorem hasL_pass {u : Int} : ∀ (l : List Brl) (n : Int), hasL (pass u l n).1 (u + 1) = hasL l (u + 1)
  | [], n => rfl
  | b :: l, n => by
    simp only [pass]
    split
    · rename_i hb
      rw [hasL_cons, hasL_cons, hasL_pass l, if_neg (by simp only; omega), if_neg (by omega)]
    · rw [hasL_cons, hasL_cons, hasL_pass l]
theorem hasL_late {l : List Brl} {d : Int} (h : ∀ b ∈ l, b.til < d) : hasL l d = 0 := by
  unfold hasL goodL
  rw [List.filter_eq_nil_iff.2 fun b hb => by have := h b hb; simp; omega]; rfl
theorem sweep_rest : ∀ (k : Nat) (u : Int) {l : List Brl} {n : Int}, Pos l → 0 ≤ n → (∀ b ∈ l, b.til < u + k) → (sweep k u l n).2 = max 0 (n - hasL l u)
  | 0, u, l, n, h, hn, hl => by
    rw [hasL_late (by simpa using hl)]; simp [sweep]; omega
  | k + 1, u, l, n, h, hn, hl => by
    have h1 := pass_ok u h hn
    have ht : ∀ b ∈ (pass u l n).1, b.til < u + 1 + (k : Int) := fun b hb => by
      have : b.til ∈ l.map (·.til) := by rw [← pass_til u l n]; exact List.mem_map_of_mem hb
      obtain ⟨c, hc, he⟩ := List.mem_map.1 this
      have := hl c hc
      push_cast at this; omega
    simp only [sweep]
    rw [sweep_rest k (u + 1) h1.1 (by rw [h1.2]; omega) ht, hasL_pass, h1.2, hasL_next l u]
    have := totK_nonneg h u
    have := hasL_nonneg h (u + 1)
    omega
theorem sweep_order : ∀ (k : Nat) (u : Int) {l : List Brl} {n : Int}, Pos l → 0 ≤ n → ∀ v v', u ≤ v → v < v' → totK (sweep k u l n).1 v' ≠ totK l v' → totK (sweep k u l n).1 v = 0
  | 0, u, l, n, h, hn, v, v', _, _, hne => (hne rfl).elim
  | k + 1, u, l, n, h, hn, v, v', h1, h2, hne => by
    have p1 := pass_ok u h hn
    have hr0 : 0 ≤ (pass u l n).2 := by rw [p1.2]; omega
    have ht := pass_tot u h hn
    simp only [sweep] at hne ⊢
    by_cases hr : (pass u l n).2 = 0
    · rw [hr, sweep_zero k (u + 1) p1.1] at hne
      dsimp only at hne
      rw [ht v', if_neg (by omega)] at hne
      exact (hne rfl).elim
    · by_cases hv : v = u
      · subst hv
        rw [sweep_tot_past k (v + 1) p1.1 hr0 v (.inl (by omega)), ht v, if_pos rfl]
        omega
      · refine sweep_order k (u + 1) p1.1 hr0 v v' (by omega) h2 ?_
        rw [ht v', if_neg (by omega)]; exact hne
theorem sweep_tot_le : ∀ (k : Nat) (u : Int) {l : List Brl} {n : Int}, Pos l → 0 ≤ n → ∀ v, totK (sweep k u l n).1 v ≤ totK l v
  | 0, u, l, n, h, hn, v => Int.le_refl _
  | k + 1, u, l, n, h, hn, v => by
    have p1 := pass_ok u h hn
    have := sweep_tot_le k (u + 1) p1.1 (n := (pass u l n).2) (by rw [p1.2]; omega) v
    rw [pass_tot u h hn v] at this
    have h0 := totK_nonneg h u
    simp only [sweep]
    split at this
    · rename_i e; subst e; omega
    · exact this
inductive Dom : List Brl → List Brl → Prop
  | nil : Dom [] []
  | skip (b : Brl) {l l' : List Brl} : Dom l' l → Dom l' (b :: l)
  | keep {b b' : Brl} {l l' : List Brl} : b'.til = b.til → b'.kilos ≤ b.kilos → Dom l' l → Dom (b' :: l') (b :: l)
theorem Dom.refl : ∀ (l : List Brl), Dom l l
  | [] => .nil
  | _ :: l => .keep rfl (Int.le_refl _) (Dom.refl l)
theorem Dom.none : ∀ (l : List Brl), Dom [] l
  | [] => .nil
  | b :: l => .skip b (Dom.none l)
theorem Dom.append {a a' b b' : List Brl} (h : Dom a' a) (k : Dom b' b) : Dom (a' ++ b') (a ++ b) := by
  induction h with
  | nil => exact k
  | skip b _ ih => exact .skip b ih
  | keep h1 h2 _ ih => exact .keep h1 h2 ih
theorem Dom.length {a a' : List Brl} (h : Dom a' a) : a'.length ≤ a.length := by
  induction h with
  | nil => exact Nat.le_refl _
  | skip b _ ih => simp only [List.length_cons]; omega
  | keep h1 h2 _ ih => simp only [List.length_cons]; omega
theorem Dom.full {a a' : List Brl} (h : Dom a' a) (hp : Pos a') : Dom (full a') (full a) := by
  induction h with
  | nil => exact .nil
  | skip b _ ih =>
    rw [full_cons]
    split
    · exact .skip b (ih hp)
    · exact ih hp
  | keep h1 h2 _ ih =>
    have := ih hp.tail
    have h0 := hp.head
    rw [full_cons, full_cons]
    split
    · rw [if_pos (by omega)]; exact .keep h1 h2 this
    · split
      · exact .skip _ this
      · exact this
theorem Dom.good {a a' : List Brl} (h : Dom a' a) (d : Int) : Dom (goodL a' d) (goodL a d) := by
  unfold goodL
  induction h with
  | nil => exact .nil
  | skip b _ ih =>
    rw [List.filter_cons]
    split
    · exact .skip b ih
    · exact ih
  | keep h1 h2 _ ih =>
    rw [List.filter_cons, List.filter_cons, h1]
    split
    · exact .keep h1 h2 ih
    · exact ih
theorem Dom.sum {a a' : List Brl} (h : Dom a' a) (hp : Pos a) : sumK a' ≤ sumK a := by
  induction h with
  | nil => exact Int.le_refl _
  | skip b _ ih => have := ih hp.tail; have := hp.head; simp only [sumK]; omega
  | keep h1 h2 _ ih => have := ih hp.tail; simp only [sumK]; omega
theorem Dom.has {a a' : List Brl} (h : Dom a' a) (hp : Pos a) (d : Int) : hasL a' d ≤ hasL a d := (h.good d).sum (hp.filter _)
theorem Dom.pass {u : Int} {a a' : List Brl} (h : Dom a' a) : ∀ {n n' : Int}, Pos a → Pos a' → 0 ≤ n → n ≤ n' → Dom (pass u a' n').1 (pass u a n).1 ∧ (pass u a n).2 ≤ (pass u a' n').2 := by
  induction h with
  | nil => intro n n' _ _ hn h; exact ⟨.nil, h⟩
  | skip b _ ih =>
    intro n n' hp hp' hn hnn
    have hb := hp.head
    simp only [Qg.pass]
    split
    · obtain ⟨h1, h2⟩ := ih (n := n - min n b.kilos) (n' := n') hp.tail hp' (by omega) (by omega)
      exact ⟨.skip _ h1, h2⟩
    · obtain ⟨h1, h2⟩ := ih (n := n) (n' := n') hp.tail hp' hn hnn
      exact ⟨.skip _ h1, h2⟩
  | @keep b b' l l' e hk _ ih =>
    intro n n' hp hp' hn hnn
    have hb := hp.head
    have hb' := hp'.head
    simp only [Qg.pass, e]
    split
    · obtain ⟨h1, h2⟩ := ih (n := n - min n b.kilos) (n' := n' - min n' b'.kilos) hp.tail hp'.tail (by omega) (by omega)
      exact ⟨.keep rfl (by simp only; omega) h1, h2⟩
    · obtain ⟨h1, h2⟩ := ih (n := n) (n' := n') hp.tail hp'.tail hn hnn
      exact ⟨.keep e hk h1, h2⟩
theorem Dom.sweep : ∀ (k : Nat) (u : Int) {a a' : List Brl} {n n' : Int}, Dom a' a → Pos a → Pos a' → 0 ≤ n → n ≤ n' → Dom (sweep k u a' n').1 (sweep k u a n).1
  | 0, u, a, a', n, n', h, _, _, _, _ => h
  | k + 1, u, a, a', n, n', h, hp, hp', hn, hnn => by
    obtain ⟨h1, h2⟩ := h.pass (u := u) hp hp' hn hnn
    have p1 := pass_ok u hp hn
    have p2 := pass_ok u hp' (n := n') (by omega)
    exact Dom.sweep k (u + 1) h1 p1.1 p2.1 (by rw [p1.2]; omega) h2
theorem Dom.draw {a a' : List Brl} {day n n' : Int} (h : Dom a' a) (hp : Pos a) (hp' : Pos a') (hn : 0 ≤ n) (hnn : n ≤ n') : Dom (drawL a' day n') (drawL a day n) :=
  (Dom.sweep _ _ h hp hp' hn hnn).full (sweep_ok _ _ hp' (by omega)).1
end Go.Qg

namespace Go.Qg
set_option maxRecDepth 100000
section
variable (key : Int → Int)
def hat (l : List Int) (i : Nat) : Int := l.getD i 0
def swapL (l : List Int) (i k : Nat) : List Int := (l.set i (hat l k)).set k (hat l i)
def up : Nat → List Int → Nat → List Int
  | 0, l, _ => l
  | f + 1, l, i => if 0 < i ∧ key (hat l i) < key (hat l ((i - 1) / 2)) then up f (swapL l i ((i - 1) / 2)) ((i - 1) / 2) else l
def pushL (l : List Int) (b : Int) : List Int := up key l.length (l ++ [b]) l.length
def least1 (l : List Int) (n i : Nat) : Nat := if 2 * i + 1 < n ∧ key (hat l (2 * i + 1)) < key (hat l i) then 2 * i + 1 else i
def least2 (l : List Int) (n i : Nat) : Nat := if 2 * i + 2 < n ∧ key (hat l (2 * i + 2)) < key (hat l (least1 key l n i)) then 2 * i + 2 else least1 key l n i
def down (n : Nat) : Nat → List Int → Nat → List Int
  | 0, l, _ => l
  | f + 1, l, i => if least2 key l n i = i then l else down n f (swapL l i (least2 key l n i)) (least2 key l n i)
def popL (l : List Int) : List Int := down key (l.length - 1) l.length ((l.set 0 (hat l (l.length - 1))).take (l.length - 1)) 0
def Heap (l : List Int) : Prop := ∀ i, 0 < i → i < l.length → key (hat l ((i - 1) / 2)) ≤ key (hat l i)
end
theorem hat_set {l : List Int} {i k : Nat} {x : Int} (h : i < l.length) : hat (l.set k x) i = if k = i then x else hat l i := by
  unfold hat
  rw [List.getD_eq_getElem?_getD, List.getElem?_set]
  split
  · rename_i h1; subst h1; simp [h]
  · rw [List.getD_eq_getElem?_getD]
theorem swapL_length (l : List Int) (i k : Nat) : (swapL l i k).length = l.length := by simp [swapL]
theorem hat_swap {l : List Int} {i k j : Nat} (hj : j < l.length) : hat (swapL l i k) j = if k = j then hat l i else if i = j then hat l k else hat l j := by
  unfold swapL
  rw [hat_set (by simpa using hj)]
  split
  · rfl
  · rw [hat_set hj]
theorem swapL_perm {l : List Int} {i k : Nat} (hi : i < l.length) (hk : k < l.length) : (swapL l i k).Perm l := by
  have e1 : hat l i = l[i] := by simp [hat, hi]
  have e2 : hat l k = l[k] := by simp [hat, hk]
  rw [List.perm_iff_count]
  intro a
  unfold swapL
  rw [List.count_set (by simpa using hk), List.count_set hi, e1, e2, List.getElem_set]
  have c1 : 0 < List.count (l[i]) l := List.count_pos_iff.2 (List.getElem_mem hi)
  by_cases hik : i = k
  · subst hik
    simp only [if_true]
    by_cases h : l[i] = a
    · subst h; simp
    · simp [h]
  · rw [if_neg hik]
    by_cases h1 : l[i] = a
    · by_cases h2 : l[k] = a
      · subst h1; simp [h2]
      · subst h1
        simp [h2]
    · by_cases h2 : l[k] = a
      · have c2 : 0 < List.count (l[k]) l := List.count_pos_iff.2 (List.getElem_mem hk)
        simp [h1, h2]
      · simp [h1, h2]
variable {key : Int → Int}
theorem up_length : ∀ (f : Nat) (l : List Int) (i : Nat), (up key f l i).length = l.length
  | 0, l, i => rfl
  | f + 1, l, i => by
    simp only [up]
    split
    · rw [up_length, swapL_length]
    · rfl
theorem up_perm : ∀ (f : Nat) {l : List Int} {i : Nat}, i < l.length → (up key f l i).Perm l
  | 0, l, i, _ => List.Perm.refl _
  | f + 1, l, i, hi => by
    simp only [up]
    split
    · exact (up_perm f (by rw [swapL_length]; omega)).trans (swapL_perm hi (by omega))
    · exact List.Perm.refl _
theorem down_length (n : Nat) : ∀ (f : Nat) (l : List Int) (i : Nat), (down key n f l i).length = l.length
  | 0, l, i => rfl
  | f + 1, l, i => by
    simp only [down]
    split
    · rfl
    · rw [down_length, swapL_length]
theorem least_lt {l : List Int} {n i : Nat} (hi : i < n) : least2 key l n i < n ∧ i ≤ least2 key l n i ∧ (least2 key l n i = i ∨ least2 key l n i = 2 * i + 1 ∨ least2 key l n i = 2 * i + 2) := by
  unfold least2 least1
  split <;> split <;> omega
theorem down_perm (n : Nat) : ∀ (f : Nat) {l : List Int} {i : Nat}, i < n → n ≤ l.length → (down key n f l i).Perm l
  | 0, l, i, _, _ => List.Perm.refl _
  | f + 1, l, i, hi, hn => by
    simp only [down]
    have hl := (least_lt (key := key) (l := l) hi).1
    split
    · exact List.Perm.refl _
    · exact (down_perm n f hl (by rw [swapL_length]; exact hn)).trans (swapL_perm (by omega) (by omega))
structure UpAt (key : Int → Int) (l : List Int) (i : Nat) : Prop where
  lt : i < l.length
  rest : ∀ j, 0 < j → j < l.length → j ≠ i → key (hat l ((j - 1) / 2)) ≤ key (hat l j)
  two : 0 < i → ∀ j, 0 < j → j < l.length → (j - 1) / 2 = i → key (hat l ((i - 1) / 2)) ≤ key (hat l j)
theorem up_heap : ∀ (f : Nat) {l : List Int} {i : Nat}, i ≤ f → UpAt key l i → Heap key (up key f l i)
  | 0, l, i, hf, h => fun j h1 h2 => by
    simp only [up] at h2 ⊢
    exact h.rest j h1 h2 (by omega)
  | f + 1, l, i, hf, h => by
    obtain ⟨hi, hr, ht⟩ := h
    simp only [up]
    split
    · rename_i hc
      obtain ⟨h0, hc⟩ := hc
      have hp : (i - 1) / 2 < l.length := by omega
      refine up_heap f (by omega) ⟨by rw [swapL_length]; omega, fun j h1 h2 h3 => ?_, fun h4 j h1 h2 h3 => ?_⟩
      · rw [swapL_length] at h2
        rw [hat_swap (show (j - 1) / 2 < l.length by omega), hat_swap h2]
        by_cases hji : j = i
        · subst hji
          rw [if_pos rfl, if_neg (by omega), if_pos rfl]
          omega
        · rw [if_neg (Ne.symm h3)]
          rw [if_neg (Ne.symm hji)]
          by_cases hpi : (j - 1) / 2 = i
          · rw [if_neg (by omega), if_pos hpi.symm]
            exact ht h0 j h1 h2 hpi
          · by_cases hpp : (i - 1) / 2 = (j - 1) / 2
            · rw [if_pos hpp]
              have := hr j h1 h2 hji
              rw [← hpp] at this
              omega
            · rw [if_neg hpp, if_neg (fun e => hpi e.symm)]
              exact hr j h1 h2 hji
      · rw [swapL_length] at h2
        rw [hat_swap (show ((i - 1) / 2 - 1) / 2 < l.length by omega), hat_swap h2]
        have hg := hr ((i - 1) / 2) h4 hp (by omega)
        rw [if_neg (by omega), if_neg (show ¬ i = ((i - 1) / 2 - 1) / 2 by omega), if_neg (show ¬ (i - 1) / 2 = j by omega)]
        by_cases hji : i = j
        · rw [if_pos hji]; exact hg
        · rw [if_neg hji]
          have := hr j h1 h2 (fun e => hji e.symm)
          rw [h3] at this
          omega
    · rename_i hc
      intro j h1 h2
      by_cases hji : j = i
      · subst hji
        have : ¬ key (hat l j) < key (hat l ((j - 1) / 2)) := fun h => hc ⟨h1, h⟩
        omega
      · exact hr j h1 h2 hji
theorem push_heap {l : List Int} {b : Int} (h : Heap key l) : Heap key (pushL key l b) := by
  have hat_l : ∀ j, j < l.length → hat (l ++ [b]) j = hat l j := fun j hj => by simp [hat, List.getElem?_append_left hj]
  refine up_heap _ (Nat.le_refl _) ⟨by simp, fun j h1 h2 h3 => ?_, fun h0 j h1 h2 h3 => ?_⟩
  · have hj : j < l.length := by simp at h2; omega
    rw [hat_l j hj, hat_l _ (by omega)]
    exact h j h1 hj
  · simp at h2; omega
theorem push_perm (l : List Int) (b : Int) : (pushL key l b).Perm (b :: l) :=
  (up_perm _ (by simp)).trans (List.perm_append_comm.trans (List.Perm.refl _))
structure DnAt (key : Int → Int) (l : List Int) (i : Nat) : Prop where
  lt : i < l.length
  rest : ∀ j, 0 < j → j < l.length → (j - 1) / 2 ≠ i → key (hat l ((j - 1) / 2)) ≤ key (hat l j)
  two : 0 < i → ∀ j, 0 < j → j < l.length → (j - 1) / 2 = i → key (hat l ((i - 1) / 2)) ≤ key (hat l j)
theorem least_min {l : List Int} {n i : Nat} (hi : i < n) : key (hat l (least2 key l n i)) ≤ key (hat l i) ∧ (least2 key l n i ≠ i → key (hat l (least2 key l n i)) < key (hat l i)) ∧ ∀ j, 0 < j → j < n → (j - 1) / 2 = i → key (hat l (least2 key l n i)) ≤ key (hat l j) := by
  have two : ∀ j, 0 < j → (j - 1) / 2 = i → j = 2 * i + 1 ∨ j = 2 * i + 2 := fun j h1 h2 => by omega
  have m1 : key (hat l (least1 key l n i)) ≤ key (hat l i) ∧ (least1 key l n i ≠ i → key (hat l (least1 key l n i)) < key (hat l i)) ∧ (2 * i + 1 < n → key (hat l (least1 key l n i)) ≤ key (hat l (2 * i + 1))) := by
    unfold least1
    split
    · rename_i h; exact ⟨by omega, fun _ => h.2, fun _ => by omega⟩
    · rename_i h
      refine ⟨by omega, fun h => (h rfl).elim, fun h1 => ?_⟩
      have : ¬ key (hat l (2 * i + 1)) < key (hat l i) := fun h2 => h ⟨h1, h2⟩
      omega
  obtain ⟨a1, a2, a3⟩ := m1
  unfold least2
  split
  · rename_i h
    refine ⟨by omega, fun _ => by omega, fun j h1 h2 h3 => ?_⟩
    rcases two j h1 h3 with rfl | rfl
    · have := a3 h2; omega
    · omega
  · rename_i h
    refine ⟨a1, a2, fun j h1 h2 h3 => ?_⟩
    rcases two j h1 h3 with rfl | rfl
    · exact a3 h2
    · have : ¬ key (hat l (2 * i + 2)) < key (hat l (least1 key l n i)) := fun h4 => h ⟨h2, h4⟩
      omega
theorem down_heap : ∀ (f : Nat) {l : List Int} {i : Nat}, l.length ≤ f + i → DnAt key l i → Heap key (down key l.length f l i)
  | 0, l, i, hf, h => by have := h.lt; omega
  | f + 1, l, i, hf, h => by
    obtain ⟨hi, hr, ht⟩ := h
    obtain ⟨m1, m2, m3⟩ := least_min (key := key) (l := l) hi
    obtain ⟨b1, b2, b3⟩ := least_lt (key := key) (l := l) hi
    simp only [down]
    generalize least2 key l l.length i = m at *
    split
    · rename_i he
      subst he
      intro j h1 h2
      by_cases hp : (j - 1) / 2 = m
      · rw [hp]; exact m3 j h1 h2 hp
      · exact hr j h1 h2 hp
    · rename_i he
      have hlt := m2 he
      have hmp : (m - 1) / 2 = i := by omega
      have e : (swapL l i m).length = l.length := swapL_length ..
      rw [← e]
      refine down_heap f (by rw [e]; omega) ⟨by omega, fun j h1 h2 h3 => ?_, fun h0 j h1 h2 h3 => ?_⟩
      · rw [e] at h2
        rw [hat_swap (show (j - 1) / 2 < l.length by omega), hat_swap h2, if_neg (fun e => h3 e.symm)]
        by_cases hji : j = i
        · subst hji
          rw [if_neg (by omega), if_neg (by omega), if_pos rfl]
          by_cases hj0 : 0 < j
          · exact ht hj0 m (by omega) b1 hmp
          · omega
        · by_cases hjm : m = j
          · subst hjm
            rw [if_pos hmp.symm, if_pos rfl]
            omega
          · rw [if_neg hjm, if_neg (Ne.symm hji)]
            by_cases hp : i = (j - 1) / 2
            · rw [if_pos hp]; exact m3 j h1 h2 hp.symm
            · rw [if_neg hp]; exact hr j h1 h2 (fun e => hp e.symm)
      · rw [e] at h2
        rw [hat_swap (show (m - 1) / 2 < l.length by omega), hat_swap h2, hmp, if_neg (by omega), if_pos rfl, if_neg (by omega), if_neg (by omega)]
        have := hr j h1 h2 (by omega)
        rw [h3] at this; exact this
theorem heap_min {l : List Int} (h : Heap key l) : ∀ j, j < l.length → key (hat l 0) ≤ key (hat l j)
  | 0, _ => Int.le_refl _
  | j + 1, hj => by
    have := h (j + 1) (by omega) hj
    have ih := heap_min h ((j + 1 - 1) / 2) (by omega)
    omega
termination_by j => j
theorem popL_length (l : List Int) : (popL key l).length = l.length - 1 := by
  unfold popL
  rw [down_length]; simp
theorem pop_heap {l : List Int} (h : Heap key l) : Heap key (popL key l) := by
  by_cases h1 : l.length ≤ 1
  · intro i h2 h3
    rw [popL_length] at h3; omega
  have hl : ((l.set 0 (hat l (l.length - 1))).take (l.length - 1)).length = l.length - 1 := by simp
  have hh : ∀ j, 0 < j → j < l.length - 1 → hat ((l.set 0 (hat l (l.length - 1))).take (l.length - 1)) j = hat l j := fun j h2 h3 => by
    simp only [hat, List.getD_eq_getElem?_getD]
    rw [List.getElem?_take_of_lt h3, List.getElem?_set_ne (by omega)]
  have : Heap key (down key ((l.set 0 (hat l (l.length - 1))).take (l.length - 1)).length l.length ((l.set 0 (hat l (l.length - 1))).take (l.length - 1)) 0) := by
    refine down_heap _ (by rw [hl]; omega) ⟨by rw [hl]; omega, fun j h2 h3 h4 => ?_, fun h0 => by omega⟩
    rw [hl] at h3
    rw [hh j h2 h3, hh _ (by omega) (by omega)]
    exact h j h2 (by omega)
  rw [hl] at this
  exact this
theorem pop_perm {l : List Int} (h0 : 0 < l.length) : (hat l 0 :: popL key l).Perm l := by
  by_cases h1 : l.length = 1
  · match l, h1 with
    | [x], _ =>
      have : popL key [x] = [] := List.eq_nil_of_length_eq_zero (by rw [popL_length]; rfl)
      rw [this]
      exact List.Perm.refl _
  have hl : ((l.set 0 (hat l (l.length - 1))).take (l.length - 1)).length = l.length - 1 := by simp
  have hp : (popL key l).Perm ((l.set 0 (hat l (l.length - 1))).take (l.length - 1)) := down_perm _ _ (by omega) (by omega)
  refine (List.Perm.cons _ hp).trans ?_
  have hx : l = hat l 0 :: l.tail := by
    match l, h0 with
    | x :: t, _ => rfl
  have ht : l.tail ≠ [] := fun e => by rw [e] at hx; rw [hx] at h1; simp at h1
  have hlast : hat l (l.length - 1) = l.tail.getLast ht := by
    rw [List.getLast_eq_getElem]
    simp only [hat, List.getD_eq_getElem?_getD]
    rw [List.getElem?_eq_getElem (by omega), List.getElem_tail]
    simp only [List.length_tail, Option.getD_some]
    congr 1
    omega
  have e : (l.set 0 (hat l (l.length - 1))).take (l.length - 1) = hat l (l.length - 1) :: l.tail.dropLast := by
    rw [hx]
    simp only [List.set_cons_zero, List.length_cons, Nat.add_sub_cancel, List.tail_cons]
    cases htl : l.tail with
    | nil => exact (ht htl).elim
    | cons y t => simp [List.dropLast_eq_take]
  rw [e]
  conv => rhs; rw [hx]
  refine List.Perm.cons _ ?_
  rw [hlast]
  have e2 : l.tail.dropLast ++ [l.tail.getLast ht] = l.tail := List.dropLast_concat_getLast ht
  have e3 : (l.tail.getLast ht :: l.tail.dropLast).Perm (l.tail.dropLast ++ [l.tail.getLast ht]) := List.perm_append_comm (l₁ := [l.tail.getLast ht])
  rw [e2] at e3
  exact e3
end Go.Qg

namespace Go.Qg
set_option maxRecDepth 100000
def brlAt (l : List Brl) (i : Nat) : Brl := l.getD i default
theorem brlAt_get {l : List Brl} {i : Nat} (h : i < l.length) : l[i]? = some (brlAt l i) := by simp [brlAt, h]
theorem brlAt_mem {l : List Brl} {i : Nat} (h : i < l.length) : brlAt l i ∈ l := List.mem_of_getElem? (brlAt_get h)
theorem brlAt_of {l : List Brl} {i : Nat} {b : Brl} (h : l[i]? = some b) : brlAt l i = b := by simp [brlAt, h]
theorem brlAt_set {l : List Brl} {i k : Nat} {x : Brl} (h : i < l.length) : brlAt (l.set k x) i = if k = i then x else brlAt l i := by
  unfold brlAt
  rw [List.getD_eq_getElem?_getD, List.getElem?_set]
  split
  · rename_i h1; subst h1; simp [h]
  · rw [List.getD_eq_getElem?_getD]
def keyB (bs : List Brl) (a : Int) : Int := (brlAt bs a.toNat).til * 1000 + a
theorem keyB_lt {bs : List Brl} {a b : Int} (ha : 0 ≤ a ∧ a < 1000) (hb : 0 ≤ b ∧ b < 1000) : keyB bs a < keyB bs b ↔ (brlAt bs a.toNat).til < (brlAt bs b.toNat).til ∨ (brlAt bs a.toNat).til = (brlAt bs b.toNat).til ∧ a < b := by
  unfold keyB; omega
def pushTo (bs : List Brl) (day : Int) : Nat → List Int
  | 0 => []
  | k + 1 => if day ≤ (brlAt bs k).til then pushL (keyB bs) (pushTo bs day k) (k : Int) else pushTo bs day k
theorem pushTo_heap (bs : List Brl) (day : Int) : ∀ k, Heap (keyB bs) (pushTo bs day k)
  | 0 => fun i _ h => (by simp [pushTo] at h)
  | k + 1 => by
    simp only [pushTo]
    split
    · exact push_heap (pushTo_heap bs day k)
    · exact pushTo_heap bs day k
theorem pushTo_mem (bs : List Brl) (day : Int) : ∀ k x, x ∈ pushTo bs day k ↔ ∃ j : Nat, j < k ∧ x = (j : Int) ∧ day ≤ (brlAt bs j).til
  | 0, x => by simp [pushTo]
  | k + 1, x => by
    have ih := pushTo_mem bs day k x
    simp only [pushTo]
    split
    · rename_i h
      rw [(push_perm _ _).mem_iff, List.mem_cons, ih]
      constructor
      · rintro (rfl | ⟨j, h1, h2⟩)
        · exact ⟨k, by omega, rfl, h⟩
        · exact ⟨j, by omega, h2⟩
      · rintro ⟨j, h1, rfl, h2⟩
        rcases Nat.lt_succ_iff_lt_or_eq.1 h1 with h1 | rfl
        · exact .inr ⟨j, h1, rfl, h2⟩
        · exact .inl rfl
    · rename_i h
      rw [ih]
      constructor
      · rintro ⟨j, h1, h2⟩; exact ⟨j, by omega, h2⟩
      · rintro ⟨j, h1, rfl, h2⟩
        rcases Nat.lt_succ_iff_lt_or_eq.1 h1 with h1 | rfl
        · exact ⟨j, h1, rfl, h2⟩
        · exact (h h2).elim
theorem pushTo_nodup (bs : List Brl) (day : Int) : ∀ k, (pushTo bs day k).Nodup
  | 0 => List.nodup_nil
  | k + 1 => by
    simp only [pushTo]
    split
    · rw [(push_perm _ _).nodup_iff]
      refine List.nodup_cons.2 ⟨fun h => ?_, pushTo_nodup bs day k⟩
      obtain ⟨j, h1, h2, _⟩ := (pushTo_mem bs day k _).1 h
      omega
    · exact pushTo_nodup bs day k
theorem pushTo_length (bs : List Brl) (day : Int) : ∀ k, (pushTo bs day k).length ≤ k
  | 0 => Nat.le_refl _
  | k + 1 => by
    have ih := pushTo_length bs day k
    simp only [pushTo]
    split
    · rw [(push_perm _ _).length_eq, List.length_cons]; omega
    · omega
theorem hasL_set {l : List Brl} {i : Nat} {b c : Brl} {d : Int} (hi : l[i]? = some b) (hb : d ≤ b.til) (hc : c.til = b.til) : hasL (l.set i c) d = hasL l d - (b.kilos - c.kilos) := by
  induction l generalizing i with
  | nil => cases hi
  | cons x l ih =>
    cases i with
    | zero =>
      obtain rfl := Option.some.inj hi
      rw [List.set_cons_zero, hasL_cons, hasL_cons, if_pos hb, if_pos (by omega)]; omega
    | succ i => rw [List.set_cons_succ, hasL_cons, hasL_cons, ih hi]; omega
theorem hasL_zero {l : List Brl} {d : Int} (h : ∀ b ∈ l, d ≤ b.til → b.kilos = 0) : hasL l d = 0 := by
  induction l with
  | nil => rfl
  | cons x l ih =>
    rw [hasL_cons, ih fun b hb => h b (List.mem_cons_of_mem _ hb)]
    split
    · rename_i hx; rw [h x List.mem_cons_self hx]; rfl
    · rfl
structure Drawn (bs : List Brl) (day : Int) (T : List Brl) (out : List Brl) (L : List Int) (n : Int) : Prop where
  len : out.length = bs.length
  til : ∀ j, j < bs.length → (brlAt out j).til = (brlAt bs j).til
  pos : Pos out
  n0 : 0 ≤ n
  heap : Heap (keyB bs) L
  nodup : L.Nodup
  each : ∀ x ∈ L, 0 ≤ x ∧ x < (bs.length : Int) ∧ day ≤ (brlAt bs x.toNat).til
  gone : 0 < n → ∀ j, j < bs.length → day ≤ (brlAt bs j).til → (j : Int) ∉ L → (brlAt out j).kilos = 0
  has : n ≤ hasL out day
  goal : (sweep (days400 day) day out n).1 = T
theorem drawn_first {bs : List Brl} {day n : Int} (hp : Pos bs) (hn : 0 ≤ n) (hh : n ≤ hasL bs day) : Drawn bs day (sweep (days400 day) day bs n).1 bs (pushTo bs day bs.length) n := by
  refine ⟨rfl, fun _ _ => rfl, hp, hn, pushTo_heap _ _ _, pushTo_nodup _ _ _, fun x hx => ?_, fun _ j hj hd hnot => ?_, hh, rfl⟩
  · obtain ⟨j, h1, rfl, h2⟩ := (pushTo_mem _ _ _ _).1 hx
    exact ⟨by omega, by omega, by simpa using h2⟩
  · exact (hnot ((pushTo_mem _ _ _ _).2 ⟨j, hj, rfl, hd⟩)).elim
theorem drawn_end {bs : List Brl} {day : Int} {T out : List Brl} {L : List Int} (h : Drawn bs day T out L 0) : out = T := by
  have := h.goal
  rw [sweep_zero _ _ h.pos] at this; exact this
theorem hat_get {l : List Int} {i : Nat} (h : i < l.length) : hat l i = l[i] := by simp [hat, h]
theorem drawn_step {bs : List Brl} {day : Int} {T out : List Brl} {L : List Int} {n : Int} (h : Drawn bs day T out L n) (h0 : 0 < n) (hb : bs.length ≤ 1000) (ht : ∀ b ∈ bs, b.til ≤ 400) :
    0 < L.length ∧ (0 ≤ hat L 0 ∧ hat L 0 < (bs.length : Int)) ∧ Drawn bs day T (out.set (hat L 0).toNat ⟨(brlAt out (hat L 0).toNat).kilos - min n (brlAt out (hat L 0).toNat).kilos, (brlAt out (hat L 0).toNat).til⟩) (popL (keyB bs) L) (n - min n (brlAt out (hat L 0).toNat).kilos) := by
  obtain ⟨h1, h2, h3, h4, h5, h6, h7, h8, h9, h10⟩ := h
  have hL : 0 < L.length := by
    rcases Nat.eq_zero_or_pos L.length with e | e
    · exfalso
      have hnil : L = [] := List.eq_nil_of_length_eq_zero e
      subst hnil
      have : hasL out day = 0 := hasL_zero fun b hbm hbd => by
        obtain ⟨j, hj⟩ := List.getElem?_of_mem hbm
        have hjl : j < out.length := (List.getElem?_eq_some_iff.1 hj).1
        have eb := brlAt_of hj
        rw [← eb]
        refine h8 h0 j (by omega) ?_ (by simp)
        rw [← h2 j (by omega), eb]; exact hbd
      omega
    · exact e
  have hmem : hat L 0 ∈ L := by rw [hat_get hL]; exact List.getElem_mem hL
  obtain ⟨e1, e2, e3⟩ := h7 _ hmem
  have hperm := pop_perm (key := keyB bs) hL
  have hmin := heap_min h5
  generalize hi : hat L 0 = x at *
  obtain ⟨i, rfl⟩ : ∃ i : Nat, x = i := ⟨x.toNat, by omega⟩
  simp only [Int.toNat_natCast] at *
  have hil : i < bs.length := by omega
  have hio : i < out.length := by omega
  have hk := h3 _ (brlAt_mem hio)
  have htil := h2 i hil
  have hget := brlAt_get hio
  have ht4 := ht _ (brlAt_mem hil)
  refine ⟨hL, ⟨e1, by omega⟩, ⟨by simpa using h1, fun j hj => ?_, h3.set (by simp only; omega), by omega, pop_heap h5, ?_, fun x hx => h7 x (hperm.subset (List.mem_cons_of_mem _ hx)), fun hn j hj hd hnot => ?_, ?_, ?_⟩⟩
  · rw [brlAt_set (by omega)]
    split
    · rename_i e; subst e; simp only; exact htil
    · exact h2 j hj
  · have := hperm.nodup_iff.2 h6
    exact (List.nodup_cons.1 this).2
  · rw [brlAt_set (by omega)]
    split
    · simp only; omega
    · rename_i hne
      refine h8 h0 j hj hd fun hin => ?_
      rcases List.mem_cons.1 (hperm.mem_iff.2 hin) with e | e
      · omega
      · exact hnot e
  · rw [hasL_set (c := ⟨(brlAt out i).kilos - min n (brlAt out i).kilos, (brlAt out i).til⟩) hget (by rw [htil]; exact e3) rfl]
    simp only
    omega
  · rw [← h10]
    refine congrArg Prod.fst (sweep_first (days400 day) day h3 h4 hget (by rw [htil]; exact e3) ?_ fun j c hj hc hlt => ?_).symm
    · rw [htil]
      have : day ≤ 400 := by omega
      simp only [days400]; omega
    · have hjl : j < out.length := (List.getElem?_eq_some_iff.1 hj).1
      have ec := brlAt_of hj
      have htj := h2 j (by omega)
      rw [ec] at htj
      by_cases hin : (j : Int) ∈ L
      · exfalso
        obtain ⟨q, hq, hqe⟩ := List.mem_iff_getElem.1 hin
        have hm := hmin q hq
        rw [hat_get hq, hqe] at hm
        have : keyB bs (j : Int) < keyB bs (i : Int) := by
          rw [keyB_lt ⟨by omega, by omega⟩ ⟨by omega, by omega⟩]
          simp only [Int.toNat_natCast]
          rw [← htj, ← htil]
          omega
        omega
      · rw [← ec]
        exact h8 h0 j (by omega) (by rw [← htj]; exact hc) hin
def nextTo (l : List Brl) (day : Int) : Nat → Int
  | 0 => -1
  | k + 1 => if day ≤ (brlAt l k).til ∧ (nextTo l day k < 0 ∨ (brlAt l k).til < (brlAt l (nextTo l day k).toNat).til) then (k : Int) else nextTo l day k
theorem nextTo_spec (l : List Brl) (day : Int) : ∀ k, (nextTo l day k = -1 ∧ ∀ j, j < k → ¬ day ≤ (brlAt l j).til) ∨
    ∃ i : Nat, nextTo l day k = i ∧ i < k ∧ day ≤ (brlAt l i).til ∧ ∀ j, j < k → day ≤ (brlAt l j).til → (brlAt l i).til < (brlAt l j).til ∨ (brlAt l i).til = (brlAt l j).til ∧ i ≤ j
  | 0 => .inl ⟨rfl, fun j hj => by omega⟩
  | k + 1 => by
    simp only [nextTo]
    rcases nextTo_spec l day k with ⟨h1, h2⟩ | ⟨i, h1, h2, h3, h4⟩
    · rw [h1]
      by_cases hd : day ≤ (brlAt l k).til
      · rw [if_pos ⟨hd, .inl (by omega)⟩]
        refine .inr ⟨k, rfl, by omega, hd, fun j hj hjd => ?_⟩
        rcases Nat.lt_succ_iff_lt_or_eq.1 hj with hj | rfl
        · exact (h2 j hj hjd).elim
        · exact .inr ⟨rfl, Nat.le_refl _⟩
      · rw [if_neg fun h => hd h.1]
        refine .inl ⟨rfl, fun j hj => ?_⟩
        rcases Nat.lt_succ_iff_lt_or_eq.1 hj with hj | rfl
        · exact h2 j hj
        · exact hd
    · rw [h1]
      simp only [Int.toNat_natCast]
      by_cases hc : day ≤ (brlAt l k).til ∧ (brlAt l k).til < (brlAt l i).til
      · rw [if_pos ⟨hc.1, .inr hc.2⟩]
        refine .inr ⟨k, rfl, by omega, hc.1, fun j hj hjd => ?_⟩
        rcases Nat.lt_succ_iff_lt_or_eq.1 hj with hj | rfl
        · have := h4 j hj hjd; omega
        · exact .inr ⟨rfl, Nat.le_refl _⟩
      · rw [if_neg (by rintro ⟨a, b | b⟩; · omega
                       · exact hc ⟨a, b⟩)]
        refine .inr ⟨i, rfl, by omega, h3, fun j hj hjd => ?_⟩
        rcases Nat.lt_succ_iff_lt_or_eq.1 hj with hj | rfl
        · exact h4 j hj hjd
        · have : ¬ (brlAt l j).til < (brlAt l i).til := fun h => hc ⟨hjd, h⟩
          omega
def drop1 (l : List Brl) (i : Nat) : List Brl := l.take i ++ l.drop (i + 1)
theorem full_drop1 : ∀ {l : List Brl} {i : Nat}, (brlAt l i).kilos ≤ 0 → full (drop1 l i) = full l
  | [], i, _ => by simp [drop1]
  | b :: l, 0, h => by
    have h : b.kilos ≤ 0 := h
    rw [full_cons, if_neg (by omega)]
    simp [drop1]
  | b :: l, i + 1, h => by
    have ih := full_drop1 (l := l) (i := i) h
    have e : drop1 (b :: l) (i + 1) = b :: drop1 l i := by simp [drop1]
    rw [e, full_cons, full_cons, ih]
def PosS (l : List Brl) : Prop := ∀ b ∈ l, 0 < b.kilos
theorem PosS.pos {l : List Brl} (h : PosS l) : Pos l := fun b hb => by have := h b hb; omega
theorem full_posS (l : List Brl) : PosS (full l) := fun b hb => by simpa [full] using (List.mem_filter.1 hb).2
theorem full_of_posS {l : List Brl} (h : PosS l) : full l = l := List.filter_eq_self.2 fun b hb => by simpa using h b hb
structure Steps1 (day : Int) (T : List Brl) (out : List Brl) (n : Int) : Prop where
  pos : PosS out
  til : ∀ b ∈ out, b.til ≤ 400
  n0 : 0 ≤ n
  has : n ≤ hasL out day
  goal : full (sweep (days400 day) day out n).1 = T
theorem steps1_end {day : Int} {T out : List Brl} (h : Steps1 day T out 0) : out = T := by
  have := h.goal
  rw [sweep_zero _ _ h.pos.pos] at this
  rw [← this]
  exact (full_of_posS h.pos).symm
def step1 (out : List Brl) (i : Nat) (n : Int) : List Brl :=
  if (brlAt out i).kilos - min n (brlAt out i).kilos = 0 then drop1 (out.set i ⟨(brlAt out i).kilos - min n (brlAt out i).kilos, (brlAt out i).til⟩) i else out.set i ⟨(brlAt out i).kilos - min n (brlAt out i).kilos, (brlAt out i).til⟩
theorem hasL_full {d : Int} : ∀ {l : List Brl}, Pos l → hasL (full l) d = hasL l d
  | [], _ => rfl
  | b :: l, h => by
    have hb := h.head
    rw [full_cons, hasL_cons]
    split
    · rw [hasL_cons, hasL_full h.tail]
    · rw [hasL_full h.tail]
      split <;> omega
theorem steps1_step {day : Int} {T out : List Brl} {n : Int} (h : Steps1 day T out n) (h0 : 0 < n) :
    ∃ i : Nat, nextTo out day out.length = i ∧ i < out.length ∧ 0 < min n (brlAt out i).kilos ∧ Steps1 day T (step1 out i n) (n - min n (brlAt out i).kilos) := by
  obtain ⟨h1, h2, h3, h4, h5⟩ := h
  rcases nextTo_spec out day out.length with ⟨_, hno⟩ | ⟨i, e1, e2, e3, e4⟩
  · exfalso
    have : hasL out day = 0 := hasL_zero fun b hb hd => by
      obtain ⟨j, hj⟩ := List.getElem?_of_mem hb
      have hjl : j < out.length := (List.getElem?_eq_some_iff.1 hj).1
      exact (hno j hjl (by rw [brlAt_of hj]; exact hd)).elim
    omega
  · have hk := h1 _ (brlAt_mem e2)
    have ht4 := h2 _ (brlAt_mem e2)
    have hget := brlAt_get e2
    refine ⟨i, e1, e2, by omega, ?_⟩
    have hset : Pos (out.set i ⟨(brlAt out i).kilos - min n (brlAt out i).kilos, (brlAt out i).til⟩) := h1.pos.set (by simp only; omega)
    have hsw := sweep_first (days400 day) day h1.pos h3 hget e3 (by simp only [days400]; omega) (fun j c hj hc hlt => by
      have hjl : j < out.length := (List.getElem?_eq_some_iff.1 hj).1
      have ec := brlAt_of hj
      have := e4 j hjl (by rw [ec]; exact hc)
      rw [ec] at this
      omega)
    have hfull : full (step1 out i n) = full (out.set i ⟨(brlAt out i).kilos - min n (brlAt out i).kilos, (brlAt out i).til⟩) := by
      unfold step1
      split
      · rename_i hz
        refine full_drop1 ?_
        rw [brlAt_set e2, if_pos rfl]
        simp only; omega
      · rfl
    have hsub : ∀ b ∈ step1 out i n, b ∈ out.set i ⟨(brlAt out i).kilos - min n (brlAt out i).kilos, (brlAt out i).til⟩ := fun b hb => by
      unfold step1 at hb
      split at hb
      · rcases List.mem_append.1 hb with hb | hb
        · exact List.mem_of_mem_take hb
        · exact List.mem_of_mem_drop hb
      · exact hb
    have hps : PosS (step1 out i n) := fun b hb => by
      unfold step1 at hb
      split at hb
      · rename_i hz
        have hor : b ∈ out := by
          rcases List.mem_append.1 hb with hb | hb
          · rw [List.take_set_of_le (Nat.le_refl _)] at hb
            exact List.mem_of_mem_take hb
          · rw [List.drop_set_of_lt (Nat.lt_succ_self _)] at hb
            exact List.mem_of_mem_drop hb
        exact h1 b hor
      · rename_i hz
        rcases List.mem_or_eq_of_mem_set hb with hb | rfl
        · exact h1 b hb
        · simp only; omega
    have hsame := sweep_same (days400 day) day hps.pos hset (show 0 ≤ n - min n (brlAt out i).kilos by omega) hfull
    refine ⟨hps, fun b hb => ?_, by omega, ?_, ?_⟩
    · rcases List.mem_or_eq_of_mem_set (hsub b hb) with hb | rfl
      · exact h2 b hb
      · exact ht4
    · rw [← hasL_full hps.pos, hfull, hasL_full hset, hasL_set (c := ⟨(brlAt out i).kilos - min n (brlAt out i).kilos, (brlAt out i).til⟩) hget e3 rfl]
      simp only; omega
    · rw [hsame.1, ← h5, hsw]
end Go.Qg

namespace Go.Qg
set_option maxRecDepth 100000
structure Bur where
  day : Int
  low : Int
  high : Int
  deriving DecidableEq, Inhabited
structure Shp where
  day : Int
  room : Int
  cost : Int
  each : Int
  good : Int
  deriving DecidableEq, Inhabited
structure Sup where
  barrels : List Brl
  burns : List Bur
  ships : List Shp
  kilos : Int
def burAt (l : List Bur) (i : Nat) : Bur := l.getD i default
def shpAt (l : List Shp) (i : Nat) : Shp := l.getD i default
def gi (l : List Int) (i : Nat) : Int := l.getD i 0
structure SupOk (S : Sup) : Prop where
  pos : ∀ b ∈ S.barrels, (1 ≤ b.kilos ∧ b.kilos ≤ 1000) ∧ 0 ≤ b.til ∧ b.til ≤ 400
  nb : S.barrels.length ≤ 30
  nf : S.burns.length ≤ 40
  ns : S.ships.length ≤ 6
  k : 1 ≤ S.kilos ∧ S.kilos ≤ 1000
  burn : ∀ i, i < S.burns.length → (0 ≤ (burAt S.burns i).day ∧ (burAt S.burns i).day ≤ 400) ∧ 0 ≤ (burAt S.burns i).low ∧ (burAt S.burns i).low ≤ (burAt S.burns i).high ∧ (burAt S.burns i).high ≤ 30000
  later : ∀ i, i + 1 < S.burns.length → (burAt S.burns i).day ≤ (burAt S.burns (i + 1)).day
  ship : ∀ i, i < S.ships.length → (0 ≤ (shpAt S.ships i).day ∧ (shpAt S.ships i).day ≤ 400) ∧ (0 ≤ (shpAt S.ships i).room ∧ (shpAt S.ships i).room ≤ 9) ∧ (0 ≤ (shpAt S.ships i).cost ∧ (shpAt S.ships i).cost ≤ 100000) ∧ (0 ≤ (shpAt S.ships i).each ∧ (shpAt S.ships i).each ≤ 100000) ∧ 0 ≤ (shpAt S.ships i).good ∧ (shpAt S.ships i).good ≤ 400
  next : ∀ i, i + 1 < S.ships.length → (shpAt S.ships i).day < (shpAt S.ships (i + 1)).day
theorem SupOk.burn_le {S : Sup} (h : SupOk S) {i j : Nat} (hij : i ≤ j) (hj : j < S.burns.length) : (burAt S.burns i).day ≤ (burAt S.burns j).day := by
  induction j with
  | zero => obtain rfl : i = 0 := by omega
            exact Int.le_refl _
  | succ j ih =>
    rcases Nat.lt_or_eq_of_le hij with h1 | rfl
    · have := ih (by omega) (by omega)
      have := h.later j hj
      omega
    · exact Int.le_refl _
theorem SupOk.ship_lt {S : Sup} (h : SupOk S) {i j : Nat} (hij : i < j) (hj : j < S.ships.length) : (shpAt S.ships i).day < (shpAt S.ships j).day := by
  induction j with
  | zero => omega
  | succ j ih =>
    have h2 := h.next j hj
    rcases Nat.lt_or_eq_of_le (Nat.le_of_lt_succ hij) with h1 | rfl
    · have := ih h1 (by omega); omega
    · exact h2
structure Pl where
  barrels : List Brl
  came : Int
  drawn : Int
  waste : Int
  ship : Nat
  flight : Nat
def Pl.first (S : Sup) : Pl := ⟨S.barrels, 0, 0, 0, 0, 0⟩
def comes (S : Sup) (plan : List Int) (i : Nat) : List Brl := List.replicate (gi plan i).toNat ⟨S.kilos, min 400 ((shpAt S.ships i).day + (shpAt S.ships i).good)⟩
def clearP (t : Int) (p : Pl) : Pl := { p with barrels := goodL p.barrels t, waste := p.waste + (sumK p.barrels - sumK (goodL p.barrels t)) }
def loadP (S : Sup) (plan : List Int) (t : Int) (p : Pl) : Pl :=
  if p.ship < S.ships.length ∧ (shpAt S.ships p.ship).day = t then { p with barrels := p.barrels ++ comes S plan p.ship, came := p.came + gi plan p.ship * S.kilos, ship := p.ship + 1 } else p
def flyP (S : Sup) (b : List Int) (t : Int) : Nat → Pl → Pl × Bool
  | 0, p => (p, false)
  | c + 1, p => if p.flight < S.burns.length ∧ (burAt S.burns p.flight).day = t then
      if hasL p.barrels t < gi b p.flight then (p, true)
      else flyP S b t c { p with barrels := drawL p.barrels t (gi b p.flight), drawn := p.drawn + gi b p.flight, flight := p.flight + 1 }
    else (p, false)
def dayP (S : Sup) (plan b : List Int) (t : Int) (p : Pl) : Pl × Bool := flyP S b t (S.burns.length - (loadP S plan t (clearP t p)).flight) (loadP S plan t (clearP t p))
def runP (S : Sup) (plan b : List Int) : Nat → Pl × Bool
  | 0 => (.first S, false)
  | n + 1 => if (runP S plan b n).2 = true then runP S plan b n else dayP S plan b n (runP S plan b n).1
def lastD (S : Sup) : Int :=
  let a := if 0 < S.burns.length then (burAt S.burns (S.burns.length - 1)).day else -1
  if 0 < S.ships.length then max a (shpAt S.ships (S.ships.length - 1)).day else a
def days (S : Sup) : Nat := (lastD S + 1).toNat
structure Rp where
  barrels : List Brl
  came : Int
  drawn : Int
  waste : Int
  lacks : Int
  counts : List Int
def rload (S : Sup) (plan : List Int) (t : Int) : Nat → Rp → Rp
  | 0, p => p
  | k + 1, p => if (shpAt S.ships k).day = t then { rload S plan t k p with barrels := (rload S plan t k p).barrels ++ comes S plan k, came := (rload S plan t k p).came + gi plan k * S.kilos, counts := (rload S plan t k p).counts ++ [(((rload S plan t k p).barrels ++ comes S plan k).length : Int)] } else rload S plan t k p
def rfly (S : Sup) (b : List Int) (t : Int) : Nat → Rp → Rp
  | 0, p => p
  | k + 1, p => if 0 ≤ (rfly S b t k p).lacks then rfly S b t k p
    else if (burAt S.burns k).day ≠ t then rfly S b t k p
    else if hasL (rfly S b t k p).barrels t < gi b k then { rfly S b t k p with lacks := k }
    else { rfly S b t k p with barrels := drawL (rfly S b t k p).barrels t (gi b k), drawn := (rfly S b t k p).drawn + gi b k }
def rclear (t : Int) (p : Rp) : Rp := { p with barrels := goodL p.barrels t, waste := p.waste + (sumK p.barrels - sumK (goodL p.barrels t)) }
def rday (S : Sup) (plan b : List Int) (t : Int) (p : Rp) : Rp := rfly S b t S.burns.length (rload S plan t S.ships.length (rclear t p))
def rrun (S : Sup) (plan b : List Int) : Nat → Rp
  | 0 => ⟨S.barrels, 0, 0, 0, -1, []⟩
  | n + 1 => if 0 ≤ (rrun S plan b n).lacks then rrun S plan b n else rday S plan b n (rrun S plan b n)
def lackI : Bool → Nat → Int
  | true, f => f
  | false, _ => -1
structure At (S : Sup) (t : Int) (p : Pl) : Prop where
  s0 : p.ship ≤ S.ships.length
  s1 : ∀ i, i < p.ship → (shpAt S.ships i).day < t
  s2 : ∀ i, p.ship ≤ i → i < S.ships.length → t ≤ (shpAt S.ships i).day
  f0 : p.flight ≤ S.burns.length
  f1 : ∀ i, i < p.flight → (burAt S.burns i).day < t
  f2 : ∀ i, p.flight ≤ i → i < S.burns.length → t ≤ (burAt S.burns i).day
structure Alike (p : Pl) (q : Rp) : Prop where
  b : q.barrels = p.barrels
  c : q.came = p.came
  d : q.drawn = p.drawn
  w : q.waste = p.waste
theorem rload_skip (S : Sup) (plan : List Int) (t : Int) (q : Rp) : ∀ k, (∀ i, i < k → (shpAt S.ships i).day ≠ t) → rload S plan t k q = q
  | 0, _ => rfl
  | k + 1, h => by
    rw [rload, if_neg (h k (by omega)), rload_skip S plan t q k fun i hi => h i (by omega)]
theorem rload_late (S : Sup) (plan : List Int) (t : Int) (q : Rp) (k : Nat) : ∀ n, k ≤ n → (∀ i, k ≤ i → i < n → (shpAt S.ships i).day ≠ t) → rload S plan t n q = rload S plan t k q
  | 0, hk, _ => by obtain rfl : k = 0 := by omega
                   rfl
  | n + 1, hk, h => by
    rcases Nat.lt_or_eq_of_le hk with h1 | rfl
    · rw [rload, if_neg (h n (by omega) (by omega)), rload_late S plan t q k n (by omega) fun i h2 h3 => h i h2 (by omega)]
    · rfl
theorem load_alike {S : Sup} (hS : SupOk S) (plan : List Int) {t : Int} {p : Pl} {q : Rp} (ha : At S t p) (h : Alike p q) :
    Alike (loadP S plan t p) (rload S plan t S.ships.length q) ∧ (rload S plan t S.ships.length q).lacks = q.lacks ∧ (loadP S plan t p).flight = p.flight ∧
      (∀ i, i < (loadP S plan t p).ship → (shpAt S.ships i).day < t + 1) ∧ (∀ i, (loadP S plan t p).ship ≤ i → i < S.ships.length → t + 1 ≤ (shpAt S.ships i).day) ∧ (loadP S plan t p).ship ≤ S.ships.length ∧
      (rload S plan t S.ships.length q).counts = (if p.ship < S.ships.length ∧ (shpAt S.ships p.ship).day = t then q.counts ++ [((loadP S plan t p).barrels.length : Int)] else q.counts) := by
  by_cases hc : p.ship < S.ships.length ∧ (shpAt S.ships p.ship).day = t
  · have e0 : rload S plan t p.ship q = q := rload_skip S plan t q _ fun i hi => by have := ha.s1 i hi; omega
    have e1 : rload S plan t S.ships.length q = rload S plan t (p.ship + 1) q := rload_late S plan t q _ _ (by omega) fun i h1 h2 => by
      have := hS.ship_lt (show p.ship < i by omega) h2; omega
    have e2 : rload S plan t (p.ship + 1) q = { q with barrels := q.barrels ++ comes S plan p.ship, came := q.came + gi plan p.ship * S.kilos, counts := q.counts ++ [((q.barrels ++ comes S plan p.ship).length : Int)] } := by
      rw [rload, if_pos hc.2, e0]
    rw [e1, e2, if_pos hc]
    unfold loadP
    rw [if_pos hc]
    obtain ⟨h1, h2, h3, h4⟩ := h
    refine ⟨⟨by simp only [h1], by simp only [h2], h3, h4⟩, rfl, rfl, fun i hi => ?_, fun i h5 h6 => ?_, hc.1, by simp only [h1]⟩
    · simp only at hi
      rcases Nat.lt_succ_iff_lt_or_eq.1 hi with hi | rfl
      · have := ha.s1 i hi; omega
      · omega
    · simp only at h5
      have := hS.ship_lt (show p.ship < i by omega) h6; omega
  · have e1 : rload S plan t S.ships.length q = q := rload_skip S plan t q _ fun i hi he => by
      by_cases hip : i < p.ship
      · have := ha.s1 i hip; omega
      · by_cases hie : i = p.ship
        · subst hie; exact hc ⟨hi, he⟩
        · have := hS.ship_lt (show p.ship < i by omega) hi
          have := ha.s2 p.ship (Nat.le_refl _) (by omega)
          omega
    rw [e1, if_neg hc]
    unfold loadP
    rw [if_neg hc]
    refine ⟨h, rfl, rfl, fun i hi => by have := ha.s1 i hi; omega, fun i h5 h6 => ?_, ha.s0, rfl⟩
    have h7 := ha.s2 i h5 h6
    by_cases he : (shpAt S.ships i).day = t
    · exfalso
      by_cases hie : i = p.ship
      · subst hie; exact hc ⟨h6, he⟩
      · have := hS.ship_lt (show p.ship < i by omega) h6
        have := ha.s2 p.ship (Nat.le_refl _) (by omega)
        omega
    · omega
theorem rfly_skip (S : Sup) (b : List Int) (t : Int) (q : Rp) : ∀ k, (∀ i, i < k → (burAt S.burns i).day ≠ t) → rfly S b t k q = q
  | 0, _ => rfl
  | k + 1, h => by
    rw [rfly, rfly_skip S b t q k fun i hi => h i (by omega)]
    split
    · rfl
    · rw [if_pos (h k (by omega))]
theorem rfly_late (S : Sup) (b : List Int) (t : Int) (q : Rp) (k : Nat) : ∀ n, k ≤ n → (0 ≤ (rfly S b t k q).lacks ∨ ∀ i, k ≤ i → i < n → (burAt S.burns i).day ≠ t) → rfly S b t n q = rfly S b t k q
  | 0, hk, _ => by obtain rfl : k = 0 := by omega
                   rfl
  | n + 1, hk, h => by
    rcases Nat.lt_or_eq_of_le hk with h1 | rfl
    · rw [rfly, rfly_late S b t q k n (by omega) (h.imp_right fun h i h2 h3 => h i h2 (by omega))]
      split
      · rfl
      · rename_i hl
        rcases h with h | h
        · exact (hl h).elim
        · rw [if_pos (h n (by omega) (by omega))]
    · rfl
theorem fly_alike {S : Sup} (hS : SupOk S) (b : List Int) {t : Int} {q : Rp} : ∀ (c : Nat) {p : Pl}, S.burns.length = p.flight + c → (∀ i, i < p.flight → (burAt S.burns i).day < t + 1) → (∀ i, p.flight ≤ i → i < S.burns.length → t ≤ (burAt S.burns i).day) →
    Alike p (rfly S b t p.flight q) → (rfly S b t p.flight q).lacks = -1 →
    Alike (flyP S b t c p).1 (rfly S b t S.burns.length q) ∧ (flyP S b t c p).1.ship = p.ship ∧ (rfly S b t S.burns.length q).lacks = lackI (flyP S b t c p).2 (flyP S b t c p).1.flight ∧ (flyP S b t c p).1.flight ≤ S.burns.length ∧
      ((flyP S b t c p).2 = true → (flyP S b t c p).1.flight < S.burns.length) ∧
      ((flyP S b t c p).2 = false → (∀ i, i < (flyP S b t c p).1.flight → (burAt S.burns i).day < t + 1) ∧ ∀ i, (flyP S b t c p).1.flight ≤ i → i < S.burns.length → t + 1 ≤ (burAt S.burns i).day)
  | 0, p, hc, h1, h2, ha, hl => by
    rw [show S.burns.length = p.flight from by omega]
    refine ⟨ha, rfl, hl, Nat.le_refl _, fun h => (by cases h), fun _ => ⟨h1, fun i h3 h4 => ?_⟩⟩
    simp only [flyP] at h3
    omega
  | c + 1, p, hc, h1, h2, ha, hl => by
    have hlt : p.flight < S.burns.length := by omega
    simp only [flyP]
    by_cases hd : (burAt S.burns p.flight).day = t
    · rw [if_pos ⟨hlt, hd⟩]
      obtain ⟨a1, a2, a3, a4⟩ := ha
      by_cases hh : hasL p.barrels t < gi b p.flight
      · rw [if_pos hh]
        have e1 : rfly S b t (p.flight + 1) q = { rfly S b t p.flight q with lacks := (p.flight : Int) } := by
          rw [rfly, if_neg (by omega), if_neg (by simpa using hd), a1, if_pos hh]
        have e2 : rfly S b t S.burns.length q = rfly S b t (p.flight + 1) q := rfly_late S b t q _ _ (by omega) (.inl (by rw [e1]; simp only; omega))
        rw [e2, e1]
        exact ⟨⟨a1, a2, a3, a4⟩, rfl, rfl, by simp only; omega, fun _ => hlt, fun h => (by cases h)⟩
      · rw [if_neg hh]
        have e1 : rfly S b t (p.flight + 1) q = { rfly S b t p.flight q with barrels := drawL (rfly S b t p.flight q).barrels t (gi b p.flight), drawn := (rfly S b t p.flight q).drawn + gi b p.flight } := by
          rw [rfly, if_neg (by omega), if_neg (by simpa using hd), a1, if_neg hh]
        exact fly_alike hS b c (p := { p with barrels := drawL p.barrels t (gi b p.flight), drawn := p.drawn + gi b p.flight, flight := p.flight + 1 }) (by simp only; omega) (fun i hi => by
          rcases Nat.lt_succ_iff_lt_or_eq.1 hi with hi | rfl
          · exact h1 i hi
          · omega) (fun i h3 h4 => h2 i (by simp only at h3; omega) h4) (by simp only; rw [e1]; exact ⟨by simp only [a1], a2, by simp only [a3], a4⟩) (by simp only; rw [e1]; exact hl)
    · rw [if_neg fun h => hd h.2]
      have e2 : rfly S b t S.burns.length q = rfly S b t p.flight q := rfly_late S b t q _ _ (by omega) (.inr fun i h3 h4 => by
        have h5 := h2 p.flight (Nat.le_refl _) hlt
        have := hS.burn_le h3 h4
        omega)
      rw [e2]
      refine ⟨ha, rfl, hl, by simp only; omega, fun h => (by cases h), fun _ => ⟨h1, fun i h3 h4 => ?_⟩⟩
      have h5 := h2 p.flight (Nat.le_refl _) hlt
      have := hS.burn_le (show p.flight ≤ i from h3) h4
      omega
theorem clear_alike {t : Int} {p : Pl} {q : Rp} (h : Alike p q) : Alike (clearP t p) (rclear t q) := by
  obtain ⟨h1, h2, h3, h4⟩ := h
  exact ⟨by simp only [clearP, rclear, h1], h2, h3, by simp only [clearP, rclear, h1, h4]⟩
theorem run_alike {S : Sup} (hS : SupOk S) (plan b : List Int) : ∀ n : Nat, Alike (runP S plan b n).1 (rrun S plan b n) ∧ (rrun S plan b n).lacks = lackI (runP S plan b n).2 (runP S plan b n).1.flight ∧
    ((runP S plan b n).2 = true → (runP S plan b n).1.flight < S.burns.length) ∧ ((runP S plan b n).2 = false → At S n (runP S plan b n).1)
  | 0 => ⟨⟨rfl, rfl, rfl, rfl⟩, rfl, fun h => (by cases h), fun _ => ⟨Nat.zero_le _, fun i hi => (by simp [runP, Pl.first] at hi), fun i _ hi => (hS.ship i hi).1.1, Nat.zero_le _, fun i hi => (by simp [runP, Pl.first] at hi), fun i _ hi => (hS.burn i hi).1.1⟩⟩
  | n + 1 => by
    obtain ⟨h1, h2, h3, h4⟩ := run_alike hS plan b n
    cases hr : (runP S plan b n).2 with
    | true =>
      rw [hr] at h2
      have e1 : runP S plan b (n + 1) = runP S plan b n := by rw [runP, if_pos hr]
      have e2 : rrun S plan b (n + 1) = rrun S plan b n := by rw [rrun, if_pos (by rw [h2]; simp only [lackI]; omega)]
      rw [e1, e2, hr]
      exact ⟨h1, h2, fun _ => h3 hr, fun h => (by cases h)⟩
    | false =>
      rw [hr] at h2
      have h2 : (rrun S plan b n).lacks = -1 := h2
      have hat := h4 hr
      have e1 : runP S plan b (n + 1) = dayP S plan b n (runP S plan b n).1 := by rw [runP, if_neg (by rw [hr]; simp)]
      have e2 : rrun S plan b (n + 1) = rday S plan b n (rrun S plan b n) := by rw [rrun, if_neg (by rw [h2]; omega)]
      rw [e1, e2]
      have hcl := clear_alike (t := n) h1
      have hat' : At S n (clearP n (runP S plan b n).1) := ⟨hat.s0, hat.s1, hat.s2, hat.f0, hat.f1, hat.f2⟩
      obtain ⟨l1, l2, l3, l4, l5, l6, _⟩ := load_alike hS plan hat' hcl
      have e0 : rfly S b n (loadP S plan n (clearP n (runP S plan b n).1)).flight (rload S plan n S.ships.length (rclear n (rrun S plan b n))) = rload S plan n S.ships.length (rclear n (rrun S plan b n)) :=
        rfly_skip S b n _ _ fun i hi => by rw [l3] at hi; have := hat.f1 i hi; omega
      have hfl : (loadP S plan n (clearP n (runP S plan b n).1)).flight ≤ S.burns.length := by rw [l3]; exact hat.f0
      obtain ⟨f1, f2, f3, f4, f5, f6⟩ := fly_alike hS b (t := (n : Int)) (q := rload S plan n S.ships.length (rclear n (rrun S plan b n))) (S.burns.length - (loadP S plan n (clearP n (runP S plan b n).1)).flight) (p := loadP S plan n (clearP n (runP S plan b n).1)) (by omega)
        (fun i hi => by rw [l3] at hi; have := hat.f1 i hi; omega) (fun i h5 h6 => by rw [l3] at h5; exact hat.f2 i h5 h6) (by rw [e0]; exact l1) (by rw [e0, l2]; exact h2)
      refine ⟨f1, f3, f5, fun hf => ?_⟩
      obtain ⟨f7, f8⟩ := f6 hf
      have hship : (dayP S plan b n (runP S plan b n).1).1.ship = (loadP S plan n (clearP n (runP S plan b n).1)).ship := f2
      have ec : ((n + 1 : Nat) : Int) = (n : Int) + 1 := by omega
      rw [ec]
      exact ⟨by rw [hship]; exact l6, fun i hi => l4 i (by rw [hship] at hi; exact hi), fun i h5 h6 => l5 i (by rw [hship] at h5; exact h5) h6, f4, f7, f8⟩
end Go.Qg

namespace Go.Qg
set_option maxRecDepth 100000
def sumTo (l : List Int) : Nat → Int
  | 0 => 0
  | k + 1 => sumTo l k + gi l k
theorem sumK_append (a b : List Brl) : sumK (a ++ b) = sumK a + sumK b := by
  induction a with
  | nil => simp [sumK]
  | cons x a ih => simp only [List.cons_append, sumK, ih]; omega
theorem sumK_replicate (n : Nat) (b : Brl) : sumK (List.replicate n b) = n * b.kilos := by
  induction n with
  | zero => simp [sumK]
  | succ n ih => rw [List.replicate_succ, sumK, ih]; push_cast; rw [Int.add_mul]; omega
theorem sumK_good {l : List Brl} (h : Pos l) (t : Int) : 0 ≤ sumK (goodL l t) ∧ sumK (goodL l t) ≤ sumK l := by
  induction l with
  | nil => exact ⟨Int.le_refl _, Int.le_refl _⟩
  | cons b l ih =>
    obtain ⟨h1, h2⟩ := ih h.tail
    have hb := h.head
    unfold goodL at *
    rw [List.filter_cons]
    split
    · simp only [sumK]; omega
    · simp only [sumK]; omega
theorem drawL_sum {l : List Brl} {t n : Int} (h : Pos l) (ht : ∀ b ∈ l, b.til ≤ 400) (hn : 0 ≤ n) (hh : n ≤ hasL l t) : sumK (drawL l t n) = sumK l - n := by
  unfold drawL
  by_cases h4 : t ≤ 401
  · rw [sumK_full (sweep_ok _ _ h hn).1, sweep_sum, sweep_rest _ _ h hn fun b hb => by have := ht b hb; simp only [days400]; omega]
    omega
  · have e0 : hasL l t = 0 := hasL_late fun b hb => by have := ht b hb; omega
    obtain rfl : n = 0 := by omega
    rw [sweep_zero _ _ h, sumK_full h]; omega
theorem drawL_til {l : List Brl} {t n : Int} {c : Int} (ht : ∀ b ∈ l, b.til ≤ c) : ∀ b ∈ drawL l t n, b.til ≤ c := fun b hb => by
  have hb := (List.mem_filter.1 hb).1
  have : b.til ∈ l.map (·.til) := by rw [← sweep_til (days400 t) t l n]; exact List.mem_map_of_mem hb
  obtain ⟨x, hx, he⟩ := List.mem_map.1 this
  rw [← he]; exact ht x hx
structure Fit (l : List Brl) : Prop where
  pos : Pos l
  til : ∀ b ∈ l, b.til ≤ 400
theorem Fit.good {l : List Brl} (h : Fit l) (t : Int) : Fit (goodL l t) := ⟨h.pos.filter _, fun b hb => h.til b (List.mem_filter.1 hb).1⟩
theorem Fit.append {a b : List Brl} (h : Fit a) (k : Fit b) : Fit (a ++ b) := ⟨fun x hx => (List.mem_append.1 hx).elim (h.pos x) (k.pos x), fun x hx => (List.mem_append.1 hx).elim (h.til x) (k.til x)⟩
theorem Fit.draw {l : List Brl} (h : Fit l) {t n : Int} (hn : 0 ≤ n) : Fit (drawL l t n) := ⟨drawL_pos h.pos hn, drawL_til h.til⟩
theorem fit_first {S : Sup} (hS : SupOk S) : Fit S.barrels := ⟨fun b hb => by have := hS.pos b hb; omega, fun b hb => (hS.pos b hb).2.2⟩
theorem fit_comes {S : Sup} (hS : SupOk S) (plan : List Int) (i : Nat) : Fit (comes S plan i) := by
  have := hS.k
  refine ⟨fun b hb => ?_, fun b hb => ?_⟩
  · obtain rfl := List.eq_of_mem_replicate hb
    simp only; omega
  · obtain rfl := List.eq_of_mem_replicate hb
    simp only; omega
structure PlanOk (S : Sup) (plan : List Int) : Prop where
  len : plan.length = S.ships.length
  each : ∀ i, i < S.ships.length → 0 ≤ gi plan i ∧ gi plan i ≤ (shpAt S.ships i).room
structure BurnsOk (S : Sup) (b : List Int) : Prop where
  len : b.length = S.burns.length
  each : ∀ i, i < S.burns.length → 0 ≤ gi b i ∧ gi b i ≤ 30000
structure Books (S : Sup) (plan b : List Int) (p : Pl) : Prop where
  fit : Fit p.barrels
  sum : sumK S.barrels + p.came = p.drawn + p.waste + sumK p.barrels
  waste : 0 ≤ p.waste
  drawn : p.drawn = sumTo b p.flight
  came : p.came = sumTo plan p.ship * S.kilos
theorem books_clear {S : Sup} {plan b : List Int} {p : Pl} (h : Books S plan b p) (t : Int) : Books S plan b (clearP t p) := by
  obtain ⟨h1, h2, h3, h4, h5⟩ := h
  have := sumK_good h1.pos t
  exact ⟨h1.good t, by simp only [clearP]; omega, by simp only [clearP]; omega, h4, h5⟩
theorem books_load {S : Sup} (hS : SupOk S) {plan b : List Int} (hpl : PlanOk S plan) {p : Pl} (h : Books S plan b p) (t : Int) : Books S plan b (loadP S plan t p) := by
  obtain ⟨h1, h2, h3, h4, h5⟩ := h
  unfold loadP
  split
  · rename_i hc
    have he := hpl.each p.ship hc.1
    have e1 : sumK (comes S plan p.ship) = gi plan p.ship * S.kilos := by
      rw [comes, sumK_replicate, Int.toNat_of_nonneg he.1]
    refine ⟨h1.append (fit_comes hS plan _), ?_, h3, h4, ?_⟩
    · simp only [sumK_append, e1]; omega
    · simp only [sumTo, h5, Int.add_mul]
  · exact ⟨h1, h2, h3, h4, h5⟩
theorem books_fly {S : Sup} {plan b : List Int} (hb : BurnsOk S b) {t : Int} : ∀ (c : Nat) {p : Pl}, Books S plan b p → Books S plan b (flyP S b t c p).1
  | 0, p, h => h
  | c + 1, p, h => by
    obtain ⟨h1, h2, h3, h4, h5⟩ := h
    simp only [flyP]
    split
    · rename_i hc
      split
      · exact ⟨h1, h2, h3, h4, h5⟩
      · rename_i hh
        have he := hb.each p.flight hc.1
        have hs := drawL_sum h1.pos h1.til he.1 (Int.not_lt.1 hh)
        exact books_fly hb c ⟨h1.draw he.1, by simp only [hs]; omega, h3, by simp only [sumTo, h4], h5⟩
    · exact ⟨h1, h2, h3, h4, h5⟩
theorem books_run {S : Sup} (hS : SupOk S) {plan b : List Int} (hpl : PlanOk S plan) (hb : BurnsOk S b) : ∀ n, Books S plan b (runP S plan b n).1
  | 0 => ⟨fit_first hS, by simp [runP, Pl.first], by simp [runP, Pl.first], rfl, by simp [runP, Pl.first, sumTo]⟩
  | n + 1 => by
    have ih := books_run hS hpl hb n
    rw [runP]
    split
    · exact ih
    · exact books_fly hb _ (books_load hS hpl (books_clear ih _) _)
theorem lastD_burn {S : Sup} (hS : SupOk S) {i : Nat} (hi : i < S.burns.length) : (burAt S.burns i).day ≤ lastD S := by
  have := hS.burn_le (show i ≤ S.burns.length - 1 by omega) (by omega)
  unfold lastD
  simp only [if_pos (show 0 < S.burns.length by omega)]
  split <;> omega
theorem lastD_ship {S : Sup} (hS : SupOk S) {i : Nat} (hi : i < S.ships.length) : (shpAt S.ships i).day ≤ lastD S := by
  have : (shpAt S.ships i).day ≤ (shpAt S.ships (S.ships.length - 1)).day := by
    rcases Nat.lt_or_eq_of_le (show i ≤ S.ships.length - 1 by omega) with h | h
    · have := hS.ship_lt h (by omega); omega
    · rw [← h]; exact Int.le_refl _
  unfold lastD
  simp only [if_pos (show 0 < S.ships.length by omega)]
  omega
theorem at_end {S : Sup} (hS : SupOk S) {t : Int} (ht : lastD S < t) {p : Pl} (h : At S t p) : p.ship = S.ships.length ∧ p.flight = S.burns.length := by
  constructor
  · rcases Nat.lt_or_eq_of_le h.s0 with h1 | h1
    · have := h.s2 p.ship (Nat.le_refl _) h1
      have := lastD_ship hS h1
      omega
    · exact h1
  · rcases Nat.lt_or_eq_of_le h.f0 with h1 | h1
    · have := h.f2 p.flight (Nat.le_refl _) h1
      have := lastD_burn hS h1
      omega
    · exact h1
theorem sumTo_mono {l : List Int} {n : Nat} (h : ∀ i, i < n → 0 ≤ gi l i) : ∀ {k : Nat}, k ≤ n → 0 ≤ sumTo l k ∧ sumTo l k ≤ sumTo l n := by
  have key : ∀ m, m ≤ n → 0 ≤ sumTo l m ∧ ∀ k, k ≤ m → sumTo l k ≤ sumTo l m := by
    intro m
    induction m with
    | zero => intro _; exact ⟨Int.le_refl _, fun k hk => by obtain rfl : k = 0 := by omega
                                                            exact Int.le_refl _⟩
    | succ m ih =>
      intro hm
      obtain ⟨a, b⟩ := ih (by omega)
      have := h m (by omega)
      refine ⟨by simp only [sumTo]; omega, fun k hk => ?_⟩
      rcases Nat.lt_or_eq_of_le hk with h1 | rfl
      · have := b k (by omega); simp only [sumTo]; omega
      · exact Int.le_refl _
  intro k hk
  exact ⟨(key k hk).1, (key n (Nat.le_refl _)).2 k hk⟩
structure Ahead (p q : Pl) : Prop where
  dom : Dom q.barrels p.barrels
  ship : q.ship = p.ship
  flight : q.flight = p.flight
theorem ahead_clear {p q : Pl} (h : Ahead p q) (t : Int) : Ahead (clearP t p) (clearP t q) := ⟨h.dom.good t, h.ship, h.flight⟩
theorem ahead_load {S S' : Sup} {plan plan' : List Int} {p q : Pl} (h : Ahead p q) (t : Int) (hs : S'.ships = S.ships) (hk : S'.kilos = S.kilos) (hpl : ∀ i, i < S.ships.length → gi plan' i = gi plan i) : Ahead (loadP S plan t p) (loadP S' plan' t q) := by
  unfold loadP
  rw [hs, h.ship]
  split
  · rename_i hc
    have e : comes S' plan' p.ship = comes S plan p.ship := by simp only [comes, hk, hs, hpl _ hc.1]
    rw [e]
    exact ⟨h.dom.append (Dom.refl _), by simp only [h.ship], h.flight⟩
  · exact h
theorem ahead_fly {S S' : Sup} {b b' : List Int} (hf : S'.burns = S.burns) (hb : BurnsOk S b) (hle : ∀ i, i < S.burns.length → gi b i ≤ gi b' i) (t : Int) : ∀ (c : Nat) {p q : Pl}, Fit p.barrels → Fit q.barrels → Ahead p q →
    ((flyP S' b' t c q).2 = false → (flyP S b t c p).2 = false ∧ Ahead (flyP S b t c p).1 (flyP S' b' t c q).1) ∧ ((flyP S b t c p).2 = true → (flyP S' b' t c q).2 = true ∧ (flyP S' b' t c q).1.flight ≤ (flyP S b t c p).1.flight)
  | 0, p, q, _, _, h => ⟨fun _ => ⟨rfl, h⟩, fun h => (by cases h)⟩
  | c + 1, p, q, fp, fq, h => by
    simp only [flyP, hf, h.flight]
    by_cases hc : p.flight < S.burns.length ∧ (burAt S.burns p.flight).day = t
    · have hd := h.dom.has fp.pos t
      have h1 := hb.each _ hc.1
      have h2 := hle _ hc.1
      simp only [if_pos hc]
      by_cases hq : hasL q.barrels t < gi b' p.flight
      · simp only [if_pos hq]
        refine ⟨fun h => (by cases h), fun h3 => ⟨trivial, ?_⟩⟩
        rw [h.flight]
        split at h3
        · rename_i hp
          rw [if_pos hp]; exact Nat.le_refl _
        · rename_i hp
          rw [if_neg hp]
          have mono : ∀ (c : Nat) (p : Pl), p.flight ≤ (flyP S b t c p).1.flight := by
            intro c
            induction c with
            | zero => intro p; exact Nat.le_refl _
            | succ c ih =>
              intro p
              simp only [flyP]
              split
              · split
                · exact Nat.le_refl _
                · have := ih { p with barrels := drawL p.barrels t (gi b p.flight), drawn := p.drawn + gi b p.flight, flight := p.flight + 1 }
                  simp only at this; omega
              · exact Nat.le_refl _
          have := mono c { p with barrels := drawL p.barrels t (gi b p.flight), drawn := p.drawn + gi b p.flight, flight := p.flight + 1 }
          simp only at this; omega
      · have hp : ¬ hasL p.barrels t < gi b p.flight := by omega
        simp only [if_neg hq, if_neg hp]
        exact ahead_fly hf hb hle t c (p := { p with barrels := drawL p.barrels t (gi b p.flight), drawn := p.drawn + gi b p.flight, flight := p.flight + 1 }) (q := { q with barrels := drawL q.barrels t (gi b' p.flight), drawn := q.drawn + gi b' p.flight, flight := p.flight + 1 }) (fp.draw h1.1) (fq.draw (by omega)) ⟨h.dom.draw fp.pos fq.pos h1.1 h2, h.ship, rfl⟩
    · simp only [if_neg hc]
      exact ⟨fun _ => ⟨trivial, h⟩, fun h => (by cases h)⟩
theorem ahead_run {S S' : Sup} (hS : SupOk S) (hS' : SupOk S') (hf : S'.burns = S.burns) (hs : S'.ships = S.ships) (hk : S'.kilos = S.kilos) (hd : Dom S'.barrels S.barrels) {plan b b' : List Int} (hpl : PlanOk S plan) (hb : BurnsOk S b) (hb' : BurnsOk S' b') (hle : ∀ i, i < S.burns.length → gi b i ≤ gi b' i) : ∀ n,
    ((runP S' plan b' n).2 = false → (runP S plan b n).2 = false ∧ Ahead (runP S plan b n).1 (runP S' plan b' n).1) ∧ ((runP S plan b n).2 = true → (runP S' plan b' n).2 = true ∧ (runP S' plan b' n).1.flight ≤ (runP S plan b n).1.flight)
  | 0 => ⟨fun _ => ⟨rfl, hd, rfl, rfl⟩, fun h => (by cases h)⟩
  | n + 1 => by
    obtain ⟨h1, h2⟩ := ahead_run hS hS' hf hs hk hd hpl hb hb' hle n
    have hpl' : PlanOk S' plan := ⟨by rw [hs]; exact hpl.len, fun i hi => by rw [hs] at hi ⊢; exact hpl.each i hi⟩
    cases hq : (runP S' plan b' n).2 with
    | true =>
      have e' : runP S' plan b' (n + 1) = runP S' plan b' n := by rw [runP, if_pos hq]
      rw [e', hq]
      refine ⟨fun h => (by cases h), fun h3 => ⟨rfl, ?_⟩⟩
      cases hp : (runP S plan b n).2 with
      | true =>
        rw [show runP S plan b (n + 1) = runP S plan b n from by rw [runP, if_pos hp]]
        exact (h2 hp).2
      | false =>
        obtain ⟨a1, a2, a3, a4⟩ := run_alike hS plan b (n + 1)
        have b1 := (run_alike hS' plan b' n)
        have c1 := (run_alike hS plan b n).2.2.2 hp
        have hlt := b1.2.2.1 hq
        have key : ∀ m, m ≤ n → (runP S' plan b' m).2 = true → (burAt S'.burns (runP S' plan b' m).1.flight).day < m := by
          intro m
          induction m with
          | zero => intro _ h; cases h
          | succ m ih =>
            intro hm h4
            cases h5 : (runP S' plan b' m).2 with
            | true =>
              rw [show runP S' plan b' (m + 1) = runP S' plan b' m from by rw [runP, if_pos h5]]
              have := ih (by omega) h5
              push_cast; omega
            | false =>
              rw [show runP S' plan b' (m + 1) = dayP S' plan b' m (runP S' plan b' m).1 from by rw [runP, if_neg (by rw [h5]; simp)]] at h4 ⊢
              have day : ∀ (c : Nat) (p : Pl), (flyP S' b' m c p).2 = true → (burAt S'.burns (flyP S' b' m c p).1.flight).day = m := by
                intro c
                induction c with
                | zero => intro p h; cases h
                | succ c ihc =>
                  intro p h
                  simp only [flyP] at h ⊢
                  by_cases hc : p.flight < S'.burns.length ∧ (burAt S'.burns p.flight).day = m
                  · rw [if_pos hc] at h
                    simp only [if_pos hc]
                    by_cases hh : hasL p.barrels m < gi b' p.flight
                    · simp only [if_pos hh]; exact hc.2
                    · rw [if_neg hh] at h
                      simp only [if_neg hh]
                      exact ihc _ h
                  · rw [if_neg hc] at h; cases h
              have := day _ _ h4
              rw [show (dayP S' plan b' m (runP S' plan b' m).1).1.flight = (flyP S' b' m (S'.burns.length - (loadP S' plan m (clearP m (runP S' plan b' m).1)).flight) (loadP S' plan m (clearP m (runP S' plan b' m).1))).1.flight from rfl, this]
              push_cast; omega
        have hday := key n (Nat.le_refl _) hq
        rw [hf] at hday hlt
        have h6 : (runP S' plan b' n).1.flight < (runP S plan b n).1.flight := by
          rcases Nat.lt_or_ge (runP S' plan b' n).1.flight (runP S plan b n).1.flight with h | h
          · exact h
          · have := c1.f2 _ h hlt; omega
        have mono : ∀ (c : Nat) (t : Int) (p : Pl), p.flight ≤ (flyP S b t c p).1.flight := by
          intro c
          induction c with
          | zero => intro t p; exact Nat.le_refl _
          | succ c ih =>
            intro t p
            simp only [flyP]
            split
            · split
              · exact Nat.le_refl _
              · have := ih t { p with barrels := drawL p.barrels t (gi b p.flight), drawn := p.drawn + gi b p.flight, flight := p.flight + 1 }
                simp only at this; omega
            · exact Nat.le_refl _
        rw [show runP S plan b (n + 1) = dayP S plan b n (runP S plan b n).1 from by rw [runP, if_neg (by rw [hp]; simp)]]
        have h7 := mono (S.burns.length - (loadP S plan n (clearP n (runP S plan b n).1)).flight) n (loadP S plan n (clearP n (runP S plan b n).1))
        have h8 : (loadP S plan n (clearP n (runP S plan b n).1)).flight = (runP S plan b n).1.flight := by
          unfold loadP; split <;> rfl
        rw [h8] at h7
        have : (dayP S plan b n (runP S plan b n).1).1.flight = (flyP S b n (S.burns.length - (loadP S plan n (clearP n (runP S plan b n).1)).flight) (loadP S plan n (clearP n (runP S plan b n).1))).1.flight := rfl
        rw [this, h8]
        omega
    | false =>
      obtain ⟨hp, ha⟩ := h1 hq
      rw [show runP S plan b (n + 1) = dayP S plan b n (runP S plan b n).1 from by rw [runP, if_neg (by rw [hp]; simp)], show runP S' plan b' (n + 1) = dayP S' plan b' n (runP S' plan b' n).1 from by rw [runP, if_neg (by rw [hq]; simp)]]
      have k1 := ahead_load (S := S) (S' := S') (plan := plan) (plan' := plan) (ahead_clear ha n) n hs hk (fun _ _ => rfl)
      have f1 := (books_load hS hpl (books_clear (books_run hS hpl hb n) n) n).fit
      have f2 := (books_load hS' hpl' (books_clear (books_run hS' hpl' hb' n) n) n).fit
      unfold dayP
      rw [k1.flight, hf]
      exact ahead_fly hf hb hle n _ f1 f2 k1
end Go.Qg
