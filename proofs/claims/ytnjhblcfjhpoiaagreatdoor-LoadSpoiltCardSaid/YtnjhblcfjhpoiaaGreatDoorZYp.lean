/-
  LoadSpoilt: for all inputs the law returns true, and leaves its arguments as they were; the card.
  No condition.
-/
import Derived.Test.YtnjhblcfjhpoiaaGreatDoorZYpp2
import Derived.Lib.ConvBytes
import Derived.Laws.IdiomCopy
import Derived.SevenTiedAt
set_option linter.all false


namespace Go.Qg
open Go.Proofs
set_option maxRecDepth 100000
set_option maxHeartbeats 32000000
attribute [local irreducible] pwp pops pdraw pop popCall pdCall thenP blockP scopeP pspec Spec answers ppost CallW rend
theorem rin_spec (n lo hi : Int) : Spec Tryz.prog 58 [.v (.int .i64 n), .v (.int .i64 lo), .v (.int .i64 hi)] (.v (.bool (inB n lo hi))) := by
  refine spec_of mixed Tryz.func58 (by decide) rfl Tryz.results58 Tryz.ntmps58 (by decide) 0 (by simp) ?_
  by_cases h1 : lo ≤ n
  · by_cases h2 : n ≤ hi <;> (simp [h1, h2]; refine answers_of rfl ?_; simp [inB, h1, h2])
  · simp [h1]; refine answers_of rfl ?_; simp [inB, h1]
theorem rSpan_spec (s : Spn) (lo hi : Int) : Spec Tryz.prog 52 [.agg s.cells, .v (.int .i64 lo), .v (.int .i64 hi)] (.v (.bool (spanB s lo hi))) := by
  refine spec_of mixed Tryz.func52 (by decide) rfl Tryz.results52 Tryz.ntmps52 (by decide) 0 (by simp) ?_
  simp [Spn.cells]
  refine pop_spec (rin_spec s.low lo s.high) rfl false (.inl (by simp)) (.inl rfl) rfl (by simp) ?_
  cases h1 : inB s.low lo s.high with
  | false =>
    simp
    refine answers_of rfl ?_
    have : ¬ (lo ≤ s.low ∧ s.low ≤ s.high) := fun h => by rw [inB_spec.2 h] at h1; cases h1
    simp [spanB]
    intro a b
    exact (this ⟨a, b⟩).elim
  | true =>
    have h := inB_spec.1 h1
    by_cases h2 : s.high ≤ hi
    · simp [h2]
      refine answers_of rfl ?_; simp [spanB, h, h2]
    · simp [h2]
      refine answers_of rfl ?_; simp [spanB, h2]
end Go.Qg


namespace Go.Qg
open Go.Proofs
set_option maxRecDepth 100000
set_option maxHeartbeats 16000000
attribute [local irreducible] pwp pops pdraw pop popCall pdCall thenP blockP scopeP pspec Spec answers ppost CallW rend
def fewB (legs : List Leg) : Bool := (allN legs.length fun k => decide ((legAt legs k).items.length ≤ 20)) && decide (legs.length ≤ 12)
theorem lfew_spec (legs : List Leg) (hl : legs.length ≤ 9223372036854775807) : Spec Tryz.prog 15 [legL legs] (.v (.bool (fewB legs))) := by
  refine spec_of mixed Tryz.func15 (by decide) rfl Tryz.results15 Tryz.ntmps15 (by decide) 0 (by simp) ?_
  simp [legL]
  refine pwp_loop (fun k : Nat => [(3, .v (.int .i64 k))]) (fun k => k ≤ legs.length ∧ ∀ j, j < k → (legAt legs j).items.length ≤ 20) (fun k => legs.length - k) 0 ⟨Nat.zero_le _, fun j h => by omega⟩ (by simp; rfl) (by simp) ?_
  intro k ⟨hk, hq⟩
  by_cases hkl : k < legs.length
  · have wk := i64_wrap (show -9223372036854775808 ≤ (k : Int) + 1 ∧ _ from by omega)
    by_cases h : 20 < (legAt legs k).items.length
    · simp [hkl, Leg.cells, itmL, show (20 : Int) < (legAt legs k).items.length from by omega]
      refine answers_of rfl ?_
      have : (allN legs.length fun k => decide ((legAt legs k).items.length ≤ 20)) = false := allN_false hkl (by simp; omega)
      simp [fewB, this]
    · simp [hkl, Leg.cells, itmL, show ¬ (20 : Int) < (legAt legs k).items.length from by omega]
      refine again_of (k + 1) ⟨by omega, fun j hj => ?_⟩ (by omega) ?_
      · rcases Nat.lt_or_eq_of_le (Nat.le_of_lt_succ hj) with h' | rfl
        · exact hq j h'
        · omega
      · simp [wk]
  · obtain rfl : k = legs.length := by omega
    simp
    have : (allN legs.length fun k => decide ((legAt legs k).items.length ≤ 20)) = true := allN_spec.2 fun j hj => by simpa using hq j hj
    by_cases h : legs.length ≤ 12
    · simp [show (legs.length : Int) ≤ 12 from by omega]
      refine answers_of rfl ?_; simp [fewB, this, h]
    · simp [show ¬ (legs.length : Int) ≤ 12 from by omega]
      refine answers_of rfl ?_; simp [fewB, this, h]
theorem ritems_spec (l : List Itm) (ns : Int) (hl : l.length ≤ 9223372036854775807) (hns : 0 ≤ ns ∧ ns ≤ 9223372036854775807) : Spec Tryz.prog 86 [itmL l, .v (.int .i64 ns)] (.v (.bool (itemsB l ns))) := by
  have wn := i64_wrap (show -9223372036854775808 ≤ ns - 1 ∧ _ from by omega)
  refine spec_of mixed Tryz.func86 (by decide) rfl Tryz.results86 Tryz.ntmps86 (by decide) 0 (by simp) ?_
  simp [itmL]
  refine pwp_loop (fun k : Nat => [(5, .v (.int .i64 k))]) (fun k => k ≤ l.length ∧ ∀ j, j < k → itmB ns (itmAt l j) = true) (fun k => l.length - k) 0 ⟨Nat.zero_le _, fun j h => by omega⟩ (by simp; rfl) (by simp) ?_
  intro k ⟨hk, hq⟩
  by_cases hkl : k < l.length
  · have wk := i64_wrap (show -9223372036854775808 ≤ (k : Int) + 1 ∧ _ from by omega)
    simp [hkl, Itm.cells, wn]
    refine pop_spec (rin_spec (itmAt l k).station 0 (ns - 1)) rfl false (.inl (by simp)) (.inl rfl) rfl (by simp) ?_
    cases h1 : inB (itmAt l k).station 0 (ns - 1) with
    | false =>
      simp
      refine answers_of rfl ?_
      have : (allN l.length fun k => itmB ns (itmAt l k)) = false := allN_false hkl (by simp [itmB, h1])
      simp [itemsB, this]
    | true =>
      simp [hkl]
      refine pop_spec (rSpan_spec ⟨(itmAt l k).low, (itmAt l k).high⟩ 0 20000) rfl false (.inl (by simp [Spn.cells])) (.inl rfl) rfl (by simp) ?_
      cases h2 : spanB ⟨(itmAt l k).low, (itmAt l k).high⟩ 0 20000 with
      | false =>
        simp
        refine answers_of rfl ?_
        have : (allN l.length fun k => itmB ns (itmAt l k)) = false := allN_false hkl (by simp [itmB, h1, h2])
        simp [itemsB, this]
      | true =>
        simp
        refine again_of (k + 1) ⟨by omega, fun j hj => ?_⟩ (by omega) ?_
        · rcases Nat.lt_or_eq_of_le (Nat.le_of_lt_succ hj) with h' | rfl
          · exact hq j h'
          · simp [itmB, h1, h2]
        · simp [wk]
  · obtain rfl : k = l.length := by omega
    have : (allN l.length fun k => itmB ns (itmAt l k)) = true := allN_spec.2 hq
    by_cases h : l.length ≤ 12
    · simp [show (l.length : Int) ≤ 12 from by omega]
      refine answers_of rfl ?_; simp [itemsB, this, h]
    · simp [show ¬ (l.length : Int) ≤ 12 from by omega]
      refine answers_of rfl ?_; simp [itemsB, this, h]
def legsB (legs : List Leg) (ns : Int) : Bool := (allN legs.length fun k => legB ns (legAt legs k)) && decide (1 ≤ legs.length)
theorem rLegs_spec (legs : List Leg) (ns : Int) (hl : LegsLen legs) (hns : 0 ≤ ns ∧ ns ≤ 9223372036854775807) : Spec Tryz.prog 53 [legL legs, .v (.int .i64 ns)] (.v (.bool (legsB legs ns))) := by
  have hl0 := hl.n
  refine spec_of mixed Tryz.func53 (by decide) rfl Tryz.results53 Tryz.ntmps53 (by decide) 0 (by simp) ?_
  simp [legL]
  refine pwp_loop (fun k : Nat => [(5, .v (.int .i64 k))]) (fun k => k ≤ legs.length ∧ ∀ j, j < k → legB ns (legAt legs j) = true) (fun k => legs.length - k) 0 ⟨Nat.zero_le _, fun j h => by omega⟩ (by simp; rfl) (by simp) ?_
  intro k ⟨hk, hq⟩
  by_cases hkl : k < legs.length
  · have wk := i64_wrap (show -9223372036854775808 ≤ (k : Int) + 1 ∧ _ from by omega)
    have go : legB ns (legAt legs k) = false → legsB legs ns = false := fun h => by
      have : (allN legs.length fun k => legB ns (legAt legs k)) = false := allN_false hkl h
      simp [legsB, this]
    simp [hkl, Leg.cells, itmL]
    refine pop_spec (ritems_spec (legAt legs k).items ns (hl.i k hkl) hns) rfl false (.inl (by simp [itmL])) (.inl rfl) rfl (by simp) ?_
    cases h1 : itemsB (legAt legs k).items ns with
    | false =>
      simp
      refine answers_of rfl ?_; simp [go (by simp [legB, h1])]
    | true =>
      simp [hkl]
      refine pop_spec (rin_spec (legAt legs k).fuel 0 20000) rfl false (.inl (by simp)) (.inl rfl) rfl (by simp) ?_
      cases h2 : inB (legAt legs k).fuel 0 20000 with
      | false =>
        simp
        refine answers_of rfl ?_; simp [go (by simp [legB, h2])]
      | true =>
        simp [hkl]
        refine pop_spec (rSpan_spec (legAt legs k).burn 0 20000) rfl false (.inl (by simp [Spn.cells])) (.inl rfl) rfl (by simp) ?_
        cases h3 : spanB (legAt legs k).burn 0 20000 with
        | false =>
          simp
          refine answers_of rfl ?_; simp [go (by simp [legB, h3])]
        | true =>
          simp [hkl]
          refine pop_spec (rSpan_spec (legAt legs k).leak 0 20000) rfl false (.inl (by simp [Spn.cells])) (.inl rfl) rfl (by simp) ?_
          cases h4 : spanB (legAt legs k).leak 0 20000 with
          | false =>
            simp
            refine answers_of rfl ?_; simp [go (by simp [legB, h4])]
          | true =>
            simp
            refine again_of (k + 1) ⟨by omega, fun j hj => ?_⟩ (by omega) ?_
            · rcases Nat.lt_or_eq_of_le (Nat.le_of_lt_succ hj) with h' | rfl
              · exact hq j h'
              · simp [legB, h1, h2, h3, h4]
            · simp [wk]
  · obtain rfl : k = legs.length := by omega
    have : (allN legs.length fun k => legB ns (legAt legs k)) = true := allN_spec.2 hq
    by_cases h : 1 ≤ legs.length
    · simp [show (1 : Int) ≤ legs.length from by omega]
      refine answers_of rfl ?_; simp [legsB, this, h]
    · simp [show ¬ (1 : Int) ≤ legs.length from by omega]
      refine answers_of rfl ?_; simp [legsB, this, h]
end Go.Qg










namespace Go.Qg
open Go.Proofs Go.RowKit Go.Lib
set_option maxRecDepth 100000
set_option maxHeartbeats 16000000
attribute [local irreducible] pwp pops pdraw pop popCall pdCall thenP blockP scopeP pspec Spec answers ppost CallW rend
theorem trip_parts {fuel : Spn} {legs : List Leg} : tripE fuel legs 8 = 0 ↔ legs.length ≤ 6 ∧ spanB fuel 0 20000 = true ∧ legsB legs 8 = true := by
  unfold tripE legsB
  split
  · rename_i h; constructor
    · intro e; omega
    · rintro ⟨e, _⟩; omega
  · rename_i h
    split
    · rename_i h2
      constructor
      · intro e; omega
      · rintro ⟨_, e1, e2⟩
        simp only [Bool.and_eq_true, decide_eq_true_eq] at e2
        rcases h2 with h2 | h2 | h2
        · omega
        · rw [e1] at h2; cases h2
        · rw [e2.1] at h2; cases h2
    · rename_i h2
      simp only [not_or, Bool.not_eq_false] at h2
      refine ⟨fun _ => ⟨by omega, h2.2.1, ?_⟩, fun _ => rfl⟩
      simp only [Bool.and_eq_true, decide_eq_true_eq]
      exact ⟨h2.2.2, by omega⟩
theorem printRes_ok {fuel : Spn} {legs : List Leg} (h : tripE fuel legs 8 = 0) : printRes fuel legs = .tup [.v (.string (bytesOf (printB fuel legs))), .v (.int .i64 0)] := by rw [printRes, if_pos h]
theorem readP_of {text : List UInt8} {e : Int} {f : Spn} {l : List Leg} (h : readE text = (e, f, l)) : readP text = .tup [.agg f.cells, legL l, .v (.int .i64 e)] := by rw [readP, h]
end Go.Qg


namespace Go.Qg
open Go.RowKit (Below)
set_option maxRecDepth 100000
section
variable {P : Program} {N : Nat} {ops : Array Oper} {Q : Exit → Act → World → Prop} {a : Act} {w w' : World} {rest : List Nat} {i : Nat} {o : Oper}
theorem RegR_val {u : Value} (hi : ops[i]? = some o) (hg : o.guard = none) (hout : ∀ a w, ¬ Q .outgrown a w) (hr : (execOp a.eval o).run P w = .ok (.value u) w') (h : RegR P none ops rest Q (a.put o.dst u) w') : RegR P none ops (i :: rest) Q a w :=
  OpR_wp (K := fun a' w'' => a' = a.put o.dst u ∧ w'' = w') hi (by simp [Region.wanted, hg]) (.inl rfl) hout (wp_val' hr ⟨rfl, rfl⟩) rest fun a' w'' ⟨h1, h2⟩ => by subst h1 h2; exact h
theorem RegR_skip (hi : ops[i]? = some o) (hg : o.guard = none) (hdst : o.dst = none) (hout : ∀ a w, ¬ Q .outgrown a w) (hr : (execOp a.eval o).run P w = .ok .skip w') (h : RegR P none ops rest Q a w') : RegR P none ops (i :: rest) Q a w :=
  OpR_wp (K := fun a' w'' => a' = a ∧ w'' = w') hi (by simp [Region.wanted, hg]) (.inl rfl) hout (by unfold Oper.wp; rw [hr]; exact ⟨by rw [hdst]; rfl, rfl⟩) rest fun a' w'' ⟨h1, h2⟩ => by subst h1 h2; exact h
end
def spoiltWorld (w : World) (e : TypeId) (s : ByteArray) (k : Nat) (x : Int) : World := (Lib.bytesWorld w e s).setCell ⟨w.heap.size, k, none⟩ (.int .u8 x)
theorem spoilt_below (w : World) (e : TypeId) (s : ByteArray) (k : Nat) (x : Int) : Below w.heap.size w (spoiltWorld w e s k x) := by
  have h0 : Below w.heap.size w (Lib.bytesWorld w e s) := ⟨rfl, rfl, rfl, by rw [Lib.bytesWorld_size]; omega, fun k hk => Lib.bytesWorld_at_old w e s k hk⟩
  exact Below.setCell h0 (p := ⟨w.heap.size, k, none⟩) (Nat.le_refl _) _
theorem spoilt_cell (w : World) (e : TypeId) (s : ByteArray) {k : Nat} (hk : k < s.size) (x : Int) (j : Nat) (hj : j < s.size) :
    (spoiltWorld w e s k x).cell? ⟨w.heap.size, j, none⟩ = some (if j = k then .int .u8 x else .int .u8 (s.data.toList.getD j 0).toNat) := by
  unfold spoiltWorld
  have hc := Lib.bytesWorld_cell w e s k hk
  by_cases h : j = k
  · subst h
    rw [if_pos rfl]
    exact World.cell?_setCell_same _ _ _ hc
  · rw [if_neg h, World.cell?_setCell_other _ _ _ _ (by simpa using fun e => h e.symm)]
    exact Lib.bytesWorld_cell w e s j hj
theorem spoilt_store {P : Program} (w : World) (e t : TypeId) (s : ByteArray) {k : Nat} (hk : k < s.size) (x : Int) (hsz : tsz P t = some 1) :
    (Instr.storeAt t (.pointer (some ⟨w.heap.size, k, none⟩)) (.int .u8 x)).run P (Lib.bytesWorld w e s) = .ok () (spoiltWorld w e s k x) := by
  have hc := Lib.bytesWorld_cell w e s k hk
  have hf : (Lib.bytesWorld w e s).frozen? ⟨w.heap.size, k, none⟩ = false := by
    have hb : s.size ≤ (Lib.bytesCells w e s).size := by simp [Lib.bytesCells]
    unfold World.frozen?
    rw [Lib.bytesWorld_at_new]
    simp
    omega
  have hst := run_storeCells_cells (P := P) w.heap.size k [.int .u8 x] 0 (Lib.bytesWorld w e s) (fun j hj => by
    have : j = 0 := by simpa using hj
    subst this
    simp [hc]) (fun j hj => by
    have : j = 0 := by simpa using hj
    subst this
    simpa using hf) (fun v hv => by obtain rfl := List.mem_singleton.1 hv; rfl)
  have e1 : (Value.int .u8 x).cells = #[.int .u8 x] := rfl
  simp only [Instr.storeAt, Instr.sureAddr, Sem.run_bind, Sem.run_pure, Result.andThen_ok, storeVar, run_sizeOf hsz, e1]
  simpa [World.setCells, spoiltWorld] using hst
theorem spoilt_rep {w : World} {e : TypeId} {s : ByteArray} {k : Nat} {x : Int} {R : Nat → Nat → Prop} {Γ : Nat → Option Loc} (hk : k < s.size) (hm : s.size ≤ maxLen) {L : List UInt8} (hL : L.length = s.size) (hg : ∀ j, j < s.size → ((L.getD j 0).toNat : Int) = if j = k then x else (s.data.toList.getD j 0).toNat) :
    Rep (spoiltWorld w e s k x) (fun b o => R b o ∨ (b = w.heap.size ∧ o < s.size)) Γ (.slice (some ⟨w.heap.size, 0, none⟩) s.size (grownCap w s.size 0 e)) (.sl 1 L.length fun i => [.v (.int .u8 (L.getD i 0).toNat)]) := by
  rw [hL]
  refine .sl (some ⟨w.heap.size, 0, none⟩) s.size _ 1 _ (fun i _ => .int .u8 (L.getD i 0).toNat) (grownCap_ge w _ _ _) (grownCap_le_maxLen w _ _ _ hm) (fun _ _ => rfl) (fun i j p _ hp => ?_) (fun i j hi hj => ⟨w.heap.size, 0, rfl, .inr ⟨rfl, by omega⟩, ?_⟩) (fun i j p _ hp => ?_)
  · cases j with
    | zero => obtain rfl := Option.some.inj hp; exact ⟨rfl, rfl⟩
    | succ j => simp at hp
  · have : 0 + (i * 1 + j) = i := by omega
    rw [this, spoilt_cell w e s hk x i hi, hg i hi]
    split <;> rfl
  · cases j with
    | zero => obtain rfl := Option.some.inj hp; exact .v _ rfl
    | succ j => simp at hp
theorem mapM_bytes (L : List UInt8) : List.mapM rowByte ((List.range L.length).map fun i => [PV.v (.int .u8 (L.getD i 0).toNat)]) = some L := by
  have key : ∀ M : List UInt8, List.mapM rowByte (M.map fun c => [PV.v (.int .u8 c.toNat)]) = some M := fun M => by
    induction M with
    | nil => rfl
    | cons c M ih =>
      rw [List.map_cons, List.mapM_cons, ih]
      simp [rowByte]
  have e : (List.range L.length).map (fun i => [PV.v (.int .u8 (L.getD i 0).toNat)]) = L.map fun c => [PV.v (.int .u8 c.toNat)] := by
    refine List.ext_getElem? fun i => ?_
    by_cases h : i < L.length <;> simp [h, List.getD]
  rw [e]
  exact key L
end Go.Qg


namespace Go.Qg
open Go.Proofs Go.RowKit Go.Lib
set_option maxRecDepth 100000
set_option maxHeartbeats 1600000
section
variable {a : Act}
theorem ev_put {t : Nat} {u : Value} (h : t < a.tmps.size) : (a.put (some t) u).eval (.tmp t) = u := Act.put_get a t u h
theorem ev_put_ne {s t : Nat} {u : Value} (h : s ≠ t) : (a.put (some t) u).eval (.tmp s) = a.eval (.tmp s) := Act.put_get_ne a t u s h
end
abbrev a5 (b : Act) (V : Value) (k c : Int) : Act := ((((b.put (some 82) V).put (some 83) (.int .i64 k)).put (some 84) (.int .i64 c)).put (some 85) (.int .i64 (48 + c))).put (some 86) (.int .u8 (48 + c))
def spoiltT (T : List UInt8) (k c : Int) : List UInt8 := T.set k.toNat (UInt8.ofNat (48 + c.toNat))
@[simp] theorem spoiltT_len (T : List UInt8) (k c : Int) : (spoiltT T k c).length = T.length := by simp [spoiltT]
theorem XW_spoil {ι : Type} {N : Nat} {𝒞 : ι → Base → Prop} {i : ι} {Q : ι → PX → PF → Prop} {fr : PF} {T : List UInt8} {k c : Int} {rest : Code} {s0 s1 s2 s3 s4 s5 s6 s7 s8 s9 : String} {f0 f1 f2 f3 f4 f5 f6 f7 f8 f9 : Array Edge} {e0 e1 e2 e3 e4 e5 e6 e7 e8 e9 : TypeId}
    (hN : 88 ≤ N) (hT : T.length ≤ 1000000) (g9 : fr[9]? = some (.v (.string (bytesOf T)))) (g2 : fr[2]? = some (.v (.int .i64 k))) (g3 : fr[3]? = some (.v (.int .i64 c))) (hk0 : 0 ≤ k) (hk : k.toNat < T.length) (hc0 : 0 ≤ c) (hc9 : c ≤ 9)
    (hob : ∀ t ∈ [80, 81, 11, 82, 83, 84, 85, 86, 87], ∀ q, fr[t]? = some q → q.isObj = false)
    (h : XW Tryz.prog N 𝒞 i rest Q ((((((((((fr.set 80 .undef).set 81 .undef).set 11 .undef).set 82 .undef).set 83 (.v (.int .i64 k))).set 84 (.v (.int .i64 c))).set 85 (.v (.int .i64 (48 + c)))).set 86 .undef).set 87 .undef).set 11 (.sl 1 (spoiltT T k c).length fun i => [.v (.int .u8 ((spoiltT T k c).getD i 0).toNat)]))) :
    XW Tryz.prog N 𝒞 i (.seq (.region 8 #[⟨some 80, .move (.tmp 9), e0, s0, f0, none⟩, ⟨some 81, .convert 9 109 (.tmp 80), e1, s1, f1, none⟩, ⟨some 11, .assign (.tmp 81), e2, s2, f2, none⟩] false)
      (.seq (.region 9 #[⟨some 82, .move (.tmp 11), e3, s3, f3, none⟩, ⟨some 83, .move (.tmp 2), e4, s4, f4, none⟩, ⟨some 84, .move (.tmp 3), e5, s5, f5, none⟩, ⟨some 85, .binOp .add 3 (.const (.int .i64 48)) (.tmp 84) 3, e6, s6, f6, none⟩, ⟨some 86, .convert 3 5 (.tmp 85), e7, s7, f7, none⟩, ⟨some 87, .indexAddr 109 (.tmp 82) (.tmp 83), e8, s8, f8, none⟩, ⟨none, .store 5 (.tmp 87) (.tmp 86), e9, s9, f9, none⟩] false) rest)) Q fr := by
  intro B a w hC ⟨R, Γ, hs⟩
  have hsz : a.tmps.size = N := hs.size
  have v9 : a.eval (.tmp 9) = .string (bytesOf T) := by
    have h1 := hs.rdAt g9
    exact Rep.of_v h1
  have v2 : a.eval (.tmp 2) = .int .i64 k := Rep.of_v (hs.rdAt g2)
  have v3 : a.eval (.tmp 3) = .int .i64 c := Rep.of_v (hs.rdAt g3)
  have hsb : (bytesOf T).size = T.length := by simp [bytesOf, ByteArray.size]
  have hu8 : Tryz.prog.underlying 5 = some (.int .u8) := Tryz.underlying5
  have hw48 := i64_wrap (show -9223372036854775808 ≤ 48 + c ∧ _ from by omega)
  generalize hu11 : Value.slice (some ⟨w.heap.size, 0, none⟩) (bytesOf T).size (grownCap w (bytesOf T).size 0 5) = V at *
  have hout : ∀ (K : Act → World → Prop) a w, ¬ (Exit.then K (UpX N 𝒞 Q)) .outgrown a w := fun K a w h => upX_out a w h
  have put0 : ∀ {a : Act} {fr : PF} {t : Nat} {u : Value} {p : PV}, Sim N B R Γ a w fr → t < N → (∀ q, fr[t]? = some q → q.isObj = false) → Rep w R Γ u p → Sim N B R Γ (a.put (some t) u) w (fr.set t p) := by
    intro a fr t u p h0 ht ho hr
    have hn : Γ t = none := h0.noObj ho
    have h1 := h0.put (some t) (u := u) (p := p) (fun x hx => by obtain rfl := Option.some.inj hx; exact ht) (by
      cases hq : fr[t]? with
      | none => simp [pclear, hq]
      | some q => simp [pclear, hq, ho q hq]) hr
    have e : erase (some t) Γ = Γ := by
      funext s
      unfold erase
      split
      · rename_i hst; obtain rfl := Option.some.inj hst; exact hn.symm
      · rfl
    rwa [e] at h1
  refine wr_seq (wr_region ?_)
  show RegR _ none _ [0, 1, 2] _ a w
  refine RegR_val (u := .string (bytesOf T)) rfl rfl (hout _) (by rw [← v9]; rfl) ?_
  refine RegR_val (u := V) (w' := bytesWorld w 5 (bytesOf T)) rfl rfl (hout _) ?_ ?_
  · have := Lib.run_convert_string_bytes (P := Tryz.prog) w 9 109 5 (bytesOf T) Tryz.underlying9 Tryz.underlying109 hu8
    have e : (a.put (some 80) (.string (bytesOf T))).eval (.tmp 80) = .string (bytesOf T) := ev_put (by omega)
    rw [hu11] at this
    simp [execOp, e]
    rw [this]
    rfl
  refine RegR_val (u := V) rfl rfl (hout _) (by
    have e : ((a.put (some 80) (.string (bytesOf T))).put (some 81) V).eval (.tmp 81) = V := ev_put (by simp [Act.put_size]; omega)
    conv => rhs; rw [← e]
    rfl) ?_
  refine RegR_nil ?_
  show wr _ none (.seq _ rest) (UpX N 𝒞 Q) (((a.put (some 80) (.string (bytesOf T))).put (some 81) V).put (some 11) V) _
  have hs3 : Sim N B R Γ (((a.put (some 80) (.string (bytesOf T))).put (some 81) V).put (some 11) V) w (((fr.set 80 .undef).set 81 .undef).set 11 .undef) := by
    refine put0 (put0 (put0 hs (by omega) (hob 80 (by simp)) (.undef _)) (by omega) ?_ (.undef _)) (by omega) ?_ (.undef _)
    · rw [List.getElem?_set_ne (by decide)]; exact hob 81 (by simp)
    · rw [List.getElem?_set_ne (by decide), List.getElem?_set_ne (by decide)]; exact hob 11 (by simp)
  have z3 : (((a.put (some 80) (.string (bytesOf T))).put (some 81) V).put (some 11) V).tmps.size = N := hs3.size
  have w2 : (((a.put (some 80) (.string (bytesOf T))).put (some 81) V).put (some 11) V).eval (.tmp 2) = .int .i64 k := by
    rw [ev_put_ne (by decide), ev_put_ne (by decide), ev_put_ne (by decide), v2]
  have w3 : (((a.put (some 80) (.string (bytesOf T))).put (some 81) V).put (some 11) V).eval (.tmp 3) = .int .i64 c := by
    rw [ev_put_ne (by decide), ev_put_ne (by decide), ev_put_ne (by decide), v3]
  have w11 : (((a.put (some 80) (.string (bytesOf T))).put (some 81) V).put (some 11) V).eval (.tmp 11) = V := ev_put (by simp only [Act.put_size]; omega)
  generalize ((a.put (some 80) (.string (bytesOf T))).put (some 81) V).put (some 11) V = b at *
  clear hs hsz v9 v2 v3
  generalize hW : bytesWorld w 5 (bytesOf T) = W at *
  have hbel : Below w.heap.size w W := by
    rw [← hW]
    exact ⟨rfl, rfl, rfl, by rw [Lib.bytesWorld_size]; omega, fun k hk => Lib.bytesWorld_at_old w _ _ k hk⟩
  have no82 : ∀ t ∈ [82, 83, 84, 85, 86, 87], ∀ q, (((fr.set 80 PV.undef).set 81 .undef).set 11 .undef)[t]? = some q → q.isObj = false := fun t ht => by
    have h1 : t ≠ 80 ∧ t ≠ 81 ∧ t ≠ 11 := by
      simp only [List.mem_cons, List.not_mem_nil, or_false] at ht
      omega
    rw [List.getElem?_set_ne (Ne.symm h1.2.2), List.getElem?_set_ne (Ne.symm h1.2.1), List.getElem?_set_ne (Ne.symm h1.1)]
    exact hob t (by simp only [List.mem_cons, List.not_mem_nil, or_false] at ht ⊢; omega)
  have g11 : (((fr.set 80 PV.undef).set 81 .undef).set 11 .undef)[11]? = some .undef := by
    rw [List.getElem?_set_self]
    have := hs3.len
    simp only [List.length_set] at this ⊢
    omega
  generalize ((fr.set 80 PV.undef).set 81 .undef).set 11 .undef = gr at *
  have step : ∀ {a : Act} {fr : PF} {t : Nat} {u : Value} {p : PV}, Sim N B R Γ a w fr → t < N → fr[t]? = gr[t]? → t ∈ [82, 83, 84, 85, 86, 87] → Rep w R Γ u p → Sim N B R Γ (a.put (some t) u) w (fr.set t p) := fun h0 h1 h2 h3 h4 => put0 h0 h1 (fun q hq => no82 _ h3 q (h2 ▸ hq)) h4
  have k1 := step (p := .undef) (u := V) hs3 (t := 82) (by omega) rfl (by simp) (.undef _)
  have k2 := step (p := .v (.int .i64 k)) (u := .int .i64 k) k1 (t := 83) (by omega) (by simp) (by simp) (.v _ rfl)
  have k3 := step (p := .v (.int .i64 c)) (u := .int .i64 c) k2 (t := 84) (by omega) (by simp) (by simp) (.v _ rfl)
  have k4 := step (p := .v (.int .i64 (48 + c))) (u := .int .i64 (48 + c)) k3 (t := 85) (by omega) (by simp) (by simp) (.v _ rfl)
  have k5 := step (p := .undef) (u := .int .u8 (48 + c)) k4 (t := 86) (by omega) (by simp) (by simp) (.undef _)
  have k6 := step (p := .undef) (u := .pointer (some ⟨w.heap.size, k.toNat, none⟩)) k5 (t := 87) (by omega) (by simp) (by simp) (.undef _)
  have hu8w : IntKind.u8.wrap (48 + c) = 48 + c := by
    exact u8_wrap (by omega)
  have grow : ∀ {a : Act} {fr : PF}, Sim N B R Γ a w fr → Sim N B R Γ a W fr := fun h0 => h0.grown hbel R (fun _ _ h => h) fun _ _ h => .inl h
  refine wr_seq (wr_region ?_)
  show RegR _ none _ [0, 1, 2, 3, 4, 5, 6] _ b W
  refine RegR_val (w' := W) (u := V) rfl rfl (hout _) (by rw [← w11]; rfl) ?_
  refine RegR_val (w' := W) (u := .int .i64 k) rfl rfl (hout _) (by
    have e : (b.put (some 82) V).eval (.tmp 2) = .int .i64 k := by rw [ev_put_ne (by decide), w2]
    rw [← e]; rfl) ?_
  refine RegR_val (w' := W) (u := .int .i64 c) rfl rfl (hout _) (by
    have e : ((b.put (some 82) V).put (some 83) (.int .i64 k)).eval (.tmp 3) = .int .i64 c := by rw [ev_put_ne (by decide), ev_put_ne (by decide), w3]
    rw [← e]; rfl) ?_
  have vadd : ∀ o : Oper, o.op = .binOp .add 3 (.const (.int .i64 48)) (.tmp 84) 3 → (execOp (((b.put (some 82) V).put (some 83) (.int .i64 k)).put (some 84) (.int .i64 c)).eval o).run Tryz.prog W = .ok (.value (.int .i64 (48 + c))) W := fun o ho => by
    have hN84 : 84 < gr.length := by have := hs3.len; omega
    obtain ⟨u, h1, h2⟩ := pval_sound (P := Tryz.prog) (grow k3) (o := o) (p := .v (.int .i64 (48 + c))) (by
      rw [ho]
      simp [pval, rd, rdAt, hN84, hw48])
    rw [h1, Rep.of_v h2]
  have vconv : ∀ o : Oper, o.op = .convert 3 5 (.tmp 85) → (execOp ((((b.put (some 82) V).put (some 83) (.int .i64 k)).put (some 84) (.int .i64 c)).put (some 85) (.int .i64 (48 + c))).eval o).run Tryz.prog W = .ok (.value (.int .u8 (48 + c))) W := fun o ho => by
    have hN85 : 85 < gr.length := by have := hs3.len; omega
    obtain ⟨u, h1, h2⟩ := pval_sound (P := Tryz.prog) (grow k4) (o := o) (p := .v (.int .u8 (48 + c))) (by
      rw [ho]
      simp [pval, rd, rdAt, hN85, hu8w])
    rw [h1, Rep.of_v h2]
  refine RegR_val (w' := W) (u := .int .i64 (48 + c)) rfl rfl (hout _) (vadd _ rfl) ?_
  refine RegR_val (w' := W) (u := .int .u8 (48 + c)) rfl rfl (hout _) (vconv _ rfl) ?_
  have vaddr : ∀ o : Oper, o.op = .indexAddr 109 (.tmp 82) (.tmp 83) → (execOp (a5 b V k c).eval o).run Tryz.prog W = .ok (.value (.pointer (some ⟨w.heap.size, k.toNat, none⟩))) W := fun o ho => by
    have e : (a5 b V k c).eval (.tmp 83) = .int .i64 k := by
      rw [ev_put_ne (by decide), ev_put_ne (by decide), ev_put_ne (by decide), ev_put (by simp only [Act.put_size]; omega)]
    have e2 : (a5 b V k c).eval (.tmp 82) = V := by
      rw [ev_put_ne (by decide), ev_put_ne (by decide), ev_put_ne (by decide), ev_put_ne (by decide), ev_put (by omega)]
    generalize a5 b V k c = b5 at *
    obtain ⟨dst, op, ty, pos, after, gd⟩ := o
    obtain rfl : op = _ := ho
    rw [← hu11] at e2
    have hsz1 := run_sizeOf (P := Tryz.prog) (t := 5) (n := 1) (by kernel_rfl) W
    simp [execOp, e, e2, Instr.indexAt, asIntOf, run_underlying Tryz.underlying109, hk0, hsz1, hsb, show k < T.length from by omega]
    simp [Addr.add]
    omega
  refine RegR_val (w' := W) (u := .pointer (some ⟨w.heap.size, k.toNat, none⟩)) rfl rfl (hout _) (vaddr _ rfl) ?_
  show RegR _ none _ [6] _ ((a5 b V k c).put (some 87) (.pointer (some ⟨w.heap.size, k.toNat, none⟩))) W
  have z6 := k6.size
  generalize hb6 : (a5 b V k c).put (some 87) (.pointer (some ⟨w.heap.size, k.toNat, none⟩)) = b6 at *
  have y86 : b6.eval (.tmp 86) = .int .u8 (48 + c) := by
    rw [← hb6, ev_put_ne (by decide), ev_put (by simp only [Act.put_size]; omega)]
  have y87 : b6.eval (.tmp 87) = .pointer (some ⟨w.heap.size, k.toNat, none⟩) := by
    rw [← hb6, ev_put (by simp only [Act.put_size]; omega)]
  have vst : ∀ o : Oper, o.op = .store 5 (.tmp 87) (.tmp 86) → (execOp b6.eval o).run Tryz.prog W = .ok .skip (spoiltWorld w 5 (bytesOf T) k.toNat (48 + c)) := fun o ho => by
    obtain ⟨dst, op, ty, pos, after, gd⟩ := o
    obtain rfl : op = _ := ho
    have hst := spoilt_store (P := Tryz.prog) w 5 5 (bytesOf T) (k := k.toNat) (by omega) (48 + c) (by kernel_rfl)
    rw [hW] at hst
    simp [execOp, y86, y87]
    rw [hst]
    rfl
  refine RegR_skip (w' := spoiltWorld w 5 (bytesOf T) k.toNat (48 + c)) rfl rfl rfl (hout _) (vst _ rfl) ?_
  refine RegR_nil ?_
  show wr _ none rest (UpX N 𝒞 Q) _ _
  refine h B _ _ hC ?_
  have y11 : b6.eval (.tmp 11) = V := by
    rw [← hb6, ev_put_ne (by decide), ev_put_ne (by decide), ev_put_ne (by decide), ev_put_ne (by decide), ev_put_ne (by decide), ev_put_ne (by decide), w11]
  have k7 := k6.grown (spoilt_below w 5 (bytesOf T) k.toNat (48 + c)) (fun b o => R b o ∨ (b = w.heap.size ∧ o < (bytesOf T).size)) (fun _ _ h => .inl h) (fun x o hx => hx.imp_right fun hx => by
    have h1 : (spoiltWorld w 5 (bytesOf T) k.toNat (48 + c)).heap.size = (bytesWorld w 5 (bytesOf T)).heap.size := by
      unfold spoiltWorld
      simp
    rw [h1, Lib.bytesWorld_size]
    omega)
  refine (k7.reread (s := 11) (fun q hq => ?_) ?_).toE
  · rw [List.getElem?_set_ne (by decide), List.getElem?_set_ne (by decide), List.getElem?_set_ne (by decide), List.getElem?_set_ne (by decide), List.getElem?_set_ne (by decide), List.getElem?_set_ne (by decide), g11] at hq
    obtain rfl := Option.some.inj hq
    rfl
  · have e11 : b6.tmps.getD 11 undef = V := y11
    rw [e11, ← hu11]
    refine spoilt_rep (by omega) (by rw [hsb]; simp [maxLen]; omega) (by rw [spoiltT_len, hsb]) fun j hj => ?_
    rw [bytesOf_list, spoiltT, List.getD_eq_getElem?_getD, List.getElem?_set]
    by_cases hjk : k.toNat = j
    · subst hjk
      rw [if_pos rfl, if_pos hk, if_pos rfl]
      simp [UInt8.toNat_ofNat, -UInt8.ofNat_add]
      omega
    · rw [if_neg hjk, if_neg (Ne.symm hjk), List.getD_eq_getElem?_getD]
end Go.Qg


namespace Go.Qg
open Go.Proofs Go.RowKit Go.Lib
set_option maxRecDepth 100000
set_option maxHeartbeats 16000000
attribute [local irreducible] pwp pops pdraw pop popCall pdCall thenP blockP scopeP pspec Spec answers ppost CallW rend
theorem spoilt_D1 {T : List UInt8} {k c : Int} (hk0 : 0 ≤ k) (hk : k.toNat < T.length) (hc0 : 0 ≤ c) (hc9 : c ≤ 9) (h1 : 48 ≤ (T.getD k.toNat 0).toNat) (h2 : (T.getD k.toNat 0).toNat ≤ 57) (hne : ((T.getD k.toNat 0).toNat : Int) - 48 ≠ c) : D1 T (spoiltT T k c) := by
  have e : T = T.take k.toNat ++ T.getD k.toNat 0 :: T.drop (k.toNat + 1) := by
    have h := List.take_append_drop k.toNat T
    rw [List.drop_eq_getElem_cons hk] at h
    rw [List.getD_eq_getElem?_getD, List.getElem?_eq_getElem hk, Option.getD_some]
    exact h.symm
  have hw : (UInt8.ofNat (48 + c.toNat)).toNat = 48 + c.toNat := by
    rw [UInt8.toNat_ofNat']
    omega
  refine ⟨T.take k.toNat, T.getD k.toNat 0, UInt8.ofNat (48 + c.toNat), T.drop (k.toNat + 1), e, ?_, ?_, ?_, fun h => ?_⟩
  · rw [spoiltT, List.set_eq_take_append_cons_drop, if_pos hk]
  · exact ⟨by omega, by omega⟩
  · exact ⟨by omega, by omega⟩
  · rw [h, hw] at hne
    omega
theorem LoadSpoilt_spec (fuel : Spn) (legs : List Leg) (k c : Int) (hl : LegsLen legs) : Spec Tryz.prog 13 [.agg fuel.cells, legL legs, .v (.int .i64 k), .v (.int .i64 c)] (.v (.bool true)) := by
  have hll := hl.n
  have hp := Print_spec fuel legs hl.n hl.i
  have hfew := lfew_spec legs hl.n
  have hspan := rSpan_spec fuel 0 20000
  simp only [Spn.cells, legL] at hp hfew hspan
  unfold Spec
  refine callW_ofE Tryz.func13 (by decide) rfl (congrArg Array.toList Tryz.results13) Tryz.ntmps13 105 (by simp) (by decide) fun B0 hB0 hD0 => ?_
  have hlo : ∀ s B, ECtx B0 s B → B.lo = 105 := fun _ _ h => h.1.trans hB0
  refine XW_seqP mixed hlo (by decide) ?_
  simp [Spn.cells, legL]
  refine XW_seqP mixed hlo (by decide) ?_
  simp
  refine pop_spec hfew rfl false (.inl (by simp)) (.inl rfl) rfl (by simp) ?_
  cases g1 : fewB legs
  simp
  rotate_left
  simp
  by_cases h6 : legs.length ≤ 6
  rotate_left
  simp [show ¬ (legs.length : Int) ≤ 6 from by omega, show (6 : Int) < legs.length from by omega]
  rotate_right
  simp [show (legs.length : Int) ≤ 6 from by omega, show ¬ (6 : Int) < legs.length from by omega]
  refine pop_spec hspan rfl false (.inl (by simp)) (.inl rfl) rfl (by simp) ?_
  by_cases hs : spanB fuel 0 20000 = true
  rotate_left
  simp [hs]
  rotate_right
  simp [hs]
  have hlegs := rLegs_spec legs 8 hl (by omega)
  simp only [legL] at hlegs
  refine pop_spec hlegs rfl false (.inl (by simp)) (.inl rfl) rfl (by simp) ?_
  by_cases hg : legsB legs 8 = true
  rotate_left
  simp [hg]
  rotate_right
  have he : tripE fuel legs 8 = 0 := trip_parts.2 ⟨h6, hs, hg⟩
  rw [printRes_ok he] at hp
  have hlen := sheetT_len he
  have hTe : printB fuel legs = sheetT fuel legs := rfl
  by_cases c0 : c < 0
  simp [hg, c0, show ¬ 0 ≤ c from by omega]
  rotate_left
  have c1 : 0 ≤ c := by omega
  by_cases c9 : 9 < c
  simp [hg, c0, c1, c9, show ¬ c ≤ 9 from by omega]
  rotate_left
  simp [hg, c0, c1, c9, show c ≤ 9 from by omega]
  refine XW_seqP mixed hlo (by decide) ?_
  simp
  obtain ⟨T, hT⟩ : ∃ T, printB fuel legs = T := ⟨_, rfl⟩
  rw [hT] at hp hTe
  rw [← hTe] at hlen
  refine pop_spec hp rfl false (.inl (by simp)) (.inl rfl) rfl (by simp) ?_
  simp
  refine XW_seqP mixed hlo (by decide) ?_
  simp
  refine XW_seqP mixed hlo (by decide) ?_
  simp
  by_cases k0 : 0 ≤ k
  rotate_left
  simp [k0, show k < 0 from by omega]
  rotate_right
  by_cases k1 : k < T.length
  rotate_left
  simp [k0, k1, show (T.length : Int) ≤ k from by omega]
  rotate_right
  have hkT : k.toNat < T.length := by omega
  obtain ⟨d, hd⟩ : ∃ d : Int, ((T[k.toNat]'hkT).toNat : Int) = d := ⟨_, rfl⟩
  have hd1 : 0 ≤ d ∧ d ≤ 255 := by
    have := (T[k.toNat]'hkT).toNat_lt
    omega
  have k2 : ¬ k < 0 := by omega
  have k3 : ¬ (T.length : Int) ≤ k := by omega
  by_cases d1 : d < 48
  simp [k0, k1, k2, hd, k3, d1, show ¬ 48 ≤ d from by omega]
  rotate_left
  have d4 : 48 ≤ d := by omega
  by_cases d2 : 57 < d
  simp [k0, k1, k2, hd, k3, d1, d2, d4, show ¬ d ≤ 57 from by omega]
  rotate_left
  have d5 : d ≤ 57 := by omega
  have u1 : IntKind.u8.wrap (d - 48) = d - 48 := u8_wrap (by omega)
  have u2 := i64_wrap (show -9223372036854775808 ≤ d - 48 ∧ _ from by omega)
  have u3 := i64_wrap (show -9223372036854775808 ≤ c ∧ _ from by omega)
  have u4 : IntKind.u8.wrap c = c := u8_wrap (by omega)
  by_cases d3 : d - 48 = c
  simp [k0, k1, k2, hd, k3, d1, d2, d4, d5, u1, u2, u3, u4, d3]
  rotate_left
  simp [k0, k1, k2, hd, k3, d1, d2, d4, d5, u1, u2, u3, u4, d3]
  focus
    refine XW_spoil (T := T) (k := k) (c := c) (by decide) (by omega) rfl rfl rfl k0 hkT c1 (by omega) ?_ ?_
    · intro t ht q hq
      simp only [List.mem_cons, List.not_mem_nil, or_false] at ht
      rcases ht with rfl | rfl | rfl | rfl | rfl | rfl | rfl | rfl | rfl <;> (obtain rfl := Option.some.inj hq; rfl)
    have hD := spoilt_D1 (T := T) (k := k) (c := c) k0 hkT c1 (by omega) (by simp [hkT]; omega) (by simp [hkT]; omega) (by simp [hkT, hd]; omega)
    rw [hTe] at hD
    have hread := read_spoilt he hD
    rw [← hTe] at hread
    have hrd := Read_spec (spoiltT T k c) (by simp; omega)
    rw [readP_of hread] at hrd
    simp only [Spn.cells, legL] at hrd
    have hbytes := mapM_bytes (spoiltT T k c)
    simp only [List.mapM_map, List.getD_eq_getElem?_getD] at hbytes
    generalize spoiltT T k c = S at *
    simp
    refine XW_seqP mixed hlo (by decide) ?_
    simp [hbytes]
    refine pop_spec hrd rfl false (.inl (by simp [bytesOf])) (.inl rfl) rfl (by simp) ?_
    simp
    refine XW_seqP mixed hlo (by decide) ?_
    simp
    refine pop_spec known_spec rfl false (.inl (by simp)) (.inl rfl) rfl (by simp) ?_
    simp
    refine XW_pwp mixed hlo (by decide) ?_
    simp
    refine ends_of (.v (.bool true)) [] [] (x := .v (.bool true)) (by simp) (by decide) ?_ ?_ rfl <;> simp
  all_goals
    refine pop_spec known_spec rfl false (.inl (by simp)) (.inl rfl) rfl (by simp) ?_
    simp
    refine ends_of (.v (.bool true)) [] [] (x := .v (.bool true)) (by simp) (by decide) ?_ ?_ rfl <;> simp
end Go.Qg


namespace Go.Proofs.YtnjhblcfjhpoiaaGreatDoor.lawLoadSpoilt
open Go.Qg Go.ChangeAt Go.RowKit
set_option maxRecDepth 100000
theorem spec (args : List PV) (hl : Tryz.f13.params.toList.length = args.length) (h : ∀ (j : Nat) t p, Tryz.f13.params.toList[j]? = some t → args[j]? = some p → ArgP Tryz.prog 6 t p) : Qg.Spec Tryz.prog 13 args (.v (.bool true)) := by
  rw [Tryz.params13] at hl h
  match args, hl with
  | [a0, a1, a2, a3], _ =>
    obtain ⟨s0, rfl⟩ := a_spn (h 0 _ a0 rfl rfl)
    obtain ⟨l1, rfl, hl1, hi1⟩ := a_legs (h 1 _ a1 rfl rfl)
    obtain ⟨x2, rfl⟩ := a_int (h 2 _ a2 rfl rfl)
    obtain ⟨x3, rfl⟩ := a_int (h 3 _ a3 rfl rfl)
    exact LoadSpoilt_spec s0 l1 x2 x3 ⟨hl1, hi1⟩
theorem lifted (os : Os) (started : os.Started) (H : Type) (enc : TypeId × Value → H) :
    ReturnsInHanded {} Tryz.checked os 13 .any (fun w args => (Rows.loadSpoiltSpec.pre enc Tryz.prog Tryz.f13 Rows.loadSpoiltRow.domain false w args ∧ laidMet Tryz.prog laidL w) ∧ sizedMet enc Tryz.prog Tryz.f13 (OpenSpec.ofChange Rows.loadSpoiltSpec) false w args) (Rows.loadSpoiltSpec.post enc Tryz.prog Tryz.f13 false true false false) := by
  refine law_lifted (C := Tryz.checked) 6 (tb := 4) (laid := laidL) tabs_of_laid ownKnob_ started (by kernel_rfl) Tryz.func13
    (ChangeSpec.witness_at (enc := enc) (C := Tryz.checked) (os := os) (X := fun w _ => laidMet Tryz.prog laidL w) false (laidWorld os) #[.agg #[.int .i64 0, .int .i64 0], .slice none 0 0, .int .i64 0, .int .i64 0] 8 rfl (by kernel_rfl) (by kernel_rfl) (by kernel_rfl) (by kernel_rfl) (by kernel_rfl) (laid_met os _)) laidOut_ rfl (by kernel_rfl) (by kernel_rfl) Tryz.underlying4 ?_ spec
  intro ds hds
  match ds, hds with
  | [_, _, _, _], _ => exact ⟨rfl, rfl, rfl⟩
theorem LoadSpoilt_holds : Rows.LoadSpoiltSaid :=
  OpenClaim.holds_of_wide 13 Tryz.f13 rfl rfl rfl rfl rfl rfl rfl ⟨rfl, rfl, rfl, rfl, rfl⟩ rfl rfl rfl rfl rfl (by kernel_rfl) Tryz.func13 (by kernel_rfl)
    (of_decide_eq_true (by kernel_rfl)) (by unfold Func.isWrapper; first | (rw [if_pos (by decide +kernel)]; kernel_rfl) | (rw [if_neg (by decide +kernel)]; exact ⟨rfl, rfl⟩))
    (fun os started H enc _ => lifted os started H enc)
theorem LoadSpoilt_card : Rows.LoadSpoiltCardSaid :=
  Claim7.holds_tied_plain_at .later [] [.data, .data, .data, .data, .sentinel, .sentinel, .pinned] true (true, "5ead983eb76cd4f028fa487a1870d2e1f3e01aa43d232f67d0214a0db4d1ac67") true
    LoadSpoilt_holds (fun _ h => by cases h) (by kernel_rfl) (fun _ h => by cases h) loadSpoilt_row_tie rfl ⟨rfl, rfl⟩ (by kernel_rfl) rfl
    (fun f fn hf hfn => by
      obtain rfl : f = 13 := Option.some.inj ((show Tryz.prog.funcNamed "windsock/windsocklaw02.LoadSpoilt" = some 13 by kernel_rfl).symm.trans hf) |>.symm
      obtain rfl : fn = Tryz.f13 := (Option.some.inj (Tryz.func13.symm.trans hfn)).symm
      exact ⟨by kernel_rfl, fun j t ht => by
        rw [Tryz.params13] at ht
        have hm : t ∈ [37, 28, 3, 3] := by simpa using Array.mem_of_getElem? ht
        have hall : ([37, 28, 3, 3].all fun u => !Tryz.prog.wantsStandIn u) = true := by kernel_rfl
        have h := List.all_eq_true.1 hall t hm
        exact (show Tryz.prog.wantsStandIn t = false by simpa using h)⟩)
    (by kernel_rfl)
end Go.Proofs.YtnjhblcfjhpoiaaGreatDoor.lawLoadSpoilt

