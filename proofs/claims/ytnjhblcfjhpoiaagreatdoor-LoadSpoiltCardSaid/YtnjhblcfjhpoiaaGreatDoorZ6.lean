/-
  Lemmas and contracts that hold of the whole program: 21 texts in one.
  No condition.
-/
import Derived.Test.YtnjhblcfjhpoiaaGreatDoorZ5
import Derived.Shelf.Strings.Builder1
import Derived.Shelf.Strings.Builder2
import Derived.Shelf.Strings.OnBuilder
import Derived.Shelf.Strconv.Itoa0
import Derived.Shelf.Strconv.Itoa1
import Derived.Shelf.LaysM
import Derived.Shelf.Strconv.Itoa2
import Derived.Shelf.Strconv.Itoa3
import Derived.Test.YtnjhblcfjhpoiaaGreatDoorProg
import Derived.Lib.ItoaLen
import Derived.Lib.AppendIntMem
set_option linter.all false

namespace Go.Qg
open Go.Proofs Go.RowKit Go.Lib
set_option maxRecDepth 100000
set_option linter.unusedSimpArgs false
set_option maxHeartbeats 4000000
theorem sim_two {Prot : Nat → Prop} {w w' : World} {R : Nat → Nat → Prop} {Γ : Nat → Option Loc} {b sz ep ep' : Nat} {l0 l' : Option (Nat × Nat)} {x0 x1 y0 y1 : PV}
    (h0 : Sim 0 ⟨Prot, w, R, Γ, 0, []⟩ R Γ noAct w [x0, x1]) (hb : Γ 0 = some (.cells b)) (h1 : Γ 1 = some (.rows ep sz l0)) (hep : ep < ep')
    (hos : w'.os = w.os ∧ w'.tape = w.tape ∧ w'.output = w.output ∧ w.heap.size ≤ w'.heap.size) (hblk : ∀ k, k < w.heap.size → k ≠ b → (∀ cap, l0 ≠ some (k, cap)) → w'.heap[k]? = w.heap[k]?)
    (hl' : ∀ g cap, l' = some (g, cap) → (w.heap.size ≤ g ∨ ∃ cap0, l0 = some (g, cap0)) ∧ g < w'.heap.size)
    (s0 : SlotRep 0 w' R (fun i => if i = 0 then some (.cells b) else if i = 1 then some (.rows ep' sz l') else none) 0 undef y0)
    (s1 : SlotRep 0 w' R (fun i => if i = 0 then some (.cells b) else if i = 1 then some (.rows ep' sz l') else none) 1 undef y1) (o0 : y0.isObj = true) (o1 : y1.isObj = true) :
    Sim 0 ⟨Prot, w, R, Γ, 0, []⟩ R (fun i => if i = 0 then some (.cells b) else if i = 1 then some (.rows ep' sz l') else none) noAct w' [y0, y1] := by
  obtain ⟨hbp, hbs, hbR⟩ := (h0.own 0 _ hb).2 b rfl
  have hg : ∀ g cap, l' = some (g, cap) → g ≠ b ∧ ¬ Prot g ∧ g < w'.heap.size ∧ ∀ o, ¬ R g o := fun g cap e => by
    obtain ⟨h2, h3⟩ := hl' g cap e
    rcases h2 with h2 | ⟨cap0, rfl⟩
    · refine ⟨by omega, fun hp => ?_, h3, fun o ho => ?_⟩
      · have : g < w.heap.size := h0.prot.lt g hp
        omega
      · have := h0.bnd g o ho; omega
    · obtain ⟨k1, k2, k3⟩ := (h0.own 1 _ h1).2 g rfl
      refine ⟨fun e => ?_, k1, h3, k3⟩
      subst e
      have := h0.inj 0 1 _ _ g hb h1 rfl rfl
      cases this
  have len : ∀ i l, Γ i = some l → i = 0 ∨ i = 1 := fun i l hi => by
    obtain ⟨⟨p, hp, _⟩, _⟩ := h0.own i l hi
    match i, hp with
    | 0, _ => exact .inl rfl
    | 1, _ => exact .inr rfl
  refine ⟨rfl, Nat.zero_le _, fun t p hp => ?_, fun i j l m c hi hj hl hm => ?_, fun i l hi => ?_, fun c o hc => Nat.lt_of_lt_of_le (h0.bnd c o hc) hos.2.2.2, h0.sub, ⟨hos.1, hos.2.1, hos.2.2.1, hos.2.2.2, fun k hk => ?_⟩, h0.prot, Nat.le_refl _, fun j l _ hj => ?_, rfl⟩
  · match t, hp with
    | 0, hp => obtain rfl := Option.some.inj hp; exact s0
    | 1, hp => obtain rfl := Option.some.inj hp; exact s1
  · by_cases i0 : i = 0
    · subst i0
      simp only [if_true, Option.some.injEq] at hi
      subst hi
      obtain rfl := Option.some.inj hl
      by_cases j0 : j = 0
      · exact j0.symm
      · rw [if_neg j0] at hj
        by_cases j1 : j = 1
        · rw [if_pos j1, Option.some.injEq] at hj
          subst hj
          cases l' with
          | none => cases hm
          | some gc =>
            obtain ⟨g, cap⟩ := gc
            obtain rfl := Option.some.inj hm
            exact ((hg _ _ rfl).1 rfl).elim
        · rw [if_neg j1] at hj; cases hj
    · rw [if_neg i0] at hi
      by_cases i1 : i = 1
      · rw [if_pos i1, Option.some.injEq] at hi
        subst hi
        cases l' with
        | none => cases hl
        | some gc =>
          obtain ⟨g, cap⟩ := gc
          obtain rfl := Option.some.inj hl
          by_cases j0 : j = 0
          · rw [if_pos j0, Option.some.injEq] at hj
            subst hj
            obtain rfl := Option.some.inj hm
            exact ((hg _ _ rfl).1 rfl).elim
          · rw [if_neg j0] at hj
            by_cases j1 : j = 1
            · rw [i1, j1]
            · rw [if_neg j1] at hj; cases hj
      · rw [if_neg i1] at hi; cases hi
  · by_cases i0 : i = 0
    · subst i0
      simp only [if_true, Option.some.injEq] at hi
      subst hi
      refine ⟨⟨y0, rfl, o0⟩, fun c hc => ?_⟩
      obtain rfl := Option.some.inj hc
      exact ⟨hbp, Nat.lt_of_lt_of_le hbs hos.2.2.2, hbR⟩
    · rw [if_neg i0] at hi
      by_cases i1 : i = 1
      · subst i1
        simp only [if_true, Option.some.injEq] at hi
        subst hi
        refine ⟨⟨y1, rfl, o1⟩, fun c hc => ?_⟩
        cases l' with
        | none => cases hc
        | some gc =>
          obtain ⟨g, cap⟩ := gc
          obtain rfl := Option.some.inj hc
          exact (hg _ _ rfl).2
      · rw [if_neg i1] at hi; cases hi
  · refine hblk k (h0.prot.lt k hk) (fun e => hbp (e ▸ hk)) fun cap e => ?_
    exact ((h0.own 1 _ h1).2 k (by rw [e]; rfl)).1 hk
  · rcases len j l hj with rfl | rfl
    · have e := hb.symm.trans hj
      obtain rfl := Option.some.inj e
      exact ⟨_, rfl, Loc.le_refl _⟩
    · have e := h1.symm.trans hj
      obtain rfl := Option.some.inj e
      exact ⟨_, rfl, .inr ⟨_, _, _, _, _, _, rfl, rfl, hep⟩⟩
theorem rowsU_row {l : List UInt8} : ∀ r ∈ rowsU l, r.length = 1 ∧ ∀ p ∈ r, p.one = true := fun r hr => by
  obtain ⟨s, _, rfl⟩ := List.mem_map.1 hr
  exact ⟨rfl, fun p hp => by simp only [List.mem_cons, List.not_mem_nil, or_false] at hp; rcases hp with rfl; rfl⟩
theorem rowsU_cells {w : World} {R : Nat → Nat → Prop} {Γ : Nat → Option Loc} {l : List UInt8} {vs : Array Value} {cap : Nat} (hn : l.length ≤ cap) (hs : vs.size = cap * 1)
    (hr : ∀ (i j : Nat) (r : List PV) (p : PV) (x : Value), (rowsU l)[i]? = some r → r[j]? = some p → vs[i * 1 + j]? = some x → Rep w R Γ x p) (j : Nat) (y : UInt8) (hy : l[j]? = some y) : vs[j]? = some (.int .u8 y.toNat) := by
  have hj := lt_of_get? hy
  have hv : vs[j]? = some (vs[j]'(by omega)) := Array.getElem?_eq_getElem (by omega)
  have := hr j 0 [.v (.int .u8 y.toNat)] (.v (.int .u8 y.toNat)) _ (by simp [rowsU, hy]) rfl (by rw [Nat.mul_one, Nat.add_zero]; exact hv)
  generalize vs[j]'(by omega) = u at hv this
  rw [hv]
  cases this
  rfl
theorem wstr_spec (h : BoxF) (a : PV) (l : List UInt8) (x : Int) (s : ByteArray) (ep : Nat) (ha : (a = .ref 0 0 ∧ h = BoxF.of false) ∨ (a = .v (.pointer none) ∧ h = ⟨false, some 164⟩)) (hlen : l.length + s.size ≤ 140737488355328) :
    CallW Tryz.prog 123 [.ref 0 0, .v (.string s)] [.box h [a, .own 1 ep 0 l.length false, .v (.int .i64 x)], .rows none ep 5 1 (rowsU l)]
      (fun out => out = .ret .undef [.box false [.ref 0 0, .own 1 (ep + 1) 0 (l.length + s.size) false, .v (.int .i64 x)], .rows none (ep + 1) 5 1 (rowsU (l ++ s.data.toList))]) := by
  refine ⟨fun vs w => ?_, fun w vs R Γ Prot hRp h0 hlen' hrep => ?_⟩
  · simp only [callFunc, Sem.run_bind, run_program, Result.andThen_ok, Tryz.func123, show (Tryz.f123.name == "runtime.NumGoroutine") = false from by decide]
    rfl
  match vs, hlen' with
  | [u0, u1], _ =>
    have k0 := hrep 0 u0 _ rfl rfl
    have k1 := hrep 1 u1 _ rfl rfl
    obtain ⟨b, vs, T, hΓ0, hfl, hbk, hsz, _, hr0⟩ := h0.slot 0 _ rfl
    obtain ⟨l0, hΓ1, _, _, _, s1⟩ := h0.slot 1 _ rfl
    obtain ⟨p, v, y, rfl⟩ := arr3 (vs := vs) hsz
    have ry := hr0 2 y _ rfl rfl
    have rv := hr0 1 v _ rfl rfl
    have rp := hr0 0 p _ rfl rfl
    cases ry
    cases k0 with
    | ref _ _ b' hb' =>
    rw [hΓ0] at hb'
    obtain rfl := Loc.cells.inj (Option.some.inj hb')
    cases k1
    cases rv with
    | own _ _ _ _ _ _ ep2 sz2 l2 g1 g2 g3 g4 =>
    rw [hΓ1] at g1
    simp only [Option.some.injEq, Loc.rows.injEq] at g1
    obtain ⟨rfl, rfl, rfl⟩ := g1
    have g5 := g4 rfl
    have hp : p = .pointer (some ⟨b, 0, none⟩) ∨ (p = .pointer none ∧ T = 164) := by
      rcases ha with ⟨rfl, rfl⟩ | ⟨rfl, rfl⟩
      · cases rp with
        | ref _ _ b2 hb2 =>
        rw [hΓ0] at hb2
        obtain rfl := Loc.cells.inj (Option.some.inj hb2)
        exact .inl rfl
      · cases rp
        exact .inr ⟨rfl, hfl.2 _ rfl⟩
    have hown : w.ownsRow 0 5 1 v l.length (byteCells l) := by
      refine ⟨by simp [byteCells], ?_⟩
      cases l0 with
      | none => exact .inl ⟨g5.1, g5.2.1⟩
      | some gc =>
        obtain ⟨g, cap⟩ := gc
        obtain ⟨cur, q1, q2, q3, q4, q5⟩ := s1
        obtain ⟨hv, _⟩ := g5
        simp only [rowsU_length] at q2
        refine .inr ⟨g, cap, cur, by simpa using hv, Nat.zero_le _, q1, q2, q3, q4, ?_⟩
        refine List.ext_getElem? fun j => ?_
        by_cases hj : j < l.length
        · rw [List.getElem?_take_of_lt (by omega), Array.getElem?_toList, rowsU_cells q2 q4 q5 j l[j] (List.getElem?_eq_getElem hj)]
          simp [byteCells, hj]
        · rw [List.getElem?_eq_none (by simp; omega), List.getElem?_eq_none (by simp [byteCells]; omega)]
    have hvl : ∀ g, v.ownBlock = some g → ∃ cap, l0 = some (g, cap) := fun g hg => by
      cases l0 with
      | none => rw [g5.1] at hg; cases hg
      | some gc =>
        obtain ⟨g', cap⟩ := gc
        rw [g5.1] at hg
        obtain rfl := Option.some.inj hg
        exact ⟨cap, rfl⟩
    have hne : v.ownBlock ≠ some b := fun e => by
      obtain ⟨cap, rfl⟩ := hvl b e
      have := h0.inj 0 1 _ _ b hΓ0 hΓ1 rfl rfl
      cases this
    refine (wstr3 b T p v (.int .i64 x) l.length (byteCells l) s w hbk hp hown hne hlen).mono ?_
    rintro e w' ⟨⟨r, rfl⟩, v', m1, m2, m3, m4, m5⟩
    have hcells : byteCells l ++ strCells s = byteCells (l ++ s.data.toList) := by simp [byteCells, strCells]
    rw [hcells] at m2
    have hln : (l ++ s.data.toList).length = l.length + s.size := by rw [List.length_append, Array.length_toList]; rfl
    obtain ⟨l', hl1, hl2⟩ : ∃ l' : Option (Nat × Nat), OwnAt l' 1 0 (l.length + s.size) false v' ∧ (match l' with
        | none => rowsU (l ++ s.data.toList) = []
        | some (g, cap) => v'.ownBlock = some g ∧ ∃ cur, w'.heap[g]? = some (.cells cur 5 (0, 0)) ∧ (rowsU (l ++ s.data.toList)).length ≤ cap ∧ cap ≤ maxLen ∧ cur.size = cap * 1 ∧ ∀ j, j < (l ++ s.data.toList).length → cur[j]? = (byteCells (l ++ s.data.toList))[j]?) := by
      rcases m2.2 with ⟨e1, e2⟩ | ⟨g, cap, cur, e1, _, e3, e4, e5, e6, e7⟩
      · refine ⟨none, ⟨e1, e2, rfl⟩, ?_⟩
        have : l ++ s.data.toList = [] := List.eq_nil_of_length_eq_zero (by omega)
        rw [this]; rfl
      · refine ⟨some (g, cap), ⟨by simpa using e1, by omega⟩, by rw [e1]; rfl, cur, e3, by simp only [rowsU_length]; omega, e5, e6, fun j hj => ?_⟩
        rw [← e7, List.getElem?_take_of_lt (by omega), Array.getElem?_toList]
    refine ⟨R, _, .inl ⟨r, .undef, _, rfl, rfl, .undef _, sim_two (l' := l') (ep' := ep + 1) h0 hΓ0 hΓ1 (by omega) m4 (fun k hk hkb hkl => m5 k hk hkb fun e => ?_) (fun g cap e => ?_) ?_ ?_ rfl rfl, ?_⟩⟩
    · obtain ⟨cap, hc⟩ := hvl k e.symm
      exact hkl cap hc
    · subst e
      obtain ⟨hg, cur, hcur, _⟩ := hl2
      refine ⟨?_, ?_⟩
      · rcases m3 g hg with h' | h'
        · obtain ⟨cap0, hc⟩ := hvl g h'
          exact .inr ⟨cap0, hc⟩
        · exact .inl h'
      · rcases Nat.lt_or_ge g w'.heap.size with h' | h'
        · exact h'
        · simp [Array.getElem?_eq_none h'] at hcur
    · refine ⟨b, _, T, rfl, ⟨fun e => Bool.noConfusion e, fun y e => (by cases e)⟩, m1, rfl, fun q hq => ?_, fun j u q hu hq => ?_⟩
      · simp only [List.mem_cons, List.not_mem_nil, or_false] at hq
        rcases hq with rfl | rfl | rfl <;> rfl
      · match j, hu, hq with
        | 0, hu, hq =>
          obtain rfl := Option.some.inj hu
          obtain rfl := Option.some.inj hq
          exact .ref 0 0 b rfl
        | 1, hu, hq =>
          obtain rfl := Option.some.inj hu
          obtain rfl := Option.some.inj hq
          refine .own 1 (ep + 1) 0 _ false _ (ep + 1) 1 l' rfl (Nat.le_refl _) ?_ fun _ => hl1
          rcases m2.2 with ⟨e1, _⟩ | ⟨g, cap, cur, e1, _⟩ <;> rw [e1] <;> rfl
        | 2, hu, hq =>
          obtain rfl := Option.some.inj hu
          obtain rfl := Option.some.inj hq
          exact .v _ rfl
    · refine ⟨l', rfl, fun _ _ e => (by cases e), rowsU_row, by omega, ?_⟩
      cases l' with
      | none => exact hl2
      | some gc =>
        obtain ⟨g, cap⟩ := gc
        obtain ⟨_, cur, t1, t2, t3, t4, t5⟩ := hl2
        refine ⟨cur, t1, t2, t3, t4, fun i j r q z hr hq hz => ?_⟩
        have hi := lt_of_get? hr
        simp only [rowsU_length] at hi
        simp only [rowsU, List.getElem?_map, Option.map_eq_some_iff] at hr
        obtain ⟨c, hc, rfl⟩ := hr
        match j, hq with
        | 0, hq =>
          obtain rfl := Option.some.inj hq
          have := t5 i hi
          simp only [Nat.mul_one, Nat.add_zero] at hz
          rw [hz] at this
          simp only [byteCells, List.getElem?_map, hc, Option.map_some, Option.some.injEq] at this
          rw [this]
          exact .v _ rfl
    · intro q hq
      simp only [List.mem_cons, List.not_mem_nil, or_false] at hq
      rcases hq with rfl | rfl <;> rfl
theorem bstr_spec (l : List UInt8) (x : Int) (ep : Nat) (h0l : l ≠ []) :
    CallW Tryz.prog 99 [.ref 0 0] [.box false [.ref 0 0, .own 1 ep 0 l.length false, .v (.int .i64 x)], .rows none ep 5 1 (rowsU l)]
      (fun out => out = .ret (.v (.string ⟨l.toArray⟩)) [.box false [.ref 0 0, .own 1 ep 0 l.length false, .v (.int .i64 x)], .rows none (ep + 1) 5 1 []]) := by
  refine ⟨fun vs w => ?_, fun w vs R Γ Prot hRp h0 hlen' hrep => ?_⟩
  · simp only [callFunc, Sem.run_bind, run_program, Result.andThen_ok, Tryz.func99, show (Tryz.f99.name == "runtime.NumGoroutine") = false from by decide]
    rfl
  match vs, hlen' with
  | [u0], _ =>
    have k0 := hrep 0 u0 _ rfl rfl
    obtain ⟨b, vs, T, hΓ0, hfl, hbk, hsz, hone, hr0⟩ := h0.slot 0 _ rfl
    obtain ⟨l0, hΓ1, _, _, _, s1⟩ := h0.slot 1 _ rfl
    obtain ⟨p, v, y, rfl⟩ := arr3 (vs := vs) hsz
    have ry := hr0 2 y _ rfl rfl
    have rv := hr0 1 v _ rfl rfl
    have rp := hr0 0 p _ rfl rfl
    cases ry
    cases k0 with
    | ref _ _ b' hb' =>
    rw [hΓ0] at hb'
    obtain rfl := Loc.cells.inj (Option.some.inj hb')
    cases rp with
    | ref _ _ b2 hb2 =>
    rw [hΓ0] at hb2
    obtain rfl := Loc.cells.inj (Option.some.inj hb2)
    cases rv with
    | own _ _ _ _ _ _ ep2 sz2 l2 g1 g2 g3 g4 =>
    rw [hΓ1] at g1
    simp only [Option.some.injEq, Loc.rows.injEq] at g1
    obtain ⟨rfl, rfl, rfl⟩ := g1
    have g5 := g4 rfl
    cases l0 with
    | none => exact (h0l (List.eq_nil_of_length_eq_zero g5.2.1)).elim
    | some gc =>
    obtain ⟨g, cap⟩ := gc
    obtain ⟨cur, q1, q2, q3, q4, q5⟩ := s1
    obtain ⟨hv, _⟩ := g5
    simp only [rowsU_length] at q2
    have hv' : v = .slice (some ⟨g, 0, none⟩) l.length cap := by simpa using hv
    subst hv'
    have hgb : g ≠ b := fun e => by
      subst e
      have := h0.inj 0 1 _ _ g hΓ0 hΓ1 rfl rfl
      cases this
    refine (str3 b g cap T _ (.int .i64 x) cur l h0l w hbk q1 q2 q3 (by omega) (rowsU_cells q2 q4 q5)).mono ?_
    rintro e w' ⟨rfl, m4, m5⟩
    refine ⟨R, _, .inl ⟨_, _, _, rfl, rfl, .v _ rfl, sim_two (l' := none) (ep' := ep + 1) h0 hΓ0 hΓ1 (by omega) ⟨m4.1, m4.2.1, m4.2.2.1, Nat.le_of_eq m4.2.2.2⟩ (fun k hk hkb hkl => m5 k fun e => hkl cap (by rw [e])) (fun g cap e => by cases e) ?_ ?_ rfl rfl, ?_⟩⟩
    · refine ⟨b, _, T, rfl, ⟨fun e => Bool.noConfusion e, fun y e => (by cases e)⟩, (m5 b hgb.symm).trans hbk, rfl, hone, fun j u q hu hq => ?_⟩
      match j, hu, hq with
      | 0, hu, hq =>
        obtain rfl := Option.some.inj hu
        obtain rfl := Option.some.inj hq
        exact .ref 0 0 b rfl
      | 1, hu, hq =>
        obtain rfl := Option.some.inj hu
        obtain rfl := Option.some.inj hq
        exact .own 1 ep 0 _ false _ (ep + 1) 1 none rfl (by omega) rfl fun e => by omega
      | 2, hu, hq =>
        obtain rfl := Option.some.inj hu
        obtain rfl := Option.some.inj hq
        exact .v _ rfl
    · exact ⟨none, rfl, fun _ _ e => (by cases e), fun r hr => (by cases hr), by omega, rfl⟩
    · intro q hq
      simp only [List.mem_cons, List.not_mem_nil, or_false] at hq
      rcases hq with rfl | rfl <;> rfl
end Go.Qg

namespace Go.Proofs
open Go.Shelf
def Tryz.lays156_ren : Go.Shelf.Ren := ⟨fun | 156 => 124 | 165 => 149 | 166 => 123 | 169 => 99 | 240 => 148 | 241 => 158 | 276 => 157 | 277 => 164 | n => n, fun | 31 => 166 | 9 => 9 | 3 => 3 | 4 => 4 | 0 => 0 | 20 => 20 | 72 => 162 | 76 => 203 | 70 => 160 | 37 => 109 | 75 => 202 | 127 => 206 | 164 => 226 | 5 => 5 | 80 => 167 | n => n, fun | n => n⟩
theorem Tryz.lays156 : Go.Proofs.Lays.n156 Tryz.prog Tryz.lays156_ren := {
  mixed := by kernel_rfl
  f156 := Tryz.func124.trans (congrArg some (by kernel_rfl))
  f165 := Tryz.func149.trans (congrArg some (by kernel_rfl))
  f166 := Tryz.func123.trans (congrArg some (by kernel_rfl))
  f169 := Tryz.func99.trans (congrArg some (by kernel_rfl))
  f240 := Tryz.func148.trans (congrArg some (by kernel_rfl))
  f241 := Tryz.func158.trans (congrArg some (by kernel_rfl))
  f276 := Tryz.func157.trans (congrArg some (by kernel_rfl))
  f277 := Tryz.func164.trans (congrArg some (by kernel_rfl))
  t0 := Tryz.underlying0
  a0 := Tryz.isAgg0
  z0 := Tryz.sizeOf0
  v0 := Tryz.zeroValue0
  t3 := Tryz.underlying3
  a3 := Tryz.isAgg3
  z3 := Tryz.sizeOf3
  v3 := Tryz.zeroValue3
  t4 := Tryz.underlying4
  a4 := Tryz.isAgg4
  z4 := Tryz.sizeOf4
  v4 := Tryz.zeroValue4
  t9 := Tryz.underlying9
  a9 := Tryz.isAgg9
  z9 := Tryz.sizeOf9
  v9 := Tryz.zeroValue9
  t20 := Tryz.underlying20
  a20 := Tryz.isAgg20
  z20 := Tryz.sizeOf20
  v20 := Tryz.zeroValue20
  t31 := Tryz.underlying166
  a31 := Tryz.isAgg166
  z31 := Tryz.sizeOf166
  v31 := Tryz.zeroValue166
  t37 := Tryz.underlying109
  a37 := Tryz.isAgg109
  z37 := Tryz.sizeOf109
  v37 := Tryz.zeroValue109
  t70 := Tryz.underlying160
  a70 := Tryz.isAgg160
  z70 := Tryz.sizeOf160
  v70 := Tryz.zeroValue160
  t72 := Tryz.underlying162
  a72 := Tryz.isAgg162
  z72 := Tryz.sizeOf162
  v72 := Tryz.zeroValue162
  t75 := Tryz.underlying202
  a75 := Tryz.isAgg202
  z75 := Tryz.sizeOf202
  v75 := Tryz.zeroValue202
  t76 := Tryz.underlying203
  a76 := Tryz.isAgg203
  z76 := Tryz.sizeOf203
  v76 := Tryz.zeroValue203
  t127 := Tryz.underlying206
  a127 := Tryz.isAgg206
  z127 := Tryz.sizeOf206
  v127 := Tryz.zeroValue206
  t164 := Tryz.underlying226
  a164 := Tryz.isAgg226
  z164 := Tryz.sizeOf226
  v164 := Tryz.zeroValue226 }
theorem Tryz.Builder_Extra_156 : Builder.Extra Tryz.prog Tryz.lays156_ren := {
  sizeBuilder := by kernel_rfl
  liesBuilder := by kernel_rfl
  t5 := Tryz.underlying5
  a5 := Tryz.isAgg5
  z5 := Tryz.sizeOf5
  v5 := Tryz.zeroValue5
  infoByte := by kernel_rfl
  cellsByte := by kernel_rfl
  sizeByte := by kernel_rfl
  neB5 := by decide }
open Go.RowKit in
theorem Tryz.strings_Join_none (a : Option Addr) (c : Nat) (sep : ByteArray) (w : World) :
    Calls Tryz.prog 124 #[.slice a 0 c, .string sep] w fun e w' => e = .returned (.string ⟨#[]⟩) ∧ w' = w := Any.strings_Join_none Tryz.lays156 Tryz.Builder_Extra_156 a c sep w
open Go.RowKit in
theorem Tryz.strings_Join (bk o c : Nat) (xs : List ByteArray) (sep : ByteArray) (w : World) (hcells : ∀ (j : Nat) x, xs[j]? = some x → w.cell? ⟨bk, o + j, none⟩ = some (.string x)) (hbk : bk < w.heap.size) (hN : xs.length ≤ 140737488355328) (hcap : xs.length ≤ c) (hlen : (Lib.join (xs.map (·.data.toList)) sep.data.toList).length ≤ 140737488355328) :
    Calls Tryz.prog 124 #[.slice (some ⟨bk, o, none⟩) xs.length c, .string sep] w fun e w' => e = .returned (.string ⟨(Lib.join (xs.map (·.data.toList)) sep.data.toList).toArray⟩) ∧ Below w.heap.size w w' := Any.strings_Join Tryz.lays156 Tryz.Builder_Extra_156 bk o c xs sep w hcells hbk hN hcap hlen
def Tryz.laysM171_ren : Go.Shelf.Ren := ⟨fun | 171 => 125 | 243 => 150 | 246 => 159 | 283 => 165 | 284 => 166 | 285 => 167 | 286 => 168 | 129 => 179 | 317 => 178 | 318 => 180 | 319 => 181 | 320 => 182 | 337 => 193 | 338 => 194 | n => n, fun | 3 => 3 | 9 => 9 | 2 => 2 | 4 => 4 | 171 => 232 | 0 => 0 | 53 => 233 | 37 => 109 | 5 => 5 | 173 => 236 | 212 => 247 | 51 => 248 | 20 => 20 | 213 => 249 | 46 => 250 | 232 => 268 | 233 => 269 | n => n, fun | 17 => 1 | 18 => 4 | 19 => 5 | n => n⟩
theorem Tryz.laysM171 : Go.Proofs.LaysM.n171 Tryz.prog Tryz.laysM171_ren := {
  mixed := by kernel_rfl
  f129 := Tryz.func179.trans (congrArg some (by kernel_rfl))
  f171 := Tryz.func125.trans (congrArg some (by kernel_rfl))
  f243 := Tryz.func150.trans (congrArg some (by kernel_rfl))
  f246 := Tryz.func159.trans (congrArg some (by kernel_rfl))
  f283 := Tryz.func165.trans (congrArg some (by kernel_rfl))
  f284 := Tryz.func166.trans (congrArg some (by kernel_rfl))
  f285 := Tryz.func167.trans (congrArg some (by kernel_rfl))
  f286 := Tryz.func168.trans (congrArg some (by kernel_rfl))
  f317 := Tryz.func178.trans (congrArg some (by kernel_rfl))
  f318 := Tryz.func180.trans (congrArg some (by kernel_rfl))
  f319 := Tryz.func181.trans (congrArg some (by kernel_rfl))
  f320 := Tryz.func182.trans (congrArg some (by kernel_rfl))
  f337 := Tryz.func193.trans (congrArg some (by kernel_rfl))
  f338 := Tryz.func194.trans (congrArg some (by kernel_rfl))
  t0 := Tryz.underlying0
  a0 := Tryz.isAgg0
  z0 := Tryz.sizeOf0
  v0 := Tryz.zeroValue0
  t2 := Tryz.underlying2
  a2 := Tryz.isAgg2
  z2 := Tryz.sizeOf2
  v2 := Tryz.zeroValue2
  t3 := Tryz.underlying3
  a3 := Tryz.isAgg3
  z3 := Tryz.sizeOf3
  v3 := Tryz.zeroValue3
  t4 := Tryz.underlying4
  a4 := Tryz.isAgg4
  z4 := Tryz.sizeOf4
  v4 := Tryz.zeroValue4
  t5 := Tryz.underlying5
  a5 := Tryz.isAgg5
  z5 := Tryz.sizeOf5
  v5 := Tryz.zeroValue5
  t9 := Tryz.underlying9
  a9 := Tryz.isAgg9
  z9 := Tryz.sizeOf9
  v9 := Tryz.zeroValue9
  t20 := Tryz.underlying20
  a20 := Tryz.isAgg20
  z20 := Tryz.sizeOf20
  v20 := Tryz.zeroValue20
  t37 := Tryz.underlying109
  a37 := Tryz.isAgg109
  z37 := Tryz.sizeOf109
  v37 := Tryz.zeroValue109
  t46 := Tryz.underlying250
  a46 := Tryz.isAgg250
  z46 := Tryz.sizeOf250
  v46 := Tryz.zeroValue250
  t51 := Tryz.underlying248
  a51 := Tryz.isAgg248
  z51 := Tryz.sizeOf248
  v51 := Tryz.zeroValue248
  t53 := Tryz.underlying233
  a53 := Tryz.isAgg233
  z53 := Tryz.sizeOf233
  v53 := Tryz.zeroValue233
  t171 := Tryz.underlying232
  a171 := Tryz.isAgg232
  z171 := Tryz.sizeOf232
  v171 := Tryz.zeroValue232
  t173 := Tryz.underlying236
  a173 := Tryz.isAgg236
  z173 := Tryz.sizeOf236
  v173 := Tryz.zeroValue236
  t212 := Tryz.underlying247
  a212 := Tryz.isAgg247
  z212 := Tryz.sizeOf247
  v212 := Tryz.zeroValue247
  t213 := Tryz.underlying249
  a213 := Tryz.isAgg249
  z213 := Tryz.sizeOf249
  t232 := Tryz.underlying268
  a232 := Tryz.isAgg268
  z232 := Tryz.sizeOf268
  v232 := Tryz.zeroValue268
  t233 := Tryz.underlying269
  a233 := Tryz.isAgg269
  z233 := Tryz.sizeOf269
  v233 := Tryz.zeroValue269
  g17 := by kernel_rfl
  g18 := by kernel_rfl
  g19 := by kernel_rfl
  i0 := by kernel_rfl
  i2 := by kernel_rfl
  i3 := by kernel_rfl
  i4 := by kernel_rfl
  i5 := by kernel_rfl
  i9 := by kernel_rfl
  i20 := by kernel_rfl
  i37 := by kernel_rfl
  i46 := by kernel_rfl
  i51 := by kernel_rfl
  i53 := by kernel_rfl
  i171 := by kernel_rfl
  i173 := by kernel_rfl
  i212 := by kernel_rfl
  i232 := by kernel_rfl
  i233 := by kernel_rfl
  m17 := by kernel_rfl
  m18 := by kernel_rfl
  m19 := by kernel_rfl }
open Go.RowKit Go.Sort Go.Lib in
theorem Tryz.strconv_Itoa (n : Int) (h0 : -9223372036854775808 ≤ n) (h1 : n ≤ 9223372036854775807) (w : World) (htab : Lib.TabIs Tryz.prog w "internal/strconv.uint64pow10" .u64 Lib.pow10Tab) :
    Calls Tryz.prog 125 #[.int .i64 n] w fun e w' => e = .returned (.string ⟨(Lib.itoa n).toArray⟩) ∧ ∃ k os, w' = grow (w.drewN k) os := Any.strconv_Itoa Tryz.laysM171 n h0 h1 w htab
end Go.Proofs

namespace Go.Qg
open Go.Proofs Go.RowKit Go.Lib
set_option maxRecDepth 100000
set_option linter.unusedSimpArgs false
set_option maxHeartbeats 4000000
theorem spec_of_calls {P : Program} {f : FuncId} {ps : List PV} {r : Value} (hr : r.oneCell' = true) (hent : ∀ (vs : Array Value) (w : World), (callFunc f vs).run P w = .ok (.enter f vs) w)
    (h : ∀ (w : World) (vs : List Value) (R : Nat → Nat → Prop) (Γ : Nat → Option Loc) (Prot : Nat → Prop), tabOk Prot w → (∀ b o, R b o → b < w.heap.size) → vs.length = ps.length →
      (∀ (i : Nat) (u : Value) (p : PV), vs[i]? = some u → ps[i]? = some p → Rep w R Γ u p) → Calls P f vs.toArray w fun e w' => e = .returned r ∧ Below w.heap.size w w') : Spec P f ps (.v r) := by
  refine ⟨hent, fun w vs R Γ Prot hRp h0 hl hrep => (h w vs R Γ Prot h0.prot.tab h0.bnd hl hrep).mono ?_⟩
  rintro e w' ⟨rfl, hb⟩
  exact ⟨R, Γ, .inl ⟨r, .v r, [], rfl, rfl, .v r hr, h0.grown hb R (fun _ _ x => x) (fun _ _ x => .inl x), fun q hq => by cases hq⟩⟩
theorem itoa_spec (n : Int) (h0 : -9223372036854775808 ≤ n) (h1 : n ≤ 9223372036854775807) : Spec Tryz.prog 125 [.v (.int .i64 n)] (.v (.string ⟨(Lib.itoa n).toArray⟩)) := by
  refine spec_of_calls rfl (fun vs w => ?_) fun w vs R Γ Prot hT hb hl hrep => ?_
  · simp only [callFunc, Sem.run_bind, run_program, Result.andThen_ok, Tryz.func125, show (Tryz.f125.name == "runtime.NumGoroutine") = false from by decide]
    rfl
  match vs, hl with
  | [u0], _ =>
    have k0 := hrep 0 u0 _ rfl rfl
    cases k0
    obtain ⟨_, cs, t, fz, hh, hcs⟩ := hT 1 _ (by simp [seatTabs]; rfl)
    have htab : Lib.TabIs Tryz.prog w "internal/strconv.uint64pow10" .u64 Lib.pow10Tab := by
      have hg : Tryz.prog.globalNamed "internal/strconv.uint64pow10" = some 1 := by kernel_rfl
      simp only [Lib.TabIs, World.var?, hg, Option.bind_some, hh]
      rw [hcs]
      rfl
    refine (Tryz.strconv_Itoa n h0 h1 w htab).mono ?_
    rintro e w' ⟨rfl, k, os, rfl⟩
    exact ⟨rfl, below_grow _ w (Nat.le_refl _) k os⟩
def strsL (xs : List ByteArray) : PV := .sl 1 xs.length fun i => [.v (.string (xs.getD i ByteArray.empty))]
def joinB (xs : List ByteArray) (sep : ByteArray) : List UInt8 := Lib.join (xs.map (·.data.toList)) sep.data.toList
theorem join_spec (xs : List ByteArray) (sep : ByteArray) (hx : xs ≠ []) (hN : xs.length ≤ 140737488355328) (hlen : (joinB xs sep).length ≤ 140737488355328) :
    Spec Tryz.prog 124 [strsL xs, .v (.string sep)] (.v (.string ⟨(joinB xs sep).toArray⟩)) := by
  refine spec_of_calls rfl (fun vs w => ?_) fun w vs R Γ Prot hT hb hl hrep => ?_
  · simp only [callFunc, Sem.run_bind, run_program, Result.andThen_ok, Tryz.func124, show (Tryz.f124.name == "runtime.NumGoroutine") = false from by decide]
    rfl
  match vs, hl with
  | [u0, u1], _ =>
    have k0 := hrep 0 u0 _ rfl rfl
    have k1 := hrep 1 u1 _ rfl rfl
    cases k1
    cases k0 with
    | sl A n c sz f us h1 h2 h3 h4 h5 h6 =>
    have hpos : 0 < xs.length := List.length_pos_iff.2 hx
    obtain ⟨b, o, hA, hR, _⟩ := h5 0 0 hpos (by omega)
    subst hA
    refine (Tryz.strings_Join b o c xs sep w (fun j x hj => ?_) (hb _ _ hR) hN h1 hlen).mono ?_
    · have hjl := lt_of_get? hj
      obtain ⟨b2, o2, hA2, _, hcell⟩ := h5 j 0 hjl (by omega)
      simp only [Option.some.injEq, Addr.mk.injEq, and_true] at hA2
      obtain ⟨rfl, rfl⟩ := hA2
      have hr := h6 j 0 _ hjl rfl
      simp only [Nat.mul_one, Nat.add_zero] at hcell
      rw [hcell]
      have hx : xs.getD j ByteArray.empty = x := by simp [List.getD, hj]
      rw [hx] at hr
      generalize us j 0 = u at hr
      cases hr
      rfl
    · rintro e w' ⟨rfl, hbl⟩
      exact ⟨rfl, hbl⟩
end Go.Qg

namespace Go.Qg
open Go.RowKit (Below)
def pany (P : Program) (M : Nat) (ops : Array Oper) (K : PF → Prop) (Kp : PV → PF → Prop) : Nat → Array Bool → PF → Prop
  | 0, _, fr => K fr
  | n + 1, listed, fr => (Region.ready .any ops listed = [] → K fr) ∧ ∀ i ∈ Region.ready .any ops listed, ∃ o, ops.toList[i]? = some o ∧ pops P M ops.toList (pany P M ops K Kp n (listed.setIfInBounds i true)) Kp [o] fr
theorem pany_sound {P : Program} {N : Nat} {B : Base} {Q : Exit → Act → World → Prop} {ro : Option Nat} (ops : Array Oper) (hN : ∀ o ∈ ops.toList, ∀ d, o.dst = some d → d < N) {M : Nat} (hM : B.lo = M) {K : PF → Prop} {Kp : PV → PF → Prop} (hpan : PanUp N B Q Kp) (hout : ∀ a w, ¬ Q .outgrown a w)
    (hQ : ∀ a w fr, SimE N B a w fr → K fr → Q .normal a w) : ∀ (fuel : Nat) (listed : Array Bool) (a : Act) (w : World) (fr : PF), SimE N B a w fr → pany P M ops K Kp fuel listed fr → AnyR P ro ops Q fuel listed a w
  | 0, listed, a, w, fr, h, hp => AnyR_zero (hQ a w fr h hp)
  | fuel + 1, listed, a, w, fr, h, hp => AnyR_succ (fun hr => hQ a w fr h (hp.1 hr)) fun i hi => by
    obtain ⟨o, ho, hp⟩ := hp.2 i hi
    exact op_sound h rfl hN hM hpan hout ho hp fun a' w' fr' h1 h2 => pany_sound ops hN hM hpan hout hQ fuel _ a' w' fr' h1 h2
theorem XW_any {ι : Type} {P : Program} {N M : Nat} {𝒞 : ι → Base → Prop} {i : ι} {Q : ι → PX → PF → Prop} {fr : PF} (hmx : P.follows .mixedOrders = true) (hlo : ∀ i B, 𝒞 i B → B.lo = M) {id : Nat} {ops : Array Oper} (hd : dstsIn N (.region id ops true) = true)
    (hp : pany P M ops (Q i .normal) (fun p => Q i (.panic p)) ops.size (Array.replicate ops.size false) fr) : XW P N 𝒞 i (.region id ops true) Q fr := fun B a w hC hs =>
  wr_mono (wr_region_any (Q := Up N B (Q i)) hmx (pany_sound ops (dsts_mem hd) (hlo i B hC) pan_up up_out (fun a w fr ⟨R, Γ, hs⟩ hk => ⟨R, Γ, fr, .normal, hs, trivial, hk⟩) ops.size _ a _ fr hs.drew hp)) fun _ _ _ hu => ⟨i, B, hC, hu⟩
theorem pany_step {P : Program} {M : Nat} {ops : Array Oper} {K : PF → Prop} {Kp : PV → PF → Prop} {n : Nat} {listed : Array Bool} {fr : PF} (rs : List Nat) (hr : Region.ready .any ops listed = rs) (hne : rs ≠ [])
    (h : ∀ i ∈ rs, ∃ o, ops.toList[i]? = some o ∧ pops P M ops.toList (pany P M ops K Kp n (listed.setIfInBounds i true)) Kp [o] fr) : pany P M ops K Kp (n + 1) listed fr :=
  ⟨fun e => (hne (hr.symm.trans e)).elim, by rw [hr]; exact h⟩
theorem pany_one {P : Program} {M : Nat} {ops : Array Oper} {K : PF → Prop} {Kp : PV → PF → Prop} {n : Nat} {listed : Array Bool} {fr : PF} (a : Nat) (hr : Region.ready .any ops listed = [a])
    (ha : ∃ o, ops.toList[a]? = some o ∧ pops P M ops.toList (pany P M ops K Kp n (listed.setIfInBounds a true)) Kp [o] fr) : pany P M ops K Kp (n + 1) listed fr :=
  pany_step [a] hr (by simp) fun i hi => by
    obtain rfl := List.mem_singleton.1 hi
    exact ha
theorem pany_two {P : Program} {M : Nat} {ops : Array Oper} {K : PF → Prop} {Kp : PV → PF → Prop} {n : Nat} {listed : Array Bool} {fr : PF} (a b : Nat) (hr : Region.ready .any ops listed = [a, b])
    (ha : ∃ o, ops.toList[a]? = some o ∧ pops P M ops.toList (pany P M ops K Kp n (listed.setIfInBounds a true)) Kp [o] fr)
    (hb : ∃ o, ops.toList[b]? = some o ∧ pops P M ops.toList (pany P M ops K Kp n (listed.setIfInBounds b true)) Kp [o] fr) : pany P M ops K Kp (n + 1) listed fr :=
  pany_step [a, b] hr (by simp) fun i hi => by
    simp only [List.mem_cons, List.not_mem_nil, or_false] at hi
    rcases hi with rfl | rfl
    · exact ha
    · exact hb
@[simp] theorem pany_zero (P : Program) (M : Nat) (ops : Array Oper) (K : PF → Prop) (Kp : PV → PF → Prop) (listed : Array Bool) (fr : PF) : pany P M ops K Kp 0 listed fr = K fr := rfl
attribute [irreducible] pany
end Go.Qg

namespace Go.Qg
open Go.RowKit (Below)
def ren1 (d s : Nat) (i : Nat) : Nat := if i = d then s else i
def PV.bareOf : PV → PV
  | .box h cs => .box (BoxF.mix (BoxF.of false) h) cs
  | .rows _ ep e sz rs => .rows none ep e sz rs
  | .map _ ks vs => .map false ks vs
  | p => p
def mv (d s : Nat) (fr : PF) : PF := ((renL (ren1 d s) fr).set s ((fr.getD d .undef).bareOf.ren (ren1 d s))).set d ((rdAt d (fr.getD d .undef)).ren (ren1 d s))
section
variable {P : Program} {N : Nat} {B : Base} {w : World} {R : Nat → Nat → Prop} {Γ Γ' : Nat → Option Loc} {a : Act} {fr : PF} {π : Nat → Nat}
theorem Rep.keyed {u : Value} {p : PV} (hr : Rep w R Γ u p) (key : ∀ i l, Γ i = some l → Γ' (π i) = some l) : Rep w R Γ' u (p.ren π) :=
  hr.ren (.inr fun _ _ hb => ⟨hb, rfl⟩) fun i _ l hl => ⟨l, key i l hl, Loc.le_refl l⟩
theorem SlotRep.bareOf {n t t' : Nat} {u u' : Value} {p : PV} (hs : SlotRep n w R Γ t u p) (ho : p.isObj = true) (key : ∀ i l, Γ i = some l → Γ' (π i) = some l) (ht : Γ' t' = Γ t) : SlotRep n w R Γ' t' u' (p.bareOf.ren π) := by
  have parts : ∀ {cs : List PV} {r : Nat → Option Value}, (∀ (j : Nat) (x : Value) (p : PV), r j = some x → cs[j]? = some p → Rep w R Γ x p) → ∀ (j : Nat) (x : Value) (q : PV), r j = some x → (renL π cs)[j]? = some q → Rep w R Γ' x q := fun hr j x q hx hq => by
    rw [renL_get] at hq
    simp only [Option.map_eq_some_iff] at hq
    obtain ⟨p, hp, rfl⟩ := hq
    exact (hr j x p hx hp).keyed key
  have ones : ∀ {cs : List PV}, (∀ p ∈ cs, p.one = true) → ∀ q ∈ renL π cs, q.one = true := fun hc q hq => by
    obtain ⟨p, hp, rfl⟩ := renL_mem hq
    rw [PV.ren_one]; exact hc p hp
  cases p with
  | box fl cs =>
    obtain ⟨b, us, ty, h1, h2, h3, h4, h5, h6⟩ := hs
    exact ⟨b, us, ty, ht.trans h1, ⟨fun e => Bool.noConfusion e, h2.2⟩, h3, by rw [renL_length]; exact h4, ones h5, parts (r := fun j => us[j]?) h6⟩
  | map fl ks us =>
    obtain ⟨b, es, clock, h1, h2, h3, h4, h5, h6, h7⟩ := hs
    refine ⟨b, es, clock, ht.trans h1, fun e => by (cases e), h3, by rw [renL_length]; exact h4, by rw [renL_length]; exact h5, fun j x q hx hq => ?_, fun j x q hx hq => ?_⟩
    · exact parts (r := fun j => (es[j]?).map (·.key)) (fun j u p hu hp => by
        simp only [Option.map_eq_some_iff] at hu
        obtain ⟨y, hy, rfl⟩ := hu
        exact h6 j y p hy hp) j x.key q (by simp [hx]) hq
    · exact parts (r := fun j => (es[j]?).map (·.val)) (fun j u p hu hp => by
        simp only [Option.map_eq_some_iff] at hu
        obtain ⟨y, hy, rfl⟩ := hu
        exact h7 j y p hy hp) j x.val q (by simp [hx]) hq
  | rows fl ep e sz rs =>
    obtain ⟨l, h1, h2, h3, h4, h5⟩ := hs
    refine ⟨l, ht.trans h1, fun ep0 n0 e => by (cases e), fun r hr => ?_, h4, ?_⟩
    · obtain ⟨i, hi⟩ := List.mem_iff_getElem?.1 hr
      rw [renLL_get] at hi
      simp only [Option.map_eq_some_iff] at hi
      obtain ⟨r', hr', rfl⟩ := hi
      have := h3 r' (List.mem_of_getElem? hr')
      exact ⟨by rw [renL_length]; exact this.1, ones this.2⟩
    · cases l with
      | none => subst h5; rfl
      | some bc =>
        obtain ⟨b, cap⟩ := bc
        obtain ⟨us, g1, g2, g3, g4, g5⟩ := h5
        refine ⟨us, g1, by rw [renLL_length]; exact g2, g3, g4, fun i j r q x hr hq hx => ?_⟩
        rw [renLL_get] at hr
        simp only [Option.map_eq_some_iff] at hr
        obtain ⟨r', hr', rfl⟩ := hr
        exact parts (r := fun j => us[i * sz + j]?) (fun j x p hx hp => g5 i j r' p x hr' hp hx) j x q hx hq
  | _ => cases ho
theorem SlotRep.keyed {n t : Nat} {u : Value} {p : PV} (hs : SlotRep n w R Γ t u p) (key : ∀ i l, Γ i = some l → Γ' (π i) = some l) (ht : p.isObj = true → Γ' t = Γ t ∧ π t = t) : SlotRep n w R Γ' t u (p.ren π) := by
  cases p with
  | box fl cs =>
    obtain ⟨e1, _⟩ := ht rfl
    obtain ⟨b, us, ty, h1, h2, h3⟩ := hs
    obtain ⟨b', us', ty', g1, g2, g3, g4⟩ := SlotRep.bareOf (n := n) (u := u) (u' := u) (p := .box fl cs) ⟨b, us, ty, h1, h2, h3⟩ rfl key e1
    have : b' = b := by
      have := g1.symm.trans (e1.trans h1); simpa using this
    subst this
    exact ⟨b', us', ty', g1, ⟨h2.1, g2.2⟩, g3, g4⟩
  | map fl ks vs =>
    obtain ⟨e1, _⟩ := ht rfl
    obtain ⟨b, us, ck, h1, h2, h3⟩ := hs
    obtain ⟨b', us', ck', g1, _, g3, g4⟩ := SlotRep.bareOf (n := n) (u := u) (u' := u) (p := .map fl ks vs) ⟨b, us, ck, h1, h2, h3⟩ rfl key e1
    have : b' = b := by
      have := g1.symm.trans (e1.trans h1); simpa using this
    subst this
    exact ⟨b', us', ck', g1, h2, g3, g4⟩
  | rows fl ep e sz rs =>
    obtain ⟨e1, e2⟩ := ht rfl
    obtain ⟨l, h1, h2, h3⟩ := hs
    obtain ⟨l', g1, _, g3⟩ := SlotRep.bareOf (n := n) (u := u) (u' := u) (p := .rows fl ep e sz rs) ⟨l, h1, h2, h3⟩ rfl key e1
    refine ⟨l', g1, fun ep0 n0 he => ⟨(h2 ep0 n0 he).1, ?_⟩, g3⟩
    have := (h2 ep0 n0 he).2.keyed (Γ' := Γ') (π := π) key
    simp only [PV.ren, e2] at this
    exact this
  | _ => exact (Rep.keyed (SlotRep.val rfl hs) key).slot
theorem mv_sound (h : Sim N B R Γ a w fr) {d s : Nat} (hd : objAt fr d = true) (hs : objAt fr s = false) (hlt : s < fr.length) (hlo : d < B.lo) :
    Sim N B R (fun i => if i = s then Γ d else if i = d then none else Γ i) a w (mv d s fr) := by
  have hne : s ≠ d := fun e => by subst e; rw [hd] at hs; cases hs
  have hΓs : Γ s = none := h.noObj fun p hp => by simpa [objAt, hp] using hs
  obtain ⟨q, hq, hqo⟩ := objAt_some hd
  have hqd : fr.getD d .undef = q := by simp [List.getD, hq]
  have hdl : d < fr.length := lt_of_get? hq
  generalize hΓe : (fun i => if i = s then Γ d else if i = d then none else Γ i) = Γ'
  have key : ∀ i l, Γ i = some l → Γ' (ren1 d s i) = some l := fun i l hl => by
    rw [← hΓe]; unfold ren1
    split
    · rename_i e; subst e; simp [hl]
    · rename_i e
      have : i ≠ s := fun e2 => by subst e2; rw [hΓs] at hl; cases hl
      simp [this, e, hl]
  have hΓ' : ∀ i, i ≠ s → i ≠ d → Γ' i = Γ i := fun i h1 h2 => by rw [← hΓe]; simp [h1, h2]
  have hs' : Γ' s = Γ d := by rw [← hΓe]; simp
  have hd' : Γ' d = none := by rw [← hΓe]; simp [Ne.symm hne]
  have back : ∀ i l, Γ' i = some l → (i = s ∧ Γ d = some l) ∨ (i ≠ s ∧ i ≠ d ∧ Γ i = some l) := fun i l hl => by
    by_cases h1 : i = s
    · subst h1; exact .inl ⟨rfl, hs'.symm.trans hl⟩
    · by_cases h2 : i = d
      · subst h2; rw [hd'] at hl; cases hl
      · exact .inr ⟨h1, h2, (hΓ' i h1 h2).symm.trans hl⟩
  have hlen : (mv d s fr).length = fr.length := by simp [mv, renL_length]
  have gd : (mv d s fr)[d]? = some ((rdAt d q).ren (ren1 d s)) := by
    unfold mv; rw [hqd, List.getElem?_set_self (by simp [renL_length]; exact hdl)]
  have gs : (mv d s fr)[s]? = some (q.bareOf.ren (ren1 d s)) := by
    unfold mv; rw [hqd, List.getElem?_set_ne (Ne.symm hne), List.getElem?_set_self (by simp [renL_length]; exact hlt)]
  have go : ∀ i, i ≠ s → i ≠ d → (mv d s fr)[i]? = (fr[i]?).map (·.ren (ren1 d s)) := fun i h1 h2 => by
    unfold mv; rw [List.getElem?_set_ne (Ne.symm h2), List.getElem?_set_ne (Ne.symm h1), renL_get]
  have hbo : q.bareOf.isObj = true := by cases q <;> first | rfl | cases hqo
  refine ⟨h.size, by rw [hlen]; exact h.len, fun t p hp => ?_, fun i j l m b hi hj hl hm => ?_, fun i l hi => ?_, h.bnd, h.sub, h.kept, h.prot, h.lo, fun j l hj hl => ?_, h.defers⟩
  · by_cases h1 : t = d
    · subst h1
      rw [gd] at hp
      obtain rfl := Option.some.inj hp
      exact ((h.rdAt hq).keyed key).slot
    · by_cases h2 : t = s
      · subst h2
        rw [gs] at hp
        obtain rfl := Option.some.inj hp
        exact (h.slot d q hq).bareOf hqo key hs'
      · rw [go t h2 h1] at hp
        simp only [Option.map_eq_some_iff] at hp
        obtain ⟨p0, hp0, rfl⟩ := hp
        exact (h.slot t p0 hp0).keyed key fun _ => ⟨hΓ' t h2 h1, by simp [ren1, h1]⟩
  · rcases back i l hi with ⟨rfl, hi⟩ | ⟨i1, i2, hi⟩
    · rcases back j m hj with ⟨rfl, hj⟩ | ⟨j1, j2, hj⟩
      · rfl
      · exact absurd (h.inj _ _ _ _ b hi hj hl hm).symm j2
    · rcases back j m hj with ⟨rfl, hj⟩ | ⟨j1, j2, hj⟩
      · exact absurd (h.inj _ _ _ _ b hi hj hl hm) i2
      · exact h.inj _ _ _ _ b hi hj hl hm
  · rcases back i l hi with ⟨rfl, hi⟩ | ⟨i1, i2, hi⟩
    · exact ⟨⟨_, gs, by rw [PV.ren_obj]; exact hbo⟩, (h.own d l hi).2⟩
    · obtain ⟨⟨p, hp, ho⟩, h3⟩ := h.own i l hi
      exact ⟨⟨p.ren (ren1 d s), by rw [go i i1 i2, hp]; rfl, by rw [PV.ren_obj]; exact ho⟩, h3⟩
  · obtain ⟨l', h1, h2⟩ := h.base j l hj hl
    have n1 : j ≠ s := fun e => by subst e; rw [hΓs] at h1; cases h1
    have n2 : j ≠ d := fun e => by omega
    exact ⟨l', (hΓ' j n1 n2).trans h1, h2⟩
end
theorem weak_of_mv {M d s : Nat} {fr : PF} (hd : objAt fr d = true) (hs : objAt fr s = false) (hlt : s < fr.length) (hlo : d < M) : Weak M fr (mv d s fr) := fun N B a w hM ⟨R, Γ, h⟩ => by
  subst hM
  exact (mv_sound h hd hs hlt hlo).toE
theorem Weak.trans {M : Nat} {f g h : PF} (h1 : Weak M f g) (h2 : Weak M g h) : Weak M f h := fun N B a w hM hs => h2 N B a w hM (h1 N B a w hM hs)
def againW {σ : Type} (M : Nat) (H : σ → PF) (I : σ → Prop) (μ : σ → Nat) (s : σ) (fr : PF) : Prop := ∃ s', I s' ∧ μ s' < μ s ∧ Weak M fr (H s')
theorem againW_of {σ : Type} {M : Nat} {H : σ → PF} {I : σ → Prop} {μ : σ → Nat} {s : σ} {fr : PF} (s' : σ) (h1 : I s') (h2 : μ s' < μ s) (h3 : less M fr (H s')) : againW M H I μ s fr := ⟨s', h1, h2, weak_of_less h3⟩
theorem againW_mv {σ : Type} {M : Nat} {H : σ → PF} {I : σ → Prop} {μ : σ → Nat} {s : σ} {fr : PF} (d e : Nat) (hd : objAt fr d = true) (hs : objAt fr e = false) (hlt : e < fr.length) (hlo : d < M) (s' : σ) (h1 : I s') (h2 : μ s' < μ s) (h3 : less M (mv d e fr) (H s')) : againW M H I μ s fr :=
  ⟨s', h1, h2, (weak_of_mv hd hs hlt hlo).trans (weak_of_less h3)⟩
theorem pwp_loopW {P : Program} {M : Nat} {c : Code} {Q : PX → PF → Prop} {fr : PF} {σ : Type} (H : σ → PF) (I : σ → Prop) (μ : σ → Nat) (s0 : σ) (h0 : I s0) (e0 : less M fr (H s0))
    (round : ∀ s, I s → pwp P M c (thenP (againW M H I μ s) Q) (H s)) : pwp P M (.loop c) Q fr := fun X hX hW => by
  refine hW _ _ (weak_of_less e0) ?_
  have key : ∀ n s, μ s = n → I s → X (H s) := by
    intro n
    induction n using Nat.strongRecOn with
    | _ n ih =>
      intro s hn hI
      refine hX _ (pwp_mono c (fun e fr' he => ?_) (round s hI))
      cases e with
      | normal =>
        obtain ⟨s', h1, h2, h3⟩ := he
        exact hW _ _ h3 (ih (μ s') (hn ▸ h2) s' rfl h1)
      | _ => exact he
  exact key _ s0 rfl h0
end Go.Qg

namespace Go.Qg
def dropO (e : Nat) (fr : PF) : PF := (fr.map fun p => if p.names.contains e then .undef else p).set e .undef
theorem weak_dmv {M : Nat} {fr g : PF} (d e : Nat) (hl : less M fr (dropO e fr)) (hd : objAt (dropO e fr) d = true) (hs : objAt (dropO e fr) e = false) (hlt : e < (dropO e fr).length) (hlo : d < M) (h3 : less M (mv d e (dropO e fr)) g) : Weak M fr g :=
  (weak_of_less hl).trans ((weak_of_mv hd hs hlt hlo).trans (weak_of_less h3))
theorem weak_mv {M : Nat} {fr g : PF} (d e : Nat) (hd : objAt fr d = true) (hs : objAt fr e = false) (hlt : e < fr.length) (hlo : d < M) (h3 : less M (mv d e fr) g) : Weak M fr g :=
  (weak_of_mv hd hs hlt hlo).trans (weak_of_less h3)
theorem againW_weak {σ : Type} {M : Nat} {H : σ → PF} {I : σ → Prop} {μ : σ → Nat} {s : σ} {fr : PF} (s' : σ) (h1 : I s') (h2 : μ s' < μ s) (h3 : Weak M fr (H s')) : againW M H I μ s fr := ⟨s', h1, h2, h3⟩
theorem pwp_loopM {P : Program} {M : Nat} {c : Code} {Q : PX → PF → Prop} {fr B : PF} {σ : Type} (V : σ → List (Nat × PV)) (I : σ → Prop) (μ : σ → Nat) (s0 : σ) (h0 : I s0) (_hB : forgetAll (dsts c) fr = B) (e0 : Weak M fr (apply (V s0) B))
    (round : ∀ s, I s → pwp P M c (thenP (againW M (fun s => apply (V s) B) I μ s) Q) (apply (V s) B)) : pwp P M (.loop c) Q fr := fun X hX hW => by
  refine hW _ _ e0 ?_
  have key : ∀ n s, μ s = n → I s → X (apply (V s) B) := by
    intro n
    induction n using Nat.strongRecOn with
    | _ n ih =>
      intro s hn hI
      refine hX _ (pwp_mono c (fun e fr' he => ?_) (round s hI))
      cases e with
      | normal =>
        obtain ⟨s', h1, h2, h3⟩ := he
        exact hW _ _ h3 (ih (μ s') (hn ▸ h2) s' rfl h1)
      | _ => exact he
  exact key _ s0 rfl h0
end Go.Qg

namespace Go.Qg
structure Hold (G : Prop) : Prop where
  h : G
theorem joinG {G X : Prop} (h1 : Hold G → X) (h2 : G) : X := h1 ⟨h2⟩
theorem joinH (H : Prop) {G X : Prop} (h1 : Hold (H → G) → X) (h2 : H → G) : X := h1 ⟨h2⟩
theorem pwp_loopF {P : Program} {M : Nat} {c : Code} {Q : PX → PF → Prop} {fr : PF} (V : List (Nat × PV)) (hg : less M fr (apply V fr)) (h : pwp P M (.loop c) Q (apply V fr)) : pwp P M (.loop c) Q fr := fun X hX hW => hW _ _ (weak_of_less hg) (h X hX hW)
end Go.Qg

namespace Go.Qg
open Go.Proofs Go.RowKit Go.Lib
set_option maxRecDepth 100000
set_option linter.unusedSimpArgs false
set_option maxHeartbeats 16000000
attribute [local irreducible] pwp pops pdraw pop popCall pdCall thenP blockP scopeP pspec Spec answers ppost CallW
def bytesOf (l : List UInt8) : ByteArray := ⟨l.toArray⟩
@[simp] theorem bytesOf_size (l : List UInt8) : (bytesOf l).size = l.length := by simp [bytesOf, ByteArray.size]
@[simp] theorem bytesOf_list (l : List UInt8) : (bytesOf l).data.toList = l := by simp [bytesOf]
def numsB : List Int → List UInt8
  | [] => []
  | n :: ns => 32 :: Lib.itoa n ++ numsB ns
theorem numsB_snoc (l : List Int) (n : Int) : numsB (l ++ [n]) = numsB l ++ 32 :: Lib.itoa n := by
  induction l with
  | nil => simp [numsB]
  | cons x l ih => simp [numsB, ih]
theorem take_snoc {l : List Int} {k : Nat} (h : k < l.length) : l.take (k + 1) = l.take k ++ [geti l k] := by
  rw [List.take_add_one]
  simp [geti, h]
theorem numsB_take {l : List Int} {k : Nat} (h : k < l.length) : numsB (l.take (k + 1)) = numsB (l.take k) ++ 32 :: Lib.itoa (geti l k) := by
  rw [take_snoc h, numsB_snoc]
theorem numsB_len {l : List Int} (h : ∀ x ∈ l, -9223372036854775808 ≤ x ∧ x ≤ 9223372036854775807) : (numsB l).length ≤ 22 * l.length := by
  induction l with
  | nil => simp [numsB]
  | cons x l ih =>
    have h1 := ih fun y hy => h y (List.mem_cons_of_mem _ hy)
    have h2 := itoa_length_le x (h x List.mem_cons_self).1 (h x List.mem_cons_self).2
    simp [numsB]
    omega
def sumI (l : List Int) : Int := l.foldl (· + ·) 0
theorem sumI_take {l : List Int} {k : Nat} (h : k < l.length) : sumI (l.take (k + 1)) = sumI (l.take k) + geti l k := by
  rw [take_snoc h, sumI, List.foldl_append]
  rfl
def lineB (ws : List ByteArray) (ns : List Int) : List UInt8 := joinB ws (bytesOf [32]) ++ numsB ns ++ [10]
theorem geti_take {l : List Int} {k j : Nat} (h : j < k) : geti (l.take k) j = geti l j := by simp [geti, List.getElem?_take, h]
theorem sumI_bound {l : List Int} {b : Int} (h : ∀ x ∈ l, 0 ≤ x ∧ x ≤ b) : 0 ≤ sumI l ∧ sumI l ≤ b * l.length := by
  have key : ∀ (l : List Int) (a : Int), (∀ x ∈ l, 0 ≤ x ∧ x ≤ b) → a ≤ l.foldl (· + ·) a ∧ l.foldl (· + ·) a ≤ a + b * l.length := by
    intro l
    induction l with
    | nil => intro a _; simp
    | cons x l ih =>
      intro a h
      have h1 := ih (a + x) fun y hy => h y (List.mem_cons_of_mem _ hy)
      have h2 := h x List.mem_cons_self
      have e : b * ((l.length + 1 : Nat) : Int) = b * l.length + b := by push_cast; rw [Int.mul_add, Int.mul_one]
      simp only [List.foldl_cons, List.length_cons]
      rw [e]
      omega
  have := key l 0 h
  simpa [sumI] using this
theorem mem_take_of {l : List Int} {k : Nat} {x : Int} (h : x ∈ l.take k) : x ∈ l := List.mem_of_mem_take h
def spB : ByteArray := bytesOf [32]
theorem sp_data (l : List UInt8) : ((⟨#[32]⟩ : ByteArray) ++ ⟨l.toArray⟩).data.toList = 32 :: l := by simp [ByteArray.data_append]
theorem sp_size (l : List UInt8) : ((⟨#[32]⟩ : ByteArray) ++ ⟨l.toArray⟩).size = l.length + 1 := by
  have : ((⟨#[32]⟩ : ByteArray) ++ ⟨l.toArray⟩).size = (((⟨#[32]⟩ : ByteArray) ++ ⟨l.toArray⟩).data.toList).length := by simp [ByteArray.size]
  rw [this, sp_data]
  rfl
def lineK (l : List UInt8) (ws : List ByteArray) (ns : List Int) (k : Nat) : List UInt8 := l ++ joinB ws spB ++ numsB (ns.take k)
theorem line_spec (h : BoxF) (a : PV) (l : List UInt8) (x : Int) (ws : List ByteArray) (ns : List Int) (ep : Nat) (ha : (a = .ref 0 0 ∧ h = BoxF.of false) ∨ (a = .v (.pointer none) ∧ h = ⟨false, some 164⟩))
    (hw : ws ≠ [] ∧ ws.length ≤ 100 ∧ (joinB ws spB).length ≤ 1000) (hns : ns.length ≤ 100) (hn : ∀ y ∈ ns, 0 ≤ y ∧ y ≤ 1000000) (hl : l.length ≤ 1000000) (hx : 0 ≤ x ∧ x ≤ 1000000000000) :
    CallW Tryz.prog 98 [.ref 0 0, strsL ws, ints ns] [.box h [a, .own 1 ep 0 l.length false, .v (.int .i64 x)], .rows none ep 5 1 (rowsU l)]
      (fun out => ∃ ep', out = .ret (.tup []) [.box false [.ref 0 0, .own 1 ep' 0 (l ++ lineB ws ns).length false, .v (.int .i64 (x + sumI ns))], .rows none ep' 5 1 (rowsU (l ++ lineB ws ns))]) := by
  have hj := join_spec ws spB hw.1 (by omega) (by omega)
  have hnl := numsB_len (l := ns) fun y hy => by have := hn y hy; omega
  have hnk : ∀ k, (numsB (ns.take k)).length ≤ 2200 := fun k => by
    have h1 := numsB_len (l := ns.take k) fun y hy => by have := hn y (mem_take_of hy); omega
    have h2 : (ns.take k).length ≤ 100 := by rw [List.length_take]; omega
    omega
  have hw1 := wstr_spec h a l x ⟨(joinB ws spB).toArray⟩ ep ha (by have : (⟨(joinB ws spB).toArray⟩ : ByteArray).size = (joinB ws spB).length := bytesOf_size _; omega)
  have e1 : (⟨(joinB ws spB).toArray⟩ : ByteArray).data.toList = joinB ws spB := bytesOf_list _
  have e2 : (⟨(joinB ws spB).toArray⟩ : ByteArray).size = (joinB ws spB).length := bytesOf_size _
  rw [e1, e2] at hw1
  have hk0 : l ++ joinB ws spB = lineK l ws ns 0 := by simp [lineK, numsB]
  have hk0l : l.length + (joinB ws spB).length = (lineK l ws ns 0).length := by rw [← hk0, List.length_append]
  rw [hk0, hk0l] at hw1
  have hKl : ∀ k, (lineK l ws ns k).length ≤ 1010000 := fun k => by
    have := hnk k
    simp only [lineK, List.length_append]
    omega
  have hsk : ∀ k, 0 ≤ sumI (ns.take k) ∧ sumI (ns.take k) ≤ 100000000 := fun k => by
    have h1 := sumI_bound (l := ns.take k) (b := 1000000) fun y hy => hn y (mem_take_of hy)
    have h2 : ((ns.take k).length : Int) ≤ 100 := by rw [List.length_take]; omega
    omega
  rcases ha with ⟨rfl, rfl⟩ | ⟨rfl, rfl⟩
  all_goals
    refine callW_of mixed Tryz.func98 (by decide) rfl (congrArg Array.toList Tryz.results98) Tryz.ntmps98 (by decide) 40 (by simp) (by decide) ?_
    simp [strsL, ints]
    refine pwp_draw 5 (by decide) ?_
    simp
    refine pd_spec hj (by simp [strsL]; rfl) (by simp) (by simp [strsL]) rfl ?_
    simp
    refine ⟨by decide, ?_⟩
    refine pop_callW hw1 rfl [40, 41] false (by decide) ?_ (.inl ?_) ?_
    · simp
    · simp
    rintro out rfl
    refine ⟨[], by simp [backOk], .inl rfl, by simp [back, backV, placeAll], ?_⟩
    simp [back, backV, placeAll]
    refine pwp_loop (fun k : Nat => [(16, .v (.int .i64 k)), (40, .box false [.ref 40 0, .own 41 (ep + 1 + k) 0 (lineK l ws ns k).length false, .v (.int .i64 (x + sumI (ns.take k)))]), (41, .rows none (ep + 1 + k) 5 1 (rowsU (lineK l ws ns k)))]) (fun k => k ≤ ns.length) (fun k => ns.length - k) 0 (Nat.zero_le _) (by simp; rfl) ?_ ?_
    · simp [sumI]
    intro k hk
    have hKk := hKl k
    by_cases hkl : k < ns.length
    · have wk := i64_wrap (show -9223372036854775808 ≤ (k : Int) + 1 ∧ _ from by omega)
      have hy : 0 ≤ geti ns k ∧ geti ns k ≤ 1000000 := hn _ (by simp [geti, hkl])
      have hs1 := hsk k
      have hs2 := hsk (k + 1)
      have wsu := i64_wrap (show -9223372036854775808 ≤ x + sumI (ns.take k) + geti ns k ∧ _ from by rw [sumI_take hkl] at hs2; omega)
      have hil := itoa_length_le (geti ns k) (by omega) (by omega)
      have hit := itoa_spec (geti ns k) (by omega) (by omega)
      have hz := sp_size (Lib.itoa (geti ns k))
      have hw2 := wstr_spec (BoxF.of false) (.ref 0 0) (lineK l ws ns k) (x + sumI (ns.take k)) (⟨#[32]⟩ ++ ⟨(Lib.itoa (geti ns k)).toArray⟩) (ep + 1 + k) (.inl ⟨rfl, rfl⟩) (by omega)
      have hk1 : lineK l ws ns k ++ 32 :: Lib.itoa (geti ns k) = lineK l ws ns (k + 1) := by
        simp only [lineK, numsB_take hkl, List.append_assoc]
      have hk1l : (lineK l ws ns k).length + ((Lib.itoa (geti ns k)).length + 1) = (lineK l ws ns (k + 1)).length := by rw [← hk1, List.length_append, List.length_cons]
      rw [sp_data, hz, hk1, hk1l] at hw2
      simp [hkl]
      refine pwp_draw 6 (by decide) ?_
      simp
      refine pd_spec hit (by simp) (by simp) (by simp) rfl ?_
      have hz1 : (⟨#[32]⟩ : ByteArray).size = 1 := rfl
      have hz2 : (⟨(Lib.itoa (geti ns k)).toArray⟩ : ByteArray).size = (Lib.itoa (geti ns k)).length := bytesOf_size _
      simp [hz1, hz2, show 1 + (Lib.itoa (geti ns k)).length ≤ 9223372036854775807 from by omega]
      refine ⟨by decide, ?_⟩
      refine pop_callW hw2 rfl [40, 41] false (by decide) ?_ (.inl ?_) ?_
      · simp
      · simp
      rintro out rfl
      refine ⟨[], by simp [backOk], .inl rfl, by simp [back, backV, placeAll], ?_⟩
      simp [back, backV, placeAll, wsu]
      refine again_of (k + 1) (by omega) (by omega) ?_
      simp [wk, sumI_take hkl, Int.add_assoc, show ep + 1 + k + 1 = ep + 1 + (k + 1) from by omega]
    · obtain rfl : k = ns.length := by omega
      have hw3 := wstr_spec (BoxF.of false) (.ref 0 0) (lineK l ws ns ns.length) (x + sumI (ns.take ns.length)) ⟨#[10]⟩ (ep + 1 + ns.length) (.inl ⟨rfl, rfl⟩) (by have : (⟨#[10]⟩ : ByteArray).size = 1 := rfl; omega)
      have hend : lineK l ws ns ns.length ++ [10] = l ++ lineB ws ns := by simp [lineK, lineB, spB]
      have hendl : (lineK l ws ns ns.length).length + 1 = (l ++ lineB ws ns).length := by rw [← hend, List.length_append]; rfl
      rw [show (⟨#[10]⟩ : ByteArray).data.toList = [10] from rfl, show (⟨#[10]⟩ : ByteArray).size = 1 from rfl, hend, hendl, List.take_length] at hw3
      simp
      refine pop_callW hw3 rfl [40, 41] false (by decide) ?_ (.inl ?_) ?_
      · simp
      · simp
      rintro out rfl
      refine ⟨[], by simp [backOk], .inl rfl, by simp [back, backV, placeAll], ?_⟩
      simp [back, backV, placeAll]
      refine ends_n (.tup []) [.box false [.ref 0 0, .own 1 (ep + 1 + ns.length + 1) 0 (l ++ lineB ws ns).length false, .v (.int .i64 (x + sumI ns))], .rows none (ep + 1 + ns.length + 1) 5 1 (rowsU (l ++ lineB ws ns))] [] rfl (by decide) ?_ ?_ ⟨ep + 1 + ns.length + 1, by simp⟩
      · simp
      · simp
end Go.Qg

namespace Go.Qg
open Go.Proofs Go.RowKit Go.Lib
set_option maxRecDepth 100000
set_option linter.unusedSimpArgs false
set_option maxHeartbeats 16000000
attribute [local irreducible] pwp pops pdraw pop popCall pdCall thenP blockP scopeP pspec Spec answers ppost CallW
theorem bytesOf_app (a b : List UInt8) : bytesOf a ++ bytesOf b = bytesOf (a ++ b) := by
  apply ByteArray.ext
  simp [bytesOf, ByteArray.data_append]
theorem lit_end : (⟨#[101, 110, 100, 32]⟩ : ByteArray) = bytesOf [101, 110, 100, 32] := rfl
theorem lit_nl : (⟨#[10]⟩ : ByteArray) = bytesOf [10] := rfl
def lastB (sum : Int) : List UInt8 := [101, 110, 100, 32] ++ Lib.itoa (sum % 97 / 10) ++ Lib.itoa (sum % 97 % 10) ++ [10]
theorem lastB_len {sum : Int} : (lastB sum).length ≤ 47 := by
  have l1 := itoa_length_le (sum % 97 / 10) (by omega) (by omega)
  have l2 := itoa_length_le (sum % 97 % 10) (by omega) (by omega)
  simp only [lastB, List.length_append, List.length_cons, List.length_nil]
  omega
theorem last_spec (sum : Int) (h : 0 ≤ sum ∧ sum ≤ 1000000000000000) : Spec Tryz.prog 100 [.v (.int .i64 sum)] (.v (.string (bytesOf (lastB sum)))) := by
  have h1 : sum.tmod 97 = sum % 97 := Int.tmod_eq_emod_of_nonneg h.1
  have h2 : (sum % 97).tdiv 10 = sum % 97 / 10 := Int.tdiv_eq_ediv_of_nonneg (by omega)
  have h3 : (sum % 97).tmod 10 = sum % 97 % 10 := Int.tmod_eq_emod_of_nonneg (by omega)
  have i1 : Spec Tryz.prog 125 [.v (.int .i64 (sum % 97 / 10))] (.v (.string (bytesOf (Lib.itoa (sum % 97 / 10))))) := itoa_spec (sum % 97 / 10) (by omega) (by omega)
  have i2 : Spec Tryz.prog 125 [.v (.int .i64 (sum % 97 % 10))] (.v (.string (bytesOf (Lib.itoa (sum % 97 % 10))))) := itoa_spec (sum % 97 % 10) (by omega) (by omega)
  have l1 := itoa_length_le (sum % 97 / 10) (by omega) (by omega)
  have l2 := itoa_length_le (sum % 97 % 10) (by omega) (by omega)
  have w1 := i64_wrap (show -9223372036854775808 ≤ sum % 97 / 10 ∧ _ from by omega)
  have w2 := i64_wrap (show -9223372036854775808 ≤ sum % 97 % 10 ∧ _ from by omega)
  have w3 := i64_wrap (show -9223372036854775808 ≤ sum % 97 ∧ _ from by omega)
  have hb : lastB sum = [101, 110, 100, 32] ++ Lib.itoa (sum % 97 / 10) ++ Lib.itoa (sum % 97 % 10) ++ [10] := rfl
  generalize Lib.itoa (sum % 97 / 10) = A at *
  generalize Lib.itoa (sum % 97 % 10) = B at *
  refine spec_of mixed Tryz.func100 (by decide) rfl Tryz.results100 Tryz.ntmps100 (by decide) 0 (by simp) ?_
  simp [h1, h2, h3, w1, w2, w3]
  refine pop_spec i1 rfl false (.inl (by simp)) (.inl rfl) rfl (by simp) ?_
  simp [h1, h2, h3, w1, w2, w3, lit_end, bytesOf_app, show 4 + A.length ≤ 9223372036854775807 from by omega, show A.length + 4 ≤ 9223372036854775807 from by omega]
  refine pop_spec i2 rfl false (.inl (by simp)) (.inl rfl) rfl (by simp) ?_
  simp [lit_nl, bytesOf_app, show 4 + A.length + B.length ≤ 9223372036854775807 from by omega, show A.length + 4 + B.length ≤ 9223372036854775807 from by omega, show A.length + 1 + 1 + 1 + 1 + B.length ≤ 9223372036854775807 from by omega, show 4 + A.length + B.length + 1 ≤ 9223372036854775807 from by omega, show A.length + B.length + 4 ≤ 9223372036854775807 from by omega, show A.length + B.length + 4 + 1 ≤ 9223372036854775807 from by omega, show A.length + 4 + B.length + 1 ≤ 9223372036854775807 from by omega]
  refine answers_of rfl ?_
  simp [hb]
def tripW : ByteArray := bytesOf [116, 114, 105, 112]
def legW : ByteArray := bytesOf [108, 101, 103]
def keepW : ByteArray := bytesOf [107, 101, 101, 112]
def pumpW : ByteArray := bytesOf [112, 117, 109, 112]
def itemW : ByteArray := bytesOf [105, 116, 101, 109]
def headN (fuel : Spn) (legs : List Leg) : List Int := [fuel.low, fuel.high, legs.length]
def legN (g : Leg) : List Int := [g.fuel, g.burn.low, g.burn.high, g.leak.low, g.leak.high, g.items.length]
def itmN (i : Itm) : List Int := [i.station, i.low, i.high]
def legWs (g : Leg) : List ByteArray := [legW, if g.pump = true then pumpW else keepW]
def itemsTo (l : List Itm) (T : List UInt8) : Nat → List UInt8
  | 0 => T
  | k + 1 => itemsTo l T k ++ lineB [itemW] (itmN (itmAt l k))
def itemsSum (l : List Itm) (x : Int) : Nat → Int
  | 0 => x
  | k + 1 => itemsSum l x k + sumI (itmN (itmAt l k))
def legsTo (legs : List Leg) (T : List UInt8) : Nat → List UInt8
  | 0 => T
  | k + 1 => itemsTo (legAt legs k).items (legsTo legs T k ++ lineB (legWs (legAt legs k)) (legN (legAt legs k))) (legAt legs k).items.length
def legsSum (legs : List Leg) (x : Int) : Nat → Int
  | 0 => x
  | k + 1 => itemsSum (legAt legs k).items (legsSum legs x k + sumI (legN (legAt legs k))) (legAt legs k).items.length
def sheetB (fuel : Spn) (legs : List Leg) : List UInt8 := legsTo legs (lineB [tripW] (headN fuel legs)) legs.length
def sheetS (fuel : Spn) (legs : List Leg) : Int := legsSum legs (sumI (headN fuel legs)) legs.length
def printB (fuel : Spn) (legs : List Leg) : List UInt8 := sheetB fuel legs ++ lastB (sheetS fuel legs)
def printRes (fuel : Spn) (legs : List Leg) : PV := if tripE fuel legs 8 = 0 then .tup [.v (.string (bytesOf (printB fuel legs))), .v (.int .i64 0)] else .tup [.v (.string (bytesOf [])), .v (.int .i64 (tripE fuel legs 8))]
theorem lineB_len {ws : List ByteArray} {ns : List Int} {a : Nat} (hw : (joinB ws spB).length ≤ a) (hn : ∀ y ∈ ns, 0 ≤ y ∧ y ≤ 1000000) : (lineB ws ns).length ≤ a + 22 * ns.length + 1 := by
  have := numsB_len (l := ns) fun y hy => by have := hn y hy; omega
  simp only [lineB, List.length_append, List.length_cons, List.length_nil]
  have e : joinB ws (bytesOf [32]) = joinB ws spB := rfl
  rw [e]
  omega
theorem join_trip : joinB [tripW] spB = [116, 114, 105, 112] := by simp [joinB, tripW, Lib.join_one]
theorem join_item : joinB [itemW] spB = [105, 116, 101, 109] := by simp [joinB, itemW, Lib.join_one]
theorem join_leg (g : Leg) : (joinB (legWs g) spB).length = 8 := by
  cases h : g.pump <;> simp [joinB, legWs, h, legW, keepW, pumpW, spB, Lib.join, List.intercalate]
structure NumI (i : Itm) : Prop where
  a : ∀ y ∈ itmN i, 0 ≤ y ∧ y ≤ 20000
structure NumL (g : Leg) : Prop where
  n : g.items.length ≤ 12
  a : ∀ y ∈ legN g, 0 ≤ y ∧ y ≤ 20000
  i : ∀ k, k < g.items.length → NumI (itmAt g.items k)
theorem numL_of {g : Leg} (h : legB 8 g = true) : NumL g := by
  simp only [legB, itemsB, Bool.and_eq_true, decide_eq_true_eq, inB_spec, spanB_spec] at h
  obtain ⟨⟨⟨⟨h1, h2⟩, h3⟩, h4⟩, h5⟩ := h
  refine ⟨h1, fun y hy => ?_, fun k hk => ⟨fun y hy => ?_⟩⟩
  · simp only [legN, List.mem_cons, List.not_mem_nil, or_false] at hy
    rcases hy with rfl | rfl | rfl | rfl | rfl | rfl <;> omega
  · have := allN_spec.1 h2 k hk
    simp only [itmB, Bool.and_eq_true, inB_spec, spanB_spec] at this
    simp only [itmN, List.mem_cons, List.not_mem_nil, or_false] at hy
    rcases hy with rfl | rfl | rfl <;> omega
theorem items_bound {l : List Itm} {T : List UInt8} {x : Int} : ∀ k, (∀ j, j < k → NumI (itmAt l j)) → (itemsTo l T k).length ≤ T.length + 100 * k ∧ x ≤ itemsSum l x k ∧ itemsSum l x k ≤ x + 60000 * k
  | 0, _ => by simp [itemsTo, itemsSum]
  | k + 1, h => by
    obtain ⟨h1, h2, h3⟩ := items_bound (l := l) (T := T) (x := x) k fun j hj => h j (by omega)
    have hk := h k (by omega)
    have h4 := lineB_len (ws := [itemW]) (ns := itmN (itmAt l k)) (a := 4) (by rw [join_item]; simp) fun y hy => by have := hk.a y hy; omega
    have h5 := sumI_bound (l := itmN (itmAt l k)) (b := 20000) hk.a
    have h6 : (itmN (itmAt l k)).length = 3 := rfl
    rw [h6] at h4 h5
    simp only [itemsTo, itemsSum, List.length_append]
    push_cast
    omega
theorem legs_bound {legs : List Leg} {T : List UInt8} {x : Int} : ∀ k, (∀ j, j < k → NumL (legAt legs j)) → (legsTo legs T k).length ≤ T.length + 2000 * k ∧ x ≤ legsSum legs x k ∧ legsSum legs x k ≤ x + 1000000 * k
  | 0, _ => by simp [legsTo, legsSum]
  | k + 1, h => by
    obtain ⟨h1, h2, h3⟩ := legs_bound (legs := legs) (T := T) (x := x) k fun j hj => h j (by omega)
    have hk := h k (by omega)
    have h4 := lineB_len (ws := legWs (legAt legs k)) (ns := legN (legAt legs k)) (a := 8) (by rw [join_leg]; omega) fun y hy => by have := hk.a y hy; omega
    have h5 := sumI_bound (l := legN (legAt legs k)) (b := 20000) hk.a
    have h6 : (legN (legAt legs k)).length = 6 := rfl
    rw [h6] at h4 h5
    have h7 := items_bound (l := (legAt legs k).items) (T := legsTo legs T k ++ lineB (legWs (legAt legs k)) (legN (legAt legs k))) (x := legsSum legs x k + sumI (legN (legAt legs k))) (legAt legs k).items.length hk.i
    have h8 := hk.n
    simp only [legsTo, legsSum, List.length_append] at h7 ⊢
    push_cast at h7 ⊢
    omega
end Go.Qg

namespace Go.Qg
theorem lt2 {p : Nat → Prop} (h0 : p 0) (h1 : p 1) : ∀ k, k < 2 → p k
  | 0, _ => h0
  | 1, _ => h1
theorem lt3 {p : Nat → Prop} (h0 : p 0) (h1 : p 1) (h2 : p 2) : ∀ k, k < 3 → p k
  | 0, _ => h0
  | 1, _ => h1
  | 2, _ => h2
theorem lt4 {p : Nat → Prop} (h0 : p 0) (h1 : p 1) (h2 : p 2) (h3 : p 3) : ∀ k, k < 4 → p k
  | 0, _ => h0
  | 1, _ => h1
  | 2, _ => h2
  | 3, _ => h3
theorem lt5 {p : Nat → Prop} (h0 : p 0) (h1 : p 1) (h2 : p 2) (h3 : p 3) (h4 : p 4) : ∀ k, k < 5 → p k
  | 0, _ => h0
  | 1, _ => h1
  | 2, _ => h2
  | 3, _ => h3
  | 4, _ => h4
theorem lt6 {p : Nat → Prop} (h0 : p 0) (h1 : p 1) (h2 : p 2) (h3 : p 3) (h4 : p 4) (h5 : p 5) : ∀ k, k < 6 → p k
  | 0, _ => h0
  | 1, _ => h1
  | 2, _ => h2
  | 3, _ => h3
  | 4, _ => h4
  | 5, _ => h5
theorem lt7 {p : Nat → Prop} (h0 : p 0) (h1 : p 1) (h2 : p 2) (h3 : p 3) (h4 : p 4) (h5 : p 5) (h6 : p 6) : ∀ k, k < 7 → p k
  | 0, _ => h0
  | 1, _ => h1
  | 2, _ => h2
  | 3, _ => h3
  | 4, _ => h4
  | 5, _ => h5
  | 6, _ => h6
theorem lt8 {p : Nat → Prop} (h0 : p 0) (h1 : p 1) (h2 : p 2) (h3 : p 3) (h4 : p 4) (h5 : p 5) (h6 : p 6) (h7 : p 7) : ∀ k, k < 8 → p k
  | 0, _ => h0
  | 1, _ => h1
  | 2, _ => h2
  | 3, _ => h3
  | 4, _ => h4
  | 5, _ => h5
  | 6, _ => h6
  | 7, _ => h7
theorem lt9 {p : Nat → Prop} (h0 : p 0) (h1 : p 1) (h2 : p 2) (h3 : p 3) (h4 : p 4) (h5 : p 5) (h6 : p 6) (h7 : p 7) (h8 : p 8) : ∀ k, k < 9 → p k
  | 0, _ => h0
  | 1, _ => h1
  | 2, _ => h2
  | 3, _ => h3
  | 4, _ => h4
  | 5, _ => h5
  | 6, _ => h6
  | 7, _ => h7
  | 8, _ => h8
theorem lt10 {p : Nat → Prop} (h0 : p 0) (h1 : p 1) (h2 : p 2) (h3 : p 3) (h4 : p 4) (h5 : p 5) (h6 : p 6) (h7 : p 7) (h8 : p 8) (h9 : p 9) : ∀ k, k < 10 → p k
  | 0, _ => h0
  | 1, _ => h1
  | 2, _ => h2
  | 3, _ => h3
  | 4, _ => h4
  | 5, _ => h5
  | 6, _ => h6
  | 7, _ => h7
  | 8, _ => h8
  | 9, _ => h9
theorem lt11 {p : Nat → Prop} (h0 : p 0) (h1 : p 1) (h2 : p 2) (h3 : p 3) (h4 : p 4) (h5 : p 5) (h6 : p 6) (h7 : p 7) (h8 : p 8) (h9 : p 9) (h10 : p 10) : ∀ k, k < 11 → p k
  | 0, _ => h0
  | 1, _ => h1
  | 2, _ => h2
  | 3, _ => h3
  | 4, _ => h4
  | 5, _ => h5
  | 6, _ => h6
  | 7, _ => h7
  | 8, _ => h8
  | 9, _ => h9
  | 10, _ => h10
theorem lt12 {p : Nat → Prop} (h0 : p 0) (h1 : p 1) (h2 : p 2) (h3 : p 3) (h4 : p 4) (h5 : p 5) (h6 : p 6) (h7 : p 7) (h8 : p 8) (h9 : p 9) (h10 : p 10) (h11 : p 11) : ∀ k, k < 12 → p k
  | 0, _ => h0
  | 1, _ => h1
  | 2, _ => h2
  | 3, _ => h3
  | 4, _ => h4
  | 5, _ => h5
  | 6, _ => h6
  | 7, _ => h7
  | 8, _ => h8
  | 9, _ => h9
  | 10, _ => h10
  | 11, _ => h11
theorem ext_geti {a b : List Int} (h : a.length = b.length) (h2 : ∀ k, k < a.length → geti a k = geti b k) : a = b := by
  refine List.ext_getElem h fun i h3 h4 => ?_
  have := h2 i h3
  simpa [geti, h3, h4] using this
theorem ext_spn {a b : List Spn} (h : a.length = b.length) (h2 : ∀ k, k < a.length → spnAt a k = spnAt b k) : a = b := by
  refine List.ext_getElem h fun i h3 h4 => ?_
  have := h2 i h3
  simpa [spnAt, h3, h4] using this
end Go.Qg

namespace Go.Qg
open Go.Proofs Go.RowKit Go.Lib
set_option maxRecDepth 100000
set_option linter.unusedSimpArgs false
set_option maxHeartbeats 32000000
attribute [local irreducible] pwp pops pdraw pop popCall pdCall thenP blockP scopeP pspec Spec answers ppost CallW
theorem numL_all {fuel : Spn} {legs : List Leg} (h : tripE fuel legs 8 = 0) : legs.length ≤ 6 ∧ (0 ≤ fuel.low ∧ fuel.low ≤ fuel.high ∧ fuel.high ≤ 20000) ∧ ∀ k, k < legs.length → NumL (legAt legs k) := by
  unfold tripE at h
  split at h
  · omega
  · split at h
    · omega
    · rename_i h1 h2
      simp only [not_or, Bool.not_eq_false] at h2
      obtain ⟨h3, h4, h5⟩ := h2
      exact ⟨by omega, spanB_spec.1 h4, fun k hk => numL_of (allN_spec.1 h5 k hk)⟩
theorem Print_spec (fuel : Spn) (legs : List Leg) (hl : legs.length ≤ 9223372036854775807) (hi : ∀ k, k < legs.length → (legAt legs k).items.length ≤ 9223372036854775807) :
    Spec Tryz.prog 51 [.agg fuel.cells, legL legs] (printRes fuel legs) := by
  have htrip := trip_spec fuel legs 8 hl hi (by omega)
  simp only [Spn.cells] at htrip
  unfold Spec printRes
  refine callW_ofE Tryz.func51 (by decide) rfl (congrArg Array.toList Tryz.results51) Tryz.ntmps51 84 (by simp) (by decide) fun B0 hB0 hD0 => ?_
  have hlo : ∀ s B, ECtx B0 s B → B.lo = 84 := fun _ _ h => h.1.trans hB0
  refine XW_seqP mixed hlo (by decide) ?_
  simp [Spn.cells, legL]
  refine XW_seqP mixed hlo (by decide) ?_
  simp
  refine pop_spec htrip rfl false (.inl (by simp [legL])) (.inl rfl) rfl (by simp) ?_
  by_cases he : tripE fuel legs 8 = 0
  case neg =>
    simp [he]
    refine ends_of (.tup [.v (.string (bytesOf [])), .v (.int .i64 (tripE fuel legs 8))]) [] [] (x := .tup [.v (.string ⟨#[]⟩), .v (.int .i64 (tripE fuel legs 8))]) (by simp) (by decide) ?_ ?_ rfl
    · simp
    · simp [bytesOf]
  obtain ⟨hn, hf, hL⟩ := numL_all he
  simp [he]
  refine XW_seqP mixed hlo (by decide) ?_
  simp
  have hlen0 : (lineB [tripW] (headN fuel legs)).length ≤ 71 := by
    have := lineB_len (ws := [tripW]) (ns := headN fuel legs) (a := 4) (by rw [join_trip]; simp) fun y hy => by
      simp only [headN, List.mem_cons, List.not_mem_nil, or_false] at hy
      rcases hy with rfl | rfl | rfl <;> omega
    have e : (headN fuel legs).length = 3 := rfl
    omega
  have hsum0 := sumI_bound (l := headN fuel legs) (b := 20000) fun y hy => by
    simp only [headN, List.mem_cons, List.not_mem_nil, or_false] at hy
    rcases hy with rfl | rfl | rfl <;> omega
  have hl0 := line_spec ⟨false, some 164⟩ (.v (.pointer none)) [] 0 [tripW] (headN fuel legs) 0 (.inr ⟨rfl, rfl⟩) ⟨by simp, by simp, by rw [join_trip]; simp⟩ (by simp [headN]) (fun y hy => by
    simp only [headN, List.mem_cons, List.not_mem_nil, or_false] at hy
    rcases hy with rfl | rfl | rfl <;> omega) (by simp) (by omega)
  simp only [List.nil_append, Int.zero_add, List.length_nil, rowsU_nil] at hl0
  refine XW_seqP mixed hlo (by decide) ?_
  simp
  refine pop_callF [(7, .box ⟨true, some 164⟩ [.v (.pointer none), .own 83 0 0 0 false, .v (.int .i64 0)]), (19, strsL [tripW]), (26, ints (headN fuel legs)), (83, .rows none 0 5 1 [])] ?_ hl0 rfl [7, 83] false (by decide) ?_ (.inl ?_) ?_
  · simp [strsL, ints, headN]
    refine ⟨rfl, lt3 ?_ ?_ ?_⟩ <;> simp [geti]
  · simp
  · simp [strsL, ints, headN]
  rintro out ⟨ep1, rfl⟩
  refine ⟨[], by simp [backOk], .inl rfl, by simp [back, backV, placeAll], ?_⟩
  simp [back, backV, placeAll]
  refine XW_seqP mixed hlo (by decide) ?_
  simp
  refine pwp_loop (fun s : Nat × Nat => [(19, .undef), (26, .undef), (7, .box true [.ref 7 0, .own 83 s.2 0 (legsTo legs (lineB [tripW] (headN fuel legs)) s.1).length false, .v (.int .i64 (legsSum legs (sumI (headN fuel legs)) s.1))]), (30, .v (.int .i64 s.1)), (83, .rows none s.2 5 1 (rowsU (legsTo legs (lineB [tripW] (headN fuel legs)) s.1)))]) (fun s => s.1 ≤ legs.length) (fun s => legs.length - s.1) (0, ep1) (Nat.zero_le _) (by simp; rfl) ?_ ?_
  · simp [legsTo, legsSum]
  rintro ⟨k, ep2⟩ hk
  simp only at hk
  have hb := legs_bound (legs := legs) (T := lineB [tripW] (headN fuel legs)) (x := sumI (headN fuel legs)) k fun j hj => hL j (by omega)
  have hh3 : (headN fuel legs).length = 3 := rfl
  rw [hh3] at hsum0
  by_cases hkl : k < legs.length
  · have wk := i64_wrap (show -9223372036854775808 ≤ (k : Int) + 1 ∧ _ from by omega)
    have hN := hL k hkl
    have hN1 := hN.n
    have eT : legsTo legs (lineB [tripW] (headN fuel legs)) (k + 1) = itemsTo (legAt legs k).items (legsTo legs (lineB [tripW] (headN fuel legs)) k ++ lineB (legWs (legAt legs k)) (legN (legAt legs k))) (legAt legs k).items.length := rfl
    have eS : legsSum legs (sumI (headN fuel legs)) (k + 1) = itemsSum (legAt legs k).items (legsSum legs (sumI (headN fuel legs)) k + sumI (legN (legAt legs k))) (legAt legs k).items.length := rfl
    generalize legsTo legs (lineB [tripW] (headN fuel legs)) k = T at *
    generalize legsSum legs (sumI (headN fuel legs)) k = X at *
    have hl1 := line_spec (BoxF.of false) (.ref 0 0) T X (legWs (legAt legs k)) (legN (legAt legs k)) ep2 (.inl ⟨rfl, rfl⟩) ⟨by simp [legWs], by simp [legWs], by rw [join_leg]; omega⟩ (by simp [legN]) (fun y hy => by have := hN.a y hy; omega) (by omega) (by omega)
    have hlen1 := lineB_len (ws := legWs (legAt legs k)) (ns := legN (legAt legs k)) (a := 8) (by rw [join_leg]; omega) fun y hy => by have := hN.a y hy; omega
    have hsum1 := sumI_bound (l := legN (legAt legs k)) (b := 20000) hN.a
    have hl6 : (legN (legAt legs k)).length = 6 := rfl
    rw [hl6] at hlen1 hsum1
    simp [hkl, Leg.cells, itmL]
    have hpp : (legAt legs k).pump = true ∧ legWs (legAt legs k) = [legW, pumpW] ∨ (legAt legs k).pump = false ∧ legWs (legAt legs k) = [legW, keepW] := by
      cases h : (legAt legs k).pump <;> simp [legWs, h]
    rcases hpp with ⟨hp, hws⟩ | ⟨hp, hws⟩
    all_goals
      simp [hkl, hp]
      refine pop_callF [(37, strsL (legWs (legAt legs k))), (55, ints (legN (legAt legs k)))] ?_ hl1 rfl [7, 83] false (by decide) ?_ (.inl ?_) ?_
      · simp [strsL, ints, legN, hws]
        refine ⟨lt2 ?_ ?_, lt6 ?_ ?_ ?_ ?_ ?_ ?_⟩ <;> simp [geti, legW, keepW, pumpW, bytesOf]
      · simp
      · simp [strsL, ints, legN, hws]
      rintro out ⟨ep3, rfl⟩
      refine ⟨[], by simp [backOk], .inl rfl, by simp [back, backV, placeAll], ?_⟩
      simp [back, backV, placeAll, hkl]
      generalize hT1 : T ++ lineB (legWs (legAt legs k)) (legN (legAt legs k)) = T1 at *
      generalize hX1 : X + sumI (legN (legAt legs k)) = X1 at *
      have hT1l : T1.length = T.length + (lineB (legWs (legAt legs k)) (legN (legAt legs k))).length := by rw [← hT1, List.length_append]
      rw [← hT1l]
      refine pwp_loop (fun s : Nat × Nat => [(37, .undef), (55, .undef), (7, .box true [.ref 7 0, .own 83 s.2 0 (itemsTo (legAt legs k).items T1 s.1).length false, .v (.int .i64 (itemsSum (legAt legs k).items X1 s.1))]), (60, .v (.int .i64 s.1)), (83, .rows none s.2 5 1 (rowsU (itemsTo (legAt legs k).items T1 s.1)))]) (fun s => s.1 ≤ (legAt legs k).items.length) (fun s => (legAt legs k).items.length - s.1) (0, ep3) (Nat.zero_le _) (by simp; rfl) ?_ ?_
      · simp [itemsTo, itemsSum]
      rintro ⟨j, ep4⟩ hj
      simp only at hj
      have hbi := items_bound (l := (legAt legs k).items) (T := T1) (x := X1) j fun i hi => hN.i i (by omega)
      by_cases hjl : j < (legAt legs k).items.length
      · have wj := i64_wrap (show -9223372036854775808 ≤ (j : Int) + 1 ∧ _ from by omega)
        have hNi := hN.i j hjl
        have eI : itemsTo (legAt legs k).items T1 (j + 1) = itemsTo (legAt legs k).items T1 j ++ lineB [itemW] (itmN (itmAt (legAt legs k).items j)) := rfl
        have eJ : itemsSum (legAt legs k).items X1 (j + 1) = itemsSum (legAt legs k).items X1 j + sumI (itmN (itmAt (legAt legs k).items j)) := rfl
        generalize itemsTo (legAt legs k).items T1 j = T2 at *
        generalize itemsSum (legAt legs k).items X1 j = X2 at *
        have hl2 := line_spec (BoxF.of false) (.ref 0 0) T2 X2 [itemW] (itmN (itmAt (legAt legs k).items j)) ep4 (.inl ⟨rfl, rfl⟩) ⟨by simp, by simp, by rw [join_item]; simp⟩ (by simp [itmN]) (fun y hy => by have := hNi.a y hy; omega) (by omega) (by omega)
        simp [hjl, Itm.cells]
        refine pop_callF [(64, strsL [itemW]), (73, ints (itmN (itmAt (legAt legs k).items j)))] ?_ hl2 rfl [7, 83] false (by decide) ?_ (.inl ?_) ?_
        · simp [strsL, ints, itmN, Itm.cells]
          refine ⟨rfl, lt3 ?_ ?_ ?_⟩ <;> simp [geti]
        · simp
        · simp [strsL, ints, itmN]
        rintro out ⟨ep5, rfl⟩
        refine ⟨[], by simp [backOk], .inl rfl, by simp [back, backV, placeAll], ?_⟩
        simp [back, backV, placeAll]
        refine again_of (j + 1, ep5) (by simp only; omega) (by simp only; omega) ?_
        simp [wj, eI, eJ, Itm.cells]
      · obtain rfl : j = (legAt legs k).items.length := by omega
        simp
        refine again_of (k + 1, ep4) (by simp only; omega) (by simp only; omega) ?_
        simp [wk, eT, eS, Leg.cells, itmL]
  · obtain rfl : k = legs.length := by omega
    have eB : printB fuel legs = legsTo legs (lineB [tripW] (headN fuel legs)) legs.length ++ lastB (legsSum legs (sumI (headN fuel legs)) legs.length) := rfl
    have hll := lastB_len (sum := legsSum legs (sumI (headN fuel legs)) legs.length)
    have hlast := last_spec (legsSum legs (sumI (headN fuel legs)) legs.length) (by omega)
    have hne : legsTo legs (lineB [tripW] (headN fuel legs)) legs.length ≠ [] := fun e => by
      have key : ∀ k, (lineB [tripW] (headN fuel legs)).length ≤ (legsTo legs (lineB [tripW] (headN fuel legs)) k).length := fun k => by
        induction k with
        | zero => exact Nat.le_refl _
        | succ k ih =>
          have ki : ∀ (l : List Itm) (T : List UInt8) (j : Nat), T.length ≤ (itemsTo l T j).length := fun l T j => by
            induction j with
            | zero => exact Nat.le_refl _
            | succ j ih => simp only [itemsTo, List.length_append]; omega
          have := ki (legAt legs k).items (legsTo legs (lineB [tripW] (headN fuel legs)) k ++ lineB (legWs (legAt legs k)) (legN (legAt legs k))) (legAt legs k).items.length
          simp only [List.length_append] at this
          simp only [legsTo]
          omega
      have := key legs.length
      rw [e] at this
      simp only [lineB, List.length_append, List.length_cons, List.length_nil] at this
      omega
    generalize legsTo legs (lineB [tripW] (headN fuel legs)) legs.length = T at *
    generalize lastB (legsSum legs (sumI (headN fuel legs)) legs.length) = L at *
    generalize legsSum legs (sumI (headN fuel legs)) legs.length = X at *
    have hstr : CallW Tryz.prog 99 [.ref 0 0] [.box false [.ref 0 0, .own 1 ep2 0 T.length false, .v (.int .i64 X)], .rows none ep2 5 1 (rowsU T)]
      (fun out => out = .ret (.v (.string (bytesOf T))) [.box false [.ref 0 0, .own 1 ep2 0 T.length false, .v (.int .i64 X)], .rows none (ep2 + 1) 5 1 []]) := bstr_spec T X ep2 hne
    have hsz : T.length + L.length ≤ 9223372036854775807 := by omega
    simp
    refine XW_seqX (XW_any mixed hlo (by decide) ?_)
    simp
    repeat' first
      | (refine pany_two 0 2 (by decide +kernel) ⟨_, rfl, ?_⟩ ⟨_, rfl, ?_⟩ <;> simp [bytesOf_app, hsz])
      | (refine pany_two 1 2 (by decide +kernel) ⟨_, rfl, ?_⟩ ⟨_, rfl, ?_⟩ <;> simp [bytesOf_app, hsz])
      | (refine pany_two 0 3 (by decide +kernel) ⟨_, rfl, ?_⟩ ⟨_, rfl, ?_⟩ <;> simp [bytesOf_app, hsz])
      | (refine pany_two 1 3 (by decide +kernel) ⟨_, rfl, ?_⟩ ⟨_, rfl, ?_⟩ <;> simp [bytesOf_app, hsz])
      | (refine pany_two 0 4 (by decide +kernel) ⟨_, rfl, ?_⟩ ⟨_, rfl, ?_⟩ <;> simp [bytesOf_app, hsz])
      | (refine pany_two 1 4 (by decide +kernel) ⟨_, rfl, ?_⟩ ⟨_, rfl, ?_⟩ <;> simp [bytesOf_app, hsz])
      | (refine pany_one 0 (by decide +kernel) ⟨_, rfl, ?_⟩; simp [bytesOf_app, hsz])
      | (refine pany_one 1 (by decide +kernel) ⟨_, rfl, ?_⟩; simp [bytesOf_app, hsz])
      | (refine pany_one 2 (by decide +kernel) ⟨_, rfl, ?_⟩; simp [bytesOf_app, hsz])
      | (refine pany_one 3 (by decide +kernel) ⟨_, rfl, ?_⟩; simp [bytesOf_app, hsz])
      | (refine pany_one 4 (by decide +kernel) ⟨_, rfl, ?_⟩; simp [bytesOf_app, hsz])
      | (refine pany_one 5 (by decide +kernel) ⟨_, rfl, ?_⟩; simp [bytesOf_app, hsz])
      | (refine pany_one 6 (by decide +kernel) ⟨_, rfl, ?_⟩; simp [bytesOf_app, hsz])
      | (refine pany_one 7 (by decide +kernel) ⟨_, rfl, ?_⟩; simp [bytesOf_app, hsz])
      | (refine pop_callW hstr rfl [7, 83] false (by decide) (by simp) (.inl (by simp)) ?_; rintro out rfl; refine ⟨[], by simp [backOk], .inl rfl, by simp [back, backV, placeAll], ?_⟩; simp [back, backV, placeAll])
      | (refine pop_spec hlast rfl false (.inl (by simp)) (.inl rfl) rfl (by simp) ?_; simp)
    all_goals
      refine XW_pwp mixed hlo (by decide) ?_
      simp
      refine ends_of (.tup [.v (.string (bytesOf (printB fuel legs))), .v (.int .i64 0)]) [] [] (x := .tup [.v (.string (bytesOf (T ++ L))), .v (.int .i64 0)]) (by simp) (by decide) ?_ ?_ rfl
      · simp
      · simp [eB]
end Go.Qg

namespace Go.Qg
open Go.RowKit (Below)
inductive Splits : Code → Code → Code → Prop
  | one (a b : Code) : Splits (.seq a b) a b
  | more (a : Code) {b b0 b1 : Code} : Splits b b0 b1 → Splits (.seq a b) (.seq a b0) b1
section
variable {P : Program} {N M : Nat} {B : Base} {ro : Option Nat}
theorem wr_split (hm : P.follows .mixedOrders = true) (hM : B.lo = M) {K : PF → Prop} {Qw : Exit → Act → World → Prop} {c c0 c1 : Code} (hs : Splits c c0 c1) : ∀ {fr : PF} {a : Act} {w : World}, dstsIn N c0 = true → SimE N B a w fr → pwp P M c0 (thenP K fun _ _ => False) fr →
    (∀ e a w, Up N B (thenP K fun _ _ => False) e a w → Exit.then (wr P ro c1 Qw) Qw e a w) → wr P ro c Qw a w := by
  induction hs with
  | one x y => intro fr a w hd h hp hk; exact wr_seq (wr_mono (pwp_sound hm hM x _ fr a w hd h hp) hk)
  | more x hs ih =>
    intro fr a w hd h hp hk
    simp only [dstsIn, Bool.and_eq_true] at hd
    refine wr_seq (wr_mono (pwp_sound hm hM x _ fr a w hd.1 h hp) fun e a0 w0 ⟨R0, Γ0, fr0, x0, hs0, hu0, hq0⟩ => ?_)
    cases x0 with
    | normal => cases e with
      | normal => exact ih hd.2 ⟨R0, Γ0, hs0⟩ hq0 hk
      | _ => exact hu0.elim
    | _ => exact hq0.elim
end
section
variable {P : Program} {N M M' : Nat} {B B0 B2 : Base} {a a' : Act} {w w' : World} {els : List PV}
theorem gen_of1S (hm : P.follows .mixedOrders = true) {f : FuncId} {fn : Func} {c c0 c1 : Code} (hf : P.funcs[f]? = some fn) (hname : (fn.name == "runtime.NumGoroutine") = false) (hb : fn.body = some c) (hsp : Splits c c0 c1) (hrs : fn.results = #[]) (hn : fn.ntmps = N) (hd0 : dstsIn N c0 = true) {first caps : List PV} (S : Nat) (hargs : first.length + (caps.length + 1) ≤ N)
    (h : ∀ (l : Nat) (Rb : Nat → Prop) (J : GS → (Nat → Prop) → World → Prop), Env P l els Rb J → pwp P (N + S) c0 (thenP (fun fr => ∃ g : PF, less (N + S) fr g ∧ (g.all fun p => p.plain && p.flat) = true ∧
      XW P N (GCtx (N + S) Rb J) (.on 0) c1 (fun s x _ => (x = .normal ∨ x = .ret) ∧ (s = .on els.length ∨ s = .off) ∨ ∃ p, s = .pan p ∧ x = .panic p) g) (fun _ _ => False)) (frame0 (N + S) (first ++ (.clo (.yield l) [] [] :: caps)) [])) : GenW1 P f first caps els := by
  subst hn
  refine ⟨fun vs w => ?_, fun w us vs R Rb l J F0 hR hRb henv hJ hlu hl hrepu hrep => ?_⟩
  · simp only [callFunc, Sem.run_bind, run_program, Result.andThen_ok, hf, hname, hb]
    rfl
  · have h0 : Sim 0 ⟨fun b => F0 b ∨ Rb b ∨ ∃ o, R b o, w, R, fun _ => none, 0, []⟩ R (fun _ => none) noAct w [] :=
      ⟨rfl, Nat.zero_le _, fun t p hp => (by simp at hp), fun i j l m b hi => (by cases hi), fun i l hi => (by cases hi), hR, fun b o hb => .inl hb, Kept.refl _ _, hRb.go (fun b hb => hb.elim (henv.bnd _ _ _ _ hJ) fun h => h.elim (hRb b) fun ⟨o, h⟩ => hR b o h) (fun b _ hb => .inr (.inl hb)) (fun _ _ _ => rfl), Nat.le_refl _, fun j l _ hl => (by cases hl), rfl⟩
    have hsim := h0.enter (N := fn.ntmps) (M := fn.ntmps + S) (vs := us ++ (.func (.yield l) #[] #[] :: vs)) (args := first ++ (.clo (.yield l) [] [] :: caps)) (by simp [hl, hlu]) (fun i u p hu hp => by
      by_cases hi : i < us.length
      · rw [List.getElem?_append_left hi] at hu
        rw [List.getElem?_append_left (by omega)] at hp
        exact hrepu i u p hu hp
      · rw [List.getElem?_append_right (by omega)] at hu
        rw [List.getElem?_append_right (by omega), ← hlu] at hp
        generalize i - us.length = i at hu hp
        cases i with
        | zero =>
          simp only [List.getElem?_cons_zero, Option.some.injEq] at hu hp
          subst hu hp
          exact .clo _ [] [] [] [] rfl rfl (fun i u p hi => by simp at hi) (fun i u p hi => by simp at hi)
        | succ i => exact hrep i u p (by simpa using hu) (by simpa using hp)) (by simpa using hargs) (Nat.le_add_right _ _)
    have ea : (us.toArray ++ #[Value.func (.yield l) #[] #[]] ++ vs.toArray) = (us ++ (Value.func (.yield l) #[] #[] :: vs)).toArray := by simp
    rw [ea]
    refine calls_of_wr hf hb (wr_split (ro := none) hm rfl hsp hd0 hsim.toE (h l Rb J henv) fun e0 a0 w0 ⟨R0, Γ0, fr0, x0, hs0, hu0, hq0⟩ => ?_)
    cases x0 with
    | normal =>
      cases e0 with
      | normal =>
        obtain ⟨g, hless, hdry, hx⟩ := hq0
        have hs1 := weak_R hs0 hless
        have hs2 : Sim fn.ntmps ⟨fun b => F0 b ∨ Rb b, w, fun _ _ => False, fun _ => none, fn.ntmps + S, []⟩ (fun _ _ => False) (fun _ => none) a0 w0 g := hs1.dry hdry (fun b hb => hb.imp_right .inl) (fun b hb => .inr (hRb.isP hb)) rfl rfl rfl (fun _ => rfl)
        refine wr_mono (hx ⟨fun b => F0 b ∨ Rb b, w, fun _ _ => False, fun _ => none, fn.ntmps + S, []⟩ a0 w0 ⟨rfl, rfl, F0, hJ, fun b hb => .inl hb, fun b hb => .inr hb, fun b o hb => hb.elim⟩ hs2.toE) fun e a w' ⟨s, B, ⟨hlo, hD, F, hJ', hF, _, _⟩, R', Γ', fr, x, hs, hu, hx⟩ => ?_
        have hJ2 : J s F w' := henv.stab _ _ _ _ hJ' (fun b hb => hs.kept.block b (hF b hb)) hs.kept.size hs.kept.os hs.kept.tape hs.kept.output
        rcases hx with ⟨hx, hs'⟩ | ⟨p, rfl, rfl⟩
        · have fin : LeavesC P fn a.tmps (genPost els J) a.defers .returning w' := by
            rw [hs.defers, hD]
            refine ⟨.tuple #[], ?_, s, F, hs', hJ2⟩
            simp [results, hrs]
          rcases hx with rfl | rfl
          · cases e with
            | normal => exact fin
            | _ => exact hu.elim
          · cases e with
            | ret => exact fin
            | _ => exact hu.elim
        · cases e with
          | panic ch =>
            obtain ⟨v, rfl, hr⟩ := hu
            obtain ⟨p1, p2⟩ := henv.pan p F w' hJ2
            show LeavesC P fn a.tmps (genPost els J) a.defers _ w'
            rw [hs.defers, hD]
            exact ⟨v, p, F, rfl, plain_rep hr p1 p2, hJ2⟩
          | _ => exact hu.elim
      | _ => exact hu0.elim
    | _ => exact hq0.elim
end
section
variable {P : Program} {N M M' : Nat} {B : Base} {a a' : Act} {w w' : World} {R : Nat → Nat → Prop} {Γ : Nat → Option Loc} {fr : PF}
theorem callW_ofDES (hm : P.follows .mixedOrders = true) {f : FuncId} {fn : Func} {id : Nat} {o1 o2 : Oper} {c c0 c2 : Code} {x : Operand} {ats : Array TypeId} (hf : P.funcs[f]? = some fn) (hname : (fn.name == "runtime.NumGoroutine") = false) (hb : fn.body = some c) (hsp : Splits c c0 (.seq (.region id #[o1, o2] false) c2))
    (ho : o2.op = .defer { callee := .value x, args := #[], argTypes := ats }) (hg : o2.guard = none) (hdst : o2.dst = none) {rs : List ResultVar} (hrs : fn.results.toList = rs) (hn : fn.ntmps = N) (hd0 : dstsIn N c0 = true) (hd1 : ∀ d, o1.dst = some d → d < N) (hd2 : dstsIn N c2 = true) {args : List PV} {H : PF} {Q : Out → Prop}
    (M : Nat) (hargs : args.length ≤ N) (hM : N ≤ M) (h : pwp P M c0 (thenP (pops P M [o1, o2] (dmidE P N M H.length rs c2 x Q) (fun _ _ => False) [o1]) (fun _ _ => False)) (frame0 M args H)) : CallW P f args H Q := by
  subst hrs hn
  refine ⟨fun vs w => ?_, fun w vs R Γ Prot hRp h0 hl hrep => ?_⟩
  · simp only [callFunc, Sem.run_bind, run_program, Result.andThen_ok, hf, hname, hb]
    rfl
  · have hsim := h0.enter hl hrep hargs hM
    refine calls_of_wr hf hb (wr_split (ro := none) hm rfl hsp hd0 hsim.toE h fun e a0 w0 ⟨R0, Γ0, fr0, x0, hs0, hu0, hq0⟩ => ?_)
    cases x0 with
    | normal =>
      cases e with
      | normal =>
        refine wr_seq (wr_region ?_)
        have hr1 : List.range (#[o1, o2] : Array Oper).size = [0, 1] := rfl
        rw [hr1]
        have hN : ∀ o ∈ [o1, o2], ∀ d, o.dst = some d → d < fn.ntmps := fun o ho d hd => by
          rcases List.mem_cons.1 ho with rfl | ho
          · exact hd1 d hd
          · obtain rfl := List.mem_singleton.1 ho
            rw [hdst] at hd; cases hd
        refine op_sound (all := [o1, o2]) (K := pops P M [o1, o2] (dmidE P fn.ntmps M H.length fn.results.toList c2 x Q) (fun _ _ => False) []) (Kp := fun _ _ => False) hs0.toE rfl hN rfl (fun _ _ _ _ _ _ _ _ _ hk => hk.elim) (fun _ _ hq => hq.elim) (k := 0) (o := o1) rfl hq0 (K' := fun a' w' => ∃ fr', SimE fn.ntmps (base0 Prot w R Γ M) a' w' fr' ∧ dmidE P fn.ntmps M H.length fn.results.toList c2 x Q fr') (fun a' w' fr' h1 h2 => ⟨fr', h1, h2⟩) [1] fun a1 w1 hq1 => ?_
        obtain ⟨fr1, ⟨R1, Γ1, hs1⟩, gf, ps, caps, M', news, Ho, A, hx, hM', hκ, hA, hout, hAv, hcaps, hflat, hrest⟩ := hq1
        have hgn : ∀ s ∈ (List.range H.length).map (M + ·) ++ news, (fun _ : Nat => false) s = false := fun _ _ => rfl
        generalize hκe : (List.range H.length).map (M + ·) ++ news = κ at hκ hout hAv hcaps hgn
        have hv := hs1.rd x
        rw [hx] at hv
        generalize hux : a1.eval x = ux at hv
        cases hv with
        | clo _ uf uc _ _ l1 l2 _ r2 =>
        obtain rfl : uf = [] := by simpa using l1
        have hex : (execOp a1.eval o2).run P w1 = .ok (.defer { target := .fn (.func gf) uc.toArray, args := #[] }) w1 := by
          simp only [execOp, ho, resolve, Deferred.ofValue, hux]
          simp [go_sem]
        refine OpR_wp (K := fun a' w' => a' = { a1 with defers := [{ target := .fn (.func gf) uc.toArray, args := #[] }] } ∧ w' = w1) (ops := #[o1, o2]) (o := o2) rfl (by simp [Region.wanted, hg]) (.inl rfl) (fun _ _ hq => hq.elim) ?_ [] fun a' w' ⟨ha', hw'⟩ => RegR_nil ?_
        · unfold Oper.wp
          rw [hex, Oper.upon_defer]
          refine ⟨?_, rfl⟩
          rw [hdst, hs1.defers]
          rfl
        · subst ha' hw'
          obtain ⟨hlend, hRp1⟩ := hs1.lend hout hκ hgn
          obtain ⟨_, hview⟩ := hs1.leave hout hκ hgn
          have hR1 : ∀ b o, freedAt R1 Γ1 (fun _ => false) b o → R1 b o := fun b o hb => by
            rcases hb with hb | ⟨s, m, hg, _⟩
            · exact hb
            · cases hg
          have hent := hlend.enter (N := fn.ntmps) (M := M') (vs := a1.tmps.toList) (args := A) (by simp [hA, hs1.size]) (fun i u q hu hq => by
            have hlt := lt_of_get? hq
            rw [hA] at hlt
            have hqA : A.getD i .undef = q := by simp [List.getD, hq]
            have h1 := hAv i hlt
            rw [hqA] at h1
            refine hview q _ u h1 ?_
            have h2 := hs1.rd (.tmp i)
            rw [Array.getElem?_toList] at hu
            have : a1.eval (.tmp i) = u := by simp [Act.eval, hu]
            rwa [this] at h2) (by simp [hA]) hM'
          have hact : ({ tmps := a1.tmps.toList.toArray ++ Array.replicate (fn.ntmps - a1.tmps.toList.toArray.size) undef, defers := [] } : Act) = { tmps := a1.tmps, defers := [] } := by
            have e1 : a1.tmps.toList.toArray = a1.tmps := Array.toArray_toList
            rw [e1, hs1.size]
            simp
          rw [hact] at hent
          have hs2 : Sim fn.ntmps ⟨Prot, w, R, fun i => if M' ≤ i then Γout Γ1 Ho κ (i - M') else none, M', [{ target := .fn (.func gf) uc.toArray, args := #[] }]⟩ (freedAt R1 Γ1 fun _ => false) (fun i => if M' ≤ i then Γout Γ1 Ho κ (i - M') else none) { a1 with defers := [{ target := .fn (.func gf) uc.toArray, args := #[] }] } w' (frame0 M' A Ho) := by
            refine hent.moved (fun b o _ => rfl) (fun i l b hi hb => rfl) (Nat.le_refl _) (fun i l b hi hb hp => ?_) (fun b o hb => ?_) hs1.kept hs1.prot hM' (fun j l hj hl => ⟨l, hl, Loc.le_refl l⟩) rfl rfl
            · skip
              split at hi
              · obtain ⟨s, m, _, hm', hmb⟩ := Γout_blk hi hb
                exact ((hs1.own s m hm').2 b hmb).1 hp
              · cases hi
            · exact hs1.sub b o (hR1 b o hb)
          generalize hB1 : (⟨Prot, w, R, fun i => if M' ≤ i then Γout Γ1 Ho κ (i - M') else none, M', [{ target := .fn (.func gf) uc.toArray, args := #[] }]⟩ : Base) = B1 at hs2
          have hB1D : B1.D = [{ target := .fn (.func gf) uc.toArray, args := #[] }] := by rw [← hB1]
          have hC : ECtx B1 () ⟨Prot, w, R, fun i => if M' ≤ i then Γout Γ1 Ho κ (i - M') else none, M', [{ target := .fn (.func gf) uc.toArray, args := #[] }]⟩ := by
            subst hB1
            exact ⟨rfl, fun _ x => x, Kept.refl _ _, fun b o hb => .inl hb, rfl, [], List.nodup_nil, rfl, fun r hr => by cases hr⟩
          have hprot : ProtOk B1.Prot B1.w0 := by subst hB1; exact h0.prot
          rw [hB1] at hC
          refine wr_mono (hrest B1 (by rw [← hB1]) B1 _ w' hC hs2.toE) fun e a2 w2 ⟨_, B', hC', R2, Γ2, g, x2, hs30, hu, hq⟩ => ?_
          have hs3 := hs30.ofE hC' hprot
          obtain ⟨_, _, _, _, _, ms, hms, hD', hmk⟩ := hC'
          rw [hB1D] at hD'
          have hΓ1 : ∀ j l, Γout Γ1 Ho κ j = some l → B1.Γ0 (M' + j) = some l := fun j l hl => by
            rw [← hB1]; dsimp only; rw [if_pos (by omega), Nat.add_sub_cancel_left]; exact hl
          have hlo1 : B1.lo = M' := by rw [← hB1]
          have hbase : ∀ {w2 : World}, Sim fn.ntmps { B1 with D := B'.D } R2 Γ2 a2 w2 g → ∀ j l, B1.Γ0 (M' + j) = some l → ∃ l', Γ2 (M' + j) = some l' ∧ Loc.le l l' := fun hs j l hl => hs.base (M' + j) l (by rw [show ({ B1 with D := B'.D } : Base).lo = M' from hlo1]; omega) hl
          have hcap : ∀ (w2 : World), Sim fn.ntmps { B1 with D := B'.D } R2 Γ2 a2 w2 g → ∀ (i : Nat) (u : Value) (q : PV), uc[i]? = some u → (renL (M' + ·) caps)[i]? = some q → Rep w2 R2 Γ2 u q := fun w2 hs3 i u q hu hq => by
            rw [renL_get] at hq
            simp only [Option.map_eq_some_iff] at hq
            obtain ⟨q0, hq0, rfl⟩ := hq
            obtain ⟨p0, hp0, hv0⟩ := vwAll_get hcaps i q0 hq0
            refine (hview q0 p0 u hv0 (r2 i u p0 hu hp0)).ren (.inl (hflat q0 (List.mem_of_getElem? hq0))) fun j _ l hl => ?_
            exact hbase hs3 j l (hΓ1 j l hl)
          have hlc : uc.length = (renL (M' + ·) caps).length := by rw [renL_length, vwAll_length hcaps]; exact l2
          have fin : ∀ (rv : Option Value) (rc : Option PV), (match rv, rc with | none, none => True | some v, some p => p.plain = true ∧ p.flat = true ∧ Rep w2 R2 Γ2 v p | _, _ => False) → dend P M' H.length fn.results.toList gf caps Q rc g → LeavesC P fn a2.tmps (Left Prot w R Γ Q) a2.defers (modeOf rv) w2 := by
            rintro rv rc hrv0 ⟨ιd, Hd, capsd, hιd, houtd, hcapsd, hdw, hdc⟩
            have hrv : ∀ w2 : World, match rv, rc with | none, none => True | some v, some p => p.plain = true ∧ p.flat = true ∧ Rep w2 R2 Γ2 v p | _, _ => False := fun w' => by
              cases rv with
              | none => cases rc with
                | none => trivial
                | some p => exact hrv0.elim
              | some v => cases rc with
                | none => exact hrv0.elim
                | some p => exact ⟨hrv0.1, hrv0.2.1, plain_rep hrv0.2.2 hrv0.1 hrv0.2.1 _ _ _⟩
            rw [hs30.defers, hD']
            refine marks_leave (by cases rv <;> simp [modeOf]) ms w2 { B1 with D := B'.D } hms (fun r hr => ?_) hs3 fun w2 hs3 => ?_
            · obtain ⟨h1, h2, h3⟩ := hmk r hr
              exact ⟨h2, (hs30.kept.block r h1).trans h3⟩
            have hrv := hrv w2
            have hcap := hcap w2 hs3
            have hgd : ∀ s ∈ ιd, (fun _ : Nat => false) s = false := fun _ _ => rfl
            obtain ⟨hlend3, hRp3⟩ := hs3.lend houtd hιd hgd
            obtain ⟨_, hview3⟩ := hs3.leave houtd hιd hgd
            refine ⟨by cases rv <;> simp [modeOf], .inr ⟨.func gf, uc.toArray, gf, uc.toArray, rfl, ?_, ?_⟩⟩
            · simp [invoke, go_sem, hdw]
            · refine (hdc w2 uc _ _ _ rv hRp3 hlend3 ?_ (fun i u q hu hq => ?_) ?_).mono ?_
              · rw [hlc, vwAll_length hcapsd]
              · obtain ⟨p, hp, hv⟩ := vwAll_get hcapsd i q hq
                exact hview3 q p u hv (hcap i u p hu hp)
              · cases rv with
                | none => cases rc with
                  | none => trivial
                  | some p => exact hrv.elim
                | some v => cases rc with
                  | none => exact hrv.elim
                  | some p =>
                    obtain ⟨hp1, hp2, hr⟩ := hrv
                    have := Rep.ren (π := fun i => i) (R' := freedAt R2 Γ2 fun _ => false) (w' := w2) (Γ' := Γout Γ2 Hd ιd) hr (.inl hp2) (fun j hj => by rw [plain_names hp1] at hj; cases hj)
                    rwa [ren_plain hp1] at this
              · rintro e u' w3 ⟨⟨v, rfl⟩, rfl, R3, Γ3, H3, ⟨hl3, xr, r, H2, news2, hpr, hlv, hQ⟩, hs4, hobj⟩
                have hset : settle (modeRec rv) = .returning := by cases rv <;> rfl
                show LeavesC P fn a2.tmps _ [] (settle (modeRec rv)) w3
                rw [hset]
                obtain ⟨hm1, _⟩ := hs3.merge (news := []) houtd hs4 (by simpa using hιd) (by simpa using hl3) (fun s hs => by cases hs) (.inl fun _ => rfl) hobj
                have eback : placeAll ((ιd ++ []).getD · 0) (ιd ++ []) H3 g = back g ιd H3 := by simp only [List.append_nil]; rfl
                rw [eback] at hm1
                obtain ⟨v, hv, hrv⟩ := presults_sound (P := P) hm1 fn hpr
                refine ⟨v, hv, ?_⟩
                obtain ⟨hn2, hout2, hv2⟩ := hlv
                obtain ⟨h1, h2⟩ := hm1.leave hout2 hn2 (fun s hs => by have := List.contains_iff_mem.2 hs; show (!_) = false; rw [this]; rfl)
                subst hB1
                refine ⟨_, _, .inl ⟨v, r, H2, rfl, hQ, h2 r xr v hv2 hrv, h1.rebase fun j l hjl => ?_, fun q hq => ?_⟩⟩
                · obtain ⟨⟨p, hp, _⟩, _⟩ := h0.own j l hjl
                  have hj := lt_of_get? hp
                  have hb : (base0 Prot w R Γ M).Γ0 (M + j) = some l := by
                    simp only [base0]
                    rw [if_pos (by omega), Nat.add_sub_cancel_left]; exact hjl
                  obtain ⟨l1, e1, e2⟩ := hs1.base (M + j) l (Nat.le_add_right _ _) hb
                  have hκ1 : κ[j]? = some (M + j) := by
                    rw [← hκe, List.getElem?_append_left (by simpa using hj)]; exact range_get M hj
                  obtain ⟨l2, e3, e4⟩ := Γout_le hs1 hout hκ1 e1
                  obtain ⟨l3, e5, e6⟩ := hm1.base (M' + j) l2 (Nat.le_add_right _ _) (hΓ1 j l2 e3)
                  have hκ2 : ((List.range H.length).map (M' + ·) ++ news2)[j]? = some (M' + j) := by
                    rw [List.getElem?_append_left (by simpa using hj)]; exact range_get M' hj
                  obtain ⟨l4, e7, e8⟩ := Γout_le hm1 hout2 hκ2 e5
                  exact ⟨l4, e7, Loc.le_trans e2 (Loc.le_trans e4 (Loc.le_trans e6 e8))⟩
                · obtain ⟨i, hi⟩ := List.mem_iff_getElem?.1 hq
                  obtain ⟨s, p, _, _, hbare, _⟩ := outF_get hout2 i q hi
                  cases q <;> first | rfl | cases hbare
          cases e with
          | ret => cases x2 with
            | ret => exact fin none none trivial hq
            | _ => exact hu.elim
          | normal => cases x2 with
            | normal => exact fin none none trivial hq
            | _ => exact hu.elim
          | panic ch => cases x2 with
            | panic p =>
              obtain ⟨v, rfl, hrv⟩ := hu
              obtain ⟨hp1, hp2, hq⟩ := hq
              exact fin (some v) (some p) ⟨hp1, hp2, hrv⟩ hq
            | _ => exact hu.elim
          | exit id => cases x2 with
            | exit id' => exact hq.elim
            | _ => exact hu.elim
          | goto id => cases x2 with
            | goto id' => exact hq.elim
            | _ => exact hu.elim
          | outgrown => cases x2 <;> exact hu.elim
      | _ => exact hu0.elim
    | _ => exact hq0.elim
end
section
variable {P : Program} {N M l : Nat} {els : List PV} {Rb : Nat → Prop} {J : GS → (Nat → Prop) → World → Prop} {Q : GS → PX → PF → Prop} {s : GS} {fr : PF}
theorem XW_yieldS (henv : Env P l els Rb J) {id : Nat} {ops : Array Oper} (hd : dstsIn N (.region id ops false) = true) {m : Nat} (hm : m < ops.toList.length) (hp : pops P M ops.toList (pyield P M ops.toList m l els Q s) (fun p => Q s (.panic p)) (ops.toList.take m) fr) :
    XW P N (GCtx M Rb J) s (.region id ops false) Q fr := fun B a w hC hs => by
  have hN := dsts_mem hd
  have hnd : ∀ {s' : GS} {B' : Base}, GCtx M Rb J s' B' → PanUp N B' (UpX N (GCtx M Rb J) Q) (fun p => Q s' (.panic p)) := fun {s' B'} hC' R Γ a w fr v p hs hr hk => ⟨s', B', hC', pan_up R Γ a w fr v p hs hr hk⟩
  have hnq : ∀ {s' : GS} {B' : Base}, GCtx M Rb J s' B' → ∀ a w fr, SimE N B' a w fr → Q s' .normal fr → UpX N (GCtx M Rb J) Q .normal a w := fun {s' B'} hC' a w fr ⟨R, Γ, hs⟩ hk => ⟨s', B', hC', R, Γ, fr, .normal, hs, trivial, hk⟩
  refine wr_region ?_
  obtain ⟨r, hr⟩ : ∃ r, ops.toList.length = m + (r + 1) := ⟨ops.toList.length - m - 1, by omega⟩
  have hsz : ops.size = m + (r + 1) := by simpa using hr
  rw [List.range_eq_range', hsz]
  refine pre_sound (K := pyield P M ops.toList m l els Q s) (Kp := fun p => Q s (.panic p)) ops rfl hN hC.1 (hnd hC) upX_out (r := r + 1) m 0 (by omega) (fun a w fr hs hy => ?_) a w fr hs (by simpa using hp)
  rw [Nat.zero_add, List.range'_succ]
  unfold pyield at hy
  split at hy
  case h_2 => exact hy.elim
  rename_i o ho
  have hops : ops[m]? = some o := by rw [← ho]; simp
  have hoN := hN o (List.mem_of_getElem? ho)
  refine (?_ : OpR P none ops (UpX N (GCtx M Rb J) Q) m (fun a' w' => ∃ (s' : GS) (B' : Base) (fr' : PF), GCtx M Rb J s' B' ∧ SimE N B' a' w' fr' ∧ pops P M ops.toList (Q s' .normal) (fun p => Q s' (.panic p)) (ops.toList.drop (m + 1)) fr') a w) (List.range' (m + 1) r) fun a' w' ⟨s', B', fr', hC', hs', hp'⟩ =>
    pops_sound ops rfl hN hC'.1 (hnd hC') upX_out (hnq hC') r (m + 1) (by omega) a' w' fr' hs' hp'
  split at hy
  · rename_i hw
    have hwd := wanted_sound hs rfl hN hw
    split at hy
    case h_2 => exact hy.elim
    rename_i c hc
    obtain ⟨hop, _⟩ := isCall_some hc
    split at hy
    case h_2 => exact hy.elim
    rename_i x y hya
    obtain ⟨hcal, hargs⟩ := yargs_some hya
    obtain ⟨hx, n, rfl, hel, hcl, hyt, hyf, hyp⟩ := hy
    obtain ⟨hlo, hD, F, hJ, hF, hRb, hR0⟩ := hC
    obtain ⟨R, Γ, hs⟩ := hs
    have hxv := hs.rd x
    rw [hx] at hxv
    have hyv := hs.rd y
    have hux : a.eval x = .func (.yield l) #[] #[] := by
      generalize a.eval x = u at hxv
      cases hxv with
      | clo _ uf uc _ _ h1 h2 _ _ =>
        obtain rfl : uf = [] := by simpa using h1
        obtain rfl : uc = [] := by simpa using h2
        rfl
    have hJw : J (.on n) F w := henv.stab _ F B.w0 w hJ (fun b hb => hs.kept.block b (hF b hb)) hs.kept.size hs.kept.os hs.kept.tape hs.kept.output
    obtain ⟨f, tmps, assign, body, hrun, hround⟩ := henv.yield n F w (a.eval y) _ R Γ hJw hel hyv
    have hex : (execOp a.eval o).run P w = .ok (.round l f tmps assign body) w := by
      have e1 : c.args = #[y] := by rw [← Array.toArray_toList (xs := c.args), hargs]
      obtain ⟨callee, args, ats⟩ := c
      dsimp only at hcal e1
      subst hcal e1
      simp only [execOp, hop, resolve, Deferred.ofValue, hux, Sem.run_bind, Sem.run_pure, Result.andThen_ok, invoke, List.map_toArray, List.map_cons, List.map_nil]
      simpa using hrun
    refine OpR_yield hops hwd (fun c' hc' => by rw [hop] at hc'; cases hc') hex ?_
    intro cf cs
    obtain ⟨e, w', ⟨F', hcase, hF', hk⟩, hsteps⟩ := hround cf cs
    have hs' := hs.turn henv.tab hD hF hR0 hk
    have hnF : ∀ x, x < w.heap.size → ¬ F x → ¬ F' x := fun x hx hn hf => by
      rcases hF' x hf with h | h
      · exact hn h
      · omega
    have mkC : ∀ s', J s' F' w' → GCtx M Rb J s' ⟨fun b => b < w'.heap.size ∧ ∀ i l, Γ i = some l → l.blk ≠ some b, w', R, fun i => if B.lo ≤ i then Γ i else none, B.lo, []⟩ := fun s' hJ' => by
      refine ⟨hlo, rfl, F', hJ', fun x hx => ⟨henv.bnd _ _ _ _ hJ' hx, fun i l hl hb => ?_⟩, fun x hx => ⟨?_, fun i l hl hb => ?_⟩, fun x o hx => ?_⟩
      · obtain ⟨h1, h2, _⟩ := (hs.own i l hl).2 x hb
        exact hnF x h2 (fun hf => h1 (hF x hf)) hx
      · have := hs.prot x (hRb x hx)
        have := hs.kept.size
        have := hk.size
        omega
      · exact ((hs.own i l hl).2 x hb).1 (hRb x hx)
      · rcases hs.sub x o hx with h0 | h0
        · rcases hR0 x o h0 with h1 | h1
          · exact .inl h1
          · exact .inr (hnF x (hs.bnd x o hx) h1)
        · exact .inr (hnF x (hs.bnd x o hx) fun hf => h0 (hF x hf))
    cases e with
    | outgrown => exact hcase.elim
    | panicked ch =>
      obtain ⟨pv, p, rfl, hrep, hJ'⟩ := hcase
      exact ⟨.panicked _, w', ⟨.pan p, _, mkC _ hJ', R, Γ, fr, .panic p, hs', ⟨pv, rfl, hrep _ _ _⟩, hyp p⟩, hsteps⟩
    | returned ret =>
    obtain ⟨b, rfl, hJ'⟩ := hcase
    have hC' := mkC _ hJ'
    refine ⟨.returned (.bool b), w', ?_, hsteps⟩
    have hput := fun (bb : Bool) (hc : pclear o.dst (.v (.bool bb)) fr = true) => (hs'.put o.dst hoN hc (u := .bool bb) (.v (.bool bb) rfl)).toE
    cases b with
    | true => exact ⟨_, _, _, hC', hput true hcl, hyt⟩
    | false =>
      refine ⟨_, _, _, hC', hput false ?_, hyf⟩
      revert hcl
      unfold pclear
      cases o.dst with
      | none => intro _; rfl
      | some d =>
        dsimp only
        cases fr[d]? with
        | none => intro _; rfl
        | some q =>
          dsimp only
          split
          · intro hcl
            refine List.all_eq_true.2 fun z hz => ?_
            obtain ⟨t, ht⟩ := List.mem_iff_getElem?.1 hz
            rcases getElem?_set' ht with ⟨rfl, rfl, hl'⟩ | ⟨hne, ht'⟩
            · simp [PV.names]
            · exact List.all_eq_true.1 hcl z (List.mem_of_getElem? (i := t) (by rw [List.getElem?_set_ne (Ne.symm hne)]; exact ht'))
          · intro _; rfl
  · rename_i hw
    exact OpR_skip hops (wanted_sound hs rfl hN hw) ⟨_, _, _, hC, hs.skip hoN hy.1, hy.2⟩
  · exact hy.elim
end
theorem dmidE_of {P : Program} {N M k : Nat} {rs : List ResultVar} {c : Code} {x : Operand} {Q : Out → Prop} {fr : PF} {gf : FuncId} {ps : List PV} (caps : List PV) (M' : Nat) (news : List Nat) (H A : PF) (hx : rd fr x = .clo (.func gf) [] ps) (hM : N ≤ M') (hn : ((List.range k).map (M + ·) ++ news).Nodup) (hA : A.length = N)
    (ho : outF fr (tgtAt H ((List.range k).map (M + ·) ++ news) fun _ => false) 8 H ((List.range k).map (M + ·) ++ news))
    (hv : vwAll (vw fr (tgtAt H ((List.range k).map (M + ·) ++ news) fun _ => false) 8) A (slots 0 N fr))
    (hc : vwAll (vw fr (tgtAt H ((List.range k).map (M + ·) ++ news) fun _ => false) 8) caps ps) (hf : ∀ p ∈ caps, p.flat = true)
    (h : ∀ B0 : Base, B0.lo = M' → XW P N (ECtx B0) () c (fun _ => dpost P M' k rs gf caps Q) (frame0 M' A H)) : dmidE P N M k rs c x Q fr := ⟨gf, ps, caps, M', news, H, A, hx, hM, hn, hA, ho, slots_vw hv, hc, hf, h⟩
theorem pwp_loop1 {P : Program} {M : Nat} {c : Code} {Q : PX → PF → Prop} {fr : PF} (h : pwp P M c (thenP (pwp P M (.loop c) Q) Q) fr) : pwp P M (.loop c) Q fr := fun X hX hW => hX _ (pwp_mono c (thenP_mono (fun _ hg => hg X hX hW) fun _ _ h => h) h)
theorem pwp_loop_less {P : Program} {M : Nat} {c : Code} {Q : PX → PF → Prop} {fr : PF} (g : PF) (hl : less M fr g) (h : pwp P M (.loop c) Q g) : pwp P M (.loop c) Q fr := fun X hX hW => hW _ _ (weak_of_less hl) (h X hX hW)
theorem pwp_loop_lessV {P : Program} {M : Nat} {c : Code} {Q : PX → PF → Prop} {fr : PF} (V : List (Nat × PV)) (hl : less M fr (apply V fr)) (h : pwp P M (.loop c) Q (apply V fr)) : pwp P M (.loop c) Q fr := pwp_loop_less _ hl h
end Go.Qg

namespace Go.Qg
open Go.Proofs
set_option maxRecDepth 100000
set_option maxHeartbeats 8000000
set_option linter.unusedSimpArgs false
attribute [local irreducible] pwp pops pdraw pop popCall pdCall thenP blockP scopeP pspec Spec answers ppost CallW rend
def CnrsOk (P : Pln) : Prop := ∀ i, i < P.corners.length → (0 ≤ (cnrAt P.corners i).weight ∧ (cnrAt P.corners i).weight ≤ 20000) ∧ -20000000 ≤ (cnrAt P.corners i).moment ∧ (cnrAt P.corners i).moment ≤ 20000000
theorem edg_small {P : Pln} (h : CnrsOk P) {e : Nat} (he : e < P.corners.length) : Small 20000 (P.cA e).weight ∧ Small 20000000 (P.cA e).moment ∧ Small 20000 (P.dw e) ∧ Small 40000000 (P.dm e) := by
  have h1 := h e he
  have h2 := h ((e + 1) % P.corners.length) (Nat.mod_lt _ (by omega))
  simp only [Small, Pln.cA, Pln.cB, Pln.dw, Pln.dm]
  omega
def edgs (P : Pln) : List PV := (List.range P.corners.length).map fun e => .agg (edgC P e)
theorem edg_get {P : Pln} {n : Nat} {p : PV} (h : (edgs P)[n]? = some p) : n < P.corners.length ∧ p = .agg (edgC P n) := by
  have hl : n < P.corners.length := by
    have := (List.getElem?_eq_some_iff.1 h).1
    simpa [edgs] using this
  refine ⟨hl, ?_⟩
  simp [edgs, hl] at h
  exact h.symm
theorem edgs_length (P : Pln) : (edgs P).length = P.corners.length := by simp [edgs]
theorem edgs_plain {P : Pln} : ∀ p ∈ edgs P, p.plain = true ∧ p.flat = true := fun p hp => by
  obtain ⟨e, _, rfl⟩ := List.mem_map.1 hp
  exact ⟨rfl, rfl⟩
theorem edges_spec (P : Pln) : Spec Tryz.prog 116 [.agg P.cells] (.clo (.func 144) [] [.rp P.cells 0]) := by
  refine spec_of mixed Tryz.func116 (by decide) rfl Tryz.results116 Tryz.ntmps116 (by decide) 0 (by simp) ?_
  simp [Pln.cells, cnrL, stnL]
  refine answers_of rfl ?_; simp [Pln.cells, cnrL, stnL]
theorem edges_gen (P : Pln) (hc : CnrsOk P) (hn : P.corners.length ≤ 1000000) : GenW Tryz.prog 144 [.rp P.cells 0] (edgs P) := by
  refine gen_of Tryz.func144 (by decide) rfl Tryz.results144 Tryz.ntmps144 0 (by simp) fun l Rb J henv => ?_
  have hlo : ∀ s B, GCtx 47 Rb J s B → B.lo = 47 := fun _ _ h => h.1
  refine XW_seqP mixed hlo (by decide) ?_
  simp [Pln.cells, cnrL, stnL]
  refine XW_block ?_
  refine XW_loopV hlo (fun k : Nat => [(10, .v (.int .i64 k))]) (fun k => GS.on k) (fun k => k ≤ P.corners.length) (fun k => P.corners.length - k) 0 (Nat.zero_le _) rfl (by simp; rfl) (by simp) ?_
  intro k hk
  refine XW_seqP mixed hlo (by decide) ?_
  by_cases hlt : k < P.corners.length
  · have wk := i64_wrap (show -9223372036854775808 ≤ (k : Int) + 1 ∧ _ from by omega)
    have hne : ¬ P.corners = [] := fun e => by rw [e] at hlt; cases hlt
    obtain ⟨j, hj⟩ : ∃ j : Nat, j = (k + 1) % P.corners.length := ⟨_, rfl⟩
    have hjl : j < P.corners.length := hj ▸ Nat.mod_lt _ (by omega)
    have hji : ((k : Int) + 1).tmod (P.corners.length : Int) = (j : Int) := by rw [hj]; rfl
    have hsm := edg_small hc hlt
    obtain ⟨s1, s2, s3, s4⟩ := hsm
    simp only [Small, Pln.dw, Pln.dm, Pln.cA, Pln.cB, ← hj] at s1 s2 s3 s4
    simp [hlt]
    refine XW_seqP mixed hlo (by decide) ?_
    simp
    refine XW_seqX (XW_block ?_)
    refine XW_seqP mixed hlo (by decide) ?_
    simp [hlt, Cnr.cells]
    refine XW_seqP mixed hlo (by decide) ?_
    refine pwp_draw 13 (by decide) ?_
    simp [hlt, Cnr.cells, wk, hne, hji, hjl]
    refine ⟨by decide, ?_⟩
    refine XW_seqX (XW_yieldS (m := 17) henv (by decide) (by decide) ?_)
    have g1 : IntKind.i64.wrap ((cnrAt P.corners j).weight - (cnrAt P.corners k).weight) = P.dw k := by rw [Pln.dw, Pln.cA, Pln.cB, ← hj]; exact i64_wrap (by omega)
    have g2 : IntKind.i64.wrap ((cnrAt P.corners j).moment - (cnrAt P.corners k).moment) = P.dm k := by rw [Pln.dm, Pln.cA, Pln.cB, ← hj]; exact i64_wrap (by omega)
    have hel : (edgs P)[k]? = some (.agg [.v (.int .i64 k), .v (.int .i64 (cnrAt P.corners k).weight), .v (.int .i64 (cnrAt P.corners k).moment), .v (.int .i64 (P.dw k)), .v (.int .i64 (P.dm k))]) := by
      simp [edgs, hlt, edgC, Pln.cA]
    simp
    simp [pyield, yargs, g1, g2, hel]
    refine ⟨?_, ?_⟩
    · refine XW_pwp mixed hlo (by decide) ?_
      simp
      refine XW_pwp mixed hlo (by decide) ?_
      simp [wk]
      refine againX_of (k + 1) (by omega) (by omega) rfl ?_
      simp
    · refine XW_pwp mixed hlo (by decide) ?_
      simp
  · obtain rfl : k = P.corners.length := by omega
    simp
    refine XW_pwp mixed hlo (by decide) ?_
    simp [edgs_length]
def insTo (P : Pln) (w m : Int) (n : Nat) : Bool := allN n fun e => decide (0 ≤ P.side e w m)
theorem insTo_succ (P : Pln) (w m : Int) (n : Nat) : insTo P w m (n + 1) = (insTo P w m n && decide (0 ≤ P.side n w m)) := by simp [insTo, allN, List.range_succ]
theorem insTo_all (P : Pln) (w m : Int) : insTo P w m P.corners.length = P.insideB w m := rfl
theorem insTo_no {P : Pln} {w m : Int} {n : Nat} (h : insTo P w m n = false) {k : Nat} (hk : n ≤ k) : insTo P w m k = false := by
  induction k with
  | zero => obtain rfl : n = 0 := by omega
            exact h
  | succ k ih =>
    rcases Nat.lt_or_eq_of_le hk with h1 | rfl
    · rw [insTo_succ, ih (by omega)]; rfl
    · exact h
def insV (w m : Int) : PF := [.undef, .undef, .undef, .undef, .rp [.v (.int .i64 w)] 0, .rp [.v (.int .i64 m)] 0, .box true [.v (.bool false)], .undef, .undef, .undef, .undef, .undef, .undef, .undef, .undef, .undef]
def insA (w m : Int) : PF := [.undef, .undef, .undef, .undef, .rp [.v (.int .i64 w)] 0, .rp [.v (.int .i64 m)] 0, .ref 0 0, .undef, .undef, .undef, .undef, .undef, .undef, .undef, .undef, .undef]
theorem inside_spec (P : Pln) (w m : Int) (hc : CnrsOk P) (hn : P.corners.length ≤ 1000000) (hw : Small 4000000 w) (hm : Small 4000000000 m) : Spec Tryz.prog 119 [.agg P.cells, .v (.int .i64 w), .v (.int .i64 m)] (.v (.bool (P.insideB w m))) := by
  have hgen := edges_gen P hc hn
  unfold Spec
  refine callW_ofE Tryz.func119 (by decide) rfl (congrArg Array.toList Tryz.results119) Tryz.ntmps119 16 (by simp) (by decide) fun B0 hB0 hD0 => ?_
  have hlo : ∀ s B, ECtx B0 s B → B.lo = 16 := fun _ _ h => h.1.trans hB0
  refine XW_seqP mixed hlo (by decide) ?_
  simp [Pln.cells, cnrL, stnL]
  refine XW_seqX (XW_seqP mixed hlo (by decide) ?_)
  simp
  refine pop_spec (edges_spec P) rfl false (.inl (by simp [Pln.cells, cnrL, stnL])) (.inl rfl) rfl (by simp) ?_
  simp
  refine XW_block ?_
  refine XW_rangeI (by decide) mixed rfl (by rfl) hgen edgs_plain (by decide) (by decide) 16 (by decide) [6] (by decide)
    (fun n => if insTo P w m n = true then insV w m else [])
    (fun n => insA w m)
    (fun n => [.box false [.v (.bool false)]]) ?_ (fun n hn hV => ?_) (fun n q hq hV => ?_) ?_
  · rw [hB0]
    simp [insTo, allN, insV, Pln.cells, cnrL, stnL]
  · cases hs : insTo P w m n with
    | false => simp [hs] at hV
    | true =>
      refine ⟨rfl, ?_, slots_view (t := 10) ?_ rfl⟩
      · simp [insV]
      · simp [slots, insV, insA]
  · obtain ⟨hn, rfl⟩ := edg_get hq
    obtain ⟨s1, s2, s3, s4⟩ := edg_small hc hn
    rw [hB0]
    cases hs : insTo P w m n with
    | false => simp [hs] at hV
    | true =>
      have hside := side_spec (n : Int) (P.cA n).weight (P.cA n).moment (P.dw n) (P.dm n) w m s1 s2 s3 s4 hw hm
      rw [show P.dw n * (m - (P.cA n).moment) - P.dm n * (w - (P.cA n).weight) = P.side n w m from rfl] at hside
      have hsucc := insTo_succ P w m n
      simp [insA, edgC]
      refine pop_spec hside rfl false (.inl (by simp)) (.inl rfl) rfl (by simp) ?_
      by_cases hlt : P.side n w m < 0
      · have hno : insTo P w m (n + 1) = false := by rw [hsucc]; simp; intro _; omega
        have hall : P.insideB w m = false := insTo_no hno (show n + 1 ≤ P.corners.length by omega)
        simp [hlt, hno]
        refine rend_r [.box false [.v (.bool false)]] ?_ ?_
        · simp
        · simp [back, placeAll, insV, blockX, thenX]
          refine ends_of (.v (.bool false)) [] [] rfl (by decide) ?_ ?_ (by simp [hall])
          · simp
          · simp
      · have hyes : insTo P w m (n + 1) = true := by rw [hsucc, hs]; simp; omega
        simp [hlt, hyes]
        refine rend_n [.box false [.v (.bool false)]] ?_ ?_
        · simp
        · simp [back, placeAll, insV]
  · intro hV
    rw [edgs_length] at hV ⊢
    cases hs : insTo P w m P.corners.length with
    | false => simp [hs] at hV
    | true =>
      simp [blockX, thenX, insV]
      refine XW_pwp mixed hlo (by decide) ?_
      simp
      refine ends_of (.v (.bool true)) [] [] rfl (by decide) ?_ ?_ (by rw [← insTo_all, hs])
      · simp
      · simp
end Go.Qg

namespace Go.Qg
open Go.Proofs
set_option maxRecDepth 100000
set_option maxHeartbeats 16000000
set_option linter.unusedSimpArgs false
attribute [local irreducible] pwp pops pdraw pop popCall pdCall thenP blockP scopeP pspec Spec answers ppost CallW rend
theorem allN_succ (n : Nat) (p : Nat → Bool) : allN (n + 1) p = (allN n p && p n) := by simp [allN, List.range_succ]
theorem allN_no {n : Nat} {p : Nat → Bool} (h : allN n p = false) {k : Nat} (hk : n ≤ k) : allN k p = false := by
  induction k with
  | zero => obtain rfl : n = 0 := by omega
            exact h
  | succ k ih =>
    rcases Nat.lt_or_eq_of_le hk with h1 | rfl
    · rw [allN_succ, ih (by omega)]; rfl
    · exact h
def cvxB (P : Pln) (e k : Nat) : Bool := decide (k = e) || decide (k = (e + 1) % P.corners.length) || decide (0 < P.side e (cnrAt P.corners k).weight (cnrAt P.corners k).moment)
def cvxR (P : Pln) (e : Nat) : Bool := allN P.corners.length (cvxB P e)
def convexB (P : Pln) : Bool := allN P.corners.length (cvxR P)
def cvxV (P : Pln) : PF := [.undef, .rp P.cells 0, .box true [.v (.bool false)], .undef, .undef, .undef, .undef, .undef, .undef, .undef, .undef, .undef, .undef, .undef, .undef, .undef, .undef, .undef, .undef, .undef, .undef, .undef, .undef, .undef, .undef, .undef, .undef, .undef, .undef, .undef, .undef, .undef, .undef, .undef, .undef, .undef, .undef, .undef, .undef, .undef, .undef, .undef, .undef, .undef]
def cvxA (P : Pln) : PF := [.undef, .rp P.cells 0, .ref 0 0, .undef, .undef, .undef, .undef, .undef, .undef, .undef, .undef, .undef, .undef, .undef, .undef, .undef, .undef, .undef, .undef, .undef, .undef, .undef, .undef, .undef, .undef, .undef, .undef, .undef, .undef, .undef, .undef, .undef, .undef, .undef, .undef, .undef, .undef, .undef, .undef, .undef, .undef, .undef, .undef, .undef]
theorem convex_spec (P : Pln) (hc : CnrsOk P) (hn : P.corners.length ≤ 1000000) : Spec Tryz.prog 134 [.agg P.cells] (.v (.bool (convexB P))) := by
  have hgen := edges_gen P hc hn
  unfold Spec
  refine callW_ofE Tryz.func134 (by decide) rfl (congrArg Array.toList Tryz.results134) Tryz.ntmps134 44 (by simp) (by decide) fun B0 hB0 hD0 => ?_
  have hlo : ∀ s B, ECtx B0 s B → B.lo = 44 := fun _ _ h => h.1.trans hB0
  refine XW_seqP mixed hlo (by decide) ?_
  simp [Pln.cells, cnrL, stnL]
  refine XW_seqX (XW_seqP mixed hlo (by decide) ?_)
  simp
  refine pop_spec (edges_spec P) rfl false (.inl (by simp [Pln.cells, cnrL, stnL])) (.inl rfl) rfl (by simp) ?_
  simp
  refine XW_block ?_
  refine XW_rangeI (by decide) mixed rfl (by rfl) hgen edgs_plain (by decide) (by decide) 44 (by decide) [2] (by decide)
    (fun n => if allN n (cvxR P) = true then cvxV P else [])
    (fun n => cvxA P)
    (fun n => [.box false [.v (.bool false)]]) ?_ (fun n hn hV => ?_) (fun n q hq hV => ?_) ?_
  · rw [hB0]
    simp [allN, cvxV, Pln.cells, cnrL, stnL]
  · cases hs : allN n (cvxR P) with
    | false => simp [hs] at hV
    | true =>
      refine ⟨rfl, ?_, slots_view (t := 8) ?_ rfl⟩
      · simp [cvxV, Pln.cells, cnrL, stnL]
      · simp [slots, cvxV, cvxA, Pln.cells, cnrL, stnL]
  · obtain ⟨hnl, rfl⟩ := edg_get hq
    obtain ⟨s1, s2, s3, s4⟩ := edg_small hc hnl
    rw [hB0]
    cases hs : allN n (cvxR P) with
    | false => simp [hs] at hV
    | true =>
      have hsucc := allN_succ n (cvxR P)
      have hne : ¬ P.corners = [] := fun e => by rw [e] at hnl; cases hnl
      obtain ⟨j, hj⟩ : ∃ j : Nat, j = (n + 1) % P.corners.length := ⟨_, rfl⟩
      have hji : ((n : Int) + 1).tmod (P.corners.length : Int) = (j : Int) := by rw [hj]; rfl
      have wn := i64_wrap (show -9223372036854775808 ≤ (n : Int) + 1 ∧ _ from by omega)
      simp [cvxA, edgC, Pln.cells, cnrL, stnL]
      refine pwp_loop (fun k : Nat => [(13, .v (.int .i64 k))]) (fun k => k ≤ P.corners.length ∧ ∀ i, i < k → cvxB P n i = true) (fun k => P.corners.length - k) 0 ⟨Nat.zero_le _, fun i hi => by omega⟩ (by simp; rfl) (by simp) ?_
      intro k ⟨hk, hp⟩
      by_cases hkl : k < P.corners.length
      · have wk := i64_wrap (show -9223372036854775808 ≤ (k : Int) + 1 ∧ _ from by omega)
        have go : cvxB P n k = true → ∀ i, i < k + 1 → cvxB P n i = true := fun hb i hi => by
          rcases Nat.lt_or_eq_of_le (Nat.le_of_lt_succ hi) with h' | rfl
          · exact hp i h'
          · exact hb
        by_cases c1 : k = n
        · subst c1
          simp [hkl, Cnr.cells]
          refine again_of (k + 1) ⟨by omega, go (by simp [cvxB])⟩ (by omega) ?_
          simp [wk]
        by_cases c2 : k = j
        · subst c2
          simp (config := { maxSteps := 4000000 }) [hkl, Cnr.cells, c1, show ¬ (k : Int) = n from by omega, wn, hne, hji]
          refine again_of (k + 1) ⟨by omega, go (by simp [cvxB, ← hj])⟩ (by omega) ?_
          simp [wk]
        have hck := hc k hkl
        have hside := side_spec (n : Int) (P.cA n).weight (P.cA n).moment (P.dw n) (P.dm n) (cnrAt P.corners k).weight (cnrAt P.corners k).moment s1 s2 s3 s4 (by simp only [Small]; omega) (by simp only [Small]; omega)
        rw [show P.dw n * ((cnrAt P.corners k).moment - (P.cA n).moment) - P.dm n * ((cnrAt P.corners k).weight - (P.cA n).weight) = P.side n (cnrAt P.corners k).weight (cnrAt P.corners k).moment from rfl] at hside
        have d1 : ¬ (k : Int) = n := by omega
        have d2 : ¬ (k : Int) = j := by omega
        simp (config := { maxSteps := 4000000 }) [hkl, Cnr.cells, c1, d1, wn, hne, hji, c2, d2]
        refine pop_spec hside rfl false (.inl (by simp)) (.inl rfl) rfl (by simp) ?_
        by_cases c3 : P.side n (cnrAt P.corners k).weight (cnrAt P.corners k).moment ≤ 0
        · have hb : cvxB P n k = false := by simp [cvxB, c1, ← hj, c2, c3]
          have hno : allN (n + 1) (cvxR P) = false := by rw [hsucc, show cvxR P n = false from allN_false hkl hb]; simp
          have hall : convexB P = false := allN_no hno (show n + 1 ≤ P.corners.length by omega)
          simp [c3, hno, d1, d2]
          refine rend_r [.box false [.v (.bool false)]] ?_ ?_
          · simp
          · simp [back, placeAll, cvxV, blockX, thenX]
            refine ends_of (.v (.bool false)) [] [] rfl (by decide) ?_ ?_ (by simp [hall])
            · simp
            · simp
        · simp [c3, d1, d2]
          refine again_of (k + 1) ⟨by omega, go (by simp [cvxB, Int.not_le.1 c3])⟩ (by omega) ?_
          simp [wk]
      · obtain rfl : k = P.corners.length := by omega
        have hyes : allN (n + 1) (cvxR P) = true := by rw [hsucc, hs, show cvxR P n = true from allN_spec.2 hp]; rfl
        simp [hyes]
        refine rend_n [.box false [.v (.bool false)]] ?_ ?_
        · simp
        · simp [back, placeAll, cvxV, Pln.cells, cnrL, stnL]
  · intro hV
    rw [edgs_length] at hV ⊢
    cases hs : allN P.corners.length (cvxR P) with
    | false => simp [hs] at hV
    | true =>
      simp [blockX, thenX, cvxV]
      refine XW_pwp mixed hlo (by decide) ?_
      simp
      refine ends_of (.v (.bool true)) [] [] rfl (by decide) ?_ ?_ (by rw [convexB, hs])
      · simp
      · simp
def cornersB (P : Pln) : Bool := allN P.corners.length fun k => cnrB (cnrAt P.corners k)
def stnsB (l : List Stn) : Bool := allN l.length fun k => stnB (stnAt l k)
def validB (P : Pln) : Bool :=
  inB P.empty 1 20000 && inB P.moment (-20000000) 20000000 && kilosB [P.takeoff, P.landing, P.reserve] && inB P.corners.length 3 12 && decide (P.stations.length ≤ 8) && decide (P.floats.length ≤ 2) && cornersB P && stnsB P.stations && stnB P.tank && stnsB P.floats && convexB P
theorem corners_ok {P : Pln} (h : cornersB P = true) : CnrsOk P := fun i hi => by
  have := allN_spec.1 h i hi
  simpa [cnrB, inB_spec] using this
theorem convex_ok {P : Pln} : convexB P = true ↔ ∀ e, e < P.corners.length → ∀ k, k < P.corners.length → k ≠ e → k ≠ (e + 1) % P.corners.length → 0 < P.side e (cnrAt P.corners k).weight (cnrAt P.corners k).moment := by
  simp only [convexB, cvxR, allN_spec, cvxB, Bool.or_eq_true, decide_eq_true_eq]
  constructor
  · intro h e he k hk h1 h2
    rcases h e he k hk with (h3 | h3) | h3
    · exact (h1 h3).elim
    · exact (h2 h3).elim
    · exact h3
  · intro h e he k hk
    by_cases h1 : k = e
    · exact .inl (.inl h1)
    · by_cases h2 : k = (e + 1) % P.corners.length
      · exact .inl (.inr h2)
      · exact .inr (h e he k hk h1 h2)
theorem valid_ok {P : Pln} : validB P = true ↔ PlnOk P := by
  simp only [validB, Bool.and_eq_true, decide_eq_true_eq, kilosB_three, inB_spec]
  constructor
  · rintro ⟨⟨⟨⟨⟨⟨⟨⟨⟨⟨h1, h2⟩, ⟨h3, h4⟩, h5⟩, h6⟩, h7⟩, h8⟩, h9⟩, h10⟩, h11⟩, h12⟩, h13⟩
    exact ⟨h1, h2, h3, h4, h5, by omega, h7, h8, stnB_spec.1 h11, fun i hi => stnB_spec.1 (allN_spec.1 h10 i hi), fun i hi => stnB_spec.1 (allN_spec.1 h12 i hi), corners_ok h9, convex_ok.1 h13⟩
  · intro h
    exact ⟨⟨⟨⟨⟨⟨⟨⟨⟨⟨h.empty, h.moment⟩, ⟨h.takeoff, h.landing⟩, h.reserve⟩, by have := h.n; omega⟩, h.ns⟩, h.nf⟩, allN_spec.2 fun i hi => by have := h.corner i hi; simpa [cnrB, inB_spec] using this⟩, allN_spec.2 fun i hi => stnB_spec.2 (h.station i hi)⟩, stnB_spec.2 h.tank⟩, allN_spec.2 fun i hi => stnB_spec.2 (h.float i hi)⟩, convex_ok.2 h.convex⟩
structure PlnLen (P : Pln) : Prop where
  c : P.corners.length ≤ 9223372036854775807
  s : P.stations.length ≤ 9223372036854775807
  f : P.floats.length ≤ 9223372036854775807
theorem valid_spec (P : Pln) (hl : PlnLen P) : Spec Tryz.prog 109 [.agg P.cells] (.v (.bool (validB P))) := by
  have l1 := hl.c
  have l2 := hl.s
  have l3 := hl.f
  refine spec_of mixed Tryz.func109 (by decide) rfl Tryz.results109 Tryz.ntmps109 (by decide) 0 (by simp) ?_
  simp [Pln.cells, cnrL, stnL]
  refine pop_spec (allCnr_spec P.corners l1 131 [] [] rfl rfl (fun k => cnrB (cnrAt P.corners k)) fun k hk => valid1_spec (cnrAt P.corners k)) rfl false (.inl (by simp [cnrL])) (.inl rfl) rfl (by simp) ?_
  simp
  refine pop_spec (lin_spec P.empty 1 20000) rfl false (.inl (by simp)) (.inl rfl) rfl (by simp) ?_
  cases h1 : inB P.empty 1 20000 with
  | false => simp; refine answers_of rfl ?_; simp [validB, h1]
  | true =>
  simp
  refine pop_spec (lin_spec P.moment (-20000000) 20000000) rfl false (.inl (by simp)) (.inl rfl) rfl (by simp) ?_
  cases h2 : inB P.moment (-20000000) 20000000 with
  | false => simp; refine answers_of rfl ?_; simp [validB, h2]
  | true =>
  simp
  refine pop_specF [(28, ints [P.takeoff, P.landing, P.reserve])] ?_ (lkilos_spec [P.takeoff, P.landing, P.reserve] (by simp)) rfl false (.inl (by simp [ints])) (.inl rfl) rfl (by simp) ?_
  · simp [ints, geti]
    intro k hk
    rcases k with _ | _ | _ | k
    · simp
    · simp
    · simp
    · omega
  cases h3 : kilosB [P.takeoff, P.landing, P.reserve] with
  | false => simp; refine answers_of rfl ?_; simp [validB, h3]
  | true =>
  simp
  refine pop_spec (lin_spec P.corners.length 3 12) rfl false (.inl (by simp)) (.inl rfl) rfl (by simp) ?_
  cases h4 : inB P.corners.length 3 12 with
  | false => simp; refine answers_of rfl ?_; simp [validB, h4]
  | true =>
  have h4' := inB_spec.1 h4
  by_cases h5 : P.stations.length ≤ 8
  case neg => simp [show ¬ (P.stations.length : Int) ≤ 8 from by omega]; refine answers_of rfl ?_; simp [validB, h5]
  by_cases h6 : P.floats.length ≤ 2
  case neg => simp [show (P.stations.length : Int) ≤ 8 from by omega, show ¬ (P.floats.length : Int) ≤ 2 from by omega]; refine answers_of rfl ?_; simp [validB, h6]
  cases h7 : allN P.corners.length fun k => cnrB (cnrAt P.corners k) with
  | false => simp [show (P.stations.length : Int) ≤ 8 from by omega, show (P.floats.length : Int) ≤ 2 from by omega]; refine answers_of rfl ?_; simp [validB, cornersB, h7]
  | true =>
  simp [show (P.stations.length : Int) ≤ 8 from by omega, show (P.floats.length : Int) ≤ 2 from by omega]
  refine pop_spec (allStn_spec P.stations l2 133 [] [] rfl rfl (fun k => stnB (stnAt P.stations k)) fun k hk => station_spec (stnAt P.stations k)) rfl false (.inl (by simp [stnL])) (.inl rfl) rfl (by simp) ?_
  cases h8 : allN P.stations.length fun k => stnB (stnAt P.stations k) with
  | false => simp; refine answers_of rfl ?_; simp [validB, stnsB, h8]
  | true =>
  simp
  refine pop_spec (station_spec P.tank) rfl false (.inl (by simp [Stn.cells])) (.inl rfl) rfl (by simp) ?_
  cases h9 : stnB P.tank with
  | false => simp; refine answers_of rfl ?_; simp [validB, h9]
  | true =>
  simp
  refine pop_spec (allStn_spec P.floats l3 133 [] [] rfl rfl (fun k => stnB (stnAt P.floats k)) fun k hk => station_spec (stnAt P.floats k)) rfl false (.inl (by simp [stnL])) (.inl rfl) rfl (by simp) ?_
  cases h10 : allN P.floats.length fun k => stnB (stnAt P.floats k) with
  | false => simp; refine answers_of rfl ?_; simp [validB, stnsB, h10]
  | true =>
  simp
  refine pop_spec (convex_spec P (corners_ok h7) (by omega)) rfl false (.inl (by simp [Pln.cells, cnrL, stnL])) (.inl rfl) rfl (by simp) ?_
  simp
  refine answers_of rfl ?_; simp [validB, h1, h2, h3, h4, h5, h6, cornersB, h7, stnsB, h8, h9, h10]
def insideRes (P : Pln) (w m : Int) : PV := if validB P = true ∧ inB w (-800000) 800000 = true ∧ inB m (-800000000) 800000000 = true then .tup [.v (.bool (P.insideB w m)), .v (.int .i64 0)] else .tup [.v (.bool false), .v (.int .i64 2)]
theorem lInside_spec (P : Pln) (w m : Int) (hl : PlnLen P) : Spec Tryz.prog 92 [.agg P.cells, .v (.int .i64 w), .v (.int .i64 m)] (insideRes P w m) := by
  have hv := valid_spec P hl
  unfold insideRes
  refine spec_of mixed Tryz.func92 (by decide) rfl Tryz.results92 Tryz.ntmps92 (by decide) 0 (by simp) ?_
  simp [Pln.cells, cnrL, stnL]
  refine pop_spec hv rfl false (.inl (by simp [Pln.cells, cnrL, stnL])) (.inl rfl) rfl (by simp) ?_
  cases h : validB P with
  | false => simp; refine answers_of rfl ?_; simp
  | true =>
  simp
  refine pop_spec (lin_spec w (-800000) 800000) rfl false (.inl (by simp)) (.inl rfl) rfl (by simp) ?_
  cases h1 : inB w (-800000) 800000 with
  | false => simp; refine answers_of rfl ?_; simp
  | true =>
  simp
  refine pop_spec (lin_spec m (-800000000) 800000000) rfl false (.inl (by simp)) (.inl rfl) rfl (by simp) ?_
  cases h2 : inB m (-800000000) 800000000 with
  | false => simp; refine answers_of rfl ?_; simp
  | true =>
  have hok := valid_ok.1 h
  have hn := hok.n
  have h1' := inB_spec.1 h1
  have h2' := inB_spec.1 h2
  simp
  refine pop_spec (inside_spec P w m hok.corner (by omega) (by simp only [Small]; omega) (by simp only [Small]; omega)) rfl false (.inl (by simp [Pln.cells, cnrL, stnL])) (.inl rfl) rfl (by simp) ?_
  simp
  refine answers_of rfl ?_; simp
def trippedE (P : Pln) (fuel : Spn) (legs : List Leg) : Int := if 6 < legs.length then 3 else if validB P = true then tripE fuel legs P.stations.length else 2
theorem tripped_spec (P : Pln) (fuel : Spn) (legs : List Leg) (hP : PlnLen P) (hl : legs.length ≤ 9223372036854775807) (hi : ∀ k, k < legs.length → (legAt legs k).items.length ≤ 9223372036854775807) :
    Spec Tryz.prog 63 [.agg P.cells, .agg fuel.cells, legL legs] (.v (.int .i64 (trippedE P fuel legs))) := by
  have l2 := hP.s
  have hv := valid_spec P hP
  have ht := trip_spec fuel legs P.stations.length hl hi (by omega)
  refine spec_of mixed Tryz.func63 (by decide) rfl Tryz.results63 Tryz.ntmps63 (by decide) 0 (by simp) ?_
  simp [Pln.cells, cnrL, stnL, legL, Spn.cells]
  refine pop_spec ht rfl false (.inl (by simp [legL, Spn.cells])) (.inl rfl) rfl (by simp) ?_
  by_cases h : 6 < legs.length
  · have e : tripE fuel legs P.stations.length = 3 := by simp [tripE, h]
    rw [e]
    simp
    refine answers_of rfl ?_; simp [trippedE, h]
  · have e : ¬ tripE fuel legs P.stations.length = 3 := by
      simp only [tripE, if_neg h]
      split <;> omega
    simp [e]
    refine pop_spec hv rfl false (.inl (by simp [Pln.cells, cnrL, stnL])) (.inl rfl) rfl (by simp) ?_
    cases h2 : validB P with
    | true => simp [e]; refine answers_of rfl ?_; simp [trippedE, h, h2]
    | false => simp [e]; refine answers_of rfl ?_; simp [trippedE, h, h2]
end Go.Qg

namespace Go.Qg
open Go.Proofs
set_option maxRecDepth 100000
set_option maxHeartbeats 16000000
set_option linter.unusedSimpArgs false
attribute [local irreducible] pwp pops pdraw pop popCall pdCall thenP blockP scopeP pspec Spec answers ppost CallW rend
def pntC (P : Pln) (X : Pnt) : List PV := [.v (.int .i64 P.empty), .v (.int .i64 P.moment), .v (.int .i64 P.takeoff), .v (.int .i64 P.landing), cnrL P.corners, stnL P.stations, .v (.int .i64 P.tank.arm), .v (.int .i64 P.tank.most), .v (.int .i64 P.reserve), stnL P.floats, itmL X.items, .v (.int .i64 X.tank.low), .v (.int .i64 X.tank.high), spnL X.water, .v (.bool X.landing)]
structure Prt where
  kind : Int
  idx : Nat
  arm : Int
  low : Int
  high : Int
  deriving Inhabited
def Prt.cells (p : Prt) : List PV := [.v (.int .i64 p.kind), .v (.int .i64 p.idx), .v (.int .i64 p.arm), .v (.int .i64 p.low), .v (.int .i64 p.high)]
def partI' (P : Pln) (X : Pnt) (i : Nat) : Prt := ⟨0, i, armI P X i, (itmAt X.items i).low, (itmAt X.items i).high⟩
def partT (P : Pln) (X : Pnt) : Prt := ⟨1, 0, P.tank.arm, X.tank.low, X.tank.high⟩
def partF (P : Pln) (X : Pnt) (i : Nat) : Prt := ⟨2, i, armF P i, (spnAt X.water i).low, (spnAt X.water i).high⟩
def partN (P : Pln) (X : Pnt) (n : Nat) : Prt := if n < X.items.length then partI' P X n else if n = X.items.length then partT P X else partF P X (n - X.items.length - 1)
def partK (X : Pnt) : Nat := X.items.length + 1 + X.water.length
def partsL (P : Pln) (X : Pnt) : List PV := (List.range (partK X)).map fun n => .agg (partN P X n).cells
theorem partsL_length (P : Pln) (X : Pnt) : (partsL P X).length = partK X := by simp [partsL]
theorem parts_get {P : Pln} {X : Pnt} {n : Nat} {p : PV} (h : (partsL P X)[n]? = some p) : n < partK X ∧ p = .agg (partN P X n).cells := by
  have hl : n < partK X := by
    have := (List.getElem?_eq_some_iff.1 h).1
    simpa [partsL] using this
  refine ⟨hl, ?_⟩
  simp [partsL, hl] at h
  exact h.symm
theorem parts_plain {P : Pln} {X : Pnt} : ∀ p ∈ partsL P X, p.plain = true ∧ p.flat = true := fun p hp => by
  obtain ⟨e, _, rfl⟩ := List.mem_map.1 hp
  exact ⟨rfl, rfl⟩
theorem parts_at {P : Pln} {X : Pnt} {n : Nat} (h : n < partK X) : (partsL P X)[n]? = some (.agg (partN P X n).cells) := by simp [partsL, h]
theorem parts_spec (P : Pln) (X : Pnt) : Spec Tryz.prog 114 [.agg (pntC P X)] (.clo (.func 143) [] [.rp (pntC P X) 0]) := by
  refine spec_of mixed Tryz.func114 (by decide) rfl Tryz.results114 Tryz.ntmps114 (by decide) 0 (by simp) ?_
  simp [pntC, cnrL, stnL, itmL, spnL]
  refine answers_of rfl ?_; simp [pntC, cnrL, stnL, itmL, spnL]
theorem parts_gen (P : Pln) (X : Pnt) (hX : PntOk P X) (hf : P.floats.length ≤ 2) : GenW Tryz.prog 143 [.rp (pntC P X) 0] (partsL P X) := by
  have hni := hX.n
  have hnw := hX.nw
  refine gen_of Tryz.func143 (by decide) rfl Tryz.results143 Tryz.ntmps143 0 (by simp) fun l Rb J henv => ?_
  have hlo : ∀ s B, GCtx 69 Rb J s B → B.lo = 69 := fun _ _ h => h.1
  refine XW_seqX (XW_seqP mixed hlo (by decide) ?_)
  simp [pntC, cnrL, stnL, itmL, spnL]
  refine XW_block ?_
  refine XW_loopV hlo (fun k : Nat => [(11, .v (.int .i64 k))]) (fun k => GS.on k) (fun k => k ≤ X.items.length) (fun k => X.items.length - k) 0 (Nat.zero_le _) rfl (by simp; rfl) (by simp) ?_
  intro k hk
  refine XW_seqP mixed hlo (by decide) ?_
  by_cases hlt : k < X.items.length
  · have wk := i64_wrap (show -9223372036854775808 ≤ (k : Int) + 1 ∧ _ from by omega)
    have hit := hX.item k hlt
    obtain ⟨s, hs⟩ : ∃ s : Nat, (itmAt X.items k).station = s := ⟨(itmAt X.items k).station.toNat, by omega⟩
    have hsl : s < P.stations.length := by omega
    have hel : (partsL P X)[k]? = some (.agg [.v (.int .i64 0), .v (.int .i64 k), .v (.int .i64 (stnAt P.stations s).arm), .v (.int .i64 (itmAt X.items k).low), .v (.int .i64 (itmAt X.items k).high)]) := by
      rw [parts_at (by unfold partK; omega)]
      simp [partN, hlt, partI', Prt.cells, armI, hs]
    simp [hlt]
    refine XW_seqP mixed hlo (by decide) ?_
    simp
    refine XW_seqX (XW_block ?_)
    refine XW_seqP mixed hlo (by decide) ?_
    simp [hlt, Itm.cells]
    refine XW_seqX (XW_yield (m := 14) mixed henv (by decide) (by decide) ?_)
    simp [hlt, hs, hsl, Stn.cells]
    refine ⟨by decide, ?_⟩
    simp [pyield, yargs, hel]
    refine ⟨?_, ?_⟩
    · refine XW_pwp mixed hlo (by decide) ?_
      simp
      refine XW_pwp mixed hlo (by decide) ?_
      simp [wk]
      refine againX_of (k + 1) (by omega) (by omega) rfl ?_
      simp
    · refine XW_pwp mixed hlo (by decide) ?_
      simp
  · obtain rfl : k = X.items.length := by omega
    have hel : (partsL P X)[X.items.length]? = some (.agg [.v (.int .i64 1), .v (.int .i64 0), .v (.int .i64 P.tank.arm), .v (.int .i64 X.tank.low), .v (.int .i64 X.tank.high)]) := by
      rw [parts_at (by unfold partK; omega)]
      simp [partN, partT, Prt.cells]
    simp
    refine XW_pwp mixed hlo (by decide) ?_
    simp
    refine XW_seqX (XW_seqX (XW_yieldS (m := 10) henv (by decide) (by decide) ?_))
    simp
    simp [pyield, yargs, hel]
    refine ⟨?_, ?_⟩
    · refine XW_pwp mixed hlo (by decide) ?_
      simp
      refine XW_seqP mixed hlo (by decide) ?_
      simp
      refine XW_block ?_
      refine XW_loopV hlo (fun k : Nat => [(49, .v (.int .i64 k))]) (fun k => GS.on (X.items.length + 1 + k)) (fun k => k ≤ X.water.length) (fun k => X.water.length - k) 0 (Nat.zero_le _) rfl (by simp; rfl) (by simp) ?_
      intro k hk
      refine XW_seqP mixed hlo (by decide) ?_
      by_cases hlt : k < X.water.length
      · have wk := i64_wrap (show -9223372036854775808 ≤ (k : Int) + 1 ∧ _ from by omega)
        have hkf : k < P.floats.length := by omega
        have hel : (partsL P X)[X.items.length + 1 + k]? = some (.agg [.v (.int .i64 2), .v (.int .i64 k), .v (.int .i64 (stnAt P.floats k).arm), .v (.int .i64 (spnAt X.water k).low), .v (.int .i64 (spnAt X.water k).high)]) := by
          rw [parts_at (by unfold partK; omega)]
          simp [partN, show ¬ X.items.length + 1 + k < X.items.length from by omega, show ¬ X.items.length + 1 + k = X.items.length from by omega, show X.items.length + 1 + k - X.items.length - 1 = k from by omega, partF, Prt.cells, armF]
        simp [hlt]
        refine XW_seqP mixed hlo (by decide) ?_
        simp
        refine XW_seqX (XW_block ?_)
        refine XW_seqP mixed hlo (by decide) ?_
        simp [hlt, Spn.cells]
        refine XW_seqX (XW_yield (m := 12) mixed henv (by decide) (by decide) ?_)
        simp [hlt, hkf, Stn.cells]
        refine ⟨by decide, ?_⟩
        simp [pyield, yargs, hel]
        refine ⟨?_, ?_⟩
        · refine XW_pwp mixed hlo (by decide) ?_
          simp
          refine XW_pwp mixed hlo (by decide) ?_
          simp [wk]
          refine againX_of (k + 1) (by omega) (by omega) (by simp only [GS.on.injEq]; omega) ?_
          simp
        · refine XW_pwp mixed hlo (by decide) ?_
          simp
      · obtain rfl : k = X.water.length := by omega
        simp
        refine XW_pwp mixed hlo (by decide) ?_
        simp [partsL_length, partK]
    · refine XW_pwp mixed hlo (by decide) ?_
      simp
end Go.Qg

namespace Go.Qg
open Go.Proofs
set_option maxRecDepth 100000
set_option maxHeartbeats 16000000
set_option linter.unusedSimpArgs false
attribute [local irreducible] pwp pops pdraw pop popCall pdCall thenP blockP scopeP pspec Spec answers ppost CallW rend
theorem part_small {P : Pln} {X : Pnt} (hP : PlnOk P) (hX : PntOk P X) {n : Nat} (hn : n < partK X) : Small 1000 (partN P X n).arm ∧ Small 140000 (partN P X n).low ∧ Small 140000 (partN P X n).high := by
  have hnw := hX.nw
  unfold partN
  split
  · rename_i h
    have h1 := hX.item n h
    have h2 := hP.station (itmAt X.items n).station.toNat (by omega)
    simp only [StnOk] at h2
    simp only [partI', armI, Small]
    omega
  · split
    · have h1 := hX.tank
      have h2 := hP.tank
      simp only [StnOk] at h2
      simp only [partT, Small]
      omega
    · have hk : n - X.items.length - 1 < X.water.length := by unfold partK at hn; omega
      have h1 := hX.water _ hk
      have h2 := hP.float (n - X.items.length - 1) (by omega)
      simp only [StnOk] at h2
      simp only [partF, armF, Small]
      omega
theorem partK_le {P : Pln} {X : Pnt} (hP : PlnOk P) (hX : PntOk P X) : partK X ≤ 15 := by
  have := hX.n; have := hX.nw; have := hP.nf; unfold partK; omega
theorem sumN_small {f : Nat → Int} {b : Int} (hb : 0 ≤ b) : ∀ {n : Nat}, (∀ i, i < n → Small b (f i)) → Small (b * n) (sumN f n)
  | 0, _ => by simp [sumN, Small]
  | n + 1, h => by
    have h1 := sumN_small hb (n := n) fun i hi => h i (by omega)
    have h2 := h n (by omega)
    simp only [Small, sumN] at *
    have e : b * ((n + 1 : Nat) : Int) = b * n + b := by push_cast; rw [Int.mul_add, Int.mul_one]
    rw [e]
    omega
theorem min_small {b x y : Int} (hx : Small b x) (hy : Small b y) : Small b (min x y) ∧ Small b (max x y) := by
  simp only [Small] at *; omega
theorem sumN_parts (P : Pln) (X : Pnt) (f : Prt → Int) : sumN (fun i => f (partN P X i)) (partK X) = sumN (fun i => f (partI' P X i)) X.items.length + f (partT P X) + sumN (fun i => f (partF P X i)) X.water.length := by
  unfold partK
  rw [sumN_split, sumN]
  congr 1
  · congr 1
    · exact sumN_congr fun i hi => by simp [partN, hi]
    · simp [partN]
  · exact sumN_congr fun i hi => by simp [partN, show ¬ X.items.length + 1 + i < X.items.length from by omega, show ¬ X.items.length + 1 + i = X.items.length from by omega, show X.items.length + 1 + i - X.items.length - 1 = i from by omega]
def bW (P : Pln) (X : Pnt) (n : Nat) : Int := P.empty + sumN (fun i => (partN P X i).low) n
def bWh (P : Pln) (X : Pnt) (n : Nat) : Int := P.empty + sumN (fun i => (partN P X i).high) n
def bM (P : Pln) (X : Pnt) (n : Nat) : Int := P.moment + sumN (fun i => minS (partN P X i).arm (partN P X i).low (partN P X i).high) n
def bMh (P : Pln) (X : Pnt) (n : Nat) : Int := P.moment + sumN (fun i => maxS (partN P X i).arm (partN P X i).low (partN P X i).high) n
def bndC (P : Pln) (X : Pnt) (n : Nat) : List PV := [.v (.int .i64 (bW P X n)), .v (.int .i64 (bWh P X n)), .v (.int .i64 (bM P X n)), .v (.int .i64 (bMh P X n))]
theorem bnd_small {P : Pln} {X : Pnt} (hP : PlnOk P) (hX : PntOk P X) {n : Nat} (hn : n ≤ partK X) : Small 2200000 (bW P X n) ∧ Small 2200000 (bWh P X n) ∧ Small 2200000000 (bM P X n) ∧ Small 2200000000 (bMh P X n) := by
  have hk := partK_le hP hX
  have h1 := sumN_small (f := fun i => (partN P X i).low) (b := 140000) (by omega) (n := n) fun i hi => (part_small hP hX (by omega)).2.1
  have h2 := sumN_small (f := fun i => (partN P X i).high) (b := 140000) (by omega) (n := n) fun i hi => (part_small hP hX (by omega)).2.2
  have hms : ∀ i, i < n → Small 140000000 (minS (partN P X i).arm (partN P X i).low (partN P X i).high) ∧ Small 140000000 (maxS (partN P X i).arm (partN P X i).low (partN P X i).high) := fun i hi => by
    obtain ⟨g1, g2, g3⟩ := part_small hP hX (show i < partK X by omega)
    exact min_small (mul_small g1 g2 (by omega) (by omega)) (mul_small g1 g3 (by omega) (by omega))
  have h3 := sumN_small (b := 140000000) (by omega) (n := n) fun i hi => (hms i hi).1
  have h4 := sumN_small (b := 140000000) (by omega) (n := n) fun i hi => (hms i hi).2
  have he := hP.empty
  have hm := hP.moment
  simp only [Small, bW, bWh, bM, bMh] at *
  have hn15 : (n : Int) ≤ 15 := by omega
  refine ⟨⟨?_, ?_⟩, ⟨?_, ?_⟩, ⟨?_, ?_⟩, ?_, ?_⟩ <;> omega
def bndV (P : Pln) (X : Pnt) (n : Nat) : PF := [.undef, .undef, .box true [.v (.int .i64 0), .v (.int .i64 0), .v (.int .i64 0), .v (.int .i64 0)], .box true (bndC P X n), .undef, .undef, .undef, .undef, .undef, .undef, .undef, .undef, .undef, .undef, .undef, .undef, .undef, .undef, .undef, .undef, .undef, .undef, .undef, .undef, .undef, .undef, .undef, .undef, .undef, .undef, .undef, .undef, .undef, .undef, .undef, .undef, .undef, .undef, .undef, .undef, .undef, .undef, .undef, .undef, .undef, .undef, .undef, .undef, .undef, .undef, .undef, .undef, .undef, .undef, .undef, .undef, .undef, .undef, .undef, .undef, .undef, .undef, .undef, .undef, .undef, .undef, .undef, .undef, .undef, .undef, .undef, .undef, .undef, .undef, .undef, .undef, .undef, .undef]
def bndA : PF := [.undef, .undef, .undef, .ref 0 0, .undef, .undef, .undef, .undef, .undef, .undef, .undef, .undef, .undef, .undef, .undef, .undef, .undef, .undef, .undef, .undef, .undef, .undef, .undef, .undef, .undef, .undef, .undef, .undef, .undef, .undef, .undef, .undef, .undef, .undef, .undef, .undef, .undef, .undef, .undef, .undef, .undef, .undef, .undef, .undef, .undef, .undef, .undef, .undef, .undef, .undef, .undef, .undef, .undef, .undef, .undef, .undef, .undef, .undef, .undef, .undef, .undef, .undef, .undef, .undef, .undef, .undef, .undef, .undef, .undef, .undef, .undef, .undef, .undef, .undef, .undef, .undef, .undef, .undef]
theorem bounds_spec (P : Pln) (X : Pnt) (hP : PlnOk P) (hX : PntOk P X) : Spec Tryz.prog 83 [.agg (pntC P X)] (.agg (bndC P X (partK X))) := by
  have hgen := parts_gen P X hX hP.nf
  unfold Spec
  refine callW_ofE Tryz.func83 (by decide) rfl (congrArg Array.toList Tryz.results83) Tryz.ntmps83 78 (by simp) (by decide) fun B0 hB0 hD0 => ?_
  have hlo : ∀ s B, ECtx B0 s B → B.lo = 78 := fun _ _ h => h.1.trans hB0
  refine XW_seqP mixed hlo (by decide) ?_
  simp [pntC, cnrL, stnL, itmL, spnL]
  refine XW_seqP mixed hlo (by decide) ?_
  simp
  refine XW_seqX (XW_seqP mixed hlo (by decide) ?_)
  simp
  refine pop_spec (parts_spec P X) rfl false (.inl (by simp [pntC, cnrL, stnL, itmL, spnL])) (.inl rfl) rfl (by simp) ?_
  simp
  refine XW_block ?_
  refine XW_range mixed rfl (by rfl) hgen parts_plain (by decide) (by decide) 78 (by decide) [3] (by decide)
    (fun n => bndV P X n) (fun n => bndA) (fun n => [.box false (bndC P X n)]) ?_ (fun n hn => ⟨rfl, ?_, slots_view (t := 28) ?_ rfl⟩) (fun n q hq => ?_) ?_
  · rw [hB0]
    simp [bndV, bndC, bW, bWh, bM, bMh, sumN]
  · simp [bndV, bndC]
  · simp [slots, bndV, bndA, bndC]
  · obtain ⟨hn, rfl⟩ := parts_get hq
    obtain ⟨g1, g2, g3⟩ := part_small hP hX hn
    have hb := bnd_small hP hX (show n + 1 ≤ partK X by omega)
    have m1 := mul_small g1 g2 (by omega) (by omega)
    have m2 := mul_small g1 g3 (by omega) (by omega)
    rw [hB0]
    have e1 : bW P X (n + 1) = bW P X n + (partN P X n).low := by simp only [bW, sumN]; omega
    have e2 : bWh P X (n + 1) = bWh P X n + (partN P X n).high := by simp only [bWh, sumN]; omega
    have e3 : bM P X (n + 1) = bM P X n + min ((partN P X n).arm * (partN P X n).low) ((partN P X n).arm * (partN P X n).high) := by simp only [bM, sumN, minS]; omega
    have e4 : bMh P X (n + 1) = bMh P X n + max ((partN P X n).arm * (partN P X n).low) ((partN P X n).arm * (partN P X n).high) := by simp only [bMh, sumN, maxS]; omega
    simp only [e1, e2, e3, e4, Small] at hb m1 m2
    have k1 := i64_wrap (show -9223372036854775808 ≤ bW P X n + (partN P X n).low ∧ _ from by omega)
    have k2 := i64_wrap (show -9223372036854775808 ≤ bWh P X n + (partN P X n).high ∧ _ from by omega)
    have k3 := i64_wrap (show -9223372036854775808 ≤ bM P X n + min ((partN P X n).arm * (partN P X n).low) ((partN P X n).arm * (partN P X n).high) ∧ _ from by omega)
    have k4 := i64_wrap (show -9223372036854775808 ≤ bMh P X n + max ((partN P X n).arm * (partN P X n).low) ((partN P X n).arm * (partN P X n).high) ∧ _ from by omega)
    have k5 := i64_wrap (show -9223372036854775808 ≤ (partN P X n).arm * (partN P X n).low ∧ _ from by omega)
    have k6 := i64_wrap (show -9223372036854775808 ≤ (partN P X n).arm * (partN P X n).high ∧ _ from by omega)
    have f3 : (if (partN P X n).arm * (partN P X n).high < (partN P X n).arm * (partN P X n).low then (partN P X n).arm * (partN P X n).high else (partN P X n).arm * (partN P X n).low) = min ((partN P X n).arm * (partN P X n).low) ((partN P X n).arm * (partN P X n).high) := by split <;> omega
    have f4 : (if (partN P X n).arm * (partN P X n).low < (partN P X n).arm * (partN P X n).high then (partN P X n).arm * (partN P X n).high else (partN P X n).arm * (partN P X n).low) = max ((partN P X n).arm * (partN P X n).low) ((partN P X n).arm * (partN P X n).high) := by split <;> omega
    simp [bndA, Prt.cells, bndC]
    refine pwp_draw 14 (by decide) ?_
    simp [k5, k6]
    refine ⟨by decide, ?_⟩
    simp [k1, k2, f3, f4, k3, k4]
    refine rend_n [.box false (bndC P X (n + 1))] ?_ ?_
    · simp [bndC, e1, e2, e3, e4]
    · simp [back, placeAll, bndV, bndC, e1, e2, e3, e4]
  · rw [partsL_length]
    simp [blockX, thenX, bndV, bndC]
    refine XW_pwp mixed hlo (by decide) ?_
    simp
    refine ends_of (.agg (bndC P X (partK X))) [] [] (x := .agg (bndC P X (partK X))) (by simp [bndC]) (by decide) ?_ ?_ rfl
    · simp [bndC]
    · simp [bndC]
end Go.Qg

namespace Go.Qg
open Go.Proofs
set_option maxRecDepth 100000
set_option maxHeartbeats 16000000
set_option linter.unusedSimpArgs false
attribute [local irreducible] pwp pops pdraw pop popCall pdCall thenP blockP scopeP pspec Spec answers ppost CallW rend
@[simp] theorem rowsB_nil : rowsB [] = [] := rfl
theorem rowsB_snoc (l : List Bool) (x : Bool) : rowsB l ++ [[.v (.bool x)]] = rowsB (l ++ [x]) := by simp [rowsB]
def lsN (P : Pln) (X : Pnt) (e n : Nat) : Int := P.side e P.empty P.moment + sumN (fun i => minS (P.slope e (partN P X i).arm) (partN P X i).low (partN P X i).high) n
theorem lsN_all (P : Pln) (X : Pnt) (e : Nat) : lsN P X e (partK X) = leastE P X e := by
  rw [lsN, sumN_parts P X fun p => minS (P.slope e p.arm) p.low p.high, leastE]
  simp only [partI', partT, partF]
  omega
theorem slope_small {P : Pln} (hP : PlnOk P) {e : Nat} (he : e < P.corners.length) {a : Int} (ha : Small 1000 a) : Small 60000000 (P.slope e a) := by
  obtain ⟨_, _, s3, s4⟩ := edg_small hP.corner he
  have h := mul_small s3 ha (by omega) (by omega)
  simp only [Small, Pln.slope] at *
  omega
theorem side_small {P : Pln} (hP : PlnOk P) {e : Nat} (he : e < P.corners.length) : Small 3000000000000 (P.side e P.empty P.moment) := by
  obtain ⟨s1, s2, s3, s4⟩ := edg_small hP.corner he
  have h1 := hP.empty
  have h2 := hP.moment
  have h3 := mul_small s3 (show Small 40000000 (P.moment - (P.cA e).moment) by simp only [Small] at *; omega) (by omega) (by omega)
  have h4 := mul_small s4 (show Small 40000 (P.empty - (P.cA e).weight) by simp only [Small] at *; omega) (by omega) (by omega)
  simp only [Small, Pln.side] at *
  omega
theorem ls_small {P : Pln} {X : Pnt} (hP : PlnOk P) (hX : PntOk P X) {e : Nat} (he : e < P.corners.length) {n : Nat} (hn : n ≤ partK X) : Small 200000000000000 (lsN P X e n) := by
  have hk := partK_le hP hX
  have h1 := sumN_small (f := fun i => minS (P.slope e (partN P X i).arm) (partN P X i).low (partN P X i).high) (b := 8400000000000) (by omega) (n := n) fun i hi => by
    obtain ⟨g1, g2, g3⟩ := part_small hP hX (show i < partK X by omega)
    have g4 := slope_small hP he g1
    exact (min_small (mul_small g4 g2 (by omega) (by omega)) (mul_small g4 g3 (by omega) (by omega))).1
  have h2 := side_small hP he
  have hn15 : (n : Int) ≤ 15 := by omega
  simp only [Small, lsN] at *
  omega
def lsV (P : Pln) (X : Pnt) (e n : Nat) : PF := [.undef, .undef, .undef, .rp (edgC P e) 0, .undef, .box true [.v (.int .i64 (lsN P X e n))], .undef, .undef, .undef, .undef, .undef, .undef, .undef, .undef, .undef, .undef, .undef, .undef, .undef, .undef, .undef, .undef, .undef, .undef, .undef, .undef, .undef, .undef, .undef, .undef, .undef, .undef, .undef, .undef, .undef, .undef, .undef, .undef, .undef]
def lsA (P : Pln) (e : Nat) : PF := [.undef, .undef, .undef, .rp (edgC P e) 0, .undef, .ref 0 0, .undef, .undef, .undef, .undef, .undef, .undef, .undef, .undef, .undef, .undef, .undef, .undef, .undef, .undef, .undef, .undef, .undef, .undef, .undef, .undef, .undef, .undef, .undef, .undef, .undef, .undef, .undef, .undef, .undef, .undef, .undef, .undef, .undef]
theorem least_spec (P : Pln) (X : Pnt) (hP : PlnOk P) (hX : PntOk P X) (e : Nat) (he : e < P.corners.length) : Spec Tryz.prog 156 [.agg (pntC P X), .agg (edgC P e)] (.v (.int .i64 (leastE P X e))) := by
  have hgen := parts_gen P X hX hP.nf
  obtain ⟨s1, s2, s3, s4⟩ := edg_small hP.corner he
  have h1 := hP.empty
  have h2 := hP.moment
  have hside := side_spec (e : Int) (P.cA e).weight (P.cA e).moment (P.dw e) (P.dm e) P.empty P.moment s1 s2 s3 s4 (by simp only [Small]; omega) (by simp only [Small]; omega)
  rw [show P.dw e * (P.moment - (P.cA e).moment) - P.dm e * (P.empty - (P.cA e).weight) = P.side e P.empty P.moment from rfl] at hside
  unfold Spec
  refine callW_ofE Tryz.func156 (by decide) rfl (congrArg Array.toList Tryz.results156) Tryz.ntmps156 39 (by simp) (by decide) fun B0 hB0 hD0 => ?_
  have hlo : ∀ s B, ECtx B0 s B → B.lo = 39 := fun _ _ h => h.1.trans hB0
  refine XW_seqP mixed hlo (by decide) ?_
  simp [pntC, cnrL, stnL, itmL, spnL, edgC]
  refine XW_seqP mixed hlo (by decide) ?_
  simp
  refine pop_spec hside rfl false (.inl (by simp)) (.inl rfl) rfl (by simp) ?_
  simp
  refine XW_seqX (XW_seqP mixed hlo (by decide) ?_)
  simp
  refine pop_spec (parts_spec P X) rfl false (.inl (by simp [pntC, cnrL, stnL, itmL, spnL])) (.inl rfl) rfl (by simp) ?_
  simp
  refine XW_block ?_
  refine XW_range mixed rfl (by rfl) hgen parts_plain (by decide) (by decide) 39 (by decide) [5] (by decide)
    (fun n => lsV P X e n) (fun n => lsA P e) (fun n => [.box false [.v (.int .i64 (lsN P X e n))]]) ?_ (fun n hn => ⟨rfl, ?_, slots_view (t := 20) ?_ rfl⟩) (fun n q hq => ?_) ?_
  · rw [hB0]
    simp [lsV, lsN, sumN, edgC]
  · simp [lsV]
  · simp [slots, lsV, lsA]
  · obtain ⟨hn, rfl⟩ := parts_get hq
    obtain ⟨g1, g2, g3⟩ := part_small hP hX hn
    have g4 := slope_small hP he g1
    have hb := ls_small hP hX he (show n + 1 ≤ partK X by omega)
    have m1 := mul_small g4 g2 (by omega) (by omega)
    have m2 := mul_small g4 g3 (by omega) (by omega)
    have hslope := slope_spec (e : Int) (P.cA e).weight (P.cA e).moment (P.dw e) (P.dm e) (partN P X n).arm s3 s4 g1
    rw [show P.dw e * (partN P X n).arm - P.dm e = P.slope e (partN P X n).arm from rfl] at hslope
    rw [hB0]
    have e1 : lsN P X e (n + 1) = lsN P X e n + min (P.slope e (partN P X n).arm * (partN P X n).low) (P.slope e (partN P X n).arm * (partN P X n).high) := by simp only [lsN, sumN, minS]; omega
    generalize P.slope e (partN P X n).arm = sl at *
    simp only [e1, Small] at hb m1 m2
    have k3 := i64_wrap (show -9223372036854775808 ≤ lsN P X e n + min (sl * (partN P X n).low) (sl * (partN P X n).high) ∧ _ from by omega)
    have k5 := i64_wrap (show -9223372036854775808 ≤ sl * (partN P X n).low ∧ _ from by omega)
    have k6 := i64_wrap (show -9223372036854775808 ≤ sl * (partN P X n).high ∧ _ from by omega)
    have f3 : (if sl * (partN P X n).high < sl * (partN P X n).low then sl * (partN P X n).high else sl * (partN P X n).low) = min (sl * (partN P X n).low) (sl * (partN P X n).high) := by split <;> omega
    simp [lsA, Prt.cells, edgC]
    refine pop_spec hslope rfl false (.inl (by simp)) (.inl rfl) rfl (by simp) ?_
    simp [k5, k6, f3, k3]
    refine rend_n [.box false [.v (.int .i64 (lsN P X e (n + 1)))]] ?_ ?_
    · simp [e1]
    · simp [back, placeAll, lsV, e1, edgC]
  · rw [partsL_length]
    simp [blockX, thenX, lsV]
    refine XW_pwp mixed hlo (by decide) ?_
    simp
    refine ends_of (.v (.int .i64 (leastE P X e))) [] [] (x := .v (.int .i64 (lsN P X e (partK X)))) rfl (by decide) ?_ ?_ rfl
    · simp
    · simp [lsN_all]
theorem limit_spec (P : Pln) (X : Pnt) : Spec Tryz.prog 155 [.agg (pntC P X)] (.v (.int .i64 (limitP P X))) := by
  refine spec_of mixed Tryz.func155 (by decide) rfl Tryz.results155 Tryz.ntmps155 (by decide) 0 (by simp) ?_
  simp [pntC, cnrL, stnL, itmL, spnL]
  cases h : X.landing with
  | true => simp; refine answers_of rfl ?_; simp [limitP, h]
  | false => simp; refine answers_of rfl ?_; simp [limitP, h]
theorem full_spec (P : Pln) (X : Pnt) : Spec Tryz.prog 136 [.agg (pntC P X)] (bools [fullB P X]) := by
  refine spec_of mixed Tryz.func136 (by decide) rfl Tryz.results136 Tryz.ntmps136 (by decide) 0 (by simp) ?_
  simp [pntC, cnrL, stnL, itmL, spnL]
  refine answers_of rfl ?_; simp [bools, getb, fullB]
theorem short_spec (P : Pln) (X : Pnt) : Spec Tryz.prog 140 [.agg (pntC P X)] (bools [shortB P X]) := by
  refine spec_of mixed Tryz.func140 (by decide) rfl Tryz.results140 Tryz.ntmps140 (by decide) 0 (by simp) ?_
  simp [pntC, cnrL, stnL, itmL, spnL]
  cases h : X.landing with
  | true => simp; refine answers_of rfl ?_; simp [bools, getb, shortB, h]
  | false => simp; refine answers_of rfl ?_; simp [bools, getb, shortB, h]
theorem highW_eq (P : Pln) (X : Pnt) : bWh P X (partK X) = highW P X := by
  rw [bWh, sumN_parts P X fun p => p.high, highW]
  simp only [partI', partT, partF]
  omega
theorem lowW_eq (P : Pln) (X : Pnt) : bW P X (partK X) = lowW P X := by
  rw [bW, sumN_parts P X fun p => p.low, lowW]
  simp only [partI', partT, partF]
  omega
theorem heavy_spec (P : Pln) (X : Pnt) (hP : PlnOk P) (hX : PntOk P X) : Spec Tryz.prog 138 [.agg (pntC P X)] (bools [heavyB P X]) := by
  have hb := bounds_spec P X hP hX
  simp only [bndC, highW_eq] at hb
  refine spec_of mixed Tryz.func138 (by decide) rfl Tryz.results138 Tryz.ntmps138 (by decide) 0 (by simp) ?_
  simp [pntC, cnrL, stnL, itmL, spnL]
  refine pwp_draw 8 (by decide) ?_
  simp
  refine pd_spec hb (by simp [pntC, cnrL, stnL, itmL, spnL]) (by simp) (by simp [pntC, cnrL, stnL, itmL, spnL]) rfl ?_
  simp
  refine pd_spec (limit_spec P X) (by simp [pntC, cnrL, stnL, itmL, spnL]) (by simp) (by simp [pntC, cnrL, stnL, itmL, spnL]) rfl ?_
  simp
  refine ⟨by decide, ?_⟩
  refine answers_of rfl ?_; simp [bools, getb, heavyB]
def wetL (P : Pln) (X : Pnt) (n : Nat) : List Bool := (List.range n).map (wetB P X)
theorem wetL_length (P : Pln) (X : Pnt) (n : Nat) : (wetL P X n).length = n := by simp [wetL]
theorem wetL_succ (P : Pln) (X : Pnt) (n : Nat) : wetL P X n ++ [wetB P X n] = wetL P X (n + 1) := by simp [wetL, List.range_succ]
theorem wet_spec (P : Pln) (X : Pnt) (hf : P.floats.length ≤ 2) (hX : PntOk P X) : Spec Tryz.prog 137 [.agg (pntC P X)] (bools (wetL P X X.water.length)) := by
  have hnw := hX.nw
  refine spec_of mixed Tryz.func137 (by decide) rfl Tryz.results137 Tryz.ntmps137 (by decide) 0 (by simp) ?_
  simp [pntC, cnrL, stnL, itmL, spnL]
  refine pwp_loop (fun k : Nat => [(3, .own 28 k 0 k false), (10, .v (.int .i64 k)), (28, .rows none k 4 1 (rowsB (wetL P X k)))]) (fun k => k ≤ X.water.length) (fun k => X.water.length - k) 0 (Nat.zero_le _) (by simp; rfl) (by simp [wetL]) ?_
  intro k hk
  by_cases hkl : k < X.water.length
  · have wk := i64_wrap (show -9223372036854775808 ≤ (k : Int) + 1 ∧ _ from by omega)
    have hkf : k < P.floats.length := by omega
    have er := rowsB_snoc (wetL P X k) (wetB P X k)
    rw [wetL_succ, wetB] at er
    have et : (wetL P X k).take k = wetL P X k := List.take_of_length_le (by simp [wetL_length])
    simp [hkl, Spn.cells]
    refine pwp_draw 14 (by decide) ?_
    simp [hkl, hkf, Stn.cells, wetL_length, show k + 1 ≤ 140737488355328 from by omega, show k + 1 ≤ maxLen from by simp [maxLen]; omega]
    refine ⟨by decide, ?_⟩
    refine again_of (k + 1) (by omega) (by omega) ?_
    simp [wk, er, et]
  · obtain rfl : k = X.water.length := by omega
    simp
    refine answers_of rfl ?_
    simp [bools, wetL_length]
    intro k hk
    simp [rowsB_get (show k < (wetL P X X.water.length).length by rw [wetL_length]; exact hk)]
end Go.Qg

namespace Go.Qg
open Go.Proofs
set_option maxRecDepth 100000
set_option maxHeartbeats 16000000
set_option linter.unusedSimpArgs false
attribute [local irreducible] pwp pops pdraw pop popCall pdCall thenP blockP scopeP pspec Spec answers ppost CallW rend
def outL (P : Pln) (X : Pnt) (n : Nat) : List Bool := (List.range n).map (outB P X)
theorem outL_length (P : Pln) (X : Pnt) (n : Nat) : (outL P X n).length = n := by simp [outL]
theorem outL_succ (P : Pln) (X : Pnt) (n : Nat) : outL P X n ++ [outB P X n] = outL P X (n + 1) := by simp [outL, List.range_succ]
def outV (P : Pln) (X : Pnt) (n : Nat) : PF := [.undef, .rp (pntC P X) 0, .undef, .box true [.own 15 n 0 n false], .undef, .undef, .undef, .undef, .undef, .undef, .undef, .undef, .undef, .undef, .undef, .rows none n 4 1 (rowsB (outL P X n)), .undef]
def outA (P : Pln) (X : Pnt) : PF := [.undef, .rp (pntC P X) 0, .undef, .ref 0 0, .undef, .undef, .undef, .undef, .undef, .undef, .undef, .undef, .undef, .undef, .undef, .undef, .undef]
theorem out_spec (P : Pln) (X : Pnt) (hP : PlnOk P) (hX : PntOk P X) : Spec Tryz.prog 139 [.agg (pntC P X)] (bools (outL P X P.corners.length)) := by
  have hn12 := hP.n
  have hgen := edges_gen P hP.corner (by omega)
  unfold Spec
  refine callW_ofE Tryz.func139 (by decide) rfl (congrArg Array.toList Tryz.results139) Tryz.ntmps139 17 (by simp) (by decide) fun B0 hB0 hD0 => ?_
  have hlo : ∀ s B, ECtx B0 s B → B.lo = 17 := fun _ _ h => h.1.trans hB0
  refine XW_seqP mixed hlo (by decide) ?_
  simp [pntC, cnrL, stnL, itmL, spnL]
  refine XW_seqP mixed hlo (by decide) ?_
  simp
  refine XW_seqX (XW_seqP mixed hlo (by decide) ?_)
  simp
  refine pop_spec (edges_spec P) rfl false (.inl (by simp [Pln.cells, cnrL, stnL])) (.inl rfl) rfl (by simp) ?_
  simp
  refine XW_block ?_
  refine XW_range mixed rfl (by rfl) hgen edgs_plain (by decide) (by decide) 17 (by decide) [3, 15] (by decide)
    (fun n => outV P X n) (fun n => outA P X) (fun n => [.box false [.own 1 n 0 n false], .rows none n 4 1 (rowsB (outL P X n))]) ?_ (fun n hn => ⟨rfl, ?_, slots_view (t := 8) ?_ rfl⟩) (fun n q hq => ?_) ?_
  · rw [hB0]
    simp [outV, outL, pntC, cnrL, stnL, itmL, spnL]
  · simp [outV]
  · simp [slots, outV, outA, pntC, cnrL, stnL, itmL, spnL]
  · obtain ⟨hn, rfl⟩ := edg_get hq
    have hleast := least_spec P X hP hX n hn
    have er := rowsB_snoc (outL P X n) (outB P X n)
    rw [outL_succ, outB] at er
    have et : (outL P X n).take n = outL P X n := List.take_of_length_le (by simp [outL_length])
    rw [hB0]
    simp [outA, edgC, pntC, cnrL, stnL, itmL, spnL]
    refine pwp_draw 7 (by decide) ?_
    simp
    refine pd_spec hleast (by simp [pntC, cnrL, stnL, itmL, spnL, edgC]) (by simp) (by simp [pntC, cnrL, stnL, itmL, spnL, edgC]) rfl ?_
    simp [outL_length, show n + 1 ≤ 140737488355328 from by omega, show n + 1 ≤ maxLen from by simp [maxLen]; omega]
    refine ⟨by decide, ?_⟩
    simp [er, et]
    refine rend_n [.box false [.own 1 (n + 1) 0 (n + 1) false], .rows none (n + 1) 4 1 (rowsB (outL P X (n + 1)))] ?_ ?_
    · simp [er, et]
    · simp [back, placeAll, outV, pntC, cnrL, stnL, itmL, spnL]
  · rw [edgs_length]
    simp [blockX, thenX, outV]
    refine XW_pwp mixed hlo (by decide) ?_
    simp
    refine ends_of (bools (outL P X P.corners.length)) [] [] rfl (by decide) ?_ ?_ rfl
    · simp
    · simp [bools, outL_length]
      intro k hk
      simp [rowsB_get (show k < (outL P X P.corners.length).length by rw [outL_length]; exact hk)]
abbrev IMap := List Int × List Int
def mput (m : IMap) (x v : Int) : IMap := match dfind m.1 x 0 with
  | some j => (m.1, m.2.set j v)
  | none => (m.1 ++ [x], m.2 ++ [v])
def mget (m : IMap) (x : Int) : Int := match dfind m.1 x 0 with
  | some j => geti m.2 j
  | none => 0
theorem dfind_snoc (x y : Int) : ∀ (d : List Int) (j : Nat), dfind (d ++ [x]) y j = (match dfind d y j with
  | some i => some i
  | none => if y = x then some (j + d.length) else none)
  | [], j => by
    simp only [List.nil_append, dfind]
    by_cases h : y = x <;> simp [h]
  | z :: d, j => by
    simp only [List.cons_append, dfind]
    by_cases h : y = z
    · simp [h]
    · simp only [beq_iff_eq, h, if_false]
      rw [dfind_snoc x y d (j + 1)]
      cases dfind d y (j + 1) with
      | some i => rfl
      | none => simp only [List.length_cons]; split <;> simp; omega
theorem mput_len {m : IMap} (x v : Int) (h : m.2.length = m.1.length) : (mput m x v).2.length = (mput m x v).1.length := by
  unfold mput
  split
  · simp [h]
  · simp [h]
theorem mget_put {m : IMap} (x v y : Int) (h : m.2.length = m.1.length) : mget (mput m x v) y = if y = x then v else mget m y := by
  unfold mput
  cases hd : dfind m.1 x 0 with
  | some j =>
    obtain ⟨_, h1, h2⟩ := dfind_some hd
    simp only [Nat.sub_zero] at h1 h2
    simp only [mget]
    by_cases hy : y = x
    · subst hy
      rw [hd, if_pos rfl]
      simp only
      rw [geti_set (by omega), if_pos rfl]
    · rw [if_neg hy]
      cases he : dfind m.1 y 0 with
      | none => rfl
      | some i =>
        obtain ⟨_, h3, h4⟩ := dfind_some he
        simp only [Nat.sub_zero] at h3 h4
        simp only
        rw [geti_set (by omega), if_neg]
        intro e
        subst e
        rw [h2] at h4
        exact hy (Option.some.inj h4).symm
  | none =>
    simp only [mget, dfind_snoc]
    cases he : dfind m.1 y 0 with
    | some i =>
      obtain ⟨_, h3, _⟩ := dfind_some he
      simp only [Nat.sub_zero] at h3
      have hy : y ≠ x := fun e => by rw [e, hd] at he; cases he
      simp only [if_neg hy, geti, List.getD_eq_getElem?_getD]
      rw [List.getElem?_append_left (by omega)]
    | none =>
      by_cases hy : y = x
      · simp [hy, geti, ← h]
      · simp [hy]
theorem keysI_get {v : List Int} {j : Nat} (h : j < v.length) : (keysI v)[j]? = some (.v (.int .i64 (geti v j))) := by simp [keysI, geti, h]
theorem keysI_setv (v : List Int) (j : Nat) (x : Int) : (keysI v).set j (.v (.int .i64 x)) = keysI (v.set j x) := by simp [keysI, List.map_set]
def sumTo (l : List Itm) : Nat → IMap
  | 0 => ([], [])
  | k + 1 => mput (sumTo l k) (itmAt l k).station (mget (sumTo l k) (itmAt l k).station + (itmAt l k).high)
theorem sumTo_len (l : List Itm) : ∀ k, (sumTo l k).2.length = (sumTo l k).1.length
  | 0 => rfl
  | k + 1 => mput_len _ _ (sumTo_len l k)
def stSum (l : List Itm) (x : Int) (k : Nat) : Int := sumN (fun i => if (itmAt l i).station = x then (itmAt l i).high else 0) k
theorem sumTo_get (l : List Itm) (x : Int) : ∀ k, mget (sumTo l k) x = stSum l x k
  | 0 => rfl
  | k + 1 => by
    rw [sumTo, mget_put _ _ _ (sumTo_len l k), stSum, sumN]
    by_cases h : x = (itmAt l k).station
    · rw [if_pos h, if_pos h.symm, h, sumTo_get l _ k, stSum]
    · rw [if_neg h, if_neg (fun e => h e.symm), sumTo_get l x k, stSum]; omega
def overL (P : Pln) (X : Pnt) (n : Nat) : List Bool := (List.range n).map (overB P X)
theorem overL_length (P : Pln) (X : Pnt) (n : Nat) : (overL P X n).length = n := by simp [overL]
theorem overL_succ (P : Pln) (X : Pnt) (n : Nat) : overL P X n ++ [overB P X n] = overL P X (n + 1) := by simp [overL, List.range_succ]
theorem stSum_small {P : Pln} {X : Pnt} (hX : PntOk P X) (x : Int) {k : Nat} (hk : k ≤ X.items.length) : Small 240000 (stSum X.items x k) := by
  have hn := hX.n
  have h := sumN_small (f := fun i => if (itmAt X.items i).station = x then (itmAt X.items i).high else 0) (b := 20000) (by omega) (n := k) fun i hi => by
    have h1 := hX.item i (by omega)
    simp only [Small]
    split <;> omega
  simp only [Small, stSum] at *
  omega
theorem over_spec (P : Pln) (X : Pnt) (hX : PntOk P X) (hs : P.stations.length ≤ 8) : Spec Tryz.prog 135 [.agg (pntC P X)] (bools (overL P X P.stations.length)) := by
  have hn := hX.n
  refine spec_of mixed Tryz.func135 (by decide) rfl Tryz.results135 Tryz.ntmps135 (by decide) 0 (by simp) ?_
  simp [pntC, cnrL, stnL, itmL, spnL]
  refine pwp_loop (fun k : Nat => [(9, .map true (keysI (sumTo X.items k).1) (keysI (sumTo X.items k).2)), (14, .v (.int .i64 k))]) (fun k => k ≤ X.items.length) (fun k => X.items.length - k) 0 (Nat.zero_le _) (by simp; rfl) (by simp [sumTo]) ?_
  intro k hk
  by_cases hkl : k < X.items.length
  · have wk := i64_wrap (show -9223372036854775808 ≤ (k : Int) + 1 ∧ _ from by omega)
    have hfind := pkfind_ints (P := Tryz.prog) (t := 3) (by rfl) (sumTo X.items k).1 (itmAt X.items k).station 0
    have hkey : pkeyOk Tryz.prog 3 (.v (.int .i64 (itmAt X.items k).station)) = true := by simp [pkeyOk]
    have hlen := sumTo_len X.items k
    have hget := sumTo_get X.items (itmAt X.items k).station k
    have hsm := stSum_small hX (itmAt X.items k).station hk
    have hit := hX.item k hkl
    have hsucc : sumTo X.items (k + 1) = mput (sumTo X.items k) (itmAt X.items k).station (mget (sumTo X.items k) (itmAt X.items k).station + (itmAt X.items k).high) := rfl
    simp only [Small, ← hget] at hsm
    cases hd : dfind (sumTo X.items k).1 (itmAt X.items k).station 0 with
    | none =>
      rw [hd] at hfind
      have hz : mget (sumTo X.items k) (itmAt X.items k).station = 0 := by simp [mget, hd]
      have w1 := i64_wrap (show -9223372036854775808 ≤ (itmAt X.items k).high ∧ _ from by omega)
      simp only [mput, hd, hz, Int.zero_add] at hsucc
      simp [hkl, Itm.cells, hfind, hkey, w1]
      refine again_of (k + 1) (by omega) (by omega) ?_
      simp [wk, hsucc, keysI_snoc]
    | some j =>
      rw [hd] at hfind
      obtain ⟨_, hj1, hj2⟩ := dfind_some hd
      simp only [Nat.sub_zero] at hj1 hj2
      have hz : mget (sumTo X.items k) (itmAt X.items k).station = geti (sumTo X.items k).2 j := by simp [mget, hd]
      have hv := keysI_get (v := (sumTo X.items k).2) (j := j) (by omega)
      rw [hz] at hsm
      have w1 := i64_wrap (show -9223372036854775808 ≤ geti (sumTo X.items k).2 j + (itmAt X.items k).high ∧ _ from by omega)
      simp only [mput, hd, hz] at hsucc
      simp [hkl, Itm.cells, hfind, hkey, hv, w1]
      refine again_of (k + 1) (by omega) (by omega) ?_
      simp [wk, hsucc, keysI_set hd, keysI_setv]
  · obtain rfl : k = X.items.length := by omega
    simp
    refine pwp_loop (fun k : Nat => [(6, .own 45 k 0 k false), (32, .v (.int .i64 k)), (45, .rows none k 4 1 (rowsB (overL P X k)))]) (fun k => k ≤ P.stations.length) (fun k => P.stations.length - k) 0 (Nat.zero_le _) (by simp; rfl) (by simp [overL]) ?_
    intro k hk
    by_cases hkl : k < P.stations.length
    · have wk := i64_wrap (show -9223372036854775808 ≤ (k : Int) + 1 ∧ _ from by omega)
      have er := rowsB_snoc (overL P X k) (overB P X k)
      rw [overL_succ, overB] at er
      have et : (overL P X k).take k = overL P X k := List.take_of_length_le (by simp [overL_length])
      have hfind := pkfind_ints (P := Tryz.prog) (t := 3) (by rfl) (sumTo X.items X.items.length).1 (k : Int) 0
      have hkey : pkeyOk Tryz.prog 3 (.v (.int .i64 (k : Int))) = true := by simp [pkeyOk]
      have hlen := sumTo_len X.items X.items.length
      have hget := sumTo_get X.items (k : Int) X.items.length
      cases hd : dfind (sumTo X.items X.items.length).1 (k : Int) 0 with
      | none =>
        rw [hd] at hfind
        have hz : stSum X.items (k : Int) X.items.length = 0 := by rw [← hget]; simp [mget, hd]
        simp only [stSum] at hz
        rw [hz] at er
        simp [hkl, Stn.cells, hfind, hkey, overL_length, show k + 1 ≤ 140737488355328 from by omega, show k + 1 ≤ maxLen from by simp [maxLen]; omega]
        refine again_of (k + 1) (by omega) (by omega) ?_
        simp [wk, er, et]
      | some j =>
        rw [hd] at hfind
        obtain ⟨_, hj1, hj2⟩ := dfind_some hd
        simp only [Nat.sub_zero] at hj1 hj2
        have hv := keysI_get (v := (sumTo X.items X.items.length).2) (j := j) (by omega)
        have hz : geti (sumTo X.items X.items.length).2 j = stSum X.items (k : Int) X.items.length := by rw [← hget]; simp [mget, hd]
        rw [hz] at hv
        simp only [← stSum.eq_1] at er
        simp [hkl, Stn.cells, hfind, hkey, hv, overL_length, show k + 1 ≤ 140737488355328 from by omega, show k + 1 ≤ maxLen from by simp [maxLen]; omega]
        refine again_of (k + 1) (by omega) (by omega) ?_
        simp [wk, er, et]
    · obtain rfl : k = P.stations.length := by omega
      simp
      refine answers_of rfl ?_
      simp [bools, overL_length]
      intro k hk
      simp [rowsB_get (show k < (overL P X P.stations.length).length by rw [overL_length]; exact hk)]
end Go.Qg

namespace Go.Qg
open Go.Proofs
set_option maxRecDepth 100000
set_option maxHeartbeats 16000000
set_option linter.unusedSimpArgs false
attribute [local irreducible] pwp pops pdraw pop popCall pdCall thenP blockP scopeP pspec Spec answers ppost CallW rend
@[simp] theorem wrap_4 : IntKind.i64.wrap 4 = 4 := i64_wrap (by omega)
@[simp] theorem wrap_5 : IntKind.i64.wrap 5 = 5 := i64_wrap (by omega)
@[simp] theorem wrap_6 : IntKind.i64.wrap 6 = 6 := i64_wrap (by omega)
@[simp] theorem wrap_7 : IntKind.i64.wrap 7 = 7 := i64_wrap (by omega)
def rl (P : Pln) (X : Pnt) (r : Nat) : List Bool := (List.range (manyR P (r + 2))).map (canB P X (r + 2))
theorem rl_length (P : Pln) (X : Pnt) (r : Nat) : (rl P X r).length = manyR P (r + 2) := by simp [rl]
theorem rl_get {P : Pln} {X : Pnt} {r i : Nat} (h : i < manyR P (r + 2)) : getb (rl P X r) i = canB P X (r + 2) i := by simp [rl, getb, h]
def ruleF : Nat → FuncId
  | 0 => 135
  | 1 => 136
  | 2 => 137
  | 3 => 138
  | 4 => 139
  | _ => 140
theorem rule_spec (P : Pln) (X : Pnt) (hP : PlnOk P) (hX : PntOk P X) {r : Nat} (hr : r < 6) : Spec Tryz.prog (ruleF r) [.agg (pntC P X)] (bools (rl P X r)) := by
  rcases r with _ | _ | _ | _ | _ | _ | r
  · rw [show rl P X 0 = overL P X P.stations.length from rfl]; exact over_spec P X hX hP.ns
  · rw [show rl P X 1 = [fullB P X] from rfl]; exact full_spec P X
  · rw [show rl P X 2 = wetL P X X.water.length from by rw [hX.nw]; rfl]; exact wet_spec P X hP.nf hX
  · rw [show rl P X 3 = [heavyB P X] from rfl]; exact heavy_spec P X hP hX
  · rw [show rl P X 4 = outL P X P.corners.length from rfl]; exact out_spec P X hP hX
  · rw [show rl P X 5 = [shortB P X] from rfl]; exact short_spec P X
  · omega
def rulesV (P : Pln) (X : Pnt) : PV := .agg [.clo (.func (ruleF 0)) [.agg (pntC P X)] [], .clo (.func (ruleF 1)) [.agg (pntC P X)] [], .clo (.func (ruleF 2)) [.agg (pntC P X)] [], .clo (.func (ruleF 3)) [.agg (pntC P X)] [], .clo (.func (ruleF 4)) [.agg (pntC P X)] [], .clo (.func (ruleF 5)) [.agg (pntC P X)] []]
theorem rules_spec (P : Pln) (X : Pnt) : Spec Tryz.prog 110 [.agg (pntC P X)] (rulesV P X) := by
  refine spec_of mixed Tryz.func110 (by decide) rfl Tryz.results110 Tryz.ntmps110 (by decide) 0 (by simp) ?_
  simp [pntC, cnrL, stnL, itmL, spnL]
  refine answers_of (x := rulesV P X) (by simp [rulesV, pntC, cnrL, stnL, itmL, spnL, ruleF]) ?_
  simp [rulesV, pntC, cnrL, stnL, itmL, spnL, ruleF]
theorem broken_none {P : Pln} {X : Pnt} (h : ∀ q, q < 6 → ∀ i, i < manyR P (q + 2) → canB P X (q + 2) i = false) : brokenP P X = (1, 0) := by
  rcases brokenF_spec (p := canB P X) (many := manyR P) 6 2 with ⟨h1, _⟩ | ⟨q, i, h1, h2, h3, h4, _⟩
  · exact h1
  · have := h (q - 2) (by omega) i (by rw [show q - 2 + 2 = q from by omega]; exact h3)
    rw [show q - 2 + 2 = q from by omega, h4] at this; cases this
theorem broken_some {P : Pln} {X : Pnt} {r i : Nat} (hr : r < 6) (h0 : ∀ q, q < r → ∀ i, i < manyR P (q + 2) → canB P X (q + 2) i = false) (hi : i < manyR P (r + 2)) (h1 : ∀ j, j < i → canB P X (r + 2) j = false) (h2 : canB P X (r + 2) i = true) : brokenP P X = (r + 2, i) := by
  rcases brokenF_spec (p := canB P X) (many := manyR P) 6 2 with ⟨_, g⟩ | ⟨q, k, g1, g2, g3, g4, g5, g6⟩
  · have := g (r + 2) (by omega) (by omega) i hi
    rw [h2] at this; cases this
  · have hq : q = r + 2 := by
      rcases Nat.lt_trichotomy q (r + 2) with h | h | h
      · have := h0 (q - 2) (by omega) k (by rw [show q - 2 + 2 = q from by omega]; exact g3)
        rw [show q - 2 + 2 = q from by omega, g4] at this; cases this
      · exact h
      · have := g6 (r + 2) (by omega) h i hi
        rw [h2] at this; cases this
    subst hq
    have hk : k = i := by
      rcases Nat.lt_trichotomy k i with h | h | h
      · have := h1 k h; rw [g4] at this; cases this
      · exact h
      · have := g5 i h; rw [h2] at this; cases this
    subst hk
    exact g1
theorem manyR_le {P : Pln} (hP : PlnOk P) (r : Nat) : manyR P r ≤ 12 := by
  have := hP.n; have := hP.ns; have := hP.nf
  unfold manyR; split
  · omega
  · split
    · omega
    · split <;> omega
theorem broken_spec (P : Pln) (X : Pnt) (hP : PlnOk P) (hX : PntOk P X) : Spec Tryz.prog 84 [.agg (pntC P X)] (.tup [.v (.int .i64 (brokenP P X).1), .v (.int .i64 (brokenP P X).2)]) := by
  have hrs := rules_spec P X
  have hr := fun r (h : r < 6) => rule_spec P X hP hX h
  have hml := manyR_le hP
  simp only [rulesV] at hrs
  refine spec_of mixed Tryz.func84 (by decide) rfl Tryz.results84 Tryz.ntmps84 (by decide) 0 (by simp) ?_
  have hpc : pntC P X = [.v (.int .i64 P.empty), .v (.int .i64 P.moment), .v (.int .i64 P.takeoff), .v (.int .i64 P.landing), cnrL P.corners, stnL P.stations, .v (.int .i64 P.tank.arm), .v (.int .i64 P.tank.most), .v (.int .i64 P.reserve), stnL P.floats, itmL X.items, .v (.int .i64 X.tank.low), .v (.int .i64 X.tank.high), spnL X.water, .v (.bool X.landing)] := rfl
  simp [hpc, cnrL, stnL, itmL, spnL]
  refine pop_spec hrs rfl false (.inl (by simp [hpc, cnrL, stnL, itmL, spnL])) (.inl rfl) rfl (by simp [hpc, cnrL, stnL, itmL, spnL]) ?_
  simp [hpc, cnrL, stnL, itmL, spnL]
  refine pwp_loop (fun r : Nat => [(10, .v (.int .i64 r))]) (fun r => r ≤ 6 ∧ ∀ q, q < r → ∀ i, i < manyR P (q + 2) → canB P X (q + 2) i = false) (fun r => 6 - r) 0 ⟨Nat.zero_le _, fun q h => by omega⟩ (by simp; rfl) (by simp [hpc, cnrL, stnL, itmL, spnL]) ?_
  intro r ⟨hr6, hno⟩
  by_cases hlt : r < 6
  · have hcall := hr r hlt
    have hm := hml (r + 2)
    have hl := rl_length P X r
    have hg := fun i (h : i < manyR P (r + 2)) => rl_get (P := P) (X := X) (r := r) h
    have hfound := fun i => broken_some (P := P) (X := X) (r := r) (i := i) hlt hno
    have hmore : (∀ i, i < manyR P (r + 2) → canB P X (r + 2) i = false) → ∀ q, q < r + 1 → ∀ i, i < manyR P (q + 2) → canB P X (q + 2) i = false := fun h q hq => by
      rcases Nat.lt_or_eq_of_le (Nat.le_of_lt_succ hq) with h' | rfl
      · exact hno q h'
      · exact h
    generalize rl P X r = L at hcall hl hg
    have hcases : r = 0 ∨ r = 1 ∨ r = 2 ∨ r = 3 ∨ r = 4 ∨ r = 5 := by omega
    rcases hcases with rfl | rfl | rfl | rfl | rfl | rfl
    all_goals
      simp only [ruleF] at hcall
      simp [ruleF]
      refine pop_spec hcall rfl false (.inl (by simp [hpc, cnrL, stnL, itmL, spnL])) (.inl rfl) rfl (by simp [bools]) ?_
      simp [bools]
      refine pwp_loop (fun i : Nat => [(17, .v (.int .i64 i))]) (fun i => i ≤ L.length ∧ ∀ j, j < i → getb L j = false) (fun i => L.length - i) 0 ⟨Nat.zero_le _, fun j h => by omega⟩ (by simp; rfl) (by simp) ?_
      intro i ⟨hi, hf⟩
      by_cases hil : i < L.length
      · have wi := i64_wrap (show -9223372036854775808 ≤ (i : Int) + 1 ∧ _ from by omega)
        have hgi := hg i (by omega)
        cases hb : getb L i with
        | true =>
          simp [hil, hb]
          refine answers_of rfl ?_
          rw [hfound i (by omega) (fun j hj => by rw [← hg j (by omega)]; exact hf j hj) (by rw [← hgi, hb])]
          simp
        | false =>
          simp [hil, hb]
          refine again_of (i + 1) ⟨by omega, fun j hj => ?_⟩ (by omega) ?_
          · rcases Nat.lt_or_eq_of_le (Nat.le_of_lt_succ hj) with h' | rfl
            · exact hf j h'
            · exact hb
          · simp [wi]
      · obtain rfl : i = L.length := by omega
        simp
        refine again_of (_ + 1) ⟨by omega, hmore fun i hi => by rw [← hg i hi]; exact hf i (by omega)⟩ (by omega) ?_
        simp
  · obtain rfl : r = 6 := by omega
    simp
    refine answers_of rfl ?_
    rw [broken_none hno]
    simp
end Go.Qg

namespace Go.Qg
open Go.Proofs
set_option maxRecDepth 100000
set_option maxHeartbeats 32000000
set_option linter.unusedSimpArgs false
attribute [local irreducible] pwp pops pdraw pop popCall pdCall thenP blockP scopeP pspec Spec answers ppost CallW rend
def worstN (P : Pln) (X : Pnt) (r i n : Nat) : Bool := if n < X.items.length then worstI P X r i n else if n = X.items.length then worstT P r i else worstF P r i (n - X.items.length - 1)
theorem part_cases (P : Pln) (X : Pnt) {n : Nat} (hn : n < partK X) : (n < X.items.length ∧ (partN P X n).kind = 0 ∧ (partN P X n).idx = n ∧ (partN P X n).arm = armI P X n) ∨ (n = X.items.length ∧ (partN P X n).kind = 1 ∧ (partN P X n).arm = P.tank.arm) ∨
    (X.items.length < n ∧ n - X.items.length - 1 < X.water.length ∧ (partN P X n).kind = 2 ∧ (partN P X n).idx = n - X.items.length - 1 ∧ (partN P X n).arm = armF P (n - X.items.length - 1)) := by
  unfold partN partK at *
  rcases Nat.lt_trichotomy n X.items.length with h | h | h
  · left; simp [h, partI']
  · right; left; simp [h, partT]
  · right; right
    rw [if_neg (by omega), if_neg (by omega)]
    exact ⟨h, by omega, rfl, rfl, rfl⟩
def w1V (P : Pln) (X : Pnt) (i n : Nat) : PF := [.undef, .rp [.v (.int .i64 6)] 0, .rp (pntC P X) 0, .rp [.v (.int .i64 i)] 0, .rp (partN P X n).cells 0, .box true [.v (.bool false)], .undef, .undef, .undef, .undef, .undef, .undef, .undef, .undef, .undef, .undef, .undef, .undef, .undef, .undef, .undef, .undef, .undef, .undef, .undef, .undef, .undef, .undef, .undef, .undef, .undef, .undef, .undef, .undef, .undef, .undef, .undef, .undef, .undef, .undef, .undef, .undef, .undef, .undef, .undef, .undef, .undef, .undef, .undef, .undef, .undef, .undef, .undef, .undef, .undef, .undef, .undef, .undef]
def w1A (P : Pln) (X : Pnt) (i n : Nat) : PF := [.undef, .rp [.v (.int .i64 6)] 0, .rp (pntC P X) 0, .rp [.v (.int .i64 i)] 0, .rp (partN P X n).cells 0, .ref 0 0, .undef, .undef, .undef, .undef, .undef, .undef, .undef, .undef, .undef, .undef, .undef, .undef, .undef, .undef, .undef, .undef, .undef, .undef, .undef, .undef, .undef, .undef, .undef, .undef, .undef, .undef, .undef, .undef, .undef, .undef, .undef, .undef, .undef, .undef, .undef, .undef, .undef, .undef, .undef, .undef, .undef, .undef, .undef, .undef, .undef, .undef, .undef, .undef, .undef, .undef, .undef, .undef]
theorem worst1_spec (P : Pln) (X : Pnt) (hP : PlnOk P) (hX : PntOk P X) (r i : Nat) (hr : 2 ≤ r ∧ r ≤ 7) (hi : i < manyR P r) (n : Nat) (hn : n < partK X) :
    Spec Tryz.prog 115 [.agg (partN P X n).cells, .rp [.v (.int .i64 r)] 0, .rp (pntC P X) 0, .rp [.v (.int .i64 i)] 0] (.v (.bool (worstN P X r i n))) := by
  have hn12 := hP.n
  have hgen := edges_gen P hP.corner (by omega)
  have hcases := part_cases P X hn
  have hsm := part_small hP hX hn
  have hni := hX.n
  unfold Spec
  refine callW_ofE Tryz.func115 (by decide) rfl (congrArg Array.toList Tryz.results115) Tryz.ntmps115 58 (by simp) (by decide) fun B0 hB0 hD0 => ?_
  have hlo : ∀ s B, ECtx B0 s B → B.lo = 58 := fun _ _ h => h.1.trans hB0
  have hr6 : r = 2 ∨ r = 3 ∨ r = 4 ∨ r = 5 ∨ r = 6 ∨ r = 7 := by omega
  rcases hr6 with rfl | rfl | rfl | rfl | rfl | rfl
  · refine XW_pwp mixed hlo (by decide) ?_
    rcases hcases with ⟨c1, c2, c3, c4⟩ | ⟨c1, c2, c4⟩ | ⟨c1, c0, c2, c3, c4⟩
    · simp [Prt.cells, c2, c3]
      refine pwp_draw 15 (by decide) ?_
      simp [pntC, itmL, Itm.cells, c1, c2, c3]
      refine ⟨by decide, ?_⟩
      refine ends_of (.v (.bool (worstN P X 2 i n))) [] [] (x := .v (.bool ((itmAt X.items n).station == (i : Int)))) (by simp) (by decide) ?_ ?_ rfl
      · simp
      · by_cases h : (itmAt X.items n).station = (i : Int) <;> simp [worstN, worstI, c1, h]
    · simp [Prt.cells, c2]
      refine pwp_draw 15 (by decide) ?_
      simp [c2]
      refine ⟨by decide, ?_⟩
      refine ends_of (.v (.bool (worstN P X 2 i n))) [] [] (x := .v (.bool false)) (by simp) (by decide) ?_ ?_ rfl
      · simp
      · simp [worstN, worstT, c1]
    · simp [Prt.cells, c2]
      refine pwp_draw 15 (by decide) ?_
      simp [c2]
      refine ⟨by decide, ?_⟩
      refine ends_of (.v (.bool (worstN P X 2 i n))) [] [] (x := .v (.bool false)) (by simp) (by decide) ?_ ?_ rfl
      · simp
      · simp [worstN, worstF, show ¬ n < X.items.length from by omega, show ¬ n = X.items.length from by omega]
  · refine XW_pwp mixed hlo (by decide) ?_
    rcases hcases with ⟨c1, c2, c3, c4⟩ | ⟨c1, c2, c4⟩ | ⟨c1, c0, c2, c3, c4⟩
    · simp [Prt.cells, c2, c3]
      refine ends_of (.v (.bool (worstN P X 3 i n))) [] [] (x := .v (.bool false)) (by simp) (by decide) ?_ ?_ rfl
      · simp
      · simp [worstN, worstI, c1]
    · simp [Prt.cells, c2]
      refine ends_of (.v (.bool (worstN P X 3 i n))) [] [] (x := .v (.bool true)) (by simp) (by decide) ?_ ?_ rfl
      · simp
      · simp [worstN, worstT, c1]
    · simp [Prt.cells, c2]
      refine ends_of (.v (.bool (worstN P X 3 i n))) [] [] (x := .v (.bool false)) (by simp) (by decide) ?_ ?_ rfl
      · simp
      · simp [worstN, worstF, show ¬ n < X.items.length from by omega, show ¬ n = X.items.length from by omega]
  · refine XW_pwp mixed hlo (by decide) ?_
    rcases hcases with ⟨c1, c2, c3, c4⟩ | ⟨c1, c2, c4⟩ | ⟨c1, c0, c2, c3, c4⟩
    · simp [Prt.cells, c2, c3]
      refine ends_of (.v (.bool (worstN P X 4 i n))) [] [] (x := .v (.bool false)) (by simp) (by decide) ?_ ?_ rfl
      · simp
      · simp [worstN, worstI, c1]
    · simp [Prt.cells, c2]
      refine ends_of (.v (.bool (worstN P X 4 i n))) [] [] (x := .v (.bool false)) (by simp) (by decide) ?_ ?_ rfl
      · simp
      · simp [worstN, worstT, c1]
    · generalize hk : n - X.items.length - 1 = k at *
      simp [Prt.cells, c2, c3]
      refine ends_of (.v (.bool (worstN P X 4 i n))) [] [] (x := .v (.bool ((k : Int) == (i : Int)))) (by simp) (by decide) ?_ ?_ rfl
      · simp
      · by_cases h : k = i
        · simp [worstN, worstF, show ¬ n < X.items.length from by omega, show ¬ n = X.items.length from by omega, hk, h]
        · simp [worstN, worstF, show ¬ n < X.items.length from by omega, show ¬ n = X.items.length from by omega, hk, h, show ¬ (k : Int) = i from by omega]
  · refine XW_pwp mixed hlo (by decide) ?_
    simp [Prt.cells]
    refine ends_of (.v (.bool (worstN P X 5 i n))) [] [] (x := .v (.bool true)) (by simp) (by decide) ?_ ?_ rfl
    · simp
    · simp [worstN, worstI, worstT, worstF]
  · have hic : i < P.corners.length := by simpa [manyR] using hi
    have hw : worstN P X 6 i n = decide (P.slope i (partN P X n).arm < 0) := by
      rcases hcases with ⟨c1, c2, c3, c4⟩ | ⟨c1, c2, c4⟩ | ⟨c1, c0, c2, c3, c4⟩
      · simp [worstN, c1, worstI, c4]
      · rw [c4]; simp [worstN, c1, worstT]
      · rw [c4]
        simp [worstN, worstF, show ¬ n < X.items.length from by omega, show ¬ n = X.items.length from by omega]
    rw [hw]
    refine XW_seqP mixed hlo (by decide) ?_
    simp [Prt.cells]
    refine XW_seqX (XW_seqP mixed hlo (by decide) ?_)
    simp
    refine XW_block ?_
    refine XW_seqP mixed hlo (by decide) ?_
    simp
    refine XW_cond (b := false) rfl ?_
    simp
    refine XW_seqP mixed hlo (by decide) ?_
    simp
    refine XW_cond (b := false) rfl ?_
    simp
    refine XW_seqP mixed hlo (by decide) ?_
    simp
    refine XW_cond (b := false) rfl ?_
    simp
    refine XW_seqP mixed hlo (by decide) ?_
    simp
    refine XW_cond (b := false) rfl ?_
    simp
    refine XW_seqP mixed hlo (by decide) ?_
    simp
    refine XW_cond (b := true) rfl ?_
    simp
    refine XW_seqP mixed hlo (by decide) ?_
    simp [pntC]
    refine pop_spec (edges_spec P) rfl false (.inl (by simp [Pln.cells, cnrL, stnL])) (.inl rfl) rfl (by simp) ?_
    simp
    refine XW_block ?_
    refine XW_rangeI (by decide) mixed rfl (by rfl) hgen edgs_plain (by decide) (by decide) 58 (by decide) [5] (by decide)
      (fun m => if m ≤ i then w1V P X i n else [])
      (fun m => w1A P X i n)
      (fun m => [.box false [.v (.bool false)]]) ?_ (fun m hm hV => ?_) (fun m q hq hV => ?_) ?_
    · rw [hB0]
      simp [w1V, Prt.cells, pntC, cnrL, stnL, itmL, spnL]
    · by_cases hs : m ≤ i
      · rw [if_pos hs]
        refine ⟨rfl, ?_, slots_view (t := 48) ?_ rfl⟩
        · simp [w1V]
        · simp [slots, w1V, w1A, Prt.cells, pntC, cnrL, stnL, itmL, spnL]
      · rw [if_neg hs] at hV; exact (hV rfl).elim
    · obtain ⟨hm, rfl⟩ := edg_get hq
      obtain ⟨s1, s2, s3, s4⟩ := edg_small hP.corner hm
      have hslope := slope_spec (m : Int) (P.cA m).weight (P.cA m).moment (P.dw m) (P.dm m) (partN P X n).arm s3 s4 hsm.1
      rw [show P.dw m * (partN P X n).arm - P.dm m = P.slope m (partN P X n).arm from rfl] at hslope
      rw [hB0]
      by_cases hs : m ≤ i
      · rw [if_pos hs]
        by_cases he : m = i
        · subst he
          simp [w1A, edgC, Prt.cells]
          refine pop_spec hslope rfl false (.inl (by simp)) (.inl rfl) rfl (by simp) ?_
          simp
          refine rend_r [.box false [.v (.bool (decide (P.slope m (partN P X n).arm < 0)))]] ?_ ?_
          · simp
          · simp [back, placeAll, w1V, blockX, thenX]
            refine ends_of (.v (.bool (decide (P.slope m (partN P X n).arm < 0)))) [] [] rfl (by decide) ?_ ?_ rfl
            · simp
            · simp
        · simp [w1A, edgC, Prt.cells, he, show ¬ (m : Int) = i from by omega]
          refine rend_n [.box false [.v (.bool false)]] ?_ ?_
          · simp
          · simp [back, placeAll, w1V, show m + 1 ≤ i from by omega, Prt.cells, pntC, cnrL, stnL, itmL, spnL]
      · rw [if_neg hs] at hV; exact (hV rfl).elim
    · intro hV
      rw [edgs_length, if_neg (by omega)] at hV
      exact (hV rfl).elim
  · refine XW_pwp mixed hlo (by decide) ?_
    simp [Prt.cells]
    refine ends_of (.v (.bool (worstN P X 7 i n))) [] [] (x := .v (.bool false)) (by simp) (by decide) ?_ ?_ rfl
    · simp
    · simp [worstN, worstI, worstT, worstF]
def wcI (P : Pln) (X : Pnt) (r i n : Nat) : List Int := (List.range (min n X.items.length)).map fun j => pickS (worstI P X r i j) (itmAt X.items j).low (itmAt X.items j).high
def wcT (P : Pln) (X : Pnt) (r i n : Nat) : Int := if X.items.length < n then pickS (worstT P r i) X.tank.low X.tank.high else 0
def wcF (P : Pln) (X : Pnt) (r i n : Nat) : List Int := (List.range (n - X.items.length - 1)).map fun j => pickS (worstF P r i j) (spnAt X.water j).low (spnAt X.water j).high
def wsV (P : Pln) (X : Pnt) (r i n : Nat) : PF := [.undef, .undef, .undef, .undef, .undef, .undef, .box true [.nil, .v (.int .i64 0), .nil], .rp [.clo (.func 115) [] [.rp [.v (.int .i64 r)] 0, .rp (pntC P X) 0, .rp [.v (.int .i64 i)] 0]] 0,
  .box true [.own 32 (wcI P X r i n).length 0 (wcI P X r i n).length false, .v (.int .i64 (wcT P X r i n)), .own 44 (wcF P X r i n).length 0 (wcF P X r i n).length false], .undef, .undef, .undef, .undef, .undef, .undef, .undef, .undef, .undef, .undef, .undef, .undef, .undef, .undef, .undef, .undef, .undef, .undef, .undef, .undef, .undef, .undef, .undef, .rows none (wcI P X r i n).length 3 1 (rowsI (wcI P X r i n)), .undef, .undef, .undef, .undef, .undef, .undef, .undef, .undef, .undef, .undef, .undef, .rows none (wcF P X r i n).length 3 1 (rowsI (wcF P X r i n)), .undef, .undef]
def wsA (P : Pln) (X : Pnt) (r i : Nat) : PF := [.undef, .undef, .undef, .undef, .undef, .undef, .undef, .rp [.clo (.func 115) [] [.rp [.v (.int .i64 r)] 0, .rp (pntC P X) 0, .rp [.v (.int .i64 i)] 0]] 0, .ref 0 0, .undef, .undef, .undef, .undef, .undef, .undef, .undef, .undef, .undef, .undef, .undef, .undef, .undef, .undef, .undef, .undef, .undef, .undef, .undef, .undef, .undef, .undef, .undef, .undef, .undef, .undef, .undef, .undef, .undef, .undef, .undef, .undef, .undef, .undef, .undef, .undef, .undef, .undef]
def wsH (P : Pln) (X : Pnt) (r i n : Nat) : PF := [.box false [.own 1 (wcI P X r i n).length 0 (wcI P X r i n).length false, .v (.int .i64 (wcT P X r i n)), .own 2 (wcF P X r i n).length 0 (wcF P X r i n).length false], .rows none (wcI P X r i n).length 3 1 (rowsI (wcI P X r i n)), .rows none (wcF P X r i n).length 3 1 (rowsI (wcF P X r i n))]
theorem wcI_len {P : Pln} {X : Pnt} {r i n : Nat} (h : n ≤ X.items.length) : (wcI P X r i n).length = n := by simp [wcI]; omega
theorem wcI_lenE {P : Pln} {X : Pnt} {r i n : Nat} (h : X.items.length ≤ n) : (wcI P X r i n).length = X.items.length := by simp [wcI]; omega
theorem wcI_succ {P : Pln} {X : Pnt} {r i n : Nat} (h : n < X.items.length) : wcI P X r i n ++ [pickS (worstI P X r i n) (itmAt X.items n).low (itmAt X.items n).high] = wcI P X r i (n + 1) := by
  simp only [wcI, Nat.min_eq_left (show n ≤ X.items.length by omega), Nat.min_eq_left (show n + 1 ≤ X.items.length by omega), List.range_succ, List.map_append, List.map_cons, List.map_nil]
theorem wcI_end {P : Pln} {X : Pnt} {r i n : Nat} (h : X.items.length ≤ n) : wcI P X r i (n + 1) = wcI P X r i n := by
  simp only [wcI, Nat.min_eq_right h, Nat.min_eq_right (show X.items.length ≤ n + 1 by omega)]
theorem wcF_nil {P : Pln} {X : Pnt} {r i n : Nat} (h : n ≤ X.items.length + 1) : wcF P X r i n = [] := by simp [wcF, show n - X.items.length - 1 = 0 from by omega]
theorem wcF_len (P : Pln) (X : Pnt) (r i n : Nat) : (wcF P X r i n).length = n - X.items.length - 1 := by simp [wcF]
theorem wcF_succ {P : Pln} {X : Pnt} {r i n : Nat} (h : X.items.length < n) : wcF P X r i n ++ [pickS (worstF P r i (n - X.items.length - 1)) (spnAt X.water (n - X.items.length - 1)).low (spnAt X.water (n - X.items.length - 1)).high] = wcF P X r i (n + 1) := by
  rw [wcF, wcF, show n + 1 - X.items.length - 1 = (n - X.items.length - 1) + 1 from by omega, List.range_succ, List.map_append]; rfl
def cseO (c : Cse) : PV := .agg [.own 0 c.items.length 0 c.items.length false, .v (.int .i64 c.tank), .own 1 c.water.length 0 c.water.length false]
def cseH (c : Cse) : PF := [.rows none c.items.length 3 1 (rowsI c.items), .rows none c.water.length 3 1 (rowsI c.water)]
theorem worst_both (b : Bool) (P : Pln) (X : Pnt) (hP : PlnOk P) (hX : PntOk P X) (r i : Nat) (hr : 2 ≤ r ∧ r ≤ 7) (hi : i < manyR P r) :
    CallW Tryz.prog 85 [.agg (pntC P X), .v (.int .i64 r), .v (.int .i64 i)] [] (fun out => out = bif b then .ret (cseO (worstC P X r i)) (cseH (worstC P X r i)) else .ret (.agg (worstC P X r i).cells) []) := by
  have hgen := parts_gen P X hX hP.nf
  have hw1 := worst1_spec P X hP hX r i hr hi
  have hni := hX.n
  have hK := partK_le hP hX
  refine callW_ofE Tryz.func85 (by decide) rfl (congrArg Array.toList Tryz.results85) Tryz.ntmps85 47 (by simp) (by decide) fun B0 hB0 hD0 => ?_
  have hlo : ∀ s B, ECtx B0 s B → B.lo = 47 := fun _ _ h => h.1.trans hB0
  refine XW_seqP mixed hlo (by decide) ?_
  simp [pntC, cnrL, stnL, itmL, spnL]
  refine XW_seqP mixed hlo (by decide) ?_
  simp
  refine XW_seqP mixed hlo (by decide) ?_
  simp
  refine XW_seqX (XW_seqP mixed hlo (by decide) ?_)
  simp
  refine pop_spec (parts_spec P X) rfl false (.inl (by simp [pntC, cnrL, stnL, itmL, spnL])) (.inl rfl) rfl (by simp) ?_
  simp
  refine XW_block ?_
  refine XW_range mixed rfl (by rfl) hgen parts_plain (by decide) (by decide) 47 (by decide) [8, 32, 44] (by decide)
    (fun n => wsV P X r i n) (fun n => wsA P X r i) (fun n => wsH P X r i n) ?_ (fun n hn => ⟨rfl, ?_, slots_view (t := 14) ?_ rfl⟩) (fun n q hq => ?_) ?_
  · rw [hB0]
    simp [wsV, wcI, wcT, wcF, pntC, cnrL, stnL, itmL, spnL]
  · simp [wsV, wsH]
  · simp [slots, wsV, wsA, wsH, pntC, cnrL, stnL, itmL, spnL]
  · obtain ⟨hn, rfl⟩ := parts_get hq
    have hcall := hw1 n hn
    rw [hB0]
    rcases Nat.lt_trichotomy n X.items.length with c | c | c
    · have hp : partN P X n = ⟨0, n, armI P X n, (itmAt X.items n).low, (itmAt X.items n).high⟩ := by simp [partN, c, partI']
      have hW : worstN P X r i n = worstI P X r i n := by simp [worstN, c]
      rw [hp, hW] at hcall
      simp only [Prt.cells] at hcall
      have l1 := wcI_len (P := P) (X := X) (r := r) (i := i) (show n ≤ X.items.length by omega)
      have l2 := wcI_len (P := P) (X := X) (r := r) (i := i) (show n + 1 ≤ X.items.length by omega)
      have er := rowsI_snoc (wcI P X r i n) (pickS (worstI P X r i n) (itmAt X.items n).low (itmAt X.items n).high)
      rw [wcI_succ c] at er
      have et : (wcI P X r i n).take n = wcI P X r i n := List.take_of_length_le (by omega)
      have f1 := wcF_nil (P := P) (X := X) (r := r) (i := i) (show n ≤ X.items.length + 1 by omega)
      have f2 := wcF_nil (P := P) (X := X) (r := r) (i := i) (show n + 1 ≤ X.items.length + 1 by omega)
      have t1 : wcT P X r i n = 0 := by simp [wcT, show ¬ X.items.length < n from by omega]
      have t2 : wcT P X r i (n + 1) = 0 := by simp [wcT, show ¬ X.items.length < n + 1 from by omega]
      rw [hp]
      simp [wsA, wsH, Prt.cells, l1, f1, t1]
      refine pop_spec hcall rfl false (.inl (by simp [pntC, cnrL, stnL, itmL, spnL])) (.inl rfl) rfl (by simp) ?_
      cases hb : worstI P X r i n with
      | true =>
        rw [hb] at er
        simp only [pickS, if_true] at er
        simp [l1, show (n + 1) * 8 ≤ 140737488355328 from by omega, show n + 1 ≤ maxLen from by simp [maxLen]; omega]
        refine rend_n (wsH P X r i (n + 1)) ?_ ?_
        · simp [wsH, l2, f2, t2, er, et]
        · simp [back, placeAll, wsV, wsH, l1, l2, f1, f2, t1, t2]
      | false =>
        rw [hb] at er
        simp only [pickS, Bool.false_eq_true, if_false] at er
        simp [l1, show (n + 1) * 8 ≤ 140737488355328 from by omega, show n + 1 ≤ maxLen from by simp [maxLen]; omega]
        refine rend_n (wsH P X r i (n + 1)) ?_ ?_
        · simp [wsH, l2, f2, t2, er, et]
        · simp [back, placeAll, wsV, wsH, l1, l2, f1, f2, t1, t2]
    · subst c
      have hp : partN P X X.items.length = ⟨1, 0, P.tank.arm, X.tank.low, X.tank.high⟩ := by simp [partN, partT]
      have hW : worstN P X r i X.items.length = worstT P r i := by simp [worstN]
      rw [hp, hW] at hcall
      simp only [Prt.cells] at hcall
      have l1 := wcI_lenE (P := P) (X := X) (r := r) (i := i) (Nat.le_refl X.items.length)
      have l2 := wcI_end (P := P) (X := X) (r := r) (i := i) (Nat.le_refl X.items.length)
      have f1 := wcF_nil (P := P) (X := X) (r := r) (i := i) (show X.items.length ≤ X.items.length + 1 by omega)
      have f2 := wcF_nil (P := P) (X := X) (r := r) (i := i) (show X.items.length + 1 ≤ X.items.length + 1 by omega)
      have t1 : wcT P X r i X.items.length = 0 := by simp [wcT]
      have t2 : wcT P X r i (X.items.length + 1) = pickS (worstT P r i) X.tank.low X.tank.high := by simp [wcT]
      rw [hp]
      simp [wsA, wsH, Prt.cells, l1, f1, t1]
      refine pop_spec hcall rfl false (.inl (by simp [pntC, cnrL, stnL, itmL, spnL])) (.inl rfl) rfl (by simp) ?_
      cases hb : worstT P r i with
      | true =>
        rw [hb] at t2
        simp only [pickS, if_true] at t2
        simp
        refine rend_n (wsH P X r i (X.items.length + 1)) ?_ ?_
        · simp [wsH, l1, l2, f2, t2]
        · simp [back, placeAll, wsV, wsH, l1, l2, f1, f2, t1, t2]
      | false =>
        rw [hb] at t2
        simp only [pickS, Bool.false_eq_true, if_false] at t2
        simp
        refine rend_n (wsH P X r i (X.items.length + 1)) ?_ ?_
        · simp [wsH, l1, l2, f2, t2]
        · simp [back, placeAll, wsV, wsH, l1, l2, f1, f2, t1, t2]
    · have hnw : n - X.items.length - 1 < X.water.length := by unfold partK at hn; omega
      have er := rowsI_snoc (wcF P X r i n) (pickS (worstF P r i (n - X.items.length - 1)) (spnAt X.water (n - X.items.length - 1)).low (spnAt X.water (n - X.items.length - 1)).high)
      rw [wcF_succ c] at er
      have l1 := wcI_lenE (P := P) (X := X) (r := r) (i := i) (show X.items.length ≤ n by omega)
      have l2 := wcI_end (P := P) (X := X) (r := r) (i := i) (show X.items.length ≤ n by omega)
      have f1 := wcF_len P X r i n
      have f2 := wcF_len P X r i (n + 1)
      rw [show n + 1 - X.items.length - 1 = n - X.items.length - 1 + 1 from by omega] at f2
      have t2 : wcT P X r i (n + 1) = wcT P X r i n := by simp [wcT, show X.items.length < n from c, show X.items.length < n + 1 from by omega]
      have hp : partN P X n = ⟨2, n - X.items.length - 1, armF P (n - X.items.length - 1), (spnAt X.water (n - X.items.length - 1)).low, (spnAt X.water (n - X.items.length - 1)).high⟩ := by
        simp [partN, show ¬ n < X.items.length from by omega, show ¬ n = X.items.length from by omega, partF]
      have hW : worstN P X r i n = worstF P r i (n - X.items.length - 1) := by simp [worstN, show ¬ n < X.items.length from by omega, show ¬ n = X.items.length from by omega]
      rw [hp, hW] at hcall
      simp only [Prt.cells] at hcall
      rw [hp]
      generalize hk : n - X.items.length - 1 = k at *
      have et : (wcF P X r i n).take k = wcF P X r i n := List.take_of_length_le (by omega)
      simp [wsA, wsH, Prt.cells, l1, f1]
      refine pop_spec hcall rfl false (.inl (by simp [pntC, cnrL, stnL, itmL, spnL])) (.inl rfl) rfl (by simp) ?_
      cases hb : worstF P r i k with
      | true =>
        rw [hb] at er
        simp only [pickS, if_true] at er
        simp [f1, show (k + 1) * 8 ≤ 140737488355328 from by omega, show k + 1 ≤ maxLen from by simp [maxLen]; omega]
        refine rend_n (wsH P X r i (n + 1)) ?_ ?_
        · simp [wsH, l1, l2, f2, t2, er, et]
        · simp [back, placeAll, wsV, wsH, l1, l2, f1, f2, t2]
      | false =>
        rw [hb] at er
        simp only [pickS, Bool.false_eq_true, if_false] at er
        simp [f1, show (k + 1) * 8 ≤ 140737488355328 from by omega, show k + 1 ≤ maxLen from by simp [maxLen]; omega]
        refine rend_n (wsH P X r i (n + 1)) ?_ ?_
        · simp [wsH, l1, l2, f2, t2, er, et]
        · simp [back, placeAll, wsV, wsH, l1, l2, f1, f2, t2]
  · rw [partsL_length]
    have e1 : wcI P X r i (partK X) = (worstC P X r i).items := by
      rw [wcI, Nat.min_eq_right (show X.items.length ≤ partK X by unfold partK; omega)]; rfl
    have e2 : wcT P X r i (partK X) = (worstC P X r i).tank := by
      rw [wcT, if_pos (show X.items.length < partK X by unfold partK; omega)]; rfl
    have e3 : wcF P X r i (partK X) = (worstC P X r i).water := by
      rw [wcF, show partK X - X.items.length - 1 = X.water.length from by unfold partK; omega]; rfl
    simp [blockX, thenX, wsV, e1, e2, e3]
    refine XW_pwp mixed hlo (by decide) ?_
    simp
    cases b with
    | true =>
      refine ends_of (cseO (worstC P X r i)) (cseH (worstC P X r i)) [32, 44] (x := .agg [.own 32 (worstC P X r i).items.length 0 (worstC P X r i).items.length false, .v (.int .i64 (worstC P X r i).tank), .own 44 (worstC P X r i).water.length 0 (worstC P X r i).water.length false]) (by simp) (by decide) ?_ ?_ rfl
      · simp [cseH]
      · simp [cseO, cseH]
    | false =>
      refine ends_of (.agg (worstC P X r i).cells) [] [] (x := .agg [.own 32 (worstC P X r i).items.length 0 (worstC P X r i).items.length false, .v (.int .i64 (worstC P X r i).tank), .own 44 (worstC P X r i).water.length 0 (worstC P X r i).water.length false]) (by simp) (by decide) ?_ ?_ rfl
      · simp
      · simp [Cse.cells, ints]
        refine ⟨fun k hk => ?_, fun k hk => ?_⟩
        · simp [rowsI_get hk]
        · simp [rowsI_get hk]
theorem worst_spec (P : Pln) (X : Pnt) (hP : PlnOk P) (hX : PntOk P X) (r i : Nat) (hr : 2 ≤ r ∧ r ≤ 7) (hi : i < manyR P r) :
    Spec Tryz.prog 85 [.agg (pntC P X), .v (.int .i64 r), .v (.int .i64 i)] (.agg (worstC P X r i).cells) := by
  unfold Spec
  have h := worst_both false P X hP hX r i hr hi
  simpa only [cond_false] using h
end Go.Qg

namespace Go.Qg
open Go.Proofs
set_option maxRecDepth 100000
set_option maxHeartbeats 32000000
set_option linter.unusedSimpArgs false
attribute [local irreducible] pwp pops pdraw pop popCall pdCall thenP blockP scopeP pspec Spec answers ppost CallW rend
instance : Inhabited Pnt := ⟨⟨[], ⟨0, 0⟩, [], false⟩⟩
def pntAt (l : List Pnt) (i : Nat) : Pnt := l.getD i default
def pntL (l : List Pnt) : PV := .sl 5 l.length fun i => (pntAt l i).cells
def rowsPt (l : List Pnt) : List (List PV) := l.map Pnt.cells
theorem Pnt.plain (X : Pnt) : plainL X.cells = true := by simp [Pnt.cells, plainL, PV.plain, itmL, spnL]
@[simp] theorem rowsPt_length (l : List Pnt) : (rowsPt l).length = l.length := by simp [rowsPt]
@[simp] theorem rowsPt_nil : rowsPt [] = [] := rfl
@[simp] theorem renLL_rowsPt (π : Nat → Nat) (l : List Pnt) : renLL π (rowsPt l) = rowsPt l := by
  induction l with
  | nil => rfl
  | cons x l ih => simp only [rowsPt, List.map_cons, renLL, renL_plain x.plain] at *; rw [ih]
@[simp] theorem namesLL_rowsPt (l : List Pnt) : namesLL (rowsPt l) = [] := by
  induction l with
  | nil => rfl
  | cons x l ih => simp only [rowsPt, List.map_cons, namesLL, plainL_names x.plain, List.nil_append] at *; exact ih
@[simp] theorem vwAllL_rowsPt (f : PF) (T : Tgt) (d : Nat) (l : List Pnt) : vo.vwAllL f T d (rowsPt l) (rowsPt l) = True := by
  induction l with
  | nil => simp [rowsPt, vo.vwAllL]
  | cons x l ih => simp only [rowsPt, List.map_cons, vo.vwAllL, vwAll_plain x.plain, true_and] at *; exact ih
theorem vwAllL_snoc (f : PF) (T : Tgt) (d : Nat) (l : List Pnt) (x y : List PV) : vo.vwAllL f T d (rowsPt l ++ [x]) (rowsPt l ++ [y]) = vwAll (vw f T d) x y := by
  induction l with
  | nil => simp [rowsPt, vo.vwAllL]
  | cons z l ih => simp only [rowsPt, List.map_cons, List.cons_append, vo.vwAllL, vwAll_plain z.plain, true_and] at *; exact ih
@[simp] theorem rowsPt_one {l : List Pnt} : (∀ (x : List PV), x ∈ rowsPt l → ∀ (y : PV), y ∈ x → y.one = true) ↔ True := by
  refine ⟨fun _ => trivial, fun _ x hx y hy => ?_⟩
  obtain ⟨b, _, rfl⟩ := List.mem_map.1 hx
  simp [Pnt.cells] at hy
  rcases hy with rfl | rfl | rfl | rfl | rfl <;> rfl
@[simp] theorem rowsPt_len1 {l : List Pnt} : (∀ (x : List PV), x ∈ rowsPt l → x.length = 5) ↔ True := by
  refine ⟨fun _ => trivial, fun _ x hx => ?_⟩
  obtain ⟨b, _, rfl⟩ := List.mem_map.1 hx
  rfl
@[simp] theorem rowsPt_take (l : List Pnt) (k : Nat) : (rowsPt l).take k = rowsPt (l.take k) := by simp [rowsPt]
theorem rowsPt_get {l : List Pnt} {k : Nat} (h : k < l.length) : (rowsPt l)[k]? = some (pntAt l k).cells := by simp [rowsPt, pntAt, h]
theorem rowsPt_snoc (l : List Pnt) (x : Pnt) : rowsPt l ++ [x.cells] = rowsPt (l ++ [x]) := by simp [rowsPt]
theorem rowsPt_allone (l : List Pnt) : ((rowsPt l).all fun r => r.all (·.one)) = true := by
  simp [List.all_eq_true, rowsPt, Pnt.cells, PV.one, itmL, spnL]
theorem rows_itm (l : List Itm) : (List.range l.length).map (fun i => (itmAt l i).cells) = rowsIt l := rowsIt_range l
def addX (items : List Itm) (now water : Spn) (nf : Nat) (b : Bool) : Pnt := ⟨items, now, List.replicate nf water, b⟩
def addH (now water : Spn) (l : List Pnt) : PF := [.box false now.cells, .box false water.cells, .box false [.own 3 l.length 0 l.length false], .rows none l.length 66 5 (rowsPt l)]
theorem add_spec (P : Pln) (g : Leg) (b : Bool) (now water : Spn) (l : List Pnt) (hi : g.items.length ≤ 12) (hf : P.floats.length ≤ 2) (hl : l.length ≤ 100) :
    CallW Tryz.prog 111 [.agg g.cells, .v (.bool b), .ref 0 0, .rp P.cells 0, .ref 1 0, .ref 2 0] (addH now water l) (fun out => out = .ret (.tup []) (addH now water (l ++ [addX g.items now water P.floats.length b]))) := by
  refine callW_of mixed Tryz.func111 (by decide) rfl (congrArg Array.toList Tryz.results111) Tryz.ntmps111 (by decide) 34 (by simp) (by decide) ?_
  simp [addH, Leg.cells, Pln.cells, cnrL, stnL, itmL, Spn.cells]
  simp [show g.items.length * 24 ≤ 140737488355328 from by omega, show g.items.length ≤ maxLen from by simp [maxLen]; omega]
  have hrl := rowsIt_length g.items
  refine pwp_loop (fun k : Nat => [(8, .box true [.sl 3 g.items.length fun i => (itmAt g.items i).cells, .v (.int .i64 now.low), .v (.int .i64 now.high), .own 27 k 0 k false, .v (.bool b)]), (16, .undef), (21, .v (.int .i64 k)), (27, .rows none k 37 2 (rowsSp (List.replicate k water)))]) (fun k => k ≤ P.floats.length) (fun k => P.floats.length - k) 0 (Nat.zero_le _) (by simp; rfl) ?_ ?_
  · simp [rows_itm]
    intro k hk
    rw [rowsIt_get hk]
    simp [Itm.cells]
  intro k hk
  by_cases hkl : k < P.floats.length
  · have wk := i64_wrap (show -9223372036854775808 ≤ (k : Int) + 1 ∧ _ from by omega)
    have er := rowsSp_snoc (List.replicate k water) water
    rw [show List.replicate k water ++ [water] = List.replicate (k + 1) water from by rw [List.replicate_succ']] at er
    simp only [Spn.cells] at er
    have et : (List.replicate k water).take k = List.replicate k water := List.take_of_length_le (by simp)
    simp [hkl, show (k + 1) * 16 ≤ 140737488355328 from by omega, show k + 1 ≤ maxLen from by simp [maxLen]; omega]
    refine again_of (k + 1) (by omega) (by omega) ?_
    simp [wk, er, et]
  · obtain rfl : k = P.floats.length := by omega
    simp [show (l.length + 1) * 72 ≤ 140737488355328 from by omega, show l.length + 1 ≤ maxLen from by simp [maxLen]; omega]
    have et : l.take l.length = l := List.take_of_length_le (Nat.le_refl _)
    refine ends_n (.tup []) (addH now water (l ++ [addX g.items now water P.floats.length b])) [] rfl (by decide) ?_ ?_ (by simp [addH, Spn.cells])
    · simp [addH, Spn.cells, et, ← rowsPt_snoc, vwAllL_snoc, rowsPt_allone, addX, Pnt.cells, itmL, spnL]
      intro k hk
      rw [rowsSp_get (by simpa using hk)]
      simp [Spn.cells, spnAt, List.getD, hk]
    · simp
theorem ptsL_length (P : Pln) (fuel : Spn) (legs : List Leg) (n : Nat) : (ptsL P fuel legs n).length = n := by simp [ptsL]
theorem ptsL_A (P : Pln) (fuel : Spn) (legs : List Leg) (k : Nat) : ptsL P fuel legs (2 * k) ++ [ptA P fuel legs k] = ptsL P fuel legs (2 * k + 1) := by
  rw [ptsL, ptsL, List.range_succ, List.map_append, List.map_cons, ptOf_even]; rfl
theorem ptsL_B (P : Pln) (fuel : Spn) (legs : List Leg) (k : Nat) : ptsL P fuel legs (2 * k + 1) ++ [ptB P fuel legs k] = ptsL P fuel legs (2 * (k + 1)) := by
  rw [ptsL, ptsL, show 2 * (k + 1) = (2 * k + 1) + 1 from by omega, List.range_succ (n := 2 * k + 1), List.map_append (l₂ := [2 * k + 1]), List.map_cons, ptOf_odd]; rfl
theorem points_spec (P : Pln) (fuel : Spn) (legs : List Leg) (hf : P.floats.length ≤ 2) (hT : TripOk P fuel legs) : Spec Tryz.prog 78 [.agg P.cells, .agg fuel.cells, legL legs] (pntL (ptsL P fuel legs (2 * legs.length))) := by
  have hn := hT.n
  refine spec_of mixed Tryz.func78 (by decide) rfl Tryz.results78 Tryz.ntmps78 (by decide) 1 (by simp) ?_
  simp [Pln.cells, cnrL, stnL, Spn.cells, legL]
  refine pwp_loop (fun k : Nat => [(3, .rp P.cells 0), (7, .box true [.own 70 (2 * k) 0 (2 * k) false]), (8, .box true (stT fuel legs k).cells), (9, .box true (stF legs k).cells), (10, .clo (.func 111) [] [.ref 8 0, .rp P.cells 0, .ref 9 0, .ref 7 0]), (15, .undef), (18, .v (.int .i64 k)), (70, .rows none (2 * k) 66 5 (rowsPt (ptsL P fuel legs (2 * k))))]) (fun k => k ≤ legs.length) (fun k => legs.length - k) 0 (Nat.zero_le _) (by simp; rfl) ?_ ?_
  · simp [Pln.cells, cnrL, stnL, Spn.cells, stT, stF, ptsL]
  intro k hk
  by_cases hkl : k < legs.length
  · have wk := i64_wrap (show -9223372036854775808 ≤ (k : Int) + 1 ∧ _ from by omega)
    have hL := hT.leg k hkl
    have b1 := stT_bounds hT k hk
    have b2 := stF_bounds hT k hk
    have b3 := stG_bounds hT k hk
    have l1 := hL.fuel
    have l2 := hL.burn
    have l3 := hL.leak
    have l4 := hL.n
    have hlA := ptsL_length P fuel legs (2 * k)
    have hlB := ptsL_length P fuel legs (2 * k + 1)
    have eT : stT fuel legs (k + 1) = ⟨(stT fuel legs k).low + (legAt legs k).fuel - (legAt legs k).burn.high, (stT fuel legs k).high + (legAt legs k).fuel - (legAt legs k).burn.low⟩ := rfl
    have eF := stF_succ legs k
    have addA := add_spec P (legAt legs k) false ⟨(stT fuel legs k).low + (legAt legs k).fuel, (stT fuel legs k).high + (legAt legs k).fuel⟩ (stG legs k) (ptsL P fuel legs (2 * k)) l4 hf (by omega)
    have addB := add_spec P (legAt legs k) true (stT fuel legs (k + 1)) (stF legs (k + 1)) (ptsL P fuel legs (2 * k + 1)) l4 hf (by omega)
    rw [show addX (legAt legs k).items ⟨(stT fuel legs k).low + (legAt legs k).fuel, (stT fuel legs k).high + (legAt legs k).fuel⟩ (stG legs k) P.floats.length false = ptA P fuel legs k from rfl, ptsL_A] at addA
    rw [show addX (legAt legs k).items (stT fuel legs (k + 1)) (stF legs (k + 1)) P.floats.length true = ptB P fuel legs k from rfl, ptsL_B] at addB
    simp only [addH, hlA, hlB, ptsL_length, Spn.cells] at addA addB
    have w1 := i64_wrap (show -9223372036854775808 ≤ (stT fuel legs k).low + (legAt legs k).fuel ∧ _ from by omega)
    have w2 := i64_wrap (show -9223372036854775808 ≤ (stT fuel legs k).high + (legAt legs k).fuel ∧ _ from by omega)
    have w3 := i64_wrap (show -9223372036854775808 ≤ (stT fuel legs k).low + (legAt legs k).fuel - (legAt legs k).burn.high ∧ _ from by omega)
    have w4 := i64_wrap (show -9223372036854775808 ≤ (stT fuel legs k).high + (legAt legs k).fuel - (legAt legs k).burn.low ∧ _ from by omega)
    have w5 := i64_wrap (show -9223372036854775808 ≤ (stG legs k).low + (legAt legs k).leak.low ∧ _ from by omega)
    have w6 := i64_wrap (show -9223372036854775808 ≤ (stG legs k).high + (legAt legs k).leak.high ∧ _ from by omega)
    cases hp : (legAt legs k).pump with
    | true =>
      have hG : stG legs k = ⟨0, 0⟩ := by simp [stG, hp]
      rw [hG] at addA eF w5 w6
      simp only [Int.zero_add] at addA eF w5 w6
      rw [eT, eF] at addB
      simp only at addB
      simp (config := { maxSteps := 4000000 }) [hkl, Leg.cells, hp, Pln.cells, cnrL, stnL, Spn.cells, itmL, w1, w2]
      refine pop_callW addA rfl [8, 9, 7, 70] false (by decide) ?_ (.inl ?_) ?_
      · simp
      · simp [Leg.cells, hp, Pln.cells, cnrL, stnL, itmL]
      rintro out rfl
      refine ⟨[], by simp [backOk], .inl rfl, by simp [back, backV, placeAll], ?_⟩
      simp (config := { maxSteps := 4000000 }) [back, backV, placeAll, Leg.cells, hp, itmL, w3, w4, w5, w6]
      refine pop_callW addB rfl [8, 9, 7, 70] false (by decide) ?_ (.inl ?_) ?_
      · simp
      · simp [Leg.cells, hp, Pln.cells, cnrL, stnL, itmL]
      rintro out rfl
      refine ⟨[], by simp [backOk], .inl rfl, by simp [back, backV, placeAll], ?_⟩
      simp (config := { maxSteps := 4000000 }) [back, backV, placeAll]
      refine again_of (k + 1) (by omega) (by omega) ?_
      simp [wk, eT, eF, Spn.cells, Pln.cells, cnrL, stnL, show 2 * (k + 1) = 2 * k + 1 + 1 from by omega]
    | false =>
      have hG : stG legs k = stF legs k := by simp [stG, hp]
      rw [hG] at addA eF w5 w6
      rw [eT, eF] at addB
      simp only at addB
      simp (config := { maxSteps := 4000000 }) [hkl, Leg.cells, hp, Pln.cells, cnrL, stnL, Spn.cells, itmL, w1, w2]
      refine pop_callW addA rfl [8, 9, 7, 70] false (by decide) ?_ (.inl ?_) ?_
      · simp
      · simp [Leg.cells, hp, Pln.cells, cnrL, stnL, itmL]
      rintro out rfl
      refine ⟨[], by simp [backOk], .inl rfl, by simp [back, backV, placeAll], ?_⟩
      simp (config := { maxSteps := 4000000 }) [back, backV, placeAll, Leg.cells, hp, itmL, w3, w4, w5, w6]
      refine pop_callW addB rfl [8, 9, 7, 70] false (by decide) ?_ (.inl ?_) ?_
      · simp
      · simp [Leg.cells, hp, Pln.cells, cnrL, stnL, itmL]
      rintro out rfl
      refine ⟨[], by simp [backOk], .inl rfl, by simp [back, backV, placeAll], ?_⟩
      simp (config := { maxSteps := 4000000 }) [back, backV, placeAll]
      refine again_of (k + 1) (by omega) (by omega) ?_
      simp [wk, eT, eF, Spn.cells, Pln.cells, cnrL, stnL, show 2 * (k + 1) = 2 * k + 1 + 1 from by omega]
  · obtain rfl : k = legs.length := by omega
    simp
    refine answers_of rfl ?_
    simp [pntL, ptsL_length]
    intro k hk
    simp [rowsPt_get (show k < (ptsL P fuel legs (2 * legs.length)).length by rw [ptsL_length]; exact hk), vwAll_plain (pntAt (ptsL P fuel legs (2 * legs.length)) k).plain]
    intro x hx
    simp [Pnt.cells] at hx
    rcases hx with rfl | rfl | rfl | rfl | rfl <;> simp [itmL, spnL]
end Go.Qg
