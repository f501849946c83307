/-
  Lemmas and contracts that hold of the whole program: 14 texts in one.
  No condition.
-/
import Derived.Test.YtnjhblcfjhpoiaaGreatDoorZr4
import Derived.ProofKit
import Derived.OpenShut
import Derived.ChangeOld
import Derived.ChangeBears
import Derived.Deep.Slices
import Derived.Below
set_option linter.all false

namespace Go.Qg
open Go.ChangeShapes Go.WideShapes Go.ChangeAt Go.RowKit
def TypF (R : TypeId → List PV → Prop) : List TypeId → List PV → Prop
  | [], ps => ps = []
  | t :: ts, ps => ∃ p q, ps = p ++ q ∧ R t p ∧ TypF R ts q
def tdef (P : Program) : Nat → TypeId → List PV
  | 0, _ => []
  | n + 1, t => match P.underlying t with
    | some .bool => [.v (.bool false)]
    | some (.int k) => [.v (.int k 0)]
    | some .string => [.v (.string ByteArray.empty)]
    | some (.slice e) => [.sl (P.cellsOf e) 0 fun _ => tdef P n e]
    | some (.struct fs) => (fs.toList.map fun f => tdef P n f.type).flatten
    | some (.array m e) => (List.replicate m (tdef P n e)).flatten
    | _ => []
def Typ (P : Program) : Nat → TypeId → List PV → Prop
  | 0, _, _ => False
  | n + 1, t, ps => match P.underlying t with
    | some .bool => ∃ b, ps = [.v (.bool b)]
    | some (.int k) => ∃ x, ps = [.v (.int k x)] ∧ k.min ≤ x ∧ x ≤ k.max
    | some .string => ∃ s : ByteArray, ps = [.v (.string s)] ∧ s.size ≤ maxLen
    | some (.slice e) => ∃ (m : Nat) (f : Nat → List PV), ps = [.sl (P.cellsOf e) m f] ∧ m ≤ maxLen ∧ (∀ i, i < m → Typ P n e (f i)) ∧ ∀ i, m ≤ i → f i = tdef P n e
    | some (.struct fs) => TypF (Typ P n) (fs.toList.map (·.type)) ps
    | some (.array m e) => TypF (Typ P n) (List.replicate m e) ps
    | _ => False
def sup (P : Program) : Nat → TypeId → Bool
  | 0, _ => false
  | n + 1, t => match P.underlying t with
    | some .bool | some (.int _) | some .string => true
    | some (.slice e) | some (.array _ e) => sup P n e
    | some (.struct fs) => fs.toList.all fun f => sup P n f.type
    | _ => false
structure RowRep (w : World) (R : Nat → Nat → Prop) (Γ : Nat → Option Loc) (cs : List Value) (ps : List PV) : Prop where
  len : cs.length = ps.length
  each : ∀ (i : Nat) (u : Value) (p : PV), cs[i]? = some u → ps[i]? = some p → Rep w R Γ u p
  one : ∀ p ∈ ps, p.one = true ∧ p.names = []
section
variable {w : World} {R : Nat → Nat → Prop} {Γ : Nat → Option Loc}
theorem RowRep.single {u : Value} {p : PV} (h : Rep w R Γ u p) (h1 : p.one = true) (h2 : p.names = []) : RowRep w R Γ [u] [p] := by
  refine ⟨rfl, fun i v q hv hq => ?_, fun q hq => ?_⟩
  · match i, hv, hq with
    | 0, hv, hq =>
      obtain rfl := Option.some.inj hv
      obtain rfl := Option.some.inj hq
      exact h
  · obtain rfl := List.mem_singleton.1 hq
    exact ⟨h1, h2⟩
theorem RowRep.nil : RowRep w R Γ [] [] := ⟨rfl, fun i u p h => by simp at h, fun p h => by cases h⟩
theorem RowRep.append {cs cs' : List Value} {ps ps' : List PV} (h : RowRep w R Γ cs ps) (k : RowRep w R Γ cs' ps') : RowRep w R Γ (cs ++ cs') (ps ++ ps') := by
  refine ⟨by simp [h.len, k.len], fun i u p hu hp => ?_, fun p hp => ?_⟩
  · have hl := h.len
    by_cases hi : i < cs.length
    · rw [List.getElem?_append_left hi] at hu
      rw [List.getElem?_append_left (by omega)] at hp
      exact h.each i u p hu hp
    · rw [List.getElem?_append_right (by omega)] at hu hp
      rw [← hl] at hp
      exact k.each _ u p hu hp
  · rcases List.mem_append.1 hp with hp | hp
    · exact h.one p hp
    · exact k.one p hp
end
section
variable {H : Type} {enc : TypeId × Value → H} {P : Program} {w : World} {spare : Nat → Bool} {held : Bool} {Γ : Nat → Option Loc}
def there (w : World) (b o : Nat) : Prop := ∃ v, w.cell? ⟨b, o, none⟩ = some v
theorem cells_get {base : Nat} {a : Addr} {n : Nat} {cs : List Value} (h : w.cells? base a n = some cs) : cs.length = n ∧ ∀ i, i < n → w.cell? (a.add i) = cs[i]? := by
  unfold World.cells? at h
  split at h
  · refine ⟨by simpa using mapM_some_length h, fun i hi => ?_⟩
    have := mapM_some_get h i i (by simp [hi])
    exact this
  · cases h
theorem fields_row {n : Nat} {cs : List Value} (ih : ∀ (t : TypeId) (cs : List Value), t < P.types.size → sup P n t = true → (∃ fuel x, DataW.trod enc P w 0 spare held fuel t cs = some x) → ∃ ps, Typ P n t ps ∧ RowRep w (there w) Γ cs ps) :
    ∀ (fs : List Field) (o : Nat), (∀ f ∈ fs, f.type < P.types.size ∧ sup P n f.type = true) → (∀ (j : Nat) f, fs[j]? = some f → f.offset = o + ((fs.take j).map fun f => P.cellsOf f.type).sum) →
      (∀ f ∈ fs, ∃ fuel x, DataW.trod enc P w 0 spare held fuel f.type ((cs.drop f.offset).take (P.cellsOf f.type)) = some x) → cs.length = o + (fs.map fun f => P.cellsOf f.type).sum →
      ∃ ps, TypF (Typ P n) (fs.map (·.type)) ps ∧ RowRep w (there w) Γ (cs.drop o) ps
  | [], o, _, _, _, hl => by
    refine ⟨[], rfl, ?_⟩
    rw [List.drop_of_length_le (by simp at hl; omega)]
    exact .nil
  | f :: fs, o, h1, h2, h3, hl => by
    have ho : f.offset = o := by simpa using h2 0 f rfl
    obtain ⟨hf1, hf2⟩ := h1 f List.mem_cons_self
    have h4 := h3 f List.mem_cons_self
    rw [ho] at h4
    obtain ⟨p, hp1, hp2⟩ := ih f.type _ hf1 hf2 h4
    obtain ⟨q, hq1, hq2⟩ := fields_row ih fs (o + P.cellsOf f.type) (fun g hg => h1 g (List.mem_cons_of_mem _ hg)) (fun j g hg => by
      have := h2 (j + 1) g (by simpa using hg)
      simp only [List.take_succ_cons, List.map_cons, List.sum_cons] at this
      omega) (fun g hg => h3 g (List.mem_cons_of_mem _ hg)) (by simp only [List.map_cons, List.sum_cons] at hl; omega)
    refine ⟨p ++ q, ⟨p, q, rfl, hp1, hq1⟩, ?_⟩
    have e : cs.drop o = (cs.drop o).take (P.cellsOf f.type) ++ cs.drop (o + P.cellsOf f.type) := by
      rw [← List.drop_drop, List.take_append_drop]
    rw [e]
    exact hp2.append hq2
theorem parts_row {n : Nat} {e : TypeId} {cs : List Value} (ih : ∀ (t : TypeId) (cs : List Value), t < P.types.size → sup P n t = true → (∃ fuel x, DataW.trod enc P w 0 spare held fuel t cs = some x) → ∃ ps, Typ P n t ps ∧ RowRep w (there w) Γ cs ps)
    (he : e < P.types.size) (hs : sup P n e = true) : ∀ (m o : Nat), (∀ i, o ≤ i → i < o + m → ∃ fuel x, DataW.trod enc P w 0 spare held fuel e ((cs.drop (i * P.cellsOf e)).take (P.cellsOf e)) = some x) → cs.length = (o + m) * P.cellsOf e →
      ∃ ps, TypF (Typ P n) (List.replicate m e) ps ∧ RowRep w (there w) Γ (cs.drop (o * P.cellsOf e)) ps
  | 0, o, _, hl => by
    refine ⟨[], rfl, ?_⟩
    rw [List.drop_of_length_le (by simp at hl; omega)]
    exact .nil
  | m + 1, o, h, hl => by
    obtain ⟨p, hp1, hp2⟩ := ih e _ he hs (h o (Nat.le_refl _) (by omega))
    obtain ⟨q, hq1, hq2⟩ := parts_row ih he hs m (o + 1) (fun i h1 h2 => h i (by omega) (by omega)) (by rw [hl]; congr 1; omega)
    refine ⟨p ++ q, by rw [List.replicate_succ]; exact ⟨p, q, rfl, hp1, hq1⟩, ?_⟩
    have e : cs.drop (o * P.cellsOf e) = (cs.drop (o * P.cellsOf e)).take (P.cellsOf e) ++ cs.drop ((o + 1) * P.cellsOf e) := by
      rw [Nat.add_mul, Nat.one_mul, ← List.drop_drop, List.take_append_drop]
    rw [e]
    exact hp2.append hq2
theorem trod_arr {fuel : Nat} {t e : TypeId} {m : Nat} {cs : List Value} {x : DataW H × List MemPlace} (ht : P.underlying t = some (.array m e)) (h : DataW.trod enc P w 0 spare held fuel t cs = some x) :
    cs.length = P.cellsOf t ∧ ∀ i, i < m → ∃ fuel x, DataW.trod enc P w 0 spare held fuel e ((cs.drop (i * P.cellsOf e)).take (P.cellsOf e)) = some x := by
  cases fuel with
  | zero => simp [DataW.trod] at h
  | succ n =>
    unfold DataW.trod at h
    rw [ht] at h
    split at h <;> simp_all
    obtain ⟨hl, xs, hp, hd⟩ := h
    intro i hi
    have h1 := mapM_some_get hp i i (by simp [hi])
    have h2 := mapM_some_length hp
    simp only [List.length_range] at h2
    refine ⟨n, (xs[i]'(by omega)).1, (xs[i]'(by omega)).2, ?_⟩
    rw [h1, List.getElem?_eq_getElem (by omega)]
theorem read_row (hl : laidOutB P = true) : ∀ (n : Nat) (t : TypeId) (cs : List Value), t < P.types.size → sup P n t = true → (∃ fuel x, DataW.trod enc P w 0 spare held fuel t cs = some x) → ∃ ps, Typ P n t ps ∧ RowRep w (there w) Γ cs ps
  | 0, _, _, _, h, _ => by cases h
  | n + 1, t, cs, ht, hs, ⟨fuel, x, h⟩ => by
    have ih := read_row hl n
    simp only [sup] at hs
    simp only [Typ]
    split at hs
    · rename_i hu
      obtain ⟨b, rfl, _⟩ := DataW.trod_bool hu h
      rw [hu]
      exact ⟨_, ⟨b, rfl⟩, .single (.v _ rfl) rfl rfl⟩
    · rename_i k hu
      obtain ⟨m, rfl, _, hw⟩ := DataW.trod_int hu h
      rw [hu]
      simp only [Lit.wf, Bool.and_eq_true, decide_eq_true_eq] at hw
      exact ⟨_, ⟨m, rfl, hw⟩, .single (.v _ rfl) rfl rfl⟩
    · rename_i hu
      obtain ⟨s, rfl, _, hw⟩ := DataW.trod_string hu h
      rw [hu]
      exact ⟨_, ⟨s, rfl, hw⟩, .single (.v _ rfl) rfl rfl⟩
    · rename_i e hu
      have he := kid_slice hl ht hu
      rw [hu]
      rcases Deep.open_slice hu h with ⟨rfl, _⟩ | ⟨a, len, cap, m, k, D, Pl, rfl, _, h1, h2, h3, _, h4⟩
      · refine ⟨_, ⟨0, fun _ => tdef P n e, rfl, Nat.zero_le _, fun i hi => by omega, fun _ _ => rfl⟩, .single (.sl none 0 0 _ _ (fun _ _ => undef) (Nat.le_refl _) (Nat.zero_le _) ?_ ?_ ?_ ?_) rfl rfl⟩
        · intro i hi; omega
        · intro i j p hi; omega
        · intro i j hi; omega
        · intro i j p hi; omega
      · have hlm : len ≤ m := by rw [h3]; split <;> omega
        have key : ∀ i, i < len → ∃ q : List Value × List PV, w.cells? 0 (a.add (i * P.cellsOf e)) (P.cellsOf e) = some q.1 ∧ Typ P n e q.2 ∧ RowRep w (there w) Γ q.1 q.2 := fun i hi => by
          obtain ⟨cs', g1, g2⟩ := h4 i (by omega)
          obtain ⟨ps, g3, g4⟩ := ih e cs' he hs ⟨k, _, g2⟩
          exact ⟨(cs', ps), g1, g3, g4⟩
        obtain ⟨q, hq⟩ := Deep.choose_lt key
        have hsz : ∀ i, i < len → (q i).1.length = P.cellsOf e ∧ (q i).2.length = P.cellsOf e := fun i hi => by
          have g1 := (cells_get (hq i hi).1).1
          have g2 := (hq i hi).2.2.len
          exact ⟨g1, by omega⟩
        have hspot : 0 < len → 0 < P.cellsOf e → a.spot = none := fun g1 g2 => by
          have g3 := (cells_get (hq 0 g1).1).2 0 g2
          have g4 : (q 0).1[0]? = some ((q 0).1[0]'(by rw [(hsz 0 g1).1]; exact g2)) := List.getElem?_eq_getElem _
          rw [g4] at g3
          have := World.cell?_spot g3
          simpa [Addr.add] using this
        have hcell : ∀ i j, i < len → j < P.cellsOf e → w.cell? ⟨a.block, a.off + (i * P.cellsOf e + j), none⟩ = some ((q i).1.getD j undef) := fun i j hi hj => by
          have g1 := (cells_get (hq i hi).1).2 j hj
          have g2 := hspot (by omega) (by omega)
          have e1 : (a.add (i * P.cellsOf e)).add j = ⟨a.block, a.off + (i * P.cellsOf e + j), none⟩ := by
            rw [Deep.add_add]
            obtain ⟨b, o, s⟩ := a
            simp only at g2
            subst g2
            unfold Addr.add
            split
            · rename_i h0; rw [h0]; rfl
            · rfl
          rw [e1] at g1
          rw [g1]
          have g3 := (hsz i hi).1
          rw [List.getD_eq_getElem?_getD, List.getElem?_eq_getElem (by omega)]; rfl
        have hf : ∀ i, i < len → (if i < len then (q i).2 else tdef P n e) = (q i).2 := fun i hi => if_pos hi
        refine ⟨_, ⟨len, fun i => if i < len then (q i).2 else tdef P n e, rfl, by omega, fun i hi => by simp only [hf i hi]; exact (hq i hi).2.1, fun i hi => if_neg (by omega)⟩, .single (.sl (some a) len cap _ _ (fun i j => (q i).1.getD j undef) h1 h2 (fun i hi => by simp only [hf i hi]; exact (hsz i hi).2) (fun i j p hi hp => by simp only [hf i hi] at hp; exact (hq i hi).2.2.one p (List.mem_of_getElem? hp)) (fun i j hi hj => ?_) fun i j p hi hp => ?_) rfl rfl⟩
        · refine ⟨a.block, a.off, ?_, ⟨_, hcell i j hi hj⟩, hcell i j hi hj⟩
          have := hspot (by omega) (by omega)
          obtain ⟨b, o, s⟩ := a
          simp only at this
          rw [this]
        · simp only [hf i hi] at hp
          have g1 := lt_of_get? hp
          have g2 := (hsz i hi)
          have g3 : (q i).1[j]? = some ((q i).1.getD j undef) := by
            rw [List.getD_eq_getElem?_getD, List.getElem?_eq_getElem (by omega)]; rfl
          exact (hq i hi).2.2.each j _ p g3 hp
    · rename_i m e hu
      obtain ⟨he, hc⟩ := kid_array hl ht hu
      rw [hu]
      obtain ⟨h1, h2⟩ := trod_arr hu h
      have := parts_row ih he hs m 0 (fun i _ hi => h2 i (by omega)) (by rw [h1, hc]; congr 1; omega)
      simpa using this
    · rename_i fs hu
      obtain ⟨k1, k2, k3⟩ := kid_struct hl ht hu
      rw [hu]
      obtain ⟨xs, k, rfl, _, h1, h2, h3⟩ := DataW.trod_struct hu h
      have := fields_row (cs := cs) ih fs.toList 0 (fun f hf => ⟨k1 f hf, List.all_eq_true.1 hs f hf⟩) (fun j f hf => by rw [k3 j f hf]; omega) (fun f hf => by
        obtain ⟨i, hi⟩ := List.mem_iff_getElem?.1 hf
        have hi' : fs[i]? = some f := by simpa using hi
        have := h3 i f hi'
        have hlt := (List.getElem?_eq_some_iff.1 hi).1
        refine ⟨k, xs[i]'(by rw [h2]; simpa using hlt), ?_⟩
        rw [this]; simp) (by rw [h1, k2]; omega)
      simpa using this
    · cases hs
def ArgP (P : Program) (n : Nat) (t : TypeId) (p : PV) : Prop := match P.underlying t with
  | some (.struct _) | some (.array _ _) => ∃ ps, p = .agg ps ∧ Typ P n t ps
  | _ => Typ P n t [p]
theorem read_arg (hl : laidOutB P = true) {n : Nat} {t : TypeId} {v : Value} {d : DataW H} {pl : List MemPlace} {base : Nat} (ht : t < P.types.size) (hs : sup P n t = true) (hok : Value.okWide P w .any base t v) (h : DataW.Trod enc P w 0 spare held t v d pl) :
    ∃ p, ArgP P n t p ∧ Rep w (there w) Γ v p := by
  obtain ⟨fuel, h⟩ := h
  obtain ⟨ps, h1, h2⟩ := read_row (Γ := Γ) hl n t _ ht hs ⟨fuel, _, h⟩
  unfold ArgP
  unfold Value.okWide at hok
  have agg : (∃ cs, v = .agg cs ∧ cs.size = P.cellsOf t ∧ Row.okWide P w .any base t cs) → ∃ p, (∃ ps, p = .agg ps ∧ Typ P n t ps) ∧ Rep w (there w) Γ v p := by
    rintro ⟨cs, rfl, _, _⟩
    refine ⟨.agg ps, ⟨ps, rfl, h1⟩, ?_⟩
    have := Rep.agg (w := w) (R := there w) (Γ := Γ) cs.toList ps h2.len (fun p hp => (h2.one p hp).1) fun i u p hu hp => h2.each i u p hu hp
    simpa using this
  split
  · rename_i hu
    rw [hu] at hok
    exact agg hok
  · rename_i hu
    rw [hu] at hok
    exact agg hok
  · rename_i hn1 hn2
    have one : v.cells.toList = [v] := by
      cases n with
      | zero => cases hs
      | succ n =>
        simp only [sup] at hs
        split at hs
        · rename_i hu
          obtain ⟨b, hc, _⟩ := DataW.trod_bool hu h
          cases v <;> simp_all [Value.cells, Cell.okWide, Cell.ok]
        · rename_i k hu
          obtain ⟨b, hc, _⟩ := DataW.trod_int hu h
          cases v <;> simp_all [Value.cells, Cell.okWide, Cell.ok]
        · rename_i hu
          obtain ⟨b, hc, _⟩ := DataW.trod_string hu h
          cases v <;> simp_all [Value.cells, Cell.okWide, Cell.ok]
        · rename_i e hu
          cases v <;> simp_all [Value.cells, Cell.okWide, Cell.ok]
        · rename_i m e hu
          exact absurd hu (hn2 m e)
        · rename_i fs hu
          exact absurd hu (hn1 fs)
        · cases hs
    rw [one] at h2
    obtain ⟨p, rfl⟩ : ∃ p, ps = [p] := by
      have := h2.len
      match ps, this with
      | [p], _ => exact ⟨p, rfl⟩
    exact ⟨p, h1, h2.each 0 v p rfl rfl⟩
theorem read_args (hl : laidOutB P = true) {n : Nat} {base : Nat} : ∀ {ts : List TypeId} {vs : List Value} {ds : List (DataW H)} {pl : List MemPlace}, (∀ t ∈ ts, t < P.types.size ∧ sup P n t = true) →
    (∀ (j : Nat) t v, ts[j]? = some t → vs[j]? = some v → Value.okWide P w .any base t v) → DataW.TrodAll enc P w 0 spare held ts vs ds pl →
    ∃ args : List PV, vs.length = args.length ∧ ts.length = args.length ∧ (∀ (j : Nat) t p, ts[j]? = some t → args[j]? = some p → ArgP P n t p) ∧ ∀ (i : Nat) (u : Value) (p : PV), vs[i]? = some u → args[i]? = some p → Rep w (there w) Γ u p
  | [], vs, ds, pl, _, _, h => by
    obtain ⟨rfl, rfl, rfl⟩ := trodAll_nil h
    exact ⟨[], rfl, rfl, fun j t p hj => by simp at hj, fun i u p hu => by simp at hu⟩
  | t :: ts, vs, ds, pl, h1, h2, h => by
    obtain ⟨v, vs, d, ds, p, q, rfl, rfl, rfl, g1, g2⟩ := trodAll_cons h
    obtain ⟨args, k1, k2, k3, k4⟩ := read_args hl (fun t ht => h1 t (List.mem_cons_of_mem _ ht)) (fun j t v ht hv => h2 (j + 1) t v (by simpa using ht) (by simpa using hv)) g2
    obtain ⟨ht, hs⟩ := h1 t List.mem_cons_self
    obtain ⟨a, k5, k6⟩ := read_arg (Γ := Γ) hl ht hs (h2 0 t v rfl rfl) g1
    refine ⟨a :: args, by simp [k1], by simp [k2], fun j t p ht hp => ?_, fun i u p hu hp => ?_⟩
    · cases j with
      | zero =>
        obtain rfl := Option.some.inj ht
        obtain rfl := Option.some.inj hp
        exact k5
      | succ j => exact k3 j t p (by simpa using ht) (by simpa using hp)
    · cases i with
      | zero =>
        obtain rfl := Option.some.inj hu
        obtain rfl := Option.some.inj hp
        exact k6
      | succ i => exact k4 i u p (by simpa using hu) (by simpa using hp)
theorem again_args (hl : laidOutB P = true) {w' : World} (hb : Below w.heap.size w w') : ∀ {ts : List TypeId} {vs : List Value} {ds : List (DataW H)} {pl : List MemPlace}, (∀ t ∈ ts, t < P.types.size ∧ P.readableRec t = true) → (∀ x ∈ pl, x.block < w.heap.size) →
    DataW.TrodAll enc P w 0 (fun _ => true) true ts vs ds pl → DataW.TrodAll enc P w' 0 (fun b => decide (b < w.heap.size)) true ts vs ds pl
  | [], vs, ds, pl, _, _, h => by
    obtain ⟨rfl, rfl, rfl⟩ := trodAll_nil h
    exact trodAll_mk0
  | t :: ts, vs, ds, pl, h1, h2, h => by
    obtain ⟨v, vs, d, ds, p, q, rfl, rfl, rfl, g1, g2⟩ := trodAll_cons h
    obtain ⟨ht, hr⟩ := h1 t List.mem_cons_self
    exact trodAll_cons_mk (Go.RowKit.Below.trod hl hr ht g1 hb fun x hx => h2 x (List.mem_append_left _ hx)) (again_args hl hb (fun t ht => h1 t (List.mem_cons_of_mem _ ht)) (fun x hx => h2 x (List.mem_append_right _ hx)) g2)
theorem law_calls {f : FuncId} {args : List PV} {vs : Array Value} (hT : tabOk (· < w.heap.size) w) (h : Spec P f args (.v (.bool true))) (hl : vs.toList.length = args.length) (hv : ∀ (i : Nat) (u : Value) (p : PV), vs.toList[i]? = some u → args[i]? = some p → Rep w (there w) (fun _ => none) u p) :
    Calls P f vs w fun e w' => e = .returned (.bool true) ∧ Below w.heap.size w w' := by
  have hb : ∀ b o, there w b o → b < w.heap.size := fun b o ⟨v, hv⟩ => by
    unfold World.cell? at hv
    split at hv
    · rename_i hh
      exact (Array.getElem?_eq_some_iff.1 hh).1
    · cases hv
  have hsim : Sim 0 ⟨(· < w.heap.size), w, there w, fun _ => none, 0, []⟩ (there w) (fun _ => none) noAct w [] :=
    ⟨rfl, Nat.le_refl _, fun t p h => by simp at h, fun i j l m b h => (by cases h), fun i l h => (by cases h), hb, fun b o h => .inl h, Kept.refl _ _, ⟨fun b h => h, hT⟩, Nat.le_refl _, fun j l _ h => (by cases h), rfl⟩
  have h1 := h.2 w vs.toList (there w) (fun _ => none) (· < w.heap.size) hb hsim hl hv
  refine (show Calls P f vs w _ from by simpa using h1).mono ?_
  rintro e w' ⟨R', Γ', ⟨v, r, H, rfl, hq, hr, hs, _⟩ | ⟨v, p, H, _, hq, _⟩⟩
  · injection hq with hq1 hq2
    subst hq1
    refine ⟨?_, hs.kept.below⟩
    cases hr
    rfl
  · cases hq
theorem law_lifted {C : Checked} {os : Os} {f : FuncId} {fn : Func} {s : ChangeSpec} {conds : List PathCond} (n : Nat) {tb : TypeId} {laid : List (String × DataW Unit)} (htab : ∀ W : World, W.ShapedOpen C.prog → laidMet C.prog laid W → tabOk (· < W.heap.size) W)
    (own : ownKnob C.prog.godebug = none) (started : os.Started) (noInit : C.prog.inits.idxOf? f = none) (hfn : C.prog.funcs[f]? = some fn)
    (witness : ∃ (w : World) (tape : Tape) (i : Input), w.os = os ∧ (w.forCall tape i).Shaped C.prog ∧ i.vars = [] ∧ Input.okWide C.prog (w.forCall tape i) .any w.heap.size f i ∧
      ((s.pre enc C.prog fn conds false (w.forCall tape i).memory i.args ∧ laidMet C.prog laid (w.forCall tape i).memory) ∧ sizedMet enc C.prog fn (OpenSpec.ofChange s) false (w.forCall tape i).memory i.args) ∧ ({} : Assume).holds C.prog (lone (Frame.enter C.prog f i.args .normal) [] (w.forCall tape i)))
    (hl : laidOutB C.prog = true) (hvars : s.vars = []) (hts : (fn.params.toList.all fun t => decide (t < C.prog.types.size) && sup C.prog n t && C.prog.readableRec t) = true) (hres : fn.resultTypes = #[tb]) (htb : C.prog.underlying tb = some .bool)
    (hs : ∀ ds : List (DataW H), ds.length = fn.params.size → (s.fn H ds).results = [.lit (.bool true)] ∧ (s.fn H ds).args = ds ∧ (s.fn H ds).vars = [])
    (spec : ∀ args : List PV, fn.params.toList.length = args.length → (∀ (j : Nat) t p, fn.params.toList[j]? = some t → args[j]? = some p → ArgP C.prog n t p) → Spec C.prog f args (.v (.bool true))) :
    ReturnsInHanded {} C os f .any (fun w args => (s.pre enc C.prog fn conds false w args ∧ laidMet C.prog laid w) ∧ sizedMet enc C.prog fn (OpenSpec.ofChange s) false w args) (s.post enc C.prog fn false true false false) := by
  refine returnsInHanded_of_calls own started noInit witness ?_
  intro w tape i _ hsh _ hok hpre _
  obtain ⟨_, _, _, fn', hfn', _, _, _, _, hval⟩ := hok
  obtain rfl : fn = fn' := Option.some.inj (hfn.symm.trans hfn')
  obtain ⟨⟨⟨ds, gs, before, hw, _⟩, hx⟩, _⟩ := hpre
  have hW := DataW.Whole.of_heap (w' := w.forCall tape i) (by rfl) hw
  have hL : laidMet C.prog laid (w.forCall tape i) := hx.of_heap (by rfl)
  clear hw hx
  suffices h : Calls C.prog f i.args (w.forCall tape i) fun e W' => ∃ v, e = .returned v ∧ s.post enc C.prog fn false true false false (w.forCall tape i) i.args v W' from h.mono fun e W' ⟨v, he, hp⟩ => by
    subst he
    exact ChangeSpec.post_blind hp
  generalize w.forCall tape i = W at *
  generalize i.args = args at *
  have hW' := hW
  obtain ⟨p, q, hA, hV, rfl, _, _⟩ := hW
  rw [hvars] at hV
  obtain ⟨rfl, rfl⟩ := trodVars_none hV
  have ht : ∀ t ∈ fn.params.toList, (t < C.prog.types.size ∧ sup C.prog n t = true) ∧ C.prog.readableRec t = true := fun t ht => by
    have := List.all_eq_true.1 hts t ht
    simpa only [Bool.and_eq_true, decide_eq_true_eq] using this
  obtain ⟨avs, k1, k2, k3, k4⟩ := read_args (Γ := fun _ => none) hl (fun t h => (ht t h).1) (fun j t v h1 h2 => hval j t v (by simpa using h1) (by simpa using h2)) hA
  have hlen : ds.length = fn.params.size := by
    have key : ∀ (ts : List TypeId) (vs : List Value) (ds : List (DataW H)) (ps : List MemPlace), DataW.TrodAll enc C.prog W 0 (fun _ => true) true ts vs ds ps → ds.length = ts.length := by
      intro ts
      induction ts with
      | nil => intro vs ds ps h; obtain ⟨_, rfl, _⟩ := trodAll_nil h; rfl
      | cons t ts ih =>
        intro vs ds ps h
        obtain ⟨v, vs, d, ds, a, b, rfl, rfl, rfl, _, h2⟩ := trodAll_cons h
        simp [ih _ _ _ h2]
    have := key _ _ _ _ hA
    simpa using this
  obtain ⟨s1, s2, s3⟩ := hs ds hlen
  refine (law_calls (htab W hsh hL) (spec avs k2 k3) k1 k4).mono fun e W' ⟨he, bel⟩ => ⟨_, he, ds, [], p ++ [], [], p, [], hW', ?_, ?_, ?_, bel.frame _, fun h => (by cases h)⟩
  · rw [List.append_nil, s1, hres]
    exact trodAll_mk1 (shut_bool htb _)
  · rw [List.append_nil, s2]
    exact again_args hl bel (fun t h => ⟨(ht t h).1.1, (ht t h).2⟩) (fun x hx => by simpa using hW'.lt x (by simpa using hx)) hA
  · rw [hvars, List.append_nil, s3]; rfl
end
end Go.Qg


namespace Go.Qg
open Go.RowKit (Below)
section
variable {P : Program} {N M M' : Nat} {B B0 : Base} {a a' : Act} {w w' : World} {R R00 : Nat → Nat → Prop} {Γ : Nat → Option Loc} {fr : PF} {Q : Unit → PX → PF → Prop} {κ : List Nat} {l D : Nat} {rec : LoopState → Option Code → Loop} {V : Nat → PF}
theorem XW_rangeI (hN : 0 < N) (hmx : P.follows .mixedOrders = true) {g : Operand} {t : Tmp} {assign body : Code} {gf : FuncId} {caps els : List PV} (hg : rd fr g = .clo (.func gf) [] caps) (hcaps : plainL caps = true) (hgen : GenW P gf caps els) (hels : ∀ p ∈ els, p.plain = true ∧ p.flat = true)
    (hda : dstsIn N assign = true) (hdb : dstsIn N body = true) (M' : Nat) (hM' : N ≤ M') (κ : List Nat) (hκ : κ.Nodup) (V : Nat → PF) (A : Nat → List PV) (H : Nat → PF) (h0 : less B0.lo fr (V 0))
    (hview : ∀ n, n < els.length → V n ≠ [] → (A n).length = N ∧ outF (V n) (tgtAt (H n) κ fun _ => false) 8 (H n) κ ∧ ∀ i, i < N → i ≠ t → vw (V n) (tgtAt (H n) κ fun _ => false) 8 ((A n).getD i .undef) (rd (V n) (.tmp i)))
    (hround : ∀ n p, els[n]? = some p → V n ≠ [] → pwp P M' assign (thenP (pwp P M' body (rend B0.lo M' κ (V n) (V (n + 1)) Q)) (fun _ _ => False)) (frame0 M' ((A n).set t p) (H n)))
    (hend : V els.length ≠ [] → Q () .normal (V els.length)) : XW P N (ECtx B0) () (.rangeFunc g #[t] assign body) Q fr := fun B a w hC ⟨R, Γ, hs⟩ => by
  have hlo := hC.1
  have hgv := hs.rd g
  rw [hg] at hgv
  generalize hu : a.eval g = u at hgv
  cases hgv with
  | clo _ uf uc _ _ l1 l2 _ r2 =>
  obtain rfl : uf = [] := by simpa using l1
  refine wr_range hu hgen.1 fun fn => ?_
  generalize hW1 : (w.alloc (.deferred (some []))).alloc (.loop (loopRec fn a #[t] assign body w.heap.size .ready none)) = W1
  have hbel : Below w.heap.size w W1 := by
    rw [← hW1]; exact (((Below.refl _ w).alloc (Nat.le_refl _) _).alloc (by simp) _)
  have hl1 : W1.heap[w.heap.size + 1]? = some (.loop (loopRec fn a #[t] assign body w.heap.size .ready none)) := by
    rw [← hW1]; have := World.alloc_heap_new (w.alloc (.deferred (some []))) (.loop (loopRec fn a #[t] assign body w.heap.size .ready none)); rwa [World.size_alloc] at this
  have hD1 : W1.heap[w.heap.size]? = some (.deferred (some [])) := by
    rw [← hW1]; exact (Below.heap_alloc _ _ _ (by simp)).trans (World.alloc_heap_new w _)
  have hw1 := weak_R hs (by rw [hlo]; exact h0)
  have hs1 := hw1.grown hbel _ (fun _ _ x => x) (fun _ _ x => .inl x)
  have hBl : ∀ b, B.Prot b → b < w.heap.size := fun b hb => Nat.lt_of_lt_of_le (hs.prot b hb) hs.kept.size
  have henv : Env P (w.heap.size + 1) els (fun b => (∃ o, R b o) ∨ isTab b) (LoopJ N B a (w.heap.size + 1) w.heap.size (loopRec fn a #[t] assign body w.heap.size) R V Q) := by
    refine ⟨fun b hb => .inr hb, fun s F W b hJ hb => ?_, fun s F W W' hJ hF hsz ho ht hou => ?_, fun p F W hJ => ?_, fun n F W v p Ra Γa hJ hel hv => ?_⟩
    · obtain ⟨R, Γ, fr, st, pe, k1, rfl, k3, k4, _⟩ := hJ
      exact foot_bnd k1 k3 k4 hb
    · obtain ⟨R, Γ, fr, st, pe, k1, rfl, k3, k4, k5⟩ := hJ
      exact ⟨R, Γ, fr, st, pe, foot_stay k1 hF hsz ho ht hou, rfl, (hF _ (.inr (.inr (.inr (.inl rfl))))).trans k3, (hF _ (.inr (.inr (.inr (.inr rfl))))).trans k4, k5⟩
    · obtain ⟨R, Γ, fr, st, pe, _, _, _, _, _, _, k7, k8, _⟩ := hJ
      exact ⟨k7, k8⟩
    · obtain ⟨R', Γ', fr', st, pe, k1, rfl, k3, k4, k5, k6, rfl, rfl, rfl⟩ := hJ
      have hlt := lt_of_get? hel
      have hV : V n ≠ [] := fun e => by have := k1.len; rw [e] at this; simp at this; omega
      obtain ⟨v1, v2, v3⟩ := hview n hlt hV
      have hy : (Instr.yield (w.heap.size + 1) #[v]).run P W = .ok (.round (w.heap.size + 1) fn (a.tmps.setIfInBounds t v) assign body) W := by
        have := run_yield (P := P) (args := #[v]) k3 rfl
        simpa [loopRec] using this
      refine ⟨_, _, _, _, hy, fun c cs => ?_⟩
      obtain ⟨e, W2, ⟨R2, Γ2, fr2, st2, pe2, q2, q3, q4, q5, q6, q7, q8, q9⟩, hsteps⟩ := round_sound (l := w.heap.size + 1) (D := w.heap.size) (R00 := R) hmx hda hdb hM' hκ (p := p) (v := v) (Q := Q) (next := V (n + 1)) k1 ⟨by simp, fun b hb => Nat.lt_succ_of_lt (hBl b hb)⟩ rfl k3 k4 (by omega) k6 k5 v2 v1 v3 (hels p (List.mem_of_getElem? hel)) hv (by rw [hlo]; exact hround n p hel hV) c cs
      refine ⟨e, W2, ⟨foot B R2 Γ2 (w.heap.size + 1) w.heap.size, ?_, q7, ⟨q8.os, q8.tape, q8.output, q8.size, fun x hx => by
        rcases hx.2 with h | ⟨o, ho⟩ | h
        · exact q8.block x ⟨hx.1, .inl h⟩
        · exact q8.block x ⟨hx.1, .inr ⟨o, k5 x o ho⟩⟩
        · exact (q2.kept.block x (k1.prot.isP h)).trans (k1.kept.block x (k1.prot.isP h)).symm⟩⟩, hsteps⟩
      cases e with
      | outgrown => exact q9.elim
      | panicked ch =>
        obtain ⟨pv, q, e1, e2, e3, e4, e5⟩ := q9
        exact ⟨pv, q, e1, e2, R2, Γ2, fr2, st2, pe2, q2, rfl, q3, q4, q5, q6, e3, e4, e5⟩
      | returned ret =>
        obtain ⟨b, e1, q9⟩ := q9
        refine ⟨b, e1, ?_⟩
        cases b with
        | true => exact ⟨R2, Γ2, fr2, st2, pe2, q2, rfl, q3, q4, q5, q6, q9⟩
        | false => exact ⟨R2, Γ2, fr2, st2, pe2, q2, rfl, q3, q4, q5, q6, q9⟩
  have hJ0 : LoopJ N B a (w.heap.size + 1) w.heap.size (loopRec fn a #[t] assign body w.heap.size) R V Q (.on 0) (foot B (freed R Γ (V 0)) (Γof Γ (V 0)) (w.heap.size + 1) w.heap.size) W1 := by
    refine ⟨_, _, V 0, .ready, none, hs1, rfl, hl1, hD1, fun b o hb => .inl hb, fun o ho => ?_, rfl, rfl, rfl⟩
    rcases ho with ho | ⟨s, m, _, hm, hmb⟩
    · have := hs.bnd _ o ho; omega
    · have := ((hs.own s m hm).2 _ hmb).2.1; omega
  have after : ∀ {R' : Nat → Nat → Prop} {Γ' : Nat → Option Loc} {fr' : PF} {w' : World} {rc : Loop} (w2 : World), Sim N B R' Γ' a w' fr' → w'.heap[w.heap.size + 1]? = some (.loop rc) → w'.heap[w.heap.size]? = some (.deferred (some [])) → (w2 = w' ∨ ∃ rc', w2 = w'.putObj (w.heap.size + 1) (.loop rc')) →
      ∃ B', ECtx B0 () B' ∧ Sim N B' R' Γ' { a with defers := { target := .collected w.heap.size, args := #[] } :: a.defers } w2 fr' := by
    intro R' Γ' fr' w' rc w2 k1 k3 k4 hw2
    obtain ⟨c1, c2, c3, c4, c5, ms, hms, hDs, hm⟩ := hC
    have hlt := (Array.getElem?_eq_some_iff.1 k3).1
    have z1 : ∀ k, k ≠ w.heap.size + 1 → w2.heap[k]? = w'.heap[k]? := fun k hk => by
      rcases hw2 with rfl | ⟨rc', rfl⟩
      · rfl
      · exact World.putObj_heap_other hk
    have z2 : w2.heap.size = w'.heap.size := by
      rcases hw2 with rfl | ⟨rc', rfl⟩
      · rfl
      · simp
    have z3 : w2.os = w'.os ∧ w2.tape = w'.tape ∧ w2.output = w'.output := by
      rcases hw2 with rfl | ⟨rc', rfl⟩ <;> exact ⟨rfl, rfl, rfl⟩
    have z4 : ∀ b o, w2.cell? ⟨b, o, none⟩ = w'.cell? ⟨b, o, none⟩ := fun b o => by
      rcases hw2 with rfl | ⟨rc', rfl⟩
      · rfl
      · exact cell_putObj k3 (by simp) (by simp)
    refine ⟨⟨fun b => B.Prot b ∨ b = w.heap.size, w2, R', B.Γ0, B.lo, { target := .collected w.heap.size, args := #[] } :: B.D⟩, ⟨c1, fun b hb => .inl (c2 b hb), ?_, fun b o hb => ?_, c5, w.heap.size :: ms, ?_, by rw [hDs]; rfl, fun r hr => ?_⟩, ?_⟩
    · refine (c3.trans (k1.kept.mono c2)).trans ⟨z3.1, z3.2.1, z3.2.2, Nat.le_of_eq z2.symm, fun k hk => z1 k fun e => ?_⟩
      have := hBl k (c2 k hk)
      omega
    · rcases k1.sub b o hb with h1 | h1
      · exact c4 b o h1
      · exact .inr fun hp => h1 (c2 b hp)
    · refine List.nodup_cons.2 ⟨fun hin => ?_, hms⟩
      have := hBl _ (hm _ hin).1
      omega
    · rcases List.mem_cons.1 hr with rfl | hr
      · refine ⟨.inr rfl, fun hp => ?_, (z1 _ (by omega)).trans k4⟩
        have := hBl _ (c2 _ hp)
        omega
      · obtain ⟨h1, h2, h3⟩ := hm r hr
        refine ⟨.inl h1, h2, ?_⟩
        have hrl := hBl r h1
        exact (z1 _ (by omega)).trans ((k1.kept.block r h1).trans h3)
    · refine k1.moved (fun b o _ => z4 b o) (fun i m b hi hb => z1 b fun e => k1.not_own k3 (by simp) (by simp) hi (e ▸ hb)) (Nat.le_of_eq z2.symm) (fun i m b hi hb hp => ?_) (fun b o hb => .inl hb) (Kept.refl _ _) (k1.prot.go (fun b hb => ?_) (fun b _ hb => .inl hb) fun b _ hb => (z1 b (by have := hBl b hb; omega)).trans (k1.kept.block b hb)) k1.lo k1.base rfl (by rw [k1.defers])
      · rcases hp with hp | rfl
        · exact ((k1.own i m hi).2 b hb).1 hp
        · exact k1.not_own k4 (by simp) (by simp) hi hb
      · rcases hb with hb | rfl
        · have := hBl b hb
          simp only
          have := k1.kept.size
          omega
        · simp only
          omega
  refine (hgen.2 W1 uc R (fun b => (∃ o, R b o) ∨ isTab b) (w.heap.size + 1) _ _ (fun b o hb => .inl ⟨o, hb⟩) (hs.prot.go (fun b hb => hb.elim (fun ⟨o, hb⟩ => Nat.lt_of_lt_of_le (hs.bnd b o hb) hbel.size) fun hb => Nat.lt_of_lt_of_le (hBl b (hs.prot.isP hb)) hbel.size) (fun b hb _ => .inr hb) fun b _ hb => (hbel.block b (hBl b hb)).trans (hs.kept.block b hb)) henv hJ0 l2 (fun i u p hu hp => ?_)).mono ?_
  · refine (r2 i u p hu hp).free (fun b o hb => ⟨hb, cell?_of_heap (hbel.block b (hs.bnd b o hb))⟩) ?_
    have := plainL_names hcaps
    refine List.eq_nil_iff_forall_not_mem.2 fun j hj => ?_
    have := mem_namesL.2 ⟨p, List.mem_of_getElem? hp, hj⟩
    rw [plainL_names hcaps] at this; cases this
  · intro e w' hgp
    cases e with
    | outgrown => exact hgp.elim
    | panicked ch =>
      obtain ⟨pv, q, F', rfl, hrep, R', Γ', fr', st, pe, k1, _, k3, k4, _, _, _, _, hQ⟩ := hgp
      obtain ⟨B', hC', hs2⟩ := after w' k1 k3 k4 (.inl rfl)
      exact ⟨(), B', hC', R', Γ', _, .panic q, hs2, ⟨pv, rfl, hrep _ _ _⟩, hQ⟩
    | returned rv =>
    obtain ⟨s, F', hs', R', Γ', fr', st, pe, k1, _, k3, k4, _, _, hm⟩ := hgp
    refine ⟨st, pe, k3, ?_⟩
    obtain ⟨B', hC', hs2⟩ := after (w'.putObj (w.heap.size + 1) (.loop (loopRec fn a #[t] assign body w.heap.size .exhausted pe))) k1 k3 k4 (.inr ⟨_, rfl⟩)
    rcases hs' with rfl | rfl
    · obtain ⟨rfl, rfl, rfl⟩ := hm
      exact ⟨by simp, (), B', hC', R', Γ', _, .normal, hs2, trivial, hend fun e => by have := k1.len; rw [e] at this; simp at this; omega⟩
    · obtain ⟨rfl, c, x, rfl, hjx, hQ⟩ := hm
      refine ⟨by simp, ?_⟩
      cases c with
      | ret => cases x with
        | ret => exact ⟨(), B', hC', R', Γ', _, .ret, hs2, trivial, hQ⟩
        | _ => exact hjx.elim
      | exit id => cases x with
        | exit id' => exact ⟨(), B', hC', R', Γ', _, .exit id', hs2, hjx, hQ⟩
        | _ => exact hjx.elim
      | _ => cases x <;> exact hjx.elim
end
end Go.Qg


namespace Go.Qg
open Go.RowKit (Below)
def dmidE (P : Program) (N M k : Nat) (rs : List ResultVar) (c : Code) (x : Operand) (Q : Out → Prop) (fr : PF) : Prop :=
  ∃ gf ps caps M' news H A, rd fr x = .clo (.func gf) [] ps ∧ N ≤ M' ∧ ((List.range k).map (M + ·) ++ news).Nodup ∧ A.length = N ∧
    outF fr (tgtAt H ((List.range k).map (M + ·) ++ news) fun _ => false) 8 H ((List.range k).map (M + ·) ++ news) ∧
    (∀ i, i < N → vw fr (tgtAt H ((List.range k).map (M + ·) ++ news) fun _ => false) 8 (A.getD i .undef) (rd fr (.tmp i))) ∧
    vwAll (vw fr (tgtAt H ((List.range k).map (M + ·) ++ news) fun _ => false) 8) caps ps ∧ (∀ p ∈ caps, p.flat = true) ∧
    ∀ B0 : Base, B0.lo = M' → XW P N (ECtx B0) () c (fun _ => dpost P M' k rs gf caps Q) (frame0 M' A H)
section
variable {P : Program} {N M M' : Nat} {B : Base} {a a' : Act} {w w' : World} {R : Nat → Nat → Prop} {Γ : Nat → Option Loc} {fr : PF}
end
end Go.Qg



namespace Go.Qg
theorem pop_callF {P : Program} {M : Nat} {K : PF → Prop} {Kp : PV → PF → Prop} {o : Oper} {fr : PF} {c : Call} {f : FuncId} {ps qs : List PV} {H : PF} {Q : Out → Prop} (V : List (Nat × PV)) (hg : less M fr (apply V fr)) (h : CallW P f qs H Q) (hp : pcallee P (apply V fr) c = some (f, ps)) (ι : List Nat) (md : Bool) (hι : ι.Nodup)
    (ho : outF (apply V fr) (lentTgt H ι md) 8 H ι) (ha : argsOk (apply V fr) (lentTgt H ι md) qs ps)
    (hk : ∀ out, Q out → match out with
      | .ret r H2 => ∃ news, backOk (apply V fr) ι news H2 ∧ (md = false ∨ (flatL H2 && r.flat) = true) ∧ pclear o.dst (backV (ι ++ news) r) (back (apply V fr) (ι ++ news) H2) = true ∧ K (put o.dst (backV (ι ++ news) r) (back (apply V fr) (ι ++ news) H2))
      | .pan p H2 => ∃ news, backOk (apply V fr) ι news H2 ∧ (md = false ∨ (flatL H2 && p.flat) = true) ∧ Kp (backV (ι ++ news) p) (back (apply V fr) (ι ++ news) H2)) : popCall P M K Kp o c fr :=
  pop_callG (apply V fr) hg h hp ι md hι ho ha hk
theorem pop_specF {P : Program} {M : Nat} {K : PF → Prop} {Kp : PV → PF → Prop} {o : Oper} {fr : PF} {c : Call} {f : FuncId} {ps qs : List PV} {r : PV} (V : List (Nat × PV)) (hg : less M fr (apply V fr)) (h : Spec P f qs r) (hp : pcallee P (apply V fr) c = some (f, ps)) (md : Bool) (ha : argsOk (apply V fr) (lentTgt [] [] md) qs ps) (hfl : md = false ∨ r.flat = true)
    (hn : r.names = []) (hcl : pclear o.dst r (apply V fr) = true) (hK : K (put o.dst r (apply V fr))) : popCall P M K Kp o c fr :=
  pop_specG (apply V fr) hg h hp md ha hfl hn hcl hK
def keysI (d : List Int) : List PV := d.map fun x => .v (.int .i64 x)
@[simp] theorem keysI_length (d : List Int) : (keysI d).length = d.length := by simp [keysI]
@[simp] theorem keysI_nil : keysI [] = [] := rfl
theorem keysI_plain (d : List Int) : plainL (keysI d) = true := by
  induction d with
  | nil => rfl
  | cons x d ih => simpa [keysI, plainL, PV.plain] using ih
@[simp] theorem keysI_names (d : List Int) : namesL (keysI d) = [] := plainL_names (keysI_plain d)
@[simp] theorem keysI_ren (π : Nat → Nat) (d : List Int) : renL π (keysI d) = keysI d := renL_plain (keysI_plain d)
@[simp] theorem keysI_vw (f : PF) (T : Tgt) (e : Nat) (d : List Int) : vwAll (vw f T e) (keysI d) (keysI d) = True := eq_true (vwAll_plain (keysI_plain d))
@[simp] theorem keysI_flat (d : List Int) : flatL (keysI d) = true := by
  induction d with
  | nil => rfl
  | cons x d ih => simpa [keysI, flatL, PV.flat] using ih
def dfind (d : List Int) (x : Int) : Nat → Option Nat := fun j => match d with
  | [] => none
  | y :: d => if x == y then some j else dfind d x (j + 1)
theorem pkfind_ints {P : Program} {t : TypeId} (ht : (tint P t).isSome = true) (d : List Int) (x : Int) : ∀ j, pkfind P t (.v (.int .i64 x)) (keysI d) j = some (dfind d x j) := by
  induction d with
  | nil => intro j; rfl
  | cons y d ih =>
    intro j
    have e : keysI (y :: d) = .v (.int .i64 y) :: keysI d := rfl
    rw [e]
    simp only [pkfind, pkeyEq, ht, and_self, if_true, dfind]
    by_cases h : x == y
    · simp [h]
    · simp only [h, if_false]
      exact ih (j + 1)
theorem dfind_some {d : List Int} {x : Int} : ∀ {j i : Nat}, dfind d x j = some i → j ≤ i ∧ i - j < d.length ∧ d[i - j]? = some x := by
  induction d with
  | nil => intro j i h; cases h
  | cons y d ih =>
    intro j i h
    simp only [dfind] at h
    split at h
    · rename_i hxy
      obtain rfl := Option.some.inj h
      simp at hxy
      simp [hxy]
    · obtain ⟨h1, h2, h3⟩ := ih h
      refine ⟨by omega, by simp; omega, ?_⟩
      rw [show i - j = (i - (j + 1)) + 1 from by omega, List.getElem?_cons_succ]; exact h3
theorem keysI_set {d : List Int} {x : Int} {i : Nat} (h : dfind d x 0 = some i) : (keysI d).set i (.v (.int .i64 x)) = keysI d := by
  obtain ⟨_, h2, h3⟩ := dfind_some h
  refine List.ext_getElem? fun j => ?_
  rw [List.getElem?_set]
  split
  · rename_i hij; subst hij
    have h3 : d[i]? = some x := by simpa using h3
    have h2 : i < d.length := by simpa using h2
    simp [keysI, h2, h3]
    have := List.getElem?_eq_getElem h2
    rw [this] at h3
    exact (Option.some.inj h3).symm
  · rfl
theorem keysI_snoc (d : List Int) (x : Int) : keysI d ++ [.v (.int .i64 x)] = keysI (d ++ [x]) := by simp [keysI]
end Go.Qg


namespace Go.Qg
set_option maxRecDepth 100000
@[simp] theorem wrap_0 : IntKind.i64.wrap 0 = 0 := i64_wrap (by omega)
@[simp] theorem wrap_1 : IntKind.i64.wrap 1 = 1 := i64_wrap (by omega)
@[simp] theorem wrap_2 : IntKind.i64.wrap 2 = 2 := i64_wrap (by omega)
@[simp] theorem wrap_3 : IntKind.i64.wrap 3 = 3 := i64_wrap (by omega)
@[simp] theorem wrap_m1 : IntKind.i64.wrap (-1) = -1 := i64_wrap (by omega)
def geti (l : List Int) (i : Nat) : Int := l.getD i 0
def ints (l : List Int) : PV := .sl 1 l.length fun i => [.v (.int .i64 (geti l i))]
def allN (n : Nat) (p : Nat → Bool) : Bool := (List.range n).all p
theorem allN_spec {n : Nat} {p : Nat → Bool} : allN n p = true ↔ ∀ k, k < n → p k = true := by simp [allN]
theorem allN_false {n k : Nat} {p : Nat → Bool} (hk : k < n) (h : p k = false) : allN n p = false := by
  cases he : allN n p with
  | false => rfl
  | true => rw [allN_spec.1 he k hk] at h; cases h
def rowsI (l : List Int) : List (List PV) := l.map fun x => [.v (.int .i64 x)]
@[simp] theorem rowsI_length (l : List Int) : (rowsI l).length = l.length := by simp [rowsI]
@[simp] theorem renLL_rowsI (π : Nat → Nat) (l : List Int) : renLL π (rowsI l) = rowsI l := by
  induction l with
  | nil => rfl
  | cons x l ih => simpa [rowsI, renLL, renL, PV.ren] using ih
@[simp] theorem namesLL_rowsI (l : List Int) : namesLL (rowsI l) = [] := by
  induction l with
  | nil => rfl
  | cons x l ih => simpa [rowsI, namesLL, namesL, PV.names] using ih
@[simp] theorem flatLL_rowsI (l : List Int) : flatLL (rowsI l) = true := by
  induction l with
  | nil => rfl
  | cons x l ih => simpa [rowsI, flatLL, flatL, PV.flat] using ih
@[simp] theorem vwAllL_rowsI (f : PF) (T : Tgt) (d : Nat) (a b : List Int) : vo.vwAllL f T (d + 1) (rowsI a) (rowsI b) = (a = b) := by
  induction a generalizing b with
  | nil => cases b <;> simp [rowsI, vo.vwAllL]
  | cons x a ih =>
    cases b with
    | nil => simp [rowsI, vo.vwAllL]
    | cons y b =>
      have := ih b
      simp only [rowsI] at this
      simp [rowsI, vo.vwAllL, this]
@[simp] theorem rowsI_take (l : List Int) (k : Nat) : (rowsI l).take k = rowsI (l.take k) := by simp [rowsI]
@[simp] theorem rowsI_mem {l : List Int} {r : List PV} : r ∈ rowsI l ↔ ∃ x, x ∈ l ∧ [.v (.int .i64 x)] = r := by simp [rowsI]
@[simp] theorem rowsI_nil : rowsI [] = [] := rfl
theorem rowsI_snoc (l : List Int) (x : Int) : rowsI l ++ [[.v (.int .i64 x)]] = rowsI (l ++ [x]) := by simp [rowsI]
theorem rowsI_get {l : List Int} {k : Nat} (h : k < l.length) : (rowsI l)[k]? = some [.v (.int .i64 (geti l k))] := by simp [rowsI, geti, h]
@[simp] theorem rowsI_getElem {l : List Int} {k : Nat} (h : k < (rowsI l).length) : (rowsI l)[k] = [.v (.int .i64 (geti l k))] := by
  have h2 : k < l.length := by simpa using h
  simp [rowsI, geti, h2]
theorem rowsI_set (l : List Int) (k : Nat) (x : Int) : (rowsI l).set k [.v (.int .i64 x)] = rowsI (l.set k x) := by simp [rowsI, List.map_set]
theorem geti_set {l : List Int} {i k : Nat} {x : Int} (h : i < l.length) : geti (l.set k x) i = if k = i then x else geti l i := by
  unfold geti
  rw [List.getD_eq_getElem?_getD, List.getElem?_set]
  split
  · rename_i h1; subst h1; simp [h]
  · rw [List.getD_eq_getElem?_getD]
def getb (l : List Bool) (i : Nat) : Bool := l.getD i false
def bools (l : List Bool) : PV := .sl 1 l.length fun i => [.v (.bool (getb l i))]
def rowsB (l : List Bool) : List (List PV) := l.map fun x => [.v (.bool x)]
@[simp] theorem rowsB_length (l : List Bool) : (rowsB l).length = l.length := by simp [rowsB]
@[simp] theorem renLL_rowsB (π : Nat → Nat) (l : List Bool) : renLL π (rowsB l) = rowsB l := by
  induction l with
  | nil => rfl
  | cons x l ih => simpa [rowsB, renLL, renL, PV.ren] using ih
@[simp] theorem namesLL_rowsB (l : List Bool) : namesLL (rowsB l) = [] := by
  induction l with
  | nil => rfl
  | cons x l ih => simpa [rowsB, namesLL, namesL, PV.names] using ih
@[simp] theorem flatLL_rowsB (l : List Bool) : flatLL (rowsB l) = true := by
  induction l with
  | nil => rfl
  | cons x l ih => simpa [rowsB, flatLL, flatL, PV.flat] using ih
@[simp] theorem vwAllL_rowsB (f : PF) (T : Tgt) (d : Nat) (a b : List Bool) : vo.vwAllL f T (d + 1) (rowsB a) (rowsB b) = (a = b) := by
  induction a generalizing b with
  | nil => cases b <;> simp [rowsB, vo.vwAllL]
  | cons x a ih =>
    cases b with
    | nil => simp [rowsB, vo.vwAllL]
    | cons y b =>
      have := ih b
      simp only [rowsB] at this
      simp [rowsB, vo.vwAllL, this]
@[simp] theorem rowsB_take (l : List Bool) (k : Nat) : (rowsB l).take k = rowsB (l.take k) := by simp [rowsB]
@[simp] theorem rowsB_one {l : List Bool} : (∀ (x : List PV), x ∈ rowsB l → ∀ (y : PV), y ∈ x → y.one = true) ↔ True := by
  refine ⟨fun _ => trivial, fun _ x hx y hy => ?_⟩
  obtain ⟨b, _, rfl⟩ := List.mem_map.1 hx
  obtain rfl := List.mem_singleton.1 hy
  rfl
@[simp] theorem rowsB_len1 {l : List Bool} : (∀ (x : List PV), x ∈ rowsB l → x.length = 1) ↔ True := by
  refine ⟨fun _ => trivial, fun _ x hx => ?_⟩
  obtain ⟨b, _, rfl⟩ := List.mem_map.1 hx
  rfl
theorem rowsB_get {l : List Bool} {k : Nat} (h : k < l.length) : (rowsB l)[k]? = some [.v (.bool (getb l k))] := by simp [rowsB, getb, h]
@[simp] theorem rowsB_getElem {l : List Bool} {k : Nat} (h : k < (rowsB l).length) : (rowsB l)[k] = [.v (.bool (getb l k))] := by
  have h2 : k < l.length := by simpa using h
  simp [rowsB, getb, h2]
theorem rowsB_range (l : List Bool) : (List.range l.length).map (fun i => [PV.v (.bool (getb l i))]) = rowsB l := by
  refine List.ext_getElem? fun i => ?_
  rw [List.getElem?_map]
  by_cases hi : i < l.length
  · rw [List.getElem?_range hi, rowsB_get hi]; rfl
  · rw [List.getElem?_eq_none (by simpa using hi), List.getElem?_eq_none (by simpa using hi)]; rfl
def inB (x lo hi : Int) : Bool := decide (lo ≤ x) && decide (x ≤ hi)
theorem inB_spec {x lo hi : Int} : inB x lo hi = true ↔ lo ≤ x ∧ x ≤ hi := by simp [inB]
end Go.Qg


namespace Go.Qg
set_option maxRecDepth 100000
def sumN (f : Nat → Int) : Nat → Int
  | 0 => 0
  | n + 1 => sumN f n + f n
theorem sumN_congr {f g : Nat → Int} : ∀ {n : Nat}, (∀ i, i < n → f i = g i) → sumN f n = sumN g n
  | 0, _ => rfl
  | n + 1, h => by simp only [sumN, sumN_congr (n := n) fun i hi => h i (by omega), h n (by omega)]
structure Spn where
  low : Int
  high : Int
  deriving DecidableEq, Inhabited
structure Stn where
  arm : Int
  most : Int
  deriving DecidableEq, Inhabited
structure Cnr where
  weight : Int
  moment : Int
  deriving DecidableEq, Inhabited
structure Itm where
  station : Int
  low : Int
  high : Int
  deriving DecidableEq, Inhabited
structure Pln where
  empty : Int
  moment : Int
  takeoff : Int
  landing : Int
  corners : List Cnr
  stations : List Stn
  tank : Stn
  reserve : Int
  floats : List Stn
structure Pnt where
  items : List Itm
  tank : Spn
  water : List Spn
  landing : Bool
structure Cse where
  items : List Int
  tank : Int
  water : List Int
def spnAt (l : List Spn) (i : Nat) : Spn := l.getD i default
def stnAt (l : List Stn) (i : Nat) : Stn := l.getD i default
def cnrAt (l : List Cnr) (i : Nat) : Cnr := l.getD i default
def itmAt (l : List Itm) (i : Nat) : Itm := l.getD i default
def Pln.cA (P : Pln) (e : Nat) : Cnr := cnrAt P.corners e
def Pln.cB (P : Pln) (e : Nat) : Cnr := cnrAt P.corners ((e + 1) % P.corners.length)
def Pln.dw (P : Pln) (e : Nat) : Int := (P.cB e).weight - (P.cA e).weight
def Pln.dm (P : Pln) (e : Nat) : Int := (P.cB e).moment - (P.cA e).moment
def Pln.side (P : Pln) (e : Nat) (w m : Int) : Int := P.dw e * (m - (P.cA e).moment) - P.dm e * (w - (P.cA e).weight)
def Pln.slope (P : Pln) (e : Nat) (arm : Int) : Int := P.dw e * arm - P.dm e
def StnOk (s : Stn) : Prop := (-1000 ≤ s.arm ∧ s.arm ≤ 1000) ∧ 0 ≤ s.most ∧ s.most ≤ 20000
structure PlnOk (P : Pln) : Prop where
  empty : 1 ≤ P.empty ∧ P.empty ≤ 20000
  moment : -20000000 ≤ P.moment ∧ P.moment ≤ 20000000
  takeoff : 0 ≤ P.takeoff ∧ P.takeoff ≤ 20000
  landing : 0 ≤ P.landing ∧ P.landing ≤ 20000
  reserve : 0 ≤ P.reserve ∧ P.reserve ≤ 20000
  n : 3 ≤ P.corners.length ∧ P.corners.length ≤ 12
  ns : P.stations.length ≤ 8
  nf : P.floats.length ≤ 2
  tank : StnOk P.tank
  station : ∀ i, i < P.stations.length → StnOk (stnAt P.stations i)
  float : ∀ i, i < P.floats.length → StnOk (stnAt P.floats i)
  corner : ∀ i, i < P.corners.length → (0 ≤ (cnrAt P.corners i).weight ∧ (cnrAt P.corners i).weight ≤ 20000) ∧ -20000000 ≤ (cnrAt P.corners i).moment ∧ (cnrAt P.corners i).moment ≤ 20000000
  convex : ∀ e, e < P.corners.length → ∀ k, k < P.corners.length → k ≠ e → k ≠ (e + 1) % P.corners.length → 0 < P.side e (cnrAt P.corners k).weight (cnrAt P.corners k).moment
structure PntOk (P : Pln) (X : Pnt) : Prop where
  n : X.items.length ≤ 12
  item : ∀ i, i < X.items.length → (0 ≤ (itmAt X.items i).station ∧ (itmAt X.items i).station < P.stations.length) ∧ 0 ≤ (itmAt X.items i).low ∧ (itmAt X.items i).low ≤ (itmAt X.items i).high ∧ (itmAt X.items i).high ≤ 20000
  tank : -120000 ≤ X.tank.low ∧ X.tank.low ≤ X.tank.high ∧ X.tank.high ≤ 140000
  nw : X.water.length = P.floats.length
  water : ∀ i, i < X.water.length → 0 ≤ (spnAt X.water i).low ∧ (spnAt X.water i).low ≤ (spnAt X.water i).high ∧ (spnAt X.water i).high ≤ 120000
def armI (P : Pln) (X : Pnt) (i : Nat) : Int := (stnAt P.stations (itmAt X.items i).station.toNat).arm
def armF (P : Pln) (i : Nat) : Int := (stnAt P.floats i).arm
def overB (P : Pln) (X : Pnt) (s : Nat) : Bool := decide ((stnAt P.stations s).most < sumN (fun i => if (itmAt X.items i).station = s then (itmAt X.items i).high else 0) X.items.length)
def fullB (P : Pln) (X : Pnt) : Bool := decide (P.tank.most < X.tank.high)
def wetB (P : Pln) (X : Pnt) (i : Nat) : Bool := decide ((stnAt P.floats i).most < (spnAt X.water i).high)
def limitP (P : Pln) (X : Pnt) : Int := if X.landing = true then P.landing else P.takeoff
def highW (P : Pln) (X : Pnt) : Int := P.empty + X.tank.high + sumN (fun i => (itmAt X.items i).high) X.items.length + sumN (fun i => (spnAt X.water i).high) X.water.length
def heavyB (P : Pln) (X : Pnt) : Bool := decide (limitP P X < highW P X)
def minS (s lo hi : Int) : Int := min (s * lo) (s * hi)
def maxS (s lo hi : Int) : Int := max (s * lo) (s * hi)
def leastE (P : Pln) (X : Pnt) (e : Nat) : Int := P.side e P.empty P.moment + sumN (fun i => minS (P.slope e (armI P X i)) (itmAt X.items i).low (itmAt X.items i).high) X.items.length + minS (P.slope e P.tank.arm) X.tank.low X.tank.high + sumN (fun i => minS (P.slope e (armF P i)) (spnAt X.water i).low (spnAt X.water i).high) X.water.length
def outB (P : Pln) (X : Pnt) (e : Nat) : Bool := decide (leastE P X e < 0)
def shortB (P : Pln) (X : Pnt) : Bool := X.landing && decide (X.tank.low < P.reserve)
def manyR (P : Pln) (r : Nat) : Nat := if r = 2 then P.stations.length else if r = 4 then P.floats.length else if r = 6 then P.corners.length else 1
def canB (P : Pln) (X : Pnt) (r i : Nat) : Bool :=
  if r = 2 then overB P X i else if r = 3 then fullB P X else if r = 4 then wetB P X i else if r = 5 then heavyB P X else if r = 6 then outB P X i else shortB P X
def pickS (b : Bool) (lo hi : Int) : Int := if b = true then hi else lo
def worstI (P : Pln) (X : Pnt) (r i j : Nat) : Bool := if r = 2 then decide ((itmAt X.items j).station = i) else if r = 5 then true else if r = 6 then decide (P.slope i (armI P X j) < 0) else false
def worstT (P : Pln) (r i : Nat) : Bool := if r = 3 then true else if r = 5 then true else if r = 6 then decide (P.slope i P.tank.arm < 0) else false
def worstF (P : Pln) (r i j : Nat) : Bool := if r = 4 then decide (j = i) else if r = 5 then true else if r = 6 then decide (P.slope i (armF P j) < 0) else false
def worstC (P : Pln) (X : Pnt) (r i : Nat) : Cse :=
  ⟨(List.range X.items.length).map fun j => pickS (worstI P X r i j) (itmAt X.items j).low (itmAt X.items j).high, pickS (worstT P r i) X.tank.low X.tank.high, (List.range X.water.length).map fun j => pickS (worstF P r i j) (spnAt X.water j).low (spnAt X.water j).high⟩
def fstN (p : Nat → Bool) : Nat → Option Nat
  | 0 => none
  | n + 1 => match fstN p n with
    | some k => some k
    | none => if p n = true then some n else none
theorem fstN_none {p : Nat → Bool} : ∀ {n : Nat}, fstN p n = none ↔ ∀ k, k < n → p k = false
  | 0 => by simp [fstN]
  | n + 1 => by
    simp only [fstN]
    cases h : fstN p n with
    | some k =>
      refine ⟨fun h1 => (by cases h1), fun h1 => ?_⟩
      rw [fstN_none.2 fun k hk => h1 k (by omega)] at h; cases h
    | none =>
      have ih := fstN_none.1 h
      by_cases hp : p n = true
      · simp only [hp, if_true]
        refine ⟨fun h1 => (by cases h1), fun h1 => ?_⟩
        rw [h1 n (by omega)] at hp; cases hp
      · rw [if_neg hp]
        refine ⟨fun _ k hk => ?_, fun _ => rfl⟩
        rcases Nat.lt_or_eq_of_le (Nat.le_of_lt_succ hk) with h1 | rfl
        · exact ih k h1
        · simpa using hp
theorem fstN_some {p : Nat → Bool} {j : Nat} : ∀ {n : Nat}, fstN p n = some j ↔ j < n ∧ p j = true ∧ ∀ k, k < j → p k = false
  | 0 => by simp [fstN]
  | n + 1 => by
    simp only [fstN]
    cases h : fstN p n with
    | some k =>
      obtain ⟨h1, h2, h3⟩ := fstN_some.1 h
      simp only [Option.some.injEq]
      refine ⟨fun e => by subst e; exact ⟨by omega, h2, h3⟩, fun ⟨g1, g2, g3⟩ => ?_⟩
      rcases Nat.lt_trichotomy k j with h4 | h4 | h4
      · rw [g3 k h4] at h2; cases h2
      · exact h4
      · rw [h3 j h4] at g2; cases g2
    | none =>
      have ih := fstN_none.1 h
      by_cases hp : p n = true
      · simp only [hp, if_true, Option.some.injEq]
        refine ⟨fun e => by subst e; exact ⟨by omega, hp, ih⟩, fun ⟨g1, g2, g3⟩ => ?_⟩
        rcases Nat.lt_or_eq_of_le (Nat.le_of_lt_succ g1) with h1 | h1
        · rw [ih j h1] at g2; cases g2
        · exact h1.symm
      · rw [if_neg hp]
        refine ⟨fun h1 => (by cases h1), fun ⟨g1, g2, g3⟩ => ?_⟩
        rcases Nat.lt_or_eq_of_le (Nat.le_of_lt_succ g1) with h1 | h1
        · rw [ih j h1] at g2; cases g2
        · subst h1; exact absurd g2 hp
def brokenF (p : Nat → Nat → Bool) (many : Nat → Nat) : Nat → Nat → Nat × Nat
  | 0, _ => (1, 0)
  | c + 1, r => match fstN (p r) (many r) with
    | some i => (r, i)
    | none => brokenF p many c (r + 1)
def brokenP (P : Pln) (X : Pnt) : Nat × Nat := brokenF (canB P X) (manyR P) 6 2
theorem brokenF_spec {p : Nat → Nat → Bool} {many : Nat → Nat} : ∀ (c r : Nat), (brokenF p many c r = (1, 0) ∧ ∀ q, r ≤ q → q < r + c → ∀ i, i < many q → p q i = false) ∨
    ∃ q i, brokenF p many c r = (q, i) ∧ (r ≤ q ∧ q < r + c) ∧ i < many q ∧ p q i = true ∧ (∀ k, k < i → p q k = false) ∧ ∀ s, r ≤ s → s < q → ∀ k, k < many s → p s k = false
  | 0, r => .inl ⟨rfl, fun q h1 h2 => by omega⟩
  | c + 1, r => by
    simp only [brokenF]
    cases h : fstN (p r) (many r) with
    | some i =>
      obtain ⟨h1, h2, h3⟩ := fstN_some.1 h
      exact .inr ⟨r, i, rfl, ⟨Nat.le_refl _, by omega⟩, h1, h2, h3, fun s h4 h5 => by omega⟩
    | none =>
      have h0 := fstN_none.1 h
      rcases brokenF_spec (p := p) (many := many) c (r + 1) with ⟨h1, h2⟩ | ⟨q, i, h1, h2, h3, h4, h5, h6⟩
      · refine .inl ⟨h1, fun q g1 g2 i hi => ?_⟩
        rcases Nat.lt_or_eq_of_le g1 with g | rfl
        · exact h2 q g (by omega) i hi
        · exact h0 i hi
      · refine .inr ⟨q, i, h1, ⟨by omega, by omega⟩, h3, h4, h5, fun s g1 g2 k hk => ?_⟩
        rcases Nat.lt_or_eq_of_le g1 with g | rfl
        · exact h6 s g g2 k hk
        · exact h0 k hk
def sureB (P : Pln) (X : Pnt) : Bool := decide ((brokenP P X).1 = 1)
theorem sure_iff {P : Pln} {X : Pnt} : sureB P X = true ↔ ∀ r, 2 ≤ r → r ≤ 7 → ∀ i, i < manyR P r → canB P X r i = false := by
  unfold sureB brokenP
  rw [decide_eq_true_eq]
  rcases brokenF_spec (p := canB P X) (many := manyR P) 6 2 with ⟨h1, h2⟩ | ⟨q, i, h1, h2, h3, h4, h5, h6⟩
  · rw [h1]
    exact ⟨fun _ r g1 g2 i hi => h2 r g1 (by omega) i hi, fun _ => rfl⟩
  · rw [h1]
    refine ⟨fun e => ?_, fun g => ?_⟩
    · simp only at e; omega
    · rw [g q (by omega) (by omega) i h3] at h4; cases h4
end Go.Qg


namespace Go.Qg
set_option maxRecDepth 100000
structure Leg where
  items : List Itm
  pump : Bool
  fuel : Int
  burn : Spn
  leak : Spn
  deriving Inhabited
def legAt (l : List Leg) (i : Nat) : Leg := l.getD i default
structure LegOk (P : Pln) (l : Leg) : Prop where
  n : l.items.length ≤ 12
  item : ∀ i, i < l.items.length → (0 ≤ (itmAt l.items i).station ∧ (itmAt l.items i).station < P.stations.length) ∧ 0 ≤ (itmAt l.items i).low ∧ (itmAt l.items i).low ≤ (itmAt l.items i).high ∧ (itmAt l.items i).high ≤ 20000
  fuel : 0 ≤ l.fuel ∧ l.fuel ≤ 20000
  burn : 0 ≤ l.burn.low ∧ l.burn.low ≤ l.burn.high ∧ l.burn.high ≤ 20000
  leak : 0 ≤ l.leak.low ∧ l.leak.low ≤ l.leak.high ∧ l.leak.high ≤ 20000
structure TripOk (P : Pln) (fuel : Spn) (legs : List Leg) : Prop where
  fuel : 0 ≤ fuel.low ∧ fuel.low ≤ fuel.high ∧ fuel.high ≤ 20000
  n : 1 ≤ legs.length ∧ legs.length ≤ 6
  leg : ∀ i, i < legs.length → LegOk P (legAt legs i)
def stT (fuel : Spn) (legs : List Leg) : Nat → Spn
  | 0 => fuel
  | k + 1 => ⟨(stT fuel legs k).low + (legAt legs k).fuel - (legAt legs k).burn.high, (stT fuel legs k).high + (legAt legs k).fuel - (legAt legs k).burn.low⟩
def stF (legs : List Leg) : Nat → Spn
  | 0 => ⟨0, 0⟩
  | k + 1 => if (legAt legs k).pump = true then ⟨0 + (legAt legs k).leak.low, 0 + (legAt legs k).leak.high⟩ else ⟨(stF legs k).low + (legAt legs k).leak.low, (stF legs k).high + (legAt legs k).leak.high⟩
def stG (legs : List Leg) (k : Nat) : Spn := if (legAt legs k).pump = true then ⟨0, 0⟩ else stF legs k
theorem stF_succ (legs : List Leg) (k : Nat) : stF legs (k + 1) = ⟨(stG legs k).low + (legAt legs k).leak.low, (stG legs k).high + (legAt legs k).leak.high⟩ := by
  simp only [stF, stG]; split <;> rfl
def ptA (P : Pln) (fuel : Spn) (legs : List Leg) (k : Nat) : Pnt := ⟨(legAt legs k).items, ⟨(stT fuel legs k).low + (legAt legs k).fuel, (stT fuel legs k).high + (legAt legs k).fuel⟩, List.replicate P.floats.length (stG legs k), false⟩
def ptB (P : Pln) (fuel : Spn) (legs : List Leg) (k : Nat) : Pnt := ⟨(legAt legs k).items, stT fuel legs (k + 1), List.replicate P.floats.length (stF legs (k + 1)), true⟩
def ptOf (P : Pln) (fuel : Spn) (legs : List Leg) (j : Nat) : Pnt := if j % 2 = 0 then ptA P fuel legs (j / 2) else ptB P fuel legs (j / 2)
def ptsL (P : Pln) (fuel : Spn) (legs : List Leg) (n : Nat) : List Pnt := (List.range n).map (ptOf P fuel legs)
theorem ptOf_even (P : Pln) (fuel : Spn) (legs : List Leg) (k : Nat) : ptOf P fuel legs (2 * k) = ptA P fuel legs k := by
  unfold ptOf; rw [if_pos (by omega), show 2 * k / 2 = k from by omega]
theorem ptOf_odd (P : Pln) (fuel : Spn) (legs : List Leg) (k : Nat) : ptOf P fuel legs (2 * k + 1) = ptB P fuel legs k := by
  unfold ptOf; rw [if_neg (by omega), show (2 * k + 1) / 2 = k from by omega]
def tripP (P : Pln) (fuel : Spn) (legs : List Leg) : Option Nat := fstN (fun j => !sureB P (ptOf P fuel legs j)) (2 * legs.length)
def sureT (P : Pln) (fuel : Spn) (legs : List Leg) : Prop := ∀ j, j < 2 * legs.length → sureB P (ptOf P fuel legs j) = true
theorem trip_none {P : Pln} {fuel : Spn} {legs : List Leg} : tripP P fuel legs = none ↔ sureT P fuel legs := by
  unfold tripP sureT
  rw [fstN_none]
  exact forall_congr' fun j => forall_congr' fun _ => by cases sureB P (ptOf P fuel legs j) <;> simp
theorem stT_bounds {P : Pln} {fuel : Spn} {legs : List Leg} (h : TripOk P fuel legs) : ∀ k, k ≤ legs.length → -20000 * (k : Int) ≤ (stT fuel legs k).low ∧ (stT fuel legs k).low ≤ (stT fuel legs k).high ∧ (stT fuel legs k).high ≤ 20000 * ((k : Int) + 1)
  | 0, _ => by simp only [stT]; have := h.fuel; omega
  | k + 1, hk => by
    have ih := stT_bounds h k (by omega)
    have hl := h.leg k (by omega)
    have := hl.fuel
    have := hl.burn
    simp only [stT]; push_cast; omega
theorem stF_bounds {P : Pln} {fuel : Spn} {legs : List Leg} (h : TripOk P fuel legs) : ∀ k, k ≤ legs.length → 0 ≤ (stF legs k).low ∧ (stF legs k).low ≤ (stF legs k).high ∧ (stF legs k).high ≤ 20000 * (k : Int)
  | 0, _ => by simp [stF]
  | k + 1, hk => by
    have ih := stF_bounds h k (by omega)
    have hl := (h.leg k (by omega)).leak
    simp only [stF]; push_cast
    split <;> simp only <;> omega
theorem stG_bounds {P : Pln} {fuel : Spn} {legs : List Leg} (h : TripOk P fuel legs) (k : Nat) (hk : k ≤ legs.length) : 0 ≤ (stG legs k).low ∧ (stG legs k).low ≤ (stG legs k).high ∧ (stG legs k).high ≤ 20000 * (k : Int) := by
  have := stF_bounds h k hk
  unfold stG
  split
  · simp only; omega
  · exact this
theorem spnAt_rep {s : Spn} {n i : Nat} (h : i < n) : spnAt (List.replicate n s) i = s := by simp [spnAt, h]
theorem ptA_ok {P : Pln} {fuel : Spn} {legs : List Leg} (h : TripOk P fuel legs) {k : Nat} (hk : k < legs.length) : PntOk P (ptA P fuel legs k) := by
  have hl := h.leg k hk
  have hn := h.n
  have ht := stT_bounds h k (by omega)
  have hg := stG_bounds h k (by omega)
  have hf := hl.fuel
  refine ⟨hl.n, hl.item, ?_, by simp [ptA], fun i hi => ?_⟩
  · simp only [ptA]; omega
  · simp only [ptA, List.length_replicate] at hi ⊢
    rw [spnAt_rep hi]; omega
theorem ptB_ok {P : Pln} {fuel : Spn} {legs : List Leg} (h : TripOk P fuel legs) {k : Nat} (hk : k < legs.length) : PntOk P (ptB P fuel legs k) := by
  have hl := h.leg k hk
  have hn := h.n
  have ht := stT_bounds h (k + 1) (by omega)
  have hg := stF_bounds h (k + 1) (by omega)
  refine ⟨hl.n, hl.item, ?_, by simp [ptB], fun i hi => ?_⟩
  · simp only [ptB]; omega
  · simp only [ptB, List.length_replicate] at hi ⊢
    rw [spnAt_rep hi]; omega
theorem ptOf_ok {P : Pln} {fuel : Spn} {legs : List Leg} (h : TripOk P fuel legs) {j : Nat} (hj : j < 2 * legs.length) : PntOk P (ptOf P fuel legs j) := by
  unfold ptOf
  split
  · exact ptA_ok h (by omega)
  · exact ptB_ok h (by omega)
end Go.Qg



namespace Go.Qg
set_option maxRecDepth 100000
def moreX (X : Pnt) (n : Int) : Pnt := ⟨X.items, ⟨X.tank.low + n, X.tank.high + n⟩, X.water, X.landing⟩
theorem stT_shift (legs : List Leg) (n : Int) : ∀ k, stT ⟨n, n⟩ legs k = ⟨(stT ⟨0, 0⟩ legs k).low + n, (stT ⟨0, 0⟩ legs k).high + n⟩
  | 0 => by simp [stT]
  | k + 1 => by
    simp only [stT, stT_shift legs n k, Spn.mk.injEq]
    omega
theorem ptOf_shift (P : Pln) (legs : List Leg) (n : Int) (j : Nat) : ptOf P ⟨n, n⟩ legs j = moreX (ptOf P ⟨0, 0⟩ legs j) n := by
  unfold ptOf
  split
  · simp only [ptA, moreX, stT_shift legs n, Pnt.mk.injEq, Spn.mk.injEq, true_and, and_true]
    omega
  · simp only [ptB, moreX, stT_shift legs n]
theorem minS_shift (s lo hi n : Int) : minS s (lo + n) (hi + n) = minS s lo hi + s * n := by
  unfold minS
  rw [Int.mul_add, Int.mul_add]; omega
def UpB (p : Int → Bool) : Prop := ∀ n m, n ≤ m → p n = true → p m = true
def DownB (p : Int → Bool) : Prop := ∀ n m, n ≤ m → p m = true → p n = true
theorem can_shift (P : Pln) (X : Pnt) (r i : Nat) : UpB (fun n => canB P (moreX X n) r i) ∨ DownB (fun n => canB P (moreX X n) r i) := by
  by_cases h2 : r = 2
  · subst h2; left; intro n m _ h; exact h
  by_cases h3 : r = 3
  · subst h3
    left; intro n m hnm h
    have h : decide (P.tank.most < X.tank.high + n) = true := h
    show decide (P.tank.most < X.tank.high + m) = true
    rw [decide_eq_true_eq] at h ⊢
    omega
  by_cases h4 : r = 4
  · subst h4; left; intro n m _ h; exact h
  by_cases h5 : r = 5
  · subst h5
    left; intro n m hnm h
    have h : decide (limitP P X < P.empty + (X.tank.high + n) + sumN (fun i => (itmAt X.items i).high) X.items.length + sumN (fun i => (spnAt X.water i).high) X.water.length) = true := h
    show decide (limitP P X < P.empty + (X.tank.high + m) + sumN (fun i => (itmAt X.items i).high) X.items.length + sumN (fun i => (spnAt X.water i).high) X.water.length) = true
    rw [decide_eq_true_eq] at h ⊢
    omega
  by_cases h6 : r = 6
  · have e : ∀ n, leastE P (moreX X n) i = leastE P X i + P.slope i P.tank.arm * n := fun n => by
      unfold leastE
      simp only [moreX, minS_shift]
      have : ∀ j, armI P ⟨X.items, ⟨X.tank.low + n, X.tank.high + n⟩, X.water, X.landing⟩ j = armI P X j := fun _ => rfl
      simp only [this]; omega
    have g : ∀ n, canB P (moreX X n) r i = decide (leastE P X i + P.slope i P.tank.arm * n < 0) := fun n => by
      unfold canB
      rw [if_neg h2, if_neg h3, if_neg h4, if_neg h5, if_pos h6]; unfold outB; rw [e]
    rcases Int.lt_or_le (P.slope i P.tank.arm) 0 with hs | hs
    · left; intro n m hnm h
      simp only [g, decide_eq_true_eq] at h ⊢
      have := Int.mul_le_mul_of_nonpos_left (show P.slope i P.tank.arm ≤ 0 by omega) hnm
      omega
    · right; intro n m hnm h
      simp only [g, decide_eq_true_eq] at h ⊢
      have := Int.mul_le_mul_of_nonneg_left hnm hs
      omega
  · have g : ∀ n, canB P (moreX X n) r i = (X.landing && decide (X.tank.low + n < P.reserve)) := fun n => by
      unfold canB
      rw [if_neg h2, if_neg h3, if_neg h4, if_neg h5, if_neg h6]; rfl
    right; intro n m hnm h
    simp only [g, Bool.and_eq_true, decide_eq_true_eq] at h ⊢
    exact ⟨h.1, by omega⟩
def idxR (P : Pln) (j : Nat) : Nat → List (Nat × Nat × Nat)
  | 0 => []
  | c + 1 => idxR P j c ++ (List.range (manyR P (c + 2))).map fun i => (j, c + 2, i)
def idxT (P : Pln) : Nat → List (Nat × Nat × Nat)
  | 0 => []
  | n + 1 => idxT P n ++ idxR P n 6
theorem mem_idxR {P : Pln} {j : Nat} {x : Nat × Nat × Nat} : ∀ {c : Nat}, x ∈ idxR P j c ↔ x.1 = j ∧ (2 ≤ x.2.1 ∧ x.2.1 < c + 2) ∧ x.2.2 < manyR P x.2.1
  | 0 => by simp [idxR]; omega
  | c + 1 => by
    simp only [idxR, List.mem_append, mem_idxR, List.mem_map, List.mem_range]
    constructor
    · rintro (⟨h1, h2, h3⟩ | ⟨i, hi, rfl⟩)
      · exact ⟨h1, by omega, h3⟩
      · exact ⟨rfl, by simp only; omega, hi⟩
    · rintro ⟨h1, h2, h3⟩
      by_cases h : x.2.1 = c + 2
      · refine .inr ⟨x.2.2, by rw [← h]; exact h3, ?_⟩
        rw [← h, ← h1]
      · exact .inl ⟨h1, by omega, h3⟩
theorem mem_idxT {P : Pln} {x : Nat × Nat × Nat} : ∀ {n : Nat}, x ∈ idxT P n ↔ x.1 < n ∧ (2 ≤ x.2.1 ∧ x.2.1 ≤ 7) ∧ x.2.2 < manyR P x.2.1
  | 0 => by simp [idxT]
  | n + 1 => by
    simp only [idxT, List.mem_append, mem_idxT, mem_idxR]
    omega
def canX (P : Pln) (legs : List Leg) (n : Int) (x : Nat × Nat × Nat) : Bool := canB P (ptOf P ⟨n, n⟩ legs x.1) x.2.1 x.2.2
def breaksL (P : Pln) (legs : List Leg) (n : Int) : List Bool := (idxT P (2 * legs.length)).map (canX P legs n)
def brkK (P : Pln) (legs : List Leg) (k : Nat) (n : Int) : Bool := (breaksL P legs n).getD k false
theorem breaksL_length (P : Pln) (legs : List Leg) (n : Int) : (breaksL P legs n).length = (idxT P (2 * legs.length)).length := by simp [breaksL]
theorem sure_breaks {P : Pln} {legs : List Leg} {n : Int} : sureT P ⟨n, n⟩ legs ↔ ∀ k, k < (idxT P (2 * legs.length)).length → brkK P legs k n = false := by
  constructor
  · intro h k hk
    have hm := List.getElem_mem hk
    obtain ⟨h1, h2, h3⟩ := mem_idxT.1 hm
    have := (sure_iff.1 (h _ h1)) _ h2.1 h2.2 _ h3
    simp only [brkK, breaksL, List.getD_eq_getElem?_getD, List.getElem?_map, List.getElem?_eq_getElem hk, Option.map_some, Option.getD_some]
    exact this
  · intro h j hj
    rw [sure_iff]
    intro r h1 h2 i hi
    have hm : (j, r, i) ∈ idxT P (2 * legs.length) := mem_idxT.2 ⟨hj, ⟨h1, h2⟩, hi⟩
    obtain ⟨k, hk, he⟩ := List.getElem_of_mem hm
    have := h k hk
    simp only [brkK, breaksL, List.getD_eq_getElem?_getD, List.getElem?_map, List.getElem?_eq_getElem hk, Option.map_some, Option.getD_some, he] at this
    exact this
theorem brk_shift (P : Pln) (legs : List Leg) (k : Nat) : UpB (brkK P legs k) ∨ DownB (brkK P legs k) := by
  by_cases hk : k < (idxT P (2 * legs.length)).length
  · have e : ∀ n, brkK P legs k n = canB P (moreX (ptOf P ⟨0, 0⟩ legs ((idxT P (2 * legs.length))[k]).1) n) ((idxT P (2 * legs.length))[k]).2.1 ((idxT P (2 * legs.length))[k]).2.2 := fun n => by
      simp only [brkK, breaksL, List.getD_eq_getElem?_getD, List.getElem?_map, List.getElem?_eq_getElem hk, Option.map_some, Option.getD_some, canX]
      rw [ptOf_shift]
    have := can_shift P (ptOf P ⟨0, 0⟩ legs ((idxT P (2 * legs.length))[k]).1) ((idxT P (2 * legs.length))[k]).2.1 ((idxT P (2 * legs.length))[k]).2.2
    rw [show brkK P legs k = fun n => canB P (moreX (ptOf P ⟨0, 0⟩ legs ((idxT P (2 * legs.length))[k]).1) n) ((idxT P (2 * legs.length))[k]).2.1 ((idxT P (2 * legs.length))[k]).2.2 from funext e]
    exact this
  · left
    intro n m _ h
    simp only [brkK, List.getD_eq_getElem?_getD] at h
    rw [List.getElem?_eq_none (by rw [breaksL_length]; omega)] at h
    cases h
def endOf (p : Int → Bool) (K : Nat) : Int := match fstN (fun n => !p n) (K + 1) with
  | some k => k
  | none => 0
theorem endOf_spec {p : Int → Bool} {K : Nat} (h : p K = false) : (0 ≤ endOf p K ∧ endOf p K ≤ K) ∧ p (endOf p K) = false ∧ ∀ n : Int, 0 ≤ n → n < endOf p K → p n = true := by
  unfold endOf
  cases hf : fstN (fun n : Nat => !p n) (K + 1) with
  | some k =>
    obtain ⟨h1, h2, h3⟩ := fstN_some.1 hf
    refine ⟨by simp only; omega, by simpa using h2, fun n hn hk => ?_⟩
    have := h3 n.toNat (by simp only at hk; omega)
    rw [show ((n.toNat : Nat) : Int) = n from by omega] at this
    simpa using this
  | none =>
    have := fstN_none.1 hf K (by omega)
    simp [h] at this
def fuelTo (p : Nat → Int → Bool) (K : Nat) : Nat → Option Int
  | 0 => some 0
  | k + 1 => match fuelTo p K k with
    | none => none
    | some low => if p k 0 = true ∧ p k K = true then none else if p k 0 = true then some (max low (endOf (p k) K)) else some low
theorem fuelTo_spec {p : Nat → Int → Bool} {K : Nat} (hp : ∀ k, UpB (p k) ∨ DownB (p k)) : ∀ N, match fuelTo p K N with
    | none => ∃ k, k < N ∧ ∀ n : Int, 0 ≤ n → n ≤ K → p k n = true
    | some low => (0 ≤ low ∧ low ≤ K) ∧ (∀ n : Int, 0 ≤ n → n ≤ K → (∀ k, k < N → p k n = false) → low ≤ n) ∧ ∀ k, k < N → DownB (p k) → p k low = true → p k 0 = false
  | 0 => by simp only [fuelTo]; exact ⟨by omega, fun n h0 _ _ => h0, fun k hk => by omega⟩
  | N + 1 => by
    have ih := fuelTo_spec (K := K) hp N
    simp only [fuelTo]
    cases hf : fuelTo p K N with
    | none =>
      rw [hf] at ih
      obtain ⟨k, hk, h⟩ := ih
      exact ⟨k, by omega, h⟩
    | some low =>
      rw [hf] at ih
      obtain ⟨h1, h2, h3⟩ := ih
      simp only
      by_cases c1 : p N 0 = true ∧ p N K = true
      · rw [if_pos c1]
        refine ⟨N, by omega, fun n hn hK => ?_⟩
        rcases hp N with h | h
        · exact h 0 n hn c1.1
        · exact h n K hK c1.2
      · rw [if_neg c1]
        by_cases c2 : p N 0 = true
        · rw [if_pos c2]
          have hK : p N K = false := by
            cases h : p N K with
            | false => rfl
            | true => exact absurd ⟨c2, h⟩ c1
          obtain ⟨e1, e2, e3⟩ := endOf_spec hK
          refine ⟨by omega, fun n hn hnK hall => ?_, fun k hk hd hl => ?_⟩
          · have g1 := h2 n hn hnK fun k hk => hall k (by omega)
            have g2 : endOf (p N) K ≤ n := by
              rcases Int.lt_or_le n (endOf (p N) K) with h | h
              · have := e3 n hn h
                rw [hall N (by omega)] at this; cases this
              · exact h
            omega
          · rcases Nat.lt_or_eq_of_le (Nat.le_of_lt_succ hk) with h | rfl
            · exact h3 k h hd (hd _ _ (Int.le_max_left ..) hl)
            · have := hd _ _ (Int.le_max_right low (endOf (p k) K)) hl
              rw [e2] at this; cases this
        · rw [if_neg c2]
          refine ⟨h1, fun n hn hnK hall => h2 n hn hnK fun k hk => hall k (by omega), fun k hk hd hl => ?_⟩
          rcases Nat.lt_or_eq_of_le (Nat.le_of_lt_succ hk) with h | rfl
          · exact h3 k h hd hl
          · simpa using c2
def fuelP (P : Pln) (legs : List Leg) : Option Int := match fuelTo (brkK P legs) 20000 (idxT P (2 * legs.length)).length with
  | none => none
  | some low => if (tripP P ⟨low, low⟩ legs).isNone = true then some low else none
theorem fuel_law (P : Pln) (legs : List Leg) : match fuelP P legs with
    | none => ∀ n : Int, 0 ≤ n → n ≤ 20000 → ¬ sureT P ⟨n, n⟩ legs
    | some low => (0 ≤ low ∧ low ≤ 20000) ∧ sureT P ⟨low, low⟩ legs ∧ ∀ n : Int, 0 ≤ n → n < low → ¬ sureT P ⟨n, n⟩ legs := by
  have h := fuelTo_spec (p := brkK P legs) (K := 20000) (brk_shift P legs) (idxT P (2 * legs.length)).length
  unfold fuelP
  cases hf : fuelTo (brkK P legs) 20000 (idxT P (2 * legs.length)).length with
  | none =>
    rw [hf] at h
    obtain ⟨k, hk, h⟩ := h
    intro n hn hK hs
    have := sure_breaks.1 hs k hk
    rw [h n hn (by omega)] at this; cases this
  | some low =>
    rw [hf] at h
    obtain ⟨h1, h2, h3⟩ := h
    simp only
    have key : ∀ n : Int, 0 ≤ n → n ≤ 20000 → sureT P ⟨n, n⟩ legs → low ≤ n := fun n hn hK hs => h2 n hn (by omega) (sure_breaks.1 hs)
    by_cases hs : (tripP P ⟨low, low⟩ legs).isNone = true
    · rw [if_pos hs]
      have hs' : sureT P ⟨low, low⟩ legs := trip_none.1 (by simpa using hs)
      exact ⟨by omega, hs', fun n hn hlt hsn => by have := key n hn (by omega) hsn; omega⟩
    · rw [if_neg hs]
      intro n hn hK hsn
      have hle := key n hn hK hsn
      apply hs
      have : sureT P ⟨low, low⟩ legs := sure_breaks.2 fun k hk => by
        cases hb : brkK P legs k low with
        | false => rfl
        | true =>
          exfalso
          have hn0 := sure_breaks.1 hsn k hk
          rcases brk_shift P legs k with hu | hd
          · rw [hu _ _ hle hb] at hn0; cases hn0
          · have h0 := h3 k hk hd hb
            rw [hd _ _ h1.1 hb] at h0; cases h0
      rw [trip_none.2 this]; rfl
theorem fuel_span (P : Pln) (legs : List Leg) {a b c : Int} (h1 : a ≤ b) (h2 : b ≤ c) (ha : sureT P ⟨a, a⟩ legs) (hc : sureT P ⟨c, c⟩ legs) : sureT P ⟨b, b⟩ legs := sure_breaks.2 fun k hk => by
  cases hb : brkK P legs k b with
  | false => rfl
  | true =>
    rcases brk_shift P legs k with hu | hd
    · have := hu _ _ h2 hb
      rw [sure_breaks.1 hc k hk] at this; cases this
    · have := hd _ _ h1 hb
      rw [sure_breaks.1 ha k hk] at this; cases this
end Go.Qg


namespace Go.Qg
set_option maxRecDepth 100000
def beforeL : List Int → List Int → Bool
  | [], [] => false
  | [], _ :: _ => true
  | _ :: _, [] => false
  | x :: a, y :: b => if x = y then beforeL a b else decide (x < y)
theorem sumN_split (f : Nat → Int) (a : Nat) : ∀ b, sumN f (a + b) = sumN f a + sumN (fun i => f (a + i)) b
  | 0 => by simp [sumN]
  | b + 1 => by rw [← Nat.add_assoc]; simp only [sumN, sumN_split f a b]; omega
def worthL (w : Nat → Int) : List Int → Int
  | [] => 0
  | x :: t => w x.toNat + worthL w t
theorem worth_app (w : Nat → Int) (t : List Int) : ∀ s, worthL w (s ++ t) = worthL w s + worthL w t
  | [] => by simp [worthL]
  | x :: s => by simp only [List.cons_append, worthL, worth_app w t s]; omega
def restW (w : Nat → Int) (a : Nat) : Nat → Int
  | 0 => 0
  | m + 1 => restW w a m + w (a + m)
theorem restW_head (w : Nat → Int) (a : Nat) : ∀ m, restW w a (m + 1) = w a + restW w (a + 1) m
  | 0 => by simp [restW]
  | m + 1 => by
    have ih := restW_head w a m
    rw [restW, ih, restW, show a + 1 + m = a + (m + 1) from by omega]; omega
abbrev Best := List Int × Int
def foldN {β : Type} (f : Nat → β → β) (a : Nat) : Nat → β → β
  | 0, x => x
  | m + 1, x => f (a + m) (foldN f a m x)
def takeP (fits sure : List Int → Bool) (w : Nat → Int) (n : Nat) : Nat → List Int → Nat → Best → Best
  | 0, _, _, st => st
  | c + 1, s, a, st =>
    if fits s = false ∨ worthL w s + restW w a (n - a) ≤ st.2 then st
    else foldN (fun i st => takeP fits sure w n c (s ++ [(i : Int)]) (i + 1) st) a (n - a) (if st.2 < worthL w s ∧ sure s = true then (s, worthL w s) else st)
structure TakeS (fits sure : List Int → Bool) (w : Nat → Int) (s : List Int) (C : List Int → Prop) (st st' : Best) : Prop where
  got : st' = st ∨ ∃ t, C t ∧ st'.1 = s ++ t ∧ (fits (s ++ t) = true ∧ sure (s ++ t) = true) ∧ worthL w (s ++ t) = st'.2 ∧ st.2 < st'.2 ∧ ∀ t', C t' → fits (s ++ t') = true → sure (s ++ t') = true → worthL w (s ++ t') = st'.2 → beforeL t' t = false
  most : ∀ t, C t → fits (s ++ t) = true → sure (s ++ t) = true → worthL w (s ++ t) ≤ st'.2
theorem TakeS.le {fits sure : List Int → Bool} {w : Nat → Int} {s : List Int} {C : List Int → Prop} {st st' : Best} (h : TakeS fits sure w s C st st') : st.2 ≤ st'.2 := by
  rcases h.got with e | ⟨_, _, _, _, _, h5, _⟩
  · rw [e]; exact Int.le_refl _
  · omega
end Go.Qg



namespace Go.Qg
open Go.Proofs
set_option maxRecDepth 100000
set_option maxHeartbeats 4000000
attribute [local irreducible] pwp pops pdraw pop popCall pdCall thenP blockP scopeP pspec Spec answers ppost CallW
def Spn.cells (b : Spn) : List PV := [.v (.int .i64 b.low), .v (.int .i64 b.high)]
def spnL (l : List Spn) : PV := .sl 2 l.length fun i => (spnAt l i).cells
theorem Spn.eq_iff {x y : Spn} : x = y ↔ x.low = y.low ∧ x.high = y.high := by
  cases x; cases y; simp
def rowsSp (l : List Spn) : List (List PV) := l.map Spn.cells
@[simp] theorem rowsSp_length (l : List Spn) : (rowsSp l).length = l.length := by simp [rowsSp]
@[simp] theorem renLL_rowsSp (π : Nat → Nat) (l : List Spn) : renLL π (rowsSp l) = rowsSp l := by
  induction l with
  | nil => rfl
  | cons x l ih => simpa [rowsSp, Spn.cells, renLL, renL, PV.ren] using ih
@[simp] theorem namesLL_rowsSp (l : List Spn) : namesLL (rowsSp l) = [] := by
  induction l with
  | nil => rfl
  | cons x l ih => simpa [rowsSp, Spn.cells, namesLL, namesL, PV.names] using ih
@[simp] theorem flatLL_rowsSp (l : List Spn) : flatLL (rowsSp l) = true := by
  induction l with
  | nil => rfl
  | cons x l ih => simpa [rowsSp, Spn.cells, flatLL, flatL, PV.flat] using ih
@[simp] theorem vwAllL_rowsSp (f : PF) (T : Tgt) (d : Nat) (a b : List Spn) : vo.vwAllL f T (d + 1) (rowsSp a) (rowsSp b) = (a = b) := by
  induction a generalizing b with
  | nil => cases b <;> simp [rowsSp, vo.vwAllL]
  | cons x a ih =>
    cases b with
    | nil => simp [rowsSp, vo.vwAllL]
    | cons y b =>
      have := ih b
      simp only [rowsSp] at this
      simp [rowsSp, vo.vwAllL, this, Spn.cells, Spn.eq_iff]
@[simp] theorem rowsSp_one {l : List Spn} : (∀ (x : List PV), x ∈ rowsSp l → ∀ (y : PV), y ∈ x → y.one = true) ↔ True := by
  refine ⟨fun _ => trivial, fun _ x hx y hy => ?_⟩
  obtain ⟨b, _, rfl⟩ := List.mem_map.1 hx
  simp [Spn.cells] at hy
  rcases hy with rfl | rfl <;> rfl
@[simp] theorem rowsSp_len1 {l : List Spn} : (∀ (x : List PV), x ∈ rowsSp l → x.length = 2) ↔ True := by
  refine ⟨fun _ => trivial, fun _ x hx => ?_⟩
  obtain ⟨b, _, rfl⟩ := List.mem_map.1 hx
  rfl
@[simp] theorem rowsSp_take (l : List Spn) (k : Nat) : (rowsSp l).take k = rowsSp (l.take k) := by simp [rowsSp]
@[simp] theorem rowsSp_nil : rowsSp [] = [] := rfl
theorem rowsSp_get {l : List Spn} {k : Nat} (h : k < l.length) : (rowsSp l)[k]? = some (spnAt l k).cells := by simp [rowsSp, spnAt, h]
@[simp] theorem rowsSp_getElem {l : List Spn} {k : Nat} (h : k < (rowsSp l).length) : (rowsSp l)[k] = (spnAt l k).cells := by
  have h2 : k < l.length := by simpa using h
  simp [rowsSp, spnAt, h2]
theorem rowsSp_snoc (l : List Spn) (x : Spn) : rowsSp l ++ [x.cells] = rowsSp (l ++ [x]) := by simp [rowsSp]
def Stn.cells (b : Stn) : List PV := [.v (.int .i64 b.arm), .v (.int .i64 b.most)]
def stnL (l : List Stn) : PV := .sl 2 l.length fun i => (stnAt l i).cells
theorem Stn.eq_iff {x y : Stn} : x = y ↔ x.arm = y.arm ∧ x.most = y.most := by
  cases x; cases y; simp
def Cnr.cells (b : Cnr) : List PV := [.v (.int .i64 b.weight), .v (.int .i64 b.moment)]
def cnrL (l : List Cnr) : PV := .sl 2 l.length fun i => (cnrAt l i).cells
theorem Cnr.eq_iff {x y : Cnr} : x = y ↔ x.weight = y.weight ∧ x.moment = y.moment := by
  cases x; cases y; simp
def Itm.cells (b : Itm) : List PV := [.v (.int .i64 b.station), .v (.int .i64 b.low), .v (.int .i64 b.high)]
def itmL (l : List Itm) : PV := .sl 3 l.length fun i => (itmAt l i).cells
theorem Itm.eq_iff {x y : Itm} : x = y ↔ x.station = y.station ∧ x.low = y.low ∧ x.high = y.high := by
  cases x; cases y; simp
theorem itmAt_mem {l : List Itm} {i : Nat} (h : i < l.length) : itmAt l i ∈ l := by simp [itmAt, h]
def rowsIt (l : List Itm) : List (List PV) := l.map Itm.cells
@[simp] theorem rowsIt_length (l : List Itm) : (rowsIt l).length = l.length := by simp [rowsIt]
@[simp] theorem renLL_rowsIt (π : Nat → Nat) (l : List Itm) : renLL π (rowsIt l) = rowsIt l := by
  induction l with
  | nil => rfl
  | cons x l ih => simpa [rowsIt, Itm.cells, renLL, renL, PV.ren] using ih
@[simp] theorem namesLL_rowsIt (l : List Itm) : namesLL (rowsIt l) = [] := by
  induction l with
  | nil => rfl
  | cons x l ih => simpa [rowsIt, Itm.cells, namesLL, namesL, PV.names] using ih
@[simp] theorem flatLL_rowsIt (l : List Itm) : flatLL (rowsIt l) = true := by
  induction l with
  | nil => rfl
  | cons x l ih => simpa [rowsIt, Itm.cells, flatLL, flatL, PV.flat] using ih
@[simp] theorem vwAllL_rowsIt (f : PF) (T : Tgt) (d : Nat) (a b : List Itm) : vo.vwAllL f T (d + 1) (rowsIt a) (rowsIt b) = (a = b) := by
  induction a generalizing b with
  | nil => cases b <;> simp [rowsIt, vo.vwAllL]
  | cons x a ih =>
    cases b with
    | nil => simp [rowsIt, vo.vwAllL]
    | cons y b =>
      have := ih b
      simp only [rowsIt] at this
      simp [rowsIt, vo.vwAllL, this, Itm.cells, Itm.eq_iff]
@[simp] theorem rowsIt_one {l : List Itm} : (∀ (x : List PV), x ∈ rowsIt l → ∀ (y : PV), y ∈ x → y.one = true) ↔ True := by
  refine ⟨fun _ => trivial, fun _ x hx y hy => ?_⟩
  obtain ⟨b, _, rfl⟩ := List.mem_map.1 hx
  simp [Itm.cells] at hy
  rcases hy with rfl | rfl | rfl <;> rfl
@[simp] theorem rowsIt_len1 {l : List Itm} : (∀ (x : List PV), x ∈ rowsIt l → x.length = 3) ↔ True := by
  refine ⟨fun _ => trivial, fun _ x hx => ?_⟩
  obtain ⟨b, _, rfl⟩ := List.mem_map.1 hx
  rfl
@[simp] theorem rowsIt_take (l : List Itm) (k : Nat) : (rowsIt l).take k = rowsIt (l.take k) := by simp [rowsIt]
@[simp] theorem rowsIt_nil : rowsIt [] = [] := rfl
theorem rowsIt_get {l : List Itm} {k : Nat} (h : k < l.length) : (rowsIt l)[k]? = some (itmAt l k).cells := by simp [rowsIt, itmAt, h]
@[simp] theorem rowsIt_getElem {l : List Itm} {k : Nat} (h : k < (rowsIt l).length) : (rowsIt l)[k] = (itmAt l k).cells := by
  have h2 : k < l.length := by simpa using h
  simp [rowsIt, itmAt, h2]
theorem rowsIt_snoc (l : List Itm) (x : Itm) : rowsIt l ++ [x.cells] = rowsIt (l ++ [x]) := by simp [rowsIt]
theorem rowsIt_snoc' (l : List Itm) (x : Itm) : rowsIt l ++ [[.v (.int .i64 x.station), .v (.int .i64 x.low), .v (.int .i64 x.high)]] = rowsIt (l ++ [x]) := rowsIt_snoc l x
theorem rowsIt_range (l : List Itm) : (List.range l.length).map (fun i => (itmAt l i).cells) = rowsIt l := by
  refine List.ext_getElem? fun i => ?_
  by_cases h : i < l.length
  · rw [rowsIt_get h, List.getElem?_map, List.getElem?_range h]; rfl
  · rw [List.getElem?_eq_none (by simp; omega), List.getElem?_eq_none (by simp; omega)]
structure Psn where
  low : Int
  high : Int
  station : Int
  first : Int
  last : Int
  worth : Int
  deriving DecidableEq, Inhabited
def psnAt (l : List Psn) (i : Nat) : Psn := l.getD i default
def Psn.cells (x : Psn) : List PV := [.v (.int .i64 x.low), .v (.int .i64 x.high), .v (.int .i64 x.station), .v (.int .i64 x.first), .v (.int .i64 x.last), .v (.int .i64 x.worth)]
def psnL (l : List Psn) : PV := .sl 6 l.length fun i => (psnAt l i).cells
def Leg.cells (x : Leg) : List PV := [itmL x.items, .v (.bool x.pump), .v (.int .i64 x.fuel), .v (.int .i64 x.burn.low), .v (.int .i64 x.burn.high), .v (.int .i64 x.leak.low), .v (.int .i64 x.leak.high)]
def legL (l : List Leg) : PV := .sl 7 l.length fun i => (legAt l i).cells
def Pln.cells (P : Pln) : List PV := [.v (.int .i64 P.empty), .v (.int .i64 P.moment), .v (.int .i64 P.takeoff), .v (.int .i64 P.landing), cnrL P.corners, stnL P.stations, .v (.int .i64 P.tank.arm), .v (.int .i64 P.tank.most), .v (.int .i64 P.reserve), stnL P.floats]
def Pnt.cells (X : Pnt) : List PV := [itmL X.items, .v (.int .i64 X.tank.low), .v (.int .i64 X.tank.high), spnL X.water, .v (.bool X.landing)]
def Cse.cells (c : Cse) : List PV := [ints c.items, .v (.int .i64 c.tank), ints c.water]
theorem allSpn_spec (l : List Spn) (hl : l.length ≤ 9223372036854775807) (f : FuncId) (first cap : List PV) (h1 : plainL first = true) (h2 : plainL cap = true) (p : Nat → Bool)
    (h : ∀ k, k < l.length → Spec Tryz.prog f (first ++ ([.agg (spnAt l k).cells] ++ cap)) (.v (.bool (p k)))) : Spec Tryz.prog 93 [spnL l, .clo (.func f) first cap] (.v (.bool (allN l.length p))) := by
  refine spec_of mixed Tryz.func93 (by decide) rfl Tryz.results93 Tryz.ntmps93 (by decide) 0 (by simp) ?_
  simp [spnL, Spn.cells, renL_plain h1, renL_plain h2]
  refine pwp_loop (fun k : Nat => [(9, .v (.int .i64 k))]) (fun k => k ≤ l.length ∧ ∀ j, j < k → p j = true) (fun k => l.length - k) 0 ⟨Nat.zero_le _, fun j hj => by omega⟩ (by simp; rfl) (by simp [vwAll_plain h1, vwAll_plain h2]) ?_
  intro k ⟨hk, hp⟩
  by_cases hkl : k < l.length
  · simp [hkl, spnL, Spn.cells]
    refine pop_spec (h k hkl) rfl false (.inr ⟨by simp [spnL, Spn.cells], by simp [namesL_append, plainL_names h1, plainL_names h2, spnL, Spn.cells]⟩) (.inl rfl) rfl (by simp) ?_
    cases hpk : p k with
    | true =>
      simp
      refine again_of (k + 1) ⟨by omega, fun j hj => ?_⟩ (by omega) ?_
      · rcases Nat.lt_succ_iff_lt_or_eq.1 hj with hj | rfl
        · exact hp j hj
        · exact hpk
      · simp [i64_wrap (show -9223372036854775808 ≤ (k : Int) + 1 ∧ _ from by omega), vwAll_plain h1, vwAll_plain h2]
    | false =>
      simp
      refine answers_of rfl ?_; simp [allN_false hkl hpk]
  · simp [hkl]
    obtain rfl : k = l.length := by omega
    refine answers_of rfl ?_; simp [allN_spec.2 hp]
theorem allStn_spec (l : List Stn) (hl : l.length ≤ 9223372036854775807) (f : FuncId) (first cap : List PV) (h1 : plainL first = true) (h2 : plainL cap = true) (p : Nat → Bool)
    (h : ∀ k, k < l.length → Spec Tryz.prog f (first ++ ([.agg (stnAt l k).cells] ++ cap)) (.v (.bool (p k)))) : Spec Tryz.prog 132 [stnL l, .clo (.func f) first cap] (.v (.bool (allN l.length p))) := by
  refine spec_of mixed Tryz.func132 (by decide) rfl Tryz.results132 Tryz.ntmps132 (by decide) 0 (by simp) ?_
  simp [stnL, Stn.cells, renL_plain h1, renL_plain h2]
  refine pwp_loop (fun k : Nat => [(9, .v (.int .i64 k))]) (fun k => k ≤ l.length ∧ ∀ j, j < k → p j = true) (fun k => l.length - k) 0 ⟨Nat.zero_le _, fun j hj => by omega⟩ (by simp; rfl) (by simp [vwAll_plain h1, vwAll_plain h2]) ?_
  intro k ⟨hk, hp⟩
  by_cases hkl : k < l.length
  · simp [hkl, stnL, Stn.cells]
    refine pop_spec (h k hkl) rfl false (.inr ⟨by simp [stnL, Stn.cells], by simp [namesL_append, plainL_names h1, plainL_names h2, stnL, Stn.cells]⟩) (.inl rfl) rfl (by simp) ?_
    cases hpk : p k with
    | true =>
      simp
      refine again_of (k + 1) ⟨by omega, fun j hj => ?_⟩ (by omega) ?_
      · rcases Nat.lt_succ_iff_lt_or_eq.1 hj with hj | rfl
        · exact hp j hj
        · exact hpk
      · simp [i64_wrap (show -9223372036854775808 ≤ (k : Int) + 1 ∧ _ from by omega), vwAll_plain h1, vwAll_plain h2]
    | false =>
      simp
      refine answers_of rfl ?_; simp [allN_false hkl hpk]
  · simp [hkl]
    obtain rfl : k = l.length := by omega
    refine answers_of rfl ?_; simp [allN_spec.2 hp]
theorem allCnr_spec (l : List Cnr) (hl : l.length ≤ 9223372036854775807) (f : FuncId) (first cap : List PV) (h1 : plainL first = true) (h2 : plainL cap = true) (p : Nat → Bool)
    (h : ∀ k, k < l.length → Spec Tryz.prog f (first ++ ([.agg (cnrAt l k).cells] ++ cap)) (.v (.bool (p k)))) : Spec Tryz.prog 130 [cnrL l, .clo (.func f) first cap] (.v (.bool (allN l.length p))) := by
  refine spec_of mixed Tryz.func130 (by decide) rfl Tryz.results130 Tryz.ntmps130 (by decide) 0 (by simp) ?_
  simp [cnrL, Cnr.cells, renL_plain h1, renL_plain h2]
  refine pwp_loop (fun k : Nat => [(9, .v (.int .i64 k))]) (fun k => k ≤ l.length ∧ ∀ j, j < k → p j = true) (fun k => l.length - k) 0 ⟨Nat.zero_le _, fun j hj => by omega⟩ (by simp; rfl) (by simp [vwAll_plain h1, vwAll_plain h2]) ?_
  intro k ⟨hk, hp⟩
  by_cases hkl : k < l.length
  · simp [hkl, cnrL, Cnr.cells]
    refine pop_spec (h k hkl) rfl false (.inr ⟨by simp [cnrL, Cnr.cells], by simp [namesL_append, plainL_names h1, plainL_names h2, cnrL, Cnr.cells]⟩) (.inl rfl) rfl (by simp) ?_
    cases hpk : p k with
    | true =>
      simp
      refine again_of (k + 1) ⟨by omega, fun j hj => ?_⟩ (by omega) ?_
      · rcases Nat.lt_succ_iff_lt_or_eq.1 hj with hj | rfl
        · exact hp j hj
        · exact hpk
      · simp [i64_wrap (show -9223372036854775808 ≤ (k : Int) + 1 ∧ _ from by omega), vwAll_plain h1, vwAll_plain h2]
    | false =>
      simp
      refine answers_of rfl ?_; simp [allN_false hkl hpk]
  · simp [hkl]
    obtain rfl : k = l.length := by omega
    refine answers_of rfl ?_; simp [allN_spec.2 hp]
theorem allItm_spec (l : List Itm) (hl : l.length ≤ 9223372036854775807) (f : FuncId) (first cap : List PV) (h1 : plainL first = true) (h2 : plainL cap = true) (p : Nat → Bool)
    (h : ∀ k, k < l.length → Spec Tryz.prog f (first ++ ([.agg (itmAt l k).cells] ++ cap)) (.v (.bool (p k)))) : Spec Tryz.prog 141 [itmL l, .clo (.func f) first cap] (.v (.bool (allN l.length p))) := by
  refine spec_of mixed Tryz.func141 (by decide) rfl Tryz.results141 Tryz.ntmps141 (by decide) 0 (by simp) ?_
  simp [itmL, Itm.cells, renL_plain h1, renL_plain h2]
  refine pwp_loop (fun k : Nat => [(9, .v (.int .i64 k))]) (fun k => k ≤ l.length ∧ ∀ j, j < k → p j = true) (fun k => l.length - k) 0 ⟨Nat.zero_le _, fun j hj => by omega⟩ (by simp; rfl) (by simp [vwAll_plain h1, vwAll_plain h2]) ?_
  intro k ⟨hk, hp⟩
  by_cases hkl : k < l.length
  · simp [hkl, itmL, Itm.cells]
    refine pop_spec (h k hkl) rfl false (.inr ⟨by simp [itmL, Itm.cells], by simp [namesL_append, plainL_names h1, plainL_names h2, itmL, Itm.cells]⟩) (.inl rfl) rfl (by simp) ?_
    cases hpk : p k with
    | true =>
      simp
      refine again_of (k + 1) ⟨by omega, fun j hj => ?_⟩ (by omega) ?_
      · rcases Nat.lt_succ_iff_lt_or_eq.1 hj with hj | rfl
        · exact hp j hj
        · exact hpk
      · simp [i64_wrap (show -9223372036854775808 ≤ (k : Int) + 1 ∧ _ from by omega), vwAll_plain h1, vwAll_plain h2]
    | false =>
      simp
      refine answers_of rfl ?_; simp [allN_false hkl hpk]
  · simp [hkl]
    obtain rfl : k = l.length := by omega
    refine answers_of rfl ?_; simp [allN_spec.2 hp]
theorem allInt_spec (l : List Int) (hl : l.length ≤ 9223372036854775807) (f : FuncId) (first cap : List PV) (h1 : plainL first = true) (h2 : plainL cap = true) (p : Nat → Bool)
    (h : ∀ k, k < l.length → Spec Tryz.prog f (first ++ ([.v (.int .i64 (geti l k))] ++ cap)) (.v (.bool (p k)))) : Spec Tryz.prog 146 [ints l, .clo (.func f) first cap] (.v (.bool (allN l.length p))) := by
  refine spec_of mixed Tryz.func146 (by decide) rfl Tryz.results146 Tryz.ntmps146 (by decide) 0 (by simp) ?_
  simp [ints, renL_plain h1, renL_plain h2]
  refine pwp_loop (fun k : Nat => [(9, .v (.int .i64 k))]) (fun k => k ≤ l.length ∧ ∀ j, j < k → p j = true) (fun k => l.length - k) 0 ⟨Nat.zero_le _, fun j hj => by omega⟩ (by simp; rfl) (by simp [vwAll_plain h1, vwAll_plain h2]) ?_
  intro k ⟨hk, hp⟩
  by_cases hkl : k < l.length
  · simp [hkl, ints]
    refine pop_spec (h k hkl) rfl false (.inr ⟨by simp [ints], by simp [namesL_append, plainL_names h1, plainL_names h2, ints]⟩) (.inl rfl) rfl (by simp) ?_
    cases hpk : p k with
    | true =>
      simp
      refine again_of (k + 1) ⟨by omega, fun j hj => ?_⟩ (by omega) ?_
      · rcases Nat.lt_succ_iff_lt_or_eq.1 hj with hj | rfl
        · exact hp j hj
        · exact hpk
      · simp [i64_wrap (show -9223372036854775808 ≤ (k : Int) + 1 ∧ _ from by omega), vwAll_plain h1, vwAll_plain h2]
    | false =>
      simp
      refine answers_of rfl ?_; simp [allN_false hkl hpk]
  · simp [hkl]
    obtain rfl : k = l.length := by omega
    refine answers_of rfl ?_; simp [allN_spec.2 hp]
theorem allLeg_spec (l : List Leg) (hl : l.length ≤ 9223372036854775807) (f : FuncId) (first cap : List PV) (h1 : plainL first = true) (h2 : plainL cap = true) (p : Nat → Bool)
    (h : ∀ k, k < l.length → Spec Tryz.prog f (first ++ ([.agg (legAt l k).cells] ++ cap)) (.v (.bool (p k)))) : Spec Tryz.prog 120 [legL l, .clo (.func f) first cap] (.v (.bool (allN l.length p))) := by
  refine spec_of mixed Tryz.func120 (by decide) rfl Tryz.results120 Tryz.ntmps120 (by decide) 0 (by simp) ?_
  simp [legL, Leg.cells, itmL, renL_plain h1, renL_plain h2]
  refine pwp_loop (fun k : Nat => [(9, .v (.int .i64 k))]) (fun k => k ≤ l.length ∧ ∀ j, j < k → p j = true) (fun k => l.length - k) 0 ⟨Nat.zero_le _, fun j hj => by omega⟩ (by simp; rfl) (by simp [vwAll_plain h1, vwAll_plain h2]) ?_
  intro k ⟨hk, hp⟩
  by_cases hkl : k < l.length
  · simp [hkl, legL, Leg.cells, itmL]
    refine pop_spec (h k hkl) rfl false (.inr ⟨by simp [legL, Leg.cells, itmL], by simp [namesL_append, plainL_names h1, plainL_names h2, legL, Leg.cells, itmL]⟩) (.inl rfl) rfl (by simp) ?_
    cases hpk : p k with
    | true =>
      simp
      refine again_of (k + 1) ⟨by omega, fun j hj => ?_⟩ (by omega) ?_
      · rcases Nat.lt_succ_iff_lt_or_eq.1 hj with hj | rfl
        · exact hp j hj
        · exact hpk
      · simp [i64_wrap (show -9223372036854775808 ≤ (k : Int) + 1 ∧ _ from by omega), vwAll_plain h1, vwAll_plain h2]
    | false =>
      simp
      refine answers_of rfl ?_; simp [allN_false hkl hpk]
  · simp [hkl]
    obtain rfl : k = l.length := by omega
    refine answers_of rfl ?_; simp [allN_spec.2 hp]
theorem allPsn_spec (l : List Psn) (hl : l.length ≤ 9223372036854775807) (f : FuncId) (first cap : List PV) (h1 : plainL first = true) (h2 : plainL cap = true) (p : Nat → Bool)
    (h : ∀ k, k < l.length → Spec Tryz.prog f (first ++ ([.agg (psnAt l k).cells] ++ cap)) (.v (.bool (p k)))) : Spec Tryz.prog 69 [psnL l, .clo (.func f) first cap] (.v (.bool (allN l.length p))) := by
  refine spec_of mixed Tryz.func69 (by decide) rfl Tryz.results69 Tryz.ntmps69 (by decide) 0 (by simp) ?_
  simp [psnL, Psn.cells, renL_plain h1, renL_plain h2]
  refine pwp_loop (fun k : Nat => [(9, .v (.int .i64 k))]) (fun k => k ≤ l.length ∧ ∀ j, j < k → p j = true) (fun k => l.length - k) 0 ⟨Nat.zero_le _, fun j hj => by omega⟩ (by simp; rfl) (by simp [vwAll_plain h1, vwAll_plain h2]) ?_
  intro k ⟨hk, hp⟩
  by_cases hkl : k < l.length
  · simp [hkl, psnL, Psn.cells]
    refine pop_spec (h k hkl) rfl false (.inr ⟨by simp [psnL, Psn.cells], by simp [namesL_append, plainL_names h1, plainL_names h2, psnL, Psn.cells]⟩) (.inl rfl) rfl (by simp) ?_
    cases hpk : p k with
    | true =>
      simp
      refine again_of (k + 1) ⟨by omega, fun j hj => ?_⟩ (by omega) ?_
      · rcases Nat.lt_succ_iff_lt_or_eq.1 hj with hj | rfl
        · exact hp j hj
        · exact hpk
      · simp [i64_wrap (show -9223372036854775808 ≤ (k : Int) + 1 ∧ _ from by omega), vwAll_plain h1, vwAll_plain h2]
    | false =>
      simp
      refine answers_of rfl ?_; simp [allN_false hkl hpk]
  · simp [hkl]
    obtain rfl : k = l.length := by omega
    refine answers_of rfl ?_; simp [allN_spec.2 hp]
end Go.Qg


namespace Go.Qg
open Go.Proofs
set_option maxRecDepth 100000
set_option maxHeartbeats 8000000
attribute [local irreducible] pwp pops pdraw pop popCall pdCall thenP blockP scopeP pspec Spec answers ppost CallW
theorem lin_spec (n lo hi : Int) : Spec Tryz.prog 72 [.v (.int .i64 n), .v (.int .i64 lo), .v (.int .i64 hi)] (.v (.bool (inB n lo hi))) := by
  refine spec_of mixed Tryz.func72 (by decide) rfl Tryz.results72 Tryz.ntmps72 (by decide) 0 (by simp) ?_
  by_cases h1 : lo ≤ n
  · by_cases h2 : n ≤ hi <;> (simp [h1, h2]; refine answers_of rfl ?_; simp [inB, h1, h2])
  · simp [h1]; refine answers_of rfl ?_; simp [inB, h1]
def spanB (s : Spn) (lo hi : Int) : Bool := decide (lo ≤ s.low) && decide (s.low ≤ s.high) && decide (s.high ≤ hi)
theorem spanB_spec {s : Spn} {lo hi : Int} : spanB s lo hi = true ↔ lo ≤ s.low ∧ s.low ≤ s.high ∧ s.high ≤ hi := by simp [spanB, and_assoc]
theorem lspan_spec (s : Spn) (lo hi : Int) : Spec Tryz.prog 71 [.agg s.cells, .v (.int .i64 lo), .v (.int .i64 hi)] (.v (.bool (spanB s lo hi))) := by
  refine spec_of mixed Tryz.func71 (by decide) rfl Tryz.results71 Tryz.ntmps71 (by decide) 0 (by simp) ?_
  simp [Spn.cells]
  by_cases h1 : lo ≤ s.low
  · by_cases h2 : s.low ≤ s.high
    · by_cases h3 : s.high ≤ hi <;> (simp [h1, h2, h3]; refine answers_of rfl ?_; simp [spanB, h1, h2, h3])
    · simp [h1, h2, Int.not_le.1 h2]
      refine answers_of rfl ?_; simp [spanB, h1, h2]
  · simp [h1, Int.not_le.1 h1]; refine answers_of rfl ?_; simp [spanB, h1]
def stnB (s : Stn) : Bool := inB s.arm (-1000) 1000 && inB s.most 0 20000
theorem stnB_spec {s : Stn} : stnB s = true ↔ StnOk s := by simp [stnB, inB_spec, StnOk]
theorem station_spec (s : Stn) : Spec Tryz.prog 133 [.agg s.cells] (.v (.bool (stnB s))) := by
  refine spec_of mixed Tryz.func133 (by decide) rfl Tryz.results133 Tryz.ntmps133 (by decide) 0 (by simp) ?_
  simp [Stn.cells]
  refine pop_spec (lin_spec s.arm (-1000) 1000) rfl false (.inl (by simp)) (.inl rfl) rfl (by simp) ?_
  cases h1 : inB s.arm (-1000) 1000 with
  | false => simp; refine answers_of rfl ?_; simp [stnB, h1]
  | true =>
    simp
    refine pop_spec (lin_spec s.most 0 20000) rfl false (.inl (by simp)) (.inl rfl) rfl (by simp) ?_
    simp
    refine answers_of rfl ?_; simp [stnB, h1]
theorem kilos1_spec (n : Int) : Spec Tryz.prog 147 [.v (.int .i64 n)] (.v (.bool (inB n 0 20000))) := by
  refine spec_of mixed Tryz.func147 (by decide) rfl Tryz.results147 Tryz.ntmps147 (by decide) 0 (by simp) ?_
  simp
  refine pop_spec (lin_spec n 0 20000) rfl false (.inl (by simp)) (.inl rfl) rfl (by simp) ?_
  simp
  refine answers_of rfl ?_; simp
def kilosB (l : List Int) : Bool := allN l.length fun k => inB (geti l k) 0 20000
theorem lkilos_spec (l : List Int) (hl : l.length ≤ 9223372036854775807) : Spec Tryz.prog 122 [ints l] (.v (.bool (kilosB l))) := by
  refine spec_of mixed Tryz.func122 (by decide) rfl Tryz.results122 Tryz.ntmps122 (by decide) 0 (by simp) ?_
  simp [ints]
  refine pop_spec (allInt_spec l hl 147 [] [] rfl rfl (fun k => inB (geti l k) 0 20000) fun k hk => kilos1_spec (geti l k)) rfl false (.inl (by simp [ints])) (.inl rfl) rfl (by simp) ?_
  simp
  refine answers_of rfl ?_; simp [kilosB]
theorem kilosB_one (a : Int) : kilosB [a] = inB a 0 20000 := by simp [kilosB, allN, geti]
theorem kilosB_three (a b c : Int) : kilosB [a, b, c] = (inB a 0 20000 && inB b 0 20000 && inB c 0 20000) := by
  simp [kilosB, allN, geti, List.range, List.range.loop, Bool.and_assoc]
def edgC (P : Pln) (e : Nat) : List PV := [.v (.int .i64 e), .v (.int .i64 (P.cA e).weight), .v (.int .i64 (P.cA e).moment), .v (.int .i64 (P.dw e)), .v (.int .i64 (P.dm e))]
def Small (b x : Int) : Prop := -b ≤ x ∧ x ≤ b
theorem mul_small {a b x y : Int} (hx : Small a x) (hy : Small b y) (_ha : 0 ≤ a) (_hb : 0 ≤ b) : Small (a * b) (x * y) := by
  obtain ⟨h1, h2⟩ := hx
  obtain ⟨h3, h4⟩ := hy
  have key : (x * y).natAbs ≤ (a * b).natAbs := by
    rw [Int.natAbs_mul, Int.natAbs_mul]
    exact Nat.mul_le_mul (by omega) (by omega)
  have h5 : 0 ≤ a * b := Int.mul_nonneg _ha _hb
  constructor <;> omega
theorem side_spec (n w0 m0 dw dm w m : Int) (hw0 : Small 20000 w0) (hm0 : Small 20000000 m0) (hdw : Small 20000 dw) (hdm : Small 40000000 dm) (hw : Small 4000000 w) (hm : Small 4000000000 m) :
    Spec Tryz.prog 145 [.agg [.v (.int .i64 n), .v (.int .i64 w0), .v (.int .i64 m0), .v (.int .i64 dw), .v (.int .i64 dm)], .v (.int .i64 w), .v (.int .i64 m)] (.v (.int .i64 (dw * (m - m0) - dm * (w - w0)))) := by
  have h1 : Small 4020000000 (m - m0) := ⟨by have := hm.1; have := hm0.2; omega, by have := hm.2; have := hm0.1; omega⟩
  have h2 : Small 4020000 (w - w0) := ⟨by have := hw.1; have := hw0.2; omega, by have := hw.2; have := hw0.1; omega⟩
  have h3 := mul_small hdw h1 (by omega) (by omega)
  have h4 := mul_small hdm h2 (by omega) (by omega)
  simp only [Small] at h1 h2 h3 h4
  refine spec_of mixed Tryz.func145 (by decide) rfl Tryz.results145 Tryz.ntmps145 (by decide) 0 (by simp) ?_
  simp
  refine answers_of rfl ?_
  simp [i64_wrap (show -9223372036854775808 ≤ m - m0 ∧ _ from by omega), i64_wrap (show -9223372036854775808 ≤ w - w0 ∧ _ from by omega), i64_wrap (show -9223372036854775808 ≤ dw * (m - m0) ∧ _ from by omega), i64_wrap (show -9223372036854775808 ≤ dm * (w - w0) ∧ _ from by omega), i64_wrap (show -9223372036854775808 ≤ dw * (m - m0) - dm * (w - w0) ∧ _ from by omega)]
theorem slope_spec (n w0 m0 dw dm arm : Int) (hdw : Small 20000 dw) (hdm : Small 40000000 dm) (harm : Small 1000 arm) :
    Spec Tryz.prog 117 [.agg [.v (.int .i64 n), .v (.int .i64 w0), .v (.int .i64 m0), .v (.int .i64 dw), .v (.int .i64 dm)], .v (.int .i64 arm)] (.v (.int .i64 (dw * arm - dm))) := by
  have h3 := mul_small hdw harm (by omega) (by omega)
  simp only [Small] at h3 hdm
  refine spec_of mixed Tryz.func117 (by decide) rfl Tryz.results117 Tryz.ntmps117 (by decide) 0 (by simp) ?_
  simp
  refine answers_of rfl ?_
  simp [i64_wrap (show -9223372036854775808 ≤ dw * arm ∧ _ from by omega), i64_wrap (show -9223372036854775808 ≤ dw * arm - dm ∧ _ from by omega)]
def cnrB (c : Cnr) : Bool := inB c.weight 0 20000 && inB c.moment (-20000000) 20000000
theorem valid1_spec (c : Cnr) : Spec Tryz.prog 131 [.agg c.cells] (.v (.bool (cnrB c))) := by
  refine spec_of mixed Tryz.func131 (by decide) rfl Tryz.results131 Tryz.ntmps131 (by decide) 0 (by simp) ?_
  simp [Cnr.cells]
  refine pop_specF [(5, ints [c.weight])] ?_ (lkilos_spec [c.weight] (by simp)) rfl false (.inl (by simp [ints])) (.inl rfl) rfl (by simp) ?_
  · simp [ints, geti]
  rw [kilosB_one]
  cases h1 : inB c.weight 0 20000 with
  | false => simp; refine answers_of rfl ?_; simp [cnrB, h1]
  | true =>
    simp
    refine pop_spec (lin_spec c.moment (-20000000) 20000000) rfl false (.inl (by simp)) (.inl rfl) rfl (by simp) ?_
    simp
    refine answers_of rfl ?_; simp [cnrB, h1]
def itmB (ns : Int) (i : Itm) : Bool := inB i.station 0 (ns - 1) && spanB ⟨i.low, i.high⟩ 0 20000
theorem items1_spec (i : Itm) (ns : Int) (hns : 0 ≤ ns ∧ ns ≤ 9223372036854775807) : Spec Tryz.prog 142 [.agg i.cells, .rp [.v (.int .i64 ns)] 0] (.v (.bool (itmB ns i))) := by
  refine spec_of mixed Tryz.func142 (by decide) rfl Tryz.results142 Tryz.ntmps142 (by decide) 0 (by simp) ?_
  simp [Itm.cells, i64_wrap (show -9223372036854775808 ≤ ns - 1 ∧ _ from by omega)]
  refine pop_spec (lin_spec i.station 0 (ns - 1)) rfl false (.inl (by simp)) (.inl rfl) rfl (by simp) ?_
  cases h1 : inB i.station 0 (ns - 1) with
  | false => simp; refine answers_of rfl ?_; simp [itmB, h1]
  | true =>
    simp
    refine pop_spec (lspan_spec ⟨i.low, i.high⟩ 0 20000) rfl false (.inl (by simp [Spn.cells])) (.inl rfl) rfl (by simp) ?_
    simp
    refine answers_of rfl ?_; simp [itmB, h1]
def itemsB (l : List Itm) (ns : Int) : Bool := decide (l.length ≤ 12) && allN l.length fun k => itmB ns (itmAt l k)
theorem litems_spec (l : List Itm) (ns : Int) (hl : l.length ≤ 9223372036854775807) (hns : 0 ≤ ns ∧ ns ≤ 9223372036854775807) : Spec Tryz.prog 113 [itmL l, .v (.int .i64 ns)] (.v (.bool (itemsB l ns))) := by
  refine spec_of mixed Tryz.func113 (by decide) rfl Tryz.results113 Tryz.ntmps113 (by decide) 0 (by simp) ?_
  simp [itmL]
  by_cases h : l.length ≤ 12
  · simp [show (l.length : Int) ≤ 12 from by omega]
    refine pop_specF [(3, .undef), (10, .clo (.func 142) [] [.rp [.v (.int .i64 ns)] 0])] (by simp) (allItm_spec l hl 142 [] [.rp [.v (.int .i64 ns)] 0] rfl rfl (fun k => itmB ns (itmAt l k)) fun k hk => items1_spec (itmAt l k) ns hns) rfl false (.inl (by simp [itmL])) (.inl rfl) rfl (by simp) ?_
    simp
    refine answers_of rfl ?_; simp [itemsB, h]
  · simp [show ¬ (l.length : Int) ≤ 12 from by omega]
    refine answers_of rfl ?_; simp [itemsB, h]
theorem right1_spec (s : Spn) : Spec Tryz.prog 112 [.agg s.cells] (.v (.bool (spanB s 0 120000))) := by
  refine spec_of mixed Tryz.func112 (by decide) rfl Tryz.results112 Tryz.ntmps112 (by decide) 0 (by simp) ?_
  simp [Spn.cells]
  refine pop_spec (lspan_spec s 0 120000) rfl false (.inl (by simp [Spn.cells])) (.inl rfl) rfl (by simp) ?_
  simp
  refine answers_of rfl ?_; simp
def legB (ns : Int) (l : Leg) : Bool := itemsB l.items ns && inB l.fuel 0 20000 && spanB l.burn 0 20000 && spanB l.leak 0 20000
theorem trip1_spec (l : Leg) (ns : Int) (hl : l.items.length ≤ 9223372036854775807) (hns : 0 ≤ ns ∧ ns ≤ 9223372036854775807) : Spec Tryz.prog 121 [.agg l.cells, .rp [.v (.int .i64 ns)] 0] (.v (.bool (legB ns l))) := by
  refine spec_of mixed Tryz.func121 (by decide) rfl Tryz.results121 Tryz.ntmps121 (by decide) 0 (by simp) ?_
  simp [Leg.cells, itmL]
  refine pop_spec (litems_spec l.items ns hl hns) rfl false (.inl (by simp [itmL])) (.inl rfl) rfl (by simp) ?_
  cases h1 : itemsB l.items ns with
  | false => simp; refine answers_of rfl ?_; simp [legB, h1]
  | true =>
    simp
    refine pop_specF [(11, ints [l.fuel])] ?_ (lkilos_spec [l.fuel] (by simp)) rfl false (.inl (by simp [ints])) (.inl rfl) rfl (by simp) ?_
    · simp [ints, geti]
    rw [kilosB_one]
    cases h2 : inB l.fuel 0 20000 with
    | false => simp; refine answers_of rfl ?_; simp [legB, h2]
    | true =>
      simp
      refine pop_spec (lspan_spec l.burn 0 20000) rfl false (.inl (by simp [Spn.cells])) (.inl rfl) rfl (by simp) ?_
      cases h3 : spanB l.burn 0 20000 with
      | false => simp; refine answers_of rfl ?_; simp [legB, h3]
      | true =>
        simp
        refine pop_spec (lspan_spec l.leak 0 20000) rfl false (.inl (by simp [Spn.cells])) (.inl rfl) rfl (by simp) ?_
        simp
        refine answers_of rfl ?_; simp [legB, h1, h2, h3]
def tripE (fuel : Spn) (legs : List Leg) (ns : Int) : Int := if 6 < legs.length then 3 else if legs.length = 0 ∨ spanB fuel 0 20000 = false ∨ (allN legs.length fun k => legB ns (legAt legs k)) = false then 2 else 0
theorem trip_spec (fuel : Spn) (legs : List Leg) (ns : Int) (hl : legs.length ≤ 9223372036854775807) (hi : ∀ k, k < legs.length → (legAt legs k).items.length ≤ 9223372036854775807) (hns : 0 ≤ ns ∧ ns ≤ 9223372036854775807) :
    Spec Tryz.prog 97 [.agg fuel.cells, legL legs, .v (.int .i64 ns)] (.v (.int .i64 (tripE fuel legs ns))) := by
  refine spec_of mixed Tryz.func97 (by decide) rfl Tryz.results97 Tryz.ntmps97 (by decide) 0 (by simp) ?_
  simp [legL, Spn.cells]
  by_cases h : 6 < legs.length
  · simp [show (6 : Int) < legs.length from by omega]
    refine answers_of rfl ?_; simp [tripE, h]
  · simp [show ¬ (6 : Int) < legs.length from by omega]
    refine pop_specF [(5, .undef), (12, .clo (.func 121) [] [.rp [.v (.int .i64 ns)] 0])] (by simp) (allLeg_spec legs hl 121 [] [.rp [.v (.int .i64 ns)] 0] rfl rfl (fun k => legB ns (legAt legs k)) fun k hk => trip1_spec (legAt legs k) ns (hi k hk) hns) rfl false (.inl (by simp [legL])) (.inl rfl) rfl (by simp) ?_
    simp
    by_cases h0 : legs = []
    · subst h0
      simp
      refine answers_of rfl ?_
      simp [tripE]
    · have h9 : ¬ legs.length = 0 := fun e => h0 (List.eq_nil_of_length_eq_zero e)
      simp [h0]
      refine pop_spec (lspan_spec fuel 0 20000) rfl false (.inl (by simp [Spn.cells])) (.inl rfl) rfl (by simp) ?_
      cases h1 : spanB fuel 0 20000 with
      | false => simp [h0]; refine answers_of rfl ?_; simp [tripE, h, h1]
      | true =>
        simp [h0]
        cases h2 : allN legs.length fun k => legB ns (legAt legs k) with
        | false => simp [h0]; refine answers_of rfl ?_; simp [tripE, h, h2]
        | true => simp [h0]; trace_state; refine answers_of rfl ?_; simp [tripE, h, h0, h9, h1, h2]
end Go.Qg

