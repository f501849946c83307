/-
  Lemmas and contracts that hold of the whole program: 17 texts in one.
  No condition.
-/
import Derived.Test.YtedglnagjjplbaaGreatZ6
import Derived.ProofKit
import Derived.OpenShut
import Derived.ChangeOld
import Derived.ChangeBears
import Derived.Deep.Slices
import Derived.Below
import Derived.KernelRfl
import Derived.Test.YtedglnagjjplbaaGreatRows
set_option linter.all false

namespace Go.Qg
open Go.ChangeShapes Go.WideShapes Go.ChangeAt Go.RowKit
def TypF (R : TypeId → List PV → Prop) : List TypeId → List PV → Prop
  | [], ps => ps = []
  | t :: ts, ps => ∃ p q, ps = p ++ q ∧ R t p ∧ TypF R ts q
def tdef (P : Program) : Nat → TypeId → List PV
  | 0, _ => []
  | n + 1, t => match P.underlying t with
    | some .bool => [.v (.bool false)]
    | some (.int k) => [.v (.int k 0)]
    | some .string => [.v (.string ByteArray.empty)]
    | some (.slice e) => [.sl (P.cellsOf e) 0 fun _ => tdef P n e]
    | some (.struct fs) => (fs.toList.map fun f => tdef P n f.type).flatten
    | some (.array m e) => (List.replicate m (tdef P n e)).flatten
    | _ => []
def Typ (P : Program) : Nat → TypeId → List PV → Prop
  | 0, _, _ => False
  | n + 1, t, ps => match P.underlying t with
    | some .bool => ∃ b, ps = [.v (.bool b)]
    | some (.int k) => ∃ x, ps = [.v (.int k x)] ∧ k.min ≤ x ∧ x ≤ k.max
    | some .string => ∃ s : ByteArray, ps = [.v (.string s)] ∧ s.size ≤ maxLen
    | some (.slice e) => ∃ (m : Nat) (f : Nat → List PV), ps = [.sl (P.cellsOf e) m f] ∧ m ≤ maxLen ∧ (∀ i, i < m → Typ P n e (f i)) ∧ ∀ i, m ≤ i → f i = tdef P n e
    | some (.struct fs) => TypF (Typ P n) (fs.toList.map (·.type)) ps
    | some (.array m e) => TypF (Typ P n) (List.replicate m e) ps
    | _ => False
def sup (P : Program) : Nat → TypeId → Bool
  | 0, _ => false
  | n + 1, t => match P.underlying t with
    | some .bool | some (.int _) | some .string => true
    | some (.slice e) | some (.array _ e) => sup P n e
    | some (.struct fs) => fs.toList.all fun f => sup P n f.type
    | _ => false
structure RowRep (w : World) (R : Nat → Nat → Prop) (Γ : Nat → Option Loc) (cs : List Value) (ps : List PV) : Prop where
  len : cs.length = ps.length
  each : ∀ (i : Nat) (u : Value) (p : PV), cs[i]? = some u → ps[i]? = some p → Rep w R Γ u p
  one : ∀ p ∈ ps, p.one = true ∧ p.names = []
section
variable {w : World} {R : Nat → Nat → Prop} {Γ : Nat → Option Loc}
theorem RowRep.single {u : Value} {p : PV} (h : Rep w R Γ u p) (h1 : p.one = true) (h2 : p.names = []) : RowRep w R Γ [u] [p] := by
  refine ⟨rfl, fun i v q hv hq => ?_, fun q hq => ?_⟩
  · match i, hv, hq with
    | 0, hv, hq =>
      obtain rfl := Option.some.inj hv
      obtain rfl := Option.some.inj hq
      exact h
  · obtain rfl := List.mem_singleton.1 hq
    exact ⟨h1, h2⟩
theorem RowRep.nil : RowRep w R Γ [] [] := ⟨rfl, fun i u p h => by simp at h, fun p h => by cases h⟩
theorem RowRep.append {cs cs' : List Value} {ps ps' : List PV} (h : RowRep w R Γ cs ps) (k : RowRep w R Γ cs' ps') : RowRep w R Γ (cs ++ cs') (ps ++ ps') := by
  refine ⟨by simp [h.len, k.len], fun i u p hu hp => ?_, fun p hp => ?_⟩
  · have hl := h.len
    by_cases hi : i < cs.length
    · rw [List.getElem?_append_left hi] at hu
      rw [List.getElem?_append_left (by omega)] at hp
      exact h.each i u p hu hp
    · rw [List.getElem?_append_right (by omega)] at hu hp
      rw [← hl] at hp
      exact k.each _ u p hu hp
  · rcases List.mem_append.1 hp with hp | hp
    · exact h.one p hp
    · exact k.one p hp
end
section
variable {H : Type} {enc : TypeId × Value → H} {P : Program} {w : World} {spare : Nat → Bool} {held : Bool} {Γ : Nat → Option Loc}
def there (w : World) (b o : Nat) : Prop := ∃ v, w.cell? ⟨b, o, none⟩ = some v
theorem cells_get {base : Nat} {a : Addr} {n : Nat} {cs : List Value} (h : w.cells? base a n = some cs) : cs.length = n ∧ ∀ i, i < n → w.cell? (a.add i) = cs[i]? := by
  unfold World.cells? at h
  split at h
  · refine ⟨by simpa using mapM_some_length h, fun i hi => ?_⟩
    have := mapM_some_get h i i (by simp [hi])
    exact this
  · cases h
theorem fields_row {n : Nat} {cs : List Value} (ih : ∀ (t : TypeId) (cs : List Value), t < P.types.size → sup P n t = true → (∃ fuel x, DataW.trod enc P w 0 spare held fuel t cs = some x) → ∃ ps, Typ P n t ps ∧ RowRep w (there w) Γ cs ps) :
    ∀ (fs : List Field) (o : Nat), (∀ f ∈ fs, f.type < P.types.size ∧ sup P n f.type = true) → (∀ (j : Nat) f, fs[j]? = some f → f.offset = o + ((fs.take j).map fun f => P.cellsOf f.type).sum) →
      (∀ f ∈ fs, ∃ fuel x, DataW.trod enc P w 0 spare held fuel f.type ((cs.drop f.offset).take (P.cellsOf f.type)) = some x) → cs.length = o + (fs.map fun f => P.cellsOf f.type).sum →
      ∃ ps, TypF (Typ P n) (fs.map (·.type)) ps ∧ RowRep w (there w) Γ (cs.drop o) ps
  | [], o, _, _, _, hl => by
    refine ⟨[], rfl, ?_⟩
    rw [List.drop_of_length_le (by simp at hl; omega)]
    exact .nil
  | f :: fs, o, h1, h2, h3, hl => by
    have ho : f.offset = o := by simpa using h2 0 f rfl
    obtain ⟨hf1, hf2⟩ := h1 f List.mem_cons_self
    have h4 := h3 f List.mem_cons_self
    rw [ho] at h4
    obtain ⟨p, hp1, hp2⟩ := ih f.type _ hf1 hf2 h4
    obtain ⟨q, hq1, hq2⟩ := fields_row ih fs (o + P.cellsOf f.type) (fun g hg => h1 g (List.mem_cons_of_mem _ hg)) (fun j g hg => by
      have := h2 (j + 1) g (by simpa using hg)
      simp only [List.take_succ_cons, List.map_cons, List.sum_cons] at this
      omega) (fun g hg => h3 g (List.mem_cons_of_mem _ hg)) (by simp only [List.map_cons, List.sum_cons] at hl; omega)
    refine ⟨p ++ q, ⟨p, q, rfl, hp1, hq1⟩, ?_⟩
    have e : cs.drop o = (cs.drop o).take (P.cellsOf f.type) ++ cs.drop (o + P.cellsOf f.type) := by
      rw [← List.drop_drop, List.take_append_drop]
    rw [e]
    exact hp2.append hq2
theorem parts_row {n : Nat} {e : TypeId} {cs : List Value} (ih : ∀ (t : TypeId) (cs : List Value), t < P.types.size → sup P n t = true → (∃ fuel x, DataW.trod enc P w 0 spare held fuel t cs = some x) → ∃ ps, Typ P n t ps ∧ RowRep w (there w) Γ cs ps)
    (he : e < P.types.size) (hs : sup P n e = true) : ∀ (m o : Nat), (∀ i, o ≤ i → i < o + m → ∃ fuel x, DataW.trod enc P w 0 spare held fuel e ((cs.drop (i * P.cellsOf e)).take (P.cellsOf e)) = some x) → cs.length = (o + m) * P.cellsOf e →
      ∃ ps, TypF (Typ P n) (List.replicate m e) ps ∧ RowRep w (there w) Γ (cs.drop (o * P.cellsOf e)) ps
  | 0, o, _, hl => by
    refine ⟨[], rfl, ?_⟩
    rw [List.drop_of_length_le (by simp at hl; omega)]
    exact .nil
  | m + 1, o, h, hl => by
    obtain ⟨p, hp1, hp2⟩ := ih e _ he hs (h o (Nat.le_refl _) (by omega))
    obtain ⟨q, hq1, hq2⟩ := parts_row ih he hs m (o + 1) (fun i h1 h2 => h i (by omega) (by omega)) (by rw [hl]; congr 1; omega)
    refine ⟨p ++ q, by rw [List.replicate_succ]; exact ⟨p, q, rfl, hp1, hq1⟩, ?_⟩
    have e : cs.drop (o * P.cellsOf e) = (cs.drop (o * P.cellsOf e)).take (P.cellsOf e) ++ cs.drop ((o + 1) * P.cellsOf e) := by
      rw [Nat.add_mul, Nat.one_mul, ← List.drop_drop, List.take_append_drop]
    rw [e]
    exact hp2.append hq2
theorem trod_arr {fuel : Nat} {t e : TypeId} {m : Nat} {cs : List Value} {x : DataW H × List MemPlace} (ht : P.underlying t = some (.array m e)) (h : DataW.trod enc P w 0 spare held fuel t cs = some x) :
    cs.length = P.cellsOf t ∧ ∀ i, i < m → ∃ fuel x, DataW.trod enc P w 0 spare held fuel e ((cs.drop (i * P.cellsOf e)).take (P.cellsOf e)) = some x := by
  cases fuel with
  | zero => simp [DataW.trod] at h
  | succ n =>
    unfold DataW.trod at h
    rw [ht] at h
    split at h <;> simp_all
    obtain ⟨hl, xs, hp, hd⟩ := h
    intro i hi
    have h1 := mapM_some_get hp i i (by simp [hi])
    have h2 := mapM_some_length hp
    simp only [List.length_range] at h2
    refine ⟨n, (xs[i]'(by omega)).1, (xs[i]'(by omega)).2, ?_⟩
    rw [h1, List.getElem?_eq_getElem (by omega)]
theorem read_row (hl : laidOutB P = true) : ∀ (n : Nat) (t : TypeId) (cs : List Value), t < P.types.size → sup P n t = true → (∃ fuel x, DataW.trod enc P w 0 spare held fuel t cs = some x) → ∃ ps, Typ P n t ps ∧ RowRep w (there w) Γ cs ps
  | 0, _, _, _, h, _ => by cases h
  | n + 1, t, cs, ht, hs, ⟨fuel, x, h⟩ => by
    have ih := read_row hl n
    simp only [sup] at hs
    simp only [Typ]
    split at hs
    · rename_i hu
      obtain ⟨b, rfl, _⟩ := DataW.trod_bool hu h
      rw [hu]
      exact ⟨_, ⟨b, rfl⟩, .single (.v _ rfl) rfl rfl⟩
    · rename_i k hu
      obtain ⟨m, rfl, _, hw⟩ := DataW.trod_int hu h
      rw [hu]
      simp only [Lit.wf, Bool.and_eq_true, decide_eq_true_eq] at hw
      exact ⟨_, ⟨m, rfl, hw⟩, .single (.v _ rfl) rfl rfl⟩
    · rename_i hu
      obtain ⟨s, rfl, _, hw⟩ := DataW.trod_string hu h
      rw [hu]
      exact ⟨_, ⟨s, rfl, hw⟩, .single (.v _ rfl) rfl rfl⟩
    · rename_i e hu
      have he := kid_slice hl ht hu
      rw [hu]
      rcases Deep.open_slice hu h with ⟨rfl, _⟩ | ⟨a, len, cap, m, k, D, Pl, rfl, _, h1, h2, h3, _, h4⟩
      · refine ⟨_, ⟨0, fun _ => tdef P n e, rfl, Nat.zero_le _, fun i hi => by omega, fun _ _ => rfl⟩, .single (.sl none 0 0 _ _ (fun _ _ => undef) (Nat.le_refl _) (Nat.zero_le _) ?_ ?_ ?_ ?_) rfl rfl⟩
        · intro i hi; omega
        · intro i j p hi; omega
        · intro i j hi; omega
        · intro i j p hi; omega
      · have hlm : len ≤ m := by rw [h3]; split <;> omega
        have key : ∀ i, i < len → ∃ q : List Value × List PV, w.cells? 0 (a.add (i * P.cellsOf e)) (P.cellsOf e) = some q.1 ∧ Typ P n e q.2 ∧ RowRep w (there w) Γ q.1 q.2 := fun i hi => by
          obtain ⟨cs', g1, g2⟩ := h4 i (by omega)
          obtain ⟨ps, g3, g4⟩ := ih e cs' he hs ⟨k, _, g2⟩
          exact ⟨(cs', ps), g1, g3, g4⟩
        obtain ⟨q, hq⟩ := Deep.choose_lt key
        have hsz : ∀ i, i < len → (q i).1.length = P.cellsOf e ∧ (q i).2.length = P.cellsOf e := fun i hi => by
          have g1 := (cells_get (hq i hi).1).1
          have g2 := (hq i hi).2.2.len
          exact ⟨g1, by omega⟩
        have hspot : 0 < len → 0 < P.cellsOf e → a.spot = none := fun g1 g2 => by
          have g3 := (cells_get (hq 0 g1).1).2 0 g2
          have g4 : (q 0).1[0]? = some ((q 0).1[0]'(by rw [(hsz 0 g1).1]; exact g2)) := List.getElem?_eq_getElem _
          rw [g4] at g3
          have := World.cell?_spot g3
          simpa [Addr.add] using this
        have hcell : ∀ i j, i < len → j < P.cellsOf e → w.cell? ⟨a.block, a.off + (i * P.cellsOf e + j), none⟩ = some ((q i).1.getD j undef) := fun i j hi hj => by
          have g1 := (cells_get (hq i hi).1).2 j hj
          have g2 := hspot (by omega) (by omega)
          have e1 : (a.add (i * P.cellsOf e)).add j = ⟨a.block, a.off + (i * P.cellsOf e + j), none⟩ := by
            rw [Deep.add_add]
            obtain ⟨b, o, s⟩ := a
            simp only at g2
            subst g2
            unfold Addr.add
            split
            · rename_i h0; rw [h0]; rfl
            · rfl
          rw [e1] at g1
          rw [g1]
          have g3 := (hsz i hi).1
          rw [List.getD_eq_getElem?_getD, List.getElem?_eq_getElem (by omega)]; rfl
        have hf : ∀ i, i < len → (if i < len then (q i).2 else tdef P n e) = (q i).2 := fun i hi => if_pos hi
        refine ⟨_, ⟨len, fun i => if i < len then (q i).2 else tdef P n e, rfl, by omega, fun i hi => by simp only [hf i hi]; exact (hq i hi).2.1, fun i hi => if_neg (by omega)⟩, .single (.sl (some a) len cap _ _ (fun i j => (q i).1.getD j undef) h1 h2 (fun i hi => by simp only [hf i hi]; exact (hsz i hi).2) (fun i j p hi hp => by simp only [hf i hi] at hp; exact (hq i hi).2.2.one p (List.mem_of_getElem? hp)) (fun i j hi hj => ?_) fun i j p hi hp => ?_) rfl rfl⟩
        · refine ⟨a.block, a.off, ?_, ⟨_, hcell i j hi hj⟩, hcell i j hi hj⟩
          have := hspot (by omega) (by omega)
          obtain ⟨b, o, s⟩ := a
          simp only at this
          rw [this]
        · simp only [hf i hi] at hp
          have g1 := lt_of_get? hp
          have g2 := (hsz i hi)
          have g3 : (q i).1[j]? = some ((q i).1.getD j undef) := by
            rw [List.getD_eq_getElem?_getD, List.getElem?_eq_getElem (by omega)]; rfl
          exact (hq i hi).2.2.each j _ p g3 hp
    · rename_i m e hu
      obtain ⟨he, hc⟩ := kid_array hl ht hu
      rw [hu]
      obtain ⟨h1, h2⟩ := trod_arr hu h
      have := parts_row ih he hs m 0 (fun i _ hi => h2 i (by omega)) (by rw [h1, hc]; congr 1; omega)
      simpa using this
    · rename_i fs hu
      obtain ⟨k1, k2, k3⟩ := kid_struct hl ht hu
      rw [hu]
      obtain ⟨xs, k, rfl, _, h1, h2, h3⟩ := DataW.trod_struct hu h
      have := fields_row (cs := cs) ih fs.toList 0 (fun f hf => ⟨k1 f hf, List.all_eq_true.1 hs f hf⟩) (fun j f hf => by rw [k3 j f hf]; omega) (fun f hf => by
        obtain ⟨i, hi⟩ := List.mem_iff_getElem?.1 hf
        have hi' : fs[i]? = some f := by simpa using hi
        have := h3 i f hi'
        have hlt := (List.getElem?_eq_some_iff.1 hi).1
        refine ⟨k, xs[i]'(by rw [h2]; simpa using hlt), ?_⟩
        rw [this]; simp) (by rw [h1, k2]; omega)
      simpa using this
    · cases hs
def ArgP (P : Program) (n : Nat) (t : TypeId) (p : PV) : Prop := match P.underlying t with
  | some (.struct _) | some (.array _ _) => ∃ ps, p = .agg ps ∧ Typ P n t ps
  | _ => Typ P n t [p]
theorem read_arg (hl : laidOutB P = true) {n : Nat} {t : TypeId} {v : Value} {d : DataW H} {pl : List MemPlace} {base : Nat} (ht : t < P.types.size) (hs : sup P n t = true) (hok : Value.okWide P w .any base t v) (h : DataW.Trod enc P w 0 spare held t v d pl) :
    ∃ p, ArgP P n t p ∧ Rep w (there w) Γ v p := by
  obtain ⟨fuel, h⟩ := h
  obtain ⟨ps, h1, h2⟩ := read_row (Γ := Γ) hl n t _ ht hs ⟨fuel, _, h⟩
  unfold ArgP
  unfold Value.okWide at hok
  have agg : (∃ cs, v = .agg cs ∧ cs.size = P.cellsOf t ∧ Row.okWide P w .any base t cs) → ∃ p, (∃ ps, p = .agg ps ∧ Typ P n t ps) ∧ Rep w (there w) Γ v p := by
    rintro ⟨cs, rfl, _, _⟩
    refine ⟨.agg ps, ⟨ps, rfl, h1⟩, ?_⟩
    have := Rep.agg (w := w) (R := there w) (Γ := Γ) cs.toList ps h2.len (fun p hp => (h2.one p hp).1) fun i u p hu hp => h2.each i u p hu hp
    simpa using this
  split
  · rename_i hu
    rw [hu] at hok
    exact agg hok
  · rename_i hu
    rw [hu] at hok
    exact agg hok
  · rename_i hn1 hn2
    have one : v.cells.toList = [v] := by
      cases n with
      | zero => cases hs
      | succ n =>
        simp only [sup] at hs
        split at hs
        · rename_i hu
          obtain ⟨b, hc, _⟩ := DataW.trod_bool hu h
          cases v <;> simp_all [Value.cells, Cell.okWide, Cell.ok]
        · rename_i k hu
          obtain ⟨b, hc, _⟩ := DataW.trod_int hu h
          cases v <;> simp_all [Value.cells, Cell.okWide, Cell.ok]
        · rename_i hu
          obtain ⟨b, hc, _⟩ := DataW.trod_string hu h
          cases v <;> simp_all [Value.cells, Cell.okWide, Cell.ok]
        · rename_i e hu
          cases v <;> simp_all [Value.cells, Cell.okWide, Cell.ok]
        · rename_i m e hu
          exact absurd hu (hn2 m e)
        · rename_i fs hu
          exact absurd hu (hn1 fs)
        · cases hs
    rw [one] at h2
    obtain ⟨p, rfl⟩ : ∃ p, ps = [p] := by
      have := h2.len
      match ps, this with
      | [p], _ => exact ⟨p, rfl⟩
    exact ⟨p, h1, h2.each 0 v p rfl rfl⟩
theorem read_args (hl : laidOutB P = true) {n : Nat} {base : Nat} : ∀ {ts : List TypeId} {vs : List Value} {ds : List (DataW H)} {pl : List MemPlace}, (∀ t ∈ ts, t < P.types.size ∧ sup P n t = true) →
    (∀ (j : Nat) t v, ts[j]? = some t → vs[j]? = some v → Value.okWide P w .any base t v) → DataW.TrodAll enc P w 0 spare held ts vs ds pl →
    ∃ args : List PV, vs.length = args.length ∧ ts.length = args.length ∧ (∀ (j : Nat) t p, ts[j]? = some t → args[j]? = some p → ArgP P n t p) ∧ ∀ (i : Nat) (u : Value) (p : PV), vs[i]? = some u → args[i]? = some p → Rep w (there w) Γ u p
  | [], vs, ds, pl, _, _, h => by
    obtain ⟨rfl, rfl, rfl⟩ := trodAll_nil h
    exact ⟨[], rfl, rfl, fun j t p hj => by simp at hj, fun i u p hu => by simp at hu⟩
  | t :: ts, vs, ds, pl, h1, h2, h => by
    obtain ⟨v, vs, d, ds, p, q, rfl, rfl, rfl, g1, g2⟩ := trodAll_cons h
    obtain ⟨args, k1, k2, k3, k4⟩ := read_args hl (fun t ht => h1 t (List.mem_cons_of_mem _ ht)) (fun j t v ht hv => h2 (j + 1) t v (by simpa using ht) (by simpa using hv)) g2
    obtain ⟨ht, hs⟩ := h1 t List.mem_cons_self
    obtain ⟨a, k5, k6⟩ := read_arg (Γ := Γ) hl ht hs (h2 0 t v rfl rfl) g1
    refine ⟨a :: args, by simp [k1], by simp [k2], fun j t p ht hp => ?_, fun i u p hu hp => ?_⟩
    · cases j with
      | zero =>
        obtain rfl := Option.some.inj ht
        obtain rfl := Option.some.inj hp
        exact k5
      | succ j => exact k3 j t p (by simpa using ht) (by simpa using hp)
    · cases i with
      | zero =>
        obtain rfl := Option.some.inj hu
        obtain rfl := Option.some.inj hp
        exact k6
      | succ i => exact k4 i u p (by simpa using hu) (by simpa using hp)
theorem again_args (hl : laidOutB P = true) {w' : World} (hb : Below w.heap.size w w') : ∀ {ts : List TypeId} {vs : List Value} {ds : List (DataW H)} {pl : List MemPlace}, (∀ t ∈ ts, t < P.types.size ∧ P.readableRec t = true) → (∀ x ∈ pl, x.block < w.heap.size) →
    DataW.TrodAll enc P w 0 (fun _ => true) true ts vs ds pl → DataW.TrodAll enc P w' 0 (fun b => decide (b < w.heap.size)) true ts vs ds pl
  | [], vs, ds, pl, _, _, h => by
    obtain ⟨rfl, rfl, rfl⟩ := trodAll_nil h
    exact trodAll_mk0
  | t :: ts, vs, ds, pl, h1, h2, h => by
    obtain ⟨v, vs, d, ds, p, q, rfl, rfl, rfl, g1, g2⟩ := trodAll_cons h
    obtain ⟨ht, hr⟩ := h1 t List.mem_cons_self
    exact trodAll_cons_mk (Go.RowKit.Below.trod hl hr ht g1 hb fun x hx => h2 x (List.mem_append_left _ hx)) (again_args hl hb (fun t ht => h1 t (List.mem_cons_of_mem _ ht)) (fun x hx => h2 x (List.mem_append_right _ hx)) g2)
theorem law_calls {f : FuncId} {args : List PV} {vs : Array Value} (hT : tabOk (· < w.heap.size) w) (h : Spec P f args (.v (.bool true))) (hl : vs.toList.length = args.length) (hv : ∀ (i : Nat) (u : Value) (p : PV), vs.toList[i]? = some u → args[i]? = some p → Rep w (there w) (fun _ => none) u p) :
    Calls P f vs w fun e w' => e = .returned (.bool true) ∧ Below w.heap.size w w' := by
  have hb : ∀ b o, there w b o → b < w.heap.size := fun b o ⟨v, hv⟩ => by
    unfold World.cell? at hv
    split at hv
    · rename_i hh
      exact (Array.getElem?_eq_some_iff.1 hh).1
    · cases hv
  have hsim : Sim 0 ⟨(· < w.heap.size), w, there w, fun _ => none, 0, []⟩ (there w) (fun _ => none) noAct w [] :=
    ⟨rfl, Nat.le_refl _, fun t p h => by simp at h, fun i j l m b h => (by cases h), fun i l h => (by cases h), hb, fun b o h => .inl h, Kept.refl _ _, ⟨fun b h => h, hT⟩, Nat.le_refl _, fun j l _ h => (by cases h), rfl⟩
  have h1 := h.2 w vs.toList (there w) (fun _ => none) (· < w.heap.size) hb hsim hl hv
  refine (show Calls P f vs w _ from by simpa using h1).mono ?_
  rintro e w' ⟨R', Γ', ⟨v, r, H, rfl, hq, hr, hs, _⟩ | ⟨v, p, H, _, hq, _⟩⟩
  · injection hq with hq1 hq2
    subst hq1
    refine ⟨?_, hs.kept.below⟩
    cases hr
    rfl
  · cases hq
theorem sl_list {α : Type} [Inhabited α] (cells : α → List PV) (Q : α → Prop) {m : Nat} {f : Nat → List PV} (h : ∀ i, i < m → ∃ a, f i = cells a ∧ Q a) (hd : ∀ i, m ≤ i → f i = cells default) : ∃ l : List α, l.length = m ∧ (f = fun i => cells (l.getD i default)) ∧ ∀ a ∈ l, Q a := by
  obtain ⟨g, hg⟩ := Deep.choose_lt h
  refine ⟨(List.range m).map g, by simp, funext fun i => ?_, fun a ha => ?_⟩
  · by_cases hi : i < m
    · rw [(hg i hi).1, List.getD_eq_getElem?_getD]; simp [hi]
    · rw [hd i (by omega), List.getD_eq_getElem?_getD]; simp [hi]
  · obtain ⟨i, hi, rfl⟩ := List.mem_map.1 ha
    exact (hg i (List.mem_range.1 hi)).2
theorem tabs_none (W : World) : tabOk (· < W.heap.size) W := by simp [tabOk, seatTabs]
theorem law_lifted {C : Checked} {os : Os} {f : FuncId} {fn : Func} {s : ChangeSpec} {conds : List PathCond} (n : Nat) {tb : TypeId}
    (own : ownKnob C.prog.godebug = none) (started : os.Started) (noInit : C.prog.inits.idxOf? f = none) (hfn : C.prog.funcs[f]? = some fn)
    (witness : ∃ (w : World) (tape : Tape) (i : Input), w.os = os ∧ (w.forCall tape i).Shaped C.prog ∧ i.vars = [] ∧ Input.okWide C.prog (w.forCall tape i) .any w.heap.size f i ∧
      s.pre6 enc C.prog fn conds false (w.forCall tape i).memory i.args ∧ ({} : Assume).holds C.prog (lone (Frame.enter C.prog f i.args .normal) [] (w.forCall tape i)))
    (hl : laidOutB C.prog = true) (hvars : s.vars = []) (hts : (fn.params.toList.all fun t => decide (t < C.prog.types.size) && sup C.prog n t && C.prog.readableRec t) = true) (hres : fn.resultTypes = #[tb]) (htb : C.prog.underlying tb = some .bool)
    (hs : ∀ ds : List (DataW H), ds.length = fn.params.size → (s.fn H ds).results = [.lit (.bool true)] ∧ (s.fn H ds).args = ds ∧ (s.fn H ds).vars = [])
    (spec : ∀ args : List PV, fn.params.toList.length = args.length → (∀ (j : Nat) t p, fn.params.toList[j]? = some t → args[j]? = some p → ArgP C.prog n t p) → Spec C.prog f args (.v (.bool true))) :
    ReturnsInHanded {} C os f .any (s.pre6 enc C.prog fn conds false) (s.post enc C.prog fn false true false false) := by
  refine returnsInHanded_of_change (C := C) own started noInit hfn witness ?_
  intro W base args ds gs before hval hW _ _
  have hW' := hW
  obtain ⟨p, q, hA, hV, rfl, _, _⟩ := hW
  rw [hvars] at hV
  obtain ⟨rfl, rfl⟩ := trodVars_none hV
  have ht : ∀ t ∈ fn.params.toList, (t < C.prog.types.size ∧ sup C.prog n t = true) ∧ C.prog.readableRec t = true := fun t ht => by
    have := List.all_eq_true.1 hts t ht
    simpa only [Bool.and_eq_true, decide_eq_true_eq] using this
  obtain ⟨avs, k1, k2, k3, k4⟩ := read_args (Γ := fun _ => none) hl (fun t h => (ht t h).1) (fun j t v h1 h2 => hval j t v (by simpa using h1) (by simpa using h2)) hA
  have hlen : ds.length = fn.params.size := by
    have key : ∀ (ts : List TypeId) (vs : List Value) (ds : List (DataW H)) (ps : List MemPlace), DataW.TrodAll enc C.prog W 0 (fun _ => true) true ts vs ds ps → ds.length = ts.length := by
      intro ts
      induction ts with
      | nil => intro vs ds ps h; obtain ⟨_, rfl, _⟩ := trodAll_nil h; rfl
      | cons t ts ih =>
        intro vs ds ps h
        obtain ⟨v, vs, d, ds, a, b, rfl, rfl, rfl, _, h2⟩ := trodAll_cons h
        simp [ih _ _ _ h2]
    have := key _ _ _ _ hA
    simpa using this
  obtain ⟨s1, s2, s3⟩ := hs ds hlen
  refine (law_calls (tabs_none W) (spec avs k2 k3) k1 k4).mono fun e W' ⟨he, bel⟩ => ⟨_, he, ds, [], p ++ [], [], p, [], hW', ?_, ?_, ?_, bel.frame _, fun h => (by cases h)⟩
  · rw [List.append_nil, s1, hres]
    exact trodAll_mk1 (shut_bool htb _)
  · rw [List.append_nil, s2]
    exact again_args hl bel (fun t h => ⟨(ht t h).1.1, (ht t h).2⟩) (fun x hx => by simpa using hW'.lt x (by simpa using hx)) hA
  · rw [hvars, List.append_nil, s3]; rfl
end
end Go.Qg



namespace Go.Qg
open Go.Proofs
set_option maxRecDepth 100000
set_option maxHeartbeats 32000000
attribute [local irreducible] pwp pops pdraw pop popCall pdCall thenP blockP scopeP pspec Spec answers ppost CallW rend
theorem t1in_spec (n lo hi : Int) : Spec Tryz.prog 45 [.v (.int .i64 n), .v (.int .i64 lo), .v (.int .i64 hi)] (.v (.bool (inB n lo hi))) := by
  refine spec_of mixed Tryz.func45 (by decide) rfl Tryz.results45 Tryz.ntmps45 (by decide) 0 (by simp) ?_
  by_cases h1 : lo ≤ n
  · by_cases h2 : n ≤ hi <;> (simp [h1, h2]; refine answers_of rfl ?_; simp [inB, h1, h2])
  · simp [h1]; refine answers_of rfl ?_; simp [inB, h1]
theorem t1Span_spec (s : Spn) (lo hi : Int) : Spec Tryz.prog 49 [.agg s.cells, .v (.int .i64 lo), .v (.int .i64 hi)] (.v (.bool (spanB s lo hi))) := by
  refine spec_of mixed Tryz.func49 (by decide) rfl Tryz.results49 Tryz.ntmps49 (by decide) 0 (by simp) ?_
  simp [Spn.cells]
  by_cases h1 : lo ≤ s.low
  · by_cases h2 : s.low ≤ s.high
    · by_cases h3 : s.high ≤ hi <;> (simp [h1, h2, h3]; refine answers_of rfl ?_; simp [spanB, h1, h2, h3])
    · simp [h1, h2, Int.not_le.1 h2]
      refine answers_of rfl ?_; simp [spanB, h1, h2]
  · simp [h1, Int.not_le.1 h1]; refine answers_of rfl ?_; simp [spanB, h1]
theorem t1Gauge_spec (g : Gge) (hl : g.readings.length ≤ 9223372036854775807) : Spec Tryz.prog 99 [.agg g.cells] (.v (.bool (gaugeB g))) := by
  refine spec_of mixed Tryz.func99 (by decide) rfl Tryz.results99 Tryz.ntmps99 (by decide) 0 (by simp) ?_
  simp [Gge.cells, rdgL]
  refine pwp_loop (fun k : Nat => [(3, .v (.int .i64 k))]) (fun k => k ≤ g.readings.length ∧ ∀ j, j < k → rdgB (rdgAt g.readings j) = true) (fun k => g.readings.length - k) 0 ⟨Nat.zero_le _, fun j hj => by omega⟩ (by simp; rfl) (by simp) ?_
  intro k ⟨hk, hp⟩
  by_cases hkl : k < g.readings.length
  · have fin : ∀ {b : Bool}, rdgB (rdgAt g.readings k) = b → b = false → gaugeB g = false := fun h1 h2 => by
      simp [gaugeB, allN_false (p := fun k => rdgB (rdgAt g.readings k)) hkl (h1.trans h2)]
    simp [hkl, Rdg.cells]
    refine pop_spec (t1in_spec (rdgAt g.readings k).minute 0 1440) rfl false (.inl (by simp)) (.inl rfl) rfl (by simp) ?_
    cases h1 : inB (rdgAt g.readings k).minute 0 1440 with
    | false => simp; refine answers_of rfl ?_; simp [fin (b := false) (by simp [rdgB, h1]) rfl]
    | true =>
    simp
    refine pop_spec (t1Span_spec ⟨(rdgAt g.readings k).low, (rdgAt g.readings k).high⟩ (-100000) 100000) rfl false (.inl (by simp [Spn.cells])) (.inl rfl) rfl (by simp) ?_
    cases h2 : spanB ⟨(rdgAt g.readings k).low, (rdgAt g.readings k).high⟩ (-100000) 100000 with
    | false => simp; refine answers_of rfl ?_; simp [fin (b := false) (by simp [rdgB, h1, h2]) rfl]
    | true =>
    simp
    refine pop_spec (t1in_spec (rdgAt g.readings k).source 0 7) rfl false (.inl (by simp)) (.inl rfl) rfl (by simp) ?_
    cases h3 : inB (rdgAt g.readings k).source 0 7 with
    | false => simp; refine answers_of rfl ?_; simp [fin (b := false) (by simp [rdgB, h1, h2, h3]) rfl]
    | true =>
    simp
    refine again_of (k + 1) ⟨by omega, fun j hj => ?_⟩ (by omega) ?_
    · rcases Nat.lt_succ_iff_lt_or_eq.1 hj with hj | rfl
      · exact hp j hj
      · simp [rdgB, h1, h2, h3]
    · simp [i64_wrap (show -9223372036854775808 ≤ (k : Int) + 1 ∧ _ from by omega)]
  · obtain rfl : k = g.readings.length := by omega
    have ha := allN_spec.2 hp
    simp
    refine pop_spec (t1in_spec g.rate 0 1000) rfl false (.inl (by simp)) (.inl rfl) rfl (by simp) ?_
    cases h1 : inB g.rate 0 1000 with
    | false => simp; refine answers_of rfl ?_; simp [gaugeB, h1]
    | true =>
    simp
    refine pop_spec (t1Span_spec ⟨g.least, g.most⟩ (-100000) 100000) rfl false (.inl (by simp [Spn.cells])) (.inl rfl) rfl (by simp) ?_
    cases h2 : spanB ⟨g.least, g.most⟩ (-100000) 100000 with
    | false => simp; refine answers_of rfl ?_; simp [gaugeB, h2]
    | true =>
    simp
    refine answers_of rfl ?_; simp [gaugeB, h1, h2, ha]; omega
def withinB (g : Gge) (lo hi : Int) : Bool := gaugeB g && decide (lo ≤ g.least) && decide (g.most ≤ hi)
theorem t1within_spec (g : Gge) (lo hi : Int) (hl : g.readings.length ≤ 9223372036854775807) : Spec Tryz.prog 28 [.agg g.cells, .v (.int .i64 lo), .v (.int .i64 hi)] (.v (.bool (withinB g lo hi))) := by
  refine spec_of mixed Tryz.func28 (by decide) rfl Tryz.results28 Tryz.ntmps28 (by decide) 0 (by simp) ?_
  simp [Gge.cells, rdgL]
  refine pop_spec (t1Gauge_spec g hl) rfl false (.inl (by simp [Gge.cells, rdgL])) (.inl rfl) rfl (by simp) ?_
  cases h1 : gaugeB g with
  | false => simp; refine answers_of rfl ?_; simp [withinB, h1]
  | true =>
  by_cases h2 : lo ≤ g.least
  · by_cases h3 : g.most ≤ hi <;> (simp [h2, h3]; refine answers_of rfl ?_; simp [withinB, h1, h2, h3])
  · simp [h2]; refine answers_of rfl ?_; simp [withinB, h2]
structure Wth where
  tide : Gge
  east : Gge
  north : Gge
  wave : Gge
  swell : Gge
  deriving Inhabited
def Wth.cells (w : Wth) : List PV := wthC w.tide w.east w.north w.wave w.swell
def WthMem (w : Wth) : Prop := w.tide.readings.length ≤ 9223372036854775807 ∧ w.east.readings.length ≤ 9223372036854775807 ∧ w.north.readings.length ≤ 9223372036854775807 ∧ w.wave.readings.length ≤ 9223372036854775807 ∧ w.swell.readings.length ≤ 9223372036854775807
def weatherB (w : Wth) : Bool := withinB w.tide (-2000) 2000 && withinB w.east (-300) 300 && withinB w.north (-300) 300 && withinB w.wave 0 2000 && withinB w.swell 0 2000
theorem t1Weather_spec (w : Wth) (hw : WthMem w) : Spec Tryz.prog 6 [.agg w.cells] (.v (.bool (weatherB w))) := by
  obtain ⟨m1, m2, m3, m4, m5⟩ := hw
  refine spec_of mixed Tryz.func6 (by decide) rfl Tryz.results6 Tryz.ntmps6 (by decide) 0 (by simp) ?_
  simp [Wth.cells, wthC, rdgL]
  refine pop_spec (t1within_spec w.tide (-2000) 2000 m1) rfl false (.inl (by simp [Gge.cells, rdgL])) (.inl rfl) rfl (by simp) ?_
  cases h1 : withinB w.tide (-2000) 2000 with
  | false => simp; refine answers_of rfl ?_; simp [weatherB, h1]
  | true =>
  simp
  refine pop_spec (t1within_spec w.east (-300) 300 m2) rfl false (.inl (by simp [Gge.cells, rdgL])) (.inl rfl) rfl (by simp) ?_
  cases h2 : withinB w.east (-300) 300 with
  | false => simp; refine answers_of rfl ?_; simp [weatherB, h2]
  | true =>
  simp
  refine pop_spec (t1within_spec w.north (-300) 300 m3) rfl false (.inl (by simp [Gge.cells, rdgL])) (.inl rfl) rfl (by simp) ?_
  cases h3 : withinB w.north (-300) 300 with
  | false => simp; refine answers_of rfl ?_; simp [weatherB, h3]
  | true =>
  simp
  refine pop_spec (t1within_spec w.wave 0 2000 m4) rfl false (.inl (by simp [Gge.cells, rdgL])) (.inl rfl) rfl (by simp) ?_
  cases h4 : withinB w.wave 0 2000 with
  | false => simp; refine answers_of rfl ?_; simp [weatherB, h4]
  | true =>
  simp
  refine pop_spec (t1within_spec w.swell 0 2000 m5) rfl false (.inl (by simp [Gge.cells, rdgL])) (.inl rfl) rfl (by simp) ?_
  simp
  refine answers_of rfl ?_; simp [weatherB, h1, h2, h3, h4]
end Go.Qg


namespace Go.Qg
open Go.Proofs
set_option maxRecDepth 100000
theorem lenOk {n : Nat} (h : n ≤ maxLen) : n ≤ 9223372036854775807 := h
def intOk (x : Int) : Prop := -9223372036854775808 ≤ x ∧ x ≤ 9223372036854775807
theorem intOk_of {x : Int} (h : IntKind.i64.min ≤ x ∧ x ≤ IntKind.i64.max) : intOk x := h
section
open Tryz
theorem t_int {n : Nat} {ps : List PV} (h : Typ Tryz.prog (n + 1) 3 ps) : ∃ x, ps = [.v (.int .i64 x)] ∧ intOk x := by
  simp only [Typ, Tryz.underlying3] at h
  obtain ⟨x, h1, h2⟩ := h
  exact ⟨x, h1, intOk_of h2⟩
theorem d_int {n : Nat} : tdef Tryz.prog (n + 1) 3 = [.v (.int .i64 0)] := by simp only [tdef, Tryz.underlying3]
theorem t_bool {n : Nat} {ps : List PV} (h : Typ Tryz.prog (n + 1) 4 ps) : ∃ x, ps = [.v (.bool x)] := by
  simpa only [Typ, Tryz.underlying4] using h
theorem d_bool {n : Nat} : tdef Tryz.prog (n + 1) 4 = [.v (.bool false)] := by simp only [tdef, Tryz.underlying4]
theorem cells_int : Tryz.prog.cellsOf 3 = 1 := by kernel_rfl
theorem t_ints {n : Nat} {ps : List PV} (h : Typ Tryz.prog (n + 2) 28 ps) : ∃ l : List Int, ps = [ints l] ∧ l.length ≤ 9223372036854775807 ∧ ∀ x ∈ l, intOk x := by
  unfold Typ at h
  simp only [Tryz.underlying28, cells_int] at h
  obtain ⟨m, f, h1, h2, h3, h4⟩ := h
  obtain ⟨l, g1, g2, g3⟩ := sl_list (α := Int) (fun x => [.v (.int .i64 x)]) intOk (fun i hi => t_int (h3 i hi)) (fun i hi => (h4 i hi).trans d_int)
  refine ⟨l, ?_, lenOk (by omega), g3⟩
  rw [h1, g2, ← g1]; rfl
theorem d_ints {n : Nat} : tdef Tryz.prog (n + 2) 28 = [ints []] := by
  unfold tdef
  simp only [Tryz.underlying28, cells_int, d_int]; rfl
theorem a_int {n : Nat} {p : PV} (h : ArgP Tryz.prog (n + 1) 3 p) : ∃ x, p = .v (.int .i64 x) ∧ intOk x := by
  simp only [ArgP, Tryz.underlying3] at h
  simpa using t_int h
theorem a_ints {n : Nat} {p : PV} (h : ArgP Tryz.prog (n + 2) 28 p) : ∃ l : List Int, p = ints l ∧ l.length ≤ 9223372036854775807 ∧ ∀ x ∈ l, intOk x := by
  simp only [ArgP, Tryz.underlying28] at h
  simpa using t_ints h
theorem t_struct {P : Program} {n : Nat} {t : TypeId} {ps : List PV} {fs : Array Field} (hu : P.underlying t = some (.struct fs)) (h : Typ P (n + 1) t ps) : TypF (Typ P n) (fs.toList.map (·.type)) ps := by
  unfold Typ at h
  rw [hu] at h
  exact h
theorem a_struct {P : Program} {n : Nat} {t : TypeId} {p : PV} {fs : Array Field} (hu : P.underlying t = some (.struct fs)) (h : ArgP P n t p) : ∃ ps, p = .agg ps ∧ Typ P n t ps := by
  unfold ArgP at h
  rw [hu] at h
  exact h
theorem d_struct {P : Program} {n : Nat} {t : TypeId} {fs : Array Field} (hu : P.underlying t = some (.struct fs)) : tdef P (n + 1) t = (fs.toList.map fun f => tdef P n f.type).flatten := by
  simp only [tdef, hu]
theorem t_slice {P : Program} {n : Nat} {t e : TypeId} {ps : List PV} {c : Nat} (hu : P.underlying t = some (.slice e)) (hc : P.cellsOf e = c) (h : Typ P (n + 1) t ps) : ∃ (m : Nat) (f : Nat → List PV), ps = [.sl c m f] ∧ m ≤ 9223372036854775807 ∧ (∀ i, i < m → Typ P n e (f i)) ∧ ∀ i, m ≤ i → f i = tdef P n e := by
  unfold Typ at h
  rw [hu] at h
  obtain ⟨m, f, h1, h2, h3, h4⟩ := h
  exact ⟨m, f, by rw [h1, hc], lenOk h2, h3, h4⟩
theorem d_slice {P : Program} {n : Nat} {t e : TypeId} {c : Nat} (hu : P.underlying t = some (.slice e)) (hc : P.cellsOf e = c) : tdef P (n + 1) t = [.sl c 0 fun _ => tdef P n e] := by
  simp only [tdef, hu, hc]
theorem a_slice {P : Program} {n : Nat} {t e : TypeId} {p : PV} (hu : P.underlying t = some (.slice e)) (h : ArgP P n t p) : Typ P n t [p] := by
  unfold ArgP at h
  rw [hu] at h
  exact h
theorem t_spn {n : Nat} {ps : List PV} (h : Typ Tryz.prog (n + 2) 37 ps) : ∃ r : Spn, ps = r.cells ∧ intOk r.low ∧ intOk r.high := by
  obtain ⟨p0, q0, rfl, h0, p1, q1, rfl, h1, rfl⟩ := t_struct Tryz.underlying37 h
  obtain ⟨x0, rfl, k0⟩ := t_int h0
  obtain ⟨x1, rfl, k1⟩ := t_int h1
  exact ⟨⟨x0, x1⟩, rfl, k0, k1⟩
theorem d_spn {n : Nat} : tdef Tryz.prog (n + 2) 37 = (default : Spn).cells := by
  rw [d_struct Tryz.underlying37]; simp [d_int]; rfl
theorem cells_spn : Tryz.prog.cellsOf 37 = 2 := by kernel_rfl
theorem t_rdg {n : Nat} {ps : List PV} (h : Typ Tryz.prog (n + 3) 126 ps) : ∃ r : Rdg, ps = r.cells ∧ True := by
  obtain ⟨p0, q0, rfl, h0, p1, q1, rfl, h1, p2, q2, rfl, h2, rfl⟩ := t_struct Tryz.underlying126 h
  obtain ⟨x0, rfl, k0⟩ := t_int h0
  obtain ⟨s, rfl, k1⟩ := t_spn h1
  obtain ⟨x2, rfl, k2⟩ := t_int h2
  exact ⟨⟨x0, s.low, s.high, x2⟩, rfl, trivial⟩
theorem d_rdg {n : Nat} : tdef Tryz.prog (n + 3) 126 = (default : Rdg).cells := by
  rw [d_struct Tryz.underlying126]; simp [d_int, d_spn]; rfl
theorem cells_rdg : Tryz.prog.cellsOf 126 = 4 := by kernel_rfl
theorem t_rdgs {n : Nat} {ps : List PV} (h : Typ Tryz.prog (n + 4) 22 ps) : ∃ l : List Rdg, ps = [rdgL l] ∧ l.length ≤ 9223372036854775807 := by
  obtain ⟨m, f, h1, h2, h3, h4⟩ := t_slice Tryz.underlying22 cells_rdg h
  obtain ⟨l, g1, g2, g3⟩ := sl_list Rdg.cells (fun _ => True) (fun i hi => t_rdg (h3 i hi)) (fun i hi => (h4 i hi).trans d_rdg)
  refine ⟨l, ?_, by omega⟩
  rw [h1, g2, ← g1]; rfl
theorem t_gge {n : Nat} {ps : List PV} (h : Typ Tryz.prog (n + 5) 24 ps) : ∃ g : Gge, ps = g.cells ∧ g.readings.length ≤ 9223372036854775807 := by
  obtain ⟨p0, q0, rfl, h0, p1, q1, rfl, h1, p2, q2, rfl, h2, p3, q3, rfl, h3, rfl⟩ := t_struct Tryz.underlying24 h
  obtain ⟨x0, rfl, k0⟩ := t_int h0
  obtain ⟨x1, rfl, k1⟩ := t_int h1
  obtain ⟨x2, rfl, k2⟩ := t_int h2
  obtain ⟨l, rfl, k3⟩ := t_rdgs h3
  exact ⟨⟨x0, x1, x2, l⟩, rfl, k3⟩
theorem t_wth {n : Nat} {ps : List PV} (h : Typ Tryz.prog (n + 6) 26 ps) : ∃ w : Wth, ps = w.cells ∧ WthMem w := by
  obtain ⟨p0, q0, rfl, h0, p1, q1, rfl, h1, p2, q2, rfl, h2, p3, q3, rfl, h3, p4, q4, rfl, h4, rfl⟩ := t_struct Tryz.underlying26 h
  obtain ⟨a, rfl, k0⟩ := t_gge h0
  obtain ⟨b, rfl, k1⟩ := t_gge h1
  obtain ⟨c, rfl, k2⟩ := t_gge h2
  obtain ⟨d, rfl, k3⟩ := t_gge h3
  obtain ⟨e, rfl, k4⟩ := t_gge h4
  exact ⟨⟨a, b, c, d, e⟩, by simp [Wth.cells, wthC, Gge.cells], k0, k1, k2, k3, k4⟩
theorem d_rop {n : Nat} : tdef Tryz.prog (n + 2) 94 = (default : Rop).cells := by
  rw [d_struct Tryz.underlying94]; simp [d_int]; rfl
end
theorem ownKnob_ : ownKnob Tryz.prog.godebug = none := by kernel_rfl
theorem laidOut_ : laidOutB Tryz.prog = true := by kernel_rfl
end Go.Qg


namespace Go.Qg
def firstZ (p : Int → Bool) (lo hi : Int) : Int :=
  if lo < hi then if p (lo + (hi - lo) / 2) = true then firstZ p lo (lo + (hi - lo) / 2) else firstZ p (lo + (hi - lo) / 2 + 1) hi else lo
termination_by (hi - lo).toNat
decreasing_by all_goals omega
theorem firstZ_spec {p : Int → Bool} (N : Nat) : ∀ {lo hi : Int}, (hi - lo).toNat ≤ N → lo ≤ hi → lo ≤ firstZ p lo hi ∧ firstZ p lo hi ≤ hi ∧ (firstZ p lo hi < hi → p (firstZ p lo hi) = true) ∧ (lo < hi → p (hi - 1) = true → firstZ p lo hi < hi) := by
  induction N with
  | zero =>
    intro lo hi h1 h2
    rw [firstZ, if_neg (by omega)]
    exact ⟨by omega, by omega, fun h => by omega, fun h => by omega⟩
  | succ N ih =>
    intro lo hi h1 h2
    by_cases hlt : lo < hi
    · rw [firstZ, if_pos hlt]
      split
      · rename_i hp
        obtain ⟨a, b, c, d⟩ := ih (lo := lo) (hi := lo + (hi - lo) / 2) (by omega) (by omega)
        refine ⟨a, by omega, fun h => ?_, fun _ _ => by omega⟩
        by_cases he : firstZ p lo (lo + (hi - lo) / 2) < lo + (hi - lo) / 2
        · exact c he
        · rw [show firstZ p lo (lo + (hi - lo) / 2) = lo + (hi - lo) / 2 by omega]; exact hp
      · rename_i hp
        obtain ⟨a, b, c, d⟩ := ih (lo := lo + (hi - lo) / 2 + 1) (hi := hi) (by omega) (by omega)
        refine ⟨by omega, b, c, fun _ h => ?_⟩
        by_cases he : lo + (hi - lo) / 2 + 1 < hi
        · exact d he h
        · rw [show hi - 1 = lo + (hi - lo) / 2 by omega] at h
          exact (hp h).elim
    · rw [firstZ, if_neg hlt]
      exact ⟨by omega, by omega, fun h => by omega, fun h => by omega⟩
theorem firstZ_ge {p : Int → Bool} {lo hi : Int} (h : lo ≤ hi) : lo ≤ firstZ p lo hi := (firstZ_spec _ (Nat.le_refl _) h).1
theorem firstZ_le {p : Int → Bool} {lo hi : Int} (h : lo ≤ hi) : firstZ p lo hi ≤ hi := (firstZ_spec _ (Nat.le_refl _) h).2.1
theorem firstZ_up {p : Int → Bool} {lo hi : Int} (h : lo < hi) (hp : p (lo + (hi - lo) / 2) = true) : firstZ p lo hi = firstZ p lo (lo + (hi - lo) / 2) := by rw [firstZ, if_pos h, if_pos hp]
theorem firstZ_down {p : Int → Bool} {lo hi : Int} (h : lo < hi) (hp : p (lo + (hi - lo) / 2) = false) : firstZ p lo hi = firstZ p (lo + (hi - lo) / 2 + 1) hi := by rw [firstZ, if_pos h, if_neg (by simp [hp])]
theorem firstZ_end {p : Int → Bool} {lo hi : Int} (h : ¬ lo < hi) : firstZ p lo hi = lo := by rw [firstZ, if_neg h]
end Go.Qg


namespace Go.Qg
open Go.Proofs
set_option maxRecDepth 100000
set_option maxHeartbeats 32000000
attribute [local simp 2000] List.getElem?_cons_succ List.getElem?_cons_zero
attribute [local irreducible] pwp pops pdraw pop popCall pdCall thenP blockP scopeP pspec Spec answers ppost CallW rend
structure Rrw where
  weight : Int
  metres : Int
  deriving Inhabited
def rrwAt (l : List Rrw) (i : Nat) : Rrw := l.getD i default
def Rrw.cells (b : Rrw) : List PV := [.v (.int .i64 b.weight), .v (.int .i64 b.metres)]
def rrwL (l : List Rrw) : PV := .sl 2 l.length fun i => (rrwAt l i).cells
structure Crf where
  off : List Rrw
  on : List Rrw
  glass : Int
  rough : Int
  glassBy : Int
  roughBy : Int
  head : Int
  tail : Int
  engines : Int
  fall : Int
  drag : Int
  ceilings : List Rrw
  sink : Int
  deriving Inhabited
def Crf.cells (c : Crf) : List PV := [rrwL c.off, rrwL c.on, .v (.int .i64 c.glass), .v (.int .i64 c.rough), .v (.int .i64 c.glassBy), .v (.int .i64 c.roughBy), .v (.int .i64 c.head), .v (.int .i64 c.tail), .v (.int .i64 c.engines), .v (.int .i64 c.fall), .v (.int .i64 c.drag), rrwL c.ceilings, .v (.int .i64 c.sink)]
structure Lnd where
  wide : Int
  deep : Int
  ground : List Int
  water : List Bool
  clear : Int
  deriving Inhabited
def Lnd.cells (l : Lnd) : List PV := [.v (.int .i64 l.wide), .v (.int .i64 l.deep), ints l.ground, bools l.water, .v (.int .i64 l.clear)]
structure Arr where
  east : Spn
  north : Spn
  deriving Inhabited
def Arr.cells (a : Arr) : List PV := [.v (.int .i64 a.east.low), .v (.int .i64 a.east.high), .v (.int .i64 a.north.low), .v (.int .i64 a.north.high)]
end Go.Qg



namespace Go.Qg
open Go.Proofs
set_option maxRecDepth 100000
set_option maxHeartbeats 32000000
attribute [local simp 2000] List.getElem?_cons_succ List.getElem?_cons_zero
attribute [local irreducible] pwp pops pdraw pop popCall pdCall thenP blockP scopeP pspec Spec answers ppost CallW rend
def wayB (w : Int) : Bool := decide (1 ≤ w) && decide (w ≤ 8)
theorem wway_spec (w : Int) : Spec Tryz.prog 153 [.v (.int .i64 w)] (.v (.bool (wayB w))) := by
  refine spec_of mixed Tryz.func153 (by decide) rfl Tryz.results153 Tryz.ntmps153 (by decide) 0 (by simp) ?_
  by_cases h1 : 1 ≤ w
  · by_cases h2 : w ≤ 8 <;> (simp [h1, h2]; refine answers_of rfl ?_; simp [wayB, h1, h2])
  · simp [h1]; refine answers_of rfl ?_; simp [wayB, h1]
theorem wtimes_spec (s : Spn) : Spec Tryz.prog 150 [.agg s.cells] (.v (.bool (spanB s 0 1440))) := by
  refine spec_of mixed Tryz.func150 (by decide) rfl Tryz.results150 Tryz.ntmps150 (by decide) 0 (by simp) ?_
  simp [Spn.cells]
  refine pop_spec (wspan_spec s 0 1440) rfl false (.inl (by simp [Spn.cells])) (.inl rfl) rfl (by simp) ?_
  simp
  refine answers_of rfl ?_; simp
theorem steps_spec (w : Int) (hw : 1 ≤ w ∧ w ≤ 8) : Spec Tryz.prog 157 [.v (.int .i64 w)] (.tup [.v (.int .i64 (stepX w)), .v (.int .i64 (stepY w))]) := by
  obtain rfl | rfl | rfl | rfl | rfl | rfl | rfl | rfl : w = 1 ∨ w = 2 ∨ w = 3 ∨ w = 4 ∨ w = 5 ∨ w = 6 ∨ w = 7 ∨ w = 8 := by omega
  all_goals
    refine spec_of mixed Tryz.func157 (by decide) rfl Tryz.results157 Tryz.ntmps157 (by decide) 0 (by simp) ?_
    simp
    refine pwp_draw 6 (by decide) ?_
    simp
    refine ⟨by decide, ?_⟩
    refine answers_of rfl ?_
    simp [stepX, stepY]
def boundedB (g : Gge) (lo hi : Int) : Bool := gaugeB g && decide (lo ≤ g.least) && decide (g.most ≤ hi)
theorem bounded_spec (g : Gge) (lo hi : Int) (hl : g.readings.length ≤ 9223372036854775807) : Spec Tryz.prog 194 [.agg g.cells, .v (.int .i64 lo), .v (.int .i64 hi)] (.v (.bool (boundedB g lo hi))) := by
  refine spec_of mixed Tryz.func194 (by decide) rfl Tryz.results194 Tryz.ntmps194 (by decide) 0 (by simp) ?_
  simp [Gge.cells, rdgL]
  refine pop_spec (gauge_spec g hl) rfl false (.inl (by simp [Gge.cells, rdgL])) (.inl rfl) rfl (by simp) ?_
  cases h1 : gaugeB g with
  | false => simp; refine answers_of rfl ?_; simp [boundedB, h1]
  | true =>
  by_cases h2 : lo ≤ g.least
  · by_cases h3 : g.most ≤ hi <;> (simp [h2, h3]; refine answers_of rfl ?_; simp [boundedB, h1, h2, h3])
  · simp [h2]; refine answers_of rfl ?_; simp [boundedB, h2]
def SeaD.wth (s : SeaD) : List PV := wthC s.tide s.east s.north s.wave s.swell
def weatherS (s : SeaD) : Bool := boundedB s.tide (-2000) 2000 && boundedB s.east (-300) 300 && boundedB s.north (-300) 300 && boundedB s.wave 0 2000 && boundedB s.swell 0 2000
structure SeaMem (s : SeaD) : Prop where
  depths : s.depths.length ≤ 9223372036854775807
  tide : s.tide.readings.length ≤ 9223372036854775807
  east : s.east.readings.length ≤ 9223372036854775807
  north : s.north.readings.length ≤ 9223372036854775807
  wave : s.wave.readings.length ≤ 9223372036854775807
  swell : s.swell.readings.length ≤ 9223372036854775807
  boats : s.boats.length ≤ 9223372036854775807
  glares : s.glares.length ≤ 9223372036854775807
theorem weather_spec (s : SeaD) (hw : SeaMem s) : Spec Tryz.prog 149 [.agg s.wth] (.v (.bool (weatherS s))) := by
  refine spec_of mixed Tryz.func149 (by decide) rfl Tryz.results149 Tryz.ntmps149 (by decide) 0 (by simp) ?_
  simp [SeaD.wth, wthC, rdgL]
  refine pop_spec (bounded_spec s.tide (-2000) 2000 hw.tide) rfl false (.inl (by simp [Gge.cells, rdgL])) (.inl rfl) rfl (by simp) ?_
  cases h1 : boundedB s.tide (-2000) 2000 with
  | false => simp; refine answers_of rfl ?_; simp [weatherS, h1]
  | true =>
  simp
  refine pop_spec (bounded_spec s.east (-300) 300 hw.east) rfl false (.inl (by simp [Gge.cells, rdgL])) (.inl rfl) rfl (by simp) ?_
  cases h2 : boundedB s.east (-300) 300 with
  | false => simp; refine answers_of rfl ?_; simp [weatherS, h2]
  | true =>
  simp
  refine pop_spec (bounded_spec s.north (-300) 300 hw.north) rfl false (.inl (by simp [Gge.cells, rdgL])) (.inl rfl) rfl (by simp) ?_
  cases h3 : boundedB s.north (-300) 300 with
  | false => simp; refine answers_of rfl ?_; simp [weatherS, h3]
  | true =>
  simp
  refine pop_spec (bounded_spec s.wave 0 2000 hw.wave) rfl false (.inl (by simp [Gge.cells, rdgL])) (.inl rfl) rfl (by simp) ?_
  cases h4 : boundedB s.wave 0 2000 with
  | false => simp; refine answers_of rfl ?_; simp [weatherS, h4]
  | true =>
  simp
  refine pop_spec (bounded_spec s.swell 0 2000 hw.swell) rfl false (.inl (by simp [Gge.cells, rdgL])) (.inl rfl) rfl (by simp) ?_
  simp
  refine answers_of rfl ?_; simp [weatherS, h1, h2, h3, h4]
def needB (n : Ned) : Bool := inB n.draught 0 5000 && inB n.run 1 12 && inB n.cross 0 300 && inB n.tail 0 300 && inB n.calm 0 n.wave && decide (n.wave ≤ 2000) && inB n.swell 0 2000
theorem need_spec (n : Ned) : Spec Tryz.prog 77 [.agg n.cells] (.v (.bool (needB n))) := by
  refine spec_of mixed Tryz.func77 (by decide) rfl Tryz.results77 Tryz.ntmps77 (by decide) 0 (by simp) ?_
  simp [Ned.cells]
  refine pop_spec (win_spec n.draught 0 5000) rfl false (.inl (by simp)) (.inl rfl) rfl (by simp) ?_
  cases h1 : inB n.draught 0 5000 with
  | false => simp; refine answers_of rfl ?_; simp [needB, h1]
  | true =>
  simp
  refine pop_spec (win_spec n.run 1 12) rfl false (.inl (by simp)) (.inl rfl) rfl (by simp) ?_
  cases h2 : inB n.run 1 12 with
  | false => simp; refine answers_of rfl ?_; simp [needB, h2]
  | true =>
  simp
  refine pop_spec (win_spec n.cross 0 300) rfl false (.inl (by simp)) (.inl rfl) rfl (by simp) ?_
  cases h3 : inB n.cross 0 300 with
  | false => simp; refine answers_of rfl ?_; simp [needB, h3]
  | true =>
  simp
  refine pop_spec (win_spec n.tail 0 300) rfl false (.inl (by simp)) (.inl rfl) rfl (by simp) ?_
  cases h4 : inB n.tail 0 300 with
  | false => simp; refine answers_of rfl ?_; simp [needB, h4]
  | true =>
  simp
  refine pop_spec (win_spec n.calm 0 n.wave) rfl false (.inl (by simp)) (.inl rfl) rfl (by simp) ?_
  cases h5 : inB n.calm 0 n.wave with
  | false => simp; refine answers_of rfl ?_; simp [needB, h5]
  | true =>
  by_cases h6 : n.wave ≤ 2000
  · simp [h6]
    refine pop_spec (win_spec n.swell 0 2000) rfl false (.inl (by simp)) (.inl rfl) rfl (by simp) ?_
    simp
    refine answers_of rfl ?_; simp [needB, h1, h2, h3, h4, h5, h6]
  · simp [h6]
    refine answers_of rfl ?_; simp [needB, h6]
def anyN (n : Nat) (p : Nat → Bool) : Bool := !(allN n fun k => !(p k))
theorem anyN_false {n : Nat} {p : Nat → Bool} (h : ∀ k, k < n → p k = false) : anyN n p = false := by
  rw [anyN, allN_spec.2 fun k hk => by simp [h k hk]]; rfl
theorem anyN_true {n k : Nat} {p : Nat → Bool} (hk : k < n) (h : p k = true) : anyN n p = true := by
  rw [anyN, allN_false hk (by simp [h])]; rfl
def glaB (g : Gla) : Bool := wayB g.way && spanB g.times 0 1440
theorem sea1_spec (g : Gla) : Spec Tryz.prog 152 [.agg g.cells] (.v (.bool (!glaB g))) := by
  refine spec_of mixed Tryz.func152 (by decide) rfl Tryz.results152 Tryz.ntmps152 (by decide) 0 (by simp) ?_
  simp [Gla.cells]
  refine pop_spec (wway_spec g.way) rfl false (.inl (by simp)) (.inl rfl) rfl (by simp) ?_
  cases h1 : wayB g.way with
  | false => simp; refine answers_of rfl ?_; simp [glaB, h1]
  | true =>
  simp
  refine pop_spec (wtimes_spec g.times) rfl false (.inl (by simp [Spn.cells])) (.inl rfl) rfl (by simp) ?_
  simp
  refine answers_of rfl ?_; simp [glaB, h1]
def findI (p : Nat → Bool) : Nat → Option Nat
  | 0 => none
  | n + 1 => match findI p n with
    | some k => some k
    | none => if p n = true then some n else none
theorem findI_none {p : Nat → Bool} : ∀ {n : Nat}, findI p n = none ↔ ∀ k, k < n → p k = false
  | 0 => by simp [findI]
  | n + 1 => by
    have ih := findI_none (p := p) (n := n)
    constructor
    · intro h k hk
      unfold findI at h
      split at h
      · cases h
      · rename_i hn
        split at h
        · cases h
        · rename_i hp
          rcases Nat.lt_succ_iff_lt_or_eq.1 hk with hk | rfl
          · exact ih.1 hn k hk
          · simpa using hp
    · intro h
      unfold findI
      rw [ih.2 fun k hk => h k (by omega)]
      simp [h n (by omega)]
theorem findI_some {p : Nat → Bool} {k : Nat} (hp : p k = true) (hn : findI p k = none) : ∀ {n : Nat}, k < n → findI p n = some k
  | n + 1, h => by
    unfold findI
    rcases Nat.lt_succ_iff_lt_or_eq.1 h with h | rfl
    · rw [findI_some hp hn h]
    · rw [hn]; simp [hp]
def findN (n : Nat) (p : Nat → Bool) : Int := match findI p n with
  | some k => k
  | none => -1
theorem findI_get {p : Nat → Bool} {k : Nat} : ∀ {n : Nat}, findI p n = some k → k < n ∧ p k = true
  | n + 1, h => by
    unfold findI at h
    split at h
    · rename_i j hj
      cases h
      have := findI_get hj
      exact ⟨by omega, this.2⟩
    · split at h
      · rename_i hp
        cases h
        exact ⟨by omega, hp⟩
      · cases h
theorem indexGla_spec (l : List Gla) (hl : l.length ≤ 9223372036854775807) (f : FuncId) (first cap : List PV) (h1 : plainL first = true) (h2 : plainL cap = true) (p : Nat → Bool)
    (h : ∀ k, k < l.length → Spec Tryz.prog f (first ++ ([.agg (glaAt l k).cells] ++ cap)) (.v (.bool (p k)))) : Spec Tryz.prog 195 [glaL l, .clo (.func f) first cap] (.v (.int .i64 (findN l.length p))) := by
  refine spec_of mixed Tryz.func195 (by decide) rfl Tryz.results195 Tryz.ntmps195 (by decide) 0 (by simp) ?_
  simp [glaL, Gla.cells, renL_plain h1, renL_plain h2]
  refine pwp_loop (fun k : Nat => [(8, .v (.int .i64 k))]) (fun k => k ≤ l.length ∧ findI p k = none) (fun k => l.length - k) 0 ⟨Nat.zero_le _, rfl⟩ (by simp; rfl) (by simp [vwAll_plain h1, vwAll_plain h2]) ?_
  intro k ⟨hk, hp⟩
  by_cases hkl : k < l.length
  · simp [hkl, Gla.cells]
    refine pop_spec (h k hkl) rfl false (.inr ⟨by simp [Gla.cells], by simp [namesL_append, plainL_names h1, plainL_names h2, Gla.cells]⟩) (.inl rfl) rfl (by simp) ?_
    cases hpk : p k with
    | false =>
      simp
      refine again_of (k + 1) ⟨by omega, by simp [findI, hp, hpk]⟩ (by omega) ?_
      simp [i64_wrap (show -9223372036854775808 ≤ (k : Int) + 1 ∧ _ from by omega), vwAll_plain h1, vwAll_plain h2]
    | true =>
      simp
      refine answers_of rfl ?_; simp [findN, findI_some hpk hp hkl]
  · simp [hkl]
    obtain rfl : k = l.length := by omega
    refine answers_of rfl ?_; simp [findN, hp]
theorem containsGla_spec (l : List Gla) (hl : l.length ≤ 9223372036854775807) (f : FuncId) (first cap : List PV) (h1 : plainL first = true) (h2 : plainL cap = true) (p : Nat → Bool)
    (h : ∀ k, k < l.length → Spec Tryz.prog f (first ++ ([.agg (glaAt l k).cells] ++ cap)) (.v (.bool (p k)))) : Spec Tryz.prog 151 [glaL l, .clo (.func f) first cap] (.v (.bool (anyN l.length p))) := by
  refine spec_of mixed Tryz.func151 (by decide) rfl Tryz.results151 Tryz.ntmps151 (by decide) 0 (by simp) ?_
  simp [glaL, Gla.cells, renL_plain h1, renL_plain h2]
  refine pop_spec (indexGla_spec l hl f first cap h1 h2 p h) rfl false (.inr ⟨by simp [glaL, Gla.cells], by simp [namesL_append, plainL_names h1, plainL_names h2, glaL]⟩) (.inl rfl) rfl (by simp) ?_
  cases hf : findI p l.length with
  | none =>
    have := findI_none.1 hf
    simp [findN, hf]
    refine answers_of rfl ?_
    simp [anyN_false this]
  | some k =>
    have hk : k < l.length ∧ p k = true := findI_get hf
    simp [findN, hf]
    refine answers_of rfl ?_
    simp [anyN_true hk.1 hk.2]
def boaB (s : SeaD) (b : Boa) : Bool := spanB b.x 0 (s.wide - 1) && spanB b.y 0 (s.deep - 1) && spanB b.times 0 1440
def seaB (s : SeaD) : Bool := inB s.wide 1 12 && inB s.deep 1 12 && decide ((s.depths.length : Int) = s.wide * s.deep) && decide (s.boats.length ≤ 12) && decide (s.glares.length ≤ 6) && weatherS s &&
  allN s.depths.length (fun k => spanB (spnAt s.depths k) (-5000) 5000) && allN s.boats.length (fun k => boaB s (boaAt s.boats k)) && allN s.glares.length (fun k => glaB (glaAt s.glares k))
end Go.Qg


namespace Go.Qg
open Go.Proofs
set_option maxRecDepth 100000
set_option maxHeartbeats 32000000
attribute [local simp 2000] List.getElem?_cons_succ List.getElem?_cons_zero
attribute [local irreducible] pwp pops pdraw pop popCall pdCall thenP blockP scopeP pspec Spec answers ppost CallW rend
theorem anyN_not {n : Nat} {p : Nat → Bool} : (!anyN n fun k => !p k) = allN n p := by simp [anyN]
theorem sea_spec (s : SeaD) (hs : SeaMem s) : Spec Tryz.prog 74 [.agg s.cells] (.v (.bool (seaB s))) := by
  have hwt := weather_spec s hs
  simp only [SeaD.wth, wthC, rdgL] at hwt
  refine spec_of mixed Tryz.func74 (by decide) rfl Tryz.results74 Tryz.ntmps74 (by decide) 0 (by simp) ?_
  simp [SeaD.cells, rdgL, spnL, boaL, glaL]
  refine pop_spec (win_spec s.wide 1 12) rfl false (.inl (by simp)) (.inl rfl) rfl (by simp) ?_
  cases h1 : inB s.wide 1 12 with
  | false => simp; refine answers_of rfl ?_; simp [seaB, h1]
  | true =>
  simp
  refine pop_spec (win_spec s.deep 1 12) rfl false (.inl (by simp)) (.inl rfl) rfl (by simp) ?_
  cases h2 : inB s.deep 1 12 with
  | false => simp; refine answers_of rfl ?_; simp [seaB, h2]
  | true =>
  have g1 := inB_spec.1 h1
  have g2 := inB_spec.1 h2
  have hm : s.wide * s.deep ≤ 144 := Int.le_trans (Int.mul_le_mul g1.2 g2.2 (by omega) (by omega)) (by omega)
  have hm0 : 0 ≤ s.wide * s.deep := Int.mul_nonneg (by omega) (by omega)
  have wm := i64_wrap (show -9223372036854775808 ≤ s.wide * s.deep ∧ _ from by omega)
  have ww := i64_wrap (show -9223372036854775808 ≤ s.wide - 1 ∧ _ from by omega)
  have wd := i64_wrap (show -9223372036854775808 ≤ s.deep - 1 ∧ _ from by omega)
  by_cases h3 : (s.depths.length : Int) = s.wide * s.deep
  rotate_left
  · simp [wm, h3]; refine answers_of rfl ?_; simp [seaB, h3]
  by_cases h4 : s.boats.length ≤ 12
  rotate_left
  · simp [wm, eq_true h3, show (12 : Int) < s.boats.length from by omega]; refine answers_of rfl ?_; simp [seaB, h4]
  by_cases h5 : s.glares.length ≤ 6
  rotate_left
  · simp [wm, eq_true h3, show (s.boats.length : Int) ≤ 12 from by omega, show ¬ (12 : Int) < s.boats.length from by omega, show (6 : Int) < s.glares.length from by omega]; refine answers_of rfl ?_; simp [seaB, h5]
  simp [wm, eq_true h3, show (s.boats.length : Int) ≤ 12 from by omega, show ¬ (12 : Int) < s.boats.length from by omega, show (s.glares.length : Int) ≤ 6 from by omega, show ¬ (6 : Int) < s.glares.length from by omega]
  refine pop_spec hwt rfl false (.inl (by simp)) (.inl rfl) rfl (by simp) ?_
  cases h6 : weatherS s with
  | false => simp; refine answers_of rfl ?_; simp [seaB, h6]
  | true =>
  simp
  refine pwp_loop (fun k : Nat => [(55, .v (.int .i64 k))]) (fun k => k ≤ s.depths.length ∧ ∀ j, j < k → spanB (spnAt s.depths j) (-5000) 5000 = true) (fun k => s.depths.length - k) 0 ⟨Nat.zero_le _, fun j hj => by omega⟩ (by simp; rfl) (by simp) ?_
  intro k ⟨hk, hp⟩
  by_cases hkl : k < s.depths.length
  · have hsc : (spnAt s.depths k).cells = [.v (.int .i64 (spnAt s.depths k).low), .v (.int .i64 (spnAt s.depths k).high)] := rfl
    simp [hkl, hsc]
    refine pop_spec (wspan_spec (spnAt s.depths k) (-5000) 5000) rfl false (.inl (by simp [hsc])) (.inl rfl) rfl (by simp) ?_
    cases h7 : spanB (spnAt s.depths k) (-5000) 5000 with
    | false =>
      simp
      refine answers_of rfl ?_
      simp [seaB, allN_false (p := fun k => spanB (spnAt s.depths k) (-5000) 5000) hkl h7]
    | true =>
      simp
      refine again_of (k + 1) ⟨by omega, fun j hj => ?_⟩ (by omega) ?_
      · rcases Nat.lt_succ_iff_lt_or_eq.1 hj with hj | rfl
        · exact hp j hj
        · exact h7
      · simp [i64_wrap (show -9223372036854775808 ≤ (k : Int) + 1 ∧ _ from by omega)]
  · obtain rfl : k = s.depths.length := by omega
    have ha := allN_spec.2 hp
    simp
    refine pwp_loop (fun k : Nat => [(66, .v (.int .i64 k))]) (fun k => k ≤ s.boats.length ∧ ∀ j, j < k → boaB s (boaAt s.boats j) = true) (fun k => s.boats.length - k) 0 ⟨Nat.zero_le _, fun j hj => by omega⟩ (by simp; rfl) (by simp) ?_
    intro k ⟨hk, hp⟩
    by_cases hkl : k < s.boats.length
    · have no : boaB s (boaAt s.boats k) = false → seaB s = false := fun h => by simp [seaB, allN_false (p := fun k => boaB s (boaAt s.boats k)) hkl h]
      simp [hkl, Boa.cells, ww]
      refine pop_spec (wspan_spec (boaAt s.boats k).x 0 (s.wide - 1)) rfl false (.inl (by simp [Spn.cells])) (.inl rfl) rfl (by simp) ?_
      cases h8 : spanB (boaAt s.boats k).x 0 (s.wide - 1) with
      | false => simp; refine answers_of rfl ?_; simp [no (by simp [boaB, h8])]
      | true =>
      simp [wd]
      refine pop_spec (wspan_spec (boaAt s.boats k).y 0 (s.deep - 1)) rfl false (.inl (by simp [Spn.cells])) (.inl rfl) rfl (by simp) ?_
      cases h9 : spanB (boaAt s.boats k).y 0 (s.deep - 1) with
      | false => simp; refine answers_of rfl ?_; simp [no (by simp [boaB, h9])]
      | true =>
      simp
      refine pop_spec (wtimes_spec (boaAt s.boats k).times) rfl false (.inl (by simp [Spn.cells])) (.inl rfl) rfl (by simp) ?_
      cases h10 : spanB (boaAt s.boats k).times 0 1440 with
      | false => simp; refine answers_of rfl ?_; simp [no (by simp [boaB, h10])]
      | true =>
      simp
      refine again_of (k + 1) ⟨by omega, fun j hj => ?_⟩ (by omega) ?_
      · rcases Nat.lt_succ_iff_lt_or_eq.1 hj with hj | rfl
        · exact hp j hj
        · simp [boaB, h8, h9, h10]
      · simp [i64_wrap (show -9223372036854775808 ≤ (k : Int) + 1 ∧ _ from by omega)]
    · obtain rfl : k = s.boats.length := by omega
      have hb := allN_spec.2 hp
      simp
      refine pop_spec (containsGla_spec s.glares hs.glares 152 [] [] rfl rfl (fun k => !glaB (glaAt s.glares k)) fun k hk => sea1_spec (glaAt s.glares k)) rfl false (.inl (by simp [glaL])) (.inl rfl) rfl (by simp) ?_
      simp
      refine answers_of rfl ?_
      simp only [vw_v_, anyN_not]
      simp [seaB, h1, h2, h3, h4, h5, h6, ha, hb]
end Go.Qg


namespace Go.Qg
open Go.Proofs
set_option maxRecDepth 100000
set_option maxHeartbeats 32000000
structure StpOk (s : SeaD) (p : Stp) : Prop where
  way : 1 ≤ p.way ∧ p.way ≤ 8
  cells : 1 ≤ p.cells_ ∧ p.cells_ ≤ 12
  x : 0 ≤ p.x ∧ p.x ≤ s.wide - 1
  y : 0 ≤ p.y ∧ p.y ≤ s.deep - 1
  ex : 0 ≤ p.x + stepX p.way * (p.cells_ - 1) ∧ p.x + stepX p.way * (p.cells_ - 1) ≤ s.wide - 1
  ey : 0 ≤ p.y + stepY p.way * (p.cells_ - 1) ∧ p.y + stepY p.way * (p.cells_ - 1) ≤ s.deep - 1
structure SeaOk (s : SeaD) : Prop where
  wide : 1 ≤ s.wide ∧ s.wide ≤ 12
  deep : 1 ≤ s.deep ∧ s.deep ≤ 12
  n : (s.depths.length : Int) = s.wide * s.deep
  nb : s.boats.length ≤ 12
  ng : s.glares.length ≤ 6
  depth : ∀ k, k < s.depths.length → -5000 ≤ (spnAt s.depths k).low ∧ (spnAt s.depths k).low ≤ (spnAt s.depths k).high ∧ (spnAt s.depths k).high ≤ 5000
  gla : ∀ k, k < s.glares.length → (1 ≤ (glaAt s.glares k).way ∧ (glaAt s.glares k).way ≤ 8)
  tide : GgeOk s.tide ∧ -2000 ≤ s.tide.least ∧ s.tide.most ≤ 2000
  east : GgeOk s.east ∧ -300 ≤ s.east.least ∧ s.east.most ≤ 300
  north : GgeOk s.north ∧ -300 ≤ s.north.least ∧ s.north.most ≤ 300
  wave : GgeOk s.wave ∧ 0 ≤ s.wave.least ∧ s.wave.most ≤ 2000
  swell : GgeOk s.swell ∧ 0 ≤ s.swell.least ∧ s.swell.most ≤ 2000
theorem bounded_ok {g : Gge} {lo hi : Int} (h : boundedB g lo hi = true) : GgeOk g ∧ lo ≤ g.least ∧ g.most ≤ hi := by
  simp only [boundedB, Bool.and_eq_true, decide_eq_true_eq] at h
  exact ⟨gaugeB_iff.1 h.1.1, h.1.2, h.2⟩
theorem seaB_ok {s : SeaD} (h : seaB s = true) : SeaOk s := by
  simp only [seaB, weatherS, Bool.and_eq_true, inB_spec, decide_eq_true_eq, allN_spec, spanB_spec, glaB, wayB] at h
  obtain ⟨⟨⟨⟨⟨⟨⟨⟨h1, h2⟩, h3⟩, h4⟩, h5⟩, h6⟩, h7⟩, h8⟩, h9⟩ := h
  exact ⟨h1, h2, h3, h4, h5, h7, fun k hk => (h9 k hk).1, bounded_ok h6.1.1.1.1, bounded_ok h6.1.1.1.2, bounded_ok h6.1.1.2, bounded_ok h6.1.2, bounded_ok h6.2⟩
structure NedOk (n : Ned) : Prop where
  draught : 0 ≤ n.draught ∧ n.draught ≤ 5000
  run : 1 ≤ n.run ∧ n.run ≤ 12
  cross : 0 ≤ n.cross ∧ n.cross ≤ 300
  tail : 0 ≤ n.tail ∧ n.tail ≤ 300
  calm : 0 ≤ n.calm ∧ n.calm ≤ n.wave
  wave : n.wave ≤ 2000
  swell : 0 ≤ n.swell ∧ n.swell ≤ 2000
theorem needB_ok {n : Ned} (h : needB n = true) : NedOk n := by
  simp only [needB, Bool.and_eq_true, inB_spec, decide_eq_true_eq] at h
  obtain ⟨⟨⟨⟨⟨⟨h1, h2⟩, h3⟩, h4⟩, h5⟩, h6⟩, h7⟩ := h
  exact ⟨h1, h2, h3, h4, h5, h6, h7⟩
def celX (p : Stp) (k : Nat) : Int := p.x + k * stepX p.way
def celY (p : Stp) (k : Nat) : Int := p.y + k * stepY p.way
def celN (s : SeaD) (p : Stp) (k : Nat) : Int := celY p k * s.wide + celX p k
theorem cel_ok {s : SeaD} {p : Stp} (hp : StpOk s p) {k : Nat} (hk : (k : Int) < p.cells_) : (0 ≤ celX p k ∧ celX p k ≤ s.wide - 1) ∧ 0 ≤ celY p k ∧ celY p k ≤ s.deep - 1 := by
  have h1 := hp.x
  have h2 := hp.y
  have h3 := hp.ex
  have h4 := hp.ey
  obtain ⟨sx, sy⟩ := step_cases p.way
  unfold celX celY
  constructor
  · rcases sx with h | h | h <;> rw [h] at h3 ⊢ <;> omega
  · rcases sy with h | h | h <;> rw [h] at h4 ⊢ <;> omega
theorem celN_ok {s : SeaD} {p : Stp} (hs : SeaOk s) (hp : StpOk s p) {k : Nat} (hk : (k : Int) < p.cells_) : 0 ≤ celN s p k ∧ celN s p k < s.depths.length := by
  obtain ⟨⟨x0, x1⟩, y0, y1⟩ := cel_ok hp hk
  have hw := hs.wide
  have h1 : 0 ≤ celY p k * s.wide := Int.mul_nonneg y0 (by omega)
  have h2 : celY p k * s.wide ≤ (s.deep - 1) * s.wide := Int.mul_le_mul_of_nonneg_right y1 (by omega)
  have h3 : (s.deep - 1) * s.wide = s.wide * s.deep - s.wide := by rw [Int.sub_mul, Int.one_mul, Int.mul_comm]
  rw [hs.n]
  unfold celN
  omega
attribute [local simp 2000] List.getElem?_cons_succ List.getElem?_cons_zero
attribute [local irreducible] pwp pops pdraw pop popCall pdCall thenP blockP scopeP pspec Spec answers ppost CallW rend
theorem wstrip_spec (s : SeaD) (p : Stp) (hs : SeaOk s) : Spec Tryz.prog 76 [.agg s.cells, .agg p.cells] (.v (.bool (wayB p.way && inB p.cells_ 1 12 && inB p.x 0 (s.wide - 1) && inB p.y 0 (s.deep - 1) && (inB (p.x + stepX p.way * (p.cells_ - 1)) 0 (s.wide - 1) && inB (p.y + stepY p.way * (p.cells_ - 1)) 0 (s.deep - 1))))) := by
  have hw := hs.wide
  have hd := hs.deep
  have ww := i64_wrap (show -9223372036854775808 ≤ s.wide - 1 ∧ _ from by omega)
  have wd := i64_wrap (show -9223372036854775808 ≤ s.deep - 1 ∧ _ from by omega)
  refine spec_of mixed Tryz.func76 (by decide) rfl Tryz.results76 Tryz.ntmps76 (by decide) 0 (by simp) ?_
  simp [SeaD.cells, rdgL, spnL, boaL, glaL, Stp.cells]
  refine pop_spec (wway_spec p.way) rfl false (.inl (by simp)) (.inl rfl) rfl (by simp) ?_
  cases h1 : wayB p.way with
  | false => simp; refine answers_of rfl ?_; simp
  | true =>
  simp
  refine pop_spec (win_spec p.cells_ 1 12) rfl false (.inl (by simp)) (.inl rfl) rfl (by simp) ?_
  cases h2 : inB p.cells_ 1 12 with
  | false => simp; refine answers_of rfl ?_; simp
  | true =>
  simp [ww]
  refine pop_spec (win_spec p.x 0 (s.wide - 1)) rfl false (.inl (by simp)) (.inl rfl) rfl (by simp) ?_
  cases h3 : inB p.x 0 (s.wide - 1) with
  | false => simp; refine answers_of rfl ?_; simp
  | true =>
  simp [wd]
  refine pop_spec (win_spec p.y 0 (s.deep - 1)) rfl false (.inl (by simp)) (.inl rfl) rfl (by simp) ?_
  cases h4 : inB p.y 0 (s.deep - 1) with
  | false => simp; refine answers_of rfl ?_; simp
  | true =>
  have g1 : 1 ≤ p.way ∧ p.way ≤ 8 := by simpa [wayB] using h1
  have g2 := inB_spec.1 h2
  have g3 := inB_spec.1 h3
  have g4 := inB_spec.1 h4
  have wc := i64_wrap (show -9223372036854775808 ≤ p.cells_ - 1 ∧ _ from by omega)
  obtain ⟨sx, sy⟩ := step_cases p.way
  have bx : -12 ≤ stepX p.way * (p.cells_ - 1) ∧ stepX p.way * (p.cells_ - 1) ≤ 12 := by rcases sx with h | h | h <;> rw [h] <;> omega
  have by' : -12 ≤ stepY p.way * (p.cells_ - 1) ∧ stepY p.way * (p.cells_ - 1) ≤ 12 := by rcases sy with h | h | h <;> rw [h] <;> omega
  have w1 := i64_wrap (show -9223372036854775808 ≤ stepX p.way * (p.cells_ - 1) ∧ _ from by omega)
  have w2 := i64_wrap (show -9223372036854775808 ≤ stepY p.way * (p.cells_ - 1) ∧ _ from by omega)
  have w3 := i64_wrap (show -9223372036854775808 ≤ p.x + stepX p.way * (p.cells_ - 1) ∧ _ from by omega)
  have w4 := i64_wrap (show -9223372036854775808 ≤ p.y + stepY p.way * (p.cells_ - 1) ∧ _ from by omega)
  simp
  refine pop_spec (steps_spec p.way g1) rfl false (.inl (by simp)) (.inl rfl) rfl (by simp) ?_
  simp [ww, wc, w1, w3]
  refine pop_spec (win_spec (p.x + stepX p.way * (p.cells_ - 1)) 0 (s.wide - 1)) rfl false (.inl (by simp)) (.inl rfl) rfl (by simp) ?_
  cases h5 : inB (p.x + stepX p.way * (p.cells_ - 1)) 0 (s.wide - 1) with
  | false => simp; refine answers_of rfl ?_; simp
  | true =>
  simp [wd, wc, w2, w4]
  refine pop_spec (win_spec (p.y + stepY p.way * (p.cells_ - 1)) 0 (s.deep - 1)) rfl false (.inl (by simp)) (.inl rfl) rfl (by simp) ?_
  simp
  refine answers_of rfl ?_; simp
def stripB (s : SeaD) (p : Stp) : Bool := wayB p.way && inB p.cells_ 1 12 && inB p.x 0 (s.wide - 1) && inB p.y 0 (s.deep - 1) && (inB (p.x + stepX p.way * (p.cells_ - 1)) 0 (s.wide - 1) && inB (p.y + stepY p.way * (p.cells_ - 1)) 0 (s.deep - 1))
theorem stripB_ok {s : SeaD} {p : Stp} (h : stripB s p = true) : StpOk s p := by
  simp only [stripB, wayB, Bool.and_eq_true, inB_spec, decide_eq_true_eq] at h
  obtain ⟨⟨⟨⟨h1, h2⟩, h3⟩, h4⟩, h5, h6⟩ := h
  exact ⟨h1, h2, h3, h4, h5, h6⟩
end Go.Qg


namespace Go.Qg
open Go.Proofs
set_option maxRecDepth 100000
set_option maxHeartbeats 32000000
attribute [local simp 2000] List.getElem?_cons_succ List.getElem?_cons_zero
attribute [local irreducible] pwp pops pdraw pop popCall pdCall thenP blockP scopeP pspec Spec answers ppost CallW rend
theorem across_spec (s : SeaD) (p : Stp) (n : Ned) (m e w : Int) (hp : 1 ≤ p.way ∧ p.way ≤ 8) (he : Small 100000 e) (hw : Small 100000 w) : Spec Tryz.prog 158 [.agg (lookC s p n m), .v (.int .i64 e), .v (.int .i64 w)] (.v (.int .i64 (acrossI p.way e w))) := by
  simp only [Small] at he hw
  obtain ⟨sx, sy⟩ := step_cases p.way
  have b1 : -100000 ≤ e * stepY p.way ∧ e * stepY p.way ≤ 100000 := by rcases sy with h | h | h <;> rw [h] <;> omega
  have b2 : -100000 ≤ w * stepX p.way ∧ w * stepX p.way ≤ 100000 := by rcases sx with h | h | h <;> rw [h] <;> omega
  refine spec_of mixed Tryz.func158 (by decide) rfl Tryz.results158 Tryz.ntmps158 (by decide) 0 (by simp) ?_
  simp [lookC, rdgL, spnL, boaL, glaL]
  refine pop_spec (steps_spec p.way hp) rfl false (.inl (by simp)) (.inl rfl) rfl (by simp) ?_
  simp [i64_wrap (show -9223372036854775808 ≤ e * stepY p.way ∧ _ from by omega), i64_wrap (show -9223372036854775808 ≤ w * stepX p.way ∧ _ from by omega), i64_wrap (show -9223372036854775808 ≤ e * stepY p.way - w * stepX p.way ∧ _ from by omega)]
  refine answers_of rfl ?_; simp [acrossI]
theorem along_spec (s : SeaD) (p : Stp) (n : Ned) (m e w : Int) (hp : 1 ≤ p.way ∧ p.way ≤ 8) (he : Small 100000 e) (hw : Small 100000 w) : Spec Tryz.prog 159 [.agg (lookC s p n m), .v (.int .i64 e), .v (.int .i64 w)] (.v (.int .i64 (alongI p.way e w))) := by
  simp only [Small] at he hw
  obtain ⟨sx, sy⟩ := step_cases p.way
  have b1 : -100000 ≤ w * stepY p.way ∧ w * stepY p.way ≤ 100000 := by rcases sy with h | h | h <;> rw [h] <;> omega
  have b2 : -100000 ≤ e * stepX p.way ∧ e * stepX p.way ≤ 100000 := by rcases sx with h | h | h <;> rw [h] <;> omega
  refine spec_of mixed Tryz.func159 (by decide) rfl Tryz.results159 Tryz.ntmps159 (by decide) 0 (by simp) ?_
  simp [lookC, rdgL, spnL, boaL, glaL]
  refine pop_spec (steps_spec p.way hp) rfl false (.inl (by simp)) (.inl rfl) rfl (by simp) ?_
  simp [i64_wrap (show -9223372036854775808 ≤ w * stepY p.way ∧ _ from by omega), i64_wrap (show -9223372036854775808 ≤ e * stepX p.way ∧ _ from by omega), i64_wrap (show -9223372036854775808 ≤ e * stepX p.way + w * stepY p.way ∧ _ from by omega)]
  refine answers_of rfl ?_; simp [alongI]
theorem length_small (w : Int) : 0 ≤ lengthI w ∧ lengthI w ≤ 2 := by
  obtain ⟨sx, sy⟩ := step_cases w
  unfold lengthI
  rcases sx with h | h | h <;> rcases sy with g | g | g <;> rw [h, g] <;> decide
theorem length_spec (s : SeaD) (p : Stp) (n : Ned) (m : Int) (hp : 1 ≤ p.way ∧ p.way ≤ 8) : Spec Tryz.prog 160 [.agg (lookC s p n m)] (.v (.int .i64 (lengthI p.way))) := by
  obtain ⟨sx, sy⟩ := step_cases p.way
  have b1 : 0 ≤ stepX p.way * stepX p.way ∧ stepX p.way * stepX p.way ≤ 1 := by rcases sx with h | h | h <;> rw [h] <;> decide
  have b2 : 0 ≤ stepY p.way * stepY p.way ∧ stepY p.way * stepY p.way ≤ 1 := by rcases sy with h | h | h <;> rw [h] <;> decide
  refine spec_of mixed Tryz.func160 (by decide) rfl Tryz.results160 Tryz.ntmps160 (by decide) 0 (by simp) ?_
  simp [lookC, rdgL, spnL, boaL, glaL]
  refine pop_spec (steps_spec p.way hp) rfl false (.inl (by simp)) (.inl rfl) rfl (by simp) ?_
  simp [i64_wrap (show -9223372036854775808 ≤ stepX p.way * stepX p.way ∧ _ from by omega), i64_wrap (show -9223372036854775808 ≤ stepY p.way * stepY p.way ∧ _ from by omega), i64_wrap (show -9223372036854775808 ≤ stepX p.way * stepX p.way + stepY p.way * stepY p.way ∧ _ from by omega)]
  refine answers_of rfl ?_; simp [lengthI]
theorem wind_small {w e n : Int} (he : Small 100000 e) (hn : Small 100000 n) : Small 200000 (acrossI w e n) ∧ Small 200000 (alongI w e n) := by
  simp only [Small] at *
  obtain ⟨sx, sy⟩ := step_cases w
  unfold acrossI alongI
  rcases sx with h | h | h <;> rcases sy with g | g | g <;> rw [h, g] <;> omega
theorem calm_spec (s : SeaD) (p : Stp) (n : Ned) (m e w : Int) (hp : 1 ≤ p.way ∧ p.way ≤ 8) (hn : NedOk n) (he : Small 100000 e) (hw : Small 100000 w) : Spec Tryz.prog 83 [.agg (lookC s p n m), .v (.int .i64 e), .v (.int .i64 w)] (.v (.bool (calmB p.way n.cross n.tail e w))) := by
  have sa := across_spec s p n m e w hp he hw
  have sl := along_spec s p n m e w hp he hw
  have sn := length_spec s p n m hp
  obtain ⟨k1, k2⟩ := wind_small (w := p.way) he hw
  have hb : calmB p.way n.cross n.tail e w = (decide (acrossI p.way e w * acrossI p.way e w ≤ lengthI p.way * n.cross * n.cross) && (decide (alongI p.way e w ≤ 0) || decide (alongI p.way e w * alongI p.way e w ≤ lengthI p.way * n.tail * n.tail))) := rfl
  rw [hb]
  have hl := length_small p.way
  generalize acrossI p.way e w = a at *
  generalize alongI p.way e w = b at *
  generalize lengthI p.way = q at *
  have m1 := mul_small k1 k1 (by omega) (by omega)
  have m2 := mul_small k2 k2 (by omega) (by omega)
  have q2 : Small 2 q := by simp only [Small]; omega
  have c3 : Small 300 n.cross := by have := hn.cross; simp only [Small]; omega
  have t3 : Small 300 n.tail := by have := hn.tail; simp only [Small]; omega
  have m3 := mul_small q2 c3 (by omega) (by omega)
  have m4 := mul_small q2 t3 (by omega) (by omega)
  have m5 := mul_small m3 c3 (by omega) (by omega)
  have m6 := mul_small m4 t3 (by omega) (by omega)
  simp only [Small] at m1 m2 m3 m4 m5 m6
  have w1 := i64_wrap (show -9223372036854775808 ≤ a * a ∧ _ from by omega)
  have w2 := i64_wrap (show -9223372036854775808 ≤ b * b ∧ _ from by omega)
  have w3 := i64_wrap (show -9223372036854775808 ≤ q * n.cross ∧ _ from by omega)
  have w4 := i64_wrap (show -9223372036854775808 ≤ q * n.tail ∧ _ from by omega)
  have w5 := i64_wrap (show -9223372036854775808 ≤ q * n.cross * n.cross ∧ _ from by omega)
  have w6 := i64_wrap (show -9223372036854775808 ≤ q * n.tail * n.tail ∧ _ from by omega)
  refine spec_of mixed Tryz.func83 (by decide) rfl Tryz.results83 Tryz.ntmps83 (by decide) 0 (by simp) ?_
  simp [lookC, rdgL, spnL, boaL, glaL]
  refine pwp_draw 8 (by decide) ?_
  simp
  refine pd_spec sa (by simp [lookC, rdgL, spnL, boaL, glaL]) (by simp) (by simp [lookC, rdgL, spnL, boaL, glaL]) rfl ?_
  simp
  refine pd_spec sl (by simp [lookC, rdgL, spnL, boaL, glaL]) (by simp) (by simp [lookC, rdgL, spnL, boaL, glaL]) rfl ?_
  simp
  refine ⟨by decide, ?_⟩
  refine pwp_draw 34 (by decide) ?_
  simp [w1]
  refine pd_spec sn (by simp [lookC, rdgL, spnL, boaL, glaL]) (by simp) (by simp [lookC, rdgL, spnL, boaL, glaL]) rfl ?_
  by_cases h1 : a * a ≤ q * n.cross * n.cross
  · by_cases h2 : b ≤ 0
    · simp [w3, w5, h1, h2]
      refine ⟨by decide, ?_⟩
      refine answers_of rfl ?_; simp
    · simp [w3, w5, h1, h2, w2]
      refine pd_spec sn (by simp [lookC, rdgL, spnL, boaL, glaL]) (by simp) (by simp [lookC, rdgL, spnL, boaL, glaL]) rfl ?_
      by_cases h3 : b * b ≤ q * n.tail * n.tail
      · simp [w4, w6, h3]
        refine ⟨by decide, ?_⟩
        refine answers_of rfl ?_; simp
      · simp [w4, w6, h3]
        refine ⟨by decide, ?_⟩
        refine answers_of rfl ?_; simp
  · simp [w3, w5, h1]
    refine ⟨by decide, ?_⟩
    refine answers_of rfl ?_; simp
def passB (s : SeaD) (m : Int) (i : Nat) : Bool := inB m (boaAt s.boats i).times.low (boaAt s.boats i).times.high
theorem passes_spec (s : SeaD) (p : Stp) (n : Ned) (m : Int) (i : Nat) (hi : i < s.boats.length) : Spec Tryz.prog 136 [.agg (lookC s p n m), .v (.int .i64 i)] (.v (.bool (passB s m i))) := by
  refine spec_of mixed Tryz.func136 (by decide) rfl Tryz.results136 Tryz.ntmps136 (by decide) 0 (by simp) ?_
  simp [lookC, rdgL, spnL, boaL, glaL]
  refine pwp_draw 19 (by decide) ?_
  simp [hi, Boa.cells]
  refine pd_spec (win_spec m (boaAt s.boats i).times.low (boaAt s.boats i).times.high) (by simp) (by simp) (by simp) rfl ?_
  simp
  refine ⟨by decide, ?_⟩
  refine answers_of rfl ?_; simp [passB]
def wayIn (b : Boa) (x y : Int) : Bool := inB x b.x.low b.x.high && inB y b.y.low b.y.high
def freeB (s : SeaD) (x y : Int) (th : Nat → Bool) : Bool := allN s.boats.length fun k => !(th k && wayIn (boaAt s.boats k) x y)
theorem free_spec (s : SeaD) (p : Stp) (n : Ned) (m x y : Int) (hs : s.boats.length ≤ 12) (f : FuncId) (first cap : List PV) (h1 : plainL first = true) (h2 : plainL cap = true) (th : Nat → Bool)
    (h : ∀ k, k < s.boats.length → Spec Tryz.prog f (first ++ ([.v (.int .i64 k)] ++ cap)) (.v (.bool (th k)))) : Spec Tryz.prog 81 [.agg (lookC s p n m), .v (.int .i64 x), .v (.int .i64 y), .clo (.func f) first cap] (.v (.bool (freeB s x y th))) := by
  refine spec_of mixed Tryz.func81 (by decide) rfl Tryz.results81 Tryz.ntmps81 (by decide) 0 (by simp) ?_
  simp [lookC, rdgL, spnL, boaL, glaL, renL_plain h1, renL_plain h2]
  refine pwp_loop (fun k : Nat => [(15, .v (.int .i64 k))]) (fun k => k ≤ s.boats.length ∧ ∀ j, j < k → (th j = false ∨ wayIn (boaAt s.boats j) x y = false)) (fun k => s.boats.length - k) 0 ⟨Nat.zero_le _, fun j hj => by omega⟩ (by simp; rfl) (by simp [vwAll_plain h1, vwAll_plain h2]) ?_
  intro k ⟨hk, hp⟩
  by_cases hkl : k < s.boats.length
  · have wk := i64_wrap (show -9223372036854775808 ≤ (k : Int) + 1 ∧ _ from by omega)
    have go : (th k = false ∨ wayIn (boaAt s.boats k) x y = false) → ∀ i, i < k + 1 → (th i = false ∨ wayIn (boaAt s.boats i) x y = false) := fun hb i hi => by
      rcases Nat.lt_or_eq_of_le (Nat.le_of_lt_succ hi) with h' | rfl
      · exact hp i h'
      · exact hb
    simp [hkl, Boa.cells]
    refine pop_spec (h k hkl) rfl false (.inr ⟨by simp, by simp [namesL_append, plainL_names h1, plainL_names h2]⟩) (.inl rfl) rfl (by simp) ?_
    cases ht : th k with
    | false =>
      simp
      refine again_of (k + 1) ⟨by omega, go (by simp [ht])⟩ (by omega) ?_
      simp [wk, vwAll_plain h1, vwAll_plain h2]
    | true =>
    simp
    refine pop_spec (win_spec x (boaAt s.boats k).x.low (boaAt s.boats k).x.high) rfl false (.inl (by simp)) (.inl rfl) rfl (by simp) ?_
    cases h3 : inB x (boaAt s.boats k).x.low (boaAt s.boats k).x.high with
    | false =>
      simp
      refine again_of (k + 1) ⟨by omega, go (by simp [wayIn, h3])⟩ (by omega) ?_
      simp [wk, vwAll_plain h1, vwAll_plain h2]
    | true =>
    simp
    refine pop_spec (win_spec y (boaAt s.boats k).y.low (boaAt s.boats k).y.high) rfl false (.inl (by simp)) (.inl rfl) rfl (by simp) ?_
    cases h4 : inB y (boaAt s.boats k).y.low (boaAt s.boats k).y.high with
    | false =>
      simp
      refine again_of (k + 1) ⟨by omega, go (by simp [wayIn, h4])⟩ (by omega) ?_
      simp [wk, vwAll_plain h1, vwAll_plain h2]
    | true =>
      simp
      refine answers_of rfl ?_
      rw [freeB, allN_false hkl (by simp [ht, wayIn, h3, h4])]
      simp
  · obtain rfl : k = s.boats.length := by omega
    simp
    refine answers_of rfl ?_
    rw [freeB, allN_spec.2 fun j hj => by simpa using hp j hj]
    simp
theorem cell_spec (s : SeaD) (p : Stp) (n : Ned) (m : Int) (k : Nat) (hs : SeaOk s) (hp : StpOk s p) (hk : (k : Int) < p.cells_) : Spec Tryz.prog 80 [.agg (lookC s p n m), .v (.int .i64 k)] (.tup [.v (.int .i64 (celN s p k)), .v (.int .i64 (celX p k)), .v (.int .i64 (celY p k))]) := by
  obtain ⟨⟨x0, x1⟩, y0, y1⟩ := cel_ok hp hk
  obtain ⟨n0, n1⟩ := celN_ok hs hp hk
  have hw := hs.wide
  have hd := hs.deep
  have hc := hp.cells
  have hn := hs.n
  have hm : s.wide * s.deep ≤ 144 := Int.le_trans (Int.mul_le_mul hw.2 hd.2 (by omega) (by omega)) (by omega)
  obtain ⟨sx, sy⟩ := step_cases p.way
  have b1 : -12 ≤ (k : Int) * stepX p.way ∧ (k : Int) * stepX p.way ≤ 12 := by rcases sx with h | h | h <;> rw [h] <;> omega
  have b2 : -12 ≤ (k : Int) * stepY p.way ∧ (k : Int) * stepY p.way ≤ 12 := by rcases sy with h | h | h <;> rw [h] <;> omega
  have e1 : p.x + (k : Int) * stepX p.way = celX p k := rfl
  have e2 : p.y + (k : Int) * stepY p.way = celY p k := rfl
  have e3 : celY p k * s.wide + celX p k = celN s p k := rfl
  have w1 := i64_wrap (show -9223372036854775808 ≤ (k : Int) * stepX p.way ∧ _ from by omega)
  have w2 := i64_wrap (show -9223372036854775808 ≤ (k : Int) * stepY p.way ∧ _ from by omega)
  have w3 := i64_wrap (show -9223372036854775808 ≤ celX p k ∧ _ from by omega)
  have w4 := i64_wrap (show -9223372036854775808 ≤ celY p k ∧ _ from by omega)
  have w5 := i64_wrap (show -9223372036854775808 ≤ celN s p k ∧ _ from by omega)
  have w6 := i64_wrap (show -9223372036854775808 ≤ celY p k * s.wide ∧ _ from by unfold celN at n0 n1; omega)
  refine spec_of mixed Tryz.func80 (by decide) rfl Tryz.results80 Tryz.ntmps80 (by decide) 0 (by simp) ?_
  simp [lookC, rdgL, spnL, boaL, glaL]
  refine pop_spec (steps_spec p.way hp.way) rfl false (.inl (by simp)) (.inl rfl) rfl (by simp) ?_
  simp
  refine pwp_draw 16 (by decide) ?_
  simp [w1, w2, e1, e2, w3, w4]
  refine ⟨by decide, ?_⟩
  simp [w6, e3, w5]
  refine answers_of rfl ?_; simp
theorem runP_more {cells : Nat} {good : Nat → Bool} {o : Nat} : ∀ {n m : Nat}, n ≤ m → runP cells good n = some o → runP cells good m = some o
  | n, 0, h, h1 => by
    obtain rfl : n = 0 := by omega
    exact h1
  | n, m + 1, h, h1 => by
    rcases Nat.lt_or_eq_of_le h with h | rfl
    · simp only [runP, runP_more (show n ≤ m by omega) h1]
    · exact h1
theorem run_spec (s : SeaD) (p : Stp) (n : Ned) (m : Int) (cells : Nat) (hc : 1 ≤ cells ∧ cells ≤ 12) (hp : 1 ≤ p.cells_ ∧ p.cells_ ≤ 12) (f : FuncId) (first cap : List PV) (h1 : plainL first = true) (h2 : plainL cap = true) (good : Nat → Bool)
    (h : ∀ k : Nat, (k : Int) < p.cells_ → Spec Tryz.prog f (first ++ ([.v (.int .i64 k)] ++ cap)) (.v (.bool (good k)))) : Spec Tryz.prog 78 [.agg (lookC s p n m), .v (.int .i64 cells), .clo (.func f) first cap] (.v (.int .i64 (runI cells good p.cells_.toNat))) := by
  refine spec_of mixed Tryz.func78 (by decide) rfl Tryz.results78 Tryz.ntmps78 (by decide) 0 (by simp) ?_
  simp [lookC, rdgL, spnL, boaL, glaL, renL_plain h1, renL_plain h2]
  refine pwp_loop (fun k : Nat => [(7, .v (.int .i64 (longN good k))), (12, .v (.int .i64 k))]) (fun k => k ≤ p.cells_.toNat ∧ runP cells good k = none) (fun k => p.cells_.toNat - k) 0 ⟨Nat.zero_le _, rfl⟩ (by simp; rfl) (by simp [vwAll_plain h1, vwAll_plain h2, longN]) ?_
  intro k ⟨hk, hr⟩
  have hll := longN_le good k
  by_cases hkl : (k : Int) < p.cells_
  · have wk := i64_wrap (show -9223372036854775808 ≤ (k : Int) + 1 ∧ _ from by omega)
    have wl := i64_wrap (show -9223372036854775808 ≤ (longN good k : Int) + 1 ∧ _ from by omega)
    have wc := i64_wrap (show -9223372036854775808 ≤ (k : Int) - cells ∧ _ from by omega)
    have wd := i64_wrap (show -9223372036854775808 ≤ (k : Int) - cells + 1 ∧ _ from by omega)
    have hl1 : longN good (k + 1) = if good k then longN good k + 1 else 0 := rfl
    have hr1 : runP cells good (k + 1) = if longN good (k + 1) = cells then some (k + 1 - cells) else none := by simp only [runP, hr]
    have hle := longN_le good (k + 1)
    simp [hkl, wl]
    refine pop_spec (h k hkl) rfl false (.inr ⟨by simp, by simp [namesL_append, plainL_names h1, plainL_names h2]⟩) (.inl rfl) rfl (by simp) ?_
    cases hg : good k with
    | true =>
      rw [hg] at hl1
      simp only [if_true] at hl1
      by_cases he : longN good k + 1 = cells
      · rw [hl1, if_pos he] at hr1
        simp [eq_true (show (longN good k : Int) + 1 = cells from by omega), wc, wd]
        refine answers_of rfl ?_
        rw [runI, runP_more (show k + 1 ≤ p.cells_.toNat by omega) hr1]
        simp [wc, wd]
        omega
      · rw [hl1, if_neg he] at hr1
        simp [show ¬ (longN good k : Int) + 1 = cells from by omega]
        refine again_of (k + 1) ⟨by omega, hr1⟩ (by omega) ?_
        simp [wk, vwAll_plain h1, vwAll_plain h2, hl1]
    | false =>
      rw [hg] at hl1
      simp only [Bool.false_eq_true, if_false] at hl1
      rw [hl1, if_neg (by omega)] at hr1
      simp [show ¬ (0 : Int) = cells from by omega]
      refine again_of (k + 1) ⟨by omega, hr1⟩ (by omega) ?_
      simp [wk, vwAll_plain h1, vwAll_plain h2, hl1]
  · obtain rfl : k = p.cells_.toNat := by omega
    simp [show ¬ (p.cells_.toNat : Int) < p.cells_ from by omega, show ¬ max p.cells_ 0 < p.cells_ from by omega, show p.cells_ ≤ max p.cells_ 0 from by omega]
    refine answers_of rfl ?_
    rw [runI, hr]
    simp
end Go.Qg


namespace Go.Qg
open Go.Proofs
set_option maxRecDepth 100000
set_option maxHeartbeats 32000000
attribute [local simp 2000] List.getElem?_cons_succ List.getElem?_cons_zero
attribute [local irreducible] pwp pops pdraw pop popCall pdCall thenP blockP scopeP pspec Spec answers ppost CallW rend
theorem atS_cells (g : Gge) (t : Int) : (atS g t).cells = [.v (.int .i64 (atLo g t)), .v (.int .i64 (atHi g t))] := rfl
theorem lookC_plain (s : SeaD) (p : Stp) (n : Ned) (m : Int) : plainL (lookC s p n m) = true := by simp [lookC, plainL, PV.plain, rdgL, spnL, boaL, glaL]
def goodS (s : SeaD) (p : Stp) (n : Ned) (m : Int) (k : Nat) : Bool := decide (n.draught ≤ (spnAt s.depths (celN s p k).toNat).low + atLo s.tide m) && freeB s (celX p k) (celY p k) (passB s m)
theorem offset1_spec (s : SeaD) (p : Stp) (n : Ned) (m : Int) (k : Nat) (hs : SeaOk s) (hp : StpOk s p) (hm : 0 ≤ m ∧ m ≤ 1440) (hk : (k : Int) < p.cells_) :
    Spec Tryz.prog 135 [.v (.int .i64 k), .rp (lookC s p n m) 0, .rp [.v (.int .i64 (atLo s.tide m))] 0] (.v (.bool (goodS s p n m k))) := by
  obtain ⟨n0, n1⟩ := celN_ok hs hp hk
  have ha := at_small hs.tide.1 hm
  have hd := hs.depth (celN s p k).toNat (by omega)
  have hl := hs.tide.2
  have hnb := hs.nb
  have w1 := i64_wrap (show -9223372036854775808 ≤ (spnAt s.depths (celN s p k).toNat).low + atLo s.tide m ∧ _ from by omega)
  have hsc : (spnAt s.depths (celN s p k).toNat).cells = [.v (.int .i64 (spnAt s.depths (celN s p k).toNat).low), .v (.int .i64 (spnAt s.depths (celN s p k).toNat).high)] := rfl
  refine spec_of mixed Tryz.func135 (by decide) rfl Tryz.results135 Tryz.ntmps135 (by decide) 0 (by simp) ?_
  simp [lookC, rdgL, spnL, boaL, glaL]
  refine pop_spec (cell_spec s p n m k hs hp hk) rfl false (.inl (by simp [lookC, rdgL, spnL, boaL, glaL])) (.inl rfl) rfl (by simp) ?_
  simp
  refine pwp_draw 22 (by decide) ?_
  by_cases h1 : n.draught ≤ (spnAt s.depths (celN s p k).toNat).low + atLo s.tide m
  · simp [n0, n1, hsc, w1, h1, show (celN s p k).toNat < s.depths.length from by omega]
    refine pd_spec (free_spec s p n m (celX p k) (celY p k) hnb 136 [.agg (lookC s p n m)] [] (by simp [plainL, PV.plain, lookC_plain]; simp [lookC, rdgL, spnL, boaL, glaL]) rfl (passB s m) fun j hj => by simpa using passes_spec s p n m j hj) (by simp [lookC, rdgL, spnL, boaL, glaL]) (by simp) (by simp [lookC, rdgL, spnL, boaL, glaL]) rfl ?_
    simp
    refine ⟨by decide, ?_⟩
    refine answers_of rfl ?_; simp [goodS, h1]
  · simp [n0, n1, hsc, w1, h1, show (celN s p k).toNat < s.depths.length from by omega]
    refine ⟨by decide, ?_⟩
    refine answers_of rfl ?_; simp [goodS, h1]
def offsetI (s : SeaD) (p : Stp) (n : Ned) (m : Int) : Int := runI n.run.toNat (goodS s p n m) p.cells_.toNat
theorem offset_spec (s : SeaD) (p : Stp) (n : Ned) (m : Int) (hs : SeaOk s) (hp : StpOk s p) (hn : NedOk n) (hm : 0 ≤ m ∧ m ≤ 1440) : Spec Tryz.prog 64 [.agg (lookC s p n m)] (.v (.int .i64 (offsetI s p n m))) := by
  have hr := hn.run
  have hc := hp.cells
  obtain ⟨c, hc'⟩ : ∃ c : Nat, n.run = c := ⟨n.run.toNat, by omega⟩
  have hrun := run_spec s p n m c (by omega) hc 135 [] [.rp (lookC s p n m) 0, .rp [.v (.int .i64 (atLo s.tide m))] 0] rfl (by rfl) (goodS s p n m) fun k hk => by simpa using offset1_spec s p n m k hs hp hm hk
  rw [show runI c (goodS s p n m) p.cells_.toNat = offsetI s p n m from by rw [offsetI, hc']; rfl] at hrun
  refine spec_of mixed Tryz.func64 (by decide) rfl Tryz.results64 Tryz.ntmps64 (by decide) 0 (by simp) ?_
  simp [lookC, rdgL, spnL, boaL, glaL]
  refine pop_spec (at_spec s.tide m hs.tide.1 hm) rfl false (.inl (by simp [Gge.cells, rdgL])) (.inl rfl) rfl (by simp [atS_cells]) ?_
  simp [atS_cells, hc']
  refine pop_specF [(1, .rp (lookC s p n m) 0), (3, .rp [.v (.int .i64 (atLo s.tide m))] 0), (4, .undef), (5, .undef), (6, .undef), (8, .undef), (13, .undef), (14, .undef), (16, .clo (.func 135) [] [.rp (lookC s p n m) 0, .rp [.v (.int .i64 (atLo s.tide m))] 0])] ?_ hrun rfl false (.inl (by simp [lookC, rdgL, spnL, boaL, glaL, hc'])) (.inl rfl) rfl (by simp) ?_
  · simp [lookC, rdgL, spnL, boaL, glaL, hc']
  simp
  refine answers_of rfl ?_; simp
theorem surelyDeep_spec (s : SeaD) (p : Stp) (n : Ned) (m : Int) (hs : SeaOk s) (hp : StpOk s p) (hn : NedOk n) (hm : 0 ≤ m ∧ m ≤ 1440) : Spec Tryz.prog 130 [.agg (lookC s p n m)] (.v (.bool (decide (0 ≤ offsetI s p n m)))) := by
  refine spec_of mixed Tryz.func130 (by decide) rfl Tryz.results130 Tryz.ntmps130 (by decide) 0 (by simp) ?_
  simp [lookC, rdgL, spnL, boaL, glaL]
  refine pop_spec (offset_spec s p n m hs hp hn hm) rfl false (.inl (by simp [lookC, rdgL, spnL, boaL, glaL])) (.inl rfl) rfl (by simp) ?_
  simp
  refine answers_of rfl ?_; simp
def calmS (s : SeaD) (p : Stp) (n : Ned) (m : Int) : Bool := calmB p.way n.cross n.tail (atLo s.east m) (atLo s.north m) && calmB p.way n.cross n.tail (atLo s.east m) (atHi s.north m) && (calmB p.way n.cross n.tail (atHi s.east m) (atLo s.north m) && calmB p.way n.cross n.tail (atHi s.east m) (atHi s.north m))
def flatS (s : SeaD) (n : Ned) (m : Int) : Bool := decide (n.calm ≤ atLo s.wave m) && decide (atHi s.wave m ≤ n.wave) && decide (atHi s.swell m ≤ n.swell)
theorem surelyFlat_spec (s : SeaD) (p : Stp) (n : Ned) (m : Int) (hs : SeaOk s) (hm : 0 ≤ m ∧ m ≤ 1440) : Spec Tryz.prog 132 [.agg (lookC s p n m)] (.v (.bool (flatS s n m))) := by
  refine spec_of mixed Tryz.func132 (by decide) rfl Tryz.results132 Tryz.ntmps132 (by decide) 0 (by simp) ?_
  simp [lookC, rdgL, spnL, boaL, glaL]
  refine pop_spec (at_spec s.wave m hs.wave.1 hm) rfl false (.inl (by simp [Gge.cells, rdgL])) (.inl rfl) rfl (by simp [atS_cells]) ?_
  simp [atS_cells]
  refine pwp_draw 28 (by decide) ?_
  by_cases h1 : n.calm ≤ atLo s.wave m
  · by_cases h2 : atHi s.wave m ≤ n.wave
    · simp [h1, h2]
      refine pd_spec (at_spec s.swell m hs.swell.1 hm) (by simp [Gge.cells, rdgL]) (by simp) (by simp [Gge.cells, rdgL]) (by simp [atS_cells]) ?_
      by_cases h3 : atHi s.swell m ≤ n.swell
      · simp [atS_cells, h3]
        refine ⟨by decide, ?_⟩
        refine answers_of rfl ?_; simp [flatS, h1, h2, h3]
      · simp [atS_cells, h3]
        refine ⟨by decide, ?_⟩
        refine answers_of rfl ?_; simp [flatS, h1, h2, h3]
    · simp [h1, h2]
      refine ⟨by decide, ?_⟩
      refine answers_of rfl ?_; simp [flatS, h2]
  · simp [h1]
    refine ⟨by decide, ?_⟩
    refine answers_of rfl ?_; simp [flatS, h1]
theorem wat_span {g : Gge} (hg : GgeOk g) (hc : Clear g) (t : Int) : g.least ≤ atLo g t ∧ atLo g t ≤ atHi g t ∧ atHi g t ≤ g.most := by
  have h1 := at_span hc hg.rate.1 (by have := hg.least; omega) (fun r hr => by
    obtain ⟨k, hk, rfl⟩ := List.mem_iff_getElem.1 hr
    have := (hg.rd k hk).2.1
    simpa [rdgAt, hk] using this.2.1) t
  exact ⟨atLo_ge g t, h1, atHi_le g t⟩
theorem surelyCalm_spec (s : SeaD) (p : Stp) (n : Ned) (m : Int) (hs : SeaOk s) (hp : StpOk s p) (hn : NedOk n) (hm : 0 ≤ m ∧ m ≤ 1440) (ce : Clear s.east) (cn : Clear s.north) : Spec Tryz.prog 131 [.agg (lookC s p n m)] (.v (.bool (calmS s p n m))) := by
  have e1 := wat_span hs.east.1 ce m
  have e2 := hs.east.2
  have n1 := wat_span hs.north.1 cn m
  have n2 := hs.north.2
  have sc := fun (e w : Int) (he : Small 300 e) (hw : Small 300 w) => calm_spec s p n m e w hp.way hn (by simp only [Small] at *; omega) (by simp only [Small] at *; omega)
  have s1 := sc (atLo s.east m) (atLo s.north m) (by simp only [Small]; omega) (by simp only [Small]; omega)
  have s2 := sc (atLo s.east m) (atHi s.north m) (by simp only [Small]; omega) (by simp only [Small]; omega)
  have s3 := sc (atHi s.east m) (atLo s.north m) (by simp only [Small]; omega) (by simp only [Small]; omega)
  have s4 := sc (atHi s.east m) (atHi s.north m) (by simp only [Small]; omega) (by simp only [Small]; omega)
  refine spec_of mixed Tryz.func131 (by decide) rfl Tryz.results131 Tryz.ntmps131 (by decide) 0 (by simp) ?_
  simp [lookC, rdgL, spnL, boaL, glaL]
  refine pwp_draw 18 (by decide) ?_
  simp
  refine pd_spec (at_spec s.east m hs.east.1 hm) (by simp [Gge.cells, rdgL]) (by simp) (by simp [Gge.cells, rdgL]) (by simp [atS_cells]) ?_
  simp [atS_cells]
  refine pd_spec (at_spec s.north m hs.north.1 hm) (by simp [Gge.cells, rdgL]) (by simp) (by simp [Gge.cells, rdgL]) (by simp [atS_cells]) ?_
  simp [atS_cells]
  refine ⟨by decide, ?_⟩
  refine pwp_loop (fun k : Nat => [(26, .v (.int .i64 k))]) (fun k => k ≤ 2 ∧ (1 ≤ k → calmB p.way n.cross n.tail (atLo s.east m) (atLo s.north m) = true ∧ calmB p.way n.cross n.tail (atLo s.east m) (atHi s.north m) = true) ∧ (2 ≤ k → calmB p.way n.cross n.tail (atHi s.east m) (atLo s.north m) = true ∧ calmB p.way n.cross n.tail (atHi s.east m) (atHi s.north m) = true)) (fun k => 2 - k) 0 ⟨by omega, by omega, by omega⟩ (by simp; rfl) (by simp) ?_
  intro k ⟨hk, q1, q2⟩
  obtain rfl | rfl | rfl : k = 0 ∨ k = 1 ∨ k = 2 := by omega
  · simp
    refine pop_spec s1 rfl false (.inl (by simp [lookC, rdgL, spnL, boaL, glaL])) (.inl rfl) rfl (by simp) ?_
    cases h1 : calmB p.way n.cross n.tail (atLo s.east m) (atLo s.north m) with
    | false => simp; refine answers_of rfl ?_; simp [calmS, h1]
    | true =>
    simp
    refine pop_spec s2 rfl false (.inl (by simp [lookC, rdgL, spnL, boaL, glaL])) (.inl rfl) rfl (by simp) ?_
    cases h2 : calmB p.way n.cross n.tail (atLo s.east m) (atHi s.north m) with
    | false => simp; refine answers_of rfl ?_; simp [calmS, h2]
    | true =>
    simp
    refine again_of 1 ?_ (by omega) ?_
    · simp [h1, h2]
    · simp
  · simp
    refine pop_spec s3 rfl false (.inl (by simp [lookC, rdgL, spnL, boaL, glaL])) (.inl rfl) rfl (by simp) ?_
    cases h1 : calmB p.way n.cross n.tail (atHi s.east m) (atLo s.north m) with
    | false => simp; refine answers_of rfl ?_; simp [calmS, h1]
    | true =>
    simp
    refine pop_spec s4 rfl false (.inl (by simp [lookC, rdgL, spnL, boaL, glaL])) (.inl rfl) rfl (by simp) ?_
    cases h2 : calmB p.way n.cross n.tail (atHi s.east m) (atHi s.north m) with
    | false => simp; refine answers_of rfl ?_; simp [calmS, h2]
    | true =>
    simp
    refine again_of 2 ?_ (by omega) ?_
    · simp [h1, h2, q1]
    · simp
  · simp
    refine answers_of rfl ?_
    simp [calmS, q1 (by omega), q2 (by omega)]
end Go.Qg


namespace Go.Qg
open Go.Proofs
set_option maxRecDepth 100000
set_option maxHeartbeats 32000000
attribute [local simp 2000] List.getElem?_cons_succ List.getElem?_cons_zero
attribute [local irreducible] pwp pops pdraw pop popCall pdCall thenP blockP scopeP pspec Spec answers ppost CallW rend
def blindG (s : SeaD) (p : Stp) (m : Int) (k : Nat) : Bool := (decide (((glaAt s.glares k).way - p.way + 8).tmod 8 ≤ 1) || decide (((glaAt s.glares k).way - p.way + 8).tmod 8 = 7)) && inB m (glaAt s.glares k).times.low (glaAt s.glares k).times.high
theorem blind1_spec (s : SeaD) (p : Stp) (n : Ned) (m : Int) (hs : SeaOk s) (hp : StpOk s p) (k : Nat) (hk : k < s.glares.length) : Spec Tryz.prog 161 [.agg (glaAt s.glares k).cells, .rp (lookC s p n m) 0] (.v (.bool (blindG s p m k))) := by
  have hg := hs.gla k hk
  have hw := hp.way
  have w1 := i64_wrap (show -9223372036854775808 ≤ (glaAt s.glares k).way - p.way ∧ _ from by omega)
  have w2 := i64_wrap (show -9223372036854775808 ≤ (glaAt s.glares k).way - p.way + 8 ∧ _ from by omega)
  have e0 : ((glaAt s.glares k).way - p.way + 8).tmod 8 = ((glaAt s.glares k).way - p.way + 8) % 8 := tmod_pos (by omega)
  obtain ⟨d, hd⟩ : ∃ d, ((glaAt s.glares k).way - p.way + 8).tmod 8 = d := ⟨_, rfl⟩
  have hdb : 0 ≤ d ∧ d ≤ 7 := by omega
  have w3 := i64_wrap (show -9223372036854775808 ≤ d ∧ _ from by omega)
  rw [blindG, hd]
  refine spec_of mixed Tryz.func161 (by decide) rfl Tryz.results161 Tryz.ntmps161 (by decide) 0 (by simp) ?_
  simp [lookC, rdgL, spnL, boaL, glaL, Gla.cells, w1, w2, hd, w3]
  by_cases h1 : d ≤ 1
  · simp [h1, show ¬ 1 < d from by omega]
    refine pop_spec (win_spec m (glaAt s.glares k).times.low (glaAt s.glares k).times.high) rfl false (.inl (by simp)) (.inl rfl) rfl (by simp) ?_
    simp
    refine answers_of rfl ?_; simp [h1]
  · by_cases h2 : d = 7
    · subst h2
      simp
      refine pop_spec (win_spec m (glaAt s.glares k).times.low (glaAt s.glares k).times.high) rfl false (.inl (by simp)) (.inl rfl) rfl (by simp) ?_
      simp
      refine answers_of rfl ?_; simp
    · simp [h1, h2, show 1 < d from by omega]
      refine answers_of rfl ?_; simp [h1, h2]
def blindB (s : SeaD) (p : Stp) (m : Int) : Bool := anyN s.glares.length (blindG s p m)
theorem blind_spec (s : SeaD) (p : Stp) (n : Ned) (m : Int) (hs : SeaOk s) (hp : StpOk s p) : Spec Tryz.prog 85 [.agg (lookC s p n m)] (.v (.bool (blindB s p m))) := by
  have hg := hs.ng
  refine spec_of mixed Tryz.func85 (by decide) rfl Tryz.results85 Tryz.ntmps85 (by decide) 0 (by simp) ?_
  simp [lookC, rdgL, spnL, boaL, glaL]
  refine pop_specF [(1, .rp (lookC s p n m) 0), (3, .undef), (4, .undef), (6, .clo (.func 161) [] [.rp (lookC s p n m) 0])] ?_ (containsGla_spec s.glares (by omega) 161 [] [.rp (lookC s p n m) 0] rfl (by rfl) (blindG s p m) fun k hk => by simpa using blind1_spec s p n m hs hp k hk) rfl false (.inl (by simp [lookC, rdgL, spnL, boaL, glaL])) (.inl rfl) rfl (by simp) ?_
  · simp [lookC, rdgL, spnL, boaL, glaL]
  simp
  refine answers_of rfl ?_; simp [blindB]
theorem clear_spec (s : SeaD) (p : Stp) (n : Ned) (m : Int) (hs : SeaOk s) (hp : StpOk s p) : Spec Tryz.prog 133 [.agg (lookC s p n m)] (.v (.bool (!blindB s p m))) := by
  refine spec_of mixed Tryz.func133 (by decide) rfl Tryz.results133 Tryz.ntmps133 (by decide) 0 (by simp) ?_
  simp [lookC, rdgL, spnL, boaL, glaL]
  refine pop_spec (blind_spec s p n m hs hp) rfl false (.inl (by simp [lookC, rdgL, spnL, boaL, glaL])) (.inl rfl) rfl (by simp) ?_
  simp
  refine answers_of rfl ?_; simp
def cloOf (x : FuncId × List PV) : PV := .clo (.func x.1) x.2 []
def cloAt (L : List (FuncId × List PV)) (k : Nat) : FuncId × List PV := L.getD k (0, [])
def closL (L : List (FuncId × List PV)) : PV := .sl 1 L.length fun k => [cloOf (cloAt L k)]
theorem all_spec (L : List (FuncId × List PV)) (hL : L.length ≤ 9223372036854775807) (hp : ∀ k, k < L.length → plainL (cloAt L k).2 = true) (b : Nat → Bool)
    (h : ∀ k, k < L.length → (∀ j, j < k → b j = true) → Spec Tryz.prog (cloAt L k).1 (cloAt L k).2 (.v (.bool (b k)))) : Spec Tryz.prog 134 [closL L] (.v (.bool (allN L.length b))) := by
  refine spec_of mixed Tryz.func134 (by decide) rfl Tryz.results134 Tryz.ntmps134 (by decide) 0 (by simp) ?_
  simp [closL, cloOf]
  refine pwp_loop (fun k : Nat => [(7, .v (.int .i64 k))]) (fun k => k ≤ L.length ∧ ∀ j, j < k → b j = true) (fun k => L.length - k) 0 ⟨Nat.zero_le _, fun j hj => by omega⟩ (by simp; rfl) (by simp) ?_
  intro k ⟨hk, hb⟩
  by_cases hkl : k < L.length
  · have hpk := hp k hkl
    simp [hkl, cloOf]
    refine pop_spec (h k hkl hb) rfl false (.inr ⟨by simp, by simp [plainL_names hpk]⟩) (.inl rfl) rfl (by simp) ?_
    cases hbk : b k with
    | true =>
      simp
      refine again_of (k + 1) ⟨by omega, fun j hj => ?_⟩ (by omega) ?_
      · rcases Nat.lt_succ_iff_lt_or_eq.1 hj with hj | rfl
        · exact hb j hj
        · exact hbk
      · simp [i64_wrap (show -9223372036854775808 ≤ (k : Int) + 1 ∧ _ from by omega)]
    | false =>
      simp
      refine answers_of rfl ?_; simp [allN_false hkl hbk]
  · simp [hkl]
    obtain rfl : k = L.length := by omega
    refine answers_of rfl ?_; simp [allN_spec.2 hb]
end Go.Qg


namespace Go.Qg
open Go.Proofs
set_option maxRecDepth 100000
set_option maxHeartbeats 4000000
structure Agr (s : SeaD) (t : Tru) : Prop where
  minute : 0 ≤ t.minute ∧ t.minute ≤ 1440
  tide : atLo s.tide t.minute ≤ t.tide ∧ t.tide ≤ atHi s.tide t.minute
  east : atLo s.east t.minute ≤ t.east ∧ t.east ≤ atHi s.east t.minute
  north : atLo s.north t.minute ≤ t.north ∧ t.north ≤ atHi s.north t.minute
  wave : atLo s.wave t.minute ≤ t.wave ∧ t.wave ≤ atHi s.wave t.minute
  swell : atLo s.swell t.minute ≤ t.swell ∧ t.swell ≤ atHi s.swell t.minute
  nd : t.depths.length = s.depths.length
  nb : t.boats.length = s.boats.length
  depth : ∀ k, k < s.depths.length → (spnAt s.depths k).low ≤ geti t.depths k ∧ geti t.depths k ≤ (spnAt s.depths k).high
  boat : ∀ i, i < s.boats.length → getb t.boats i = true → passB s t.minute i = true
def goodT (s : SeaD) (p : Stp) (n : Ned) (t : Tru) (k : Nat) : Bool := decide (n.draught ≤ geti t.depths (celN s p k).toNat + t.tide) && freeB s (celX p k) (celY p k) fun i => getb t.boats i
def sureW (s : SeaD) (p : Stp) (n : Ned) (m : Int) : Bool := decide (0 ≤ offsetI s p n m) && calmS s p n m && flatS s n m && !blindB s p m
def usableB (s : SeaD) (p : Stp) (n : Ned) (t : Tru) : Bool := decide (0 ≤ runI n.run.toNat (goodT s p n t) p.cells_.toNat) && calmB p.way n.cross n.tail t.east t.north && inB t.wave n.calm n.wave && decide (t.swell ≤ n.swell) && !blindB s p t.minute
theorem freeB_mono {s : SeaD} {x y : Int} {th th' : Nat → Bool} (h : ∀ i, i < s.boats.length → th' i = true → th i = true) (hf : freeB s x y th = true) : freeB s x y th' = true := by
  rw [freeB, allN_spec] at *
  intro k hk
  have := hf k hk
  cases h' : th' k with
  | false => simp
  | true => rw [h k hk h'] at this; simpa using this
theorem sure_usable {s : SeaD} {p : Stp} {n : Ned} {t : Tru} (hs : SeaOk s) (hp : StpOk s p) (hn : NedOk n) (ha : Agr s t) (h : sureW s p n t.minute = true) : usableB s p n t = true := by
  simp only [sureW, Bool.and_eq_true, decide_eq_true_eq] at h
  obtain ⟨⟨⟨h1, h2⟩, h3⟩, h4⟩ := h
  simp only [calmS, flatS, Bool.and_eq_true, decide_eq_true_eq] at h2 h3
  obtain ⟨⟨c1, c2⟩, c3, c4⟩ := h2
  obtain ⟨⟨f1, f2⟩, f3⟩ := h3
  have g1 : 0 ≤ runI n.run.toNat (goodT s p n t) p.cells_.toNat := by
    refine runI_mono (by have := hn.run; omega) (fun k hk hg => ?_) h1
    have hc := hp.cells
    have hk' : (k : Int) < p.cells_ := by omega
    obtain ⟨n0, n1⟩ := celN_ok hs hp hk'
    simp only [goodS, Bool.and_eq_true, decide_eq_true_eq] at hg
    have hd := ha.depth (celN s p k).toNat (by omega)
    have ht := ha.tide
    simp only [goodT, Bool.and_eq_true, decide_eq_true_eq]
    exact ⟨by omega, freeB_mono ha.boat hg.2⟩
  have g2 := calm_mid c1 c2 c3 c4 ha.east.1 ha.east.2 ha.north.1 ha.north.2
  have hw := ha.wave
  have hz := ha.swell
  simp only [usableB, Bool.and_eq_true, decide_eq_true_eq, inB_spec]
  exact ⟨⟨⟨⟨g1, g2⟩, by omega, by omega⟩, by omega⟩, h4⟩
end Go.Qg


namespace Go.Qg
open Go.Proofs
set_option maxRecDepth 100000
set_option maxHeartbeats 32000000
attribute [local simp 2000] List.getElem?_cons_succ List.getElem?_cons_zero
attribute [local irreducible] pwp pops pdraw pop popCall pdCall thenP blockP scopeP pspec Spec answers ppost CallW rend
def sureK (s : SeaD) (p : Stp) (n : Ned) (m : Int) : Nat → Bool
  | 0 => decide (0 ≤ offsetI s p n m)
  | 1 => calmS s p n m
  | 2 => flatS s n m
  | _ => !blindB s p m
theorem sureK_all (s : SeaD) (p : Stp) (n : Ned) (m : Int) : allN 4 (sureK s p n m) = sureW s p n m := by
  simp [allN, sureW, sureK, List.range, List.range.loop, Bool.and_assoc]
def sureC (s : SeaD) (p : Stp) (n : Ned) (m : Int) : List (FuncId × List PV) := [(130, [.agg (lookC s p n m)]), (131, [.agg (lookC s p n m)]), (132, [.agg (lookC s p n m)]), (133, [.agg (lookC s p n m)])]
theorem lt4k {p : Nat → Prop} (h0 : p 0) (h1 : p 1) (h2 : p 2) (h3 : p 3) : ∀ k, k < 4 → p k := fun k hk => by
  obtain rfl | rfl | rfl | rfl : k = 0 ∨ k = 1 ∨ k = 2 ∨ k = 3 := by omega
  · exact h0
  · exact h1
  · exact h2
  · exact h3
theorem lookC_one {s : SeaD} {p : Stp} {n : Ned} {m : Int} : (∀ x : PV, x ∈ lookC s p n m → x.one = true) ↔ True := ⟨fun _ => trivial, fun _ => by simp [lookC, rdgL, spnL, boaL, glaL]⟩
theorem surely_spec (s : SeaD) (p : Stp) (n : Ned) (m : Int) (hs : SeaOk s) (hp : StpOk s p) (hn : NedOk n) (hm : 0 ≤ m ∧ m ≤ 1440) (ce : Clear s.east) (cn : Clear s.north) : Spec Tryz.prog 63 [.agg (lookC s p n m)] (.v (.bool (sureW s p n m))) := by
  have hall := all_spec (sureC s p n m) (by simp [sureC]) (lt4k (by simp [sureC, cloAt, plainL, PV.plain, lookC_plain, lookC_one]) (by simp [sureC, cloAt, plainL, PV.plain, lookC_plain, lookC_one]) (by simp [sureC, cloAt, plainL, PV.plain, lookC_plain, lookC_one]) (by simp [sureC, cloAt, plainL, PV.plain, lookC_plain, lookC_one])) (sureK s p n m) (lt4k (fun _ => surelyDeep_spec s p n m hs hp hn hm) (fun _ => surelyCalm_spec s p n m hs hp hn hm ce cn) (fun _ => surelyFlat_spec s p n m hs hm) (fun _ => clear_spec s p n m hs hp))
  rw [show (sureC s p n m).length = 4 from rfl, sureK_all] at hall
  refine spec_of mixed Tryz.func63 (by decide) rfl Tryz.results63 Tryz.ntmps63 (by decide) 0 (by simp) ?_
  simp [lookC, rdgL, spnL, boaL, glaL]
  refine popLess_of [(3, .rp [cloOf (cloAt (sureC s p n m) 0), cloOf (cloAt (sureC s p n m) 1), cloOf (cloAt (sureC s p n m) 2), cloOf (cloAt (sureC s p n m) 3)] 0)] ?_ (by simp; rfl) ?_
  · simp [cloOf, cloAt, sureC, lookC, rdgL, spnL, boaL, glaL]
  simp
  refine pop_spec hall rfl false (.inl ?_) (.inl rfl) rfl (by simp) ?_
  · simp [closL, sureC, cloOf]
    refine lt4k ?_ ?_ ?_ ?_ <;> simp [cloOf, cloAt]
  simp
  refine answers_of rfl ?_; simp
def soundB (s : SeaD) : Bool := runsB s.tide && (runsB s.east && (runsB s.north && (runsB s.wave && runsB s.swell)))
theorem sound_spec (s : SeaD) (p : Stp) (n : Ned) (m : Int) (hs : SeaOk s) : Spec Tryz.prog 129 [.agg (lookC s p n m)] (.v (.bool (soundB s))) := by
  have r1 := runs_spec s.tide hs.tide.1
  have r2 := runs_spec s.east hs.east.1
  have r3 := runs_spec s.north hs.north.1
  have r4 := runs_spec s.wave hs.wave.1
  have r5 := runs_spec s.swell hs.swell.1
  simp only [Gge.cells, rdgL] at r1 r2 r3 r4 r5
  refine spec_of mixed Tryz.func129 (by decide) rfl Tryz.results129 Tryz.ntmps129 (by decide) 0 (by simp) ?_
  simp [lookC, rdgL, spnL, boaL, glaL]
  refine pwp_loop (fun k : Nat => [(26, .v (.int .i64 k))]) (fun k => k ≤ 5 ∧ (1 ≤ k → runsB s.tide = true) ∧ (2 ≤ k → runsB s.east = true) ∧ (3 ≤ k → runsB s.north = true) ∧ (4 ≤ k → runsB s.wave = true) ∧ (5 ≤ k → runsB s.swell = true)) (fun k => 5 - k) 0 ⟨by omega, by omega, by omega, by omega, by omega, by omega⟩ (by simp; rfl) (by simp) ?_
  intro k ⟨hk, q1, q2, q3, q4, q5⟩
  obtain rfl | rfl | rfl | rfl | rfl | rfl : k = 0 ∨ k = 1 ∨ k = 2 ∨ k = 3 ∨ k = 4 ∨ k = 5 := by omega
  · simp
    refine pop_spec r1 rfl false (.inl (by simp)) (.inl rfl) rfl (by simp) ?_
    cases h : runsB s.tide with
    | false => simp; refine answers_of rfl ?_; simp [soundB, h]
    | true =>
      simp
      refine again_of 1 (by simp [h]) (by omega) ?_
      simp
  · simp
    refine pop_spec r2 rfl false (.inl (by simp)) (.inl rfl) rfl (by simp) ?_
    cases h : runsB s.east with
    | false => simp; refine answers_of rfl ?_; simp [soundB, h]
    | true =>
      simp
      refine again_of 2 (by simp [q1 (by omega), h]) (by omega) ?_
      simp
  · simp
    refine pop_spec r3 rfl false (.inl (by simp)) (.inl rfl) rfl (by simp) ?_
    cases h : runsB s.north with
    | false => simp; refine answers_of rfl ?_; simp [soundB, h]
    | true =>
      simp
      refine again_of 3 (by simp [q1 (by omega), q2 (by omega), h]) (by omega) ?_
      simp
  · simp
    refine pop_spec r4 rfl false (.inl (by simp)) (.inl rfl) rfl (by simp) ?_
    cases h : runsB s.wave with
    | false => simp; refine answers_of rfl ?_; simp [soundB, h]
    | true =>
      simp
      refine again_of 4 (by simp [q1 (by omega), q2 (by omega), q3 (by omega), h]) (by omega) ?_
      simp
  · simp
    refine pop_spec r5 rfl false (.inl (by simp)) (.inl rfl) rfl (by simp) ?_
    cases h : runsB s.swell with
    | false => simp; refine answers_of rfl ?_; simp [soundB, h]
    | true =>
      simp
      refine again_of 5 (by simp [q1 (by omega), q2 (by omega), q3 (by omega), q4 (by omega), h]) (by omega) ?_
      simp
  · simp
    refine answers_of rfl ?_
    simp [soundB, q1 (by omega), q2 (by omega), q3 (by omega), q4 (by omega), q5 (by omega)]
def askedE (s : SeaD) (p : Stp) (n : Ned) (m : Int) : Int := if (seaB s && stripB s p && needB n && inB m 0 1440) = true then if soundB s = true then 0 else 5 else 2
theorem asked_spec (s : SeaD) (p : Stp) (n : Ned) (m : Int) (hm : SeaMem s) : Spec Tryz.prog 62 [.agg (lookC s p n m)] (.v (.int .i64 (askedE s p n m))) := by
  have hsea := sea_spec s hm
  have hned := need_spec n
  simp only [SeaD.cells, rdgL, spnL, boaL, glaL] at hsea
  simp only [Ned.cells] at hned
  refine spec_of mixed Tryz.func62 (by decide) rfl Tryz.results62 Tryz.ntmps62 (by decide) 0 (by simp) ?_
  simp [lookC, rdgL, spnL, boaL, glaL]
  refine pop_spec hsea rfl false (.inl (by simp)) (.inl rfl) rfl (by simp) ?_
  cases h1 : seaB s with
  | false => simp; refine answers_of rfl ?_; simp [askedE, h1]
  | true =>
  have hso := seaB_ok h1
  have hstr := wstrip_spec s p hso
  rw [show (wayB p.way && inB p.cells_ 1 12 && inB p.x 0 (s.wide - 1) && inB p.y 0 (s.deep - 1) && (inB (p.x + stepX p.way * (p.cells_ - 1)) 0 (s.wide - 1) && inB (p.y + stepY p.way * (p.cells_ - 1)) 0 (s.deep - 1))) = stripB s p from rfl] at hstr
  simp only [SeaD.cells, Stp.cells, rdgL, spnL, boaL, glaL] at hstr
  simp
  refine pop_spec hstr rfl false (.inl (by simp)) (.inl rfl) rfl (by simp) ?_
  cases h2 : stripB s p with
  | false => simp; refine answers_of rfl ?_; simp [askedE, h2]
  | true =>
  simp
  refine pop_spec hned rfl false (.inl (by simp)) (.inl rfl) rfl (by simp) ?_
  cases h3 : needB n with
  | false => simp; refine answers_of rfl ?_; simp [askedE, h3]
  | true =>
  simp
  refine pop_spec (win_spec m 0 1440) rfl false (.inl (by simp)) (.inl rfl) rfl (by simp) ?_
  cases h4 : inB m 0 1440 with
  | false => simp; refine answers_of rfl ?_; simp [askedE, h4]
  | true =>
  simp
  refine pop_spec (sound_spec s p n m hso) rfl false (.inl (by simp [lookC, rdgL, spnL, boaL, glaL])) (.inl rfl) rfl (by simp) ?_
  cases h5 : soundB s with
  | false => simp; refine answers_of rfl ?_; simp [askedE, h1, h2, h3, h4, h5]
  | true => simp; refine answers_of rfl ?_; simp [askedE, h1, h2, h3, h4, h5]
structure AskOk (s : SeaD) (p : Stp) (n : Ned) (m : Int) : Prop where
  sea : SeaOk s
  strip : StpOk s p
  need : NedOk n
  minute : 0 ≤ m ∧ m ≤ 1440
  tide : Clear s.tide
  east : Clear s.east
  north : Clear s.north
  wave : Clear s.wave
  swell : Clear s.swell
theorem asked_ok {s : SeaD} {p : Stp} {n : Ned} {m : Int} (h : askedE s p n m = 0) : AskOk s p n m := by
  unfold askedE at h
  split at h
  · rename_i h1
    split at h
    · rename_i h2
      simp only [Bool.and_eq_true, soundB, runsB_iff] at h1 h2
      exact ⟨seaB_ok h1.1.1.1, stripB_ok h1.1.1.2, needB_ok h1.1.2, inB_spec.1 h1.2, h2.1, h2.2.1, h2.2.2.1, h2.2.2.2.1, h2.2.2.2.2⟩
    · omega
  · omega
def sureR (s : SeaD) (p : Stp) (n : Ned) (m : Int) : PV := if askedE s p n m = 0 then if sureW s p n m = true then .tup [.v (.int .i64 (offsetI s p n m)), .v (.int .i64 0)] else .tup [.v (.int .i64 0), .v (.int .i64 7)] else .tup [.v (.int .i64 0), .v (.int .i64 (askedE s p n m))]
theorem Sure_spec (s : SeaD) (p : Stp) (n : Ned) (m : Int) (hm : SeaMem s) : Spec Tryz.prog 20 [.agg s.cells, .agg p.cells, .agg n.cells, .v (.int .i64 m)] (sureR s p n m) := by
  have hask := asked_spec s p n m hm
  refine spec_of mixed Tryz.func20 (by decide) rfl Tryz.results20 Tryz.ntmps20 (by decide) 0 (by simp) ?_
  simp [SeaD.cells, Stp.cells, Ned.cells, rdgL, spnL, boaL, glaL]
  refine pop_spec hask rfl false (.inl (by simp [lookC, rdgL, spnL, boaL, glaL])) (.inl rfl) rfl (by simp) ?_
  by_cases h0 : askedE s p n m = 0
  · have ho := asked_ok h0
    simp [h0]
    refine pop_spec (surely_spec s p n m ho.sea ho.strip ho.need ho.minute ho.east ho.north) rfl false (.inl (by simp [lookC, rdgL, spnL, boaL, glaL])) (.inl rfl) rfl (by simp) ?_
    cases h1 : sureW s p n m with
    | false => simp; refine answers_of rfl ?_; simp [sureR, h0, h1]
    | true =>
      simp
      refine pop_spec (offset_spec s p n m ho.sea ho.strip ho.need ho.minute) rfl false (.inl (by simp [lookC, rdgL, spnL, boaL, glaL])) (.inl rfl) rfl (by simp) ?_
      simp
      refine answers_of rfl ?_; simp [sureR, h0, h1]
  · simp [h0]
    refine answers_of rfl ?_; simp [sureR, h0]
end Go.Qg


namespace Go.Qg
open Go.Proofs
set_option maxRecDepth 100000
set_option maxHeartbeats 32000000
attribute [local simp 2000] List.getElem?_cons_succ List.getElem?_cons_zero
attribute [local irreducible] pwp pops pdraw pop popCall pdCall thenP blockP scopeP pspec Spec answers ppost CallW rend
theorem indexInt_spec (l : List Int) (hl : l.length ≤ 9223372036854775807) (f : FuncId) (first cap : List PV) (h1 : plainL first = true) (h2 : plainL cap = true) (p : Nat → Bool)
    (h : ∀ k, k < l.length → Spec Tryz.prog f (first ++ ([.v (.int .i64 (geti l k))] ++ cap)) (.v (.bool (p k)))) : Spec Tryz.prog 196 [ints l, .clo (.func f) first cap] (.v (.int .i64 (findN l.length p))) := by
  refine spec_of mixed Tryz.func196 (by decide) rfl Tryz.results196 Tryz.ntmps196 (by decide) 0 (by simp) ?_
  simp [ints, renL_plain h1, renL_plain h2]
  refine pwp_loop (fun k : Nat => [(8, .v (.int .i64 k))]) (fun k => k ≤ l.length ∧ findI p k = none) (fun k => l.length - k) 0 ⟨Nat.zero_le _, rfl⟩ (by simp; rfl) (by simp [vwAll_plain h1, vwAll_plain h2]) ?_
  intro k ⟨hk, hp⟩
  by_cases hkl : k < l.length
  · simp [hkl]
    refine pop_spec (h k hkl) rfl false (.inr ⟨by simp, by simp [namesL_append, plainL_names h1, plainL_names h2]⟩) (.inl rfl) rfl (by simp) ?_
    cases hpk : p k with
    | false =>
      simp
      refine again_of (k + 1) ⟨by omega, by simp [findI, hp, hpk]⟩ (by omega) ?_
      simp [i64_wrap (show -9223372036854775808 ≤ (k : Int) + 1 ∧ _ from by omega), vwAll_plain h1, vwAll_plain h2]
    | true =>
      simp
      refine answers_of rfl ?_; simp [findN, findI_some hpk hp hkl]
  · simp [hkl]
    obtain rfl : k = l.length := by omega
    refine answers_of rfl ?_; simp [findN, hp]
theorem containsInt_spec (l : List Int) (hl : l.length ≤ 9223372036854775807) (f : FuncId) (first cap : List PV) (h1 : plainL first = true) (h2 : plainL cap = true) (p : Nat → Bool)
    (h : ∀ k, k < l.length → Spec Tryz.prog f (first ++ ([.v (.int .i64 (geti l k))] ++ cap)) (.v (.bool (p k)))) : Spec Tryz.prog 155 [ints l, .clo (.func f) first cap] (.v (.bool (anyN l.length p))) := by
  refine spec_of mixed Tryz.func155 (by decide) rfl Tryz.results155 Tryz.ntmps155 (by decide) 0 (by simp) ?_
  simp [ints, renL_plain h1, renL_plain h2]
  refine pop_spec (indexInt_spec l hl f first cap h1 h2 p h) rfl false (.inr ⟨by simp [ints], by simp [namesL_append, plainL_names h1, plainL_names h2, ints]⟩) (.inl rfl) rfl (by simp) ?_
  cases hf : findI p l.length with
  | none =>
    have := findI_none.1 hf
    simp [findN, hf]
    refine answers_of rfl ?_
    simp [anyN_false this]
  | some k =>
    have hk : k < l.length ∧ p k = true := findI_get hf
    simp [findN, hf]
    refine answers_of rfl ?_
    simp [anyN_true hk.1 hk.2]
def valB (x : Int) : Bool := inB x (-100000) 100000
theorem truth1_spec (x : Int) : Spec Tryz.prog 154 [.v (.int .i64 x)] (.v (.bool (valB x))) := by
  refine spec_of mixed Tryz.func154 (by decide) rfl Tryz.results154 Tryz.ntmps154 (by decide) 0 (by simp) ?_
  simp
  refine pop_spec (win_spec x (-100000) 100000) rfl false (.inl (by simp)) (.inl rfl) rfl (by simp) ?_
  simp
  refine answers_of rfl ?_; simp [valB]
theorem truth2_spec (x : Int) : Spec Tryz.prog 156 [.v (.int .i64 x), .rp [.clo (.func 154) [] []] 0] (.v (.bool (!valB x))) := by
  refine spec_of mixed Tryz.func156 (by decide) rfl Tryz.results156 Tryz.ntmps156 (by decide) 0 (by simp) ?_
  simp
  refine pop_spec (truth1_spec x) rfl false (.inl (by simp)) (.inl rfl) rfl (by simp) ?_
  simp
  refine answers_of rfl ?_; simp
def truthB (s : SeaD) (t : Tru) : Bool := inB t.minute 0 1440 && valB t.tide && valB t.east && valB t.north && valB t.wave && valB t.swell && decide (t.depths.length = s.depths.length) && decide (t.boats.length = s.boats.length) && allN t.depths.length (fun k => valB (geti t.depths k))
structure TruMem (t : Tru) : Prop where
  depths : t.depths.length ≤ 9223372036854775807
  boats : t.boats.length ≤ 9223372036854775807
theorem wtruth_spec (s : SeaD) (t : Tru) (ht : TruMem t) : Spec Tryz.prog 75 [.agg s.cells, .agg t.cells] (.v (.bool (truthB s t))) := by
  have hcon := containsInt_spec t.depths ht.depths 156 [] [.rp [.clo (.func 154) [] []] 0] rfl (by rfl) (fun k => !valB (geti t.depths k)) fun k hk => truth2_spec (geti t.depths k)
  simp only [ints] at hcon
  refine spec_of mixed Tryz.func75 (by decide) rfl Tryz.results75 Tryz.ntmps75 (by decide) 0 (by simp) ?_
  simp [SeaD.cells, Tru.cells, rdgL, spnL, boaL, glaL, ints, bools]
  refine pop_spec (win_spec t.minute 0 1440) rfl false (.inl (by simp)) (.inl rfl) rfl (by simp) ?_
  cases h1 : inB t.minute 0 1440 with
  | false => simp; refine answers_of rfl ?_; simp [truthB, h1]
  | true =>
  simp
  refine pop_spec (truth1_spec t.tide) rfl false (.inl (by simp)) (.inl rfl) rfl (by simp) ?_
  cases h2 : valB t.tide with
  | false => simp; refine answers_of rfl ?_; simp [truthB, h2]
  | true =>
  simp
  refine pop_spec (truth1_spec t.east) rfl false (.inl (by simp)) (.inl rfl) rfl (by simp) ?_
  cases h3 : valB t.east with
  | false => simp; refine answers_of rfl ?_; simp [truthB, h3]
  | true =>
  simp
  refine pop_spec (truth1_spec t.north) rfl false (.inl (by simp)) (.inl rfl) rfl (by simp) ?_
  cases h4 : valB t.north with
  | false => simp; refine answers_of rfl ?_; simp [truthB, h4]
  | true =>
  simp
  refine pop_spec (truth1_spec t.wave) rfl false (.inl (by simp)) (.inl rfl) rfl (by simp) ?_
  cases h5 : valB t.wave with
  | false => simp; refine answers_of rfl ?_; simp [truthB, h5]
  | true =>
  simp
  refine pop_spec (truth1_spec t.swell) rfl false (.inl (by simp)) (.inl rfl) rfl (by simp) ?_
  cases h6 : valB t.swell with
  | false => simp; refine answers_of rfl ?_; simp [truthB, h6]
  | true =>
  by_cases h7 : t.depths.length = s.depths.length
  rotate_left
  · simp [show ¬ (t.depths.length : Int) = s.depths.length from by omega]; refine answers_of rfl ?_; simp [truthB, h7]
  by_cases h8 : t.boats.length = s.boats.length
  rotate_left
  · simp [eq_true (show (t.depths.length : Int) = s.depths.length from by omega), show ¬ (t.boats.length : Int) = s.boats.length from by omega]; refine answers_of rfl ?_; simp [truthB, h8]
  simp [eq_true (show (t.depths.length : Int) = s.depths.length from by omega), eq_true (show (t.boats.length : Int) = s.boats.length from by omega)]
  refine pop_specF [(5, .rp [.clo (.func 154) [] []] 0), (61, .clo (.func 156) [] [.rp [.clo (.func 154) [] []] 0])] ?_ hcon rfl false (.inl (by simp)) (.inl rfl) rfl (by simp) ?_
  · simp
  simp [eq_true (show (t.depths.length : Int) = s.depths.length from by omega), eq_true (show (t.boats.length : Int) = s.boats.length from by omega)]
  refine answers_of rfl ?_
  simp only [vw_v_, anyN_not]
  simp [truthB, h1, h2, h3, h4, h5, h6, h7, h8]
theorem usable11_spec (t : Tru) (i : Nat) (hi : i < t.boats.length) : Spec Tryz.prog 82 [.v (.int .i64 i), .rp t.cells 0] (.v (.bool (getb t.boats i))) := by
  refine spec_of mixed Tryz.func82 (by decide) rfl Tryz.results82 Tryz.ntmps82 (by decide) 0 (by simp) ?_
  simp [Tru.cells, ints, bools, hi]
  refine answers_of rfl ?_; simp
theorem truth_vals {s : SeaD} {t : Tru} (h : truthB s t = true) : (0 ≤ t.minute ∧ t.minute ≤ 1440) ∧ Small 100000 t.tide ∧ Small 100000 t.east ∧ Small 100000 t.north ∧ t.depths.length = s.depths.length ∧ t.boats.length = s.boats.length ∧ ∀ k, k < t.depths.length → Small 100000 (geti t.depths k) := by
  simp only [truthB, valB, Bool.and_eq_true, inB_spec, decide_eq_true_eq, allN_spec] at h
  obtain ⟨⟨⟨⟨⟨⟨⟨⟨h1, h2⟩, h3⟩, h4⟩, h5⟩, h6⟩, h7⟩, h8⟩, h9⟩ := h
  exact ⟨h1, h2, h3, h4, h7, h8, h9⟩
theorem usable1_spec (s : SeaD) (p : Stp) (n : Ned) (t : Tru) (k : Nat) (hs : SeaOk s) (hp : StpOk s p) (ht : truthB s t = true) (hk : (k : Int) < p.cells_) :
    Spec Tryz.prog 79 [.v (.int .i64 k), .rp (lookC s p n t.minute) 0, .rp t.cells 0, .rp n.cells 0] (.v (.bool (goodT s p n t k))) := by
  obtain ⟨n0, n1⟩ := celN_ok hs hp hk
  obtain ⟨v1, v2, v3, v4, v5, v6, v7⟩ := truth_vals ht
  have hd := v7 (celN s p k).toNat (by omega)
  have hnb := hs.nb
  simp only [Small] at v2 hd
  obtain ⟨z, hz⟩ : ∃ z : Nat, celN s p k = z := ⟨(celN s p k).toNat, by omega⟩
  have hg : goodT s p n t k = (decide (n.draught ≤ geti t.depths z + t.tide) && freeB s (celX p k) (celY p k) fun i => getb t.boats i) := by rw [goodT, hz]; rfl
  rw [hz] at hd n0 n1
  simp only [Int.toNat_natCast] at hd
  have hcs := cell_spec s p n t.minute k hs hp hk
  rw [hz] at hcs
  rw [hg]
  have w1 := i64_wrap (show -9223372036854775808 ≤ geti t.depths z + t.tide ∧ _ from by omega)
  have hfr := free_spec s p n t.minute (celX p k) (celY p k) hnb 82 [] [.rp t.cells 0] rfl (by rfl) (fun i => getb t.boats i) fun j hj => by simpa using usable11_spec t j (by omega)
  refine spec_of mixed Tryz.func79 (by decide) rfl Tryz.results79 Tryz.ntmps79 (by decide) 0 (by simp) ?_
  simp [lookC, rdgL, spnL, boaL, glaL, Tru.cells, Ned.cells, ints, bools]
  refine pop_spec hcs rfl false (.inl (by simp [lookC, rdgL, spnL, boaL, glaL])) (.inl rfl) rfl (by simp) ?_
  simp
  refine pwp_draw 19 (by decide) ?_
  by_cases h1 : n.draught ≤ geti t.depths z + t.tide
  · simp [w1, h1, show z < t.depths.length from by omega]
    refine pd_spec hfr (by simp [lookC, rdgL, spnL, boaL, glaL, Tru.cells, ints, bools]) (by simp) (by simp [lookC, rdgL, spnL, boaL, glaL]) rfl ?_
    simp
    refine ⟨by decide, ?_⟩
    refine answers_of rfl ?_; simp [h1]
  · simp [w1, h1, show z < t.depths.length from by omega]
    refine ⟨by decide, ?_⟩
    refine answers_of rfl ?_; simp [h1]
def usableE (s : SeaD) (p : Stp) (n : Ned) (t : Tru) : Bool := seaB s && truthB s t && stripB s p && needB n
def usableR (s : SeaD) (p : Stp) (n : Ned) (t : Tru) : PV := if usableE s p n t = true then .tup [.v (.bool (usableB s p n t)), .v (.int .i64 0)] else .tup [.v (.bool false), .v (.int .i64 2)]
theorem Usable_spec (s : SeaD) (t : Tru) (p : Stp) (n : Ned) (hm : SeaMem s) (htm : TruMem t) : Spec Tryz.prog 23 [.agg s.cells, .agg t.cells, .agg p.cells, .agg n.cells] (usableR s p n t) := by
  have hsea := sea_spec s hm
  have htr := wtruth_spec s t htm
  have hned := need_spec n
  refine spec_of mixed Tryz.func23 (by decide) rfl Tryz.results23 Tryz.ntmps23 (by decide) 0 (by simp) ?_
  simp [SeaD.cells, Tru.cells, Stp.cells, Ned.cells, rdgL, spnL, boaL, glaL, ints, bools]
  refine pop_spec hsea rfl false (.inl (by simp [SeaD.cells, rdgL, spnL, boaL, glaL])) (.inl rfl) rfl (by simp) ?_
  cases h1 : seaB s with
  | false => simp; refine answers_of rfl ?_; simp [usableR, usableE, h1]
  | true =>
  have hso := seaB_ok h1
  simp
  refine pop_spec htr rfl false (.inl (by simp [SeaD.cells, Tru.cells, rdgL, spnL, boaL, glaL, ints, bools])) (.inl rfl) rfl (by simp) ?_
  cases h2 : truthB s t with
  | false => simp; refine answers_of rfl ?_; simp [usableR, usableE, h2]
  | true =>
  have hstr := wstrip_spec s p hso
  rw [show (wayB p.way && inB p.cells_ 1 12 && inB p.x 0 (s.wide - 1) && inB p.y 0 (s.deep - 1) && (inB (p.x + stepX p.way * (p.cells_ - 1)) 0 (s.wide - 1) && inB (p.y + stepY p.way * (p.cells_ - 1)) 0 (s.deep - 1))) = stripB s p from rfl] at hstr
  simp
  refine pop_spec hstr rfl false (.inl (by simp [SeaD.cells, Stp.cells, rdgL, spnL, boaL, glaL])) (.inl rfl) rfl (by simp) ?_
  cases h3 : stripB s p with
  | false => simp; refine answers_of rfl ?_; simp [usableR, usableE, h3]
  | true =>
  simp
  refine pop_spec hned rfl false (.inl (by simp [Ned.cells])) (.inl rfl) rfl (by simp) ?_
  cases h4 : needB n with
  | false => simp; refine answers_of rfl ?_; simp [usableR, usableE, h4]
  | true =>
  have hpo := stripB_ok h3
  have hno := needB_ok h4
  obtain ⟨v1, v2, v3, v4, v5, v6, v7⟩ := truth_vals h2
  have hr := hno.run
  have hc := hpo.cells
  obtain ⟨c, hc'⟩ : ∃ c : Nat, n.run = c := ⟨n.run.toNat, by omega⟩
  have hrun := run_spec s p n t.minute c (by omega) hc 79 [] [.rp (lookC s p n t.minute) 0, .rp t.cells 0, .rp n.cells 0] rfl (by rfl) (goodT s p n t) fun k hk => by simpa using usable1_spec s p n t k hso hpo h2 hk
  obtain ⟨r, hr'⟩ : ∃ r, runI c (goodT s p n t) p.cells_.toNat = r := ⟨_, rfl⟩
  have hub : usableB s p n t = (decide (0 ≤ r) && calmB p.way n.cross n.tail t.east t.north && inB t.wave n.calm n.wave && decide (t.swell ≤ n.swell) && !blindB s p t.minute) := by
    rw [usableB, hc', Int.toNat_natCast, hr']
  rw [hr'] at hrun
  have hcalm := calm_spec s p n t.minute t.east t.north hpo.way hno v3 v4
  have hbl := blind_spec s p n t.minute hso hpo
  simp
  refine pop_specF [(5, .rp t.cells 0), (7, .rp n.cells 0), (10, .rp (lookC s p n t.minute) 0), (35, .undef), (39, .undef), (41, .clo (.func 79) [] [.rp (lookC s p n t.minute) 0, .rp t.cells 0, .rp n.cells 0])] ?_ hrun rfl false (.inl (by simp [lookC, rdgL, spnL, boaL, glaL, hc'])) (.inl rfl) rfl (by simp) ?_
  · simp [lookC, rdgL, spnL, boaL, glaL, Tru.cells, Ned.cells, ints, bools, hc']
  have fin : usableR s p n t = .tup [.v (.bool (usableB s p n t)), .v (.int .i64 0)] := by rw [usableR, usableE, h1, h2, h3, h4]; rfl
  rw [fin, hub]
  by_cases g1 : 0 ≤ r
  rotate_left
  · simp [g1]
    refine answers_of rfl ?_; simp [g1]
  simp [g1, lookC, Tru.cells, Ned.cells, ints, bools]
  refine pop_spec hcalm rfl false (.inl (by simp [lookC, rdgL, spnL, boaL, glaL])) (.inl rfl) rfl (by simp) ?_
  cases g2 : calmB p.way n.cross n.tail t.east t.north with
  | false => simp; refine answers_of rfl ?_; simp
  | true =>
  simp
  refine pop_spec (win_spec t.wave n.calm n.wave) rfl false (.inl (by simp)) (.inl rfl) rfl (by simp) ?_
  cases g3 : inB t.wave n.calm n.wave with
  | false => simp; refine answers_of rfl ?_; simp
  | true =>
  by_cases g4 : t.swell ≤ n.swell
  rotate_left
  · simp [g4]
    refine answers_of rfl ?_; simp [g4]
  simp [g4]
  refine pop_spec hbl rfl false (.inl (by simp [lookC, rdgL, spnL, boaL, glaL])) (.inl rfl) rfl (by simp) ?_
  simp
  refine answers_of rfl ?_; simp [g1, g4]
end Go.Qg


namespace Go.Qg
open Go.Proofs
set_option maxRecDepth 100000
section
open Tryz
theorem cells_bool : Tryz.prog.cellsOf 4 = 1 := by kernel_rfl
theorem t_bools {n : Nat} {ps : List PV} (h : Typ Tryz.prog (n + 2) 59 ps) : ∃ l : List Bool, ps = [bools l] ∧ l.length ≤ 9223372036854775807 := by
  unfold Typ at h
  simp only [Tryz.underlying59, cells_bool] at h
  obtain ⟨m, f, h1, h2, h3, h4⟩ := h
  obtain ⟨l, g1, g2, g3⟩ := sl_list (α := Bool) (fun x => [.v (.bool x)]) (fun _ => True) (fun i hi => by obtain ⟨x, hx⟩ := t_bool (h3 i hi); exact ⟨x, hx, trivial⟩) (fun i hi => (h4 i hi).trans d_bool)
  refine ⟨l, ?_, lenOk (by omega)⟩
  rw [h1, g2, ← g1]; rfl
theorem t_way {n : Nat} {ps : List PV} (h : Typ Tryz.prog (n + 1) 71 ps) : ∃ x, ps = [.v (.int .i64 x)] ∧ intOk x := by
  simp only [Typ, Tryz.underlying71] at h
  obtain ⟨x, h1, h2⟩ := h
  exact ⟨x, h1, intOk_of h2⟩
theorem d_way {n : Nat} : tdef Tryz.prog (n + 1) 71 = [.v (.int .i64 0)] := by simp only [tdef, Tryz.underlying71]
theorem t_spns {n : Nat} {ps : List PV} (h : Typ Tryz.prog (n + 3) 32 ps) : ∃ l : List Spn, ps = [spnL l] ∧ l.length ≤ 9223372036854775807 := by
  obtain ⟨m, f, h1, h2, h3, h4⟩ := t_slice Tryz.underlying32 cells_spn h
  obtain ⟨l, g1, g2, g3⟩ := sl_list Spn.cells (fun s => intOk s.low ∧ intOk s.high) (fun i hi => t_spn (h3 i hi)) (fun i hi => (h4 i hi).trans d_spn)
  refine ⟨l, ?_, by omega⟩
  rw [h1, g2, ← g1]; rfl
theorem a_spns {n : Nat} {p : PV} (h : ArgP Tryz.prog (n + 3) 32 p) : ∃ l : List Spn, p = spnL l ∧ l.length ≤ 9223372036854775807 := by
  obtain ⟨l, h1, h2⟩ := t_spns (a_slice Tryz.underlying32 h)
  exact ⟨l, by simpa using h1, h2⟩
theorem t_boa {n : Nat} {ps : List PV} (h : Typ Tryz.prog (n + 3) 140 ps) : ∃ r : Boa, ps = r.cells ∧ True := by
  obtain ⟨p0, q0, rfl, h0, p1, q1, rfl, h1, p2, q2, rfl, h2, p3, q3, rfl, h3, rfl⟩ := t_struct Tryz.underlying140 h
  obtain ⟨s0, rfl, _⟩ := t_spn h0
  obtain ⟨s1, rfl, _⟩ := t_spn h1
  obtain ⟨s2, rfl, _⟩ := t_spn h2
  obtain ⟨b3, rfl⟩ := t_bool h3
  exact ⟨⟨s0, s1, s2, b3⟩, by simp [Boa.cells, Spn.cells, Gge.cells], trivial⟩
theorem d_boa {n : Nat} : tdef Tryz.prog (n + 3) 140 = (default : Boa).cells := by
  rw [d_struct Tryz.underlying140]; simp [d_spn, d_bool]; rfl
theorem cells_boa : Tryz.prog.cellsOf 140 = 7 := by kernel_rfl
theorem t_boas {n : Nat} {ps : List PV} (h : Typ Tryz.prog (n + 4) 49 ps) : ∃ l : List Boa, ps = [boaL l] ∧ l.length ≤ 9223372036854775807 := by
  obtain ⟨m, f, h1, h2, h3, h4⟩ := t_slice Tryz.underlying49 cells_boa h
  obtain ⟨l, g1, g2, g3⟩ := sl_list Boa.cells (fun _ => True) (fun i hi => t_boa (h3 i hi)) (fun i hi => (h4 i hi).trans d_boa)
  refine ⟨l, ?_, by omega⟩
  rw [h1, g2, ← g1]; rfl
theorem t_gla {n : Nat} {ps : List PV} (h : Typ Tryz.prog (n + 3) 213 ps) : ∃ r : Gla, ps = r.cells ∧ True := by
  obtain ⟨p0, q0, rfl, h0, p1, q1, rfl, h1, rfl⟩ := t_struct Tryz.underlying213 h
  obtain ⟨x0, rfl, _⟩ := t_way h0
  obtain ⟨s1, rfl, _⟩ := t_spn h1
  exact ⟨⟨x0, s1⟩, by simp [Gla.cells, Spn.cells, Gge.cells], trivial⟩
theorem d_gla {n : Nat} : tdef Tryz.prog (n + 3) 213 = (default : Gla).cells := by
  rw [d_struct Tryz.underlying213]; simp [d_way, d_spn]; rfl
theorem cells_gla : Tryz.prog.cellsOf 213 = 3 := by kernel_rfl
theorem t_glas {n : Nat} {ps : List PV} (h : Typ Tryz.prog (n + 4) 50 ps) : ∃ l : List Gla, ps = [glaL l] ∧ l.length ≤ 9223372036854775807 := by
  obtain ⟨m, f, h1, h2, h3, h4⟩ := t_slice Tryz.underlying50 cells_gla h
  obtain ⟨l, g1, g2, g3⟩ := sl_list Gla.cells (fun _ => True) (fun i hi => t_gla (h3 i hi)) (fun i hi => (h4 i hi).trans d_gla)
  refine ⟨l, ?_, by omega⟩
  rw [h1, g2, ← g1]; rfl
theorem t_sea {n : Nat} {ps : List PV} (h : Typ Tryz.prog (n + 7) 52 ps) : ∃ s : SeaD, ps = s.cells ∧ SeaMem s := by
  obtain ⟨p0, q0, rfl, h0, p1, q1, rfl, h1, p2, q2, rfl, h2, p3, q3, rfl, h3, rfl⟩ := t_struct Tryz.underlying52 h
  obtain ⟨c0, e0, rfl, g0, c1, e1, rfl, g1, c2, e2, rfl, g2, rfl⟩ := t_struct Tryz.underlying48 h0
  obtain ⟨x0, rfl, _⟩ := t_int g0
  obtain ⟨x1, rfl, _⟩ := t_int g1
  obtain ⟨ds, rfl, kd⟩ := t_spns g2
  obtain ⟨w, rfl, k1, k2, k3, k4, k5⟩ := t_wth h1
  obtain ⟨bs, rfl, kb⟩ := t_boas h2
  obtain ⟨gs, rfl, kg⟩ := t_glas h3
  exact ⟨⟨x0, x1, ds, w.tide, w.east, w.north, w.wave, w.swell, bs, gs⟩, by simp [SeaD.cells, Wth.cells, wthC], ⟨kd, k1, k2, k3, k4, k5, kb, kg⟩⟩
theorem a_sea {n : Nat} {p : PV} (h : ArgP Tryz.prog (n + 7) 52 p) : ∃ r : SeaD, p = .agg r.cells ∧ SeaMem r := by
  obtain ⟨ps, rfl, g⟩ := a_struct Tryz.underlying52 h
  obtain ⟨r, rfl, k⟩ := t_sea g
  exact ⟨r, rfl, k⟩
theorem t_stp {n : Nat} {ps : List PV} (h : Typ Tryz.prog (n + 2) 73 ps) : ∃ r : Stp, ps = r.cells ∧ True := by
  obtain ⟨p0, q0, rfl, h0, p1, q1, rfl, h1, p2, q2, rfl, h2, p3, q3, rfl, h3, rfl⟩ := t_struct Tryz.underlying73 h
  obtain ⟨x0, rfl, _⟩ := t_int h0
  obtain ⟨x1, rfl, _⟩ := t_int h1
  obtain ⟨x2, rfl, _⟩ := t_way h2
  obtain ⟨x3, rfl, _⟩ := t_int h3
  exact ⟨⟨x0, x1, x2, x3⟩, rfl, trivial⟩
theorem d_stp {n : Nat} : tdef Tryz.prog (n + 2) 73 = (default : Stp).cells := by
  rw [d_struct Tryz.underlying73]; simp [d_int, d_way]; rfl
theorem cells_stp : Tryz.prog.cellsOf 73 = 4 := by kernel_rfl
theorem t_stps {n : Nat} {ps : List PV} (h : Typ Tryz.prog (n + 3) 53 ps) : ∃ l : List Stp, ps = [stpL l] ∧ l.length ≤ 9223372036854775807 := by
  obtain ⟨m, f, h1, h2, h3, h4⟩ := t_slice Tryz.underlying53 cells_stp h
  obtain ⟨l, g1, g2, g3⟩ := sl_list Stp.cells (fun _ => True) (fun i hi => t_stp (h3 i hi)) (fun i hi => (h4 i hi).trans d_stp)
  refine ⟨l, ?_, by omega⟩
  rw [h1, g2, ← g1]; rfl
theorem a_stps {n : Nat} {p : PV} (h : ArgP Tryz.prog (n + 3) 53 p) : ∃ l : List Stp, p = stpL l ∧ l.length ≤ 9223372036854775807 := by
  obtain ⟨l, h1, h2⟩ := t_stps (a_slice Tryz.underlying53 h)
  exact ⟨l, by simpa using h1, h2⟩
theorem t_ned {n : Nat} {ps : List PV} (h : Typ Tryz.prog (n + 2) 55 ps) : ∃ r : Ned, ps = r.cells ∧ True := by
  obtain ⟨p0, q0, rfl, h0, p1, q1, rfl, h1, p2, q2, rfl, h2, p3, q3, rfl, h3, p4, q4, rfl, h4, p5, q5, rfl, h5, p6, q6, rfl, h6, rfl⟩ := t_struct Tryz.underlying55 h
  obtain ⟨x0, rfl, _⟩ := t_int h0
  obtain ⟨x1, rfl, _⟩ := t_int h1
  obtain ⟨x2, rfl, _⟩ := t_int h2
  obtain ⟨x3, rfl, _⟩ := t_int h3
  obtain ⟨x4, rfl, _⟩ := t_int h4
  obtain ⟨x5, rfl, _⟩ := t_int h5
  obtain ⟨x6, rfl, _⟩ := t_int h6
  exact ⟨⟨x0, x1, x2, x3, x4, x5, x6⟩, rfl, trivial⟩
theorem a_ned {n : Nat} {p : PV} (h : ArgP Tryz.prog (n + 2) 55 p) : ∃ r : Ned, p = .agg r.cells ∧ True := by
  obtain ⟨ps, rfl, g⟩ := a_struct Tryz.underlying55 h
  obtain ⟨r, rfl, k⟩ := t_ned g
  exact ⟨r, rfl, k⟩
theorem d_rrw {n : Nat} : tdef Tryz.prog (n + 2) 216 = (default : Rrw).cells := by
  rw [d_struct Tryz.underlying216]; simp [d_int]; rfl
theorem t_tru {n : Nat} {ps : List PV} (h : Typ Tryz.prog (n + 3) 65 ps) : ∃ r : Tru, ps = r.cells ∧ TruMem r := by
  obtain ⟨p0, q0, rfl, h0, p1, q1, rfl, h1, p2, q2, rfl, h2, p3, q3, rfl, h3, p4, q4, rfl, h4, p5, q5, rfl, h5, p6, q6, rfl, h6, p7, q7, rfl, h7, rfl⟩ := t_struct Tryz.underlying65 h
  obtain ⟨x0, rfl, _⟩ := t_int h0
  obtain ⟨x1, rfl, _⟩ := t_int h1
  obtain ⟨x2, rfl, _⟩ := t_int h2
  obtain ⟨x3, rfl, _⟩ := t_int h3
  obtain ⟨x4, rfl, _⟩ := t_int h4
  obtain ⟨x5, rfl, _⟩ := t_int h5
  obtain ⟨l6, rfl, k6, _⟩ := t_ints h6
  obtain ⟨l7, rfl, k7⟩ := t_bools h7
  exact ⟨⟨x0, x1, x2, x3, x4, x5, l6, l7⟩, rfl, ⟨k6, k7⟩⟩
theorem a_tru {n : Nat} {p : PV} (h : ArgP Tryz.prog (n + 3) 65 p) : ∃ r : Tru, p = .agg r.cells ∧ TruMem r := by
  obtain ⟨ps, rfl, g⟩ := a_struct Tryz.underlying65 h
  obtain ⟨r, rfl, k⟩ := t_tru g
  exact ⟨r, rfl, k⟩
end
end Go.Qg

