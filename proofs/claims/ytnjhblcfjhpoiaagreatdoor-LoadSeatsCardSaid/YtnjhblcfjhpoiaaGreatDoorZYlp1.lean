/-
  Lemmas and contracts that hold of the whole program: 8 texts in one.
  No condition.
-/
import Derived.Test.YtnjhblcfjhpoiaaGreatDoorZ7
import Derived.ProofKit
import Derived.OpenShut
import Derived.ChangeOld
import Derived.ChangeBears
import Derived.Deep.Slices
import Derived.Below
import Derived.KernelRfl
import Derived.Test.YtnjhblcfjhpoiaaGreatDoorRows
import Derived.Test.YtnjhblcfjhpoiaaGreatDoorCards
import Derived.Test.YtnjhblcfjhpoiaaGreatDoorTie
import Derived.Stop.LaidErr
import Derived.Lib.LaidTab
set_option linter.all false

namespace Go.Qg
open Go.ChangeShapes Go.WideShapes Go.ChangeAt Go.RowKit
def TypF (R : TypeId → List PV → Prop) : List TypeId → List PV → Prop
  | [], ps => ps = []
  | t :: ts, ps => ∃ p q, ps = p ++ q ∧ R t p ∧ TypF R ts q
def tdef (P : Program) : Nat → TypeId → List PV
  | 0, _ => []
  | n + 1, t => match P.underlying t with
    | some .bool => [.v (.bool false)]
    | some (.int k) => [.v (.int k 0)]
    | some .string => [.v (.string ByteArray.empty)]
    | some (.slice e) => [.sl (P.cellsOf e) 0 fun _ => tdef P n e]
    | some (.struct fs) => (fs.toList.map fun f => tdef P n f.type).flatten
    | some (.array m e) => (List.replicate m (tdef P n e)).flatten
    | _ => []
def Typ (P : Program) : Nat → TypeId → List PV → Prop
  | 0, _, _ => False
  | n + 1, t, ps => match P.underlying t with
    | some .bool => ∃ b, ps = [.v (.bool b)]
    | some (.int k) => ∃ x, ps = [.v (.int k x)] ∧ k.min ≤ x ∧ x ≤ k.max
    | some .string => ∃ s : ByteArray, ps = [.v (.string s)] ∧ s.size ≤ maxLen
    | some (.slice e) => ∃ (m : Nat) (f : Nat → List PV), ps = [.sl (P.cellsOf e) m f] ∧ m ≤ maxLen ∧ (∀ i, i < m → Typ P n e (f i)) ∧ ∀ i, m ≤ i → f i = tdef P n e
    | some (.struct fs) => TypF (Typ P n) (fs.toList.map (·.type)) ps
    | some (.array m e) => TypF (Typ P n) (List.replicate m e) ps
    | _ => False
def sup (P : Program) : Nat → TypeId → Bool
  | 0, _ => false
  | n + 1, t => match P.underlying t with
    | some .bool | some (.int _) | some .string => true
    | some (.slice e) | some (.array _ e) => sup P n e
    | some (.struct fs) => fs.toList.all fun f => sup P n f.type
    | _ => false
structure RowRep (w : World) (R : Nat → Nat → Prop) (Γ : Nat → Option Loc) (cs : List Value) (ps : List PV) : Prop where
  len : cs.length = ps.length
  each : ∀ (i : Nat) (u : Value) (p : PV), cs[i]? = some u → ps[i]? = some p → Rep w R Γ u p
  one : ∀ p ∈ ps, p.one = true ∧ p.names = []
section
variable {w : World} {R : Nat → Nat → Prop} {Γ : Nat → Option Loc}
theorem RowRep.single {u : Value} {p : PV} (h : Rep w R Γ u p) (h1 : p.one = true) (h2 : p.names = []) : RowRep w R Γ [u] [p] := by
  refine ⟨rfl, fun i v q hv hq => ?_, fun q hq => ?_⟩
  · match i, hv, hq with
    | 0, hv, hq =>
      obtain rfl := Option.some.inj hv
      obtain rfl := Option.some.inj hq
      exact h
  · obtain rfl := List.mem_singleton.1 hq
    exact ⟨h1, h2⟩
theorem RowRep.nil : RowRep w R Γ [] [] := ⟨rfl, fun i u p h => by simp at h, fun p h => by cases h⟩
theorem RowRep.append {cs cs' : List Value} {ps ps' : List PV} (h : RowRep w R Γ cs ps) (k : RowRep w R Γ cs' ps') : RowRep w R Γ (cs ++ cs') (ps ++ ps') := by
  refine ⟨by simp [h.len, k.len], fun i u p hu hp => ?_, fun p hp => ?_⟩
  · have hl := h.len
    by_cases hi : i < cs.length
    · rw [List.getElem?_append_left hi] at hu
      rw [List.getElem?_append_left (by omega)] at hp
      exact h.each i u p hu hp
    · rw [List.getElem?_append_right (by omega)] at hu hp
      rw [← hl] at hp
      exact k.each _ u p hu hp
  · rcases List.mem_append.1 hp with hp | hp
    · exact h.one p hp
    · exact k.one p hp
end
section
variable {H : Type} {enc : TypeId × Value → H} {P : Program} {w : World} {spare : Nat → Bool} {held : Bool} {Γ : Nat → Option Loc}
def there (w : World) (b o : Nat) : Prop := ∃ v, w.cell? ⟨b, o, none⟩ = some v
theorem cells_get {base : Nat} {a : Addr} {n : Nat} {cs : List Value} (h : w.cells? base a n = some cs) : cs.length = n ∧ ∀ i, i < n → w.cell? (a.add i) = cs[i]? := by
  unfold World.cells? at h
  split at h
  · refine ⟨by simpa using mapM_some_length h, fun i hi => ?_⟩
    have := mapM_some_get h i i (by simp [hi])
    exact this
  · cases h
theorem fields_row {n : Nat} {cs : List Value} (ih : ∀ (t : TypeId) (cs : List Value), t < P.types.size → sup P n t = true → (∃ fuel x, DataW.trod enc P w 0 spare held fuel t cs = some x) → ∃ ps, Typ P n t ps ∧ RowRep w (there w) Γ cs ps) :
    ∀ (fs : List Field) (o : Nat), (∀ f ∈ fs, f.type < P.types.size ∧ sup P n f.type = true) → (∀ (j : Nat) f, fs[j]? = some f → f.offset = o + ((fs.take j).map fun f => P.cellsOf f.type).sum) →
      (∀ f ∈ fs, ∃ fuel x, DataW.trod enc P w 0 spare held fuel f.type ((cs.drop f.offset).take (P.cellsOf f.type)) = some x) → cs.length = o + (fs.map fun f => P.cellsOf f.type).sum →
      ∃ ps, TypF (Typ P n) (fs.map (·.type)) ps ∧ RowRep w (there w) Γ (cs.drop o) ps
  | [], o, _, _, _, hl => by
    refine ⟨[], rfl, ?_⟩
    rw [List.drop_of_length_le (by simp at hl; omega)]
    exact .nil
  | f :: fs, o, h1, h2, h3, hl => by
    have ho : f.offset = o := by simpa using h2 0 f rfl
    obtain ⟨hf1, hf2⟩ := h1 f List.mem_cons_self
    have h4 := h3 f List.mem_cons_self
    rw [ho] at h4
    obtain ⟨p, hp1, hp2⟩ := ih f.type _ hf1 hf2 h4
    obtain ⟨q, hq1, hq2⟩ := fields_row ih fs (o + P.cellsOf f.type) (fun g hg => h1 g (List.mem_cons_of_mem _ hg)) (fun j g hg => by
      have := h2 (j + 1) g (by simpa using hg)
      simp only [List.take_succ_cons, List.map_cons, List.sum_cons] at this
      omega) (fun g hg => h3 g (List.mem_cons_of_mem _ hg)) (by simp only [List.map_cons, List.sum_cons] at hl; omega)
    refine ⟨p ++ q, ⟨p, q, rfl, hp1, hq1⟩, ?_⟩
    have e : cs.drop o = (cs.drop o).take (P.cellsOf f.type) ++ cs.drop (o + P.cellsOf f.type) := by
      rw [← List.drop_drop, List.take_append_drop]
    rw [e]
    exact hp2.append hq2
theorem parts_row {n : Nat} {e : TypeId} {cs : List Value} (ih : ∀ (t : TypeId) (cs : List Value), t < P.types.size → sup P n t = true → (∃ fuel x, DataW.trod enc P w 0 spare held fuel t cs = some x) → ∃ ps, Typ P n t ps ∧ RowRep w (there w) Γ cs ps)
    (he : e < P.types.size) (hs : sup P n e = true) : ∀ (m o : Nat), (∀ i, o ≤ i → i < o + m → ∃ fuel x, DataW.trod enc P w 0 spare held fuel e ((cs.drop (i * P.cellsOf e)).take (P.cellsOf e)) = some x) → cs.length = (o + m) * P.cellsOf e →
      ∃ ps, TypF (Typ P n) (List.replicate m e) ps ∧ RowRep w (there w) Γ (cs.drop (o * P.cellsOf e)) ps
  | 0, o, _, hl => by
    refine ⟨[], rfl, ?_⟩
    rw [List.drop_of_length_le (by simp at hl; omega)]
    exact .nil
  | m + 1, o, h, hl => by
    obtain ⟨p, hp1, hp2⟩ := ih e _ he hs (h o (Nat.le_refl _) (by omega))
    obtain ⟨q, hq1, hq2⟩ := parts_row ih he hs m (o + 1) (fun i h1 h2 => h i (by omega) (by omega)) (by rw [hl]; congr 1; omega)
    refine ⟨p ++ q, by rw [List.replicate_succ]; exact ⟨p, q, rfl, hp1, hq1⟩, ?_⟩
    have e : cs.drop (o * P.cellsOf e) = (cs.drop (o * P.cellsOf e)).take (P.cellsOf e) ++ cs.drop ((o + 1) * P.cellsOf e) := by
      rw [Nat.add_mul, Nat.one_mul, ← List.drop_drop, List.take_append_drop]
    rw [e]
    exact hp2.append hq2
theorem trod_arr {fuel : Nat} {t e : TypeId} {m : Nat} {cs : List Value} {x : DataW H × List MemPlace} (ht : P.underlying t = some (.array m e)) (h : DataW.trod enc P w 0 spare held fuel t cs = some x) :
    cs.length = P.cellsOf t ∧ ∀ i, i < m → ∃ fuel x, DataW.trod enc P w 0 spare held fuel e ((cs.drop (i * P.cellsOf e)).take (P.cellsOf e)) = some x := by
  cases fuel with
  | zero => simp [DataW.trod] at h
  | succ n =>
    unfold DataW.trod at h
    rw [ht] at h
    split at h <;> simp_all
    obtain ⟨hl, xs, hp, hd⟩ := h
    intro i hi
    have h1 := mapM_some_get hp i i (by simp [hi])
    have h2 := mapM_some_length hp
    simp only [List.length_range] at h2
    refine ⟨n, (xs[i]'(by omega)).1, (xs[i]'(by omega)).2, ?_⟩
    rw [h1, List.getElem?_eq_getElem (by omega)]
theorem read_row (hl : laidOutB P = true) : ∀ (n : Nat) (t : TypeId) (cs : List Value), t < P.types.size → sup P n t = true → (∃ fuel x, DataW.trod enc P w 0 spare held fuel t cs = some x) → ∃ ps, Typ P n t ps ∧ RowRep w (there w) Γ cs ps
  | 0, _, _, _, h, _ => by cases h
  | n + 1, t, cs, ht, hs, ⟨fuel, x, h⟩ => by
    have ih := read_row hl n
    simp only [sup] at hs
    simp only [Typ]
    split at hs
    · rename_i hu
      obtain ⟨b, rfl, _⟩ := DataW.trod_bool hu h
      rw [hu]
      exact ⟨_, ⟨b, rfl⟩, .single (.v _ rfl) rfl rfl⟩
    · rename_i k hu
      obtain ⟨m, rfl, _, hw⟩ := DataW.trod_int hu h
      rw [hu]
      simp only [Lit.wf, Bool.and_eq_true, decide_eq_true_eq] at hw
      exact ⟨_, ⟨m, rfl, hw⟩, .single (.v _ rfl) rfl rfl⟩
    · rename_i hu
      obtain ⟨s, rfl, _, hw⟩ := DataW.trod_string hu h
      rw [hu]
      exact ⟨_, ⟨s, rfl, hw⟩, .single (.v _ rfl) rfl rfl⟩
    · rename_i e hu
      have he := kid_slice hl ht hu
      rw [hu]
      rcases Deep.open_slice hu h with ⟨rfl, _⟩ | ⟨a, len, cap, m, k, D, Pl, rfl, _, h1, h2, h3, _, h4⟩
      · refine ⟨_, ⟨0, fun _ => tdef P n e, rfl, Nat.zero_le _, fun i hi => by omega, fun _ _ => rfl⟩, .single (.sl none 0 0 _ _ (fun _ _ => undef) (Nat.le_refl _) (Nat.zero_le _) ?_ ?_ ?_ ?_) rfl rfl⟩
        · intro i hi; omega
        · intro i j p hi; omega
        · intro i j hi; omega
        · intro i j p hi; omega
      · have hlm : len ≤ m := by rw [h3]; split <;> omega
        have key : ∀ i, i < len → ∃ q : List Value × List PV, w.cells? 0 (a.add (i * P.cellsOf e)) (P.cellsOf e) = some q.1 ∧ Typ P n e q.2 ∧ RowRep w (there w) Γ q.1 q.2 := fun i hi => by
          obtain ⟨cs', g1, g2⟩ := h4 i (by omega)
          obtain ⟨ps, g3, g4⟩ := ih e cs' he hs ⟨k, _, g2⟩
          exact ⟨(cs', ps), g1, g3, g4⟩
        obtain ⟨q, hq⟩ := Deep.choose_lt key
        have hsz : ∀ i, i < len → (q i).1.length = P.cellsOf e ∧ (q i).2.length = P.cellsOf e := fun i hi => by
          have g1 := (cells_get (hq i hi).1).1
          have g2 := (hq i hi).2.2.len
          exact ⟨g1, by omega⟩
        have hspot : 0 < len → 0 < P.cellsOf e → a.spot = none := fun g1 g2 => by
          have g3 := (cells_get (hq 0 g1).1).2 0 g2
          have g4 : (q 0).1[0]? = some ((q 0).1[0]'(by rw [(hsz 0 g1).1]; exact g2)) := List.getElem?_eq_getElem _
          rw [g4] at g3
          have := World.cell?_spot g3
          simpa [Addr.add] using this
        have hcell : ∀ i j, i < len → j < P.cellsOf e → w.cell? ⟨a.block, a.off + (i * P.cellsOf e + j), none⟩ = some ((q i).1.getD j undef) := fun i j hi hj => by
          have g1 := (cells_get (hq i hi).1).2 j hj
          have g2 := hspot (by omega) (by omega)
          have e1 : (a.add (i * P.cellsOf e)).add j = ⟨a.block, a.off + (i * P.cellsOf e + j), none⟩ := by
            rw [Deep.add_add]
            obtain ⟨b, o, s⟩ := a
            simp only at g2
            subst g2
            unfold Addr.add
            split
            · rename_i h0; rw [h0]; rfl
            · rfl
          rw [e1] at g1
          rw [g1]
          have g3 := (hsz i hi).1
          rw [List.getD_eq_getElem?_getD, List.getElem?_eq_getElem (by omega)]; rfl
        have hf : ∀ i, i < len → (if i < len then (q i).2 else tdef P n e) = (q i).2 := fun i hi => if_pos hi
        refine ⟨_, ⟨len, fun i => if i < len then (q i).2 else tdef P n e, rfl, by omega, fun i hi => by simp only [hf i hi]; exact (hq i hi).2.1, fun i hi => if_neg (by omega)⟩, .single (.sl (some a) len cap _ _ (fun i j => (q i).1.getD j undef) h1 h2 (fun i hi => by simp only [hf i hi]; exact (hsz i hi).2) (fun i j p hi hp => by simp only [hf i hi] at hp; exact (hq i hi).2.2.one p (List.mem_of_getElem? hp)) (fun i j hi hj => ?_) fun i j p hi hp => ?_) rfl rfl⟩
        · refine ⟨a.block, a.off, ?_, ⟨_, hcell i j hi hj⟩, hcell i j hi hj⟩
          have := hspot (by omega) (by omega)
          obtain ⟨b, o, s⟩ := a
          simp only at this
          rw [this]
        · simp only [hf i hi] at hp
          have g1 := lt_of_get? hp
          have g2 := (hsz i hi)
          have g3 : (q i).1[j]? = some ((q i).1.getD j undef) := by
            rw [List.getD_eq_getElem?_getD, List.getElem?_eq_getElem (by omega)]; rfl
          exact (hq i hi).2.2.each j _ p g3 hp
    · rename_i m e hu
      obtain ⟨he, hc⟩ := kid_array hl ht hu
      rw [hu]
      obtain ⟨h1, h2⟩ := trod_arr hu h
      have := parts_row ih he hs m 0 (fun i _ hi => h2 i (by omega)) (by rw [h1, hc]; congr 1; omega)
      simpa using this
    · rename_i fs hu
      obtain ⟨k1, k2, k3⟩ := kid_struct hl ht hu
      rw [hu]
      obtain ⟨xs, k, rfl, _, h1, h2, h3⟩ := DataW.trod_struct hu h
      have := fields_row (cs := cs) ih fs.toList 0 (fun f hf => ⟨k1 f hf, List.all_eq_true.1 hs f hf⟩) (fun j f hf => by rw [k3 j f hf]; omega) (fun f hf => by
        obtain ⟨i, hi⟩ := List.mem_iff_getElem?.1 hf
        have hi' : fs[i]? = some f := by simpa using hi
        have := h3 i f hi'
        have hlt := (List.getElem?_eq_some_iff.1 hi).1
        refine ⟨k, xs[i]'(by rw [h2]; simpa using hlt), ?_⟩
        rw [this]; simp) (by rw [h1, k2]; omega)
      simpa using this
    · cases hs
def ArgP (P : Program) (n : Nat) (t : TypeId) (p : PV) : Prop := match P.underlying t with
  | some (.struct _) | some (.array _ _) => ∃ ps, p = .agg ps ∧ Typ P n t ps
  | _ => Typ P n t [p]
theorem read_arg (hl : laidOutB P = true) {n : Nat} {t : TypeId} {v : Value} {d : DataW H} {pl : List MemPlace} {base : Nat} (ht : t < P.types.size) (hs : sup P n t = true) (hok : Value.okWide P w .any base t v) (h : DataW.Trod enc P w 0 spare held t v d pl) :
    ∃ p, ArgP P n t p ∧ Rep w (there w) Γ v p := by
  obtain ⟨fuel, h⟩ := h
  obtain ⟨ps, h1, h2⟩ := read_row (Γ := Γ) hl n t _ ht hs ⟨fuel, _, h⟩
  unfold ArgP
  unfold Value.okWide at hok
  have agg : (∃ cs, v = .agg cs ∧ cs.size = P.cellsOf t ∧ Row.okWide P w .any base t cs) → ∃ p, (∃ ps, p = .agg ps ∧ Typ P n t ps) ∧ Rep w (there w) Γ v p := by
    rintro ⟨cs, rfl, _, _⟩
    refine ⟨.agg ps, ⟨ps, rfl, h1⟩, ?_⟩
    have := Rep.agg (w := w) (R := there w) (Γ := Γ) cs.toList ps h2.len (fun p hp => (h2.one p hp).1) fun i u p hu hp => h2.each i u p hu hp
    simpa using this
  split
  · rename_i hu
    rw [hu] at hok
    exact agg hok
  · rename_i hu
    rw [hu] at hok
    exact agg hok
  · rename_i hn1 hn2
    have one : v.cells.toList = [v] := by
      cases n with
      | zero => cases hs
      | succ n =>
        simp only [sup] at hs
        split at hs
        · rename_i hu
          obtain ⟨b, hc, _⟩ := DataW.trod_bool hu h
          cases v <;> simp_all [Value.cells, Cell.okWide, Cell.ok]
        · rename_i k hu
          obtain ⟨b, hc, _⟩ := DataW.trod_int hu h
          cases v <;> simp_all [Value.cells, Cell.okWide, Cell.ok]
        · rename_i hu
          obtain ⟨b, hc, _⟩ := DataW.trod_string hu h
          cases v <;> simp_all [Value.cells, Cell.okWide, Cell.ok]
        · rename_i e hu
          cases v <;> simp_all [Value.cells, Cell.okWide, Cell.ok]
        · rename_i m e hu
          exact absurd hu (hn2 m e)
        · rename_i fs hu
          exact absurd hu (hn1 fs)
        · cases hs
    rw [one] at h2
    obtain ⟨p, rfl⟩ : ∃ p, ps = [p] := by
      have := h2.len
      match ps, this with
      | [p], _ => exact ⟨p, rfl⟩
    exact ⟨p, h1, h2.each 0 v p rfl rfl⟩
theorem read_args (hl : laidOutB P = true) {n : Nat} {base : Nat} : ∀ {ts : List TypeId} {vs : List Value} {ds : List (DataW H)} {pl : List MemPlace}, (∀ t ∈ ts, t < P.types.size ∧ sup P n t = true) →
    (∀ (j : Nat) t v, ts[j]? = some t → vs[j]? = some v → Value.okWide P w .any base t v) → DataW.TrodAll enc P w 0 spare held ts vs ds pl →
    ∃ args : List PV, vs.length = args.length ∧ ts.length = args.length ∧ (∀ (j : Nat) t p, ts[j]? = some t → args[j]? = some p → ArgP P n t p) ∧ ∀ (i : Nat) (u : Value) (p : PV), vs[i]? = some u → args[i]? = some p → Rep w (there w) Γ u p
  | [], vs, ds, pl, _, _, h => by
    obtain ⟨rfl, rfl, rfl⟩ := trodAll_nil h
    exact ⟨[], rfl, rfl, fun j t p hj => by simp at hj, fun i u p hu => by simp at hu⟩
  | t :: ts, vs, ds, pl, h1, h2, h => by
    obtain ⟨v, vs, d, ds, p, q, rfl, rfl, rfl, g1, g2⟩ := trodAll_cons h
    obtain ⟨args, k1, k2, k3, k4⟩ := read_args hl (fun t ht => h1 t (List.mem_cons_of_mem _ ht)) (fun j t v ht hv => h2 (j + 1) t v (by simpa using ht) (by simpa using hv)) g2
    obtain ⟨ht, hs⟩ := h1 t List.mem_cons_self
    obtain ⟨a, k5, k6⟩ := read_arg (Γ := Γ) hl ht hs (h2 0 t v rfl rfl) g1
    refine ⟨a :: args, by simp [k1], by simp [k2], fun j t p ht hp => ?_, fun i u p hu hp => ?_⟩
    · cases j with
      | zero =>
        obtain rfl := Option.some.inj ht
        obtain rfl := Option.some.inj hp
        exact k5
      | succ j => exact k3 j t p (by simpa using ht) (by simpa using hp)
    · cases i with
      | zero =>
        obtain rfl := Option.some.inj hu
        obtain rfl := Option.some.inj hp
        exact k6
      | succ i => exact k4 i u p (by simpa using hu) (by simpa using hp)
theorem again_args (hl : laidOutB P = true) {w' : World} (hb : Below w.heap.size w w') : ∀ {ts : List TypeId} {vs : List Value} {ds : List (DataW H)} {pl : List MemPlace}, (∀ t ∈ ts, t < P.types.size ∧ P.readableRec t = true) → (∀ x ∈ pl, x.block < w.heap.size) →
    DataW.TrodAll enc P w 0 (fun _ => true) true ts vs ds pl → DataW.TrodAll enc P w' 0 (fun b => decide (b < w.heap.size)) true ts vs ds pl
  | [], vs, ds, pl, _, _, h => by
    obtain ⟨rfl, rfl, rfl⟩ := trodAll_nil h
    exact trodAll_mk0
  | t :: ts, vs, ds, pl, h1, h2, h => by
    obtain ⟨v, vs, d, ds, p, q, rfl, rfl, rfl, g1, g2⟩ := trodAll_cons h
    obtain ⟨ht, hr⟩ := h1 t List.mem_cons_self
    exact trodAll_cons_mk (Go.RowKit.Below.trod hl hr ht g1 hb fun x hx => h2 x (List.mem_append_left _ hx)) (again_args hl hb (fun t ht => h1 t (List.mem_cons_of_mem _ ht)) (fun x hx => h2 x (List.mem_append_right _ hx)) g2)
theorem law_calls {f : FuncId} {args : List PV} {vs : Array Value} (hT : tabOk (· < w.heap.size) w) (h : Spec P f args (.v (.bool true))) (hl : vs.toList.length = args.length) (hv : ∀ (i : Nat) (u : Value) (p : PV), vs.toList[i]? = some u → args[i]? = some p → Rep w (there w) (fun _ => none) u p) :
    Calls P f vs w fun e w' => e = .returned (.bool true) ∧ Below w.heap.size w w' := by
  have hb : ∀ b o, there w b o → b < w.heap.size := fun b o ⟨v, hv⟩ => by
    unfold World.cell? at hv
    split at hv
    · rename_i hh
      exact (Array.getElem?_eq_some_iff.1 hh).1
    · cases hv
  have hsim : Sim 0 ⟨(· < w.heap.size), w, there w, fun _ => none, 0, []⟩ (there w) (fun _ => none) noAct w [] :=
    ⟨rfl, Nat.le_refl _, fun t p h => by simp at h, fun i j l m b h => (by cases h), fun i l h => (by cases h), hb, fun b o h => .inl h, Kept.refl _ _, ⟨fun b h => h, hT⟩, Nat.le_refl _, fun j l _ h => (by cases h), rfl⟩
  have h1 := h.2 w vs.toList (there w) (fun _ => none) (· < w.heap.size) hb hsim hl hv
  refine (show Calls P f vs w _ from by simpa using h1).mono ?_
  rintro e w' ⟨R', Γ', ⟨v, r, H, rfl, hq, hr, hs, _⟩ | ⟨v, p, H, _, hq, _⟩⟩
  · injection hq with hq1 hq2
    subst hq1
    refine ⟨?_, hs.kept.below⟩
    cases hr
    rfl
  · cases hq
theorem sl_list {α : Type} [Inhabited α] (cells : α → List PV) (Q : α → Prop) {m : Nat} {f : Nat → List PV} (h : ∀ i, i < m → ∃ a, f i = cells a ∧ Q a) (hd : ∀ i, m ≤ i → f i = cells default) : ∃ l : List α, l.length = m ∧ (f = fun i => cells (l.getD i default)) ∧ ∀ a ∈ l, Q a := by
  obtain ⟨g, hg⟩ := Deep.choose_lt h
  refine ⟨(List.range m).map g, by simp, funext fun i => ?_, fun a ha => ?_⟩
  · by_cases hi : i < m
    · rw [(hg i hi).1, List.getD_eq_getElem?_getD]; simp [hi]
    · rw [hd i (by omega), List.getD_eq_getElem?_getD]; simp [hi]
  · obtain ⟨i, hi, rfl⟩ := List.mem_map.1 ha
    exact (hg i (List.mem_range.1 hi)).2
theorem law_lifted {C : Checked} {os : Os} {f : FuncId} {fn : Func} {s : ChangeSpec} {conds : List PathCond} (n : Nat) {tb : TypeId} {laid : List (String × DataW Unit)} (htab : ∀ W : World, laidMet C.prog laid W → tabOk (· < W.heap.size) W)
    (own : ownKnob C.prog.godebug = none) (started : os.Started) (noInit : C.prog.inits.idxOf? f = none) (hfn : C.prog.funcs[f]? = some fn)
    (witness : ∃ (w : World) (tape : Tape) (i : Input), w.os = os ∧ (w.forCall tape i).Shaped C.prog ∧ i.vars = [] ∧ Input.okWide C.prog (w.forCall tape i) .any w.heap.size f i ∧
      ((s.pre enc C.prog fn conds false (w.forCall tape i).memory i.args ∧ laidMet C.prog laid (w.forCall tape i).memory) ∧ sizedMet enc C.prog fn (OpenSpec.ofChange s) false (w.forCall tape i).memory i.args) ∧ ({} : Assume).holds C.prog (lone (Frame.enter C.prog f i.args .normal) [] (w.forCall tape i)))
    (hl : laidOutB C.prog = true) (hvars : s.vars = []) (hts : (fn.params.toList.all fun t => decide (t < C.prog.types.size) && sup C.prog n t && C.prog.readableRec t) = true) (hres : fn.resultTypes = #[tb]) (htb : C.prog.underlying tb = some .bool)
    (hs : ∀ ds : List (DataW H), ds.length = fn.params.size → (s.fn H ds).results = [.lit (.bool true)] ∧ (s.fn H ds).args = ds ∧ (s.fn H ds).vars = [])
    (spec : ∀ args : List PV, fn.params.toList.length = args.length → (∀ (j : Nat) t p, fn.params.toList[j]? = some t → args[j]? = some p → ArgP C.prog n t p) → Spec C.prog f args (.v (.bool true))) :
    ReturnsInHanded {} C os f .any (fun w args => (s.pre enc C.prog fn conds false w args ∧ laidMet C.prog laid w) ∧ sizedMet enc C.prog fn (OpenSpec.ofChange s) false w args) (s.post enc C.prog fn false true false false) := by
  refine returnsInHanded_of_change_and (C := C) (X := fun w _ => laidMet C.prog laid w) (fun _ _ _ hh h => h.of_heap hh) own started noInit hfn witness ?_
  intro W base args ds gs before hval hW _ _ hL _
  have hW' := hW
  obtain ⟨p, q, hA, hV, rfl, _, _⟩ := hW
  rw [hvars] at hV
  obtain ⟨rfl, rfl⟩ := trodVars_none hV
  have ht : ∀ t ∈ fn.params.toList, (t < C.prog.types.size ∧ sup C.prog n t = true) ∧ C.prog.readableRec t = true := fun t ht => by
    have := List.all_eq_true.1 hts t ht
    simpa only [Bool.and_eq_true, decide_eq_true_eq] using this
  obtain ⟨avs, k1, k2, k3, k4⟩ := read_args (Γ := fun _ => none) hl (fun t h => (ht t h).1) (fun j t v h1 h2 => hval j t v (by simpa using h1) (by simpa using h2)) hA
  have hlen : ds.length = fn.params.size := by
    have key : ∀ (ts : List TypeId) (vs : List Value) (ds : List (DataW H)) (ps : List MemPlace), DataW.TrodAll enc C.prog W 0 (fun _ => true) true ts vs ds ps → ds.length = ts.length := by
      intro ts
      induction ts with
      | nil => intro vs ds ps h; obtain ⟨_, rfl, _⟩ := trodAll_nil h; rfl
      | cons t ts ih =>
        intro vs ds ps h
        obtain ⟨v, vs, d, ds, a, b, rfl, rfl, rfl, _, h2⟩ := trodAll_cons h
        simp [ih _ _ _ h2]
    have := key _ _ _ _ hA
    simpa using this
  obtain ⟨s1, s2, s3⟩ := hs ds hlen
  refine (law_calls (htab W hL) (spec avs k2 k3) k1 k4).mono fun e W' ⟨he, bel⟩ => ⟨_, he, ds, [], p ++ [], [], p, [], hW', ?_, ?_, ?_, bel.frame _, fun h => (by cases h)⟩
  · rw [List.append_nil, s1, hres]
    exact trodAll_mk1 (shut_bool htb _)
  · rw [List.append_nil, s2]
    exact again_args hl bel (fun t h => ⟨(ht t h).1.1, (ht t h).2⟩) (fun x hx => by simpa using hW'.lt x (by simpa using hx)) hA
  · rw [hvars, List.append_nil, s3]; rfl
end
end Go.Qg


namespace Go.Qg
open Go.Proofs
set_option maxRecDepth 100000
theorem lenOk {n : Nat} (h : n ≤ maxLen) : n ≤ 9223372036854775807 := h
section
open Tryz
theorem t_int {n : Nat} {ps : List PV} (h : Typ Tryz.prog (n + 1) 3 ps) : ∃ x, ps = [.v (.int .i64 x)] := by
  simp only [Typ, Tryz.underlying3] at h
  obtain ⟨x, h1, h2⟩ := h
  exact ⟨x, h1⟩
theorem d_int {n : Nat} : tdef Tryz.prog (n + 1) 3 = [.v (.int .i64 0)] := by simp only [tdef, Tryz.underlying3]
theorem t_bool {n : Nat} {ps : List PV} (h : Typ Tryz.prog (n + 1) 4 ps) : ∃ x, ps = [.v (.bool x)] := by
  simpa only [Typ, Tryz.underlying4] using h
theorem d_bool {n : Nat} : tdef Tryz.prog (n + 1) 4 = [.v (.bool false)] := by simp only [tdef, Tryz.underlying4]
theorem a_bool {n : Nat} {p : PV} (h : ArgP Tryz.prog (n + 1) 4 p) : ∃ x, p = .v (.bool x) := by
  simp only [ArgP, Tryz.underlying4] at h
  simpa using t_bool h
theorem t_struct {P : Program} {n : Nat} {t : TypeId} {ps : List PV} {fs : Array Field} (hu : P.underlying t = some (.struct fs)) (h : Typ P (n + 1) t ps) : TypF (Typ P n) (fs.toList.map (·.type)) ps := by
  unfold Typ at h
  rw [hu] at h
  exact h
theorem a_struct {P : Program} {n : Nat} {t : TypeId} {p : PV} {fs : Array Field} (hu : P.underlying t = some (.struct fs)) (h : ArgP P n t p) : ∃ ps, p = .agg ps ∧ Typ P n t ps := by
  unfold ArgP at h
  rw [hu] at h
  exact h
theorem d_struct {P : Program} {n : Nat} {t : TypeId} {fs : Array Field} (hu : P.underlying t = some (.struct fs)) : tdef P (n + 1) t = (fs.toList.map fun f => tdef P n f.type).flatten := by
  simp only [tdef, hu]
theorem t_slice {P : Program} {n : Nat} {t e : TypeId} {ps : List PV} {c : Nat} (hu : P.underlying t = some (.slice e)) (hc : P.cellsOf e = c) (h : Typ P (n + 1) t ps) : ∃ (m : Nat) (f : Nat → List PV), ps = [.sl c m f] ∧ m ≤ 9223372036854775807 ∧ (∀ i, i < m → Typ P n e (f i)) ∧ ∀ i, m ≤ i → f i = tdef P n e := by
  unfold Typ at h
  rw [hu] at h
  obtain ⟨m, f, h1, h2, h3, h4⟩ := h
  exact ⟨m, f, by rw [h1, hc], lenOk h2, h3, h4⟩
theorem d_slice {P : Program} {n : Nat} {t e : TypeId} {c : Nat} (hu : P.underlying t = some (.slice e)) (hc : P.cellsOf e = c) : tdef P (n + 1) t = [.sl c 0 fun _ => tdef P n e] := by
  simp only [tdef, hu, hc]
theorem a_slice {P : Program} {n : Nat} {t e : TypeId} {p : PV} (hu : P.underlying t = some (.slice e)) (h : ArgP P n t p) : Typ P n t [p] := by
  unfold ArgP at h
  rw [hu] at h
  exact h
theorem t_spn {n : Nat} {ps : List PV} (h : Typ Tryz.prog (n + 2) 37 ps) : ∃ r : Spn, ps = r.cells := by
  obtain ⟨p0, q0, rfl, h0, p1, q1, rfl, h1, rfl⟩ := t_struct Tryz.underlying37 h
  obtain ⟨x0, rfl⟩ := t_int h0
  obtain ⟨x1, rfl⟩ := t_int h1
  exact ⟨⟨x0, x1⟩, rfl⟩
theorem d_spn {n : Nat} : tdef Tryz.prog (n + 2) 37 = (default : Spn).cells := by
  rw [d_struct Tryz.underlying37]; simp [d_int]; rfl
theorem a_spn {n : Nat} {p : PV} (h : ArgP Tryz.prog (n + 2) 37 p) : ∃ r : Spn, p = .agg r.cells := by
  obtain ⟨ps, rfl, g⟩ := a_struct Tryz.underlying37 h
  obtain ⟨r, rfl⟩ := t_spn g
  exact ⟨r, rfl⟩
theorem t_stn {n : Nat} {ps : List PV} (h : Typ Tryz.prog (n + 2) 25 ps) : ∃ r : Stn, ps = r.cells := by
  obtain ⟨p0, q0, rfl, h0, p1, q1, rfl, h1, rfl⟩ := t_struct Tryz.underlying25 h
  obtain ⟨x0, rfl⟩ := t_int h0
  obtain ⟨x1, rfl⟩ := t_int h1
  exact ⟨⟨x0, x1⟩, rfl⟩
theorem d_stn {n : Nat} : tdef Tryz.prog (n + 2) 25 = (default : Stn).cells := by
  rw [d_struct Tryz.underlying25]; simp [d_int]; rfl
theorem cells_stn : Tryz.prog.cellsOf 25 = 2 := by kernel_rfl
theorem t_stns {n : Nat} {ps : List PV} (h : Typ Tryz.prog (n + 3) 23 ps) : ∃ l : List Stn, ps = [stnL l] ∧ l.length ≤ 9223372036854775807 := by
  obtain ⟨m, f, h1, h2, h3, h4⟩ := t_slice Tryz.underlying23 cells_stn h
  obtain ⟨l, g1, g2, _⟩ := sl_list Stn.cells (fun _ => True) (fun i hi => (t_stn (h3 i hi)).elim fun r h => ⟨r, h, trivial⟩) (fun i hi => (h4 i hi).trans d_stn)
  refine ⟨l, ?_, by omega⟩
  rw [h1, g2, ← g1]; rfl
theorem d_stns {n : Nat} : tdef Tryz.prog (n + 3) 23 = [stnL []] := by
  rw [d_slice Tryz.underlying23 cells_stn]
  simp only [d_stn]; rfl
theorem t_cnr {n : Nat} {ps : List PV} (h : Typ Tryz.prog (n + 2) 116 ps) : ∃ r : Cnr, ps = r.cells := by
  obtain ⟨p0, q0, rfl, h0, p1, q1, rfl, h1, rfl⟩ := t_struct Tryz.underlying116 h
  obtain ⟨x0, rfl⟩ := t_int h0
  obtain ⟨x1, rfl⟩ := t_int h1
  exact ⟨⟨x0, x1⟩, rfl⟩
theorem d_cnr {n : Nat} : tdef Tryz.prog (n + 2) 116 = (default : Cnr).cells := by
  rw [d_struct Tryz.underlying116]; simp [d_int]; rfl
theorem cells_cnr : Tryz.prog.cellsOf 116 = 2 := by kernel_rfl
theorem t_cnrs {n : Nat} {ps : List PV} (h : Typ Tryz.prog (n + 3) 22 ps) : ∃ l : List Cnr, ps = [cnrL l] ∧ l.length ≤ 9223372036854775807 := by
  obtain ⟨m, f, h1, h2, h3, h4⟩ := t_slice Tryz.underlying22 cells_cnr h
  obtain ⟨l, g1, g2, _⟩ := sl_list Cnr.cells (fun _ => True) (fun i hi => (t_cnr (h3 i hi)).elim fun r h => ⟨r, h, trivial⟩) (fun i hi => (h4 i hi).trans d_cnr)
  refine ⟨l, ?_, by omega⟩
  rw [h1, g2, ← g1]; rfl
theorem d_cnrs {n : Nat} : tdef Tryz.prog (n + 3) 22 = [cnrL []] := by
  rw [d_slice Tryz.underlying22 cells_cnr]
  simp only [d_cnr]; rfl
theorem d_itm {n : Nat} : tdef Tryz.prog (n + 3) 120 = (default : Itm).cells := by
  rw [d_struct Tryz.underlying120]; simp [d_int, d_spn]; rfl
theorem cells_itm : Tryz.prog.cellsOf 120 = 3 := by kernel_rfl
theorem d_itms {n : Nat} : tdef Tryz.prog (n + 4) 63 = [itmL []] := by
  rw [d_slice Tryz.underlying63 cells_itm]
  simp only [d_itm]; rfl
theorem d_leg {n : Nat} : tdef Tryz.prog (n + 5) 112 = (default : Leg).cells := by
  rw [d_struct Tryz.underlying112]; simp [d_int, d_spn, d_bool, d_itms]; rfl
theorem a_pln {n : Nat} {p : PV} (h : ArgP Tryz.prog (n + 4) 27 p) : ∃ P : Pln, p = .agg P.cells ∧ PlnLen P := by
  obtain ⟨ps, rfl, g⟩ := a_struct Tryz.underlying27 h
  obtain ⟨p0, q0, rfl, h0, p1, q1, rfl, h1, p2, q2, rfl, h2, p3, q3, rfl, h3, p4, q4, rfl, h4, p5, q5, rfl, h5, p6, q6, rfl, h6, p7, q7, rfl, h7, p8, q8, rfl, h8, rfl⟩ := t_struct Tryz.underlying27 g
  obtain ⟨x0, rfl⟩ := t_int h0
  obtain ⟨x1, rfl⟩ := t_int h1
  obtain ⟨x2, rfl⟩ := t_int h2
  obtain ⟨x3, rfl⟩ := t_int h3
  obtain ⟨x4, rfl, k4⟩ := t_cnrs h4
  obtain ⟨x5, rfl, k5⟩ := t_stns h5
  obtain ⟨x6, rfl⟩ := t_stn h6
  obtain ⟨x7, rfl⟩ := t_int h7
  obtain ⟨x8, rfl, k8⟩ := t_stns h8
  exact ⟨⟨x0, x1, x2, x3, x4, x5, x6, x7, x8⟩, rfl, ⟨k4, k5, k8⟩⟩
end
theorem laidOut_ : laidOutB Tryz.prog = true := by kernel_rfl
theorem ownKnob_ : ownKnob Tryz.prog.godebug = none := by kernel_rfl
def pows : List Int := (List.range 20).map fun i => ((10 ^ i : Nat) : Int)
def laidL : List (String × DataW Unit) := [("math/bits.deBruijn32tab", Go.Proofs.YtnjhblcfjhpoiaaGreatDoor.Rows.laid_math_bits_deBruijn32tab), ("math/bits.deBruijn64tab", Go.Proofs.YtnjhblcfjhpoiaaGreatDoor.Rows.laid_math_bits_deBruijn64tab), ("internal/strconv.uint64pow10", Go.Proofs.YtnjhblcfjhpoiaaGreatDoor.Rows.laid_internal_strconv_uint64pow10)]
theorem pow_data : (Go.Proofs.YtnjhblcfjhpoiaaGreatDoor.Rows.laid_internal_strconv_uint64pow10 : DataW Unit) = Lib.tabData .u64 pows := rfl
theorem pow_glob : Tryz.prog.globalNamed "internal/strconv.uint64pow10" = some 1 := by kernel_rfl
theorem tabs_of_laid : ∀ W : World, laidMet Tryz.prog laidL W → tabOk (· < W.heap.size) W := fun W h => by
  have h3 := laidMet.tail (laidMet.tail h)
  rw [pow_data] at h3
  have ht := Lib.tabIs_of_head (t := 247) (e := 233) (n := 20) pow_glob (by kernel_rfl) Tryz.underlying247 Tryz.underlying233 (by kernel_rfl) (by kernel_rfl) h3
  unfold Lib.TabIs World.var? at ht
  rw [pow_glob] at ht
  simp only [Option.bind_some] at ht
  intro b φ hb
  simp only [seatTabs, List.mem_singleton] at hb
  obtain ⟨rfl, rfl⟩ := Prod.mk.inj hb
  split at ht
  · rename_i cs t fz hh
    refine ⟨?_, cs, t, fz, hh, ?_⟩
    · rcases Nat.lt_or_ge 1 W.heap.size with h' | h'
      · exact h'
      · rw [Array.getElem?_eq_none h'] at hh
        cases hh
    · rw [Option.some.inj ht]; simp [pows, Function.comp_def]
  · cases ht
end Go.Qg


namespace Go.Qg
open Go.Proofs
set_option maxRecDepth 100000
def litsOf : DataW Unit → Array Value
  | .agg l => (l.map fun | .lit (.int k z) => Value.int k z | _ => .bool false).toArray
  | _ => #[]
def layAt (g : Nat) (d : DataW Unit) (h : Array Obj) : Array Obj := h.modify g fun
  | .cells _ t frozen => .cells (litsOf d) t frozen
  | o => o
noncomputable def laidWorld (os : Os) : World :=
  let w0 := World.holding Tryz.prog os ⟨#[], #[], []⟩
  { w0 with heap := layAt 4 Go.Proofs.YtnjhblcfjhpoiaaGreatDoor.Rows.laid_math_bits_deBruijn32tab (layAt 5 Go.Proofs.YtnjhblcfjhpoiaaGreatDoor.Rows.laid_math_bits_deBruijn64tab (layAt 1 Go.Proofs.YtnjhblcfjhpoiaaGreatDoor.Rows.laid_internal_strconv_uint64pow10 w0.heap)) }
theorem laid_met (os : Os) (args : Array Value) : laidMet Tryz.prog laidL ((laidWorld os).forCall (fun _ _ => 0) ⟨#[], args, []⟩).memory :=
  laidMet_of_run' 8 (by kernel_rfl) (by kernel_rfl)
end Go.Qg


namespace Go.Qg
open Go.Proofs
set_option maxRecDepth 100000
set_option linter.unusedSimpArgs false
set_option maxHeartbeats 64000000
attribute [local irreducible] pwp pops pdraw pop popCall pdCall thenP blockP scopeP pspec Spec answers ppost CallW rend
theorem seat1_spec (s : Spn) : Spec Tryz.prog 94 [.agg s.cells] (.v (.bool (spanB s 0 20000))) := by
  refine spec_of mixed Tryz.func94 (by decide) rfl Tryz.results94 Tryz.ntmps94 (by decide) 0 (by simp) ?_
  simp [Spn.cells]
  refine pop_spec (lspan_spec s 0 20000) rfl false (.inl (by simp [Spn.cells])) (.inl rfl) rfl (by simp) ?_
  simp
  refine answers_of rfl ?_; simp
structure SeatOk (P : Pln) (ws : List Spn) (tank : Spn) (water : List Spn) : Prop where
  plane : PlnOk P
  tank : -120000 ≤ tank.low ∧ tank.low ≤ tank.high ∧ tank.high ≤ 140000
  nw : water.length = P.floats.length
  water : ∀ i, i < water.length → 0 ≤ (spnAt water i).low ∧ (spnAt water i).low ≤ (spnAt water i).high ∧ (spnAt water i).high ≤ 120000
  n : ws.length ≤ 5
  w : ∀ i, i < ws.length → 0 ≤ (spnAt ws i).low ∧ (spnAt ws i).low ≤ (spnAt ws i).high ∧ (spnAt ws i).high ≤ 20000
def itB (ws : List Spn) (b : List Int) : List Itm := (List.range b.length).map fun i => ⟨gi b i, (spnAt ws i).low, (spnAt ws i).high⟩
@[simp] theorem itB_length (ws : List Spn) (b : List Int) : (itB ws b).length = b.length := by simp [itB]
theorem itB_snoc (ws : List Spn) (b : List Int) (s : Int) : itB ws b ++ [⟨s, (spnAt ws b.length).low, (spnAt ws b.length).high⟩] = itB ws (b ++ [s]) := by
  simp only [itB, List.length_append, List.length_singleton, List.range_succ, List.map_append, List.map_cons, List.map_nil]
  congr 1
  · refine List.map_congr_left fun i hi => ?_
    rw [gi_app_l (by simpa using hi)]
  · rw [gi_app_m (t := [])]
theorem seated_it (ws : List Spn) (tank : Spn) (water : List Spn) (landing : Bool) (b : List Int) : seated ws tank water landing b = ⟨itB ws b, tank, water, landing⟩ := rfl
theorem itB_at {ws : List Spn} {b : List Int} {i : Nat} (h : i < b.length) : itmAt (itB ws b) i = ⟨gi b i, (spnAt ws i).low, (spnAt ws i).high⟩ := itmAt_range h
theorem seat_pnt {P : Pln} {ws : List Spn} {tank : Spn} {water : List Spn} (h : SeatOk P ws tank water) (landing : Bool) {b : List Int} (hb : b.length ≤ ws.length) (hin : InSt P.stations.length b) : PntOk P (seated ws tank water landing b) := by
  refine ⟨?_, fun i hi => ?_, h.tank, h.nw, h.water⟩
  · simp only [seated_it, itB_length]; have := h.n; omega
  · simp only [seated_it, itB_length] at hi ⊢
    rw [itB_at hi]
    have h1 := hin (gi b i) (by simp [gi, hi])
    have h2 := h.w i (by omega)
    exact ⟨h1, h2⟩
def stK (S : Nat) : List Int := (List.range S).map fun s : Nat => (s : Int)
def lefts (P : Pln) (ws : List Spn) (b : List Int) : List Int := (List.range P.stations.length).map (leftP P ws b)
@[simp] theorem lefts_length (P : Pln) (ws : List Spn) (b : List Int) : (lefts P ws b).length = P.stations.length := by simp [lefts]
theorem lefts_get {P : Pln} {ws : List Spn} {b : List Int} {s : Nat} (h : s < P.stations.length) : geti (lefts P ws b) s = leftP P ws b s := by simp [geti, lefts, h]
theorem stK_find {S s : Nat} (h : s < S) : dfind (stK S) (s : Int) 0 = some s := by
  have key : ∀ (n a : Nat) (j : Nat), a ≤ s → s < a + n → dfind ((List.range' a n).map fun s : Nat => (s : Int)) (s : Int) j = some (j + (s - a)) := by
    intro n
    induction n with
    | zero => intro a j h1 h2; omega
    | succ n ih =>
      intro a j h1 h2
      rw [List.range'_succ, List.map_cons, dfind]
      by_cases e : a = s
      · subst e; simp
      · have e' : ¬ ((s : Int) == (a : Int)) = true := by simp; omega
        rw [if_neg e', ih (a + 1) (j + 1) (by omega) (by omega)]
        congr 1; omega
  have := key S 0 0 (by omega) (by omega)
  rw [← List.range_eq_range'] at this
  rw [stK, this]; congr 1; omega
theorem leftP_snoc (P : Pln) (ws : List Spn) (b : List Int) (s k : Nat) : leftP P ws (b ++ [(s : Int)]) k = leftP P ws b k - if s = k then (spnAt ws b.length).high else 0 := by
  unfold leftP
  rw [List.length_append, List.length_singleton, sumN]
  have e1 : sumN (fun i => if gi (b ++ [(s : Int)]) i = (k : Int) then (spnAt ws i).high else 0) b.length = sumN (fun i => if gi b i = (k : Int) then (spnAt ws i).high else 0) b.length := sumN_congr fun i hi => by rw [gi_app_l hi]
  have e2 : gi (b ++ [(s : Int)]) b.length = s := gi_app_m (t := [])
  rw [e1, e2]
  by_cases h : s = k
  · subst h; simp; omega
  · rw [if_neg h, if_neg (by omega)]; omega
theorem lefts_take {P : Pln} {ws : List Spn} {b : List Int} {s : Nat} (h : s < P.stations.length) : (lefts P ws b).set s (leftP P ws b s - (spnAt ws b.length).high) = lefts P ws (b ++ [(s : Int)]) := by
  refine List.ext_getElem (by simp) fun k h1 h2 => ?_
  rw [List.getElem_set]
  simp only [lefts, List.getElem_map, List.getElem_range]
  rw [leftP_snoc]
  by_cases e : s = k
  · subst e; simp
  · simp [e]
theorem lefts_back {P : Pln} {ws : List Spn} {b : List Int} {s : Nat} (h : s < P.stations.length) : (lefts P ws (b ++ [(s : Int)])).set s (leftP P ws b s) = lefts P ws b := by
  refine List.ext_getElem (by simp) fun k h1 h2 => ?_
  rw [List.getElem_set]
  simp only [lefts, List.getElem_map, List.getElem_range]
  rw [leftP_snoc]
  by_cases e : s = k
  · subst e; simp
  · simp [e]
theorem leftP_small {P : Pln} {ws : List Spn} {tank : Spn} {water : List Spn} (h : SeatOk P ws tank water) {b : List Int} (hb : b.length ≤ ws.length) {s : Nat} (hs : s < P.stations.length) : Small 200000 (leftP P ws b s) := by
  have h1 := (h.plane.station s hs).2
  have h2 : ∀ n, n ≤ b.length → 0 ≤ sumN (fun i => if gi b i = (s : Int) then (spnAt ws i).high else 0) n ∧ sumN (fun i => if gi b i = (s : Int) then (spnAt ws i).high else 0) n ≤ 20000 * (n : Int) := fun n => by
    induction n with
    | zero => intro _; simp [sumN]
    | succ n ih =>
      intro hn
      have := ih (by omega)
      have := h.w n (by omega)
      simp only [sumN]
      split <;> omega
  have h3 := h2 b.length (Nat.le_refl _)
  have h4 := h.n
  unfold leftP Small
  omega
def stX (P : Pln) (it : PV) (tank : Spn) (water : List Spn) (landing : Bool) : List PV := [.v (.int .i64 P.empty), .v (.int .i64 P.moment), .v (.int .i64 P.takeoff), .v (.int .i64 P.landing), cnrL P.corners, stnL P.stations, .v (.int .i64 P.tank.arm), .v (.int .i64 P.tank.most), .v (.int .i64 P.reserve), stnL P.floats, it, .v (.int .i64 tank.low), .v (.int .i64 tank.high), spnL water, .v (.bool landing)]
def capsS (P : Pln) (ws : List Spn) : List PV := [.ref 0 0, .rp [spnL ws] 0, .ref 1 0, .rp P.cells 0, .ref 2 0, .ref 3 0]
def HS (P : Pln) (ws : List Spn) (tank : Spn) (water : List Spn) (landing : Bool) (b : List Int) (e1 : Nat) (q1 : List Int) (it : List Itm) (e2 : Nat) (q2 : List Itm) (vs : List Int) : PF :=
  [.box false [.own 4 e1 0 b.length false], .box false (stX P (.own 5 e2 0 it.length false) tank water landing), .box false [.mp 6], .box false [.clo (.func 95) [] (capsS P ws)], .rows none e1 3 1 (rowsI q1), .rows none e2 120 3 (rowsIt q2), .map false (keysI (stK P.stations.length)) (keysI vs)]
def okS (P : Pln) (ws : List Spn) (tank : Spn) (water : List Spn) (landing : Bool) (b : List Int) : Bool := sureB P (seated ws tank water landing b)
def SeatQ (P : Pln) (ws : List Spn) (tank : Spn) (water : List Spn) (landing : Bool) (m : Nat) (b : List Int) (out : Out) : Prop :=
  ∃ b' it' vs' e1 q1 e2 q2, (q1.take b'.length = b' ∧ b'.length ≤ q1.length) ∧ (q2.take it'.length = it' ∧ it'.length ≤ q2.length) ∧
    match seatP (okS P ws tank water landing) (cutP P ws) P.stations.length m b with
    | some l => b' = l ∧ out = .ret (.v (.bool true)) (HS P ws tank water landing b' e1 q1 it' e2 q2 vs')
    | none => (b' = b ∧ it' = itB ws b ∧ vs' = lefts P ws b) ∧ out = .ret (.v (.bool false)) (HS P ws tank water landing b' e1 q1 it' e2 q2 vs')
theorem seat_search (P : Pln) (ws : List Spn) (tank : Spn) (water : List Spn) (landing : Bool) (hS : SeatOk P ws tank water) : ∀ (m : Nat) (b : List Int) (e1 : Nat) (q1 : List Int) (e2 : Nat) (q2 : List Itm), b.length + m = ws.length → InSt P.stations.length b →
    (q1.take b.length = b ∧ b.length ≤ q1.length) → (q2.take (itB ws b).length = itB ws b ∧ (itB ws b).length ≤ q2.length) →
    CallW Tryz.prog 95 (capsS P ws) (HS P ws tank water landing b e1 q1 (itB ws b) e2 q2 (lefts P ws b)) (SeatQ P ws tank water landing m b) := by
  intro m
  induction m with
  | zero =>
    intro b e1 q1 e2 q2 hn hin hq1 hq2
    have hws := hS.n
    have hpt := seat_pnt hS landing (show b.length ≤ ws.length by omega) hin
    have hbr := broken_spec P (seated ws tank water landing b) hS.plane hpt
    have hok : okS P ws tank water landing b = decide ((brokenP P (seated ws tank water landing b)).1 = 1) := rfl
    have hpc : pntC P (seated ws tank water landing b) = stX P (itmL (itB ws b)) tank water landing := rfl
    rw [hpc] at hbr
    generalize (brokenP P (seated ws tank water landing b)).1 = r at *
    generalize (brokenP P (seated ws tank water landing b)).2 = i at *
    simp only [capsS]
    refine callW_of mixed Tryz.func95 (by decide) rfl (congrArg Array.toList Tryz.results95) Tryz.ntmps95 (by decide) 87 (by simp) (by decide) ?_
    simp [HS, capsS, stX, Pln.cells, cnrL, stnL, spnL, show (b.length : Int) = ws.length from by omega]
    refine pop_spec hbr rfl true (.inl ?_) (.inr rfl) rfl (by simp) ?_
    · simp [stX, cnrL, stnL, spnL, itmL]
      refine ⟨by have := hq2.2; rwa [itB_length] at this, fun k hk => ?_⟩
      rw [show (rowsIt q2)[k]? = some (itmAt (itB ws b) k).cells from by
        have h2 := hq2.2
        rw [itB_length] at h2
        rw [rowsIt_get (by omega)]
        have h3 := congrArg (fun l => itmAt l k) hq2.1
        simp only [itB_length] at h3
        rw [← h3]
        simp [itmAt, hk]]
      simp [Itm.cells]
    simp
    by_cases hr : r = 1
    · subst hr
      refine ends_of (.v (.bool true)) (HS P ws tank water landing b e1 q1 (itB ws b) e2 q2 (lefts P ws b)) [] (x := .v (.bool true)) rfl (by decide) ?_ ?_ ⟨b, itB ws b, lefts P ws b, e1, q1, e2, q2, hq1, hq2, by simp [seatP, hok]⟩
      · simp [HS, stX, capsS, Pln.cells, cnrL, stnL, spnL]
      · simp
    · refine ends_of (.v (.bool false)) (HS P ws tank water landing b e1 q1 (itB ws b) e2 q2 (lefts P ws b)) [] (x := .v (.bool (decide ((r : Int) = 1)))) rfl (by decide) ?_ ?_ ⟨b, itB ws b, lefts P ws b, e1, q1, e2, q2, hq1, hq2, by simp [seatP, hok, hr]⟩
      · simp [HS, stX, capsS, Pln.cells, cnrL, stnL, spnL]
      · simp; omega
  | succ m ih =>
    intro b e1 q1 e2 q2 hn hin hq1 hq2
    have hws := hS.n
    have hns := hS.plane.ns
    have hbl : b.length < ws.length := by omega
    simp only [capsS]
    refine callW_of mixed Tryz.func95 (by decide) rfl (congrArg Array.toList Tryz.results95) Tryz.ntmps95 (by decide) 87 (by simp) (by decide) ?_
    simp [HS, capsS, stX, Pln.cells, cnrL, stnL, spnL, show ¬ (b.length : Int) = ws.length from by omega]
    obtain ⟨F, hF⟩ : ∃ F : Nat → Option (List Int), F = fun s => if cutP P ws b s = true then none else seatP (okS P ws tank water landing) (cutP P ws) P.stations.length m (b ++ [(s : Int)]) := ⟨_, rfl⟩
    have hseat : seatP (okS P ws tank water landing) (cutP P ws) P.stations.length (m + 1) b = firstS F P.stations.length := by rw [hF]; rfl
    rw [itB_length] at hq2
    refine pwp_loop (fun σ : Nat × Nat × List Int × Nat × List Itm => [(11, .undef), (27, .v (.int .i64 σ.1)), (87, .box false [.own 91 σ.2.1 0 b.length false]), (88, .box false (stX P (.own 92 σ.2.2.2.1 0 b.length false) tank water landing)), (91, .rows none σ.2.1 3 1 (rowsI σ.2.2.1)), (92, .rows none σ.2.2.2.1 120 3 (rowsIt σ.2.2.2.2)), (93, .map false (keysI (stK P.stations.length)) (keysI (lefts P ws b)))])
      (fun σ => σ.1 ≤ P.stations.length ∧ (σ.2.2.1.take b.length = b ∧ b.length ≤ σ.2.2.1.length) ∧ (σ.2.2.2.2.take b.length = itB ws b ∧ b.length ≤ σ.2.2.2.2.length) ∧ ∀ k, k < σ.1 → F k = none) (fun σ => P.stations.length - σ.1) (0, e1, q1, e2, q2) ⟨Nat.zero_le _, hq1, hq2, fun k h => by omega⟩ (by simp; rfl) (by simp [stX, Pln.cells, cnrL, stnL, spnL]) ?_
    clear hq1 hq2
    rintro ⟨s, e1, q1, e2, q2⟩ ⟨hs, hq1, hq2, hno⟩
    simp only at hs hq1 hq2 hno
    by_cases hsl : s < P.stations.length
    · have wsn := i64_wrap (show -9223372036854775808 ≤ (s : Int) + 1 ∧ _ from by omega)
      have hfind := pkfind_ints (P := Tryz.prog) (t := 3) (by rfl) (stK P.stations.length) (s : Int) 0
      rw [stK_find hsl] at hfind
      have hkey : pkeyOk Tryz.prog 3 (.v (.int .i64 (s : Int))) = true := by simp [pkeyOk]
      have hval := keysI_get (v := lefts P ws b) (j := s) (by simpa using hsl)
      rw [lefts_get hsl] at hval
      have hFs : F s = if cutP P ws b s = true then none else seatP (okS P ws tank water landing) (cutP P ws) P.stations.length m (b ++ [(s : Int)]) := by rw [hF]
      have hsm := leftP_small hS (show b.length ≤ ws.length by omega) hsl
      have hwn := hS.w b.length hbl
      simp [hsl, stX, Pln.cells, cnrL, stnL, spnL]
      refine pwp_draw 9 (by decide) ?_
      by_cases hc : leftP P ws b s < (spnAt ws b.length).high
      · have hcut : cutP P ws b s = true := by simp [cutP, hc]
        rw [hcut, if_pos rfl] at hFs
        simp [hbl, Spn.cells, hfind, hkey, hval, hc]
        refine ⟨by decide, ?_⟩
        refine again_of (s + 1, e1, q1, e2, q2) ⟨by omega, hq1, hq2, fun k hk => ?_⟩ (by simp; omega) ?_
        · rcases Nat.lt_or_eq_of_le (Nat.le_of_lt_succ hk) with h' | rfl
          · exact hno k h'
          · exact hFs
        · simp [wsn, stX, Pln.cells, cnrL, stnL, spnL]
      · have hcut : cutP P ws b s = false := by simp [cutP]; omega
        rw [hcut, if_neg (by simp)] at hFs
        have hin2 : InSt P.stations.length (b ++ [(s : Int)]) := fun x hx => by
          rcases List.mem_append.1 hx with h | h
          · exact hin x h
          · obtain rfl := List.mem_singleton.1 h; omega
        have wl := i64_wrap (show -9223372036854775808 ≤ leftP P ws b s - (spnAt ws b.length).high ∧ _ from by unfold Small at hsm; omega)
        have etk := lefts_take (ws := ws) (b := b) hsl
        simp [hbl, Spn.cells, hfind, hkey, hval, hc]
        refine ⟨by decide, ?_⟩
        refine pwp_draw 9 (by decide) ?_
        simp [hbl, Spn.cells, hfind, hkey, hval, wl, keysI_set (stK_find hsl), keysI_setv, etk]
        refine ⟨by decide, ?_⟩
        have er1 := rowsI_snoc b (s : Int)
        have er2 := rowsIt_snoc' (itB ws b) ⟨(s : Int), (spnAt ws b.length).low, (spnAt ws b.length).high⟩
        rw [itB_snoc] at er2
        simp only at er2
        have hrec := ih (b ++ [(s : Int)]) (e1 + 1) (b ++ [(s : Int)]) (e2 + 1) (itB ws (b ++ [(s : Int)])) (by simp; omega) hin2 ⟨List.take_length, Nat.le_refl _⟩ ⟨List.take_length, Nat.le_refl _⟩
        simp [hq1, er1, show (b.length + 1) * 8 ≤ 140737488355328 from by omega, show b.length + 1 ≤ maxLen from by simp [maxLen]; omega]
        refine pwp_draw 13 (by decide) ?_
        simp [hbl, Spn.cells, hq2, er2, show (b.length + 1) * 24 ≤ 140737488355328 from by omega, show b.length + 1 ≤ maxLen from by simp [maxLen]; omega]
        refine ⟨by decide, ?_⟩
        refine pop_callF [(11, .undef), (30, .undef), (35, .undef), (39, .undef), (42, .undef), (48, .undef), (50, .undef), (51, .undef), (52, .undef), (53, .undef), (54, .undef), (61, .undef), (62, .undef), (63, .undef), (64, .undef)] ?_ hrec rfl [87, 88, 89, 90, 91, 92, 93] false (by decide) ?_ (.inl ?_) ?_
        · simp [stX, Pln.cells, cnrL, stnL, spnL, Spn.cells]
          rintro x (⟨y, _, rfl⟩ | rfl) <;> simp
        · simp [HS, stX, capsS, Pln.cells, cnrL, stnL, spnL, Spn.cells]
          rintro x (⟨y, _, rfl⟩ | rfl) <;> simp
        · simp [capsS, stX, Pln.cells, cnrL, stnL, spnL, Spn.cells]
        rintro out ⟨b', it', vs', e1', q1', e2', q2', hq1', hq2', hm⟩
        cases hres : seatP (okS P ws tank water landing) (cutP P ws) P.stations.length m (b ++ [(s : Int)]) with
        | some l =>
          rw [hres] at hm
          obtain ⟨rfl, rfl⟩ := hm
          have hsome : firstS F P.stations.length = some b' := firstS_some.2 ⟨s, hsl, by rw [hFs, hres], hno⟩
          rw [hsome] at hseat
          refine ⟨[], by simp [backOk, HS], by simp, by simp [back, backV, placeAll, HS, stX, capsS, Pln.cells, cnrL, stnL, spnL], ?_⟩
          simp [back, backV, placeAll, HS, stX, capsS, Pln.cells, cnrL, stnL, spnL]
          refine ends_of (.v (.bool true)) (HS P ws tank water landing b' e1' q1' it' e2' q2' vs') [] (x := .v (.bool true)) rfl (by decide) ?_ ?_ ⟨b', it', vs', e1', q1', e2', q2', hq1', hq2', by rw [hseat]; simp⟩
          · simp [HS, stX, capsS, Pln.cells, cnrL, stnL, spnL]
          · simp
        | none =>
          rw [hres] at hm
          obtain ⟨⟨rfl, rfl, rfl⟩, rfl⟩ := hm
          have ebk := lefts_back (ws := ws) (b := b) hsl
          have hval2 := keysI_get (v := lefts P ws (b ++ [(s : Int)])) (j := s) (by simpa using hsl)
          rw [lefts_get hsl, leftP_snoc, if_pos rfl] at hval2
          have wb := i64_wrap (show -9223372036854775808 ≤ leftP P ws b s - (spnAt ws b.length).high + (spnAt ws b.length).high ∧ _ from by unfold Small at hsm; omega)
          rw [Int.sub_add_cancel] at wb
          refine ⟨[], by simp [backOk, HS], by simp, by simp [back, backV, placeAll, HS, stX, capsS, Pln.cells, cnrL, stnL, spnL], ?_⟩
          have hb1 : b.length ≤ q1'.length := by have := hq1'.2; simp at this; omega
          have hb2 : b.length ≤ q2'.length := by have := hq2'.2; simp at this; omega
          have ht1 : q1'.take b.length = b := by
            have := congrArg (List.take b.length) hq1'.1
            simpa [List.take_take, Nat.min_eq_left (Nat.le_succ _)] using this
          have ht2 : q2'.take b.length = itB ws b := by
            have := congrArg (List.take b.length) hq2'.1
            rw [← itB_snoc] at this
            have e3 : List.take b.length (itB ws b) = itB ws b := List.take_of_length_le (by simp)
            simpa [List.take_take, Nat.min_eq_left (Nat.le_succ _), e3] using this
          have wn := i64_wrap (show -9223372036854775808 ≤ (b.length : Int) ∧ _ from by omega)
          simp [back, backV, placeAll, HS, stX, capsS, Pln.cells, cnrL, stnL, spnL, wn, show (b.length : Int) ≤ (b.length : Int) + 1 from by omega]
          refine pwp_draw 9 (by decide) ?_
          simp [hbl, Spn.cells, hfind, hkey, hval2, wb, keysI_set (stK_find hsl), keysI_setv, ebk]
          refine ⟨by decide, ?_⟩
          refine again_of (s + 1, e1', q1', e2', q2') ⟨by omega, ⟨ht1, hb1⟩, ⟨ht2, hb2⟩, fun k hk => ?_⟩ (by simp; omega) ?_
          · rcases Nat.lt_or_eq_of_le (Nat.le_of_lt_succ hk) with h' | rfl
            · exact hno k h'
            · rw [hFs, hres]
          · simp [wsn, stX, Pln.cells, cnrL, stnL, spnL, Spn.cells]
    · obtain rfl : s = P.stations.length := by omega
      have hnone := firstS_none.2 hno
      rw [hnone] at hseat
      simp
      refine ends_of (.v (.bool false)) (HS P ws tank water landing b e1 q1 (itB ws b) e2 q2 (lefts P ws b)) [] (x := .v (.bool false)) rfl (by decide) ?_ ?_ ⟨b, itB ws b, lefts P ws b, e1, q1, e2, q2, hq1, by simpa using hq2, by rw [hseat]; simp⟩
      · simp [HS, stX, capsS, Pln.cells, cnrL, stnL, spnL]
      · simp
end Go.Qg


namespace Go.Qg
open Go.Proofs
set_option maxRecDepth 100000
set_option linter.unusedSimpArgs false
set_option maxHeartbeats 64000000
attribute [local irreducible] pwp pops pdraw pop popCall pdCall thenP blockP scopeP pspec Spec answers ppost CallW rend
end Go.Qg


namespace Go.Qg
open Go.Proofs
set_option maxRecDepth 100000
set_option linter.unusedSimpArgs false
set_option maxHeartbeats 64000000
attribute [local irreducible] pwp pops pdraw pop popCall pdCall thenP blockP scopeP pspec Spec answers ppost CallW rend
structure InP (m : Nat) (s : List Int) : Prop where
  n : s.length ≤ 8
  each : ∀ x ∈ s, 0 ≤ x ∧ x < (m : Int)
theorem InP.at {n : Nat} {s : List Int} (h : InP n s) : ∀ j, j < s.length → 0 ≤ geti s j ∧ geti s j < (n : Int) := fun j hj => h.each _ (by simp [geti, List.getElem?_eq_getElem hj])
end Go.Qg


namespace Go.Qg
open Go.Proofs
set_option maxRecDepth 100000
set_option linter.unusedSimpArgs false
set_option maxHeartbeats 64000000
attribute [local irreducible] pwp pops pdraw pop popCall pdCall thenP blockP scopeP pspec Spec answers ppost CallW rend
def weighB (ws : List Spn) : Bool := allN ws.length fun k => spanB (spnAt ws k) 0 20000
theorem lweighed_spec (ws : List Spn) (hw : ws.length ≤ 9223372036854775807) : Spec Tryz.prog 47 [spnL ws] (.v (.bool (weighB ws))) := by
  refine spec_of mixed Tryz.func47 (by decide) rfl Tryz.results47 Tryz.ntmps47 (by decide) 0 (by simp) ?_
  simp [spnL]
  refine pwp_loop (fun k : Nat => [(3, .v (.int .i64 k))]) (fun k => k ≤ ws.length ∧ ∀ j, j < k → spanB (spnAt ws j) 0 20000 = true) (fun k => ws.length - k) 0 ⟨Nat.zero_le _, fun j h => by omega⟩ (by simp; rfl) (by simp) ?_
  intro k ⟨hk, hq⟩
  by_cases hkl : k < ws.length
  · have wk := i64_wrap (show -9223372036854775808 ≤ (k : Int) + 1 ∧ _ from by omega)
    simp [hkl, Spn.cells]
    refine pop_spec (rSpan_spec (spnAt ws k) 0 20000) rfl false (.inl (by simp [Spn.cells])) (.inl rfl) rfl (by simp) ?_
    cases h1 : spanB (spnAt ws k) 0 20000 with
    | false =>
      simp
      refine answers_of rfl ?_
      have : weighB ws = false := allN_false (p := fun k => spanB (spnAt ws k) 0 20000) hkl h1
      simp [this]
    | true =>
      simp
      refine again_of (k + 1) ⟨by omega, fun j hj => ?_⟩ (by omega) ?_
      · rcases Nat.lt_or_eq_of_le (Nat.le_of_lt_succ hj) with h' | rfl
        · exact hq j h'
        · exact h1
      · simp [wk]
  · obtain rfl : k = ws.length := by omega
    have hw : weighB ws = true := allN_spec.2 hq
    simp
    refine answers_of rfl ?_; simp [hw]
theorem stK_out {S s : Nat} (h : S ≤ s) : dfind (stK S) (s : Int) 0 = none := by
  have key : ∀ (l : List Nat) (j : Nat), (∀ x ∈ l, x < s) → dfind (l.map fun s : Nat => (s : Int)) (s : Int) j = none := by
    intro l
    induction l with
    | nil => intro j _; rfl
    | cons x l ih =>
      intro j hx
      have h1 := hx x (List.mem_cons_self ..)
      have e' : ¬ ((s : Int) == (x : Int)) = true := by simp; omega
      rw [List.map_cons, dfind, if_neg e']
      exact ih (j + 1) fun y hy => hx y (List.mem_cons_of_mem _ hy)
  exact key _ 0 fun x hx => by have := List.mem_range.1 hx; omega
def base (tank : Spn) (water : List Spn) (landing : Bool) : Pnt := ⟨[], tank, water, landing⟩
theorem seatOk_of {P : Pln} {ws : List Spn} {tank : Spn} {water : List Spn} {landing : Bool} (h1 : rightB P (base tank water landing) = true) (h2 : weighB ws = true) (h3 : ws.length ≤ 5) : SeatOk P ws tank water := by
  obtain ⟨k1, k2⟩ := right_ok.1 h1
  exact ⟨k1, k2.tank, k2.nw, k2.water, h3, fun i hi => by have := allN_spec.1 h2 i hi; rwa [spanB_spec] at this⟩
def findS (P : Pln) (ws : List Spn) (tank : Spn) (water : List Spn) (landing : Bool) : Option (List Int) := seatR (okS P ws tank water landing) P.stations.length ws.length []
theorem find_eq {P : Pln} {ws : List Spn} {tank : Spn} {water : List Spn} {landing : Bool} (h : SeatOk P ws tank water) : seatP (okS P ws tank water landing) (cutP P ws) P.stations.length ws.length [] = findS P ws tank water landing :=
  seatP_eq (N := ws.length) (fun b s t hs hn _ _ hc => cut_law (fun i hi => ⟨(h.w i hi).1, (h.w i hi).2.1⟩) b s t hs hn hc) (by simp) (fun x hx => by cases hx)
def seatRes (P : Pln) (ws : List Spn) (tank : Spn) (water : List Spn) (landing : Bool) : PV :=
  if 5 < ws.length then .tup [ints [], .v (.int .i64 3)] else if rightB P (base tank water landing) = true ∧ weighB ws = true then (match findS P ws tank water landing with
    | some l => .tup [ints l, .v (.int .i64 0)]
    | none => .tup [ints [], .v (.int .i64 5)]) else .tup [ints [], .v (.int .i64 2)]
theorem Seat_spec (P : Pln) (ws : List Spn) (tank : Spn) (water : List Spn) (landing : Bool) (hP : PlnLen P) (hw : ws.length ≤ 9223372036854775807) (hwa : water.length ≤ 9223372036854775807) :
    Spec Tryz.prog 46 [.agg P.cells, spnL ws, .agg tank.cells, spnL water, .v (.bool landing)] (seatRes P ws tank water landing) := by
  have hr := right_spec P (base tank water landing) hP ⟨by simp [base], hwa⟩
  have hall := allSpn_spec ws hw 94 [] [] rfl rfl (fun k => spanB (spnAt ws k) 0 20000) fun k hk => seat1_spec (spnAt ws k)
  have hwe : (allN ws.length fun k => spanB (spnAt ws k) 0 20000) = weighB ws := rfl
  rw [hwe] at hall
  unfold seatRes
  have hpc : pntC P (base tank water landing) = stX P (itmL []) tank water landing := rfl
  rw [hpc] at hr
  refine spec_of mixed Tryz.func46 (by decide) rfl Tryz.results46 Tryz.ntmps46 (by decide) 2 (by simp) ?_
  simp [Pln.cells, cnrL, stnL, Spn.cells, spnL]
  by_cases h5 : 5 < ws.length
  · simp [show (5 : Int) < ws.length from by omega]
    refine answers_of rfl ?_; simp [h5, ints]
  simp [show ¬ (5 : Int) < ws.length from by omega]
  refine pop_spec hr rfl false (.inl (by simp [stX, cnrL, stnL, spnL, itmL, Spn.cells])) (.inl rfl) rfl (by simp) ?_
  cases g1 : rightB P (base tank water landing) with
  | false =>
    simp
    refine answers_of rfl ?_; simp [h5, ints]
  | true =>
    simp
    refine pop_spec hall rfl false (.inl (by simp [spnL, Spn.cells])) (.inl rfl) rfl (by simp) ?_
    cases g2 : weighB ws with
    | false =>
      simp
      refine answers_of rfl ?_; simp [h5, ints]
    | true =>
      have hS := seatOk_of (landing := landing) g1 g2 (by omega)
      have hns := hS.plane.ns
      have hsr := seat_search P ws tank water landing hS ws.length [] 0 [] 0 [] (by simp) (fun x hx => by cases hx) ⟨rfl, Nat.zero_le _⟩ ⟨rfl, Nat.zero_le _⟩
      have hfe := find_eq (landing := landing) hS
      simp [h5]
      refine pwp_loop (fun k : Nat => [(5, .rp P.cells 0), (6, .rp [spnL ws] 0), (36, .map true (keysI (stK k)) (keysI (upto (leftP P ws []) k))), (37, .undef), (40, .v (.int .i64 k))]) (fun k => k ≤ P.stations.length) (fun k => P.stations.length - k) 0 (Nat.zero_le _) (by simp; rfl) (by simp [stK, upto, Pln.cells, cnrL, stnL, spnL, Spn.cells]) ?_
      intro k hk
      by_cases hkl : k < P.stations.length
      · have wk := i64_wrap (show -9223372036854775808 ≤ (k : Int) + 1 ∧ _ from by omega)
        have hfind := pkfind_ints (P := Tryz.prog) (t := 3) (by rfl) (stK k) (k : Int) 0
        rw [stK_out (Nat.le_refl k)] at hfind
        have hkey : pkeyOk Tryz.prog 3 (.v (.int .i64 (k : Int))) = true := by simp [pkeyOk]
        have hl : leftP P ws [] k = (stnAt P.stations k).most := by simp [leftP, sumN]
        have es := upto_succ (leftP P ws []) k
        rw [hl] at es
        have ek : stK k ++ [(k : Int)] = stK (k + 1) := by simp [stK, List.range_succ]
        simp [hkl, Stn.cells, hfind, hkey, keysI_snoc, es, ek]
        refine again_of (k + 1) (by omega) (by omega) ?_
        simp [wk, Pln.cells, cnrL, stnL, spnL, Spn.cells]
      · obtain rfl : k = P.stations.length := by omega
        have el : upto (leftP P ws []) P.stations.length = lefts P ws [] := rfl
        rw [el]
        simp
        refine pop_callF [(13, .box true [.own 55 0 0 0 false]), (55, .rows none 0 3 1 []), (12, .box true (stX P (.own 56 0 0 0 false) tank water landing)), (56, .rows none 0 120 3 []), (26, .undef), (27, .undef), (28, .undef)] ?_ hsr rfl [13, 12, 14, 17, 55, 56, 36] false (by decide) ?_ (.inl ?_) ?_
        · simp [stX, Pln.cells, cnrL, stnL, spnL, Spn.cells]
        · simp [HS, stX, capsS, Pln.cells, cnrL, stnL, spnL, itB, Spn.cells]
        · simp [capsS, stX, Pln.cells, cnrL, stnL, spnL, Spn.cells]
        rintro out ⟨b', it', vs', e1', q1', e2', q2', hq1', hq2', hm⟩
        rw [hfe] at hm
        cases hres : findS P ws tank water landing with
        | some l =>
          rw [hres] at hm
          obtain ⟨rfl, rfl⟩ := hm
          refine ⟨[], by simp [backOk, HS], by simp, by simp [back, backV, placeAll, HS, stX, capsS, Pln.cells, cnrL, stnL, spnL, Spn.cells], ?_⟩
          simp [back, backV, placeAll, HS, stX, capsS, Pln.cells, cnrL, stnL, spnL, Spn.cells]
          refine answers_of rfl ?_
          simp [ints]
          refine ⟨hq1'.2, fun k hk => ?_⟩
          rw [rowsI_get (show k < q1'.length by have := hq1'.2; omega), show geti q1' k = geti b' k from by
            have h3 := congrArg (fun l => geti l k) hq1'.1
            rw [← h3]
            simp [geti, hk]]
          simp
        | none =>
          rw [hres] at hm
          obtain ⟨_, rfl⟩ := hm
          refine ⟨[], by simp [backOk, HS], by simp, by simp [back, backV, placeAll, HS, stX, capsS, Pln.cells, cnrL, stnL, spnL, Spn.cells], ?_⟩
          simp [back, backV, placeAll, HS, stX, capsS, Pln.cells, cnrL, stnL, spnL, Spn.cells]
          refine answers_of rfl ?_
          simp [ints]
def itU (ws : List Spn) (b : List Int) (n : Nat) : List Itm := (List.range n).map fun i => ⟨geti b i, (spnAt ws i).low, (spnAt ws i).high⟩
@[simp] theorem itU_length (ws : List Spn) (b : List Int) (n : Nat) : (itU ws b n).length = n := by simp [itU]
@[simp] theorem itU_take (ws : List Spn) (b : List Int) (n : Nat) : (itU ws b n).take n = itU ws b n := List.take_of_length_le (by simp)
theorem itU_succ (ws : List Spn) (b : List Int) (n : Nat) : itU ws b n ++ [⟨geti b n, (spnAt ws n).low, (spnAt ws n).high⟩] = itU ws b (n + 1) := by simp [itU, List.range_succ]
theorem rSeated_spec (ws : List Spn) (b : List Int) (tank : Spn) (water : List Spn) (landing : Bool) (hb : b.length = ws.length) (hn : ws.length ≤ 1000) :
    Spec Tryz.prog 50 [spnL ws, ints b, .agg tank.cells, spnL water, .v (.bool landing)] (.agg (seated ws tank water landing b).cells) := by
  have hit : (seated ws tank water landing b).items = itU ws b ws.length := by rw [← hb]; rfl
  refine spec_of mixed Tryz.func50 (by decide) rfl Tryz.results50 Tryz.ntmps50 (by decide) 0 (by simp) ?_
  simp [spnL, ints, Spn.cells]
  refine pwp_loop (fun n : Nat => [(11, .box true [.own 35 n 0 n false, .v (.int .i64 tank.low), .v (.int .i64 tank.high), .sl 2 water.length fun i => [.v (.int .i64 (spnAt water i).low), .v (.int .i64 (spnAt water i).high)], .v (.bool landing)]), (12, .v (.int .i64 n)), (35, .rows none n 120 3 (rowsIt (itU ws b n)))]) (fun n => n ≤ ws.length) (fun n => ws.length - n) 0 (Nat.zero_le _) (by simp; rfl) (by simp [itU]) ?_
  intro n hn'
  by_cases hnl : n < ws.length
  · have wn := i64_wrap (show -9223372036854775808 ≤ (n : Int) + 1 ∧ _ from by omega)
    have er := rowsIt_snoc' (itU ws b n) ⟨geti b n, (spnAt ws n).low, (spnAt ws n).high⟩
    rw [itU_succ] at er
    simp only at er
    simp [hnl]
    refine pwp_draw 14 (by decide) ?_
    simp [hnl, hb, er, show (n + 1) * 24 ≤ 140737488355328 from by omega, show n + 1 ≤ maxLen from by simp [maxLen]; omega]
    refine ⟨by decide, ?_⟩
    refine again_of (n + 1) (by omega) (by omega) ?_
    simp [wn]
  · obtain rfl : n = ws.length := by omega
    simp
    refine answers_of (x := .agg [.own 35 ws.length 0 ws.length false, .v (.int .i64 tank.low), .v (.int .i64 tank.high), .sl 2 water.length fun i => [.v (.int .i64 (spnAt water i).low), .v (.int .i64 (spnAt water i).high)], .v (.bool landing)]) (by simp) ?_
    simp only [Pnt.cells, itmL, spnL, hit, itU_length]
    simp [seated, Spn.cells]
    intro k hk
    rw [rowsIt_get (by simpa using hk)]
    simp [Itm.cells]
end Go.Qg


namespace Go.Qg
open Go.RowKit (Below)
def splitOk (all : List Oper) (m : Nat) : Bool := (List.range all.length).all fun j => decide (j < m) || (List.range m).all fun i => ((befs all []).getD j 0).testBit i
def drawOkS (all : List Oper) (m : Nat) (its : List Fp) : Bool := edgesOk all && pairsOk (befs all []) 0 [] its && splitOk all m
def pdrawS (P : Program) (all : List Oper) (m : Nat) (C : PF → Prop) : List Oper → List Fp → PF → Prop
  | [], fps, fr => drawOkS all m fps = true ∧ C fr
  | o :: rest, fps, fr => match pwanted all o fr with
    | some b => if b = true then match isCall o with
        | some c => pdCall P o c fr fun news fr' => pdrawS P all m C rest (fps ++ [fpOf all o news fr]) fr'
        | none => isPanic o = none ∧ dstOk o fr = true ∧ match pstep P o fr with
          | some fr' => pdrawS P all m C rest (fps ++ [fpOf all o [] fr]) fr'
          | none => False
      else noObj o.dst fr = true ∧ pdrawS P all m C rest (fps ++ [fpOf all o [] fr]) (put o.dst (.tup []) fr)
    | none => False
section
variable {P : Program} {N : Nat} {B : Base} {w w' : World} {R R' R2 : Nat → Nat → Prop} {Γ Γ' Γ2 : Nat → Option Loc} {a : Act} {fr fr' : PF} {Q : Exit → Act → World → Prop} {all : List Oper}
theorem pdrawS_cons {m : Nat} {C : PF → Prop} {o : Oper} {rest : List Oper} {fps : List Fp} (h : pdrawS P all m C (o :: rest) fps fr) : ∃ news fr', PStep P all o news fr fr' ∧ pdrawS P all m C rest (fps ++ [fpOf all o news fr]) fr' := by
  simp only [pdrawS] at h
  unfold PStep
  split at h
  case h_2 => exact h.elim
  rename_i b hw
  rw [hw]
  split at h
  · rename_i hb
    subst hb
    split at h
    · rename_i c hc
      unfold pdCall at h
      split at h
      case h_2 => exact h.elim
      rename_i f ps hps
      obtain ⟨h1, md, qs, r, H2, news, h2, hm, h3, h4, h5, h6⟩ := h
      refine ⟨news, _, ?_, h6⟩
      simp only [hc, hps]
      exact ⟨h1, md, qs, r, H2, h2, hm, h3, h4, h5, rfl⟩
    · rename_i hc
      obtain ⟨h1, h2, h3⟩ := h
      split at h3
      case h_2 => exact h3.elim
      rename_i fr' hs
      refine ⟨[], fr', ?_, h3⟩
      simp only [hc]
      exact ⟨h1, h2, hs⟩
  · rename_i hb
    obtain rfl : b = false := by simpa using hb
    exact ⟨[], _, ⟨h.1, rfl⟩, h.2⟩
theorem pdrawS_run {m : Nat} {C : PF → Prop} : ∀ (l : List Oper) (fps : List Fp) (fr : PF), pdrawS P all m C l fps fr → ∃ (its : List It) (fr' : PF), its.map (·.o) = l ∧ Run P all its fr fr' ∧ drawOkS all m (fps ++ its.map (·.fp)) = true ∧ C fr'
  | [], fps, fr, h => ⟨[], fr, rfl, rfl, by simpa using h.1, h.2⟩
  | o :: l, fps, fr, h => by
    obtain ⟨news, x, hs, hr⟩ := pdrawS_cons h
    obtain ⟨its, fr', h1, h2, h3, h4⟩ := pdrawS_run l _ x hr
    refine ⟨⟨o, news, fpOf all o news fr⟩ :: its, fr', by simp [h1], ⟨x, ⟨hs, rfl⟩, h2⟩, ?_, h4⟩
    simpa [List.append_assoc] using h3
theorem any_soundS {ro : Option Nat} (ops : Array Oper) (hall : ops.toList = all) (hN : ∀ o ∈ all, ∀ d, o.dst = some d → d < N) (he : edgesOk all = true) {m : Nat} (hm : m ≤ all.length) (hseq : splitOk all m = true) {C : PF → Prop} (hout : ∀ a w, ¬ Q .outgrown a w) (hC : ∀ (fuel : Nat) (listed : Array Bool) (a : Act) (w : World) (fr : PF), all.length ≤ m + fuel → (∀ i, i < all.length → (listed.getD i true = false ↔ m ≤ i)) → listed.size = all.length → SimE N B a w fr → C fr → AnyR P ro ops Q fuel listed a w) :
    ∀ (fuel : Nat) (rem : List (Nat × It)) (listed : Array Bool) (a : Act) (w : World) (fr fr' : PF), SimE N B a w fr → Run P all (rem.map (·.2)) fr fr' →
    rem.Pairwise (Ordered (befs all [])) → (∀ x ∈ rem, all[x.1]? = some x.2.o ∧ x.1 < m) → (∀ i, i < all.length → (listed.getD i true = false ↔ m ≤ i ∨ ∃ x ∈ rem, x.1 = i)) → listed.size = all.length →
    (∀ (k : Nat) (o : Oper), all[k]? = some o → listed.getD k false = true → ∀ e ∈ o.after.toList, Region.binds .any e = true → listed.getD e.on false = true) → rem.length + (all.length - m) ≤ fuel →
    C fr' → AnyR P ro ops Q fuel listed a w := by
  intro fuel
  have hops : ∀ i : Nat, ops[i]? = all[i]? := fun i => by rw [← hall]; simp
  induction fuel with
  | zero =>
    intro rem listed a w fr fr' h hrun hpw hin hli hsz hcl hf hp
    obtain rfl : rem = [] := List.eq_nil_of_length_eq_zero (by omega)
    obtain rfl : fr = fr' := hrun
    exact hC 0 listed a w fr (by simp at hf; omega) (fun i hi => by rw [hli i hi]; simp) hsz h hp
  | succ fuel ih =>
    intro rem listed a w fr fr' h hrun hpw hin hli hsz hcl hf hp
    cases rem with
    | nil =>
      obtain rfl : fr = fr' := hrun
      exact hC (fuel + 1) listed a w fr (by simp at hf; omega) (fun i hi => by rw [hli i hi]; simp) hsz h hp
    | cons x0 rem0 =>
    generalize hrem : x0 :: rem0 = rem at hrun hpw hin hli hf
    have hne : rem ≠ [] := by rw [← hrem]; simp
    have hbef : ∀ (i : Nat) (o : Oper), all[i]? = some o → (∀ e ∈ o.after.toList, Region.binds .any e = true → listed.getD e.on false = true) → ∀ j, ((befs all []).getD i 0).testBit j = true → listed.getD j false = true := fun i o ho hafter j hj =>
      befs_closed (fun k => listed.getD k false = true) all hcl all [] [] rfl rfl (fun i o hi => by simp at hi) i o ho hafter j hj
    refine AnyR_succ (fun hr => ?_) (fun i hi => ?_)
    · -- the first of what is left is ready
      exfalso
      have ho := (hin x0 (by rw [← hrem]; exact List.mem_cons_self)).1
      have : x0.1 ∈ Region.ready .any ops listed := by
        rw [mem_ready]
        refine ⟨(hli x0.1 (lt_of_get? ho)).2 (.inr ⟨x0, by rw [← hrem]; exact List.mem_cons_self, rfl⟩), x0.2.o, by rw [hops]; exact ho, fun e hein hb => ?_⟩
        have hlt : e.on < x0.1 := by
          have := List.all_eq_true.1 (List.all_eq_true.1 he (x0.2.o, x0.1) (by rw [List.mem_zipIdx_iff_getElem?]; exact ho)) e (by simpa using hein)
          simpa [hb] using this
        have hx0m := (hin x0 (by rw [← hrem]; exact List.mem_cons_self)).2
        have hel : e.on < all.length := by have := lt_of_get? ho; omega
        have hne : listed.getD e.on true ≠ false := fun hf => by
          rcases (hli e.on hel).1 hf with h1 | ⟨y, hy, hye⟩
          · omega
          · rw [← hrem] at hy hpw
            rcases List.mem_cons.1 hy with rfl | hy
            · omega
            · have := ((List.pairwise_cons.1 hpw).1 y hy).1; omega
        have hs : e.on < listed.size := by omega
        simp only [Array.getD_eq_getD_getElem?, Array.getElem?_eq_getElem hs, Option.getD_some] at hne ⊢
        simpa using hne
      rw [hr] at this; cases this
    · rw [mem_ready] at hi
      obtain ⟨h0, o, ho, hafter⟩ := hi
      rw [hops] at ho
      have hil := lt_of_get? ho
      have hafter' : ∀ e ∈ o.after.toList, Region.binds .any e = true → listed.getD e.on false = true := fun e hein hb => hafter e (by simpa using hein) hb
      have hunl : ∀ j, j < all.length → listed.getD j true = false → listed.getD j false = false := fun j hj hh => (getD_bool (by omega)).1 hh
      rcases (hli i hil).1 h0 with hmi | ⟨y, hy, hyi⟩
      · -- one that stands behind all is not ready
        exfalso
        have hx0 := hin x0 (by rw [← hrem]; exact List.mem_cons_self)
        have hx0l := lt_of_get? hx0.1
        have hb : ((befs all []).getD i 0).testBit x0.1 = true := by
          have := List.all_eq_true.1 hseq i (List.mem_range.2 hil)
          simp only [Bool.or_eq_true, decide_eq_true_eq] at this
          rcases this with h | h
          · omega
          · exact List.all_eq_true.1 h x0.1 (List.mem_range.2 hx0.2)
        have h1 := hbef i o ho hafter' x0.1 hb
        have h2 := hunl x0.1 hx0l ((hli x0.1 hx0l).2 (.inr ⟨x0, by rw [← hrem]; exact List.mem_cons_self, rfl⟩))
        rw [h2] at h1; cases h1
      obtain ⟨xs, ys, rfl⟩ := List.append_of_mem hy
      obtain ⟨yi, it⟩ := y
      dsimp only at hyi
      subst hyi
      have hoy : it.o = o := by
        have := (hin (yi, it) hy).1
        rw [ho] at this
        exact (Option.some.inj this).symm
      have hym := (hin (yi, it) hy).2
      have hpw' := List.pairwise_append.1 hpw
      have hindep : ∀ x ∈ xs.map (·.2), x.fp.indep it.fp = true := fun x hx => by
        obtain ⟨⟨j, x'⟩, hx', rfl⟩ := List.mem_map.1 hx
        have hord := hpw'.2.2 (j, x') hx' (yi, it) List.mem_cons_self
        rcases hord.2 with h1 | h1
        · exact h1
        · exfalso
          have hD := hbef yi o ho hafter' j h1
          have hjl := lt_of_get? (hin (j, x') (List.mem_append_left _ hx')).1
          have hjf := hunl j hjl ((hli j hjl).2 (.inr ⟨(j, x'), List.mem_append_left _ hx', rfl⟩))
          rw [hjf] at hD; cases hD
      have hrun' : Run P all (it :: (xs.map (·.2) ++ ys.map (·.2))) fr fr' := bubble hindep (by simpa using hrun)
      obtain ⟨x, ⟨hst, _⟩, hrest⟩ := hrun'
      rw [hoy] at hst
      have hpwr : (xs ++ ys).Pairwise (Ordered (befs all [])) := List.pairwise_append.2 ⟨hpw'.1, (List.pairwise_cons.1 hpw'.2.1).2, fun x hx y hy => hpw'.2.2 x hx y (List.mem_cons_of_mem _ hy)⟩
      have hmr : ∀ x ∈ xs ++ ys, x ∈ xs ++ (yi, it) :: ys := fun x hx => by
        rcases List.mem_append.1 hx with hx | hx
        · exact List.mem_append_left _ hx
        · exact List.mem_append_right _ (List.mem_cons_of_mem _ hx)
      have hnot : ∀ x ∈ xs ++ ys, x.1 ≠ yi := fun x hx => by
        rcases List.mem_append.1 hx with hx | hx
        · have := (hpw'.2.2 x hx (yi, it) List.mem_cons_self).1; dsimp only at this; omega
        · have := ((List.pairwise_cons.1 hpw'.2.1).1 x hx).1; dsimp only at this; omega
      have hyl : yi < listed.size := by omega
      have next : ∀ a' w', SimE N B a' w' x → AnyR P ro ops Q fuel (listed.setIfInBounds yi true) a' w' := fun a' w' h' => by
        refine ih (xs ++ ys) _ a' w' x fr' h' (by simpa using hrest) hpwr (fun x hx => hin x (hmr x hx)) (fun k hk => ?_) (by simpa using hsz) (fun k o' hk hkl e hein hb => ?_) (by simp at hf ⊢; omega) hp
        · by_cases hky : k = yi
          · subst hky
            constructor
            · intro hh; simp [hyl] at hh
            · rintro (h1 | ⟨x, hx, rfl⟩)
              · omega
              · exact (hnot x hx rfl).elim
          · rw [show (listed.setIfInBounds yi true).getD k true = listed.getD k true from getD_set_ne true (Ne.symm hky), hli k hk]
            refine or_congr Iff.rfl ⟨?_, ?_⟩
            · rintro ⟨x, hx, rfl⟩
              refine ⟨x, ?_, rfl⟩
              rcases List.mem_append.1 hx with hx | hx
              · exact List.mem_append_left _ hx
              · rcases List.mem_cons.1 hx with rfl | hx
                · exact (hky rfl).elim
                · exact List.mem_append_right _ hx
            · rintro ⟨x, hx, rfl⟩
              exact ⟨x, hmr x hx, rfl⟩
        · refine getD_set_true ?_
          by_cases hky : k = yi
          · subst hky
            rw [ho] at hk
            obtain rfl := Option.some.inj hk
            exact hafter' e hein hb
          · rw [show (listed.setIfInBounds yi true).getD k false = listed.getD k false from getD_set_ne false (Ne.symm hky)] at hkl
            exact hcl k o' hk hkl e hein hb
      exact PStep_sound h hall hN hout ho hst next
theorem drawS_sound {ro : Option Nat} (hmx : P.follows .mixedOrders = true) (ops : Array Oper) (hall : ops.toList = all) (hN : ∀ o ∈ all, ∀ d, o.dst = some d → d < N) (hout : ∀ a w, ¬ Q .outgrown a w) (id : Nat) (h : SimE N B a w fr) {m : Nat} (hm : m ≤ all.length) {C : PF → Prop} (hC : edgesOk all = true → splitOk all m = true → ∀ (fuel : Nat) (listed : Array Bool) (a : Act) (w : World) (fr : PF), all.length ≤ m + fuel → (∀ i, i < all.length → (listed.getD i true = false ↔ m ≤ i)) → listed.size = all.length → SimE N B a w fr → C fr → AnyR P ro ops Q fuel listed a w) (hp : pdrawS P all m C (all.take m) [] fr) :
    wr P ro (.region id ops true) Q a w := by
  obtain ⟨its, fr', h1, h2, h3, h4⟩ := pdrawS_run _ _ _ hp
  simp only [List.nil_append, drawOkS, Bool.and_eq_true] at h3
  obtain ⟨⟨he, hpairs⟩, hseq⟩ := h3
  have hl : its.length = m := by
    have : (its.map (·.o)).length = (all.take m).length := by rw [h1]
    rw [List.length_map, List.length_take] at this
    omega
  have hz : ((its.zipIdx 0).map fun z => (z.2, z.1)).map (·.2) = its := by
    rw [List.map_map]
    have : ((fun x : Nat × It => x.2) ∘ fun z : It × Nat => (z.2, z.1)) = Prod.fst := rfl
    rw [this]; simp
  have hmem : ∀ x ∈ (its.zipIdx 0).map (fun z => (z.2, z.1)), its[x.1]? = some x.2 := fun x hx => by
    obtain ⟨⟨it, i⟩, hz, rfl⟩ := List.mem_map.1 hx
    rw [List.mem_zipIdx_iff_getElem?] at hz
    exact hz
  refine wr_region_any hmx (any_soundS ops hall hN he hm hseq hout (hC he hseq) ops.size ((its.zipIdx 0).map fun z => (z.2, z.1)) _ a _ fr fr' h.drew (by rw [hz]; exact h2) (pairsOk_ordered _ its 0 [] rfl hpairs).2 (fun x hx => ?_) (fun i hi => ?_) (by rw [← hall]; simp) (fun k o hk hkl => ?_) ?_ h4)
  · have hx' := hmem x hx
    have hxm := lt_of_get? hx'
    refine ⟨?_, by omega⟩
    have : (its.map (·.o))[x.1]? = some x.2.o := by rw [List.getElem?_map, hx']; rfl
    rw [h1, List.getElem?_take, if_pos (by omega)] at this
    exact this
  · have hs : i < ops.size := by rw [← hall] at hi; simpa using hi
    constructor
    · intro _
      by_cases him : m ≤ i
      · exact .inl him
      · have hit : its[i]? = some (its[i]'(by omega)) := List.getElem?_eq_getElem (by omega)
        exact .inr ⟨(i, its[i]'(by omega)), List.mem_map.2 ⟨(its[i]'(by omega), i), by rw [List.mem_zipIdx_iff_getElem?]; exact hit, rfl⟩, rfl⟩
    · intro _; simp [hs]
  · simp only [Array.getD_eq_getD_getElem?, Array.getElem?_replicate] at hkl
    split at hkl <;> simp at hkl
  · have : all.length = ops.size := by rw [← hall]; simp
    simp only [List.length_map, List.length_zipIdx, hl]; omega
end
def panyS (P : Program) (M : Nat) (ops : Array Oper) (K : PF → Prop) (Kp : PV → PF → Prop) : Nat → Array Bool → PF → Prop
  | 0, _, fr => K fr
  | n + 1, listed, fr => (Region.ready .any ops listed = [] → K fr) ∧ ∀ i ∈ Region.ready .any ops listed, ∃ o, ops.toList[i]? = some o ∧ pops P M ops.toList (panyS P M ops K Kp n (listed.setIfInBounds i true)) Kp [o] fr
theorem panyS_sound {P : Program} {N : Nat} {B : Base} {Q : Exit → Act → World → Prop} {ro : Option Nat} (ops : Array Oper) (hN : ∀ o ∈ ops.toList, ∀ d, o.dst = some d → d < N) {M : Nat} (hM : B.lo = M) {K : PF → Prop} {Kp : PV → PF → Prop} (hpan : PanUp N B Q Kp) (hout : ∀ a w, ¬ Q .outgrown a w)
    (hQ : ∀ a w fr, SimE N B a w fr → K fr → Q .normal a w) : ∀ (fuel : Nat) (listed : Array Bool) (a : Act) (w : World) (fr : PF), SimE N B a w fr → panyS P M ops K Kp fuel listed fr → AnyR P ro ops Q fuel listed a w
  | 0, listed, a, w, fr, h, hp => AnyR_zero (hQ a w fr h hp)
  | fuel + 1, listed, a, w, fr, h, hp => AnyR_succ (fun hr => hQ a w fr h (hp.1 hr)) fun i hi => by
    obtain ⟨o, ho, hp⟩ := hp.2 i hi
    exact op_sound h rfl hN hM hpan hout ho hp fun a' w' fr' h1 h2 => panyS_sound ops hN hM hpan hout hQ fuel _ a' w' fr' h1 h2
theorem panyS_step {P : Program} {M : Nat} {ops : Array Oper} {K : PF → Prop} {Kp : PV → PF → Prop} {n : Nat} {listed : Array Bool} {fr : PF} (rs : List Nat) (hr : Region.ready .any ops listed = rs) (hne : rs ≠ [])
    (h : ∀ i ∈ rs, ∃ o, ops.toList[i]? = some o ∧ pops P M ops.toList (panyS P M ops K Kp n (listed.setIfInBounds i true)) Kp [o] fr) : panyS P M ops K Kp (n + 1) listed fr :=
  ⟨fun e => (hne (hr.symm.trans e)).elim, by rw [hr]; exact h⟩
theorem panyS_one {P : Program} {M : Nat} {ops : Array Oper} {K : PF → Prop} {Kp : PV → PF → Prop} {n : Nat} {listed : Array Bool} {fr : PF} (a : Nat) (hr : Region.ready .any ops listed = [a])
    (ha : ∃ o, ops.toList[a]? = some o ∧ pops P M ops.toList (panyS P M ops K Kp n (listed.setIfInBounds a true)) Kp [o] fr) : panyS P M ops K Kp (n + 1) listed fr :=
  panyS_step [a] hr (by simp) fun i hi => by
    obtain rfl := List.mem_singleton.1 hi
    exact ha
theorem panyS_two {P : Program} {M : Nat} {ops : Array Oper} {K : PF → Prop} {Kp : PV → PF → Prop} {n : Nat} {listed : Array Bool} {fr : PF} (a b : Nat) (hr : Region.ready .any ops listed = [a, b])
    (ha : ∃ o, ops.toList[a]? = some o ∧ pops P M ops.toList (panyS P M ops K Kp n (listed.setIfInBounds a true)) Kp [o] fr)
    (hb : ∃ o, ops.toList[b]? = some o ∧ pops P M ops.toList (panyS P M ops K Kp n (listed.setIfInBounds b true)) Kp [o] fr) : panyS P M ops K Kp (n + 1) listed fr :=
  panyS_step [a, b] hr (by simp) fun i hi => by
    simp only [List.mem_cons, List.not_mem_nil, or_false] at hi
    rcases hi with rfl | rfl
    · exact ha
    · exact hb
@[simp] theorem panyS_zero (P : Program) (M : Nat) (ops : Array Oper) (K : PF → Prop) (Kp : PV → PF → Prop) (listed : Array Bool) (fr : PF) : panyS P M ops K Kp 0 listed fr = K fr := rfl
theorem panyS_end {P : Program} {M : Nat} {ops : Array Oper} {K : PF → Prop} {Kp : PV → PF → Prop} {listed : Array Bool} {fr : PF} (hr : Region.ready .any ops listed = []) (h : K fr) : ∀ n, panyS P M ops K Kp n listed fr
  | 0 => h
  | n + 1 => ⟨fun _ => h, fun i hi => by rw [hr] at hi; cases hi⟩
attribute [irreducible] panyS
def listedTo (m n : Nat) : Array Bool := (List.replicate m true ++ List.replicate (n - m) false).toArray
theorem XW_drawS {ι : Type} {P : Program} {N M : Nat} {𝒞 : ι → Base → Prop} {i : ι} {Q : ι → PX → PF → Prop} {fr : PF} (hmx : P.follows .mixedOrders = true) (hlo : ∀ i B, 𝒞 i B → B.lo = M) {id : Nat} {ops : Array Oper} (hd : dstsIn N (.region id ops true) = true) (m : Nat) (hm : m ≤ ops.toList.length)
    (hp : pdrawS P ops.toList m (fun fr => ∀ fuel, ops.toList.length ≤ m + fuel → panyS P M ops (Q i .normal) (fun p => Q i (.panic p)) fuel (listedTo m ops.toList.length) fr) (ops.toList.take m) [] fr) : XW P N 𝒞 i (.region id ops true) Q fr := fun B a w hC hs =>
  wr_mono (drawS_sound (Q := Up N B (Q i)) hmx ops rfl (dsts_mem hd) up_out id hs hm (fun _ _ fuel listed a w fr hf hli hsz hs hc => by
    have hm' : m ≤ ops.size := by simpa using hm
    have hsz' : listed.size = ops.size := by simpa using hsz
    have e : listed = listedTo m ops.toList.length := by
      refine Array.ext (by simp [listedTo, hsz']; omega) fun k h1 h2 => ?_
      have h3 := hli k (by rw [← hsz]; exact h1)
      simp only [Array.getD_eq_getD_getElem?, Array.getElem?_eq_getElem h1, Option.getD_some] at h3
      by_cases hk : k < m
      · have : listed[k] = true := by
          cases hb : listed[k] with
          | true => rfl
          | false => have := h3.1 hb; omega
        rw [this]; simp [listedTo, List.getElem_append, hk]
      · rw [h3.2 (by omega)]; simp [listedTo, List.getElem_append, hk]
    subst e
    exact panyS_sound ops (dsts_mem hd) (hlo i B hC) pan_up up_out (fun a w fr ⟨R, Γ, hs⟩ hk => ⟨R, Γ, fr, .normal, hs, trivial, hk⟩) fuel _ a w fr hs (hc fuel hf)) hp) fun _ _ _ hu => ⟨i, B, hC, hu⟩
section
variable {P : Program} {m : Nat} {p : PV} {fr : PF} {all : List Oper} {C : PF → Prop}
@[simp] theorem pdrawS_nil_ (fps : List Fp) : pdrawS P all m C [] fps (p :: fr) = (drawOkS all m fps = true ∧ C (p :: fr)) := (rfl)
@[simp] theorem pdrawS_cons_ (o : Oper) (rest : List Oper) (fps : List Fp) : pdrawS P all m C (o :: rest) fps (p :: fr) = match pwanted all o (p :: fr) with
    | some b => if b = true then match isCall o with
        | some c => pdCall P o c (p :: fr) fun news fr' => pdrawS P all m C rest (fps ++ [fpOf all o news (p :: fr)]) fr'
        | none => isPanic o = none ∧ dstOk o (p :: fr) = true ∧ match pstep P o (p :: fr) with
          | some fr' => pdrawS P all m C rest (fps ++ [fpOf all o [] (p :: fr)]) fr'
          | none => False
      else noObj o.dst (p :: fr) = true ∧ pdrawS P all m C rest (fps ++ [fpOf all o [] (p :: fr)]) (put o.dst (.tup []) (p :: fr))
    | none => False := (rfl)
end
attribute [irreducible] pdrawS
end Go.Qg

