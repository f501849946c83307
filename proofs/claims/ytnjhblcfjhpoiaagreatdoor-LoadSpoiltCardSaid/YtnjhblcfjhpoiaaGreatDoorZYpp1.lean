/-
  Lemmas and contracts that hold of the whole program: 15 texts in one.
  No condition.
-/
import Derived.Test.YtnjhblcfjhpoiaaGreatDoorZ7
import Derived.ProofKit
import Derived.OpenShut
import Derived.ChangeOld
import Derived.ChangeBears
import Derived.Deep.Slices
import Derived.Below
import Derived.KernelRfl
import Derived.Test.YtnjhblcfjhpoiaaGreatDoorRows
import Derived.Test.YtnjhblcfjhpoiaaGreatDoorCards
import Derived.Test.YtnjhblcfjhpoiaaGreatDoorTie
import Derived.Stop.LaidErr
import Derived.Lib.LaidTab
import Derived.LaidLaws
import Derived.Shelf.Vars
import Derived.Lib.Split
import Derived.Lib.Join
import Derived.Lib.AtoiAll
import Derived.Lib.ItoaMem
import Derived.Shelf.LaysM
import Derived.Shelf.LaysC
import Derived.Shelf.Strconv.AtoiAll
import Derived.Shelf.Strings.Cut
import Derived.Shelf.Strings.Prefix
import Derived.Shelf.Strings.Split
import Derived.Test.YtnjhblcfjhpoiaaGreatDoorProg
import Derived.Lib.SplitLaws
set_option linter.all false

namespace Go.Qg
open Go.ChangeShapes Go.WideShapes Go.ChangeAt Go.RowKit
def TypF (R : TypeId → List PV → Prop) : List TypeId → List PV → Prop
  | [], ps => ps = []
  | t :: ts, ps => ∃ p q, ps = p ++ q ∧ R t p ∧ TypF R ts q
def tdef (P : Program) : Nat → TypeId → List PV
  | 0, _ => []
  | n + 1, t => match P.underlying t with
    | some .bool => [.v (.bool false)]
    | some (.int k) => [.v (.int k 0)]
    | some .string => [.v (.string ByteArray.empty)]
    | some (.slice e) => [.sl (P.cellsOf e) 0 fun _ => tdef P n e]
    | some (.struct fs) => (fs.toList.map fun f => tdef P n f.type).flatten
    | some (.array m e) => (List.replicate m (tdef P n e)).flatten
    | _ => []
def Typ (P : Program) : Nat → TypeId → List PV → Prop
  | 0, _, _ => False
  | n + 1, t, ps => match P.underlying t with
    | some .bool => ∃ b, ps = [.v (.bool b)]
    | some (.int k) => ∃ x, ps = [.v (.int k x)] ∧ k.min ≤ x ∧ x ≤ k.max
    | some .string => ∃ s : ByteArray, ps = [.v (.string s)] ∧ s.size ≤ maxLen
    | some (.slice e) => ∃ (m : Nat) (f : Nat → List PV), ps = [.sl (P.cellsOf e) m f] ∧ m ≤ maxLen ∧ (∀ i, i < m → Typ P n e (f i)) ∧ ∀ i, m ≤ i → f i = tdef P n e
    | some (.struct fs) => TypF (Typ P n) (fs.toList.map (·.type)) ps
    | some (.array m e) => TypF (Typ P n) (List.replicate m e) ps
    | _ => False
def sup (P : Program) : Nat → TypeId → Bool
  | 0, _ => false
  | n + 1, t => match P.underlying t with
    | some .bool | some (.int _) | some .string => true
    | some (.slice e) | some (.array _ e) => sup P n e
    | some (.struct fs) => fs.toList.all fun f => sup P n f.type
    | _ => false
structure RowRep (w : World) (R : Nat → Nat → Prop) (Γ : Nat → Option Loc) (cs : List Value) (ps : List PV) : Prop where
  len : cs.length = ps.length
  each : ∀ (i : Nat) (u : Value) (p : PV), cs[i]? = some u → ps[i]? = some p → Rep w R Γ u p
  one : ∀ p ∈ ps, p.one = true ∧ p.names = []
section
variable {w : World} {R : Nat → Nat → Prop} {Γ : Nat → Option Loc}
theorem RowRep.single {u : Value} {p : PV} (h : Rep w R Γ u p) (h1 : p.one = true) (h2 : p.names = []) : RowRep w R Γ [u] [p] := by
  refine ⟨rfl, fun i v q hv hq => ?_, fun q hq => ?_⟩
  · match i, hv, hq with
    | 0, hv, hq =>
      obtain rfl := Option.some.inj hv
      obtain rfl := Option.some.inj hq
      exact h
  · obtain rfl := List.mem_singleton.1 hq
    exact ⟨h1, h2⟩
theorem RowRep.nil : RowRep w R Γ [] [] := ⟨rfl, fun i u p h => by simp at h, fun p h => by cases h⟩
theorem RowRep.append {cs cs' : List Value} {ps ps' : List PV} (h : RowRep w R Γ cs ps) (k : RowRep w R Γ cs' ps') : RowRep w R Γ (cs ++ cs') (ps ++ ps') := by
  refine ⟨by simp [h.len, k.len], fun i u p hu hp => ?_, fun p hp => ?_⟩
  · have hl := h.len
    by_cases hi : i < cs.length
    · rw [List.getElem?_append_left hi] at hu
      rw [List.getElem?_append_left (by omega)] at hp
      exact h.each i u p hu hp
    · rw [List.getElem?_append_right (by omega)] at hu hp
      rw [← hl] at hp
      exact k.each _ u p hu hp
  · rcases List.mem_append.1 hp with hp | hp
    · exact h.one p hp
    · exact k.one p hp
end
section
variable {H : Type} {enc : TypeId × Value → H} {P : Program} {w : World} {spare : Nat → Bool} {held : Bool} {Γ : Nat → Option Loc}
def there (w : World) (b o : Nat) : Prop := ∃ v, w.cell? ⟨b, o, none⟩ = some v
theorem cells_get {base : Nat} {a : Addr} {n : Nat} {cs : List Value} (h : w.cells? base a n = some cs) : cs.length = n ∧ ∀ i, i < n → w.cell? (a.add i) = cs[i]? := by
  unfold World.cells? at h
  split at h
  · refine ⟨by simpa using mapM_some_length h, fun i hi => ?_⟩
    have := mapM_some_get h i i (by simp [hi])
    exact this
  · cases h
theorem fields_row {n : Nat} {cs : List Value} (ih : ∀ (t : TypeId) (cs : List Value), t < P.types.size → sup P n t = true → (∃ fuel x, DataW.trod enc P w 0 spare held fuel t cs = some x) → ∃ ps, Typ P n t ps ∧ RowRep w (there w) Γ cs ps) :
    ∀ (fs : List Field) (o : Nat), (∀ f ∈ fs, f.type < P.types.size ∧ sup P n f.type = true) → (∀ (j : Nat) f, fs[j]? = some f → f.offset = o + ((fs.take j).map fun f => P.cellsOf f.type).sum) →
      (∀ f ∈ fs, ∃ fuel x, DataW.trod enc P w 0 spare held fuel f.type ((cs.drop f.offset).take (P.cellsOf f.type)) = some x) → cs.length = o + (fs.map fun f => P.cellsOf f.type).sum →
      ∃ ps, TypF (Typ P n) (fs.map (·.type)) ps ∧ RowRep w (there w) Γ (cs.drop o) ps
  | [], o, _, _, _, hl => by
    refine ⟨[], rfl, ?_⟩
    rw [List.drop_of_length_le (by simp at hl; omega)]
    exact .nil
  | f :: fs, o, h1, h2, h3, hl => by
    have ho : f.offset = o := by simpa using h2 0 f rfl
    obtain ⟨hf1, hf2⟩ := h1 f List.mem_cons_self
    have h4 := h3 f List.mem_cons_self
    rw [ho] at h4
    obtain ⟨p, hp1, hp2⟩ := ih f.type _ hf1 hf2 h4
    obtain ⟨q, hq1, hq2⟩ := fields_row ih fs (o + P.cellsOf f.type) (fun g hg => h1 g (List.mem_cons_of_mem _ hg)) (fun j g hg => by
      have := h2 (j + 1) g (by simpa using hg)
      simp only [List.take_succ_cons, List.map_cons, List.sum_cons] at this
      omega) (fun g hg => h3 g (List.mem_cons_of_mem _ hg)) (by simp only [List.map_cons, List.sum_cons] at hl; omega)
    refine ⟨p ++ q, ⟨p, q, rfl, hp1, hq1⟩, ?_⟩
    have e : cs.drop o = (cs.drop o).take (P.cellsOf f.type) ++ cs.drop (o + P.cellsOf f.type) := by
      rw [← List.drop_drop, List.take_append_drop]
    rw [e]
    exact hp2.append hq2
theorem parts_row {n : Nat} {e : TypeId} {cs : List Value} (ih : ∀ (t : TypeId) (cs : List Value), t < P.types.size → sup P n t = true → (∃ fuel x, DataW.trod enc P w 0 spare held fuel t cs = some x) → ∃ ps, Typ P n t ps ∧ RowRep w (there w) Γ cs ps)
    (he : e < P.types.size) (hs : sup P n e = true) : ∀ (m o : Nat), (∀ i, o ≤ i → i < o + m → ∃ fuel x, DataW.trod enc P w 0 spare held fuel e ((cs.drop (i * P.cellsOf e)).take (P.cellsOf e)) = some x) → cs.length = (o + m) * P.cellsOf e →
      ∃ ps, TypF (Typ P n) (List.replicate m e) ps ∧ RowRep w (there w) Γ (cs.drop (o * P.cellsOf e)) ps
  | 0, o, _, hl => by
    refine ⟨[], rfl, ?_⟩
    rw [List.drop_of_length_le (by simp at hl; omega)]
    exact .nil
  | m + 1, o, h, hl => by
    obtain ⟨p, hp1, hp2⟩ := ih e _ he hs (h o (Nat.le_refl _) (by omega))
    obtain ⟨q, hq1, hq2⟩ := parts_row ih he hs m (o + 1) (fun i h1 h2 => h i (by omega) (by omega)) (by rw [hl]; congr 1; omega)
    refine ⟨p ++ q, by rw [List.replicate_succ]; exact ⟨p, q, rfl, hp1, hq1⟩, ?_⟩
    have e : cs.drop (o * P.cellsOf e) = (cs.drop (o * P.cellsOf e)).take (P.cellsOf e) ++ cs.drop ((o + 1) * P.cellsOf e) := by
      rw [Nat.add_mul, Nat.one_mul, ← List.drop_drop, List.take_append_drop]
    rw [e]
    exact hp2.append hq2
theorem trod_arr {fuel : Nat} {t e : TypeId} {m : Nat} {cs : List Value} {x : DataW H × List MemPlace} (ht : P.underlying t = some (.array m e)) (h : DataW.trod enc P w 0 spare held fuel t cs = some x) :
    cs.length = P.cellsOf t ∧ ∀ i, i < m → ∃ fuel x, DataW.trod enc P w 0 spare held fuel e ((cs.drop (i * P.cellsOf e)).take (P.cellsOf e)) = some x := by
  cases fuel with
  | zero => simp [DataW.trod] at h
  | succ n =>
    unfold DataW.trod at h
    rw [ht] at h
    split at h <;> simp_all
    obtain ⟨hl, xs, hp, hd⟩ := h
    intro i hi
    have h1 := mapM_some_get hp i i (by simp [hi])
    have h2 := mapM_some_length hp
    simp only [List.length_range] at h2
    refine ⟨n, (xs[i]'(by omega)).1, (xs[i]'(by omega)).2, ?_⟩
    rw [h1, List.getElem?_eq_getElem (by omega)]
theorem read_row (hl : laidOutB P = true) : ∀ (n : Nat) (t : TypeId) (cs : List Value), t < P.types.size → sup P n t = true → (∃ fuel x, DataW.trod enc P w 0 spare held fuel t cs = some x) → ∃ ps, Typ P n t ps ∧ RowRep w (there w) Γ cs ps
  | 0, _, _, _, h, _ => by cases h
  | n + 1, t, cs, ht, hs, ⟨fuel, x, h⟩ => by
    have ih := read_row hl n
    simp only [sup] at hs
    simp only [Typ]
    split at hs
    · rename_i hu
      obtain ⟨b, rfl, _⟩ := DataW.trod_bool hu h
      rw [hu]
      exact ⟨_, ⟨b, rfl⟩, .single (.v _ rfl) rfl rfl⟩
    · rename_i k hu
      obtain ⟨m, rfl, _, hw⟩ := DataW.trod_int hu h
      rw [hu]
      simp only [Lit.wf, Bool.and_eq_true, decide_eq_true_eq] at hw
      exact ⟨_, ⟨m, rfl, hw⟩, .single (.v _ rfl) rfl rfl⟩
    · rename_i hu
      obtain ⟨s, rfl, _, hw⟩ := DataW.trod_string hu h
      rw [hu]
      exact ⟨_, ⟨s, rfl, hw⟩, .single (.v _ rfl) rfl rfl⟩
    · rename_i e hu
      have he := kid_slice hl ht hu
      rw [hu]
      rcases Deep.open_slice hu h with ⟨rfl, _⟩ | ⟨a, len, cap, m, k, D, Pl, rfl, _, h1, h2, h3, _, h4⟩
      · refine ⟨_, ⟨0, fun _ => tdef P n e, rfl, Nat.zero_le _, fun i hi => by omega, fun _ _ => rfl⟩, .single (.sl none 0 0 _ _ (fun _ _ => undef) (Nat.le_refl _) (Nat.zero_le _) ?_ ?_ ?_ ?_) rfl rfl⟩
        · intro i hi; omega
        · intro i j p hi; omega
        · intro i j hi; omega
        · intro i j p hi; omega
      · have hlm : len ≤ m := by rw [h3]; split <;> omega
        have key : ∀ i, i < len → ∃ q : List Value × List PV, w.cells? 0 (a.add (i * P.cellsOf e)) (P.cellsOf e) = some q.1 ∧ Typ P n e q.2 ∧ RowRep w (there w) Γ q.1 q.2 := fun i hi => by
          obtain ⟨cs', g1, g2⟩ := h4 i (by omega)
          obtain ⟨ps, g3, g4⟩ := ih e cs' he hs ⟨k, _, g2⟩
          exact ⟨(cs', ps), g1, g3, g4⟩
        obtain ⟨q, hq⟩ := Deep.choose_lt key
        have hsz : ∀ i, i < len → (q i).1.length = P.cellsOf e ∧ (q i).2.length = P.cellsOf e := fun i hi => by
          have g1 := (cells_get (hq i hi).1).1
          have g2 := (hq i hi).2.2.len
          exact ⟨g1, by omega⟩
        have hspot : 0 < len → 0 < P.cellsOf e → a.spot = none := fun g1 g2 => by
          have g3 := (cells_get (hq 0 g1).1).2 0 g2
          have g4 : (q 0).1[0]? = some ((q 0).1[0]'(by rw [(hsz 0 g1).1]; exact g2)) := List.getElem?_eq_getElem _
          rw [g4] at g3
          have := World.cell?_spot g3
          simpa [Addr.add] using this
        have hcell : ∀ i j, i < len → j < P.cellsOf e → w.cell? ⟨a.block, a.off + (i * P.cellsOf e + j), none⟩ = some ((q i).1.getD j undef) := fun i j hi hj => by
          have g1 := (cells_get (hq i hi).1).2 j hj
          have g2 := hspot (by omega) (by omega)
          have e1 : (a.add (i * P.cellsOf e)).add j = ⟨a.block, a.off + (i * P.cellsOf e + j), none⟩ := by
            rw [Deep.add_add]
            obtain ⟨b, o, s⟩ := a
            simp only at g2
            subst g2
            unfold Addr.add
            split
            · rename_i h0; rw [h0]; rfl
            · rfl
          rw [e1] at g1
          rw [g1]
          have g3 := (hsz i hi).1
          rw [List.getD_eq_getElem?_getD, List.getElem?_eq_getElem (by omega)]; rfl
        have hf : ∀ i, i < len → (if i < len then (q i).2 else tdef P n e) = (q i).2 := fun i hi => if_pos hi
        refine ⟨_, ⟨len, fun i => if i < len then (q i).2 else tdef P n e, rfl, by omega, fun i hi => by simp only [hf i hi]; exact (hq i hi).2.1, fun i hi => if_neg (by omega)⟩, .single (.sl (some a) len cap _ _ (fun i j => (q i).1.getD j undef) h1 h2 (fun i hi => by simp only [hf i hi]; exact (hsz i hi).2) (fun i j p hi hp => by simp only [hf i hi] at hp; exact (hq i hi).2.2.one p (List.mem_of_getElem? hp)) (fun i j hi hj => ?_) fun i j p hi hp => ?_) rfl rfl⟩
        · refine ⟨a.block, a.off, ?_, ⟨_, hcell i j hi hj⟩, hcell i j hi hj⟩
          have := hspot (by omega) (by omega)
          obtain ⟨b, o, s⟩ := a
          simp only at this
          rw [this]
        · simp only [hf i hi] at hp
          have g1 := lt_of_get? hp
          have g2 := (hsz i hi)
          have g3 : (q i).1[j]? = some ((q i).1.getD j undef) := by
            rw [List.getD_eq_getElem?_getD, List.getElem?_eq_getElem (by omega)]; rfl
          exact (hq i hi).2.2.each j _ p g3 hp
    · rename_i m e hu
      obtain ⟨he, hc⟩ := kid_array hl ht hu
      rw [hu]
      obtain ⟨h1, h2⟩ := trod_arr hu h
      have := parts_row ih he hs m 0 (fun i _ hi => h2 i (by omega)) (by rw [h1, hc]; congr 1; omega)
      simpa using this
    · rename_i fs hu
      obtain ⟨k1, k2, k3⟩ := kid_struct hl ht hu
      rw [hu]
      obtain ⟨xs, k, rfl, _, h1, h2, h3⟩ := DataW.trod_struct hu h
      have := fields_row (cs := cs) ih fs.toList 0 (fun f hf => ⟨k1 f hf, List.all_eq_true.1 hs f hf⟩) (fun j f hf => by rw [k3 j f hf]; omega) (fun f hf => by
        obtain ⟨i, hi⟩ := List.mem_iff_getElem?.1 hf
        have hi' : fs[i]? = some f := by simpa using hi
        have := h3 i f hi'
        have hlt := (List.getElem?_eq_some_iff.1 hi).1
        refine ⟨k, xs[i]'(by rw [h2]; simpa using hlt), ?_⟩
        rw [this]; simp) (by rw [h1, k2]; omega)
      simpa using this
    · cases hs
def ArgP (P : Program) (n : Nat) (t : TypeId) (p : PV) : Prop := match P.underlying t with
  | some (.struct _) | some (.array _ _) => ∃ ps, p = .agg ps ∧ Typ P n t ps
  | _ => Typ P n t [p]
theorem read_arg (hl : laidOutB P = true) {n : Nat} {t : TypeId} {v : Value} {d : DataW H} {pl : List MemPlace} {base : Nat} (ht : t < P.types.size) (hs : sup P n t = true) (hok : Value.okWide P w .any base t v) (h : DataW.Trod enc P w 0 spare held t v d pl) :
    ∃ p, ArgP P n t p ∧ Rep w (there w) Γ v p := by
  obtain ⟨fuel, h⟩ := h
  obtain ⟨ps, h1, h2⟩ := read_row (Γ := Γ) hl n t _ ht hs ⟨fuel, _, h⟩
  unfold ArgP
  unfold Value.okWide at hok
  have agg : (∃ cs, v = .agg cs ∧ cs.size = P.cellsOf t ∧ Row.okWide P w .any base t cs) → ∃ p, (∃ ps, p = .agg ps ∧ Typ P n t ps) ∧ Rep w (there w) Γ v p := by
    rintro ⟨cs, rfl, _, _⟩
    refine ⟨.agg ps, ⟨ps, rfl, h1⟩, ?_⟩
    have := Rep.agg (w := w) (R := there w) (Γ := Γ) cs.toList ps h2.len (fun p hp => (h2.one p hp).1) fun i u p hu hp => h2.each i u p hu hp
    simpa using this
  split
  · rename_i hu
    rw [hu] at hok
    exact agg hok
  · rename_i hu
    rw [hu] at hok
    exact agg hok
  · rename_i hn1 hn2
    have one : v.cells.toList = [v] := by
      cases n with
      | zero => cases hs
      | succ n =>
        simp only [sup] at hs
        split at hs
        · rename_i hu
          obtain ⟨b, hc, _⟩ := DataW.trod_bool hu h
          cases v <;> simp_all [Value.cells, Cell.okWide, Cell.ok]
        · rename_i k hu
          obtain ⟨b, hc, _⟩ := DataW.trod_int hu h
          cases v <;> simp_all [Value.cells, Cell.okWide, Cell.ok]
        · rename_i hu
          obtain ⟨b, hc, _⟩ := DataW.trod_string hu h
          cases v <;> simp_all [Value.cells, Cell.okWide, Cell.ok]
        · rename_i e hu
          cases v <;> simp_all [Value.cells, Cell.okWide, Cell.ok]
        · rename_i m e hu
          exact absurd hu (hn2 m e)
        · rename_i fs hu
          exact absurd hu (hn1 fs)
        · cases hs
    rw [one] at h2
    obtain ⟨p, rfl⟩ : ∃ p, ps = [p] := by
      have := h2.len
      match ps, this with
      | [p], _ => exact ⟨p, rfl⟩
    exact ⟨p, h1, h2.each 0 v p rfl rfl⟩
theorem read_args (hl : laidOutB P = true) {n : Nat} {base : Nat} : ∀ {ts : List TypeId} {vs : List Value} {ds : List (DataW H)} {pl : List MemPlace}, (∀ t ∈ ts, t < P.types.size ∧ sup P n t = true) →
    (∀ (j : Nat) t v, ts[j]? = some t → vs[j]? = some v → Value.okWide P w .any base t v) → DataW.TrodAll enc P w 0 spare held ts vs ds pl →
    ∃ args : List PV, vs.length = args.length ∧ ts.length = args.length ∧ (∀ (j : Nat) t p, ts[j]? = some t → args[j]? = some p → ArgP P n t p) ∧ ∀ (i : Nat) (u : Value) (p : PV), vs[i]? = some u → args[i]? = some p → Rep w (there w) Γ u p
  | [], vs, ds, pl, _, _, h => by
    obtain ⟨rfl, rfl, rfl⟩ := trodAll_nil h
    exact ⟨[], rfl, rfl, fun j t p hj => by simp at hj, fun i u p hu => by simp at hu⟩
  | t :: ts, vs, ds, pl, h1, h2, h => by
    obtain ⟨v, vs, d, ds, p, q, rfl, rfl, rfl, g1, g2⟩ := trodAll_cons h
    obtain ⟨args, k1, k2, k3, k4⟩ := read_args hl (fun t ht => h1 t (List.mem_cons_of_mem _ ht)) (fun j t v ht hv => h2 (j + 1) t v (by simpa using ht) (by simpa using hv)) g2
    obtain ⟨ht, hs⟩ := h1 t List.mem_cons_self
    obtain ⟨a, k5, k6⟩ := read_arg (Γ := Γ) hl ht hs (h2 0 t v rfl rfl) g1
    refine ⟨a :: args, by simp [k1], by simp [k2], fun j t p ht hp => ?_, fun i u p hu hp => ?_⟩
    · cases j with
      | zero =>
        obtain rfl := Option.some.inj ht
        obtain rfl := Option.some.inj hp
        exact k5
      | succ j => exact k3 j t p (by simpa using ht) (by simpa using hp)
    · cases i with
      | zero =>
        obtain rfl := Option.some.inj hu
        obtain rfl := Option.some.inj hp
        exact k6
      | succ i => exact k4 i u p (by simpa using hu) (by simpa using hp)
theorem again_args (hl : laidOutB P = true) {w' : World} (hb : Below w.heap.size w w') : ∀ {ts : List TypeId} {vs : List Value} {ds : List (DataW H)} {pl : List MemPlace}, (∀ t ∈ ts, t < P.types.size ∧ P.readableRec t = true) → (∀ x ∈ pl, x.block < w.heap.size) →
    DataW.TrodAll enc P w 0 (fun _ => true) true ts vs ds pl → DataW.TrodAll enc P w' 0 (fun b => decide (b < w.heap.size)) true ts vs ds pl
  | [], vs, ds, pl, _, _, h => by
    obtain ⟨rfl, rfl, rfl⟩ := trodAll_nil h
    exact trodAll_mk0
  | t :: ts, vs, ds, pl, h1, h2, h => by
    obtain ⟨v, vs, d, ds, p, q, rfl, rfl, rfl, g1, g2⟩ := trodAll_cons h
    obtain ⟨ht, hr⟩ := h1 t List.mem_cons_self
    exact trodAll_cons_mk (Go.RowKit.Below.trod hl hr ht g1 hb fun x hx => h2 x (List.mem_append_left _ hx)) (again_args hl hb (fun t ht => h1 t (List.mem_cons_of_mem _ ht)) (fun x hx => h2 x (List.mem_append_right _ hx)) g2)
theorem law_calls {f : FuncId} {args : List PV} {vs : Array Value} (hT : tabOk (· < w.heap.size) w) (h : Spec P f args (.v (.bool true))) (hl : vs.toList.length = args.length) (hv : ∀ (i : Nat) (u : Value) (p : PV), vs.toList[i]? = some u → args[i]? = some p → Rep w (there w) (fun _ => none) u p) :
    Calls P f vs w fun e w' => e = .returned (.bool true) ∧ Below w.heap.size w w' := by
  have hb : ∀ b o, there w b o → b < w.heap.size := fun b o ⟨v, hv⟩ => by
    unfold World.cell? at hv
    split at hv
    · rename_i hh
      exact (Array.getElem?_eq_some_iff.1 hh).1
    · cases hv
  have hsim : Sim 0 ⟨(· < w.heap.size), w, there w, fun _ => none, 0, []⟩ (there w) (fun _ => none) noAct w [] :=
    ⟨rfl, Nat.le_refl _, fun t p h => by simp at h, fun i j l m b h => (by cases h), fun i l h => (by cases h), hb, fun b o h => .inl h, Kept.refl _ _, ⟨fun b h => h, hT⟩, Nat.le_refl _, fun j l _ h => (by cases h), rfl⟩
  have h1 := h.2 w vs.toList (there w) (fun _ => none) (· < w.heap.size) hb hsim hl hv
  refine (show Calls P f vs w _ from by simpa using h1).mono ?_
  rintro e w' ⟨R', Γ', ⟨v, r, H, rfl, hq, hr, hs, _⟩ | ⟨v, p, H, _, hq, _⟩⟩
  · injection hq with hq1 hq2
    subst hq1
    refine ⟨?_, hs.kept.below⟩
    cases hr
    rfl
  · cases hq
theorem sl_list {α : Type} [Inhabited α] (cells : α → List PV) (Q : α → Prop) {m : Nat} {f : Nat → List PV} (h : ∀ i, i < m → ∃ a, f i = cells a ∧ Q a) (hd : ∀ i, m ≤ i → f i = cells default) : ∃ l : List α, l.length = m ∧ (f = fun i => cells (l.getD i default)) ∧ ∀ a ∈ l, Q a := by
  obtain ⟨g, hg⟩ := Deep.choose_lt h
  refine ⟨(List.range m).map g, by simp, funext fun i => ?_, fun a ha => ?_⟩
  · by_cases hi : i < m
    · rw [(hg i hi).1, List.getD_eq_getElem?_getD]; simp [hi]
    · rw [hd i (by omega), List.getD_eq_getElem?_getD]; simp [hi]
  · obtain ⟨i, hi, rfl⟩ := List.mem_map.1 ha
    exact (hg i (List.mem_range.1 hi)).2
theorem law_lifted {C : Checked} {os : Os} {f : FuncId} {fn : Func} {s : ChangeSpec} {conds : List PathCond} (n : Nat) {tb : TypeId} {laid : List (String × DataW Unit)} (htab : ∀ W : World, W.ShapedOpen C.prog → laidMet C.prog laid W → tabOk (· < W.heap.size) W)
    (own : ownKnob C.prog.godebug = none) (started : os.Started) (noInit : C.prog.inits.idxOf? f = none) (hfn : C.prog.funcs[f]? = some fn)
    (witness : ∃ (w : World) (tape : Tape) (i : Input), w.os = os ∧ (w.forCall tape i).Shaped C.prog ∧ i.vars = [] ∧ Input.okWide C.prog (w.forCall tape i) .any w.heap.size f i ∧
      ((s.pre enc C.prog fn conds false (w.forCall tape i).memory i.args ∧ laidMet C.prog laid (w.forCall tape i).memory) ∧ sizedMet enc C.prog fn (OpenSpec.ofChange s) false (w.forCall tape i).memory i.args) ∧ ({} : Assume).holds C.prog (lone (Frame.enter C.prog f i.args .normal) [] (w.forCall tape i)))
    (hl : laidOutB C.prog = true) (hvars : s.vars = []) (hts : (fn.params.toList.all fun t => decide (t < C.prog.types.size) && sup C.prog n t && C.prog.readableRec t) = true) (hres : fn.resultTypes = #[tb]) (htb : C.prog.underlying tb = some .bool)
    (hs : ∀ ds : List (DataW H), ds.length = fn.params.size → (s.fn H ds).results = [.lit (.bool true)] ∧ (s.fn H ds).args = ds ∧ (s.fn H ds).vars = [])
    (spec : ∀ args : List PV, fn.params.toList.length = args.length → (∀ (j : Nat) t p, fn.params.toList[j]? = some t → args[j]? = some p → ArgP C.prog n t p) → Spec C.prog f args (.v (.bool true))) :
    ReturnsInHanded {} C os f .any (fun w args => (s.pre enc C.prog fn conds false w args ∧ laidMet C.prog laid w) ∧ sizedMet enc C.prog fn (OpenSpec.ofChange s) false w args) (s.post enc C.prog fn false true false false) := by
  refine returnsInHanded_of_calls own started noInit witness ?_
  intro w tape i _ hsh _ hok hpre _
  obtain ⟨_, _, _, fn', hfn', _, _, _, _, hval⟩ := hok
  obtain rfl : fn = fn' := Option.some.inj (hfn.symm.trans hfn')
  obtain ⟨⟨⟨ds, gs, before, hw, _⟩, hx⟩, _⟩ := hpre
  have hW := DataW.Whole.of_heap (w' := w.forCall tape i) (by rfl) hw
  have hL : laidMet C.prog laid (w.forCall tape i) := hx.of_heap (by rfl)
  clear hw hx
  suffices h : Calls C.prog f i.args (w.forCall tape i) fun e W' => ∃ v, e = .returned v ∧ s.post enc C.prog fn false true false false (w.forCall tape i) i.args v W' from h.mono fun e W' ⟨v, he, hp⟩ => by
    subst he
    exact ChangeSpec.post_blind hp
  generalize w.forCall tape i = W at *
  generalize i.args = args at *
  have hW' := hW
  obtain ⟨p, q, hA, hV, rfl, _, _⟩ := hW
  rw [hvars] at hV
  obtain ⟨rfl, rfl⟩ := trodVars_none hV
  have ht : ∀ t ∈ fn.params.toList, (t < C.prog.types.size ∧ sup C.prog n t = true) ∧ C.prog.readableRec t = true := fun t ht => by
    have := List.all_eq_true.1 hts t ht
    simpa only [Bool.and_eq_true, decide_eq_true_eq] using this
  obtain ⟨avs, k1, k2, k3, k4⟩ := read_args (Γ := fun _ => none) hl (fun t h => (ht t h).1) (fun j t v h1 h2 => hval j t v (by simpa using h1) (by simpa using h2)) hA
  have hlen : ds.length = fn.params.size := by
    have key : ∀ (ts : List TypeId) (vs : List Value) (ds : List (DataW H)) (ps : List MemPlace), DataW.TrodAll enc C.prog W 0 (fun _ => true) true ts vs ds ps → ds.length = ts.length := by
      intro ts
      induction ts with
      | nil => intro vs ds ps h; obtain ⟨_, rfl, _⟩ := trodAll_nil h; rfl
      | cons t ts ih =>
        intro vs ds ps h
        obtain ⟨v, vs, d, ds, a, b, rfl, rfl, rfl, _, h2⟩ := trodAll_cons h
        simp [ih _ _ _ h2]
    have := key _ _ _ _ hA
    simpa using this
  obtain ⟨s1, s2, s3⟩ := hs ds hlen
  refine (law_calls (htab W hsh hL) (spec avs k2 k3) k1 k4).mono fun e W' ⟨he, bel⟩ => ⟨_, he, ds, [], p ++ [], [], p, [], hW', ?_, ?_, ?_, bel.frame _, fun h => (by cases h)⟩
  · rw [List.append_nil, s1, hres]
    exact trodAll_mk1 (shut_bool htb _)
  · rw [List.append_nil, s2]
    exact again_args hl bel (fun t h => ⟨(ht t h).1.1, (ht t h).2⟩) (fun x hx => by simpa using hW'.lt x (by simpa using hx)) hA
  · rw [hvars, List.append_nil, s3]; rfl
end
end Go.Qg


namespace Go.Qg
open Go.Proofs
set_option maxRecDepth 100000
theorem lenOk {n : Nat} (h : n ≤ maxLen) : n ≤ 9223372036854775807 := h
section
open Tryz
theorem t_int {n : Nat} {ps : List PV} (h : Typ Tryz.prog (n + 1) 3 ps) : ∃ x, ps = [.v (.int .i64 x)] := by
  simp only [Typ, Tryz.underlying3] at h
  obtain ⟨x, h1, h2⟩ := h
  exact ⟨x, h1⟩
theorem d_int {n : Nat} : tdef Tryz.prog (n + 1) 3 = [.v (.int .i64 0)] := by simp only [tdef, Tryz.underlying3]
theorem t_bool {n : Nat} {ps : List PV} (h : Typ Tryz.prog (n + 1) 4 ps) : ∃ x, ps = [.v (.bool x)] := by
  simpa only [Typ, Tryz.underlying4] using h
theorem d_bool {n : Nat} : tdef Tryz.prog (n + 1) 4 = [.v (.bool false)] := by simp only [tdef, Tryz.underlying4]
theorem a_int {n : Nat} {p : PV} (h : ArgP Tryz.prog (n + 1) 3 p) : ∃ x, p = .v (.int .i64 x) := by
  simp only [ArgP, Tryz.underlying3] at h
  simpa using t_int h
theorem t_struct {P : Program} {n : Nat} {t : TypeId} {ps : List PV} {fs : Array Field} (hu : P.underlying t = some (.struct fs)) (h : Typ P (n + 1) t ps) : TypF (Typ P n) (fs.toList.map (·.type)) ps := by
  unfold Typ at h
  rw [hu] at h
  exact h
theorem a_struct {P : Program} {n : Nat} {t : TypeId} {p : PV} {fs : Array Field} (hu : P.underlying t = some (.struct fs)) (h : ArgP P n t p) : ∃ ps, p = .agg ps ∧ Typ P n t ps := by
  unfold ArgP at h
  rw [hu] at h
  exact h
theorem d_struct {P : Program} {n : Nat} {t : TypeId} {fs : Array Field} (hu : P.underlying t = some (.struct fs)) : tdef P (n + 1) t = (fs.toList.map fun f => tdef P n f.type).flatten := by
  simp only [tdef, hu]
theorem t_slice {P : Program} {n : Nat} {t e : TypeId} {ps : List PV} {c : Nat} (hu : P.underlying t = some (.slice e)) (hc : P.cellsOf e = c) (h : Typ P (n + 1) t ps) : ∃ (m : Nat) (f : Nat → List PV), ps = [.sl c m f] ∧ m ≤ 9223372036854775807 ∧ (∀ i, i < m → Typ P n e (f i)) ∧ ∀ i, m ≤ i → f i = tdef P n e := by
  unfold Typ at h
  rw [hu] at h
  obtain ⟨m, f, h1, h2, h3, h4⟩ := h
  exact ⟨m, f, by rw [h1, hc], lenOk h2, h3, h4⟩
theorem d_slice {P : Program} {n : Nat} {t e : TypeId} {c : Nat} (hu : P.underlying t = some (.slice e)) (hc : P.cellsOf e = c) : tdef P (n + 1) t = [.sl c 0 fun _ => tdef P n e] := by
  simp only [tdef, hu, hc]
theorem a_slice {P : Program} {n : Nat} {t e : TypeId} {p : PV} (hu : P.underlying t = some (.slice e)) (h : ArgP P n t p) : Typ P n t [p] := by
  unfold ArgP at h
  rw [hu] at h
  exact h
theorem t_spn {n : Nat} {ps : List PV} (h : Typ Tryz.prog (n + 2) 37 ps) : ∃ r : Spn, ps = r.cells := by
  obtain ⟨p0, q0, rfl, h0, p1, q1, rfl, h1, rfl⟩ := t_struct Tryz.underlying37 h
  obtain ⟨x0, rfl⟩ := t_int h0
  obtain ⟨x1, rfl⟩ := t_int h1
  exact ⟨⟨x0, x1⟩, rfl⟩
theorem d_spn {n : Nat} : tdef Tryz.prog (n + 2) 37 = (default : Spn).cells := by
  rw [d_struct Tryz.underlying37]; simp [d_int]; rfl
theorem a_spn {n : Nat} {p : PV} (h : ArgP Tryz.prog (n + 2) 37 p) : ∃ r : Spn, p = .agg r.cells := by
  obtain ⟨ps, rfl, g⟩ := a_struct Tryz.underlying37 h
  obtain ⟨r, rfl⟩ := t_spn g
  exact ⟨r, rfl⟩
theorem t_itm {n : Nat} {ps : List PV} (h : Typ Tryz.prog (n + 3) 120 ps) : ∃ r : Itm, ps = r.cells := by
  obtain ⟨p0, q0, rfl, h0, p1, q1, rfl, h1, rfl⟩ := t_struct Tryz.underlying120 h
  obtain ⟨x0, rfl⟩ := t_int h0
  obtain ⟨s, rfl⟩ := t_spn h1
  exact ⟨⟨x0, s.low, s.high⟩, rfl⟩
theorem d_itm {n : Nat} : tdef Tryz.prog (n + 3) 120 = (default : Itm).cells := by
  rw [d_struct Tryz.underlying120]; simp [d_int, d_spn]; rfl
theorem cells_itm : Tryz.prog.cellsOf 120 = 3 := by kernel_rfl
theorem t_itms {n : Nat} {ps : List PV} (h : Typ Tryz.prog (n + 4) 63 ps) : ∃ l : List Itm, ps = [itmL l] ∧ l.length ≤ 9223372036854775807 := by
  obtain ⟨m, f, h1, h2, h3, h4⟩ := t_slice Tryz.underlying63 cells_itm h
  obtain ⟨l, g1, g2, _⟩ := sl_list Itm.cells (fun _ => True) (fun i hi => (t_itm (h3 i hi)).imp fun _ h => ⟨h, trivial⟩) (fun i hi => (h4 i hi).trans d_itm)
  refine ⟨l, ?_, by omega⟩
  rw [h1, g2, ← g1]; rfl
theorem d_itms {n : Nat} : tdef Tryz.prog (n + 4) 63 = [itmL []] := by
  rw [d_slice Tryz.underlying63 cells_itm]
  simp only [d_itm]; rfl
theorem t_leg {n : Nat} {ps : List PV} (h : Typ Tryz.prog (n + 5) 112 ps) : ∃ r : Leg, ps = r.cells ∧ r.items.length ≤ 9223372036854775807 := by
  obtain ⟨p0, q0, rfl, h0, p1, q1, rfl, h1, p2, q2, rfl, h2, p3, q3, rfl, h3, p4, q4, rfl, h4, rfl⟩ := t_struct Tryz.underlying112 h
  obtain ⟨l, rfl, hl⟩ := t_itms h0
  obtain ⟨x1, rfl⟩ := t_bool h1
  obtain ⟨x2, rfl⟩ := t_int h2
  obtain ⟨x3, rfl⟩ := t_spn h3
  obtain ⟨x4, rfl⟩ := t_spn h4
  exact ⟨⟨l, x1, x2, x3, x4⟩, rfl, hl⟩
theorem d_leg {n : Nat} : tdef Tryz.prog (n + 5) 112 = (default : Leg).cells := by
  rw [d_struct Tryz.underlying112]; simp [d_int, d_spn, d_bool, d_itms]; rfl
theorem cells_leg : Tryz.prog.cellsOf 112 = 7 := by kernel_rfl
theorem a_legs {n : Nat} {p : PV} (h : ArgP Tryz.prog (n + 6) 28 p) : ∃ l : List Leg, p = legL l ∧ l.length ≤ 9223372036854775807 ∧ ∀ k, k < l.length → (legAt l k).items.length ≤ 9223372036854775807 := by
  obtain ⟨m, f, h1, h2, h3, h4⟩ := t_slice Tryz.underlying28 cells_leg (a_slice Tryz.underlying28 h)
  obtain ⟨l, g1, g2, g3⟩ := sl_list Leg.cells (fun r => r.items.length ≤ 9223372036854775807) (fun i hi => t_leg (h3 i hi)) (fun i hi => (h4 i hi).trans d_leg)
  have h1 := List.singleton_inj.1 h1
  refine ⟨l, ?_, by omega, fun k hk => g3 _ (by simp [legAt, hk])⟩
  rw [h1, g2, ← g1]; rfl
end
theorem laidOut_ : laidOutB Tryz.prog = true := by kernel_rfl
theorem ownKnob_ : ownKnob Tryz.prog.godebug = none := by kernel_rfl
def pows : List Int := (List.range 20).map fun i => ((10 ^ i : Nat) : Int)
def laidL : List (String × DataW Unit) := [("math/bits.deBruijn32tab", Go.Proofs.YtnjhblcfjhpoiaaGreatDoor.Rows.laid_math_bits_deBruijn32tab), ("math/bits.deBruijn64tab", Go.Proofs.YtnjhblcfjhpoiaaGreatDoor.Rows.laid_math_bits_deBruijn64tab), ("internal/strconv.uint64pow10", Go.Proofs.YtnjhblcfjhpoiaaGreatDoor.Rows.laid_internal_strconv_uint64pow10), ("unicode/utf8.acceptRanges", Go.Proofs.YtnjhblcfjhpoiaaGreatDoor.Rows.laid_unicode_utf8_acceptRanges), ("strconv.ErrRange", Go.Proofs.YtnjhblcfjhpoiaaGreatDoor.Rows.laid_strconv_ErrRange), ("strconv.ErrSyntax", Go.Proofs.YtnjhblcfjhpoiaaGreatDoor.Rows.laid_strconv_ErrSyntax), ("unicode/utf8.first", Go.Proofs.YtnjhblcfjhpoiaaGreatDoor.Rows.laid_unicode_utf8_first)]
theorem pow_data : (Go.Proofs.YtnjhblcfjhpoiaaGreatDoor.Rows.laid_internal_strconv_uint64pow10 : DataW Unit) = Lib.tabData .u64 pows := rfl
theorem pow_glob : Tryz.prog.globalNamed "internal/strconv.uint64pow10" = some 1 := by kernel_rfl
theorem range_glob : Tryz.prog.globalNamed "strconv.ErrRange" = some 3 := by kernel_rfl
theorem syn_glob : Tryz.prog.globalNamed "strconv.ErrSyntax" = some 2 := by kernel_rfl
theorem err_star : "*" ++ "errors.errorString" = "*errors.errorString" := by decide
theorem err_row (u : TypeId) (h : Tryz.prog.typeName? 3 u = some "*errors.errorString") : u = 265 :=
  typeName_ptr_named (nm := "errors.errorString") (by rw [err_star]; kernel_rfl) (by kernel_rfl) (by decide) u (by rw [err_star]; exact h)
theorem tab_of_cell {w : World} {g : Nat} {v : Value} (h : w.cell? ⟨g, 0, none⟩ = some v) : g < w.heap.size ∧ ∃ cs t fz, w.heap[g]? = some (.cells cs t fz) ∧ cs[0]? = some v := by
  unfold World.cell? at h
  split at h
  · rename_i cs t fz hh
    exact ⟨(Array.getElem?_eq_some_iff.1 hh).1, cs, t, fz, hh, h⟩
  · cases h
theorem sentinel_tab {n : String} {text : List UInt8} {r : List (String × DataW Unit)} {W : World} {g : Nat}
    (h : laidMet Tryz.prog ((n, .iface "*errors.errorString" (.ptr (.agg [.lit (.string text)]))) :: r) W)
    (hg : Tryz.prog.globalNamed n = some g) (ht : (Tryz.prog.globals[g]?).map (·.type) = some 202) : ∃ t p, W.cell? ⟨g, 0, none⟩ = some (.iface t p) := by
  obtain ⟨a, s, h1, _⟩ := laid_sentinel h hg ht Tryz.underlying202 err_row Tryz.underlying265 Tryz.underlying267 rfl rfl Tryz.underlying9 (by kernel_rfl) (by kernel_rfl)
  exact ⟨_, _, by simpa using World.var?_cell hg h1 0⟩
theorem tabs_of_laid : ∀ W : World, W.ShapedOpen Tryz.prog → laidMet Tryz.prog laidL W → tabOk (· < W.heap.size) W := fun W hsh h => by
  have h3 := laidMet.tail (laidMet.tail h)
  have h5 := laidMet.tail (laidMet.tail h3)
  have h6 := laidMet.tail h5
  obtain ⟨tr, pr, hr⟩ := sentinel_tab h5 range_glob (by kernel_rfl)
  obtain ⟨ts, ps, hs⟩ := sentinel_tab h6 syn_glob (by kernel_rfl)
  obtain ⟨m, hm⟩ := cell_of_shapedOpen_int (g := 0) (t := 3) (k := .i64) hsh (by decide +kernel) (zero := #[.int .i64 0]) (by kernel_rfl) rfl (by kernel_rfl) (by kernel_rfl) Tryz.underlying3
  rw [pow_data] at h3
  have ht := Lib.tabIs_of_head (t := 247) (e := 233) (n := 20) pow_glob (by kernel_rfl) Tryz.underlying247 Tryz.underlying233 (by kernel_rfl) (by kernel_rfl) h3
  unfold Lib.TabIs World.var? at ht
  rw [pow_glob] at ht
  simp only [Option.bind_some] at ht
  intro b φ hb
  simp only [seatTabs, List.mem_cons, List.mem_nil_iff, or_false] at hb
  rcases hb with hb | hb | hb | hb
  · obtain ⟨rfl, rfl⟩ := Prod.mk.inj hb
    split at ht
    · rename_i cs t fz hh
      refine ⟨?_, cs, t, fz, hh, ?_⟩
      · rcases Nat.lt_or_ge 1 W.heap.size with h' | h'
        · exact h'
        · rw [Array.getElem?_eq_none h'] at hh
          cases hh
      · rw [Option.some.inj ht]; simp [pows, Function.comp_def]
    · cases ht
  · obtain ⟨rfl, rfl⟩ := Prod.mk.inj hb
    obtain ⟨k1, cs, t, fz, k2, k3⟩ := tab_of_cell hm
    exact ⟨k1, cs, t, fz, k2, m, k3⟩
  · obtain ⟨rfl, rfl⟩ := Prod.mk.inj hb
    obtain ⟨k1, cs, t, fz, k2, k3⟩ := tab_of_cell hs
    exact ⟨k1, cs, t, fz, k2, _, _, k3⟩
  · obtain ⟨rfl, rfl⟩ := Prod.mk.inj hb
    obtain ⟨k1, cs, t, fz, k2, k3⟩ := tab_of_cell hr
    exact ⟨k1, cs, t, fz, k2, _, _, k3⟩
end Go.Qg


namespace Go.Qg
open Go.Proofs
set_option maxRecDepth 100000
mutual
def litsOf : DataW Unit → List Value
  | .lit (.int k z) => [Value.int k z]
  | .agg l => litsAll l
  | _ => []
def litsAll : List (DataW Unit) → List Value
  | [] => []
  | d :: l => litsOf d ++ litsAll l
end
def putAt (g : Nat) (cs : Array Value) (h : Array Obj) : Array Obj := h.modify g fun
  | .cells _ t frozen => .cells cs t frozen
  | o => o
def layAt (g : Nat) (d : DataW Unit) (h : Array Obj) : Array Obj := putAt g (litsOf d).toArray h
abbrev rangeS : ByteArray := { data := #[118, 97, 108, 117, 101, 32, 111, 117, 116, 32, 111, 102, 32, 114, 97, 110, 103, 101] }
abbrev synS : ByteArray := { data := #[105, 110, 118, 97, 108, 105, 100, 32, 115, 121, 110, 116, 97, 120] }
noncomputable def lowN : Nat := (World.holding Tryz.prog default ⟨#[], #[], []⟩).heap.size
noncomputable def laidWorld (os : Os) : World :=
  let w0 := World.holding Tryz.prog os ⟨#[.cells #[.string rangeS] 267, .cells #[.string synS] 267], #[], []⟩
  { w0 with heap := putAt 3 #[.iface 265 (.pointer (some ⟨lowN, 0, none⟩))] (putAt 2 #[.iface 265 (.pointer (some ⟨lowN + 1, 0, none⟩))]
    (layAt 6 Go.Proofs.YtnjhblcfjhpoiaaGreatDoor.Rows.laid_unicode_utf8_first (layAt 7 Go.Proofs.YtnjhblcfjhpoiaaGreatDoor.Rows.laid_unicode_utf8_acceptRanges
    (layAt 4 Go.Proofs.YtnjhblcfjhpoiaaGreatDoor.Rows.laid_math_bits_deBruijn32tab (layAt 5 Go.Proofs.YtnjhblcfjhpoiaaGreatDoor.Rows.laid_math_bits_deBruijn64tab (layAt 1 Go.Proofs.YtnjhblcfjhpoiaaGreatDoor.Rows.laid_internal_strconv_uint64pow10 w0.heap)))))) }
theorem laid_met (os : Os) (args : Array Value) : laidMet Tryz.prog laidL ((laidWorld os).forCall (fun _ _ => 0) ⟨#[], args, []⟩).memory :=
  laidMet_of_run' 8 (by kernel_rfl) (by kernel_rfl)
end Go.Qg


namespace Go.Qg
def splL (c : UInt8) : List UInt8 → List (List UInt8)
  | [] => [[]]
  | b :: l => if b = c then [] :: splL c l else match splL c l with
    | p :: ps => (b :: p) :: ps
    | [] => [[b]]
theorem splL_ne (c : UInt8) (s : List UInt8) : splL c s ≠ [] := by
  cases s with
  | nil => simp [splL]
  | cons b l =>
    unfold splL
    split
    · simp
    · split <;> simp
theorem splL_none {c : UInt8} : ∀ {a : List UInt8}, c ∉ a → splL c a = [a]
  | [], _ => rfl
  | b :: l, h => by
    have h1 : ¬ b = c := fun e => h (by simp [e])
    have h2 : c ∉ l := fun e => h (List.mem_cons_of_mem _ e)
    rw [splL, if_neg h1, splL_none h2]
theorem splL_app {c : UInt8} (t : List UInt8) : ∀ {a : List UInt8}, c ∉ a → splL c (a ++ c :: t) = a :: splL c t
  | [], _ => by simp [splL]
  | b :: l, h => by
    have h1 : ¬ b = c := fun e => h (by simp [e])
    have h2 : c ∉ l := fun e => h (List.mem_cons_of_mem _ e)
    rw [List.cons_append, splL, if_neg h1, splL_app t h2]
theorem index_one (c : UInt8) : ∀ s : List UInt8, (Lib.index s [c] = -1 ∧ c ∉ s) ∨ ∃ a t, s = a ++ c :: t ∧ c ∉ a ∧ Lib.index s [c] = (a.length : Int)
  | [] => .inl ⟨rfl, by simp⟩
  | b :: l => by
    unfold Lib.index
    by_cases h : c = b
    · subst h
      exact .inr ⟨[], l, rfl, by simp, by simp [List.isPrefixOf]⟩
    · have hp : ([c].isPrefixOf (b :: l)) = false := by simp [List.isPrefixOf, h]
      rw [hp]
      rcases index_one c l with ⟨h1, h2⟩ | ⟨a, t, h1, h2, h3⟩
      · exact .inl ⟨by simp [h1], by simp [h, h2]⟩
      · refine .inr ⟨b :: a, t, by simp [h1], by simp [h, h2], ?_⟩
        have : ((a.length : Int) == -1) = false := by rw [beq_eq_false_iff_ne]; omega
        simp [h3, this]
theorem cut_none {c : UInt8} {s : List UInt8} (h : c ∉ s) : Lib.cut s [c] = (s, [], false) := by
  rcases index_one c s with ⟨h1, _⟩ | ⟨a, t, h1, _, _⟩
  · unfold Lib.cut; rw [h1]; rfl
  · exact absurd (by simp [h1]) h
theorem cut_app {c : UInt8} {a t : List UInt8} (h : c ∉ a) : Lib.cut (a ++ c :: t) [c] = (a, t, true) := by
  rcases index_one c (a ++ c :: t) with ⟨_, h1⟩ | ⟨a', t', h1, h2, h3⟩
  · exact absurd (by simp) h1
  · have e := splL_app t h
    rw [h1, splL_app t' h2] at e
    have ea : a' = a := (List.cons.inj e).1
    subst ea
    have : t' = t := by simpa using h1.symm
    subst this
    unfold Lib.cut
    rw [h3]
    simp
theorem splitK_parts (c : UInt8) : ∀ (n : Nat) (s : List UInt8), s.length ≤ n → Lib.split s [c] = splL c s
  | n, s, hn => by
    rcases index_one c s with ⟨h1, h2⟩ | ⟨a, t, h1, h2, h3⟩
    · rw [splL_none h2]
      unfold Lib.split
      cases Lib.count s [c] with
      | zero => rfl
      | succ k => rw [Lib.splitK, h1]; rfl
    · subst h1
      rw [splL_app t h2]
      have hd : (a ++ c :: t).drop (a.length + 1) = t := by
        rw [← List.drop_drop]; simp
      have hc : Lib.count (a ++ c :: t) [c] = 1 + Lib.count t [c] := by
        have := Lib.count_hit (s := a ++ c :: t) (sub := [c]) (i := a.length) (by simp) h3
        simpa [hd] using this
      unfold Lib.split
      rw [hc, Nat.add_comm 1, Lib.splitK, h3]
      have hne : ((a.length : Int) == -1) = false := by rw [beq_eq_false_iff_ne]; omega
      have hl : t.length < n := by simp at hn; omega
      cases n with
      | zero => omega
      | succ n =>
      have ih := splitK_parts c n t (by omega)
      unfold Lib.split at ih
      rw [hne]
      simp only [Bool.false_eq_true, if_false, Int.toNat_natCast, Nat.add_zero, List.length_singleton, hd, ih]
      simp
theorem split_parts (c : UInt8) (s : List UInt8) : Lib.split s [c] = splL c s := splitK_parts c s.length s (Nat.le_refl _)
theorem join_two (x y : List UInt8) (r : List (List UInt8)) (sep : List UInt8) : Lib.join (x :: y :: r) sep = x ++ (sep ++ Lib.join (y :: r) sep) := by
  simp [Lib.join, List.intercalate]
theorem join_parts (c : UInt8) : ∀ s : List UInt8, Lib.join (splL c s) [c] = s
  | [] => rfl
  | b :: l => by
    have ih := join_parts c l
    unfold splL
    have hne := splL_ne c l
    cases h : splL c l with
    | nil => exact absurd h hne
    | cons p ps =>
      rw [h] at ih
      split
      · rename_i hb
        rw [join_two, ih, hb]; rfl
      · simp only
        cases ps with
        | nil => rw [Lib.join_one] at ih ⊢; rw [ih]
        | cons q qs =>
          rw [join_two] at ih ⊢
          rw [List.cons_append, ih]
theorem parts_join {c : UInt8} : ∀ {ps : List (List UInt8)}, ps ≠ [] → (∀ p ∈ ps, c ∉ p) → splL c (Lib.join ps [c]) = ps
  | [], h, _ => absurd rfl h
  | [p], _, h => by rw [Lib.join_one]; exact splL_none (h p (by simp))
  | p :: q :: r, _, h => by
    rw [join_two, List.singleton_append, splL_app _ (h p (by simp)), parts_join (by simp) fun x hx => h x (List.mem_cons_of_mem _ hx)]
theorem uint_app : ∀ (l : List UInt8) (c : UInt8) (acc : Nat), Lib.parseUint10 acc (l ++ [c]) = match Lib.parseUint10 acc l with
    | .ok v => Lib.parseUint10 v [c]
    | e => e
  | [], c, acc => by simp [Lib.parseUint10]
  | b :: l, c, acc => by
    rw [List.cons_append, Lib.parseUint10, Lib.parseUint10]
    split
    · split
      · rfl
      · split
        · rfl
        · exact uint_app l c _
    · rfl
theorem digit_toNat {d : Nat} (h : d < 10) : (UInt8.ofNat (48 + d)).toNat = 48 + d := by
  rw [UInt8.toNat_ofNat']; omega
theorem digits_mem : ∀ (n u : Nat), u ≤ n → ∀ c ∈ Lib.decDigits u, 48 ≤ c.toNat ∧ c.toNat ≤ 57
  | n, u, hu, c, hc => by
    rw [Lib.decDigits] at hc
    split at hc
    · simp only [List.mem_singleton] at hc
      subst hc
      rw [digit_toNat (by assumption)]
      omega
    · cases n with
      | zero => omega
      | succ n =>
      rcases List.mem_append.1 hc with h | h
      · exact digits_mem n (u / 10) (by omega) c h
      · simp only [List.mem_singleton] at h
        subst h
        rw [digit_toNat (by omega)]
        omega
theorem uint_digits : ∀ (n u : Nat), u ≤ n → u < 18446744073709551616 → Lib.parseUint10 0 (Lib.decDigits u) = .ok u
  | n, u, hu, hb => by
    rw [Lib.decDigits]
    split
    · rename_i h
      have h1 : u - 0 = u := rfl
      simp only [Lib.parseUint10, digit_toNat h]
      rw [if_pos (by omega), if_neg (by omega), if_neg (by omega)]
      simp
    · rename_i h
      cases n with
      | zero => omega
      | succ n =>
      rw [uint_app, uint_digits n (u / 10) (by omega) (by omega)]
      have h9 : u % 10 < 10 := by omega
      simp only [Lib.parseUint10, digit_toNat h9]
      rw [if_pos (by omega), if_neg (by omega), if_neg (by omega)]
      congr 1
      omega
theorem digits_ne (u : Nat) : Lib.decDigits u ≠ [] := by
  rw [Lib.decDigits]
  split <;> simp
theorem atoi_digits (u : Nat) (hb : u < 9223372036854775808) : Lib.atoiAll (Lib.decDigits u) = .ok (u : Int) := by
  have h1 := uint_digits u u (Nat.le_refl _) (by omega)
  have h2 := digits_mem u u (Nat.le_refl _)
  have h3 := digits_ne u
  generalize Lib.decDigits u = l at *
  cases l with
  | nil => exact absurd rfl h3
  | cons c r =>
    have hc := h2 c (by simp)
    simp only [Lib.atoiAll]
    rw [if_neg (by omega), Lib.parseMag, if_neg (by simp), h1]
    simp only
    rw [if_neg (by omega), if_neg (by omega), if_neg (by omega)]
def numW (w : List UInt8) : Option Int := match Lib.atoiAll w with
  | .ok n => if 0 ≤ n ∧ w.length ≤ 10 ∧ Lib.itoa n = w then some n else none
  | _ => none
theorem digits_big : ∀ (k u : Nat), 10 ^ k ≤ u → k < (Lib.decDigits u).length
  | 0, u, _ => List.length_pos_iff.2 (digits_ne u)
  | k + 1, u, h => by
    have h10 : ¬ u < 10 := by
      have : 10 ^ 1 ≤ 10 ^ (k + 1) := Nat.pow_le_pow_right (by omega) (by omega)
      omega
    have := digits_big k (u / 10) (by rw [Nat.pow_succ] at h; omega)
    rw [Lib.decDigits, dif_neg h10]
    simp only [List.length_append, List.length_singleton]
    omega
theorem numW_iff {w : List UInt8} {n : Int} : numW w = some n ↔ 0 ≤ n ∧ n < 10000000000 ∧ w.length ≤ 10 ∧ Lib.itoa n = w := by
  unfold numW
  constructor
  · intro h
    split at h
    · rename_i m hm
      split at h
      · rename_i hc
        obtain rfl := Option.some.inj h
        obtain ⟨h0, h1, h2⟩ := hc
        obtain ⟨u, rfl⟩ := Int.eq_ofNat_of_zero_le h0
        refine ⟨h0, ?_, h1, h2⟩
        rw [Lib.itoa_nonneg] at h2
        have := digits_big 10 u
        rw [h2] at this
        omega
      · cases h
    · cases h
  · rintro ⟨h0, h1, h2, h3⟩
    obtain ⟨u, rfl⟩ := Int.eq_ofNat_of_zero_le h0
    have h4 := h3
    rw [Lib.itoa_nonneg] at h3
    rw [← h3, atoi_digits u (by omega)]
    simp only
    rw [if_pos ⟨h0, by rw [h3]; exact h2, by rw [h3]; exact h4⟩]
end Go.Qg


namespace Go.Qg
open Go.Proofs Go.RowKit Go.Lib
set_option maxRecDepth 100000
def wordsR (r : List UInt8) : Option (List (List UInt8) × List UInt8) :=
  match Lib.cut r [10] with
  | (l, t, true) => some (splL 32 l, t)
  | _ => none
def numsW : List (List UInt8) → Option (List Int)
  | [] => some []
  | w :: ws => match numW w, numsW ws with
    | some n, some ns => some (n :: ns)
    | _, _ => none
def rdLine (ahead : List (List UInt8)) (many : Nat) (r : List UInt8) : Option (List Int × List UInt8) :=
  match wordsR r with
  | some (l, t) => if l.length = ahead.length + many ∧ l.take ahead.length = ahead then (numsW (l.drop ahead.length)).map fun ns => (ns, t) else none
  | none => none
theorem wordsR_iff {r : List UInt8} {l : List (List UInt8)} {t : List UInt8} : wordsR r = some (l, t) ↔ ∃ a, r = a ++ 10 :: t ∧ 10 ∉ a ∧ l = splL 32 a := by
  unfold wordsR
  rcases index_one 10 r with ⟨_, h⟩ | ⟨a, u, rfl, h, _⟩
  · rw [cut_none h]
    simp only [reduceCtorEq, false_iff, not_exists, not_and]
    intro a hr
    exact absurd (by simp [hr]) h
  · rw [cut_app h]
    simp only [Option.some.injEq, Prod.mk.injEq]
    constructor
    · rintro ⟨rfl, rfl⟩
      exact ⟨a, rfl, h, rfl⟩
    · rintro ⟨b, hb, h2, rfl⟩
      have e := splL_app u h
      rw [hb, splL_app t h2] at e
      obtain rfl : b = a := (List.cons.inj e).1
      exact ⟨rfl, by simpa using hb⟩
theorem digits_small : ∀ (k u : Nat), u < 10 ^ (k + 1) → (Lib.decDigits u).length ≤ k + 1
  | k, u, h => by
    rw [Lib.decDigits]
    split
    · simp
    · cases k with
      | zero => simp at h; omega
      | succ k =>
        have := digits_small k (u / 10) (by rw [Nat.pow_succ] at h; omega)
        simp only [List.length_append, List.length_singleton]
        omega
theorem itoa_small {n : Int} (h0 : 0 ≤ n) (h1 : n < 10000000000) : (Lib.itoa n).length ≤ 10 := by
  obtain ⟨u, rfl⟩ := Int.eq_ofNat_of_zero_le h0
  rw [Lib.itoa_nonneg]
  exact digits_small 9 u (by omega)
theorem itoa_digit {n : Int} (h0 : 0 ≤ n) : ∀ c ∈ Lib.itoa n, 48 ≤ c.toNat ∧ c.toNat ≤ 57 := by
  obtain ⟨u, rfl⟩ := Int.eq_ofNat_of_zero_le h0
  rw [Lib.itoa_nonneg]
  exact digits_mem u u (Nat.le_refl _)
theorem itoa_free {n : Int} (h0 : 0 ≤ n) {c : UInt8} (hc : c.toNat < 48) : c ∉ Lib.itoa n := fun h => by
  have := itoa_digit h0 c h
  omega
theorem numW_itoa {n : Int} (h0 : 0 ≤ n) (h1 : n < 10000000000) : numW (Lib.itoa n) = some n := numW_iff.2 ⟨h0, h1, itoa_small h0 h1, rfl⟩
def NumR (n : Int) : Prop := 0 ≤ n ∧ n < 10000000000
theorem numsW_iff : ∀ {ws : List (List UInt8)} {ns : List Int}, numsW ws = some ns ↔ (∀ n ∈ ns, NumR n) ∧ ws = ns.map Lib.itoa
  | [], ns => by
    simp only [numsW, Option.some.injEq]
    constructor
    · rintro rfl; simp
    · rintro ⟨_, h⟩
      cases ns with
      | nil => rfl
      | cons _ _ => simp at h
  | w :: ws, ns => by
    simp only [numsW]
    constructor
    · intro h
      split at h
      · rename_i n ms h1 h2
        obtain rfl := Option.some.inj h
        obtain ⟨g0, g1, _, g3⟩ := numW_iff.1 h1
        obtain ⟨k1, k2⟩ := numsW_iff.1 h2
        refine ⟨fun x hx => ?_, by rw [List.map_cons, g3, ← k2]⟩
        rcases List.mem_cons.1 hx with rfl | hx
        · exact ⟨g0, g1⟩
        · exact k1 x hx
      · cases h
    · rintro ⟨h1, h2⟩
      cases ns with
      | nil => simp at h2
      | cons n ns =>
        simp only [List.map_cons, List.cons.injEq] at h2
        have g := h1 n (by simp)
        rw [h2.1, numW_itoa g.1 g.2, numsW_iff.2 ⟨fun x hx => h1 x (List.mem_cons_of_mem _ hx), h2.2⟩]
theorem join_app : ∀ {ws : List (List UInt8)} (ns : List Int), ws ≠ [] → Lib.join (ws ++ ns.map Lib.itoa) [32] = Lib.join ws [32] ++ numsB ns
  | [], _, h => absurd rfl h
  | [w], ns, _ => by
    rw [List.singleton_append, Lib.join_cons, Lib.join_one]
    congr 1
    induction ns with
    | nil => rfl
    | cons n ns ih => simp only [List.map_cons, Lib.joinTail, List.flatten_cons, numsB] at ih ⊢; rw [ih]; simp
  | v :: w :: ws, ns, _ => by
    have ih := join_app (ws := w :: ws) ns (by simp)
    rw [List.cons_append] at ih
    rw [List.cons_append, List.cons_append, join_two, ih, join_two]
    simp
theorem join_free {c : UInt8} (hc : c ≠ 32) : ∀ {ws : List (List UInt8)}, (∀ w ∈ ws, c ∉ w) → c ∉ Lib.join ws [32]
  | [], _ => by simp [Lib.join_nil]
  | [w], h => by rw [Lib.join_one]; exact h w (by simp)
  | v :: w :: ws, h => by
    rw [join_two]
    simp only [List.mem_append, List.mem_singleton, not_or]
    exact ⟨h v (by simp), hc, join_free hc fun x hx => h x (List.mem_cons_of_mem _ hx)⟩
theorem rdLine_iff {ahead : List (List UInt8)} {many : Nat} {r t : List UInt8} {ns : List Int} (ha : ahead ≠ []) (hf : ∀ w ∈ ahead, (32 : UInt8) ∉ w ∧ (10 : UInt8) ∉ w) :
    rdLine ahead many r = some (ns, t) ↔ ns.length = many ∧ (∀ n ∈ ns, NumR n) ∧ r = Lib.join ahead [32] ++ numsB ns ++ 10 :: t := by
  constructor
  · intro h
    unfold rdLine at h
    split at h
    · rename_i l u hw
      obtain ⟨a, hr, hn, hl⟩ := wordsR_iff.1 hw
      split at h
      · rename_i hc
        obtain ⟨h1, h2⟩ := hc
        cases hm : numsW (l.drop ahead.length) with
        | none => rw [hm] at h; cases h
        | some ms =>
          rw [hm] at h
          simp only [Option.map_some, Option.some.injEq, Prod.mk.injEq] at h
          obtain ⟨rfl, rfl⟩ := h
          obtain ⟨g1, g2⟩ := numsW_iff.1 hm
          have hlen : ms.length = many := by
            have := congrArg List.length g2
            simp only [List.length_drop, List.length_map] at this
            omega
          have hl2 : l = ahead ++ ms.map Lib.itoa := by rw [← g2, ← h2, List.length_take]; simp [h1]
          refine ⟨hlen, g1, ?_⟩
          rw [← join_app ms ha, ← hl2, hl, join_parts, hr]
      · cases h
    · cases h
  · rintro ⟨rfl, h2, rfl⟩
    have hp : splL 32 (Lib.join ahead [32] ++ numsB ns) = ahead ++ ns.map Lib.itoa := by
      rw [← join_app ns ha]
      refine parts_join (by simp [ha]) fun p hp => ?_
      rcases List.mem_append.1 hp with hp | hp
      · exact (hf p hp).1
      · obtain ⟨n, hn, rfl⟩ := List.mem_map.1 hp
        exact itoa_free (h2 n hn).1 (by decide)
    have hn : (10 : UInt8) ∉ Lib.join ahead [32] ++ numsB ns := by
      rw [← join_app ns ha]
      refine join_free (by decide) fun p hp => ?_
      rcases List.mem_append.1 hp with hp | hp
      · exact (hf p hp).2
      · obtain ⟨n, hn, rfl⟩ := List.mem_map.1 hp
        exact itoa_free (h2 n hn).1 (by decide)
    have hw : wordsR (Lib.join ahead [32] ++ numsB ns ++ 10 :: t) = some (ahead ++ ns.map Lib.itoa, t) := wordsR_iff.2 ⟨_, rfl, hn, hp.symm⟩
    unfold rdLine
    rw [hw]
    simp only [List.length_append, List.length_map, List.take_left', List.drop_left', and_self, if_true]
    rw [numsW_iff.2 ⟨h2, rfl⟩]
    rfl
end Go.Qg


namespace Go.Qg
open Go.Proofs Go.RowKit Go.Lib
set_option maxRecDepth 100000
def itemsC (l : List Itm) : List UInt8 := (l.map fun i => lineB [itemW] (itmN i)).flatten
def legC (g : Leg) : List UInt8 := lineB (legWs g) (legN g) ++ itemsC g.items
def legsC (l : List Leg) : List UInt8 := (l.map legC).flatten
def itemsI (l : List Itm) : Int := (l.map fun i => sumI (itmN i)).sum
def legI (g : Leg) : Int := sumI (legN g) + itemsI g.items
def legsI (l : List Leg) : Int := (l.map legI).sum
theorem take_at {α : Type} [Inhabited α] {l : List α} {k : Nat} (h : k < l.length) : l.take (k + 1) = l.take k ++ [l.getD k default] := by
  rw [List.take_add_one]
  simp [h]
theorem itemsTo_eq (l : List Itm) (T : List UInt8) : ∀ k, k ≤ l.length → itemsTo l T k = T ++ itemsC (l.take k)
  | 0, _ => by simp [itemsTo, itemsC]
  | k + 1, h => by
    rw [itemsTo, itemsTo_eq l T k (by omega), take_at (by omega)]
    simp [itemsC, itmAt]
theorem itemsSum_eq (l : List Itm) (x : Int) : ∀ k, k ≤ l.length → itemsSum l x k = x + itemsI (l.take k)
  | 0, _ => by simp [itemsSum, itemsI]
  | k + 1, h => by
    rw [itemsSum, itemsSum_eq l x k (by omega), take_at (by omega)]
    simp only [itemsI, List.map_append, List.sum_append, List.map_cons, List.map_nil, List.sum_cons, List.sum_nil, itmAt]
    omega
theorem legsTo_eq (l : List Leg) (T : List UInt8) : ∀ k, k ≤ l.length → legsTo l T k = T ++ legsC (l.take k)
  | 0, _ => by simp [legsTo, legsC]
  | k + 1, h => by
    rw [legsTo, legsTo_eq l T k (by omega), itemsTo_eq _ _ _ (Nat.le_refl _), List.take_length, take_at (by omega)]
    simp [legsC, legC, legAt]
theorem legsSum_eq (l : List Leg) (x : Int) : ∀ k, k ≤ l.length → legsSum l x k = x + legsI (l.take k)
  | 0, _ => by simp [legsSum, legsI]
  | k + 1, h => by
    rw [legsSum, legsSum_eq l x k (by omega), itemsSum_eq _ _ _ (Nat.le_refl _), List.take_length, take_at (by omega)]
    simp only [legsI, legI, List.map_append, List.sum_append, List.map_cons, List.map_nil, List.sum_cons, List.sum_nil, legAt]
    omega
theorem sheetB_eq (fuel : Spn) (legs : List Leg) : sheetB fuel legs = lineB [tripW] (headN fuel legs) ++ legsC legs := by
  rw [sheetB, legsTo_eq _ _ _ (Nat.le_refl _), List.take_length]
theorem sheetS_eq (fuel : Spn) (legs : List Leg) : sheetS fuel legs = sumI (headN fuel legs) + legsI legs := by
  rw [sheetS, legsSum_eq _ _ _ (Nat.le_refl _), List.take_length]
def listsOf (ws : List ByteArray) : List (List UInt8) := ws.map (·.data.toList)
theorem rdB_iff {ws : List ByteArray} {many : Nat} {r t : List UInt8} {ns : List Int} (ha : ws ≠ []) (hf : ∀ w ∈ listsOf ws, (32 : UInt8) ∉ w ∧ (10 : UInt8) ∉ w) :
    rdLine (listsOf ws) many r = some (ns, t) ↔ ns.length = many ∧ (∀ n ∈ ns, NumR n) ∧ r = lineB ws ns ++ t := by
  rw [rdLine_iff (by simpa [listsOf] using ha) hf]
  have : lineB ws ns ++ t = Lib.join (listsOf ws) [32] ++ numsB ns ++ 10 :: t := by
    simp [lineB, joinB, listsOf, bytesOf]
  rw [this]
def rdItems : Nat → List UInt8 → Option (List Itm × List UInt8)
  | 0, r => some ([], r)
  | k + 1, r => match rdLine (listsOf [itemW]) 3 r with
    | some (y, t) => match rdItems k t with
      | some (l, u) => some (⟨geti y 0, geti y 1, geti y 2⟩ :: l, u)
      | none => none
    | none => none
def pumpR (r : List UInt8) : Bool := Lib.hasPrefix r [108, 101, 103, 32, 112, 117, 109, 112, 32]
def howW (b : Bool) : List ByteArray := [legW, if b = true then pumpW else keepW]
def rdLegs : Nat → List UInt8 → Option (List Leg × List UInt8)
  | 0, r => some ([], r)
  | k + 1, r => match rdLine (listsOf (howW (pumpR r))) 6 r with
    | some (x, t) => match rdItems (geti x 5).toNat t with
      | some (is, u) => match rdLegs k u with
        | some (l, v) => some (⟨is, pumpR r, geti x 0, ⟨geti x 1, geti x 2⟩, ⟨geti x 3, geti x 4⟩⟩ :: l, v)
        | none => none
      | none => none
    | none => none
def rdTrip (r : List UInt8) : Option (Spn × List Leg × List UInt8) := match rdLine (listsOf [tripW]) 3 r with
  | some (x, t) => match rdLegs (geti x 2).toNat t with
    | some (l, u) => some (⟨geti x 0, geti x 1⟩, l, u)
    | none => none
  | none => none
theorem list3 {l : List Int} (h : l.length = 3) : l = [geti l 0, geti l 1, geti l 2] := by
  match l, h with
  | [a, b, c], _ => rfl
theorem list6 {l : List Int} (h : l.length = 6) : l = [geti l 0, geti l 1, geti l 2, geti l 3, geti l 4, geti l 5] := by
  match l, h with
  | [a, b, c, d, e, f], _ => rfl
theorem free_item : ∀ w ∈ listsOf [itemW], (32 : UInt8) ∉ w ∧ (10 : UInt8) ∉ w := by decide
theorem free_trip : ∀ w ∈ listsOf [tripW], (32 : UInt8) ∉ w ∧ (10 : UInt8) ∉ w := by decide
theorem free_leg (b : Bool) : ∀ w ∈ listsOf (howW b), (32 : UInt8) ∉ w ∧ (10 : UInt8) ∉ w := by cases b <;> decide
def ItmR (i : Itm) : Prop := ∀ n ∈ itmN i, NumR n
structure LegR (g : Leg) : Prop where
  n : ∀ n ∈ legN g, NumR n
  i : ∀ i ∈ g.items, ItmR i
theorem rdItems_iff : ∀ {k : Nat} {r t : List UInt8} {l : List Itm}, rdItems k r = some (l, t) ↔ l.length = k ∧ (∀ i ∈ l, ItmR i) ∧ r = itemsC l ++ t
  | 0, r, t, l => by
    simp only [rdItems, Option.some.injEq, Prod.mk.injEq]
    constructor
    · rintro ⟨rfl, rfl⟩; simp [itemsC]
    · rintro ⟨h, _, rfl⟩
      obtain rfl := List.length_eq_zero_iff.1 h
      simp [itemsC]
  | k + 1, r, t, l => by
    simp only [rdItems]
    constructor
    · intro h
      split at h
      · rename_i y u hy
        split at h
        · rename_i m v hm
          simp only [Option.some.injEq, Prod.mk.injEq] at h
          obtain ⟨rfl, rfl⟩ := h
          obtain ⟨h1, h2, h3⟩ := (rdB_iff (by simp) free_item).1 hy
          obtain ⟨g1, g2, g3⟩ := rdItems_iff.1 hm
          have e := list3 h1
          refine ⟨by simp [g1], fun i hi => ?_, ?_⟩
          · rcases List.mem_cons.1 hi with rfl | hi
            · intro n hn
              exact h2 n (by rw [e]; simpa [itmN] using hn)
            · exact g2 i hi
          · rw [h3, g3]
            simp only [itemsC, List.map_cons, List.flatten_cons, itmN, ← e, List.append_assoc]
        · cases h
      · cases h
    · rintro ⟨h1, h2, h3⟩
      cases l with
      | nil => simp at h1
      | cons i l =>
        have hy : rdLine (listsOf [itemW]) 3 r = some (itmN i, itemsC l ++ t) := (rdB_iff (by simp) free_item).2 ⟨rfl, h2 i (by simp), by rw [h3]; simp [itemsC]⟩
        rw [hy]
        simp only
        rw [rdItems_iff.2 ⟨by simpa using h1, fun x hx => h2 x (List.mem_cons_of_mem _ hx), rfl⟩]
        rfl
theorem pump_line (b : Bool) {ns : List Int} (t : List UInt8) (h : ns ≠ []) : pumpR (lineB (howW b) ns ++ t) = b := by
  cases ns with
  | nil => exact absurd rfl h
  | cons n ns =>
    cases b
    · simp [pumpR, lineB, howW, joinB, legW, keepW, numsB, Lib.join, List.intercalate, bytesOf, Lib.hasPrefix, List.isPrefixOf]
    · simp [pumpR, lineB, howW, joinB, legW, pumpW, numsB, Lib.join, List.intercalate, bytesOf, Lib.hasPrefix, List.isPrefixOf]
theorem legWs_how (g : Leg) : legWs g = howW g.pump := rfl
theorem rdLegs_iff : ∀ {k : Nat} {r t : List UInt8} {l : List Leg}, rdLegs k r = some (l, t) ↔ l.length = k ∧ (∀ g ∈ l, LegR g) ∧ r = legsC l ++ t
  | 0, r, t, l => by
    simp only [rdLegs, Option.some.injEq, Prod.mk.injEq]
    constructor
    · rintro ⟨rfl, rfl⟩; simp [legsC]
    · rintro ⟨h, _, rfl⟩
      obtain rfl := List.length_eq_zero_iff.1 h
      simp [legsC]
  | k + 1, r, t, l => by
    simp only [rdLegs]
    constructor
    · intro h
      split at h
      · rename_i x u hx
        split at h
        · rename_i is v hi
          split at h
          · rename_i m w hm
            simp only [Option.some.injEq, Prod.mk.injEq] at h
            obtain ⟨rfl, rfl⟩ := h
            obtain ⟨h1, h2, h3⟩ := (rdB_iff (by simp [howW]) (free_leg _)).1 hx
            obtain ⟨g1, g2, g3⟩ := rdItems_iff.1 hi
            obtain ⟨k1, k2, k3⟩ := rdLegs_iff.1 hm
            have e := list6 h1
            have h5 : NumR (geti x 5) := h2 _ (by rw [e]; simp [geti])
            have e5 : ((is.length : Nat) : Int) = geti x 5 := by rw [g1]; exact Int.toNat_of_nonneg h5.1
            have eN : legN ⟨is, pumpR r, geti x 0, ⟨geti x 1, geti x 2⟩, ⟨geti x 3, geti x 4⟩⟩ = x := by
              simp only [legN, e5]; exact e.symm
            refine ⟨by simp [k1], fun g hg => ?_, ?_⟩
            · rcases List.mem_cons.1 hg with rfl | hg
              · exact ⟨fun n hn => h2 n (by rw [eN] at hn; exact hn), g2⟩
              · exact k2 g hg
            · have eC : legC ⟨is, pumpR r, geti x 0, ⟨geti x 1, geti x 2⟩, ⟨geti x 3, geti x 4⟩⟩ = lineB (howW (pumpR r)) x ++ itemsC is := by
                simp only [legC, eN, legWs_how]
              simp only [legsC, List.map_cons, List.flatten_cons, eC]
              rw [List.append_assoc, List.append_assoc]
              refine h3.trans ?_
              rw [g3, k3]; rfl
          · cases h
        · cases h
      · cases h
    · rintro ⟨h1, h2, h3⟩
      cases l with
      | nil => simp at h1
      | cons g l =>
        have hg := h2 g (by simp)
        have hr : r = lineB (howW g.pump) (legN g) ++ (itemsC g.items ++ (legsC l ++ t)) := by rw [h3]; simp [legsC, legC, legWs_how]
        have hp : pumpR r = g.pump := by rw [hr]; exact pump_line _ _ (by simp [legN])
        have hy : rdLine (listsOf (howW (pumpR r))) 6 r = some (legN g, itemsC g.items ++ (legsC l ++ t)) := (rdB_iff (by simp [howW]) (free_leg _)).2 ⟨rfl, hg.n, by rw [hp]; exact hr⟩
        rw [hy]
        simp only
        have e5 : (geti (legN g) 5).toNat = g.items.length := by simp [geti, legN]
        rw [e5, rdItems_iff.2 ⟨rfl, hg.i, rfl⟩]
        simp only
        rw [rdLegs_iff.2 ⟨by simpa using h1, fun x hx => h2 x (List.mem_cons_of_mem _ hx), rfl⟩, hp]
        rfl
structure TripR (fuel : Spn) (legs : List Leg) : Prop where
  n : ∀ n ∈ headN fuel legs, NumR n
  l : ∀ g ∈ legs, LegR g
theorem rdTrip_iff {r t : List UInt8} {fuel : Spn} {legs : List Leg} : rdTrip r = some (fuel, legs, t) ↔ TripR fuel legs ∧ r = sheetB fuel legs ++ t := by
  rw [sheetB_eq]
  unfold rdTrip
  constructor
  · intro h
    split at h
    · rename_i x u hx
      split at h
      · rename_i l v hl
        simp only [Option.some.injEq, Prod.mk.injEq] at h
        obtain ⟨rfl, rfl, rfl⟩ := h
        obtain ⟨h1, h2, h3⟩ := (rdB_iff (by simp) free_trip).1 hx
        obtain ⟨k1, k2, k3⟩ := rdLegs_iff.1 hl
        have e := list3 h1
        have h5 : NumR (geti x 2) := h2 _ (by rw [e]; simp [geti])
        have e5 : ((l.length : Nat) : Int) = geti x 2 := by rw [k1]; exact Int.toNat_of_nonneg h5.1
        have eN : headN ⟨geti x 0, geti x 1⟩ l = x := by
          simp only [headN, e5]; exact e.symm
        refine ⟨⟨fun n hn => h2 n (by rw [eN] at hn; exact hn), k2⟩, ?_⟩
        rw [eN, h3, k3, List.append_assoc]
      · cases h
    · cases h
  · rintro ⟨hR, rfl⟩
    have hy : rdLine (listsOf [tripW]) 3 (lineB [tripW] (headN fuel legs) ++ legsC legs ++ t) = some (headN fuel legs, legsC legs ++ t) := (rdB_iff (by simp) free_trip).2 ⟨rfl, hR.n, by simp⟩
    rw [hy]
    simp only
    have e5 : (geti (headN fuel legs) 2).toNat = legs.length := by simp [geti, headN]
    rw [e5, rdLegs_iff.2 ⟨rfl, hR.l, rfl⟩]
    rfl
end Go.Qg


namespace Go.Qg
open Go.Proofs Go.RowKit Go.Lib
set_option maxRecDepth 100000
def DigB (c : UInt8) : Prop := 48 ≤ c.toNat ∧ c.toNat ≤ 57
def D1 (a b : List UInt8) : Prop := ∃ p d d' q, a = p ++ d :: q ∧ b = p ++ d' :: q ∧ DigB d ∧ DigB d' ∧ d ≠ d'
theorem D1.irrefl {a : List UInt8} : ¬ D1 a a := by
  rintro ⟨p, d, d', q, h1, h2, _, _, h3⟩
  rw [h1] at h2
  exact h3 (List.cons.inj (List.append_cancel_left h2)).1
theorem sep_unique {c : UInt8} : ∀ {x x' y y' : List UInt8}, c ∉ x → c ∉ x' → x ++ c :: y = x' ++ c :: y' → x = x' ∧ y = y' := by
  intro x x' y y' h h' e
  have e2 := splL_app y h
  rw [e, splL_app y' h'] at e2
  obtain rfl := (List.cons.inj e2).1
  exact ⟨rfl, (List.cons.inj (List.append_cancel_left e)).2⟩
theorem D1.sep {c : UInt8} (hc : ¬ DigB c) {x x' y y' : List UInt8} (h : c ∉ x) (h' : c ∉ x') (hd : D1 (x ++ c :: y) (x' ++ c :: y')) : (x = x' ∧ D1 y y') ∨ (D1 x x' ∧ y = y') := by
  obtain ⟨p, d, d', q, h1, h2, hd1, hd2, hne⟩ := hd
  have hcd : c ≠ d := fun e => hc (e ▸ hd1)
  have hcd' : c ≠ d' := fun e => hc (e ▸ hd2)
  rcases List.append_eq_append_iff.1 h1 with ⟨r, hp, hr⟩ | ⟨r, hx, hr⟩
  · -- p = x ++ r
    cases r with
    | nil => exact absurd (List.cons.inj hr).1 hcd
    | cons z r =>
      obtain ⟨hz, hy⟩ := List.cons.inj hr
      subst hz
      rw [hp, List.append_assoc, List.cons_append] at h2
      obtain ⟨e1, e2⟩ := sep_unique h' h h2
      exact .inl ⟨e1.symm, r, d, d', q, hy, e2, hd1, hd2, hne⟩
  · -- x = p ++ r
    cases r with
    | nil => exact absurd (List.cons.inj hr).1.symm hcd
    | cons z r =>
      obtain ⟨hz, hq⟩ := List.cons.inj hr
      subst hz
      have hfree : c ∉ p ++ d' :: r := by
        rw [hx] at h
        simp only [List.mem_append, List.mem_cons, not_or] at h ⊢
        exact ⟨h.1, hcd', h.2.2⟩
      have h3 : x' ++ c :: y' = (p ++ d' :: r) ++ c :: y := by rw [h2, hq]; simp
      obtain ⟨e1, e2⟩ := sep_unique h' hfree h3
      exact .inr ⟨⟨p, d, d', r, hx, e1, hd1, hd2, hne⟩, e2.symm⟩
theorem D1.mem {c : UInt8} (hc : ¬ DigB c) {a b : List UInt8} (h : D1 a b) : c ∈ a ↔ c ∈ b := by
  obtain ⟨p, d, d', q, rfl, rfl, h1, h2, _⟩ := h
  have e1 : c ≠ d := fun e => hc (e ▸ h1)
  have e2 : c ≠ d' := fun e => hc (e ▸ h2)
  simp [e1, e2]
theorem dig32 : ¬ DigB 32 := by unfold DigB; decide
theorem dig10 : ¬ DigB 10 := by unfold DigB; decide
theorem D1.words : ∀ {W W' : List (List UInt8)}, W ≠ [] → W' ≠ [] → (∀ w ∈ W, (32 : UInt8) ∉ w) → (∀ w ∈ W', (32 : UInt8) ∉ w) → D1 (Lib.join W [32]) (Lib.join W' [32]) → ∃ U w w' V, W = U ++ w :: V ∧ W' = U ++ w' :: V ∧ D1 w w'
  | [], _, h, _, _, _, _ => absurd rfl h
  | _, [], _, h, _, _, _ => absurd rfl h
  | [w], [w'], _, _, _, _, h => ⟨[], w, w', [], rfl, rfl, by rwa [Lib.join_one, Lib.join_one] at h⟩
  | [w], w' :: v :: W', _, _, h1, _, h => by
    rw [Lib.join_one, join_two] at h
    exact absurd ((h.mem dig32).2 (by simp)) (h1 w (by simp))
  | w :: v :: W, [w'], _, _, _, h2, h => by
    rw [Lib.join_one, join_two] at h
    exact absurd ((h.mem dig32).1 (by simp)) (h2 w' (by simp))
  | w :: v :: W, w' :: v' :: W', _, _, h1, h2, h => by
    rw [join_two, join_two, List.singleton_append, List.singleton_append] at h
    rcases h.sep dig32 (h1 w (by simp)) (h2 w' (by simp)) with ⟨rfl, h3⟩ | ⟨h3, h4⟩
    · obtain ⟨U, x, x', V, e1, e2, h5⟩ := D1.words (by simp) (by simp) (fun y hy => h1 y (List.mem_cons_of_mem _ hy)) (fun y hy => h2 y (List.mem_cons_of_mem _ hy)) h3
      exact ⟨w :: U, x, x', V, by rw [e1]; rfl, by rw [e2]; rfl, h5⟩
    · have e1 := parts_join (c := 32) (ps := v :: W) (by simp) fun y hy => h1 y (List.mem_cons_of_mem _ hy)
      have e2 := parts_join (c := 32) (ps := v' :: W') (by simp) fun y hy => h2 y (List.mem_cons_of_mem _ hy)
      rw [h4, e2] at e1
      exact ⟨[], w, w', v :: W, rfl, by rw [e1]; rfl, h3⟩
def valL (l : List UInt8) : Nat := l.foldl (fun n c => n * 10 + (c.toNat - 48)) 0
theorem valL_snoc (l : List UInt8) (c : UInt8) : valL (l ++ [c]) = valL l * 10 + (c.toNat - 48) := by simp [valL]
theorem valL_digits : ∀ (n u : Nat), u ≤ n → valL (Lib.decDigits u) = u
  | n, u, hu => by
    rw [Lib.decDigits]
    split
    · rename_i h
      show 0 * 10 + ((UInt8.ofNat (48 + u)).toNat - 48) = u
      rw [digit_toNat h]
      omega
    · cases n with
      | zero => omega
      | succ n =>
        rw [valL_snoc, valL_digits n (u / 10) (by omega), digit_toNat (by omega)]
        omega
theorem itoa_inj {m n : Int} (hm : 0 ≤ m) (hn : 0 ≤ n) (h : Lib.itoa m = Lib.itoa n) : m = n := by
  obtain ⟨u, rfl⟩ := Int.eq_ofNat_of_zero_le hm
  obtain ⟨v, rfl⟩ := Int.eq_ofNat_of_zero_le hn
  rw [Lib.itoa_nonneg, Lib.itoa_nonneg] at h
  have := congrArg valL h
  rw [valL_digits u u (Nat.le_refl _), valL_digits v v (Nat.le_refl _)] at this
  rw [this]
theorem snoc_ind {P : List UInt8 → Prop} (h0 : P []) (h1 : ∀ l c, P l → P (l ++ [c])) (l : List UInt8) : P l := by
  have : ∀ l : List UInt8, P l.reverse := by
    intro l
    induction l with
    | nil => exact h0
    | cons c l ih => rw [List.reverse_cons]; exact h1 _ _ ih
  have h := this l.reverse
  rwa [List.reverse_reverse] at h
theorem valL_D1 (p : List UInt8) (d d' : UInt8) (q : List UInt8) (h : DigB d) (h' : DigB d') (hne : d ≠ d') : (valL (p ++ d :: q) : Int) % 97 ≠ (valL (p ++ d' :: q) : Int) % 97 := by
  refine snoc_ind (P := fun q => (valL (p ++ d :: q) : Int) % 97 ≠ (valL (p ++ d' :: q) : Int) % 97) ?_ ?_ q
  · rw [valL_snoc, valL_snoc]
    have : d.toNat ≠ d'.toNat := fun e => hne (UInt8.toNat.inj e)
    unfold DigB at h h'
    omega
  · intro l c hl
    have e1 : p ++ d :: (l ++ [c]) = (p ++ d :: l) ++ [c] := by simp
    have e2 : p ++ d' :: (l ++ [c]) = (p ++ d' :: l) ++ [c] := by simp
    rw [e1, e2, valL_snoc, valL_snoc]
    omega
theorem itoa_D1 {m n : Int} (hm : 0 ≤ m) (hn : 0 ≤ n) (h : D1 (Lib.itoa m) (Lib.itoa n)) : m % 97 ≠ n % 97 := by
  obtain ⟨u, rfl⟩ := Int.eq_ofNat_of_zero_le hm
  obtain ⟨v, rfl⟩ := Int.eq_ofNat_of_zero_le hn
  rw [Lib.itoa_nonneg, Lib.itoa_nonneg] at h
  obtain ⟨p, d, d', q, h1, h2, h3, h4, h5⟩ := h
  have := valL_D1 p d d' q h3 h4 h5
  rwa [← h1, ← h2, valL_digits u u (Nat.le_refl _), valL_digits v v (Nat.le_refl _)] at this
structure Row where
  kind : Fin 4
  ns : List Int
def kindW : Fin 4 → List ByteArray
  | 0 => [tripW]
  | 1 => howW false
  | 2 => howW true
  | 3 => [itemW]
def Row.text (x : Row) : List UInt8 := lineB (kindW x.kind) x.ns
def RowsR (L : List Row) : Prop := ∀ x ∈ L, ∀ n ∈ x.ns, NumR n
def rowsC (L : List Row) : List UInt8 := (L.map Row.text).flatten
def rowsI' (L : List Row) : Int := (L.map fun x => sumI x.ns).sum
def Row.words (x : Row) : List (List UInt8) := listsOf (kindW x.kind) ++ x.ns.map Lib.itoa
theorem kind_ne (k : Fin 4) : listsOf (kindW k) ≠ [] := by revert k; decide
theorem kind_free : ∀ (k : Fin 4), ∀ w ∈ listsOf (kindW k), (32 : UInt8) ∉ w ∧ (10 : UInt8) ∉ w := by decide
theorem kind_dig : ∀ (k : Fin 4), ∀ w ∈ listsOf (kindW k), w ≠ [] ∧ ∀ c ∈ w, 57 < c.toNat := by decide
theorem row_text (x : Row) : x.text = Lib.join x.words [32] ++ [10] := by
  rw [Row.words, join_app _ (kind_ne _)]
  simp [Row.text, lineB, joinB, listsOf, bytesOf]
theorem row_free {x : Row} (h : ∀ n ∈ x.ns, NumR n) : ∀ w ∈ x.words, (32 : UInt8) ∉ w ∧ (10 : UInt8) ∉ w := fun w hw => by
  rcases List.mem_append.1 hw with hw | hw
  · exact kind_free _ w hw
  · obtain ⟨n, hn, rfl⟩ := List.mem_map.1 hw
    exact ⟨itoa_free (h n hn).1 (by decide), itoa_free (h n hn).1 (by decide)⟩
theorem row_ne (x : Row) : x.words ≠ [] := by simp [Row.words, kind_ne]
theorem foldl_sum : ∀ (l : List Int) (a : Int), l.foldl (· + ·) a = a + l.sum
  | [], a => by simp
  | x :: l, a => by rw [List.foldl_cons, foldl_sum l, List.sum_cons]; omega
theorem sumI_sum (l : List Int) : sumI l = l.sum := by rw [sumI, foldl_sum]; omega
theorem kind_split {K : Fin 4} {A U V : List (List UInt8)} {w : List UInt8} (hd : ∃ c ∈ w, c.toNat ≤ 57) (e : listsOf (kindW K) ++ A = U ++ w :: V) : ∃ r, U = listsOf (kindW K) ++ r ∧ A = r ++ w :: V := by
  rcases List.append_eq_append_iff.1 e with ⟨r, h1, h2⟩ | ⟨r, h1, h2⟩
  · exact ⟨r, h1, h2⟩
  · cases r with
    | nil => exact ⟨[], by rw [h1]; simp, h2.symm⟩
    | cons z r =>
      obtain ⟨hz, _⟩ := List.cons.inj h2
      subst hz
      obtain ⟨c, hc, hle⟩ := hd
      have := (kind_dig K w (by rw [h1]; simp)).2 c hc
      omega
theorem kind_same {K K' : Fin 4} {r r' : List (List UInt8)} (h : ∀ w ∈ r, ∃ c ∈ w, c.toNat ≤ 57) (h' : ∀ w ∈ r', ∃ c ∈ w, c.toNat ≤ 57) (e : listsOf (kindW K) ++ r = listsOf (kindW K') ++ r') : r = r' := by
  rcases List.append_eq_append_iff.1 e with ⟨s, h1, h2⟩ | ⟨s, h1, h2⟩
  · cases s with
    | nil => exact h2
    | cons z s =>
      obtain ⟨c, hc, hle⟩ := h z (by rw [h2]; simp)
      have := (kind_dig K' z (by rw [h1]; simp)).2 c hc
      omega
  · cases s with
    | nil => exact h2.symm
    | cons z s =>
      obtain ⟨c, hc, hle⟩ := h' z (by rw [h2]; simp)
      have := (kind_dig K z (by rw [h1]; simp)).2 c hc
      omega
theorem itoa_has {n : Int} (h : 0 ≤ n) : ∃ c ∈ Lib.itoa n, c.toNat ≤ 57 := by
  obtain ⟨u, rfl⟩ := Int.eq_ofNat_of_zero_le h
  have hm := digits_mem u u (Nat.le_refl _)
  have hn := digits_ne u
  rw [Lib.itoa_nonneg]
  cases hd : Lib.decDigits u with
  | nil => exact absurd hd hn
  | cons c l => rw [hd] at hm; exact ⟨c, by simp, (hm c (by simp)).2⟩
theorem map_inj : ∀ {a b : List Int}, (∀ n ∈ a, NumR n) → (∀ n ∈ b, NumR n) → a.map Lib.itoa = b.map Lib.itoa → a = b
  | [], [], _, _, _ => rfl
  | [], _ :: _, _, _, h => by simp at h
  | _ :: _, [], _, _, h => by simp at h
  | m :: a, n :: b, h1, h2, h => by
    simp only [List.map_cons, List.cons.injEq] at h
    rw [itoa_inj (h1 m (by simp)).1 (h2 n (by simp)).1 h.1, map_inj (fun x hx => h1 x (List.mem_cons_of_mem _ hx)) (fun x hx => h2 x (List.mem_cons_of_mem _ hx)) h.2]
theorem row_eq {x y : Row} (hx : ∀ n ∈ x.ns, NumR n) (hy : ∀ n ∈ y.ns, NumR n) (h : Lib.join x.words [32] = Lib.join y.words [32]) : x.ns = y.ns := by
  have e := congrArg (splL 32) h
  rw [parts_join (row_ne x) fun w hw => (row_free hx w hw).1, parts_join (row_ne y) fun w hw => (row_free hy w hw).1] at e
  refine map_inj hx hy (kind_same (fun w hw => ?_) (fun w hw => ?_) e)
  · obtain ⟨n, hn, rfl⟩ := List.mem_map.1 hw
    exact itoa_has (hx n hn).1
  · obtain ⟨n, hn, rfl⟩ := List.mem_map.1 hw
    exact itoa_has (hy n hn).1
theorem row_D1 {x y : Row} (hx : ∀ n ∈ x.ns, NumR n) (hy : ∀ n ∈ y.ns, NumR n) (h : D1 (Lib.join x.words [32]) (Lib.join y.words [32])) : sumI x.ns % 97 ≠ sumI y.ns % 97 := by
  obtain ⟨U, w, w', V, e1, e2, hd⟩ := D1.words (row_ne x) (row_ne y) (fun w hw => (row_free hx w hw).1) (fun w hw => (row_free hy w hw).1) h
  obtain ⟨p, d, d', q, h1, h2, h3, h4, h5⟩ := hd
  obtain ⟨r, g1, g2⟩ := kind_split ⟨d, by rw [h1]; simp, h3.2⟩ e1
  obtain ⟨r', k1, k2⟩ := kind_split ⟨d', by rw [h2]; simp, h4.2⟩ e2
  have hr : r = r' := kind_same (fun z hz => by
    obtain ⟨n, hn, rfl⟩ := List.mem_map.1 (show z ∈ x.ns.map Lib.itoa by rw [g2]; simp [hz])
    exact itoa_has (hx n hn).1) (fun z hz => by
    obtain ⟨n, hn, rfl⟩ := List.mem_map.1 (show z ∈ y.ns.map Lib.itoa by rw [k2]; simp [hz])
    exact itoa_has (hy n hn).1) (g1.symm.trans k1)
  subst hr
  obtain ⟨a, b, f1, f2, f3⟩ := List.map_eq_append_iff.1 g2
  obtain ⟨n, b2, rfl, f4, f5⟩ := List.map_eq_cons_iff.1 f3
  obtain ⟨a', b', t1, t2, t3⟩ := List.map_eq_append_iff.1 k2
  obtain ⟨m, b2', rfl, t4, t5⟩ := List.map_eq_cons_iff.1 t3
  rw [f1] at hx ⊢
  rw [t1] at hy ⊢
  have ea : a = a' := map_inj (fun z hz => hx z (by simp [hz])) (fun z hz => hy z (by simp [hz])) (f2.trans t2.symm)
  have eb : b2 = b2' := map_inj (fun z hz => hx z (by simp [hz])) (fun z hz => hy z (by simp [hz])) (f5.trans t5.symm)
  subst ea eb
  have hnm := itoa_D1 (hx n (by simp)).1 (hy m (by simp)).1 ⟨p, d, d', q, f4.trans h1, t4.trans h2, h3, h4, h5⟩
  simp only [sumI_sum, List.sum_append, List.sum_cons]
  omega
def EndL (E : List UInt8) : Prop := ∃ t, E = 101 :: t
theorem kind_head : ∀ k : Fin 4, ∃ c t, Lib.join (listsOf (kindW k)) [32] = c :: t ∧ c ≠ 101 ∧ 57 < c.toNat
  | 0 => ⟨116, [114, 105, 112], by decide⟩
  | 1 => ⟨108, [101, 103, 32, 107, 101, 101, 112], by decide⟩
  | 2 => ⟨108, [101, 103, 32, 112, 117, 109, 112], by decide⟩
  | 3 => ⟨105, [116, 101, 109], by decide⟩
theorem row_head (x : Row) : ∃ c t, x.text = c :: t ∧ c ≠ 101 ∧ 57 < c.toNat := by
  obtain ⟨c, t, h1, h2, h3⟩ := kind_head x.kind
  exact ⟨c, t ++ numsB x.ns ++ [10], by rw [row_text, Row.words, join_app _ (kind_ne _), h1]; simp, h2, h3⟩
theorem D1.head {c c' : UInt8} {t t' : List UInt8} (h : D1 (c :: t) (c' :: t')) (hc : ¬ DigB c) : c = c' := by
  obtain ⟨p, d, d', q, h1, h2, h3, _, _⟩ := h
  cases p with
  | nil => exact absurd ((List.cons.inj h1).1 ▸ h3) hc
  | cons z p => exact (List.cons.inj h1).1.trans (List.cons.inj h2).1.symm
theorem rowsC_cons (x : Row) (L : List Row) (E : List UInt8) : rowsC (x :: L) ++ E = Lib.join x.words [32] ++ 10 :: (rowsC L ++ E) := by
  simp [rowsC, row_text]
theorem rows_eq : ∀ {L L' : List Row} {E E' : List UInt8}, RowsR L → RowsR L' → EndL E → EndL E' → rowsC L ++ E = rowsC L' ++ E' → rowsI' L = rowsI' L' ∧ E = E'
  | [], [], _, _, _, _, _, _, h => ⟨rfl, by simpa [rowsC] using h⟩
  | [], y :: L', E, E', _, _, ⟨t, ht⟩, _, h => by
    obtain ⟨c, u, h1, h2, _⟩ := row_head y
    simp only [rowsC, List.map_cons, List.flatten_cons, h1, ht, List.map_nil, List.flatten_nil, List.nil_append, List.cons_append] at h
    exact absurd (List.cons.inj h).1.symm h2
  | x :: L, [], E, E', _, _, _, ⟨t, ht⟩, h => by
    obtain ⟨c, u, h1, h2, _⟩ := row_head x
    simp only [rowsC, List.map_cons, List.flatten_cons, h1, ht, List.map_nil, List.flatten_nil, List.nil_append, List.cons_append] at h
    exact absurd (List.cons.inj h).1 h2
  | x :: L, y :: L', E, E', hL, hL', hE, hE', h => by
    rw [rowsC_cons, rowsC_cons] at h
    have hx := hL x (by simp)
    have hy := hL' y (by simp)
    obtain ⟨h1, h2⟩ := sep_unique (join_free (by decide) fun w hw => (row_free hx w hw).2) (join_free (by decide) fun w hw => (row_free hy w hw).2) h
    obtain ⟨k1, k2⟩ := rows_eq (fun z hz => hL z (List.mem_cons_of_mem _ hz)) (fun z hz => hL' z (List.mem_cons_of_mem _ hz)) hE hE' h2
    refine ⟨?_, k2⟩
    simp only [rowsI', List.map_cons, List.sum_cons] at k1 ⊢
    rw [row_eq hx hy h1, k1]
theorem rows_D1 : ∀ {L L' : List Row} {E E' : List UInt8}, RowsR L → RowsR L' → EndL E → EndL E' → D1 (rowsC L ++ E) (rowsC L' ++ E') → (rowsI' L % 97 ≠ rowsI' L' % 97 ∧ E = E') ∨ (rowsI' L = rowsI' L' ∧ D1 E E')
  | [], [], _, _, _, _, _, _, h => .inr ⟨rfl, by simpa [rowsC] using h⟩
  | [], y :: L', E, E', _, _, ⟨t, ht⟩, _, h => by
    obtain ⟨c, u, h1, h2, _⟩ := row_head y
    simp only [rowsC, List.map_cons, List.flatten_cons, h1, ht, List.map_nil, List.flatten_nil, List.nil_append, List.cons_append] at h
    exact absurd (h.head (by unfold DigB; decide)).symm h2
  | x :: L, [], E, E', _, _, _, ⟨t, ht⟩, h => by
    obtain ⟨c, u, h1, h2, h3⟩ := row_head x
    simp only [rowsC, List.map_cons, List.flatten_cons, h1, ht, List.map_nil, List.flatten_nil, List.nil_append, List.cons_append] at h
    exact absurd (h.head (by unfold DigB; omega)) h2
  | x :: L, y :: L', E, E', hL, hL', hE, hE', h => by
    rw [rowsC_cons, rowsC_cons] at h
    have hx := hL x (by simp)
    have hy := hL' y (by simp)
    have hL2 : RowsR L := fun z hz => hL z (List.mem_cons_of_mem _ hz)
    have hL2' : RowsR L' := fun z hz => hL' z (List.mem_cons_of_mem _ hz)
    rcases h.sep dig10 (join_free (by decide) fun w hw => (row_free hx w hw).2) (join_free (by decide) fun w hw => (row_free hy w hw).2) with ⟨h1, h2⟩ | ⟨h1, h2⟩
    · have e := row_eq hx hy h1
      rcases rows_D1 hL2 hL2' hE hE' h2 with ⟨k1, k2⟩ | ⟨k1, k2⟩
      · refine .inl ⟨?_, k2⟩
        simp only [rowsI', List.map_cons, List.sum_cons] at k1 ⊢
        rw [e]
        omega
      · refine .inr ⟨?_, k2⟩
        simp only [rowsI', List.map_cons, List.sum_cons] at k1 ⊢
        rw [e, k1]
    · obtain ⟨k1, k2⟩ := rows_eq hL2 hL2' hE hE' h2
      have hd := row_D1 hx hy h1
      refine .inl ⟨?_, k2⟩
      simp only [rowsI', List.map_cons, List.sum_cons] at k1 ⊢
      rw [k1]
      omega
theorem lastB_eq (s : Int) : lastB s = [101, 110, 100, 32, UInt8.ofNat (48 + (s % 97 / 10).toNat), UInt8.ofNat (48 + (s % 97 % 10).toNat), 10] := by
  have key : ∀ z : Int, 0 ≤ z → z < 10 → Lib.itoa z = [UInt8.ofNat (48 + z.toNat)] := fun z h0 h1 => by
    obtain ⟨u, rfl⟩ := Int.eq_ofNat_of_zero_le h0
    rw [Lib.itoa_nonneg, Lib.decDigits_one (by omega)]
    rfl
  have h1 := key (s % 97 / 10) (by omega) (by omega)
  have h2 := key (s % 97 % 10) (by omega) (by omega)
  rw [lastB, h1, h2]
  rfl
theorem lastB_inj {s t : Int} (h : lastB s = lastB t) : s % 97 = t % 97 := by
  rw [lastB_eq, lastB_eq] at h
  simp only [List.cons.injEq, true_and, and_true] at h
  have h1 := congrArg UInt8.toNat h.1
  have h2 := congrArg UInt8.toNat h.2
  rw [digit_toNat (by omega), digit_toNat (by omega)] at h1 h2
  omega
theorem end_last (s : Int) : EndL (lastB s) := ⟨_, lastB_eq s⟩
theorem no_D1 {L L' : List Row} (h : RowsR L) (h' : RowsR L') : ¬ D1 (rowsC L ++ lastB (rowsI' L)) (rowsC L' ++ lastB (rowsI' L')) := fun hd => by
  rcases rows_D1 h h' (end_last _) (end_last _) hd with ⟨h1, h2⟩ | ⟨h1, h2⟩
  · exact h1 (lastB_inj h2)
  · rw [h1] at h2
    exact h2.irrefl
def rowsL (g : Leg) : List Row := ⟨if g.pump = true then 2 else 1, legN g⟩ :: g.items.map fun i => ⟨3, itmN i⟩
def rowsT (fuel : Spn) (legs : List Leg) : List Row := ⟨0, headN fuel legs⟩ :: (legs.map rowsL).flatten
theorem rowsC_app (a b : List Row) : rowsC (a ++ b) = rowsC a ++ rowsC b := by simp [rowsC]
theorem rowsI_app (a b : List Row) : rowsI' (a ++ b) = rowsI' a + rowsI' b := by simp [rowsI']
theorem rowsC_items (l : List Itm) : rowsC (l.map fun i => ⟨3, itmN i⟩) = itemsC l := by
  simp [rowsC, itemsC, Row.text, kindW, Function.comp_def]
theorem rowsI_items (l : List Itm) : rowsI' (l.map fun i => ⟨3, itmN i⟩) = itemsI l := by
  simp [rowsI', itemsI, Function.comp_def]
theorem rowsC_leg (g : Leg) : rowsC (rowsL g) = legC g := by
  have e : rowsC (rowsL g) = Row.text ⟨if g.pump = true then 2 else 1, legN g⟩ ++ rowsC (g.items.map fun i => ⟨3, itmN i⟩) := rfl
  rw [e, rowsC_items, legC, legWs_how]
  cases g.pump <;> rfl
theorem rowsI_leg (g : Leg) : rowsI' (rowsL g) = legI g := by
  have e : rowsI' (rowsL g) = sumI (legN g) + rowsI' (g.items.map fun i => ⟨3, itmN i⟩) := rfl
  rw [e, rowsI_items, legI]
theorem rowsC_legs : ∀ l : List Leg, rowsC (l.map rowsL).flatten = legsC l
  | [] => rfl
  | g :: l => by rw [List.map_cons, List.flatten_cons, rowsC_app, rowsC_leg, rowsC_legs l]; rfl
theorem rowsI_legs : ∀ l : List Leg, rowsI' (l.map rowsL).flatten = legsI l
  | [] => rfl
  | g :: l => by rw [List.map_cons, List.flatten_cons, rowsI_app, rowsI_leg, rowsI_legs l]; rfl
theorem rowsC_trip (fuel : Spn) (legs : List Leg) : rowsC (rowsT fuel legs) = sheetB fuel legs := by
  rw [sheetB_eq, ← rowsC_legs]; rfl
theorem rowsI_trip (fuel : Spn) (legs : List Leg) : rowsI' (rowsT fuel legs) = sheetS fuel legs := by
  rw [sheetS_eq, ← rowsI_legs]; rfl
theorem rows_trip {fuel : Spn} {legs : List Leg} (h : TripR fuel legs) : RowsR (rowsT fuel legs) := fun x hx => by
  rcases List.mem_cons.1 hx with rfl | hx
  · exact h.n
  · obtain ⟨R, hR, hx⟩ := List.mem_flatten.1 hx
    obtain ⟨g, hg, rfl⟩ := List.mem_map.1 hR
    have hG := h.l g hg
    rcases List.mem_cons.1 hx with rfl | hx
    · exact hG.n
    · obtain ⟨i, hi, rfl⟩ := List.mem_map.1 hx
      exact hG.i i hi
theorem sheets_D1 {f f' : Spn} {l l' : List Leg} (h : TripR f l) (h' : TripR f' l') : ¬ D1 (sheetB f l ++ lastB (sheetS f l)) (sheetB f' l' ++ lastB (sheetS f' l')) := by
  rw [← rowsC_trip, ← rowsC_trip, ← rowsI_trip, ← rowsI_trip]
  exact no_D1 (rows_trip h) (rows_trip h')
end Go.Qg



namespace Go.Qg
open Go.Proofs Go.RowKit Go.Lib
set_option maxRecDepth 100000
def sheetT (fuel : Spn) (legs : List Leg) : List UInt8 := sheetB fuel legs ++ lastB (sheetS fuel legs)
def readE (text : List UInt8) : Int × Spn × List Leg :=
  if 20000 < text.length then (3, ⟨0, 0⟩, []) else match rdTrip text with
    | some (f, l, u) => if u ≠ lastB (sheetS f l) then (4, ⟨0, 0⟩, []) else if tripE f l 8 ≠ 0 then (2, ⟨0, 0⟩, []) else (0, f, l)
    | none => (4, ⟨0, 0⟩, [])
theorem tripR_of {fuel : Spn} {legs : List Leg} (h : tripE fuel legs 8 = 0) : TripR fuel legs := by
  obtain ⟨h1, h2, h3⟩ := numL_all h
  refine ⟨fun n hn => ?_, fun g hg => ?_⟩
  · simp only [headN, List.mem_cons, List.not_mem_nil, or_false] at hn
    rcases hn with rfl | rfl | rfl <;> unfold NumR <;> omega
  · obtain ⟨k, hk, rfl⟩ := List.mem_iff_getElem.1 hg
    have e : legAt legs k = legs[k] := by simp [legAt, hk]
    have hL := h3 k hk
    rw [e] at hL
    refine ⟨fun n hn => ?_, fun i hi n hn => ?_⟩
    · have := hL.a n hn
      unfold NumR; omega
    · obtain ⟨j, hj, rfl⟩ := List.mem_iff_getElem.1 hi
      have hI := hL.i j hj
      have e2 : itmAt legs[k].items j = legs[k].items[j] := by simp [itmAt, hj]
      rw [e2] at hI
      have := hI.a n hn
      unfold NumR; omega
theorem sheetT_len {fuel : Spn} {legs : List Leg} (h : tripE fuel legs 8 = 0) : (sheetT fuel legs).length ≤ 20000 := by
  obtain ⟨h1, h2, h3⟩ := numL_all h
  have hb := (legs_bound (legs := legs) (T := lineB [tripW] (headN fuel legs)) (x := sumI (headN fuel legs)) legs.length h3).1
  have h0 := lineB_len (ws := [tripW]) (ns := headN fuel legs) (a := 4) (by rw [join_trip]; simp) fun y hy => by
    simp only [headN, List.mem_cons, List.not_mem_nil, or_false] at hy
    rcases hy with rfl | rfl | rfl <;> omega
  have e3 : (headN fuel legs).length = 3 := rfl
  have hl := lastB_len (sum := sheetS fuel legs)
  rw [e3] at h0
  have e : (sheetT fuel legs).length = (legsTo legs (lineB [tripW] (headN fuel legs)) legs.length).length + (lastB (sheetS fuel legs)).length := by
    rw [sheetT, List.length_append]; rfl
  omega
theorem D1.len {a b : List UInt8} (h : D1 a b) : a.length = b.length := by
  obtain ⟨p, d, d', q, rfl, rfl, _⟩ := h
  simp
theorem read_spoilt {fuel : Spn} {legs : List Leg} {text : List UInt8} (h : tripE fuel legs 8 = 0) (hd : D1 (sheetT fuel legs) text) : readE text = (4, ⟨0, 0⟩, []) := by
  have h1 := sheetT_len h
  have h2 := hd.len
  unfold readE
  rw [if_neg (by omega)]
  cases hr : rdTrip text with
  | none => rfl
  | some x =>
    obtain ⟨f, l, u⟩ := x
    simp only
    by_cases hu : u = lastB (sheetS f l)
    · obtain ⟨g1, g2⟩ := rdTrip_iff.1 hr
      rw [hu] at g2
      rw [g2] at hd
      exact absurd hd (sheets_D1 (tripR_of h) g1)
    · rw [if_pos hu]
end Go.Qg


namespace Go.Qg
open Go.Proofs Go.RowKit Go.Lib
set_option maxRecDepth 100000
set_option maxHeartbeats 16000000
attribute [local irreducible] pwp pops pdraw pop popCall pdCall thenP blockP scopeP pspec Spec answers ppost CallW rend
theorem u8_wrap {n : Int} (h : 0 ≤ n ∧ n ≤ 255) : IntKind.u8.wrap n = n := IntWalk.u8_in n h
theorem sumR_bound {l : List Int} (h : ∀ x ∈ l, NumR x) : 0 ≤ sumI l ∧ sumI l ≤ 10000000000 * l.length := sumI_bound fun y hy => by have := h y hy; unfold NumR at this; omega
end Go.Qg


namespace Go.Qg
open Go.Proofs Go.RowKit Go.Lib
set_option maxRecDepth 100000
set_option maxHeartbeats 16000000
attribute [local irreducible] pwp pops pdraw pop popCall pdCall thenP blockP scopeP pspec Spec answers ppost CallW rend
@[simp] theorem bytesOf_toList (l : List UInt8) : (bytesOf l).toList = l := ByteArray.toList_mk l
def strsB (l : List (List UInt8)) : PV := strsL (l.map bytesOf)
def splitAt (c : UInt8) (s : List UInt8) : Nat → List (List UInt8) × Nat
  | 0 => ([], 0)
  | i + 1 => if s.getD i 0 = c then ((splitAt c s i).1 ++ [(s.take i).drop (splitAt c s i).2], i + 1) else splitAt c s i
theorem splitAt_le (c : UInt8) (s : List UInt8) : ∀ i, (splitAt c s i).2 ≤ i ∧ (splitAt c s i).1.length ≤ i
  | 0 => by simp [splitAt]
  | i + 1 => by
    have := splitAt_le c s i
    simp only [splitAt]
    split
    · simp; omega
    · omega
theorem splitAt_parts (c : UInt8) (s : List UInt8) : ∀ i, i ≤ s.length → (splitAt c s i).1 ++ splL c (s.drop (splitAt c s i).2) = splL c s ∧ c ∉ (s.take i).drop (splitAt c s i).2
  | 0, _ => by simp [splitAt]
  | i + 1, h => by
    obtain ⟨h1, h2⟩ := splitAt_parts c s i (by omega)
    have hle := (splitAt_le c s i).1
    have hi : s.getD i 0 = s[i] := by simp [List.getD, show i < s.length from by omega]
    have hd : s.drop (splitAt c s i).2 = (s.take i).drop (splitAt c s i).2 ++ s.drop i := by
      have := List.take_append_drop (i - (splitAt c s i).2) (s.drop (splitAt c s i).2)
      rw [List.drop_drop, show (splitAt c s i).2 + (i - (splitAt c s i).2) = i from by omega] at this
      rw [← this, List.take_drop, show (splitAt c s i).2 + (i - (splitAt c s i).2) = i from by omega]
    have hc : s.drop i = s[i] :: s.drop (i + 1) := List.drop_eq_getElem_cons (by omega)
    simp only [splitAt]
    split
    · rename_i he
      rw [hi] at he
      refine ⟨?_, by simp⟩
      simp only
      rw [← h1, hd, hc, he, splL_app _ h2]
      simp
    · rename_i he
      rw [hi] at he
      refine ⟨h1, ?_⟩
      rw [List.take_add_one, List.drop_append_of_le_length (by simp; omega)]
      simp only [List.mem_append, not_or]
      refine ⟨h2, ?_⟩
      simp [show i < s.length from by omega]
      exact fun e => he e.symm
theorem splitAt_end (c : UInt8) (s : List UInt8) : (splitAt c s s.length).1 ++ [s.drop (splitAt c s s.length).2] = splL c s := by
  obtain ⟨h1, h2⟩ := splitAt_parts c s s.length (Nat.le_refl _)
  rw [List.take_length] at h2
  rw [← h1, splL_none h2]
theorem parts_len (c : UInt8) (s : List UInt8) : (splL c s).length ≤ s.length + 1 := by
  have := (splitAt_le c s s.length).2
  rw [← splitAt_end c s]
  simp; omega
theorem numsW_snoc (w : List UInt8) : ∀ a : List (List UInt8), numsW (a ++ [w]) = match numsW a, numW w with
    | some ns, some n => some (ns ++ [n])
    | _, _ => none
  | [] => by simp only [List.nil_append, numsW]; cases numW w <;> rfl
  | v :: a => by
    simp only [List.cons_append, numsW, numsW_snoc w a]
    cases numW v <;> cases numsW a <;> cases numW w <;> rfl
theorem numsW_none {a b : List (List UInt8)} (h : numsW a = none) : numsW (a ++ b) = none := by
  induction a with
  | nil => cases h
  | cons v a ih =>
    simp only [List.cons_append, numsW] at h ⊢
    cases hv : numW v with
    | none => rfl
    | some n =>
      rw [hv] at h
      cases ha : numsW a with
      | none => rw [ih ha]
      | some ns => rw [ha] at h; cases h
theorem numsW_len {a : List (List UInt8)} {ns : List Int} (h : numsW a = some ns) : ns.length = a.length := by
  have := congrArg List.length (numsW_iff.1 h).2
  simpa using this.symm
theorem take_cut {L : List (List UInt8)} {i n : Nat} (h : i < L.length) (hn : n ≤ i) : (L.take (i + 1)).drop n = (L.take i).drop n ++ [L.getD i []] := by
  rw [List.take_add_one, List.drop_append_of_le_length (by simp; omega)]
  simp [h, List.getD]
theorem join_mem_len {c : UInt8} {p : List UInt8} : ∀ {ps : List (List UInt8)}, p ∈ ps → p.length ≤ (Lib.join ps [c]).length
  | [], h => by cases h
  | [q], h => by
    obtain rfl := List.mem_singleton.1 h
    rw [Lib.join_one]; exact Nat.le_refl _
  | q :: q' :: ps, h => by
    rw [join_two]
    simp only [List.length_append]
    rcases List.mem_cons.1 h with rfl | h
    · omega
    · have := join_mem_len (c := c) h
      omega
end Go.Qg


namespace Go.Qg
open Go.Proofs Go.RowKit Go.Lib
set_option maxRecDepth 100000
theorem spec_of_below {P : Program} {f : FuncId} {ps : List PV} {r : PV} (hent : ∀ (vs : Array Value) (w : World), (callFunc f vs).run P w = .ok (.enter f vs) w)
    (h : ∀ (w : World) (vs : List Value) (R : Nat → Nat → Prop) (Γ : Nat → Option Loc) (Prot : Nat → Prop), tabOk Prot w → (∀ b o, R b o → b < w.heap.size) → vs.length = ps.length →
      (∀ (i : Nat) (u : Value) (p : PV), vs[i]? = some u → ps[i]? = some p → Rep w R Γ u p) → Calls P f vs.toArray w fun e w' => Below w.heap.size w w' ∧ ∃ u R', e = .returned u ∧ (∀ b o, R b o → R' b o) ∧ (∀ b o, R' b o → R b o ∨ (w.heap.size ≤ b ∧ b < w'.heap.size)) ∧ Rep w' R' Γ u r) : Spec P f ps r := by
  refine ⟨hent, fun w vs R Γ Prot hRp h0 hl hrep => (h w vs R Γ Prot h0.prot.tab h0.bnd hl hrep).mono ?_⟩
  rintro e w' ⟨hb, u, R', rfl, h1, h2, h3⟩
  exact ⟨R', Γ, .inl ⟨u, r, [], rfl, rfl, h3, h0.grown hb R' h1 h2, fun q hq => by cases hq⟩⟩
theorem rep_row {w' : World} {R : Nat → Nat → Prop} {Γ : Nat → Option Loc} {b n : Nat} {g : Nat → Value} (hg : ∀ i, (g i).oneCell' = true) (hn : n ≤ maxLen) (hc : ∀ i, i < n → w'.cell? ⟨b, i, none⟩ = some (g i)) :
    Rep w' (fun x o => R x o ∨ (x = b ∧ o < n)) Γ (.slice (some ⟨b, 0, none⟩) n n) (.sl 1 n fun i => [.v (g i)]) := by
  refine .sl (some ⟨b, 0, none⟩) n n 1 (fun i => [.v (g i)]) (fun i _ => g i) (Nat.le_refl _) hn (fun _ _ => rfl) (fun i j p _ hp => ?_) (fun i j hi hj => ⟨b, 0, rfl, .inr ⟨rfl, by omega⟩, ?_⟩) (fun i j p _ hp => ?_)
  · cases j with
    | zero => obtain rfl := Option.some.inj hp; exact ⟨rfl, rfl⟩
    | succ j => simp at hp
  · have : 0 + (i * 1 + j) = i := by omega
    rw [this]
    exact hc i hi
  · cases j with
    | zero => obtain rfl := Option.some.inj hp; exact .v _ (hg i)
    | succ j => simp at hp
end Go.Qg


namespace Go.Proofs
open Go.Shelf
def Tryz.laysC172_ren : Go.Shelf.Ren := ⟨fun | 172 => 153 | 244 => 162 | 245 => 163 | 247 => 173 | 279 => 174 | 280 => 175 | 281 => 176 | 282 => 177 | 287 => 190 | 316 => 191 | 171 => 125 | 205 => 192 | 321 => 198 | 322 => 199 | 243 => 150 | 246 => 159 | 283 => 165 | 284 => 166 | 285 => 167 | 286 => 168 | 129 => 179 | 317 => 178 | 318 => 180 | 319 => 181 | 320 => 182 | 337 => 193 | 338 => 194 | n => n, fun | 9 => 9 | 3 => 3 | 75 => 202 | 76 => 203 | 4 => 4 | 5 => 5 | 167 => 240 | 37 => 109 | 0 => 0 | 85 => 241 | 2 => 2 | 168 => 243 | 53 => 233 | 175 => 255 | 46 => 250 | 210 => 259 | 127 => 206 | 145 => 267 | 143 => 265 | 21 => 21 | 171 => 232 | 173 => 236 | 212 => 247 | 51 => 248 | 20 => 20 | 213 => 249 | 232 => 268 | 233 => 269 | 80 => 167 | n => n, fun | 15 => 2 | 16 => 3 | 17 => 1 | 18 => 4 | 19 => 5 | n => n⟩
theorem Tryz.laysC172 : Go.Proofs.LaysC.n172 Tryz.prog Tryz.laysC172_ren := {
  mixed := by kernel_rfl
  f129 := Tryz.func179.trans (congrArg some (by kernel_rfl))
  f171 := Tryz.func125.trans (congrArg some (by kernel_rfl))
  f172 := Tryz.func153.trans (congrArg some (by kernel_rfl))
  f205 := Tryz.func192.trans (congrArg some (by kernel_rfl))
  f243 := Tryz.func150.trans (congrArg some (by kernel_rfl))
  f244 := Tryz.func162.trans (congrArg some (by kernel_rfl))
  f245 := Tryz.func163.trans (congrArg some (by kernel_rfl))
  f246 := Tryz.func159.trans (congrArg some (by kernel_rfl))
  f247 := Tryz.func173.trans (congrArg some (by kernel_rfl))
  f279 := Tryz.func174.trans (congrArg some (by kernel_rfl))
  f280 := Tryz.func175.trans (congrArg some (by kernel_rfl))
  f281 := Tryz.func176.trans (congrArg some (by kernel_rfl))
  f282 := Tryz.func177.trans (congrArg some (by kernel_rfl))
  f283 := Tryz.func165.trans (congrArg some (by kernel_rfl))
  f284 := Tryz.func166.trans (congrArg some (by kernel_rfl))
  f285 := Tryz.func167.trans (congrArg some (by kernel_rfl))
  f286 := Tryz.func168.trans (congrArg some (by kernel_rfl))
  f287 := Tryz.func190.trans (congrArg some (by kernel_rfl))
  f316 := Tryz.func191.trans (congrArg some (by kernel_rfl))
  f317 := Tryz.func178.trans (congrArg some (by kernel_rfl))
  f318 := Tryz.func180.trans (congrArg some (by kernel_rfl))
  f319 := Tryz.func181.trans (congrArg some (by kernel_rfl))
  f320 := Tryz.func182.trans (congrArg some (by kernel_rfl))
  f321 := Tryz.func198.trans (congrArg some (by kernel_rfl))
  f322 := Tryz.func199.trans (congrArg some (by kernel_rfl))
  f337 := Tryz.func193.trans (congrArg some (by kernel_rfl))
  f338 := Tryz.func194.trans (congrArg some (by kernel_rfl))
  t0 := Tryz.underlying0
  a0 := Tryz.isAgg0
  z0 := Tryz.sizeOf0
  v0 := Tryz.zeroValue0
  t2 := Tryz.underlying2
  a2 := Tryz.isAgg2
  z2 := Tryz.sizeOf2
  v2 := Tryz.zeroValue2
  t3 := Tryz.underlying3
  a3 := Tryz.isAgg3
  z3 := Tryz.sizeOf3
  v3 := Tryz.zeroValue3
  t4 := Tryz.underlying4
  a4 := Tryz.isAgg4
  z4 := Tryz.sizeOf4
  v4 := Tryz.zeroValue4
  t5 := Tryz.underlying5
  a5 := Tryz.isAgg5
  z5 := Tryz.sizeOf5
  v5 := Tryz.zeroValue5
  t9 := Tryz.underlying9
  a9 := Tryz.isAgg9
  z9 := Tryz.sizeOf9
  v9 := Tryz.zeroValue9
  t20 := Tryz.underlying20
  a20 := Tryz.isAgg20
  z20 := Tryz.sizeOf20
  v20 := Tryz.zeroValue20
  t21 := Tryz.underlying21
  a21 := Tryz.isAgg21
  z21 := Tryz.sizeOf21
  v21 := Tryz.zeroValue21
  t37 := Tryz.underlying109
  a37 := Tryz.isAgg109
  z37 := Tryz.sizeOf109
  v37 := Tryz.zeroValue109
  t46 := Tryz.underlying250
  a46 := Tryz.isAgg250
  z46 := Tryz.sizeOf250
  v46 := Tryz.zeroValue250
  t51 := Tryz.underlying248
  a51 := Tryz.isAgg248
  z51 := Tryz.sizeOf248
  v51 := Tryz.zeroValue248
  t53 := Tryz.underlying233
  a53 := Tryz.isAgg233
  z53 := Tryz.sizeOf233
  v53 := Tryz.zeroValue233
  t75 := Tryz.underlying202
  a75 := Tryz.isAgg202
  z75 := Tryz.sizeOf202
  v75 := Tryz.zeroValue202
  t76 := Tryz.underlying203
  a76 := Tryz.isAgg203
  z76 := Tryz.sizeOf203
  v76 := Tryz.zeroValue203
  t85 := Tryz.underlying241
  a85 := Tryz.isAgg241
  z85 := Tryz.sizeOf241
  v85 := Tryz.zeroValue241
  t127 := Tryz.underlying206
  a127 := Tryz.isAgg206
  z127 := Tryz.sizeOf206
  v127 := Tryz.zeroValue206
  t143 := Tryz.underlying265
  a143 := Tryz.isAgg265
  z143 := Tryz.sizeOf265
  v143 := Tryz.zeroValue265
  t145 := Tryz.underlying267
  a145 := Tryz.isAgg267
  z145 := Tryz.sizeOf267
  v145 := Tryz.zeroValue267
  t167 := Tryz.underlying240
  a167 := Tryz.isAgg240
  z167 := Tryz.sizeOf240
  v167 := Tryz.zeroValue240
  t168 := Tryz.underlying243
  a168 := Tryz.isAgg243
  z168 := Tryz.sizeOf243
  v168 := Tryz.zeroValue243
  t171 := Tryz.underlying232
  a171 := Tryz.isAgg232
  z171 := Tryz.sizeOf232
  v171 := Tryz.zeroValue232
  t173 := Tryz.underlying236
  a173 := Tryz.isAgg236
  z173 := Tryz.sizeOf236
  v173 := Tryz.zeroValue236
  t175 := Tryz.underlying255
  a175 := Tryz.isAgg255
  z175 := Tryz.sizeOf255
  v175 := Tryz.zeroValue255
  t210 := Tryz.underlying259
  a210 := Tryz.isAgg259
  z210 := Tryz.sizeOf259
  v210 := Tryz.zeroValue259
  t212 := Tryz.underlying247
  a212 := Tryz.isAgg247
  z212 := Tryz.sizeOf247
  v212 := Tryz.zeroValue247
  t213 := Tryz.underlying249
  a213 := Tryz.isAgg249
  z213 := Tryz.sizeOf249
  t232 := Tryz.underlying268
  a232 := Tryz.isAgg268
  z232 := Tryz.sizeOf268
  v232 := Tryz.zeroValue268
  t233 := Tryz.underlying269
  a233 := Tryz.isAgg269
  z233 := Tryz.sizeOf269
  v233 := Tryz.zeroValue269
  g15 := by kernel_rfl
  g16 := by kernel_rfl
  g17 := by kernel_rfl
  g18 := by kernel_rfl
  g19 := by kernel_rfl
  t80 := Tryz.underlying167
  a80 := Tryz.isAgg167
  z80 := Tryz.sizeOf167
  v80 := Tryz.zeroValue167
  i0 := by kernel_rfl
  i2 := by kernel_rfl
  i3 := by kernel_rfl
  i4 := by kernel_rfl
  i5 := by kernel_rfl
  i9 := by kernel_rfl
  i20 := by kernel_rfl
  i21 := by kernel_rfl
  i37 := by kernel_rfl
  i46 := by kernel_rfl
  i51 := by kernel_rfl
  i53 := by kernel_rfl
  i75 := by kernel_rfl
  i76 := by kernel_rfl
  i80 := by kernel_rfl
  i85 := by kernel_rfl
  i127 := by kernel_rfl
  i143 := by kernel_rfl
  i145 := by kernel_rfl
  i167 := by kernel_rfl
  i168 := by kernel_rfl
  i171 := by kernel_rfl
  i173 := by kernel_rfl
  i175 := by kernel_rfl
  i210 := by kernel_rfl
  i212 := by kernel_rfl
  i232 := by kernel_rfl
  i233 := by kernel_rfl
  m15 := by kernel_rfl
  m16 := by kernel_rfl
  m17 := by kernel_rfl
  m18 := by kernel_rfl
  m19 := by kernel_rfl
  c0 := by kernel_rfl
  c2 := by kernel_rfl
  c3 := by kernel_rfl
  c4 := by kernel_rfl
  c5 := by kernel_rfl
  c9 := by kernel_rfl
  c20 := by kernel_rfl
  c21 := by kernel_rfl
  c37 := by kernel_rfl
  c46 := by kernel_rfl
  c51 := by kernel_rfl
  c53 := by kernel_rfl
  c75 := by kernel_rfl
  c76 := by kernel_rfl
  c80 := by kernel_rfl
  c85 := by kernel_rfl
  c127 := by kernel_rfl
  c143 := by kernel_rfl
  c145 := by kernel_rfl
  c167 := by kernel_rfl
  c168 := by kernel_rfl
  c171 := by kernel_rfl
  c173 := by kernel_rfl
  c175 := by kernel_rfl
  c210 := by kernel_rfl
  c212 := by kernel_rfl
  c213 := by kernel_rfl
  c232 := by kernel_rfl
  c233 := by kernel_rfl }
open Go.RowKit in
theorem Tryz.strconv_Atoi_ok (s : ByteArray) (hmax : s.size ≤ 9223372036854775806) (v : Int) (h : Lib.atoiAll s.data.toList = .ok v) (w : World) :
    Calls Tryz.prog 153 #[.string s] w fun e w' => e = .returned (.tuple #[.int .i64 v, .nilIface]) ∧ (w' = w ∨ ∃ t, w' = Lib.bytesWorld w 5 t) := Any.strconv_Atoi_ok Tryz.laysC172 s hmax v h w
open Go.RowKit in
theorem Tryz.strconv_Atoi_bad (s : ByteArray) (hlim : s.size ≤ 281474976710656) (h : Lib.atoiAll s.data.toList = Lib.atoiAll []) (ev : Value) (w : World) (hv : w.cell? ⟨2, 0, none⟩ = some ev) (hev : ev = .nilIface ∨ ∃ te pe, ev = .iface te pe) :
    Calls Tryz.prog 153 #[.string s] w fun e w' => ∃ N, e = .returned (.tuple #[.int .i64 (0), .iface 243 (.pointer (some ⟨N, 0, none⟩))]) ∧ w.heap.size ≤ N ∧ w'.heap[N]? = some (.cells #[.string ⟨#[65, 116, 111, 105]⟩, .string s, ev] 259 (0, 0)) ∧ Below w.heap.size w w' := Any.strconv_Atoi_syntax Tryz.laysC172 s hlim (h.trans rfl) ev w hv hev
open Go.RowKit in
theorem Tryz.strconv_Atoi_range (s : ByteArray) (hlim : s.size ≤ 281474976710656) (h : Lib.atoiAll s.data.toList = .range) (ev : Value) (w : World) (hv : w.cell? ⟨3, 0, none⟩ = some ev) (hev : ev = .nilIface ∨ ∃ te pe, ev = .iface te pe) :
    Calls Tryz.prog 153 #[.string s] w fun e w' => ∃ N, e = .returned (.tuple #[.int .i64 (Lib.atoiSat s.data.toList), .iface 243 (.pointer (some ⟨N, 0, none⟩))]) ∧ w.heap.size ≤ N ∧ w'.heap[N]? = some (.cells #[.string ⟨#[65, 116, 111, 105]⟩, .string s, ev] 259 (0, 0)) ∧ Below w.heap.size w w' := Any.strconv_Atoi_range Tryz.laysC172 s hlim h ev w hv hev
def Tryz.lays145_ren : Go.Shelf.Ren := ⟨fun | 145 => 151 | 220 => 160 | 219 => 169 | 217 => 183 | 225 => 184 | 224 => 185 | 267 => 186 | 266 => 195 | 314 => 196 | n => n, fun | 9 => 9 | 4 => 4 | 59 => 221 | 3 => 3 | 5 => 5 | 46 => 250 | 146 => 262 | 51 => 248 | n => n, fun | 1 => 0 | n => n⟩
theorem Tryz.lays145 : Go.Proofs.Lays.n145 Tryz.prog Tryz.lays145_ren := {
  mixed := by kernel_rfl
  f145 := Tryz.func151.trans (congrArg some (by kernel_rfl))
  f217 := Tryz.func183.trans (congrArg some (by kernel_rfl))
  f219 := Tryz.func169.trans (congrArg some (by kernel_rfl))
  f220 := Tryz.func160.trans (congrArg some (by kernel_rfl))
  f224 := Tryz.func185.trans (congrArg some (by kernel_rfl))
  f225 := Tryz.func184.trans (congrArg some (by kernel_rfl))
  f266 := Tryz.func195.trans (congrArg some (by kernel_rfl))
  f267 := Tryz.func186.trans (congrArg some (by kernel_rfl))
  f314 := Tryz.func196.trans (congrArg some (by kernel_rfl))
  t3 := Tryz.underlying3
  a3 := Tryz.isAgg3
  z3 := Tryz.sizeOf3
  v3 := Tryz.zeroValue3
  t4 := Tryz.underlying4
  a4 := Tryz.isAgg4
  z4 := Tryz.sizeOf4
  v4 := Tryz.zeroValue4
  t5 := Tryz.underlying5
  a5 := Tryz.isAgg5
  z5 := Tryz.sizeOf5
  v5 := Tryz.zeroValue5
  t9 := Tryz.underlying9
  a9 := Tryz.isAgg9
  z9 := Tryz.sizeOf9
  v9 := Tryz.zeroValue9
  t46 := Tryz.underlying250
  a46 := Tryz.isAgg250
  z46 := Tryz.sizeOf250
  v46 := Tryz.zeroValue250
  t51 := Tryz.underlying248
  a51 := Tryz.isAgg248
  z51 := Tryz.sizeOf248
  v51 := Tryz.zeroValue248
  t59 := Tryz.underlying221
  a59 := Tryz.isAgg221
  z59 := Tryz.sizeOf221
  v59 := Tryz.zeroValue221
  t146 := Tryz.underlying262
  a146 := Tryz.isAgg262
  z146 := Tryz.sizeOf262
  v146 := Tryz.zeroValue262
  g1 := by kernel_rfl }
open Go.RowKit Go.Lib in
theorem Tryz.strings_Cut (s sep : ByteArray) (m : Int) (w : World) (hs : s.size < 4294967281) (hm : w.cell? ⟨0, 0, none⟩ = some (.int .i64 m)) :
    Calls Tryz.prog 151 #[.string s, .string sep] w fun e w' => e = .returned (.tuple #[.string ⟨(Lib.cut s.data.toList sep.data.toList).1.toArray⟩, .string ⟨(Lib.cut s.data.toList sep.data.toList).2.1.toArray⟩, .bool (Lib.cut s.data.toList sep.data.toList).2.2]) ∧ ∃ n, w' = w.drewN n := Any.strings_Cut Tryz.lays145 s sep m w hs hm
def Tryz.lays99_ren : Go.Shelf.Ren := ⟨fun | 99 => 128 | 206 => 154 | n => n, fun | 9 => 9 | 4 => 4 | 3 => 3 | n => n, fun | n => n⟩
theorem Tryz.lays99 : Go.Proofs.Lays.n99 Tryz.prog Tryz.lays99_ren := {
  mixed := by kernel_rfl
  f99 := Tryz.func128.trans (congrArg some (by kernel_rfl))
  f206 := Tryz.func154.trans (congrArg some (by kernel_rfl))
  t3 := Tryz.underlying3
  a3 := Tryz.isAgg3
  z3 := Tryz.sizeOf3
  v3 := Tryz.zeroValue3
  t4 := Tryz.underlying4
  a4 := Tryz.isAgg4
  z4 := Tryz.sizeOf4
  v4 := Tryz.zeroValue4
  t9 := Tryz.underlying9
  a9 := Tryz.isAgg9
  z9 := Tryz.sizeOf9
  v9 := Tryz.zeroValue9 }
open Go.RowKit Go.Lib in
theorem Tryz.strings_HasPrefix (s p : ByteArray) (w : World) :
    Calls Tryz.prog 128 #[.string s, .string p] w fun e w' => e = .returned (.bool (Lib.hasPrefix s.data.toList p.data.toList)) ∧ w' = w := Any.strings_HasPrefix Tryz.lays99 s p w
def Tryz.lays146_ren : Go.Shelf.Ren := ⟨fun | 146 => 152 | 221 => 161 | 268 => 170 | 138 => 171 | 143 => 172 | 195 => 187 | 197 => 188 | 218 => 189 | 219 => 169 | 260 => 197 | 217 => 183 | 225 => 184 | 224 => 185 | 267 => 186 | 266 => 195 | 314 => 196 | n => n, fun | 9 => 9 | 31 => 166 | 3 => 3 | 4 => 4 | 0 => 0 | 105 => 253 | 21 => 21 | 5 => 5 | 46 => 250 | 119 => 270 | 139 => 273 | 138 => 272 | 146 => 262 | 51 => 248 | n => n, fun | 1 => 0 | 3 => 6 | 4 => 7 | n => n⟩
theorem Tryz.lays146 : Go.Proofs.Lays.n146 Tryz.prog Tryz.lays146_ren := {
  mixed := by kernel_rfl
  f138 := Tryz.func171.trans (congrArg some (by kernel_rfl))
  f143 := Tryz.func172.trans (congrArg some (by kernel_rfl))
  f146 := Tryz.func152.trans (congrArg some (by kernel_rfl))
  f195 := Tryz.func187.trans (congrArg some (by kernel_rfl))
  f197 := Tryz.func188.trans (congrArg some (by kernel_rfl))
  f217 := Tryz.func183.trans (congrArg some (by kernel_rfl))
  f218 := Tryz.func189.trans (congrArg some (by kernel_rfl))
  f219 := Tryz.func169.trans (congrArg some (by kernel_rfl))
  f221 := Tryz.func161.trans (congrArg some (by kernel_rfl))
  f224 := Tryz.func185.trans (congrArg some (by kernel_rfl))
  f225 := Tryz.func184.trans (congrArg some (by kernel_rfl))
  f260 := Tryz.func197.trans (congrArg some (by kernel_rfl))
  f266 := Tryz.func195.trans (congrArg some (by kernel_rfl))
  f267 := Tryz.func186.trans (congrArg some (by kernel_rfl))
  f268 := Tryz.func170.trans (congrArg some (by kernel_rfl))
  f314 := Tryz.func196.trans (congrArg some (by kernel_rfl))
  t0 := Tryz.underlying0
  a0 := Tryz.isAgg0
  z0 := Tryz.sizeOf0
  v0 := Tryz.zeroValue0
  t3 := Tryz.underlying3
  a3 := Tryz.isAgg3
  z3 := Tryz.sizeOf3
  v3 := Tryz.zeroValue3
  t4 := Tryz.underlying4
  a4 := Tryz.isAgg4
  z4 := Tryz.sizeOf4
  v4 := Tryz.zeroValue4
  t5 := Tryz.underlying5
  a5 := Tryz.isAgg5
  z5 := Tryz.sizeOf5
  v5 := Tryz.zeroValue5
  t9 := Tryz.underlying9
  a9 := Tryz.isAgg9
  z9 := Tryz.sizeOf9
  v9 := Tryz.zeroValue9
  t21 := Tryz.underlying21
  a21 := Tryz.isAgg21
  z21 := Tryz.sizeOf21
  v21 := Tryz.zeroValue21
  t31 := Tryz.underlying166
  a31 := Tryz.isAgg166
  z31 := Tryz.sizeOf166
  v31 := Tryz.zeroValue166
  t46 := Tryz.underlying250
  a46 := Tryz.isAgg250
  z46 := Tryz.sizeOf250
  v46 := Tryz.zeroValue250
  t51 := Tryz.underlying248
  a51 := Tryz.isAgg248
  z51 := Tryz.sizeOf248
  v51 := Tryz.zeroValue248
  t105 := Tryz.underlying253
  a105 := Tryz.isAgg253
  z105 := Tryz.sizeOf253
  v105 := Tryz.zeroValue253
  t119 := Tryz.underlying270
  a119 := Tryz.isAgg270
  z119 := Tryz.sizeOf270
  t138 := Tryz.underlying272
  a138 := Tryz.isAgg272
  z138 := Tryz.sizeOf272
  v138 := Tryz.zeroValue272
  t139 := Tryz.underlying273
  a139 := Tryz.isAgg273
  z139 := Tryz.sizeOf273
  v139 := Tryz.zeroValue273
  t146 := Tryz.underlying262
  a146 := Tryz.isAgg262
  z146 := Tryz.sizeOf262
  v146 := Tryz.zeroValue262
  g1 := by kernel_rfl
  g3 := by kernel_rfl
  g4 := by kernel_rfl }
open Go.RowKit Go.Lib in
theorem Tryz.strings_Split (s sep : ByteArray) (m : Int) (w : World) (hs : s.size < 4294967281) (hm : w.cell? ⟨0, 0, none⟩ = some (.int .i64 m)) (h1 : 1 ≤ sep.size) :
    Calls Tryz.prog 152 #[.string s, .string sep] w fun e w' =>
      e = .returned (.slice (some ⟨w.heap.size, 0, none⟩) (Lib.countB s sep + 1) (Lib.countB s sep + 1)) ∧ w' = w.alloc (.cells ((Lib.splitB sep 0 (Lib.countB s sep) s).map Value.string).toArray 9) := Any.strings_Split Tryz.lays146 (by kernel_rfl) s sep m w hs hm h1
end Go.Proofs


namespace Go.Qg
open Go.Proofs Go.RowKit Go.Lib
set_option maxRecDepth 100000
set_option maxHeartbeats 4000000
theorem tab_cell {Prot : Nat → Prop} {w : World} (hT : tabOk Prot w) {g : Nat} {φ : Array Value → Prop} (h : (g, φ) ∈ seatTabs) {Q : Value → Prop} (hφ : ∀ cs, φ cs → ∃ v, cs[0]? = some v ∧ Q v) : ∃ v, w.cell? ⟨g, 0, none⟩ = some v ∧ Q v := by
  obtain ⟨_, cs, t, fz, h1, h2⟩ := hT g φ h
  obtain ⟨v, h3, h4⟩ := hφ cs h2
  exact ⟨v, by simp [World.cell?, h1, h3], h4⟩
theorem tab_maxLen {Prot : Nat → Prop} {w : World} (hT : tabOk Prot w) : ∃ m, w.cell? ⟨0, 0, none⟩ = some (.int .i64 m) := by
  obtain ⟨v, h1, m, rfl⟩ := tab_cell hT (g := 0) (φ := fun cs => ∃ m, cs[0]? = some (Value.int .i64 m)) (.tail _ (.head _)) (Q := fun v => ∃ m, v = .int .i64 m) (fun cs h => let ⟨m, hm⟩ := h; ⟨_, hm, m, rfl⟩)
  exact ⟨m, h1⟩
theorem tab_errSyntax {Prot : Nat → Prop} {w : World} (hT : tabOk Prot w) : ∃ t p, w.cell? ⟨2, 0, none⟩ = some (.iface t p) := by
  obtain ⟨v, h1, t, p, rfl⟩ := tab_cell hT (g := 2) (φ := fun cs => ∃ t p, cs[0]? = some (Value.iface t p)) (.tail _ (.tail _ (.head _))) (Q := fun v => ∃ t p, v = .iface t p) (fun cs h => let ⟨t, p, hm⟩ := h; ⟨_, hm, t, p, rfl⟩)
  exact ⟨t, p, h1⟩
theorem tab_errRange {Prot : Nat → Prop} {w : World} (hT : tabOk Prot w) : ∃ t p, w.cell? ⟨3, 0, none⟩ = some (.iface t p) := by
  obtain ⟨v, h1, t, p, rfl⟩ := tab_cell hT (g := 3) (φ := fun cs => ∃ t p, cs[0]? = some (Value.iface t p)) (.tail _ (.tail _ (.tail _ (.head _)))) (Q := fun v => ∃ t p, v = .iface t p) (fun cs h => let ⟨t, p, hm⟩ := h; ⟨_, hm, t, p, rfl⟩)
  exact ⟨t, p, h1⟩
theorem rep_three {w : World} {R : Nat → Nat → Prop} {Γ : Nat → Option Loc} {u v x : Value} {p q r : PV} (h : Rep w R Γ u p) (k : Rep w R Γ v q) (l : Rep w R Γ x r) : Rep w R Γ (.tuple #[u, v, x]) (.tup [p, q, r]) := by
  refine .tup [u, v, x] [p, q, r] rfl fun i y s hy hs => ?_
  match i, hy, hs with
  | 0, hy, hs => obtain rfl := Option.some.inj hy; obtain rfl := Option.some.inj hs; exact h
  | 1, hy, hs => obtain rfl := Option.some.inj hy; obtain rfl := Option.some.inj hs; exact k
  | 2, hy, hs => obtain rfl := Option.some.inj hy; obtain rfl := Option.some.inj hs; exact l
theorem cut_spec (s sep : List UInt8) (hs : s.length < 4294967281) :
    Spec Tryz.prog 151 [.v (.string (bytesOf s)), .v (.string (bytesOf sep))] (.tup [.v (.string (bytesOf (Lib.cut s sep).1)), .v (.string (bytesOf (Lib.cut s sep).2.1)), .v (.bool (Lib.cut s sep).2.2)]) := by
  refine spec_of_below (fun vs w => ?_) fun w vs R Γ Prot hT hb hl hrep => ?_
  · simp only [callFunc, Sem.run_bind, run_program, Result.andThen_ok, Tryz.func151, show (Tryz.f151.name == "runtime.NumGoroutine") = false from by decide]
    rfl
  match vs, hl with
  | [u0, u1], _ =>
    have k0 := hrep 0 u0 _ rfl rfl
    have k1 := hrep 1 u1 _ rfl rfl
    cases k0
    cases k1
    obtain ⟨m, hm⟩ := tab_maxLen hT
    refine (Tryz.strings_Cut (bytesOf s) (bytesOf sep) m w (by simpa using hs) hm).mono ?_
    rintro e w' ⟨rfl, n, rfl⟩
    simp only [bytesOf_list]
    exact ⟨⟨rfl, rfl, rfl, Nat.le_refl _, fun _ _ => rfl⟩, _, R, rfl, fun _ _ h => h, fun _ _ h => .inl h, rep_three (.v _ rfl) (.v _ rfl) (.v _ rfl)⟩
theorem split_spec (s : List UInt8) (c : UInt8) (hs : s.length < 1000000) :
    Spec Tryz.prog 152 [.v (.string (bytesOf s)), .v (.string (bytesOf [c]))] (strsB (splL c s)) := by
  refine spec_of_below (fun vs w => ?_) fun w vs R Γ Prot hT hb hl hrep => ?_
  · simp only [callFunc, Sem.run_bind, run_program, Result.andThen_ok, Tryz.func152, show (Tryz.f152.name == "runtime.NumGoroutine") = false from by decide]
    rfl
  match vs, hl with
  | [u0, u1], _ =>
    have k0 := hrep 0 u0 _ rfl rfl
    have k1 := hrep 1 u1 _ rfl rfl
    cases k0
    cases k1
    obtain ⟨m, hm⟩ := tab_maxLen hT
    refine (Tryz.strings_Split (bytesOf s) (bytesOf [c]) m w (by simp; omega) hm (by simp)).mono ?_
    rintro e w' ⟨rfl, rfl⟩
    have e1 := splitB_data (bytesOf [c]) 0 (countB (bytesOf s) (bytesOf [c])) (bytesOf s)
    have e2 : splitK [c] 0 (countB (bytesOf s) (bytesOf [c])) s = splL c s := by
      have := split_parts c s
      rw [Lib.split] at this
      rw [← this]
      congr 1
    simp only [bytesOf_list] at e1
    rw [e2] at e1
    generalize hB : splitB (bytesOf [c]) 0 (countB (bytesOf s) (bytesOf [c])) (bytesOf s) = B at *
    have hBl : B.length = (splL c s).length := by rw [← e1]; simp
    have hcl : countB (bytesOf s) (bytesOf [c]) + 1 = B.length := by rw [← hB]; exact (splitB_all (bytesOf [c]) (by simp) 0 _ _ rfl).symm
    have hBm : B = (splL c s).map bytesOf := by
      rw [← e1, List.map_map]
      conv => lhs; rw [← List.map_id B]
      exact List.map_congr_left fun x _ => by apply ByteArray.ext; simp [bytesOf]
    rw [hcl]
    have hpl := parts_len c s
    refine ⟨?_, _, fun x o => R x o ∨ (x = w.heap.size ∧ o < B.length), rfl, fun _ _ h => .inl h, fun b o h => h.imp_right fun h => ⟨by omega, ?_⟩, ?_⟩
    · exact Below.alloc (Below.refl _ _) (Nat.le_refl _) _
    · show b < (w.heap.push _).size
      rw [Array.size_push]; omega
    · have := rep_row (w' := w.alloc (.cells (B.map Value.string).toArray 9)) (R := R) (Γ := Γ) (b := w.heap.size) (n := B.length) (g := fun i => .string (B.getD i ByteArray.empty)) (fun _ => rfl) (by simp [maxLen]; omega) (fun i hi => ?_)
      · have e : strsB (splL c s) = .sl 1 B.length fun i => [.v (.string (B.getD i ByteArray.empty))] := by rw [strsB, ← hBm]; rfl
        rw [e]
        exact this
      · rw [World.cell?_alloc_new]
        simp [hi, List.getD]
theorem prefix_spec (s p : List UInt8) : Spec Tryz.prog 128 [.v (.string (bytesOf s)), .v (.string (bytesOf p))] (.v (.bool (Lib.hasPrefix s p))) := by
  refine spec_of_calls rfl (fun vs w => ?_) fun w vs R Γ Prot hT hb hl hrep => ?_
  · simp only [callFunc, Sem.run_bind, run_program, Result.andThen_ok, Tryz.func128, show (Tryz.f128.name == "runtime.NumGoroutine") = false from by decide]
    rfl
  match vs, hl with
  | [u0, u1], _ =>
    have k0 := hrep 0 u0 _ rfl rfl
    have k1 := hrep 1 u1 _ rfl rfl
    cases k0
    cases k1
    refine (Tryz.strings_HasPrefix (bytesOf s) (bytesOf p) w).mono ?_
    rintro e w' ⟨rfl, rfl⟩
    exact ⟨by simp only [bytesOf_list], Below.refl _ _⟩
def errP : PV := .ifc 243 .undef
theorem atoi_ok (s : List UInt8) (n : Int) (hs : s.length < 1000000) (h : Lib.atoiAll s = .ok n) : Spec Tryz.prog 153 [.v (.string (bytesOf s))] (.tup [.v (.int .i64 n), .v .nilIface]) := by
  refine spec_of_below (fun vs w => ?_) fun w vs R Γ Prot hT hb hl hrep => ?_
  · simp only [callFunc, Sem.run_bind, run_program, Result.andThen_ok, Tryz.func153, show (Tryz.f153.name == "runtime.NumGoroutine") = false from by decide]
    rfl
  match vs, hl with
  | [u0], _ =>
    have k0 := hrep 0 u0 _ rfl rfl
    cases k0
    refine (Tryz.strconv_Atoi_ok (bytesOf s) (by simp; omega) n (by simpa using h) w).mono ?_
    rintro e w' ⟨rfl, hw⟩
    have hbel : Below w.heap.size w w' := by
      rcases hw with rfl | ⟨t, rfl⟩
      · exact Below.refl _ _
      · exact Lib.bytesWorld_below _ _ _
    exact ⟨hbel, _, R, rfl, fun _ _ h => h, fun _ _ h => .inl h, rep_pair (.v _ rfl) (.v _ rfl)⟩
theorem atoi_err (s : List UInt8) (hs : s.length < 1000000) (h : ∀ n, Lib.atoiAll s ≠ .ok n) : ∃ n : Int, Spec Tryz.prog 153 [.v (.string (bytesOf s))] (.tup [.v (.int .i64 n), errP]) := by
  have ent : ∀ (vs : Array Value) (w : World), (callFunc 153 vs).run Tryz.prog w = .ok (.enter 153 vs) w := fun vs w => by
    simp only [callFunc, Sem.run_bind, run_program, Result.andThen_ok, Tryz.func153, show (Tryz.f153.name == "runtime.NumGoroutine") = false from by decide]
    rfl
  by_cases hA : Lib.atoiAll s = Lib.atoiAll []
  · skip
    refine ⟨0, spec_of_below ent fun w vs R Γ Prot hT hb hl hrep => ?_⟩
    match vs, hl with
    | [u0], _ =>
      have k0 := hrep 0 u0 _ rfl rfl
      cases k0
      obtain ⟨t, p, hv⟩ := tab_errSyntax hT
      refine (Tryz.strconv_Atoi_bad (bytesOf s) (by simp; omega) (by simpa using hA) _ w hv (.inr ⟨t, p, rfl⟩)).mono ?_
      rintro e w' ⟨N, rfl, _, _, hbel⟩
      exact ⟨hbel, _, R, rfl, fun _ _ h => h, fun _ _ h => .inl h, rep_pair (.v _ rfl) (.ifc _ _ _ (.undef _))⟩
  · have hA : Lib.atoiAll s = .range := by
      generalize Lib.atoiAll s = K at *
      cases K
      · exact absurd rfl (h _)
      · exact absurd rfl hA
      · rfl
    refine ⟨Lib.atoiSat s, spec_of_below ent fun w vs R Γ Prot hT hb hl hrep => ?_⟩
    match vs, hl with
    | [u0], _ =>
      have k0 := hrep 0 u0 _ rfl rfl
      cases k0
      obtain ⟨t, p, hv⟩ := tab_errRange hT
      refine (Tryz.strconv_Atoi_range (bytesOf s) (by simp; omega) (by simpa using hA) _ w hv (.inr ⟨t, p, rfl⟩)).mono ?_
      rintro e w' ⟨N, rfl, _, _, hbel⟩
      simp only [bytesOf_list]
      exact ⟨hbel, _, R, rfl, fun _ _ h => h, fun _ _ h => .inl h, rep_pair (.v _ rfl) (.ifc _ _ _ (.undef _))⟩
end Go.Qg


namespace Go.Qg
open Go.Proofs Go.RowKit Go.Lib
set_option maxRecDepth 100000
set_option maxHeartbeats 16000000
attribute [local irreducible] pwp pops pdraw pop popCall pdCall thenP blockP scopeP pspec Spec answers ppost CallW rend
def readH (r : List UInt8) (s : Int) : PF := [.box false [.v (.string (bytesOf r)), .v (.int .i64 s)]]
def wrongV (x : ByteArray) : PV := .ifc 170 (.agg [.v (.string x)])
def endsR (o : Option (PV × List UInt8 × Int)) (out : Out) : Prop := match o with
  | some (p, t, s) => out = .ret p (readH t s)
  | none => ∃ x t s, out = .pan (wrongV x) (readH t s)
theorem cut_len (r : List UInt8) : (Lib.cut r [10]).1.length ≤ r.length ∧ (Lib.cut r [10]).2.1.length ≤ r.length := by
  rcases index_one 10 r with ⟨_, h⟩ | ⟨a, t, rfl, h, _⟩
  · rw [cut_none h]; simp
  · rw [cut_app h]; simp; omega
theorem words_spec (r : List UInt8) (s : Int) (hr : r.length < 1000000) :
    CallW Tryz.prog 126 [.ref 0 0] (readH r s) (endsR ((wordsR r).map fun p => (strsB p.1, p.2, s))) := by
  suffices H : ∀ Q : Out → Prop, (∀ out, endsR ((wordsR r).map fun p => (strsB p.1, p.2, s)) out → Q out) → CallW Tryz.prog 126 [.ref 0 0] (readH r s) Q from H _ fun _ h => h
  intro Q hQ
  have hc := cut_spec r [10] (by omega)
  have hcl := cut_len r
  have hw : wordsR r = match Lib.cut r [10] with | (l, t, true) => some (splL 32 l, t) | _ => none := rfl
  generalize Lib.cut r [10] = ct at *
  obtain ⟨l, t, b⟩ := ct
  simp only at hcl hc
  have hs := split_spec l 32 (by omega)
  refine callW_of mixed Tryz.func126 (by decide) rfl (congrArg Array.toList Tryz.results126) Tryz.ntmps126 (by decide) 26 (by simp) (by decide) ?_
  simp [readH]
  refine pop_spec hc rfl false (.inl (by simp [bytesOf])) (.inl rfl) rfl (by simp) ?_
  simp
  cases b with
  | false =>
    simp only at hw
    simp
    refine ends_pan (wrongV (bytesOf l)) (readH r s) [] (by decide) ?_ ?_ (hQ _ ?_)
    · simp [readH]
    · simp [wrongV]
    · rw [hw]; exact ⟨_, _, _, rfl⟩
  | true =>
    simp only at hw
    simp
    refine pop_spec hs rfl false (.inl (by simp [bytesOf])) (.inl rfl) rfl (by simp [strsB, strsL]) ?_
    simp
    refine ends_of (strsB (splL 32 l)) (readH t s) [] (x := strsB (splL 32 l)) (by simp [strsB, strsL]) (by decide) ?_ ?_ (hQ _ ?_)
    · simp [readH]
    · simp [strsB, strsL]
    · rw [hw]; rfl
theorem number_spec (r w : List UInt8) (s : Int) (hw : w.length < 1000000) (hs : 0 ≤ s ∧ s ≤ 1000000000000000000) :
    CallW Tryz.prog 127 [.ref 0 0, .v (.string (bytesOf w))] (readH r s) (endsR ((numW w).map fun n => (.v (.int .i64 n), r, s + n))) := by
  suffices H : ∀ Q : Out → Prop, (∀ out, endsR ((numW w).map fun n => (.v (.int .i64 n), r, s + n)) out → Q out) → CallW Tryz.prog 127 [.ref 0 0, .v (.string (bytesOf w))] (readH r s) Q from H _ fun _ h => h
  intro Q hQ
  have hwr : numW w = none → Q (.pan (wrongV (bytesOf w)) (readH r s)) := fun h => hQ _ (by rw [h]; exact ⟨_, _, _, rfl⟩)
  by_cases hA : ∃ n, Lib.atoiAll w = .ok n
  · obtain ⟨n, hA⟩ := hA
    have hb := Lib.atoiAll_bounds hA
    have ha := atoi_ok w n hw hA
    have hi : Spec Tryz.prog 125 [.v (.int .i64 n)] (.v (.string (bytesOf (Lib.itoa n)))) := itoa_spec n (by omega) (by omega)
    have hn : numW w = if 0 ≤ n ∧ w.length ≤ 10 ∧ Lib.itoa n = w then some n else none := by unfold numW; rw [hA]
    refine callW_of mixed Tryz.func127 (by decide) rfl (congrArg Array.toList Tryz.results127) Tryz.ntmps127 (by decide) 41 (by simp) (by decide) ?_
    simp [readH]
    refine pop_spec ha rfl false (.inl (by simp)) (.inl rfl) rfl (by simp) ?_
    by_cases h1 : n < 0
    · have := hwr (by rw [hn, if_neg (by omega)])
      simp [h1]
      refine ends_pan (wrongV (bytesOf w)) (readH r s) [] (by decide) ?_ ?_ this
      · simp [readH]
      · simp [wrongV]
    by_cases h2 : 10 < w.length
    · have := hwr (by rw [hn, if_neg (by omega)])
      simp [h1, h2, show (10 : Int) < w.length from by omega]
      refine ends_pan (wrongV (bytesOf w)) (readH r s) [] (by decide) ?_ ?_ this
      · simp [readH]
      · simp [wrongV]
    simp [h1, h2, show ¬ (10 : Int) < w.length from by omega]
    refine pop_spec hi rfl false (.inl (by simp)) (.inl rfl) rfl (by simp) ?_
    by_cases h3 : Lib.itoa n = w
    · have hq := hQ (.ret (.v (.int .i64 n)) (readH r (s + n))) (by rw [hn, if_pos ⟨by omega, by omega, h3⟩]; rfl)
      have hl : n < 10000000000 := by
        have := numW_iff.1 (show numW w = some n by rw [hn, if_pos ⟨by omega, by omega, h3⟩])
        exact this.2.1
      have wv := i64_wrap (show -9223372036854775808 ≤ s + n ∧ _ from by omega)
      simp [h3, wv]
      refine ends_of (.v (.int .i64 n)) (readH r (s + n)) [] (x := .v (.int .i64 n)) (by simp) (by decide) ?_ ?_ hq
      · simp [readH]
      · simp
    · have := hwr (by rw [hn, if_neg (fun h => h3 h.2.2)])
      simp [h3]
      refine ends_pan (wrongV (bytesOf w)) (readH r s) [] (by decide) ?_ ?_ this
      · simp [readH]
      · simp [wrongV]
  · have hno : ∀ n, Lib.atoiAll w ≠ .ok n := fun n h => hA ⟨n, h⟩
    obtain ⟨n, ha⟩ := atoi_err w hw hno
    have hn : numW w = none := by
      unfold numW
      cases hB : Lib.atoiAll w with
      | ok m => exact absurd hB (hno m)
      | _ => rfl
    refine callW_of mixed Tryz.func127 (by decide) rfl (congrArg Array.toList Tryz.results127) Tryz.ntmps127 (by decide) 41 (by simp) (by decide) ?_
    simp [readH]
    refine pop_spec ha rfl false (.inl (by simp)) (.inl rfl) rfl (by simp [errP]) ?_
    simp [errP]
    refine ends_pan (wrongV (bytesOf w)) (readH r s) [] (by decide) ?_ ?_ (hwr hn)
    · simp [readH]
    · simp [wrongV]
theorem sumI_snoc (l : List Int) (n : Int) : sumI (l ++ [n]) = sumI l + n := by simp [sumI]
theorem numsW_drop {L : List (List UInt8)} {i n : Nat} (h : i < L.length) (hn : n ≤ i) (hw : numW (L.getD i []) = none) : numsW (L.drop n) = none := by
  have hcut := take_cut h hn
  have hsn := numsW_snoc (L.getD i []) ((L.take i).drop n)
  rw [← hcut, hw] at hsn
  have h1 : numsW ((L.take (i + 1)).drop n) = none := by rw [hsn]; cases numsW ((L.take i).drop n) <;> rfl
  have h2 : L.drop n = (L.take (i + 1)).drop n ++ L.drop (i + 1) := by
    have := List.take_append_drop (i + 1 - n) (L.drop n)
    rw [List.drop_drop, show n + (i + 1 - n) = i + 1 from by omega] at this
    rw [← this, List.take_drop, show n + (i + 1 - n) = i + 1 from by omega]
  rw [h2]
  exact numsW_none h1
theorem numbersR_spec (r : List UInt8) (s : Int) (ws : List ByteArray) (many : Nat) (hr : r.length < 1000000) (hs : 0 ≤ s ∧ s ≤ 100000000000000000) (hws : ws.length ≤ 100) (hm : many ≤ 100) :
    CallW Tryz.prog 102 [.ref 0 0, .v (.int .i64 many), strsL ws] (readH r s) (endsR ((rdLine (listsOf ws) many r).map fun p => (ints p.1, p.2, s + sumI p.1))) := by
  suffices H : ∀ Q : Out → Prop, (∀ out, endsR ((rdLine (listsOf ws) many r).map fun p => (ints p.1, p.2, s + sumI p.1)) out → Q out) → CallW Tryz.prog 102 [.ref 0 0, .v (.int .i64 many), strsL ws] (readH r s) Q from H _ fun _ h => h
  intro Q hQ
  have hpan : rdLine (listsOf ws) many r = none → ∀ x t s', Q (.pan (wrongV x) (readH t s')) := fun h x t s' => hQ _ (by rw [h]; exact ⟨_, _, _, rfl⟩)
  have hwl : (listsOf ws).length = ws.length := by simp [listsOf]
  refine callW_of mixed Tryz.func102 (by decide) rfl (congrArg Array.toList Tryz.results102) Tryz.ntmps102 (by decide) 52 (by simp) (by decide) ?_
  simp [readH, strsL]
  refine pop_callW (words_spec r s hr) rfl [52] false (by decide) ?_ (.inl ?_) ?_
  · simp [readH]
  · simp
  intro out ho
  cases hW : wordsR r with
  | none =>
    have hn : rdLine (listsOf ws) many r = none := by rw [rdLine, hW]
    rw [hW] at ho
    obtain ⟨x, t, s', rfl⟩ := ho
    refine ⟨[], by simp [backOk, readH], .inl rfl, ?_⟩
    simp [back, backV, placeAll, readH, wrongV]
    refine ends_pan (wrongV x) (readH t s') [] (by decide) ?_ ?_ (hpan hn _ _ _)
    · simp [readH]
    · simp [wrongV]
  | some p =>
  obtain ⟨L, t⟩ := p
  rw [hW] at ho
  obtain rfl : out = .ret (strsB L) (readH t s) := ho
  obtain ⟨a, hra, _, hLa⟩ := wordsR_iff.1 hW
  have hLl : L.length ≤ a.length + 1 := by rw [hLa]; exact parts_len 32 a
  have hal : a.length + t.length + 1 = r.length := by rw [hra]; simp; omega
  have hLp : ∀ q ∈ L, q.length ≤ a.length := fun q hq => by
    rw [hLa] at hq
    have := join_mem_len (c := 32) hq
    rwa [join_parts] at this
  have hLne : L ≠ [] := by rw [hLa]; exact splL_ne 32 a
  have hLj : Lib.join L [32] = a := by rw [hLa]; exact join_parts 32 a
  have hrd : rdLine (listsOf ws) many r = if L.length = ws.length + many ∧ L.take ws.length = listsOf ws then (numsW (L.drop ws.length)).map fun ns => (ns, t) else none := by
    unfold rdLine
    rw [hW]
    simp only [hwl]
  clear hW hLa
  have wm := i64_wrap (show -9223372036854775808 ≤ (ws.length : Int) + many ∧ _ from by omega)
  refine ⟨[], by simp [backOk, readH], .inl rfl, by simp [back, backV, placeAll, readH, strsB, strsL], ?_⟩
  simp [back, backV, placeAll, readH, strsB, strsL]
  by_cases h1 : L.length = ws.length + many
  case neg =>
    have hn : rdLine (listsOf ws) many r = none := by rw [hrd, if_neg (fun h => h1 h.1)]
    have hj := join_spec (L.map bytesOf) spB (by simpa using hLne) (by simp; omega) (by
      have e : joinB (L.map bytesOf) spB = a := by
        rw [← hLj]
        simp [joinB, spB, List.map_map, Function.comp_def]
      rw [e]; omega)
    simp [wm, show ¬ (L.length : Int) = ws.length + many from by omega]
    refine pop_spec hj rfl false (.inl (by simp [strsL, spB, bytesOf])) (.inl rfl) rfl (by simp) ?_
    simp
    refine ends_pan (wrongV ⟨(joinB (L.map bytesOf) spB).toArray⟩) (readH t s) [] (by decide) ?_ ?_ (hpan hn _ _ _)
    · simp [readH]
    · simp [wrongV]
  have wm2 : IntKind.i64.wrap ((ws.length : Int) + many) = (L.length : Int) := by rw [wm]; omega
  simp [wm2]
  refine pwp_loop (fun q : Nat × List Int => [(8, .own 40 q.2.length 0 q.2.length false), (26, .v (.int .i64 q.1)), (40, .rows none q.2.length 3 1 (rowsI q.2)), (52, .box false [.v (.string (bytesOf t)), .v (.int .i64 (s + sumI q.2))])]) (fun q => q.1 ≤ L.length ∧ (∀ j, j < q.1 → j < ws.length → L.getD j [] = (ws.getD j ByteArray.empty).data.toList) ∧ numsW ((L.take q.1).drop ws.length) = some q.2) (fun q => L.length - q.1) (0, []) ⟨Nat.zero_le _, fun j h => absurd h (Nat.not_lt_zero _), by simp [numsW]⟩ (by simp; rfl) (by simp [sumI]) ?_
  rintro ⟨i, ns⟩ ⟨hi, hq, hns⟩
  simp only at hi hq hns
  have hnl := numsW_len hns
  have hnl2 : ns.length ≤ 200 := by rw [hnl]; simp; omega
  have hsum := sumR_bound (numsW_iff.1 hns).1
  by_cases hil : i < L.length
  · have wi := i64_wrap (show -9223372036854775808 ≤ (i : Int) + 1 ∧ _ from by omega)
    have g1 : L.getD i [] = L[i] := by simp [List.getD, hil]
    have hlw := hLp L[i] (List.getElem_mem hil)
    by_cases hiw : i < ws.length
    · have g2 : ws.getD i ByteArray.empty = ws[i] := by simp [List.getD, hiw]
      have hdr : (L.take (i + 1)).drop ws.length = (L.take i).drop ws.length := by rw [List.drop_eq_nil_of_le (by simp; omega), List.drop_eq_nil_of_le (by simp; omega)]
      have hwd : (ws[i]).toList = (ws[i]).data.toList := ByteArray.toList_eq _
      by_cases he : L[i] = (ws[i]).toList
      · simp [hil, hiw, he, show ¬ ws.length ≤ i from by omega, show ¬ (ws.length : Int) ≤ i from by omega]
        refine again_of (i + 1, ns) ⟨by simp only; omega, fun j hj hjw => ?_, by simp only; rw [hdr]; exact hns⟩ (by simp only; omega) ?_
        · simp only at hj
          rcases Nat.lt_or_eq_of_le (Nat.le_of_lt_succ hj) with h' | rfl
          · exact hq j h' hjw
          · simp [hil, hiw, he, hwd]
        · simp [wi]
      · have hn : rdLine (listsOf ws) many r = none := by
          rw [hrd, if_neg]
          rintro ⟨_, h⟩
          refine he ?_
          have := congrArg (fun l : List (List UInt8) => l[i]?) h
          simpa [List.getElem?_take, hiw, hil, listsOf, hwd] using this
        simp [hil, hiw, he, show ¬ ws.length ≤ i from by omega, show ¬ (ws.length : Int) ≤ i from by omega]
        refine ends_pan (wrongV (bytesOf L[i])) (readH t (s + sumI ns)) [] (by decide) ?_ ?_ (hpan hn _ _ _)
        · simp [readH]
        · simp [wrongV]
    · simp [hil, show ¬ (i : Int) < ws.length from by omega, hiw, show (ws.length : Int) ≤ i from by omega, show ws.length ≤ i from by omega]
      refine pop_callW (number_spec t L[i] (s + sumI ns) (by omega) (by omega)) rfl [52] false (by decide) ?_ (.inl ?_) ?_
      · simp [readH]
      · simp
      intro out ho
      cases hn : numW L[i] with
      | none =>
        rw [hn] at ho
        obtain ⟨x, t', s', rfl⟩ := ho
        have hn2 : rdLine (listsOf ws) many r = none := by
          rw [hrd]
          split
          · rw [numsW_drop hil (by omega) (by rw [g1]; exact hn)]; rfl
          · rfl
        refine ⟨[], by simp [backOk, readH], .inl rfl, ?_⟩
        simp [back, backV, placeAll, readH, wrongV]
        refine ends_pan (wrongV x) (readH t' s') [] (by decide) ?_ ?_ (hpan hn2 _ _ _)
        · simp [readH]
        · simp [wrongV]
      | some n =>
        rw [hn] at ho
        obtain rfl : out = .ret (.v (.int .i64 n)) (readH t (s + sumI ns + n)) := ho
        have hcut := take_cut hil (show ws.length ≤ i by omega)
        rw [g1] at hcut
        have hsn := numsW_snoc L[i] ((L.take i).drop ws.length)
        rw [hns, ← hcut, hn] at hsn
        refine ⟨[], by simp [backOk, readH], .inl rfl, by simp [back, backV, placeAll, readH], ?_⟩
        simp [back, backV, placeAll, readH, rowsI_snoc, show (ns.length + 1) * 8 ≤ 140737488355328 from by omega, show ns.length + 1 ≤ maxLen from by simp [maxLen]; omega]
        refine again_of (i + 1, ns ++ [n]) ⟨by simp only; omega, fun j hj hjw => hq j (by simp only at hj; omega) hjw, hsn⟩ (by simp only; omega) ?_
        simp [wi, rowsI_snoc, sumI_snoc, Int.add_assoc]
        rintro x (⟨a, _, rfl⟩ | rfl) y hy
        · obtain rfl := List.mem_singleton.1 hy
          rfl
        · obtain rfl := List.mem_singleton.1 hy
          rfl
  · obtain rfl : i = L.length := by omega
    rw [List.take_length] at hns
    have hw : L.take ws.length = listsOf ws := by
      refine List.ext_getElem? fun j => ?_
      by_cases hj : j < ws.length
      · have h2 := hq j (by omega) hj
        have hjL : j < L.length := by omega
        simp [List.getD, hj, hjL] at h2
        simp [List.getElem?_take, hj, hjL, listsOf, h2]
      · simp [List.getElem?_take, hj, listsOf, show ws.length ≤ j from by omega]
    have hq2 := hQ (.ret (ints ns) (readH t (s + sumI ns))) (by rw [hrd, if_pos ⟨h1, hw⟩, hns]; rfl)
    simp
    refine ends_of (ints ns) (readH t (s + sumI ns)) [] (x := .own 40 ns.length 0 ns.length false) (by simp) (by decide) ?_ ?_ hq2
    · simp [readH]
    · simp [ints]
      intro k hk
      rw [rowsI_get hk]
      simp
theorem how_spec (r : List UInt8) (s : Int) : CallW Tryz.prog 103 [.ref 0 0] (readH r s) (fun out => out = .ret (.v (.string (if pumpR r = true then pumpW else keepW))) (readH r s)) := by
  suffices H : ∀ Q : Out → Prop, Q (.ret (.v (.string (if pumpR r = true then pumpW else keepW))) (readH r s)) → CallW Tryz.prog 103 [.ref 0 0] (readH r s) Q from H _ rfl
  intro Q hQ
  have hp := prefix_spec r [108, 101, 103, 32, 112, 117, 109, 112, 32]
  have e : Lib.hasPrefix r [108, 101, 103, 32, 112, 117, 109, 112, 32] = pumpR r := rfl
  rw [e] at hp
  refine callW_of mixed Tryz.func103 (by decide) rfl (congrArg Array.toList Tryz.results103) Tryz.ntmps103 (by decide) 8 (by simp) (by decide) ?_
  simp [readH]
  refine pop_spec hp rfl false (.inl (by simp [bytesOf])) (.inl rfl) rfl (by simp) ?_
  cases hb : pumpR r with
  | true =>
    rw [hb, if_pos rfl] at hQ
    simp
    refine ends_of (.v (.string pumpW)) (readH r s) [] (x := .v (.string pumpW)) (by simp [pumpW, bytesOf]) (by decide) ?_ ?_ hQ
    · simp [readH]
    · simp
  | false =>
    rw [hb, if_neg (by simp)] at hQ
    simp
    refine ends_of (.v (.string keepW)) (readH r s) [] (x := .v (.string keepW)) (by simp [keepW, bytesOf]) (by decide) ?_ ?_ hQ
    · simp [readH]
    · simp
end Go.Qg

