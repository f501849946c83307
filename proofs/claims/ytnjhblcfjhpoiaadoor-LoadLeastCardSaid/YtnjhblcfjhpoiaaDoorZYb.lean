/-
  LoadLeast: for all inputs the law returns true, and leaves its arguments as they were; the card.
  No condition.
-/
import Derived.Test.YtnjhblcfjhpoiaaDoorZ7
import Derived.ProofKit
import Derived.OpenShut
import Derived.ChangeOld
import Derived.ChangeBears
import Derived.Deep.Slices
import Derived.Below
import Derived.KernelRfl
import Derived.Test.YtnjhblcfjhpoiaaDoorRows
import Derived.Test.YtnjhblcfjhpoiaaDoorCards
import Derived.Test.YtnjhblcfjhpoiaaDoorTie
import Derived.Stop.LaidErr
import Derived.Lib.LaidTab
import Derived.SevenTiedAt
set_option linter.all false

namespace Go.Qg
open Go.ChangeShapes Go.WideShapes Go.ChangeAt Go.RowKit
def TypF (R : TypeId → List PV → Prop) : List TypeId → List PV → Prop
  | [], ps => ps = []
  | t :: ts, ps => ∃ p q, ps = p ++ q ∧ R t p ∧ TypF R ts q
def tdef (P : Program) : Nat → TypeId → List PV
  | 0, _ => []
  | n + 1, t => match P.underlying t with
    | some .bool => [.v (.bool false)]
    | some (.int k) => [.v (.int k 0)]
    | some .string => [.v (.string ByteArray.empty)]
    | some (.slice e) => [.sl (P.cellsOf e) 0 fun _ => tdef P n e]
    | some (.struct fs) => (fs.toList.map fun f => tdef P n f.type).flatten
    | some (.array m e) => (List.replicate m (tdef P n e)).flatten
    | _ => []
def Typ (P : Program) : Nat → TypeId → List PV → Prop
  | 0, _, _ => False
  | n + 1, t, ps => match P.underlying t with
    | some .bool => ∃ b, ps = [.v (.bool b)]
    | some (.int k) => ∃ x, ps = [.v (.int k x)] ∧ k.min ≤ x ∧ x ≤ k.max
    | some .string => ∃ s : ByteArray, ps = [.v (.string s)] ∧ s.size ≤ maxLen
    | some (.slice e) => ∃ (m : Nat) (f : Nat → List PV), ps = [.sl (P.cellsOf e) m f] ∧ m ≤ maxLen ∧ (∀ i, i < m → Typ P n e (f i)) ∧ ∀ i, m ≤ i → f i = tdef P n e
    | some (.struct fs) => TypF (Typ P n) (fs.toList.map (·.type)) ps
    | some (.array m e) => TypF (Typ P n) (List.replicate m e) ps
    | _ => False
def sup (P : Program) : Nat → TypeId → Bool
  | 0, _ => false
  | n + 1, t => match P.underlying t with
    | some .bool | some (.int _) | some .string => true
    | some (.slice e) | some (.array _ e) => sup P n e
    | some (.struct fs) => fs.toList.all fun f => sup P n f.type
    | _ => false
structure RowRep (w : World) (R : Nat → Nat → Prop) (Γ : Nat → Option Loc) (cs : List Value) (ps : List PV) : Prop where
  len : cs.length = ps.length
  each : ∀ (i : Nat) (u : Value) (p : PV), cs[i]? = some u → ps[i]? = some p → Rep w R Γ u p
  one : ∀ p ∈ ps, p.one = true ∧ p.names = []
section
variable {w : World} {R : Nat → Nat → Prop} {Γ : Nat → Option Loc}
theorem RowRep.single {u : Value} {p : PV} (h : Rep w R Γ u p) (h1 : p.one = true) (h2 : p.names = []) : RowRep w R Γ [u] [p] := by
  refine ⟨rfl, fun i v q hv hq => ?_, fun q hq => ?_⟩
  · match i, hv, hq with
    | 0, hv, hq =>
      obtain rfl := Option.some.inj hv
      obtain rfl := Option.some.inj hq
      exact h
  · obtain rfl := List.mem_singleton.1 hq
    exact ⟨h1, h2⟩
theorem RowRep.nil : RowRep w R Γ [] [] := ⟨rfl, fun i u p h => by simp at h, fun p h => by cases h⟩
theorem RowRep.append {cs cs' : List Value} {ps ps' : List PV} (h : RowRep w R Γ cs ps) (k : RowRep w R Γ cs' ps') : RowRep w R Γ (cs ++ cs') (ps ++ ps') := by
  refine ⟨by simp [h.len, k.len], fun i u p hu hp => ?_, fun p hp => ?_⟩
  · have hl := h.len
    by_cases hi : i < cs.length
    · rw [List.getElem?_append_left hi] at hu
      rw [List.getElem?_append_left (by omega)] at hp
      exact h.each i u p hu hp
    · rw [List.getElem?_append_right (by omega)] at hu hp
      rw [← hl] at hp
      exact k.each _ u p hu hp
  · rcases List.mem_append.1 hp with hp | hp
    · exact h.one p hp
    · exact k.one p hp
end
section
variable {H : Type} {enc : TypeId × Value → H} {P : Program} {w : World} {spare : Nat → Bool} {held : Bool} {Γ : Nat → Option Loc}
def there (w : World) (b o : Nat) : Prop := ∃ v, w.cell? ⟨b, o, none⟩ = some v
theorem cells_get {base : Nat} {a : Addr} {n : Nat} {cs : List Value} (h : w.cells? base a n = some cs) : cs.length = n ∧ ∀ i, i < n → w.cell? (a.add i) = cs[i]? := by
  unfold World.cells? at h
  split at h
  · refine ⟨by simpa using mapM_some_length h, fun i hi => ?_⟩
    have := mapM_some_get h i i (by simp [hi])
    exact this
  · cases h
theorem fields_row {n : Nat} {cs : List Value} (ih : ∀ (t : TypeId) (cs : List Value), t < P.types.size → sup P n t = true → (∃ fuel x, DataW.trod enc P w 0 spare held fuel t cs = some x) → ∃ ps, Typ P n t ps ∧ RowRep w (there w) Γ cs ps) :
    ∀ (fs : List Field) (o : Nat), (∀ f ∈ fs, f.type < P.types.size ∧ sup P n f.type = true) → (∀ (j : Nat) f, fs[j]? = some f → f.offset = o + ((fs.take j).map fun f => P.cellsOf f.type).sum) →
      (∀ f ∈ fs, ∃ fuel x, DataW.trod enc P w 0 spare held fuel f.type ((cs.drop f.offset).take (P.cellsOf f.type)) = some x) → cs.length = o + (fs.map fun f => P.cellsOf f.type).sum →
      ∃ ps, TypF (Typ P n) (fs.map (·.type)) ps ∧ RowRep w (there w) Γ (cs.drop o) ps
  | [], o, _, _, _, hl => by
    refine ⟨[], rfl, ?_⟩
    rw [List.drop_of_length_le (by simp at hl; omega)]
    exact .nil
  | f :: fs, o, h1, h2, h3, hl => by
    have ho : f.offset = o := by simpa using h2 0 f rfl
    obtain ⟨hf1, hf2⟩ := h1 f List.mem_cons_self
    have h4 := h3 f List.mem_cons_self
    rw [ho] at h4
    obtain ⟨p, hp1, hp2⟩ := ih f.type _ hf1 hf2 h4
    obtain ⟨q, hq1, hq2⟩ := fields_row ih fs (o + P.cellsOf f.type) (fun g hg => h1 g (List.mem_cons_of_mem _ hg)) (fun j g hg => by
      have := h2 (j + 1) g (by simpa using hg)
      simp only [List.take_succ_cons, List.map_cons, List.sum_cons] at this
      omega) (fun g hg => h3 g (List.mem_cons_of_mem _ hg)) (by simp only [List.map_cons, List.sum_cons] at hl; omega)
    refine ⟨p ++ q, ⟨p, q, rfl, hp1, hq1⟩, ?_⟩
    have e : cs.drop o = (cs.drop o).take (P.cellsOf f.type) ++ cs.drop (o + P.cellsOf f.type) := by
      rw [← List.drop_drop, List.take_append_drop]
    rw [e]
    exact hp2.append hq2
theorem parts_row {n : Nat} {e : TypeId} {cs : List Value} (ih : ∀ (t : TypeId) (cs : List Value), t < P.types.size → sup P n t = true → (∃ fuel x, DataW.trod enc P w 0 spare held fuel t cs = some x) → ∃ ps, Typ P n t ps ∧ RowRep w (there w) Γ cs ps)
    (he : e < P.types.size) (hs : sup P n e = true) : ∀ (m o : Nat), (∀ i, o ≤ i → i < o + m → ∃ fuel x, DataW.trod enc P w 0 spare held fuel e ((cs.drop (i * P.cellsOf e)).take (P.cellsOf e)) = some x) → cs.length = (o + m) * P.cellsOf e →
      ∃ ps, TypF (Typ P n) (List.replicate m e) ps ∧ RowRep w (there w) Γ (cs.drop (o * P.cellsOf e)) ps
  | 0, o, _, hl => by
    refine ⟨[], rfl, ?_⟩
    rw [List.drop_of_length_le (by simp at hl; omega)]
    exact .nil
  | m + 1, o, h, hl => by
    obtain ⟨p, hp1, hp2⟩ := ih e _ he hs (h o (Nat.le_refl _) (by omega))
    obtain ⟨q, hq1, hq2⟩ := parts_row ih he hs m (o + 1) (fun i h1 h2 => h i (by omega) (by omega)) (by rw [hl]; congr 1; omega)
    refine ⟨p ++ q, by rw [List.replicate_succ]; exact ⟨p, q, rfl, hp1, hq1⟩, ?_⟩
    have e : cs.drop (o * P.cellsOf e) = (cs.drop (o * P.cellsOf e)).take (P.cellsOf e) ++ cs.drop ((o + 1) * P.cellsOf e) := by
      rw [Nat.add_mul, Nat.one_mul, ← List.drop_drop, List.take_append_drop]
    rw [e]
    exact hp2.append hq2
theorem trod_arr {fuel : Nat} {t e : TypeId} {m : Nat} {cs : List Value} {x : DataW H × List MemPlace} (ht : P.underlying t = some (.array m e)) (h : DataW.trod enc P w 0 spare held fuel t cs = some x) :
    cs.length = P.cellsOf t ∧ ∀ i, i < m → ∃ fuel x, DataW.trod enc P w 0 spare held fuel e ((cs.drop (i * P.cellsOf e)).take (P.cellsOf e)) = some x := by
  cases fuel with
  | zero => simp [DataW.trod] at h
  | succ n =>
    unfold DataW.trod at h
    rw [ht] at h
    split at h <;> simp_all
    obtain ⟨hl, xs, hp, hd⟩ := h
    intro i hi
    have h1 := mapM_some_get hp i i (by simp [hi])
    have h2 := mapM_some_length hp
    simp only [List.length_range] at h2
    refine ⟨n, (xs[i]'(by omega)).1, (xs[i]'(by omega)).2, ?_⟩
    rw [h1, List.getElem?_eq_getElem (by omega)]
theorem read_row (hl : laidOutB P = true) : ∀ (n : Nat) (t : TypeId) (cs : List Value), t < P.types.size → sup P n t = true → (∃ fuel x, DataW.trod enc P w 0 spare held fuel t cs = some x) → ∃ ps, Typ P n t ps ∧ RowRep w (there w) Γ cs ps
  | 0, _, _, _, h, _ => by cases h
  | n + 1, t, cs, ht, hs, ⟨fuel, x, h⟩ => by
    have ih := read_row hl n
    simp only [sup] at hs
    simp only [Typ]
    split at hs
    · rename_i hu
      obtain ⟨b, rfl, _⟩ := DataW.trod_bool hu h
      rw [hu]
      exact ⟨_, ⟨b, rfl⟩, .single (.v _ rfl) rfl rfl⟩
    · rename_i k hu
      obtain ⟨m, rfl, _, hw⟩ := DataW.trod_int hu h
      rw [hu]
      simp only [Lit.wf, Bool.and_eq_true, decide_eq_true_eq] at hw
      exact ⟨_, ⟨m, rfl, hw⟩, .single (.v _ rfl) rfl rfl⟩
    · rename_i hu
      obtain ⟨s, rfl, _, hw⟩ := DataW.trod_string hu h
      rw [hu]
      exact ⟨_, ⟨s, rfl, hw⟩, .single (.v _ rfl) rfl rfl⟩
    · rename_i e hu
      have he := kid_slice hl ht hu
      rw [hu]
      rcases Deep.open_slice hu h with ⟨rfl, _⟩ | ⟨a, len, cap, m, k, D, Pl, rfl, _, h1, h2, h3, _, h4⟩
      · refine ⟨_, ⟨0, fun _ => tdef P n e, rfl, Nat.zero_le _, fun i hi => by omega, fun _ _ => rfl⟩, .single (.sl none 0 0 _ _ (fun _ _ => undef) (Nat.le_refl _) (Nat.zero_le _) ?_ ?_ ?_ ?_) rfl rfl⟩
        · intro i hi; omega
        · intro i j p hi; omega
        · intro i j hi; omega
        · intro i j p hi; omega
      · have hlm : len ≤ m := by rw [h3]; split <;> omega
        have key : ∀ i, i < len → ∃ q : List Value × List PV, w.cells? 0 (a.add (i * P.cellsOf e)) (P.cellsOf e) = some q.1 ∧ Typ P n e q.2 ∧ RowRep w (there w) Γ q.1 q.2 := fun i hi => by
          obtain ⟨cs', g1, g2⟩ := h4 i (by omega)
          obtain ⟨ps, g3, g4⟩ := ih e cs' he hs ⟨k, _, g2⟩
          exact ⟨(cs', ps), g1, g3, g4⟩
        obtain ⟨q, hq⟩ := Deep.choose_lt key
        have hsz : ∀ i, i < len → (q i).1.length = P.cellsOf e ∧ (q i).2.length = P.cellsOf e := fun i hi => by
          have g1 := (cells_get (hq i hi).1).1
          have g2 := (hq i hi).2.2.len
          exact ⟨g1, by omega⟩
        have hspot : 0 < len → 0 < P.cellsOf e → a.spot = none := fun g1 g2 => by
          have g3 := (cells_get (hq 0 g1).1).2 0 g2
          have g4 : (q 0).1[0]? = some ((q 0).1[0]'(by rw [(hsz 0 g1).1]; exact g2)) := List.getElem?_eq_getElem _
          rw [g4] at g3
          have := World.cell?_spot g3
          simpa [Addr.add] using this
        have hcell : ∀ i j, i < len → j < P.cellsOf e → w.cell? ⟨a.block, a.off + (i * P.cellsOf e + j), none⟩ = some ((q i).1.getD j undef) := fun i j hi hj => by
          have g1 := (cells_get (hq i hi).1).2 j hj
          have g2 := hspot (by omega) (by omega)
          have e1 : (a.add (i * P.cellsOf e)).add j = ⟨a.block, a.off + (i * P.cellsOf e + j), none⟩ := by
            rw [Deep.add_add]
            obtain ⟨b, o, s⟩ := a
            simp only at g2
            subst g2
            unfold Addr.add
            split
            · rename_i h0; rw [h0]; rfl
            · rfl
          rw [e1] at g1
          rw [g1]
          have g3 := (hsz i hi).1
          rw [List.getD_eq_getElem?_getD, List.getElem?_eq_getElem (by omega)]; rfl
        have hf : ∀ i, i < len → (if i < len then (q i).2 else tdef P n e) = (q i).2 := fun i hi => if_pos hi
        refine ⟨_, ⟨len, fun i => if i < len then (q i).2 else tdef P n e, rfl, by omega, fun i hi => by simp only [hf i hi]; exact (hq i hi).2.1, fun i hi => if_neg (by omega)⟩, .single (.sl (some a) len cap _ _ (fun i j => (q i).1.getD j undef) h1 h2 (fun i hi => by simp only [hf i hi]; exact (hsz i hi).2) (fun i j p hi hp => by simp only [hf i hi] at hp; exact (hq i hi).2.2.one p (List.mem_of_getElem? hp)) (fun i j hi hj => ?_) fun i j p hi hp => ?_) rfl rfl⟩
        · refine ⟨a.block, a.off, ?_, ⟨_, hcell i j hi hj⟩, hcell i j hi hj⟩
          have := hspot (by omega) (by omega)
          obtain ⟨b, o, s⟩ := a
          simp only at this
          rw [this]
        · simp only [hf i hi] at hp
          have g1 := lt_of_get? hp
          have g2 := (hsz i hi)
          have g3 : (q i).1[j]? = some ((q i).1.getD j undef) := by
            rw [List.getD_eq_getElem?_getD, List.getElem?_eq_getElem (by omega)]; rfl
          exact (hq i hi).2.2.each j _ p g3 hp
    · rename_i m e hu
      obtain ⟨he, hc⟩ := kid_array hl ht hu
      rw [hu]
      obtain ⟨h1, h2⟩ := trod_arr hu h
      have := parts_row ih he hs m 0 (fun i _ hi => h2 i (by omega)) (by rw [h1, hc]; congr 1; omega)
      simpa using this
    · rename_i fs hu
      obtain ⟨k1, k2, k3⟩ := kid_struct hl ht hu
      rw [hu]
      obtain ⟨xs, k, rfl, _, h1, h2, h3⟩ := DataW.trod_struct hu h
      have := fields_row (cs := cs) ih fs.toList 0 (fun f hf => ⟨k1 f hf, List.all_eq_true.1 hs f hf⟩) (fun j f hf => by rw [k3 j f hf]; omega) (fun f hf => by
        obtain ⟨i, hi⟩ := List.mem_iff_getElem?.1 hf
        have hi' : fs[i]? = some f := by simpa using hi
        have := h3 i f hi'
        have hlt := (List.getElem?_eq_some_iff.1 hi).1
        refine ⟨k, xs[i]'(by rw [h2]; simpa using hlt), ?_⟩
        rw [this]; simp) (by rw [h1, k2]; omega)
      simpa using this
    · cases hs
def ArgP (P : Program) (n : Nat) (t : TypeId) (p : PV) : Prop := match P.underlying t with
  | some (.struct _) | some (.array _ _) => ∃ ps, p = .agg ps ∧ Typ P n t ps
  | _ => Typ P n t [p]
theorem read_arg (hl : laidOutB P = true) {n : Nat} {t : TypeId} {v : Value} {d : DataW H} {pl : List MemPlace} {base : Nat} (ht : t < P.types.size) (hs : sup P n t = true) (hok : Value.okWide P w .any base t v) (h : DataW.Trod enc P w 0 spare held t v d pl) :
    ∃ p, ArgP P n t p ∧ Rep w (there w) Γ v p := by
  obtain ⟨fuel, h⟩ := h
  obtain ⟨ps, h1, h2⟩ := read_row (Γ := Γ) hl n t _ ht hs ⟨fuel, _, h⟩
  unfold ArgP
  unfold Value.okWide at hok
  have agg : (∃ cs, v = .agg cs ∧ cs.size = P.cellsOf t ∧ Row.okWide P w .any base t cs) → ∃ p, (∃ ps, p = .agg ps ∧ Typ P n t ps) ∧ Rep w (there w) Γ v p := by
    rintro ⟨cs, rfl, _, _⟩
    refine ⟨.agg ps, ⟨ps, rfl, h1⟩, ?_⟩
    have := Rep.agg (w := w) (R := there w) (Γ := Γ) cs.toList ps h2.len (fun p hp => (h2.one p hp).1) fun i u p hu hp => h2.each i u p hu hp
    simpa using this
  split
  · rename_i hu
    rw [hu] at hok
    exact agg hok
  · rename_i hu
    rw [hu] at hok
    exact agg hok
  · rename_i hn1 hn2
    have one : v.cells.toList = [v] := by
      cases n with
      | zero => cases hs
      | succ n =>
        simp only [sup] at hs
        split at hs
        · rename_i hu
          obtain ⟨b, hc, _⟩ := DataW.trod_bool hu h
          cases v <;> simp_all [Value.cells, Cell.okWide, Cell.ok]
        · rename_i k hu
          obtain ⟨b, hc, _⟩ := DataW.trod_int hu h
          cases v <;> simp_all [Value.cells, Cell.okWide, Cell.ok]
        · rename_i hu
          obtain ⟨b, hc, _⟩ := DataW.trod_string hu h
          cases v <;> simp_all [Value.cells, Cell.okWide, Cell.ok]
        · rename_i e hu
          cases v <;> simp_all [Value.cells, Cell.okWide, Cell.ok]
        · rename_i m e hu
          exact absurd hu (hn2 m e)
        · rename_i fs hu
          exact absurd hu (hn1 fs)
        · cases hs
    rw [one] at h2
    obtain ⟨p, rfl⟩ : ∃ p, ps = [p] := by
      have := h2.len
      match ps, this with
      | [p], _ => exact ⟨p, rfl⟩
    exact ⟨p, h1, h2.each 0 v p rfl rfl⟩
theorem read_args (hl : laidOutB P = true) {n : Nat} {base : Nat} : ∀ {ts : List TypeId} {vs : List Value} {ds : List (DataW H)} {pl : List MemPlace}, (∀ t ∈ ts, t < P.types.size ∧ sup P n t = true) →
    (∀ (j : Nat) t v, ts[j]? = some t → vs[j]? = some v → Value.okWide P w .any base t v) → DataW.TrodAll enc P w 0 spare held ts vs ds pl →
    ∃ args : List PV, vs.length = args.length ∧ ts.length = args.length ∧ (∀ (j : Nat) t p, ts[j]? = some t → args[j]? = some p → ArgP P n t p) ∧ ∀ (i : Nat) (u : Value) (p : PV), vs[i]? = some u → args[i]? = some p → Rep w (there w) Γ u p
  | [], vs, ds, pl, _, _, h => by
    obtain ⟨rfl, rfl, rfl⟩ := trodAll_nil h
    exact ⟨[], rfl, rfl, fun j t p hj => by simp at hj, fun i u p hu => by simp at hu⟩
  | t :: ts, vs, ds, pl, h1, h2, h => by
    obtain ⟨v, vs, d, ds, p, q, rfl, rfl, rfl, g1, g2⟩ := trodAll_cons h
    obtain ⟨args, k1, k2, k3, k4⟩ := read_args hl (fun t ht => h1 t (List.mem_cons_of_mem _ ht)) (fun j t v ht hv => h2 (j + 1) t v (by simpa using ht) (by simpa using hv)) g2
    obtain ⟨ht, hs⟩ := h1 t List.mem_cons_self
    obtain ⟨a, k5, k6⟩ := read_arg (Γ := Γ) hl ht hs (h2 0 t v rfl rfl) g1
    refine ⟨a :: args, by simp [k1], by simp [k2], fun j t p ht hp => ?_, fun i u p hu hp => ?_⟩
    · cases j with
      | zero =>
        obtain rfl := Option.some.inj ht
        obtain rfl := Option.some.inj hp
        exact k5
      | succ j => exact k3 j t p (by simpa using ht) (by simpa using hp)
    · cases i with
      | zero =>
        obtain rfl := Option.some.inj hu
        obtain rfl := Option.some.inj hp
        exact k6
      | succ i => exact k4 i u p (by simpa using hu) (by simpa using hp)
theorem again_args (hl : laidOutB P = true) {w' : World} (hb : Below w.heap.size w w') : ∀ {ts : List TypeId} {vs : List Value} {ds : List (DataW H)} {pl : List MemPlace}, (∀ t ∈ ts, t < P.types.size ∧ P.readableRec t = true) → (∀ x ∈ pl, x.block < w.heap.size) →
    DataW.TrodAll enc P w 0 (fun _ => true) true ts vs ds pl → DataW.TrodAll enc P w' 0 (fun b => decide (b < w.heap.size)) true ts vs ds pl
  | [], vs, ds, pl, _, _, h => by
    obtain ⟨rfl, rfl, rfl⟩ := trodAll_nil h
    exact trodAll_mk0
  | t :: ts, vs, ds, pl, h1, h2, h => by
    obtain ⟨v, vs, d, ds, p, q, rfl, rfl, rfl, g1, g2⟩ := trodAll_cons h
    obtain ⟨ht, hr⟩ := h1 t List.mem_cons_self
    exact trodAll_cons_mk (Go.RowKit.Below.trod hl hr ht g1 hb fun x hx => h2 x (List.mem_append_left _ hx)) (again_args hl hb (fun t ht => h1 t (List.mem_cons_of_mem _ ht)) (fun x hx => h2 x (List.mem_append_right _ hx)) g2)
theorem law_calls {f : FuncId} {args : List PV} {vs : Array Value} (hT : tabOk (· < w.heap.size) w) (h : Spec P f args (.v (.bool true))) (hl : vs.toList.length = args.length) (hv : ∀ (i : Nat) (u : Value) (p : PV), vs.toList[i]? = some u → args[i]? = some p → Rep w (there w) (fun _ => none) u p) :
    Calls P f vs w fun e w' => e = .returned (.bool true) ∧ Below w.heap.size w w' := by
  have hb : ∀ b o, there w b o → b < w.heap.size := fun b o ⟨v, hv⟩ => by
    unfold World.cell? at hv
    split at hv
    · rename_i hh
      exact (Array.getElem?_eq_some_iff.1 hh).1
    · cases hv
  have hsim : Sim 0 ⟨(· < w.heap.size), w, there w, fun _ => none, 0, []⟩ (there w) (fun _ => none) noAct w [] :=
    ⟨rfl, Nat.le_refl _, fun t p h => by simp at h, fun i j l m b h => (by cases h), fun i l h => (by cases h), hb, fun b o h => .inl h, Kept.refl _ _, ⟨fun b h => h, hT⟩, Nat.le_refl _, fun j l _ h => (by cases h), rfl⟩
  have h1 := h.2 w vs.toList (there w) (fun _ => none) (· < w.heap.size) hb hsim hl hv
  refine (show Calls P f vs w _ from by simpa using h1).mono ?_
  rintro e w' ⟨R', Γ', ⟨v, r, H, rfl, hq, hr, hs, _⟩ | ⟨v, p, H, _, hq, _⟩⟩
  · injection hq with hq1 hq2
    subst hq1
    refine ⟨?_, hs.kept.below⟩
    cases hr
    rfl
  · cases hq
theorem sl_list {α : Type} [Inhabited α] (cells : α → List PV) (Q : α → Prop) {m : Nat} {f : Nat → List PV} (h : ∀ i, i < m → ∃ a, f i = cells a ∧ Q a) (hd : ∀ i, m ≤ i → f i = cells default) : ∃ l : List α, l.length = m ∧ (f = fun i => cells (l.getD i default)) ∧ ∀ a ∈ l, Q a := by
  obtain ⟨g, hg⟩ := Deep.choose_lt h
  refine ⟨(List.range m).map g, by simp, funext fun i => ?_, fun a ha => ?_⟩
  · by_cases hi : i < m
    · rw [(hg i hi).1, List.getD_eq_getElem?_getD]; simp [hi]
    · rw [hd i (by omega), List.getD_eq_getElem?_getD]; simp [hi]
  · obtain ⟨i, hi, rfl⟩ := List.mem_map.1 ha
    exact (hg i (List.mem_range.1 hi)).2
theorem law_lifted {C : Checked} {os : Os} {f : FuncId} {fn : Func} {s : ChangeSpec} {conds : List PathCond} (n : Nat) {tb : TypeId} {laid : List (String × DataW Unit)} (htab : ∀ W : World, laidMet C.prog laid W → tabOk (· < W.heap.size) W)
    (own : ownKnob C.prog.godebug = none) (started : os.Started) (noInit : C.prog.inits.idxOf? f = none) (hfn : C.prog.funcs[f]? = some fn)
    (witness : ∃ (w : World) (tape : Tape) (i : Input), w.os = os ∧ (w.forCall tape i).Shaped C.prog ∧ i.vars = [] ∧ Input.okWide C.prog (w.forCall tape i) .any w.heap.size f i ∧
      ((s.pre enc C.prog fn conds false (w.forCall tape i).memory i.args ∧ laidMet C.prog laid (w.forCall tape i).memory) ∧ sizedMet enc C.prog fn (OpenSpec.ofChange s) false (w.forCall tape i).memory i.args) ∧ ({} : Assume).holds C.prog (lone (Frame.enter C.prog f i.args .normal) [] (w.forCall tape i)))
    (hl : laidOutB C.prog = true) (hvars : s.vars = []) (hts : (fn.params.toList.all fun t => decide (t < C.prog.types.size) && sup C.prog n t && C.prog.readableRec t) = true) (hres : fn.resultTypes = #[tb]) (htb : C.prog.underlying tb = some .bool)
    (hs : ∀ ds : List (DataW H), ds.length = fn.params.size → (s.fn H ds).results = [.lit (.bool true)] ∧ (s.fn H ds).args = ds ∧ (s.fn H ds).vars = [])
    (spec : ∀ args : List PV, fn.params.toList.length = args.length → (∀ (j : Nat) t p, fn.params.toList[j]? = some t → args[j]? = some p → ArgP C.prog n t p) → Spec C.prog f args (.v (.bool true))) :
    ReturnsInHanded {} C os f .any (fun w args => (s.pre enc C.prog fn conds false w args ∧ laidMet C.prog laid w) ∧ sizedMet enc C.prog fn (OpenSpec.ofChange s) false w args) (s.post enc C.prog fn false true false false) := by
  refine returnsInHanded_of_change_and (C := C) (X := fun w _ => laidMet C.prog laid w) (fun _ _ _ hh h => h.of_heap hh) own started noInit hfn witness ?_
  intro W base args ds gs before hval hW _ _ hL _
  have hW' := hW
  obtain ⟨p, q, hA, hV, rfl, _, _⟩ := hW
  rw [hvars] at hV
  obtain ⟨rfl, rfl⟩ := trodVars_none hV
  have ht : ∀ t ∈ fn.params.toList, (t < C.prog.types.size ∧ sup C.prog n t = true) ∧ C.prog.readableRec t = true := fun t ht => by
    have := List.all_eq_true.1 hts t ht
    simpa only [Bool.and_eq_true, decide_eq_true_eq] using this
  obtain ⟨avs, k1, k2, k3, k4⟩ := read_args (Γ := fun _ => none) hl (fun t h => (ht t h).1) (fun j t v h1 h2 => hval j t v (by simpa using h1) (by simpa using h2)) hA
  have hlen : ds.length = fn.params.size := by
    have key : ∀ (ts : List TypeId) (vs : List Value) (ds : List (DataW H)) (ps : List MemPlace), DataW.TrodAll enc C.prog W 0 (fun _ => true) true ts vs ds ps → ds.length = ts.length := by
      intro ts
      induction ts with
      | nil => intro vs ds ps h; obtain ⟨_, rfl, _⟩ := trodAll_nil h; rfl
      | cons t ts ih =>
        intro vs ds ps h
        obtain ⟨v, vs, d, ds, a, b, rfl, rfl, rfl, _, h2⟩ := trodAll_cons h
        simp [ih _ _ _ h2]
    have := key _ _ _ _ hA
    simpa using this
  obtain ⟨s1, s2, s3⟩ := hs ds hlen
  refine (law_calls (htab W hL) (spec avs k2 k3) k1 k4).mono fun e W' ⟨he, bel⟩ => ⟨_, he, ds, [], p ++ [], [], p, [], hW', ?_, ?_, ?_, bel.frame _, fun h => (by cases h)⟩
  · rw [List.append_nil, s1, hres]
    exact trodAll_mk1 (shut_bool htb _)
  · rw [List.append_nil, s2]
    exact again_args hl bel (fun t h => ⟨(ht t h).1.1, (ht t h).2⟩) (fun x hx => by simpa using hW'.lt x (by simpa using hx)) hA
  · rw [hvars, List.append_nil, s3]; rfl
end
end Go.Qg


namespace Go.Qg
open Go.Proofs
set_option maxRecDepth 100000
theorem lenOk {n : Nat} (h : n ≤ maxLen) : n ≤ 9223372036854775807 := h
section
open Tryd
theorem t_int {n : Nat} {ps : List PV} (h : Typ Tryd.prog (n + 1) 3 ps) : ∃ x, ps = [.v (.int .i64 x)] := by
  simp only [Typ, Tryd.underlying3] at h
  obtain ⟨x, h1, h2⟩ := h
  exact ⟨x, h1⟩
theorem d_int {n : Nat} : tdef Tryd.prog (n + 1) 3 = [.v (.int .i64 0)] := by simp only [tdef, Tryd.underlying3]
theorem t_bool {n : Nat} {ps : List PV} (h : Typ Tryd.prog (n + 1) 4 ps) : ∃ x, ps = [.v (.bool x)] := by
  simpa only [Typ, Tryd.underlying4] using h
theorem d_bool {n : Nat} : tdef Tryd.prog (n + 1) 4 = [.v (.bool false)] := by simp only [tdef, Tryd.underlying4]
theorem a_int {n : Nat} {p : PV} (h : ArgP Tryd.prog (n + 1) 3 p) : ∃ x, p = .v (.int .i64 x) := by
  simp only [ArgP, Tryd.underlying3] at h
  simpa using t_int h
theorem t_struct {P : Program} {n : Nat} {t : TypeId} {ps : List PV} {fs : Array Field} (hu : P.underlying t = some (.struct fs)) (h : Typ P (n + 1) t ps) : TypF (Typ P n) (fs.toList.map (·.type)) ps := by
  unfold Typ at h
  rw [hu] at h
  exact h
theorem a_struct {P : Program} {n : Nat} {t : TypeId} {p : PV} {fs : Array Field} (hu : P.underlying t = some (.struct fs)) (h : ArgP P n t p) : ∃ ps, p = .agg ps ∧ Typ P n t ps := by
  unfold ArgP at h
  rw [hu] at h
  exact h
theorem d_struct {P : Program} {n : Nat} {t : TypeId} {fs : Array Field} (hu : P.underlying t = some (.struct fs)) : tdef P (n + 1) t = (fs.toList.map fun f => tdef P n f.type).flatten := by
  simp only [tdef, hu]
theorem t_slice {P : Program} {n : Nat} {t e : TypeId} {ps : List PV} {c : Nat} (hu : P.underlying t = some (.slice e)) (hc : P.cellsOf e = c) (h : Typ P (n + 1) t ps) : ∃ (m : Nat) (f : Nat → List PV), ps = [.sl c m f] ∧ m ≤ 9223372036854775807 ∧ (∀ i, i < m → Typ P n e (f i)) ∧ ∀ i, m ≤ i → f i = tdef P n e := by
  unfold Typ at h
  rw [hu] at h
  obtain ⟨m, f, h1, h2, h3, h4⟩ := h
  exact ⟨m, f, by rw [h1, hc], lenOk h2, h3, h4⟩
theorem d_slice {P : Program} {n : Nat} {t e : TypeId} {c : Nat} (hu : P.underlying t = some (.slice e)) (hc : P.cellsOf e = c) : tdef P (n + 1) t = [.sl c 0 fun _ => tdef P n e] := by
  simp only [tdef, hu, hc]
theorem a_slice {P : Program} {n : Nat} {t e : TypeId} {p : PV} (hu : P.underlying t = some (.slice e)) (h : ArgP P n t p) : Typ P n t [p] := by
  unfold ArgP at h
  rw [hu] at h
  exact h
theorem t_spn {n : Nat} {ps : List PV} (h : Typ Tryd.prog (n + 2) 29 ps) : ∃ r : Spn, ps = r.cells := by
  obtain ⟨p0, q0, rfl, h0, p1, q1, rfl, h1, rfl⟩ := t_struct Tryd.underlying29 h
  obtain ⟨x0, rfl⟩ := t_int h0
  obtain ⟨x1, rfl⟩ := t_int h1
  exact ⟨⟨x0, x1⟩, rfl⟩
theorem d_spn {n : Nat} : tdef Tryd.prog (n + 2) 29 = (default : Spn).cells := by
  rw [d_struct Tryd.underlying29]; simp [d_int]; rfl
theorem t_stn {n : Nat} {ps : List PV} (h : Typ Tryd.prog (n + 2) 25 ps) : ∃ r : Stn, ps = r.cells := by
  obtain ⟨p0, q0, rfl, h0, p1, q1, rfl, h1, rfl⟩ := t_struct Tryd.underlying25 h
  obtain ⟨x0, rfl⟩ := t_int h0
  obtain ⟨x1, rfl⟩ := t_int h1
  exact ⟨⟨x0, x1⟩, rfl⟩
theorem d_stn {n : Nat} : tdef Tryd.prog (n + 2) 25 = (default : Stn).cells := by
  rw [d_struct Tryd.underlying25]; simp [d_int]; rfl
theorem cells_stn : Tryd.prog.cellsOf 25 = 2 := by kernel_rfl
theorem t_stns {n : Nat} {ps : List PV} (h : Typ Tryd.prog (n + 3) 23 ps) : ∃ l : List Stn, ps = [stnL l] ∧ l.length ≤ 9223372036854775807 := by
  obtain ⟨m, f, h1, h2, h3, h4⟩ := t_slice Tryd.underlying23 cells_stn h
  obtain ⟨l, g1, g2, _⟩ := sl_list Stn.cells (fun _ => True) (fun i hi => (t_stn (h3 i hi)).elim fun r h => ⟨r, h, trivial⟩) (fun i hi => (h4 i hi).trans d_stn)
  refine ⟨l, ?_, by omega⟩
  rw [h1, g2, ← g1]; rfl
theorem d_stns {n : Nat} : tdef Tryd.prog (n + 3) 23 = [stnL []] := by
  rw [d_slice Tryd.underlying23 cells_stn]
  simp only [d_stn]; rfl
theorem t_cnr {n : Nat} {ps : List PV} (h : Typ Tryd.prog (n + 2) 51 ps) : ∃ r : Cnr, ps = r.cells := by
  obtain ⟨p0, q0, rfl, h0, p1, q1, rfl, h1, rfl⟩ := t_struct Tryd.underlying51 h
  obtain ⟨x0, rfl⟩ := t_int h0
  obtain ⟨x1, rfl⟩ := t_int h1
  exact ⟨⟨x0, x1⟩, rfl⟩
theorem d_cnr {n : Nat} : tdef Tryd.prog (n + 2) 51 = (default : Cnr).cells := by
  rw [d_struct Tryd.underlying51]; simp [d_int]; rfl
theorem cells_cnr : Tryd.prog.cellsOf 51 = 2 := by kernel_rfl
theorem t_cnrs {n : Nat} {ps : List PV} (h : Typ Tryd.prog (n + 3) 22 ps) : ∃ l : List Cnr, ps = [cnrL l] ∧ l.length ≤ 9223372036854775807 := by
  obtain ⟨m, f, h1, h2, h3, h4⟩ := t_slice Tryd.underlying22 cells_cnr h
  obtain ⟨l, g1, g2, _⟩ := sl_list Cnr.cells (fun _ => True) (fun i hi => (t_cnr (h3 i hi)).elim fun r h => ⟨r, h, trivial⟩) (fun i hi => (h4 i hi).trans d_cnr)
  refine ⟨l, ?_, by omega⟩
  rw [h1, g2, ← g1]; rfl
theorem d_cnrs {n : Nat} : tdef Tryd.prog (n + 3) 22 = [cnrL []] := by
  rw [d_slice Tryd.underlying22 cells_cnr]
  simp only [d_cnr]; rfl
theorem t_itm {n : Nat} {ps : List PV} (h : Typ Tryd.prog (n + 3) 49 ps) : ∃ r : Itm, ps = r.cells := by
  obtain ⟨p0, q0, rfl, h0, p1, q1, rfl, h1, rfl⟩ := t_struct Tryd.underlying49 h
  obtain ⟨x0, rfl⟩ := t_int h0
  obtain ⟨s, rfl⟩ := t_spn h1
  exact ⟨⟨x0, s.low, s.high⟩, rfl⟩
theorem d_itm {n : Nat} : tdef Tryd.prog (n + 3) 49 = (default : Itm).cells := by
  rw [d_struct Tryd.underlying49]; simp [d_int, d_spn]; rfl
theorem cells_itm : Tryd.prog.cellsOf 49 = 3 := by kernel_rfl
theorem t_itms {n : Nat} {ps : List PV} (h : Typ Tryd.prog (n + 4) 45 ps) : ∃ l : List Itm, ps = [itmL l] ∧ l.length ≤ 9223372036854775807 := by
  obtain ⟨m, f, h1, h2, h3, h4⟩ := t_slice Tryd.underlying45 cells_itm h
  obtain ⟨l, g1, g2, _⟩ := sl_list Itm.cells (fun _ => True) (fun i hi => (t_itm (h3 i hi)).elim fun r h => ⟨r, h, trivial⟩) (fun i hi => (h4 i hi).trans d_itm)
  refine ⟨l, ?_, by omega⟩
  rw [h1, g2, ← g1]; rfl
theorem d_itms {n : Nat} : tdef Tryd.prog (n + 4) 45 = [itmL []] := by
  rw [d_slice Tryd.underlying45 cells_itm]
  simp only [d_itm]; rfl
theorem t_leg {n : Nat} {ps : List PV} (h : Typ Tryd.prog (n + 5) 47 ps) : ∃ r : Leg, ps = r.cells ∧ r.items.length ≤ 9223372036854775807 := by
  obtain ⟨p0, q0, rfl, h0, p1, q1, rfl, h1, p2, q2, rfl, h2, p3, q3, rfl, h3, p4, q4, rfl, h4, rfl⟩ := t_struct Tryd.underlying47 h
  obtain ⟨l, rfl, hl⟩ := t_itms h0
  obtain ⟨x1, rfl⟩ := t_bool h1
  obtain ⟨x2, rfl⟩ := t_int h2
  obtain ⟨x3, rfl⟩ := t_spn h3
  obtain ⟨x4, rfl⟩ := t_spn h4
  exact ⟨⟨l, x1, x2, x3, x4⟩, rfl, hl⟩
theorem d_leg {n : Nat} : tdef Tryd.prog (n + 5) 47 = (default : Leg).cells := by
  rw [d_struct Tryd.underlying47]; simp [d_int, d_spn, d_bool, d_itms]; rfl
theorem cells_leg : Tryd.prog.cellsOf 47 = 7 := by kernel_rfl
theorem a_legs {n : Nat} {p : PV} (h : ArgP Tryd.prog (n + 6) 30 p) : ∃ l : List Leg, p = legL l ∧ l.length ≤ 9223372036854775807 ∧ ∀ k, k < l.length → (legAt l k).items.length ≤ 9223372036854775807 := by
  obtain ⟨m, f, h1, h2, h3, h4⟩ := t_slice Tryd.underlying30 cells_leg (a_slice Tryd.underlying30 h)
  obtain ⟨l, g1, g2, g3⟩ := sl_list Leg.cells (fun r => r.items.length ≤ 9223372036854775807) (fun i hi => t_leg (h3 i hi)) (fun i hi => (h4 i hi).trans d_leg)
  have h1 := List.singleton_inj.1 h1
  refine ⟨l, ?_, by omega, fun k hk => g3 _ (by simp [legAt, hk])⟩
  rw [h1, g2, ← g1]; rfl
theorem a_pln {n : Nat} {p : PV} (h : ArgP Tryd.prog (n + 4) 27 p) : ∃ P : Pln, p = .agg P.cells ∧ PlnLen P := by
  obtain ⟨ps, rfl, g⟩ := a_struct Tryd.underlying27 h
  obtain ⟨p0, q0, rfl, h0, p1, q1, rfl, h1, p2, q2, rfl, h2, p3, q3, rfl, h3, p4, q4, rfl, h4, p5, q5, rfl, h5, p6, q6, rfl, h6, p7, q7, rfl, h7, p8, q8, rfl, h8, rfl⟩ := t_struct Tryd.underlying27 g
  obtain ⟨x0, rfl⟩ := t_int h0
  obtain ⟨x1, rfl⟩ := t_int h1
  obtain ⟨x2, rfl⟩ := t_int h2
  obtain ⟨x3, rfl⟩ := t_int h3
  obtain ⟨x4, rfl, k4⟩ := t_cnrs h4
  obtain ⟨x5, rfl, k5⟩ := t_stns h5
  obtain ⟨x6, rfl⟩ := t_stn h6
  obtain ⟨x7, rfl⟩ := t_int h7
  obtain ⟨x8, rfl, k8⟩ := t_stns h8
  exact ⟨⟨x0, x1, x2, x3, x4, x5, x6, x7, x8⟩, rfl, ⟨k4, k5, k8⟩⟩
end
theorem laidOut_ : laidOutB Tryd.prog = true := by kernel_rfl
theorem ownKnob_ : ownKnob Tryd.prog.godebug = none := by kernel_rfl
def pows : List Int := (List.range 20).map fun i => ((10 ^ i : Nat) : Int)
def laidL : List (String × DataW Unit) := [("math/bits.deBruijn32tab", Go.Proofs.YtnjhblcfjhpoiaaDoor.Rows.laid_math_bits_deBruijn32tab), ("math/bits.deBruijn64tab", Go.Proofs.YtnjhblcfjhpoiaaDoor.Rows.laid_math_bits_deBruijn64tab), ("internal/strconv.uint64pow10", Go.Proofs.YtnjhblcfjhpoiaaDoor.Rows.laid_internal_strconv_uint64pow10)]
theorem pow_data : (Go.Proofs.YtnjhblcfjhpoiaaDoor.Rows.laid_internal_strconv_uint64pow10 : DataW Unit) = Lib.tabData .u64 pows := rfl
theorem pow_glob : Tryd.prog.globalNamed "internal/strconv.uint64pow10" = some 1 := by kernel_rfl
theorem tabs_of_laid : ∀ W : World, laidMet Tryd.prog laidL W → tabOk (· < W.heap.size) W := fun W h => by
  have h3 := laidMet.tail (laidMet.tail h)
  rw [pow_data] at h3
  have ht := Lib.tabIs_of_head (t := 174) (e := 168) (n := 20) pow_glob (by kernel_rfl) Tryd.underlying174 Tryd.underlying168 (by kernel_rfl) (by kernel_rfl) h3
  unfold Lib.TabIs World.var? at ht
  rw [pow_glob] at ht
  simp only [Option.bind_some] at ht
  intro b φ hb
  simp only [seatTabs, List.mem_singleton] at hb
  obtain ⟨rfl, rfl⟩ := Prod.mk.inj hb
  split at ht
  · rename_i cs t fz hh
    refine ⟨?_, cs, t, fz, hh, ?_⟩
    · rcases Nat.lt_or_ge 1 W.heap.size with h' | h'
      · exact h'
      · rw [Array.getElem?_eq_none h'] at hh
        cases hh
    · rw [Option.some.inj ht]; simp [pows, Function.comp_def]
  · cases ht
end Go.Qg


namespace Go.Qg
open Go.Proofs
set_option maxRecDepth 100000
def litsOf : DataW Unit → Array Value
  | .agg l => (l.map fun | .lit (.int k z) => Value.int k z | _ => .bool false).toArray
  | _ => #[]
def layAt (g : Nat) (d : DataW Unit) (h : Array Obj) : Array Obj := h.modify g fun
  | .cells _ t frozen => .cells (litsOf d) t frozen
  | o => o
noncomputable def laidWorld (os : Os) : World :=
  let w0 := World.holding Tryd.prog os ⟨#[], #[], []⟩
  { w0 with heap := layAt 2 Go.Proofs.YtnjhblcfjhpoiaaDoor.Rows.laid_math_bits_deBruijn32tab (layAt 3 Go.Proofs.YtnjhblcfjhpoiaaDoor.Rows.laid_math_bits_deBruijn64tab (layAt 1 Go.Proofs.YtnjhblcfjhpoiaaDoor.Rows.laid_internal_strconv_uint64pow10 w0.heap)) }
theorem laid_met (os : Os) (args : Array Value) : laidMet Tryd.prog laidL ((laidWorld os).forCall (fun _ _ => 0) ⟨#[], args, []⟩).memory :=
  laidMet_of_run' 8 (by kernel_rfl) (by kernel_rfl)
end Go.Qg


namespace Go.Qg
open Go.Proofs
set_option maxRecDepth 100000
set_option linter.unusedSimpArgs false
set_option maxHeartbeats 32000000
attribute [local irreducible] pwp pops pdraw pop popCall pdCall thenP blockP scopeP pspec Spec answers ppost CallW rend
theorem tripped_fuel {P : Pln} {f g : Spn} {legs : List Leg} (h : trippedE P f legs = 0) (hg : 0 ≤ g.low ∧ g.low ≤ g.high ∧ g.high ≤ 20000) : trippedE P g legs = 0 := by
  obtain ⟨h1, h2⟩ := tripped_ok.1 h
  exact tripped_ok.2 ⟨h1, tripOk_fuel h2 hg⟩
theorem LoadLeast_spec (P : Pln) (legs : List Leg) (a b c : Int) (hP : PlnLen P) (hl : LegsLen legs) :
    Spec Tryd.prog 4 [.agg P.cells, legL legs, .v (.int .i64 a), .v (.int .i64 b), .v (.int .i64 c)] (.v (.bool true)) := by
  have hll := hl.n
  have href := refused_spec P ⟨0, 0⟩ legs hP hl
  simp only [Spn.cells] at href
  refine spec_of mixed Tryd.func4 (by decide) rfl Tryd.results4 Tryd.ntmps4 (by decide) 0 (by simp) ?_
  simp [Pln.cells, cnrL, stnL, legL]
  refine pop_spec (lshort_spec P) rfl false (.inl (by simp [Pln.cells, cnrL, stnL])) (.inl rfl) rfl (by simp) ?_
  have done : ∀ {x : Bool}, x = true → PV.v (Value.bool x) = .v (.bool true) := fun h => by rw [h]
  cases g1 : shortB' P with
  | false =>
    simp
    refine pop_spec known_spec rfl false (.inl (by simp)) (.inl rfl) rfl (by simp) ?_
    simp
    refine answers_of rfl ?_; simp
  | true =>
    simp
    refine pop_spec (lfew_spec legs hll) rfl false (.inl (by simp [legL])) (.inl rfl) rfl (by simp) ?_
    cases g2 : fewB legs with
    | false =>
      simp
      refine pop_spec known_spec rfl false (.inl (by simp)) (.inl rfl) rfl (by simp) ?_
      simp
      refine answers_of rfl ?_; simp
    | true =>
      simp
      refine pop_spec href rfl false (.inl (by simp [Pln.cells, cnrL, stnL, legL])) (.inl rfl) rfl (by simp) ?_
      by_cases g3 : trippedE P ⟨0, 0⟩ legs = 0
      case neg =>
        simp [g3]
        refine pop_spec known_spec rfl false (.inl (by simp)) (.inl rfl) rfl (by simp) ?_
        simp
        refine answers_of rfl ?_; simp
      by_cases q1 : a < 0
      · simp [g3, q1]
        refine pop_spec known_spec rfl false (.inl (by simp)) (.inl rfl) rfl (by simp) ?_
        simp
        refine answers_of rfl ?_; simp
      by_cases q2 : b < a
      · simp [g3, q1, q2]
        refine pop_spec known_spec rfl false (.inl (by simp)) (.inl rfl) rfl (by simp) ?_
        simp
        refine answers_of rfl ?_; simp
      by_cases q3 : c < b
      · simp [g3, q1, q2, q3]
        refine pop_spec known_spec rfl false (.inl (by simp)) (.inl rfl) rfl (by simp) ?_
        simp
        refine answers_of rfl ?_; simp
      by_cases q4 : 20000 < c
      · simp [g3, q1, q2, q3, q4]
        refine pop_spec known_spec rfl false (.inl (by simp)) (.inl rfl) rfl (by simp) ?_
        simp
        refine answers_of rfl ?_; simp
      simp [g3, q1, q2, q3, q4]
      have hfuel := Fuel_spec P legs hP hl
      have ha := Trip_spec P ⟨a, a⟩ legs hP hl
      have hb := Trip_spec P ⟨b, b⟩ legs hP hl
      have hc := Trip_spec P ⟨c, c⟩ legs hP hl
      rw [tripRes_ok (tripped_fuel g3 (by simp only; omega))] at ha hb hc
      simp only [Spn.cells] at ha hb hc
      have hbw : tripN P ⟨a, a⟩ legs < 0 → tripN P ⟨c, c⟩ legs < 0 → tripN P ⟨b, b⟩ legs < 0 := fun h1 h2 => tripN_neg.2 (fuel_span P legs (by omega) (by omega) (tripN_neg.1 h1) (tripN_neg.1 h2))
      have hlaw := fuel_law P legs
      rw [fuelRes, if_pos g3] at hfuel
      have na : ¬ tripN P ⟨a, a⟩ legs < 0 ↔ ¬ sureT P ⟨a, a⟩ legs := not_congr tripN_neg
      have nb : ¬ tripN P ⟨b, b⟩ legs < 0 ↔ ¬ sureT P ⟨b, b⟩ legs := not_congr tripN_neg
      have nc : ¬ tripN P ⟨c, c⟩ legs < 0 ↔ ¬ sureT P ⟨c, c⟩ legs := not_congr tripN_neg
      cases hf : fuelP P legs with
      | none =>
        rw [hf] at hlaw hfuel
        have xa := na.2 (hlaw a (by omega) (by omega))
        have xb := nb.2 (hlaw b (by omega) (by omega))
        have xc := nc.2 (hlaw c (by omega) (by omega))
        refine pop_spec hfuel rfl false (.inl (by simp [Pln.cells, cnrL, stnL, legL])) (.inl rfl) rfl (by simp) ?_
        simp
        refine pop_spec ha rfl false (.inl (by simp [Pln.cells, cnrL, stnL, legL])) (.inl rfl) rfl (by simp) ?_
        simp
        refine pop_spec hb rfl false (.inl (by simp [Pln.cells, cnrL, stnL, legL])) (.inl rfl) rfl (by simp) ?_
        simp
        refine pop_spec hc rfl false (.inl (by simp [Pln.cells, cnrL, stnL, legL])) (.inl rfl) rfl (by simp) ?_
        simp [xa, xb, xc, Int.not_lt.1 xa, Int.not_lt.1 xb, Int.not_lt.1 xc]
        refine pop_spec known_spec rfl false (.inl (by simp)) (.inl rfl) rfl (by simp) ?_
        simp
        refine answers_of rfl ?_; simp
      | some n =>
        rw [hf] at hlaw hfuel
        obtain ⟨r1, r2, r3⟩ := hlaw
        have hn := Trip_spec P ⟨n, n⟩ legs hP hl
        rw [tripRes_ok (tripped_fuel g3 (by simp only; omega))] at hn
        have en : tripN P ⟨n, n⟩ legs = -1 := by
          have := tripN_neg.2 r2
          have := tripN_ge P ⟨n, n⟩ legs
          omega
        rw [en] at hn
        simp only [Spn.cells] at hn
        have ya : a < n → ¬ tripN P ⟨a, a⟩ legs < 0 := fun h => na.2 (r3 a (by omega) h)
        have yb : b < n → ¬ tripN P ⟨b, b⟩ legs < 0 := fun h => nb.2 (r3 b (by omega) h)
        have yc : c < n → ¬ tripN P ⟨c, c⟩ legs < 0 := fun h => nc.2 (r3 c (by omega) h)
        refine pop_spec hfuel rfl false (.inl (by simp [Pln.cells, cnrL, stnL, legL])) (.inl rfl) rfl (by simp) ?_
        simp
        refine pop_spec ha rfl false (.inl (by simp [Pln.cells, cnrL, stnL, legL])) (.inl rfl) rfl (by simp) ?_
        simp
        refine pop_spec hb rfl false (.inl (by simp [Pln.cells, cnrL, stnL, legL])) (.inl rfl) rfl (by simp) ?_
        simp
        refine pop_spec hc rfl false (.inl (by simp [Pln.cells, cnrL, stnL, legL])) (.inl rfl) rfl (by simp) ?_
        generalize tripN P ⟨a, a⟩ legs = x at *
        generalize tripN P ⟨b, b⟩ legs = y at *
        generalize tripN P ⟨c, c⟩ legs = z at *
        have sx : (x < 0 ∧ ¬ a < n ∧ ¬ 0 ≤ x) ∨ (¬ x < 0 ∧ a < n ∧ 0 ≤ x) ∨ (¬ x < 0 ∧ ¬ a < n ∧ 0 ≤ x) := by
          rcases Int.lt_or_le a n with h | h
          · have := ya h; omega
          · omega
        have sy : (y < 0 ∧ ¬ b < n ∧ ¬ 0 ≤ y) ∨ (¬ y < 0 ∧ b < n ∧ 0 ≤ y) ∨ (¬ y < 0 ∧ ¬ b < n ∧ 0 ≤ y) := by
          rcases Int.lt_or_le b n with h | h
          · have := yb h; omega
          · omega
        have sz : (z < 0 ∧ ¬ c < n ∧ ¬ 0 ≤ z) ∨ (¬ z < 0 ∧ c < n ∧ 0 ≤ z) ∨ (¬ z < 0 ∧ ¬ c < n ∧ 0 ≤ z) := by
          rcases Int.lt_or_le c n with h | h
          · have := yc h; omega
          · omega
        have r4 : ¬ n < 0 := by omega
        have r5 : ¬ 20000 < n := by omega
        clear na nb nc ya yb yc
        rcases sx with ⟨x1, x2, x3⟩ | ⟨x1, x2, x3⟩ | ⟨x1, x2, x3⟩ <;> rcases sy with ⟨y1, y2, y3⟩ | ⟨y1, y2, y3⟩ | ⟨y1, y2, y3⟩ <;> rcases sz with ⟨z1, z2, z3⟩ | ⟨z1, z2, z3⟩ | ⟨z1, z2, z3⟩ <;>
          first
          | (exfalso; have := hbw; omega)
          | (simp (config := { maxSteps := 5000000 }) [x1, x2, x3, y1, y2, y3, z1, z2, z3, r4, r5]
             refine pop_spec hn rfl false (.inl (by simp [Pln.cells, cnrL, stnL, legL])) (.inl rfl) rfl (by simp) ?_
             simp
             refine pop_spec known_spec rfl false (.inl (by simp)) (.inl rfl) rfl (by simp) ?_
             simp
             refine answers_of rfl ?_; simp)
end Go.Qg


namespace Go.Proofs.YtnjhblcfjhpoiaaDoor.lawLoadLeast
open Go.Qg Go.ChangeAt Go.RowKit
set_option maxRecDepth 100000
theorem spec (args : List PV) (hl : Tryd.f4.params.toList.length = args.length) (h : ∀ (j : Nat) t p, Tryd.f4.params.toList[j]? = some t → args[j]? = some p → ArgP Tryd.prog 6 t p) : Qg.Spec Tryd.prog 4 args (.v (.bool true)) := by
  rw [Tryd.params4] at hl h
  match args, hl with
  | [a0, a1, a2, a3, a4], _ =>
    obtain ⟨P0, rfl, hP0⟩ := a_pln (h 0 _ a0 rfl rfl)
    obtain ⟨l1, rfl, hl1, hi1⟩ := a_legs (h 1 _ a1 rfl rfl)
    obtain ⟨x2, rfl⟩ := a_int (h 2 _ a2 rfl rfl)
    obtain ⟨x3, rfl⟩ := a_int (h 3 _ a3 rfl rfl)
    obtain ⟨x4, rfl⟩ := a_int (h 4 _ a4 rfl rfl)
    exact LoadLeast_spec P0 l1 x2 x3 x4 hP0 ⟨hl1, hi1⟩
theorem lifted (os : Os) (started : os.Started) (H : Type) (enc : TypeId × Value → H) :
    ReturnsInHanded {} Tryd.checked os 4 .any (fun w args => (Rows.loadLeastSpec.pre enc Tryd.prog Tryd.f4 Rows.loadLeastRow.domain false w args ∧ laidMet Tryd.prog laidL w) ∧ sizedMet enc Tryd.prog Tryd.f4 (OpenSpec.ofChange Rows.loadLeastSpec) false w args) (Rows.loadLeastSpec.post enc Tryd.prog Tryd.f4 false true false false) := by
  refine law_lifted (C := Tryd.checked) 6 (tb := 4) (laid := laidL) tabs_of_laid ownKnob_ started (by kernel_rfl) Tryd.func4
    (ChangeSpec.witness_at (enc := enc) (C := Tryd.checked) (os := os) (X := fun w _ => laidMet Tryd.prog laidL w) false (laidWorld os) #[.agg #[.int .i64 0, .int .i64 0, .int .i64 0, .int .i64 0, .slice none 0 0, .slice none 0 0, .int .i64 0, .int .i64 0, .int .i64 0, .slice none 0 0], .slice none 0 0, .int .i64 0, .int .i64 0, .int .i64 0] 8 rfl (by kernel_rfl) (by kernel_rfl) (by kernel_rfl) (by kernel_rfl) (by kernel_rfl) (laid_met os _)) laidOut_ rfl (by kernel_rfl) (by kernel_rfl) Tryd.underlying4 ?_ spec
  intro ds hds
  match ds, hds with
  | [_, _, _, _, _], _ => exact ⟨rfl, rfl, rfl⟩
theorem LoadLeast_holds : Rows.LoadLeastSaid :=
  OpenClaim.holds_of_wide 4 Tryd.f4 rfl rfl rfl rfl rfl rfl rfl ⟨rfl, rfl, rfl, rfl, rfl⟩ rfl rfl rfl rfl rfl (by kernel_rfl) Tryd.func4 (by kernel_rfl)
    (of_decide_eq_true (by kernel_rfl)) (by unfold Func.isWrapper; first | (rw [if_pos (by decide +kernel)]; kernel_rfl) | (rw [if_neg (by decide +kernel)]; exact ⟨rfl, rfl⟩))
    (fun os started H enc _ => lifted os started H enc)
theorem LoadLeast_card : Rows.LoadLeastCardSaid :=
  Claim7.holds_tied_plain_at .later [] [.data, .data, .data] true (true, "e2a92ffffc748d4c5d0a11da87f696f3479846fd54a3a437b368b01b198bb327") false
    LoadLeast_holds (fun _ h => by cases h) (by kernel_rfl) (fun _ h => by cases h) loadLeast_row_tie rfl ⟨rfl, rfl⟩ (by kernel_rfl) rfl
    (fun f fn hf hfn => by
      obtain rfl : f = 4 := Option.some.inj ((show Tryd.prog.funcNamed "windsock/windsocklaw02.LoadLeast" = some 4 by kernel_rfl).symm.trans hf) |>.symm
      obtain rfl : fn = Tryd.f4 := (Option.some.inj (Tryd.func4.symm.trans hfn)).symm
      exact ⟨by kernel_rfl, fun j t ht => by
        rw [Tryd.params4] at ht
        have hm : t ∈ [27, 30, 3, 3, 3] := by simpa using Array.mem_of_getElem? ht
        have hall : ([27, 30, 3, 3, 3].all fun u => !Tryd.prog.wantsStandIn u) = true := by kernel_rfl
        have h := List.all_eq_true.1 hall t hm
        exact (show Tryd.prog.wantsStandIn t = false by simpa using h)⟩)
    (by kernel_rfl)
end Go.Proofs.YtnjhblcfjhpoiaaDoor.lawLoadLeast

