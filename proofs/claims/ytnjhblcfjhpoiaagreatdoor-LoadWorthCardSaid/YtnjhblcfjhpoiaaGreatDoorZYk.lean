/-
  LoadWorth: for all inputs the law returns true, and leaves its arguments as they were; the card.
  No condition.
-/
import Derived.Test.YtnjhblcfjhpoiaaGreatDoorZ7
import Derived.ProofKit
import Derived.OpenShut
import Derived.ChangeOld
import Derived.ChangeBears
import Derived.Deep.Slices
import Derived.Below
import Derived.KernelRfl
import Derived.Test.YtnjhblcfjhpoiaaGreatDoorRows
import Derived.Test.YtnjhblcfjhpoiaaGreatDoorCards
import Derived.Test.YtnjhblcfjhpoiaaGreatDoorTie
import Derived.Stop.LaidErr
import Derived.Lib.LaidTab
import Derived.SevenTiedAt
set_option linter.all false

namespace Go.Qg
open Go.ChangeShapes Go.WideShapes Go.ChangeAt Go.RowKit
def TypF (R : TypeId → List PV → Prop) : List TypeId → List PV → Prop
  | [], ps => ps = []
  | t :: ts, ps => ∃ p q, ps = p ++ q ∧ R t p ∧ TypF R ts q
def tdef (P : Program) : Nat → TypeId → List PV
  | 0, _ => []
  | n + 1, t => match P.underlying t with
    | some .bool => [.v (.bool false)]
    | some (.int k) => [.v (.int k 0)]
    | some .string => [.v (.string ByteArray.empty)]
    | some (.slice e) => [.sl (P.cellsOf e) 0 fun _ => tdef P n e]
    | some (.struct fs) => (fs.toList.map fun f => tdef P n f.type).flatten
    | some (.array m e) => (List.replicate m (tdef P n e)).flatten
    | _ => []
def Typ (P : Program) : Nat → TypeId → List PV → Prop
  | 0, _, _ => False
  | n + 1, t, ps => match P.underlying t with
    | some .bool => ∃ b, ps = [.v (.bool b)]
    | some (.int k) => ∃ x, ps = [.v (.int k x)] ∧ k.min ≤ x ∧ x ≤ k.max
    | some .string => ∃ s : ByteArray, ps = [.v (.string s)] ∧ s.size ≤ maxLen
    | some (.slice e) => ∃ (m : Nat) (f : Nat → List PV), ps = [.sl (P.cellsOf e) m f] ∧ m ≤ maxLen ∧ (∀ i, i < m → Typ P n e (f i)) ∧ ∀ i, m ≤ i → f i = tdef P n e
    | some (.struct fs) => TypF (Typ P n) (fs.toList.map (·.type)) ps
    | some (.array m e) => TypF (Typ P n) (List.replicate m e) ps
    | _ => False
def sup (P : Program) : Nat → TypeId → Bool
  | 0, _ => false
  | n + 1, t => match P.underlying t with
    | some .bool | some (.int _) | some .string => true
    | some (.slice e) | some (.array _ e) => sup P n e
    | some (.struct fs) => fs.toList.all fun f => sup P n f.type
    | _ => false
structure RowRep (w : World) (R : Nat → Nat → Prop) (Γ : Nat → Option Loc) (cs : List Value) (ps : List PV) : Prop where
  len : cs.length = ps.length
  each : ∀ (i : Nat) (u : Value) (p : PV), cs[i]? = some u → ps[i]? = some p → Rep w R Γ u p
  one : ∀ p ∈ ps, p.one = true ∧ p.names = []
section
variable {w : World} {R : Nat → Nat → Prop} {Γ : Nat → Option Loc}
theorem RowRep.single {u : Value} {p : PV} (h : Rep w R Γ u p) (h1 : p.one = true) (h2 : p.names = []) : RowRep w R Γ [u] [p] := by
  refine ⟨rfl, fun i v q hv hq => ?_, fun q hq => ?_⟩
  · match i, hv, hq with
    | 0, hv, hq =>
      obtain rfl := Option.some.inj hv
      obtain rfl := Option.some.inj hq
      exact h
  · obtain rfl := List.mem_singleton.1 hq
    exact ⟨h1, h2⟩
theorem RowRep.nil : RowRep w R Γ [] [] := ⟨rfl, fun i u p h => by simp at h, fun p h => by cases h⟩
theorem RowRep.append {cs cs' : List Value} {ps ps' : List PV} (h : RowRep w R Γ cs ps) (k : RowRep w R Γ cs' ps') : RowRep w R Γ (cs ++ cs') (ps ++ ps') := by
  refine ⟨by simp [h.len, k.len], fun i u p hu hp => ?_, fun p hp => ?_⟩
  · have hl := h.len
    by_cases hi : i < cs.length
    · rw [List.getElem?_append_left hi] at hu
      rw [List.getElem?_append_left (by omega)] at hp
      exact h.each i u p hu hp
    · rw [List.getElem?_append_right (by omega)] at hu hp
      rw [← hl] at hp
      exact k.each _ u p hu hp
  · rcases List.mem_append.1 hp with hp | hp
    · exact h.one p hp
    · exact k.one p hp
end
section
variable {H : Type} {enc : TypeId × Value → H} {P : Program} {w : World} {spare : Nat → Bool} {held : Bool} {Γ : Nat → Option Loc}
def there (w : World) (b o : Nat) : Prop := ∃ v, w.cell? ⟨b, o, none⟩ = some v
theorem cells_get {base : Nat} {a : Addr} {n : Nat} {cs : List Value} (h : w.cells? base a n = some cs) : cs.length = n ∧ ∀ i, i < n → w.cell? (a.add i) = cs[i]? := by
  unfold World.cells? at h
  split at h
  · refine ⟨by simpa using mapM_some_length h, fun i hi => ?_⟩
    have := mapM_some_get h i i (by simp [hi])
    exact this
  · cases h
theorem fields_row {n : Nat} {cs : List Value} (ih : ∀ (t : TypeId) (cs : List Value), t < P.types.size → sup P n t = true → (∃ fuel x, DataW.trod enc P w 0 spare held fuel t cs = some x) → ∃ ps, Typ P n t ps ∧ RowRep w (there w) Γ cs ps) :
    ∀ (fs : List Field) (o : Nat), (∀ f ∈ fs, f.type < P.types.size ∧ sup P n f.type = true) → (∀ (j : Nat) f, fs[j]? = some f → f.offset = o + ((fs.take j).map fun f => P.cellsOf f.type).sum) →
      (∀ f ∈ fs, ∃ fuel x, DataW.trod enc P w 0 spare held fuel f.type ((cs.drop f.offset).take (P.cellsOf f.type)) = some x) → cs.length = o + (fs.map fun f => P.cellsOf f.type).sum →
      ∃ ps, TypF (Typ P n) (fs.map (·.type)) ps ∧ RowRep w (there w) Γ (cs.drop o) ps
  | [], o, _, _, _, hl => by
    refine ⟨[], rfl, ?_⟩
    rw [List.drop_of_length_le (by simp at hl; omega)]
    exact .nil
  | f :: fs, o, h1, h2, h3, hl => by
    have ho : f.offset = o := by simpa using h2 0 f rfl
    obtain ⟨hf1, hf2⟩ := h1 f List.mem_cons_self
    have h4 := h3 f List.mem_cons_self
    rw [ho] at h4
    obtain ⟨p, hp1, hp2⟩ := ih f.type _ hf1 hf2 h4
    obtain ⟨q, hq1, hq2⟩ := fields_row ih fs (o + P.cellsOf f.type) (fun g hg => h1 g (List.mem_cons_of_mem _ hg)) (fun j g hg => by
      have := h2 (j + 1) g (by simpa using hg)
      simp only [List.take_succ_cons, List.map_cons, List.sum_cons] at this
      omega) (fun g hg => h3 g (List.mem_cons_of_mem _ hg)) (by simp only [List.map_cons, List.sum_cons] at hl; omega)
    refine ⟨p ++ q, ⟨p, q, rfl, hp1, hq1⟩, ?_⟩
    have e : cs.drop o = (cs.drop o).take (P.cellsOf f.type) ++ cs.drop (o + P.cellsOf f.type) := by
      rw [← List.drop_drop, List.take_append_drop]
    rw [e]
    exact hp2.append hq2
theorem parts_row {n : Nat} {e : TypeId} {cs : List Value} (ih : ∀ (t : TypeId) (cs : List Value), t < P.types.size → sup P n t = true → (∃ fuel x, DataW.trod enc P w 0 spare held fuel t cs = some x) → ∃ ps, Typ P n t ps ∧ RowRep w (there w) Γ cs ps)
    (he : e < P.types.size) (hs : sup P n e = true) : ∀ (m o : Nat), (∀ i, o ≤ i → i < o + m → ∃ fuel x, DataW.trod enc P w 0 spare held fuel e ((cs.drop (i * P.cellsOf e)).take (P.cellsOf e)) = some x) → cs.length = (o + m) * P.cellsOf e →
      ∃ ps, TypF (Typ P n) (List.replicate m e) ps ∧ RowRep w (there w) Γ (cs.drop (o * P.cellsOf e)) ps
  | 0, o, _, hl => by
    refine ⟨[], rfl, ?_⟩
    rw [List.drop_of_length_le (by simp at hl; omega)]
    exact .nil
  | m + 1, o, h, hl => by
    obtain ⟨p, hp1, hp2⟩ := ih e _ he hs (h o (Nat.le_refl _) (by omega))
    obtain ⟨q, hq1, hq2⟩ := parts_row ih he hs m (o + 1) (fun i h1 h2 => h i (by omega) (by omega)) (by rw [hl]; congr 1; omega)
    refine ⟨p ++ q, by rw [List.replicate_succ]; exact ⟨p, q, rfl, hp1, hq1⟩, ?_⟩
    have e : cs.drop (o * P.cellsOf e) = (cs.drop (o * P.cellsOf e)).take (P.cellsOf e) ++ cs.drop ((o + 1) * P.cellsOf e) := by
      rw [Nat.add_mul, Nat.one_mul, ← List.drop_drop, List.take_append_drop]
    rw [e]
    exact hp2.append hq2
theorem trod_arr {fuel : Nat} {t e : TypeId} {m : Nat} {cs : List Value} {x : DataW H × List MemPlace} (ht : P.underlying t = some (.array m e)) (h : DataW.trod enc P w 0 spare held fuel t cs = some x) :
    cs.length = P.cellsOf t ∧ ∀ i, i < m → ∃ fuel x, DataW.trod enc P w 0 spare held fuel e ((cs.drop (i * P.cellsOf e)).take (P.cellsOf e)) = some x := by
  cases fuel with
  | zero => simp [DataW.trod] at h
  | succ n =>
    unfold DataW.trod at h
    rw [ht] at h
    split at h <;> simp_all
    obtain ⟨hl, xs, hp, hd⟩ := h
    intro i hi
    have h1 := mapM_some_get hp i i (by simp [hi])
    have h2 := mapM_some_length hp
    simp only [List.length_range] at h2
    refine ⟨n, (xs[i]'(by omega)).1, (xs[i]'(by omega)).2, ?_⟩
    rw [h1, List.getElem?_eq_getElem (by omega)]
theorem read_row (hl : laidOutB P = true) : ∀ (n : Nat) (t : TypeId) (cs : List Value), t < P.types.size → sup P n t = true → (∃ fuel x, DataW.trod enc P w 0 spare held fuel t cs = some x) → ∃ ps, Typ P n t ps ∧ RowRep w (there w) Γ cs ps
  | 0, _, _, _, h, _ => by cases h
  | n + 1, t, cs, ht, hs, ⟨fuel, x, h⟩ => by
    have ih := read_row hl n
    simp only [sup] at hs
    simp only [Typ]
    split at hs
    · rename_i hu
      obtain ⟨b, rfl, _⟩ := DataW.trod_bool hu h
      rw [hu]
      exact ⟨_, ⟨b, rfl⟩, .single (.v _ rfl) rfl rfl⟩
    · rename_i k hu
      obtain ⟨m, rfl, _, hw⟩ := DataW.trod_int hu h
      rw [hu]
      simp only [Lit.wf, Bool.and_eq_true, decide_eq_true_eq] at hw
      exact ⟨_, ⟨m, rfl, hw⟩, .single (.v _ rfl) rfl rfl⟩
    · rename_i hu
      obtain ⟨s, rfl, _, hw⟩ := DataW.trod_string hu h
      rw [hu]
      exact ⟨_, ⟨s, rfl, hw⟩, .single (.v _ rfl) rfl rfl⟩
    · rename_i e hu
      have he := kid_slice hl ht hu
      rw [hu]
      rcases Deep.open_slice hu h with ⟨rfl, _⟩ | ⟨a, len, cap, m, k, D, Pl, rfl, _, h1, h2, h3, _, h4⟩
      · refine ⟨_, ⟨0, fun _ => tdef P n e, rfl, Nat.zero_le _, fun i hi => by omega, fun _ _ => rfl⟩, .single (.sl none 0 0 _ _ (fun _ _ => undef) (Nat.le_refl _) (Nat.zero_le _) ?_ ?_ ?_ ?_) rfl rfl⟩
        · intro i hi; omega
        · intro i j p hi; omega
        · intro i j hi; omega
        · intro i j p hi; omega
      · have hlm : len ≤ m := by rw [h3]; split <;> omega
        have key : ∀ i, i < len → ∃ q : List Value × List PV, w.cells? 0 (a.add (i * P.cellsOf e)) (P.cellsOf e) = some q.1 ∧ Typ P n e q.2 ∧ RowRep w (there w) Γ q.1 q.2 := fun i hi => by
          obtain ⟨cs', g1, g2⟩ := h4 i (by omega)
          obtain ⟨ps, g3, g4⟩ := ih e cs' he hs ⟨k, _, g2⟩
          exact ⟨(cs', ps), g1, g3, g4⟩
        obtain ⟨q, hq⟩ := Deep.choose_lt key
        have hsz : ∀ i, i < len → (q i).1.length = P.cellsOf e ∧ (q i).2.length = P.cellsOf e := fun i hi => by
          have g1 := (cells_get (hq i hi).1).1
          have g2 := (hq i hi).2.2.len
          exact ⟨g1, by omega⟩
        have hspot : 0 < len → 0 < P.cellsOf e → a.spot = none := fun g1 g2 => by
          have g3 := (cells_get (hq 0 g1).1).2 0 g2
          have g4 : (q 0).1[0]? = some ((q 0).1[0]'(by rw [(hsz 0 g1).1]; exact g2)) := List.getElem?_eq_getElem _
          rw [g4] at g3
          have := World.cell?_spot g3
          simpa [Addr.add] using this
        have hcell : ∀ i j, i < len → j < P.cellsOf e → w.cell? ⟨a.block, a.off + (i * P.cellsOf e + j), none⟩ = some ((q i).1.getD j undef) := fun i j hi hj => by
          have g1 := (cells_get (hq i hi).1).2 j hj
          have g2 := hspot (by omega) (by omega)
          have e1 : (a.add (i * P.cellsOf e)).add j = ⟨a.block, a.off + (i * P.cellsOf e + j), none⟩ := by
            rw [Deep.add_add]
            obtain ⟨b, o, s⟩ := a
            simp only at g2
            subst g2
            unfold Addr.add
            split
            · rename_i h0; rw [h0]; rfl
            · rfl
          rw [e1] at g1
          rw [g1]
          have g3 := (hsz i hi).1
          rw [List.getD_eq_getElem?_getD, List.getElem?_eq_getElem (by omega)]; rfl
        have hf : ∀ i, i < len → (if i < len then (q i).2 else tdef P n e) = (q i).2 := fun i hi => if_pos hi
        refine ⟨_, ⟨len, fun i => if i < len then (q i).2 else tdef P n e, rfl, by omega, fun i hi => by simp only [hf i hi]; exact (hq i hi).2.1, fun i hi => if_neg (by omega)⟩, .single (.sl (some a) len cap _ _ (fun i j => (q i).1.getD j undef) h1 h2 (fun i hi => by simp only [hf i hi]; exact (hsz i hi).2) (fun i j p hi hp => by simp only [hf i hi] at hp; exact (hq i hi).2.2.one p (List.mem_of_getElem? hp)) (fun i j hi hj => ?_) fun i j p hi hp => ?_) rfl rfl⟩
        · refine ⟨a.block, a.off, ?_, ⟨_, hcell i j hi hj⟩, hcell i j hi hj⟩
          have := hspot (by omega) (by omega)
          obtain ⟨b, o, s⟩ := a
          simp only at this
          rw [this]
        · simp only [hf i hi] at hp
          have g1 := lt_of_get? hp
          have g2 := (hsz i hi)
          have g3 : (q i).1[j]? = some ((q i).1.getD j undef) := by
            rw [List.getD_eq_getElem?_getD, List.getElem?_eq_getElem (by omega)]; rfl
          exact (hq i hi).2.2.each j _ p g3 hp
    · rename_i m e hu
      obtain ⟨he, hc⟩ := kid_array hl ht hu
      rw [hu]
      obtain ⟨h1, h2⟩ := trod_arr hu h
      have := parts_row ih he hs m 0 (fun i _ hi => h2 i (by omega)) (by rw [h1, hc]; congr 1; omega)
      simpa using this
    · rename_i fs hu
      obtain ⟨k1, k2, k3⟩ := kid_struct hl ht hu
      rw [hu]
      obtain ⟨xs, k, rfl, _, h1, h2, h3⟩ := DataW.trod_struct hu h
      have := fields_row (cs := cs) ih fs.toList 0 (fun f hf => ⟨k1 f hf, List.all_eq_true.1 hs f hf⟩) (fun j f hf => by rw [k3 j f hf]; omega) (fun f hf => by
        obtain ⟨i, hi⟩ := List.mem_iff_getElem?.1 hf
        have hi' : fs[i]? = some f := by simpa using hi
        have := h3 i f hi'
        have hlt := (List.getElem?_eq_some_iff.1 hi).1
        refine ⟨k, xs[i]'(by rw [h2]; simpa using hlt), ?_⟩
        rw [this]; simp) (by rw [h1, k2]; omega)
      simpa using this
    · cases hs
def ArgP (P : Program) (n : Nat) (t : TypeId) (p : PV) : Prop := match P.underlying t with
  | some (.struct _) | some (.array _ _) => ∃ ps, p = .agg ps ∧ Typ P n t ps
  | _ => Typ P n t [p]
theorem read_arg (hl : laidOutB P = true) {n : Nat} {t : TypeId} {v : Value} {d : DataW H} {pl : List MemPlace} {base : Nat} (ht : t < P.types.size) (hs : sup P n t = true) (hok : Value.okWide P w .any base t v) (h : DataW.Trod enc P w 0 spare held t v d pl) :
    ∃ p, ArgP P n t p ∧ Rep w (there w) Γ v p := by
  obtain ⟨fuel, h⟩ := h
  obtain ⟨ps, h1, h2⟩ := read_row (Γ := Γ) hl n t _ ht hs ⟨fuel, _, h⟩
  unfold ArgP
  unfold Value.okWide at hok
  have agg : (∃ cs, v = .agg cs ∧ cs.size = P.cellsOf t ∧ Row.okWide P w .any base t cs) → ∃ p, (∃ ps, p = .agg ps ∧ Typ P n t ps) ∧ Rep w (there w) Γ v p := by
    rintro ⟨cs, rfl, _, _⟩
    refine ⟨.agg ps, ⟨ps, rfl, h1⟩, ?_⟩
    have := Rep.agg (w := w) (R := there w) (Γ := Γ) cs.toList ps h2.len (fun p hp => (h2.one p hp).1) fun i u p hu hp => h2.each i u p hu hp
    simpa using this
  split
  · rename_i hu
    rw [hu] at hok
    exact agg hok
  · rename_i hu
    rw [hu] at hok
    exact agg hok
  · rename_i hn1 hn2
    have one : v.cells.toList = [v] := by
      cases n with
      | zero => cases hs
      | succ n =>
        simp only [sup] at hs
        split at hs
        · rename_i hu
          obtain ⟨b, hc, _⟩ := DataW.trod_bool hu h
          cases v <;> simp_all [Value.cells, Cell.okWide, Cell.ok]
        · rename_i k hu
          obtain ⟨b, hc, _⟩ := DataW.trod_int hu h
          cases v <;> simp_all [Value.cells, Cell.okWide, Cell.ok]
        · rename_i hu
          obtain ⟨b, hc, _⟩ := DataW.trod_string hu h
          cases v <;> simp_all [Value.cells, Cell.okWide, Cell.ok]
        · rename_i e hu
          cases v <;> simp_all [Value.cells, Cell.okWide, Cell.ok]
        · rename_i m e hu
          exact absurd hu (hn2 m e)
        · rename_i fs hu
          exact absurd hu (hn1 fs)
        · cases hs
    rw [one] at h2
    obtain ⟨p, rfl⟩ : ∃ p, ps = [p] := by
      have := h2.len
      match ps, this with
      | [p], _ => exact ⟨p, rfl⟩
    exact ⟨p, h1, h2.each 0 v p rfl rfl⟩
theorem read_args (hl : laidOutB P = true) {n : Nat} {base : Nat} : ∀ {ts : List TypeId} {vs : List Value} {ds : List (DataW H)} {pl : List MemPlace}, (∀ t ∈ ts, t < P.types.size ∧ sup P n t = true) →
    (∀ (j : Nat) t v, ts[j]? = some t → vs[j]? = some v → Value.okWide P w .any base t v) → DataW.TrodAll enc P w 0 spare held ts vs ds pl →
    ∃ args : List PV, vs.length = args.length ∧ ts.length = args.length ∧ (∀ (j : Nat) t p, ts[j]? = some t → args[j]? = some p → ArgP P n t p) ∧ ∀ (i : Nat) (u : Value) (p : PV), vs[i]? = some u → args[i]? = some p → Rep w (there w) Γ u p
  | [], vs, ds, pl, _, _, h => by
    obtain ⟨rfl, rfl, rfl⟩ := trodAll_nil h
    exact ⟨[], rfl, rfl, fun j t p hj => by simp at hj, fun i u p hu => by simp at hu⟩
  | t :: ts, vs, ds, pl, h1, h2, h => by
    obtain ⟨v, vs, d, ds, p, q, rfl, rfl, rfl, g1, g2⟩ := trodAll_cons h
    obtain ⟨args, k1, k2, k3, k4⟩ := read_args hl (fun t ht => h1 t (List.mem_cons_of_mem _ ht)) (fun j t v ht hv => h2 (j + 1) t v (by simpa using ht) (by simpa using hv)) g2
    obtain ⟨ht, hs⟩ := h1 t List.mem_cons_self
    obtain ⟨a, k5, k6⟩ := read_arg (Γ := Γ) hl ht hs (h2 0 t v rfl rfl) g1
    refine ⟨a :: args, by simp [k1], by simp [k2], fun j t p ht hp => ?_, fun i u p hu hp => ?_⟩
    · cases j with
      | zero =>
        obtain rfl := Option.some.inj ht
        obtain rfl := Option.some.inj hp
        exact k5
      | succ j => exact k3 j t p (by simpa using ht) (by simpa using hp)
    · cases i with
      | zero =>
        obtain rfl := Option.some.inj hu
        obtain rfl := Option.some.inj hp
        exact k6
      | succ i => exact k4 i u p (by simpa using hu) (by simpa using hp)
theorem again_args (hl : laidOutB P = true) {w' : World} (hb : Below w.heap.size w w') : ∀ {ts : List TypeId} {vs : List Value} {ds : List (DataW H)} {pl : List MemPlace}, (∀ t ∈ ts, t < P.types.size ∧ P.readableRec t = true) → (∀ x ∈ pl, x.block < w.heap.size) →
    DataW.TrodAll enc P w 0 (fun _ => true) true ts vs ds pl → DataW.TrodAll enc P w' 0 (fun b => decide (b < w.heap.size)) true ts vs ds pl
  | [], vs, ds, pl, _, _, h => by
    obtain ⟨rfl, rfl, rfl⟩ := trodAll_nil h
    exact trodAll_mk0
  | t :: ts, vs, ds, pl, h1, h2, h => by
    obtain ⟨v, vs, d, ds, p, q, rfl, rfl, rfl, g1, g2⟩ := trodAll_cons h
    obtain ⟨ht, hr⟩ := h1 t List.mem_cons_self
    exact trodAll_cons_mk (Go.RowKit.Below.trod hl hr ht g1 hb fun x hx => h2 x (List.mem_append_left _ hx)) (again_args hl hb (fun t ht => h1 t (List.mem_cons_of_mem _ ht)) (fun x hx => h2 x (List.mem_append_right _ hx)) g2)
theorem law_calls {f : FuncId} {args : List PV} {vs : Array Value} (hT : tabOk (· < w.heap.size) w) (h : Spec P f args (.v (.bool true))) (hl : vs.toList.length = args.length) (hv : ∀ (i : Nat) (u : Value) (p : PV), vs.toList[i]? = some u → args[i]? = some p → Rep w (there w) (fun _ => none) u p) :
    Calls P f vs w fun e w' => e = .returned (.bool true) ∧ Below w.heap.size w w' := by
  have hb : ∀ b o, there w b o → b < w.heap.size := fun b o ⟨v, hv⟩ => by
    unfold World.cell? at hv
    split at hv
    · rename_i hh
      exact (Array.getElem?_eq_some_iff.1 hh).1
    · cases hv
  have hsim : Sim 0 ⟨(· < w.heap.size), w, there w, fun _ => none, 0, []⟩ (there w) (fun _ => none) noAct w [] :=
    ⟨rfl, Nat.le_refl _, fun t p h => by simp at h, fun i j l m b h => (by cases h), fun i l h => (by cases h), hb, fun b o h => .inl h, Kept.refl _ _, ⟨fun b h => h, hT⟩, Nat.le_refl _, fun j l _ h => (by cases h), rfl⟩
  have h1 := h.2 w vs.toList (there w) (fun _ => none) (· < w.heap.size) hb hsim hl hv
  refine (show Calls P f vs w _ from by simpa using h1).mono ?_
  rintro e w' ⟨R', Γ', ⟨v, r, H, rfl, hq, hr, hs, _⟩ | ⟨v, p, H, _, hq, _⟩⟩
  · injection hq with hq1 hq2
    subst hq1
    refine ⟨?_, hs.kept.below⟩
    cases hr
    rfl
  · cases hq
theorem sl_list {α : Type} [Inhabited α] (cells : α → List PV) (Q : α → Prop) {m : Nat} {f : Nat → List PV} (h : ∀ i, i < m → ∃ a, f i = cells a ∧ Q a) (hd : ∀ i, m ≤ i → f i = cells default) : ∃ l : List α, l.length = m ∧ (f = fun i => cells (l.getD i default)) ∧ ∀ a ∈ l, Q a := by
  obtain ⟨g, hg⟩ := Deep.choose_lt h
  refine ⟨(List.range m).map g, by simp, funext fun i => ?_, fun a ha => ?_⟩
  · by_cases hi : i < m
    · rw [(hg i hi).1, List.getD_eq_getElem?_getD]; simp [hi]
    · rw [hd i (by omega), List.getD_eq_getElem?_getD]; simp [hi]
  · obtain ⟨i, hi, rfl⟩ := List.mem_map.1 ha
    exact (hg i (List.mem_range.1 hi)).2
theorem law_lifted {C : Checked} {os : Os} {f : FuncId} {fn : Func} {s : ChangeSpec} {conds : List PathCond} (n : Nat) {tb : TypeId} {laid : List (String × DataW Unit)} (htab : ∀ W : World, laidMet C.prog laid W → tabOk (· < W.heap.size) W)
    (own : ownKnob C.prog.godebug = none) (started : os.Started) (noInit : C.prog.inits.idxOf? f = none) (hfn : C.prog.funcs[f]? = some fn)
    (witness : ∃ (w : World) (tape : Tape) (i : Input), w.os = os ∧ (w.forCall tape i).Shaped C.prog ∧ i.vars = [] ∧ Input.okWide C.prog (w.forCall tape i) .any w.heap.size f i ∧
      ((s.pre enc C.prog fn conds false (w.forCall tape i).memory i.args ∧ laidMet C.prog laid (w.forCall tape i).memory) ∧ sizedMet enc C.prog fn (OpenSpec.ofChange s) false (w.forCall tape i).memory i.args) ∧ ({} : Assume).holds C.prog (lone (Frame.enter C.prog f i.args .normal) [] (w.forCall tape i)))
    (hl : laidOutB C.prog = true) (hvars : s.vars = []) (hts : (fn.params.toList.all fun t => decide (t < C.prog.types.size) && sup C.prog n t && C.prog.readableRec t) = true) (hres : fn.resultTypes = #[tb]) (htb : C.prog.underlying tb = some .bool)
    (hs : ∀ ds : List (DataW H), ds.length = fn.params.size → (s.fn H ds).results = [.lit (.bool true)] ∧ (s.fn H ds).args = ds ∧ (s.fn H ds).vars = [])
    (spec : ∀ args : List PV, fn.params.toList.length = args.length → (∀ (j : Nat) t p, fn.params.toList[j]? = some t → args[j]? = some p → ArgP C.prog n t p) → Spec C.prog f args (.v (.bool true))) :
    ReturnsInHanded {} C os f .any (fun w args => (s.pre enc C.prog fn conds false w args ∧ laidMet C.prog laid w) ∧ sizedMet enc C.prog fn (OpenSpec.ofChange s) false w args) (s.post enc C.prog fn false true false false) := by
  refine returnsInHanded_of_change_and (C := C) (X := fun w _ => laidMet C.prog laid w) (fun _ _ _ hh h => h.of_heap hh) own started noInit hfn witness ?_
  intro W base args ds gs before hval hW _ _ hL _
  have hW' := hW
  obtain ⟨p, q, hA, hV, rfl, _, _⟩ := hW
  rw [hvars] at hV
  obtain ⟨rfl, rfl⟩ := trodVars_none hV
  have ht : ∀ t ∈ fn.params.toList, (t < C.prog.types.size ∧ sup C.prog n t = true) ∧ C.prog.readableRec t = true := fun t ht => by
    have := List.all_eq_true.1 hts t ht
    simpa only [Bool.and_eq_true, decide_eq_true_eq] using this
  obtain ⟨avs, k1, k2, k3, k4⟩ := read_args (Γ := fun _ => none) hl (fun t h => (ht t h).1) (fun j t v h1 h2 => hval j t v (by simpa using h1) (by simpa using h2)) hA
  have hlen : ds.length = fn.params.size := by
    have key : ∀ (ts : List TypeId) (vs : List Value) (ds : List (DataW H)) (ps : List MemPlace), DataW.TrodAll enc C.prog W 0 (fun _ => true) true ts vs ds ps → ds.length = ts.length := by
      intro ts
      induction ts with
      | nil => intro vs ds ps h; obtain ⟨_, rfl, _⟩ := trodAll_nil h; rfl
      | cons t ts ih =>
        intro vs ds ps h
        obtain ⟨v, vs, d, ds, a, b, rfl, rfl, rfl, _, h2⟩ := trodAll_cons h
        simp [ih _ _ _ h2]
    have := key _ _ _ _ hA
    simpa using this
  obtain ⟨s1, s2, s3⟩ := hs ds hlen
  refine (law_calls (htab W hL) (spec avs k2 k3) k1 k4).mono fun e W' ⟨he, bel⟩ => ⟨_, he, ds, [], p ++ [], [], p, [], hW', ?_, ?_, ?_, bel.frame _, fun h => (by cases h)⟩
  · rw [List.append_nil, s1, hres]
    exact trodAll_mk1 (shut_bool htb _)
  · rw [List.append_nil, s2]
    exact again_args hl bel (fun t h => ⟨(ht t h).1.1, (ht t h).2⟩) (fun x hx => by simpa using hW'.lt x (by simpa using hx)) hA
  · rw [hvars, List.append_nil, s3]; rfl
end
end Go.Qg


namespace Go.Qg
open Go.Proofs
set_option maxRecDepth 100000
theorem lenOk {n : Nat} (h : n ≤ maxLen) : n ≤ 9223372036854775807 := h
section
open Tryz
theorem t_int {n : Nat} {ps : List PV} (h : Typ Tryz.prog (n + 1) 3 ps) : ∃ x, ps = [.v (.int .i64 x)] := by
  simp only [Typ, Tryz.underlying3] at h
  obtain ⟨x, h1, h2⟩ := h
  exact ⟨x, h1⟩
theorem d_int {n : Nat} : tdef Tryz.prog (n + 1) 3 = [.v (.int .i64 0)] := by simp only [tdef, Tryz.underlying3]
theorem t_bool {n : Nat} {ps : List PV} (h : Typ Tryz.prog (n + 1) 4 ps) : ∃ x, ps = [.v (.bool x)] := by
  simpa only [Typ, Tryz.underlying4] using h
theorem d_bool {n : Nat} : tdef Tryz.prog (n + 1) 4 = [.v (.bool false)] := by simp only [tdef, Tryz.underlying4]
theorem t_struct {P : Program} {n : Nat} {t : TypeId} {ps : List PV} {fs : Array Field} (hu : P.underlying t = some (.struct fs)) (h : Typ P (n + 1) t ps) : TypF (Typ P n) (fs.toList.map (·.type)) ps := by
  unfold Typ at h
  rw [hu] at h
  exact h
theorem a_struct {P : Program} {n : Nat} {t : TypeId} {p : PV} {fs : Array Field} (hu : P.underlying t = some (.struct fs)) (h : ArgP P n t p) : ∃ ps, p = .agg ps ∧ Typ P n t ps := by
  unfold ArgP at h
  rw [hu] at h
  exact h
theorem d_struct {P : Program} {n : Nat} {t : TypeId} {fs : Array Field} (hu : P.underlying t = some (.struct fs)) : tdef P (n + 1) t = (fs.toList.map fun f => tdef P n f.type).flatten := by
  simp only [tdef, hu]
theorem t_slice {P : Program} {n : Nat} {t e : TypeId} {ps : List PV} {c : Nat} (hu : P.underlying t = some (.slice e)) (hc : P.cellsOf e = c) (h : Typ P (n + 1) t ps) : ∃ (m : Nat) (f : Nat → List PV), ps = [.sl c m f] ∧ m ≤ 9223372036854775807 ∧ (∀ i, i < m → Typ P n e (f i)) ∧ ∀ i, m ≤ i → f i = tdef P n e := by
  unfold Typ at h
  rw [hu] at h
  obtain ⟨m, f, h1, h2, h3, h4⟩ := h
  exact ⟨m, f, by rw [h1, hc], lenOk h2, h3, h4⟩
theorem d_slice {P : Program} {n : Nat} {t e : TypeId} {c : Nat} (hu : P.underlying t = some (.slice e)) (hc : P.cellsOf e = c) : tdef P (n + 1) t = [.sl c 0 fun _ => tdef P n e] := by
  simp only [tdef, hu, hc]
theorem a_slice {P : Program} {n : Nat} {t e : TypeId} {p : PV} (hu : P.underlying t = some (.slice e)) (h : ArgP P n t p) : Typ P n t [p] := by
  unfold ArgP at h
  rw [hu] at h
  exact h
theorem t_spn {n : Nat} {ps : List PV} (h : Typ Tryz.prog (n + 2) 37 ps) : ∃ r : Spn, ps = r.cells := by
  obtain ⟨p0, q0, rfl, h0, p1, q1, rfl, h1, rfl⟩ := t_struct Tryz.underlying37 h
  obtain ⟨x0, rfl⟩ := t_int h0
  obtain ⟨x1, rfl⟩ := t_int h1
  exact ⟨⟨x0, x1⟩, rfl⟩
theorem d_spn {n : Nat} : tdef Tryz.prog (n + 2) 37 = (default : Spn).cells := by
  rw [d_struct Tryz.underlying37]; simp [d_int]; rfl
theorem a_spn {n : Nat} {p : PV} (h : ArgP Tryz.prog (n + 2) 37 p) : ∃ r : Spn, p = .agg r.cells := by
  obtain ⟨ps, rfl, g⟩ := a_struct Tryz.underlying37 h
  obtain ⟨r, rfl⟩ := t_spn g
  exact ⟨r, rfl⟩
theorem t_stn {n : Nat} {ps : List PV} (h : Typ Tryz.prog (n + 2) 25 ps) : ∃ r : Stn, ps = r.cells := by
  obtain ⟨p0, q0, rfl, h0, p1, q1, rfl, h1, rfl⟩ := t_struct Tryz.underlying25 h
  obtain ⟨x0, rfl⟩ := t_int h0
  obtain ⟨x1, rfl⟩ := t_int h1
  exact ⟨⟨x0, x1⟩, rfl⟩
theorem d_stn {n : Nat} : tdef Tryz.prog (n + 2) 25 = (default : Stn).cells := by
  rw [d_struct Tryz.underlying25]; simp [d_int]; rfl
theorem cells_stn : Tryz.prog.cellsOf 25 = 2 := by kernel_rfl
theorem t_stns {n : Nat} {ps : List PV} (h : Typ Tryz.prog (n + 3) 23 ps) : ∃ l : List Stn, ps = [stnL l] ∧ l.length ≤ 9223372036854775807 := by
  obtain ⟨m, f, h1, h2, h3, h4⟩ := t_slice Tryz.underlying23 cells_stn h
  obtain ⟨l, g1, g2, _⟩ := sl_list Stn.cells (fun _ => True) (fun i hi => (t_stn (h3 i hi)).elim fun r h => ⟨r, h, trivial⟩) (fun i hi => (h4 i hi).trans d_stn)
  refine ⟨l, ?_, by omega⟩
  rw [h1, g2, ← g1]; rfl
theorem d_stns {n : Nat} : tdef Tryz.prog (n + 3) 23 = [stnL []] := by
  rw [d_slice Tryz.underlying23 cells_stn]
  simp only [d_stn]; rfl
theorem t_cnr {n : Nat} {ps : List PV} (h : Typ Tryz.prog (n + 2) 116 ps) : ∃ r : Cnr, ps = r.cells := by
  obtain ⟨p0, q0, rfl, h0, p1, q1, rfl, h1, rfl⟩ := t_struct Tryz.underlying116 h
  obtain ⟨x0, rfl⟩ := t_int h0
  obtain ⟨x1, rfl⟩ := t_int h1
  exact ⟨⟨x0, x1⟩, rfl⟩
theorem d_cnr {n : Nat} : tdef Tryz.prog (n + 2) 116 = (default : Cnr).cells := by
  rw [d_struct Tryz.underlying116]; simp [d_int]; rfl
theorem cells_cnr : Tryz.prog.cellsOf 116 = 2 := by kernel_rfl
theorem t_cnrs {n : Nat} {ps : List PV} (h : Typ Tryz.prog (n + 3) 22 ps) : ∃ l : List Cnr, ps = [cnrL l] ∧ l.length ≤ 9223372036854775807 := by
  obtain ⟨m, f, h1, h2, h3, h4⟩ := t_slice Tryz.underlying22 cells_cnr h
  obtain ⟨l, g1, g2, _⟩ := sl_list Cnr.cells (fun _ => True) (fun i hi => (t_cnr (h3 i hi)).elim fun r h => ⟨r, h, trivial⟩) (fun i hi => (h4 i hi).trans d_cnr)
  refine ⟨l, ?_, by omega⟩
  rw [h1, g2, ← g1]; rfl
theorem d_cnrs {n : Nat} : tdef Tryz.prog (n + 3) 22 = [cnrL []] := by
  rw [d_slice Tryz.underlying22 cells_cnr]
  simp only [d_cnr]; rfl
theorem t_itm {n : Nat} {ps : List PV} (h : Typ Tryz.prog (n + 3) 120 ps) : ∃ r : Itm, ps = r.cells := by
  obtain ⟨p0, q0, rfl, h0, p1, q1, rfl, h1, rfl⟩ := t_struct Tryz.underlying120 h
  obtain ⟨x0, rfl⟩ := t_int h0
  obtain ⟨s, rfl⟩ := t_spn h1
  exact ⟨⟨x0, s.low, s.high⟩, rfl⟩
theorem d_itm {n : Nat} : tdef Tryz.prog (n + 3) 120 = (default : Itm).cells := by
  rw [d_struct Tryz.underlying120]; simp [d_int, d_spn]; rfl
theorem cells_itm : Tryz.prog.cellsOf 120 = 3 := by kernel_rfl
theorem t_itms {n : Nat} {ps : List PV} (h : Typ Tryz.prog (n + 4) 63 ps) : ∃ l : List Itm, ps = [itmL l] ∧ l.length ≤ 9223372036854775807 := by
  obtain ⟨m, f, h1, h2, h3, h4⟩ := t_slice Tryz.underlying63 cells_itm h
  obtain ⟨l, g1, g2, _⟩ := sl_list Itm.cells (fun _ => True) (fun i hi => (t_itm (h3 i hi)).elim fun r h => ⟨r, h, trivial⟩) (fun i hi => (h4 i hi).trans d_itm)
  refine ⟨l, ?_, by omega⟩
  rw [h1, g2, ← g1]; rfl
theorem d_itms {n : Nat} : tdef Tryz.prog (n + 4) 63 = [itmL []] := by
  rw [d_slice Tryz.underlying63 cells_itm]
  simp only [d_itm]; rfl
theorem t_leg {n : Nat} {ps : List PV} (h : Typ Tryz.prog (n + 5) 112 ps) : ∃ r : Leg, ps = r.cells ∧ r.items.length ≤ 9223372036854775807 := by
  obtain ⟨p0, q0, rfl, h0, p1, q1, rfl, h1, p2, q2, rfl, h2, p3, q3, rfl, h3, p4, q4, rfl, h4, rfl⟩ := t_struct Tryz.underlying112 h
  obtain ⟨l, rfl, hl⟩ := t_itms h0
  obtain ⟨x1, rfl⟩ := t_bool h1
  obtain ⟨x2, rfl⟩ := t_int h2
  obtain ⟨x3, rfl⟩ := t_spn h3
  obtain ⟨x4, rfl⟩ := t_spn h4
  exact ⟨⟨l, x1, x2, x3, x4⟩, rfl, hl⟩
theorem d_leg {n : Nat} : tdef Tryz.prog (n + 5) 112 = (default : Leg).cells := by
  rw [d_struct Tryz.underlying112]; simp [d_int, d_spn, d_bool, d_itms]; rfl
theorem cells_leg : Tryz.prog.cellsOf 112 = 7 := by kernel_rfl
theorem a_legs {n : Nat} {p : PV} (h : ArgP Tryz.prog (n + 6) 28 p) : ∃ l : List Leg, p = legL l ∧ l.length ≤ 9223372036854775807 ∧ ∀ k, k < l.length → (legAt l k).items.length ≤ 9223372036854775807 := by
  obtain ⟨m, f, h1, h2, h3, h4⟩ := t_slice Tryz.underlying28 cells_leg (a_slice Tryz.underlying28 h)
  obtain ⟨l, g1, g2, g3⟩ := sl_list Leg.cells (fun r => r.items.length ≤ 9223372036854775807) (fun i hi => t_leg (h3 i hi)) (fun i hi => (h4 i hi).trans d_leg)
  have h1 := List.singleton_inj.1 h1
  refine ⟨l, ?_, by omega, fun k hk => g3 _ (by simp [legAt, hk])⟩
  rw [h1, g2, ← g1]; rfl
theorem a_pln {n : Nat} {p : PV} (h : ArgP Tryz.prog (n + 4) 27 p) : ∃ P : Pln, p = .agg P.cells ∧ PlnLen P := by
  obtain ⟨ps, rfl, g⟩ := a_struct Tryz.underlying27 h
  obtain ⟨p0, q0, rfl, h0, p1, q1, rfl, h1, p2, q2, rfl, h2, p3, q3, rfl, h3, p4, q4, rfl, h4, p5, q5, rfl, h5, p6, q6, rfl, h6, p7, q7, rfl, h7, p8, q8, rfl, h8, rfl⟩ := t_struct Tryz.underlying27 g
  obtain ⟨x0, rfl⟩ := t_int h0
  obtain ⟨x1, rfl⟩ := t_int h1
  obtain ⟨x2, rfl⟩ := t_int h2
  obtain ⟨x3, rfl⟩ := t_int h3
  obtain ⟨x4, rfl, k4⟩ := t_cnrs h4
  obtain ⟨x5, rfl, k5⟩ := t_stns h5
  obtain ⟨x6, rfl⟩ := t_stn h6
  obtain ⟨x7, rfl⟩ := t_int h7
  obtain ⟨x8, rfl, k8⟩ := t_stns h8
  exact ⟨⟨x0, x1, x2, x3, x4, x5, x6, x7, x8⟩, rfl, ⟨k4, k5, k8⟩⟩
end
theorem laidOut_ : laidOutB Tryz.prog = true := by kernel_rfl
theorem ownKnob_ : ownKnob Tryz.prog.godebug = none := by kernel_rfl
def pows : List Int := (List.range 20).map fun i => ((10 ^ i : Nat) : Int)
def laidL : List (String × DataW Unit) := [("math/bits.deBruijn32tab", Go.Proofs.YtnjhblcfjhpoiaaGreatDoor.Rows.laid_math_bits_deBruijn32tab), ("math/bits.deBruijn64tab", Go.Proofs.YtnjhblcfjhpoiaaGreatDoor.Rows.laid_math_bits_deBruijn64tab), ("internal/strconv.uint64pow10", Go.Proofs.YtnjhblcfjhpoiaaGreatDoor.Rows.laid_internal_strconv_uint64pow10)]
theorem pow_data : (Go.Proofs.YtnjhblcfjhpoiaaGreatDoor.Rows.laid_internal_strconv_uint64pow10 : DataW Unit) = Lib.tabData .u64 pows := rfl
theorem pow_glob : Tryz.prog.globalNamed "internal/strconv.uint64pow10" = some 1 := by kernel_rfl
theorem tabs_of_laid : ∀ W : World, laidMet Tryz.prog laidL W → tabOk (· < W.heap.size) W := fun W h => by
  have h3 := laidMet.tail (laidMet.tail h)
  rw [pow_data] at h3
  have ht := Lib.tabIs_of_head (t := 247) (e := 233) (n := 20) pow_glob (by kernel_rfl) Tryz.underlying247 Tryz.underlying233 (by kernel_rfl) (by kernel_rfl) h3
  unfold Lib.TabIs World.var? at ht
  rw [pow_glob] at ht
  simp only [Option.bind_some] at ht
  intro b φ hb
  simp only [seatTabs, List.mem_singleton] at hb
  obtain ⟨rfl, rfl⟩ := Prod.mk.inj hb
  split at ht
  · rename_i cs t fz hh
    refine ⟨?_, cs, t, fz, hh, ?_⟩
    · rcases Nat.lt_or_ge 1 W.heap.size with h' | h'
      · exact h'
      · rw [Array.getElem?_eq_none h'] at hh
        cases hh
    · rw [Option.some.inj ht]; simp [pows, Function.comp_def]
  · cases ht
end Go.Qg


namespace Go.Qg
open Go.Proofs
set_option maxRecDepth 100000
def litsOf : DataW Unit → Array Value
  | .agg l => (l.map fun | .lit (.int k z) => Value.int k z | _ => .bool false).toArray
  | _ => #[]
def layAt (g : Nat) (d : DataW Unit) (h : Array Obj) : Array Obj := h.modify g fun
  | .cells _ t frozen => .cells (litsOf d) t frozen
  | o => o
noncomputable def laidWorld (os : Os) : World :=
  let w0 := World.holding Tryz.prog os ⟨#[], #[], []⟩
  { w0 with heap := layAt 4 Go.Proofs.YtnjhblcfjhpoiaaGreatDoor.Rows.laid_math_bits_deBruijn32tab (layAt 5 Go.Proofs.YtnjhblcfjhpoiaaGreatDoor.Rows.laid_math_bits_deBruijn64tab (layAt 1 Go.Proofs.YtnjhblcfjhpoiaaGreatDoor.Rows.laid_internal_strconv_uint64pow10 w0.heap)) }
theorem laid_met (os : Os) (args : Array Value) : laidMet Tryz.prog laidL ((laidWorld os).forCall (fun _ _ => 0) ⟨#[], args, []⟩).memory :=
  laidMet_of_run' 8 (by kernel_rfl) (by kernel_rfl)
end Go.Qg


namespace Go.Qg
open Go.Proofs
set_option maxRecDepth 100000
set_option linter.unusedSimpArgs false
set_option maxHeartbeats 64000000
attribute [local irreducible] pwp pops pdraw pop popCall pdCall thenP blockP scopeP pspec Spec answers ppost CallW rend
theorem rWith_spec (legs : List Leg) (people : List Psn) (some : List Int) (hl : legs.length ≤ 6) (hi : ∀ i, i < legs.length → (legAt legs i).items.length ≤ 12) (hp : people.length ≤ 8) (hs : some.length ≤ 8)
    (hk : ∀ j, j < some.length → 0 ≤ geti some j ∧ geti some j < (people.length : Int)) :
    Spec Tryz.prog 77 [legL legs, psnL people, ints some] (legL (takenN legs people some legs.length)) := by
  refine spec_of mixed Tryz.func77 (by decide) rfl Tryz.results77 Tryz.ntmps77 (by decide) 0 (by simp) ?_
  simp [legL, psnL, ints]
  refine pwp_loop (fun i : Nat => [(7, .own 60 i 0 i false), (8, .v (.int .i64 i)), (60, .rows none i 112 7 (rowsLg (takenN legs people some i)))]) (fun i => i ≤ legs.length) (fun i => legs.length - i) 0 (Nat.zero_le _) (by simp; rfl) ?_ ?_
  · simp [takenN]
  intro i hi'
  by_cases hil : i < legs.length
  · have wi := i64_wrap (show -9223372036854775808 ≤ (i : Int) + 1 ∧ _ from by omega)
    have hx := hi i hil
    have er := rowsIt_range (legAt legs i).items
    simp [hil, Leg.cells, itmL, show (legAt legs i).items.length * 24 ≤ 140737488355328 from by omega, show (legAt legs i).items.length ≤ maxLen from by simp [maxLen]; omega]
    refine pwp_loop (fun j : Nat => [(9, .box true [.own 24 (onIt people i (some.take j)).length 0 ((legAt legs i).items.length + (onIt people i (some.take j)).length) false, .v (.bool (legAt legs i).pump), .v (.int .i64 (legAt legs i).fuel), .v (.int .i64 (legAt legs i).burn.low), .v (.int .i64 (legAt legs i).burn.high), .v (.int .i64 (legAt legs i).leak.low), .v (.int .i64 (legAt legs i).leak.high)]),
      (10, .v (.int .i64 j)), (24, .rows none (onIt people i (some.take j)).length 120 3 (rowsIt ((legAt legs i).items ++ onIt people i (some.take j))))]) (fun j => j ≤ some.length) (fun j => some.length - j) 0 (Nat.zero_le _) (by simp; rfl) ?_ ?_
    · simp [onIt, er]
    intro j hj
    by_cases hjl : j < some.length
    · have wj := i64_wrap (show -9223372036854775808 ≤ (j : Int) + 1 ∧ _ from by omega)
      obtain ⟨k0, k1⟩ := hk j hjl
      obtain ⟨k, hk'⟩ : ∃ k : Nat, geti some j = (k : Int) := ⟨_, (Int.toNat_of_nonneg k0).symm⟩
      rw [hk'] at k1
      have hkp : k < people.length := by omega
      have es := onIt_succ people i some hjl
      have hol := onIt_len people i some j
      rw [hk'] at es
      simp only [Int.toNat_natCast] at es
      simp [hjl, hk', hkp, Psn.cells]
      refine pop_spec (rin_spec (i : Int) (psnAt people k).first (psnAt people k).last) rfl false (.inl (by simp)) (.inl rfl) rfl (by simp) ?_
      have hb' : onB people i (k : Int) = inB (i : Int) (psnAt people k).first (psnAt people k).last := by simp [onB]
      cases hb : inB (i : Int) (psnAt people k).first (psnAt people k).last with
      | true =>
        rw [hb', hb, if_pos rfl] at es
        have er2 := rowsIt_snoc' ((legAt legs i).items ++ onIt people i (some.take j)) (psnItm (psnAt people k))
        have et : ((legAt legs i).items ++ onIt people i (some.take j)).take ((legAt legs i).items.length + (onIt people i (some.take j)).length) = (legAt legs i).items ++ onIt people i (some.take j) := List.take_of_length_le (by simp)
        simp only [psnItm, List.append_assoc] at er2
        simp [show ((legAt legs i).items.length + (onIt people i (some.take j)).length + 1) * 24 ≤ 140737488355328 from by omega, show (legAt legs i).items.length + (onIt people i (some.take j)).length + 1 ≤ maxLen from by simp [maxLen]; omega]
        refine again_of (j + 1) (by omega) (by omega) ?_
        have et2 : (onIt people i (some.take j)).length + (legAt legs i).items.length = ((legAt legs i).items ++ onIt people i (some.take j)).length := by simp; omega
        simp [wj, es, er2, et]
        exact ⟨by omega, rfl⟩
      | false =>
        rw [hb', hb, if_neg (by simp), List.append_nil] at es
        simp
        refine again_of (j + 1) (by omega) (by omega) ?_
        simp [wj, es]
    · obtain rfl : j = some.length := by omega
      have hol := onIt_len people i some some.length
      rw [List.take_of_length_le (Nat.le_refl _)] at hol
      have en := takenN_succ legs people some i
      have et : (takenN legs people some i).take i = takenN legs people some i := List.take_of_length_le (by rw [takenN_length]; exact Nat.le_refl _)
      rw [List.take_of_length_le (Nat.le_refl _)]
      have big : (i + 1) * 72 ≤ 140737488355328 ∧ i + 1 ≤ maxLen := by simp [maxLen]; omega
      simp [takenN_length, big, guard]
      refine again_of (i + 1) (by omega) (by omega) ?_
      simp [wi, en, et, ← rowsLg_snoc, vwAllL_snocLg, rowsLg_allone, takenLeg, Leg.cells, itmL]
      intro k hk
      rw [rowsIt_get (by simpa using hk)]
      simp [Itm.cells]
  · obtain rfl : i = legs.length := by omega
    simp
    refine answers_of rfl ?_
    simp [legL, takenN_length]
    intro k hk
    simp [rowsLg_get (show k < (takenN legs people some legs.length).length by rw [takenN_length]; exact hk), vwAll_plain (legAt (takenN legs people some legs.length) k).plain]
    intro x hx
    simp [Leg.cells] at hx
    rcases hx with rfl | rfl | rfl | rfl | rfl | rfl | rfl <;> simp [itmL]
theorem takenL_len (legs : List Leg) (people : List Psn) (s : List Int) : (takenL legs people s).length = legs.length := takenN_length ..
theorem takenL_at {legs : List Leg} {people : List Psn} {s : List Int} {i : Nat} (hi : i < legs.length) : legAt (takenL legs people s) i = takenLeg people s i (legAt legs i) := by simp [takenL, takenN, legAt, hi]
structure InP (m : Nat) (s : List Int) : Prop where
  n : s.length ≤ 8
  each : ∀ x ∈ s, 0 ≤ x ∧ x < (m : Int)
theorem InP.at {n : Nat} {s : List Int} (h : InP n s) : ∀ j, j < s.length → 0 ≤ geti s j ∧ geti s j < (n : Int) := fun j hj => h.each _ (by simp [geti, List.getElem?_eq_getElem hj])
theorem worth_take (w : Nat → Int) (s : List Int) {j : Nat} (hj : j < s.length) : worthL w (s.take (j + 1)) = worthL w (s.take j) + w (geti s j).toNat := by
  have : s.take (j + 1) = s.take j ++ [geti s j] := by
    rw [List.take_add_one]
    simp [geti, List.getElem?_eq_getElem hj]
  rw [this, worth_app]
  simp [worthL]
theorem rWorth_spec (people : List Psn) (s : List Int) (hp : ∀ i, i < people.length → 0 ≤ (psnAt people i).worth ∧ (psnAt people i).worth ≤ 1000000) (hn : people.length ≤ 8) (hs : InP people.length s) :
    Spec Tryz.prog 25 [psnL people, ints s] (.v (.int .i64 (worthL (wP people) s))) := by
  have hsn := hs.n
  have hb : ∀ j, j ≤ s.length → 0 ≤ worthL (wP people) (s.take j) ∧ worthL (wP people) (s.take j) ≤ 1000000 * (j : Int) := fun j => by
    induction j with
    | zero => intro _; simp [worthL]
    | succ j ih =>
      intro hj
      have h1 := ih (by omega)
      have h2 := hs.at j (by omega)
      have h3 := hp (geti s j).toNat (by omega)
      rw [worth_take (wP people) s (by omega)]
      simp only [wP] at *
      omega
  have hfin : worthL (wP people) s = worthL (wP people) (s.take s.length) := by rw [List.take_length]
  rw [hfin]
  refine spec_of mixed Tryz.func25 (by decide) rfl Tryz.results25 Tryz.ntmps25 (by decide) 0 (by simp) ?_
  simp only [psnL, ints]
  simp
  refine pwp_loop (fun j : Nat => [(5, .v (.int .i64 (worthL (wP people) (s.take j)))), (6, .v (.int .i64 j))]) (fun j => j ≤ s.length) (fun j => s.length - j) 0 (Nat.zero_le _) (by simp; rfl) (by simp [worthL]) ?_
  intro j hj
  by_cases hjl : j < s.length
  · have wj := i64_wrap (show -9223372036854775808 ≤ (j : Int) + 1 ∧ _ from by omega)
    obtain ⟨k0, k1⟩ := hs.at j hjl
    obtain ⟨k, hk'⟩ : ∃ k : Nat, geti s j = (k : Int) := ⟨_, (Int.toNat_of_nonneg k0).symm⟩
    rw [hk'] at k1
    have hkp : k < people.length := by omega
    have es := worth_take (wP people) s hjl
    rw [hk'] at es
    simp only [Int.toNat_natCast] at es
    have h1 := hb (j + 1) (by omega)
    rw [es] at h1
    have ww := i64_wrap (show -9223372036854775808 ≤ worthL (wP people) (s.take j) + wP people k ∧ _ from by omega)
    simp [hjl, hk', hkp, Psn.cells, show (psnAt people k).worth = wP people k from rfl, ww]
    refine again_of (j + 1) (by omega) (by omega) ?_
    simp [wj, es]
  · obtain rfl : j = s.length := by omega
    simp
    refine answers_of rfl ?_; simp
theorem before_step {a b : List Int} {k : Nat} (h1 : k < a.length) (h2 : k < b.length) : beforeL (a.drop k) (b.drop k) = if geti a k = geti b k then beforeL (a.drop (k + 1)) (b.drop (k + 1)) else decide (geti a k < geti b k) := by
  rw [List.drop_eq_getElem_cons h1, List.drop_eq_getElem_cons h2]
  simp [beforeL, geti, h1, h2]
theorem before_end {a b : List Int} {k : Nat} (h : k = a.length ∨ k = b.length) (h1 : k ≤ a.length) (h2 : k ≤ b.length) : beforeL (a.drop k) (b.drop k) = decide (a.length < b.length) := by
  rcases h with h | h
  · subst h
    rw [List.drop_length]
    cases hd : b.drop a.length with
    | nil =>
      have : b.length - a.length = 0 := by rw [← List.length_drop, hd]; rfl
      simp [beforeL]; omega
    | cons x t =>
      have : b.length - a.length = t.length + 1 := by rw [← List.length_drop, hd]; rfl
      simp [beforeL]; omega
  · subst h
    rw [List.drop_length, before_nil]
    simp; omega
theorem rBefore_spec (a b : List Int) (ha : a.length ≤ 1000000) (hb : b.length ≤ 1000000) : Spec Tryz.prog 28 [ints a, ints b] (.v (.bool (beforeL a b))) := by
  refine spec_of mixed Tryz.func28 (by decide) rfl Tryz.results28 Tryz.ntmps28 (by decide) 0 (by simp) ?_
  simp [ints]
  refine pwp_loop (fun k : Nat => [(5, .v (.int .i64 k))]) (fun k => (k ≤ a.length ∧ k ≤ b.length) ∧ beforeL (a.drop k) (b.drop k) = beforeL a b) (fun k => a.length - k) 0 ⟨⟨Nat.zero_le _, Nat.zero_le _⟩, by simp⟩ (by simp; rfl) (by simp) ?_
  intro k ⟨⟨hk1, hk2⟩, hq⟩
  by_cases c1 : k < a.length
  · by_cases c2 : k < b.length
    · have wk := i64_wrap (show -9223372036854775808 ≤ (k : Int) + 1 ∧ _ from by omega)
      rw [before_step c1 c2] at hq
      simp [c1, c2]
      refine pwp_draw 9 (by decide) ?_
      by_cases he : geti a k = geti b k
      · rw [if_pos he] at hq
        simp [c1, c2, he]
        refine ⟨by decide, ?_⟩
        refine again_of (k + 1) ⟨⟨by omega, by omega⟩, hq⟩ (by omega) ?_
        simp [wk]
      · rw [if_neg he] at hq
        simp [c1, c2, he]
        refine ⟨by decide, ?_⟩
        refine pwp_draw 10 (by decide) ?_
        simp [c1, c2]
        refine ⟨by decide, ?_⟩
        refine answers_of rfl ?_; simp [← hq]
    · rw [before_end (.inr (by omega)) hk1 hk2] at hq
      simp [c1, c2]
      refine answers_of rfl ?_; simp [← hq]
  · rw [before_end (.inl (by omega)) hk1 hk2] at hq
    simp [c1]
    refine answers_of rfl ?_; simp [← hq]
def peopleB (P : Pln) (nl : Nat) (people : List Psn) : Bool := allN people.length fun k => psnB P nl (psnAt people k)
theorem rPeople_spec (P : Pln) (legs : List Leg) (people : List Psn) (hs : P.stations.length ≤ 1000) (hl : legs.length ≤ 1000) (hp : people.length ≤ 1000) : Spec Tryz.prog 22 [.agg P.cells, legL legs, psnL people] (.v (.bool (peopleB P legs.length people))) := by
  have w1 := i64_wrap (show -9223372036854775808 ≤ (P.stations.length : Int) - 1 ∧ _ from by omega)
  have w2 := i64_wrap (show -9223372036854775808 ≤ (legs.length : Int) - 1 ∧ _ from by omega)
  refine spec_of mixed Tryz.func22 (by decide) rfl Tryz.results22 Tryz.ntmps22 (by decide) 0 (by simp) ?_
  simp [Pln.cells, cnrL, stnL, legL, psnL]
  refine pwp_loop (fun k : Nat => [(7, .v (.int .i64 k))]) (fun k => k ≤ people.length ∧ ∀ j, j < k → psnB P legs.length (psnAt people j) = true) (fun k => people.length - k) 0 ⟨Nat.zero_le _, fun j h => by omega⟩ (by simp; rfl) (by simp) ?_
  intro k ⟨hk, hq⟩
  by_cases hkl : k < people.length
  · have wk := i64_wrap (show -9223372036854775808 ≤ (k : Int) + 1 ∧ _ from by omega)
    have no : psnB P legs.length (psnAt people k) = false → peopleB P legs.length people = false := fun h => allN_false (p := fun k => psnB P legs.length (psnAt people k)) hkl h
    simp [hkl]
    refine pwp_draw 41 (by decide) ?_
    simp [hkl, Psn.cells]
    refine pd_spec (rSpan_spec ⟨(psnAt people k).low, (psnAt people k).high⟩ 0 20000) (by simp [Spn.cells]) (by simp) (by simp [Spn.cells]) rfl ?_
    cases h1 : spanB ⟨(psnAt people k).low, (psnAt people k).high⟩ 0 20000 with
    | false =>
      simp
      refine ⟨by decide +kernel, ?_⟩
      refine answers_of rfl ?_; simp [no (by simp [psnB, h1])]
    | true =>
      simp [hkl, Psn.cells, w1]
      refine pd_spec (rin_spec (psnAt people k).station 0 ((P.stations.length : Int) - 1)) (by simp) (by simp) (by simp) rfl ?_
      cases h2 : inB (psnAt people k).station 0 ((P.stations.length : Int) - 1) with
      | false =>
        simp
        refine ⟨by decide +kernel, ?_⟩
        refine answers_of rfl ?_; simp [no (by simp [psnB, h2])]
      | true =>
        simp [hkl, Psn.cells, w2]
        refine pd_spec (rSpan_spec ⟨(psnAt people k).first, (psnAt people k).last⟩ 0 ((legs.length : Int) - 1)) (by simp [Spn.cells]) (by simp) (by simp [Spn.cells]) rfl ?_
        cases h3 : spanB ⟨(psnAt people k).first, (psnAt people k).last⟩ 0 ((legs.length : Int) - 1) with
        | false =>
          simp
          refine ⟨by decide +kernel, ?_⟩
          refine answers_of rfl ?_; simp [no (by simp [psnB, h3])]
        | true =>
          simp [hkl, Psn.cells]
          refine pd_spec (rin_spec (psnAt people k).worth 0 1000000) (by simp) (by simp) (by simp) rfl ?_
          cases h4 : inB (psnAt people k).worth 0 1000000 with
          | false =>
            simp
            refine ⟨by decide +kernel, ?_⟩
            refine answers_of rfl ?_; simp [no (by simp [psnB, h4])]
          | true =>
            simp
            refine ⟨by decide +kernel, ?_⟩
            refine again_of (k + 1) ⟨by omega, fun j hj => ?_⟩ (by omega) ?_
            · rcases Nat.lt_or_eq_of_le (Nat.le_of_lt_succ hj) with h' | rfl
              · exact hq j h'
              · simp [psnB, h1, h2, h3, h4]
            · simp [wk]
  · obtain rfl : k = people.length := by omega
    have : peopleB P legs.length people = true := allN_spec.2 hq
    simp
    refine answers_of rfl ?_; simp [this]
def okP (P : Pln) (fuel : Spn) (legs : List Leg) (people : List Psn) (s : List Int) : Bool := fitsP legs people s && sureP P fuel legs people s
def bestP (P : Pln) (fuel : Spn) (legs : List Leg) (people : List Psn) (m : Nat) : Option (List Int) := bestB (okP P fuel legs people) (wP people) m
end Go.Qg


namespace Go.Qg
open Go.Proofs
set_option maxRecDepth 100000
set_option linter.unusedSimpArgs false
set_option maxHeartbeats 64000000
attribute [local irreducible] pwp pops pdraw pop popCall pdCall thenP blockP scopeP pspec Spec answers ppost CallW rend
def chosenB (n : Nat) (l : List Int) : Bool := allN l.length fun i => decide (0 ≤ geti l i) && decide (geti l i < n) && (decide (i = 0) || decide (geti l (i - 1) < geti l i))
theorem chain_iff {n : Nat} : ∀ {l : List Int} {a : Nat}, Chain n a l ↔ ∀ i, i < l.length → (0 ≤ geti l i ∧ geti l i < n) ∧ (i = 0 → (a : Int) ≤ geti l i) ∧ (0 < i → geti l (i - 1) < geti l i)
  | [], a => by simp [Chain]
  | x :: t, a => by
    rw [Chain, chain_iff (l := t)]
    constructor
    · rintro ⟨⟨h1, h2⟩, h3⟩ i hi
      cases i with
      | zero => simp [geti]; omega
      | succ i =>
        have h := h3 i (by simpa using hi)
        refine ⟨by simpa [geti] using h.1, fun e => (by omega), fun _ => ?_⟩
        cases i with
        | zero =>
          have := h.2.1 rfl
          simp [geti] at this ⊢; omega
        | succ i => simpa [geti] using h.2.2 (by omega)
    · intro h
      have h0 := h 0 (by simp)
      simp [geti] at h0
      refine ⟨by omega, fun i hi => ?_⟩
      have h1 := h (i + 1) (by simpa using hi)
      refine ⟨by simpa [geti] using h1.1, fun e => ?_, fun hp => ?_⟩
      · subst e
        have := h1.2.2 (by omega)
        simp [geti] at this ⊢; omega
      · obtain ⟨j, rfl⟩ : ∃ j, i = j + 1 := ⟨i - 1, by omega⟩
        simpa [geti] using h1.2.2 (by omega)
theorem chosen_chain {n : Nat} {l : List Int} : chosenB n l = true ↔ Chain n 0 l := by
  rw [chain_iff, chosenB, allN_spec]
  simp only [Bool.and_eq_true, Bool.or_eq_true, decide_eq_true_eq]
  constructor
  · intro h i hi
    have := h i hi
    exact ⟨this.1, fun _ => by omega, fun h0 => this.2.resolve_left (by omega)⟩
  · intro h i hi
    have := h i hi
    exact ⟨this.1, by by_cases h0 : i = 0; exact .inl h0; exact .inr (this.2.2 (by omega))⟩
theorem lchosen_spec (people : List Psn) (l : List Int) (hp : people.length ≤ 1000) (hl : l.length ≤ 1000) : Spec Tryz.prog 26 [psnL people, ints l] (.v (.bool (chosenB people.length l))) := by
  refine spec_of mixed Tryz.func26 (by decide) rfl Tryz.results26 Tryz.ntmps26 (by decide) 0 (by simp) ?_
  simp [psnL, ints]
  refine pwp_loop (fun k : Nat => [(5, .v (.int .i64 k))]) (fun k => k ≤ l.length ∧ ∀ j, j < k → (decide (0 ≤ geti l j) && decide (geti l j < people.length) && (decide (j = 0) || decide (geti l (j - 1) < geti l j))) = true) (fun k => l.length - k) 0 ⟨Nat.zero_le _, fun j h => by omega⟩ (by simp; rfl) (by simp) ?_
  intro k ⟨hk, hq⟩
  by_cases hkl : k < l.length
  · have wk := i64_wrap (show -9223372036854775808 ≤ (k : Int) + 1 ∧ _ from by omega)
    have wk1 := i64_wrap (show -9223372036854775808 ≤ (k : Int) - 1 ∧ _ from by omega)
    have no : (decide (0 ≤ geti l k) && decide (geti l k < people.length) && (decide (k = 0) || decide (geti l (k - 1) < geti l k))) = false → chosenB people.length l = false := fun h => allN_false (p := fun i => decide (0 ≤ geti l i) && decide (geti l i < people.length) && (decide (i = 0) || decide (geti l (i - 1) < geti l i))) hkl h
    simp [hkl]
    refine pwp_draw 30 (by decide) ?_
    by_cases c1 : geti l k < 0
    · simp [hkl, c1]
      refine ⟨by decide +kernel, ?_⟩
      refine answers_of rfl ?_; simp [no (by simp; omega)]
    by_cases c2 : (people.length : Int) ≤ geti l k
    · simp [hkl, c1, c2]
      refine ⟨by decide +kernel, ?_⟩
      refine answers_of rfl ?_; simp [no (by simp; omega)]
    by_cases c3 : k = 0
    · subst c3
      simp [hkl, c1, c2]
      refine ⟨by decide +kernel, ?_⟩
      refine again_of 1 ⟨by omega, fun j hj => ?_⟩ (by omega) ?_
      · obtain rfl : j = 0 := by omega
        simp; omega
      · simp
    obtain ⟨m, rfl⟩ : ∃ m, k = m + 1 := ⟨k - 1, by omega⟩
    have em : (((m + 1 : Nat) : Int) - 1) = (m : Int) := by omega
    rw [em] at wk1
    have hml : m < l.length := by omega
    by_cases c4 : geti l (m + 1) ≤ geti l m
    · simp [hkl, c1, c2, em, wk1, hml, c4, show (0 : Int) < (m : Int) + 1 from by omega, show (0 : Int) ≤ (m : Int) + 1 from by omega, show (m : Int) + 1 < l.length from by omega]
      refine ⟨by decide +kernel, ?_⟩
      refine answers_of rfl ?_; simp [no (by simp; omega)]
    · simp [hkl, c1, c2, em, wk1, hml, c4, show (0 : Int) < (m : Int) + 1 from by omega, show (0 : Int) ≤ (m : Int) + 1 from by omega, show (m : Int) + 1 < l.length from by omega]
      refine ⟨by decide +kernel, ?_⟩
      refine again_of (m + 1 + 1) ⟨by omega, fun j hj => ?_⟩ (by omega) ?_
      · rcases Nat.lt_or_eq_of_le (Nat.le_of_lt_succ hj) with h' | rfl
        · simpa using hq j h'
        · simp; omega
      · simp [wk, i64_wrap (show -9223372036854775808 ≤ (m : Int) + 1 + 1 ∧ _ from by omega)]
  · obtain rfl : k = l.length := by omega
    have : chosenB people.length l = true := allN_spec.2 hq
    simp
    refine answers_of rfl ?_; simp [this]
theorem chain_in {n : Nat} {s : List Int} (hn : n ≤ 8) (hc : Chain n 0 s) : InP n s ∧ s.length ≤ n := by
  have hlen : ∀ {t : List Int} {a : Nat}, a ≤ n → Chain n a t → t.length ≤ n - a := fun {t} => by
    induction t with
    | nil => intro a _ _; simp
    | cons x t ih =>
      intro a ha h
      simp only [Chain] at h
      have := ih (a := x.toNat + 1) (by omega) h.2
      simp only [List.length_cons]; omega
  have := hlen (Nat.zero_le n) hc
  exact ⟨⟨by omega, fun x hx => by have := chain_mem hc x hx; omega⟩, by omega⟩
theorem laboard_spec (P : Pln) (fuel : Spn) (legs : List Leg) (people : List Psn) (s : List Int) (hPl : PlnLen P) (hT : TakeOk P fuel legs people) (hs : InP people.length s) :
    Spec Tryz.prog 27 [.agg P.cells, .agg fuel.cells, legL legs, psnL people, ints s] (.v (.bool (okP P fuel legs people s))) := by
  have hn := hT.trip.n
  have hw := rWith_spec legs people s (by omega) (fun i hi => (hT.trip.leg i hi).n) hT.n hs.n hs.at
  have hlen := takenL_len legs people s
  have hwl : takenN legs people s legs.length = takenL legs people s := rfl
  rw [hwl] at hw
  have hfit : fitsP legs people s = allN legs.length fun i => decide ((legAt (takenL legs people s) i).items.length ≤ 12) := by
    rw [Bool.eq_iff_iff]
    simp only [fitsP, fitsN, allN_spec]
    exact ⟨fun h i hi => by rw [takenL_at hi]; exact h i hi, fun h i hi => by have := h i hi; rwa [takenL_at hi] at this⟩
  have hil : ∀ i, i < legs.length → (legAt (takenL legs people s) i).items.length ≤ 20 := fun i hi => by
    rw [takenL_at hi]
    have h1 := (hT.trip.leg i hi).n
    have h2 := onIt_len people i s s.length
    rw [List.take_of_length_le (Nat.le_refl _)] at h2
    have h3 := hs.n
    simp only [takenLeg, List.length_append]; omega
  have hll : LegsLen (takenL legs people s) := ⟨by rw [hlen]; omega, fun k hk => by have := hil k (by rw [← hlen]; exact hk); omega⟩
  have htr := Trip_spec P fuel (takenL legs people s) hPl hll
  have hsure : fitsP legs people s = true → tripRes P fuel (takenL legs people s) = .tup [.v (.int .i64 (tripN P fuel (takenL legs people s))), .v (.int .i64 (tripR P fuel (takenL legs people s)).1), .v (.int .i64 (tripR P fuel (takenL legs people s)).2), .v (.int .i64 0)] := fun h => tripRes_ok (tripped_ok.2 ⟨hT.plane, taken_ok hT hs.each h⟩)
  have hsu : sureP P fuel legs people s = decide (tripN P fuel (takenL legs people s) = -1) := by
    unfold sureP tripN
    cases tripP P fuel (takenL legs people s) with
    | none => rfl
    | some j => simp
  rw [okP, hsu]
  rw [hfit] at hsure ⊢
  generalize (tripR P fuel (takenL legs people s)).1 = r1 at *
  generalize (tripR P fuel (takenL legs people s)).2 = r2 at *
  generalize tripN P fuel (takenL legs people s) = N at *
  generalize tripRes P fuel (takenL legs people s) = R at *
  generalize takenL legs people s = L at *
  simp only [legL, hlen] at hw htr
  refine spec_of mixed Tryz.func27 (by decide) rfl Tryz.results27 Tryz.ntmps27 (by decide) 0 (by simp) ?_
  simp [Pln.cells, cnrL, stnL, Spn.cells, legL, psnL, ints]
  refine pop_spec hw rfl false (.inl (by simp [legL, psnL, ints])) (.inl rfl) rfl (by simp) ?_
  simp
  refine pwp_loop (fun k : Nat => [(12, .v (.int .i64 k))]) (fun k => k ≤ legs.length ∧ ∀ j, j < k → (legAt L j).items.length ≤ 12) (fun k => legs.length - k) 0 ⟨Nat.zero_le _, fun j h => by omega⟩ (by simp; rfl) (by simp) ?_
  intro k ⟨hk, hq⟩
  by_cases hkl : k < legs.length
  · have wk := i64_wrap (show -9223372036854775808 ≤ (k : Int) + 1 ∧ _ from by omega)
    by_cases h : 12 < (legAt L k).items.length
    · simp [hkl, Leg.cells, itmL, show (12 : Int) < (legAt L k).items.length from by omega]
      refine answers_of rfl ?_
      have : (allN legs.length fun i => decide ((legAt L i).items.length ≤ 12)) = false := allN_false hkl (by simp; omega)
      simp [this]
    · simp [hkl, Leg.cells, itmL, show ¬ (12 : Int) < (legAt L k).items.length from by omega]
      refine again_of (k + 1) ⟨by omega, fun j hj => ?_⟩ (by omega) ?_
      · rcases Nat.lt_or_eq_of_le (Nat.le_of_lt_succ hj) with h' | rfl
        · exact hq j h'
        · omega
      · simp [wk]
  · obtain rfl : k = legs.length := by omega
    have : (allN legs.length fun i => decide ((legAt L i).items.length ≤ 12)) = true := allN_spec.2 fun j hj => by simpa using hq j hj
    have hst := hsure this
    subst hst
    simp
    refine pop_spec htr rfl false (.inl (by simp [Pln.cells, cnrL, stnL, Spn.cells])) (.inl rfl) rfl (by simp) ?_
    simp
    refine answers_of rfl ?_; simp [this]; rfl
theorem wP_nonneg {P : Pln} {fuel : Spn} {legs : List Leg} {people : List Psn} (hT : TakeOk P fuel legs people) (i : Nat) : 0 ≤ wP people i := by
  by_cases hi : i < people.length
  · exact (hT.person i hi).worth.1
  · simp [wP, psnAt, List.getElem?_eq_none (Nat.le_of_not_lt hi)]
    decide
theorem fits_app (legs : List Leg) (people : List Psn) : ∀ s t, fitsP legs people (s ++ t) = true → fitsP legs people s = true := fun s t h => by
  simp only [fitsP, fitsN, allN_spec, takenLeg, decide_eq_true_eq, onIt, List.filter_append, List.map_append, List.length_append] at h ⊢
  intro i hi
  have := h i hi
  omega
theorem takeE_ok {P : Pln} {fuel : Spn} {legs : List Leg} {people : List Psn} (hT : TakeOk P fuel legs people) : takeE P fuel legs people = if (takeBest P fuel legs people).2 < 0 then 5 else 0 := by
  have h1 := hT.n
  have h2 := tripped_ok.2 ⟨hT.plane, hT.trip⟩
  have h3 : (allN people.length fun k => psnB P legs.length (psnAt people k)) = true := allN_spec.2 fun k hk => psnB_ok.2 (hT.person k hk)
  rw [takeE, if_neg (by omega), if_neg (by rw [h2]; simp), h3, if_neg (by simp)]
theorem take_none_some {P : Pln} {fuel : Spn} {legs : List Leg} {people : List Psn} (hT : TakeOk P fuel legs people) :
    (takeRes P fuel legs people = .tup [ints [], .v (.int .i64 0), .v (.int .i64 5)] ∧ bestP P fuel legs people (2 ^ people.length) = none ∧ ∀ s, Chain people.length 0 s → okP P fuel legs people s = false) ∨
    ∃ s, takeRes P fuel legs people = .tup [ints s, .v (.int .i64 (worthL (wP people) s)), .v (.int .i64 0)] ∧ bestP P fuel legs people (2 ^ people.length) = some s ∧ Chain people.length 0 s ∧ okP P fuel legs people s = true ∧
      ∀ t, Chain people.length 0 t → okP P fuel legs people t = true → worthL (wP people) t < worthL (wP people) s ∨ worthL (wP people) t = worthL (wP people) s ∧ beforeL t s = false := by
  have hs := take_same (sure := sureP P fuel legs people) (n := people.length) (by have := hT.n; omega) (wP_nonneg hT) (fits_app legs people)
  have hl := take_law (sure := sureP P fuel legs people) (n := people.length) (wP_nonneg hT) (fits_app legs people)
  have he := takeE_ok hT
  rcases hs with ⟨h1, h2⟩ | ⟨s, h1, h2, h3, h4⟩
  · refine .inl ⟨?_, h2, fun t ht => ?_⟩
    · have h1' : takeBest P fuel legs people = ([], -1) := h1
      rw [h1', if_pos (by decide)] at he
      rw [takeRes, he, if_neg (by decide)]
    · rcases hl with ⟨_, g⟩ | ⟨s, k, g1, g2, g3, g4, g5, _⟩
      · cases ho : okP P fuel legs people t with
        | false => rfl
        | true => simp only [okP, Bool.and_eq_true] at ho; exact (g t ht ho).elim
      · rw [h1] at g1
        have := congrArg Prod.snd g1
        simp only at this; omega
  · refine .inr ⟨s, ?_, h2, h4, ?_, fun t ht ho => ?_⟩
    · have h1' : takeBest P fuel legs people = (s, worthL (wP people) s) := h1
      rw [h1', if_neg (by simp only; omega)] at he
      rw [takeRes, he, if_pos rfl, h1']
    all_goals
      rcases hl with ⟨g, _⟩ | ⟨s', k, g1, g2, g3, g4, g5, g6⟩
      · rw [h1] at g
        have := congrArg Prod.snd g
        simp only at this; omega
      · rw [h1] at g1
        obtain ⟨rfl, e⟩ := Prod.mk.inj g1
        first
          | (simp only [okP, Bool.and_eq_true]; exact g3)
          | (simp only [okP, Bool.and_eq_true] at ho; have := g6 t ht ho.1 ho.2; omega)
          | (simp only [okP, Bool.and_eq_true] at ho; have := g6 t ht ho.1 ho.2; rw [e]; exact this)
theorem takeOk_of {P : Pln} {fuel : Spn} {legs : List Leg} {people : List Psn} (h1 : people.length ≤ 8) (h2 : trippedE P fuel legs = 0) (h3 : peopleB P legs.length people = true) : TakeOk P fuel legs people := by
  obtain ⟨k1, k2⟩ := tripped_ok.1 h2
  exact ⟨k1, k2, h1, fun i hi => psnB_ok.1 (allN_spec.1 h3 i hi)⟩
theorem LoadWorth_spec (P : Pln) (fuel : Spn) (legs : List Leg) (people : List Psn) (other : List Int) (hP : PlnLen P) (hl : LegsLen legs) (hp : people.length ≤ 9223372036854775807) (ho : other.length ≤ 9223372036854775807) : Spec Tryz.prog 5 [.agg P.cells, .agg fuel.cells, legL legs, psnL people, ints other] (.v (.bool true)) := by
  have htk := Take_spec P fuel legs people hP hl hp
  have href := refused_spec P fuel legs hP hl
  refine spec_of mixed Tryz.func5 (by decide) rfl Tryz.results5 Tryz.ntmps5 (by decide) 0 (by simp) ?_
  simp [Pln.cells, cnrL, stnL, Spn.cells, legL, psnL, ints]
  refine pop_spec (lshort_spec P) rfl false (.inl (by simp [Pln.cells, cnrL, stnL])) (.inl rfl) rfl (by simp) ?_
  cases g1 : shortB' P with
  | false =>
    simp
    refine pop_spec known_spec rfl false (.inl (by simp)) (.inl rfl) rfl (by simp) ?_
    simp
    refine answers_of rfl ?_; simp
  | true =>
    simp
    refine pop_spec (lfew_spec legs hl.n) rfl false (.inl (by simp [legL])) (.inl rfl) rfl (by simp) ?_
    cases g2 : fewB legs with
    | false =>
      simp
      refine pop_spec known_spec rfl false (.inl (by simp)) (.inl rfl) rfl (by simp) ?_
      simp
      refine answers_of rfl ?_; simp
    | true =>
      by_cases q1 : 8 < people.length
      · simp [show (8 : Int) < people.length from by omega]
        refine pop_spec known_spec rfl false (.inl (by simp)) (.inl rfl) rfl (by simp) ?_
        simp
        refine answers_of rfl ?_; simp
      by_cases q2 : 8 < other.length
      · simp [show ¬ (8 : Int) < people.length from by omega, show (8 : Int) < other.length from by omega]
        refine pop_spec known_spec rfl false (.inl (by simp)) (.inl rfl) rfl (by simp) ?_
        simp
        refine answers_of rfl ?_; simp
      simp [show ¬ (8 : Int) < people.length from by omega, show ¬ (8 : Int) < other.length from by omega]
      refine pop_spec href rfl false (.inl (by simp [Pln.cells, cnrL, stnL, Spn.cells, legL])) (.inl rfl) rfl (by simp) ?_
      by_cases g3 : trippedE P fuel legs = 0
      case neg =>
        simp [g3]
        refine pop_spec known_spec rfl false (.inl (by simp)) (.inl rfl) rfl (by simp) ?_
        simp
        refine answers_of rfl ?_; simp
      obtain ⟨k1, k2⟩ := tripped_ok.1 g3
      have hn := k2.n
      have hns := k1.ns
      simp [g3]
      refine pop_spec (rPeople_spec P legs people (by omega) (by omega) (by omega)) rfl false (.inl (by simp [Pln.cells, cnrL, stnL, legL, psnL])) (.inl rfl) rfl (by simp) ?_
      cases g4 : peopleB P legs.length people with
      | false =>
        simp
        refine pop_spec known_spec rfl false (.inl (by simp)) (.inl rfl) rfl (by simp) ?_
        simp
        refine answers_of rfl ?_; simp
      | true =>
        have hT := takeOk_of (fuel := fuel) (by omega) g3 g4
        simp
        refine pop_spec (lchosen_spec people other (by omega) (by omega)) rfl false (.inl (by simp [psnL, ints])) (.inl rfl) rfl (by simp) ?_
        cases g5 : chosenB people.length other with
        | false =>
          simp
          refine pop_spec known_spec rfl false (.inl (by simp)) (.inl rfl) rfl (by simp) ?_
          simp
          refine answers_of rfl ?_; simp
        | true =>
          have hch := chosen_chain.1 g5
          obtain ⟨hino, hol⟩ := chain_in (by omega) hch
          have hab := laboard_spec P fuel legs people other hP hT hino
          have hwoo := rWorth_spec people other (fun i hi => (hT.person i hi).worth) (by omega) hino
          rcases take_none_some hT with ⟨e1, e2, e4⟩ | ⟨s, e1, e2, e3, e5, e6⟩
          · rw [e1] at htk
            rw [e4 other hch] at hab
            simp only [ints] at htk hab
            simp
            refine pop_spec htk rfl false (.inl (by simp [Pln.cells, cnrL, stnL, Spn.cells, legL, psnL])) (.inl rfl) rfl (by simp) ?_
            simp
            refine pop_spec hab rfl false (.inl (by simp [Pln.cells, cnrL, stnL, Spn.cells, legL, psnL])) (.inl rfl) rfl (by simp) ?_
            simp
            refine pop_spec known_spec rfl false (.inl (by simp)) (.inl rfl) rfl (by simp) ?_
            simp
            refine answers_of rfl ?_; simp
          · obtain ⟨hin, hsl⟩ := chain_in (by omega) e3
            have hcs := lchosen_spec people s (by omega) (by omega)
            rw [chosen_chain.2 e3] at hcs
            have hwo := rWorth_spec people s (fun i hi => (hT.person i hi).worth) (by omega) hin
            have habs := laboard_spec P fuel legs people s hP hT hin
            rw [e5] at habs
            have hbe := rBefore_spec other s (by omega) (by omega)
            have h6 := e6 other hch
            rw [e1] at htk
            generalize worthL (wP people) s = W at *
            generalize worthL (wP people) other = V at *
            simp only [ints] at htk hab hwoo hwo hcs habs hbe
            simp
            refine pop_spec htk rfl false (.inl (by simp [Pln.cells, cnrL, stnL, Spn.cells, legL, psnL])) (.inl rfl) rfl (by simp) ?_
            simp
            refine pop_spec hab rfl false (.inl (by simp [Pln.cells, cnrL, stnL, Spn.cells, legL, psnL])) (.inl rfl) rfl (by simp) ?_
            simp [show ¬ (people.length : Int) < s.length from by omega, show ¬ people.length < s.length from by omega]
            refine pop_spec hcs rfl false (.inl (by simp [psnL])) (.inl rfl) rfl (by simp) ?_
            simp
            refine pop_spec hwo rfl false (.inl (by simp [psnL])) (.inl rfl) rfl (by simp) ?_
            simp
            refine pop_spec habs rfl false (.inl (by simp [Pln.cells, cnrL, stnL, Spn.cells, legL, psnL])) (.inl rfl) rfl (by simp) ?_
            simp
            refine pop_spec hwoo rfl false (.inl (by simp [psnL])) (.inl rfl) rfl (by simp) ?_
            cases g6 : okP P fuel legs people other with
            | false =>
              simp
              refine pop_spec known_spec rfl false (.inl (by simp)) (.inl rfl) rfl (by simp) ?_
              simp
              refine answers_of rfl ?_; simp
            | true =>
              rcases h6 g6 with h7 | ⟨h7, h8⟩
              · simp [h7]
                refine pop_spec known_spec rfl false (.inl (by simp)) (.inl rfl) rfl (by simp) ?_
                simp
                refine answers_of rfl ?_; simp
              · subst h7
                rw [h8] at hbe
                simp
                refine pop_spec hbe rfl false (.inl (by simp)) (.inl rfl) rfl (by simp) ?_
                simp
                refine pop_spec known_spec rfl false (.inl (by simp)) (.inl rfl) rfl (by simp) ?_
                simp
                refine answers_of rfl ?_; simp
end Go.Qg


namespace Go.Qg
open Go.Proofs
set_option maxRecDepth 100000
section
open Tryz
theorem cells_int : Tryz.prog.cellsOf 3 = 1 := by kernel_rfl
theorem t_ints {n : Nat} {ps : List PV} (h : Typ Tryz.prog (n + 2) 41 ps) : ∃ l : List Int, ps = [ints l] ∧ l.length ≤ 9223372036854775807 := by
  obtain ⟨m, f, h1, h2, h3, h4⟩ := t_slice Tryz.underlying41 cells_int h
  obtain ⟨l, g1, g2, _⟩ := sl_list (α := Int) (fun x => [.v (.int .i64 x)]) (fun _ => True) (fun i hi => (t_int (h3 i hi)).elim fun r h => ⟨r, h, trivial⟩) (fun i hi => (h4 i hi).trans d_int)
  refine ⟨l, ?_, by omega⟩
  rw [h1, g2, ← g1]; rfl
theorem d_ints {n : Nat} : tdef Tryz.prog (n + 2) 41 = [ints []] := by
  rw [d_slice Tryz.underlying41 cells_int]
  simp only [d_int]; rfl
theorem a_ints {n : Nat} {p : PV} (h : ArgP Tryz.prog (n + 2) 41 p) : ∃ l : List Int, p = ints l ∧ l.length ≤ 9223372036854775807 := by
  obtain ⟨l, h1, h2⟩ := t_ints (a_slice Tryz.underlying41 h)
  exact ⟨l, List.singleton_inj.1 h1, h2⟩
theorem cells_spn : Tryz.prog.cellsOf 37 = 2 := by kernel_rfl
theorem d_spns {n : Nat} : tdef Tryz.prog (n + 3) 64 = [spnL []] := by
  rw [d_slice Tryz.underlying64 cells_spn]
  simp only [d_spn]; rfl
theorem t_psn {n : Nat} {ps : List PV} (h : Typ Tryz.prog (n + 3) 123 ps) : ∃ r : Psn, ps = r.cells := by
  obtain ⟨p0, q0, rfl, h0, p1, q1, rfl, h1, p2, q2, rfl, h2, p3, q3, rfl, h3, rfl⟩ := t_struct Tryz.underlying123 h
  obtain ⟨s, rfl⟩ := t_spn h0
  obtain ⟨x1, rfl⟩ := t_int h1
  obtain ⟨g, rfl⟩ := t_spn h2
  obtain ⟨x3, rfl⟩ := t_int h3
  exact ⟨⟨s.low, s.high, x1, g.low, g.high, x3⟩, rfl⟩
theorem d_psn {n : Nat} : tdef Tryz.prog (n + 3) 123 = (default : Psn).cells := by
  rw [d_struct Tryz.underlying123]; simp [d_int, d_spn]; rfl
theorem cells_psn : Tryz.prog.cellsOf 123 = 6 := by kernel_rfl
theorem a_psns {n : Nat} {p : PV} (h : ArgP Tryz.prog (n + 4) 40 p) : ∃ l : List Psn, p = psnL l ∧ l.length ≤ 9223372036854775807 := by
  obtain ⟨m, f, h1, h2, h3, h4⟩ := t_slice Tryz.underlying40 cells_psn (a_slice Tryz.underlying40 h)
  obtain ⟨l, g1, g2, _⟩ := sl_list Psn.cells (fun _ => True) (fun i hi => (t_psn (h3 i hi)).elim fun r h => ⟨r, h, trivial⟩) (fun i hi => (h4 i hi).trans d_psn)
  have h1 := List.singleton_inj.1 h1
  refine ⟨l, ?_, by omega⟩
  rw [h1, g2, ← g1]; rfl
end
end Go.Qg


namespace Go.Proofs.YtnjhblcfjhpoiaaGreatDoor.lawLoadWorth
open Go.Qg Go.ChangeAt Go.RowKit
set_option maxRecDepth 100000
theorem spec (args : List PV) (hl : Tryz.f5.params.toList.length = args.length) (h : ∀ (j : Nat) t p, Tryz.f5.params.toList[j]? = some t → args[j]? = some p → ArgP Tryz.prog 6 t p) : Qg.Spec Tryz.prog 5 args (.v (.bool true)) := by
  rw [Tryz.params5] at hl h
  match args, hl with
  | [a0, a1, a2, a3, a4], _ =>
    obtain ⟨P0, rfl, hP0⟩ := a_pln (h 0 _ a0 rfl rfl)
    obtain ⟨s1, rfl⟩ := a_spn (h 1 _ a1 rfl rfl)
    obtain ⟨l2, rfl, hl2, hi2⟩ := a_legs (h 2 _ a2 rfl rfl)
    obtain ⟨p3, rfl, hp3⟩ := a_psns (h 3 _ a3 rfl rfl)
    obtain ⟨i4, rfl, hn4⟩ := a_ints (h 4 _ a4 rfl rfl)
    exact LoadWorth_spec P0 s1 l2 p3 i4 hP0 ⟨hl2, hi2⟩ hp3 hn4
theorem lifted (os : Os) (started : os.Started) (H : Type) (enc : TypeId × Value → H) :
    ReturnsInHanded {} Tryz.checked os 5 .any (fun w args => (Rows.loadWorthSpec.pre enc Tryz.prog Tryz.f5 Rows.loadWorthRow.domain false w args ∧ laidMet Tryz.prog laidL w) ∧ sizedMet enc Tryz.prog Tryz.f5 (OpenSpec.ofChange Rows.loadWorthSpec) false w args) (Rows.loadWorthSpec.post enc Tryz.prog Tryz.f5 false true false false) := by
  refine law_lifted (C := Tryz.checked) 6 (tb := 4) (laid := laidL) tabs_of_laid ownKnob_ started (by kernel_rfl) Tryz.func5
    (ChangeSpec.witness_at (enc := enc) (C := Tryz.checked) (os := os) (X := fun w _ => laidMet Tryz.prog laidL w) false (laidWorld os) #[.agg #[.int .i64 0, .int .i64 0, .int .i64 0, .int .i64 0, .slice none 0 0, .slice none 0 0, .int .i64 0, .int .i64 0, .int .i64 0, .slice none 0 0], .agg #[.int .i64 0, .int .i64 0], .slice none 0 0, .slice none 0 0, .slice none 0 0] 8 rfl (by kernel_rfl) (by kernel_rfl) (by kernel_rfl) (by kernel_rfl) (by kernel_rfl) (laid_met os _)) laidOut_ rfl (by kernel_rfl) (by kernel_rfl) Tryz.underlying4 ?_ spec
  intro ds hds
  match ds, hds with
  | [_, _, _, _, _], _ => exact ⟨rfl, rfl, rfl⟩
theorem LoadWorth_holds : Rows.LoadWorthSaid :=
  OpenClaim.holds_of_wide 5 Tryz.f5 rfl rfl rfl rfl rfl rfl rfl ⟨rfl, rfl, rfl, rfl, rfl⟩ rfl rfl rfl rfl rfl (by kernel_rfl) Tryz.func5 (by kernel_rfl)
    (of_decide_eq_true (by kernel_rfl)) (by unfold Func.isWrapper; first | (rw [if_pos (by decide +kernel)]; kernel_rfl) | (rw [if_neg (by decide +kernel)]; exact ⟨rfl, rfl⟩))
    (fun os started H enc _ => lifted os started H enc)
theorem LoadWorth_card : Rows.LoadWorthCardSaid :=
  Claim7.holds_tied_plain_at .later [] [.data, .data, .data] true (true, "5ead983eb76cd4f028fa487a1870d2e1f3e01aa43d232f67d0214a0db4d1ac67") true
    LoadWorth_holds (fun _ h => by cases h) (by kernel_rfl) (fun _ h => by cases h) loadWorth_row_tie rfl ⟨rfl, rfl⟩ (by kernel_rfl) rfl
    (fun f fn hf hfn => by
      obtain rfl : f = 5 := Option.some.inj ((show Tryz.prog.funcNamed "windsock/windsocklaw02.LoadWorth" = some 5 by kernel_rfl).symm.trans hf) |>.symm
      obtain rfl : fn = Tryz.f5 := (Option.some.inj (Tryz.func5.symm.trans hfn)).symm
      exact ⟨by kernel_rfl, fun j t ht => by
        rw [Tryz.params5] at ht
        have hm : t ∈ [27, 37, 28, 40, 41] := by simpa using Array.mem_of_getElem? ht
        have hall : ([27, 37, 28, 40, 41].all fun u => !Tryz.prog.wantsStandIn u) = true := by kernel_rfl
        have h := List.all_eq_true.1 hall t hm
        exact (show Tryz.prog.wantsStandIn t = false by simpa using h)⟩)
    (by kernel_rfl)
end Go.Proofs.YtnjhblcfjhpoiaaGreatDoor.lawLoadWorth

