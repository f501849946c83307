/-
  TopMoored: for every input the law returns true, and leaves its arguments as they were.
  No condition.
-/
import Derived.Test.YtedglnagjjplbaaGreatZ7
import Derived.ProofKit
import Derived.OpenShut
import Derived.ChangeOld
import Derived.ChangeBears
import Derived.Deep.Slices
import Derived.Below
import Derived.KernelRfl
import Derived.Test.YtedglnagjjplbaaGreatRows
set_option linter.all false

namespace Go.Qg
open Go.ChangeShapes Go.WideShapes Go.ChangeAt Go.RowKit
def TypF (R : TypeId → List PV → Prop) : List TypeId → List PV → Prop
  | [], ps => ps = []
  | t :: ts, ps => ∃ p q, ps = p ++ q ∧ R t p ∧ TypF R ts q
def tdef (P : Program) : Nat → TypeId → List PV
  | 0, _ => []
  | n + 1, t => match P.underlying t with
    | some .bool => [.v (.bool false)]
    | some (.int k) => [.v (.int k 0)]
    | some .string => [.v (.string ByteArray.empty)]
    | some (.slice e) => [.sl (P.cellsOf e) 0 fun _ => tdef P n e]
    | some (.struct fs) => (fs.toList.map fun f => tdef P n f.type).flatten
    | some (.array m e) => (List.replicate m (tdef P n e)).flatten
    | _ => []
def Typ (P : Program) : Nat → TypeId → List PV → Prop
  | 0, _, _ => False
  | n + 1, t, ps => match P.underlying t with
    | some .bool => ∃ b, ps = [.v (.bool b)]
    | some (.int k) => ∃ x, ps = [.v (.int k x)] ∧ k.min ≤ x ∧ x ≤ k.max
    | some .string => ∃ s : ByteArray, ps = [.v (.string s)] ∧ s.size ≤ maxLen
    | some (.slice e) => ∃ (m : Nat) (f : Nat → List PV), ps = [.sl (P.cellsOf e) m f] ∧ m ≤ maxLen ∧ (∀ i, i < m → Typ P n e (f i)) ∧ ∀ i, m ≤ i → f i = tdef P n e
    | some (.struct fs) => TypF (Typ P n) (fs.toList.map (·.type)) ps
    | some (.array m e) => TypF (Typ P n) (List.replicate m e) ps
    | _ => False
def sup (P : Program) : Nat → TypeId → Bool
  | 0, _ => false
  | n + 1, t => match P.underlying t with
    | some .bool | some (.int _) | some .string => true
    | some (.slice e) | some (.array _ e) => sup P n e
    | some (.struct fs) => fs.toList.all fun f => sup P n f.type
    | _ => false
structure RowRep (w : World) (R : Nat → Nat → Prop) (Γ : Nat → Option Loc) (cs : List Value) (ps : List PV) : Prop where
  len : cs.length = ps.length
  each : ∀ (i : Nat) (u : Value) (p : PV), cs[i]? = some u → ps[i]? = some p → Rep w R Γ u p
  one : ∀ p ∈ ps, p.one = true ∧ p.names = []
section
variable {w : World} {R : Nat → Nat → Prop} {Γ : Nat → Option Loc}
theorem RowRep.single {u : Value} {p : PV} (h : Rep w R Γ u p) (h1 : p.one = true) (h2 : p.names = []) : RowRep w R Γ [u] [p] := by
  refine ⟨rfl, fun i v q hv hq => ?_, fun q hq => ?_⟩
  · match i, hv, hq with
    | 0, hv, hq =>
      obtain rfl := Option.some.inj hv
      obtain rfl := Option.some.inj hq
      exact h
  · obtain rfl := List.mem_singleton.1 hq
    exact ⟨h1, h2⟩
theorem RowRep.nil : RowRep w R Γ [] [] := ⟨rfl, fun i u p h => by simp at h, fun p h => by cases h⟩
theorem RowRep.append {cs cs' : List Value} {ps ps' : List PV} (h : RowRep w R Γ cs ps) (k : RowRep w R Γ cs' ps') : RowRep w R Γ (cs ++ cs') (ps ++ ps') := by
  refine ⟨by simp [h.len, k.len], fun i u p hu hp => ?_, fun p hp => ?_⟩
  · have hl := h.len
    by_cases hi : i < cs.length
    · rw [List.getElem?_append_left hi] at hu
      rw [List.getElem?_append_left (by omega)] at hp
      exact h.each i u p hu hp
    · rw [List.getElem?_append_right (by omega)] at hu hp
      rw [← hl] at hp
      exact k.each _ u p hu hp
  · rcases List.mem_append.1 hp with hp | hp
    · exact h.one p hp
    · exact k.one p hp
end
section
variable {H : Type} {enc : TypeId × Value → H} {P : Program} {w : World} {spare : Nat → Bool} {held : Bool} {Γ : Nat → Option Loc}
def there (w : World) (b o : Nat) : Prop := ∃ v, w.cell? ⟨b, o, none⟩ = some v
theorem cells_get {base : Nat} {a : Addr} {n : Nat} {cs : List Value} (h : w.cells? base a n = some cs) : cs.length = n ∧ ∀ i, i < n → w.cell? (a.add i) = cs[i]? := by
  unfold World.cells? at h
  split at h
  · refine ⟨by simpa using mapM_some_length h, fun i hi => ?_⟩
    have := mapM_some_get h i i (by simp [hi])
    exact this
  · cases h
theorem fields_row {n : Nat} {cs : List Value} (ih : ∀ (t : TypeId) (cs : List Value), t < P.types.size → sup P n t = true → (∃ fuel x, DataW.trod enc P w 0 spare held fuel t cs = some x) → ∃ ps, Typ P n t ps ∧ RowRep w (there w) Γ cs ps) :
    ∀ (fs : List Field) (o : Nat), (∀ f ∈ fs, f.type < P.types.size ∧ sup P n f.type = true) → (∀ (j : Nat) f, fs[j]? = some f → f.offset = o + ((fs.take j).map fun f => P.cellsOf f.type).sum) →
      (∀ f ∈ fs, ∃ fuel x, DataW.trod enc P w 0 spare held fuel f.type ((cs.drop f.offset).take (P.cellsOf f.type)) = some x) → cs.length = o + (fs.map fun f => P.cellsOf f.type).sum →
      ∃ ps, TypF (Typ P n) (fs.map (·.type)) ps ∧ RowRep w (there w) Γ (cs.drop o) ps
  | [], o, _, _, _, hl => by
    refine ⟨[], rfl, ?_⟩
    rw [List.drop_of_length_le (by simp at hl; omega)]
    exact .nil
  | f :: fs, o, h1, h2, h3, hl => by
    have ho : f.offset = o := by simpa using h2 0 f rfl
    obtain ⟨hf1, hf2⟩ := h1 f List.mem_cons_self
    have h4 := h3 f List.mem_cons_self
    rw [ho] at h4
    obtain ⟨p, hp1, hp2⟩ := ih f.type _ hf1 hf2 h4
    obtain ⟨q, hq1, hq2⟩ := fields_row ih fs (o + P.cellsOf f.type) (fun g hg => h1 g (List.mem_cons_of_mem _ hg)) (fun j g hg => by
      have := h2 (j + 1) g (by simpa using hg)
      simp only [List.take_succ_cons, List.map_cons, List.sum_cons] at this
      omega) (fun g hg => h3 g (List.mem_cons_of_mem _ hg)) (by simp only [List.map_cons, List.sum_cons] at hl; omega)
    refine ⟨p ++ q, ⟨p, q, rfl, hp1, hq1⟩, ?_⟩
    have e : cs.drop o = (cs.drop o).take (P.cellsOf f.type) ++ cs.drop (o + P.cellsOf f.type) := by
      rw [← List.drop_drop, List.take_append_drop]
    rw [e]
    exact hp2.append hq2
theorem parts_row {n : Nat} {e : TypeId} {cs : List Value} (ih : ∀ (t : TypeId) (cs : List Value), t < P.types.size → sup P n t = true → (∃ fuel x, DataW.trod enc P w 0 spare held fuel t cs = some x) → ∃ ps, Typ P n t ps ∧ RowRep w (there w) Γ cs ps)
    (he : e < P.types.size) (hs : sup P n e = true) : ∀ (m o : Nat), (∀ i, o ≤ i → i < o + m → ∃ fuel x, DataW.trod enc P w 0 spare held fuel e ((cs.drop (i * P.cellsOf e)).take (P.cellsOf e)) = some x) → cs.length = (o + m) * P.cellsOf e →
      ∃ ps, TypF (Typ P n) (List.replicate m e) ps ∧ RowRep w (there w) Γ (cs.drop (o * P.cellsOf e)) ps
  | 0, o, _, hl => by
    refine ⟨[], rfl, ?_⟩
    rw [List.drop_of_length_le (by simp at hl; omega)]
    exact .nil
  | m + 1, o, h, hl => by
    obtain ⟨p, hp1, hp2⟩ := ih e _ he hs (h o (Nat.le_refl _) (by omega))
    obtain ⟨q, hq1, hq2⟩ := parts_row ih he hs m (o + 1) (fun i h1 h2 => h i (by omega) (by omega)) (by rw [hl]; congr 1; omega)
    refine ⟨p ++ q, by rw [List.replicate_succ]; exact ⟨p, q, rfl, hp1, hq1⟩, ?_⟩
    have e : cs.drop (o * P.cellsOf e) = (cs.drop (o * P.cellsOf e)).take (P.cellsOf e) ++ cs.drop ((o + 1) * P.cellsOf e) := by
      rw [Nat.add_mul, Nat.one_mul, ← List.drop_drop, List.take_append_drop]
    rw [e]
    exact hp2.append hq2
theorem trod_arr {fuel : Nat} {t e : TypeId} {m : Nat} {cs : List Value} {x : DataW H × List MemPlace} (ht : P.underlying t = some (.array m e)) (h : DataW.trod enc P w 0 spare held fuel t cs = some x) :
    cs.length = P.cellsOf t ∧ ∀ i, i < m → ∃ fuel x, DataW.trod enc P w 0 spare held fuel e ((cs.drop (i * P.cellsOf e)).take (P.cellsOf e)) = some x := by
  cases fuel with
  | zero => simp [DataW.trod] at h
  | succ n =>
    unfold DataW.trod at h
    rw [ht] at h
    split at h <;> simp_all
    obtain ⟨hl, xs, hp, hd⟩ := h
    intro i hi
    have h1 := mapM_some_get hp i i (by simp [hi])
    have h2 := mapM_some_length hp
    simp only [List.length_range] at h2
    refine ⟨n, (xs[i]'(by omega)).1, (xs[i]'(by omega)).2, ?_⟩
    rw [h1, List.getElem?_eq_getElem (by omega)]
theorem read_row (hl : laidOutB P = true) : ∀ (n : Nat) (t : TypeId) (cs : List Value), t < P.types.size → sup P n t = true → (∃ fuel x, DataW.trod enc P w 0 spare held fuel t cs = some x) → ∃ ps, Typ P n t ps ∧ RowRep w (there w) Γ cs ps
  | 0, _, _, _, h, _ => by cases h
  | n + 1, t, cs, ht, hs, ⟨fuel, x, h⟩ => by
    have ih := read_row hl n
    simp only [sup] at hs
    simp only [Typ]
    split at hs
    · rename_i hu
      obtain ⟨b, rfl, _⟩ := DataW.trod_bool hu h
      rw [hu]
      exact ⟨_, ⟨b, rfl⟩, .single (.v _ rfl) rfl rfl⟩
    · rename_i k hu
      obtain ⟨m, rfl, _, hw⟩ := DataW.trod_int hu h
      rw [hu]
      simp only [Lit.wf, Bool.and_eq_true, decide_eq_true_eq] at hw
      exact ⟨_, ⟨m, rfl, hw⟩, .single (.v _ rfl) rfl rfl⟩
    · rename_i hu
      obtain ⟨s, rfl, _, hw⟩ := DataW.trod_string hu h
      rw [hu]
      exact ⟨_, ⟨s, rfl, hw⟩, .single (.v _ rfl) rfl rfl⟩
    · rename_i e hu
      have he := kid_slice hl ht hu
      rw [hu]
      rcases Deep.open_slice hu h with ⟨rfl, _⟩ | ⟨a, len, cap, m, k, D, Pl, rfl, _, h1, h2, h3, _, h4⟩
      · refine ⟨_, ⟨0, fun _ => tdef P n e, rfl, Nat.zero_le _, fun i hi => by omega, fun _ _ => rfl⟩, .single (.sl none 0 0 _ _ (fun _ _ => undef) (Nat.le_refl _) (Nat.zero_le _) ?_ ?_ ?_ ?_) rfl rfl⟩
        · intro i hi; omega
        · intro i j p hi; omega
        · intro i j hi; omega
        · intro i j p hi; omega
      · have hlm : len ≤ m := by rw [h3]; split <;> omega
        have key : ∀ i, i < len → ∃ q : List Value × List PV, w.cells? 0 (a.add (i * P.cellsOf e)) (P.cellsOf e) = some q.1 ∧ Typ P n e q.2 ∧ RowRep w (there w) Γ q.1 q.2 := fun i hi => by
          obtain ⟨cs', g1, g2⟩ := h4 i (by omega)
          obtain ⟨ps, g3, g4⟩ := ih e cs' he hs ⟨k, _, g2⟩
          exact ⟨(cs', ps), g1, g3, g4⟩
        obtain ⟨q, hq⟩ := Deep.choose_lt key
        have hsz : ∀ i, i < len → (q i).1.length = P.cellsOf e ∧ (q i).2.length = P.cellsOf e := fun i hi => by
          have g1 := (cells_get (hq i hi).1).1
          have g2 := (hq i hi).2.2.len
          exact ⟨g1, by omega⟩
        have hspot : 0 < len → 0 < P.cellsOf e → a.spot = none := fun g1 g2 => by
          have g3 := (cells_get (hq 0 g1).1).2 0 g2
          have g4 : (q 0).1[0]? = some ((q 0).1[0]'(by rw [(hsz 0 g1).1]; exact g2)) := List.getElem?_eq_getElem _
          rw [g4] at g3
          have := World.cell?_spot g3
          simpa [Addr.add] using this
        have hcell : ∀ i j, i < len → j < P.cellsOf e → w.cell? ⟨a.block, a.off + (i * P.cellsOf e + j), none⟩ = some ((q i).1.getD j undef) := fun i j hi hj => by
          have g1 := (cells_get (hq i hi).1).2 j hj
          have g2 := hspot (by omega) (by omega)
          have e1 : (a.add (i * P.cellsOf e)).add j = ⟨a.block, a.off + (i * P.cellsOf e + j), none⟩ := by
            rw [Deep.add_add]
            obtain ⟨b, o, s⟩ := a
            simp only at g2
            subst g2
            unfold Addr.add
            split
            · rename_i h0; rw [h0]; rfl
            · rfl
          rw [e1] at g1
          rw [g1]
          have g3 := (hsz i hi).1
          rw [List.getD_eq_getElem?_getD, List.getElem?_eq_getElem (by omega)]; rfl
        have hf : ∀ i, i < len → (if i < len then (q i).2 else tdef P n e) = (q i).2 := fun i hi => if_pos hi
        refine ⟨_, ⟨len, fun i => if i < len then (q i).2 else tdef P n e, rfl, by omega, fun i hi => by simp only [hf i hi]; exact (hq i hi).2.1, fun i hi => if_neg (by omega)⟩, .single (.sl (some a) len cap _ _ (fun i j => (q i).1.getD j undef) h1 h2 (fun i hi => by simp only [hf i hi]; exact (hsz i hi).2) (fun i j p hi hp => by simp only [hf i hi] at hp; exact (hq i hi).2.2.one p (List.mem_of_getElem? hp)) (fun i j hi hj => ?_) fun i j p hi hp => ?_) rfl rfl⟩
        · refine ⟨a.block, a.off, ?_, ⟨_, hcell i j hi hj⟩, hcell i j hi hj⟩
          have := hspot (by omega) (by omega)
          obtain ⟨b, o, s⟩ := a
          simp only at this
          rw [this]
        · simp only [hf i hi] at hp
          have g1 := lt_of_get? hp
          have g2 := (hsz i hi)
          have g3 : (q i).1[j]? = some ((q i).1.getD j undef) := by
            rw [List.getD_eq_getElem?_getD, List.getElem?_eq_getElem (by omega)]; rfl
          exact (hq i hi).2.2.each j _ p g3 hp
    · rename_i m e hu
      obtain ⟨he, hc⟩ := kid_array hl ht hu
      rw [hu]
      obtain ⟨h1, h2⟩ := trod_arr hu h
      have := parts_row ih he hs m 0 (fun i _ hi => h2 i (by omega)) (by rw [h1, hc]; congr 1; omega)
      simpa using this
    · rename_i fs hu
      obtain ⟨k1, k2, k3⟩ := kid_struct hl ht hu
      rw [hu]
      obtain ⟨xs, k, rfl, _, h1, h2, h3⟩ := DataW.trod_struct hu h
      have := fields_row (cs := cs) ih fs.toList 0 (fun f hf => ⟨k1 f hf, List.all_eq_true.1 hs f hf⟩) (fun j f hf => by rw [k3 j f hf]; omega) (fun f hf => by
        obtain ⟨i, hi⟩ := List.mem_iff_getElem?.1 hf
        have hi' : fs[i]? = some f := by simpa using hi
        have := h3 i f hi'
        have hlt := (List.getElem?_eq_some_iff.1 hi).1
        refine ⟨k, xs[i]'(by rw [h2]; simpa using hlt), ?_⟩
        rw [this]; simp) (by rw [h1, k2]; omega)
      simpa using this
    · cases hs
def ArgP (P : Program) (n : Nat) (t : TypeId) (p : PV) : Prop := match P.underlying t with
  | some (.struct _) | some (.array _ _) => ∃ ps, p = .agg ps ∧ Typ P n t ps
  | _ => Typ P n t [p]
theorem read_arg (hl : laidOutB P = true) {n : Nat} {t : TypeId} {v : Value} {d : DataW H} {pl : List MemPlace} {base : Nat} (ht : t < P.types.size) (hs : sup P n t = true) (hok : Value.okWide P w .any base t v) (h : DataW.Trod enc P w 0 spare held t v d pl) :
    ∃ p, ArgP P n t p ∧ Rep w (there w) Γ v p := by
  obtain ⟨fuel, h⟩ := h
  obtain ⟨ps, h1, h2⟩ := read_row (Γ := Γ) hl n t _ ht hs ⟨fuel, _, h⟩
  unfold ArgP
  unfold Value.okWide at hok
  have agg : (∃ cs, v = .agg cs ∧ cs.size = P.cellsOf t ∧ Row.okWide P w .any base t cs) → ∃ p, (∃ ps, p = .agg ps ∧ Typ P n t ps) ∧ Rep w (there w) Γ v p := by
    rintro ⟨cs, rfl, _, _⟩
    refine ⟨.agg ps, ⟨ps, rfl, h1⟩, ?_⟩
    have := Rep.agg (w := w) (R := there w) (Γ := Γ) cs.toList ps h2.len (fun p hp => (h2.one p hp).1) fun i u p hu hp => h2.each i u p hu hp
    simpa using this
  split
  · rename_i hu
    rw [hu] at hok
    exact agg hok
  · rename_i hu
    rw [hu] at hok
    exact agg hok
  · rename_i hn1 hn2
    have one : v.cells.toList = [v] := by
      cases n with
      | zero => cases hs
      | succ n =>
        simp only [sup] at hs
        split at hs
        · rename_i hu
          obtain ⟨b, hc, _⟩ := DataW.trod_bool hu h
          cases v <;> simp_all [Value.cells, Cell.okWide, Cell.ok]
        · rename_i k hu
          obtain ⟨b, hc, _⟩ := DataW.trod_int hu h
          cases v <;> simp_all [Value.cells, Cell.okWide, Cell.ok]
        · rename_i hu
          obtain ⟨b, hc, _⟩ := DataW.trod_string hu h
          cases v <;> simp_all [Value.cells, Cell.okWide, Cell.ok]
        · rename_i e hu
          cases v <;> simp_all [Value.cells, Cell.okWide, Cell.ok]
        · rename_i m e hu
          exact absurd hu (hn2 m e)
        · rename_i fs hu
          exact absurd hu (hn1 fs)
        · cases hs
    rw [one] at h2
    obtain ⟨p, rfl⟩ : ∃ p, ps = [p] := by
      have := h2.len
      match ps, this with
      | [p], _ => exact ⟨p, rfl⟩
    exact ⟨p, h1, h2.each 0 v p rfl rfl⟩
theorem read_args (hl : laidOutB P = true) {n : Nat} {base : Nat} : ∀ {ts : List TypeId} {vs : List Value} {ds : List (DataW H)} {pl : List MemPlace}, (∀ t ∈ ts, t < P.types.size ∧ sup P n t = true) →
    (∀ (j : Nat) t v, ts[j]? = some t → vs[j]? = some v → Value.okWide P w .any base t v) → DataW.TrodAll enc P w 0 spare held ts vs ds pl →
    ∃ args : List PV, vs.length = args.length ∧ ts.length = args.length ∧ (∀ (j : Nat) t p, ts[j]? = some t → args[j]? = some p → ArgP P n t p) ∧ ∀ (i : Nat) (u : Value) (p : PV), vs[i]? = some u → args[i]? = some p → Rep w (there w) Γ u p
  | [], vs, ds, pl, _, _, h => by
    obtain ⟨rfl, rfl, rfl⟩ := trodAll_nil h
    exact ⟨[], rfl, rfl, fun j t p hj => by simp at hj, fun i u p hu => by simp at hu⟩
  | t :: ts, vs, ds, pl, h1, h2, h => by
    obtain ⟨v, vs, d, ds, p, q, rfl, rfl, rfl, g1, g2⟩ := trodAll_cons h
    obtain ⟨args, k1, k2, k3, k4⟩ := read_args hl (fun t ht => h1 t (List.mem_cons_of_mem _ ht)) (fun j t v ht hv => h2 (j + 1) t v (by simpa using ht) (by simpa using hv)) g2
    obtain ⟨ht, hs⟩ := h1 t List.mem_cons_self
    obtain ⟨a, k5, k6⟩ := read_arg (Γ := Γ) hl ht hs (h2 0 t v rfl rfl) g1
    refine ⟨a :: args, by simp [k1], by simp [k2], fun j t p ht hp => ?_, fun i u p hu hp => ?_⟩
    · cases j with
      | zero =>
        obtain rfl := Option.some.inj ht
        obtain rfl := Option.some.inj hp
        exact k5
      | succ j => exact k3 j t p (by simpa using ht) (by simpa using hp)
    · cases i with
      | zero =>
        obtain rfl := Option.some.inj hu
        obtain rfl := Option.some.inj hp
        exact k6
      | succ i => exact k4 i u p (by simpa using hu) (by simpa using hp)
theorem again_args (hl : laidOutB P = true) {w' : World} (hb : Below w.heap.size w w') : ∀ {ts : List TypeId} {vs : List Value} {ds : List (DataW H)} {pl : List MemPlace}, (∀ t ∈ ts, t < P.types.size ∧ P.readableRec t = true) → (∀ x ∈ pl, x.block < w.heap.size) →
    DataW.TrodAll enc P w 0 (fun _ => true) true ts vs ds pl → DataW.TrodAll enc P w' 0 (fun b => decide (b < w.heap.size)) true ts vs ds pl
  | [], vs, ds, pl, _, _, h => by
    obtain ⟨rfl, rfl, rfl⟩ := trodAll_nil h
    exact trodAll_mk0
  | t :: ts, vs, ds, pl, h1, h2, h => by
    obtain ⟨v, vs, d, ds, p, q, rfl, rfl, rfl, g1, g2⟩ := trodAll_cons h
    obtain ⟨ht, hr⟩ := h1 t List.mem_cons_self
    exact trodAll_cons_mk (Go.RowKit.Below.trod hl hr ht g1 hb fun x hx => h2 x (List.mem_append_left _ hx)) (again_args hl hb (fun t ht => h1 t (List.mem_cons_of_mem _ ht)) (fun x hx => h2 x (List.mem_append_right _ hx)) g2)
theorem law_calls {f : FuncId} {args : List PV} {vs : Array Value} (hT : tabOk (· < w.heap.size) w) (h : Spec P f args (.v (.bool true))) (hl : vs.toList.length = args.length) (hv : ∀ (i : Nat) (u : Value) (p : PV), vs.toList[i]? = some u → args[i]? = some p → Rep w (there w) (fun _ => none) u p) :
    Calls P f vs w fun e w' => e = .returned (.bool true) ∧ Below w.heap.size w w' := by
  have hb : ∀ b o, there w b o → b < w.heap.size := fun b o ⟨v, hv⟩ => by
    unfold World.cell? at hv
    split at hv
    · rename_i hh
      exact (Array.getElem?_eq_some_iff.1 hh).1
    · cases hv
  have hsim : Sim 0 ⟨(· < w.heap.size), w, there w, fun _ => none, 0, []⟩ (there w) (fun _ => none) noAct w [] :=
    ⟨rfl, Nat.le_refl _, fun t p h => by simp at h, fun i j l m b h => (by cases h), fun i l h => (by cases h), hb, fun b o h => .inl h, Kept.refl _ _, ⟨fun b h => h, hT⟩, Nat.le_refl _, fun j l _ h => (by cases h), rfl⟩
  have h1 := h.2 w vs.toList (there w) (fun _ => none) (· < w.heap.size) hb hsim hl hv
  refine (show Calls P f vs w _ from by simpa using h1).mono ?_
  rintro e w' ⟨R', Γ', ⟨v, r, H, rfl, hq, hr, hs, _⟩ | ⟨v, p, H, _, hq, _⟩⟩
  · injection hq with hq1 hq2
    subst hq1
    refine ⟨?_, hs.kept.below⟩
    cases hr
    rfl
  · cases hq
theorem sl_list {α : Type} [Inhabited α] (cells : α → List PV) (Q : α → Prop) {m : Nat} {f : Nat → List PV} (h : ∀ i, i < m → ∃ a, f i = cells a ∧ Q a) (hd : ∀ i, m ≤ i → f i = cells default) : ∃ l : List α, l.length = m ∧ (f = fun i => cells (l.getD i default)) ∧ ∀ a ∈ l, Q a := by
  obtain ⟨g, hg⟩ := Deep.choose_lt h
  refine ⟨(List.range m).map g, by simp, funext fun i => ?_, fun a ha => ?_⟩
  · by_cases hi : i < m
    · rw [(hg i hi).1, List.getD_eq_getElem?_getD]; simp [hi]
    · rw [hd i (by omega), List.getD_eq_getElem?_getD]; simp [hi]
  · obtain ⟨i, hi, rfl⟩ := List.mem_map.1 ha
    exact (hg i (List.mem_range.1 hi)).2
theorem tabs_none (W : World) : tabOk (· < W.heap.size) W := by simp [tabOk, seatTabs]
theorem law_lifted {C : Checked} {os : Os} {f : FuncId} {fn : Func} {s : ChangeSpec} {conds : List PathCond} (n : Nat) {tb : TypeId}
    (own : ownKnob C.prog.godebug = none) (started : os.Started) (noInit : C.prog.inits.idxOf? f = none) (hfn : C.prog.funcs[f]? = some fn)
    (witness : ∃ (w : World) (tape : Tape) (i : Input), w.os = os ∧ (w.forCall tape i).Shaped C.prog ∧ i.vars = [] ∧ Input.okWide C.prog (w.forCall tape i) .any w.heap.size f i ∧
      s.pre6 enc C.prog fn conds false (w.forCall tape i).memory i.args ∧ ({} : Assume).holds C.prog (lone (Frame.enter C.prog f i.args .normal) [] (w.forCall tape i)))
    (hl : laidOutB C.prog = true) (hvars : s.vars = []) (hts : (fn.params.toList.all fun t => decide (t < C.prog.types.size) && sup C.prog n t && C.prog.readableRec t) = true) (hres : fn.resultTypes = #[tb]) (htb : C.prog.underlying tb = some .bool)
    (hs : ∀ ds : List (DataW H), ds.length = fn.params.size → (s.fn H ds).results = [.lit (.bool true)] ∧ (s.fn H ds).args = ds ∧ (s.fn H ds).vars = [])
    (spec : ∀ args : List PV, fn.params.toList.length = args.length → (∀ (j : Nat) t p, fn.params.toList[j]? = some t → args[j]? = some p → ArgP C.prog n t p) → Spec C.prog f args (.v (.bool true))) :
    ReturnsInHanded {} C os f .any (s.pre6 enc C.prog fn conds false) (s.post enc C.prog fn false true false false) := by
  refine returnsInHanded_of_change (C := C) own started noInit hfn witness ?_
  intro W base args ds gs before hval hW _ _
  have hW' := hW
  obtain ⟨p, q, hA, hV, rfl, _, _⟩ := hW
  rw [hvars] at hV
  obtain ⟨rfl, rfl⟩ := trodVars_none hV
  have ht : ∀ t ∈ fn.params.toList, (t < C.prog.types.size ∧ sup C.prog n t = true) ∧ C.prog.readableRec t = true := fun t ht => by
    have := List.all_eq_true.1 hts t ht
    simpa only [Bool.and_eq_true, decide_eq_true_eq] using this
  obtain ⟨avs, k1, k2, k3, k4⟩ := read_args (Γ := fun _ => none) hl (fun t h => (ht t h).1) (fun j t v h1 h2 => hval j t v (by simpa using h1) (by simpa using h2)) hA
  have hlen : ds.length = fn.params.size := by
    have key : ∀ (ts : List TypeId) (vs : List Value) (ds : List (DataW H)) (ps : List MemPlace), DataW.TrodAll enc C.prog W 0 (fun _ => true) true ts vs ds ps → ds.length = ts.length := by
      intro ts
      induction ts with
      | nil => intro vs ds ps h; obtain ⟨_, rfl, _⟩ := trodAll_nil h; rfl
      | cons t ts ih =>
        intro vs ds ps h
        obtain ⟨v, vs, d, ds, a, b, rfl, rfl, rfl, _, h2⟩ := trodAll_cons h
        simp [ih _ _ _ h2]
    have := key _ _ _ _ hA
    simpa using this
  obtain ⟨s1, s2, s3⟩ := hs ds hlen
  refine (law_calls (tabs_none W) (spec avs k2 k3) k1 k4).mono fun e W' ⟨he, bel⟩ => ⟨_, he, ds, [], p ++ [], [], p, [], hW', ?_, ?_, ?_, bel.frame _, fun h => (by cases h)⟩
  · rw [List.append_nil, s1, hres]
    exact trodAll_mk1 (shut_bool htb _)
  · rw [List.append_nil, s2]
    exact again_args hl bel (fun t h => ⟨(ht t h).1.1, (ht t h).2⟩) (fun x hx => by simpa using hW'.lt x (by simpa using hx)) hA
  · rw [hvars, List.append_nil, s3]; rfl
end
end Go.Qg


namespace Go.Qg
open Go.Proofs
set_option maxRecDepth 100000
set_option maxHeartbeats 32000000
attribute [local irreducible] pwp pops pdraw pop popCall pdCall thenP blockP scopeP pspec Spec answers ppost CallW rend
theorem din_spec (n lo hi : Int) : Spec Tryz.prog 117 [.v (.int .i64 n), .v (.int .i64 lo), .v (.int .i64 hi)] (.v (.bool (inB n lo hi))) := by
  refine spec_of mixed Tryz.func117 (by decide) rfl Tryz.results117 Tryz.ntmps117 (by decide) 0 (by simp) ?_
  by_cases h1 : lo ≤ n
  · by_cases h2 : n ≤ hi <;> (simp [h1, h2]; refine answers_of rfl ?_; simp [inB, h1, h2])
  · simp [h1]; refine answers_of rfl ?_; simp [inB, h1]
theorem dspan_spec (s : Spn) (lo hi : Int) : Spec Tryz.prog 118 [.agg s.cells, .v (.int .i64 lo), .v (.int .i64 hi)] (.v (.bool (spanB s lo hi))) := by
  refine spec_of mixed Tryz.func118 (by decide) rfl Tryz.results118 Tryz.ntmps118 (by decide) 0 (by simp) ?_
  simp [Spn.cells]
  by_cases h1 : lo ≤ s.low
  · by_cases h2 : s.low ≤ s.high
    · by_cases h3 : s.high ≤ hi <;> (simp [h1, h2, h3]; refine answers_of rfl ?_; simp [spanB, h1, h2, h3])
    · simp [h1, h2, Int.not_le.1 h2]
      refine answers_of rfl ?_; simp [spanB, h1, h2]
  · simp [h1, Int.not_le.1 h1]; refine answers_of rfl ?_; simp [spanB, h1]
theorem dockAll_spec (l : List Rop) (hl : l.length ≤ 9223372036854775807) (f : FuncId) (first cap : List PV) (h1 : plainL first = true) (h2 : plainL cap = true) (p : Nat → Bool)
    (h : ∀ k, k < l.length → Spec Tryz.prog f (first ++ ([.agg (ropAt l k).cells] ++ cap)) (.v (.bool (p k)))) : Spec Tryz.prog 115 [ropL l, .clo (.func f) first cap] (.v (.bool (allN l.length p))) := by
  refine spec_of mixed Tryz.func115 (by decide) rfl Tryz.results115 Tryz.ntmps115 (by decide) 0 (by simp) ?_
  simp [ropL, Rop.cells, renL_plain h1, renL_plain h2]
  refine pwp_loop (fun k : Nat => [(9, .v (.int .i64 k))]) (fun k => k ≤ l.length ∧ ∀ j, j < k → p j = true) (fun k => l.length - k) 0 ⟨Nat.zero_le _, fun j hj => by omega⟩ (by simp; rfl) (by simp [vwAll_plain h1, vwAll_plain h2]) ?_
  intro k ⟨hk, hp⟩
  by_cases hkl : k < l.length
  · simp [hkl, ropL, Rop.cells]
    refine pop_spec (h k hkl) rfl false (.inr ⟨by simp [Rop.cells], by simp [namesL_append, plainL_names h1, plainL_names h2, Rop.cells]⟩) (.inl rfl) rfl (by simp) ?_
    cases hpk : p k with
    | true =>
      simp
      refine again_of (k + 1) ⟨by omega, fun j hj => ?_⟩ (by omega) ?_
      · rcases Nat.lt_succ_iff_lt_or_eq.1 hj with hj | rfl
        · exact hp j hj
        · exact hpk
      · simp [i64_wrap (show -9223372036854775808 ≤ (k : Int) + 1 ∧ _ from by omega), vwAll_plain h1, vwAll_plain h2]
    | false =>
      simp
      refine answers_of rfl ?_; simp [allN_false hkl hpk]
  · simp [hkl]
    obtain rfl : k = l.length := by omega
    refine answers_of rfl ?_; simp [allN_spec.2 hp]
def ropB (r : Rop) : Bool := inB r.x (-100) 100 && inB r.y (-100) 100 && (decide (r.x ≠ 0) || decide (r.y ≠ 0)) && inB r.s 0 1000000
theorem roped1_spec (r : Rop) : Spec Tryz.prog 116 [.agg r.cells] (.v (.bool (ropB r))) := by
  refine spec_of mixed Tryz.func116 (by decide) rfl Tryz.results116 Tryz.ntmps116 (by decide) 0 (by simp) ?_
  simp [Rop.cells]
  refine pop_spec (din_spec r.x (-100) 100) rfl false (.inl (by simp)) (.inl rfl) rfl (by simp) ?_
  cases h1 : inB r.x (-100) 100 with
  | false => simp; refine answers_of rfl ?_; simp [ropB, h1]
  | true =>
  simp
  refine pop_spec (din_spec r.y (-100) 100) rfl false (.inl (by simp)) (.inl rfl) rfl (by simp) ?_
  cases h2 : inB r.y (-100) 100 with
  | false => simp; refine answers_of rfl ?_; simp [ropB, h2]
  | true =>
  by_cases h3 : r.x = 0
  · by_cases h4 : r.y = 0
    · simp [h3, h4]
      refine answers_of rfl ?_; simp [ropB, h3, h4]
    · simp [h3, h4]
      refine pop_spec (din_spec r.s 0 1000000) rfl false (.inl (by simp)) (.inl rfl) rfl (by simp) ?_
      simp
      refine answers_of rfl ?_
      rw [h3] at h1
      simp [ropB, h1, h2, h3, h4]
  · simp [h3]
    refine pop_spec (din_spec r.s 0 1000000) rfl false (.inl (by simp)) (.inl rfl) rfl (by simp) ?_
    simp
    refine answers_of rfl ?_; simp [ropB, h1, h2, h3]
def ropesB (l : List Rop) : Bool := allN l.length fun k => ropB (ropAt l k)
def RopOk (r : Rop) : Prop := (-100 ≤ r.x ∧ r.x ≤ 100) ∧ (-100 ≤ r.y ∧ r.y ≤ 100) ∧ (r.x ≠ 0 ∨ r.y ≠ 0) ∧ 0 ≤ r.s ∧ r.s ≤ 1000000
theorem ropesB_iff {l : List Rop} : ropesB l = true ↔ ∀ r ∈ l, RopOk r := by
  simp only [ropesB, allN_spec, ropB, Bool.and_eq_true, Bool.or_eq_true, inB_spec, decide_eq_true_eq, RopOk]
  constructor
  · intro h r hr
    obtain ⟨k, hk, rfl⟩ := List.mem_iff_getElem.1 hr
    have := h k hk
    simp only [ropAt, List.getD_eq_getElem?_getD, List.getElem?_eq_getElem hk, Option.getD_some] at this
    exact ⟨this.1.1.1, this.1.1.2, this.1.2, this.2⟩
  · intro h k hk
    have := h _ (ropAt_mem hk)
    exact ⟨⟨⟨this.1, this.2.1⟩, this.2.2.1⟩, this.2.2.2⟩
def ropedE (l : List Rop) (wx wy : Spn) : Int := if 8 < l.length then 3 else if ropesB l && spanB wx (-1000000) 1000000 && spanB wy (-1000000) 1000000 then 0 else 2
theorem roped_spec (l : List Rop) (wx wy : Spn) (hl : l.length ≤ 9223372036854775807) : Spec Tryz.prog 43 [ropL l, .agg [.v (.int .i64 wx.low), .v (.int .i64 wx.high), .v (.int .i64 wy.low), .v (.int .i64 wy.high)]] (.v (.int .i64 (ropedE l wx wy))) := by
  refine spec_of mixed Tryz.func43 (by decide) rfl Tryz.results43 Tryz.ntmps43 (by decide) 0 (by simp) ?_
  simp [ropL]
  by_cases h0 : 8 < l.length
  · simp [show (8 : Int) < l.length from by omega]
    refine answers_of rfl ?_; simp [ropedE, h0]
  simp [show ¬ (8 : Int) < l.length from by omega, show (l.length : Int) ≤ 8 from by omega]
  refine pop_spec (dockAll_spec l hl 116 [] [] rfl rfl (fun k => ropB (ropAt l k)) fun k hk => roped1_spec (ropAt l k)) rfl false (.inl (by simp [ropL])) (.inl rfl) rfl (by simp) ?_
  rw [show allN l.length (fun k => ropB (ropAt l k)) = ropesB l from rfl]
  cases h1 : ropesB l with
  | false => simp; refine answers_of rfl ?_; simp [ropedE, h0, h1]
  | true =>
  simp
  refine pop_spec (dspan_spec wx (-1000000) 1000000) rfl false (.inl (by simp [Spn.cells])) (.inl rfl) rfl (by simp) ?_
  cases h2 : spanB wx (-1000000) 1000000 with
  | false => simp; refine answers_of rfl ?_; simp [ropedE, h0, h2]
  | true =>
  simp
  refine pop_spec (dspan_spec wy (-1000000) 1000000) rfl false (.inl (by simp [Spn.cells])) (.inl rfl) rfl (by simp) ?_
  cases h3 : spanB wy (-1000000) 1000000 with
  | false => simp; refine answers_of rfl ?_; simp [ropedE, h0, h3]
  | true => simp; refine answers_of rfl ?_; simp [ropedE, h0, h1, h2, h3]
def pairC (d : Int × Int) : List PV := [.v (.int .i64 d.1), .v (.int .i64 d.2)]
theorem by_spec (p q : Int × Int) (h1 : Small 10000 p.1) (h2 : Small 10000 p.2) (h3 : Small 1000000 q.1) (h4 : Small 1000000 q.2) : Spec Tryz.prog 122 [.agg (pairC p), .agg (pairC q)] (.v (.int .i64 (p.1 * q.1 + p.2 * q.2))) := by
  have m1 := mul_small h1 h3 (by omega) (by omega)
  have m2 := mul_small h2 h4 (by omega) (by omega)
  simp only [Small] at m1 m2
  refine spec_of mixed Tryz.func122 (by decide) rfl Tryz.results122 Tryz.ntmps122 (by decide) 0 (by simp) ?_
  simp [pairC, i64_wrap (show -9223372036854775808 ≤ p.1 * q.1 ∧ _ from by omega), i64_wrap (show -9223372036854775808 ≤ p.2 * q.2 ∧ _ from by omega), i64_wrap (show -9223372036854775808 ≤ p.1 * q.1 + p.2 * q.2 ∧ _ from by omega)]
  refine answers_of rfl ?_; simp
theorem pullR_append (d : Int × Int) (r : Rop) : ∀ l : List Rop, pullR (l ++ [r]) d = pullR l d + r.s * max 0 (dotR d r)
  | [] => by simp [pullR]
  | q :: l => by
    have := pullR_append d r l
    simp only [List.cons_append, pullR, this]
    omega
theorem rop_take {l : List Rop} {k : Nat} (h : k < l.length) : l.take (k + 1) = l.take k ++ [ropAt l k] := by
  rw [List.take_succ]
  simp [ropAt, h]
theorem dot_small {d : Int × Int} {r : Rop} (h1 : Small 10000 d.1) (h2 : Small 10000 d.2) (hr : RopOk r) : Small 2000000 (dotR d r) := by
  have m1 := mul_small h1 (show Small 100 r.x from hr.1) (by omega) (by omega)
  have m2 := mul_small h2 (show Small 100 r.y from hr.2.1) (by omega) (by omega)
  simp only [Small, dotR] at *
  omega
theorem pull_small {d : Int × Int} (h1 : Small 10000 d.1) (h2 : Small 10000 d.2) {l : List Rop} (hl : ∀ r ∈ l, RopOk r) : ∀ {k : Nat}, k ≤ l.length → 0 ≤ pullR (l.take k) d ∧ pullR (l.take k) d ≤ 2000000000000 * k
  | 0, _ => by simp [pullR]
  | k + 1, hk => by
    have ih := pull_small h1 h2 hl (k := k) (by omega)
    have hr := hl _ (ropAt_mem (show k < l.length by omega))
    have hd := dot_small h1 h2 hr
    simp only [Small] at hd
    rw [rop_take (by omega), pullR_append]
    have hm : 0 ≤ max 0 (dotR d (ropAt l k)) ∧ max 0 (dotR d (ropAt l k)) ≤ 2000000 := by omega
    have h3 := Int.mul_nonneg hr.2.2.2.1 hm.1
    have h4 := Int.mul_le_mul hr.2.2.2.2 hm.2 hm.1 (by omega)
    rw [show ((k + 1 : Nat) : Int) = (k : Int) + 1 from by omega, Int.mul_add]
    omega
theorem pull_spec (l : List Rop) (d : Int × Int) (hl : ∀ r ∈ l, RopOk r) (hn : l.length ≤ 8) (h1 : Small 10000 d.1) (h2 : Small 10000 d.2) : Spec Tryz.prog 123 [.agg (pairC d), ropL l] (.v (.int .i64 (pullR l d))) := by
  refine spec_of mixed Tryz.func123 (by decide) rfl Tryz.results123 Tryz.ntmps123 (by decide) 0 (by simp) ?_
  simp [pairC, ropL]
  refine pwp_loop (fun k : Nat => [(5, .v (.int .i64 (pullR (l.take k) d))), (10, .v (.int .i64 k))]) (fun k => k ≤ l.length) (fun k => l.length - k) 0 (Nat.zero_le _) (by simp; rfl) (by simp [pullR]) ?_
  intro k hk
  by_cases hkl : k < l.length
  · have hr := hl _ (ropAt_mem hkl)
    have hd := dot_small h1 h2 hr
    have hp := pull_small h1 h2 hl hk
    have hp2 := pull_small h1 h2 hl (show k + 1 ≤ l.length from hkl)
    have e := pullR_append d (ropAt l k) (l.take k)
    rw [← rop_take hkl] at e
    simp only [Small] at hd
    have hm : 0 ≤ max 0 (dotR d (ropAt l k)) ∧ max 0 (dotR d (ropAt l k)) ≤ 2000000 := by omega
    have h3 := Int.mul_nonneg hr.2.2.2.1 hm.1
    have h4 := Int.mul_le_mul hr.2.2.2.2 hm.2 hm.1 (by omega)
    have hbs := by_spec d ((ropAt l k).x, (ropAt l k).y) h1 h2 (by have := hr.1; simp only [Small]; omega) (by have := hr.2.1; simp only [Small]; omega)
    rw [show d.1 * ((ropAt l k).x, (ropAt l k).y).1 + d.2 * ((ropAt l k).x, (ropAt l k).y).2 = dotR d (ropAt l k) from rfl] at hbs
    simp [hkl, Rop.cells]
    refine pwp_draw 13 (by decide) ?_
    simp
    refine pd_spec hbs (by simp [pairC]) (by simp) (by simp [pairC]) rfl ?_
    have f1 : (if 0 < dotR d (ropAt l k) then dotR d (ropAt l k) else 0) = max 0 (dotR d (ropAt l k)) := by split <;> omega
    have f2 : (if dotR d (ropAt l k) > 0 then dotR d (ropAt l k) else 0) = max 0 (dotR d (ropAt l k)) := f1
    simp [f1, f2, i64_wrap (show -9223372036854775808 ≤ (ropAt l k).s * max 0 (dotR d (ropAt l k)) ∧ _ from by omega), i64_wrap (show -9223372036854775808 ≤ pullR (l.take k) d + (ropAt l k).s * max 0 (dotR d (ropAt l k)) ∧ _ from by omega)]
    refine ⟨by decide, ?_⟩
    refine again_of (k + 1) (by omega) (by omega) ?_
    simp [i64_wrap (show -9223372036854775808 ≤ (k : Int) + 1 ∧ _ from by omega), e]
  · obtain rfl : k = l.length := by omega
    simp
    refine answers_of rfl ?_; simp
def dir4 (r : Rop) : List (Int × Int) := [(-r.y, r.x), (r.y, -r.x), (r.x, r.y), (-r.x, -r.y)]
def axes : List (Int × Int) := [(1, 0), (-1, 0), (0, 1), (0, -1)]
def dirsL (l : List Rop) : List (Int × Int) := l.flatMap dir4 ++ axes
def dirP (l : List Rop) : List PV := (dirsL l).map fun d => .agg (pairC d)
theorem flat4_length (l : List Rop) : (l.flatMap dir4).length = 4 * l.length := by
  induction l with
  | nil => rfl
  | cons r l ih => simp only [List.flatMap_cons, List.length_append, ih, dir4, List.length_cons, List.length_nil]; omega
theorem dirsL_length (l : List Rop) : (dirsL l).length = 4 * l.length + 4 := by
  rw [dirsL, List.length_append, flat4_length]; rfl
theorem dirP_length (l : List Rop) : (dirP l).length = 4 * l.length + 4 := by simp [dirP, dirsL_length]
theorem dirs_rope : ∀ {l : List Rop} {k j : Nat}, k < l.length → j < 4 → (dirsL l)[4 * k + j]? = (dir4 (ropAt l k))[j]?
  | r :: l, 0, j, _, hj => by
    simp only [dirsL, List.flatMap_cons, List.append_assoc]
    rw [List.getElem?_append_left (by simp [dir4]; omega)]
    simp [ropAt]
  | r :: l, k + 1, j, hk, hj => by
    have ih := dirs_rope (l := l) (k := k) (j := j) (by simpa using hk) hj
    simp only [dirsL, List.flatMap_cons, List.append_assoc] at ih ⊢
    rw [List.getElem?_append_right (by simp [dir4]; omega)]
    have e : 4 * (k + 1) + j - (dir4 r).length = 4 * k + j := by simp [dir4]; omega
    rw [e, ih]
    simp [ropAt]
theorem dirs_axis {l : List Rop} {j : Nat} : (dirsL l)[4 * l.length + j]? = axes[j]? := by
  have := flat4_length l
  rw [dirsL, List.getElem?_append_right (by omega), this]
  congr 1; omega
theorem dirP_get {l : List Rop} {i : Nat} {d : Int × Int} (h : (dirsL l)[i]? = some d) : (dirP l)[i]? = some (.agg (pairC d)) := by simp [dirP, h]
theorem dir_small {l : List Rop} (hl : ∀ r ∈ l, RopOk r) {d : Int × Int} (hd : d ∈ dirsL l) : Small 100 d.1 ∧ Small 100 d.2 := by
  rcases List.mem_append.1 hd with hd | hd
  · obtain ⟨r, hr, hd⟩ := List.mem_flatMap.1 hd
    have h1 := (hl r hr).1
    have h2 := (hl r hr).2.1
    simp only [dir4, List.mem_cons, List.not_mem_nil, or_false] at hd
    simp only [Small]
    rcases hd with rfl | rfl | rfl | rfl <;> simp <;> omega
  · simp only [axes, List.mem_cons, List.not_mem_nil, or_false] at hd
    simp only [Small]
    rcases hd with rfl | rfl | rfl | rfl <;> simp
theorem dirs_gen (l : List Rop) (hl : ∀ r ∈ l, RopOk r) (hn : l.length ≤ 8) : GenW Tryz.prog 187 [.rp [ropL l] 0] (dirP l) := by
  refine gen_of Tryz.func187 (by decide) rfl Tryz.results187 Tryz.ntmps187 0 (by simp) fun L Rb J henv => ?_
  have hlo : ∀ s B, GCtx 62 Rb J s B → B.lo = 62 := fun _ _ h => h.1
  refine XW_seqX (XW_seqP mixed hlo (by decide) ?_)
  simp [ropL]
  refine XW_block ?_
  refine XW_loopV hlo (fun k : Nat => [(11, .v (.int .i64 k))]) (fun k => GS.on (4 * k)) (fun k => k ≤ l.length) (fun k => l.length - k) 0 (Nat.zero_le _) rfl (by simp; rfl) (by simp) ?_
  intro k hk
  refine XW_seqP mixed hlo (by decide) ?_
  by_cases hlt : k < l.length
  · have wk := i64_wrap (show -9223372036854775808 ≤ (k : Int) + 1 ∧ _ from by omega)
    have hr := hl _ (ropAt_mem hlt)
    have x1 := i64_wrap (show -9223372036854775808 ≤ -(ropAt l k).x ∧ _ from by have := hr.1; omega)
    have y1 := i64_wrap (show -9223372036854775808 ≤ -(ropAt l k).y ∧ _ from by have := hr.2.1; omega)
    simp [hlt]
    refine XW_seqP mixed hlo (by decide) ?_
    simp
    refine XW_seqX (XW_block ?_)
    refine XW_seqP mixed hlo (by decide) ?_
    simp [hlt, Rop.cells]
    refine XW_seqP mixed hlo (by decide) ?_
    simp [x1, y1]
    refine XW_block ?_
    refine XW_loopV hlo (fun j : Nat => [(40, .v (.int .i64 j))]) (fun j => GS.on (4 * k + j)) (fun j => j ≤ 4) (fun j => 4 - j) 0 (Nat.zero_le _) rfl (by simp; rfl) (by simp) ?_
    intro j hj
    refine XW_seqP mixed hlo (by decide) ?_
    by_cases hjl : j < 4
    · have hel := fun d (h : (dir4 (ropAt l k))[j]? = some d) => dirP_get ((dirs_rope hlt hjl).trans h)
      obtain rfl | rfl | rfl | rfl : j = 0 ∨ j = 1 ∨ j = 2 ∨ j = 3 := by omega
      · have hel := hel _ rfl
        simp only [pairC] at hel
        simp
        refine XW_seqP mixed hlo (by decide) ?_
        simp
        refine XW_seqX (XW_block ?_)
        refine XW_seqP mixed hlo (by decide) ?_
        simp
        refine XW_seqX (XW_yieldS (m := 2) henv (by decide) (by decide) ?_)
        simp
        first | simp at hel | skip
        simp [pyield, yargs, hel]
        refine ⟨?_, ?_⟩
        · refine XW_pwp mixed hlo (by decide) ?_
          simp
          refine XW_pwp mixed hlo (by decide) ?_
          simp
          refine againX_of 1 (by omega) (by omega) rfl ?_
          simp
        · refine XW_pwp mixed hlo (by decide) ?_
          simp
      · have hel := hel _ rfl
        simp only [pairC] at hel
        simp
        refine XW_seqP mixed hlo (by decide) ?_
        simp
        refine XW_seqX (XW_block ?_)
        refine XW_seqP mixed hlo (by decide) ?_
        simp
        refine XW_seqX (XW_yieldS (m := 2) henv (by decide) (by decide) ?_)
        simp
        first | simp at hel | skip
        simp [pyield, yargs, hel]
        refine ⟨?_, ?_⟩
        · refine XW_pwp mixed hlo (by decide) ?_
          simp
          refine XW_pwp mixed hlo (by decide) ?_
          simp
          refine againX_of 2 (by omega) (by omega) rfl ?_
          simp
        · refine XW_pwp mixed hlo (by decide) ?_
          simp
      · have hel := hel _ rfl
        simp only [pairC] at hel
        simp
        refine XW_seqP mixed hlo (by decide) ?_
        simp
        refine XW_seqX (XW_block ?_)
        refine XW_seqP mixed hlo (by decide) ?_
        simp
        refine XW_seqX (XW_yieldS (m := 2) henv (by decide) (by decide) ?_)
        simp
        first | simp at hel | skip
        simp [pyield, yargs, hel]
        refine ⟨?_, ?_⟩
        · refine XW_pwp mixed hlo (by decide) ?_
          simp
          refine XW_pwp mixed hlo (by decide) ?_
          simp
          refine againX_of 3 (by omega) (by omega) rfl ?_
          simp
        · refine XW_pwp mixed hlo (by decide) ?_
          simp
      · have hel := hel _ rfl
        simp only [pairC] at hel
        simp
        refine XW_seqP mixed hlo (by decide) ?_
        simp
        refine XW_seqX (XW_block ?_)
        refine XW_seqP mixed hlo (by decide) ?_
        simp
        refine XW_seqX (XW_yieldS (m := 2) henv (by decide) (by decide) ?_)
        simp
        first | simp at hel | skip
        simp [pyield, yargs, hel]
        refine ⟨?_, ?_⟩
        · refine XW_pwp mixed hlo (by decide) ?_
          simp
          refine XW_pwp mixed hlo (by decide) ?_
          simp
          refine againX_of 4 (by omega) (by omega) rfl ?_
          simp
        · refine XW_pwp mixed hlo (by decide) ?_
          simp
    · obtain rfl : j = 4 := by omega
      simp
      refine XW_seqP mixed hlo (by decide) ?_
      simp
      refine XW_pwp mixed hlo (by decide) ?_
      simp [wk]
      refine againX_of (k + 1) (by omega) (by omega) rfl ?_
      simp
  · obtain rfl : k = l.length := by omega
    simp
    refine XW_pwp mixed hlo (by decide) ?_
    simp
    refine XW_seqP mixed hlo (by decide) ?_
    simp
    refine XW_block ?_
    refine XW_loopV hlo (fun j : Nat => [(54, .v (.int .i64 j))]) (fun j => GS.on (4 * l.length + j)) (fun j => j ≤ 4) (fun j => 4 - j) 0 (Nat.zero_le _) rfl (by simp; rfl) (by simp) ?_
    intro j hj
    refine XW_seqP mixed hlo (by decide) ?_
    by_cases hjl : j < 4
    · have hel := fun d (h : axes[j]? = some d) => dirP_get (dirs_axis (l := l).trans h)
      obtain rfl | rfl | rfl | rfl : j = 0 ∨ j = 1 ∨ j = 2 ∨ j = 3 := by omega
      · have hel := hel _ rfl
        simp only [pairC] at hel
        simp
        refine XW_seqP mixed hlo (by decide) ?_
        simp
        refine XW_seqX (XW_block ?_)
        refine XW_seqP mixed hlo (by decide) ?_
        simp
        refine XW_seqX (XW_yieldS (m := 2) henv (by decide) (by decide) ?_)
        simp
        first | simp at hel | skip
        simp [pyield, yargs, hel]
        refine ⟨?_, ?_⟩
        · refine XW_pwp mixed hlo (by decide) ?_
          simp
          refine XW_pwp mixed hlo (by decide) ?_
          simp
          refine againX_of 1 (by omega) (by omega) rfl ?_
          simp
        · refine XW_pwp mixed hlo (by decide) ?_
          simp
      · have hel := hel _ rfl
        simp only [pairC] at hel
        simp
        refine XW_seqP mixed hlo (by decide) ?_
        simp
        refine XW_seqX (XW_block ?_)
        refine XW_seqP mixed hlo (by decide) ?_
        simp
        refine XW_seqX (XW_yieldS (m := 2) henv (by decide) (by decide) ?_)
        simp
        first | simp at hel | skip
        simp [pyield, yargs, hel]
        refine ⟨?_, ?_⟩
        · refine XW_pwp mixed hlo (by decide) ?_
          simp
          refine XW_pwp mixed hlo (by decide) ?_
          simp
          refine againX_of 2 (by omega) (by omega) rfl ?_
          simp
        · refine XW_pwp mixed hlo (by decide) ?_
          simp
      · have hel := hel _ rfl
        simp only [pairC] at hel
        simp
        refine XW_seqP mixed hlo (by decide) ?_
        simp
        refine XW_seqX (XW_block ?_)
        refine XW_seqP mixed hlo (by decide) ?_
        simp
        refine XW_seqX (XW_yieldS (m := 2) henv (by decide) (by decide) ?_)
        simp
        first | simp at hel | skip
        simp [pyield, yargs, hel]
        refine ⟨?_, ?_⟩
        · refine XW_pwp mixed hlo (by decide) ?_
          simp
          refine XW_pwp mixed hlo (by decide) ?_
          simp
          refine againX_of 3 (by omega) (by omega) rfl ?_
          simp
        · refine XW_pwp mixed hlo (by decide) ?_
          simp
      · have hel := hel _ rfl
        simp only [pairC] at hel
        simp
        refine XW_seqP mixed hlo (by decide) ?_
        simp
        refine XW_seqX (XW_block ?_)
        refine XW_seqP mixed hlo (by decide) ?_
        simp
        refine XW_seqX (XW_yieldS (m := 2) henv (by decide) (by decide) ?_)
        simp
        first | simp at hel | skip
        simp [pyield, yargs, hel]
        refine ⟨?_, ?_⟩
        · refine XW_pwp mixed hlo (by decide) ?_
          simp
          refine XW_pwp mixed hlo (by decide) ?_
          simp
          refine againX_of 4 (by omega) (by omega) rfl ?_
          simp
        · refine XW_pwp mixed hlo (by decide) ?_
          simp
    · obtain rfl : j = 4 := by omega
      simp
      refine XW_pwp mixed hlo (by decide) ?_
      simp [dirP_length]
def dirClo (l : List Rop) : PV := .clo (.func 187) [] [.rp [ropL l] 0]
theorem directions_spec (l : List Rop) : Spec Tryz.prog 120 [ropL l] (dirClo l) := by
  refine spec_of mixed Tryz.func120 (by decide) rfl Tryz.results120 Tryz.ntmps120 (by decide) 0 (by simp) ?_
  simp [ropL]
  refine answers_of rfl ?_
  simp [dirClo, ropL]
def fstV (h : PV) : PF := [.undef, .undef, .undef, .rp [h] 0, .box true [.v (.int .i64 0), .v (.int .i64 0)], .box true [.v (.bool false)], .undef, .undef, .undef, .undef, .undef, .undef, .undef, .undef, .undef]
def fstA (h : PV) : List PV := [.undef, .undef, .undef, .rp [h] 0, .ref 0 0, .ref 1 0, .undef, .undef, .undef, .undef, .undef, .undef, .undef, .undef, .undef]
def findR (L : List (Int × Int)) (p : Int × Int → Bool) : PV := match L.find? p with
  | some d => .tup [.agg (pairC d), .v (.bool true)]
  | none => .tup [.agg (pairC (0, 0)), .v (.bool false)]
theorem find_none_of {L : List (Int × Int)} {p : Int × Int → Bool} (h : ∀ n, n < L.length → p (L.getD n (0, 0)) = false) : L.find? p = none := by
  rw [List.find?_eq_none]
  intro d hd
  obtain ⟨n, hn, rfl⟩ := List.mem_iff_getElem.1 hd
  have := h n hn
  simpa [List.getD, hn] using this
theorem find_some_of {p : Int × Int → Bool} : ∀ {L : List (Int × Int)} {n : Nat} {d : Int × Int}, L[n]? = some d → (∀ i, i < n → p (L.getD i (0, 0)) = false) → p d = true → L.find? p = some d
  | x :: L, 0, d, h, _, hp => by
    simp at h
    subst h
    simp [hp]
  | x :: L, n + 1, d, h, hn, hp => by
    have h0 := hn 0 (by omega)
    simp at h0
    rw [List.find?_cons, h0]
    exact find_some_of (n := n) (by simpa using h) (fun i hi => by have := hn (i + 1) (by omega); simpa using this) hp
def noB (p : Int × Int → Bool) (L : List (Int × Int)) (n : Nat) : Bool := allN n fun i => !(p (L.getD i (0, 0)))
theorem noB_iff {p : Int × Int → Bool} {L : List (Int × Int)} {n : Nat} : noB p L n = true ↔ ∀ i, i < n → p (L.getD i (0, 0)) = false := by simp [noB, allN_spec]
theorem firstPair_spec (gf hf : FuncId) (gc hc : List PV) (L : List (Int × Int)) (p : Int × Int → Bool) (hgp : plainL gc = true) (hhp : plainL hc = true) (hgen : GenW Tryz.prog gf gc (L.map fun d => .agg (pairC d)))
    (hh : ∀ d ∈ L, Spec Tryz.prog hf (.agg (pairC d) :: hc) (.v (.bool (p d)))) : Spec Tryz.prog 119 [.clo (.func gf) [] gc, .clo (.func hf) [] hc] (findR L p) := by
  unfold Spec
  refine callW_ofE Tryz.func119 (by decide) rfl (congrArg Array.toList Tryz.results119) Tryz.ntmps119 15 (by simp) (by decide) fun B0 hB0 hD0 => ?_
  have hlo : ∀ s B, ECtx B0 s B → B.lo = 15 := fun _ _ h => h.1.trans hB0
  refine XW_seqP mixed hlo (by decide) ?_
  simp [renL_plain hgp, renL_plain hhp]
  refine XW_seqX (XW_seqP mixed hlo (by decide) ?_)
  simp
  refine XW_block ?_
  have hval : vwAll (vw (fstV (.clo (.func hf) [] hc)) (tgtAt [] [] fun _ => true) 7) hc hc := vwAll_plain hhp
  refine XW_rangeI (by decide) mixed rfl hgp hgen (fun q hq => ?_) (by decide) (by decide) 15 (by decide) [4, 5] (by decide)
    (fun n => if noB p L n = true then fstV (.clo (.func hf) [] hc) else [])
    (fun n => fstA (.clo (.func hf) [] hc))
    (fun n => [.box false [.v (.int .i64 0), .v (.int .i64 0)], .box false [.v (.bool false)]]) ?_ (fun n hn hV => ?_) (fun n q hq hV => ?_) ?_
  · obtain ⟨d, _, rfl⟩ := List.mem_map.1 hq
    exact ⟨rfl, rfl⟩
  · rw [hB0]
    simp [fstV, vwAll_plain hhp, plainL_names hhp, noB_iff.2 (fun i (hi : i < 0) => absurd hi (Nat.not_lt_zero i))]
  · by_cases hs : noB p L n = true
    · rw [if_pos hs]
      refine ⟨rfl, ?_, slots_view (t := 9) ?_ rfl⟩
      · simp [fstV]
      · simp [slots, fstV, fstA]
    · rw [if_neg hs] at hV; exact (hV rfl).elim
  · rw [List.getElem?_map] at hq
    cases hd : L[n]? with
    | none => rw [hd] at hq; cases hq
    | some d =>
      rw [hd] at hq
      obtain rfl := Option.some.inj hq
      have hdm := List.mem_of_getElem? hd
      have hdg : L.getD n (0, 0) = d := by simp [List.getD, hd]
      rw [hB0]
      by_cases hs : noB p L n = true
      · simp [fstA, pairC]
        refine pop_spec (hh d hdm) rfl false (.inr ⟨by simp [pairC], by simp [pairC, plainL_names hhp]⟩) (.inl rfl) rfl (by simp) ?_
        cases hpd : p d with
        | true =>
          have hfs := find_some_of hd (noB_iff.1 hs) hpd
          have hno : ¬ noB p L (n + 1) = true := fun h => by
            have := noB_iff.1 h n (by omega)
            rw [hdg, hpd] at this
            cases this
          simp
          refine rend_r [.box false (pairC d), .box false [.v (.bool true)]] ?_ ?_
          · simp [pairC]
          · rw [if_pos hs]
            simp [back, placeAll, fstV, blockX, thenX, pairC]
            refine ends_of (.tup [.agg (pairC d), .v (.bool true)]) [] [] (x := .tup [.agg (pairC d), .v (.bool true)]) (by simp [pairC]) (by decide) ?_ ?_ (by simp [findR, hfs])
            · simp
            · simp [pairC]
        | false =>
          have hyes : noB p L (n + 1) = true := noB_iff.2 fun i hi => by
            rcases Nat.lt_succ_iff_lt_or_eq.1 hi with hi | rfl
            · exact noB_iff.1 hs i hi
            · rw [hdg]; exact hpd
          simp
          refine rend_n [.box false [.v (.int .i64 0), .v (.int .i64 0)], .box false [.v (.bool false)]] ?_ ?_
          · simp
          · rw [if_pos hs, if_pos hyes]
            simp [back, placeAll, fstV, vwAll_plain hhp, plainL_names hhp]
      · rw [if_neg hs] at hV; exact (hV rfl).elim
  · intro hV
    by_cases hs : noB p L (L.map fun d => PV.agg (pairC d)).length = true
    · rw [if_pos hs]
      have hfn := find_none_of (L := L) (p := p) (noB_iff.1 (by simpa using hs))
      simp [fstV, blockX, thenX]
      refine XW_seqP mixed hlo (by decide) ?_
      simp
      refine XW_pwp mixed hlo (by decide) ?_
      simp
      refine ends_of (.tup [.agg (pairC (0, 0)), .v (.bool false)]) [] [] (x := .tup [.agg (pairC (0, 0)), .v (.bool false)]) (by simp [pairC]) (by decide) ?_ ?_ (by simp [findR, hfn])
      · simp
      · simp [pairC]
    · rw [if_neg hs] at hV; exact (hV rfl).elim
def failB (l : List Rop) (f d : Int × Int) : Bool := decide (leftR l f d < 0)
theorem hold1_spec (l : List Rop) (f d : Int × Int) (hl : ∀ r ∈ l, RopOk r) (hn : l.length ≤ 8) (h1 : Small 100 d.1) (h2 : Small 100 d.2) (h3 : Small 1000000 f.1) (h4 : Small 1000000 f.2) :
    Spec Tryz.prog 121 [.agg (pairC d), .rp (pairC f) 0, .rp [ropL l] 0] (.v (.bool (failB l f d))) := by
  have k1 : Small 10000 d.1 := by simp only [Small] at *; omega
  have k2 : Small 10000 d.2 := by simp only [Small] at *; omega
  have hb := by_spec d f k1 k2 h3 h4
  have hp := pull_spec l d hl hn k1 k2
  have m1 := mul_small h1 h3 (by omega) (by omega)
  have m2 := mul_small h2 h4 (by omega) (by omega)
  have e : failB l f d = decide (pullR l d < -(d.1 * f.1 + d.2 * f.2)) := by
    simp only [failB, leftR]
    refine decide_eq_decide.2 ?_
    omega
  simp only [Small] at m1 m2
  have w1 := i64_wrap (show -9223372036854775808 ≤ -(d.1 * f.1 + d.2 * f.2) ∧ _ from by omega)
  refine spec_of mixed Tryz.func121 (by decide) rfl Tryz.results121 Tryz.ntmps121 (by decide) 0 (by simp) ?_
  simp [pairC, ropL]
  refine pwp_draw 8 (by decide) ?_
  simp
  refine pd_spec hb (by simp [pairC]) (by simp) (by simp [pairC]) rfl ?_
  simp
  refine pd_spec hp (by simp [pairC, ropL]) (by simp) (by simp [pairC, ropL]) rfl ?_
  simp [w1]
  refine ⟨by decide, ?_⟩
  refine answers_of rfl ?_
  simp [e]
def corners (wx wy : Spn) : List (Int × Int) := [(wx.low, wy.low), (wx.low, wy.high), (wx.high, wy.low), (wx.high, wy.high)]
def brkC (f d : Int × Int) : List PV := [.v (.int .i64 f.1), .v (.int .i64 f.2), .v (.int .i64 d.1), .v (.int .i64 d.2)]
def holdR (l : List Rop) : List (Int × Int) → PV
  | [] => .tup [.v (.bool true), .agg (brkC (0, 0) (0, 0))]
  | f :: fs => match (dirsL l).find? (failB l f) with
    | some d => .tup [.v (.bool false), .agg (brkC f d)]
    | none => holdR l fs
theorem holdR_yes {l : List Rop} : ∀ {fs : List (Int × Int)} {x : List PV}, holdR l fs = .tup (.v (.bool true) :: x) → ∀ f ∈ fs, ∀ d ∈ dirsL l, 0 ≤ leftR l f d
  | f :: fs, x, h, g, hg, d, hd => by
    unfold holdR at h
    split at h
    · cases h
    · rename_i hn
      rcases List.mem_cons.1 hg with rfl | hg
      · have := List.find?_eq_none.1 hn d hd
        simp only [failB, decide_eq_true_eq] at this
        omega
      · exact holdR_yes h g hg d hd
theorem hold_spec (l : List Rop) (wx wy : Spn) (hl : ∀ r ∈ l, RopOk r) (hn : l.length ≤ 8) (hx : Small 1000000 wx.low ∧ Small 1000000 wx.high) (hy : Small 1000000 wy.low ∧ Small 1000000 wy.high) :
    Spec Tryz.prog 44 [.agg [.v (.int .i64 wx.low), .v (.int .i64 wx.high), .v (.int .i64 wy.low), .v (.int .i64 wy.high)], ropL l] (holdR l (corners wx wy)) := by
  refine spec_of mixed Tryz.func44 (by decide) rfl Tryz.results44 Tryz.ntmps44 (by decide) 0 (by simp) ?_
  simp [ropL]
  refine pwp_loop (fun k : Nat => [(3, .rp [ropL l] 0), (39, .v (.int .i64 k))]) (fun k => k ≤ 4 ∧ holdR l ((corners wx wy).drop k) = holdR l (corners wx wy)) (fun k => 4 - k) 0 ⟨by omega, rfl⟩ (by simp; rfl) (by simp [ropL]) ?_
  intro k ⟨hk, hR⟩
  have step : ∀ f, (corners wx wy)[k]? = some f → Small 1000000 f.1 → Small 1000000 f.2 → Spec Tryz.prog 119 [dirClo l, .clo (.func 121) [] [.rp (pairC f) 0, .rp [ropL l] 0]] (findR (dirsL l) (failB l f)) := fun f _ h3 h4 =>
    firstPair_spec 187 121 [.rp [ropL l] 0] [.rp (pairC f) 0, .rp [ropL l] 0] (dirsL l) (failB l f) (by rfl) (by rfl) (dirs_gen l hl hn) fun d hd => hold1_spec l f d hl hn (dir_small hl hd).1 (dir_small hl hd).2 h3 h4
  obtain rfl | rfl | rfl | rfl | rfl : k = 0 ∨ k = 1 ∨ k = 2 ∨ k = 3 ∨ k = 4 := by omega
  rotate_left 4
  · simp
    refine answers_of (x := .tup [.v (.bool true), .agg (brkC (0, 0) (0, 0))]) (by simp [brkC]) ?_
    rw [← hR]
    simp [corners, holdR, brkC]
  · have st := step (wx.low, wy.low) rfl hx.1 hy.1
    simp
    refine pop_spec (directions_spec l) rfl false (.inl (by simp [ropL])) (.inl rfl) rfl (by simp [dirClo]) ?_
    simp [dirClo, ropL]
    refine pop_specF [(7, .rp (pairC (wx.low, wy.low)) 0), (45, .clo (.func 121) [] [.rp (pairC (wx.low, wy.low)) 0, .rp [ropL l] 0])] ?_ st rfl false (.inl ?_) (.inl rfl) ?_ ?_ ?_
    · simp [pairC, ropL]
    · simp [dirClo, ropL, pairC]
    · unfold findR; split <;> rfl
    · unfold findR; split <;> simp [pairC]
    cases hf : (dirsL l).find? (failB l (wx.low, wy.low)) with
    | some d =>
      simp [findR, hf, pairC]
      refine pwp_draw 11 (by decide) ?_
      simp
      refine ⟨by decide, ?_⟩
      refine answers_of (x := .tup [.v (.bool false), .agg (brkC (wx.low, wy.low) d)]) (by simp [brkC]) ?_
      rw [← hR]
      simp [corners, holdR, hf, brkC]
    | none =>
      simp [findR, hf, pairC]
      refine again_of 1 ⟨by omega, ?_⟩ (by omega) ?_
      · rw [← hR]
        simp [corners, holdR, hf]
      · simp [ropL]
  · have st := step (wx.low, wy.high) rfl hx.1 hy.2
    simp
    refine pop_spec (directions_spec l) rfl false (.inl (by simp [ropL])) (.inl rfl) rfl (by simp [dirClo]) ?_
    simp [dirClo, ropL]
    refine pop_specF [(7, .rp (pairC (wx.low, wy.high)) 0), (45, .clo (.func 121) [] [.rp (pairC (wx.low, wy.high)) 0, .rp [ropL l] 0])] ?_ st rfl false (.inl ?_) (.inl rfl) ?_ ?_ ?_
    · simp [pairC, ropL]
    · simp [dirClo, ropL, pairC]
    · unfold findR; split <;> rfl
    · unfold findR; split <;> simp [pairC]
    cases hf : (dirsL l).find? (failB l (wx.low, wy.high)) with
    | some d =>
      simp [findR, hf, pairC]
      refine pwp_draw 11 (by decide) ?_
      simp
      refine ⟨by decide, ?_⟩
      refine answers_of (x := .tup [.v (.bool false), .agg (brkC (wx.low, wy.high) d)]) (by simp [brkC]) ?_
      rw [← hR]
      simp [corners, holdR, hf, brkC]
    | none =>
      simp [findR, hf, pairC]
      refine again_of 2 ⟨by omega, ?_⟩ (by omega) ?_
      · rw [← hR]
        simp [corners, holdR, hf]
      · simp [ropL]
  · have st := step (wx.high, wy.low) rfl hx.2 hy.1
    simp
    refine pop_spec (directions_spec l) rfl false (.inl (by simp [ropL])) (.inl rfl) rfl (by simp [dirClo]) ?_
    simp [dirClo, ropL]
    refine pop_specF [(7, .rp (pairC (wx.high, wy.low)) 0), (45, .clo (.func 121) [] [.rp (pairC (wx.high, wy.low)) 0, .rp [ropL l] 0])] ?_ st rfl false (.inl ?_) (.inl rfl) ?_ ?_ ?_
    · simp [pairC, ropL]
    · simp [dirClo, ropL, pairC]
    · unfold findR; split <;> rfl
    · unfold findR; split <;> simp [pairC]
    cases hf : (dirsL l).find? (failB l (wx.high, wy.low)) with
    | some d =>
      simp [findR, hf, pairC]
      refine pwp_draw 11 (by decide) ?_
      simp
      refine ⟨by decide, ?_⟩
      refine answers_of (x := .tup [.v (.bool false), .agg (brkC (wx.high, wy.low) d)]) (by simp [brkC]) ?_
      rw [← hR]
      simp [corners, holdR, hf, brkC]
    | none =>
      simp [findR, hf, pairC]
      refine again_of 3 ⟨by omega, ?_⟩ (by omega) ?_
      · rw [← hR]
        simp [corners, holdR, hf]
      · simp [ropL]
  · have st := step (wx.high, wy.high) rfl hx.2 hy.2
    simp
    refine pop_spec (directions_spec l) rfl false (.inl (by simp [ropL])) (.inl rfl) rfl (by simp [dirClo]) ?_
    simp [dirClo, ropL]
    refine pop_specF [(7, .rp (pairC (wx.high, wy.high)) 0), (45, .clo (.func 121) [] [.rp (pairC (wx.high, wy.high)) 0, .rp [ropL l] 0])] ?_ st rfl false (.inl ?_) (.inl rfl) ?_ ?_ ?_
    · simp [pairC, ropL]
    · simp [dirClo, ropL, pairC]
    · unfold findR; split <;> rfl
    · unfold findR; split <;> simp [pairC]
    cases hf : (dirsL l).find? (failB l (wx.high, wy.high)) with
    | some d =>
      simp [findR, hf, pairC]
      refine pwp_draw 11 (by decide) ?_
      simp
      refine ⟨by decide, ?_⟩
      refine answers_of (x := .tup [.v (.bool false), .agg (brkC (wx.high, wy.high) d)]) (by simp [brkC]) ?_
      rw [← hR]
      simp [corners, holdR, hf, brkC]
    | none =>
      simp [findR, hf, pairC]
      refine again_of 4 ⟨by omega, ?_⟩ (by omega) ?_
      · rw [← hR]
        simp [corners, holdR, hf]
      · simp [ropL]
def HoldR (l : List Rop) (wx wy : Spn) : PV := if ropedE l wx wy = 0 then (match holdR l (corners wx wy) with | .tup [a, b] => .tup [a, b, .v (.int .i64 0)] | x => x) else .tup [.v (.bool false), .agg (brkC (0, 0) (0, 0)), .v (.int .i64 (ropedE l wx wy))]
theorem holdR_form (l : List Rop) : ∀ fs, ∃ b f d, holdR l fs = .tup [.v (.bool b), .agg (brkC f d)]
  | [] => ⟨_, _, _, rfl⟩
  | f :: fs => by
    unfold holdR
    split
    · exact ⟨_, _, _, rfl⟩
    · exact holdR_form l fs
theorem Hold_spec (l : List Rop) (wx wy : Spn) (hl : l.length ≤ 9223372036854775807) : Spec Tryz.prog 10 [ropL l, .agg [.v (.int .i64 wx.low), .v (.int .i64 wx.high), .v (.int .i64 wy.low), .v (.int .i64 wy.high)]] (HoldR l wx wy) := by
  refine spec_of mixed Tryz.func10 (by decide) rfl Tryz.results10 Tryz.ntmps10 (by decide) 0 (by simp) ?_
  simp [ropL]
  refine pop_spec (roped_spec l wx wy hl) rfl false (.inl (by simp [ropL])) (.inl rfl) rfl (by simp) ?_
  by_cases he : ropedE l wx wy = 0
  · have hle : l.length ≤ 8 ∧ (ropesB l = true ∧ spanB wx (-1000000) 1000000 = true) ∧ spanB wy (-1000000) 1000000 = true := by
      unfold ropedE at he
      split at he
      · omega
      · split at he
        · rename_i h1 h2
          simp only [Bool.and_eq_true] at h2
          exact ⟨by omega, h2⟩
        · omega
    have sx := spanB_spec.1 hle.2.1.2
    have sy := spanB_spec.1 hle.2.2
    obtain ⟨b, f, d, hR⟩ := holdR_form l (corners wx wy)
    simp [he]
    refine pop_spec (hold_spec l wx wy (ropesB_iff.1 hle.2.1.1) hle.1 ⟨by simp only [Small]; omega, by simp only [Small]; omega⟩ ⟨by simp only [Small]; omega, by simp only [Small]; omega⟩) rfl false (.inl (by simp [ropL])) (.inl rfl) (by rw [hR]; rfl) (by rw [hR]; simp [brkC]) ?_
    rw [hR]
    simp [brkC]
    refine pwp_draw 3 (by decide) ?_
    simp
    refine ⟨by decide, ?_⟩
    refine answers_of (x := .tup [.v (.bool b), .agg (brkC f d), .v (.int .i64 0)]) (by simp [brkC]) ?_
    simp [HoldR, he, hR, brkC]
  · simp [he]
    refine answers_of (x := .tup [.v (.bool false), .agg (brkC (0, 0) (0, 0)), .v (.int .i64 (ropedE l wx wy))]) (by simp [brkC]) ?_
    simp [HoldR, he, brkC]
end Go.Qg


namespace Go.Qg
open Go.Proofs
set_option maxRecDepth 100000
set_option maxHeartbeats 32000000
attribute [local irreducible] pwp pops pdraw pop popCall pdCall thenP blockP scopeP pspec Spec answers ppost CallW rend
theorem t1in_spec (n lo hi : Int) : Spec Tryz.prog 45 [.v (.int .i64 n), .v (.int .i64 lo), .v (.int .i64 hi)] (.v (.bool (inB n lo hi))) := by
  refine spec_of mixed Tryz.func45 (by decide) rfl Tryz.results45 Tryz.ntmps45 (by decide) 0 (by simp) ?_
  by_cases h1 : lo ≤ n
  · by_cases h2 : n ≤ hi <;> (simp [h1, h2]; refine answers_of rfl ?_; simp [inB, h1, h2])
  · simp [h1]; refine answers_of rfl ?_; simp [inB, h1]
theorem t6in_spec (n lo hi : Int) : Spec Tryz.prog 29 [.v (.int .i64 n), .v (.int .i64 lo), .v (.int .i64 hi)] (.v (.bool (inB n lo hi))) := by
  refine spec_of mixed Tryz.func29 (by decide) rfl Tryz.results29 Tryz.ntmps29 (by decide) 0 (by simp) ?_
  by_cases h1 : lo ≤ n
  · by_cases h2 : n ≤ hi <;> (simp [h1, h2]; refine answers_of rfl ?_; simp [inB, h1, h2])
  · simp [h1]; refine answers_of rfl ?_; simp [inB, h1]
theorem t1Span_spec (s : Spn) (lo hi : Int) : Spec Tryz.prog 49 [.agg s.cells, .v (.int .i64 lo), .v (.int .i64 hi)] (.v (.bool (spanB s lo hi))) := by
  refine spec_of mixed Tryz.func49 (by decide) rfl Tryz.results49 Tryz.ntmps49 (by decide) 0 (by simp) ?_
  simp [Spn.cells]
  by_cases h1 : lo ≤ s.low
  · by_cases h2 : s.low ≤ s.high
    · by_cases h3 : s.high ≤ hi <;> (simp [h1, h2, h3]; refine answers_of rfl ?_; simp [spanB, h1, h2, h3])
    · simp [h1, h2, Int.not_le.1 h2]
      refine answers_of rfl ?_; simp [spanB, h1, h2]
  · simp [h1, Int.not_le.1 h1]; refine answers_of rfl ?_; simp [spanB, h1]
theorem t1Gauge_spec (g : Gge) (hl : g.readings.length ≤ 9223372036854775807) : Spec Tryz.prog 99 [.agg g.cells] (.v (.bool (gaugeB g))) := by
  refine spec_of mixed Tryz.func99 (by decide) rfl Tryz.results99 Tryz.ntmps99 (by decide) 0 (by simp) ?_
  simp [Gge.cells, rdgL]
  refine pwp_loop (fun k : Nat => [(3, .v (.int .i64 k))]) (fun k => k ≤ g.readings.length ∧ ∀ j, j < k → rdgB (rdgAt g.readings j) = true) (fun k => g.readings.length - k) 0 ⟨Nat.zero_le _, fun j hj => by omega⟩ (by simp; rfl) (by simp) ?_
  intro k ⟨hk, hp⟩
  by_cases hkl : k < g.readings.length
  · have fin : ∀ {b : Bool}, rdgB (rdgAt g.readings k) = b → b = false → gaugeB g = false := fun h1 h2 => by
      simp [gaugeB, allN_false (p := fun k => rdgB (rdgAt g.readings k)) hkl (h1.trans h2)]
    simp [hkl, Rdg.cells]
    refine pop_spec (t1in_spec (rdgAt g.readings k).minute 0 1440) rfl false (.inl (by simp)) (.inl rfl) rfl (by simp) ?_
    cases h1 : inB (rdgAt g.readings k).minute 0 1440 with
    | false => simp; refine answers_of rfl ?_; simp [fin (b := false) (by simp [rdgB, h1]) rfl]
    | true =>
    simp
    refine pop_spec (t1Span_spec ⟨(rdgAt g.readings k).low, (rdgAt g.readings k).high⟩ (-100000) 100000) rfl false (.inl (by simp [Spn.cells])) (.inl rfl) rfl (by simp) ?_
    cases h2 : spanB ⟨(rdgAt g.readings k).low, (rdgAt g.readings k).high⟩ (-100000) 100000 with
    | false => simp; refine answers_of rfl ?_; simp [fin (b := false) (by simp [rdgB, h1, h2]) rfl]
    | true =>
    simp
    refine pop_spec (t1in_spec (rdgAt g.readings k).source 0 7) rfl false (.inl (by simp)) (.inl rfl) rfl (by simp) ?_
    cases h3 : inB (rdgAt g.readings k).source 0 7 with
    | false => simp; refine answers_of rfl ?_; simp [fin (b := false) (by simp [rdgB, h1, h2, h3]) rfl]
    | true =>
    simp
    refine again_of (k + 1) ⟨by omega, fun j hj => ?_⟩ (by omega) ?_
    · rcases Nat.lt_succ_iff_lt_or_eq.1 hj with hj | rfl
      · exact hp j hj
      · simp [rdgB, h1, h2, h3]
    · simp [i64_wrap (show -9223372036854775808 ≤ (k : Int) + 1 ∧ _ from by omega)]
  · obtain rfl : k = g.readings.length := by omega
    have ha := allN_spec.2 hp
    simp
    refine pop_spec (t1in_spec g.rate 0 1000) rfl false (.inl (by simp)) (.inl rfl) rfl (by simp) ?_
    cases h1 : inB g.rate 0 1000 with
    | false => simp; refine answers_of rfl ?_; simp [gaugeB, h1]
    | true =>
    simp
    refine pop_spec (t1Span_spec ⟨g.least, g.most⟩ (-100000) 100000) rfl false (.inl (by simp [Spn.cells])) (.inl rfl) rfl (by simp) ?_
    cases h2 : spanB ⟨g.least, g.most⟩ (-100000) 100000 with
    | false => simp; refine answers_of rfl ?_; simp [gaugeB, h2]
    | true =>
    simp
    refine answers_of rfl ?_; simp [gaugeB, h1, h2, ha]; omega
def withinB (g : Gge) (lo hi : Int) : Bool := gaugeB g && decide (lo ≤ g.least) && decide (g.most ≤ hi)
theorem t1within_spec (g : Gge) (lo hi : Int) (hl : g.readings.length ≤ 9223372036854775807) : Spec Tryz.prog 28 [.agg g.cells, .v (.int .i64 lo), .v (.int .i64 hi)] (.v (.bool (withinB g lo hi))) := by
  refine spec_of mixed Tryz.func28 (by decide) rfl Tryz.results28 Tryz.ntmps28 (by decide) 0 (by simp) ?_
  simp [Gge.cells, rdgL]
  refine pop_spec (t1Gauge_spec g hl) rfl false (.inl (by simp [Gge.cells, rdgL])) (.inl rfl) rfl (by simp) ?_
  cases h1 : gaugeB g with
  | false => simp; refine answers_of rfl ?_; simp [withinB, h1]
  | true =>
  by_cases h2 : lo ≤ g.least
  · by_cases h3 : g.most ≤ hi <;> (simp [h2, h3]; refine answers_of rfl ?_; simp [withinB, h1, h2, h3])
  · simp [h2]; refine answers_of rfl ?_; simp [withinB, h2]
structure Wth where
  tide : Gge
  east : Gge
  north : Gge
  wave : Gge
  swell : Gge
  deriving Inhabited
def Wth.cells (w : Wth) : List PV := wthC w.tide w.east w.north w.wave w.swell
def WthMem (w : Wth) : Prop := w.tide.readings.length ≤ 9223372036854775807 ∧ w.east.readings.length ≤ 9223372036854775807 ∧ w.north.readings.length ≤ 9223372036854775807 ∧ w.wave.readings.length ≤ 9223372036854775807 ∧ w.swell.readings.length ≤ 9223372036854775807
def weatherB (w : Wth) : Bool := withinB w.tide (-2000) 2000 && withinB w.east (-300) 300 && withinB w.north (-300) 300 && withinB w.wave 0 2000 && withinB w.swell 0 2000
theorem t1Weather_spec (w : Wth) (hw : WthMem w) : Spec Tryz.prog 6 [.agg w.cells] (.v (.bool (weatherB w))) := by
  obtain ⟨m1, m2, m3, m4, m5⟩ := hw
  refine spec_of mixed Tryz.func6 (by decide) rfl Tryz.results6 Tryz.ntmps6 (by decide) 0 (by simp) ?_
  simp [Wth.cells, wthC, rdgL]
  refine pop_spec (t1within_spec w.tide (-2000) 2000 m1) rfl false (.inl (by simp [Gge.cells, rdgL])) (.inl rfl) rfl (by simp) ?_
  cases h1 : withinB w.tide (-2000) 2000 with
  | false => simp; refine answers_of rfl ?_; simp [weatherB, h1]
  | true =>
  simp
  refine pop_spec (t1within_spec w.east (-300) 300 m2) rfl false (.inl (by simp [Gge.cells, rdgL])) (.inl rfl) rfl (by simp) ?_
  cases h2 : withinB w.east (-300) 300 with
  | false => simp; refine answers_of rfl ?_; simp [weatherB, h2]
  | true =>
  simp
  refine pop_spec (t1within_spec w.north (-300) 300 m3) rfl false (.inl (by simp [Gge.cells, rdgL])) (.inl rfl) rfl (by simp) ?_
  cases h3 : withinB w.north (-300) 300 with
  | false => simp; refine answers_of rfl ?_; simp [weatherB, h3]
  | true =>
  simp
  refine pop_spec (t1within_spec w.wave 0 2000 m4) rfl false (.inl (by simp [Gge.cells, rdgL])) (.inl rfl) rfl (by simp) ?_
  cases h4 : withinB w.wave 0 2000 with
  | false => simp; refine answers_of rfl ?_; simp [weatherB, h4]
  | true =>
  simp
  refine pop_spec (t1within_spec w.swell 0 2000 m5) rfl false (.inl (by simp [Gge.cells, rdgL])) (.inl rfl) rfl (by simp) ?_
  simp
  refine answers_of rfl ?_; simp [weatherB, h1, h2, h3, h4]
theorem t6Ropes_spec (l : List Rop) (hl : l.length ≤ 8) : Spec Tryz.prog 7 [ropL l] (.v (.bool (ropesB l))) := by
  refine spec_of mixed Tryz.func7 (by decide) rfl Tryz.results7 Tryz.ntmps7 (by decide) 0 (by simp) ?_
  simp [ropL]
  refine pwp_loop (fun k : Nat => [(3, .v (.int .i64 k))]) (fun k => k ≤ l.length ∧ ∀ j, j < k → ropB (ropAt l j) = true) (fun k => l.length - k) 0 ⟨Nat.zero_le _, fun j hj => by omega⟩ (by simp; rfl) (by simp) ?_
  intro k ⟨hk, hp⟩
  by_cases hkl : k < l.length
  · have wk := i64_wrap (show -9223372036854775808 ≤ (k : Int) + 1 ∧ _ from by omega)
    have no : ropB (ropAt l k) = false → ropesB l = false := fun h => allN_false hkl h
    have go : ropB (ropAt l k) = true → ∀ i, i < k + 1 → ropB (ropAt l i) = true := fun hb i hi => by
      rcases Nat.lt_or_eq_of_le (Nat.le_of_lt_succ hi) with h' | rfl
      · exact hp i h'
      · exact hb
    simp [hkl, Rop.cells]
    refine pop_spec (t6in_spec (ropAt l k).x (-100) 100) rfl false (.inl (by simp)) (.inl rfl) rfl (by simp) ?_
    cases h1 : inB (ropAt l k).x (-100) 100 with
    | false => simp; refine answers_of rfl ?_; simp [no (by simp [ropB, h1])]
    | true =>
    simp
    refine pop_spec (t6in_spec (ropAt l k).y (-100) 100) rfl false (.inl (by simp)) (.inl rfl) rfl (by simp) ?_
    cases h2 : inB (ropAt l k).y (-100) 100 with
    | false => simp; refine answers_of rfl ?_; simp [no (by simp [ropB, h2])]
    | true =>
    by_cases h3 : (ropAt l k).x = 0 ∧ (ropAt l k).y = 0
    · simp [h3.1, h3.2]
      refine answers_of rfl ?_; simp [no (by simp [ropB, h3.1, h3.2])]
    · have h34 : (decide ((ropAt l k).x ≠ 0) || decide ((ropAt l k).y ≠ 0)) = true := by
        simp only [Bool.or_eq_true, decide_eq_true_eq]
        omega
      have fin : ∀ K : Bool, inB (ropAt l k).s 0 1000000 = K → ropB (ropAt l k) = K := fun K hK => by
        simp only [ropB, h1, h2, h34, hK, Bool.true_and]
      by_cases hx : (ropAt l k).x = 0
      · have hy : ¬ (ropAt l k).y = 0 := fun h => h3 ⟨hx, h⟩
        simp [hx, hy]
        refine pop_spec (t6in_spec (ropAt l k).s 0 1000000) rfl false (.inl (by simp)) (.inl rfl) rfl (by simp) ?_
        cases h5 : inB (ropAt l k).s 0 1000000 with
        | false => simp [hx, hy]; refine answers_of rfl ?_; simp [no (fin _ h5)]
        | true =>
          simp [hx, hy]
          refine again_of (k + 1) ⟨by omega, go (fin _ h5)⟩ (by omega) ?_
          simp [wk]
      · simp [hx]
        refine pop_spec (t6in_spec (ropAt l k).s 0 1000000) rfl false (.inl (by simp)) (.inl rfl) rfl (by simp) ?_
        cases h5 : inB (ropAt l k).s 0 1000000 with
        | false => simp [hx]; refine answers_of rfl ?_; simp [no (fin _ h5)]
        | true =>
          simp [hx]
          refine again_of (k + 1) ⟨by omega, go (fin _ h5)⟩ (by omega) ?_
          simp [wk]
  · obtain rfl : k = l.length := by omega
    simp
    refine answers_of rfl ?_
    simp [ropesB, allN_spec.2 hp]
theorem t6Pull_spec (l : List Rop) (d : Int × Int) (hl : ∀ r ∈ l, RopOk r) (hn : l.length ≤ 8) (h1 : Small 10000 d.1) (h2 : Small 10000 d.2) : Spec Tryz.prog 46 [ropL l, .v (.int .i64 d.1), .v (.int .i64 d.2)] (.v (.int .i64 (pullR l d))) := by
  refine spec_of mixed Tryz.func46 (by decide) rfl Tryz.results46 Tryz.ntmps46 (by decide) 0 (by simp) ?_
  simp [ropL]
  refine pwp_loop (fun k : Nat => [(7, .v (.int .i64 (pullR (l.take k) d))), (8, .v (.int .i64 k))]) (fun k => k ≤ l.length) (fun k => l.length - k) 0 (Nat.zero_le _) (by simp; rfl) (by simp [pullR]) ?_
  intro k hk
  by_cases hkl : k < l.length
  · have hr := hl _ (ropAt_mem hkl)
    have hd := dot_small h1 h2 hr
    have hp := pull_small h1 h2 hl hk
    have hp2 := pull_small h1 h2 hl (show k + 1 ≤ l.length from hkl)
    have e := pullR_append d (ropAt l k) (l.take k)
    rw [← rop_take hkl] at e
    have m1 := mul_small h1 (show Small 100 (ropAt l k).x from hr.1) (by omega) (by omega)
    have m2 := mul_small h2 (show Small 100 (ropAt l k).y from hr.2.1) (by omega) (by omega)
    have ed : d.1 * (ropAt l k).x + d.2 * (ropAt l k).y = dotR d (ropAt l k) := rfl
    simp only [Small] at hd m1 m2
    have hm : 0 ≤ max 0 (dotR d (ropAt l k)) ∧ max 0 (dotR d (ropAt l k)) ≤ 2000000 := by omega
    have h3 := Int.mul_nonneg hr.2.2.2.1 hm.1
    have h4 := Int.mul_le_mul hr.2.2.2.2 hm.2 hm.1 (by omega)
    have f1 : (if 0 < dotR d (ropAt l k) then dotR d (ropAt l k) else 0) = max 0 (dotR d (ropAt l k)) := by split <;> omega
    have w0 := i64_wrap (show -9223372036854775808 ≤ dotR d (ropAt l k) ∧ _ from by omega)
    simp [hkl, Rop.cells]
    refine pwp_draw 24 (by decide) ?_
    simp [hkl, Rop.cells, i64_wrap (show -9223372036854775808 ≤ d.1 * (ropAt l k).x ∧ _ from by omega), i64_wrap (show -9223372036854775808 ≤ d.2 * (ropAt l k).y ∧ _ from by omega), ed, w0, f1, i64_wrap (show -9223372036854775808 ≤ (ropAt l k).s * max 0 (dotR d (ropAt l k)) ∧ _ from by omega), i64_wrap (show -9223372036854775808 ≤ pullR (l.take k) d + (ropAt l k).s * max 0 (dotR d (ropAt l k)) ∧ _ from by omega)]
    refine ⟨by decide, ?_⟩
    refine again_of (k + 1) (by omega) (by omega) ?_
    simp [i64_wrap (show -9223372036854775808 ≤ (k : Int) + 1 ∧ _ from by omega), e]
  · obtain rfl : k = l.length := by omega
    simp
    refine answers_of rfl ?_; simp
theorem t6Fails_spec (l : List Rop) (f d : Int × Int) (hl : ∀ r ∈ l, RopOk r) (hn : l.length ≤ 8) (h1 : Small 10000 d.1) (h2 : Small 10000 d.2) (h3 : Small 1000000 f.1) (h4 : Small 1000000 f.2) :
    Spec Tryz.prog 12 [ropL l, .agg (brkC f d)] (.v (.bool (failB l f d))) := by
  have hp := t6Pull_spec l d hl hn h1 h2
  have m1 := mul_small h1 h3 (by omega) (by omega)
  have m2 := mul_small h2 h4 (by omega) (by omega)
  have e : failB l f d = decide (pullR l d < -(d.1 * f.1 + d.2 * f.2)) := by
    simp only [failB, leftR]
    refine decide_eq_decide.2 ?_
    omega
  simp only [Small] at m1 m2
  have w1 := i64_wrap (show -9223372036854775808 ≤ -(d.1 * f.1 + d.2 * f.2) ∧ _ from by omega)
  have w2 := i64_wrap (show -9223372036854775808 ≤ d.1 * f.1 + d.2 * f.2 ∧ _ from by omega)
  refine spec_of mixed Tryz.func12 (by decide) rfl Tryz.results12 Tryz.ntmps12 (by decide) 0 (by simp) ?_
  simp [brkC, ropL]
  refine pwp_draw 19 (by decide) ?_
  simp [i64_wrap (show -9223372036854775808 ≤ d.1 * f.1 ∧ _ from by omega), i64_wrap (show -9223372036854775808 ≤ d.2 * f.2 ∧ _ from by omega), w1, w2]
  refine pd_spec hp (by simp [ropL]) (by simp) (by simp [ropL]) rfl ?_
  simp
  refine ⟨by decide, ?_⟩
  refine answers_of rfl ?_
  simp [e]
end Go.Qg


namespace Go.Qg
open Go.Proofs
set_option maxRecDepth 100000
theorem lenOk {n : Nat} (h : n ≤ maxLen) : n ≤ 9223372036854775807 := h
def intOk (x : Int) : Prop := -9223372036854775808 ≤ x ∧ x ≤ 9223372036854775807
theorem intOk_of {x : Int} (h : IntKind.i64.min ≤ x ∧ x ≤ IntKind.i64.max) : intOk x := h
section
open Tryz
theorem t_int {n : Nat} {ps : List PV} (h : Typ Tryz.prog (n + 1) 3 ps) : ∃ x, ps = [.v (.int .i64 x)] ∧ intOk x := by
  simp only [Typ, Tryz.underlying3] at h
  obtain ⟨x, h1, h2⟩ := h
  exact ⟨x, h1, intOk_of h2⟩
theorem d_int {n : Nat} : tdef Tryz.prog (n + 1) 3 = [.v (.int .i64 0)] := by simp only [tdef, Tryz.underlying3]
theorem d_bool {n : Nat} : tdef Tryz.prog (n + 1) 4 = [.v (.bool false)] := by simp only [tdef, Tryz.underlying4]
theorem cells_int : Tryz.prog.cellsOf 3 = 1 := by kernel_rfl
theorem t_ints {n : Nat} {ps : List PV} (h : Typ Tryz.prog (n + 2) 28 ps) : ∃ l : List Int, ps = [ints l] ∧ l.length ≤ 9223372036854775807 ∧ ∀ x ∈ l, intOk x := by
  unfold Typ at h
  simp only [Tryz.underlying28, cells_int] at h
  obtain ⟨m, f, h1, h2, h3, h4⟩ := h
  obtain ⟨l, g1, g2, g3⟩ := sl_list (α := Int) (fun x => [.v (.int .i64 x)]) intOk (fun i hi => t_int (h3 i hi)) (fun i hi => (h4 i hi).trans d_int)
  refine ⟨l, ?_, lenOk (by omega), g3⟩
  rw [h1, g2, ← g1]; rfl
theorem d_ints {n : Nat} : tdef Tryz.prog (n + 2) 28 = [ints []] := by
  unfold tdef
  simp only [Tryz.underlying28, cells_int, d_int]; rfl
theorem a_int {n : Nat} {p : PV} (h : ArgP Tryz.prog (n + 1) 3 p) : ∃ x, p = .v (.int .i64 x) ∧ intOk x := by
  simp only [ArgP, Tryz.underlying3] at h
  simpa using t_int h
theorem a_ints {n : Nat} {p : PV} (h : ArgP Tryz.prog (n + 2) 28 p) : ∃ l : List Int, p = ints l ∧ l.length ≤ 9223372036854775807 ∧ ∀ x ∈ l, intOk x := by
  simp only [ArgP, Tryz.underlying28] at h
  simpa using t_ints h
theorem t_struct {P : Program} {n : Nat} {t : TypeId} {ps : List PV} {fs : Array Field} (hu : P.underlying t = some (.struct fs)) (h : Typ P (n + 1) t ps) : TypF (Typ P n) (fs.toList.map (·.type)) ps := by
  unfold Typ at h
  rw [hu] at h
  exact h
theorem a_struct {P : Program} {n : Nat} {t : TypeId} {p : PV} {fs : Array Field} (hu : P.underlying t = some (.struct fs)) (h : ArgP P n t p) : ∃ ps, p = .agg ps ∧ Typ P n t ps := by
  unfold ArgP at h
  rw [hu] at h
  exact h
theorem d_struct {P : Program} {n : Nat} {t : TypeId} {fs : Array Field} (hu : P.underlying t = some (.struct fs)) : tdef P (n + 1) t = (fs.toList.map fun f => tdef P n f.type).flatten := by
  simp only [tdef, hu]
theorem t_slice {P : Program} {n : Nat} {t e : TypeId} {ps : List PV} {c : Nat} (hu : P.underlying t = some (.slice e)) (hc : P.cellsOf e = c) (h : Typ P (n + 1) t ps) : ∃ (m : Nat) (f : Nat → List PV), ps = [.sl c m f] ∧ m ≤ 9223372036854775807 ∧ (∀ i, i < m → Typ P n e (f i)) ∧ ∀ i, m ≤ i → f i = tdef P n e := by
  unfold Typ at h
  rw [hu] at h
  obtain ⟨m, f, h1, h2, h3, h4⟩ := h
  exact ⟨m, f, by rw [h1, hc], lenOk h2, h3, h4⟩
theorem d_slice {P : Program} {n : Nat} {t e : TypeId} {c : Nat} (hu : P.underlying t = some (.slice e)) (hc : P.cellsOf e = c) : tdef P (n + 1) t = [.sl c 0 fun _ => tdef P n e] := by
  simp only [tdef, hu, hc]
theorem a_slice {P : Program} {n : Nat} {t e : TypeId} {p : PV} (hu : P.underlying t = some (.slice e)) (h : ArgP P n t p) : Typ P n t [p] := by
  unfold ArgP at h
  rw [hu] at h
  exact h
theorem t_spn {n : Nat} {ps : List PV} (h : Typ Tryz.prog (n + 2) 37 ps) : ∃ r : Spn, ps = r.cells ∧ intOk r.low ∧ intOk r.high := by
  obtain ⟨p0, q0, rfl, h0, p1, q1, rfl, h1, rfl⟩ := t_struct Tryz.underlying37 h
  obtain ⟨x0, rfl, k0⟩ := t_int h0
  obtain ⟨x1, rfl, k1⟩ := t_int h1
  exact ⟨⟨x0, x1⟩, rfl, k0, k1⟩
theorem d_spn {n : Nat} : tdef Tryz.prog (n + 2) 37 = (default : Spn).cells := by
  rw [d_struct Tryz.underlying37]; simp [d_int]; rfl
theorem t_rdg {n : Nat} {ps : List PV} (h : Typ Tryz.prog (n + 3) 126 ps) : ∃ r : Rdg, ps = r.cells ∧ True := by
  obtain ⟨p0, q0, rfl, h0, p1, q1, rfl, h1, p2, q2, rfl, h2, rfl⟩ := t_struct Tryz.underlying126 h
  obtain ⟨x0, rfl, k0⟩ := t_int h0
  obtain ⟨s, rfl, k1⟩ := t_spn h1
  obtain ⟨x2, rfl, k2⟩ := t_int h2
  exact ⟨⟨x0, s.low, s.high, x2⟩, rfl, trivial⟩
theorem d_rdg {n : Nat} : tdef Tryz.prog (n + 3) 126 = (default : Rdg).cells := by
  rw [d_struct Tryz.underlying126]; simp [d_int, d_spn]; rfl
theorem cells_rdg : Tryz.prog.cellsOf 126 = 4 := by kernel_rfl
theorem t_rdgs {n : Nat} {ps : List PV} (h : Typ Tryz.prog (n + 4) 22 ps) : ∃ l : List Rdg, ps = [rdgL l] ∧ l.length ≤ 9223372036854775807 := by
  obtain ⟨m, f, h1, h2, h3, h4⟩ := t_slice Tryz.underlying22 cells_rdg h
  obtain ⟨l, g1, g2, g3⟩ := sl_list Rdg.cells (fun _ => True) (fun i hi => t_rdg (h3 i hi)) (fun i hi => (h4 i hi).trans d_rdg)
  refine ⟨l, ?_, by omega⟩
  rw [h1, g2, ← g1]; rfl
theorem t_gge {n : Nat} {ps : List PV} (h : Typ Tryz.prog (n + 5) 24 ps) : ∃ g : Gge, ps = g.cells ∧ g.readings.length ≤ 9223372036854775807 := by
  obtain ⟨p0, q0, rfl, h0, p1, q1, rfl, h1, p2, q2, rfl, h2, p3, q3, rfl, h3, rfl⟩ := t_struct Tryz.underlying24 h
  obtain ⟨x0, rfl, k0⟩ := t_int h0
  obtain ⟨x1, rfl, k1⟩ := t_int h1
  obtain ⟨x2, rfl, k2⟩ := t_int h2
  obtain ⟨l, rfl, k3⟩ := t_rdgs h3
  exact ⟨⟨x0, x1, x2, l⟩, rfl, k3⟩
theorem t_wth {n : Nat} {ps : List PV} (h : Typ Tryz.prog (n + 6) 26 ps) : ∃ w : Wth, ps = w.cells ∧ WthMem w := by
  obtain ⟨p0, q0, rfl, h0, p1, q1, rfl, h1, p2, q2, rfl, h2, p3, q3, rfl, h3, p4, q4, rfl, h4, rfl⟩ := t_struct Tryz.underlying26 h
  obtain ⟨a, rfl, k0⟩ := t_gge h0
  obtain ⟨b, rfl, k1⟩ := t_gge h1
  obtain ⟨c, rfl, k2⟩ := t_gge h2
  obtain ⟨d, rfl, k3⟩ := t_gge h3
  obtain ⟨e, rfl, k4⟩ := t_gge h4
  exact ⟨⟨a, b, c, d, e⟩, by simp [Wth.cells, wthC, Gge.cells], k0, k1, k2, k3, k4⟩
theorem a_wth {n : Nat} {p : PV} (h : ArgP Tryz.prog (n + 6) 26 p) : ∃ w : Wth, p = .agg w.cells ∧ WthMem w := by
  obtain ⟨ps, rfl, g⟩ := a_struct Tryz.underlying26 h
  obtain ⟨r, rfl, k⟩ := t_wth g
  exact ⟨r, rfl, k⟩
theorem t_rop {n : Nat} {ps : List PV} (h : Typ Tryz.prog (n + 2) 94 ps) : ∃ r : Rop, ps = r.cells ∧ True := by
  obtain ⟨p0, q0, rfl, h0, p1, q1, rfl, h1, p2, q2, rfl, h2, rfl⟩ := t_struct Tryz.underlying94 h
  obtain ⟨x0, rfl, k0⟩ := t_int h0
  obtain ⟨x1, rfl, k1⟩ := t_int h1
  obtain ⟨x2, rfl, k2⟩ := t_int h2
  exact ⟨⟨x0, x1, x2⟩, rfl, trivial⟩
theorem d_rop {n : Nat} : tdef Tryz.prog (n + 2) 94 = (default : Rop).cells := by
  rw [d_struct Tryz.underlying94]; simp [d_int]; rfl
theorem cells_rop : Tryz.prog.cellsOf 94 = 3 := by kernel_rfl
theorem a_ropes {n : Nat} {p : PV} (h : ArgP Tryz.prog (n + 3) 27 p) : ∃ l : List Rop, p = ropL l ∧ l.length ≤ 9223372036854775807 := by
  obtain ⟨m, f, h1, h2, h3, h4⟩ := t_slice Tryz.underlying27 cells_rop (a_slice Tryz.underlying27 h)
  obtain ⟨l, g1, g2, g3⟩ := sl_list Rop.cells (fun _ => True) (fun i hi => t_rop (h3 i hi)) (fun i hi => (h4 i hi).trans d_rop)
  refine ⟨l, ?_, by omega⟩
  refine List.singleton_inj.1 ?_
  rw [h1, g2, ← g1]; rfl
end
theorem ownKnob_ : ownKnob Tryz.prog.godebug = none := by kernel_rfl
theorem laidOut_ : laidOutB Tryz.prog = true := by kernel_rfl
end Go.Qg


namespace Go.Qg
open Go.Proofs
set_option maxRecDepth 100000
set_option maxHeartbeats 32000000
attribute [local irreducible] pwp pops pdraw pop popCall pdCall thenP blockP scopeP pspec Spec answers ppost CallW rend
def stepB (g : Gge) (l : List Int) (i : Nat) : Bool := inB (geti l i) g.least g.most && (decide (i = 0) || inB (geti l i - geti l (i - 1)) (-g.rate) g.rate)
def readB (g : Gge) (l : List Int) (k : Nat) : Bool := inB (geti l (rdgAt g.readings k).minute.toNat) (rdgAt g.readings k).low (rdgAt g.readings k).high
def fitsB (g : Gge) (l : List Int) : Bool := decide (l.length = 1441) && allN l.length (stepB g l) && allN g.readings.length (readB g l)
theorem fitsB_R {g : Gge} {l : List Int} (h : fitsB g l = true) : FitsR g (geti l) := by
  simp only [fitsB, Bool.and_eq_true, decide_eq_true_eq, allN_spec, stepB, readB, inB_spec, Bool.or_eq_true] at h
  obtain ⟨⟨h1, h2⟩, h3⟩ := h
  refine ⟨fun i hi => (h2 i (by omega)).1, fun i hi => ?_, fun r hr => ?_⟩
  · have := (h2 (i + 1) (by omega)).2
    simp at this
    exact this
  · obtain ⟨k, hk, rfl⟩ := List.mem_iff_getElem.1 hr
    have := h3 k hk
    simpa [rdgAt, hk] using this
attribute [local simp 2000] List.getElem?_cons_succ List.getElem?_cons_zero
theorem t1Fits_spec (g : Gge) (l : List Int) (hg : GgeOk g) (hl : l.length ≤ 9223372036854775807) : Spec Tryz.prog 11 [.agg g.cells, ints l] (.v (.bool (fitsB g l))) := by
  have hn := hg.n
  refine spec_of mixed Tryz.func11 (by decide) rfl Tryz.results11 Tryz.ntmps11 (by decide) 0 (by simp) ?_
  simp [Gge.cells, rdgL, ints]
  by_cases h0 : l.length = 1441
  · simp [h0]
    refine pwp_loop (fun k : Nat => [(5, .v (.int .i64 k))]) (fun k => k ≤ 1441 ∧ ∀ j, j < k → stepB g l j = true) (fun k => 1441 - k) 0 ⟨Nat.zero_le _, fun j hj => by omega⟩ (by simp; rfl) (by simp) ?_
    intro k ⟨hk, hp⟩
    by_cases hkl : k < 1441
    · have wk := i64_wrap (show -9223372036854775808 ≤ (k : Int) + 1 ∧ _ from by omega)
      have go : stepB g l k = true → ∀ i, i < k + 1 → stepB g l i = true := fun hb i hi => by
        rcases Nat.lt_or_eq_of_le (Nat.le_of_lt_succ hi) with h' | rfl
        · exact hp i h'
        · exact hb
      have no : stepB g l k = false → fitsB g l = false := fun hb => by simp [fitsB, allN_false (show k < l.length by omega) hb]
      simp [show (k : Int) < 1441 from by omega]
      refine pwp_draw 33 (by decide) ?_
      simp [hkl, show (k : Int) < 1441 from by omega, show k ≤ 1440 from by omega]
      refine pd_spec (t1in_spec (geti l k) g.least g.most) (by simp) (by simp) (by simp) rfl ?_
      cases h1 : inB (geti l k) g.least g.most with
      | false =>
        simp
        refine ⟨by decide, ?_⟩
        refine answers_of rfl ?_; simp [no (by simp [stepB, h1])]
      | true =>
      by_cases hk0 : k = 0
      · subst hk0
        simp
        refine ⟨by decide, ?_⟩
        refine again_of 1 ⟨by omega, go (by simp [stepB, h1])⟩ (by omega) ?_
        simp
      · obtain ⟨j, rfl⟩ : ∃ j, k = j + 1 := ⟨k - 1, by omega⟩
        have hp1 := hp j (by omega)
        simp only [stepB, Bool.and_eq_true, inB_spec] at hp1
        have h1' := inB_spec.1 h1
        have hls := hg.least
        have hrt := hg.rate
        have wj := i64_wrap (show -9223372036854775808 ≤ (j : Int) ∧ _ from by omega)
        have wj2 := i64_wrap (show -9223372036854775808 ≤ (j : Int) + 1 + 1 ∧ _ from by omega)
        have w2 := i64_wrap (show -9223372036854775808 ≤ geti l (j + 1) - geti l j ∧ _ from by omega)
        have w3 := i64_wrap (show -9223372036854775808 ≤ -g.rate ∧ _ from by omega)
        have hst : stepB g l (j + 1) = (inB (geti l (j + 1)) g.least g.most && inB (geti l (j + 1) - geti l j) (-g.rate) g.rate) := by simp [stepB]
        simp (config := { maxSteps := 400000 }) [wj, show (0 : Int) < (j : Int) + 1 from by omega, show (0 : Int) ≤ (j : Int) + 1 from by omega, show (j : Int) + 1 < 1441 from by omega, show (j : Int) < 1441 from by omega, show j + 1 ≤ 1440 from by omega, show j + 1 < 1441 from hkl, show j ≤ 1440 from by omega, show j < 1441 from by omega, show j < 1440 from by omega, show ((j : Int) + 1).toNat = j + 1 from by omega, w2, w3]
        refine pd_spec (t1in_spec (geti l (j + 1) - geti l j) (-g.rate) g.rate) (by simp [w2, w3]) (by simp) (by simp) rfl ?_
        cases h2 : inB (geti l (j + 1) - geti l j) (-g.rate) g.rate with
        | false =>
          simp [show (0 : Int) < (j : Int) + 1 from by omega]
          refine ⟨by decide, ?_⟩
          refine answers_of rfl ?_; simp [no (by rw [hst, h2]; simp)]
        | true =>
          simp [show (0 : Int) < (j : Int) + 1 from by omega]
          refine ⟨by decide, ?_⟩
          refine again_of (j + 1 + 1) ⟨by omega, go (by rw [hst, h1, h2]; rfl)⟩ (by omega) ?_
          simp [wj2]
    · obtain rfl : k = 1441 := by omega
      have ha : allN l.length (stepB g l) = true := by rw [h0]; exact allN_spec.2 hp
      simp
      refine pwp_loop (fun k : Nat => [(6, .v (.int .i64 k))]) (fun k => k ≤ g.readings.length ∧ ∀ j, j < k → readB g l j = true) (fun k => g.readings.length - k) 0 ⟨Nat.zero_le _, fun j hj => by omega⟩ (by simp; rfl) (by simp) ?_
      intro k ⟨hk, hp⟩
      by_cases hkl : k < g.readings.length
      · have wk := i64_wrap (show -9223372036854775808 ≤ (k : Int) + 1 ∧ _ from by omega)
        have hr := (hg.rd k hkl).1
        simp [hkl, Rdg.cells]
        refine pwp_draw 13 (by decide) ?_
        simp [hr.1, show (rdgAt g.readings k).minute < 1441 from by omega]
        refine pd_spec (t1in_spec (geti l (rdgAt g.readings k).minute.toNat) (rdgAt g.readings k).low (rdgAt g.readings k).high) (by simp) (by simp) (by simp) rfl ?_
        cases h1 : inB (geti l (rdgAt g.readings k).minute.toNat) (rdgAt g.readings k).low (rdgAt g.readings k).high with
        | false =>
          simp
          refine ⟨by decide, ?_⟩
          refine answers_of rfl ?_
          simp [fitsB, allN_false hkl (show readB g l k = false from h1)]
        | true =>
          simp
          refine ⟨by decide, ?_⟩
          refine again_of (k + 1) ⟨by omega, fun j hj => ?_⟩ (by omega) ?_
          · rcases Nat.lt_succ_iff_lt_or_eq.1 hj with hj | rfl
            · exact hp j hj
            · exact h1
          · simp [wk]
      · obtain rfl : k = g.readings.length := by omega
        simp
        refine answers_of rfl ?_
        rw [show fitsB g l = true from by rw [fitsB, ha, allN_spec.2 hp, decide_eq_true h0]; rfl]
        simp
  · simp [show ¬ (l.length : Int) = 1441 from by omega]
    refine answers_of rfl ?_
    simp [fitsB, h0]
end Go.Qg


namespace Go.Qg
open Go.Proofs
set_option maxRecDepth 100000
set_option maxHeartbeats 64000000
theorem within_ok {g : Gge} {lo hi : Int} (h : withinB g lo hi = true) : GgeOk g ∧ lo ≤ g.least ∧ g.most ≤ hi := by
  simp only [withinB, Bool.and_eq_true, decide_eq_true_eq] at h
  exact ⟨gaugeB_iff.1 h.1.1, h.1.2, h.2⟩
theorem at_span300 {g : Gge} (hg : GgeOk g) (hlo : -300 ≤ g.least) (hhi : g.most ≤ 300) (hc : Clear g) (t : Int) : -300 ≤ atLo g t ∧ atLo g t ≤ atHi g t ∧ atHi g t ≤ 300 := by
  have h1 := at_span hc hg.rate.1 (by have := hg.least; omega) (fun r hr => by
    obtain ⟨k, hk, rfl⟩ := List.mem_iff_getElem.1 hr
    have := (hg.rd k hk).2.1
    simpa [rdgAt, hk] using this.2.1) t
  have h2 := atLo_ge g t
  have h3 := atHi_le g t
  omega
theorem moored_law {l : List Rop} {ge gn : Gge} {times : Int} {m : Nat} {east north : List Int} {x y : Int} {z : List PV} (hge : GgeOk ge) (hgn : GgeOk gn) (ht : 0 ≤ times) (hm : m < 1441)
    (hh : holdR l (corners ⟨times * atLo ge m, times * atHi ge m⟩ ⟨times * atLo gn m, times * atHi gn m⟩) = .tup (.v (.bool true) :: z)) (fe : fitsB ge east = true) (fn : fitsB gn north = true) :
    failB l (times * geti east m, times * geti north m) (x, y) = false := by
  have rdm : ∀ {g : Gge}, GgeOk g → ∀ r ∈ g.readings, 0 ≤ r.minute ∧ r.minute ≤ 1440 := fun hg r hr => by
    obtain ⟨k, hk, rfl⟩ := List.mem_iff_getElem.1 hr
    have := (hg.rd k hk).1
    simpa [rdgAt, hk] using this
  have e1 := fits_at (fitsB_R fe) (rdm hge) hm
  have e2 := fits_at (fitsB_R fn) (rdm hgn) hm
  have key : ∀ f ∈ corners ⟨times * atLo ge m, times * atHi ge m⟩ ⟨times * atLo gn m, times * atHi gn m⟩, ∀ d, 0 ≤ leftR l f d := fun f hf d => by
    have hd := holdR_yes hh f hf
    have ax : ∀ d ∈ axes, d ∈ dirsL l := fun d h => List.mem_append_right _ h
    refine left_all (fun r hr => ⟨hd _ (List.mem_append_left _ (List.mem_flatMap.2 ⟨r, hr, by simp [dir4]⟩)), hd _ (List.mem_append_left _ (List.mem_flatMap.2 ⟨r, hr, by simp [dir4]⟩))⟩)
      (hd _ (ax _ (by simp [axes]))) (hd _ (ax _ (by simp [axes]))) (hd _ (ax _ (by simp [axes]))) (hd _ (ax _ (by simp [axes]))) d
  have := left_box (all := l) (xl := times * atLo ge m) (xh := times * atHi ge m) (yl := times * atLo gn m) (yh := times * atHi gn m) key (f := (times * geti east m, times * geti north m))
    ⟨Int.mul_le_mul_of_nonneg_left e1.1 ht, Int.mul_le_mul_of_nonneg_left e1.2 ht⟩ ⟨Int.mul_le_mul_of_nonneg_left e2.1 ht, Int.mul_le_mul_of_nonneg_left e2.2 ht⟩ (x, y)
  simp only [failB, decide_eq_false_iff_not]
  omega
attribute [local irreducible] pwp pops pdraw pop popCall pdCall thenP blockP scopeP pspec Spec answers ppost CallW rend
attribute [local simp 2000] List.getElem?_cons_succ List.getElem?_cons_zero
theorem topMoored_spec (w : Wth) (l : List Rop) (times minute : Int) (east north : List Int) (x y : Int) (hw : WthMem w) (hl : l.length ≤ 9223372036854775807) (he : east.length ≤ 9223372036854775807) (hn : north.length ≤ 9223372036854775807) :
    Spec Tryz.prog 3 [.agg w.cells, ropL l, .v (.int .i64 times), .v (.int .i64 minute), ints east, ints north, .v (.int .i64 x), .v (.int .i64 y)] (.v (.bool true)) := by
  have kn := known11_spec
  refine spec_of mixed Tryz.func3 (by decide) rfl Tryz.results3 Tryz.ntmps3 (by decide) 0 (by simp) ?_
  simp [Wth.cells, wthC, rdgL, ropL, ints]
  refine pop_spec (t1Weather_spec w hw) rfl false (.inl (by simp [Wth.cells, wthC, rdgL])) (.inl rfl) rfl (by simp) ?_
  cases c1 : weatherB w with
  | false => (simp []; refine pop_spec kn rfl false (.inl (by simp)) (.inl rfl) rfl (by simp) ?_; simp; exact answers_of rfl (by simp))
  | true =>
  by_cases c2 : l.length ≤ 8
  rotate_left
  · (simp [show (8 : Int) < l.length from by omega]; refine pop_spec kn rfl false (.inl (by simp)) (.inl rfl) rfl (by simp) ?_; simp; exact answers_of rfl (by simp))
  simp [show (l.length : Int) ≤ 8 from by omega, show ¬ (8 : Int) < l.length from by omega]
  refine pop_spec (t6Ropes_spec l c2) rfl false (.inl (by simp [ropL])) (.inl rfl) rfl (by simp) ?_
  cases c3 : ropesB l with
  | false => (simp []; refine pop_spec kn rfl false (.inl (by simp)) (.inl rfl) rfl (by simp) ?_; simp; exact answers_of rfl (by simp))
  | true =>
  by_cases d0 : 0 ≤ times
  rotate_left
  · (simp [d0, show times < 0 from by omega]; refine pop_spec kn rfl false (.inl (by simp)) (.inl rfl) rfl (by simp) ?_; simp; exact answers_of rfl (by simp))
  by_cases d1 : times ≤ 1000
  rotate_left
  · (simp [d0, show ¬ times < 0 from by omega, d1, show 1000 < times from by omega]; refine pop_spec kn rfl false (.inl (by simp)) (.inl rfl) rfl (by simp) ?_; simp; exact answers_of rfl (by simp))
  by_cases d2 : 0 ≤ minute
  rotate_left
  · (simp [d0, show ¬ times < 0 from by omega, d1, show ¬ 1000 < times from by omega, d2, show minute < 0 from by omega]; refine pop_spec kn rfl false (.inl (by simp)) (.inl rfl) rfl (by simp) ?_; simp; exact answers_of rfl (by simp))
  by_cases d3 : minute ≤ 1440
  rotate_left
  · (simp [d0, show ¬ times < 0 from by omega, d1, show ¬ 1000 < times from by omega, d2, show ¬ minute < 0 from by omega, d3, show 1440 < minute from by omega]; refine pop_spec kn rfl false (.inl (by simp)) (.inl rfl) rfl (by simp) ?_; simp; exact answers_of rfl (by simp))
  by_cases d4 : (east.length : Int) ≤ 1500
  rotate_left
  · (simp [d0, show ¬ times < 0 from by omega, d1, show ¬ 1000 < times from by omega, d2, show ¬ minute < 0 from by omega, d3, show ¬ 1440 < minute from by omega, d4, show (1500 : Int) < east.length from by omega]; refine pop_spec kn rfl false (.inl (by simp)) (.inl rfl) rfl (by simp) ?_; simp; exact answers_of rfl (by simp))
  by_cases d5 : (north.length : Int) ≤ 1500
  rotate_left
  · (simp [d0, show ¬ times < 0 from by omega, d1, show ¬ 1000 < times from by omega, d2, show ¬ minute < 0 from by omega, d3, show ¬ 1440 < minute from by omega, d4, show ¬ (1500 : Int) < east.length from by omega, d5, show (1500 : Int) < north.length from by omega]; refine pop_spec kn rfl false (.inl (by simp)) (.inl rfl) rfl (by simp) ?_; simp; exact answers_of rfl (by simp))
  by_cases d6 : -10000 ≤ x
  rotate_left
  · (simp [d0, show ¬ times < 0 from by omega, d1, show ¬ 1000 < times from by omega, d2, show ¬ minute < 0 from by omega, d3, show ¬ 1440 < minute from by omega, d4, show ¬ (1500 : Int) < east.length from by omega, d5, show ¬ (1500 : Int) < north.length from by omega, d6, show x < -10000 from by omega]; refine pop_spec kn rfl false (.inl (by simp)) (.inl rfl) rfl (by simp) ?_; simp; exact answers_of rfl (by simp))
  by_cases d7 : x ≤ 10000
  rotate_left
  · (simp [d0, show ¬ times < 0 from by omega, d1, show ¬ 1000 < times from by omega, d2, show ¬ minute < 0 from by omega, d3, show ¬ 1440 < minute from by omega, d4, show ¬ (1500 : Int) < east.length from by omega, d5, show ¬ (1500 : Int) < north.length from by omega, d6, show ¬ x < -10000 from by omega, d7, show 10000 < x from by omega]; refine pop_spec kn rfl false (.inl (by simp)) (.inl rfl) rfl (by simp) ?_; simp; exact answers_of rfl (by simp))
  by_cases d8 : -10000 ≤ y
  rotate_left
  · (simp [d0, show ¬ times < 0 from by omega, d1, show ¬ 1000 < times from by omega, d2, show ¬ minute < 0 from by omega, d3, show ¬ 1440 < minute from by omega, d4, show ¬ (1500 : Int) < east.length from by omega, d5, show ¬ (1500 : Int) < north.length from by omega, d6, show ¬ x < -10000 from by omega, d7, show ¬ 10000 < x from by omega, d8, show y < -10000 from by omega]; refine pop_spec kn rfl false (.inl (by simp)) (.inl rfl) rfl (by simp) ?_; simp; exact answers_of rfl (by simp))
  by_cases d9 : y ≤ 10000
  rotate_left
  · (simp [d0, show ¬ times < 0 from by omega, d1, show ¬ 1000 < times from by omega, d2, show ¬ minute < 0 from by omega, d3, show ¬ 1440 < minute from by omega, d4, show ¬ (1500 : Int) < east.length from by omega, d5, show ¬ (1500 : Int) < north.length from by omega, d6, show ¬ x < -10000 from by omega, d7, show ¬ 10000 < x from by omega, d8, show ¬ y < -10000 from by omega, d9, show 10000 < y from by omega]; refine pop_spec kn rfl false (.inl (by simp)) (.inl rfl) rfl (by simp) ?_; simp; exact answers_of rfl (by simp))
  simp only [weatherB, Bool.and_eq_true] at c1
  obtain ⟨ge, ge1, ge2⟩ := within_ok c1.1.1.1.2
  obtain ⟨gn, gn1, gn2⟩ := within_ok c1.1.1.2
  have gbe := gaugeB_iff.2 ge
  have gbn := gaugeB_iff.2 gn
  have hbe := Bounds_spec w.east hw.2.1
  have hbn := Bounds_spec w.north hw.2.2.1
  rw [boundsR, if_pos gbe] at hbe
  rw [boundsR, if_pos gbn] at hbn
  have hr := ropesB_iff.1 c3
  simp [d0, show ¬ times < 0 from by omega, d1, show ¬ 1000 < times from by omega, d2, show ¬ minute < 0 from by omega, d3, show ¬ 1440 < minute from by omega, d4, show ¬ (1500 : Int) < east.length from by omega, d5, show ¬ (1500 : Int) < north.length from by omega, d6, show ¬ x < -10000 from by omega, d7, show ¬ 10000 < x from by omega, d8, show ¬ y < -10000 from by omega, d9, show ¬ 10000 < y from by omega]
  cases c4 : runsB w.east with
  | false =>
    rw [c4] at hbe
    simp only [Bool.false_eq_true, if_false] at hbe
    refine pop_spec hbe rfl false (.inl (by simp [Gge.cells, rdgL])) (.inl rfl) rfl (by simp) ?_
    simp
    cases c5 : runsB w.north with
    | false =>
      rw [c5] at hbn
      simp only [Bool.false_eq_true, if_false] at hbn
      refine pop_spec hbn rfl false (.inl (by simp [Gge.cells, rdgL])) (.inl rfl) rfl (by simp) ?_
      simp []
      refine pop_spec kn rfl false (.inl (by simp)) (.inl rfl) rfl (by simp) ?_
      simp
      exact answers_of rfl (by simp)
    | true =>
      rw [c5] at hbn
      simp only [if_true] at hbn
      refine pop_spec hbn rfl false (.inl (by simp [Gge.cells, rdgL])) (.inl rfl) rfl (by simp [spnL]) ?_
      simp [spnL]
      refine pop_spec kn rfl false (.inl (by simp)) (.inl rfl) rfl (by simp) ?_
      simp
      exact answers_of rfl (by simp)
  | true =>
  rw [c4] at hbe
  simp only [if_true] at hbe
  refine pop_spec hbe rfl false (.inl (by simp [Gge.cells, rdgL])) (.inl rfl) rfl (by simp [spnL]) ?_
  simp [spnL]
  cases c5 : runsB w.north with
  | false =>
    rw [c5] at hbn
    simp only [Bool.false_eq_true, if_false] at hbn
    refine pop_spec hbn rfl false (.inl (by simp [Gge.cells, rdgL])) (.inl rfl) rfl (by simp) ?_
    simp []
    refine pop_spec kn rfl false (.inl (by simp)) (.inl rfl) rfl (by simp) ?_
    simp
    exact answers_of rfl (by simp)
  | true =>
  rw [c5] at hbn
  simp only [if_true] at hbn
  have ce := runsB_iff.1 c4
  have cn := runsB_iff.1 c5
  obtain ⟨m, rfl⟩ : ∃ m : Nat, minute = m := ⟨minute.toNat, by omega⟩
  have hm : m < 1441 := by omega
  have se := at_span300 ge ge1 ge2 ce m
  have sn := at_span300 gn gn1 gn2 cn m
  have t4 : Small 1000 times := by simp only [Small]; omega
  have p1 := mul_small t4 (show Small 300 (atLo w.east m) from ⟨by omega, by omega⟩) (by omega) (by omega)
  have p2 := mul_small t4 (show Small 300 (atHi w.east m) from ⟨by omega, by omega⟩) (by omega) (by omega)
  have p3 := mul_small t4 (show Small 300 (atLo w.north m) from ⟨by omega, by omega⟩) (by omega) (by omega)
  have p4 := mul_small t4 (show Small 300 (atHi w.north m) from ⟨by omega, by omega⟩) (by omega) (by omega)
  have q1 := Int.mul_le_mul_of_nonneg_left se.2.1 d0
  have q2 := Int.mul_le_mul_of_nonneg_left sn.2.1 d0
  simp only [Small] at p1 p2 p3 p4
  have hrp : ropedE l ⟨times * atLo w.east m, times * atHi w.east m⟩ ⟨times * atLo w.north m, times * atHi w.north m⟩ = 0 := by
    have s1 : spanB ⟨times * atLo w.east m, times * atHi w.east m⟩ (-1000000) 1000000 = true := spanB_spec.2 (by simp only; omega)
    have s2 : spanB ⟨times * atLo w.north m, times * atHi w.north m⟩ (-1000000) 1000000 = true := spanB_spec.2 (by simp only; omega)
    rw [ropedE, if_neg (by omega), c3, s1, s2]
    rfl
  have hh := Hold_spec l ⟨times * atLo w.east m, times * atHi w.east m⟩ ⟨times * atLo w.north m, times * atHi w.north m⟩ hl
  rw [HoldR, if_pos hrp] at hh
  obtain ⟨b, f, d, hR⟩ := holdR_form l (corners ⟨times * atLo w.east m, times * atHi w.east m⟩ ⟨times * atLo w.north m, times * atHi w.north m⟩)
  have law := fun (e : b = true) fe fn => moored_law (l := l) (ge := w.east) (gn := w.north) (times := times) (m := m) (east := east) (north := north) (x := x) (y := y) (z := [.agg (brkC f d)]) ge gn d0 hm (by rw [hR, e]) fe fn
  rw [hR] at hh
  simp only at hh
  refine pop_spec hbn rfl false (.inl (by simp [Gge.cells, rdgL])) (.inl rfl) rfl (by simp [spnL]) ?_
  simp [spnL, show ¬ (1441 : Int) ≤ m from by omega, show (m : Int) < 1441 from by omega, show m < 1441 from hm]
  refine pwp_draw 32 (by decide) ?_
  have hce : (spnAt (boundsL w.east 1441) m).cells = [.v (.int .i64 (atLo w.east m)), .v (.int .i64 (atHi w.east m))] := by rw [boundsL_at hm]; rfl
  have hcn : (spnAt (boundsL w.north 1441) m).cells = [.v (.int .i64 (atLo w.north m)), .v (.int .i64 (atHi w.north m))] := by rw [boundsL_at hm]; rfl
  simp (config := { maxSteps := 4000000 }) [show (m : Int) < 1441 from by omega, show m ≤ 1440 from by omega, hm, hce, hcn, i64_wrap (show -9223372036854775808 ≤ times * atLo w.east m ∧ _ from by omega), i64_wrap (show -9223372036854775808 ≤ times * atHi w.east m ∧ _ from by omega), i64_wrap (show -9223372036854775808 ≤ times * atLo w.north m ∧ _ from by omega), i64_wrap (show -9223372036854775808 ≤ times * atHi w.north m ∧ _ from by omega)]
  refine ⟨by decide +kernel, ?_⟩
  first | simp | skip
  refine pop_spec hh rfl false (.inl (by simp [ropL])) (.inl rfl) rfl (by simp [brkC]) ?_
  simp [brkC]
  cases b with
  | false => (simp []; refine pop_spec kn rfl false (.inl (by simp)) (.inl rfl) rfl (by simp) ?_; simp; exact answers_of rfl (by simp))
  | true =>
  simp
  refine pop_spec (t1Fits_spec w.east east ge he) rfl false (.inl (by simp [Gge.cells, rdgL, ints])) (.inl rfl) rfl (by simp) ?_
  cases c6 : fitsB w.east east with
  | false => (simp []; refine pop_spec kn rfl false (.inl (by simp)) (.inl rfl) rfl (by simp) ?_; simp; exact answers_of rfl (by simp))
  | true =>
  simp
  refine pop_spec (t1Fits_spec w.north north gn hn) rfl false (.inl (by simp [Gge.cells, rdgL, ints])) (.inl rfl) rfl (by simp) ?_
  cases c7 : fitsB w.north north with
  | false => (simp []; refine pop_spec kn rfl false (.inl (by simp)) (.inl rfl) rfl (by simp) ?_; simp; exact answers_of rfl (by simp))
  | true =>
  have law := law rfl c6 c7
  have le : east.length = 1441 := by simp only [fitsB, Bool.and_eq_true, decide_eq_true_eq] at c6; exact c6.1.1
  have ln : north.length = 1441 := by simp only [fitsB, Bool.and_eq_true, decide_eq_true_eq] at c7; exact c7.1.1
  have be := (fitsB_R c6).bnd m hm
  have bn := (fitsB_R c7).bnd m hm
  have r1 := mul_small t4 (show Small 300 (geti east m) from ⟨by omega, by omega⟩) (by omega) (by omega)
  have r2 := mul_small t4 (show Small 300 (geti north m) from ⟨by omega, by omega⟩) (by omega) (by omega)
  have hf := t6Fails_spec l (times * geti east m, times * geti north m) (x, y) hr c2 (by simp only [Small]; omega) (by simp only [Small]; omega) (by simp only [Small] at *; omega) (by simp only [Small] at *; omega)
  rw [law] at hf
  simp only [Small] at r1 r2
  simp
  refine pwp_draw 21 (by decide) ?_
  simp [show (m : Int) < 1441 from by omega, hm, le, ln, i64_wrap (show -9223372036854775808 ≤ times * geti east m ∧ _ from by omega), i64_wrap (show -9223372036854775808 ≤ times * geti north m ∧ _ from by omega)]
  refine pd_spec hf (by simp [ropL, brkC]) (by simp) (by simp [ropL, brkC]) rfl ?_
  simp
  refine pd_spec kn (by simp) (by simp) (by simp) rfl ?_
  simp
  refine ⟨by decide +kernel, ?_⟩
  exact answers_of rfl (by simp)
end Go.Qg


namespace Go.Proofs.YtedglnagjjplbaaGreat.lawTopMoored
open Go.Qg Go.ChangeAt Go.RowKit
set_option maxRecDepth 100000
theorem spec (args : List PV) (hl : Tryz.f3.params.toList.length = args.length) (h : ∀ (j : Nat) t p, Tryz.f3.params.toList[j]? = some t → args[j]? = some p → ArgP Tryz.prog 6 t p) : Qg.Spec Tryz.prog 3 args (.v (.bool true)) := by
  rw [Tryz.params3] at hl h
  match args, hl with
  | [a0, a1, a2, a3, a4, a5, a6, a7], _ =>
    obtain ⟨w, rfl, hwm⟩ := a_wth (h 0 _ a0 rfl rfl)
    obtain ⟨rl, rfl, hrl⟩ := a_ropes (h 1 _ a1 rfl rfl)
    obtain ⟨ti, rfl, tiok⟩ := a_int (h 2 _ a2 rfl rfl)
    obtain ⟨mi, rfl, miok⟩ := a_int (h 3 _ a3 rfl rfl)
    obtain ⟨ea, rfl, ealen, eaok⟩ := a_ints (h 4 _ a4 rfl rfl)
    obtain ⟨no, rfl, nolen, nook⟩ := a_ints (h 5 _ a5 rfl rfl)
    obtain ⟨xx, rfl, xxok⟩ := a_int (h 6 _ a6 rfl rfl)
    obtain ⟨yy, rfl, yyok⟩ := a_int (h 7 _ a7 rfl rfl)
    exact topMoored_spec w rl ti mi ea no xx yy hwm hrl ealen nolen
theorem lifted (os : Os) (started : os.Started) (H : Type) (enc : TypeId × Value → H) :
    ReturnsInHanded {} Tryz.checked os 3 .any (Rows.topMooredSpec.pre6 enc Tryz.prog Tryz.f3 Rows.topMooredRow.domain false) (Rows.topMooredSpec.post enc Tryz.prog Tryz.f3 false true false false) := by
  refine law_lifted (C := Tryz.checked) 6 (tb := 4) ownKnob_ started (by kernel_rfl) Tryz.func3
    (ChangeSpec.witness6 (enc := enc) (C := Tryz.checked) false ⟨#[], #[.agg #[.int .i64 0, .int .i64 0, .int .i64 0, .slice none 0 0, .int .i64 0, .int .i64 0, .int .i64 0, .slice none 0 0, .int .i64 0, .int .i64 0, .int .i64 0, .slice none 0 0, .int .i64 0, .int .i64 0, .int .i64 0, .slice none 0 0, .int .i64 0, .int .i64 0, .int .i64 0, .slice none 0 0], .slice none 0 0, .int .i64 0, .int .i64 0, .slice none 0 0, .slice none 0 0, .int .i64 0, .int .i64 0], []⟩ 8 (by kernel_rfl) (by kernel_rfl) (by kernel_rfl) (by kernel_rfl)) laidOut_ rfl (by kernel_rfl) (by kernel_rfl) Tryz.underlying4 ?_ spec
  intro ds hds
  match ds, hds with
  | [_, _, _, _, _, _, _, _], _ => exact ⟨rfl, rfl, rfl⟩
theorem TopMoored_holds : Rows.TopMooredSaid :=
  OpenClaim.holds_of_wide 3 Tryz.f3 rfl rfl rfl rfl rfl rfl rfl ⟨rfl, rfl, rfl, rfl, rfl⟩ rfl rfl rfl rfl rfl (by kernel_rfl) Tryz.func3 (by kernel_rfl)
    (of_decide_eq_true (by kernel_rfl)) (by unfold Func.isWrapper; first | (rw [if_pos (by decide +kernel)]; kernel_rfl) | (rw [if_neg (by decide +kernel)]; exact ⟨rfl, rfl⟩))
    (fun os started H enc _ => lifted os started H enc)
end Go.Proofs.YtedglnagjjplbaaGreat.lawTopMoored

