/-
  Lemmas and contracts that hold of the whole program: 14 texts in one.
  No condition.
-/
import Derived.Test.YtnjhblcfjhpoiaaGreatDoorZYop2
import Derived.Lib.SplitLaws
set_option linter.all false

namespace Go.Qg
open Go.Proofs Go.RowKit Go.Lib
set_option maxRecDepth 100000
set_option maxHeartbeats 16000000
attribute [local irreducible] pwp pops pdraw pop popCall pdCall thenP blockP scopeP pspec Spec answers ppost CallW rend
theorem bytes_cons (c : UInt8) (l : List UInt8) : (⟨#[c]⟩ : ByteArray) ++ bytesOf l = bytesOf (c :: l) := by
  apply ByteArray.ext
  simp [bytesOf, ByteArray.data_append]
theorem one_size (c : UInt8) : (⟨#[c]⟩ : ByteArray).size = 1 := rfl
theorem lit_nil : (⟨#[]⟩ : ByteArray) = bytesOf [] := rfl
theorem lit_sp : (⟨#[32]⟩ : ByteArray) = bytesOf [32] := rfl
theorem digits_step {m : Nat} (h : 10 ≤ m) : Lib.decDigits m = Lib.decDigits (m / 10) ++ [UInt8.ofNat (48 + m % 10)] := by
  rw [Lib.decDigits, dif_neg (by omega)]
theorem digits_one {m : Nat} (h : m < 10) : Lib.decDigits m = [UInt8.ofNat (48 + m)] := by
  rw [Lib.decDigits, dif_pos h]
theorem u8_wrap {n : Int} (h : 0 ≤ n ∧ n ≤ 255) : IntKind.u8.wrap n = n := IntWalk.u8_in n h
theorem rDecimal_spec (u : Nat) (hu : u < 9223372036854775808) : Spec Tryz.prog 105 [.v (.int .i64 u)] (.v (.string (bytesOf (Lib.decDigits u)))) := by
  have hlen := digits_small 18 u (by omega)
  refine spec_of mixed Tryz.func105 (by decide) rfl Tryz.results105 Tryz.ntmps105 (by decide) 0 (by simp) ?_
  simp
  refine pwp_loop (fun s : Nat × List UInt8 => [(0, .v (.int .i64 s.1)), (3, .v (.string (bytesOf s.2)))]) (fun s => Lib.decDigits s.1 ++ s.2 = Lib.decDigits u ∧ s.1 ≤ u) (fun s => s.1) (u, []) ⟨by simp, Nat.le_refl _⟩ (by simp; rfl) (by simp [lit_nil]) ?_
  rintro ⟨m, s⟩ ⟨h1, h2⟩
  simp only at h1 h2
  have hs : s.length ≤ 19 := by
    have := congrArg List.length h1
    simp only [List.length_append] at this
    omega
  have e1 : ((m : Int)).tmod 10 = ((m % 10 : Nat) : Int) := by rw [Int.tmod_eq_emod_of_nonneg (by omega)]; omega
  have e2 : IntKind.i64.wrap ((m : Int).tdiv 10) = ((m / 10 : Nat) : Int) := by rw [Int.tdiv_eq_ediv_of_nonneg (by omega)]; rw [i64_wrap (by omega)]; omega
  by_cases hm : 10 ≤ m
  · have w1 : IntKind.i64.wrap (48 + ((m % 10 : Nat) : Int)) = ((48 + m % 10 : Nat) : Int) := by rw [i64_wrap (by omega)]; omega
    have w2 : IntKind.u8.wrap ((48 + m % 10 : Nat) : Int) = ((48 + m % 10 : Nat) : Int) := u8_wrap (by omega)
    have w3 : (((48 + m % 10 : Nat) : Int)).toNat = 48 + m % 10 := by omega
    simp [show (10 : Int) ≤ m from by omega, e1, e2, -Int.natCast_emod, -Int.natCast_add, w1, w2, w3, one_size, -UInt8.ofNat_add, bytes_cons, show 1 + s.length ≤ 9223372036854775807 from by omega, show s.length + 1 ≤ 9223372036854775807 from by omega]
    refine again_of (m / 10, UInt8.ofNat (48 + m % 10) :: s) ⟨?_, by simp only; omega⟩ (by simp only; omega) ?_
    · simp only
      rw [← h1, digits_step hm]; simp
    · have e3 := i64_wrap (show -9223372036854775808 ≤ (m : Int) / 10 ∧ _ from by omega)
      simp [e2, e3]
  · have w1 : IntKind.i64.wrap (48 + (m : Int)) = ((48 + m : Nat) : Int) := by rw [i64_wrap (by omega)]; omega
    have w2 : IntKind.u8.wrap ((48 + m : Nat) : Int) = ((48 + m : Nat) : Int) := u8_wrap (by omega)
    have w3 : (((48 + m : Nat) : Int)).toNat = 48 + m := by omega
    simp [show ¬ (10 : Int) ≤ m from by omega, -Int.natCast_add, w1, w2, w3, one_size, -UInt8.ofNat_add, bytes_cons, show 1 + s.length ≤ 9223372036854775807 from by omega, show s.length + 1 ≤ 9223372036854775807 from by omega]
    refine answers_of rfl ?_
    rw [← h1, digits_one (by omega)]
    simp
theorem rDecimal_itoa {n : Int} (h0 : 0 ≤ n) (h1 : n ≤ 9223372036854775807) : Spec Tryz.prog 105 [.v (.int .i64 n)] (.v (.string (bytesOf (Lib.itoa n)))) := by
  obtain ⟨u, rfl⟩ := Int.eq_ofNat_of_zero_le h0
  rw [Lib.itoa_nonneg]
  exact rDecimal_spec u (by omega)
theorem rline_spec (word : List UInt8) (l : List Int) (hw : word.length ≤ 1000000) (hl : l.length ≤ 1000) (hn : ∀ x ∈ l, 0 ≤ x ∧ x ≤ 1000000000000000) :
    Spec Tryz.prog 104 [.v (.string (bytesOf word)), ints l] (.tup [.v (.string (bytesOf (word ++ numsB l ++ [10]))), .v (.int .i64 (sumI l))]) := by
  have hnk : ∀ k, (numsB (l.take k)).length ≤ 22000 := fun k => by
    have h1 := numsB_len (l := l.take k) fun y hy => by have := hn y (mem_take_of hy); omega
    have h2 : (l.take k).length ≤ 1000 := by rw [List.length_take]; omega
    omega
  have hsk : ∀ k, 0 ≤ sumI (l.take k) ∧ sumI (l.take k) ≤ 1000000000000000 * (l.take k).length := fun k => sumI_bound fun y hy => hn y (mem_take_of hy)
  refine spec_of mixed Tryz.func104 (by decide) rfl Tryz.results104 Tryz.ntmps104 (by decide) 0 (by simp) ?_
  simp [ints]
  refine pwp_loop (fun k : Nat => [(0, .v (.string (bytesOf (word ++ numsB (l.take k))))), (6, .v (.int .i64 (sumI (l.take k)))), (7, .v (.int .i64 k))]) (fun k => k ≤ l.length) (fun k => l.length - k) 0 (Nat.zero_le _) (by simp; rfl) (by simp [numsB, sumI]) ?_
  intro k hk
  have b1 := hnk k
  have b2 := hsk k
  have b3 : (l.take k).length ≤ 1000 := by rw [List.length_take]; omega
  by_cases hkl : k < l.length
  · have wk := i64_wrap (show -9223372036854775808 ≤ (k : Int) + 1 ∧ _ from by omega)
    have hm : geti l k ∈ l := by simp [geti, hkl]
    have hg := hn _ hm
    have ws := i64_wrap (show -9223372036854775808 ≤ sumI (l.take k) + geti l k ∧ _ from by omega)
    have hD := rDecimal_itoa hg.1 (by omega)
    have hli := itoa_length_le (geti l k) (by omega) (by omega)
    have eT := numsB_take hkl
    have eS := sumI_take hkl
    simp [hkl]
    refine pwp_draw 16 (by decide) ?_
    simp [hkl, lit_sp, bytesOf_app, ws, show word.length + (numsB (l.take k)).length + 1 ≤ 9223372036854775807 from by omega, show word.length + ((numsB (l.take k)).length + 1) ≤ 9223372036854775807 from by omega]
    refine pd_spec hD (by simp) (by simp) (by simp) rfl ?_
    simp [hkl, lit_sp, bytesOf_app, ws, show word.length + (numsB (l.take k)).length + 1 + (Lib.itoa (geti l k)).length ≤ 9223372036854775807 from by omega, show word.length + ((numsB (l.take k)).length + 1) + (Lib.itoa (geti l k)).length ≤ 9223372036854775807 from by omega]
    refine ⟨by decide, ?_⟩
    refine again_of (k + 1) (by omega) (by omega) ?_
    simp [wk, eT, eS]
  · obtain rfl : k = l.length := by omega
    simp [lit_nl, bytesOf_app, show word.length + (numsB l).length + 1 ≤ 9223372036854775807 from by have := hnk l.length; simp at this; omega, show word.length + ((numsB l).length + 1) ≤ 9223372036854775807 from by have := hnk l.length; simp at this; omega]
    refine answers_of rfl ?_; simp
theorem lineR_len {ws : List ByteArray} {ns : List Int} {a : Nat} (hw : (joinB ws spB).length ≤ a) (hn : ∀ y ∈ ns, NumR y) : (lineB ws ns).length ≤ a + 22 * ns.length + 1 := by
  have := numsB_len (l := ns) fun y hy => by have := hn y hy; unfold NumR at this; omega
  simp only [lineB, List.length_append, List.length_cons, List.length_nil]
  have e : joinB ws (bytesOf [32]) = joinB ws spB := rfl
  rw [e]
  omega
theorem sumR_bound {l : List Int} (h : ∀ x ∈ l, NumR x) : 0 ≤ sumI l ∧ sumI l ≤ 10000000000 * l.length := sumI_bound fun y hy => by have := h y hy; unfold NumR at this; omega
theorem itemsR_bound {l : List Itm} {T : List UInt8} {x : Int} : ∀ k, (∀ j, j < k → ItmR (itmAt l j)) → (itemsTo l T k).length ≤ T.length + 100 * k ∧ x ≤ itemsSum l x k ∧ itemsSum l x k ≤ x + 30000000000 * k
  | 0, _ => by simp [itemsTo, itemsSum]
  | k + 1, h => by
    obtain ⟨h1, h2, h3⟩ := itemsR_bound (l := l) (T := T) (x := x) k fun j hj => h j (by omega)
    have hk := h k (by omega)
    have h4 := lineR_len (ws := [itemW]) (ns := itmN (itmAt l k)) (a := 4) (by rw [join_item]; simp) hk
    have h5 := sumR_bound (l := itmN (itmAt l k)) hk
    have h6 : (itmN (itmAt l k)).length = 3 := rfl
    rw [h6] at h4 h5
    simp only [itemsTo, itemsSum, List.length_append]
    push_cast
    omega
def cntTo (legs : List Leg) : Nat → Nat
  | 0 => 0
  | k + 1 => cntTo legs k + (1 + (legAt legs k).items.length)
theorem cntTo_le (legs : List Leg) {k n : Nat} (h : k ≤ n) : cntTo legs k ≤ cntTo legs n := by
  induction h with
  | refl => exact Nat.le_refl _
  | step _ ih => simp only [cntTo]; omega
theorem cntTo_ge (legs : List Leg) : ∀ n, n ≤ cntTo legs n
  | 0 => Nat.le_refl _
  | n + 1 => by have := cntTo_ge legs n; simp only [cntTo]; omega
theorem itmR_at {l : List Itm} (h : ∀ i ∈ l, ItmR i) {k : Nat} (hk : k < l.length) : ItmR (itmAt l k) := h _ (itmAt_mem hk)
theorem legR_at {l : List Leg} (h : ∀ i ∈ l, LegR i) {k : Nat} (hk : k < l.length) : LegR (legAt l k) := h _ (by simp [legAt, hk])
theorem legsR_bound {legs : List Leg} {T : List UInt8} {x : Int} : ∀ k, (∀ j, j < k → LegR (legAt legs j)) → (legsTo legs T k).length ≤ T.length + 200 * cntTo legs k ∧ x ≤ legsSum legs x k ∧ legsSum legs x k ≤ x + 60000000000 * cntTo legs k
  | 0, _ => by simp [legsTo, legsSum, cntTo]
  | k + 1, h => by
    obtain ⟨h1, h2, h3⟩ := legsR_bound (legs := legs) (T := T) (x := x) k fun j hj => h j (by omega)
    have hk := h k (by omega)
    have h4 := lineR_len (ws := legWs (legAt legs k)) (ns := legN (legAt legs k)) (a := 8) (by rw [join_leg]; omega) hk.n
    have h5 := sumR_bound (l := legN (legAt legs k)) hk.n
    have h6 : (legN (legAt legs k)).length = 6 := rfl
    rw [h6] at h4 h5
    obtain ⟨g1, g2, g3⟩ := itemsR_bound (l := (legAt legs k).items) (T := legsTo legs T k ++ lineB (legWs (legAt legs k)) (legN (legAt legs k))) (x := legsSum legs x k + sumI (legN (legAt legs k))) (legAt legs k).items.length fun j hj => itmR_at hk.i hj
    simp only [legsTo, legsSum, cntTo, List.length_append] at *
    push_cast
    omega
theorem rline_ws (ws : List ByteArray) (l : List Int) (w : ByteArray) (hw : w = bytesOf (joinB ws spB)) (hs : (joinB ws spB).length ≤ 1000) (hl : l.length ≤ 1000) (hn : ∀ x ∈ l, NumR x ∨ (0 ≤ x ∧ x ≤ 1000000000000000)) :
    Spec Tryz.prog 104 [.v (.string w), ints l] (.tup [.v (.string (bytesOf (lineB ws l))), .v (.int .i64 (sumI l))]) := by
  have h := rline_spec (joinB ws spB) l (by omega) hl fun x hx => by
    rcases hn x hx with h | h
    · unfold NumR at h; omega
    · exact h
  rw [hw]
  exact h
theorem rPrint_spec (fuel : Spn) (legs : List Leg) (hR : TripR fuel legs) (hc : cntTo legs legs.length ≤ 1000000) : Spec Tryz.prog 55 [.agg fuel.cells, legL legs] (.v (.string (bytesOf (printB fuel legs)))) := by
  have hn := cntTo_ge legs legs.length
  have hl0 := rline_ws [tripW] (headN fuel legs) ⟨#[116, 114, 105, 112]⟩ (by rw [join_trip]; rfl) (by rw [join_trip]; simp) (by simp [headN]) fun x hx => .inl (hR.n x hx)
  have hlen0 := lineR_len (ws := [tripW]) (ns := headN fuel legs) (a := 4) (by rw [join_trip]; simp) hR.n
  have hsum0 := sumR_bound (l := headN fuel legs) hR.n
  have hh3 : (headN fuel legs).length = 3 := rfl
  rw [hh3] at hlen0 hsum0
  refine spec_of mixed Tryz.func55 (by decide) rfl Tryz.results55 Tryz.ntmps55 (by decide) 0 (by simp) ?_
  simp [Spn.cells, legL]
  refine pop_specF [(23, ints (headN fuel legs))] ?_ hl0 rfl false (.inl ?_) (.inl rfl) rfl (by simp) ?_
  · simp [ints, headN]
    refine lt3 ?_ ?_ ?_ <;> simp [geti]
  · simp [ints, headN]
  simp
  refine pwp_loop (fun k : Nat => [(5, .v (.string (bytesOf (legsTo legs (lineB [tripW] (headN fuel legs)) k)))), (6, .v (.int .i64 (legsSum legs (sumI (headN fuel legs)) k))), (7, .v (.int .i64 k))]) (fun k => k ≤ legs.length) (fun k => legs.length - k) 0 (Nat.zero_le _) (by simp; rfl) (by simp [legsTo, legsSum, ints]) ?_
  intro k hk
  have hb := legsR_bound (legs := legs) (T := lineB [tripW] (headN fuel legs)) (x := sumI (headN fuel legs)) k fun j hj => legR_at hR.l (by omega)
  have hck := cntTo_le legs hk
  by_cases hkl : k < legs.length
  · have wk := i64_wrap (show -9223372036854775808 ≤ (k : Int) + 1 ∧ _ from by omega)
    have hN := legR_at hR.l hkl
    have hck1 := cntTo_le legs (show k + 1 ≤ legs.length from hkl)
    have hcs : cntTo legs (k + 1) = cntTo legs k + (1 + (legAt legs k).items.length) := rfl
    have eT : legsTo legs (lineB [tripW] (headN fuel legs)) (k + 1) = itemsTo (legAt legs k).items (legsTo legs (lineB [tripW] (headN fuel legs)) k ++ lineB (legWs (legAt legs k)) (legN (legAt legs k))) (legAt legs k).items.length := rfl
    have eS : legsSum legs (sumI (headN fuel legs)) (k + 1) = itemsSum (legAt legs k).items (legsSum legs (sumI (headN fuel legs)) k + sumI (legN (legAt legs k))) (legAt legs k).items.length := rfl
    generalize legsTo legs (lineB [tripW] (headN fuel legs)) k = T at *
    generalize legsSum legs (sumI (headN fuel legs)) k = X at *
    have hlen1 := lineR_len (ws := legWs (legAt legs k)) (ns := legN (legAt legs k)) (a := 8) (by rw [join_leg]; omega) hN.n
    have hsum1 := sumR_bound (l := legN (legAt legs k)) hN.n
    have hl6 : (legN (legAt legs k)).length = 6 := rfl
    rw [hl6] at hlen1 hsum1
    have hpp : ((legAt legs k).pump = true ∧ bytesOf (joinB (legWs (legAt legs k)) spB) = ⟨#[108, 101, 103, 32, 112, 117, 109, 112]⟩) ∨ ((legAt legs k).pump = false ∧ bytesOf (joinB (legWs (legAt legs k)) spB) = ⟨#[108, 101, 103, 32, 107, 101, 101, 112]⟩) := by
      cases h : (legAt legs k).pump
      · exact .inr ⟨rfl, by simp [legWs, h, joinB, legW, keepW, spB, Lib.join, List.intercalate, bytesOf]⟩
      · exact .inl ⟨rfl, by simp [legWs, h, joinB, legW, pumpW, spB, Lib.join, List.intercalate, bytesOf]⟩
    have wX := i64_wrap (show -9223372036854775808 ≤ X + sumI (legN (legAt legs k)) ∧ _ from by omega)
    simp [hkl, Leg.cells, itmL]
    rcases hpp with ⟨hp, hws⟩ | ⟨hp, hws⟩
    all_goals
      have hl1 := rline_ws (legWs (legAt legs k)) (legN (legAt legs k)) _ hws.symm (by rw [join_leg]; omega) (by simp [legN]) fun x hx => .inl (hN.n x hx)
      simp [hp]
      refine pop_specF [(58, ints (legN (legAt legs k)))] ?_ hl1 rfl false (.inl ?_) (.inl rfl) rfl (by simp) ?_
      · simp [ints, legN]
        refine lt6 ?_ ?_ ?_ ?_ ?_ ?_ <;> simp [geti]
      · simp [ints, legN]
      simp [bytesOf_app, wX, show T.length + (lineB (legWs (legAt legs k)) (legN (legAt legs k))).length ≤ 9223372036854775807 from by omega]
      generalize hT1 : T ++ lineB (legWs (legAt legs k)) (legN (legAt legs k)) = T1 at *
      generalize hX1 : X + sumI (legN (legAt legs k)) = X1 at *
      have hT1l : T1.length = T.length + (lineB (legWs (legAt legs k)) (legN (legAt legs k))).length := by rw [← hT1, List.length_append]
      refine pwp_loop (fun j : Nat => [(5, .v (.string (bytesOf (itemsTo (legAt legs k).items T1 j)))), (6, .v (.int .i64 (itemsSum (legAt legs k).items X1 j))), (12, .v (.int .i64 j))]) (fun j => j ≤ (legAt legs k).items.length) (fun j => (legAt legs k).items.length - j) 0 (Nat.zero_le _) (by simp; rfl) (by simp [itemsTo, itemsSum, ints]) ?_
      intro j hj
      have hbi := itemsR_bound (l := (legAt legs k).items) (T := T1) (x := X1) j fun i hi => itmR_at hN.i (by omega)
      by_cases hjl : j < (legAt legs k).items.length
      · have wj := i64_wrap (show -9223372036854775808 ≤ (j : Int) + 1 ∧ _ from by omega)
        have hNi := itmR_at hN.i hjl
        have eI : itemsTo (legAt legs k).items T1 (j + 1) = itemsTo (legAt legs k).items T1 j ++ lineB [itemW] (itmN (itmAt (legAt legs k).items j)) := rfl
        have eJ : itemsSum (legAt legs k).items X1 (j + 1) = itemsSum (legAt legs k).items X1 j + sumI (itmN (itmAt (legAt legs k).items j)) := rfl
        generalize itemsTo (legAt legs k).items T1 j = T2 at *
        generalize itemsSum (legAt legs k).items X1 j = X2 at *
        have hl2 := rline_ws [itemW] (itmN (itmAt (legAt legs k).items j)) ⟨#[105, 116, 101, 109]⟩ (by rw [join_item]; rfl) (by rw [join_item]; simp) (by simp [itmN]) fun x hx => .inl (hNi x hx)
        have hlen2 := lineR_len (ws := [itemW]) (ns := itmN (itmAt (legAt legs k).items j)) (a := 4) (by rw [join_item]; simp) hNi
        have hsum2 := sumR_bound (l := itmN (itmAt (legAt legs k).items j)) hNi
        have hl3 : (itmN (itmAt (legAt legs k).items j)).length = 3 := rfl
        rw [hl3] at hlen2 hsum2
        have wX2 := i64_wrap (show -9223372036854775808 ≤ X2 + sumI (itmN (itmAt (legAt legs k).items j)) ∧ _ from by omega)
        simp [hjl, Itm.cells]
        refine pop_specF [(89, ints (itmN (itmAt (legAt legs k).items j)))] ?_ hl2 rfl false (.inl ?_) (.inl rfl) rfl (by simp) ?_
        · simp [ints, itmN]
          refine lt3 ?_ ?_ ?_ <;> simp [geti]
        · simp [ints, itmN]
        simp [bytesOf_app, wX2, show T2.length + (lineB [itemW] (itmN (itmAt (legAt legs k).items j))).length ≤ 9223372036854775807 from by omega]
        refine again_of (j + 1) (by omega) (by omega) ?_
        simp [wj, eI, eJ, ints]
      · obtain rfl : j = (legAt legs k).items.length := by omega
        simp
        refine again_of (k + 1) (by omega) (by omega) ?_
        simp [wk, eT, eS, ints]
  · obtain rfl : k = legs.length := by omega
    have eB : printB fuel legs = legsTo legs (lineB [tripW] (headN fuel legs)) legs.length ++ lastB (legsSum legs (sumI (headN fuel legs)) legs.length) := rfl
    generalize legsTo legs (lineB [tripW] (headN fuel legs)) legs.length = T at *
    generalize legsSum legs (sumI (headN fuel legs)) legs.length = X at *
    have h1 : X.tmod 97 = X % 97 := Int.tmod_eq_emod_of_nonneg (by omega)
    have h2 : (X % 97).tdiv 10 = X % 97 / 10 := Int.tdiv_eq_ediv_of_nonneg (by omega)
    have h3 : (X % 97).tmod 10 = X % 97 % 10 := Int.tmod_eq_emod_of_nonneg (by omega)
    have i1 := rDecimal_itoa (n := X % 97 / 10) (by omega) (by omega)
    have i2 := rDecimal_itoa (n := X % 97 % 10) (by omega) (by omega)
    have l1 := itoa_length_le (X % 97 / 10) (by omega) (by omega)
    have l2 := itoa_length_le (X % 97 % 10) (by omega) (by omega)
    have w1 := i64_wrap (show -9223372036854775808 ≤ X % 97 / 10 ∧ _ from by omega)
    have hb : lastB X = [101, 110, 100, 32] ++ Lib.itoa (X % 97 / 10) ++ Lib.itoa (X % 97 % 10) ++ [10] := rfl
    rw [hb] at eB
    generalize Lib.itoa (X % 97 / 10) = A at *
    generalize Lib.itoa (X % 97 % 10) = B at *
    have s1 : ∀ n : Nat, n ≤ T.length + A.length + B.length + 10 → n ≤ 9223372036854775807 := fun n hn => by omega
    simp [h1, h2, h3, w1, lit_end, bytesOf_app, s1 (T.length + 4) (by omega)]
    refine pop_spec i1 rfl false (.inl (by simp)) (.inl rfl) rfl (by simp) ?_
    simp [h1, h2, h3, w1, lit_end, bytesOf_app, s1 (T.length + 4 + A.length) (by omega), s1 (T.length + (4 + A.length)) (by omega)]
    refine pop_spec i2 rfl false (.inl (by simp)) (.inl rfl) rfl (by simp) ?_
    simp [lit_nl, bytesOf_app, s1 (T.length + (A.length + 4) + B.length) (by omega), s1 (T.length + (4 + (A.length + B.length))) (by omega), s1 (T.length + (4 + A.length) + B.length) (by omega), show T.length + (A.length + B.length + 1 + 1 + 1 + 1) ≤ 9223372036854775806 from by omega]
    refine answers_of rfl ?_
    simp [eB]
end Go.Qg


namespace Go.Qg
open Go.Proofs Go.RowKit Go.Lib
set_option maxRecDepth 100000
set_option maxHeartbeats 16000000
attribute [local irreducible] pwp pops pdraw pop popCall pdCall thenP blockP scopeP pspec Spec answers ppost CallW rend
theorem bytesOf_extract (l : List UInt8) (a b : Nat) : (bytesOf l).extract a b = bytesOf ((l.take b).drop a) := by
  apply ByteArray.ext
  have : List.drop a (List.take (a + (b - a)) l) = List.drop a (List.take b l) := by
    by_cases h : a ≤ b
    · rw [show a + (b - a) = b from by omega]
    · rw [List.drop_eq_nil_of_le (by simp; omega), List.drop_eq_nil_of_le (by simp; omega)]
  simp [bytesOf, ByteArray.data_extract, List.extract, List.take_drop, this]
@[simp] theorem bytesOf_toList (l : List UInt8) : (bytesOf l).toList = l := ByteArray.toList_mk l
def strsB (l : List (List UInt8)) : PV := strsL (l.map bytesOf)
def rowsS (l : List (List UInt8)) : List (List PV) := l.map fun p => [.v (.string (bytesOf p))]
@[simp] theorem rowsS_length (l : List (List UInt8)) : (rowsS l).length = l.length := by simp [rowsS]
theorem rowsS_snoc (l : List (List UInt8)) (p : List UInt8) : rowsS l ++ [[.v (.string (bytesOf p))]] = rowsS (l ++ [p]) := by simp [rowsS]
@[simp] theorem rowsS_nil : rowsS [] = [] := rfl
@[simp] theorem rowsS_take (l : List (List UInt8)) (k : Nat) : (rowsS l).take k = rowsS (l.take k) := by simp [rowsS]
theorem rowsS_get {l : List (List UInt8)} {i : Nat} (h : i < l.length) : (rowsS l)[i]? = some [.v (.string (bytesOf (l.getD i [])))] := by simp [rowsS, List.getD, h]
@[simp] theorem rowsS_getElem {l : List (List UInt8)} {k : Nat} (h : k < (rowsS l).length) : (rowsS l)[k] = [.v (.string (bytesOf (l.getD k [])))] := by
  have h2 : k < l.length := by simpa using h
  simp [rowsS, List.getD, h2]
@[simp] theorem renLL_rowsS (π : Nat → Nat) (l : List (List UInt8)) : renLL π (rowsS l) = rowsS l := by
  induction l with
  | nil => rfl
  | cons p l ih => simpa [rowsS, renLL, renL, PV.ren] using ih
@[simp] theorem namesLL_rowsS (l : List (List UInt8)) : namesLL (rowsS l) = [] := by
  induction l with
  | nil => rfl
  | cons p l ih => simpa [rowsS, namesLL, namesL, PV.names] using ih
@[simp] theorem flatLL_rowsS (l : List (List UInt8)) : flatLL (rowsS l) = true := by
  induction l with
  | nil => rfl
  | cons p l ih => simpa [rowsS, flatLL, flatL, PV.flat] using ih
theorem bytesOf_inj {a b : List UInt8} : bytesOf a = bytesOf b ↔ a = b := by
  constructor
  · intro h
    have := congrArg (fun x : ByteArray => x.data.toList) h
    simpa using this
  · intro h; rw [h]
@[simp] theorem vwAllL_rowsS (f : PF) (T : Tgt) (d : Nat) (a b : List (List UInt8)) : vo.vwAllL f T (d + 1) (rowsS a) (rowsS b) = (a = b) := by
  induction a generalizing b with
  | nil => cases b <;> simp [rowsS, vo.vwAllL]
  | cons x a ih =>
    cases b with
    | nil => simp [rowsS, vo.vwAllL]
    | cons y b =>
      have := ih b
      simp only [rowsS] at this
      simp [rowsS, vo.vwAllL, this, bytesOf_inj]
@[simp] theorem rowsS_one {l : List (List UInt8)} : (∀ (x : List PV), x ∈ rowsS l → ∀ (y : PV), y ∈ x → y.one = true) ↔ True := by
  refine ⟨fun _ => trivial, fun _ x hx y hy => ?_⟩
  obtain ⟨p, _, rfl⟩ := List.mem_map.1 hx
  obtain rfl := List.mem_singleton.1 hy
  rfl
@[simp] theorem rowsS_len1 {l : List (List UInt8)} : (∀ (x : List PV), x ∈ rowsS l → x.length = 1) ↔ True := by
  refine ⟨fun _ => trivial, fun _ x hx => ?_⟩
  obtain ⟨p, _, rfl⟩ := List.mem_map.1 hx
  rfl
theorem strs_at (l : List (List UInt8)) (i : Nat) : (l.map bytesOf).getD i ByteArray.empty = bytesOf (l.getD i []) := by
  by_cases h : i < l.length
  · simp [List.getD, h]
  · simp [List.getD, h]; rfl
def splitAt (c : UInt8) (s : List UInt8) : Nat → List (List UInt8) × Nat
  | 0 => ([], 0)
  | i + 1 => if s.getD i 0 = c then ((splitAt c s i).1 ++ [(s.take i).drop (splitAt c s i).2], i + 1) else splitAt c s i
theorem splitAt_le (c : UInt8) (s : List UInt8) : ∀ i, (splitAt c s i).2 ≤ i ∧ (splitAt c s i).1.length ≤ i
  | 0 => by simp [splitAt]
  | i + 1 => by
    have := splitAt_le c s i
    simp only [splitAt]
    split
    · simp; omega
    · omega
theorem splitAt_parts (c : UInt8) (s : List UInt8) : ∀ i, i ≤ s.length → (splitAt c s i).1 ++ splL c (s.drop (splitAt c s i).2) = splL c s ∧ c ∉ (s.take i).drop (splitAt c s i).2
  | 0, _ => by simp [splitAt]
  | i + 1, h => by
    obtain ⟨h1, h2⟩ := splitAt_parts c s i (by omega)
    have hle := (splitAt_le c s i).1
    have hi : s.getD i 0 = s[i] := by simp [List.getD, show i < s.length from by omega]
    have hd : s.drop (splitAt c s i).2 = (s.take i).drop (splitAt c s i).2 ++ s.drop i := by
      have := List.take_append_drop (i - (splitAt c s i).2) (s.drop (splitAt c s i).2)
      rw [List.drop_drop, show (splitAt c s i).2 + (i - (splitAt c s i).2) = i from by omega] at this
      rw [← this, List.take_drop, show (splitAt c s i).2 + (i - (splitAt c s i).2) = i from by omega]
    have hc : s.drop i = s[i] :: s.drop (i + 1) := List.drop_eq_getElem_cons (by omega)
    simp only [splitAt]
    split
    · rename_i he
      rw [hi] at he
      refine ⟨?_, by simp⟩
      simp only
      rw [← h1, hd, hc, he, splL_app _ h2]
      simp
    · rename_i he
      rw [hi] at he
      refine ⟨h1, ?_⟩
      rw [List.take_add_one, List.drop_append_of_le_length (by simp; omega)]
      simp only [List.mem_append, not_or]
      refine ⟨h2, ?_⟩
      simp [show i < s.length from by omega]
      exact fun e => he e.symm
theorem splitAt_end (c : UInt8) (s : List UInt8) : (splitAt c s s.length).1 ++ [s.drop (splitAt c s s.length).2] = splL c s := by
  obtain ⟨h1, h2⟩ := splitAt_parts c s s.length (Nat.le_refl _)
  rw [List.take_length] at h2
  rw [← h1, splL_none h2]
theorem parts_len (c : UInt8) (s : List UInt8) : (splL c s).length ≤ s.length + 1 := by
  have := (splitAt_le c s s.length).2
  rw [← splitAt_end c s]
  simp; omega
theorem rSplit_spec (s : List UInt8) (c : UInt8) (hs : s.length ≤ 1000000) : Spec Tryz.prog 106 [.v (.string (bytesOf s)), .v (.int .u8 c.toNat)] (strsB (splL c s)) := by
  refine spec_of mixed Tryz.func106 (by decide) rfl Tryz.results106 Tryz.ntmps106 (by decide) 0 (by simp) ?_
  simp
  refine pwp_loop (fun i : Nat => [(5, .own 25 (splitAt c s i).1.length 0 (splitAt c s i).1.length false), (6, .v (.int .i64 (splitAt c s i).2)), (7, .v (.int .i64 i)), (25, .rows none (splitAt c s i).1.length 9 1 (rowsS (splitAt c s i).1))]) (fun i => i ≤ s.length) (fun i => s.length - i) 0 (Nat.zero_le _) (by simp; rfl) (by simp [splitAt]) ?_
  intro i hi
  have hle := splitAt_le c s i
  by_cases hil : i < s.length
  · have wi := i64_wrap (show -9223372036854775808 ≤ (i : Int) + 1 ∧ _ from by omega)
    have hcc : ((s[i]).toNat : Int) = c.toNat ↔ s[i] = c := by
      constructor
      · intro h; exact UInt8.toNat_inj.1 (by omega)
      · intro h; rw [h]
    have hgi : s.getD i 0 = s[i] := by simp [List.getD, hil]
    by_cases hc : s[i] = c
    · have e1 : (splitAt c s (i + 1)).1 = (splitAt c s i).1 ++ [(s.take i).drop (splitAt c s i).2] := by simp only [splitAt]; rw [if_pos (hgi.trans hc)]
      have e2 : (splitAt c s (i + 1)).2 = i + 1 := by simp only [splitAt]; rw [if_pos (hgi.trans hc)]
      have hi2 : ((splitAt c s i).2 : Int) ≤ i := by omega
      have hi3 : ((splitAt c s i).2 : Int) ≤ i ∧ (i : Int) ≤ s.length := by omega
      simp [hil, hcc.2 hc, hc, hi2, hi3, show i ≤ s.length from by omega, hle.1, bytesOf_extract, rowsS_snoc, show (splitAt c s i).1.length + 1 ≤ maxLen from by simp [maxLen]; omega, show ((splitAt c s i).1.length + 1) * 16 ≤ 140737488355328 from by omega]
      refine again_of (i + 1) (by omega) (by omega) ?_
      simp [wi, e1, e2, rowsS_snoc]
    · have e1 : splitAt c s (i + 1) = splitAt c s i := by simp only [splitAt]; rw [if_neg (hgi ▸ hc)]
      have hc2 : ¬ ((s[i]).toNat : Int) = c.toNat := fun h => hc (hcc.1 h)
      simp [hil, hc2, hc]
      refine again_of (i + 1) (by omega) (by omega) ?_
      simp [wi, e1]
  · obtain rfl : i = s.length := by omega
    have he := splitAt_end c s
    simp [hle.1, bytesOf_extract, rowsS_snoc, show (splitAt c s s.length).1.length + 1 ≤ maxLen from by simp [maxLen]; omega, show ((splitAt c s s.length).1.length + 1) * 16 ≤ 140737488355328 from by omega]
    refine answers_of rfl ?_
    have hl : (splitAt c s s.length).1.length + 1 = (splL c s).length := by rw [← he]; simp
    simp [strsB, strsL, he, hl]
    intro k hk
    rw [rowsS_get hk]
    simp [hk]
def digB (c : UInt8) : Bool := decide (48 ≤ c.toNat) && decide (c.toNat ≤ 57)
theorem snoc_cases {α : Type} {l : List α} {n : Nat} (h : l.length = n + 1) : ∃ r c, l = r ++ [c] ∧ r.length = n := by
  have hne : l ≠ [] := by intro e; rw [e] at h; simp at h
  exact ⟨l.dropLast, l.getLast hne, (List.dropLast_concat_getLast hne).symm, by simp [h]⟩
theorem valL_bound : ∀ (n : Nat) (l : List UInt8), l.length = n → (∀ c ∈ l, digB c = true) → valL l < 10 ^ n
  | 0, l, hl, _ => by rw [List.length_eq_zero_iff.1 hl]; simp [valL]
  | n + 1, l, hl, h => by
    obtain ⟨r, c, rfl, hr⟩ := snoc_cases hl
    have h1 := valL_bound n r hr fun x hx => h x (by simp [hx])
    have h2 := h c (by simp)
    simp only [digB, Bool.and_eq_true, decide_eq_true_eq] at h2
    rw [valL_snoc, Nat.pow_succ]
    omega
theorem itoa_dig {n : Int} (h0 : 0 ≤ n) : ∀ c ∈ Lib.itoa n, digB c = true := fun c hc => by
  have := itoa_digit h0 c hc
  simp [digB, this.1, this.2]
def rnumV (w : List UInt8) : Int := if w.length = 0 ∨ 10 < w.length ∨ w.all digB = false then 0 else valL w
theorem numW_rnum {w : List UInt8} {n : Int} (h : numW w = some n) : rnumV w = n := by
  obtain ⟨h0, h1, h2, h3⟩ := numW_iff.1 h
  have hd : w.all digB = true := by rw [← h3]; exact List.all_eq_true.2 (itoa_dig h0)
  have hn : w.length ≠ 0 := by
    intro e
    rw [List.length_eq_zero_iff.1 e] at h3
    obtain ⟨u, rfl⟩ := Int.eq_ofNat_of_zero_le h0
    rw [Lib.itoa_nonneg] at h3
    exact digits_ne u h3
  unfold rnumV
  rw [if_neg (by simp [hn, hd]; omega)]
  obtain ⟨u, rfl⟩ := Int.eq_ofNat_of_zero_le h0
  rw [Lib.itoa_nonneg] at h3
  rw [← h3, valL_digits u u (Nat.le_refl _)]
theorem numW_some {w : List UInt8} (h1 : ¬ w.length = 0) (h2 : w.length ≤ 10) (h3 : w.all digB = true) : (numW w).isSome = (Lib.decDigits (valL w) == w) := by
  have hb := valL_bound w.length w rfl (List.all_eq_true.1 h3)
  have hp : 10 ^ w.length ≤ 10 ^ 10 := Nat.pow_le_pow_right (by omega) h2
  by_cases he : Lib.decDigits (valL w) = w
  · have : numW w = some ((valL w : Nat) : Int) := numW_iff.2 ⟨by omega, by omega, h2, by rw [Lib.itoa_nonneg]; exact he⟩
    rw [this, he]; simp
  · cases hn : numW w with
    | none => simp [he]
    | some n =>
      obtain ⟨h0, _, _, h4⟩ := numW_iff.1 hn
      obtain ⟨u, rfl⟩ := Int.eq_ofNat_of_zero_le h0
      rw [Lib.itoa_nonneg] at h4
      have : valL w = u := by rw [← h4, valL_digits u u (Nat.le_refl _)]
      rw [this] at he
      exact absurd h4 he
theorem numW_nil {w : List UInt8} (h : w.length = 0 ∨ 10 < w.length ∨ w.all digB = false) : numW w = none := by
  cases hn : numW w with
  | none => rfl
  | some n =>
    obtain ⟨h0, h1, h2, h3⟩ := numW_iff.1 hn
    have hd : w.all digB = true := by rw [← h3]; exact List.all_eq_true.2 (itoa_dig h0)
    have hne : w.length ≠ 0 := by
      intro e
      rw [List.length_eq_zero_iff.1 e] at h3
      obtain ⟨u, rfl⟩ := Int.eq_ofNat_of_zero_le h0
      rw [Lib.itoa_nonneg] at h3
      exact digits_ne u h3
    rcases h with h | h | h
    · exact absurd h hne
    · omega
    · rw [hd] at h; cases h
theorem rnumber_spec (w : List UInt8) (hw : w.length ≤ 1000000) : Spec Tryz.prog 129 [.v (.string (bytesOf w))] (.tup [.v (.int .i64 (rnumV w)), .v (.bool (numW w).isSome)]) := by
  refine spec_of mixed Tryz.func129 (by decide) rfl Tryz.results129 Tryz.ntmps129 (by decide) 0 (by simp) ?_
  by_cases h1 : w.length = 0
  · have e : w = [] := List.length_eq_zero_iff.1 h1
    subst e
    simp
    refine answers_of rfl ?_
    simp [rnumV, numW_nil (w := []) (.inl rfl)]
  by_cases h2 : 10 < w.length
  · simp [h1, show ¬ (w.length : Int) = 0 from by omega, show (10 : Int) < w.length from by omega]
    refine answers_of rfl ?_
    simp [rnumV, numW_nil (.inr (.inl h2)), h2]
  simp [h1, show ¬ (w.length : Int) = 0 from by omega, show ¬ (10 : Int) < w.length from by omega]
  refine pwp_loop (fun i : Nat => [(4, .v (.int .i64 (valL (w.take i)))), (5, .v (.int .i64 i))]) (fun i => i ≤ w.length ∧ (w.take i).all digB = true) (fun i => w.length - i) 0 ⟨Nat.zero_le _, by simp⟩ (by simp; rfl) (by simp [valL]) ?_
  intro i ⟨hi, hd⟩
  have hb := valL_bound (w.take i).length (w.take i) rfl (List.all_eq_true.1 hd)
  have hp : 10 ^ (w.take i).length ≤ 10 ^ 10 := Nat.pow_le_pow_right (by omega) (by rw [List.length_take]; omega)
  by_cases hil : i < w.length
  · have wi := i64_wrap (show -9223372036854775808 ≤ (i : Int) + 1 ∧ _ from by omega)
    have et : w.take (i + 1) = w.take i ++ [w[i]] := by rw [List.take_add_one]; simp [hil]
    have hm : w[i] ∈ w := List.getElem_mem hil
    have hlt := (w[i]).toNat_lt
    cases hc : digB w[i] with
    | false =>
      have ha : w.all digB = false := by
        rw [List.all_eq_false]
        exact ⟨_, hm, by simp [hc]⟩
      simp only [digB, Bool.and_eq_false_iff, decide_eq_false_iff_not] at hc
      have hv : rnumV w = 0 := by simp [rnumV, ha]
      by_cases hlo : (w[i]).toNat < 48
      · simp [hil, show ((w[i]).toNat : Int) < 48 from by omega]
        refine answers_of rfl ?_
        simp [hv, numW_nil (.inr (.inr ha))]
      · simp [hil, show ¬ ((w[i]).toNat : Int) < 48 from by omega, show (57 : Int) < (w[i]).toNat from by omega]
        refine answers_of rfl ?_
        simp [hv, numW_nil (.inr (.inr ha))]
    | true =>
      have hd2 : (w.take (i + 1)).all digB = true := by rw [et]; simp only [List.all_append, hd, List.all_cons, hc, List.all_nil, Bool.and_self]
      simp only [digB, Bool.and_eq_true, decide_eq_true_eq] at hc
      have ev : valL (w.take (i + 1)) = valL (w.take i) * 10 + ((w[i]).toNat - 48) := by rw [et, valL_snoc]
      have k1 : IntKind.u8.wrap (((w[i]).toNat : Int) - 48) = (((w[i]).toNat - 48 : Nat) : Int) := by rw [u8_wrap (by omega)]; omega
      have k2 : IntKind.i64.wrap (10 * ((valL (w.take i) : Nat) : Int)) = 10 * ((valL (w.take i) : Nat) : Int) := i64_wrap (by omega)
      have k3 : IntKind.i64.wrap ((((w[i]).toNat - 48 : Nat) : Int)) = (((w[i]).toNat - 48 : Nat) : Int) := i64_wrap (by omega)
      have k4 : IntKind.i64.wrap (10 * ((valL (w.take i) : Nat) : Int) + (((w[i]).toNat - 48 : Nat) : Int)) = ((valL (w.take (i + 1)) : Nat) : Int) := by rw [ev, i64_wrap (by omega)]; push_cast; omega
      simp [hil, show ¬ ((w[i]).toNat : Int) < 48 from by omega, show ¬ (57 : Int) < (w[i]).toNat from by omega, k1, k2, k3, k4]
      refine again_of (i + 1) ⟨by omega, List.all_eq_true.1 hd2⟩ (by omega) ?_
      simp [wi]
  · obtain rfl : i = w.length := by omega
    rw [List.take_length] at hd hb hp
    have hD := rDecimal_spec (valL w) (by omega)
    have hs := numW_some h1 (by omega) hd
    have hv : rnumV w = valL w := by unfold rnumV; rw [if_neg (by simp [h1, hd]; omega)]
    simp
    refine pop_spec hD rfl false (.inl (by simp)) (.inl rfl) rfl (by simp) ?_
    simp
    refine answers_of rfl ?_
    simp [hv, hs]
theorem numsW_snoc (w : List UInt8) : ∀ a : List (List UInt8), numsW (a ++ [w]) = match numsW a, numW w with
    | some ns, some n => some (ns ++ [n])
    | _, _ => none
  | [] => by simp only [List.nil_append, numsW]; cases numW w <;> rfl
  | v :: a => by
    simp only [List.cons_append, numsW, numsW_snoc w a]
    cases numW v <;> cases numsW a <;> cases numW w <;> rfl
theorem numsW_none {a b : List (List UInt8)} (h : numsW a = none) : numsW (a ++ b) = none := by
  induction a with
  | nil => cases h
  | cons v a ih =>
    simp only [List.cons_append, numsW] at h ⊢
    cases hv : numW v with
    | none => rfl
    | some n =>
      rw [hv] at h
      cases ha : numsW a with
      | none => rw [ih ha]
      | some ns => rw [ha] at h; cases h
theorem numsW_len {a : List (List UInt8)} {ns : List Int} (h : numsW a = some ns) : ns.length = a.length := by
  have := congrArg List.length (numsW_iff.1 h).2
  simpa using this.symm
def rrV (r : Option (List Int)) : PV := ints (r.getD [])
theorem take_cut {L : List (List UInt8)} {i n : Nat} (h : i < L.length) (hn : n ≤ i) : (L.take (i + 1)).drop n = (L.take i).drop n ++ [L.getD i []] := by
  rw [List.take_add_one, List.drop_append_of_le_length (by simp; omega)]
  simp [h, List.getD]
theorem join_mem_len {c : UInt8} {p : List UInt8} : ∀ {ps : List (List UInt8)}, p ∈ ps → p.length ≤ (Lib.join ps [c]).length
  | [], h => by cases h
  | [q], h => by
    obtain rfl := List.mem_singleton.1 h
    rw [Lib.join_one]; exact Nat.le_refl _
  | q :: q' :: ps, h => by
    rw [join_two]
    simp only [List.length_append]
    rcases List.mem_cons.1 h with rfl | h
    · omega
    · have := join_mem_len (c := c) h
      omega
theorem rnumbers_spec (ws : List ByteArray) (many : Nat) (line : List UInt8) (hl : line.length ≤ 100000) (hws : ws.length ≤ 100) (hm : many ≤ 100) :
    Spec Tryz.prog 107 [.v (.string (bytesOf line)), strsL ws, .v (.int .i64 many)] (.tup [rrV (rrLine (listsOf ws) many line), .v (.bool (rrLine (listsOf ws) many line).isSome)]) := by
  have hS := rSplit_spec line 32 (by omega)
  have hwl : (listsOf ws).length = ws.length := by simp [listsOf]
  have hfree : ∀ p ∈ splL 32 line, p.length ≤ line.length := fun p hp => by
    have := join_mem_len (c := 32) hp
    rwa [join_parts] at this
  have hrr : rrLine (listsOf ws) many line = if (splL 32 line).length = ws.length + many ∧ (splL 32 line).take ws.length = listsOf ws then numsW ((splL 32 line).drop ws.length) else none := by
    unfold rrLine
    rw [hwl]
  have hlenP := parts_len 32 line
  generalize hrL : rrLine (listsOf ws) many line = rr at *
  generalize splL 32 line = L at *
  refine spec_of mixed Tryz.func107 (by decide) rfl Tryz.results107 Tryz.ntmps107 (by decide) 0 (by simp) ?_
  simp [strsL]
  refine pop_spec hS rfl false (.inl (by simp)) (.inl rfl) rfl (by simp [strsB, strsL]) ?_
  have wm := i64_wrap (show -9223372036854775808 ≤ (ws.length : Int) + many ∧ _ from by omega)
  by_cases h1 : L.length = ws.length + many
  case neg =>
    have hn : rr = none := by rw [hrr, if_neg (fun h => h1 h.1)]
    simp [strsB, strsL, wm, show ¬ (L.length : Int) = ws.length + many from by omega]
    refine answers_of rfl ?_
    simp [hn, rrV, ints]
  simp [strsB, strsL, wm, show (L.length : Int) = ws.length + many from by omega]
  refine pwp_loop (fun s : Nat × List Int => [(9, .own 54 s.2.length 0 s.2.length false), (10, .v (.int .i64 s.1)), (54, .rows none s.2.length 3 1 (rowsI s.2))]) (fun s => s.1 ≤ L.length ∧ (∀ j, j < s.1 → j < ws.length → L.getD j [] = (ws.getD j ByteArray.empty).data.toList) ∧ numsW ((L.take s.1).drop ws.length) = some s.2) (fun s => L.length - s.1) (0, []) ⟨Nat.zero_le _, fun j h => absurd h (Nat.not_lt_zero _), by simp [numsW]⟩ (by simp; rfl) (by simp) ?_
  rintro ⟨i, ns⟩ ⟨hi, hq, hns⟩
  simp only at hi hq hns
  have hnl := numsW_len hns
  have hnl2 : ns.length ≤ i := by rw [hnl]; simp; omega
  have hrr' : rr = if L.take ws.length = listsOf ws then numsW (L.drop ws.length) else none := by
    rw [hrr]
    by_cases h : L.take ws.length = listsOf ws
    · rw [if_pos ⟨h1, h⟩, if_pos h]
    · rw [if_neg (fun g => h g.2), if_neg h]
  by_cases hil : i < L.length
  · have wi := i64_wrap (show -9223372036854775808 ≤ (i : Int) + 1 ∧ _ from by omega)
    have hLi : L.getD i [] ∈ L := by simp [List.getD, hil]
    have hlw := hfree _ hLi
    have eL : (L.map bytesOf).getD i ByteArray.empty = bytesOf (L.getD i []) := strs_at L i
    by_cases hiw : i < ws.length
    · have hdr : (L.take (i + 1)).drop ws.length = (L.take i).drop ws.length := by rw [List.drop_eq_nil_of_le (by simp; omega), List.drop_eq_nil_of_le (by simp; omega)]
      have hwd : (ws[i]).toList = (ws[i]).data.toList := ByteArray.toList_eq _
      have g1 : L.getD i [] = L[i] := by simp [List.getD, hil]
      have g2 : ws.getD i ByteArray.empty = ws[i] := by simp [List.getD, hiw]
      simp [hil, hiw]
      refine pwp_draw 9 (by decide) ?_
      by_cases he : L[i] = (ws[i]).toList
      · simp [hil, hiw, he]
        refine ⟨by decide, ?_⟩
        refine again_of (i + 1, ns) ⟨by simp only; omega, fun j hj hjw => ?_, by simp only; rw [hdr]; exact hns⟩ (by simp only; omega) ?_
        · simp only at hj
          rcases Nat.lt_or_eq_of_le (Nat.le_of_lt_succ hj) with h' | rfl
          · exact hq j h' hjw
          · simp [hil, hiw, he, hwd]
        · simp [wi]
      · simp [hil, hiw, he]
        refine ⟨by decide, ?_⟩
        refine answers_of rfl ?_
        have : ¬ L.take ws.length = listsOf ws := fun h => he (by
          have := congrArg (fun l : List (List UInt8) => l[i]?) h
          simpa [List.getElem?_take, hiw, hil, listsOf, hwd] using this)
        rw [if_neg this] at hrr'
        simp [hrr', rrV, ints]
    · have hrn := rnumber_spec (L.getD i []) (by omega)
      have g1 : L.getD i [] = L[i] := by simp [List.getD, hil]
      rw [g1] at hrn
      have hcut := take_cut hil (show ws.length ≤ i by omega)
      rw [g1] at hcut
      have hsn := numsW_snoc L[i] ((L.take i).drop ws.length)
      rw [hns, ← hcut] at hsn
      simp [hil, show ¬ (i : Int) < ws.length from by omega, hiw]
      refine pop_spec hrn rfl false (.inl (by simp)) (.inl rfl) rfl (by simp) ?_
      cases hn : numW L[i] with
      | none =>
        rw [hn] at hsn
        have : numsW (L.drop ws.length) = none := by
          have h2 : L.drop ws.length = (L.take (i + 1)).drop ws.length ++ L.drop (i + 1) := by
            have := List.take_append_drop (i + 1 - ws.length) (L.drop ws.length)
            rw [List.drop_drop, show ws.length + (i + 1 - ws.length) = i + 1 from by omega] at this
            rw [← this, List.take_drop, show ws.length + (i + 1 - ws.length) = i + 1 from by omega]
          rw [h2]
          exact numsW_none hsn
        have hrn0 : rr = none := by
          rw [hrr']
          split
          · exact this
          · rfl
        simp
        refine answers_of rfl ?_
        simp [hrn0, rrV, ints]
      | some n =>
        rw [hn] at hsn
        have hv := numW_rnum hn
        simp [hv, rowsI_snoc, show (ns.length + 1) * 8 ≤ 140737488355328 from by omega, show ns.length + 1 ≤ maxLen from by simp [maxLen]; omega]
        refine again_of (i + 1, ns ++ [n]) ⟨by simp only; omega, fun j hj hjw => hq j (by simp only at hj; omega) hjw, hsn⟩ (by simp only; omega) ?_
        simp [wi, rowsI_snoc]
        rintro x (⟨a, _, rfl⟩ | rfl) y hy
        · obtain rfl := List.mem_singleton.1 hy
          rfl
        · obtain rfl := List.mem_singleton.1 hy
          rfl
  · obtain rfl : i = L.length := by omega
    rw [List.take_length] at hns
    have hw : L.take ws.length = listsOf ws := by
      refine List.ext_getElem? fun j => ?_
      by_cases hj : j < ws.length
      · have h2 := hq j (by omega) hj
        have hjL : j < L.length := by omega
        simp [List.getD, hj, hjL] at h2
        simp [List.getElem?_take, hj, hjL, listsOf, h2]
      · simp [List.getElem?_take, hj, listsOf, show ws.length ≤ j from by omega]
    rw [if_pos hw, hns] at hrr'
    simp
    refine answers_of rfl ?_
    simp [hrr', rrV, ints]
    intro k hk
    rw [rowsI_get hk]
    simp
end Go.Qg


namespace Go.Qg
open Go.Proofs Go.RowKit Go.Lib
set_option maxRecDepth 100000
theorem spec_of_below {P : Program} {f : FuncId} {ps : List PV} {r : PV} (hent : ∀ (vs : Array Value) (w : World), (callFunc f vs).run P w = .ok (.enter f vs) w)
    (h : ∀ (w : World) (vs : List Value) (R : Nat → Nat → Prop) (Γ : Nat → Option Loc) (Prot : Nat → Prop), tabOk Prot w → (∀ b o, R b o → b < w.heap.size) → vs.length = ps.length →
      (∀ (i : Nat) (u : Value) (p : PV), vs[i]? = some u → ps[i]? = some p → Rep w R Γ u p) → Calls P f vs.toArray w fun e w' => Below w.heap.size w w' ∧ ∃ u R', e = .returned u ∧ (∀ b o, R b o → R' b o) ∧ (∀ b o, R' b o → R b o ∨ (w.heap.size ≤ b ∧ b < w'.heap.size)) ∧ Rep w' R' Γ u r) : Spec P f ps r := by
  refine ⟨hent, fun w vs R Γ Prot hRp h0 hl hrep => (h w vs R Γ Prot h0.prot.tab h0.bnd hl hrep).mono ?_⟩
  rintro e w' ⟨hb, u, R', rfl, h1, h2, h3⟩
  exact ⟨R', Γ, .inl ⟨u, r, [], rfl, rfl, h3, h0.grown hb R' h1 h2, fun q hq => by cases hq⟩⟩
theorem rep_row {w' : World} {R : Nat → Nat → Prop} {Γ : Nat → Option Loc} {b n : Nat} {g : Nat → Value} (hg : ∀ i, (g i).oneCell' = true) (hn : n ≤ maxLen) (hc : ∀ i, i < n → w'.cell? ⟨b, i, none⟩ = some (g i)) :
    Rep w' (fun x o => R x o ∨ (x = b ∧ o < n)) Γ (.slice (some ⟨b, 0, none⟩) n n) (.sl 1 n fun i => [.v (g i)]) := by
  refine .sl (some ⟨b, 0, none⟩) n n 1 (fun i => [.v (g i)]) (fun i _ => g i) (Nat.le_refl _) hn (fun _ _ => rfl) (fun i j p _ hp => ?_) (fun i j hi hj => ⟨b, 0, rfl, .inr ⟨rfl, by omega⟩, ?_⟩) (fun i j p _ hp => ?_)
  · cases j with
    | zero => obtain rfl := Option.some.inj hp; exact ⟨rfl, rfl⟩
    | succ j => simp at hp
  · have : 0 + (i * 1 + j) = i := by omega
    rw [this]
    exact hc i hi
  · cases j with
    | zero => obtain rfl := Option.some.inj hp; exact .v _ (hg i)
    | succ j => simp at hp
end Go.Qg


namespace Go.Qg
open Go.Proofs Go.RowKit Go.Lib
set_option maxRecDepth 100000
set_option maxHeartbeats 4000000
theorem tab_cell {Prot : Nat → Prop} {w : World} (hT : tabOk Prot w) {g : Nat} {φ : Array Value → Prop} (h : (g, φ) ∈ seatTabs) {Q : Value → Prop} (hφ : ∀ cs, φ cs → ∃ v, cs[0]? = some v ∧ Q v) : ∃ v, w.cell? ⟨g, 0, none⟩ = some v ∧ Q v := by
  obtain ⟨_, cs, t, fz, h1, h2⟩ := hT g φ h
  obtain ⟨v, h3, h4⟩ := hφ cs h2
  exact ⟨v, by simp [World.cell?, h1, h3], h4⟩
theorem tab_maxLen {Prot : Nat → Prop} {w : World} (hT : tabOk Prot w) : ∃ m, w.cell? ⟨0, 0, none⟩ = some (.int .i64 m) := by
  obtain ⟨v, h1, m, rfl⟩ := tab_cell hT (g := 0) (φ := fun cs => ∃ m, cs[0]? = some (Value.int .i64 m)) (.tail _ (.head _)) (Q := fun v => ∃ m, v = .int .i64 m) (fun cs h => let ⟨m, hm⟩ := h; ⟨_, hm, m, rfl⟩)
  exact ⟨m, h1⟩
theorem tab_errSyntax {Prot : Nat → Prop} {w : World} (hT : tabOk Prot w) : ∃ t p, w.cell? ⟨2, 0, none⟩ = some (.iface t p) := by
  obtain ⟨v, h1, t, p, rfl⟩ := tab_cell hT (g := 2) (φ := fun cs => ∃ t p, cs[0]? = some (Value.iface t p)) (.tail _ (.tail _ (.head _))) (Q := fun v => ∃ t p, v = .iface t p) (fun cs h => let ⟨t, p, hm⟩ := h; ⟨_, hm, t, p, rfl⟩)
  exact ⟨t, p, h1⟩
theorem tab_errRange {Prot : Nat → Prop} {w : World} (hT : tabOk Prot w) : ∃ t p, w.cell? ⟨3, 0, none⟩ = some (.iface t p) := by
  obtain ⟨v, h1, t, p, rfl⟩ := tab_cell hT (g := 3) (φ := fun cs => ∃ t p, cs[0]? = some (Value.iface t p)) (.tail _ (.tail _ (.tail _ (.head _)))) (Q := fun v => ∃ t p, v = .iface t p) (fun cs h => let ⟨t, p, hm⟩ := h; ⟨_, hm, t, p, rfl⟩)
  exact ⟨t, p, h1⟩
theorem rep_three {w : World} {R : Nat → Nat → Prop} {Γ : Nat → Option Loc} {u v x : Value} {p q r : PV} (h : Rep w R Γ u p) (k : Rep w R Γ v q) (l : Rep w R Γ x r) : Rep w R Γ (.tuple #[u, v, x]) (.tup [p, q, r]) := by
  refine .tup [u, v, x] [p, q, r] rfl fun i y s hy hs => ?_
  match i, hy, hs with
  | 0, hy, hs => obtain rfl := Option.some.inj hy; obtain rfl := Option.some.inj hs; exact h
  | 1, hy, hs => obtain rfl := Option.some.inj hy; obtain rfl := Option.some.inj hs; exact k
  | 2, hy, hs => obtain rfl := Option.some.inj hy; obtain rfl := Option.some.inj hs; exact l
theorem cut_spec (s sep : List UInt8) (hs : s.length < 4294967281) :
    Spec Tryz.prog 151 [.v (.string (bytesOf s)), .v (.string (bytesOf sep))] (.tup [.v (.string (bytesOf (Lib.cut s sep).1)), .v (.string (bytesOf (Lib.cut s sep).2.1)), .v (.bool (Lib.cut s sep).2.2)]) := by
  refine spec_of_below (fun vs w => ?_) fun w vs R Γ Prot hT hb hl hrep => ?_
  · simp only [callFunc, Sem.run_bind, run_program, Result.andThen_ok, Tryz.func151, show (Tryz.f151.name == "runtime.NumGoroutine") = false from by decide]
    rfl
  match vs, hl with
  | [u0, u1], _ =>
    have k0 := hrep 0 u0 _ rfl rfl
    have k1 := hrep 1 u1 _ rfl rfl
    cases k0
    cases k1
    obtain ⟨m, hm⟩ := tab_maxLen hT
    refine (Tryz.strings_Cut (bytesOf s) (bytesOf sep) m w (by simpa using hs) hm).mono ?_
    rintro e w' ⟨rfl, n, rfl⟩
    simp only [bytesOf_list]
    exact ⟨⟨rfl, rfl, rfl, Nat.le_refl _, fun _ _ => rfl⟩, _, R, rfl, fun _ _ h => h, fun _ _ h => .inl h, rep_three (.v _ rfl) (.v _ rfl) (.v _ rfl)⟩
theorem split_spec (s : List UInt8) (c : UInt8) (hs : s.length < 1000000) :
    Spec Tryz.prog 152 [.v (.string (bytesOf s)), .v (.string (bytesOf [c]))] (strsB (splL c s)) := by
  refine spec_of_below (fun vs w => ?_) fun w vs R Γ Prot hT hb hl hrep => ?_
  · simp only [callFunc, Sem.run_bind, run_program, Result.andThen_ok, Tryz.func152, show (Tryz.f152.name == "runtime.NumGoroutine") = false from by decide]
    rfl
  match vs, hl with
  | [u0, u1], _ =>
    have k0 := hrep 0 u0 _ rfl rfl
    have k1 := hrep 1 u1 _ rfl rfl
    cases k0
    cases k1
    obtain ⟨m, hm⟩ := tab_maxLen hT
    refine (Tryz.strings_Split (bytesOf s) (bytesOf [c]) m w (by simp; omega) hm (by simp)).mono ?_
    rintro e w' ⟨rfl, rfl⟩
    have e1 := splitB_data (bytesOf [c]) 0 (countB (bytesOf s) (bytesOf [c])) (bytesOf s)
    have e2 : splitK [c] 0 (countB (bytesOf s) (bytesOf [c])) s = splL c s := by
      have := split_parts c s
      rw [Lib.split] at this
      rw [← this]
      congr 1
    simp only [bytesOf_list] at e1
    rw [e2] at e1
    generalize hB : splitB (bytesOf [c]) 0 (countB (bytesOf s) (bytesOf [c])) (bytesOf s) = B at *
    have hBl : B.length = (splL c s).length := by rw [← e1]; simp
    have hcl : countB (bytesOf s) (bytesOf [c]) + 1 = B.length := by rw [← hB]; exact (splitB_all (bytesOf [c]) (by simp) 0 _ _ rfl).symm
    have hBm : B = (splL c s).map bytesOf := by
      rw [← e1, List.map_map]
      conv => lhs; rw [← List.map_id B]
      exact List.map_congr_left fun x _ => by apply ByteArray.ext; simp [bytesOf]
    rw [hcl]
    have hpl := parts_len c s
    refine ⟨?_, _, fun x o => R x o ∨ (x = w.heap.size ∧ o < B.length), rfl, fun _ _ h => .inl h, fun b o h => h.imp_right fun h => ⟨by omega, ?_⟩, ?_⟩
    · exact Below.alloc (Below.refl _ _) (Nat.le_refl _) _
    · show b < (w.heap.push _).size
      rw [Array.size_push]; omega
    · have := rep_row (w' := w.alloc (.cells (B.map Value.string).toArray 9)) (R := R) (Γ := Γ) (b := w.heap.size) (n := B.length) (g := fun i => .string (B.getD i ByteArray.empty)) (fun _ => rfl) (by simp [maxLen]; omega) (fun i hi => ?_)
      · have e : strsB (splL c s) = .sl 1 B.length fun i => [.v (.string (B.getD i ByteArray.empty))] := by rw [strsB, ← hBm]; rfl
        rw [e]
        exact this
      · rw [World.cell?_alloc_new]
        simp [hi, List.getD]
theorem prefix_spec (s p : List UInt8) : Spec Tryz.prog 128 [.v (.string (bytesOf s)), .v (.string (bytesOf p))] (.v (.bool (Lib.hasPrefix s p))) := by
  refine spec_of_calls rfl (fun vs w => ?_) fun w vs R Γ Prot hT hb hl hrep => ?_
  · simp only [callFunc, Sem.run_bind, run_program, Result.andThen_ok, Tryz.func128, show (Tryz.f128.name == "runtime.NumGoroutine") = false from by decide]
    rfl
  match vs, hl with
  | [u0, u1], _ =>
    have k0 := hrep 0 u0 _ rfl rfl
    have k1 := hrep 1 u1 _ rfl rfl
    cases k0
    cases k1
    refine (Tryz.strings_HasPrefix (bytesOf s) (bytesOf p) w).mono ?_
    rintro e w' ⟨rfl, rfl⟩
    exact ⟨by simp only [bytesOf_list], Below.refl _ _⟩
def errP : PV := .ifc 243 .undef
theorem atoi_ok (s : List UInt8) (n : Int) (hs : s.length < 1000000) (h : Lib.atoiAll s = .ok n) : Spec Tryz.prog 153 [.v (.string (bytesOf s))] (.tup [.v (.int .i64 n), .v .nilIface]) := by
  refine spec_of_below (fun vs w => ?_) fun w vs R Γ Prot hT hb hl hrep => ?_
  · simp only [callFunc, Sem.run_bind, run_program, Result.andThen_ok, Tryz.func153, show (Tryz.f153.name == "runtime.NumGoroutine") = false from by decide]
    rfl
  match vs, hl with
  | [u0], _ =>
    have k0 := hrep 0 u0 _ rfl rfl
    cases k0
    refine (Tryz.strconv_Atoi_ok (bytesOf s) (by simp; omega) n (by simpa using h) w).mono ?_
    rintro e w' ⟨rfl, hw⟩
    have hbel : Below w.heap.size w w' := by
      rcases hw with rfl | ⟨t, rfl⟩
      · exact Below.refl _ _
      · exact Lib.bytesWorld_below _ _ _
    exact ⟨hbel, _, R, rfl, fun _ _ h => h, fun _ _ h => .inl h, rep_pair (.v _ rfl) (.v _ rfl)⟩
theorem atoi_err (s : List UInt8) (hs : s.length < 1000000) (h : ∀ n, Lib.atoiAll s ≠ .ok n) : ∃ n : Int, Spec Tryz.prog 153 [.v (.string (bytesOf s))] (.tup [.v (.int .i64 n), errP]) := by
  have ent : ∀ (vs : Array Value) (w : World), (callFunc 153 vs).run Tryz.prog w = .ok (.enter 153 vs) w := fun vs w => by
    simp only [callFunc, Sem.run_bind, run_program, Result.andThen_ok, Tryz.func153, show (Tryz.f153.name == "runtime.NumGoroutine") = false from by decide]
    rfl
  by_cases hA : Lib.atoiAll s = Lib.atoiAll []
  · skip
    refine ⟨0, spec_of_below ent fun w vs R Γ Prot hT hb hl hrep => ?_⟩
    match vs, hl with
    | [u0], _ =>
      have k0 := hrep 0 u0 _ rfl rfl
      cases k0
      obtain ⟨t, p, hv⟩ := tab_errSyntax hT
      refine (Tryz.strconv_Atoi_bad (bytesOf s) (by simp; omega) (by simpa using hA) _ w hv (.inr ⟨t, p, rfl⟩)).mono ?_
      rintro e w' ⟨N, rfl, _, _, hbel⟩
      exact ⟨hbel, _, R, rfl, fun _ _ h => h, fun _ _ h => .inl h, rep_pair (.v _ rfl) (.ifc _ _ _ (.undef _))⟩
  · have hA : Lib.atoiAll s = .range := by
      generalize Lib.atoiAll s = K at *
      cases K
      · exact absurd rfl (h _)
      · exact absurd rfl hA
      · rfl
    refine ⟨Lib.atoiSat s, spec_of_below ent fun w vs R Γ Prot hT hb hl hrep => ?_⟩
    match vs, hl with
    | [u0], _ =>
      have k0 := hrep 0 u0 _ rfl rfl
      cases k0
      obtain ⟨t, p, hv⟩ := tab_errRange hT
      refine (Tryz.strconv_Atoi_range (bytesOf s) (by simp; omega) (by simpa using hA) _ w hv (.inr ⟨t, p, rfl⟩)).mono ?_
      rintro e w' ⟨N, rfl, _, _, hbel⟩
      simp only [bytesOf_list]
      exact ⟨hbel, _, R, rfl, fun _ _ h => h, fun _ _ h => .inl h, rep_pair (.v _ rfl) (.ifc _ _ _ (.undef _))⟩
end Go.Qg


namespace Go.Qg
open Go.Proofs Go.RowKit Go.Lib
set_option maxRecDepth 100000
set_option maxHeartbeats 16000000
attribute [local irreducible] pwp pops pdraw pop popCall pdCall thenP blockP scopeP pspec Spec answers ppost CallW rend
def readH (r : List UInt8) (s : Int) : PF := [.box false [.v (.string (bytesOf r)), .v (.int .i64 s)]]
def wrongV (x : ByteArray) : PV := .ifc 170 (.agg [.v (.string x)])
def endsR (o : Option (PV × List UInt8 × Int)) (out : Out) : Prop := match o with
  | some (p, t, s) => out = .ret p (readH t s)
  | none => ∃ x t s, out = .pan (wrongV x) (readH t s)
theorem cut_len (r : List UInt8) : (Lib.cut r [10]).1.length ≤ r.length ∧ (Lib.cut r [10]).2.1.length ≤ r.length := by
  rcases index_one 10 r with ⟨_, h⟩ | ⟨a, t, rfl, h, _⟩
  · rw [cut_none h]; simp
  · rw [cut_app h]; simp; omega
theorem words_spec (r : List UInt8) (s : Int) (hr : r.length < 1000000) :
    CallW Tryz.prog 126 [.ref 0 0] (readH r s) (endsR ((wordsR r).map fun p => (strsB p.1, p.2, s))) := by
  suffices H : ∀ Q : Out → Prop, (∀ out, endsR ((wordsR r).map fun p => (strsB p.1, p.2, s)) out → Q out) → CallW Tryz.prog 126 [.ref 0 0] (readH r s) Q from H _ fun _ h => h
  intro Q hQ
  have hc := cut_spec r [10] (by omega)
  have hcl := cut_len r
  have hw : wordsR r = match Lib.cut r [10] with | (l, t, true) => some (splL 32 l, t) | _ => none := rfl
  generalize Lib.cut r [10] = ct at *
  obtain ⟨l, t, b⟩ := ct
  simp only at hcl hc
  have hs := split_spec l 32 (by omega)
  refine callW_of mixed Tryz.func126 (by decide) rfl (congrArg Array.toList Tryz.results126) Tryz.ntmps126 (by decide) 26 (by simp) (by decide) ?_
  simp [readH]
  refine pop_spec hc rfl false (.inl (by simp [bytesOf])) (.inl rfl) rfl (by simp) ?_
  simp
  cases b with
  | false =>
    simp only at hw
    simp
    refine ends_pan (wrongV (bytesOf l)) (readH r s) [] (by decide) ?_ ?_ (hQ _ ?_)
    · simp [readH]
    · simp [wrongV]
    · rw [hw]; exact ⟨_, _, _, rfl⟩
  | true =>
    simp only at hw
    simp
    refine pop_spec hs rfl false (.inl (by simp [bytesOf])) (.inl rfl) rfl (by simp [strsB, strsL]) ?_
    simp
    refine ends_of (strsB (splL 32 l)) (readH t s) [] (x := strsB (splL 32 l)) (by simp [strsB, strsL]) (by decide) ?_ ?_ (hQ _ ?_)
    · simp [readH]
    · simp [strsB, strsL]
    · rw [hw]; rfl
theorem number_spec (r w : List UInt8) (s : Int) (hw : w.length < 1000000) (hs : 0 ≤ s ∧ s ≤ 1000000000000000000) :
    CallW Tryz.prog 127 [.ref 0 0, .v (.string (bytesOf w))] (readH r s) (endsR ((numW w).map fun n => (.v (.int .i64 n), r, s + n))) := by
  suffices H : ∀ Q : Out → Prop, (∀ out, endsR ((numW w).map fun n => (.v (.int .i64 n), r, s + n)) out → Q out) → CallW Tryz.prog 127 [.ref 0 0, .v (.string (bytesOf w))] (readH r s) Q from H _ fun _ h => h
  intro Q hQ
  have hwr : numW w = none → Q (.pan (wrongV (bytesOf w)) (readH r s)) := fun h => hQ _ (by rw [h]; exact ⟨_, _, _, rfl⟩)
  by_cases hA : ∃ n, Lib.atoiAll w = .ok n
  · obtain ⟨n, hA⟩ := hA
    have hb := Lib.atoiAll_bounds hA
    have ha := atoi_ok w n hw hA
    have hi : Spec Tryz.prog 125 [.v (.int .i64 n)] (.v (.string (bytesOf (Lib.itoa n)))) := itoa_spec n (by omega) (by omega)
    have hn : numW w = if 0 ≤ n ∧ w.length ≤ 10 ∧ Lib.itoa n = w then some n else none := by unfold numW; rw [hA]
    refine callW_of mixed Tryz.func127 (by decide) rfl (congrArg Array.toList Tryz.results127) Tryz.ntmps127 (by decide) 41 (by simp) (by decide) ?_
    simp [readH]
    refine pop_spec ha rfl false (.inl (by simp)) (.inl rfl) rfl (by simp) ?_
    by_cases h1 : n < 0
    · have := hwr (by rw [hn, if_neg (by omega)])
      simp [h1]
      refine ends_pan (wrongV (bytesOf w)) (readH r s) [] (by decide) ?_ ?_ this
      · simp [readH]
      · simp [wrongV]
    by_cases h2 : 10 < w.length
    · have := hwr (by rw [hn, if_neg (by omega)])
      simp [h1, h2, show (10 : Int) < w.length from by omega]
      refine ends_pan (wrongV (bytesOf w)) (readH r s) [] (by decide) ?_ ?_ this
      · simp [readH]
      · simp [wrongV]
    simp [h1, h2, show ¬ (10 : Int) < w.length from by omega]
    refine pop_spec hi rfl false (.inl (by simp)) (.inl rfl) rfl (by simp) ?_
    by_cases h3 : Lib.itoa n = w
    · have hq := hQ (.ret (.v (.int .i64 n)) (readH r (s + n))) (by rw [hn, if_pos ⟨by omega, by omega, h3⟩]; rfl)
      have hl : n < 10000000000 := by
        have := numW_iff.1 (show numW w = some n by rw [hn, if_pos ⟨by omega, by omega, h3⟩])
        exact this.2.1
      have wv := i64_wrap (show -9223372036854775808 ≤ s + n ∧ _ from by omega)
      simp [h3, wv]
      refine ends_of (.v (.int .i64 n)) (readH r (s + n)) [] (x := .v (.int .i64 n)) (by simp) (by decide) ?_ ?_ hq
      · simp [readH]
      · simp
    · have := hwr (by rw [hn, if_neg (fun h => h3 h.2.2)])
      simp [h3]
      refine ends_pan (wrongV (bytesOf w)) (readH r s) [] (by decide) ?_ ?_ this
      · simp [readH]
      · simp [wrongV]
  · have hno : ∀ n, Lib.atoiAll w ≠ .ok n := fun n h => hA ⟨n, h⟩
    obtain ⟨n, ha⟩ := atoi_err w hw hno
    have hn : numW w = none := by
      unfold numW
      cases hB : Lib.atoiAll w with
      | ok m => exact absurd hB (hno m)
      | _ => rfl
    refine callW_of mixed Tryz.func127 (by decide) rfl (congrArg Array.toList Tryz.results127) Tryz.ntmps127 (by decide) 41 (by simp) (by decide) ?_
    simp [readH]
    refine pop_spec ha rfl false (.inl (by simp)) (.inl rfl) rfl (by simp [errP]) ?_
    simp [errP]
    refine ends_pan (wrongV (bytesOf w)) (readH r s) [] (by decide) ?_ ?_ (hwr hn)
    · simp [readH]
    · simp [wrongV]
theorem sumI_snoc (l : List Int) (n : Int) : sumI (l ++ [n]) = sumI l + n := by simp [sumI]
theorem numsW_drop {L : List (List UInt8)} {i n : Nat} (h : i < L.length) (hn : n ≤ i) (hw : numW (L.getD i []) = none) : numsW (L.drop n) = none := by
  have hcut := take_cut h hn
  have hsn := numsW_snoc (L.getD i []) ((L.take i).drop n)
  rw [← hcut, hw] at hsn
  have h1 : numsW ((L.take (i + 1)).drop n) = none := by rw [hsn]; cases numsW ((L.take i).drop n) <;> rfl
  have h2 : L.drop n = (L.take (i + 1)).drop n ++ L.drop (i + 1) := by
    have := List.take_append_drop (i + 1 - n) (L.drop n)
    rw [List.drop_drop, show n + (i + 1 - n) = i + 1 from by omega] at this
    rw [← this, List.take_drop, show n + (i + 1 - n) = i + 1 from by omega]
  rw [h2]
  exact numsW_none h1
theorem numbersR_spec (r : List UInt8) (s : Int) (ws : List ByteArray) (many : Nat) (hr : r.length < 1000000) (hs : 0 ≤ s ∧ s ≤ 100000000000000000) (hws : ws.length ≤ 100) (hm : many ≤ 100) :
    CallW Tryz.prog 102 [.ref 0 0, .v (.int .i64 many), strsL ws] (readH r s) (endsR ((rdLine (listsOf ws) many r).map fun p => (ints p.1, p.2, s + sumI p.1))) := by
  suffices H : ∀ Q : Out → Prop, (∀ out, endsR ((rdLine (listsOf ws) many r).map fun p => (ints p.1, p.2, s + sumI p.1)) out → Q out) → CallW Tryz.prog 102 [.ref 0 0, .v (.int .i64 many), strsL ws] (readH r s) Q from H _ fun _ h => h
  intro Q hQ
  have hpan : rdLine (listsOf ws) many r = none → ∀ x t s', Q (.pan (wrongV x) (readH t s')) := fun h x t s' => hQ _ (by rw [h]; exact ⟨_, _, _, rfl⟩)
  have hwl : (listsOf ws).length = ws.length := by simp [listsOf]
  refine callW_of mixed Tryz.func102 (by decide) rfl (congrArg Array.toList Tryz.results102) Tryz.ntmps102 (by decide) 52 (by simp) (by decide) ?_
  simp [readH, strsL]
  refine pop_callW (words_spec r s hr) rfl [52] false (by decide) ?_ (.inl ?_) ?_
  · simp [readH]
  · simp
  intro out ho
  cases hW : wordsR r with
  | none =>
    have hn : rdLine (listsOf ws) many r = none := by rw [rdLine, hW]
    rw [hW] at ho
    obtain ⟨x, t, s', rfl⟩ := ho
    refine ⟨[], by simp [backOk, readH], .inl rfl, ?_⟩
    simp [back, backV, placeAll, readH, wrongV]
    refine ends_pan (wrongV x) (readH t s') [] (by decide) ?_ ?_ (hpan hn _ _ _)
    · simp [readH]
    · simp [wrongV]
  | some p =>
  obtain ⟨L, t⟩ := p
  rw [hW] at ho
  obtain rfl : out = .ret (strsB L) (readH t s) := ho
  obtain ⟨a, hra, _, hLa⟩ := wordsR_iff.1 hW
  have hLl : L.length ≤ a.length + 1 := by rw [hLa]; exact parts_len 32 a
  have hal : a.length + t.length + 1 = r.length := by rw [hra]; simp; omega
  have hLp : ∀ q ∈ L, q.length ≤ a.length := fun q hq => by
    rw [hLa] at hq
    have := join_mem_len (c := 32) hq
    rwa [join_parts] at this
  have hLne : L ≠ [] := by rw [hLa]; exact splL_ne 32 a
  have hLj : Lib.join L [32] = a := by rw [hLa]; exact join_parts 32 a
  have hrd : rdLine (listsOf ws) many r = if L.length = ws.length + many ∧ L.take ws.length = listsOf ws then (numsW (L.drop ws.length)).map fun ns => (ns, t) else none := by
    unfold rdLine
    rw [hW]
    simp only [hwl]
  clear hW hLa
  have wm := i64_wrap (show -9223372036854775808 ≤ (ws.length : Int) + many ∧ _ from by omega)
  refine ⟨[], by simp [backOk, readH], .inl rfl, by simp [back, backV, placeAll, readH, strsB, strsL], ?_⟩
  simp [back, backV, placeAll, readH, strsB, strsL]
  by_cases h1 : L.length = ws.length + many
  case neg =>
    have hn : rdLine (listsOf ws) many r = none := by rw [hrd, if_neg (fun h => h1 h.1)]
    have hj := join_spec (L.map bytesOf) spB (by simpa using hLne) (by simp; omega) (by
      have e : joinB (L.map bytesOf) spB = a := by
        rw [← hLj]
        simp [joinB, spB, List.map_map, Function.comp_def]
      rw [e]; omega)
    simp [wm, show ¬ (L.length : Int) = ws.length + many from by omega]
    refine pop_spec hj rfl false (.inl (by simp [strsL, spB, bytesOf])) (.inl rfl) rfl (by simp) ?_
    simp
    refine ends_pan (wrongV ⟨(joinB (L.map bytesOf) spB).toArray⟩) (readH t s) [] (by decide) ?_ ?_ (hpan hn _ _ _)
    · simp [readH]
    · simp [wrongV]
  have wm2 : IntKind.i64.wrap ((ws.length : Int) + many) = (L.length : Int) := by rw [wm]; omega
  simp [wm2]
  refine pwp_loop (fun q : Nat × List Int => [(8, .own 40 q.2.length 0 q.2.length false), (26, .v (.int .i64 q.1)), (40, .rows none q.2.length 3 1 (rowsI q.2)), (52, .box false [.v (.string (bytesOf t)), .v (.int .i64 (s + sumI q.2))])]) (fun q => q.1 ≤ L.length ∧ (∀ j, j < q.1 → j < ws.length → L.getD j [] = (ws.getD j ByteArray.empty).data.toList) ∧ numsW ((L.take q.1).drop ws.length) = some q.2) (fun q => L.length - q.1) (0, []) ⟨Nat.zero_le _, fun j h => absurd h (Nat.not_lt_zero _), by simp [numsW]⟩ (by simp; rfl) (by simp [sumI]) ?_
  rintro ⟨i, ns⟩ ⟨hi, hq, hns⟩
  simp only at hi hq hns
  have hnl := numsW_len hns
  have hnl2 : ns.length ≤ 200 := by rw [hnl]; simp; omega
  have hsum := sumR_bound (numsW_iff.1 hns).1
  by_cases hil : i < L.length
  · have wi := i64_wrap (show -9223372036854775808 ≤ (i : Int) + 1 ∧ _ from by omega)
    have g1 : L.getD i [] = L[i] := by simp [List.getD, hil]
    have hlw := hLp L[i] (List.getElem_mem hil)
    by_cases hiw : i < ws.length
    · have g2 : ws.getD i ByteArray.empty = ws[i] := by simp [List.getD, hiw]
      have hdr : (L.take (i + 1)).drop ws.length = (L.take i).drop ws.length := by rw [List.drop_eq_nil_of_le (by simp; omega), List.drop_eq_nil_of_le (by simp; omega)]
      have hwd : (ws[i]).toList = (ws[i]).data.toList := ByteArray.toList_eq _
      by_cases he : L[i] = (ws[i]).toList
      · simp [hil, hiw, he, show ¬ ws.length ≤ i from by omega, show ¬ (ws.length : Int) ≤ i from by omega]
        refine again_of (i + 1, ns) ⟨by simp only; omega, fun j hj hjw => ?_, by simp only; rw [hdr]; exact hns⟩ (by simp only; omega) ?_
        · simp only at hj
          rcases Nat.lt_or_eq_of_le (Nat.le_of_lt_succ hj) with h' | rfl
          · exact hq j h' hjw
          · simp [hil, hiw, he, hwd]
        · simp [wi]
      · have hn : rdLine (listsOf ws) many r = none := by
          rw [hrd, if_neg]
          rintro ⟨_, h⟩
          refine he ?_
          have := congrArg (fun l : List (List UInt8) => l[i]?) h
          simpa [List.getElem?_take, hiw, hil, listsOf, hwd] using this
        simp [hil, hiw, he, show ¬ ws.length ≤ i from by omega, show ¬ (ws.length : Int) ≤ i from by omega]
        refine ends_pan (wrongV (bytesOf L[i])) (readH t (s + sumI ns)) [] (by decide) ?_ ?_ (hpan hn _ _ _)
        · simp [readH]
        · simp [wrongV]
    · simp [hil, show ¬ (i : Int) < ws.length from by omega, hiw, show (ws.length : Int) ≤ i from by omega, show ws.length ≤ i from by omega]
      refine pop_callW (number_spec t L[i] (s + sumI ns) (by omega) (by omega)) rfl [52] false (by decide) ?_ (.inl ?_) ?_
      · simp [readH]
      · simp
      intro out ho
      cases hn : numW L[i] with
      | none =>
        rw [hn] at ho
        obtain ⟨x, t', s', rfl⟩ := ho
        have hn2 : rdLine (listsOf ws) many r = none := by
          rw [hrd]
          split
          · rw [numsW_drop hil (by omega) (by rw [g1]; exact hn)]; rfl
          · rfl
        refine ⟨[], by simp [backOk, readH], .inl rfl, ?_⟩
        simp [back, backV, placeAll, readH, wrongV]
        refine ends_pan (wrongV x) (readH t' s') [] (by decide) ?_ ?_ (hpan hn2 _ _ _)
        · simp [readH]
        · simp [wrongV]
      | some n =>
        rw [hn] at ho
        obtain rfl : out = .ret (.v (.int .i64 n)) (readH t (s + sumI ns + n)) := ho
        have hcut := take_cut hil (show ws.length ≤ i by omega)
        rw [g1] at hcut
        have hsn := numsW_snoc L[i] ((L.take i).drop ws.length)
        rw [hns, ← hcut, hn] at hsn
        refine ⟨[], by simp [backOk, readH], .inl rfl, by simp [back, backV, placeAll, readH], ?_⟩
        simp [back, backV, placeAll, readH, rowsI_snoc, show (ns.length + 1) * 8 ≤ 140737488355328 from by omega, show ns.length + 1 ≤ maxLen from by simp [maxLen]; omega]
        refine again_of (i + 1, ns ++ [n]) ⟨by simp only; omega, fun j hj hjw => hq j (by simp only at hj; omega) hjw, hsn⟩ (by simp only; omega) ?_
        simp [wi, rowsI_snoc, sumI_snoc, Int.add_assoc]
        rintro x (⟨a, _, rfl⟩ | rfl) y hy
        · obtain rfl := List.mem_singleton.1 hy
          rfl
        · obtain rfl := List.mem_singleton.1 hy
          rfl
  · obtain rfl : i = L.length := by omega
    rw [List.take_length] at hns
    have hw : L.take ws.length = listsOf ws := by
      refine List.ext_getElem? fun j => ?_
      by_cases hj : j < ws.length
      · have h2 := hq j (by omega) hj
        have hjL : j < L.length := by omega
        simp [List.getD, hj, hjL] at h2
        simp [List.getElem?_take, hj, hjL, listsOf, h2]
      · simp [List.getElem?_take, hj, listsOf, show ws.length ≤ j from by omega]
    have hq2 := hQ (.ret (ints ns) (readH t (s + sumI ns))) (by rw [hrd, if_pos ⟨h1, hw⟩, hns]; rfl)
    simp
    refine ends_of (ints ns) (readH t (s + sumI ns)) [] (x := .own 40 ns.length 0 ns.length false) (by simp) (by decide) ?_ ?_ hq2
    · simp [readH]
    · simp [ints]
      intro k hk
      rw [rowsI_get hk]
      simp
theorem how_spec (r : List UInt8) (s : Int) : CallW Tryz.prog 103 [.ref 0 0] (readH r s) (fun out => out = .ret (.v (.string (if pumpR r = true then pumpW else keepW))) (readH r s)) := by
  suffices H : ∀ Q : Out → Prop, Q (.ret (.v (.string (if pumpR r = true then pumpW else keepW))) (readH r s)) → CallW Tryz.prog 103 [.ref 0 0] (readH r s) Q from H _ rfl
  intro Q hQ
  have hp := prefix_spec r [108, 101, 103, 32, 112, 117, 109, 112, 32]
  have e : Lib.hasPrefix r [108, 101, 103, 32, 112, 117, 109, 112, 32] = pumpR r := rfl
  rw [e] at hp
  refine callW_of mixed Tryz.func103 (by decide) rfl (congrArg Array.toList Tryz.results103) Tryz.ntmps103 (by decide) 8 (by simp) (by decide) ?_
  simp [readH]
  refine pop_spec hp rfl false (.inl (by simp [bytesOf])) (.inl rfl) rfl (by simp) ?_
  cases hb : pumpR r with
  | true =>
    rw [hb, if_pos rfl] at hQ
    simp
    refine ends_of (.v (.string pumpW)) (readH r s) [] (x := .v (.string pumpW)) (by simp [pumpW, bytesOf]) (by decide) ?_ ?_ hQ
    · simp [readH]
    · simp
  | false =>
    rw [hb, if_neg (by simp)] at hQ
    simp
    refine ends_of (.v (.string keepW)) (readH r s) [] (x := .v (.string keepW)) (by simp [keepW, bytesOf]) (by decide) ?_ ?_ hQ
    · simp [readH]
    · simp
end Go.Qg


namespace Go.Qg
open Go.Proofs
set_option maxRecDepth 100000
set_option maxHeartbeats 16000000
attribute [local irreducible] pwp pops pdraw pop popCall pdCall thenP blockP scopeP pspec Spec answers ppost CallW rend
def pntC (P : Pln) (X : Pnt) : List PV := [.v (.int .i64 P.empty), .v (.int .i64 P.moment), .v (.int .i64 P.takeoff), .v (.int .i64 P.landing), cnrL P.corners, stnL P.stations, .v (.int .i64 P.tank.arm), .v (.int .i64 P.tank.most), .v (.int .i64 P.reserve), stnL P.floats, itmL X.items, .v (.int .i64 X.tank.low), .v (.int .i64 X.tank.high), spnL X.water, .v (.bool X.landing)]
structure Prt where
  kind : Int
  idx : Nat
  arm : Int
  low : Int
  high : Int
  deriving Inhabited
def Prt.cells (p : Prt) : List PV := [.v (.int .i64 p.kind), .v (.int .i64 p.idx), .v (.int .i64 p.arm), .v (.int .i64 p.low), .v (.int .i64 p.high)]
def partI' (P : Pln) (X : Pnt) (i : Nat) : Prt := ⟨0, i, armI P X i, (itmAt X.items i).low, (itmAt X.items i).high⟩
def partT (P : Pln) (X : Pnt) : Prt := ⟨1, 0, P.tank.arm, X.tank.low, X.tank.high⟩
def partF (P : Pln) (X : Pnt) (i : Nat) : Prt := ⟨2, i, armF P i, (spnAt X.water i).low, (spnAt X.water i).high⟩
def partN (P : Pln) (X : Pnt) (n : Nat) : Prt := if n < X.items.length then partI' P X n else if n = X.items.length then partT P X else partF P X (n - X.items.length - 1)
def partK (X : Pnt) : Nat := X.items.length + 1 + X.water.length
def partsL (P : Pln) (X : Pnt) : List PV := (List.range (partK X)).map fun n => .agg (partN P X n).cells
theorem partsL_length (P : Pln) (X : Pnt) : (partsL P X).length = partK X := by simp [partsL]
theorem parts_get {P : Pln} {X : Pnt} {n : Nat} {p : PV} (h : (partsL P X)[n]? = some p) : n < partK X ∧ p = .agg (partN P X n).cells := by
  have hl : n < partK X := by
    have := (List.getElem?_eq_some_iff.1 h).1
    simpa [partsL] using this
  refine ⟨hl, ?_⟩
  simp [partsL, hl] at h
  exact h.symm
theorem parts_plain {P : Pln} {X : Pnt} : ∀ p ∈ partsL P X, p.plain = true ∧ p.flat = true := fun p hp => by
  obtain ⟨e, _, rfl⟩ := List.mem_map.1 hp
  exact ⟨rfl, rfl⟩
theorem parts_at {P : Pln} {X : Pnt} {n : Nat} (h : n < partK X) : (partsL P X)[n]? = some (.agg (partN P X n).cells) := by simp [partsL, h]
theorem parts_spec (P : Pln) (X : Pnt) : Spec Tryz.prog 114 [.agg (pntC P X)] (.clo (.func 143) [] [.rp (pntC P X) 0]) := by
  refine spec_of mixed Tryz.func114 (by decide) rfl Tryz.results114 Tryz.ntmps114 (by decide) 0 (by simp) ?_
  simp [pntC, cnrL, stnL, itmL, spnL]
  refine answers_of rfl ?_; simp [pntC, cnrL, stnL, itmL, spnL]
theorem parts_gen (P : Pln) (X : Pnt) (hX : PntOk P X) (hf : P.floats.length ≤ 2) : GenW Tryz.prog 143 [.rp (pntC P X) 0] (partsL P X) := by
  have hni := hX.n
  have hnw := hX.nw
  refine gen_of Tryz.func143 (by decide) rfl Tryz.results143 Tryz.ntmps143 0 (by simp) fun l Rb J henv => ?_
  have hlo : ∀ s B, GCtx 69 Rb J s B → B.lo = 69 := fun _ _ h => h.1
  refine XW_seqX (XW_seqP mixed hlo (by decide) ?_)
  simp [pntC, cnrL, stnL, itmL, spnL]
  refine XW_block ?_
  refine XW_loopV hlo (fun k : Nat => [(11, .v (.int .i64 k))]) (fun k => GS.on k) (fun k => k ≤ X.items.length) (fun k => X.items.length - k) 0 (Nat.zero_le _) rfl (by simp; rfl) (by simp) ?_
  intro k hk
  refine XW_seqP mixed hlo (by decide) ?_
  by_cases hlt : k < X.items.length
  · have wk := i64_wrap (show -9223372036854775808 ≤ (k : Int) + 1 ∧ _ from by omega)
    have hit := hX.item k hlt
    obtain ⟨s, hs⟩ : ∃ s : Nat, (itmAt X.items k).station = s := ⟨(itmAt X.items k).station.toNat, by omega⟩
    have hsl : s < P.stations.length := by omega
    have hel : (partsL P X)[k]? = some (.agg [.v (.int .i64 0), .v (.int .i64 k), .v (.int .i64 (stnAt P.stations s).arm), .v (.int .i64 (itmAt X.items k).low), .v (.int .i64 (itmAt X.items k).high)]) := by
      rw [parts_at (by unfold partK; omega)]
      simp [partN, hlt, partI', Prt.cells, armI, hs]
    simp [hlt]
    refine XW_seqP mixed hlo (by decide) ?_
    simp
    refine XW_seqX (XW_block ?_)
    refine XW_seqP mixed hlo (by decide) ?_
    simp [hlt, Itm.cells]
    refine XW_seqX (XW_yield (m := 14) mixed henv (by decide) (by decide) ?_)
    simp [hlt, hs, hsl, Stn.cells]
    refine ⟨by decide, ?_⟩
    simp [pyield, yargs, hel]
    refine ⟨?_, ?_⟩
    · refine XW_pwp mixed hlo (by decide) ?_
      simp
      refine XW_pwp mixed hlo (by decide) ?_
      simp [wk]
      refine againX_of (k + 1) (by omega) (by omega) rfl ?_
      simp
    · refine XW_pwp mixed hlo (by decide) ?_
      simp
  · obtain rfl : k = X.items.length := by omega
    have hel : (partsL P X)[X.items.length]? = some (.agg [.v (.int .i64 1), .v (.int .i64 0), .v (.int .i64 P.tank.arm), .v (.int .i64 X.tank.low), .v (.int .i64 X.tank.high)]) := by
      rw [parts_at (by unfold partK; omega)]
      simp [partN, partT, Prt.cells]
    simp
    refine XW_pwp mixed hlo (by decide) ?_
    simp
    refine XW_seqX (XW_seqX (XW_yieldS (m := 10) henv (by decide) (by decide) ?_))
    simp
    simp [pyield, yargs, hel]
    refine ⟨?_, ?_⟩
    · refine XW_pwp mixed hlo (by decide) ?_
      simp
      refine XW_seqP mixed hlo (by decide) ?_
      simp
      refine XW_block ?_
      refine XW_loopV hlo (fun k : Nat => [(49, .v (.int .i64 k))]) (fun k => GS.on (X.items.length + 1 + k)) (fun k => k ≤ X.water.length) (fun k => X.water.length - k) 0 (Nat.zero_le _) rfl (by simp; rfl) (by simp) ?_
      intro k hk
      refine XW_seqP mixed hlo (by decide) ?_
      by_cases hlt : k < X.water.length
      · have wk := i64_wrap (show -9223372036854775808 ≤ (k : Int) + 1 ∧ _ from by omega)
        have hkf : k < P.floats.length := by omega
        have hel : (partsL P X)[X.items.length + 1 + k]? = some (.agg [.v (.int .i64 2), .v (.int .i64 k), .v (.int .i64 (stnAt P.floats k).arm), .v (.int .i64 (spnAt X.water k).low), .v (.int .i64 (spnAt X.water k).high)]) := by
          rw [parts_at (by unfold partK; omega)]
          simp [partN, show ¬ X.items.length + 1 + k < X.items.length from by omega, show ¬ X.items.length + 1 + k = X.items.length from by omega, show X.items.length + 1 + k - X.items.length - 1 = k from by omega, partF, Prt.cells, armF]
        simp [hlt]
        refine XW_seqP mixed hlo (by decide) ?_
        simp
        refine XW_seqX (XW_block ?_)
        refine XW_seqP mixed hlo (by decide) ?_
        simp [hlt, Spn.cells]
        refine XW_seqX (XW_yield (m := 12) mixed henv (by decide) (by decide) ?_)
        simp [hlt, hkf, Stn.cells]
        refine ⟨by decide, ?_⟩
        simp [pyield, yargs, hel]
        refine ⟨?_, ?_⟩
        · refine XW_pwp mixed hlo (by decide) ?_
          simp
          refine XW_pwp mixed hlo (by decide) ?_
          simp [wk]
          refine againX_of (k + 1) (by omega) (by omega) (by simp only [GS.on.injEq]; omega) ?_
          simp
        · refine XW_pwp mixed hlo (by decide) ?_
          simp
      · obtain rfl : k = X.water.length := by omega
        simp
        refine XW_pwp mixed hlo (by decide) ?_
        simp [partsL_length, partK]
    · refine XW_pwp mixed hlo (by decide) ?_
      simp
end Go.Qg


namespace Go.Qg
open Go.Proofs
set_option maxRecDepth 100000
set_option maxHeartbeats 16000000
attribute [local irreducible] pwp pops pdraw pop popCall pdCall thenP blockP scopeP pspec Spec answers ppost CallW rend
theorem part_small {P : Pln} {X : Pnt} (hP : PlnOk P) (hX : PntOk P X) {n : Nat} (hn : n < partK X) : Small 1000 (partN P X n).arm ∧ Small 140000 (partN P X n).low ∧ Small 140000 (partN P X n).high := by
  have hnw := hX.nw
  unfold partN
  split
  · rename_i h
    have h1 := hX.item n h
    have h2 := hP.station (itmAt X.items n).station.toNat (by omega)
    simp only [StnOk] at h2
    simp only [partI', armI, Small]
    omega
  · split
    · have h1 := hX.tank
      have h2 := hP.tank
      simp only [StnOk] at h2
      simp only [partT, Small]
      omega
    · have hk : n - X.items.length - 1 < X.water.length := by unfold partK at hn; omega
      have h1 := hX.water _ hk
      have h2 := hP.float (n - X.items.length - 1) (by omega)
      simp only [StnOk] at h2
      simp only [partF, armF, Small]
      omega
theorem partK_le {P : Pln} {X : Pnt} (hP : PlnOk P) (hX : PntOk P X) : partK X ≤ 15 := by
  have := hX.n; have := hX.nw; have := hP.nf; unfold partK; omega
theorem sumN_small {f : Nat → Int} {b : Int} (hb : 0 ≤ b) : ∀ {n : Nat}, (∀ i, i < n → Small b (f i)) → Small (b * n) (sumN f n)
  | 0, _ => by simp [sumN, Small]
  | n + 1, h => by
    have h1 := sumN_small hb (n := n) fun i hi => h i (by omega)
    have h2 := h n (by omega)
    simp only [Small, sumN] at *
    have e : b * ((n + 1 : Nat) : Int) = b * n + b := by push_cast; rw [Int.mul_add, Int.mul_one]
    rw [e]
    omega
theorem min_small {b x y : Int} (hx : Small b x) (hy : Small b y) : Small b (min x y) ∧ Small b (max x y) := by
  simp only [Small] at *; omega
theorem sumN_parts (P : Pln) (X : Pnt) (f : Prt → Int) : sumN (fun i => f (partN P X i)) (partK X) = sumN (fun i => f (partI' P X i)) X.items.length + f (partT P X) + sumN (fun i => f (partF P X i)) X.water.length := by
  unfold partK
  rw [sumN_split, sumN]
  congr 1
  · congr 1
    · exact sumN_congr fun i hi => by simp [partN, hi]
    · simp [partN]
  · exact sumN_congr fun i hi => by simp [partN, show ¬ X.items.length + 1 + i < X.items.length from by omega, show ¬ X.items.length + 1 + i = X.items.length from by omega, show X.items.length + 1 + i - X.items.length - 1 = i from by omega]
def bW (P : Pln) (X : Pnt) (n : Nat) : Int := P.empty + sumN (fun i => (partN P X i).low) n
def bWh (P : Pln) (X : Pnt) (n : Nat) : Int := P.empty + sumN (fun i => (partN P X i).high) n
def bM (P : Pln) (X : Pnt) (n : Nat) : Int := P.moment + sumN (fun i => minS (partN P X i).arm (partN P X i).low (partN P X i).high) n
def bMh (P : Pln) (X : Pnt) (n : Nat) : Int := P.moment + sumN (fun i => maxS (partN P X i).arm (partN P X i).low (partN P X i).high) n
def bndC (P : Pln) (X : Pnt) (n : Nat) : List PV := [.v (.int .i64 (bW P X n)), .v (.int .i64 (bWh P X n)), .v (.int .i64 (bM P X n)), .v (.int .i64 (bMh P X n))]
theorem bnd_small {P : Pln} {X : Pnt} (hP : PlnOk P) (hX : PntOk P X) {n : Nat} (hn : n ≤ partK X) : Small 2200000 (bW P X n) ∧ Small 2200000 (bWh P X n) ∧ Small 2200000000 (bM P X n) ∧ Small 2200000000 (bMh P X n) := by
  have hk := partK_le hP hX
  have h1 := sumN_small (f := fun i => (partN P X i).low) (b := 140000) (by omega) (n := n) fun i hi => (part_small hP hX (by omega)).2.1
  have h2 := sumN_small (f := fun i => (partN P X i).high) (b := 140000) (by omega) (n := n) fun i hi => (part_small hP hX (by omega)).2.2
  have hms : ∀ i, i < n → Small 140000000 (minS (partN P X i).arm (partN P X i).low (partN P X i).high) ∧ Small 140000000 (maxS (partN P X i).arm (partN P X i).low (partN P X i).high) := fun i hi => by
    obtain ⟨g1, g2, g3⟩ := part_small hP hX (show i < partK X by omega)
    exact min_small (mul_small g1 g2 (by omega) (by omega)) (mul_small g1 g3 (by omega) (by omega))
  have h3 := sumN_small (b := 140000000) (by omega) (n := n) fun i hi => (hms i hi).1
  have h4 := sumN_small (b := 140000000) (by omega) (n := n) fun i hi => (hms i hi).2
  have he := hP.empty
  have hm := hP.moment
  simp only [Small, bW, bWh, bM, bMh] at *
  have hn15 : (n : Int) ≤ 15 := by omega
  refine ⟨⟨?_, ?_⟩, ⟨?_, ?_⟩, ⟨?_, ?_⟩, ?_, ?_⟩ <;> omega
def bndV (P : Pln) (X : Pnt) (n : Nat) : PF := [.undef, .undef, .box true [.v (.int .i64 0), .v (.int .i64 0), .v (.int .i64 0), .v (.int .i64 0)], .box true (bndC P X n), .undef, .undef, .undef, .undef, .undef, .undef, .undef, .undef, .undef, .undef, .undef, .undef, .undef, .undef, .undef, .undef, .undef, .undef, .undef, .undef, .undef, .undef, .undef, .undef, .undef, .undef, .undef, .undef, .undef, .undef, .undef, .undef, .undef, .undef, .undef, .undef, .undef, .undef, .undef, .undef, .undef, .undef, .undef, .undef, .undef, .undef, .undef, .undef, .undef, .undef, .undef, .undef, .undef, .undef, .undef, .undef, .undef, .undef, .undef, .undef, .undef, .undef, .undef, .undef, .undef, .undef, .undef, .undef, .undef, .undef, .undef, .undef, .undef, .undef]
def bndA : PF := [.undef, .undef, .undef, .ref 0 0, .undef, .undef, .undef, .undef, .undef, .undef, .undef, .undef, .undef, .undef, .undef, .undef, .undef, .undef, .undef, .undef, .undef, .undef, .undef, .undef, .undef, .undef, .undef, .undef, .undef, .undef, .undef, .undef, .undef, .undef, .undef, .undef, .undef, .undef, .undef, .undef, .undef, .undef, .undef, .undef, .undef, .undef, .undef, .undef, .undef, .undef, .undef, .undef, .undef, .undef, .undef, .undef, .undef, .undef, .undef, .undef, .undef, .undef, .undef, .undef, .undef, .undef, .undef, .undef, .undef, .undef, .undef, .undef, .undef, .undef, .undef, .undef, .undef, .undef]
theorem bounds_spec (P : Pln) (X : Pnt) (hP : PlnOk P) (hX : PntOk P X) : Spec Tryz.prog 83 [.agg (pntC P X)] (.agg (bndC P X (partK X))) := by
  have hgen := parts_gen P X hX hP.nf
  unfold Spec
  refine callW_ofE Tryz.func83 (by decide) rfl (congrArg Array.toList Tryz.results83) Tryz.ntmps83 78 (by simp) (by decide) fun B0 hB0 hD0 => ?_
  have hlo : ∀ s B, ECtx B0 s B → B.lo = 78 := fun _ _ h => h.1.trans hB0
  refine XW_seqP mixed hlo (by decide) ?_
  simp [pntC, cnrL, stnL, itmL, spnL]
  refine XW_seqP mixed hlo (by decide) ?_
  simp
  refine XW_seqX (XW_seqP mixed hlo (by decide) ?_)
  simp
  refine pop_spec (parts_spec P X) rfl false (.inl (by simp [pntC, cnrL, stnL, itmL, spnL])) (.inl rfl) rfl (by simp) ?_
  simp
  refine XW_block ?_
  refine XW_range mixed rfl (by rfl) hgen parts_plain (by decide) (by decide) 78 (by decide) [3] (by decide)
    (fun n => bndV P X n) (fun n => bndA) (fun n => [.box false (bndC P X n)]) ?_ (fun n hn => ⟨rfl, ?_, slots_view (t := 28) ?_ rfl⟩) (fun n q hq => ?_) ?_
  · rw [hB0]
    simp [bndV, bndC, bW, bWh, bM, bMh, sumN]
  · simp [bndV, bndC]
  · simp [slots, bndV, bndA, bndC]
  · obtain ⟨hn, rfl⟩ := parts_get hq
    obtain ⟨g1, g2, g3⟩ := part_small hP hX hn
    have hb := bnd_small hP hX (show n + 1 ≤ partK X by omega)
    have m1 := mul_small g1 g2 (by omega) (by omega)
    have m2 := mul_small g1 g3 (by omega) (by omega)
    rw [hB0]
    have e1 : bW P X (n + 1) = bW P X n + (partN P X n).low := by simp only [bW, sumN]; omega
    have e2 : bWh P X (n + 1) = bWh P X n + (partN P X n).high := by simp only [bWh, sumN]; omega
    have e3 : bM P X (n + 1) = bM P X n + min ((partN P X n).arm * (partN P X n).low) ((partN P X n).arm * (partN P X n).high) := by simp only [bM, sumN, minS]; omega
    have e4 : bMh P X (n + 1) = bMh P X n + max ((partN P X n).arm * (partN P X n).low) ((partN P X n).arm * (partN P X n).high) := by simp only [bMh, sumN, maxS]; omega
    simp only [e1, e2, e3, e4, Small] at hb m1 m2
    have k1 := i64_wrap (show -9223372036854775808 ≤ bW P X n + (partN P X n).low ∧ _ from by omega)
    have k2 := i64_wrap (show -9223372036854775808 ≤ bWh P X n + (partN P X n).high ∧ _ from by omega)
    have k3 := i64_wrap (show -9223372036854775808 ≤ bM P X n + min ((partN P X n).arm * (partN P X n).low) ((partN P X n).arm * (partN P X n).high) ∧ _ from by omega)
    have k4 := i64_wrap (show -9223372036854775808 ≤ bMh P X n + max ((partN P X n).arm * (partN P X n).low) ((partN P X n).arm * (partN P X n).high) ∧ _ from by omega)
    have k5 := i64_wrap (show -9223372036854775808 ≤ (partN P X n).arm * (partN P X n).low ∧ _ from by omega)
    have k6 := i64_wrap (show -9223372036854775808 ≤ (partN P X n).arm * (partN P X n).high ∧ _ from by omega)
    have f3 : (if (partN P X n).arm * (partN P X n).high < (partN P X n).arm * (partN P X n).low then (partN P X n).arm * (partN P X n).high else (partN P X n).arm * (partN P X n).low) = min ((partN P X n).arm * (partN P X n).low) ((partN P X n).arm * (partN P X n).high) := by split <;> omega
    have f4 : (if (partN P X n).arm * (partN P X n).low < (partN P X n).arm * (partN P X n).high then (partN P X n).arm * (partN P X n).high else (partN P X n).arm * (partN P X n).low) = max ((partN P X n).arm * (partN P X n).low) ((partN P X n).arm * (partN P X n).high) := by split <;> omega
    simp [bndA, Prt.cells, bndC]
    refine pwp_draw 14 (by decide) ?_
    simp [k5, k6]
    refine ⟨by decide, ?_⟩
    simp [k1, k2, f3, f4, k3, k4]
    refine rend_n [.box false (bndC P X (n + 1))] ?_ ?_
    · simp [bndC, e1, e2, e3, e4]
    · simp [back, placeAll, bndV, bndC, e1, e2, e3, e4]
  · rw [partsL_length]
    simp [blockX, thenX, bndV, bndC]
    refine XW_pwp mixed hlo (by decide) ?_
    simp
    refine ends_of (.agg (bndC P X (partK X))) [] [] (x := .agg (bndC P X (partK X))) (by simp [bndC]) (by decide) ?_ ?_ rfl
    · simp [bndC]
    · simp [bndC]
end Go.Qg


namespace Go.Qg
open Go.Proofs
set_option maxRecDepth 100000
set_option maxHeartbeats 16000000
attribute [local irreducible] pwp pops pdraw pop popCall pdCall thenP blockP scopeP pspec Spec answers ppost CallW rend
@[simp] theorem rowsB_nil : rowsB [] = [] := rfl
theorem rowsB_snoc (l : List Bool) (x : Bool) : rowsB l ++ [[.v (.bool x)]] = rowsB (l ++ [x]) := by simp [rowsB]
def lsN (P : Pln) (X : Pnt) (e n : Nat) : Int := P.side e P.empty P.moment + sumN (fun i => minS (P.slope e (partN P X i).arm) (partN P X i).low (partN P X i).high) n
theorem lsN_all (P : Pln) (X : Pnt) (e : Nat) : lsN P X e (partK X) = leastE P X e := by
  rw [lsN, sumN_parts P X fun p => minS (P.slope e p.arm) p.low p.high, leastE]
  simp only [partI', partT, partF]
  omega
theorem slope_small {P : Pln} (hP : PlnOk P) {e : Nat} (he : e < P.corners.length) {a : Int} (ha : Small 1000 a) : Small 60000000 (P.slope e a) := by
  obtain ⟨_, _, s3, s4⟩ := edg_small hP.corner he
  have h := mul_small s3 ha (by omega) (by omega)
  simp only [Small, Pln.slope] at *
  omega
theorem side_small {P : Pln} (hP : PlnOk P) {e : Nat} (he : e < P.corners.length) : Small 3000000000000 (P.side e P.empty P.moment) := by
  obtain ⟨s1, s2, s3, s4⟩ := edg_small hP.corner he
  have h1 := hP.empty
  have h2 := hP.moment
  have h3 := mul_small s3 (show Small 40000000 (P.moment - (P.cA e).moment) by simp only [Small] at *; omega) (by omega) (by omega)
  have h4 := mul_small s4 (show Small 40000 (P.empty - (P.cA e).weight) by simp only [Small] at *; omega) (by omega) (by omega)
  simp only [Small, Pln.side] at *
  omega
theorem ls_small {P : Pln} {X : Pnt} (hP : PlnOk P) (hX : PntOk P X) {e : Nat} (he : e < P.corners.length) {n : Nat} (hn : n ≤ partK X) : Small 200000000000000 (lsN P X e n) := by
  have hk := partK_le hP hX
  have h1 := sumN_small (f := fun i => minS (P.slope e (partN P X i).arm) (partN P X i).low (partN P X i).high) (b := 8400000000000) (by omega) (n := n) fun i hi => by
    obtain ⟨g1, g2, g3⟩ := part_small hP hX (show i < partK X by omega)
    have g4 := slope_small hP he g1
    exact (min_small (mul_small g4 g2 (by omega) (by omega)) (mul_small g4 g3 (by omega) (by omega))).1
  have h2 := side_small hP he
  have hn15 : (n : Int) ≤ 15 := by omega
  simp only [Small, lsN] at *
  omega
def lsV (P : Pln) (X : Pnt) (e n : Nat) : PF := [.undef, .undef, .undef, .rp (edgC P e) 0, .undef, .box true [.v (.int .i64 (lsN P X e n))], .undef, .undef, .undef, .undef, .undef, .undef, .undef, .undef, .undef, .undef, .undef, .undef, .undef, .undef, .undef, .undef, .undef, .undef, .undef, .undef, .undef, .undef, .undef, .undef, .undef, .undef, .undef, .undef, .undef, .undef, .undef, .undef, .undef]
def lsA (P : Pln) (e : Nat) : PF := [.undef, .undef, .undef, .rp (edgC P e) 0, .undef, .ref 0 0, .undef, .undef, .undef, .undef, .undef, .undef, .undef, .undef, .undef, .undef, .undef, .undef, .undef, .undef, .undef, .undef, .undef, .undef, .undef, .undef, .undef, .undef, .undef, .undef, .undef, .undef, .undef, .undef, .undef, .undef, .undef, .undef, .undef]
theorem least_spec (P : Pln) (X : Pnt) (hP : PlnOk P) (hX : PntOk P X) (e : Nat) (he : e < P.corners.length) : Spec Tryz.prog 156 [.agg (pntC P X), .agg (edgC P e)] (.v (.int .i64 (leastE P X e))) := by
  have hgen := parts_gen P X hX hP.nf
  obtain ⟨s1, s2, s3, s4⟩ := edg_small hP.corner he
  have h1 := hP.empty
  have h2 := hP.moment
  have hside := side_spec (e : Int) (P.cA e).weight (P.cA e).moment (P.dw e) (P.dm e) P.empty P.moment s1 s2 s3 s4 (by simp only [Small]; omega) (by simp only [Small]; omega)
  rw [show P.dw e * (P.moment - (P.cA e).moment) - P.dm e * (P.empty - (P.cA e).weight) = P.side e P.empty P.moment from rfl] at hside
  unfold Spec
  refine callW_ofE Tryz.func156 (by decide) rfl (congrArg Array.toList Tryz.results156) Tryz.ntmps156 39 (by simp) (by decide) fun B0 hB0 hD0 => ?_
  have hlo : ∀ s B, ECtx B0 s B → B.lo = 39 := fun _ _ h => h.1.trans hB0
  refine XW_seqP mixed hlo (by decide) ?_
  simp [pntC, cnrL, stnL, itmL, spnL, edgC]
  refine XW_seqP mixed hlo (by decide) ?_
  simp
  refine pop_spec hside rfl false (.inl (by simp)) (.inl rfl) rfl (by simp) ?_
  simp
  refine XW_seqX (XW_seqP mixed hlo (by decide) ?_)
  simp
  refine pop_spec (parts_spec P X) rfl false (.inl (by simp [pntC, cnrL, stnL, itmL, spnL])) (.inl rfl) rfl (by simp) ?_
  simp
  refine XW_block ?_
  refine XW_range mixed rfl (by rfl) hgen parts_plain (by decide) (by decide) 39 (by decide) [5] (by decide)
    (fun n => lsV P X e n) (fun n => lsA P e) (fun n => [.box false [.v (.int .i64 (lsN P X e n))]]) ?_ (fun n hn => ⟨rfl, ?_, slots_view (t := 20) ?_ rfl⟩) (fun n q hq => ?_) ?_
  · rw [hB0]
    simp [lsV, lsN, sumN, edgC]
  · simp [lsV]
  · simp [slots, lsV, lsA]
  · obtain ⟨hn, rfl⟩ := parts_get hq
    obtain ⟨g1, g2, g3⟩ := part_small hP hX hn
    have g4 := slope_small hP he g1
    have hb := ls_small hP hX he (show n + 1 ≤ partK X by omega)
    have m1 := mul_small g4 g2 (by omega) (by omega)
    have m2 := mul_small g4 g3 (by omega) (by omega)
    have hslope := slope_spec (e : Int) (P.cA e).weight (P.cA e).moment (P.dw e) (P.dm e) (partN P X n).arm s3 s4 g1
    rw [show P.dw e * (partN P X n).arm - P.dm e = P.slope e (partN P X n).arm from rfl] at hslope
    rw [hB0]
    have e1 : lsN P X e (n + 1) = lsN P X e n + min (P.slope e (partN P X n).arm * (partN P X n).low) (P.slope e (partN P X n).arm * (partN P X n).high) := by simp only [lsN, sumN, minS]; omega
    generalize P.slope e (partN P X n).arm = sl at *
    simp only [e1, Small] at hb m1 m2
    have k3 := i64_wrap (show -9223372036854775808 ≤ lsN P X e n + min (sl * (partN P X n).low) (sl * (partN P X n).high) ∧ _ from by omega)
    have k5 := i64_wrap (show -9223372036854775808 ≤ sl * (partN P X n).low ∧ _ from by omega)
    have k6 := i64_wrap (show -9223372036854775808 ≤ sl * (partN P X n).high ∧ _ from by omega)
    have f3 : (if sl * (partN P X n).high < sl * (partN P X n).low then sl * (partN P X n).high else sl * (partN P X n).low) = min (sl * (partN P X n).low) (sl * (partN P X n).high) := by split <;> omega
    simp [lsA, Prt.cells, edgC]
    refine pop_spec hslope rfl false (.inl (by simp)) (.inl rfl) rfl (by simp) ?_
    simp [k5, k6, f3, k3]
    refine rend_n [.box false [.v (.int .i64 (lsN P X e (n + 1)))]] ?_ ?_
    · simp [e1]
    · simp [back, placeAll, lsV, e1, edgC]
  · rw [partsL_length]
    simp [blockX, thenX, lsV]
    refine XW_pwp mixed hlo (by decide) ?_
    simp
    refine ends_of (.v (.int .i64 (leastE P X e))) [] [] (x := .v (.int .i64 (lsN P X e (partK X)))) rfl (by decide) ?_ ?_ rfl
    · simp
    · simp [lsN_all]
theorem limit_spec (P : Pln) (X : Pnt) : Spec Tryz.prog 155 [.agg (pntC P X)] (.v (.int .i64 (limitP P X))) := by
  refine spec_of mixed Tryz.func155 (by decide) rfl Tryz.results155 Tryz.ntmps155 (by decide) 0 (by simp) ?_
  simp [pntC, cnrL, stnL, itmL, spnL]
  cases h : X.landing with
  | true => simp; refine answers_of rfl ?_; simp [limitP, h]
  | false => simp; refine answers_of rfl ?_; simp [limitP, h]
theorem full_spec (P : Pln) (X : Pnt) : Spec Tryz.prog 136 [.agg (pntC P X)] (bools [fullB P X]) := by
  refine spec_of mixed Tryz.func136 (by decide) rfl Tryz.results136 Tryz.ntmps136 (by decide) 0 (by simp) ?_
  simp [pntC, cnrL, stnL, itmL, spnL]
  refine answers_of rfl ?_; simp [bools, getb, fullB]
theorem short_spec (P : Pln) (X : Pnt) : Spec Tryz.prog 140 [.agg (pntC P X)] (bools [shortB P X]) := by
  refine spec_of mixed Tryz.func140 (by decide) rfl Tryz.results140 Tryz.ntmps140 (by decide) 0 (by simp) ?_
  simp [pntC, cnrL, stnL, itmL, spnL]
  cases h : X.landing with
  | true => simp; refine answers_of rfl ?_; simp [bools, getb, shortB, h]
  | false => simp; refine answers_of rfl ?_; simp [bools, getb, shortB, h]
theorem highW_eq (P : Pln) (X : Pnt) : bWh P X (partK X) = highW P X := by
  rw [bWh, sumN_parts P X fun p => p.high, highW]
  simp only [partI', partT, partF]
  omega
theorem heavy_spec (P : Pln) (X : Pnt) (hP : PlnOk P) (hX : PntOk P X) : Spec Tryz.prog 138 [.agg (pntC P X)] (bools [heavyB P X]) := by
  have hb := bounds_spec P X hP hX
  simp only [bndC, highW_eq] at hb
  refine spec_of mixed Tryz.func138 (by decide) rfl Tryz.results138 Tryz.ntmps138 (by decide) 0 (by simp) ?_
  simp [pntC, cnrL, stnL, itmL, spnL]
  refine pwp_draw 8 (by decide) ?_
  simp
  refine pd_spec hb (by simp [pntC, cnrL, stnL, itmL, spnL]) (by simp) (by simp [pntC, cnrL, stnL, itmL, spnL]) rfl ?_
  simp
  refine pd_spec (limit_spec P X) (by simp [pntC, cnrL, stnL, itmL, spnL]) (by simp) (by simp [pntC, cnrL, stnL, itmL, spnL]) rfl ?_
  simp
  refine ⟨by decide, ?_⟩
  refine answers_of rfl ?_; simp [bools, getb, heavyB]
def wetL (P : Pln) (X : Pnt) (n : Nat) : List Bool := (List.range n).map (wetB P X)
theorem wetL_length (P : Pln) (X : Pnt) (n : Nat) : (wetL P X n).length = n := by simp [wetL]
theorem wetL_succ (P : Pln) (X : Pnt) (n : Nat) : wetL P X n ++ [wetB P X n] = wetL P X (n + 1) := by simp [wetL, List.range_succ]
theorem wet_spec (P : Pln) (X : Pnt) (hf : P.floats.length ≤ 2) (hX : PntOk P X) : Spec Tryz.prog 137 [.agg (pntC P X)] (bools (wetL P X X.water.length)) := by
  have hnw := hX.nw
  refine spec_of mixed Tryz.func137 (by decide) rfl Tryz.results137 Tryz.ntmps137 (by decide) 0 (by simp) ?_
  simp [pntC, cnrL, stnL, itmL, spnL]
  refine pwp_loop (fun k : Nat => [(3, .own 28 k 0 k false), (10, .v (.int .i64 k)), (28, .rows none k 4 1 (rowsB (wetL P X k)))]) (fun k => k ≤ X.water.length) (fun k => X.water.length - k) 0 (Nat.zero_le _) (by simp; rfl) (by simp [wetL]) ?_
  intro k hk
  by_cases hkl : k < X.water.length
  · have wk := i64_wrap (show -9223372036854775808 ≤ (k : Int) + 1 ∧ _ from by omega)
    have hkf : k < P.floats.length := by omega
    have er := rowsB_snoc (wetL P X k) (wetB P X k)
    rw [wetL_succ, wetB] at er
    have et : (wetL P X k).take k = wetL P X k := List.take_of_length_le (by simp [wetL_length])
    simp [hkl, Spn.cells]
    refine pwp_draw 14 (by decide) ?_
    simp [hkl, hkf, Stn.cells, wetL_length, show k + 1 ≤ 140737488355328 from by omega, show k + 1 ≤ maxLen from by simp [maxLen]; omega]
    refine ⟨by decide, ?_⟩
    refine again_of (k + 1) (by omega) (by omega) ?_
    simp [wk, er, et]
  · obtain rfl : k = X.water.length := by omega
    simp
    refine answers_of rfl ?_
    simp [bools, wetL_length]
    intro k hk
    simp [rowsB_get (show k < (wetL P X X.water.length).length by rw [wetL_length]; exact hk)]
end Go.Qg


namespace Go.Qg
open Go.Proofs
set_option maxRecDepth 100000
set_option maxHeartbeats 16000000
attribute [local irreducible] pwp pops pdraw pop popCall pdCall thenP blockP scopeP pspec Spec answers ppost CallW rend
def outL (P : Pln) (X : Pnt) (n : Nat) : List Bool := (List.range n).map (outB P X)
theorem outL_length (P : Pln) (X : Pnt) (n : Nat) : (outL P X n).length = n := by simp [outL]
theorem outL_succ (P : Pln) (X : Pnt) (n : Nat) : outL P X n ++ [outB P X n] = outL P X (n + 1) := by simp [outL, List.range_succ]
def outV (P : Pln) (X : Pnt) (n : Nat) : PF := [.undef, .rp (pntC P X) 0, .undef, .box true [.own 15 n 0 n false], .undef, .undef, .undef, .undef, .undef, .undef, .undef, .undef, .undef, .undef, .undef, .rows none n 4 1 (rowsB (outL P X n)), .undef]
def outA (P : Pln) (X : Pnt) : PF := [.undef, .rp (pntC P X) 0, .undef, .ref 0 0, .undef, .undef, .undef, .undef, .undef, .undef, .undef, .undef, .undef, .undef, .undef, .undef, .undef]
theorem out_spec (P : Pln) (X : Pnt) (hP : PlnOk P) (hX : PntOk P X) : Spec Tryz.prog 139 [.agg (pntC P X)] (bools (outL P X P.corners.length)) := by
  have hn12 := hP.n
  have hgen := edges_gen P hP.corner (by omega)
  unfold Spec
  refine callW_ofE Tryz.func139 (by decide) rfl (congrArg Array.toList Tryz.results139) Tryz.ntmps139 17 (by simp) (by decide) fun B0 hB0 hD0 => ?_
  have hlo : ∀ s B, ECtx B0 s B → B.lo = 17 := fun _ _ h => h.1.trans hB0
  refine XW_seqP mixed hlo (by decide) ?_
  simp [pntC, cnrL, stnL, itmL, spnL]
  refine XW_seqP mixed hlo (by decide) ?_
  simp
  refine XW_seqX (XW_seqP mixed hlo (by decide) ?_)
  simp
  refine pop_spec (edges_spec P) rfl false (.inl (by simp [Pln.cells, cnrL, stnL])) (.inl rfl) rfl (by simp) ?_
  simp
  refine XW_block ?_
  refine XW_range mixed rfl (by rfl) hgen edgs_plain (by decide) (by decide) 17 (by decide) [3, 15] (by decide)
    (fun n => outV P X n) (fun n => outA P X) (fun n => [.box false [.own 1 n 0 n false], .rows none n 4 1 (rowsB (outL P X n))]) ?_ (fun n hn => ⟨rfl, ?_, slots_view (t := 8) ?_ rfl⟩) (fun n q hq => ?_) ?_
  · rw [hB0]
    simp [outV, outL, pntC, cnrL, stnL, itmL, spnL]
  · simp [outV]
  · simp [slots, outV, outA, pntC, cnrL, stnL, itmL, spnL]
  · obtain ⟨hn, rfl⟩ := edg_get hq
    have hleast := least_spec P X hP hX n hn
    have er := rowsB_snoc (outL P X n) (outB P X n)
    rw [outL_succ, outB] at er
    have et : (outL P X n).take n = outL P X n := List.take_of_length_le (by simp [outL_length])
    rw [hB0]
    simp [outA, edgC, pntC, cnrL, stnL, itmL, spnL]
    refine pwp_draw 7 (by decide) ?_
    simp
    refine pd_spec hleast (by simp [pntC, cnrL, stnL, itmL, spnL, edgC]) (by simp) (by simp [pntC, cnrL, stnL, itmL, spnL, edgC]) rfl ?_
    simp [outL_length, show n + 1 ≤ 140737488355328 from by omega, show n + 1 ≤ maxLen from by simp [maxLen]; omega]
    refine ⟨by decide, ?_⟩
    simp [er, et]
    refine rend_n [.box false [.own 1 (n + 1) 0 (n + 1) false], .rows none (n + 1) 4 1 (rowsB (outL P X (n + 1)))] ?_ ?_
    · simp [er, et]
    · simp [back, placeAll, outV, pntC, cnrL, stnL, itmL, spnL]
  · rw [edgs_length]
    simp [blockX, thenX, outV]
    refine XW_pwp mixed hlo (by decide) ?_
    simp
    refine ends_of (bools (outL P X P.corners.length)) [] [] rfl (by decide) ?_ ?_ rfl
    · simp
    · simp [bools, outL_length]
      intro k hk
      simp [rowsB_get (show k < (outL P X P.corners.length).length by rw [outL_length]; exact hk)]
abbrev IMap := List Int × List Int
def mput (m : IMap) (x v : Int) : IMap := match dfind m.1 x 0 with
  | some j => (m.1, m.2.set j v)
  | none => (m.1 ++ [x], m.2 ++ [v])
def mget (m : IMap) (x : Int) : Int := match dfind m.1 x 0 with
  | some j => geti m.2 j
  | none => 0
theorem dfind_snoc (x y : Int) : ∀ (d : List Int) (j : Nat), dfind (d ++ [x]) y j = (match dfind d y j with
  | some i => some i
  | none => if y = x then some (j + d.length) else none)
  | [], j => by
    simp only [List.nil_append, dfind]
    by_cases h : y = x <;> simp [h]
  | z :: d, j => by
    simp only [List.cons_append, dfind]
    by_cases h : y = z
    · simp [h]
    · simp only [beq_iff_eq, h, if_false]
      rw [dfind_snoc x y d (j + 1)]
      cases dfind d y (j + 1) with
      | some i => rfl
      | none => simp only [List.length_cons]; split <;> simp; omega
theorem mput_len {m : IMap} (x v : Int) (h : m.2.length = m.1.length) : (mput m x v).2.length = (mput m x v).1.length := by
  unfold mput
  split
  · simp [h]
  · simp [h]
theorem mget_put {m : IMap} (x v y : Int) (h : m.2.length = m.1.length) : mget (mput m x v) y = if y = x then v else mget m y := by
  unfold mput
  cases hd : dfind m.1 x 0 with
  | some j =>
    obtain ⟨_, h1, h2⟩ := dfind_some hd
    simp only [Nat.sub_zero] at h1 h2
    simp only [mget]
    by_cases hy : y = x
    · subst hy
      rw [hd, if_pos rfl]
      simp only
      rw [geti_set (by omega), if_pos rfl]
    · rw [if_neg hy]
      cases he : dfind m.1 y 0 with
      | none => rfl
      | some i =>
        obtain ⟨_, h3, h4⟩ := dfind_some he
        simp only [Nat.sub_zero] at h3 h4
        simp only
        rw [geti_set (by omega), if_neg]
        intro e
        subst e
        rw [h2] at h4
        exact hy (Option.some.inj h4).symm
  | none =>
    simp only [mget, dfind_snoc]
    cases he : dfind m.1 y 0 with
    | some i =>
      obtain ⟨_, h3, _⟩ := dfind_some he
      simp only [Nat.sub_zero] at h3
      have hy : y ≠ x := fun e => by rw [e, hd] at he; cases he
      simp only [if_neg hy, geti, List.getD_eq_getElem?_getD]
      rw [List.getElem?_append_left (by omega)]
    | none =>
      by_cases hy : y = x
      · simp [hy, geti, ← h]
      · simp [hy]
theorem keysI_get {v : List Int} {j : Nat} (h : j < v.length) : (keysI v)[j]? = some (.v (.int .i64 (geti v j))) := by simp [keysI, geti, h]
theorem keysI_setv (v : List Int) (j : Nat) (x : Int) : (keysI v).set j (.v (.int .i64 x)) = keysI (v.set j x) := by simp [keysI, List.map_set]
def sumTo (l : List Itm) : Nat → IMap
  | 0 => ([], [])
  | k + 1 => mput (sumTo l k) (itmAt l k).station (mget (sumTo l k) (itmAt l k).station + (itmAt l k).high)
theorem sumTo_len (l : List Itm) : ∀ k, (sumTo l k).2.length = (sumTo l k).1.length
  | 0 => rfl
  | k + 1 => mput_len _ _ (sumTo_len l k)
def stSum (l : List Itm) (x : Int) (k : Nat) : Int := sumN (fun i => if (itmAt l i).station = x then (itmAt l i).high else 0) k
theorem sumTo_get (l : List Itm) (x : Int) : ∀ k, mget (sumTo l k) x = stSum l x k
  | 0 => rfl
  | k + 1 => by
    rw [sumTo, mget_put _ _ _ (sumTo_len l k), stSum, sumN]
    by_cases h : x = (itmAt l k).station
    · rw [if_pos h, if_pos h.symm, h, sumTo_get l _ k, stSum]
    · rw [if_neg h, if_neg (fun e => h e.symm), sumTo_get l x k, stSum]; omega
def overL (P : Pln) (X : Pnt) (n : Nat) : List Bool := (List.range n).map (overB P X)
theorem overL_length (P : Pln) (X : Pnt) (n : Nat) : (overL P X n).length = n := by simp [overL]
theorem overL_succ (P : Pln) (X : Pnt) (n : Nat) : overL P X n ++ [overB P X n] = overL P X (n + 1) := by simp [overL, List.range_succ]
theorem stSum_small {P : Pln} {X : Pnt} (hX : PntOk P X) (x : Int) {k : Nat} (hk : k ≤ X.items.length) : Small 240000 (stSum X.items x k) := by
  have hn := hX.n
  have h := sumN_small (f := fun i => if (itmAt X.items i).station = x then (itmAt X.items i).high else 0) (b := 20000) (by omega) (n := k) fun i hi => by
    have h1 := hX.item i (by omega)
    simp only [Small]
    split <;> omega
  simp only [Small, stSum] at *
  omega
theorem over_spec (P : Pln) (X : Pnt) (hX : PntOk P X) (hs : P.stations.length ≤ 8) : Spec Tryz.prog 135 [.agg (pntC P X)] (bools (overL P X P.stations.length)) := by
  have hn := hX.n
  refine spec_of mixed Tryz.func135 (by decide) rfl Tryz.results135 Tryz.ntmps135 (by decide) 0 (by simp) ?_
  simp [pntC, cnrL, stnL, itmL, spnL]
  refine pwp_loop (fun k : Nat => [(9, .map true (keysI (sumTo X.items k).1) (keysI (sumTo X.items k).2)), (14, .v (.int .i64 k))]) (fun k => k ≤ X.items.length) (fun k => X.items.length - k) 0 (Nat.zero_le _) (by simp; rfl) (by simp [sumTo]) ?_
  intro k hk
  by_cases hkl : k < X.items.length
  · have wk := i64_wrap (show -9223372036854775808 ≤ (k : Int) + 1 ∧ _ from by omega)
    have hfind := pkfind_ints (P := Tryz.prog) (t := 3) (by rfl) (sumTo X.items k).1 (itmAt X.items k).station 0
    have hkey : pkeyOk Tryz.prog 3 (.v (.int .i64 (itmAt X.items k).station)) = true := by simp [pkeyOk]
    have hlen := sumTo_len X.items k
    have hget := sumTo_get X.items (itmAt X.items k).station k
    have hsm := stSum_small hX (itmAt X.items k).station hk
    have hit := hX.item k hkl
    have hsucc : sumTo X.items (k + 1) = mput (sumTo X.items k) (itmAt X.items k).station (mget (sumTo X.items k) (itmAt X.items k).station + (itmAt X.items k).high) := rfl
    simp only [Small, ← hget] at hsm
    cases hd : dfind (sumTo X.items k).1 (itmAt X.items k).station 0 with
    | none =>
      rw [hd] at hfind
      have hz : mget (sumTo X.items k) (itmAt X.items k).station = 0 := by simp [mget, hd]
      have w1 := i64_wrap (show -9223372036854775808 ≤ (itmAt X.items k).high ∧ _ from by omega)
      simp only [mput, hd, hz, Int.zero_add] at hsucc
      simp [hkl, Itm.cells, hfind, hkey, w1]
      refine again_of (k + 1) (by omega) (by omega) ?_
      simp [wk, hsucc, keysI_snoc]
    | some j =>
      rw [hd] at hfind
      obtain ⟨_, hj1, hj2⟩ := dfind_some hd
      simp only [Nat.sub_zero] at hj1 hj2
      have hz : mget (sumTo X.items k) (itmAt X.items k).station = geti (sumTo X.items k).2 j := by simp [mget, hd]
      have hv := keysI_get (v := (sumTo X.items k).2) (j := j) (by omega)
      rw [hz] at hsm
      have w1 := i64_wrap (show -9223372036854775808 ≤ geti (sumTo X.items k).2 j + (itmAt X.items k).high ∧ _ from by omega)
      simp only [mput, hd, hz] at hsucc
      simp [hkl, Itm.cells, hfind, hkey, hv, w1]
      refine again_of (k + 1) (by omega) (by omega) ?_
      simp [wk, hsucc, keysI_set hd, keysI_setv]
  · obtain rfl : k = X.items.length := by omega
    simp
    refine pwp_loop (fun k : Nat => [(6, .own 45 k 0 k false), (32, .v (.int .i64 k)), (45, .rows none k 4 1 (rowsB (overL P X k)))]) (fun k => k ≤ P.stations.length) (fun k => P.stations.length - k) 0 (Nat.zero_le _) (by simp; rfl) (by simp [overL]) ?_
    intro k hk
    by_cases hkl : k < P.stations.length
    · have wk := i64_wrap (show -9223372036854775808 ≤ (k : Int) + 1 ∧ _ from by omega)
      have er := rowsB_snoc (overL P X k) (overB P X k)
      rw [overL_succ, overB] at er
      have et : (overL P X k).take k = overL P X k := List.take_of_length_le (by simp [overL_length])
      have hfind := pkfind_ints (P := Tryz.prog) (t := 3) (by rfl) (sumTo X.items X.items.length).1 (k : Int) 0
      have hkey : pkeyOk Tryz.prog 3 (.v (.int .i64 (k : Int))) = true := by simp [pkeyOk]
      have hlen := sumTo_len X.items X.items.length
      have hget := sumTo_get X.items (k : Int) X.items.length
      cases hd : dfind (sumTo X.items X.items.length).1 (k : Int) 0 with
      | none =>
        rw [hd] at hfind
        have hz : stSum X.items (k : Int) X.items.length = 0 := by rw [← hget]; simp [mget, hd]
        simp only [stSum] at hz
        rw [hz] at er
        simp [hkl, Stn.cells, hfind, hkey, overL_length, show k + 1 ≤ 140737488355328 from by omega, show k + 1 ≤ maxLen from by simp [maxLen]; omega]
        refine again_of (k + 1) (by omega) (by omega) ?_
        simp [wk, er, et]
      | some j =>
        rw [hd] at hfind
        obtain ⟨_, hj1, hj2⟩ := dfind_some hd
        simp only [Nat.sub_zero] at hj1 hj2
        have hv := keysI_get (v := (sumTo X.items X.items.length).2) (j := j) (by omega)
        have hz : geti (sumTo X.items X.items.length).2 j = stSum X.items (k : Int) X.items.length := by rw [← hget]; simp [mget, hd]
        rw [hz] at hv
        simp only [← stSum.eq_1] at er
        simp [hkl, Stn.cells, hfind, hkey, hv, overL_length, show k + 1 ≤ 140737488355328 from by omega, show k + 1 ≤ maxLen from by simp [maxLen]; omega]
        refine again_of (k + 1) (by omega) (by omega) ?_
        simp [wk, er, et]
    · obtain rfl : k = P.stations.length := by omega
      simp
      refine answers_of rfl ?_
      simp [bools, overL_length]
      intro k hk
      simp [rowsB_get (show k < (overL P X P.stations.length).length by rw [overL_length]; exact hk)]
end Go.Qg


namespace Go.Qg
open Go.Proofs
set_option maxRecDepth 100000
set_option maxHeartbeats 16000000
attribute [local irreducible] pwp pops pdraw pop popCall pdCall thenP blockP scopeP pspec Spec answers ppost CallW rend
@[simp] theorem wrap_4 : IntKind.i64.wrap 4 = 4 := i64_wrap (by omega)
@[simp] theorem wrap_5 : IntKind.i64.wrap 5 = 5 := i64_wrap (by omega)
@[simp] theorem wrap_6 : IntKind.i64.wrap 6 = 6 := i64_wrap (by omega)
@[simp] theorem wrap_7 : IntKind.i64.wrap 7 = 7 := i64_wrap (by omega)
def rl (P : Pln) (X : Pnt) (r : Nat) : List Bool := (List.range (manyR P (r + 2))).map (canB P X (r + 2))
theorem rl_length (P : Pln) (X : Pnt) (r : Nat) : (rl P X r).length = manyR P (r + 2) := by simp [rl]
theorem rl_get {P : Pln} {X : Pnt} {r i : Nat} (h : i < manyR P (r + 2)) : getb (rl P X r) i = canB P X (r + 2) i := by simp [rl, getb, h]
def ruleF : Nat → FuncId
  | 0 => 135
  | 1 => 136
  | 2 => 137
  | 3 => 138
  | 4 => 139
  | _ => 140
theorem rule_spec (P : Pln) (X : Pnt) (hP : PlnOk P) (hX : PntOk P X) {r : Nat} (hr : r < 6) : Spec Tryz.prog (ruleF r) [.agg (pntC P X)] (bools (rl P X r)) := by
  rcases r with _ | _ | _ | _ | _ | _ | r
  · rw [show rl P X 0 = overL P X P.stations.length from rfl]; exact over_spec P X hX hP.ns
  · rw [show rl P X 1 = [fullB P X] from rfl]; exact full_spec P X
  · rw [show rl P X 2 = wetL P X X.water.length from by rw [hX.nw]; rfl]; exact wet_spec P X hP.nf hX
  · rw [show rl P X 3 = [heavyB P X] from rfl]; exact heavy_spec P X hP hX
  · rw [show rl P X 4 = outL P X P.corners.length from rfl]; exact out_spec P X hP hX
  · rw [show rl P X 5 = [shortB P X] from rfl]; exact short_spec P X
  · omega
def rulesV (P : Pln) (X : Pnt) : PV := .agg [.clo (.func (ruleF 0)) [.agg (pntC P X)] [], .clo (.func (ruleF 1)) [.agg (pntC P X)] [], .clo (.func (ruleF 2)) [.agg (pntC P X)] [], .clo (.func (ruleF 3)) [.agg (pntC P X)] [], .clo (.func (ruleF 4)) [.agg (pntC P X)] [], .clo (.func (ruleF 5)) [.agg (pntC P X)] []]
theorem rules_spec (P : Pln) (X : Pnt) : Spec Tryz.prog 110 [.agg (pntC P X)] (rulesV P X) := by
  refine spec_of mixed Tryz.func110 (by decide) rfl Tryz.results110 Tryz.ntmps110 (by decide) 0 (by simp) ?_
  simp [pntC, cnrL, stnL, itmL, spnL]
  refine answers_of (x := rulesV P X) (by simp [rulesV, pntC, cnrL, stnL, itmL, spnL, ruleF]) ?_
  simp [rulesV, pntC, cnrL, stnL, itmL, spnL, ruleF]
theorem broken_none {P : Pln} {X : Pnt} (h : ∀ q, q < 6 → ∀ i, i < manyR P (q + 2) → canB P X (q + 2) i = false) : brokenP P X = (1, 0) := by
  rcases brokenF_spec (p := canB P X) (many := manyR P) 6 2 with ⟨h1, _⟩ | ⟨q, i, h1, h2, h3, h4, _⟩
  · exact h1
  · have := h (q - 2) (by omega) i (by rw [show q - 2 + 2 = q from by omega]; exact h3)
    rw [show q - 2 + 2 = q from by omega, h4] at this; cases this
theorem broken_some {P : Pln} {X : Pnt} {r i : Nat} (hr : r < 6) (h0 : ∀ q, q < r → ∀ i, i < manyR P (q + 2) → canB P X (q + 2) i = false) (hi : i < manyR P (r + 2)) (h1 : ∀ j, j < i → canB P X (r + 2) j = false) (h2 : canB P X (r + 2) i = true) : brokenP P X = (r + 2, i) := by
  rcases brokenF_spec (p := canB P X) (many := manyR P) 6 2 with ⟨_, g⟩ | ⟨q, k, g1, g2, g3, g4, g5, g6⟩
  · have := g (r + 2) (by omega) (by omega) i hi
    rw [h2] at this; cases this
  · have hq : q = r + 2 := by
      rcases Nat.lt_trichotomy q (r + 2) with h | h | h
      · have := h0 (q - 2) (by omega) k (by rw [show q - 2 + 2 = q from by omega]; exact g3)
        rw [show q - 2 + 2 = q from by omega, g4] at this; cases this
      · exact h
      · have := g6 (r + 2) (by omega) h i hi
        rw [h2] at this; cases this
    subst hq
    have hk : k = i := by
      rcases Nat.lt_trichotomy k i with h | h | h
      · have := h1 k h; rw [g4] at this; cases this
      · exact h
      · have := g5 i h; rw [h2] at this; cases this
    subst hk
    exact g1
theorem manyR_le {P : Pln} (hP : PlnOk P) (r : Nat) : manyR P r ≤ 12 := by
  have := hP.n; have := hP.ns; have := hP.nf
  unfold manyR; split
  · omega
  · split
    · omega
    · split <;> omega
theorem broken_spec (P : Pln) (X : Pnt) (hP : PlnOk P) (hX : PntOk P X) : Spec Tryz.prog 84 [.agg (pntC P X)] (.tup [.v (.int .i64 (brokenP P X).1), .v (.int .i64 (brokenP P X).2)]) := by
  have hrs := rules_spec P X
  have hr := fun r (h : r < 6) => rule_spec P X hP hX h
  have hml := manyR_le hP
  simp only [rulesV] at hrs
  refine spec_of mixed Tryz.func84 (by decide) rfl Tryz.results84 Tryz.ntmps84 (by decide) 0 (by simp) ?_
  have hpc : pntC P X = [.v (.int .i64 P.empty), .v (.int .i64 P.moment), .v (.int .i64 P.takeoff), .v (.int .i64 P.landing), cnrL P.corners, stnL P.stations, .v (.int .i64 P.tank.arm), .v (.int .i64 P.tank.most), .v (.int .i64 P.reserve), stnL P.floats, itmL X.items, .v (.int .i64 X.tank.low), .v (.int .i64 X.tank.high), spnL X.water, .v (.bool X.landing)] := rfl
  simp [hpc, cnrL, stnL, itmL, spnL]
  refine pop_spec hrs rfl false (.inl (by simp [hpc, cnrL, stnL, itmL, spnL])) (.inl rfl) rfl (by simp [hpc, cnrL, stnL, itmL, spnL]) ?_
  simp [hpc, cnrL, stnL, itmL, spnL]
  refine pwp_loop (fun r : Nat => [(10, .v (.int .i64 r))]) (fun r => r ≤ 6 ∧ ∀ q, q < r → ∀ i, i < manyR P (q + 2) → canB P X (q + 2) i = false) (fun r => 6 - r) 0 ⟨Nat.zero_le _, fun q h => by omega⟩ (by simp; rfl) (by simp [hpc, cnrL, stnL, itmL, spnL]) ?_
  intro r ⟨hr6, hno⟩
  by_cases hlt : r < 6
  · have hcall := hr r hlt
    have hm := hml (r + 2)
    have hl := rl_length P X r
    have hg := fun i (h : i < manyR P (r + 2)) => rl_get (P := P) (X := X) (r := r) h
    have hfound := fun i => broken_some (P := P) (X := X) (r := r) (i := i) hlt hno
    have hmore : (∀ i, i < manyR P (r + 2) → canB P X (r + 2) i = false) → ∀ q, q < r + 1 → ∀ i, i < manyR P (q + 2) → canB P X (q + 2) i = false := fun h q hq => by
      rcases Nat.lt_or_eq_of_le (Nat.le_of_lt_succ hq) with h' | rfl
      · exact hno q h'
      · exact h
    generalize rl P X r = L at hcall hl hg
    have hcases : r = 0 ∨ r = 1 ∨ r = 2 ∨ r = 3 ∨ r = 4 ∨ r = 5 := by omega
    rcases hcases with rfl | rfl | rfl | rfl | rfl | rfl
    all_goals
      simp only [ruleF] at hcall
      simp [ruleF]
      refine pop_spec hcall rfl false (.inl (by simp [hpc, cnrL, stnL, itmL, spnL])) (.inl rfl) rfl (by simp [bools]) ?_
      simp [bools]
      refine pwp_loop (fun i : Nat => [(17, .v (.int .i64 i))]) (fun i => i ≤ L.length ∧ ∀ j, j < i → getb L j = false) (fun i => L.length - i) 0 ⟨Nat.zero_le _, fun j h => by omega⟩ (by simp; rfl) (by simp) ?_
      intro i ⟨hi, hf⟩
      by_cases hil : i < L.length
      · have wi := i64_wrap (show -9223372036854775808 ≤ (i : Int) + 1 ∧ _ from by omega)
        have hgi := hg i (by omega)
        cases hb : getb L i with
        | true =>
          simp [hil, hb]
          refine answers_of rfl ?_
          rw [hfound i (by omega) (fun j hj => by rw [← hg j (by omega)]; exact hf j hj) (by rw [← hgi, hb])]
          simp
        | false =>
          simp [hil, hb]
          refine again_of (i + 1) ⟨by omega, fun j hj => ?_⟩ (by omega) ?_
          · rcases Nat.lt_or_eq_of_le (Nat.le_of_lt_succ hj) with h' | rfl
            · exact hf j h'
            · exact hb
          · simp [wi]
      · obtain rfl : i = L.length := by omega
        simp
        refine again_of (_ + 1) ⟨by omega, hmore fun i hi => by rw [← hg i hi]; exact hf i (by omega)⟩ (by omega) ?_
        simp
  · obtain rfl : r = 6 := by omega
    simp
    refine answers_of rfl ?_
    rw [broken_none hno]
    simp
end Go.Qg


namespace Go.Qg
open Go.Proofs
set_option maxRecDepth 100000
set_option maxHeartbeats 32000000
attribute [local irreducible] pwp pops pdraw pop popCall pdCall thenP blockP scopeP pspec Spec answers ppost CallW rend
def worstN (P : Pln) (X : Pnt) (r i n : Nat) : Bool := if n < X.items.length then worstI P X r i n else if n = X.items.length then worstT P r i else worstF P r i (n - X.items.length - 1)
theorem part_cases (P : Pln) (X : Pnt) {n : Nat} (hn : n < partK X) : (n < X.items.length ∧ (partN P X n).kind = 0 ∧ (partN P X n).idx = n ∧ (partN P X n).arm = armI P X n) ∨ (n = X.items.length ∧ (partN P X n).kind = 1 ∧ (partN P X n).arm = P.tank.arm) ∨
    (X.items.length < n ∧ n - X.items.length - 1 < X.water.length ∧ (partN P X n).kind = 2 ∧ (partN P X n).idx = n - X.items.length - 1 ∧ (partN P X n).arm = armF P (n - X.items.length - 1)) := by
  unfold partN partK at *
  rcases Nat.lt_trichotomy n X.items.length with h | h | h
  · left; simp [h, partI']
  · right; left; simp [h, partT]
  · right; right
    rw [if_neg (by omega), if_neg (by omega)]
    exact ⟨h, by omega, rfl, rfl, rfl⟩
def w1V (P : Pln) (X : Pnt) (i n : Nat) : PF := [.undef, .rp [.v (.int .i64 6)] 0, .rp (pntC P X) 0, .rp [.v (.int .i64 i)] 0, .rp (partN P X n).cells 0, .box true [.v (.bool false)], .undef, .undef, .undef, .undef, .undef, .undef, .undef, .undef, .undef, .undef, .undef, .undef, .undef, .undef, .undef, .undef, .undef, .undef, .undef, .undef, .undef, .undef, .undef, .undef, .undef, .undef, .undef, .undef, .undef, .undef, .undef, .undef, .undef, .undef, .undef, .undef, .undef, .undef, .undef, .undef, .undef, .undef, .undef, .undef, .undef, .undef, .undef, .undef, .undef, .undef, .undef, .undef]
def w1A (P : Pln) (X : Pnt) (i n : Nat) : PF := [.undef, .rp [.v (.int .i64 6)] 0, .rp (pntC P X) 0, .rp [.v (.int .i64 i)] 0, .rp (partN P X n).cells 0, .ref 0 0, .undef, .undef, .undef, .undef, .undef, .undef, .undef, .undef, .undef, .undef, .undef, .undef, .undef, .undef, .undef, .undef, .undef, .undef, .undef, .undef, .undef, .undef, .undef, .undef, .undef, .undef, .undef, .undef, .undef, .undef, .undef, .undef, .undef, .undef, .undef, .undef, .undef, .undef, .undef, .undef, .undef, .undef, .undef, .undef, .undef, .undef, .undef, .undef, .undef, .undef, .undef, .undef]
theorem worst1_spec (P : Pln) (X : Pnt) (hP : PlnOk P) (hX : PntOk P X) (r i : Nat) (hr : 2 ≤ r ∧ r ≤ 7) (hi : i < manyR P r) (n : Nat) (hn : n < partK X) :
    Spec Tryz.prog 115 [.agg (partN P X n).cells, .rp [.v (.int .i64 r)] 0, .rp (pntC P X) 0, .rp [.v (.int .i64 i)] 0] (.v (.bool (worstN P X r i n))) := by
  have hn12 := hP.n
  have hgen := edges_gen P hP.corner (by omega)
  have hcases := part_cases P X hn
  have hsm := part_small hP hX hn
  have hni := hX.n
  unfold Spec
  refine callW_ofE Tryz.func115 (by decide) rfl (congrArg Array.toList Tryz.results115) Tryz.ntmps115 58 (by simp) (by decide) fun B0 hB0 hD0 => ?_
  have hlo : ∀ s B, ECtx B0 s B → B.lo = 58 := fun _ _ h => h.1.trans hB0
  have hr6 : r = 2 ∨ r = 3 ∨ r = 4 ∨ r = 5 ∨ r = 6 ∨ r = 7 := by omega
  rcases hr6 with rfl | rfl | rfl | rfl | rfl | rfl
  · refine XW_pwp mixed hlo (by decide) ?_
    rcases hcases with ⟨c1, c2, c3, c4⟩ | ⟨c1, c2, c4⟩ | ⟨c1, c0, c2, c3, c4⟩
    · simp [Prt.cells, c2, c3]
      refine pwp_draw 15 (by decide) ?_
      simp [pntC, itmL, Itm.cells, c1, c2, c3]
      refine ⟨by decide, ?_⟩
      refine ends_of (.v (.bool (worstN P X 2 i n))) [] [] (x := .v (.bool ((itmAt X.items n).station == (i : Int)))) (by simp) (by decide) ?_ ?_ rfl
      · simp
      · by_cases h : (itmAt X.items n).station = (i : Int) <;> simp [worstN, worstI, c1, h]
    · simp [Prt.cells, c2]
      refine pwp_draw 15 (by decide) ?_
      simp [c2]
      refine ⟨by decide, ?_⟩
      refine ends_of (.v (.bool (worstN P X 2 i n))) [] [] (x := .v (.bool false)) (by simp) (by decide) ?_ ?_ rfl
      · simp
      · simp [worstN, worstT, c1]
    · simp [Prt.cells, c2]
      refine pwp_draw 15 (by decide) ?_
      simp [c2]
      refine ⟨by decide, ?_⟩
      refine ends_of (.v (.bool (worstN P X 2 i n))) [] [] (x := .v (.bool false)) (by simp) (by decide) ?_ ?_ rfl
      · simp
      · simp [worstN, worstF, show ¬ n < X.items.length from by omega, show ¬ n = X.items.length from by omega]
  · refine XW_pwp mixed hlo (by decide) ?_
    rcases hcases with ⟨c1, c2, c3, c4⟩ | ⟨c1, c2, c4⟩ | ⟨c1, c0, c2, c3, c4⟩
    · simp [Prt.cells, c2, c3]
      refine ends_of (.v (.bool (worstN P X 3 i n))) [] [] (x := .v (.bool false)) (by simp) (by decide) ?_ ?_ rfl
      · simp
      · simp [worstN, worstI, c1]
    · simp [Prt.cells, c2]
      refine ends_of (.v (.bool (worstN P X 3 i n))) [] [] (x := .v (.bool true)) (by simp) (by decide) ?_ ?_ rfl
      · simp
      · simp [worstN, worstT, c1]
    · simp [Prt.cells, c2]
      refine ends_of (.v (.bool (worstN P X 3 i n))) [] [] (x := .v (.bool false)) (by simp) (by decide) ?_ ?_ rfl
      · simp
      · simp [worstN, worstF, show ¬ n < X.items.length from by omega, show ¬ n = X.items.length from by omega]
  · refine XW_pwp mixed hlo (by decide) ?_
    rcases hcases with ⟨c1, c2, c3, c4⟩ | ⟨c1, c2, c4⟩ | ⟨c1, c0, c2, c3, c4⟩
    · simp [Prt.cells, c2, c3]
      refine ends_of (.v (.bool (worstN P X 4 i n))) [] [] (x := .v (.bool false)) (by simp) (by decide) ?_ ?_ rfl
      · simp
      · simp [worstN, worstI, c1]
    · simp [Prt.cells, c2]
      refine ends_of (.v (.bool (worstN P X 4 i n))) [] [] (x := .v (.bool false)) (by simp) (by decide) ?_ ?_ rfl
      · simp
      · simp [worstN, worstT, c1]
    · generalize hk : n - X.items.length - 1 = k at *
      simp [Prt.cells, c2, c3]
      refine ends_of (.v (.bool (worstN P X 4 i n))) [] [] (x := .v (.bool ((k : Int) == (i : Int)))) (by simp) (by decide) ?_ ?_ rfl
      · simp
      · by_cases h : k = i
        · simp [worstN, worstF, show ¬ n < X.items.length from by omega, show ¬ n = X.items.length from by omega, hk, h]
        · simp [worstN, worstF, show ¬ n < X.items.length from by omega, show ¬ n = X.items.length from by omega, hk, h, show ¬ (k : Int) = i from by omega]
  · refine XW_pwp mixed hlo (by decide) ?_
    simp [Prt.cells]
    refine ends_of (.v (.bool (worstN P X 5 i n))) [] [] (x := .v (.bool true)) (by simp) (by decide) ?_ ?_ rfl
    · simp
    · simp [worstN, worstI, worstT, worstF]
  · have hic : i < P.corners.length := by simpa [manyR] using hi
    have hw : worstN P X 6 i n = decide (P.slope i (partN P X n).arm < 0) := by
      rcases hcases with ⟨c1, c2, c3, c4⟩ | ⟨c1, c2, c4⟩ | ⟨c1, c0, c2, c3, c4⟩
      · simp [worstN, c1, worstI, c4]
      · rw [c4]; simp [worstN, c1, worstT]
      · rw [c4]
        simp [worstN, worstF, show ¬ n < X.items.length from by omega, show ¬ n = X.items.length from by omega]
    rw [hw]
    refine XW_seqP mixed hlo (by decide) ?_
    simp [Prt.cells]
    refine XW_seqX (XW_seqP mixed hlo (by decide) ?_)
    simp
    refine XW_block ?_
    refine XW_seqP mixed hlo (by decide) ?_
    simp
    refine XW_cond (b := false) rfl ?_
    simp
    refine XW_seqP mixed hlo (by decide) ?_
    simp
    refine XW_cond (b := false) rfl ?_
    simp
    refine XW_seqP mixed hlo (by decide) ?_
    simp
    refine XW_cond (b := false) rfl ?_
    simp
    refine XW_seqP mixed hlo (by decide) ?_
    simp
    refine XW_cond (b := false) rfl ?_
    simp
    refine XW_seqP mixed hlo (by decide) ?_
    simp
    refine XW_cond (b := true) rfl ?_
    simp
    refine XW_seqP mixed hlo (by decide) ?_
    simp [pntC]
    refine pop_spec (edges_spec P) rfl false (.inl (by simp [Pln.cells, cnrL, stnL])) (.inl rfl) rfl (by simp) ?_
    simp
    refine XW_block ?_
    refine XW_rangeI (by decide) mixed rfl (by rfl) hgen edgs_plain (by decide) (by decide) 58 (by decide) [5] (by decide)
      (fun m => if m ≤ i then w1V P X i n else [])
      (fun m => w1A P X i n)
      (fun m => [.box false [.v (.bool false)]]) ?_ (fun m hm hV => ?_) (fun m q hq hV => ?_) ?_
    · rw [hB0]
      simp [w1V, Prt.cells, pntC, cnrL, stnL, itmL, spnL]
    · by_cases hs : m ≤ i
      · rw [if_pos hs]
        refine ⟨rfl, ?_, slots_view (t := 48) ?_ rfl⟩
        · simp [w1V]
        · simp [slots, w1V, w1A, Prt.cells, pntC, cnrL, stnL, itmL, spnL]
      · rw [if_neg hs] at hV; exact (hV rfl).elim
    · obtain ⟨hm, rfl⟩ := edg_get hq
      obtain ⟨s1, s2, s3, s4⟩ := edg_small hP.corner hm
      have hslope := slope_spec (m : Int) (P.cA m).weight (P.cA m).moment (P.dw m) (P.dm m) (partN P X n).arm s3 s4 hsm.1
      rw [show P.dw m * (partN P X n).arm - P.dm m = P.slope m (partN P X n).arm from rfl] at hslope
      rw [hB0]
      by_cases hs : m ≤ i
      · rw [if_pos hs]
        by_cases he : m = i
        · subst he
          simp [w1A, edgC, Prt.cells]
          refine pop_spec hslope rfl false (.inl (by simp)) (.inl rfl) rfl (by simp) ?_
          simp
          refine rend_r [.box false [.v (.bool (decide (P.slope m (partN P X n).arm < 0)))]] ?_ ?_
          · simp
          · simp [back, placeAll, w1V, blockX, thenX]
            refine ends_of (.v (.bool (decide (P.slope m (partN P X n).arm < 0)))) [] [] rfl (by decide) ?_ ?_ rfl
            · simp
            · simp
        · simp [w1A, edgC, Prt.cells, he, show ¬ (m : Int) = i from by omega]
          refine rend_n [.box false [.v (.bool false)]] ?_ ?_
          · simp
          · simp [back, placeAll, w1V, show m + 1 ≤ i from by omega, Prt.cells, pntC, cnrL, stnL, itmL, spnL]
      · rw [if_neg hs] at hV; exact (hV rfl).elim
    · intro hV
      rw [edgs_length, if_neg (by omega)] at hV
      exact (hV rfl).elim
  · refine XW_pwp mixed hlo (by decide) ?_
    simp [Prt.cells]
    refine ends_of (.v (.bool (worstN P X 7 i n))) [] [] (x := .v (.bool false)) (by simp) (by decide) ?_ ?_ rfl
    · simp
    · simp [worstN, worstI, worstT, worstF]
def wcI (P : Pln) (X : Pnt) (r i n : Nat) : List Int := (List.range (min n X.items.length)).map fun j => pickS (worstI P X r i j) (itmAt X.items j).low (itmAt X.items j).high
def wcT (P : Pln) (X : Pnt) (r i n : Nat) : Int := if X.items.length < n then pickS (worstT P r i) X.tank.low X.tank.high else 0
def wcF (P : Pln) (X : Pnt) (r i n : Nat) : List Int := (List.range (n - X.items.length - 1)).map fun j => pickS (worstF P r i j) (spnAt X.water j).low (spnAt X.water j).high
def wsV (P : Pln) (X : Pnt) (r i n : Nat) : PF := [.undef, .undef, .undef, .undef, .undef, .undef, .box true [.nil, .v (.int .i64 0), .nil], .rp [.clo (.func 115) [] [.rp [.v (.int .i64 r)] 0, .rp (pntC P X) 0, .rp [.v (.int .i64 i)] 0]] 0,
  .box true [.own 32 (wcI P X r i n).length 0 (wcI P X r i n).length false, .v (.int .i64 (wcT P X r i n)), .own 44 (wcF P X r i n).length 0 (wcF P X r i n).length false], .undef, .undef, .undef, .undef, .undef, .undef, .undef, .undef, .undef, .undef, .undef, .undef, .undef, .undef, .undef, .undef, .undef, .undef, .undef, .undef, .undef, .undef, .undef, .rows none (wcI P X r i n).length 3 1 (rowsI (wcI P X r i n)), .undef, .undef, .undef, .undef, .undef, .undef, .undef, .undef, .undef, .undef, .undef, .rows none (wcF P X r i n).length 3 1 (rowsI (wcF P X r i n)), .undef, .undef]
def wsA (P : Pln) (X : Pnt) (r i : Nat) : PF := [.undef, .undef, .undef, .undef, .undef, .undef, .undef, .rp [.clo (.func 115) [] [.rp [.v (.int .i64 r)] 0, .rp (pntC P X) 0, .rp [.v (.int .i64 i)] 0]] 0, .ref 0 0, .undef, .undef, .undef, .undef, .undef, .undef, .undef, .undef, .undef, .undef, .undef, .undef, .undef, .undef, .undef, .undef, .undef, .undef, .undef, .undef, .undef, .undef, .undef, .undef, .undef, .undef, .undef, .undef, .undef, .undef, .undef, .undef, .undef, .undef, .undef, .undef, .undef, .undef]
def wsH (P : Pln) (X : Pnt) (r i n : Nat) : PF := [.box false [.own 1 (wcI P X r i n).length 0 (wcI P X r i n).length false, .v (.int .i64 (wcT P X r i n)), .own 2 (wcF P X r i n).length 0 (wcF P X r i n).length false], .rows none (wcI P X r i n).length 3 1 (rowsI (wcI P X r i n)), .rows none (wcF P X r i n).length 3 1 (rowsI (wcF P X r i n))]
theorem wcI_len {P : Pln} {X : Pnt} {r i n : Nat} (h : n ≤ X.items.length) : (wcI P X r i n).length = n := by simp [wcI]; omega
theorem wcI_lenE {P : Pln} {X : Pnt} {r i n : Nat} (h : X.items.length ≤ n) : (wcI P X r i n).length = X.items.length := by simp [wcI]; omega
theorem wcI_succ {P : Pln} {X : Pnt} {r i n : Nat} (h : n < X.items.length) : wcI P X r i n ++ [pickS (worstI P X r i n) (itmAt X.items n).low (itmAt X.items n).high] = wcI P X r i (n + 1) := by
  simp only [wcI, Nat.min_eq_left (show n ≤ X.items.length by omega), Nat.min_eq_left (show n + 1 ≤ X.items.length by omega), List.range_succ, List.map_append, List.map_cons, List.map_nil]
theorem wcI_end {P : Pln} {X : Pnt} {r i n : Nat} (h : X.items.length ≤ n) : wcI P X r i (n + 1) = wcI P X r i n := by
  simp only [wcI, Nat.min_eq_right h, Nat.min_eq_right (show X.items.length ≤ n + 1 by omega)]
theorem wcF_nil {P : Pln} {X : Pnt} {r i n : Nat} (h : n ≤ X.items.length + 1) : wcF P X r i n = [] := by simp [wcF, show n - X.items.length - 1 = 0 from by omega]
theorem wcF_len (P : Pln) (X : Pnt) (r i n : Nat) : (wcF P X r i n).length = n - X.items.length - 1 := by simp [wcF]
theorem wcF_succ {P : Pln} {X : Pnt} {r i n : Nat} (h : X.items.length < n) : wcF P X r i n ++ [pickS (worstF P r i (n - X.items.length - 1)) (spnAt X.water (n - X.items.length - 1)).low (spnAt X.water (n - X.items.length - 1)).high] = wcF P X r i (n + 1) := by
  rw [wcF, wcF, show n + 1 - X.items.length - 1 = (n - X.items.length - 1) + 1 from by omega, List.range_succ, List.map_append]; rfl
def cseO (c : Cse) : PV := .agg [.own 0 c.items.length 0 c.items.length false, .v (.int .i64 c.tank), .own 1 c.water.length 0 c.water.length false]
def cseH (c : Cse) : PF := [.rows none c.items.length 3 1 (rowsI c.items), .rows none c.water.length 3 1 (rowsI c.water)]
theorem worst_both (b : Bool) (P : Pln) (X : Pnt) (hP : PlnOk P) (hX : PntOk P X) (r i : Nat) (hr : 2 ≤ r ∧ r ≤ 7) (hi : i < manyR P r) :
    CallW Tryz.prog 85 [.agg (pntC P X), .v (.int .i64 r), .v (.int .i64 i)] [] (fun out => out = bif b then .ret (cseO (worstC P X r i)) (cseH (worstC P X r i)) else .ret (.agg (worstC P X r i).cells) []) := by
  have hgen := parts_gen P X hX hP.nf
  have hw1 := worst1_spec P X hP hX r i hr hi
  have hni := hX.n
  have hK := partK_le hP hX
  refine callW_ofE Tryz.func85 (by decide) rfl (congrArg Array.toList Tryz.results85) Tryz.ntmps85 47 (by simp) (by decide) fun B0 hB0 hD0 => ?_
  have hlo : ∀ s B, ECtx B0 s B → B.lo = 47 := fun _ _ h => h.1.trans hB0
  refine XW_seqP mixed hlo (by decide) ?_
  simp [pntC, cnrL, stnL, itmL, spnL]
  refine XW_seqP mixed hlo (by decide) ?_
  simp
  refine XW_seqP mixed hlo (by decide) ?_
  simp
  refine XW_seqX (XW_seqP mixed hlo (by decide) ?_)
  simp
  refine pop_spec (parts_spec P X) rfl false (.inl (by simp [pntC, cnrL, stnL, itmL, spnL])) (.inl rfl) rfl (by simp) ?_
  simp
  refine XW_block ?_
  refine XW_range mixed rfl (by rfl) hgen parts_plain (by decide) (by decide) 47 (by decide) [8, 32, 44] (by decide)
    (fun n => wsV P X r i n) (fun n => wsA P X r i) (fun n => wsH P X r i n) ?_ (fun n hn => ⟨rfl, ?_, slots_view (t := 14) ?_ rfl⟩) (fun n q hq => ?_) ?_
  · rw [hB0]
    simp [wsV, wcI, wcT, wcF, pntC, cnrL, stnL, itmL, spnL]
  · simp [wsV, wsH]
  · simp [slots, wsV, wsA, wsH, pntC, cnrL, stnL, itmL, spnL]
  · obtain ⟨hn, rfl⟩ := parts_get hq
    have hcall := hw1 n hn
    rw [hB0]
    rcases Nat.lt_trichotomy n X.items.length with c | c | c
    · have hp : partN P X n = ⟨0, n, armI P X n, (itmAt X.items n).low, (itmAt X.items n).high⟩ := by simp [partN, c, partI']
      have hW : worstN P X r i n = worstI P X r i n := by simp [worstN, c]
      rw [hp, hW] at hcall
      simp only [Prt.cells] at hcall
      have l1 := wcI_len (P := P) (X := X) (r := r) (i := i) (show n ≤ X.items.length by omega)
      have l2 := wcI_len (P := P) (X := X) (r := r) (i := i) (show n + 1 ≤ X.items.length by omega)
      have er := rowsI_snoc (wcI P X r i n) (pickS (worstI P X r i n) (itmAt X.items n).low (itmAt X.items n).high)
      rw [wcI_succ c] at er
      have et : (wcI P X r i n).take n = wcI P X r i n := List.take_of_length_le (by omega)
      have f1 := wcF_nil (P := P) (X := X) (r := r) (i := i) (show n ≤ X.items.length + 1 by omega)
      have f2 := wcF_nil (P := P) (X := X) (r := r) (i := i) (show n + 1 ≤ X.items.length + 1 by omega)
      have t1 : wcT P X r i n = 0 := by simp [wcT, show ¬ X.items.length < n from by omega]
      have t2 : wcT P X r i (n + 1) = 0 := by simp [wcT, show ¬ X.items.length < n + 1 from by omega]
      rw [hp]
      simp [wsA, wsH, Prt.cells, l1, f1, t1]
      refine pop_spec hcall rfl false (.inl (by simp [pntC, cnrL, stnL, itmL, spnL])) (.inl rfl) rfl (by simp) ?_
      cases hb : worstI P X r i n with
      | true =>
        rw [hb] at er
        simp only [pickS, if_true] at er
        simp [l1, show (n + 1) * 8 ≤ 140737488355328 from by omega, show n + 1 ≤ maxLen from by simp [maxLen]; omega]
        refine rend_n (wsH P X r i (n + 1)) ?_ ?_
        · simp [wsH, l2, f2, t2, er, et]
        · simp [back, placeAll, wsV, wsH, l1, l2, f1, f2, t1, t2]
      | false =>
        rw [hb] at er
        simp only [pickS, Bool.false_eq_true, if_false] at er
        simp [l1, show (n + 1) * 8 ≤ 140737488355328 from by omega, show n + 1 ≤ maxLen from by simp [maxLen]; omega]
        refine rend_n (wsH P X r i (n + 1)) ?_ ?_
        · simp [wsH, l2, f2, t2, er, et]
        · simp [back, placeAll, wsV, wsH, l1, l2, f1, f2, t1, t2]
    · subst c
      have hp : partN P X X.items.length = ⟨1, 0, P.tank.arm, X.tank.low, X.tank.high⟩ := by simp [partN, partT]
      have hW : worstN P X r i X.items.length = worstT P r i := by simp [worstN]
      rw [hp, hW] at hcall
      simp only [Prt.cells] at hcall
      have l1 := wcI_lenE (P := P) (X := X) (r := r) (i := i) (Nat.le_refl X.items.length)
      have l2 := wcI_end (P := P) (X := X) (r := r) (i := i) (Nat.le_refl X.items.length)
      have f1 := wcF_nil (P := P) (X := X) (r := r) (i := i) (show X.items.length ≤ X.items.length + 1 by omega)
      have f2 := wcF_nil (P := P) (X := X) (r := r) (i := i) (show X.items.length + 1 ≤ X.items.length + 1 by omega)
      have t1 : wcT P X r i X.items.length = 0 := by simp [wcT]
      have t2 : wcT P X r i (X.items.length + 1) = pickS (worstT P r i) X.tank.low X.tank.high := by simp [wcT]
      rw [hp]
      simp [wsA, wsH, Prt.cells, l1, f1, t1]
      refine pop_spec hcall rfl false (.inl (by simp [pntC, cnrL, stnL, itmL, spnL])) (.inl rfl) rfl (by simp) ?_
      cases hb : worstT P r i with
      | true =>
        rw [hb] at t2
        simp only [pickS, if_true] at t2
        simp
        refine rend_n (wsH P X r i (X.items.length + 1)) ?_ ?_
        · simp [wsH, l1, l2, f2, t2]
        · simp [back, placeAll, wsV, wsH, l1, l2, f1, f2, t1, t2]
      | false =>
        rw [hb] at t2
        simp only [pickS, Bool.false_eq_true, if_false] at t2
        simp
        refine rend_n (wsH P X r i (X.items.length + 1)) ?_ ?_
        · simp [wsH, l1, l2, f2, t2]
        · simp [back, placeAll, wsV, wsH, l1, l2, f1, f2, t1, t2]
    · have hnw : n - X.items.length - 1 < X.water.length := by unfold partK at hn; omega
      have er := rowsI_snoc (wcF P X r i n) (pickS (worstF P r i (n - X.items.length - 1)) (spnAt X.water (n - X.items.length - 1)).low (spnAt X.water (n - X.items.length - 1)).high)
      rw [wcF_succ c] at er
      have l1 := wcI_lenE (P := P) (X := X) (r := r) (i := i) (show X.items.length ≤ n by omega)
      have l2 := wcI_end (P := P) (X := X) (r := r) (i := i) (show X.items.length ≤ n by omega)
      have f1 := wcF_len P X r i n
      have f2 := wcF_len P X r i (n + 1)
      rw [show n + 1 - X.items.length - 1 = n - X.items.length - 1 + 1 from by omega] at f2
      have t2 : wcT P X r i (n + 1) = wcT P X r i n := by simp [wcT, show X.items.length < n from c, show X.items.length < n + 1 from by omega]
      have hp : partN P X n = ⟨2, n - X.items.length - 1, armF P (n - X.items.length - 1), (spnAt X.water (n - X.items.length - 1)).low, (spnAt X.water (n - X.items.length - 1)).high⟩ := by
        simp [partN, show ¬ n < X.items.length from by omega, show ¬ n = X.items.length from by omega, partF]
      have hW : worstN P X r i n = worstF P r i (n - X.items.length - 1) := by simp [worstN, show ¬ n < X.items.length from by omega, show ¬ n = X.items.length from by omega]
      rw [hp, hW] at hcall
      simp only [Prt.cells] at hcall
      rw [hp]
      generalize hk : n - X.items.length - 1 = k at *
      have et : (wcF P X r i n).take k = wcF P X r i n := List.take_of_length_le (by omega)
      simp [wsA, wsH, Prt.cells, l1, f1]
      refine pop_spec hcall rfl false (.inl (by simp [pntC, cnrL, stnL, itmL, spnL])) (.inl rfl) rfl (by simp) ?_
      cases hb : worstF P r i k with
      | true =>
        rw [hb] at er
        simp only [pickS, if_true] at er
        simp [f1, show (k + 1) * 8 ≤ 140737488355328 from by omega, show k + 1 ≤ maxLen from by simp [maxLen]; omega]
        refine rend_n (wsH P X r i (n + 1)) ?_ ?_
        · simp [wsH, l1, l2, f2, t2, er, et]
        · simp [back, placeAll, wsV, wsH, l1, l2, f1, f2, t2]
      | false =>
        rw [hb] at er
        simp only [pickS, Bool.false_eq_true, if_false] at er
        simp [f1, show (k + 1) * 8 ≤ 140737488355328 from by omega, show k + 1 ≤ maxLen from by simp [maxLen]; omega]
        refine rend_n (wsH P X r i (n + 1)) ?_ ?_
        · simp [wsH, l1, l2, f2, t2, er, et]
        · simp [back, placeAll, wsV, wsH, l1, l2, f1, f2, t2]
  · rw [partsL_length]
    have e1 : wcI P X r i (partK X) = (worstC P X r i).items := by
      rw [wcI, Nat.min_eq_right (show X.items.length ≤ partK X by unfold partK; omega)]; rfl
    have e2 : wcT P X r i (partK X) = (worstC P X r i).tank := by
      rw [wcT, if_pos (show X.items.length < partK X by unfold partK; omega)]; rfl
    have e3 : wcF P X r i (partK X) = (worstC P X r i).water := by
      rw [wcF, show partK X - X.items.length - 1 = X.water.length from by unfold partK; omega]; rfl
    simp [blockX, thenX, wsV, e1, e2, e3]
    refine XW_pwp mixed hlo (by decide) ?_
    simp
    cases b with
    | true =>
      refine ends_of (cseO (worstC P X r i)) (cseH (worstC P X r i)) [32, 44] (x := .agg [.own 32 (worstC P X r i).items.length 0 (worstC P X r i).items.length false, .v (.int .i64 (worstC P X r i).tank), .own 44 (worstC P X r i).water.length 0 (worstC P X r i).water.length false]) (by simp) (by decide) ?_ ?_ rfl
      · simp [cseH]
      · simp [cseO, cseH]
    | false =>
      refine ends_of (.agg (worstC P X r i).cells) [] [] (x := .agg [.own 32 (worstC P X r i).items.length 0 (worstC P X r i).items.length false, .v (.int .i64 (worstC P X r i).tank), .own 44 (worstC P X r i).water.length 0 (worstC P X r i).water.length false]) (by simp) (by decide) ?_ ?_ rfl
      · simp
      · simp [Cse.cells, ints]
        refine ⟨fun k hk => ?_, fun k hk => ?_⟩
        · simp [rowsI_get hk]
        · simp [rowsI_get hk]
theorem worst_spec (P : Pln) (X : Pnt) (hP : PlnOk P) (hX : PntOk P X) (r i : Nat) (hr : 2 ≤ r ∧ r ≤ 7) (hi : i < manyR P r) :
    Spec Tryz.prog 85 [.agg (pntC P X), .v (.int .i64 r), .v (.int .i64 i)] (.agg (worstC P X r i).cells) := by
  unfold Spec
  have h := worst_both false P X hP hX r i hr hi
  simpa only [cond_false] using h
end Go.Qg


namespace Go.Qg
open Go.Proofs
set_option maxRecDepth 100000
set_option maxHeartbeats 32000000
attribute [local irreducible] pwp pops pdraw pop popCall pdCall thenP blockP scopeP pspec Spec answers ppost CallW rend
instance : Inhabited Pnt := ⟨⟨[], ⟨0, 0⟩, [], false⟩⟩
def pntAt (l : List Pnt) (i : Nat) : Pnt := l.getD i default
def pntL (l : List Pnt) : PV := .sl 5 l.length fun i => (pntAt l i).cells
def rowsPt (l : List Pnt) : List (List PV) := l.map Pnt.cells
theorem Pnt.plain (X : Pnt) : plainL X.cells = true := by simp [Pnt.cells, plainL, PV.plain, itmL, spnL]
@[simp] theorem rowsPt_length (l : List Pnt) : (rowsPt l).length = l.length := by simp [rowsPt]
@[simp] theorem rowsPt_nil : rowsPt [] = [] := rfl
@[simp] theorem renLL_rowsPt (π : Nat → Nat) (l : List Pnt) : renLL π (rowsPt l) = rowsPt l := by
  induction l with
  | nil => rfl
  | cons x l ih => simp only [rowsPt, List.map_cons, renLL, renL_plain x.plain] at *; rw [ih]
@[simp] theorem namesLL_rowsPt (l : List Pnt) : namesLL (rowsPt l) = [] := by
  induction l with
  | nil => rfl
  | cons x l ih => simp only [rowsPt, List.map_cons, namesLL, plainL_names x.plain, List.nil_append] at *; exact ih
@[simp] theorem vwAllL_rowsPt (f : PF) (T : Tgt) (d : Nat) (l : List Pnt) : vo.vwAllL f T d (rowsPt l) (rowsPt l) = True := by
  induction l with
  | nil => simp [rowsPt, vo.vwAllL]
  | cons x l ih => simp only [rowsPt, List.map_cons, vo.vwAllL, vwAll_plain x.plain, true_and] at *; exact ih
theorem vwAllL_snoc (f : PF) (T : Tgt) (d : Nat) (l : List Pnt) (x y : List PV) : vo.vwAllL f T d (rowsPt l ++ [x]) (rowsPt l ++ [y]) = vwAll (vw f T d) x y := by
  induction l with
  | nil => simp [rowsPt, vo.vwAllL]
  | cons z l ih => simp only [rowsPt, List.map_cons, List.cons_append, vo.vwAllL, vwAll_plain z.plain, true_and] at *; exact ih
@[simp] theorem rowsPt_one {l : List Pnt} : (∀ (x : List PV), x ∈ rowsPt l → ∀ (y : PV), y ∈ x → y.one = true) ↔ True := by
  refine ⟨fun _ => trivial, fun _ x hx y hy => ?_⟩
  obtain ⟨b, _, rfl⟩ := List.mem_map.1 hx
  simp [Pnt.cells] at hy
  rcases hy with rfl | rfl | rfl | rfl | rfl <;> rfl
@[simp] theorem rowsPt_len1 {l : List Pnt} : (∀ (x : List PV), x ∈ rowsPt l → x.length = 5) ↔ True := by
  refine ⟨fun _ => trivial, fun _ x hx => ?_⟩
  obtain ⟨b, _, rfl⟩ := List.mem_map.1 hx
  rfl
@[simp] theorem rowsPt_take (l : List Pnt) (k : Nat) : (rowsPt l).take k = rowsPt (l.take k) := by simp [rowsPt]
theorem rowsPt_get {l : List Pnt} {k : Nat} (h : k < l.length) : (rowsPt l)[k]? = some (pntAt l k).cells := by simp [rowsPt, pntAt, h]
theorem rowsPt_snoc (l : List Pnt) (x : Pnt) : rowsPt l ++ [x.cells] = rowsPt (l ++ [x]) := by simp [rowsPt]
theorem rowsPt_allone (l : List Pnt) : ((rowsPt l).all fun r => r.all (·.one)) = true := by
  simp [List.all_eq_true, rowsPt, Pnt.cells, PV.one, itmL, spnL]
theorem rows_itm (l : List Itm) : (List.range l.length).map (fun i => (itmAt l i).cells) = rowsIt l := rowsIt_range l
def addX (items : List Itm) (now water : Spn) (nf : Nat) (b : Bool) : Pnt := ⟨items, now, List.replicate nf water, b⟩
def addH (now water : Spn) (l : List Pnt) : PF := [.box false now.cells, .box false water.cells, .box false [.own 3 l.length 0 l.length false], .rows none l.length 66 5 (rowsPt l)]
theorem add_spec (P : Pln) (g : Leg) (b : Bool) (now water : Spn) (l : List Pnt) (hi : g.items.length ≤ 12) (hf : P.floats.length ≤ 2) (hl : l.length ≤ 100) :
    CallW Tryz.prog 111 [.agg g.cells, .v (.bool b), .ref 0 0, .rp P.cells 0, .ref 1 0, .ref 2 0] (addH now water l) (fun out => out = .ret (.tup []) (addH now water (l ++ [addX g.items now water P.floats.length b]))) := by
  refine callW_of mixed Tryz.func111 (by decide) rfl (congrArg Array.toList Tryz.results111) Tryz.ntmps111 (by decide) 34 (by simp) (by decide) ?_
  simp [addH, Leg.cells, Pln.cells, cnrL, stnL, itmL, Spn.cells]
  simp [show g.items.length * 24 ≤ 140737488355328 from by omega, show g.items.length ≤ maxLen from by simp [maxLen]; omega]
  have hrl := rowsIt_length g.items
  refine pwp_loop (fun k : Nat => [(8, .box true [.sl 3 g.items.length fun i => (itmAt g.items i).cells, .v (.int .i64 now.low), .v (.int .i64 now.high), .own 27 k 0 k false, .v (.bool b)]), (16, .undef), (21, .v (.int .i64 k)), (27, .rows none k 37 2 (rowsSp (List.replicate k water)))]) (fun k => k ≤ P.floats.length) (fun k => P.floats.length - k) 0 (Nat.zero_le _) (by simp; rfl) ?_ ?_
  · simp [rows_itm]
    intro k hk
    rw [rowsIt_get hk]
    simp [Itm.cells]
  intro k hk
  by_cases hkl : k < P.floats.length
  · have wk := i64_wrap (show -9223372036854775808 ≤ (k : Int) + 1 ∧ _ from by omega)
    have er := rowsSp_snoc (List.replicate k water) water
    rw [show List.replicate k water ++ [water] = List.replicate (k + 1) water from by rw [List.replicate_succ']] at er
    simp only [Spn.cells] at er
    have et : (List.replicate k water).take k = List.replicate k water := List.take_of_length_le (by simp)
    simp [hkl, show (k + 1) * 16 ≤ 140737488355328 from by omega, show k + 1 ≤ maxLen from by simp [maxLen]; omega]
    refine again_of (k + 1) (by omega) (by omega) ?_
    simp [wk, er, et]
  · obtain rfl : k = P.floats.length := by omega
    simp [show (l.length + 1) * 72 ≤ 140737488355328 from by omega, show l.length + 1 ≤ maxLen from by simp [maxLen]; omega]
    have et : l.take l.length = l := List.take_of_length_le (Nat.le_refl _)
    refine ends_n (.tup []) (addH now water (l ++ [addX g.items now water P.floats.length b])) [] rfl (by decide) ?_ ?_ (by simp [addH, Spn.cells])
    · simp [addH, Spn.cells, et, ← rowsPt_snoc, vwAllL_snoc, rowsPt_allone, addX, Pnt.cells, itmL, spnL]
      intro k hk
      rw [rowsSp_get (by simpa using hk)]
      simp [Spn.cells, spnAt, List.getD, hk]
    · simp
theorem ptsL_length (P : Pln) (fuel : Spn) (legs : List Leg) (n : Nat) : (ptsL P fuel legs n).length = n := by simp [ptsL]
theorem ptsL_A (P : Pln) (fuel : Spn) (legs : List Leg) (k : Nat) : ptsL P fuel legs (2 * k) ++ [ptA P fuel legs k] = ptsL P fuel legs (2 * k + 1) := by
  rw [ptsL, ptsL, List.range_succ, List.map_append, List.map_cons, ptOf_even]; rfl
theorem ptsL_B (P : Pln) (fuel : Spn) (legs : List Leg) (k : Nat) : ptsL P fuel legs (2 * k + 1) ++ [ptB P fuel legs k] = ptsL P fuel legs (2 * (k + 1)) := by
  rw [ptsL, ptsL, show 2 * (k + 1) = (2 * k + 1) + 1 from by omega, List.range_succ (n := 2 * k + 1), List.map_append (l₂ := [2 * k + 1]), List.map_cons, ptOf_odd]; rfl
theorem points_spec (P : Pln) (fuel : Spn) (legs : List Leg) (hf : P.floats.length ≤ 2) (hT : TripOk P fuel legs) : Spec Tryz.prog 78 [.agg P.cells, .agg fuel.cells, legL legs] (pntL (ptsL P fuel legs (2 * legs.length))) := by
  have hn := hT.n
  refine spec_of mixed Tryz.func78 (by decide) rfl Tryz.results78 Tryz.ntmps78 (by decide) 1 (by simp) ?_
  simp [Pln.cells, cnrL, stnL, Spn.cells, legL]
  refine pwp_loop (fun k : Nat => [(3, .rp P.cells 0), (7, .box true [.own 70 (2 * k) 0 (2 * k) false]), (8, .box true (stT fuel legs k).cells), (9, .box true (stF legs k).cells), (10, .clo (.func 111) [] [.ref 8 0, .rp P.cells 0, .ref 9 0, .ref 7 0]), (15, .undef), (18, .v (.int .i64 k)), (70, .rows none (2 * k) 66 5 (rowsPt (ptsL P fuel legs (2 * k))))]) (fun k => k ≤ legs.length) (fun k => legs.length - k) 0 (Nat.zero_le _) (by simp; rfl) ?_ ?_
  · simp [Pln.cells, cnrL, stnL, Spn.cells, stT, stF, ptsL]
  intro k hk
  by_cases hkl : k < legs.length
  · have wk := i64_wrap (show -9223372036854775808 ≤ (k : Int) + 1 ∧ _ from by omega)
    have hL := hT.leg k hkl
    have b1 := stT_bounds hT k hk
    have b2 := stF_bounds hT k hk
    have b3 := stG_bounds hT k hk
    have l1 := hL.fuel
    have l2 := hL.burn
    have l3 := hL.leak
    have l4 := hL.n
    have hlA := ptsL_length P fuel legs (2 * k)
    have hlB := ptsL_length P fuel legs (2 * k + 1)
    have eT : stT fuel legs (k + 1) = ⟨(stT fuel legs k).low + (legAt legs k).fuel - (legAt legs k).burn.high, (stT fuel legs k).high + (legAt legs k).fuel - (legAt legs k).burn.low⟩ := rfl
    have eF := stF_succ legs k
    have addA := add_spec P (legAt legs k) false ⟨(stT fuel legs k).low + (legAt legs k).fuel, (stT fuel legs k).high + (legAt legs k).fuel⟩ (stG legs k) (ptsL P fuel legs (2 * k)) l4 hf (by omega)
    have addB := add_spec P (legAt legs k) true (stT fuel legs (k + 1)) (stF legs (k + 1)) (ptsL P fuel legs (2 * k + 1)) l4 hf (by omega)
    rw [show addX (legAt legs k).items ⟨(stT fuel legs k).low + (legAt legs k).fuel, (stT fuel legs k).high + (legAt legs k).fuel⟩ (stG legs k) P.floats.length false = ptA P fuel legs k from rfl, ptsL_A] at addA
    rw [show addX (legAt legs k).items (stT fuel legs (k + 1)) (stF legs (k + 1)) P.floats.length true = ptB P fuel legs k from rfl, ptsL_B] at addB
    simp only [addH, hlA, hlB, ptsL_length, Spn.cells] at addA addB
    have w1 := i64_wrap (show -9223372036854775808 ≤ (stT fuel legs k).low + (legAt legs k).fuel ∧ _ from by omega)
    have w2 := i64_wrap (show -9223372036854775808 ≤ (stT fuel legs k).high + (legAt legs k).fuel ∧ _ from by omega)
    have w3 := i64_wrap (show -9223372036854775808 ≤ (stT fuel legs k).low + (legAt legs k).fuel - (legAt legs k).burn.high ∧ _ from by omega)
    have w4 := i64_wrap (show -9223372036854775808 ≤ (stT fuel legs k).high + (legAt legs k).fuel - (legAt legs k).burn.low ∧ _ from by omega)
    have w5 := i64_wrap (show -9223372036854775808 ≤ (stG legs k).low + (legAt legs k).leak.low ∧ _ from by omega)
    have w6 := i64_wrap (show -9223372036854775808 ≤ (stG legs k).high + (legAt legs k).leak.high ∧ _ from by omega)
    cases hp : (legAt legs k).pump with
    | true =>
      have hG : stG legs k = ⟨0, 0⟩ := by simp [stG, hp]
      rw [hG] at addA eF w5 w6
      simp only [Int.zero_add] at addA eF w5 w6
      rw [eT, eF] at addB
      simp only at addB
      simp (config := { maxSteps := 4000000 }) [hkl, Leg.cells, hp, Pln.cells, cnrL, stnL, Spn.cells, itmL, w1, w2]
      refine pop_callW addA rfl [8, 9, 7, 70] false (by decide) ?_ (.inl ?_) ?_
      · simp
      · simp [Leg.cells, hp, Pln.cells, cnrL, stnL, itmL]
      rintro out rfl
      refine ⟨[], by simp [backOk], .inl rfl, by simp [back, backV, placeAll], ?_⟩
      simp (config := { maxSteps := 4000000 }) [back, backV, placeAll, Leg.cells, hp, itmL, w3, w4, w5, w6]
      refine pop_callW addB rfl [8, 9, 7, 70] false (by decide) ?_ (.inl ?_) ?_
      · simp
      · simp [Leg.cells, hp, Pln.cells, cnrL, stnL, itmL]
      rintro out rfl
      refine ⟨[], by simp [backOk], .inl rfl, by simp [back, backV, placeAll], ?_⟩
      simp (config := { maxSteps := 4000000 }) [back, backV, placeAll]
      refine again_of (k + 1) (by omega) (by omega) ?_
      simp [wk, eT, eF, Spn.cells, Pln.cells, cnrL, stnL, show 2 * (k + 1) = 2 * k + 1 + 1 from by omega]
    | false =>
      have hG : stG legs k = stF legs k := by simp [stG, hp]
      rw [hG] at addA eF w5 w6
      rw [eT, eF] at addB
      simp only at addB
      simp (config := { maxSteps := 4000000 }) [hkl, Leg.cells, hp, Pln.cells, cnrL, stnL, Spn.cells, itmL, w1, w2]
      refine pop_callW addA rfl [8, 9, 7, 70] false (by decide) ?_ (.inl ?_) ?_
      · simp
      · simp [Leg.cells, hp, Pln.cells, cnrL, stnL, itmL]
      rintro out rfl
      refine ⟨[], by simp [backOk], .inl rfl, by simp [back, backV, placeAll], ?_⟩
      simp (config := { maxSteps := 4000000 }) [back, backV, placeAll, Leg.cells, hp, itmL, w3, w4, w5, w6]
      refine pop_callW addB rfl [8, 9, 7, 70] false (by decide) ?_ (.inl ?_) ?_
      · simp
      · simp [Leg.cells, hp, Pln.cells, cnrL, stnL, itmL]
      rintro out rfl
      refine ⟨[], by simp [backOk], .inl rfl, by simp [back, backV, placeAll], ?_⟩
      simp (config := { maxSteps := 4000000 }) [back, backV, placeAll]
      refine again_of (k + 1) (by omega) (by omega) ?_
      simp [wk, eT, eF, Spn.cells, Pln.cells, cnrL, stnL, show 2 * (k + 1) = 2 * k + 1 + 1 from by omega]
  · obtain rfl : k = legs.length := by omega
    simp
    refine answers_of rfl ?_
    simp [pntL, ptsL_length]
    intro k hk
    simp [rowsPt_get (show k < (ptsL P fuel legs (2 * legs.length)).length by rw [ptsL_length]; exact hk), vwAll_plain (pntAt (ptsL P fuel legs (2 * legs.length)) k).plain]
    intro x hx
    simp [Pnt.cells] at hx
    rcases hx with rfl | rfl | rfl | rfl | rfl <;> simp [itmL, spnL]
end Go.Qg


namespace Go.Qg
open Go.Proofs
set_option maxRecDepth 100000
set_option maxHeartbeats 32000000
attribute [local irreducible] pwp pops pdraw pop popCall pdCall thenP blockP scopeP pspec Spec answers ppost CallW rend
structure PntLen (X : Pnt) : Prop where
  i : X.items.length ≤ 9223372036854775807
  w : X.water.length ≤ 9223372036854775807
def watersB (X : Pnt) : Bool := allN X.water.length fun k => spanB (spnAt X.water k) 0 120000
def pointB (P : Pln) (X : Pnt) : Bool := itemsB X.items P.stations.length && spanB X.tank (-120000) 140000 && decide (X.water.length = P.floats.length) && watersB X
def rightB (P : Pln) (X : Pnt) : Bool := validB P && pointB P X
theorem itemsB_spec {l : List Itm} {ns : Nat} : itemsB l ns = true ↔ l.length ≤ 12 ∧ ∀ i, i < l.length → (0 ≤ (itmAt l i).station ∧ (itmAt l i).station < ns) ∧ 0 ≤ (itmAt l i).low ∧ (itmAt l i).low ≤ (itmAt l i).high ∧ (itmAt l i).high ≤ 20000 := by
  simp only [itemsB, Bool.and_eq_true, decide_eq_true_eq, allN_spec, itmB, inB_spec, spanB_spec]
  constructor
  · rintro ⟨h1, h2⟩
    exact ⟨h1, fun i hi => by have := h2 i hi; omega⟩
  · rintro ⟨h1, h2⟩
    exact ⟨h1, fun i hi => by have := h2 i hi; omega⟩
theorem point_ok {P : Pln} {X : Pnt} : pointB P X = true ↔ PntOk P X := by
  simp only [pointB, Bool.and_eq_true, decide_eq_true_eq, itemsB_spec, spanB_spec, watersB, allN_spec]
  constructor
  · rintro ⟨⟨⟨⟨h1, h2⟩, h3⟩, h4⟩, h5⟩
    exact ⟨h1, h2, h3, h4, h5⟩
  · intro h
    exact ⟨⟨⟨⟨h.n, h.item⟩, h.tank⟩, h.nw⟩, h.water⟩
theorem right_ok {P : Pln} {X : Pnt} : rightB P X = true ↔ PlnOk P ∧ PntOk P X := by
  rw [rightB, Bool.and_eq_true, valid_ok, point_ok]
theorem right_spec (P : Pln) (X : Pnt) (hP : PlnLen P) (hX : PntLen X) : Spec Tryz.prog 82 [.agg (pntC P X)] (.v (.bool (rightB P X))) := by
  have l1 := hX.i
  have l2 := hX.w
  have l3 := hP.s
  have hv := valid_spec P hP
  have hpc : pntC P X = [.v (.int .i64 P.empty), .v (.int .i64 P.moment), .v (.int .i64 P.takeoff), .v (.int .i64 P.landing), cnrL P.corners, stnL P.stations, .v (.int .i64 P.tank.arm), .v (.int .i64 P.tank.most), .v (.int .i64 P.reserve), stnL P.floats, itmL X.items, .v (.int .i64 X.tank.low), .v (.int .i64 X.tank.high), spnL X.water, .v (.bool X.landing)] := rfl
  refine spec_of mixed Tryz.func82 (by decide) rfl Tryz.results82 Tryz.ntmps82 (by decide) 0 (by simp) ?_
  simp [hpc, cnrL, stnL, itmL, spnL]
  refine pop_spec (allSpn_spec X.water l2 112 [] [] rfl rfl (fun k => spanB (spnAt X.water k) 0 120000) fun k hk => right1_spec (spnAt X.water k)) rfl false (.inl (by simp [spnL])) (.inl rfl) rfl (by simp) ?_
  simp
  refine pop_spec hv rfl false (.inl (by simp [Pln.cells, cnrL, stnL])) (.inl rfl) rfl (by simp) ?_
  cases h1 : validB P with
  | false => simp; refine answers_of rfl ?_; simp [rightB, h1]
  | true =>
  simp
  refine pop_spec (litems_spec X.items P.stations.length l1 (by omega)) rfl false (.inl (by simp [itmL])) (.inl rfl) rfl (by simp) ?_
  cases h2 : itemsB X.items P.stations.length with
  | false => simp; refine answers_of rfl ?_; simp [rightB, pointB, h2]
  | true =>
  simp
  refine pop_spec (lspan_spec X.tank (-120000) 140000) rfl false (.inl (by simp [Spn.cells])) (.inl rfl) rfl (by simp) ?_
  cases h3 : spanB X.tank (-120000) 140000 with
  | false => simp; refine answers_of rfl ?_; simp [rightB, pointB, h3]
  | true =>
  by_cases h4 : X.water.length = P.floats.length
  · simp [h4]
    refine answers_of rfl ?_; simp [rightB, pointB, h1, h2, h3, h4, watersB]
  · simp [h4, show ¬ (X.water.length : Int) = P.floats.length from by omega]
    refine answers_of rfl ?_; simp [rightB, pointB, h4]
def sureRes (P : Pln) (X : Pnt) : PV := if rightB P X = true then (if (brokenP P X).1 = 1 then .tup [.v (.int .i64 1), .v (.int .i64 0), .agg (Cse.mk [] 0 []).cells, .v (.int .i64 0)] else .tup [.v (.int .i64 (brokenP P X).1), .v (.int .i64 (brokenP P X).2), .agg (worstC P X (brokenP P X).1 (brokenP P X).2).cells, .v (.int .i64 0)])
  else .tup [.v (.int .i64 0), .v (.int .i64 0), .agg (Cse.mk [] 0 []).cells, .v (.int .i64 2)]
theorem broken_in (P : Pln) (X : Pnt) : (brokenP P X).1 = 1 ∨ (2 ≤ (brokenP P X).1 ∧ (brokenP P X).1 ≤ 7) ∧ (brokenP P X).2 < manyR P (brokenP P X).1 := by
  unfold brokenP
  rcases brokenF_spec (p := canB P X) (many := manyR P) 6 2 with ⟨h1, _⟩ | ⟨q, i, h1, h2, h3, _⟩
  · rw [h1]; exact .inl rfl
  · rw [h1]; exact .inr ⟨by simp only; omega, h3⟩
theorem Sure_spec (P : Pln) (X : Pnt) (hP : PlnLen P) (hX : PntLen X) : Spec Tryz.prog 36 [.agg P.cells, .agg X.cells] (sureRes P X) := by
  have hr := right_spec P X hP hX
  unfold sureRes
  refine spec_of mixed Tryz.func36 (by decide) rfl Tryz.results36 Tryz.ntmps36 (by decide) 0 (by simp) ?_
  simp [Pln.cells, cnrL, stnL, Pnt.cells, itmL, spnL]
  refine pop_spec hr rfl false (.inl (by simp [pntC, cnrL, stnL, itmL, spnL])) (.inl rfl) rfl (by simp) ?_
  cases h : rightB P X with
  | false =>
    simp
    refine answers_of (x := .tup [.v (.int .i64 0), .v (.int .i64 0), .agg [.nil, .v (.int .i64 0), .nil], .v (.int .i64 2)]) (by simp) ?_
    simp [Cse.cells, ints]
  | true =>
    obtain ⟨k1, k2⟩ := right_ok.1 h
    have hb := broken_spec P X k1 k2
    have hin := broken_in P X
    have hw := fun h1 h2 => worst_spec P X k1 k2 (brokenP P X).1 (brokenP P X).2 h1 h2
    generalize brokenP P X = br at *
    obtain ⟨r, i⟩ := br
    simp only at hb hin hw
    simp
    refine pop_spec hb rfl false (.inl (by simp [pntC, cnrL, stnL, itmL, spnL])) (.inl rfl) rfl (by simp) ?_
    by_cases hr1 : r = 1
    · subst hr1
      simp
      refine answers_of (x := .tup [.v (.int .i64 1), .v (.int .i64 0), .agg [.nil, .v (.int .i64 0), .nil], .v (.int .i64 0)]) (by simp) ?_
      simp [Cse.cells, ints]
    · have hin2 := hin.resolve_left hr1
      have hws := hw hin2.1 hin2.2
      simp only [Cse.cells, ints] at hws
      simp [hr1, show ¬ (r : Int) = 1 from by omega]
      refine pop_spec hws rfl false (.inl (by simp [pntC, cnrL, stnL, itmL, spnL])) (.inl rfl) rfl (by simp) ?_
      simp
      refine answers_of (x := .tup [.v (.int .i64 r), .v (.int .i64 i), .agg (worstC P X r i).cells, .v (.int .i64 0)]) (by simp [Cse.cells, ints]) ?_
      simp [Cse.cells, ints]
def firstRes (P : Pln) (fuel : Spn) (legs : List Leg) : PV := match tripP P fuel legs with
  | some j => .tup [.v (.int .i64 j), .v (.int .i64 (brokenP P (ptOf P fuel legs j)).1), .v (.int .i64 (brokenP P (ptOf P fuel legs j)).2)]
  | none => .tup [.v (.int .i64 (-1)), .v (.int .i64 1), .v (.int .i64 0)]
theorem pntAt_ptsL {P : Pln} {fuel : Spn} {legs : List Leg} {n j : Nat} (h : j < n) : pntAt (ptsL P fuel legs n) j = ptOf P fuel legs j := by simp [pntAt, ptsL, h]
@[simp] theorem wrap_m1' : IntKind.i64.wrap (-1) = -1 := i64_wrap (by omega)
theorem first_spec (P : Pln) (fuel : Spn) (legs : List Leg) (hP : PlnOk P) (hT : TripOk P fuel legs) : Spec Tryz.prog 67 [.agg P.cells, .agg fuel.cells, legL legs] (firstRes P fuel legs) := by
  have hn := hT.n
  have hp := points_spec P fuel legs hP.nf hT
  have hat := fun j (h : j < 2 * legs.length) => pntAt_ptsL (P := P) (fuel := fuel) (legs := legs) h
  have hok := fun j (h : j < 2 * legs.length) => ptOf_ok hT h
  have hlen := ptsL_length P fuel legs (2 * legs.length)
  have hres : ∀ j, j < 2 * legs.length → sureB P (ptOf P fuel legs j) = false → (∀ i, i < j → sureB P (ptOf P fuel legs i) = true) → firstRes P fuel legs = .tup [.v (.int .i64 j), .v (.int .i64 (brokenP P (ptOf P fuel legs j)).1), .v (.int .i64 (brokenP P (ptOf P fuel legs j)).2)] := fun j h1 h2 h3 => by
    have : tripP P fuel legs = some j := fstN_some.2 ⟨h1, by simp [h2], fun k hk => by simp [h3 k hk]⟩
    simp [firstRes, this]
  have hres0 : (∀ i, i < 2 * legs.length → sureB P (ptOf P fuel legs i) = true) → firstRes P fuel legs = .tup [.v (.int .i64 (-1)), .v (.int .i64 1), .v (.int .i64 0)] := fun h => by
    have : tripP P fuel legs = none := fstN_none.2 fun k hk => by simp [h k hk]
    simp [firstRes, this]
  generalize firstRes P fuel legs = R at *
  generalize ptsL P fuel legs (2 * legs.length) = L at *
  refine spec_of mixed Tryz.func67 (by decide) rfl Tryz.results67 Tryz.ntmps67 (by decide) 0 (by simp) ?_
  simp [Pln.cells, cnrL, stnL, Spn.cells, legL]
  refine pop_spec hp rfl false (.inl (by simp [Pln.cells, cnrL, stnL, Spn.cells, legL])) (.inl rfl) rfl (by simp [pntL]) ?_
  simp [pntL, hlen]
  refine pwp_loop (fun k : Nat => [(18, .v (.int .i64 k))]) (fun k => k ≤ 2 * legs.length ∧ ∀ i, i < k → sureB P (ptOf P fuel legs i) = true) (fun k => 2 * legs.length - k) 0 ⟨Nat.zero_le _, fun i hi => by omega⟩ (by simp; rfl) (by simp [hlen]) ?_
  intro k ⟨hk, hq⟩
  by_cases hkl : k < 2 * legs.length
  · have wk := i64_wrap (show -9223372036854775808 ≤ (k : Int) + 1 ∧ _ from by omega)
    have hb := broken_spec P (ptOf P fuel legs k) hP (hok k hkl)
    have hX : pntC P (ptOf P fuel legs k) = pntC P (pntAt L k) := by rw [hat k hkl]
    rw [hX] at hb
    have hs : sureB P (ptOf P fuel legs k) = decide ((brokenP P (ptOf P fuel legs k)).1 = 1) := rfl
    have hr := hres k hkl
    generalize brokenP P (ptOf P fuel legs k) = br at *
    obtain ⟨r, i⟩ := br
    simp only at hb hs hr
    simp (config := { maxSteps := 4000000 }) [show (k : Int) < 2 * (legs.length : Int) from by omega, hlen, show k < L.length from by omega, hkl, Pnt.cells, itmL, spnL]
    refine pop_spec hb rfl false (.inl (by simp [pntC, cnrL, stnL, itmL, spnL])) (.inl rfl) rfl (by simp) ?_
    by_cases hr1 : r = 1
    · subst hr1
      simp
      refine again_of (k + 1) ⟨by omega, fun j hj => ?_⟩ (by omega) ?_
      · rcases Nat.lt_or_eq_of_le (Nat.le_of_lt_succ hj) with h' | rfl
        · exact hq j h'
        · rw [hs]; rfl
      · simp [wk, hlen]
    · simp [hr1, show ¬ (r : Int) = 1 from by omega]
      refine answers_of rfl ?_
      rw [hr (by rw [hs]; simp [hr1]) hq]
      simp
  · obtain rfl : k = 2 * legs.length := by omega
    simp [hlen]
    refine answers_of rfl ?_
    rw [hres0 hq]
    simp
def tripRes (P : Pln) (fuel : Spn) (legs : List Leg) : PV := if trippedE P fuel legs = 0 then (match tripP P fuel legs with
  | some j => .tup [.v (.int .i64 j), .v (.int .i64 (brokenP P (ptOf P fuel legs j)).1), .v (.int .i64 (brokenP P (ptOf P fuel legs j)).2), .v (.int .i64 0)]
  | none => .tup [.v (.int .i64 (-1)), .v (.int .i64 1), .v (.int .i64 0), .v (.int .i64 0)]) else .tup [.v (.int .i64 0), .v (.int .i64 0), .v (.int .i64 0), .v (.int .i64 (trippedE P fuel legs))]
theorem legsB_ok {P : Pln} {legs : List Leg} (h : (allN legs.length fun k => legB P.stations.length (legAt legs k)) = true) : ∀ i, i < legs.length → LegOk P (legAt legs i) := fun i hi => by
  have := allN_spec.1 h i hi
  simp only [legB, Bool.and_eq_true, itemsB_spec, inB_spec, spanB_spec] at this
  obtain ⟨⟨⟨⟨h1, h2⟩, h3⟩, h4⟩, h5⟩ := this
  exact ⟨h1, h2, h3, h4, h5⟩
theorem tripped_ok {P : Pln} {fuel : Spn} {legs : List Leg} : trippedE P fuel legs = 0 ↔ PlnOk P ∧ TripOk P fuel legs := by
  unfold trippedE
  constructor
  · intro h
    split at h
    · omega
    · rename_i h1
      split at h
      · rename_i h2
        simp only [tripE, if_neg h1] at h
        split at h
        · omega
        · rename_i h3
          have a1 : ¬ legs.length = 0 := fun e => h3 (.inl e)
          have a2 : spanB fuel 0 20000 = true := by
            cases he : spanB fuel 0 20000 with
            | true => rfl
            | false => exact (h3 (.inr (.inl he))).elim
          have a3 : (allN legs.length fun k => legB P.stations.length (legAt legs k)) = true := by
            cases he : allN legs.length fun k => legB P.stations.length (legAt legs k) with
            | true => rfl
            | false => exact (h3 (.inr (.inr he))).elim
          exact ⟨valid_ok.1 h2, spanB_spec.1 a2, by omega, legsB_ok a3⟩
      · omega
  · rintro ⟨h1, h2⟩
    have hn := h2.n
    rw [if_neg (by omega), if_pos (valid_ok.2 h1), tripE, if_neg (by omega), if_neg]
    rintro (h | h | h)
    · omega
    · rw [spanB_spec.2 h2.fuel] at h; cases h
    · have : (allN legs.length fun k => legB P.stations.length (legAt legs k)) = true := allN_spec.2 fun k hk => by
        have hL := h2.leg k hk
        simp only [legB, Bool.and_eq_true, itemsB_spec, inB_spec, spanB_spec]
        exact ⟨⟨⟨⟨hL.n, hL.item⟩, hL.fuel⟩, hL.burn⟩, hL.leak⟩
      rw [this] at h; cases h
structure LegsLen (legs : List Leg) : Prop where
  n : legs.length ≤ 9223372036854775807
  i : ∀ k, k < legs.length → (legAt legs k).items.length ≤ 9223372036854775807
theorem Trip_spec (P : Pln) (fuel : Spn) (legs : List Leg) (hP : PlnLen P) (hl : LegsLen legs) : Spec Tryz.prog 30 [.agg P.cells, .agg fuel.cells, legL legs] (tripRes P fuel legs) := by
  have ht := tripped_spec P fuel legs hP hl.n hl.i
  unfold tripRes
  refine spec_of mixed Tryz.func30 (by decide) rfl Tryz.results30 Tryz.ntmps30 (by decide) 0 (by simp) ?_
  simp [Pln.cells, cnrL, stnL, Spn.cells, legL]
  refine pop_spec ht rfl false (.inl (by simp [Pln.cells, cnrL, stnL, Spn.cells, legL])) (.inl rfl) rfl (by simp) ?_
  by_cases h : trippedE P fuel legs = 0
  · obtain ⟨k1, k2⟩ := tripped_ok.1 h
    have hf := first_spec P fuel legs k1 k2
    unfold firstRes at hf
    simp [h]
    cases hj : tripP P fuel legs with
    | none =>
      rw [hj] at hf
      simp only at hf
      refine pop_spec hf rfl false (.inl (by simp [Pln.cells, cnrL, stnL, Spn.cells, legL])) (.inl rfl) rfl (by simp) ?_
      simp
      refine answers_of rfl ?_; simp
    | some j =>
      rw [hj] at hf
      simp only at hf
      refine pop_spec hf rfl false (.inl (by simp [Pln.cells, cnrL, stnL, Spn.cells, legL])) (.inl rfl) rfl (by simp) ?_
      simp
      refine answers_of rfl ?_; simp
  · simp [h]
    refine answers_of rfl ?_; simp
end Go.Qg


namespace Go.Qg
open Go.Proofs
set_option maxRecDepth 100000
set_option maxHeartbeats 32000000
attribute [local irreducible] pwp pops pdraw pop popCall pdCall thenP blockP scopeP pspec Spec answers ppost CallW rend
def rowsLg (l : List Leg) : List (List PV) := l.map Leg.cells
theorem Leg.plain (X : Leg) : plainL X.cells = true := by simp [Leg.cells, plainL, PV.plain, itmL]
@[simp] theorem rowsLg_length (l : List Leg) : (rowsLg l).length = l.length := by simp [rowsLg]
@[simp] theorem rowsLg_nil : rowsLg [] = [] := rfl
@[simp] theorem renLL_rowsLg (π : Nat → Nat) (l : List Leg) : renLL π (rowsLg l) = rowsLg l := by
  induction l with
  | nil => rfl
  | cons x l ih => simp only [rowsLg, List.map_cons, renLL, renL_plain x.plain] at *; rw [ih]
@[simp] theorem namesLL_rowsLg (l : List Leg) : namesLL (rowsLg l) = [] := by
  induction l with
  | nil => rfl
  | cons x l ih => simp only [rowsLg, List.map_cons, namesLL, plainL_names x.plain, List.nil_append] at *; exact ih
@[simp] theorem vwAllL_rowsLg (f : PF) (T : Tgt) (d : Nat) (l : List Leg) : vo.vwAllL f T d (rowsLg l) (rowsLg l) = True := by
  induction l with
  | nil => simp [rowsLg, vo.vwAllL]
  | cons x l ih => simp only [rowsLg, List.map_cons, vo.vwAllL, vwAll_plain x.plain, true_and] at *; exact ih
theorem vwAllL_snocLg (f : PF) (T : Tgt) (d : Nat) (l : List Leg) (x y : List PV) : vo.vwAllL f T d (rowsLg l ++ [x]) (rowsLg l ++ [y]) = vwAll (vw f T d) x y := by
  induction l with
  | nil => simp [rowsLg, vo.vwAllL]
  | cons z l ih => simp only [rowsLg, List.map_cons, List.cons_append, vo.vwAllL, vwAll_plain z.plain, true_and] at *; exact ih
@[simp] theorem rowsLg_one {l : List Leg} : (∀ (x : List PV), x ∈ rowsLg l → ∀ (y : PV), y ∈ x → y.one = true) ↔ True := by
  refine ⟨fun _ => trivial, fun _ x hx y hy => ?_⟩
  obtain ⟨b, _, rfl⟩ := List.mem_map.1 hx
  simp [Leg.cells] at hy
  rcases hy with rfl | rfl | rfl | rfl | rfl | rfl | rfl <;> rfl
@[simp] theorem rowsLg_len1 {l : List Leg} : (∀ (x : List PV), x ∈ rowsLg l → x.length = 7) ↔ True := by
  refine ⟨fun _ => trivial, fun _ x hx => ?_⟩
  obtain ⟨b, _, rfl⟩ := List.mem_map.1 hx
  rfl
@[simp] theorem rowsLg_take (l : List Leg) (k : Nat) : (rowsLg l).take k = rowsLg (l.take k) := by simp [rowsLg]
theorem rowsLg_get {l : List Leg} {k : Nat} (h : k < l.length) : (rowsLg l)[k]? = some (legAt l k).cells := by simp [rowsLg, legAt, h]
theorem rowsLg_snoc (l : List Leg) (x : Leg) : rowsLg l ++ [x.cells] = rowsLg (l ++ [x]) := by simp [rowsLg]
theorem rowsLg_allone (l : List Leg) : ((rowsLg l).all fun r => r.all (·.one)) = true := by
  simp [List.all_eq_true, rowsLg, Leg.cells, PV.one, itmL]
def psnItm (x : Psn) : Itm := ⟨x.station, x.low, x.high⟩
def onB (people : List Psn) (i : Nat) (k : Int) : Bool := inB (i : Int) (psnAt people k.toNat).first (psnAt people k.toNat).last
def onIt (people : List Psn) (i : Nat) (some : List Int) : List Itm := (some.filter (onB people i)).map fun k => psnItm (psnAt people k.toNat)
def takenLeg (people : List Psn) (some : List Int) (i : Nat) (g : Leg) : Leg := { g with items := g.items ++ onIt people i some }
def takenN (legs : List Leg) (people : List Psn) (some : List Int) (n : Nat) : List Leg := (List.range n).map fun i => takenLeg people some i (legAt legs i)
def fitsN (legs : List Leg) (people : List Psn) (some : List Int) (n : Nat) : Bool := allN n fun i => decide ((takenLeg people some i (legAt legs i)).items.length ≤ 12)
theorem takenN_length (legs : List Leg) (people : List Psn) (some : List Int) (n : Nat) : (takenN legs people some n).length = n := by simp [takenN]
theorem takenN_succ (legs : List Leg) (people : List Psn) (some : List Int) (n : Nat) : takenN legs people some (n + 1) = takenN legs people some n ++ [takenLeg people some n (legAt legs n)] := by
  rw [takenN, List.range_succ, List.map_append]; rfl
theorem fitsN_succ (legs : List Leg) (people : List Psn) (some : List Int) (n : Nat) : fitsN legs people some (n + 1) = (fitsN legs people some n && decide ((takenLeg people some n (legAt legs n)).items.length ≤ 12)) := by
  rw [Bool.eq_iff_iff]
  simp only [fitsN, allN_spec, Bool.and_eq_true]
  exact ⟨fun h => ⟨fun j hj => h j (by omega), h n (by omega)⟩, fun h j hj => by
    rcases Nat.lt_succ_iff_lt_or_eq.1 hj with hj | rfl
    · exact h.1 j hj
    · exact h.2⟩
theorem onIt_succ (people : List Psn) (i : Nat) (some : List Int) {j : Nat} (hj : j < some.length) : onIt people i (some.take (j + 1)) = onIt people i (some.take j) ++ (if onB people i (geti some j) = true then [psnItm (psnAt people (geti some j).toNat)] else []) := by
  have : some.take (j + 1) = some.take j ++ [geti some j] := by
    rw [List.take_add_one]
    simp [geti, List.getElem?_eq_getElem hj]
  rw [this, onIt, onIt, List.filter_append, List.map_append]
  congr 1
  by_cases h : onB people i (geti some j) = true
  · simp [h]
  · simp [h]
theorem onIt_len (people : List Psn) (i : Nat) (some : List Int) (j : Nat) : (onIt people i (some.take j)).length ≤ some.length := by
  rw [onIt, List.length_map]
  exact Nat.le_trans (List.length_filter_le _ _) (by rw [List.length_take]; exact Nat.min_le_right _ _)
theorem taken_spec (legs : List Leg) (people : List Psn) (some : List Int) (hl : legs.length ≤ 6) (hi : ∀ i, i < legs.length → (legAt legs i).items.length ≤ 12) (hp : people.length ≤ 8) (hs : some.length ≤ 8)
    (hk : ∀ j, j < some.length → 0 ≤ geti some j ∧ geti some j < (people.length : Int)) :
    Spec Tryz.prog 74 [legL legs, psnL people, ints some] (.tup [legL (takenN legs people some legs.length), .v (.bool (fitsN legs people some legs.length))]) := by
  refine spec_of mixed Tryz.func74 (by decide) rfl Tryz.results74 Tryz.ntmps74 (by decide) 0 (by simp) ?_
  simp [legL, psnL, ints]
  refine pwp_loop (fun i : Nat => [(8, .own 65 i 0 i false), (9, .v (.bool (fitsN legs people some i))), (17, .v (.int .i64 i)), (65, .rows none i 112 7 (rowsLg (takenN legs people some i)))]) (fun i => i ≤ legs.length) (fun i => legs.length - i) 0 (Nat.zero_le _) (by simp; rfl) ?_ ?_
  · simp [takenN, fitsN, allN]
  intro i hi'
  by_cases hil : i < legs.length
  · have wi := i64_wrap (show -9223372036854775808 ≤ (i : Int) + 1 ∧ _ from by omega)
    have hx := hi i hil
    have er := rowsIt_range (legAt legs i).items
    simp [hil, Leg.cells, itmL, show (legAt legs i).items.length * 24 ≤ 140737488355328 from by omega, show (legAt legs i).items.length ≤ maxLen from by simp [maxLen]; omega]
    refine pwp_loop (fun j : Nat => [(11, .box true [.own 24 (onIt people i (some.take j)).length 0 ((legAt legs i).items.length + (onIt people i (some.take j)).length) false, .v (.bool (legAt legs i).pump), .v (.int .i64 (legAt legs i).fuel), .v (.int .i64 (legAt legs i).burn.low), .v (.int .i64 (legAt legs i).burn.high), .v (.int .i64 (legAt legs i).leak.low), .v (.int .i64 (legAt legs i).leak.high)]),
      (24, .rows none (onIt people i (some.take j)).length 120 3 (rowsIt ((legAt legs i).items ++ onIt people i (some.take j)))), (28, .v (.int .i64 j))]) (fun j => j ≤ some.length) (fun j => some.length - j) 0 (Nat.zero_le _) (by simp; rfl) ?_ ?_
    · simp [onIt, er]
    intro j hj
    by_cases hjl : j < some.length
    · have wj := i64_wrap (show -9223372036854775808 ≤ (j : Int) + 1 ∧ _ from by omega)
      obtain ⟨k0, k1⟩ := hk j hjl
      obtain ⟨k, hk'⟩ : ∃ k : Nat, geti some j = (k : Int) := ⟨_, (Int.toNat_of_nonneg k0).symm⟩
      rw [hk'] at k1
      have hkp : k < people.length := by omega
      have es := onIt_succ people i some hjl
      have hol := onIt_len people i some j
      rw [hk'] at es
      simp only [Int.toNat_natCast] at es
      simp [hjl, hk', hkp, Psn.cells]
      refine pop_spec (lin_spec (i : Int) (psnAt people k).first (psnAt people k).last) rfl false (.inl (by simp)) (.inl rfl) rfl (by simp) ?_
      have hb' : onB people i (k : Int) = inB (i : Int) (psnAt people k).first (psnAt people k).last := by simp [onB]
      cases hb : inB (i : Int) (psnAt people k).first (psnAt people k).last with
      | true =>
        rw [hb', hb, if_pos rfl] at es
        have er2 := rowsIt_snoc' ((legAt legs i).items ++ onIt people i (some.take j)) (psnItm (psnAt people k))
        have et : ((legAt legs i).items ++ onIt people i (some.take j)).take ((legAt legs i).items.length + (onIt people i (some.take j)).length) = (legAt legs i).items ++ onIt people i (some.take j) := List.take_of_length_le (by simp)
        simp only [psnItm, List.append_assoc] at er2
        simp [show ((legAt legs i).items.length + (onIt people i (some.take j)).length + 1) * 24 ≤ 140737488355328 from by omega, show (legAt legs i).items.length + (onIt people i (some.take j)).length + 1 ≤ maxLen from by simp [maxLen]; omega]
        refine again_of (j + 1) (by omega) (by omega) ?_
        have et2 : (onIt people i (some.take j)).length + (legAt legs i).items.length = ((legAt legs i).items ++ onIt people i (some.take j)).length := by simp; omega
        simp [wj, es, er2, et]
        exact ⟨by omega, rfl⟩
      | false =>
        rw [hb', hb, if_neg (by simp), List.append_nil] at es
        simp
        refine again_of (j + 1) (by omega) (by omega) ?_
        simp [wj, es]
    · obtain rfl : j = some.length := by omega
      have hol := onIt_len people i some some.length
      rw [List.take_of_length_le (Nat.le_refl _)] at hol
      have ef := fitsN_succ legs people some i
      have en := takenN_succ legs people some i
      have et : (takenN legs people some i).take i = takenN legs people some i := List.take_of_length_le (by rw [takenN_length]; exact Nat.le_refl _)
      simp only [takenLeg, List.length_append] at ef
      rw [List.take_of_length_le (Nat.le_refl _)]
      have hap : (takenN legs people some i ++ [takenLeg people some i (legAt legs i)]) = takenN legs people some (i + 1) := en.symm
      have big : (i + 1) * 72 ≤ 140737488355328 ∧ i + 1 ≤ maxLen := by simp [maxLen]; omega
      cases hf : fitsN legs people some i with
      | false =>
        rw [hf, Bool.false_and] at ef
        simp [takenN_length, hf, big, guard]
        refine again_of (i + 1) (by omega) (by omega) ?_
        simp [wi, ef, en, et, ← rowsLg_snoc, vwAllL_snocLg, rowsLg_allone, takenLeg, Leg.cells, itmL]
        intro k hk
        rw [rowsIt_get (by simpa using hk)]
        simp [Itm.cells]
      | true =>
        by_cases h12 : (legAt legs i).items.length + (onIt people i some).length ≤ 12
        · rw [hf, Bool.true_and, decide_eq_true h12] at ef
          simp [takenN_length, hf, big, guard, show ((legAt legs i).items.length : Int) + ((onIt people i some).length : Int) ≤ 12 from by omega]
          refine again_of (i + 1) (by omega) (by omega) ?_
          simp [wi, ef, en, et, ← rowsLg_snoc, vwAllL_snocLg, rowsLg_allone, takenLeg, Leg.cells, itmL]
          intro k hk
          rw [rowsIt_get (by simpa using hk)]
          simp [Itm.cells]
        · rw [hf, Bool.true_and, decide_eq_false h12] at ef
          simp [takenN_length, hf, big, guard, show ¬ ((legAt legs i).items.length : Int) + ((onIt people i some).length : Int) ≤ 12 from by omega]
          refine again_of (i + 1) (by omega) (by omega) ?_
          simp [wi, ef, en, et, ← rowsLg_snoc, vwAllL_snocLg, rowsLg_allone, takenLeg, Leg.cells, itmL]
          intro k hk
          rw [rowsIt_get (by simpa using hk)]
          simp [Itm.cells]
  · obtain rfl : i = legs.length := by omega
    simp
    refine answers_of rfl ?_
    simp [legL, takenN_length]
    intro k hk
    simp [rowsLg_get (show k < (takenN legs people some legs.length).length by rw [takenN_length]; exact hk), vwAll_plain (legAt (takenN legs people some legs.length) k).plain]
    intro x hx
    simp [Leg.cells] at hx
    rcases hx with rfl | rfl | rfl | rfl | rfl | rfl | rfl <;> simp [itmL]
end Go.Qg

