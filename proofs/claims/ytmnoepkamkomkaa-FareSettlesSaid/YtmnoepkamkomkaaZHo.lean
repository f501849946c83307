/-
  FareSettles: for all accounts and entries the law returns true, and leaves its arguments as they were.
  No condition.
-/
import Derived.Test.YtmnoepkamkomkaaZ5
set_option linter.all false

/-! Contracts of the reference's functions in, Sum, Lengths, Share. No condition. -/
namespace Go.Qg
open Go.Proofs
set_option maxRecDepth 100000
set_option maxHeartbeats 4000000
attribute [local irreducible] pwp pops pdraw pop popCall pdCall thenP blockP scopeP pspec Spec answers ppost CallW rend

theorem rin_spec (n lo hi : Int) : Spec Try.prog 71 [.v (.int .i64 n), .v (.int .i64 lo), .v (.int .i64 hi)] (.v (.bool (inB n lo hi))) := by
  refine spec_of mixed Try.func71 (by decide) rfl Try.results71 Try.ntmps71 (by decide) 0 (by simp) ?_
  by_cases h1 : lo ≤ n
  · by_cases h2 : n ≤ hi <;> (simp [h1, h2]; refine answers_of rfl ?_; simp [inB, h1, h2])
  · simp [h1]; refine answers_of rfl ?_; simp [inB, h1]

theorem rSum_spec (l : List Int) (hl : l.length ≤ 9223372036854775807) : Spec Try.prog 37 [ints l] (.v (.int .i64 (sumL l))) := by
  refine spec_of mixed Try.func37 (by decide) rfl Try.results37 Try.ntmps37 (by decide) 0 (by simp) ?_
  simp [ints]
  refine pwp_loop (fun k : Nat => [(3, .v (.int .i64 (sumL (l.take k)))), (4, .v (.int .i64 k))]) (fun k => k ≤ l.length) (fun k => l.length - k) 0 (Nat.zero_le _) (by simp; rfl) (by simp [sumL]) ?_
  intro k hk
  by_cases h : k < l.length
  · simp [h]
    refine again_of (k + 1) (by omega) (by omega) ?_
    have := sumL_snoc l k h
    simp [this, i64_wrap (show -9223372036854775808 ≤ (k : Int) + 1 ∧ _ from by omega)]
  · simp [h]
    rw [List.take_of_length_le (by omega)]
    refine answers_of rfl ?_; simp

theorem rLengths_spec (l : List Int) (hl : l.length ≤ 9223372036854775807) : Spec Try.prog 30 [ints l] (.v (.bool (lensB l && decide (0 < sumL l)))) := by
  refine spec_of mixed Try.func30 (by decide) rfl Try.results30 Try.ntmps30 (by decide) 0 (by simp) ?_
  simp [ints]
  refine pwp_loop (fun k : Nat => [(3, .v (.int .i64 k))]) (fun k => k ≤ l.length ∧ ∀ j, j < k → inB (geti l j) 0 10000 = true) (fun k => l.length - k) 0 ⟨Nat.zero_le _, fun j hj => by omega⟩ (by simp; rfl) (by simp) ?_
  intro k ⟨hk, hp⟩
  by_cases h : k < l.length
  · simp [h]
    refine pop_spec (rin_spec (geti l k) 0 10000) rfl false (.inl (by simp)) (.inl rfl) rfl (by simp) ?_
    cases hb : inB (geti l k) 0 10000 with
    | true =>
      simp
      refine again_of (k + 1) ⟨by omega, fun j hj => ?_⟩ (by omega) ?_
      · rcases Nat.lt_succ_iff_lt_or_eq.1 hj with hj | rfl
        · exact hp j hj
        · exact hb
      · simp [i64_wrap (show -9223372036854775808 ≤ (k : Int) + 1 ∧ _ from by omega)]
    | false =>
      simp
      have : lensB l = false := allN_false h hb
      refine answers_of rfl ?_; simp [this]
  · simp [h]
    obtain rfl : k = l.length := by omega
    have : lensB l = true := allN_spec.2 hp
    refine pop_spec (rSum_spec l hl) rfl false (.inl (by simp [ints])) (.inl rfl) rfl (by simp) ?_
    simp
    refine answers_of rfl ?_; simp [this]

theorem rShare_spec (amount : Int) (l : List Int) (h : ShareOk amount l) : Spec Try.prog 36 [.v (.int .i64 amount), ints l] (ints (shareL amount l)) := by
  have h8 := h.len
  have hw := h.whole
  refine spec_of mixed Try.func36 (by decide) rfl Try.results36 Try.ntmps36 (by decide) 0 (by simp) ?_
  simp [ints]
  refine pop_spec (rSum_spec l (by omega)) rfl false (.inl (by simp [ints])) (.inl rfl) rfl (by simp) ?_
  have hf := far_bound h.each
  rw [sumL_all fun k hk => by have := hf k hk; omega]
  simp
  refine pwp_loop (fun k : Nat => [(5, .own 35 k 0 k false), (7, .v (.int .i64 (far l k))), (8, .v (.int .i64 (shareTo amount l k))), (9, .v (.int .i64 k)), (35, .rows none k 3 1 (rowsOf (fun i => [.v (.int .i64 (shareTo amount l (i + 1) - shareTo amount l i))]) k))]) (fun k => k ≤ l.length) (fun k => l.length - k) 0 (Nat.zero_le _) (by simp; rfl) (by simp [shareTo, far]) ?_
  intro k hk
  by_cases hkl : k < l.length
  · have hk1 := hf (k + 1) hkl
    obtain ⟨a1, a2, a3, a4⟩ := h.to (k := k + 1) hkl
    obtain ⟨_, _, _, b4⟩ := h.to (k := k) hk
    have w1 : IntKind.i64.wrap (far l k + geti l k) = far l (k + 1) := i64_wrap (n := far l (k + 1)) (by omega)
    have w2 : IntKind.i64.wrap (amount * far l (k + 1)) = amount * far l (k + 1) := i64_wrap (by omega)
    have w3 : IntKind.i64.wrap ((amount * far l (k + 1)).tdiv (far l l.length)) = shareTo amount l (k + 1) := i64_quo (by omega)
    have w4 : IntKind.i64.wrap (shareTo amount l (k + 1) - shareTo amount l k) = shareTo amount l (k + 1) - shareTo amount l k := i64_wrap (by omega)
    have w5 : IntKind.i64.wrap (shareTo amount l k + (shareTo amount l (k + 1) - shareTo amount l k)) = shareTo amount l (k + 1) := by
      rw [show shareTo amount l k + (shareTo amount l (k + 1) - shareTo amount l k) = shareTo amount l (k + 1) from by omega]; exact i64_wrap (by omega)
    simp [hkl, w1, w2, w3, w4, w5, hw, show (k + 1) * 8 ≤ 140737488355328 from by omega, show k + 1 ≤ maxLen from by simp [maxLen]; omega]
    refine again_of (k + 1) (by omega) (by omega) ?_
    simp [i64_wrap (show -9223372036854775808 ≤ (k : Int) + 1 ∧ _ from by omega), rowsOf_snoc]
  · simp [hkl]
    obtain rfl : k = l.length := by omega
    refine answers_of rfl ?_
    simp [shareL]
    intro k hk; simp [geti_mk hk, rowsOf_get hk]
end Go.Qg

/-! Contracts of the reference's functions Accounts, Order. No condition. -/
namespace Go.Qg
open Go.Proofs
set_option maxRecDepth 100000
set_option maxHeartbeats 4000000
attribute [local irreducible] pwp pops pdraw pop popCall pdCall thenP blockP scopeP pspec Spec answers ppost CallW rend

theorem rAccounts_spec (l : List Acc) (es : List Entry) (hl : l.length ≤ 9223372036854775807) (he : es.length ≤ 9223372036854775807) : Spec Try.prog 33 [accL l, entryL es] (.v (.bool (inB l.length 1 8 && accsB l && entriesB l.length es))) := by
  refine spec_of mixed Try.func33 (by decide) rfl Try.results33 Try.ntmps33 (by decide) 0 (by simp) ?_
  simp [accL, entryL]
  refine pwp_loop (fun k : Nat => [(5, .v (.int .i64 k))]) (fun k => k ≤ l.length ∧ ∀ j, j < k → accB (accAt l j) = true) (fun k => l.length - k) 0 ⟨Nat.zero_le _, fun j hj => by omega⟩ (by simp; rfl) (by simp) ?_
  intro k ⟨hk, hp⟩
  by_cases h : k < l.length
  · have wk := i64_wrap (show -9223372036854775808 ≤ (k : Int) + 1 ∧ _ from by omega)
    have bad : accB (accAt l k) = false → (inB l.length 1 8 && accsB l && entriesB l.length es) = false := fun hb => by
      have : accsB l = false := allN_false (p := fun k => accB (accAt l k)) h hb
      simp [this]
    simp [h]
    refine pwp_draw 21 (by decide) ?_
    simp [h, Acc.cells]
    refine pd_spec (rin_spec (accAt l k).bal (-1000000000) 1000000000) (by simp) (by simp) (by simp) rfl ?_
    cases h1 : inB (accAt l k).bal (-1000000000) 1000000000 with
    | false =>
      simp
      refine ⟨by decide, ?_⟩
      rw [bad (by simp [accB, h1])]
      refine answers_of rfl ?_; simp
    | true =>
      simp [h, Acc.cells]
      refine pd_spec (rin_spec (accAt l k).least (-1000000000) (accAt l k).bal) (by simp) (by simp) (by simp) rfl ?_
      cases h2 : inB (accAt l k).least (-1000000000) (accAt l k).bal with
      | false =>
        simp
        refine ⟨by decide, ?_⟩
        rw [bad (by simp [accB, h2])]
        refine answers_of rfl ?_; simp
      | true =>
        simp
        refine ⟨by decide, ?_⟩
        refine again_of (k + 1) ⟨by omega, fun j hj => ?_⟩ (by omega) ?_
        · rcases Nat.lt_succ_iff_lt_or_eq.1 hj with hj | rfl
          · exact hp j hj
          · simp [accB, h1, h2]
        · simp [wk]
  · obtain rfl : k = l.length := by omega
    have ha : accsB l = true := allN_spec.2 hp
    simp
    refine pwp_loop (fun k : Nat => [(6, .v (.int .i64 k))]) (fun k => k ≤ es.length ∧ ∀ j, j < k → entryB l.length (entryAt es j) = true) (fun k => es.length - k) 0 ⟨Nat.zero_le _, fun j hj => by omega⟩ (by simp; rfl) (by simp) ?_
    intro k ⟨hk, hq⟩
    by_cases h : k < es.length
    · have wk := i64_wrap (show -9223372036854775808 ≤ (k : Int) + 1 ∧ _ from by omega)
      have wl : IntKind.i64.wrap ((l.length : Int) - 1) = (l.length : Int) - 1 := i64_wrap (by omega)
      have bad : entryB l.length (entryAt es k) = false → (inB l.length 1 8 && accsB l && entriesB l.length es) = false := fun hb => by
        have : entriesB l.length es = false := allN_false (p := fun k => entryB l.length (entryAt es k)) h hb
        simp [this]
      simp [h, Entry.cells, wl]
      generalize hee : entryAt es k = e at *
      refine pop_spec (rin_spec e.src 0 ((l.length : Int) - 1)) rfl false (.inl (by simp)) (.inl rfl) rfl (by simp) ?_
      cases h1 : inB e.src 0 ((l.length : Int) - 1) with
      | false =>
        simp
        rw [bad (by simp [entryB, h1])]
        refine answers_of rfl ?_; simp
      | true =>
        simp [wl]
        refine pop_spec (rin_spec e.dst 0 ((l.length : Int) - 1)) rfl false (.inl (by simp)) (.inl rfl) rfl (by simp) ?_
        cases h2 : inB e.dst 0 ((l.length : Int) - 1) with
        | false =>
          simp
          rw [bad (by simp [entryB, h2])]
          refine answers_of rfl ?_; simp
        | true =>
          by_cases h3 : e.src = e.dst
          · simp [h3]
            rw [bad (by simp [entryB, h3])]
            refine answers_of rfl ?_; simp
          · simp [h3]
            refine pop_spec (rin_spec e.amount 0 1000000000) rfl false (.inl (by simp)) (.inl rfl) rfl (by simp) ?_
            cases h4 : inB e.amount 0 1000000000 with
            | false =>
              simp [h3]
              rw [bad (by simp [entryB, h4])]
              refine answers_of rfl ?_; simp
            | true =>
              simp [h3]
              refine again_of (k + 1) ⟨by omega, fun j hj => ?_⟩ (by omega) ?_
              · rcases Nat.lt_succ_iff_lt_or_eq.1 hj with hj | rfl
                · exact hq j hj
                · rw [hee]; simp [entryB, h1, h2, h3, h4]
              · simp [wk]
    · obtain rfl : k = es.length := by omega
      have hb : entriesB l.length es = true := allN_spec.2 hq
      simp
      refine pop_spec (rin_spec l.length 1 8) rfl false (.inl (by simp)) (.inl rfl) rfl (by simp) ?_
      simp
      refine answers_of rfl ?_; simp [ha, hb]

/-- Is it an order of n entries? -/
def ordAt (o : List Int) (n : Int) (i : Nat) : Bool := inB (geti o i) 0 (n - 1) && allN i fun k => geti o k != geti o i
def orderB (o : List Int) (n : Int) : Bool := allN o.length (ordAt o n) && decide ((o.length : Int) = n)
theorem rOrder_spec (o : List Int) (n : Int) (hl : o.length ≤ 9223372036854775807) (hn : 0 ≤ n ∧ n ≤ 9223372036854775807) : Spec Try.prog 49 [ints o, .v (.int .i64 n)] (.v (.bool (orderB o n))) := by
  have wn : IntKind.i64.wrap (n - 1) = n - 1 := i64_wrap (by omega)
  refine spec_of mixed Try.func49 (by decide) rfl Try.results49 Try.ntmps49 (by decide) 0 (by simp) ?_
  simp [ints]
  refine pwp_loop (fun k : Nat => [(5, .v (.int .i64 k))]) (fun k => k ≤ o.length ∧ ∀ j, j < k → ordAt o n j = true) (fun k => o.length - k) 0 ⟨Nat.zero_le _, fun j hj => by omega⟩ (by simp; rfl) (by simp) ?_
  intro i ⟨hi, hp⟩
  by_cases h : i < o.length
  · have wi := i64_wrap (show -9223372036854775808 ≤ (i : Int) + 1 ∧ _ from by omega)
    have bad : ordAt o n i = false → orderB o n = false := fun hb => by simp [orderB, allN_false h hb]
    simp [h, wn]
    refine pop_spec (rin_spec (geti o i) 0 (n - 1)) rfl false (.inl (by simp)) (.inl rfl) rfl (by simp) ?_
    cases h1 : inB (geti o i) 0 (n - 1) with
    | false =>
      simp
      rw [bad (by simp [ordAt, h1])]
      refine answers_of rfl ?_; simp
    | true =>
      simp
      refine pwp_loop (fun k : Nat => [(6, .v (.int .i64 k))]) (fun k => k ≤ i ∧ ∀ j, j < k → (geti o j != geti o i) = true) (fun k => i - k) 0 ⟨Nat.zero_le _, fun j hj => by omega⟩ (by simp; rfl) (by simp) ?_
      intro k ⟨hk, hq⟩
      by_cases hki : k < i
      · have wk := i64_wrap (show -9223372036854775808 ≤ (k : Int) + 1 ∧ _ from by omega)
        simp [hki]
        refine pwp_draw 9 (by decide) ?_
        by_cases he : geti o k = geti o i
        · simp [h, show k < o.length from by omega, he]
          refine ⟨by decide, ?_⟩
          have hf := allN_false (p := fun k => geti o k != geti o i) hki (by simp [he])
          rw [bad (by simp [ordAt, hf])]
          refine answers_of rfl ?_; simp
        · simp [h, show k < o.length from by omega, he]
          refine ⟨by decide, ?_⟩
          refine again_of (k + 1) ⟨by omega, fun j hj => ?_⟩ (by omega) ?_
          · rcases Nat.lt_succ_iff_lt_or_eq.1 hj with hj | rfl
            · simpa using hq j hj
            · simp [he]
          · simp [wk]
      · simp [hki]
        obtain rfl : k = i := by omega
        refine again_of (k + 1) ⟨by omega, fun j hj => ?_⟩ (by omega) ?_
        · rcases Nat.lt_succ_iff_lt_or_eq.1 hj with hj | rfl
          · exact hp j hj
          · simp only [ordAt, h1, Bool.true_and]
            exact allN_spec.2 hq
        · simp [wi]
  · obtain rfl : i = o.length := by omega
    have ha : allN o.length (ordAt o n) = true := allN_spec.2 hp
    by_cases hln : (o.length : Int) = n
    · simp [hln]
      refine answers_of rfl ?_; simp [orderB, ha, hln]
    · simp [hln]
      refine answers_of rfl ?_; simp [orderB, hln]

end Go.Qg

/-! The contract of the reference's function Post. No condition. -/
namespace Go.Qg
open Go.Proofs
set_option maxRecDepth 100000
set_option maxHeartbeats 4000000
attribute [local irreducible] pwp pops pdraw pop popCall pdCall thenP blockP scopeP pspec Spec answers ppost CallW rend

theorem rPost_spec (l : List Acc) (es : List Entry) (ord : List Int) (hp : PostedOk l es) (hord : ord.length ≤ 20) (hin : ∀ k, k < ord.length → 0 ≤ geti ord k ∧ geti ord k < (es.length : Int)) :
    Spec Try.prog 50 [accL l, entryL es, ints ord] (.tup [ints (tryL l es ord 0 (bals l)).1, .v (.int .i64 (tryL l es ord 0 (bals l)).2)]) := by
  have hp0 := hp
  obtain ⟨⟨hl1, hl2⟩, hes, _, he⟩ := hp0
  have hbl := bals_ok hp
  have hbn : (bals l).length = l.length := by simp [bals]
  have hrow : rowsOf (fun i => [PV.v (.int .i64 (accAt l i).bal)]) l.length = rowsI (bals l) := by
    simp [rowsOf, rowsI, bals, mk]
  refine spec_of mixed Try.func50 (by decide) rfl Try.results50 Try.ntmps50 (by decide) 0 (by simp) ?_
  simp [accL, entryL, ints]
  refine pwp_loop (fun k : Nat => [(8, .own 25 k 0 k false), (9, .v (.int .i64 k)), (25, .rows none k 3 1 (rowsOf (fun i => [.v (.int .i64 (accAt l i).bal)]) k))]) (fun k => k ≤ l.length) (fun k => l.length - k) 0 (Nat.zero_le _) (by simp; rfl) (by simp) ?_
  intro k hk
  by_cases h : k < l.length
  · simp [h, Acc.cells, show (k + 1) * 8 ≤ 140737488355328 from by omega, show k + 1 ≤ maxLen from by simp [maxLen]; omega]
    refine again_of (k + 1) (by omega) (by omega) ?_
    simp [i64_wrap (show -9223372036854775808 ≤ (k : Int) + 1 ∧ _ from by omega), rowsOf_snoc, Acc.cells]
  · obtain rfl : k = l.length := by omega
    simp [hrow]
    refine pwp_loop (fun s : Nat × List Int => [(8, .own 25 l.length 0 l.length false), (10, .v (.int .i64 s.1)), (18, .undef), (25, .rows none l.length 3 1 (rowsI s.2))]) (fun s => s.1 ≤ ord.length ∧ s.2.length = l.length ∧ (∀ j, j < s.2.length → -(20000000000 + 1000000000 * (s.1 : Int)) ≤ geti s.2 j ∧ geti s.2 j ≤ 20000000000 + 1000000000 * (s.1 : Int)) ∧ tryL l es (ord.drop s.1) s.1 s.2 = tryL l es ord 0 (bals l)) (fun s => ord.length - s.1) (0, bals l)
      ⟨Nat.zero_le _, hbn, fun j hj => by have := hbl.each j hj; simp; omega, rfl⟩ (by simp; rfl) (by simp) ?_
    rintro ⟨k, nw⟩ ⟨hk, hnl, hbd, htr⟩
    simp only at hk hnl hbd htr
    by_cases hkl : k < ord.length
    · have hik := hin k hkl
      have wk := i64_wrap (show -9223372036854775808 ≤ (k : Int) + 1 ∧ _ from by omega)
      have hlt : (geti ord k).toNat < es.length := by omega
      obtain ⟨e1, e2, e3, e4⟩ := he.each _ hlt
      have hdrop : ord.drop k = geti ord k :: ord.drop (k + 1) := by
        rw [List.drop_eq_getElem_cons hkl]; simp [geti, hkl]
      rw [hdrop, tryL] at htr
      simp [hkl, hik, hlt, Entry.cells]
      generalize hee : entryAt es (geti ord k).toNat = e at *
      have hsb := hbd e.src.toNat (by omega)
      have hdb := hbd e.dst.toNat (by omega)
      have hsn : e.src.toNat < nw.length := by omega
      have hdn : e.dst.toNat < nw.length := by omega
      have w1 : IntKind.i64.wrap (geti nw e.src.toNat - e.amount) = geti nw e.src.toNat - e.amount := i64_wrap (by omega)
      have w2 : IntKind.i64.wrap (geti nw e.dst.toNat + e.amount) = geti nw e.dst.toNat + e.amount := i64_wrap (by omega)
      refine pwp_draw 15 (by decide) ?_
      by_cases hm : (accAt l e.src.toNat).least ≤ geti nw e.src.toNat - e.amount
      · have hmb : mayB l nw e = true := by simp [mayB, hm]
        rw [if_pos hmb] at htr
        have hmade : (nw.set e.src.toNat (geti nw e.src.toNat - e.amount)).set e.dst.toNat (geti nw e.dst.toNat + e.amount) = made nw e := by
          simp only [made]
          rw [geti_set hdn, if_neg (by omega)]
        simp [e1, e2, hsn, hdn, show e.src.toNat < l.length from by omega, rowsI_get hsn, Acc.cells, w1, hm, Int.not_lt.2 hm]
        refine ⟨by decide, ?_⟩
        refine pwp_draw 26 (by decide) ?_
        simp [e1, e2, hsn, hdn, hnl, show e.src.toNat < l.length from by omega, show e.dst.toNat < l.length from by omega, rowsI_get hsn, rowsI_get hdn, w1, w2, rowsI_set]
        refine ⟨by decide, ?_⟩
        refine again_of (k + 1, made nw e) ⟨by simp; omega, by simp [made_length, hnl], ?_, ?_⟩ (by simp; omega) ?_
        · intro j hj
          have := made_bound e4 hbd (by omega) (by omega) (by omega) j hj
          simp at this ⊢
          omega
        · exact htr
        · simp [wk, hmade]
      · have hmb : ¬ mayB l nw e = true := by simp [mayB]; omega
        rw [if_neg hmb] at htr
        simp [e1, e2, hsn, hdn, show e.src.toNat < l.length from by omega, rowsI_get hsn, Acc.cells, w1, hm, Int.not_le.1 hm]
        refine ⟨by decide, ?_⟩
        rw [← htr]
        refine answers_of rfl ?_
        simp [ints, hnl]
        intro j hj
        simp [rowsI_get (show j < nw.length by omega)]
    · obtain rfl : k = ord.length := by omega
      rw [List.drop_length, tryL] at htr
      simp
      rw [← htr]
      refine answers_of rfl ?_
      simp [ints, hnl]
      intro j hj
      simp [rowsI_get (show j < nw.length by omega)]
end Go.Qg

/-! What the search of Settle finds: the first order that goes (plain law). No condition. -/
namespace Go.Qg

/-! ### What is on accounts behind a list of entries -/
def goesB (l : List Acc) (es : List Entry) : List Int → List Int → Bool
  | [], _ => true
  | k :: o, now => mayB l now (entryAt es k.toNat) && goesB l es o (made now (entryAt es k.toNat))
def stateL (es : List Entry) (b now : List Int) : List Int := b.foldl (fun nw k => made nw (entryAt es k.toNat)) now
theorem stateL_nil (es : List Entry) (now : List Int) : stateL es [] now = now := rfl
theorem stateL_cons (es : List Entry) (k : Int) (b now : List Int) : stateL es (k :: b) now = stateL es b (made now (entryAt es k.toNat)) := rfl
theorem stateL_append (es : List Entry) (a b now : List Int) : stateL es (a ++ b) now = stateL es b (stateL es a now) := by simp [stateL, List.foldl_append]
theorem goesB_append (l : List Acc) (es : List Entry) : ∀ (a b now : List Int), goesB l es (a ++ b) now = (goesB l es a now && goesB l es b (stateL es a now))
  | [], b, now => by simp [goesB, stateL]
  | k :: a, b, now => by
    simp only [List.cons_append, goesB, goesB_append l es a b, stateL_cons, Bool.and_assoc]
theorem tryL_go (l : List Acc) (es : List Entry) : ∀ (o : List Int) (i : Int) (now : List Int), goesB l es o now = true → tryL l es o i now = (stateL es o now, -1)
  | [], _, _, _ => rfl
  | k :: o, i, now, h => by
    simp only [goesB, Bool.and_eq_true] at h
    rw [tryL, if_pos h.1, tryL_go l es o _ _ h.2]; rfl
theorem tryL_no (l : List Acc) (es : List Entry) : ∀ (o : List Int) (i : Int) (now : List Int), goesB l es o now = false → i ≤ (tryL l es o i now).2 ∧ (tryL l es o i now).2 < i + o.length
  | [], _, _, h => by cases h
  | k :: o, i, now, h => by
    rw [tryL]
    split
    · rename_i hm
      simp only [goesB, hm, Bool.true_and] at h
      have := tryL_no l es o (i + 1) _ h
      simp only [List.length_cons]
      omega
    · simp only [List.length_cons]; omega

/-- What an entry does to an account. -/
def delta (e : Entry) (x : Nat) : Int := (if e.dst.toNat = x then e.amount else 0) - (if e.src.toNat = x then e.amount else 0)
def dsum (es : List Entry) : List Int → Nat → Int
  | [], _ => 0
  | k :: b, x => delta (entryAt es k.toNat) x + dsum es b x
theorem made_geti {n : Nat} {now : List Int} {e : Entry} (hn : now.length = n) (hs : 0 ≤ e.src ∧ e.src < (n : Int)) (hd : 0 ≤ e.dst ∧ e.dst < (n : Int)) (hne : e.src ≠ e.dst) {x : Nat} (hx : x < n) : geti (made now e) x = geti now x + delta e x := by
  simp only [made, delta]
  rw [geti_set (by simp; omega), geti_set (by omega), geti_set (by omega)]
  split
  · rename_i h
    rw [if_neg (by omega)]
    split
    · omega
    · rw [h]; omega
  · split
    · rename_i h; rw [h]; omega
    · omega
structure Within (es : List Entry) (b : List Int) : Prop where
  each : ∀ k ∈ b, 0 ≤ k ∧ k < (es.length : Int)
theorem stateL_length (es : List Entry) : ∀ (b now : List Int), (stateL es b now).length = now.length
  | [], now => rfl
  | k :: b, now => by rw [stateL_cons, stateL_length es b, made_length]
theorem stateL_geti {n : Nat} {es : List Entry} (he : EntriesOk n es) : ∀ {b now : List Int}, Within es b → now.length = n → ∀ x, x < n → geti (stateL es b now) x = geti now x + dsum es b x
  | [], now, _, _, x, _ => by simp [stateL, dsum]
  | k :: b, now, hb, hn, x, hx => by
    have hk := hb.each k List.mem_cons_self
    obtain ⟨e1, e2, e3, e4⟩ := he.each k.toNat (by omega)
    rw [stateL_cons, stateL_geti he ⟨fun j hj => hb.each j (List.mem_cons_of_mem _ hj)⟩ (by rw [made_length, hn]) x hx, made_geti hn e1 e2 e3 hx, dsum]
    omega
theorem dsum_perm {es : List Entry} {a b : List Int} (h : a.Perm b) (x : Nat) : dsum es a x = dsum es b x := by
  induction h with
  | nil => rfl
  | cons k _ ih => simp only [dsum, ih]
  | swap k j l => simp only [dsum]; omega
  | trans _ _ ih1 ih2 => rw [ih1, ih2]
theorem ext_list {a b : List Int} (h : a.length = b.length) (h2 : ∀ k, k < a.length → geti a k = geti b k) : a = b := by
  refine List.ext_getElem h fun i h3 h4 => ?_
  have := h2 i h3
  simpa [geti, h3, h4] using this
theorem stateL_perm {n : Nat} {es : List Entry} (he : EntriesOk n es) {a b now : List Int} (ha : Within es a) (hp : a.Perm b) (hn : now.length = n) : stateL es a now = stateL es b now := by
  have hb : Within es b := ⟨fun k hk => ha.each k (hp.mem_iff.2 hk)⟩
  refine ext_list (by rw [stateL_length, stateL_length]) fun k hk => ?_
  rw [stateL_length, hn] at hk
  rw [stateL_geti he ha hn k hk, stateL_geti he hb hn k hk, dsum_perm hp]

/-! ### Orders -/
structure Valid (es : List Entry) (b : List Int) : Prop where
  nodup : b.Nodup
  within : Within es b
theorem Valid.prefix_ {es : List Entry} {a b : List Int} (h : Valid es (a ++ b)) : Valid es a :=
  ⟨(List.nodup_append.1 h.nodup).1, ⟨fun k hk => h.within.each k (List.mem_append_left _ hk)⟩⟩
theorem Valid.snoc {es : List Entry} {b : List Int} (h : Valid es b) {i : Nat} (hi : i < es.length) (hn : (i : Int) ∉ b) : Valid es (b ++ [(i : Int)]) := by
  refine ⟨List.nodup_append.2 ⟨h.nodup, by simp, ?_⟩, ⟨fun k hk => ?_⟩⟩
  · intro a ha c hc
    obtain rfl := List.mem_singleton.1 hc
    rintro rfl; exact hn ha
  · rcases List.mem_append.1 hk with hk | hk
    · exact h.within.each k hk
    · obtain rfl := List.mem_singleton.1 hk
      omega
theorem nodup_le : ∀ (n : Nat) (b : List Int), b.Nodup → (∀ k ∈ b, 0 ≤ k ∧ k < (n : Int)) → b.length ≤ n
  | 0, b, _, h => by
    cases b with
    | nil => simp
    | cons k b => have := h k List.mem_cons_self; omega
  | n + 1, b, hn, h => by
    have h1 := nodup_le n (b.erase (n : Int)) (hn.erase _) fun k hk => by
      have h2 := h k (List.mem_of_mem_erase hk)
      have h3 : k ≠ (n : Int) := fun e => by
        subst e
        exact (hn.mem_erase_iff.1 hk).1 rfl
      omega
    have h2 := List.length_erase_le (a := (n : Int)) (l := b)
    by_cases hm : (n : Int) ∈ b
    · rw [List.length_erase_of_mem hm] at h1; omega
    · rw [List.erase_of_not_mem hm] at h1; omega
theorem Valid.le {es : List Entry} {b : List Int} (h : Valid es b) : b.length ≤ es.length := nodup_le _ _ h.nodup h.within.each

/-- Can it be completed? -/
def Comp (l : List Acc) (es : List Entry) (b : List Int) : Prop := ∃ c, Valid es (b ++ c) ∧ (b ++ c).length = es.length ∧ goesB l es (b ++ c) (bals l) = true
theorem comp_perm {l : List Acc} {es : List Entry} (he : EntriesOk l.length es) {a b : List Int} (hp : a.Perm b) (hb : goesB l es b (bals l) = true) (h : Comp l es a) : Comp l es b := by
  obtain ⟨c, h1, h2, h3⟩ := h
  refine ⟨c, ⟨?_, ⟨fun k hk => ?_⟩⟩, ?_, ?_⟩
  · exact (hp.append_right c).nodup_iff.1 h1.nodup
  · exact h1.within.each k ((hp.append_right c).mem_iff.2 hk)
  · rw [← h2]; simp [hp.length_eq]
  · rw [goesB_append] at h3 ⊢
    rw [hb, ← stateL_perm he h1.prefix_.within hp (by simp [bals])]
    simp only [Bool.and_eq_true] at h3
    simp [h3.2]

/-! ### The reference's search -/
def stlI (rec : List Int → Option (List Int)) (b : List Int) : Nat → Nat → Option (List Int)
  | 0, _ => none
  | c + 1, i => if b.contains (i : Int) then stlI rec b c (i + 1) else match rec (b ++ [(i : Int)]) with
    | some o => some o
    | none => stlI rec b c (i + 1)
def stl (l : List Acc) (es : List Entry) : Nat → List Int → Option (List Int)
  | 0, b => if goesB l es b (bals l) then if b.length = es.length then some b else none else none
  | n + 1, b => if goesB l es b (bals l) then if b.length = es.length then some b else stlI (stl l es n) b es.length 0 else none
/-- Does a list come before another one? -/
def befB : List Int → List Int → Bool
  | x :: a, y :: b => if x ≠ y then decide (x < y) else befB a b
  | _, _ => false
theorem befB_irr : ∀ a, befB a a = false
  | [] => rfl
  | x :: a => by simp [befB, befB_irr a]
theorem befB_pre : ∀ (p a b : List Int), befB (p ++ a) (p ++ b) = befB a b
  | [], a, b => rfl
  | x :: p, a, b => by simp [befB, befB_pre p a b]

structure First (l : List Acc) (es : List Entry) (b : List Int) (x : Option (List Int)) : Prop where
  none : x = none → ¬ Comp l es b
  some : ∀ o, x = some o → (∃ c, o = b ++ c) ∧ Valid es o ∧ o.length = es.length ∧ goesB l es o (bals l) = true ∧ ∀ c', Valid es (b ++ c') → (b ++ c').length = es.length → goesB l es (b ++ c') (bals l) = true → befB (b ++ c') o = false
theorem comp_goes {l : List Acc} {es : List Entry} {b : List Int} (h : Comp l es b) : goesB l es b (bals l) = true := by
  obtain ⟨c, _, _, h⟩ := h
  rw [goesB_append, Bool.and_eq_true] at h
  exact h.1
theorem first_no {l : List Acc} {es : List Entry} {b : List Int} (h : goesB l es b (bals l) = false) : First l es b none :=
  ⟨fun _ hc => (by rw [comp_goes hc] at h; cases h), fun o h => (by cases h)⟩
theorem first_end {l : List Acc} {es : List Entry} {b : List Int} (hv : Valid es b) (h : goesB l es b (bals l) = true) (hl : b.length = es.length) : First l es b (some b) := by
  refine ⟨fun h => (by cases h), fun o ho => ?_⟩
  obtain rfl := Option.some.inj ho
  refine ⟨⟨[], by simp⟩, hv, hl, h, fun c' _ h2 _ => ?_⟩
  have : c' = [] := by
    simp only [List.length_append, hl] at h2
    exact List.eq_nil_of_length_eq_zero (by omega)
  subst this
  rw [List.append_nil, befB_irr]
theorem stlI_first {l : List Acc} {es : List Entry} {rec : List Int → Option (List Int)} {b : List Int} (hv : Valid es b) (hlt : b.length < es.length) (ih : ∀ i : Nat, i < es.length → (i : Int) ∉ b → First l es (b ++ [(i : Int)]) (rec (b ++ [(i : Int)]))) :
    ∀ (c i : Nat), i + c = es.length → (∀ j : Nat, j < i → (j : Int) ∉ b → ¬ Comp l es (b ++ [(j : Int)])) → First l es b (stlI rec b c i)
  | 0, i, hi, hj => by
    refine ⟨fun _ ⟨c, h1, h2, h3⟩ => ?_, fun o h => (by cases h)⟩
    cases c with
    | nil => simp only [List.append_nil] at h2; omega
    | cons k c =>
      have hk := h1.within.each k (by simp)
      have hkb : k ∉ b := fun hm => (List.nodup_append.1 h1.nodup).2.2 k hm k List.mem_cons_self rfl
      refine hj k.toNat (by omega) (by rw [show (k.toNat : Int) = k from by omega]; exact hkb) ⟨c, ?_, ?_, ?_⟩ <;> rw [show (k.toNat : Int) = k from by omega, List.append_assoc] <;> assumption
  | c + 1, i, hi, hj => by
    simp only [stlI]
    have next : ((i : Int) ∉ b → ¬ Comp l es (b ++ [(i : Int)])) → First l es b (stlI rec b c (i + 1)) := fun h => by
      refine stlI_first hv hlt ih c (i + 1) (by omega) fun j hj' hjb => ?_
      rcases Nat.lt_succ_iff_lt_or_eq.1 hj' with h1 | rfl
      · exact hj j h1 hjb
      · exact h hjb
    split
    · rename_i hm
      exact next fun h => absurd (by simpa using hm) h
    · rename_i hm
      have hm : (i : Int) ∉ b := by simpa using hm
      have h1 := ih i (by omega) hm
      split
      · rename_i o ho
        obtain ⟨⟨c0, g1⟩, g2, g3, g4, g5⟩ := h1.some o ho
        refine ⟨fun h => (by cases h), fun o' ho' => ?_⟩
        obtain rfl := Option.some.inj ho'
        refine ⟨⟨(i : Int) :: c0, by rw [g1]; simp⟩, g2, g3, g4, fun c' k1 k2 k3 => ?_⟩
        cases c' with
        | nil => simp only [List.append_nil] at k2; omega
        | cons k c' =>
          have hk := k1.within.each k (by simp)
          have hkb : k ∉ b := fun hm => (List.nodup_append.1 k1.nodup).2.2 k hm k List.mem_cons_self rfl
          by_cases e : k = (i : Int)
          · subst e
            have := g5 c' (by rw [List.append_assoc]; exact k1) (by rw [List.append_assoc]; exact k2) (by rw [List.append_assoc]; exact k3)
            rw [List.append_assoc] at this
            exact this
          · have hge : ¬ k < (i : Int) := fun hlt' => by
              refine hj k.toNat (by omega) (by rw [show (k.toNat : Int) = k from by omega]; exact hkb) ⟨c', ?_, ?_, ?_⟩ <;> rw [show (k.toNat : Int) = k from by omega, List.append_assoc] <;> assumption
            rw [g1, List.append_assoc, befB_pre]
            simp [befB, e]; omega
      · rename_i hn
        exact next fun _ => h1.none hn
theorem stl_first {l : List Acc} {es : List Entry} : ∀ (k : Nat) {b : List Int}, Valid es b → es.length = b.length + k → First l es b (stl l es k b)
  | 0, b, hv, hk => by
    simp only [stl]
    by_cases h : goesB l es b (bals l) = true
    · simp only [h, if_true, show b.length = es.length from by omega]
      exact first_end hv h (by omega)
    · simp only [h, if_false]
      exact first_no (by simpa using h)
  | k + 1, b, hv, hk => by
    simp only [stl]
    by_cases h : goesB l es b (bals l) = true
    · simp only [h, if_true, show ¬ b.length = es.length from by omega, if_false]
      exact stlI_first hv (by omega) (fun i hi hib => stl_first k (hv.snoc hi hib) (by simp; omega)) es.length 0 (by omega) fun j hj => by omega
    · simp only [h, if_false]
      exact first_no (by simpa using h)

/-! ### Masks -/
theorem mask_tab : ∀ m : Fin 128, ∀ i : Fin 7, (0 ≤ withI (m.val : Int) i.val ∧ withI (m.val : Int) i.val < 128) ∧ ∀ j : Fin 7, isI (withI (m.val : Int) i.val) j.val = (isI (m.val : Int) j.val || decide (j.val = i.val)) := by decide +kernel
theorem mask_bits : ∀ m : Fin 128, (m.val : Int) = (if isI m.val 0 then 1 else 0) + (if isI m.val 1 then 2 else 0) + (if isI m.val 2 then 4 else 0) + (if isI m.val 3 then 8 else 0) + (if isI m.val 4 then 16 else 0) + (if isI m.val 5 then 32 else 0) + (if isI m.val 6 then 64 else 0) := by decide +kernel
theorem mask_zero : ∀ i : Fin 7, isI 0 i.val = false := by decide +kernel
structure MaskOk (m : Int) (b : List Int) : Prop where
  bound : 0 ≤ m ∧ m < 128
  bit : ∀ i : Nat, i < 7 → (isI m i = true ↔ (i : Int) ∈ b)
theorem mask_with {m : Int} {b : List Int} (h : MaskOk m b) {i : Nat} (hi : i < 7) : MaskOk (withI m i) (b ++ [(i : Int)]) := by
  obtain ⟨h1, h2⟩ := h.bound
  have ht := mask_tab ⟨m.toNat, by omega⟩ ⟨i, hi⟩
  simp only [show ((m.toNat : Nat) : Int) = m from by omega] at ht
  refine ⟨ht.1, fun j hj => ?_⟩
  have hb := ht.2 ⟨j, hj⟩
  simp only at hb
  rw [hb, Bool.or_eq_true, h.bit j hj, decide_eq_true_eq, List.mem_append, List.mem_singleton]
  constructor
  · rintro (h | rfl)
    · exact .inl h
    · exact .inr rfl
  · rintro (h | h)
    · exact .inl h
    · exact .inr (by omega)
theorem mask_perm {es : List Entry} (hes : es.length ≤ 7) {m : Int} {a b : List Int} (ha : Valid es a) (hb : Valid es b) (h1 : MaskOk m a) (h2 : MaskOk m b) : a.Perm b := by
  refine (List.perm_ext_iff_of_nodup ha.nodup hb.nodup).2 fun k => ?_
  by_cases hk : 0 ≤ k ∧ k < 7
  · have e1 := h1.bit k.toNat (by omega)
    have e2 := h2.bit k.toNat (by omega)
    rw [show ((k.toNat : Nat) : Int) = k from by omega] at e1 e2
    exact e1.symm.trans e2
  · constructor
    · intro h; have := ha.within.each k h; omega
    · intro h; have := hb.within.each k h; omega

/-! ### The search with its dead ends -/
def DeadOk (l : List Acc) (es : List Entry) (d : List Int) : Prop := ∀ x ∈ d, ∀ b, Valid es b → MaskOk x b → ¬ Comp l es b
structure Found (l : List Acc) (es : List Entry) (x : Option (List Int)) (r : Bool × List Int × List Int) : Prop where
  yes : r.1 = true → x = some r.2.1
  no : r.1 = false → x = none ∧ DeadOk l es r.2.2

theorem srchI_found {l : List Acc} {es : List Entry} (he : EntriesOk l.length es) (hes : es.length ≤ 7) {k : Nat} {rec : Int → List Int → List Int → List Int → Bool × List Int × List Int}
    (hord : ∀ m now o d, (rec m now o d).1 = false → (rec m now o d).2.1 = o) {m : Int} {b : List Int} (hv : Valid es b) (hg : goesB l es b (bals l) = true) (hm : MaskOk m b) (hk : es.length = b.length + (k + 1))
    (ih : ∀ (i : Nat) (d : List Int), i < es.length → (i : Int) ∉ b → goesB l es (b ++ [(i : Int)]) (bals l) = true → DeadOk l es d → Found l es (stl l es k (b ++ [(i : Int)])) (rec (withI m i) (stateL es (b ++ [(i : Int)]) (bals l)) (b ++ [(i : Int)]) d)) :
    ∀ (c i : Nat) (d : List Int), i + c = es.length → DeadOk l es d → stlI (stl l es k) b es.length 0 = stlI (stl l es k) b c i → Found l es (stlI (stl l es k) b c i) (srchI rec l es m (stateL es b (bals l)) c i b d)
  | 0, i, d, hi, hd, hst => by
    simp only [srchI]
    refine ⟨fun h => (by cases h), fun _ => ⟨rfl, fun x hx b' hv' hm' => ?_⟩⟩
    have key : x ∈ d ∨ x = m := by
      unfold dput at hx
      split at hx
      · exact .inl hx
      · rcases List.mem_append.1 hx with hx | hx
        · exact .inl hx
        · exact .inr (List.mem_singleton.1 hx)
    rcases key with h | rfl
    · exact hd x h b' hv' hm'
    · intro hc
      have hf := (stl_first (l := l) (es := es) (k + 1) hv hk).none (by
        simp only [stl, hg, if_true, show ¬ b.length = es.length from by omega, if_false]
        rw [hst]; rfl)
      exact hf (comp_perm he (mask_perm hes hv' hv hm' hm) hg hc)
  | c + 1, i, d, hi, hd, hst => by
    have hi7 : i < 7 := by omega
    have hbit := hm.bit i hi7
    have next : ∀ d', DeadOk l es d' → ((i : Int) ∉ b → stl l es k (b ++ [(i : Int)]) = none) → Found l es (stlI (stl l es k) b (c + 1) i) (srchI rec l es m (stateL es b (bals l)) c (i + 1) b d') := fun d' hd' hn => by
      have e : stlI (stl l es k) b (c + 1) i = stlI (stl l es k) b c (i + 1) := by
        simp only [stlI]
        split
        · rfl
        · rename_i hc
          rw [hn (by simpa using hc)]
      rw [e]
      exact srchI_found he hes hord hv hg hm hk ih c (i + 1) d' (by omega) hd' (hst.trans e)
    have hgo : goesB l es (b ++ [(i : Int)]) (bals l) = mayB l (stateL es b (bals l)) (entryAt es i) := by
      rw [goesB_append, hg]
      simp [goesB]
    simp only [srchI]
    by_cases h1 : (isI m i || d.contains (withI m i)) = true
    · rw [if_pos h1]
      refine next d hd fun hib => ?_
      have h2 : isI m i = false := by
        cases h : isI m i with
        | false => rfl
        | true => exact absurd (hbit.1 h) hib
      rw [h2, Bool.false_or] at h1
      have hf := stl_first (l := l) (es := es) k (hv.snoc (by omega) hib) (by simp; omega)
      have hnc := hd _ (by simpa using h1) _ (hv.snoc (by omega) hib) (mask_with hm hi7)
      cases hx : stl l es k (b ++ [(i : Int)]) with
      | none => rfl
      | some o =>
        obtain ⟨⟨c0, g1⟩, g2, g3, g4, _⟩ := hf.some o hx
        exact absurd ⟨c0, g1 ▸ g2, g1 ▸ g3, g1 ▸ g4⟩ hnc
    · rw [if_neg h1]
      simp only [Bool.or_eq_true, not_or, Bool.not_eq_true] at h1
      have hib : (i : Int) ∉ b := fun h => by rw [hbit.2 h] at h1; cases h1.1
      by_cases h2 : mayB l (stateL es b (bals l)) (entryAt es i) = true
      · rw [if_pos h2]
        have hst2 : made (stateL es b (bals l)) (entryAt es i) = stateL es (b ++ [(i : Int)]) (bals l) := by
          rw [stateL_append]; rfl
        rw [hst2]
        have h3 := ih i d (by omega) hib (hgo.trans h2) hd
        have h4 := hord (withI m i) (stateL es (b ++ [(i : Int)]) (bals l)) (b ++ [(i : Int)]) d
        generalize rec (withI m i) (stateL es (b ++ [(i : Int)]) (bals l)) (b ++ [(i : Int)]) d = r at h3 h4
        obtain ⟨x, o', d'⟩ := r
        cases x with
        | true =>
          refine ⟨fun _ => ?_, fun h => (by cases h)⟩
          have := h3.yes rfl
          simp only [stlI, show b.contains (i : Int) = false from by simpa using hib, Bool.false_eq_true, if_false, this]
        | false =>
          obtain rfl : o' = b ++ [(i : Int)] := h4 rfl
          have e : (b ++ [(i : Int)]).take ((b ++ [(i : Int)]).length - 1) = b := by simp
          simp only [e]
          exact next d' (h3.no rfl).2 fun _ => (h3.no rfl).1
      · rw [if_neg h2]
        refine next d hd fun _ => ?_
        have hg' : goesB l es (b ++ [(i : Int)]) (bals l) = false := by rw [hgo]; simpa using h2
        cases k with
        | zero => simp [stl, hg']
        | succ k => simp [stl, hg']
theorem srch_found {l : List Acc} {es : List Entry} (he : EntriesOk l.length es) (hes : es.length ≤ 7) : ∀ (k : Nat) {m : Int} {b d : List Int}, Valid es b → goesB l es b (bals l) = true → MaskOk m b → es.length = b.length + k → DeadOk l es d →
    Found l es (stl l es k b) (srch l es k m (stateL es b (bals l)) b d)
  | 0, m, b, d, hv, hg, hm, hk, hd => by
    simp only [srch, stl, hg, if_true, show b.length = es.length from by omega]
    exact ⟨fun _ => rfl, fun h => (by cases h)⟩
  | k + 1, m, b, d, hv, hg, hm, hk, hd => by
    simp only [srch, stl, hg, if_true, show ¬ b.length = es.length from by omega, if_false]
    exact srchI_found he hes (srch_order l es k) hv hg hm hk (fun i d' hi hib hg' hd' => srch_found he hes k (hv.snoc hi hib) hg' (mask_with hm (by omega)) (by simp; omega) hd') es.length 0 d (by omega) hd rfl

theorem settle_eq {l : List Acc} {es : List Entry} (h : postedE l es = 0) : settleOf l es = match stl l es es.length [] with
    | some o => (o, 0)
    | none => ([], 5) := by
  have hp := posted_ok h
  have hv : Valid es [] := ⟨List.nodup_nil, ⟨fun k hk => (by cases hk)⟩⟩
  have hm : MaskOk 0 [] := ⟨by omega, fun i hi => by
    have := mask_zero ⟨i, hi⟩
    simp only at this
    simp [this]⟩
  have hf := srch_found hp.entries hp.ne es.length (m := 0) (d := []) hv rfl hm (by simp) (fun x hx => by cases hx)
  rw [stateL_nil] at hf
  simp only [settleOf, h, if_true]
  generalize srch l es es.length 0 (bals l) [] [] = r at hf
  obtain ⟨x, o, d⟩ := r
  cases x with
  | true => rw [hf.yes rfl]
  | false => rw [(hf.no rfl).1]
theorem settle_first (l : List Acc) (es : List Entry) : First l es [] (stl l es es.length []) := stl_first es.length ⟨List.nodup_nil, ⟨fun k hk => (by cases hk)⟩⟩ (by simp)
end Go.Qg

/-! The contract of Post. No condition. -/
namespace Go.Qg
open Go.Proofs
set_option maxRecDepth 100000
set_option maxHeartbeats 4000000
attribute [local irreducible] pwp pops pdraw pop popCall pdCall thenP blockP scopeP pspec Spec answers ppost CallW rend dleaves dpost dmid DefW

theorem Post1_spec (k n : Int) (es : List Entry) (he : es.length ≤ 9223372036854775807) : Spec Try.prog 87 [.v (.int .i64 k), .v (.int .i64 n), .rp [entryL es] 0] (.v (.bool (inB n 0 ((es.length : Int) - 1)))) := by
  refine spec_of mixed Try.func87 (by decide) rfl Try.results87 Try.ntmps87 (by decide) 0 (by simp) ?_
  simp [entryL, i64_wrap (show -9223372036854775808 ≤ (es.length : Int) - 1 ∧ _ from by omega)]
  refine pop_spec (in_spec n 0 ((es.length : Int) - 1)) rfl false (.inl (by simp)) (.inl rfl) rfl (by simp) ?_
  simp
  refine answers_of rfl ?_; simp

/-- The numbers that are met. -/
def metTo (o : List Int) : Nat → List Int
  | 0 => []
  | k + 1 => dput (metTo o k) (geti o k)
theorem metTo_mem (o : List Int) (x : Int) : ∀ k, x ∈ metTo o k ↔ ∃ j, j < k ∧ geti o j = x
  | 0 => by simp [metTo]
  | k + 1 => by
    have ih := metTo_mem o x k
    simp only [metTo, dput]
    split
    · rename_i h
      rw [ih]
      have h : geti o k ∈ metTo o k := by simpa using h
      have h := (metTo_mem o (geti o k) k).1 h
      constructor
      · rintro ⟨j, hj, e⟩; exact ⟨j, by omega, e⟩
      · rintro ⟨j, hj, e⟩
        rcases Nat.lt_succ_iff_lt_or_eq.1 hj with hj | rfl
        · exact ⟨j, hj, e⟩
        · obtain ⟨i, hi, e2⟩ := h
          exact ⟨i, hi, by rw [e2, e]⟩
    · simp only [List.mem_append, List.mem_singleton, ih]
      constructor
      · rintro (⟨j, hj, e⟩ | e)
        · exact ⟨j, by omega, e⟩
        · exact ⟨k, by omega, e.symm⟩
      · rintro ⟨j, hj, e⟩
        rcases Nat.lt_succ_iff_lt_or_eq.1 hj with hj | rfl
        · exact .inl ⟨j, hj, e⟩
        · exact .inr e.symm
theorem metTo_le (o : List Int) : ∀ k, (metTo o k).length ≤ k
  | 0 => Nat.le_refl _
  | k + 1 => by
    have := metTo_le o k
    simp only [metTo, dput]
    split <;> simp <;> omega
theorem metTo_eq (o : List Int) : ∀ k, (metTo o k).length = k ↔ ∀ i, i < k → ∀ j, j < i → geti o j ≠ geti o i
  | 0 => by simp [metTo]
  | k + 1 => by
    have ih := metTo_eq o k
    have hle := metTo_le o k
    have hm := metTo_mem o (geti o k) k
    simp only [metTo, dput]
    split
    · rename_i h
      have h : geti o k ∈ metTo o k := by simpa using h
      obtain ⟨j, hj, e⟩ := hm.1 h
      exact ⟨fun h2 => by omega, fun h2 => absurd e (h2 k (by omega) j hj)⟩
    · rename_i h
      have h : ¬ geti o k ∈ metTo o k := by simpa using h
      simp only [List.length_append, List.length_singleton]
      constructor
      · intro h2 i hi j hj
        rcases Nat.lt_succ_iff_lt_or_eq.1 hi with hi | rfl
        · exact (ih.1 (by omega)) i hi j hj
        · exact fun e => h (hm.2 ⟨j, hj, e⟩)
      · intro h2
        have := ih.2 fun i hi j hj => h2 i (by omega) j hj
        omega
def orderOk (o : List Int) (n : Nat) : Bool := decide (o.length = n) && decide ((metTo o o.length).length = o.length) && allN o.length fun k => inB (geti o k) 0 ((n : Int) - 1)
theorem orderOk_eq (o : List Int) (n : Nat) : orderOk o n = orderB o n := by
  rw [Bool.eq_iff_iff]
  simp only [orderOk, orderB, ordAt, Bool.and_eq_true, decide_eq_true_eq, allN_spec, metTo_eq, bne_iff_ne]
  constructor
  · rintro ⟨⟨h1, h2⟩, h3⟩
    exact ⟨fun i hi => ⟨h3 i hi, fun k hk => h2 i hi k hk⟩, by omega⟩
  · rintro ⟨h1, h2⟩
    exact ⟨⟨by omega, fun i hi j hj => (h1 i hi).2 j hj⟩, fun i hi => (h1 i hi).1⟩

structure Posted where
  now : List Int
  at_ : Int
  err : Int
def postOf (l : List Acc) (es : List Entry) (o : List Int) : Posted :=
  if postedE l es = 0 then if orderOk o es.length then ⟨(tryL l es o 0 (bals l)).1, (tryL l es o 0 (bals l)).2, 0⟩ else ⟨[], -1, 2⟩ else ⟨[], -1, postedE l es⟩
def Posted.pv (p : Posted) : PV := .tup [ints p.now, .v (.int .i64 p.at_), .v (.int .i64 p.err)]

theorem Post_spec (l : List Acc) (es : List Entry) (o : List Int) (hl : l.length ≤ 9223372036854775807) (he : es.length ≤ 9223372036854775807) (hol : o.length ≤ 1000) : Spec Try.prog 48 [accL l, entryL es, ints o] (postOf l es o).pv := by
  refine spec_of mixed Try.func48 (by decide) rfl Try.results48 Try.ntmps48 (by decide) 2 (by simp) ?_
  simp [accL, entryL, ints]
  refine pop_spec (posted_spec l es hl he) rfl false (.inl (by simp [accL, entryL])) (.inl rfl) rfl (by simp) ?_
  by_cases h : postedE l es = 0
  · have hok := posted_ok h
    obtain ⟨⟨hl1, hl2⟩, hes, _, hent⟩ := hok
    simp [h]
    refine pwp_loop (fun k : Nat => [(21, .map true (keysI (metTo o k)) (trues (metTo o k))), (24, .v (.int .i64 k))]) (fun k => k ≤ o.length) (fun k => o.length - k) 0 (Nat.zero_le _) (by simp; rfl) (by simp [metTo]) ?_
    intro k hk
    by_cases hkl : k < o.length
    · have wk := i64_wrap (show -9223372036854775808 ≤ (k : Int) + 1 ∧ _ from by omega)
      cases hd : dfind (metTo o k) (geti o k) 0 with
      | some j =>
        have hc : (metTo o k).contains (geti o k) = true := by rw [← dfind_mem (j := 0), hd]; rfl
        have hdd : metTo o (k + 1) = metTo o k := by simp [metTo, dput] at hc ⊢; simp [hc]
        have hj : j < (metTo o k).length := by simpa using (dfind_some hd).2.1
        simp [hkl, pkeyOk, pkfind_ints (P := Try.prog) (t := 3) (by simp), hd, keysI_set hd, trues_set hj]
        refine again_of (k + 1) (by omega) (by omega) ?_
        simp [wk, hdd]
      | none =>
        have hc : (metTo o k).contains (geti o k) = false := by rw [← dfind_mem (j := 0), hd]; rfl
        have hdd : metTo o (k + 1) = metTo o k ++ [geti o k] := by simp [metTo, dput] at hc ⊢; simp [hc]
        simp [hkl, pkeyOk, pkfind_ints (P := Try.prog) (t := 3) (by simp), hd, keysI_snoc, trues_snoc (metTo o k) (geti o k)]
        refine again_of (k + 1) (by omega) (by omega) ?_
        simp [wk, hdd]
    · obtain rfl : k = o.length := by omega
      have bad : orderOk o es.length = false → postOf l es o = ⟨[], -1, 2⟩ := fun hb => by simp [postOf, h, hb]
      by_cases h1 : o.length = es.length
      · by_cases h2 : (metTo o o.length).length = o.length
        · simp [h1, show (o.length : Int) = es.length from by omega, show ((metTo o es.length).length : Int) = es.length from by rw [h1] at h2; omega]
          refine pop_spec (allInt_spec o (by omega) 87 [] [.rp [entryL es] 0] rfl rfl _ fun k hk => Post1_spec k (geti o k) es he) rfl true (.inl (by simp [ints, entryL, h1])) (.inr rfl) rfl (by simp) ?_
          cases h3 : allN o.length (fun k => inB (geti o k) 0 ((es.length : Int) - 1)) with
          | false =>
            simp
            rw [bad (by simp [orderOk, h3])]
            refine answers_of rfl ?_; simp [Posted.pv, ints]
          | true =>
            have hoo : orderOk o es.length = true := by rw [orderOk, h3]; simp [h1]; rw [h1] at h2; exact h2
            have hr : postOf l es o = ⟨(tryL l es o 0 (bals l)).1, (tryL l es o 0 (bals l)).2, 0⟩ := by simp [postOf, h, hoo]
            have hin : ∀ k, k < o.length → 0 ≤ geti o k ∧ geti o k < (es.length : Int) := fun k hk => by
              have := inB_spec.1 (allN_spec.1 h3 k hk)
              omega
            have hbl := bals_ok (posted_ok h)
            have hbn : (bals l).length = l.length := by simp [bals]
            have htry := try_spec l es o (bals l) l.length false hbn hent (by omega) hin (fun j hj => by have := hbl.each j hj; omega)
            have e : mk l.length (fun i => (accAt l i).bal) = bals l := rfl
            have hopen := open_spec l (by omega)
            rw [e] at hopen
            rw [hr]
            simp
            refine pop_callW hopen rfl [] false (by decide) trivial (.inl (by simp [accL])) ?_
            intro out ho
            subst ho
            refine ⟨[60, 61], by simp [backOk, bookH], by simp, by simp [back, backV, placeAll, bookH, accL], ?_⟩
            simp [back, backV, placeAll, bookH, accL, entryL]
            refine pop_callW htry rfl [60, 61] false (by decide) ?_ (.inl ?_) ?_
            · simp [bookH, accL]
            · simp [entryL, ints, h1]
            · intro out ho
              subst ho
              have htl : (tryL l es o 0 (bals l)).1.length = l.length := by
                have key : ∀ (ord : List Int) (i : Int) (nw : List Int), (tryL l es ord i nw).1.length = nw.length := by
                  intro ord
                  induction ord with
                  | nil => intro i nw; rfl
                  | cons x ord ih =>
                    intro i nw
                    simp only [tryL]
                    split
                    · rw [ih, made_length]
                    · rfl
                rw [key, hbn]
              generalize tryL l es o 0 (bals l) = tr at htl
              refine ⟨[], by simp [backOk, bookH], by simp, by simp [back, backV, placeAll, bookH, accL], ?_⟩
              simp [back, backV, placeAll, bookH, accL]
              refine answers_of rfl ?_
              simp [Posted.pv, ints, htl]
              intro j hj
              simp [rowsI_get (show j < tr.1.length by omega)]
        · rw [bad (by simp [orderOk, h2])]
          simp [h1, show (o.length : Int) = es.length from by omega, show ¬ ((metTo o es.length).length : Int) = es.length from by rw [h1] at h2; omega]
          refine answers_of rfl ?_; simp [Posted.pv, ints]
      · rw [bad (by simp [orderOk, h1])]
        simp [show ¬ (o.length : Int) = es.length from by omega]
        refine answers_of rfl ?_; simp [Posted.pv, ints]
  · simp [h]
    have hr : postOf l es o = ⟨[], -1, postedE l es⟩ := by simp [postOf, h]
    rw [hr]
    refine answers_of rfl ?_; simp [Posted.pv, ints]
end Go.Qg

/-! What entries do to accounts, whatever their order (plain facts for the theorem of accounts). No condition. -/
namespace Go.Qg

theorem order_valid {es : List Entry} {o : List Int} (h : orderB o es.length = true) : Valid es o ∧ o.length = es.length := by
  simp only [orderB, Bool.and_eq_true, decide_eq_true_eq, allN_spec, ordAt, inB_spec, bne_iff_ne] at h
  obtain ⟨h1, h2⟩ := h
  refine ⟨⟨?_, ⟨fun k hk => ?_⟩⟩, by omega⟩
  · rw [List.nodup_iff_pairwise_ne, List.pairwise_iff_getElem]
    intro i j hi hj hij
    have := (h1 j hj).2 i hij
    simpa [geti, hi, hj] using this
  · obtain ⟨i, hi⟩ := List.mem_iff_getElem?.1 hk
    have hlt := lt_of_get? hi
    have := (h1 i hlt).1
    have e : geti o i = k := by simp [geti, hi]
    omega
theorem valid_order {es : List Entry} {o : List Int} (h : Valid es o) (hl : o.length = es.length) : orderB o es.length = true := by
  simp only [orderB, Bool.and_eq_true, decide_eq_true_eq, allN_spec, ordAt, inB_spec, bne_iff_ne]
  refine ⟨fun i hi => ⟨?_, fun k hk => ?_⟩, by omega⟩
  · have := h.within.each (geti o i) (by simp [geti, hi])
    omega
  · have := h.nodup
    rw [List.nodup_iff_pairwise_ne, List.pairwise_iff_getElem] at this
    have := this k i (by omega) hi hk
    simpa [geti, hi, show k < o.length from by omega] using this
theorem valid_full {es : List Entry} {o : List Int} (h : Valid es o) (hl : o.length = es.length) {k : Int} (h1 : 0 ≤ k) (h2 : k < (es.length : Int)) : k ∈ o := by
  by_cases hm : k ∈ o
  · exact hm
  · have := nodup_le es.length (k :: o) (List.nodup_cons.2 ⟨hm, h.nodup⟩) fun j hj => by
      rcases List.mem_cons.1 hj with rfl | hj
      · exact ⟨h1, h2⟩
      · exact h.within.each j hj
    simp only [List.length_cons] at this
    omega
theorem full_perm {es : List Entry} {a b : List Int} (ha : Valid es a) (hb : Valid es b) (hal : a.length = es.length) (hbl : b.length = es.length) : a.Perm b :=
  (List.perm_ext_iff_of_nodup ha.nodup hb.nodup).2 fun k => ⟨fun h => by have := ha.within.each k h; exact valid_full hb hbl this.1 this.2, fun h => by have := hb.within.each k h; exact valid_full ha hal this.1 this.2⟩

/-- What is made, where an order does not go to its end. -/
theorem tryL_made (l : List Acc) (es : List Entry) : ∀ (o : List Int) (i : Int) (now : List Int), ∃ p, p <+: o ∧ goesB l es p now = true ∧ (tryL l es o i now).1 = stateL es p now
  | [], _, now => ⟨[], List.prefix_refl _, rfl, rfl⟩
  | k :: o, i, now => by
    rw [tryL]
    split
    · rename_i hm
      obtain ⟨p, h1, h2, h3⟩ := tryL_made l es o (i + 1) (made now (entryAt es k.toNat))
      exact ⟨k :: p, List.cons_prefix_cons.2 ⟨rfl, h1⟩, by simp [goesB, hm, h2], h3⟩
    · exact ⟨[], List.nil_prefix, rfl, rfl⟩
theorem goes_least {l : List Acc} {es : List Entry} (he : EntriesOk l.length es) : ∀ {p now : List Int}, Within es p → now.length = l.length → (∀ x, x < l.length → (accAt l x).least ≤ geti now x) → goesB l es p now = true → ∀ x, x < l.length → (accAt l x).least ≤ geti (stateL es p now) x
  | [], now, _, _, h, _, x, hx => h x hx
  | k :: p, now, hw, hn, h, hg, x, hx => by
    have hk := hw.each k List.mem_cons_self
    obtain ⟨e1, e2, e3, e4⟩ := he.each k.toNat (by omega)
    simp only [goesB, Bool.and_eq_true] at hg
    rw [stateL_cons]
    refine goes_least he ⟨fun j hj => hw.each j (List.mem_cons_of_mem _ hj)⟩ (by rw [made_length, hn]) (fun y hy => ?_) hg.2 x hx
    rw [made_geti hn e1 e2 e3 hy]
    have h1 := h y hy
    have hm := hg.1
    simp only [mayB, decide_eq_true_eq] at hm
    simp only [delta]
    by_cases hs : (entryAt es k.toNat).src.toNat = y
    · rw [hs] at hm
      rw [if_pos hs, if_neg (by omega)]
      omega
    · rw [if_neg hs]
      split <;> omega

/-- The sum of what the first accounts have more. -/
def moreTo (l : List Acc) (on : List Int) : Nat → Int
  | 0 => 0
  | k + 1 => moreTo l on k + geti on k - (accAt l k).bal
def sumN (f : Nat → Int) : Nat → Int
  | 0 => 0
  | k + 1 => sumN f k + f k
theorem sumN_add (f g : Nat → Int) : ∀ n, sumN (fun x => f x + g x) n = sumN f n + sumN g n
  | 0 => rfl
  | n + 1 => by simp only [sumN, sumN_add f g n]; omega
theorem sumN_one {a : Int} {d : Nat} : ∀ n, sumN (fun x => if d = x then a else 0) n = if d < n then a else 0
  | 0 => by simp [sumN]
  | n + 1 => by
    simp only [sumN, sumN_one n]
    split
    · rw [if_neg (by omega), if_pos (by omega)]; omega
    · split
      · rw [if_pos (by omega)]; omega
      · rw [if_neg (by omega)]; omega
theorem sumN_delta {e : Entry} {n : Nat} (hs : e.src.toNat < n) (hd : e.dst.toNat < n) : sumN (delta e) n = 0 := by
  have h : ∀ n, sumN (delta e) n = sumN (fun x => if e.dst.toNat = x then e.amount else 0) n - sumN (fun x => if e.src.toNat = x then e.amount else 0) n := by
    intro n
    induction n with
    | zero => rfl
    | succ n ih => simp only [sumN, ih, delta]; omega
  rw [h, sumN_one, sumN_one, if_pos hs, if_pos hd]; omega
theorem sumN_dsum {n : Nat} {es : List Entry} (he : EntriesOk n es) : ∀ {p : List Int}, Within es p → sumN (dsum es p) n = 0
  | [], _ => by
    have : ∀ n, sumN (dsum es []) n = 0 := by
      intro n
      induction n with
      | zero => rfl
      | succ n ih => rw [sumN, ih]; rfl
    exact this n
  | k :: p, hw => by
    have hk := hw.each k List.mem_cons_self
    obtain ⟨e1, e2, e3, e4⟩ := he.each k.toNat (by omega)
    have ih := sumN_dsum he (p := p) ⟨fun j hj => hw.each j (List.mem_cons_of_mem _ hj)⟩
    have : dsum es (k :: p) = fun x => delta (entryAt es k.toNat) x + dsum es p x := by funext x; rfl
    rw [this, sumN_add, ih, sumN_delta (by omega) (by omega)]; omega
theorem moreTo_state {l : List Acc} {es : List Entry} (he : EntriesOk l.length es) {p : List Int} (hp : Within es p) : ∀ k, k ≤ l.length → moreTo l (stateL es p (bals l)) k = sumN (dsum es p) k
  | 0, _ => rfl
  | k + 1, hk => by
    have h1 := moreTo_state he hp k (by omega)
    have h2 := stateL_geti he hp (show (bals l).length = l.length by simp [bals]) k hk
    have h3 : geti (bals l) k = (accAt l k).bal := by rw [bals, geti_mk hk]
    simp only [moreTo, sumN, h1, h2, h3]; omega
structure OnOk (l : List Acc) (on : List Int) : Prop where
  len : on.length = l.length
  least : ∀ x, x < l.length → (accAt l x).least ≤ geti on x
  bound : ∀ x, x < l.length → -9000000000 ≤ geti on x ∧ geti on x ≤ 9000000000
  sum : moreTo l on l.length = 0
theorem delta_bound {e : Entry} (h : 0 ≤ e.amount ∧ e.amount ≤ 1000000000) (x : Nat) : -1000000000 ≤ delta e x ∧ delta e x ≤ 1000000000 := by
  simp only [delta]; split <;> split <;> omega
theorem dsum_bound {n : Nat} {es : List Entry} (he : EntriesOk n es) : ∀ {p : List Int}, Within es p → ∀ x, -1000000000 * (p.length : Int) ≤ dsum es p x ∧ dsum es p x ≤ 1000000000 * (p.length : Int)
  | [], _, x => by simp [dsum]
  | k :: p, hw, x => by
    have hk := hw.each k List.mem_cons_self
    obtain ⟨e1, e2, e3, e4⟩ := he.each k.toNat (by omega)
    have h1 := delta_bound e4 x
    have h2 := dsum_bound he (p := p) ⟨fun j hj => hw.each j (List.mem_cons_of_mem _ hj)⟩ x
    simp only [dsum, List.length_cons]
    omega
theorem state_ok {l : List Acc} {es : List Entry} (hp : PostedOk l es) {p : List Int} (hw : Within es p) (hpl : p.length ≤ 7) (hg : goesB l es p (bals l) = true) : OnOk l (stateL es p (bals l)) := by
  have hbl : (bals l).length = l.length := by simp [bals]
  have hb : ∀ x, x < l.length → geti (bals l) x = (accAt l x).bal := fun x hx => by rw [bals, geti_mk hx]
  refine ⟨by rw [stateL_length, hbl], goes_least hp.entries hw hbl (fun x hx => by rw [hb x hx]; exact (hp.accs x hx).2.2) hg, fun x hx => ?_, ?_⟩
  · rw [stateL_geti hp.entries hw hbl x hx, hb x hx]
    have h1 := (hp.accs x hx).1
    have h2 := dsum_bound hp.entries hw x
    omega
  · rw [moreTo_state hp.entries hw _ (Nat.le_refl _), sumN_dsum hp.entries hw]
theorem moreTo_bound {l : List Acc} {es : List Entry} (hp : PostedOk l es) {on : List Int} (h : OnOk l on) : ∀ k, k ≤ l.length → -10000000000 * (k : Int) ≤ moreTo l on k ∧ moreTo l on k ≤ 10000000000 * (k : Int)
  | 0, _ => by simp [moreTo]
  | k + 1, hk => by
    have h1 := moreTo_bound hp h k (by omega)
    have h2 := h.bound k hk
    have h3 := (hp.accs k hk).1
    simp only [moreTo]; omega

theorem befB_at : ∀ (k : Nat) (a b : List Int), (∀ j, j < k → geti a j = geti b j) → k < a.length → k < b.length → geti a k ≠ geti b k → befB a b = decide (geti a k < geti b k)
  | _, [], _, _, h, _, _ => by simp at h
  | _, _ :: _, [], _, _, h, _ => by simp at h
  | 0, x :: a, y :: b, _, _, _, h => by
    simp only [geti, List.getD_cons_zero] at h ⊢
    simp [befB, h]
  | k + 1, x :: a, y :: b, h1, h2, h3, h4 => by
    have e : x = y := by have := h1 0 (by omega); simpa [geti] using this
    subst e
    have := befB_at k a b (fun j hj => by have := h1 (j + 1) (by omega); simpa [geti] using this) (by simpa using h2) (by simpa using h3) (by simpa [geti] using h4)
    simp only [befB, ne_eq, not_true, if_false, this]
    simp [geti]
theorem befB_end : ∀ (a b : List Int), (∀ j, j < a.length → j < b.length → geti a j = geti b j) → befB a b = false
  | [], _, _ => by cases ‹List Int› <;> rfl
  | _ :: _, [], _ => rfl
  | x :: a, y :: b, h => by
    have e : x = y := by have := h 0 (by simp) (by simp); simpa [geti] using this
    subst e
    simp only [befB, ne_eq, not_true, if_false]
    exact befB_end a b fun j h1 h2 => by have := h (j + 1) (by simpa using h1) (by simpa using h2); simpa [geti] using this
end Go.Qg

/-! The contracts of the reference's functions settle, Settle; the law FareSettles returns true. No condition. -/
namespace Go.Qg
open Go.Proofs
set_option maxRecDepth 100000
set_option maxHeartbeats 4000000
attribute [local irreducible] pwp pops pdraw pop popCall pdCall thenP blockP scopeP pspec Spec answers ppost CallW rend

def hasTo (b : List Int) (x : Int) : Nat → Bool
  | 0 => false
  | k + 1 => hasTo b x k || (geti b k == x)
theorem hasTo_spec (b : List Int) (x : Int) : ∀ k, hasTo b x k = true ↔ ∃ j, j < k ∧ geti b j = x
  | 0 => by simp [hasTo]
  | k + 1 => by
    simp only [hasTo, Bool.or_eq_true, hasTo_spec b x k, beq_iff_eq]
    constructor
    · rintro (⟨j, h1, h2⟩ | h)
      · exact ⟨j, by omega, h2⟩
      · exact ⟨k, by omega, h⟩
    · rintro ⟨j, h1, h2⟩
      rcases Nat.lt_succ_iff_lt_or_eq.1 h1 with h | rfl
      · exact .inl ⟨j, h, h2⟩
      · exact .inr h2
theorem hasTo_all (b : List Int) (x : Int) : hasTo b x b.length = b.contains x := by
  rw [Bool.eq_iff_iff, hasTo_spec]
  simp only [List.contains_iff_mem, List.mem_iff_getElem]
  constructor
  · rintro ⟨j, h1, h2⟩
    exact ⟨j, h1, by rw [← h2]; simp [geti, h1]⟩
  · rintro ⟨j, h1, h2⟩
    exact ⟨j, h1, by rw [← h2]; simp [geti, h1]⟩

theorem rsettle_spec (l : List Acc) (es : List Entry) (hp : PostedOk l es) : ∀ (n : Nat) (b : List Int), Valid es b → es.length = b.length + n →
    Spec Try.prog 80 [accL l, entryL es, ints b] (.tup [ints ((stl l es n b).getD []), .v (.bool (stl l es n b).isSome)]) := by
  have h7 := hp.ne
  have h8 := hp.nl
  intro n
  induction n with
  | zero =>
    intro b hv hn
    have hpost := rPost_spec l es b hp (by omega) fun k hk => hv.within.each _ (by
      rw [show geti b k = b[k] from by simp [geti, hk]]; exact List.getElem_mem hk)
    refine spec_of mixed Try.func80 (by decide) rfl Try.results80 Try.ntmps80 (by decide) 0 (by simp) ?_
    simp [accL, entryL, ints]
    refine pop_spec hpost rfl false (.inl (by simp [accL, entryL, ints])) (.inl rfl) rfl (by simp [ints]) ?_
    cases hg : goesB l es b (bals l) with
    | false =>
      have htn := (tryL_no l es b 0 (bals l) hg).1
      generalize tryL l es b 0 (bals l) = q at *
      simp [ints, htn]
      refine answers_of rfl ?_; simp [stl, hg, ints]
    | true =>
      rw [tryL_go l es b 0 (bals l) hg]
      simp [ints, show (b.length : Int) = es.length from by omega]
      refine answers_of rfl ?_; simp [stl, hg, ints, show b.length = es.length from by omega]
  | succ n ih =>
    intro b hv hn
    have hpost := rPost_spec l es b hp (by omega) fun k hk => hv.within.each _ (by
      rw [show geti b k = b[k] from by simp [geti, hk]]; exact List.getElem_mem hk)
    refine spec_of mixed Try.func80 (by decide) rfl Try.results80 Try.ntmps80 (by decide) 0 (by simp) ?_
    simp [accL, entryL, ints]
    refine pop_spec hpost rfl false (.inl (by simp [accL, entryL, ints])) (.inl rfl) rfl (by simp [ints]) ?_
    cases hg : goesB l es b (bals l) with
    | false =>
      have htn := (tryL_no l es b 0 (bals l) hg).1
      generalize tryL l es b 0 (bals l) = q at *
      simp [ints, htn]
      refine answers_of rfl ?_; simp [stl, hg, ints]
    | true =>
      rw [tryL_go l es b 0 (bals l) hg]
      simp [ints, show ¬ (b.length : Int) = es.length from by omega]
      have hst : stl l es (n + 1) b = stlI (stl l es n) b es.length 0 := by
        simp only [stl, hg, if_true, show ¬ b.length = es.length from by omega, if_false]
      rw [hst]
      refine pwp_loop (fun i : Nat => [(10, .v (.int .i64 i))]) (fun i => i ≤ es.length ∧ stlI (stl l es n) b (es.length - i) i = stlI (stl l es n) b es.length 0) (fun i => es.length - i) 0 ⟨Nat.zero_le _, rfl⟩ (by simp; rfl) (by simp) ?_
      rintro i ⟨hi, hrec⟩
      by_cases hlt : i < es.length
      · have wi := i64_wrap (show -9223372036854775808 ≤ (i : Int) + 1 ∧ _ from by omega)
        rw [show es.length - i = (es.length - (i + 1)) + 1 from by omega] at hrec
        simp only [stlI] at hrec
        simp [hlt]
        refine pwp_loop (fun k : Nat => [(11, .v (.bool (hasTo b i k))), (12, .v (.int .i64 k))]) (fun k => k ≤ b.length) (fun k => b.length - k) 0 (Nat.zero_le _) (by simp; rfl) (by simp [hasTo]) ?_
        intro k hk
        by_cases hkl : k < b.length
        · have wk := i64_wrap (show -9223372036854775808 ≤ (k : Int) + 1 ∧ _ from by omega)
          simp [hkl]
          cases hh : hasTo b i k with
          | true =>
            simp [hkl]
            refine again_of (k + 1) (by omega) (by omega) ?_
            simp [wk, hasTo, hh]
          | false =>
            simp [hkl]
            refine again_of (k + 1) (by omega) (by omega) ?_
            simp [wk, hasTo, hh]
        · obtain rfl : k = b.length := by omega
          rw [hasTo_all]
          cases hc : b.contains (i : Int) with
          | true =>
            rw [hc] at hrec
            simp
            refine again_of (i + 1) ⟨by omega, by simpa using hrec⟩ (by omega) ?_
            simp [wi]
          | false =>
            rw [hc] at hrec
            have hvi := hv.snoc hlt (by simpa using hc)
            have hcall := ih (b ++ [(i : Int)]) hvi (by simp; omega)
            simp [show b.length ≤ maxLen from by simp [maxLen]; omega, show b.length * 8 ≤ 140737488355328 from by omega, show (b.length + 1) * 8 ≤ 140737488355328 from by omega, show b.length + 1 ≤ maxLen from by simp [maxLen]; omega, rowsI_range, rowsI_snoc]
            refine pop_specF [(56, .undef), (59, ints (b ++ [(i : Int)]))] ?_ hcall rfl false (.inl (by simp [accL, entryL, ints])) (.inl rfl) rfl (by simp [ints]) ?_
            · simp [ints]
              intro k hk
              simp [rowsI_get (l := b ++ [(i : Int)]) (k := k) (by simpa using hk)]
            cases hx : stl l es n (b ++ [(i : Int)]) with
            | some o =>
              rw [hx] at hrec
              simp [ints]
              rw [← show some o = stlI (stl l es n) b es.length 0 from by simpa using hrec]
              refine answers_of rfl ?_; simp [ints]
            | none =>
              rw [hx] at hrec
              simp [ints]
              refine again_of (i + 1) ⟨by omega, by simpa using hrec⟩ (by omega) ?_
              simp [wi]
      · obtain rfl : i = es.length := by omega
        rw [Nat.sub_self] at hrec
        rw [← hrec]
        simp
        refine answers_of rfl ?_; simp [stlI, ints]

theorem rSettle_spec (l : List Acc) (es : List Entry) (hp : PostedOk l es) : Spec Try.prog 34 [accL l, entryL es] (.tup [ints ((stl l es es.length []).getD []), .v (.bool (stl l es es.length []).isSome)]) := by
  have h := rsettle_spec l es hp es.length [] ⟨List.nodup_nil, ⟨fun k hk => (by cases hk)⟩⟩ (by simp)
  refine spec_of mixed Try.func34 (by decide) rfl Try.results34 Try.ntmps34 (by decide) 0 (by simp) ?_
  simp [accL, entryL]
  refine pop_spec h rfl false (.inl (by simp [accL, entryL, ints])) (.inl rfl) rfl (by simp [ints]) ?_
  simp [ints]
  refine answers_of rfl ?_; simp [ints]

theorem FareSettles_spec (l : List Acc) (es : List Entry) (hl : l.length ≤ 9223372036854775807) (he : es.length ≤ 9223372036854775807) : Spec Try.prog 7 [accL l, entryL es] (.v (.bool true)) := by
  refine spec_of mixed Try.func7 (by decide) rfl Try.results7 Try.ntmps7 (by decide) 0 (by simp) ?_
  simp [accL, entryL]
  by_cases h1 : 20 < l.length
  · simp [show (20 : Int) < l.length from by omega, show ¬ (l.length : Int) ≤ 20 from by omega]
    refine pop_spec known_spec rfl false (.inl (by simp)) (.inl rfl) rfl (by simp) ?_
    simp
    refine answers_of rfl ?_; simp
  by_cases h2 : es.length = 7
  · simp [show ¬ (20 : Int) < l.length from by omega, show (l.length : Int) ≤ 20 from by omega, show (es.length : Int) = 7 from by omega]
    refine pop_spec known_spec rfl false (.inl (by simp)) (.inl rfl) rfl (by simp) ?_
    simp
    refine answers_of rfl ?_; simp
  by_cases h3 : 20 < es.length
  · simp [show ¬ (20 : Int) < l.length from by omega, show (l.length : Int) ≤ 20 from by omega, show ¬ (es.length : Int) = 7 from by omega, show (20 : Int) < es.length from by omega, show ¬ (es.length : Int) ≤ 20 from by omega]
    refine pop_spec known_spec rfl false (.inl (by simp)) (.inl rfl) rfl (by simp) ?_
    simp
    refine answers_of rfl ?_; simp
  have hset := Settle_spec l es hl he
  simp [show ¬ (20 : Int) < l.length from by omega, show (l.length : Int) ≤ 20 from by omega, show ¬ (es.length : Int) = 7 from by omega, show ¬ (20 : Int) < es.length from by omega, show (es.length : Int) ≤ 20 from by omega]
  by_cases h7 : 7 < es.length
  · have hE : postedE l es = 3 := by simp [postedE, h7]
    rw [show settleOf l es = ([], 3) from by simp [settleOf, hE]] at hset
    refine pop_spec hset rfl false (.inl (by simp [accL, entryL])) (.inl rfl) rfl (by simp [ints]) ?_
    simp [ints, show (7 : Int) < es.length from by omega]
    refine pop_spec known_spec rfl false (.inl (by simp)) (.inl rfl) rfl (by simp) ?_
    simp
    refine answers_of rfl ?_; simp
  cases hA : inB l.length 1 8 && accsB l && entriesB l.length es with
  | false =>
    have hE : postedE l es = 2 := by simp only [postedE, h7, if_false, hA, Bool.false_eq_true]
    rw [show settleOf l es = ([], 2) from by simp [settleOf, hE]] at hset
    refine pop_spec hset rfl false (.inl (by simp [accL, entryL])) (.inl rfl) rfl (by simp [ints]) ?_
    simp [ints, show ¬ (7 : Int) < es.length from by omega, show (es.length : Int) ≤ 7 from by omega]
    refine pop_spec (rAccounts_spec l es hl he) rfl false (.inl (by simp [accL, entryL])) (.inl rfl) rfl (by simp) ?_
    rw [hA]
    simp
    refine pop_spec known_spec rfl false (.inl (by simp)) (.inl rfl) rfl (by simp) ?_
    simp
    refine answers_of rfl ?_; simp
  | true =>
  have hE : postedE l es = 0 := by simp only [postedE, h7, if_false, hA, if_true]
  have hpo := posted_ok hE
  have href := rSettle_spec l es hpo
  have hfirst := settle_first l es
  rw [settle_eq hE] at hset
  cases hx : stl l es es.length [] with
  | none =>
    rw [hx] at hset href
    refine pop_spec hset rfl false (.inl (by simp [accL, entryL])) (.inl rfl) rfl (by simp [ints]) ?_
    simp [ints, show ¬ (7 : Int) < es.length from by omega, show (es.length : Int) ≤ 7 from by omega]
    refine pop_spec (rAccounts_spec l es hl he) rfl false (.inl (by simp [accL, entryL])) (.inl rfl) rfl (by simp) ?_
    rw [hA]
    simp
    refine pop_spec href rfl false (.inl (by simp [accL, entryL])) (.inl rfl) rfl (by simp [ints]) ?_
    simp [ints]
    refine pop_spec known_spec rfl false (.inl (by simp)) (.inl rfl) rfl (by simp) ?_
    simp
    refine answers_of rfl ?_; simp
  | some o =>
    obtain ⟨_, ov, ol, _, _⟩ := hfirst.some o hx
    have ol : o.length = es.length := by simpa using ol
    rw [hx] at hset href
    refine pop_spec hset rfl false (.inl (by simp [accL, entryL])) (.inl rfl) rfl (by simp [ints]) ?_
    simp [ints, show ¬ (7 : Int) < es.length from by omega, show (es.length : Int) ≤ 7 from by omega]
    refine pop_spec (rAccounts_spec l es hl he) rfl false (.inl (by simp [accL, entryL])) (.inl rfl) rfl (by simp) ?_
    rw [hA]
    simp
    refine pop_spec href rfl false (.inl (by simp [accL, entryL])) (.inl rfl) rfl (by simp [ints]) ?_
    simp [ints]
    refine pop_spec (Same_spec o o (by omega) (by omega)) rfl false (.inl (by simp [ints])) (.inl rfl) rfl (by simp) ?_
    simp
    refine pop_spec known_spec rfl false (.inl (by simp)) (.inl rfl) rfl (by simp) ?_
    simp
    refine answers_of rfl ?_; simp
end Go.Qg

/-! FareSettles: for all accounts and entries the law returns true, and leaves its arguments as they were. No condition. -/
namespace Go.Proofs.Ytmnoepkamkomkaa.lawFareSettles
open Go.Qg Go.ChangeAt Go.RowKit
set_option maxRecDepth 100000

theorem spec (args : List PV) (hl : Try.f7.params.toList.length = args.length) (h : ∀ (j : Nat) t p, Try.f7.params.toList[j]? = some t → args[j]? = some p → ArgP Try.prog 6 t p) : Qg.Spec Try.prog 7 args (.v (.bool true)) := by
  rw [Try.params7] at hl h
  match args, hl with
  | [a0, a1], _ =>
    obtain ⟨l, rfl, hl, hlok⟩ := a_accs (h 0 _ a0 rfl rfl)
    obtain ⟨es, rfl, he, heok⟩ := a_entries (h 1 _ a1 rfl rfl)
    exact FareSettles_spec l es hl he

theorem lifted (os : Os) (started : os.Started) (H : Type) (enc : TypeId × Value → H) :
    ReturnsInHanded {} Try.checked os 7 .any (Rows.fareSettlesSpec.pre6 enc Try.prog Try.f7 Rows.fareSettlesRow.domain false) (Rows.fareSettlesSpec.post enc Try.prog Try.f7 false true false false) := by
  refine law_lifted (C := Try.checked) 6 (tb := 4) ownKnob_ started (by kernel_rfl) Try.func7
    (ChangeSpec.witness6 (enc := enc) (C := Try.checked) false ⟨#[], #[.slice none 0 0, .slice none 0 0], []⟩ 8 (by kernel_rfl) (by kernel_rfl) (by kernel_rfl) (by kernel_rfl)) laidOut_ rfl (by kernel_rfl) (by kernel_rfl) Try.underlying4 ?_ spec
  intro ds hds
  match ds, hds with
  | [_, _], _ => exact ⟨rfl, rfl, rfl⟩

theorem FareSettles_holds : Rows.FareSettlesSaid :=
  OpenClaim.holds_of_wide 7 Try.f7 rfl rfl rfl rfl rfl rfl rfl ⟨rfl, rfl, rfl, rfl, rfl⟩ rfl rfl rfl rfl rfl (by kernel_rfl) Try.func7 (by kernel_rfl)
    (of_decide_eq_true (by kernel_rfl)) (by unfold Func.isWrapper; first | (rw [if_pos (by decide +kernel)]; kernel_rfl) | (rw [if_neg (by decide +kernel)]; exact ⟨rfl, rfl⟩))
    (fun os started H enc _ => lifted os started H enc)
end Go.Proofs.Ytmnoepkamkomkaa.lawFareSettles
