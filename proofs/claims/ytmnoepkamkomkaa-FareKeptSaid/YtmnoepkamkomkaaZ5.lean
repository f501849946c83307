/-
  Lemmas and contracts that hold of the whole program: 6 texts in one.
  No condition.
-/
import Derived.Test.YtmnoepkamkomkaaZ4
import Derived.KernelRfl
import Derived.Test.YtmnoepkamkomkaaRows
set_option linter.all false

/-! Contracts of billed, fined, bill, ends. No condition. -/
namespace Go.Qg
open Go.Proofs
set_option maxRecDepth 100000
set_option maxHeartbeats 4000000
attribute [local irreducible] pwp pops pdraw pop popCall pdCall thenP blockP scopeP pspec Spec answers ppost CallW

structure Mail where
  pay : Int
  hour : Int
  cap : Int
  limit : Int
  miss : Int
  window : Int
  allowed : Int
  fine : Int
def Mail.cells (m : Mail) : List PV := [.v (.int .i64 m.pay), .v (.int .i64 m.hour), .v (.int .i64 m.cap), .v (.int .i64 m.limit), .v (.int .i64 m.miss), .v (.int .i64 m.window), .v (.int .i64 m.allowed), .v (.int .i64 m.fine)]

def dayB (s : Spn) : Bool := decide (0 ≤ s.low) && decide (s.low ≤ s.high) && decide (s.high ≤ 10000)
theorem billed1_spec (k : Int) (s : Spn) : Spec Try.prog 111 [.v (.int .i64 k), .agg s.cells] (.v (.bool (dayB s))) := by
  refine spec_of mixed Try.func111 (by decide) rfl Try.results111 Try.ntmps111 (by decide) 0 (by simp) ?_
  simp [Spn.cells]
  by_cases h1 : 0 ≤ s.low
  · by_cases h2 : s.low ≤ s.high
    · by_cases h3 : s.high ≤ 10000
      · simp [h1, h2, h3]
        refine answers_of rfl ?_; simp [dayB, h1, h2, h3]
      · simp [h1, h2, h3, Int.not_le.1 h3]
        refine answers_of rfl ?_; simp [dayB, h1, h2, h3]
    · simp [h1, h2, Int.not_le.1 h2]
      refine answers_of rfl ?_; simp [dayB, h1, h2]
  · simp [h1, Int.not_le.1 h1]
    refine answers_of rfl ?_; simp [dayB, h1]
theorem billed2_spec (k n : Int) : Spec Try.prog 112 [.v (.int .i64 k), .v (.int .i64 n)] (.v (.bool (inB n 0 10000000))) := by
  refine spec_of mixed Try.func112 (by decide) rfl Try.results112 Try.ntmps112 (by decide) 0 (by simp) ?_
  simp
  refine pop_spec (in_spec n 0 10000000) rfl false (.inl (by simp)) (.inl rfl) rfl (by simp) ?_
  simp
  refine answers_of rfl ?_; simp

def daysB (l : List Spn) : Bool := allN l.length fun k => dayB (spnAt l k)
def mailA (m : Mail) : Bool := allN 4 fun k => inB (geti [m.pay, m.hour, m.miss, m.fine] k) 0 10000000
def mailB (m : Mail) : Bool := mailA m && inB m.cap 0 m.pay && inB m.limit 0 10000 && inB m.window 1 60 && inB m.allowed 0 60
def billedE (m : Mail) (l : List Spn) : Int := if 60 < l.length then 3 else if mailB m && daysB l then 0 else 2

theorem billed_spec (m : Mail) (l : List Spn) (hl : l.length ≤ 9223372036854775807) : Spec Try.prog 81 [.agg m.cells, spnL l] (.v (.int .i64 (billedE m l))) := by
  refine spec_of mixed Try.func81 (by decide) rfl Try.results81 Try.ntmps81 (by decide) 0 (by simp) ?_
  simp [Mail.cells, spnL]
  by_cases h0 : 60 < l.length
  · simp [show (60 : Int) < l.length from by omega]
    have hr : billedE m l = 3 := by simp [billedE, h0]
    rw [hr]; exact answers_plain (by simp) rfl
  · simp [show ¬ (60 : Int) < l.length from by omega]
    refine pop_spec (allSpn_spec l hl 111 [] [] rfl rfl _ fun k hk => billed1_spec k (spnAt l k)) rfl false (.inl (by simp [spnL])) (.inl rfl) rfl (by simp) ?_
    have e : allN l.length (fun k => dayB (spnAt l k)) = daysB l := rfl
    simp [e]
    refine pop_spec (allInt_spec [m.pay, m.hour, m.miss, m.fine] (by simp) 112 [] [] rfl rfl _ fun k hk => billed2_spec k (geti [m.pay, m.hour, m.miss, m.fine] k)) rfl true (.inl ?_) (.inr rfl) rfl (by simp) ?_
    · simp [ints]
      intro k hk
      have : k = 0 ∨ k = 1 ∨ k = 2 ∨ k = 3 := by omega
      rcases this with rfl | rfl | rfl | rfl <;> simp [geti]
    have e : allN [m.pay, m.hour, m.miss, m.fine].length (fun k => inB (geti [m.pay, m.hour, m.miss, m.fine] k) 0 10000000) = mailA m := rfl
    rw [e]
    cases h1 : mailA m with
    | false =>
      simp
      have hr : billedE m l = 2 := by simp [billedE, h0, mailB, h1]
      rw [hr]; exact answers_plain (by simp) rfl
    | true =>
      simp
      refine pop_spec (in_spec m.cap 0 m.pay) rfl false (.inl (by simp)) (.inl rfl) rfl (by simp) ?_
      cases h2 : inB m.cap 0 m.pay with
      | false =>
        simp
        have hr : billedE m l = 2 := by simp [billedE, h0, mailB, h2]
        rw [hr]; exact answers_plain (by simp) rfl
      | true =>
        simp
        refine pop_spec (in_spec m.limit 0 10000) rfl false (.inl (by simp)) (.inl rfl) rfl (by simp) ?_
        cases h3 : inB m.limit 0 10000 with
        | false =>
          simp
          have hr : billedE m l = 2 := by simp [billedE, h0, mailB, h3]
          rw [hr]; exact answers_plain (by simp) rfl
        | true =>
          simp
          refine pop_spec (in_spec m.window 1 60) rfl false (.inl (by simp)) (.inl rfl) rfl (by simp) ?_
          cases h4 : inB m.window 1 60 with
          | false =>
            simp
            have hr : billedE m l = 2 := by simp [billedE, h0, mailB, h4]
            rw [hr]; exact answers_plain (by simp) rfl
          | true =>
            simp
            refine pop_spec (in_spec m.allowed 0 60) rfl false (.inl (by simp)) (.inl rfl) rfl (by simp) ?_
            cases h5 : inB m.allowed 0 60 with
            | false =>
              simp
              have hr : billedE m l = 2 := by simp [billedE, h0, mailB, h5]
              rw [hr]; exact answers_plain (by simp) rfl
            | true =>
              cases h6 : daysB l with
              | false =>
                simp
                have hr : billedE m l = 2 := by simp [billedE, h0, h6]
                rw [hr]; exact answers_plain (by simp) rfl
              | true =>
                simp
                have hr : billedE m l = 0 := by simp [billedE, h0, mailB, h1, h2, h3, h4, h5, h6]
                rw [hr]; exact answers_plain (by simp) rfl

/-! ### What is known of contracts and days -/
structure MailOk (m : Mail) : Prop where
  pay : 0 ≤ m.pay ∧ m.pay ≤ 10000000
  hour : 0 ≤ m.hour ∧ m.hour ≤ 10000000
  miss : 0 ≤ m.miss ∧ m.miss ≤ 10000000
  fine : 0 ≤ m.fine ∧ m.fine ≤ 10000000
  cap : 0 ≤ m.cap ∧ m.cap ≤ m.pay
  limit : 0 ≤ m.limit ∧ m.limit ≤ 10000
  window : 1 ≤ m.window ∧ m.window ≤ 60
  allowed : 0 ≤ m.allowed ∧ m.allowed ≤ 60
theorem mail_ok {m : Mail} : mailB m = true ↔ MailOk m := by
  simp only [mailB, mailA, Bool.and_eq_true, allN_spec, inB_spec]
  refine ⟨fun ⟨⟨⟨⟨h1, h2⟩, h3⟩, h4⟩, h5⟩ => ⟨h1 0 (by omega), h1 1 (by omega), h1 2 (by omega), h1 3 (by omega), h2, h3, h4, h5⟩, fun h => ⟨⟨⟨⟨fun k hk => ?_, h.cap⟩, h.limit⟩, h.window⟩, h.allowed⟩⟩
  have : k = 0 ∨ k = 1 ∨ k = 2 ∨ k = 3 := by omega
  rcases this with rfl | rfl | rfl | rfl
  · exact h.pay
  · exact h.hour
  · exact h.miss
  · exact h.fine
theorem days_ok {l : List Spn} : daysB l = true ↔ ∀ k, k < l.length → 0 ≤ (spnAt l k).low ∧ (spnAt l k).low ≤ (spnAt l k).high ∧ (spnAt l k).high ≤ 10000 := by
  simp only [daysB, allN_spec, dayB, Bool.and_eq_true, decide_eq_true_eq, and_assoc]
structure LateOk (l : List Int) : Prop where
  len : l.length ≤ 60
  each : ∀ k, k < l.length → 0 ≤ geti l k ∧ geti l k ≤ 10000

/-- How many of c days from day a on have missed. -/
def missN (m : Mail) (late : List Int) (a : Nat) : Nat → Int
  | 0 => 0
  | c + 1 => missN m late a c + (if m.limit < geti late (a + c) then 1 else 0)
theorem missN_bound (m : Mail) (late : List Int) (a : Nat) : ∀ c, 0 ≤ missN m late a c ∧ missN m late a c ≤ c
  | 0 => by simp [missN]
  | c + 1 => by
    have := missN_bound m late a c
    simp only [missN]
    split <;> omega
def winLo (m : Mail) (d : Nat) : Nat := ((d : Int) + 1 - m.window).toNat
def fineAt (m : Mail) (late : List Int) (d : Nat) : Bool := decide (m.allowed < missN m late (winLo m d) (d + 1 - winLo m d))
def finedTo (m : Mail) (late : List Int) : Nat → Int
  | 0 => 0
  | d + 1 => finedTo m late d + (if fineAt m late d then 1 else 0)
theorem finedTo_bound (m : Mail) (late : List Int) : ∀ d, 0 ≤ finedTo m late d ∧ finedTo m late d ≤ d
  | 0 => by simp [finedTo]
  | d + 1 => by
    have := finedTo_bound m late d
    simp only [finedTo]
    split <;> omega

theorem fined_spec (m : Mail) (l : List Int) (hm : MailOk m) (hl : LateOk l) : Spec Try.prog 84 [.agg m.cells, ints l] (.v (.int .i64 (finedTo m l l.length))) := by
  have h60 := hl.len
  obtain ⟨hw1, hw2⟩ := hm.window
  refine spec_of mixed Try.func84 (by decide) rfl Try.results84 Try.ntmps84 (by decide) 0 (by simp) ?_
  simp [Mail.cells, ints]
  refine pwp_loop (fun k : Nat => [(5, .v (.int .i64 (finedTo m l k))), (12, .v (.int .i64 k))]) (fun k => k ≤ l.length) (fun k => l.length - k) 0 (Nat.zero_le _) (by simp; rfl) (by simp [finedTo]) ?_
  intro k hk
  by_cases hkl : k < l.length
  · have w1 : IntKind.i64.wrap ((k : Int) + 1) = (k : Int) + 1 := i64_wrap (by omega)
    have w2 : IntKind.i64.wrap ((k : Int) + 1 - m.window) = (k : Int) + 1 - m.window := i64_wrap (by omega)
    have hlo : (if m.window < (k : Int) + 1 then (k : Int) + 1 - m.window else 0) = (winLo m k : Int) := by simp only [winLo]; split <;> omega
    have hle : winLo m k ≤ k := by simp only [winLo]; omega
    have hC : k + 1 - winLo m k = k + 1 - winLo m k := rfl
    generalize hn : k + 1 - winLo m k = n at hC
    simp [hkl, w1, w2, hlo, show (winLo m k : Int) ≤ (k : Int) + 1 from by omega, show (k : Int) + 1 ≤ (l.length : Int) from by omega, hn]
    refine pwp_loop (fun c : Nat => [(7, .v (.int .i64 (missN m l (winLo m k) c))), (26, .v (.int .i64 c))]) (fun c => c ≤ n) (fun c => n - c) 0 (Nat.zero_le _) (by simp; rfl) (by simp [missN]) ?_
    intro c hc
    by_cases hcn : c < n
    · have hb := missN_bound m l (winLo m k) c
      have w3 : IntKind.i64.wrap (missN m l (winLo m k) c + 1) = missN m l (winLo m k) c + 1 := i64_wrap (by omega)
      have w4 : IntKind.i64.wrap ((c : Int) + 1) = (c : Int) + 1 := i64_wrap (by omega)
      by_cases ht : m.limit < geti l (winLo m k + c)
      · simp [hcn, ht, w3]
        refine again_of (c + 1) (by omega) (by omega) ?_
        simp [w4, missN, ht]
      · simp [hcn, ht, w3]
        refine again_of (c + 1) (by omega) (by omega) ?_
        simp [w4, missN, ht]
    · simp [hcn]
      obtain rfl : c = n := by omega
      have hb := finedTo_bound m l k
      have w3 : IntKind.i64.wrap (finedTo m l k + 1) = finedTo m l k + 1 := i64_wrap (by omega)
      by_cases hf : m.allowed < missN m l (winLo m k) c
      · simp [hf, w3]
        refine again_of (k + 1) (by omega) (by omega) ?_
        simp [w1, finedTo, fineAt, hn, hf]
      · simp [hf, w3]
        refine again_of (k + 1) (by omega) (by omega) ?_
        simp [w1, finedTo, fineAt, hn, hf]
  · simp [hkl]
    obtain rfl : k = l.length := by omega
    refine answers_of rfl ?_; simp
end Go.Qg

/-! Contracts of bill, ends, Bill, Fines. No condition. -/
namespace Go.Qg
open Go.Proofs
set_option maxRecDepth 100000
set_option maxHeartbeats 4000000
attribute [local irreducible] pwp pops pdraw pop popCall pdCall thenP blockP scopeP pspec Spec answers ppost CallW

def billNext (m : Mail) (n t : Int) : Int := if m.limit < t then n - m.miss else n + (m.pay - min m.cap (m.hour * ((t + 59) / 60)))
def billTo (m : Mail) (l : List Int) : Nat → Int
  | 0 => -m.fine * finedTo m l l.length
  | k + 1 => billNext m (billTo m l k) (geti l k)
theorem hour_bound {m : Mail} (hm : MailOk m) {t : Int} (ht : 0 ≤ t ∧ t ≤ 10000) : 0 ≤ m.hour * ((t + 59) / 60) ∧ m.hour * ((t + 59) / 60) ≤ 1700000000 := by
  have h1 := hm.hour
  have e0 : 0 ≤ m.hour * ((t + 59) / 60) := Int.mul_nonneg h1.1 (by omega)
  have e1 : m.hour * ((t + 59) / 60) ≤ 10000000 * 170 := Int.mul_le_mul h1.2 (by omega) (by omega) (by omega)
  omega
theorem fine_bound {m : Mail} (hm : MailOk m) {l : List Int} (hl : LateOk l) : -600000000 ≤ -m.fine * finedTo m l l.length ∧ -m.fine * finedTo m l l.length ≤ 0 := by
  have h1 := hm.fine
  have h2 := finedTo_bound m l l.length
  have h3 := hl.len
  have e0 : 0 ≤ m.fine * finedTo m l l.length := Int.mul_nonneg h1.1 h2.1
  have e1 : m.fine * finedTo m l l.length ≤ 10000000 * 60 := Int.mul_le_mul h1.2 (by omega) h2.1 (by omega)
  have e2 : -m.fine * finedTo m l l.length = -(m.fine * finedTo m l l.length) := Int.neg_mul _ _
  omega
theorem billTo_bound {m : Mail} (hm : MailOk m) {l : List Int} (hl : LateOk l) : ∀ k, k ≤ l.length → -600000000 - 10000000 * (k : Int) ≤ billTo m l k ∧ billTo m l k ≤ 10000000 * (k : Int)
  | 0, _ => by have := fine_bound hm hl; simp only [billTo]; omega
  | k + 1, hk => by
    have h1 := billTo_bound hm hl k (by omega)
    have h2 := hour_bound hm (hl.each k hk)
    have h3 := hm.miss
    have h4 := hm.pay
    have h5 := hm.cap
    simp only [billTo, billNext]
    split <;> omega

theorem bill_spec (m : Mail) (l : List Int) (hm : MailOk m) (hl : LateOk l) : Spec Try.prog 83 [.agg m.cells, ints l] (.v (.int .i64 (billTo m l l.length))) := by
  have h60 := hl.len
  have hf := hm.fine
  have fb := fine_bound hm hl
  refine spec_of mixed Try.func83 (by decide) rfl Try.results83 Try.ntmps83 (by decide) 0 (by simp) ?_
  simp [Mail.cells, ints]
  refine pwp_draw 8 (by decide) ?_
  simp [i64_wrap (show -9223372036854775808 ≤ -m.fine ∧ _ from by omega)]
  refine pd_spec (fined_spec m l hm hl) (by simp [Mail.cells, ints]) (by simp) (by simp [Mail.cells, ints]) rfl ?_
  simp [i64_wrap (show -9223372036854775808 ≤ -m.fine * finedTo m l l.length ∧ _ from by omega), i64_wrap (show -9223372036854775808 ≤ -(m.fine * finedTo m l l.length) ∧ _ from by rw [← Int.neg_mul]; omega)]
  refine ⟨by decide, ?_⟩
  refine pwp_loop (fun k : Nat => [(5, .v (.int .i64 (billTo m l k))), (17, .v (.int .i64 k))]) (fun k => k ≤ l.length) (fun k => l.length - k) 0 (Nat.zero_le _) (by simp; rfl) (by simp [billTo]) ?_
  intro k hk
  by_cases hkl : k < l.length
  · have w1 : IntKind.i64.wrap ((k : Int) + 1) = (k : Int) + 1 := i64_wrap (by omega)
    have hb := billTo_bound hm hl k hk
    have ht := hl.each k hkl
    have hh := hour_bound hm ht
    have h3 := hm.miss
    have h4 := hm.pay
    have h5 := hm.cap
    generalize hbe : billTo m l k = b at hb
    generalize hte : geti l k = t at ht hh
    have w2 : IntKind.i64.wrap (b - m.miss) = b - m.miss := i64_wrap (by omega)
    have w3 : IntKind.i64.wrap (t + 59) = t + 59 := i64_wrap (by omega)
    have w4 : IntKind.i64.wrap ((t + 59).tdiv 60) = (t + 59) / 60 := i64_quo (by omega)
    have w5 : IntKind.i64.wrap (m.hour * ((t + 59) / 60)) = m.hour * ((t + 59) / 60) := i64_wrap (by omega)
    by_cases hlt : m.limit < t
    · simp [hkl, hte, hlt, w2]
      refine again_of (k + 1) (by omega) (by omega) ?_
      simp [w1, billTo, billNext, hbe, hte, hlt]
    · have hmin : (if m.hour * ((t + 59) / 60) < m.cap then m.hour * ((t + 59) / 60) else m.cap) = min m.cap (m.hour * ((t + 59) / 60)) := by split <;> omega
      generalize hme : min m.cap (m.hour * ((t + 59) / 60)) = mn at hmin
      have w6 : IntKind.i64.wrap (m.pay - mn) = m.pay - mn := i64_wrap (by omega)
      have w7 : IntKind.i64.wrap (b + (m.pay - mn)) = b + (m.pay - mn) := i64_wrap (by omega)
      simp [hkl, hte, hlt, w3, w4, w5, hmin, w6, w7]
      refine again_of (k + 1) (by omega) (by omega) ?_
      simp [w1, billTo, billNext, hbe, hte, hlt, hme]
  · simp [hkl]
    obtain rfl : k = l.length := by omega
    refine answers_of rfl ?_; simp

def lows (l : List Spn) : List Int := mk l.length fun i => (spnAt l i).low
def highs (l : List Spn) : List Int := mk l.length fun i => (spnAt l i).high
theorem ends_spec (l : List Spn) (hl : l.length ≤ 1000000000000) : Spec Try.prog 82 [spnL l] (.tup [ints (lows l), ints (highs l)]) := by
  refine spec_of mixed Try.func82 (by decide) rfl Try.results82 Try.ntmps82 (by decide) 0 (by simp) ?_
  simp [spnL]
  refine pwp_loop (fun k : Nat => [(2, .own 16 k 0 k false), (3, .own 21 k 0 k false), (8, .v (.int .i64 k)), (16, .rows none k 3 1 (rowsOf (fun i => [.v (.int .i64 (spnAt l i).low)]) k)), (21, .rows none k 3 1 (rowsOf (fun i => [.v (.int .i64 (spnAt l i).high)]) k))]) (fun k => k ≤ l.length) (fun k => l.length - k) 0 (Nat.zero_le _) (by simp; rfl) (by simp) ?_
  intro k hk
  by_cases hkl : k < l.length
  · simp [hkl, Spn.cells]
    refine pwp_draw 12 (by decide) ?_
    simp [show (k + 1) * 8 ≤ 140737488355328 from by omega, show k + 1 ≤ maxLen from by simp [maxLen]; omega]
    refine ⟨by decide, ?_⟩
    refine again_of (k + 1) (by omega) (by omega) ?_
    simp [i64_wrap (show -9223372036854775808 ≤ (k : Int) + 1 ∧ _ from by omega), rowsOf_snoc]
  · simp [hkl]
    obtain rfl : k = l.length := by omega
    refine answers_of rfl ?_
    simp [ints, lows, highs]
    refine ⟨?_, ?_⟩ <;> (intro k hk; simp [geti_mk hk, rowsOf_get hk])

theorem lates_ok {l : List Spn} (h60 : l.length ≤ 60) (h : daysB l = true) : LateOk (lows l) ∧ LateOk (highs l) := by
  have hd := days_ok.1 h
  refine ⟨⟨by simp [lows]; omega, fun k hk => ?_⟩, ⟨by simp [highs]; omega, fun k hk => ?_⟩⟩
  · have hk : k < l.length := by simpa [lows] using hk
    have := hd k hk
    rw [lows, geti_mk hk]; omega
  · have hk : k < l.length := by simpa [highs] using hk
    have := hd k hk
    rw [highs, geti_mk hk]; omega
theorem billed_ok {m : Mail} {l : List Spn} (h : billedE m l = 0) : MailOk m ∧ l.length ≤ 60 ∧ daysB l = true := by
  unfold billedE at h
  split at h
  · omega
  · split at h
    · rename_i h1 h2
      simp only [Bool.and_eq_true] at h2
      exact ⟨mail_ok.1 h2.1, by omega, h2.2⟩
    · omega

def billOf (m : Mail) (l : List Spn) : Spn × Int := if billedE m l = 0 then (⟨billTo m (highs l) l.length, billTo m (lows l) l.length⟩, 0) else (⟨0, 0⟩, billedE m l)
def finesOf (m : Mail) (l : List Spn) : Spn × Int := if billedE m l = 0 then (⟨finedTo m (lows l) l.length, finedTo m (highs l) l.length⟩, 0) else (⟨0, 0⟩, billedE m l)
theorem Bill_spec (m : Mail) (l : List Spn) (hl : l.length ≤ 9223372036854775807) : Spec Try.prog 38 [.agg m.cells, spnL l] (.tup [.agg (billOf m l).1.cells, .v (.int .i64 (billOf m l).2)]) := by
  refine spec_of mixed Try.func38 (by decide) rfl Try.results38 Try.ntmps38 (by decide) 0 (by simp) ?_
  simp [Mail.cells, spnL]
  refine pop_spec (billed_spec m l hl) rfl false (.inl (by simp [Mail.cells, spnL])) (.inl rfl) rfl (by simp) ?_
  by_cases h : billedE m l = 0
  · obtain ⟨hm, h60, hd⟩ := billed_ok h
    obtain ⟨h1, h2⟩ := lates_ok h60 hd
    simp [h]
    refine pop_spec (ends_spec l (by omega)) rfl false (.inl (by simp [spnL])) (.inl rfl) rfl (by simp [ints]) ?_
    simp [ints]
    refine pwp_draw 9 (by decide) ?_
    simp
    refine pd_spec (bill_spec m (highs l) hm h2) (by simp [Mail.cells, ints]) (by simp) (by simp [Mail.cells, ints]) rfl ?_
    simp
    refine pd_spec (bill_spec m (lows l) hm h1) (by simp [Mail.cells, ints]) (by simp) (by simp [Mail.cells, ints]) rfl ?_
    simp
    refine ⟨by decide, ?_⟩
    have hr : billOf m l = (⟨billTo m (highs l) l.length, billTo m (lows l) l.length⟩, 0) := by simp [billOf, h]
    rw [hr]; exact answers_plain (by simp [Spn.cells, highs, lows]) rfl
  · simp [h]
    have hr : billOf m l = (⟨0, 0⟩, billedE m l) := by simp [billOf, h]
    rw [hr]; exact answers_plain (by simp [Spn.cells]) rfl
theorem Fines_spec (m : Mail) (l : List Spn) (hl : l.length ≤ 9223372036854775807) : Spec Try.prog 39 [.agg m.cells, spnL l] (.tup [.agg (finesOf m l).1.cells, .v (.int .i64 (finesOf m l).2)]) := by
  refine spec_of mixed Try.func39 (by decide) rfl Try.results39 Try.ntmps39 (by decide) 0 (by simp) ?_
  simp [Mail.cells, spnL]
  refine pop_spec (billed_spec m l hl) rfl false (.inl (by simp [Mail.cells, spnL])) (.inl rfl) rfl (by simp) ?_
  by_cases h : billedE m l = 0
  · obtain ⟨hm, h60, hd⟩ := billed_ok h
    obtain ⟨h1, h2⟩ := lates_ok h60 hd
    simp [h]
    refine pop_spec (ends_spec l (by omega)) rfl false (.inl (by simp [spnL])) (.inl rfl) rfl (by simp [ints]) ?_
    simp [ints]
    refine pwp_draw 9 (by decide) ?_
    simp
    refine pd_spec (fined_spec m (lows l) hm h1) (by simp [Mail.cells, ints]) (by simp) (by simp [Mail.cells, ints]) rfl ?_
    simp
    refine pd_spec (fined_spec m (highs l) hm h2) (by simp [Mail.cells, ints]) (by simp) (by simp [Mail.cells, ints]) rfl ?_
    simp
    refine ⟨by decide, ?_⟩
    have hr : finesOf m l = (⟨finedTo m (lows l) l.length, finedTo m (highs l) l.length⟩, 0) := by simp [finesOf, h]
    rw [hr]; exact answers_plain (by simp [Spn.cells, highs, lows]) rfl
  · simp [h]
    have hr : finesOf m l = (⟨0, 0⟩, billedE m l) := by simp [finesOf, h]
    rw [hr]; exact answers_plain (by simp [Spn.cells]) rfl
end Go.Qg

/-! The contract of Back. No condition. -/
namespace Go.Qg
open Go.Proofs
set_option maxRecDepth 100000
set_option maxHeartbeats 4000000
attribute [local irreducible] pwp pops pdraw pop popCall pdCall thenP blockP scopeP pspec Spec answers ppost CallW

/-! ### Back -/
structure Rule where
  cash : Int
  voucher : Int
def Rule.cells (r : Rule) : List PV := [.v (.int .i64 r.cash), .v (.int .i64 r.voucher)]
structure Backs where
  earned : Int
  cash : Int
  voucher : Int
  kept : Int
  deriving DecidableEq
def Backs.cells (b : Backs) : List PV := [.v (.int .i64 b.earned), .v (.int .i64 b.cash), .v (.int .i64 b.voucher), .v (.int .i64 b.kept)]
def getb (l : List Bool) (i : Nat) : Bool := l.getD i false
def bools (l : List Bool) : PV := .sl 1 l.length fun i => [.v (.bool (getb l i))]

def backStep (r : Rule) (f : Bool) (n : Int) (b : Backs) : Backs :=
  if f then ⟨b.earned + n, b.cash, b.voucher, b.kept⟩
  else ⟨b.earned, b.cash + n * r.cash / 1000, b.voucher + n * r.voucher / 1000, b.kept + (n - n * r.cash / 1000 - n * r.voucher / 1000)⟩
def backTo (r : Rule) (s : List Int) (fl : List Bool) : Nat → Backs
  | 0 => ⟨0, 0, 0, 0⟩
  | k + 1 => backStep r (getb fl k) (geti s k) (backTo r s fl k)
def backBad (r : Rule) (cost : Int) (l : List Int) (fl : List Bool) : Bool :=
  decide (lengthsE cost l ≠ 0) || !inB r.cash 0 1000 || !inB r.voucher 0 1000 || decide (1000 < r.cash + r.voucher) || decide (fl.length ≠ l.length)
def backOf (r : Rule) (cost : Int) (l : List Int) (fl : List Bool) : Backs × Int :=
  if lengthsE cost l = 3 then (⟨0, 0, 0, 0⟩, 3) else if backBad r cost l fl then (⟨0, 0, 0, 0⟩, 2) else (backTo r (shareL cost l) fl l.length, 0)

theorem part_bound {n x : Int} (h1 : 0 ≤ n) (h2 : 0 ≤ x ∧ x ≤ 1000) : 0 ≤ n * x ∧ n * x ≤ n * 1000 ∧ 0 ≤ n * x / 1000 ∧ n * x / 1000 ≤ n := by
  have e0 : 0 ≤ n * x := Int.mul_nonneg h1 h2.1
  have e1 : n * x ≤ n * 1000 := Int.mul_le_mul_of_nonneg_left h2.2 h1
  omega
structure BacksIn (b : Backs) (c : Int) : Prop where
  e : -c ≤ b.earned ∧ b.earned ≤ c
  ca : -c ≤ b.cash ∧ b.cash ≤ c
  v : -c ≤ b.voucher ∧ b.voucher ≤ c
  k : -c ≤ b.kept ∧ b.kept ≤ c
theorem backTo_in {r : Rule} {s : List Int} {fl : List Bool} (hr : (0 ≤ r.cash ∧ r.cash ≤ 1000) ∧ 0 ≤ r.voucher ∧ r.voucher ≤ 1000) {n : Nat} (hs : ∀ k, k < n → 0 ≤ geti s k ∧ geti s k ≤ 80000000000000) : ∀ k, k ≤ n → BacksIn (backTo r s fl k) (80000000000000 * k)
  | 0, _ => by constructor <;> simp [backTo]
  | k + 1, hk => by
    obtain ⟨h1, h2, h3, h4⟩ := backTo_in hr (fl := fl) hs k (by omega)
    have hk' := hs k (by omega)
    have p1 := part_bound hk'.1 hr.1
    have p2 := part_bound hk'.1 hr.2
    simp only [backTo, backStep]
    split <;> constructor <;> simp only [] <;> omega
theorem ShareOk.el {amount : Int} {l : List Int} (h : ShareOk amount l) {k : Nat} (hk : k < l.length) : 0 ≤ geti (shareL amount l) k ∧ geti (shareL amount l) k ≤ 80000000000000 := by
  have h1 := h.to (k := k + 1) hk
  have h2 := h.to (k := k) (by omega)
  have h3 := h.mono hk
  rw [shareL, geti_mk hk]
  omega

theorem Back_spec (r : Rule) (cost : Int) (l : List Int) (fl : List Bool) (hl : l.length ≤ 9223372036854775807) (hfl : fl.length ≤ 9223372036854775807) (hr1 : -9223372036854775808 ≤ r.cash ∧ r.cash ≤ 9223372036854775807) : Spec Try.prog 28 [.agg r.cells, .v (.int .i64 cost), ints l, bools fl] (.tup [.agg (backOf r cost l fl).1.cells, .v (.int .i64 (backOf r cost l fl).2)]) := by
  refine spec_of mixed Try.func28 (by decide) rfl Try.results28 Try.ntmps28 (by decide) 0 (by simp) ?_
  simp [ints, bools, Rule.cells]
  refine pop_spec (lengths_spec cost l hl) rfl false (.inl (by simp [ints, geti])) (.inl rfl) rfl (by simp) ?_
  by_cases h3 : lengthsE cost l = 3
  · simp [h3]
    have hr : backOf r cost l fl = (⟨0, 0, 0, 0⟩, 3) := by simp [backOf, h3]
    rw [hr]; exact answers_plain (by simp [Backs.cells]) rfl
  · simp [h3]
    refine pop_spec (lengths_spec cost l hl) rfl false (.inl (by simp [ints, geti])) (.inl rfl) rfl (by simp) ?_
    by_cases h0 : lengthsE cost l = 0
    · simp [h0]
      refine pop_spec (in_spec r.cash 0 1000) rfl false (.inl (by simp)) (.inl rfl) rfl (by simp) ?_
      cases h1 : inB r.cash 0 1000 with
      | false =>
        simp
        have hr : backOf r cost l fl = (⟨0, 0, 0, 0⟩, 2) := by simp [backOf, backBad, h3, h0, h1]
        rw [hr]; exact answers_plain (by simp [Backs.cells]) rfl
      | true =>
        simp
        refine pop_spec (in_spec r.voucher 0 1000) rfl false (.inl (by simp)) (.inl rfl) rfl (by simp) ?_
        cases h2 : inB r.voucher 0 1000 with
        | false =>
          simp
          have hr : backOf r cost l fl = (⟨0, 0, 0, 0⟩, 2) := by simp [backOf, backBad, h3, h0, h1, h2]
          rw [hr]; exact answers_plain (by simp [Backs.cells]) rfl
        | true =>
          have b1 := inB_spec.1 h1
          have b2 := inB_spec.1 h2
          have w0 : IntKind.i64.wrap (r.cash + r.voucher) = r.cash + r.voucher := i64_wrap (by omega)
          by_cases h4 : 1000 < r.cash + r.voucher
          · simp [w0, h4]
            have hr : backOf r cost l fl = (⟨0, 0, 0, 0⟩, 2) := by simp [backOf, backBad, h3, h0, h1, h2, h4]
            rw [hr]; exact answers_plain (by simp [Backs.cells]) rfl
          by_cases h5 : fl.length = l.length
          · have hok := share_ok h0
            have h8 := hok.len
            have hr : backOf r cost l fl = (backTo r (shareL cost l) fl l.length, 0) := by simp [backOf, backBad, h3, h0, h1, h2, h4, h5]
            rw [hr]
            simp [w0, h4, show (fl.length : Int) = l.length from by omega]
            refine pop_spec (share_spec cost l hok) rfl false (.inl (by simp [ints, geti])) (.inl rfl) rfl (by simp [ints]) ?_
            have hlen : (shareL cost l).length = l.length := by simp [shareL]
            simp [ints, hlen]
            refine pwp_loop (fun k : Nat => [(11, .box true (backTo r (shareL cost l) fl k).cells), (59, .v (.int .i64 k))]) (fun k => k ≤ l.length) (fun k => l.length - k) 0 (Nat.zero_le _) (by simp; rfl) (by simp [backTo, Backs.cells]) ?_
            intro k hk
            have hB := backTo_in (r := r) (s := shareL cost l) (fl := fl) ⟨b1, b2⟩ (fun j hj => hok.el hj)
            obtain ⟨c1, c2, c3, c4⟩ := hB k hk
            by_cases hkl : k < l.length
            · have he := hok.el hkl
              have p1 := part_bound he.1 b1
              have p2 := part_bound he.1 b2
              have wk := i64_wrap (show -9223372036854775808 ≤ (k : Int) + 1 ∧ _ from by omega)
              generalize hb : backTo r (shareL cost l) fl k = b at c1 c2 c3 c4
              generalize hn : geti (shareL cost l) k = n at he p1 p2
              cases hf : getb fl k with
              | true =>
                have w1 : IntKind.i64.wrap (b.earned + n) = b.earned + n := i64_wrap (by omega)
                simp [hkl, Backs.cells, hf, show k < fl.length from by omega, hn, w1]
                refine again_of (k + 1) (by omega) (by omega) ?_
                simp [wk, backTo, backStep, hb, hn, hf, Backs.cells]
              | false =>
                have w1 : IntKind.i64.wrap (n * r.cash) = n * r.cash := i64_wrap (by omega)
                have w2 : IntKind.i64.wrap (n * r.voucher) = n * r.voucher := i64_wrap (by omega)
                have w3 : IntKind.i64.wrap ((n * r.cash).tdiv 1000) = n * r.cash / 1000 := i64_quo (by omega)
                have w4 : IntKind.i64.wrap ((n * r.voucher).tdiv 1000) = n * r.voucher / 1000 := i64_quo (by omega)
                have w5 : IntKind.i64.wrap (b.cash + n * r.cash / 1000) = b.cash + n * r.cash / 1000 := i64_wrap (by omega)
                have w6 : IntKind.i64.wrap (b.voucher + n * r.voucher / 1000) = b.voucher + n * r.voucher / 1000 := i64_wrap (by omega)
                have w7 : IntKind.i64.wrap (n - n * r.cash / 1000) = n - n * r.cash / 1000 := i64_wrap (by omega)
                have w8 : IntKind.i64.wrap (n - n * r.cash / 1000 - n * r.voucher / 1000) = n - n * r.cash / 1000 - n * r.voucher / 1000 := i64_wrap (by omega)
                have w9 : IntKind.i64.wrap (b.kept + (n - n * r.cash / 1000 - n * r.voucher / 1000)) = b.kept + (n - n * r.cash / 1000 - n * r.voucher / 1000) := i64_wrap (by omega)
                simp [hkl, Backs.cells, hf, show k < fl.length from by omega, hn]
                refine pwp_draw 12 (by decide) ?_
                simp [w1, w2, w3, w4]
                refine ⟨by decide, ?_⟩
                simp [w5, w6, w7, w8, w9]
                refine again_of (k + 1) (by omega) (by omega) ?_
                simp [wk, backTo, backStep, hb, hn, hf, Backs.cells]
            · obtain rfl : k = l.length := by omega
              simp [Backs.cells]
              exact answers_plain (by simp [Backs.cells]) rfl
          · simp [w0, h4, show ¬ (fl.length : Int) = l.length from by omega]
            have hr : backOf r cost l fl = (⟨0, 0, 0, 0⟩, 2) := by simp [backOf, backBad, h3, h0, h1, h2, h5]
            rw [hr]; exact answers_plain (by simp [Backs.cells]) rfl
    · simp [h0]
      have hr : backOf r cost l fl = (⟨0, 0, 0, 0⟩, 2) := by simp [backOf, backBad, h3, h0]
      rw [hr]; exact answers_plain (by simp [Backs.cells]) rfl
end Go.Qg

/-! Contracts of Same, SameUses, T, M of the layer's law package. No condition. -/
namespace Go.Qg
open Go.Proofs
set_option maxRecDepth 100000
set_option maxHeartbeats 4000000
attribute [local irreducible] pwp pops pdraw pop popCall pdCall thenP blockP scopeP pspec Spec answers ppost CallW rend

-- ranges written out
@[simp] theorem range_13 : List.range 13 = [0, 1, 2, 3, 4, 5, 6, 7, 8, 9, 10, 11, 12] := rfl
@[simp] theorem range_14 : List.range 14 = [0, 1, 2, 3, 4, 5, 6, 7, 8, 9, 10, 11, 12, 13] := rfl
@[simp] theorem range_15 : List.range 15 = [0, 1, 2, 3, 4, 5, 6, 7, 8, 9, 10, 11, 12, 13, 14] := rfl
@[simp] theorem range_16 : List.range 16 = [0, 1, 2, 3, 4, 5, 6, 7, 8, 9, 10, 11, 12, 13, 14, 15] := rfl
@[simp] theorem range_17 : List.range 17 = [0, 1, 2, 3, 4, 5, 6, 7, 8, 9, 10, 11, 12, 13, 14, 15, 16] := rfl
@[simp] theorem range_18 : List.range 18 = [0, 1, 2, 3, 4, 5, 6, 7, 8, 9, 10, 11, 12, 13, 14, 15, 16, 17] := rfl
@[simp] theorem range_19 : List.range 19 = [0, 1, 2, 3, 4, 5, 6, 7, 8, 9, 10, 11, 12, 13, 14, 15, 16, 17, 18] := rfl
@[simp] theorem range_20 : List.range 20 = [0, 1, 2, 3, 4, 5, 6, 7, 8, 9, 10, 11, 12, 13, 14, 15, 16, 17, 18, 19] := rfl
@[simp] theorem range_21 : List.range 21 = [0, 1, 2, 3, 4, 5, 6, 7, 8, 9, 10, 11, 12, 13, 14, 15, 16, 17, 18, 19, 20] := rfl
@[simp] theorem range_22 : List.range 22 = [0, 1, 2, 3, 4, 5, 6, 7, 8, 9, 10, 11, 12, 13, 14, 15, 16, 17, 18, 19, 20, 21] := rfl
@[simp] theorem range_23 : List.range 23 = [0, 1, 2, 3, 4, 5, 6, 7, 8, 9, 10, 11, 12, 13, 14, 15, 16, 17, 18, 19, 20, 21, 22] := rfl
@[simp] theorem range_24 : List.range 24 = [0, 1, 2, 3, 4, 5, 6, 7, 8, 9, 10, 11, 12, 13, 14, 15, 16, 17, 18, 19, 20, 21, 22, 23] := rfl
@[simp] theorem range_25 : List.range 25 = [0, 1, 2, 3, 4, 5, 6, 7, 8, 9, 10, 11, 12, 13, 14, 15, 16, 17, 18, 19, 20, 21, 22, 23, 24] := rfl
@[simp] theorem range_26 : List.range 26 = [0, 1, 2, 3, 4, 5, 6, 7, 8, 9, 10, 11, 12, 13, 14, 15, 16, 17, 18, 19, 20, 21, 22, 23, 24, 25] := rfl
@[simp] theorem range_27 : List.range 27 = [0, 1, 2, 3, 4, 5, 6, 7, 8, 9, 10, 11, 12, 13, 14, 15, 16, 17, 18, 19, 20, 21, 22, 23, 24, 25, 26] := rfl
@[simp] theorem range_28 : List.range 28 = [0, 1, 2, 3, 4, 5, 6, 7, 8, 9, 10, 11, 12, 13, 14, 15, 16, 17, 18, 19, 20, 21, 22, 23, 24, 25, 26, 27] := rfl
@[simp] theorem range_29 : List.range 29 = [0, 1, 2, 3, 4, 5, 6, 7, 8, 9, 10, 11, 12, 13, 14, 15, 16, 17, 18, 19, 20, 21, 22, 23, 24, 25, 26, 27, 28] := rfl
@[simp] theorem range_30 : List.range 30 = [0, 1, 2, 3, 4, 5, 6, 7, 8, 9, 10, 11, 12, 13, 14, 15, 16, 17, 18, 19, 20, 21, 22, 23, 24, 25, 26, 27, 28, 29] := rfl
@[simp] theorem range_31 : List.range 31 = [0, 1, 2, 3, 4, 5, 6, 7, 8, 9, 10, 11, 12, 13, 14, 15, 16, 17, 18, 19, 20, 21, 22, 23, 24, 25, 26, 27, 28, 29, 30] := rfl
@[simp] theorem range_32 : List.range 32 = [0, 1, 2, 3, 4, 5, 6, 7, 8, 9, 10, 11, 12, 13, 14, 15, 16, 17, 18, 19, 20, 21, 22, 23, 24, 25, 26, 27, 28, 29, 30, 31] := rfl

theorem same_split {n m : Nat} {f g : Nat → Int} (h : n = m) (h2 : ∀ k, k < n → f k = g k) : n = m ∧ ∀ k, k < n → f k = g k := ⟨h, h2⟩
theorem ext_geti {a b : List Int} (h : a.length = b.length) (h2 : ∀ k, k < a.length → geti a k = geti b k) : a = b := by
  refine List.ext_getElem h fun i h3 h4 => ?_
  have := h2 i h3
  simpa [geti, h3, h4] using this
theorem Same_spec (a b : List Int) (ha : a.length ≤ 9223372036854775807) (hb : b.length ≤ 9223372036854775807) : Spec Try.prog 25 [ints a, ints b] (.v (.bool (decide (a = b)))) := by
  refine spec_of mixed Try.func25 (by decide) rfl Try.results25 Try.ntmps25 (by decide) 0 (by simp) ?_
  simp [ints]
  by_cases hl : a.length = b.length
  · simp [hl]
    refine pwp_loop (fun k : Nat => [(5, .v (.int .i64 k))]) (fun k => k ≤ b.length ∧ ∀ j, j < k → geti a j = geti b j) (fun k => b.length - k) 0 ⟨Nat.zero_le _, fun j hj => by omega⟩ (by simp; rfl) (by simp [hl]) ?_
    intro k ⟨hk, hp⟩
    by_cases hkl : k < b.length
    · have wk := i64_wrap (show -9223372036854775808 ≤ (k : Int) + 1 ∧ _ from by omega)
      simp [hkl, hl]
      refine pwp_draw 9 (by decide) ?_
      by_cases he : geti a k = geti b k
      · simp [hkl, hl, he]
        refine ⟨by decide, ?_⟩
        refine again_of (k + 1) ⟨by omega, fun j hj => ?_⟩ (by omega) ?_
        · rcases Nat.lt_succ_iff_lt_or_eq.1 hj with hj | rfl
          · exact hp j hj
          · exact he
        · simp [wk, hl]
      · simp [hkl, hl, he]
        refine ⟨by decide, ?_⟩
        have hne : ¬ a = b := fun h => he (by rw [h])
        refine answers_of rfl ?_; simp [hne]
    · simp [hkl]
      have heq : a = b := ext_geti hl fun j hj => hp j (by omega)
      refine answers_of rfl ?_; simp [heq]
  · simp [show ¬ (a.length : Int) = b.length from by omega]
    have hne : ¬ a = b := fun h => hl (by rw [h])
    refine answers_of rfl ?_; simp [hne]

theorem ext_fuse {a b : List FUse} (h : a.length = b.length) (h2 : ∀ k, k < a.length → fuseAt a k = fuseAt b k) : a = b := by
  refine List.ext_getElem h fun i h3 h4 => ?_
  have := h2 i h3
  simpa [fuseAt, h3, h4] using this
theorem fuse_eq {a b : FUse} : a = b ↔ a.offer = b.offer ∧ a.leg = b.leg := by cases a; cases b; simp
theorem SameUses_spec (a b : List FUse) (ha : a.length ≤ 9223372036854775807) (hb : b.length ≤ 9223372036854775807) : Spec Try.prog 23 [fuseL a, fuseL b] (.v (.bool (decide (a = b)))) := by
  refine spec_of mixed Try.func23 (by decide) rfl Try.results23 Try.ntmps23 (by decide) 0 (by simp) ?_
  simp [fuseL]
  by_cases hl : a.length = b.length
  · simp [hl]
    refine pwp_loop (fun k : Nat => [(5, .v (.int .i64 k))]) (fun k => k ≤ b.length ∧ ∀ j, j < k → fuseAt a j = fuseAt b j) (fun k => b.length - k) 0 ⟨Nat.zero_le _, fun j hj => by omega⟩ (by simp; rfl) (by simp [hl]) ?_
    intro k ⟨hk, hp⟩
    by_cases hkl : k < b.length
    · have wk := i64_wrap (show -9223372036854775808 ≤ (k : Int) + 1 ∧ _ from by omega)
      simp [hkl, hl]
      refine pwp_draw 9 (by decide) ?_
      by_cases he : fuseAt a k = fuseAt b k
      · simp [hkl, hl, he, FUse.cells]
        refine ⟨by decide, ?_⟩
        refine again_of (k + 1) ⟨by omega, fun j hj => ?_⟩ (by omega) ?_
        · rcases Nat.lt_succ_iff_lt_or_eq.1 hj with hj | rfl
          · exact hp j hj
          · exact he
        · simp [wk, hl]
      · have hne : ¬ a = b := fun h => he (by rw [h])
        rw [fuse_eq] at he
        by_cases h1 : (fuseAt a k).offer = (fuseAt b k).offer
        · have h2 : ¬ (fuseAt a k).leg = (fuseAt b k).leg := fun h => he ⟨h1, h⟩
          simp [hkl, hl, h1, h2, FUse.cells]
          refine ⟨by decide, ?_⟩
          refine answers_of rfl ?_; simp [hne]
        · simp [hkl, hl, h1, FUse.cells]
          refine ⟨by decide, ?_⟩
          refine answers_of rfl ?_; simp [hne]
    · simp [hkl]
      have heq : a = b := ext_fuse hl fun j hj => hp j (by omega)
      refine answers_of rfl ?_; simp [heq]
  · simp [show ¬ (a.length : Int) = b.length from by omega]
    have hne : ¬ a = b := fun h => hl (by rw [h])
    refine answers_of rfl ?_; simp [hne]

def tabT : Table := ⟨[⟨[0, 1], 10000, false⟩, ⟨[1, 2], 9000, false⟩, ⟨[0, 1, 2], 15000, false⟩, ⟨[2, 1], 9500, false⟩, ⟨[2, 1, 0], 14000, true⟩, ⟨[1, 0], 10000, false⟩], [⟨80, 0⟩, ⟨110, 500⟩], 100⟩
theorem lt2 {p : Nat → Prop} (h0 : p 0) (h1 : p 1) : ∀ k, k < 2 → p k
  | 0, _ => h0
  | 1, _ => h1
theorem lt3 {p : Nat → Prop} (h0 : p 0) (h1 : p 1) (h2 : p 2) : ∀ k, k < 3 → p k
  | 0, _ => h0
  | 1, _ => h1
  | 2, _ => h2
theorem lt4 {p : Nat → Prop} (h0 : p 0) (h1 : p 1) (h2 : p 2) (h3 : p 3) : ∀ k, k < 4 → p k
  | 0, _ => h0
  | 1, _ => h1
  | 2, _ => h2
  | 3, _ => h3
theorem lt6 {p : Nat → Prop} (h0 : p 0) (h1 : p 1) (h2 : p 2) (h3 : p 3) (h4 : p 4) (h5 : p 5) : ∀ k, k < 6 → p k
  | 0, _ => h0
  | 1, _ => h1
  | 2, _ => h2
  | 3, _ => h3
  | 4, _ => h4
  | 5, _ => h5
theorem T_spec : Spec Try.prog 59 [] (.agg tabT.cells) := by
  refine spec_of mixed Try.func59 (by decide) rfl Try.results59 Try.ntmps59 (by decide) 0 (by simp) ?_
  simp
  refine answers_of (x := .agg [.own 13 0 0 6 false, .own 16 0 0 2 false, .v (.int .i64 100)]) (by simp) ?_
  simp [Table.cells, tabT, offerL, bandL]
  refine ⟨lt6 ?_ ?_ ?_ ?_ ?_ ?_, lt2 ?_ ?_⟩ <;> simp [offerAt, Offer.cells, bandAt, Band.cells, ints]
  · exact lt2 (by simp [geti]) (by simp [geti])
  · exact lt2 (by simp [geti]) (by simp [geti])
  · exact lt3 (by simp [geti]) (by simp [geti]) (by simp [geti])
  · exact lt2 (by simp [geti]) (by simp [geti])
  · exact lt3 (by simp [geti]) (by simp [geti]) (by simp [geti])
  · exact lt2 (by simp [geti]) (by simp [geti])
def mailM : Mail := ⟨5000, 700, 3000, 600, 2000, 3, 1, 4000⟩
theorem M_spec : Spec Try.prog 60 [] (.agg mailM.cells) := by
  refine spec_of mixed Try.func60 (by decide) rfl Try.results60 Try.ntmps60 (by decide) 0 (by simp) ?_
  simp
  exact answers_plain (by simp [Mail.cells, mailM]) rfl
end Go.Qg

/-! The contract of known, which reckons the examples of the layer's chapter. No condition. -/
namespace Go.Qg
open Go.Proofs
set_option maxRecDepth 100000
set_option maxHeartbeats 4000000
attribute [local irreducible] pwp pops pdraw pop popCall pdCall thenP blockP scopeP pspec Spec answers ppost CallW rend

def jK : List Int := [0, 1, 2, 1, 0]
theorem best_known : bestOf tabT ⟨75, true⟩ jK = ⟨[⟨2, 0⟩, ⟨4, 2⟩], 26100, [9000, 4500, 8550, 4050], 0⟩ := by kernel_rfl
theorem weigh_known : weighOf tabT 2 ⟨75, 90⟩ false = (⟨15000, 16000⟩, 0) := by kernel_rfl
theorem back_known : backOf ⟨500, 400⟩ 1000 [1, 1, 1] [true, false, false] = (⟨333, 333, 266, 68⟩, 0) := by kernel_rfl
theorem bill_known : billOf mailM [⟨0, 0⟩, ⟨50, 130⟩, ⟨500, 700⟩, ⟨601, 700⟩] = (⟨-100, 9300⟩, 0) := by kernel_rfl
theorem settle_known : settleOf [⟨100, 0⟩, ⟨0, 0⟩, ⟨50, -20⟩] [⟨1, 2, 80⟩, ⟨0, 1, 90⟩] = ([1, 0], 0) := by kernel_rfl
theorem lt5 {p : Nat → Prop} (h0 : p 0) (h1 : p 1) (h2 : p 2) (h3 : p 3) (h4 : p 4) : ∀ k, k < 5 → p k
  | 0, _ => h0
  | 1, _ => h1
  | 2, _ => h2
  | 3, _ => h3
  | 4, _ => h4
theorem fit_T : TableFit tabT := by
  refine ⟨by simp [tabT], by simp [tabT], ?_⟩
  intro o ho
  simp [tabT] at ho
  rcases ho with rfl | rfl | rfl | rfl | rfl | rfl <;> simp

theorem known_spec : Spec Try.prog 18 [] (.v (.bool true)) := by
  have hbest := Best_spec tabT ⟨75, true⟩ jK fit_T (by simp [jK])
  rw [best_known] at hbest
  have hweigh := weigh_spec tabT 2 ⟨75, 90⟩ false fit_T
  rw [weigh_known] at hweigh
  have hback := Back_spec ⟨500, 400⟩ 1000 [1, 1, 1] [true, false, false] (by simp) (by simp) (by simp)
  rw [back_known] at hback
  have hbill := Bill_spec mailM [⟨0, 0⟩, ⟨50, 130⟩, ⟨500, 700⟩, ⟨601, 700⟩] (by simp)
  rw [bill_known] at hbill
  have hset := Settle_spec [⟨100, 0⟩, ⟨0, 0⟩, ⟨50, -20⟩] [⟨1, 2, 80⟩, ⟨0, 1, 90⟩] (by simp) (by simp)
  rw [settle_known] at hset
  refine spec_of mixed Try.func18 (by decide) rfl Try.results18 Try.ntmps18 (by decide) 0 (by simp) ?_
  simp
  refine pop_spec T_spec rfl false (.inl (by simp)) (.inl rfl) rfl (by simp) ?_
  simp [Table.cells, offerL, bandL]
  refine pop_specF [(1, .sl 1 5 fun i => [.v (.int .i64 (geti jK i))]), (14, .undef), (18, .sl 1 5 fun i => [.v (.int .i64 (geti jK i))])] ?_ hbest rfl false (.inl ?_) (.inl rfl) rfl (by simp) ?_
  · simp
    refine lt5 ?_ ?_ ?_ ?_ ?_ <;> simp [geti, jK]
  · simp [Table.cells, offerL, bandL, Person.cells, ints, jK]
  simp [BestR.pv, fuseL, ints]
  refine pop_spec T_spec rfl false (.inl (by simp)) (.inl rfl) rfl (by simp) ?_
  simp [Table.cells, offerL, bandL]
  refine pop_spec hweigh rfl false (.inl (by simp [Table.cells, offerL, bandL, Spn.cells])) (.inl rfl) rfl (by simp) ?_
  simp [Spn.cells]
  refine pop_spec hback rfl true (.inl ?_) (.inr rfl) rfl (by simp) ?_
  · simp [Rule.cells, ints, bools]
    refine ⟨lt3 ?_ ?_ ?_, lt3 ?_ ?_ ?_⟩ <;> simp [geti, getb]
  simp [Backs.cells]
  refine pop_spec M_spec rfl false (.inl (by simp)) (.inl rfl) rfl (by simp) ?_
  simp [Mail.cells]
  refine pop_spec hbill rfl true (.inl ?_) (.inr rfl) rfl (by simp) ?_
  · simp [Mail.cells, spnL]
    refine lt4 ?_ ?_ ?_ ?_ <;> simp [spnAt, Spn.cells]
  simp [Spn.cells]
  refine pop_specF [(51, accL [⟨100, 0⟩, ⟨0, 0⟩, ⟨50, -20⟩]), (54, entryL [⟨1, 2, 80⟩, ⟨0, 1, 90⟩])] ?_ hset rfl false (.inl ?_) (.inl rfl) rfl (by simp [ints]) ?_
  · simp [accL, entryL]
    refine ⟨lt3 ?_ ?_ ?_, lt2 ?_ ?_⟩ <;> simp [accAt, entryAt, Acc.cells, Entry.cells]
  · simp [accL, entryL]
  simp [ints, fuseL]
  refine pop_spec (SameUses_spec [⟨2, 0⟩, ⟨4, 2⟩] [⟨2, 0⟩, ⟨4, 2⟩] (by simp) (by simp)) rfl true (.inl ?_) (.inr rfl) rfl (by simp) ?_
  · simp [fuseL]
    refine lt2 ?_ ?_ <;> simp [fuseAt, FUse.cells]
  simp
  refine pop_spec (Same_spec [9000, 4500, 8550, 4050] [9000, 4500, 8550, 4050] (by simp) (by simp)) rfl true (.inl ?_) (.inr rfl) rfl (by simp) ?_
  · simp [ints]
    refine lt4 ?_ ?_ ?_ ?_ <;> simp [geti]
  simp
  refine pop_spec (Same_spec [1, 0] [1, 0] (by simp) (by simp)) rfl true (.inl ?_) (.inr rfl) rfl (by simp) ?_
  · simp [ints]
    refine lt2 ?_ ?_ <;> simp [geti]
  simp
  refine answers_of rfl ?_; simp
end Go.Qg

/-! Arguments of the layer's laws as plain data; the closed facts of the rows' step. No condition. -/
namespace Go.Qg
open Go.Proofs
set_option maxRecDepth 100000

theorem lenOk {n : Nat} (h : n ≤ maxLen) : n ≤ 9223372036854775807 := h
def intOk (x : Int) : Prop := -9223372036854775808 ≤ x ∧ x ≤ 9223372036854775807
theorem intOk_of {x : Int} (h : IntKind.i64.min ≤ x ∧ x ≤ IntKind.i64.max) : intOk x := h

section
open Try
theorem t_int {n : Nat} {ps : List PV} (h : Typ Try.prog (n + 1) 3 ps) : ∃ x, ps = [.v (.int .i64 x)] ∧ intOk x := by
  simp only [Typ, Try.underlying3] at h
  obtain ⟨x, h1, h2⟩ := h
  exact ⟨x, h1, intOk_of h2⟩
theorem d_int {n : Nat} : tdef Try.prog (n + 1) 3 = [.v (.int .i64 0)] := by simp only [tdef, Try.underlying3]
theorem t_bool {n : Nat} {ps : List PV} (h : Typ Try.prog (n + 1) 4 ps) : ∃ x, ps = [.v (.bool x)] := by
  simpa only [Typ, Try.underlying4] using h
theorem d_bool {n : Nat} : tdef Try.prog (n + 1) 4 = [.v (.bool false)] := by simp only [tdef, Try.underlying4]
theorem cells_int : Try.prog.cellsOf 3 = 1 := by kernel_rfl
theorem t_ints {n : Nat} {ps : List PV} (h : Typ Try.prog (n + 2) 28 ps) : ∃ l : List Int, ps = [ints l] ∧ l.length ≤ 9223372036854775807 ∧ ∀ x ∈ l, intOk x := by
  unfold Typ at h
  simp only [Try.underlying28, cells_int] at h
  obtain ⟨m, f, h1, h2, h3, h4⟩ := h
  obtain ⟨l, g1, g2, g3⟩ := sl_list (α := Int) (fun x => [.v (.int .i64 x)]) intOk (fun i hi => t_int (h3 i hi)) (fun i hi => (h4 i hi).trans d_int)
  refine ⟨l, ?_, lenOk (by omega), g3⟩
  rw [h1, g2, ← g1]; rfl
theorem d_ints {n : Nat} : tdef Try.prog (n + 2) 28 = [ints []] := by
  unfold tdef
  simp only [Try.underlying28, cells_int, d_int]; rfl
theorem cells_bool : Try.prog.cellsOf 4 = 1 := by kernel_rfl
theorem t_bools {n : Nat} {ps : List PV} (h : Typ Try.prog (n + 2) 49 ps) : ∃ l : List Bool, ps = [bools l] ∧ l.length ≤ 9223372036854775807 := by
  unfold Typ at h
  simp only [Try.underlying49, cells_bool] at h
  obtain ⟨m, f, h1, h2, h3, h4⟩ := h
  obtain ⟨l, g1, g2, g3⟩ := sl_list (α := Bool) (fun x => [.v (.bool x)]) (fun _ => True) (fun i hi => by obtain ⟨x, hx⟩ := t_bool (h3 i hi); exact ⟨x, hx, trivial⟩) (fun i hi => (h4 i hi).trans d_bool)
  refine ⟨l, ?_, lenOk (by omega)⟩
  rw [h1, g2, ← g1]; rfl

theorem a_int {n : Nat} {p : PV} (h : ArgP Try.prog (n + 1) 3 p) : ∃ x, p = .v (.int .i64 x) ∧ intOk x := by
  simp only [ArgP, Try.underlying3] at h
  simpa using t_int h
theorem a_bool {n : Nat} {p : PV} (h : ArgP Try.prog (n + 1) 4 p) : ∃ x, p = .v (.bool x) := by
  simp only [ArgP, Try.underlying4] at h
  simpa using t_bool h
theorem a_ints {n : Nat} {p : PV} (h : ArgP Try.prog (n + 2) 28 p) : ∃ l : List Int, p = ints l ∧ l.length ≤ 9223372036854775807 ∧ ∀ x ∈ l, intOk x := by
  simp only [ArgP, Try.underlying28] at h
  simpa using t_ints h
theorem a_bools {n : Nat} {p : PV} (h : ArgP Try.prog (n + 2) 49 p) : ∃ l : List Bool, p = bools l ∧ l.length ≤ 9223372036854775807 := by
  simp only [ArgP, Try.underlying49] at h
  simpa using t_bools h
theorem t_struct {P : Program} {n : Nat} {t : TypeId} {ps : List PV} {fs : Array Field} (hu : P.underlying t = some (.struct fs)) (h : Typ P (n + 1) t ps) : TypF (Typ P n) (fs.toList.map (·.type)) ps := by
  unfold Typ at h
  rw [hu] at h
  exact h
theorem a_struct {P : Program} {n : Nat} {t : TypeId} {p : PV} {fs : Array Field} (hu : P.underlying t = some (.struct fs)) (h : ArgP P n t p) : ∃ ps, p = .agg ps ∧ Typ P n t ps := by
  unfold ArgP at h
  rw [hu] at h
  exact h
theorem d_struct {P : Program} {n : Nat} {t : TypeId} {fs : Array Field} (hu : P.underlying t = some (.struct fs)) : tdef P (n + 1) t = (fs.toList.map fun f => tdef P n f.type).flatten := by
  simp only [tdef, hu]
theorem t_slice {P : Program} {n : Nat} {t e : TypeId} {ps : List PV} {c : Nat} (hu : P.underlying t = some (.slice e)) (hc : P.cellsOf e = c) (h : Typ P (n + 1) t ps) : ∃ (m : Nat) (f : Nat → List PV), ps = [.sl c m f] ∧ m ≤ 9223372036854775807 ∧ (∀ i, i < m → Typ P n e (f i)) ∧ ∀ i, m ≤ i → f i = tdef P n e := by
  unfold Typ at h
  rw [hu] at h
  obtain ⟨m, f, h1, h2, h3, h4⟩ := h
  exact ⟨m, f, by rw [h1, hc], lenOk h2, h3, h4⟩
theorem d_slice {P : Program} {n : Nat} {t e : TypeId} {c : Nat} (hu : P.underlying t = some (.slice e)) (hc : P.cellsOf e = c) : tdef P (n + 1) t = [.sl c 0 fun _ => tdef P n e] := by
  simp only [tdef, hu, hc]
theorem a_slice {P : Program} {n : Nat} {t e : TypeId} {p : PV} (hu : P.underlying t = some (.slice e)) (h : ArgP P n t p) : Typ P n t [p] := by
  unfold ArgP at h
  rw [hu] at h
  exact h

/-! Structs and slices of the layer -/
theorem t_rule {n : Nat} {ps : List PV} (h : Typ Try.prog (n + 2) 48 ps) : ∃ r : Rule, ps = r.cells ∧ intOk r.cash ∧ intOk r.voucher := by
  obtain ⟨p, q, rfl, h1, p2, q2, rfl, h2, rfl⟩ := t_struct Try.underlying48 h
  obtain ⟨x, rfl, hx⟩ := t_int h1
  obtain ⟨y, rfl, hy⟩ := t_int h2
  exact ⟨⟨x, y⟩, rfl, hx, hy⟩
theorem a_rule {n : Nat} {p : PV} (h : ArgP Try.prog (n + 2) 48 p) : ∃ r : Rule, p = .agg r.cells ∧ intOk r.cash ∧ intOk r.voucher := by
  obtain ⟨ps, rfl, g⟩ := a_struct Try.underlying48 h
  obtain ⟨r, rfl, k⟩ := t_rule g
  exact ⟨r, rfl, k⟩
theorem t_person {n : Nat} {ps : List PV} (h : Typ Try.prog (n + 2) 27 ps) : ∃ r : Person, ps = r.cells ∧ intOk r.weight := by
  obtain ⟨p, q, rfl, h1, p2, q2, rfl, h2, rfl⟩ := t_struct Try.underlying27 h
  obtain ⟨x, rfl, hx⟩ := t_int h1
  obtain ⟨y, rfl⟩ := t_bool h2
  exact ⟨⟨x, y⟩, rfl, hx⟩
theorem a_person {n : Nat} {p : PV} (h : ArgP Try.prog (n + 2) 27 p) : ∃ r : Person, p = .agg r.cells ∧ intOk r.weight := by
  obtain ⟨ps, rfl, g⟩ := a_struct Try.underlying27 h
  obtain ⟨r, rfl, k⟩ := t_person g
  exact ⟨r, rfl, k⟩
theorem t_spn {n : Nat} {ps : List PV} (h : Typ Try.prog (n + 2) 74 ps) : ∃ r : Spn, ps = r.cells ∧ intOk r.low ∧ intOk r.high := by
  obtain ⟨p, q, rfl, h1, p2, q2, rfl, h2, rfl⟩ := t_struct Try.underlying74 h
  obtain ⟨x, rfl, hx⟩ := t_int h1
  obtain ⟨y, rfl, hy⟩ := t_int h2
  exact ⟨⟨x, y⟩, rfl, hx, hy⟩
theorem d_spn {n : Nat} : tdef Try.prog (n + 2) 74 = (default : Spn).cells := by
  rw [d_struct Try.underlying74]; simp [d_int]; rfl
theorem a_spn {n : Nat} {p : PV} (h : ArgP Try.prog (n + 2) 74 p) : ∃ r : Spn, p = .agg r.cells ∧ intOk r.low ∧ intOk r.high := by
  obtain ⟨ps, rfl, g⟩ := a_struct Try.underlying74 h
  obtain ⟨r, rfl, k⟩ := t_spn g
  exact ⟨r, rfl, k⟩
theorem cells_spn : Try.prog.cellsOf 74 = 2 := by kernel_rfl
theorem a_spns {n : Nat} {p : PV} (h : ArgP Try.prog (n + 3) 72 p) : ∃ l : List Spn, p = spnL l ∧ l.length ≤ 9223372036854775807 ∧ ∀ s ∈ l, intOk s.low ∧ intOk s.high := by
  obtain ⟨m, f, h1, h2, h3, h4⟩ := t_slice Try.underlying72 cells_spn (a_slice Try.underlying72 h)
  obtain ⟨l, g1, g2, g3⟩ := sl_list Spn.cells (fun s => intOk s.low ∧ intOk s.high) (fun i hi => t_spn (h3 i hi)) (fun i hi => (h4 i hi).trans d_spn)
  refine ⟨l, ?_, by omega, g3⟩
  have h1 := List.singleton_inj.1 h1
  rw [h1, g2, ← g1]; rfl
theorem t_offer {n : Nat} {ps : List PV} (h : Typ Try.prog (n + 3) 45 ps) : ∃ o : Offer, ps = o.cells ∧ o.places.length ≤ 9223372036854775807 ∧ intOk o.cost := by
  obtain ⟨p, q, rfl, h1, p2, q2, rfl, h2, p3, q3, rfl, h3, rfl⟩ := t_struct Try.underlying45 h
  obtain ⟨l, rfl, hl, _⟩ := t_ints h1
  obtain ⟨x, rfl, hx⟩ := t_int h2
  obtain ⟨y, rfl⟩ := t_bool h3
  exact ⟨⟨l, x, y⟩, rfl, hl, hx⟩
theorem d_offer {n : Nat} : tdef Try.prog (n + 3) 45 = (default : Offer).cells := by
  rw [d_struct Try.underlying45]; simp [d_int, d_ints, d_bool]; rfl
theorem a_offer {n : Nat} {p : PV} (h : ArgP Try.prog (n + 3) 45 p) : ∃ o : Offer, p = .agg o.cells ∧ o.places.length ≤ 9223372036854775807 ∧ intOk o.cost := by
  obtain ⟨ps, rfl, g⟩ := a_struct Try.underlying45 h
  obtain ⟨r, rfl, k⟩ := t_offer g
  exact ⟨r, rfl, k⟩
theorem cells_offer : Try.prog.cellsOf 45 = 3 := by kernel_rfl
theorem t_offers {n : Nat} {ps : List PV} (h : Typ Try.prog (n + 4) 22 ps) : ∃ l : List Offer, ps = [offerL l] ∧ l.length ≤ 9223372036854775807 ∧ ∀ o ∈ l, o.places.length ≤ 9223372036854775807 := by
  obtain ⟨m, f, h1, h2, h3, h4⟩ := t_slice Try.underlying22 cells_offer h
  obtain ⟨l, g1, g2, g3⟩ := sl_list Offer.cells (fun o => o.places.length ≤ 9223372036854775807 ∧ intOk o.cost) (fun i hi => t_offer (h3 i hi)) (fun i hi => (h4 i hi).trans d_offer)
  refine ⟨l, ?_, by omega, fun o ho => (g3 o ho).1⟩
  rw [h1, g2, ← g1]; rfl
theorem t_band {n : Nat} {ps : List PV} (h : Typ Try.prog (n + 2) 126 ps) : ∃ b : Band, ps = b.cells ∧ intOk b.up ∧ intOk b.extra := by
  obtain ⟨p, q, rfl, h1, p2, q2, rfl, h2, rfl⟩ := t_struct Try.underlying126 h
  obtain ⟨x, rfl, hx⟩ := t_int h1
  obtain ⟨y, rfl, hy⟩ := t_int h2
  exact ⟨⟨x, y⟩, rfl, hx, hy⟩
theorem d_band {n : Nat} : tdef Try.prog (n + 2) 126 = (default : Band).cells := by
  rw [d_struct Try.underlying126]; simp [d_int]; rfl
theorem cells_band : Try.prog.cellsOf 126 = 2 := by kernel_rfl
theorem t_bands {n : Nat} {ps : List PV} (h : Typ Try.prog (n + 3) 23 ps) : ∃ l : List Band, ps = [bandL l] ∧ l.length ≤ 9223372036854775807 := by
  obtain ⟨m, f, h1, h2, h3, h4⟩ := t_slice Try.underlying23 cells_band h
  obtain ⟨l, g1, g2, g3⟩ := sl_list Band.cells (fun b => intOk b.up ∧ intOk b.extra) (fun i hi => t_band (h3 i hi)) (fun i hi => (h4 i hi).trans d_band)
  refine ⟨l, ?_, by omega⟩
  rw [h1, g2, ← g1]; rfl
theorem a_table {n : Nat} {p : PV} (h : ArgP Try.prog (n + 5) 25 p) : ∃ t : Table, p = .agg t.cells ∧ TableFit t := by
  obtain ⟨ps, rfl, g⟩ := a_struct Try.underlying25 h
  obtain ⟨p, q, rfl, h1, p2, q2, rfl, h2, p3, q3, rfl, h3, rfl⟩ := t_struct Try.underlying25 g
  obtain ⟨l, rfl, hl, hlo⟩ := t_offers h1
  obtain ⟨b, rfl, hb⟩ := t_bands h2
  obtain ⟨x, rfl, hx⟩ := t_int h3
  exact ⟨⟨l, b, x⟩, rfl, ⟨hl, hb, hlo⟩⟩
theorem t_fuse {n : Nat} {ps : List PV} (h : Typ Try.prog (n + 2) 109 ps) : ∃ b : FUse, ps = b.cells ∧ intOk b.offer ∧ intOk b.leg := by
  obtain ⟨p, q, rfl, h1, p2, q2, rfl, h2, rfl⟩ := t_struct Try.underlying109 h
  obtain ⟨x, rfl, hx⟩ := t_int h1
  obtain ⟨y, rfl, hy⟩ := t_int h2
  exact ⟨⟨x, y⟩, rfl, hx, hy⟩
theorem d_fuse {n : Nat} : tdef Try.prog (n + 2) 109 = (default : FUse).cells := by
  rw [d_struct Try.underlying109]; simp [d_int]; rfl
theorem cells_fuse : Try.prog.cellsOf 109 = 2 := by kernel_rfl
theorem a_fuses {n : Nat} {p : PV} (h : ArgP Try.prog (n + 3) 33 p) : ∃ l : List FUse, p = fuseL l ∧ l.length ≤ 9223372036854775807 ∧ ∀ b ∈ l, intOk b.offer ∧ intOk b.leg := by
  obtain ⟨m, f, h1, h2, h3, h4⟩ := t_slice Try.underlying33 cells_fuse (a_slice Try.underlying33 h)
  obtain ⟨l, g1, g2, g3⟩ := sl_list FUse.cells (fun b => intOk b.offer ∧ intOk b.leg) (fun i hi => t_fuse (h3 i hi)) (fun i hi => (h4 i hi).trans d_fuse)
  refine ⟨l, ?_, by omega, g3⟩
  have h1 := List.singleton_inj.1 h1
  rw [h1, g2, ← g1]; rfl
theorem t_acc {n : Nat} {ps : List PV} (h : Typ Try.prog (n + 2) 95 ps) : ∃ b : Acc, ps = b.cells ∧ intOk b.bal ∧ intOk b.least := by
  obtain ⟨p, q, rfl, h1, p2, q2, rfl, h2, rfl⟩ := t_struct Try.underlying95 h
  obtain ⟨x, rfl, hx⟩ := t_int h1
  obtain ⟨y, rfl, hy⟩ := t_int h2
  exact ⟨⟨x, y⟩, rfl, hx, hy⟩
theorem d_acc {n : Nat} : tdef Try.prog (n + 2) 95 = (default : Acc).cells := by
  rw [d_struct Try.underlying95]; simp [d_int]; rfl
theorem cells_acc : Try.prog.cellsOf 95 = 2 := by kernel_rfl
theorem a_accs {n : Nat} {p : PV} (h : ArgP Try.prog (n + 3) 59 p) : ∃ l : List Acc, p = accL l ∧ l.length ≤ 9223372036854775807 ∧ ∀ b ∈ l, intOk b.bal ∧ intOk b.least := by
  obtain ⟨m, f, h1, h2, h3, h4⟩ := t_slice Try.underlying59 cells_acc (a_slice Try.underlying59 h)
  obtain ⟨l, g1, g2, g3⟩ := sl_list Acc.cells (fun b => intOk b.bal ∧ intOk b.least) (fun i hi => t_acc (h3 i hi)) (fun i hi => (h4 i hi).trans d_acc)
  refine ⟨l, ?_, by omega, g3⟩
  have h1 := List.singleton_inj.1 h1
  rw [h1, g2, ← g1]; rfl
theorem t_entry {n : Nat} {ps : List PV} (h : Typ Try.prog (n + 2) 107 ps) : ∃ b : Entry, ps = b.cells ∧ intOk b.src ∧ intOk b.dst ∧ intOk b.amount := by
  obtain ⟨p, q, rfl, h1, p2, q2, rfl, h2, p3, q3, rfl, h3, rfl⟩ := t_struct Try.underlying107 h
  obtain ⟨x, rfl, hx⟩ := t_int h1
  obtain ⟨y, rfl, hy⟩ := t_int h2
  obtain ⟨z, rfl, hz⟩ := t_int h3
  exact ⟨⟨x, y, z⟩, rfl, hx, hy, hz⟩
theorem d_entry {n : Nat} : tdef Try.prog (n + 2) 107 = (default : Entry).cells := by
  rw [d_struct Try.underlying107]; simp [d_int]; rfl
theorem cells_entry : Try.prog.cellsOf 107 = 3 := by kernel_rfl
theorem a_entries {n : Nat} {p : PV} (h : ArgP Try.prog (n + 3) 60 p) : ∃ l : List Entry, p = entryL l ∧ l.length ≤ 9223372036854775807 ∧ ∀ b ∈ l, intOk b.src ∧ intOk b.dst ∧ intOk b.amount := by
  obtain ⟨m, f, h1, h2, h3, h4⟩ := t_slice Try.underlying60 cells_entry (a_slice Try.underlying60 h)
  obtain ⟨l, g1, g2, g3⟩ := sl_list Entry.cells (fun b => intOk b.src ∧ intOk b.dst ∧ intOk b.amount) (fun i hi => t_entry (h3 i hi)) (fun i hi => (h4 i hi).trans d_entry)
  refine ⟨l, ?_, by omega, g3⟩
  have h1 := List.singleton_inj.1 h1
  rw [h1, g2, ← g1]; rfl
theorem a_mail {n : Nat} {p : PV} (h : ArgP Try.prog (n + 2) 71 p) : ∃ m : Mail, p = .agg m.cells ∧ intOk m.pay ∧ intOk m.window := by
  obtain ⟨ps, rfl, g⟩ := a_struct Try.underlying71 h
  obtain ⟨p1, q1, rfl, h1, p2, q2, rfl, h2, p3, q3, rfl, h3, p4, q4, rfl, h4, p5, q5, rfl, h5, p6, q6, rfl, h6, p7, q7, rfl, h7, p8, q8, rfl, h8, rfl⟩ := t_struct Try.underlying71 g
  obtain ⟨x1, rfl, k1⟩ := t_int h1
  obtain ⟨x2, rfl, k2⟩ := t_int h2
  obtain ⟨x3, rfl, k3⟩ := t_int h3
  obtain ⟨x4, rfl, k4⟩ := t_int h4
  obtain ⟨x5, rfl, k5⟩ := t_int h5
  obtain ⟨x6, rfl, k6⟩ := t_int h6
  obtain ⟨x7, rfl, k7⟩ := t_int h7
  obtain ⟨x8, rfl, k8⟩ := t_int h8
  exact ⟨⟨x1, x2, x3, x4, x5, x6, x7, x8⟩, rfl, k1, k6⟩
end

theorem ownKnob_ : ownKnob Try.prog.godebug = none := by kernel_rfl
theorem laidOut_ : laidOutB Try.prog = true := by kernel_rfl
end Go.Qg
