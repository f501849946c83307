/-
  No cell of these rows narrows 'for every input' (looked for: loops, veiled, ifaces, maps, wideKeys, modest, calm, conditions, laid).
  DERIVED. THE GIVEN ROWS OF THIS SEAT. 14 by the template 'for every input the law returns true; each argument reads behind the call as it read before'; 0 by the template 'total and deterministic' (their statements: YtmnoepkamkomkaaTotals.lean).
  GIVEN WITH THE SEED: the statements are not yours to turn. If you find one false, say at which input.
  Laid BY PROGRAM, IN A SANDBOX (cutbox-rows.mjs): the forced cells as the released guide's own fill.sh prints them over the translation 9fa9a77b6c24f0c3… (all of the seat's roots in one cut). By AI agents, Wed Nov 11 2026. No macro, syntax, notation, axiom, sorry.
-/
import Derived.Test.YtmnoepkamkomkaaChecked
import GoSem.Claim
import GoSem.ClaimJoined
import GoSem.ClaimMapViews
import Derived.JoinedTies
import Derived.KernelRfl
namespace Go.Proofs.Ytmnoepkamkomkaa
/- THE CELL 'sum', in the pinned program and in every row, IS THE sha256 OF THE DUMP (.gsa) THAT YtmnoepkamkomkaaProg.lean LOADS. Nothing in Lean hashes anything: it is a label: what it is worth is what the hold of that sum in a sandbox is worth. -/
noncomputable def Try.pinned : Pinned := { name := "ytmnoepkamkomkaa", sum := "9fa9a77b6c24f0c3ac532a9cb752e02bb4ee648076b7b38c14c4fe3b768ea8d4", checked := Try.checked }
namespace Rows
def none {H : Type} : Left H := { results := [], args := [] }

/-- 'windsocklaw08.FareBest': WHATEVER THE INPUT: true; the input reads as it did. -/
def fareBestSpec : ChangeSpec := { name := "fareBest", fn := fun _ => fun
  | [d1, d2, d3] => { results := [.lit (.bool true)], args := [d1, d2, d3] }
  | _ => none }
def fareBestRow : OpenClaim := { program := "ytmnoepkamkomkaa", sum := "9fa9a77b6c24f0c3ac532a9cb752e02bb4ee648076b7b38c14c4fe3b768ea8d4", func := "windsock/windsocklaw08.FareBest", spec := "fareBest", unfollowed := true, recurses := true, plainKeys := false, apart := false }
def FareBestSaid : Prop := fareBestRow.holds Try.pinned (OpenSpec.ofChange fareBestSpec)

/-- ITS FALSE NEIGHBOUR: 'it returns false'. Refute it at one input. -/
def fareBestWrong : ChangeSpec := { name := "fareBest", fn := fun _ => fun
  | [d1, d2, d3] => { results := [.lit (.bool false)], args := [d1, d2, d3] }
  | _ => none }
def FareBestWrongFalsely : Prop := fareBestRow.holds Try.pinned (OpenSpec.ofChange fareBestWrong)

/-- 'windsocklaw08.FareMore': WHATEVER THE INPUT: true; the input reads as it did. -/
def fareMoreSpec : ChangeSpec := { name := "fareMore", fn := fun _ => fun
  | [d1, d2, d3, d4] => { results := [.lit (.bool true)], args := [d1, d2, d3, d4] }
  | _ => none }
def fareMoreRow : OpenClaim := { program := "ytmnoepkamkomkaa", sum := "9fa9a77b6c24f0c3ac532a9cb752e02bb4ee648076b7b38c14c4fe3b768ea8d4", func := "windsock/windsocklaw08.FareMore", spec := "fareMore", unfollowed := true, recurses := true, plainKeys := false, apart := false }
def FareMoreSaid : Prop := fareMoreRow.holds Try.pinned (OpenSpec.ofChange fareMoreSpec)

/-- ITS FALSE NEIGHBOUR: 'it returns false'. Refute it at one input. -/
def fareMoreWrong : ChangeSpec := { name := "fareMore", fn := fun _ => fun
  | [d1, d2, d3, d4] => { results := [.lit (.bool false)], args := [d1, d2, d3, d4] }
  | _ => none }
def FareMoreWrongFalsely : Prop := fareMoreRow.holds Try.pinned (OpenSpec.ofChange fareMoreWrong)

/-- 'windsocklaw08.FareBacks': WHATEVER THE INPUT: true; the input reads as it did. -/
def fareBacksSpec : ChangeSpec := { name := "fareBacks", fn := fun _ => fun
  | [d1, d2, d3, d4] => { results := [.lit (.bool true)], args := [d1, d2, d3, d4] }
  | _ => none }
def fareBacksRow : OpenClaim := { program := "ytmnoepkamkomkaa", sum := "9fa9a77b6c24f0c3ac532a9cb752e02bb4ee648076b7b38c14c4fe3b768ea8d4", func := "windsock/windsocklaw08.FareBacks", spec := "fareBacks", unfollowed := true, recurses := true, plainKeys := false, apart := false }
def FareBacksSaid : Prop := fareBacksRow.holds Try.pinned (OpenSpec.ofChange fareBacksSpec)

/-- ITS FALSE NEIGHBOUR: 'it returns false'. Refute it at one input. -/
def fareBacksWrong : ChangeSpec := { name := "fareBacks", fn := fun _ => fun
  | [d1, d2, d3, d4] => { results := [.lit (.bool false)], args := [d1, d2, d3, d4] }
  | _ => none }
def FareBacksWrongFalsely : Prop := fareBacksRow.holds Try.pinned (OpenSpec.ofChange fareBacksWrong)

/-- 'windsocklaw08.FareKept': WHATEVER THE INPUT: true; the input reads as it did. -/
def fareKeptSpec : ChangeSpec := { name := "fareKept", fn := fun _ => fun
  | [d1, d2, d3, d4, d5] => { results := [.lit (.bool true)], args := [d1, d2, d3, d4, d5] }
  | _ => none }
def fareKeptRow : OpenClaim := { program := "ytmnoepkamkomkaa", sum := "9fa9a77b6c24f0c3ac532a9cb752e02bb4ee648076b7b38c14c4fe3b768ea8d4", func := "windsock/windsocklaw08.FareKept", spec := "fareKept", unfollowed := true, recurses := true, plainKeys := false, apart := false }
def FareKeptSaid : Prop := fareKeptRow.holds Try.pinned (OpenSpec.ofChange fareKeptSpec)

/-- ITS FALSE NEIGHBOUR: 'it returns false'. Refute it at one input. -/
def fareKeptWrong : ChangeSpec := { name := "fareKept", fn := fun _ => fun
  | [d1, d2, d3, d4, d5] => { results := [.lit (.bool false)], args := [d1, d2, d3, d4, d5] }
  | _ => none }
def FareKeptWrongFalsely : Prop := fareKeptRow.holds Try.pinned (OpenSpec.ofChange fareKeptWrong)

/-- 'windsocklaw08.FareSettles': WHATEVER THE INPUT: true; the input reads as it did. -/
def fareSettlesSpec : ChangeSpec := { name := "fareSettles", fn := fun _ => fun
  | [d1, d2] => { results := [.lit (.bool true)], args := [d1, d2] }
  | _ => none }
def fareSettlesRow : OpenClaim := { program := "ytmnoepkamkomkaa", sum := "9fa9a77b6c24f0c3ac532a9cb752e02bb4ee648076b7b38c14c4fe3b768ea8d4", func := "windsock/windsocklaw08.FareSettles", spec := "fareSettles", unfollowed := true, recurses := true, plainKeys := false, apart := false }
def FareSettlesSaid : Prop := fareSettlesRow.holds Try.pinned (OpenSpec.ofChange fareSettlesSpec)

/-- ITS FALSE NEIGHBOUR: 'it returns false'. Refute it at one input. -/
def fareSettlesWrong : ChangeSpec := { name := "fareSettles", fn := fun _ => fun
  | [d1, d2] => { results := [.lit (.bool false)], args := [d1, d2] }
  | _ => none }
def FareSettlesWrongFalsely : Prop := fareSettlesRow.holds Try.pinned (OpenSpec.ofChange fareSettlesWrong)

/-- 'windsocklaw08.FareShares': WHATEVER THE INPUT: true; the input reads as it did. -/
def fareSharesSpec : ChangeSpec := { name := "fareShares", fn := fun _ => fun
  | [d1, d2] => { results := [.lit (.bool true)], args := [d1, d2] }
  | _ => none }
def fareSharesRow : OpenClaim := { program := "ytmnoepkamkomkaa", sum := "9fa9a77b6c24f0c3ac532a9cb752e02bb4ee648076b7b38c14c4fe3b768ea8d4", func := "windsock/windsocklaw08.FareShares", spec := "fareShares", unfollowed := true, recurses := true, plainKeys := false, apart := false }
def FareSharesSaid : Prop := fareSharesRow.holds Try.pinned (OpenSpec.ofChange fareSharesSpec)

/-- ITS FALSE NEIGHBOUR: 'it returns false'. Refute it at one input. -/
def fareSharesWrong : ChangeSpec := { name := "fareShares", fn := fun _ => fun
  | [d1, d2] => { results := [.lit (.bool false)], args := [d1, d2] }
  | _ => none }
def FareSharesWrongFalsely : Prop := fareSharesRow.holds Try.pinned (OpenSpec.ofChange fareSharesWrong)

/-- 'windsocklaw08.FareBills': WHATEVER THE INPUT: true; the input reads as it did. -/
def fareBillsSpec : ChangeSpec := { name := "fareBills", fn := fun _ => fun
  | [d1, d2] => { results := [.lit (.bool true)], args := [d1, d2] }
  | _ => none }
def fareBillsRow : OpenClaim := { program := "ytmnoepkamkomkaa", sum := "9fa9a77b6c24f0c3ac532a9cb752e02bb4ee648076b7b38c14c4fe3b768ea8d4", func := "windsock/windsocklaw08.FareBills", spec := "fareBills", unfollowed := true, recurses := true, plainKeys := false, apart := false }
def FareBillsSaid : Prop := fareBillsRow.holds Try.pinned (OpenSpec.ofChange fareBillsSpec)

/-- ITS FALSE NEIGHBOUR: 'it returns false'. Refute it at one input. -/
def fareBillsWrong : ChangeSpec := { name := "fareBills", fn := fun _ => fun
  | [d1, d2] => { results := [.lit (.bool false)], args := [d1, d2] }
  | _ => none }
def FareBillsWrongFalsely : Prop := fareBillsRow.holds Try.pinned (OpenSpec.ofChange fareBillsWrong)

/-- 'windsocklaw08.FareDue': WHATEVER THE INPUT: true; the input reads as it did. -/
def fareDueSpec : ChangeSpec := { name := "fareDue", fn := fun _ => fun
  | [d1, d2, d3] => { results := [.lit (.bool true)], args := [d1, d2, d3] }
  | _ => none }
def fareDueRow : OpenClaim := { program := "ytmnoepkamkomkaa", sum := "9fa9a77b6c24f0c3ac532a9cb752e02bb4ee648076b7b38c14c4fe3b768ea8d4", func := "windsock/windsocklaw08.FareDue", spec := "fareDue", unfollowed := true, recurses := true, plainKeys := false, apart := false }
def FareDueSaid : Prop := fareDueRow.holds Try.pinned (OpenSpec.ofChange fareDueSpec)

/-- ITS FALSE NEIGHBOUR: 'it returns false'. Refute it at one input. -/
def fareDueWrong : ChangeSpec := { name := "fareDue", fn := fun _ => fun
  | [d1, d2, d3] => { results := [.lit (.bool false)], args := [d1, d2, d3] }
  | _ => none }
def FareDueWrongFalsely : Prop := fareDueRow.holds Try.pinned (OpenSpec.ofChange fareDueWrong)

/-- 'windsocklaw08.FareWeighs': WHATEVER THE INPUT: true; the input reads as it did. -/
def fareWeighsSpec : ChangeSpec := { name := "fareWeighs", fn := fun _ => fun
  | [d1, d2, d3, d4, d5] => { results := [.lit (.bool true)], args := [d1, d2, d3, d4, d5] }
  | _ => none }
def fareWeighsRow : OpenClaim := { program := "ytmnoepkamkomkaa", sum := "9fa9a77b6c24f0c3ac532a9cb752e02bb4ee648076b7b38c14c4fe3b768ea8d4", func := "windsock/windsocklaw08.FareWeighs", spec := "fareWeighs", unfollowed := true, recurses := true, plainKeys := false, apart := false }
def FareWeighsSaid : Prop := fareWeighsRow.holds Try.pinned (OpenSpec.ofChange fareWeighsSpec)

/-- ITS FALSE NEIGHBOUR: 'it returns false'. Refute it at one input. -/
def fareWeighsWrong : ChangeSpec := { name := "fareWeighs", fn := fun _ => fun
  | [d1, d2, d3, d4, d5] => { results := [.lit (.bool false)], args := [d1, d2, d3, d4, d5] }
  | _ => none }
def FareWeighsWrongFalsely : Prop := fareWeighsRow.holds Try.pinned (OpenSpec.ofChange fareWeighsWrong)

/-- 'windsocklaw08.FarePosts': WHATEVER THE INPUT: true; the input reads as it did. -/
def farePostsSpec : ChangeSpec := { name := "farePosts", fn := fun _ => fun
  | [d1, d2, d3] => { results := [.lit (.bool true)], args := [d1, d2, d3] }
  | _ => none }
def farePostsRow : OpenClaim := { program := "ytmnoepkamkomkaa", sum := "9fa9a77b6c24f0c3ac532a9cb752e02bb4ee648076b7b38c14c4fe3b768ea8d4", func := "windsock/windsocklaw08.FarePosts", spec := "farePosts", unfollowed := true, recurses := true, plainKeys := false, apart := false }
def FarePostsSaid : Prop := farePostsRow.holds Try.pinned (OpenSpec.ofChange farePostsSpec)

/-- ITS FALSE NEIGHBOUR: 'it returns false'. Refute it at one input. -/
def farePostsWrong : ChangeSpec := { name := "farePosts", fn := fun _ => fun
  | [d1, d2, d3] => { results := [.lit (.bool false)], args := [d1, d2, d3] }
  | _ => none }
def FarePostsWrongFalsely : Prop := farePostsRow.holds Try.pinned (OpenSpec.ofChange farePostsWrong)

/-- 'windsocklaw08.FareCloses': WHATEVER THE INPUT: true; the input reads as it did. -/
def fareClosesSpec : ChangeSpec := { name := "fareCloses", fn := fun _ => fun
  | [d1, d2, d3] => { results := [.lit (.bool true)], args := [d1, d2, d3] }
  | _ => none }
def fareClosesRow : OpenClaim := { program := "ytmnoepkamkomkaa", sum := "9fa9a77b6c24f0c3ac532a9cb752e02bb4ee648076b7b38c14c4fe3b768ea8d4", func := "windsock/windsocklaw08.FareCloses", spec := "fareCloses", unfollowed := true, recurses := true, plainKeys := false, apart := false }
def FareClosesSaid : Prop := fareClosesRow.holds Try.pinned (OpenSpec.ofChange fareClosesSpec)

/-- ITS FALSE NEIGHBOUR: 'it returns false'. Refute it at one input. -/
def fareClosesWrong : ChangeSpec := { name := "fareCloses", fn := fun _ => fun
  | [d1, d2, d3] => { results := [.lit (.bool false)], args := [d1, d2, d3] }
  | _ => none }
def FareClosesWrongFalsely : Prop := fareClosesRow.holds Try.pinned (OpenSpec.ofChange fareClosesWrong)

/-- 'windsocklaw08.FarePrices': WHATEVER THE INPUT: true; the input reads as it did. -/
def farePricesSpec : ChangeSpec := { name := "farePrices", fn := fun _ => fun
  | [d1, d2, d3] => { results := [.lit (.bool true)], args := [d1, d2, d3] }
  | _ => none }
def farePricesRow : OpenClaim := { program := "ytmnoepkamkomkaa", sum := "9fa9a77b6c24f0c3ac532a9cb752e02bb4ee648076b7b38c14c4fe3b768ea8d4", func := "windsock/windsocklaw08.FarePrices", spec := "farePrices", unfollowed := true, recurses := true, plainKeys := false, apart := false }
def FarePricesSaid : Prop := farePricesRow.holds Try.pinned (OpenSpec.ofChange farePricesSpec)

/-- ITS FALSE NEIGHBOUR: 'it returns false'. Refute it at one input. -/
def farePricesWrong : ChangeSpec := { name := "farePrices", fn := fun _ => fun
  | [d1, d2, d3] => { results := [.lit (.bool false)], args := [d1, d2, d3] }
  | _ => none }
def FarePricesWrongFalsely : Prop := farePricesRow.holds Try.pinned (OpenSpec.ofChange farePricesWrong)

/-- 'windsocklaw08.FareCheapest': WHATEVER THE INPUT: true; the input reads as it did. -/
def fareCheapestSpec : ChangeSpec := { name := "fareCheapest", fn := fun _ => fun
  | [d1, d2, d3, d4] => { results := [.lit (.bool true)], args := [d1, d2, d3, d4] }
  | _ => none }
def fareCheapestRow : OpenClaim := { program := "ytmnoepkamkomkaa", sum := "9fa9a77b6c24f0c3ac532a9cb752e02bb4ee648076b7b38c14c4fe3b768ea8d4", func := "windsock/windsocklaw08.FareCheapest", spec := "fareCheapest", unfollowed := true, recurses := true, plainKeys := false, apart := false }
def FareCheapestSaid : Prop := fareCheapestRow.holds Try.pinned (OpenSpec.ofChange fareCheapestSpec)

/-- ITS FALSE NEIGHBOUR: 'it returns false'. Refute it at one input. -/
def fareCheapestWrong : ChangeSpec := { name := "fareCheapest", fn := fun _ => fun
  | [d1, d2, d3, d4] => { results := [.lit (.bool false)], args := [d1, d2, d3, d4] }
  | _ => none }
def FareCheapestWrongFalsely : Prop := fareCheapestRow.holds Try.pinned (OpenSpec.ofChange fareCheapestWrong)

/-- 'windsocklaw08.FareProved': WHATEVER THE INPUT: true; the input reads as it did. -/
def fareProvedSpec : ChangeSpec := { name := "fareProved", fn := fun _ => fun
  | [d1, d2, d3, d4, d5] => { results := [.lit (.bool true)], args := [d1, d2, d3, d4, d5] }
  | _ => none }
def fareProvedRow : OpenClaim := { program := "ytmnoepkamkomkaa", sum := "9fa9a77b6c24f0c3ac532a9cb752e02bb4ee648076b7b38c14c4fe3b768ea8d4", func := "windsock/windsocklaw08.FareProved", spec := "fareProved", unfollowed := true, recurses := true, plainKeys := false, apart := false }
def FareProvedSaid : Prop := fareProvedRow.holds Try.pinned (OpenSpec.ofChange fareProvedSpec)

/-- ITS FALSE NEIGHBOUR: 'it returns false'. Refute it at one input. -/
def fareProvedWrong : ChangeSpec := { name := "fareProved", fn := fun _ => fun
  | [d1, d2, d3, d4, d5] => { results := [.lit (.bool false)], args := [d1, d2, d3, d4, d5] }
  | _ => none }
def FareProvedWrongFalsely : Prop := fareProvedRow.holds Try.pinned (OpenSpec.ofChange fareProvedWrong)

/- THE SECOND FORM. 'bulk': how many values and letters a reading holds, each counted each time it is reached (what is shared counts as often as it is met; a slice's spare places count too). A statement '..UptoSaid' is the law's where the arguments, and the package variables that the reading takes, are together of bulk at most 1048576: NARROWER than '..Said'. Prove '..Said' where nothing that the law and all that it calls make is longer than what came in: it says more and counts as full. Else prove '..UptoSaid'. A law counts once. -/
mutual
def uptoBulk {H : Type} : DataW H → Nat
  | .lit (.string bytes) => bytes.length + 1
  | .lit _ => 1
  | .nil => 1
  | .ptr d => uptoBulk d + 1
  | .slice elems spare => uptoBulkAll elems + uptoBulkAll spare + 1
  | .agg parts => uptoBulkAll parts + 1
  | .iface _ d => uptoBulk d + 1
  | .map entries => uptoBulkEntries entries + 1
  | .held _ => 1
def uptoBulkAll {H : Type} : List (DataW H) → Nat
  | [] => 0
  | d :: r => uptoBulk d + uptoBulkAll r
def uptoBulkEntries {H : Type} : List (Lit × DataW H) → Nat
  | [] => 0
  | x :: r => uptoBulkEntry x + uptoBulkEntries r
def uptoBulkEntry {H : Type} : Lit × DataW H → Nat
  | (.string bytes, d) => bytes.length + uptoBulk d + 1
  | (_, d) => uptoBulk d + 1
 end
def uptoSmall : (H : Type) → List (DataW H) → Bool := fun _ ds => decide (uptoBulkAll ds ≤ 1048576)
def OpenSpec.upto (s : _root_.Go.ChangeSpec) : _root_.Go.OpenSpec := { _root_.Go.OpenSpec.ofChange s with cond := some uptoSmall }

/-- 'windsocklaw08.FareBest', WHERE WHAT IT READS IS OF BULK AT MOST 1048576: true; the input reads as it did. -/
def fareBestUptoRow : OpenClaim := { program := "ytmnoepkamkomkaa", sum := "9fa9a77b6c24f0c3ac532a9cb752e02bb4ee648076b7b38c14c4fe3b768ea8d4", func := "windsock/windsocklaw08.FareBest", spec := "fareBest", unfollowed := true, recurses := true, plainKeys := false, apart := false, narrowed := true }
def FareBestUptoSaid : Prop := fareBestUptoRow.holds Try.pinned (OpenSpec.upto fareBestSpec)

/-- 'windsocklaw08.FareMore', WHERE WHAT IT READS IS OF BULK AT MOST 1048576: true; the input reads as it did. -/
def fareMoreUptoRow : OpenClaim := { program := "ytmnoepkamkomkaa", sum := "9fa9a77b6c24f0c3ac532a9cb752e02bb4ee648076b7b38c14c4fe3b768ea8d4", func := "windsock/windsocklaw08.FareMore", spec := "fareMore", unfollowed := true, recurses := true, plainKeys := false, apart := false, narrowed := true }
def FareMoreUptoSaid : Prop := fareMoreUptoRow.holds Try.pinned (OpenSpec.upto fareMoreSpec)

/-- 'windsocklaw08.FareBacks', WHERE WHAT IT READS IS OF BULK AT MOST 1048576: true; the input reads as it did. -/
def fareBacksUptoRow : OpenClaim := { program := "ytmnoepkamkomkaa", sum := "9fa9a77b6c24f0c3ac532a9cb752e02bb4ee648076b7b38c14c4fe3b768ea8d4", func := "windsock/windsocklaw08.FareBacks", spec := "fareBacks", unfollowed := true, recurses := true, plainKeys := false, apart := false, narrowed := true }
def FareBacksUptoSaid : Prop := fareBacksUptoRow.holds Try.pinned (OpenSpec.upto fareBacksSpec)

/-- 'windsocklaw08.FareKept', WHERE WHAT IT READS IS OF BULK AT MOST 1048576: true; the input reads as it did. -/
def fareKeptUptoRow : OpenClaim := { program := "ytmnoepkamkomkaa", sum := "9fa9a77b6c24f0c3ac532a9cb752e02bb4ee648076b7b38c14c4fe3b768ea8d4", func := "windsock/windsocklaw08.FareKept", spec := "fareKept", unfollowed := true, recurses := true, plainKeys := false, apart := false, narrowed := true }
def FareKeptUptoSaid : Prop := fareKeptUptoRow.holds Try.pinned (OpenSpec.upto fareKeptSpec)

/-- 'windsocklaw08.FareSettles', WHERE WHAT IT READS IS OF BULK AT MOST 1048576: true; the input reads as it did. -/
def fareSettlesUptoRow : OpenClaim := { program := "ytmnoepkamkomkaa", sum := "9fa9a77b6c24f0c3ac532a9cb752e02bb4ee648076b7b38c14c4fe3b768ea8d4", func := "windsock/windsocklaw08.FareSettles", spec := "fareSettles", unfollowed := true, recurses := true, plainKeys := false, apart := false, narrowed := true }
def FareSettlesUptoSaid : Prop := fareSettlesUptoRow.holds Try.pinned (OpenSpec.upto fareSettlesSpec)

/-- 'windsocklaw08.FareShares', WHERE WHAT IT READS IS OF BULK AT MOST 1048576: true; the input reads as it did. -/
def fareSharesUptoRow : OpenClaim := { program := "ytmnoepkamkomkaa", sum := "9fa9a77b6c24f0c3ac532a9cb752e02bb4ee648076b7b38c14c4fe3b768ea8d4", func := "windsock/windsocklaw08.FareShares", spec := "fareShares", unfollowed := true, recurses := true, plainKeys := false, apart := false, narrowed := true }
def FareSharesUptoSaid : Prop := fareSharesUptoRow.holds Try.pinned (OpenSpec.upto fareSharesSpec)

/-- 'windsocklaw08.FareBills', WHERE WHAT IT READS IS OF BULK AT MOST 1048576: true; the input reads as it did. -/
def fareBillsUptoRow : OpenClaim := { program := "ytmnoepkamkomkaa", sum := "9fa9a77b6c24f0c3ac532a9cb752e02bb4ee648076b7b38c14c4fe3b768ea8d4", func := "windsock/windsocklaw08.FareBills", spec := "fareBills", unfollowed := true, recurses := true, plainKeys := false, apart := false, narrowed := true }
def FareBillsUptoSaid : Prop := fareBillsUptoRow.holds Try.pinned (OpenSpec.upto fareBillsSpec)

/-- 'windsocklaw08.FareDue', WHERE WHAT IT READS IS OF BULK AT MOST 1048576: true; the input reads as it did. -/
def fareDueUptoRow : OpenClaim := { program := "ytmnoepkamkomkaa", sum := "9fa9a77b6c24f0c3ac532a9cb752e02bb4ee648076b7b38c14c4fe3b768ea8d4", func := "windsock/windsocklaw08.FareDue", spec := "fareDue", unfollowed := true, recurses := true, plainKeys := false, apart := false, narrowed := true }
def FareDueUptoSaid : Prop := fareDueUptoRow.holds Try.pinned (OpenSpec.upto fareDueSpec)

/-- 'windsocklaw08.FareWeighs', WHERE WHAT IT READS IS OF BULK AT MOST 1048576: true; the input reads as it did. -/
def fareWeighsUptoRow : OpenClaim := { program := "ytmnoepkamkomkaa", sum := "9fa9a77b6c24f0c3ac532a9cb752e02bb4ee648076b7b38c14c4fe3b768ea8d4", func := "windsock/windsocklaw08.FareWeighs", spec := "fareWeighs", unfollowed := true, recurses := true, plainKeys := false, apart := false, narrowed := true }
def FareWeighsUptoSaid : Prop := fareWeighsUptoRow.holds Try.pinned (OpenSpec.upto fareWeighsSpec)

/-- 'windsocklaw08.FarePosts', WHERE WHAT IT READS IS OF BULK AT MOST 1048576: true; the input reads as it did. -/
def farePostsUptoRow : OpenClaim := { program := "ytmnoepkamkomkaa", sum := "9fa9a77b6c24f0c3ac532a9cb752e02bb4ee648076b7b38c14c4fe3b768ea8d4", func := "windsock/windsocklaw08.FarePosts", spec := "farePosts", unfollowed := true, recurses := true, plainKeys := false, apart := false, narrowed := true }
def FarePostsUptoSaid : Prop := farePostsUptoRow.holds Try.pinned (OpenSpec.upto farePostsSpec)

/-- 'windsocklaw08.FareCloses', WHERE WHAT IT READS IS OF BULK AT MOST 1048576: true; the input reads as it did. -/
def fareClosesUptoRow : OpenClaim := { program := "ytmnoepkamkomkaa", sum := "9fa9a77b6c24f0c3ac532a9cb752e02bb4ee648076b7b38c14c4fe3b768ea8d4", func := "windsock/windsocklaw08.FareCloses", spec := "fareCloses", unfollowed := true, recurses := true, plainKeys := false, apart := false, narrowed := true }
def FareClosesUptoSaid : Prop := fareClosesUptoRow.holds Try.pinned (OpenSpec.upto fareClosesSpec)

/-- 'windsocklaw08.FarePrices', WHERE WHAT IT READS IS OF BULK AT MOST 1048576: true; the input reads as it did. -/
def farePricesUptoRow : OpenClaim := { program := "ytmnoepkamkomkaa", sum := "9fa9a77b6c24f0c3ac532a9cb752e02bb4ee648076b7b38c14c4fe3b768ea8d4", func := "windsock/windsocklaw08.FarePrices", spec := "farePrices", unfollowed := true, recurses := true, plainKeys := false, apart := false, narrowed := true }
def FarePricesUptoSaid : Prop := farePricesUptoRow.holds Try.pinned (OpenSpec.upto farePricesSpec)

/-- 'windsocklaw08.FareCheapest', WHERE WHAT IT READS IS OF BULK AT MOST 1048576: true; the input reads as it did. -/
def fareCheapestUptoRow : OpenClaim := { program := "ytmnoepkamkomkaa", sum := "9fa9a77b6c24f0c3ac532a9cb752e02bb4ee648076b7b38c14c4fe3b768ea8d4", func := "windsock/windsocklaw08.FareCheapest", spec := "fareCheapest", unfollowed := true, recurses := true, plainKeys := false, apart := false, narrowed := true }
def FareCheapestUptoSaid : Prop := fareCheapestUptoRow.holds Try.pinned (OpenSpec.upto fareCheapestSpec)

/-- 'windsocklaw08.FareProved', WHERE WHAT IT READS IS OF BULK AT MOST 1048576: true; the input reads as it did. -/
def fareProvedUptoRow : OpenClaim := { program := "ytmnoepkamkomkaa", sum := "9fa9a77b6c24f0c3ac532a9cb752e02bb4ee648076b7b38c14c4fe3b768ea8d4", func := "windsock/windsocklaw08.FareProved", spec := "fareProved", unfollowed := true, recurses := true, plainKeys := false, apart := false, narrowed := true }
def FareProvedUptoSaid : Prop := fareProvedUptoRow.holds Try.pinned (OpenSpec.upto fareProvedSpec)

end Rows
end Go.Proofs.Ytmnoepkamkomkaa
