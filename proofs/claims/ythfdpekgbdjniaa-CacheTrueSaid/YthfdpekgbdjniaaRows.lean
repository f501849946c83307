/-
  No cell of these rows narrows 'for every input' (looked for: loops, veiled, ifaces, maps, wideKeys, modest, calm, conditions, laid).
  DERIVED. THE GIVEN ROWS OF THIS SEAT. 11 by the template 'for every input the law returns true; each argument reads behind the call as it read before'; 0 by the template 'total and deterministic' (their statements: YthfdpekgbdjniaaTotals.lean).
  GIVEN WITH THE SEED: the statements are not yours to turn. If you find one false, say at which input.
  Laid BY PROGRAM, IN A SANDBOX (cutbox-rows.mjs): the forced cells as the released guide's own fill.sh prints them over the translation 41533b2d8e9213fc… (all of the seat's roots in one cut). By AI agents, Wed Nov 11 2026. No macro, syntax, notation, axiom, sorry.
-/
import Derived.Test.YthfdpekgbdjniaaChecked
import GoSem.Claim
import GoSem.ClaimJoined
import GoSem.ClaimMapViews
import Derived.JoinedTies
import Derived.KernelRfl
namespace Go.Proofs.Ythfdpekgbdjniaa
/- THE CELL 'sum', in the pinned program and in every row, IS THE sha256 OF THE DUMP (.gsa) THAT YthfdpekgbdjniaaProg.lean LOADS. Nothing in Lean hashes anything: it is a label: what it is worth is what the hold of that sum in a sandbox is worth. -/
noncomputable def Try.pinned : Pinned := { name := "ythfdpekgbdjniaa", sum := "41533b2d8e9213fc514370e71e1c4c1661811095bf0ffd0f87c2b32101f87f2c", checked := Try.checked }
namespace Rows
def none {H : Type} : Left H := { results := [], args := [] }

/-- 'windsocklaw09.CacheKeeps': WHATEVER THE INPUT: true; the input reads as it did. -/
def cacheKeepsSpec : ChangeSpec := { name := "cacheKeeps", fn := fun _ => fun
  | [d1, d2, d3, d4] => { results := [.lit (.bool true)], args := [d1, d2, d3, d4] }
  | _ => none }
def cacheKeepsRow : OpenClaim := { program := "ythfdpekgbdjniaa", sum := "41533b2d8e9213fc514370e71e1c4c1661811095bf0ffd0f87c2b32101f87f2c", func := "windsock/windsocklaw09.CacheKeeps", spec := "cacheKeeps", inPlace := ["slices.overlaps[windsock/api.Sound]"], unfollowed := true, recurses := true, apart := false }
def CacheKeepsSaid : Prop := cacheKeepsRow.holds Try.pinned (OpenSpec.ofChange cacheKeepsSpec)

/-- ITS FALSE NEIGHBOUR: 'it returns false'. Refute it at one input. -/
def cacheKeepsWrong : ChangeSpec := { name := "cacheKeeps", fn := fun _ => fun
  | [d1, d2, d3, d4] => { results := [.lit (.bool false)], args := [d1, d2, d3, d4] }
  | _ => none }
def CacheKeepsWrongFalsely : Prop := cacheKeepsRow.holds Try.pinned (OpenSpec.ofChange cacheKeepsWrong)

/-- 'windsocklaw09.CacheBooks': WHATEVER THE INPUT: true; the input reads as it did. -/
def cacheBooksSpec : ChangeSpec := { name := "cacheBooks", fn := fun _ => fun
  | [d1, d2, d3] => { results := [.lit (.bool true)], args := [d1, d2, d3] }
  | _ => none }
def cacheBooksRow : OpenClaim := { program := "ythfdpekgbdjniaa", sum := "41533b2d8e9213fc514370e71e1c4c1661811095bf0ffd0f87c2b32101f87f2c", func := "windsock/windsocklaw09.CacheBooks", spec := "cacheBooks", inPlace := ["slices.overlaps[windsock/api.Sound]"], unfollowed := true, recurses := true, apart := false }
def CacheBooksSaid : Prop := cacheBooksRow.holds Try.pinned (OpenSpec.ofChange cacheBooksSpec)

/-- ITS FALSE NEIGHBOUR: 'it returns false'. Refute it at one input. -/
def cacheBooksWrong : ChangeSpec := { name := "cacheBooks", fn := fun _ => fun
  | [d1, d2, d3] => { results := [.lit (.bool false)], args := [d1, d2, d3] }
  | _ => none }
def CacheBooksWrongFalsely : Prop := cacheBooksRow.holds Try.pinned (OpenSpec.ofChange cacheBooksWrong)

/-- 'windsocklaw09.CacheBest': WHATEVER THE INPUT: true; the input reads as it did. -/
def cacheBestSpec : ChangeSpec := { name := "cacheBest", fn := fun _ => fun
  | [d] => { results := [.lit (.bool true)], args := [d] }
  | _ => none }
def cacheBestRow : OpenClaim := { program := "ythfdpekgbdjniaa", sum := "41533b2d8e9213fc514370e71e1c4c1661811095bf0ffd0f87c2b32101f87f2c", func := "windsock/windsocklaw09.CacheBest", spec := "cacheBest", inPlace := ["slices.overlaps[windsock/api.Sound]"], unfollowed := true, recurses := true, apart := false }
def CacheBestSaid : Prop := cacheBestRow.holds Try.pinned (OpenSpec.ofChange cacheBestSpec)

/-- ITS FALSE NEIGHBOUR: 'it returns false'. Refute it at one input. -/
def cacheBestWrong : ChangeSpec := { name := "cacheBest", fn := fun _ => fun
  | [d] => { results := [.lit (.bool false)], args := [d] }
  | _ => none }
def CacheBestWrongFalsely : Prop := cacheBestRow.holds Try.pinned (OpenSpec.ofChange cacheBestWrong)

/-- 'windsocklaw09.CacheMore': WHATEVER THE INPUT: true; the input reads as it did. -/
def cacheMoreSpec : ChangeSpec := { name := "cacheMore", fn := fun _ => fun
  | [d1, d2, d3, d4, d5, d6] => { results := [.lit (.bool true)], args := [d1, d2, d3, d4, d5, d6] }
  | _ => none }
def cacheMoreRow : OpenClaim := { program := "ythfdpekgbdjniaa", sum := "41533b2d8e9213fc514370e71e1c4c1661811095bf0ffd0f87c2b32101f87f2c", func := "windsock/windsocklaw09.CacheMore", spec := "cacheMore", inPlace := ["slices.overlaps[windsock/api.Sound]"], unfollowed := true, recurses := true, apart := false }
def CacheMoreSaid : Prop := cacheMoreRow.holds Try.pinned (OpenSpec.ofChange cacheMoreSpec)

/-- ITS FALSE NEIGHBOUR: 'it returns false'. Refute it at one input. -/
def cacheMoreWrong : ChangeSpec := { name := "cacheMore", fn := fun _ => fun
  | [d1, d2, d3, d4, d5, d6] => { results := [.lit (.bool false)], args := [d1, d2, d3, d4, d5, d6] }
  | _ => none }
def CacheMoreWrongFalsely : Prop := cacheMoreRow.holds Try.pinned (OpenSpec.ofChange cacheMoreWrong)

/-- 'windsocklaw09.CacheVisits': WHATEVER THE INPUT: true; the input reads as it did. -/
def cacheVisitsSpec : ChangeSpec := { name := "cacheVisits", fn := fun _ => fun
  | [d1, d2, d3, d4] => { results := [.lit (.bool true)], args := [d1, d2, d3, d4] }
  | _ => none }
def cacheVisitsRow : OpenClaim := { program := "ythfdpekgbdjniaa", sum := "41533b2d8e9213fc514370e71e1c4c1661811095bf0ffd0f87c2b32101f87f2c", func := "windsock/windsocklaw09.CacheVisits", spec := "cacheVisits", inPlace := ["slices.overlaps[windsock/api.Sound]"], unfollowed := true, recurses := true, apart := false }
def CacheVisitsSaid : Prop := cacheVisitsRow.holds Try.pinned (OpenSpec.ofChange cacheVisitsSpec)

/-- ITS FALSE NEIGHBOUR: 'it returns false'. Refute it at one input. -/
def cacheVisitsWrong : ChangeSpec := { name := "cacheVisits", fn := fun _ => fun
  | [d1, d2, d3, d4] => { results := [.lit (.bool false)], args := [d1, d2, d3, d4] }
  | _ => none }
def CacheVisitsWrongFalsely : Prop := cacheVisitsRow.holds Try.pinned (OpenSpec.ofChange cacheVisitsWrong)

/-- 'windsocklaw09.CacheTrue': WHATEVER THE INPUT: true; the input reads as it did. -/
def cacheTrueSpec : ChangeSpec := { name := "cacheTrue", fn := fun _ => fun
  | [d1, d2, d3, d4] => { results := [.lit (.bool true)], args := [d1, d2, d3, d4] }
  | _ => none }
def cacheTrueRow : OpenClaim := { program := "ythfdpekgbdjniaa", sum := "41533b2d8e9213fc514370e71e1c4c1661811095bf0ffd0f87c2b32101f87f2c", func := "windsock/windsocklaw09.CacheTrue", spec := "cacheTrue", inPlace := ["slices.overlaps[windsock/api.Sound]"], unfollowed := true, recurses := true, apart := false }
def CacheTrueSaid : Prop := cacheTrueRow.holds Try.pinned (OpenSpec.ofChange cacheTrueSpec)

/-- ITS FALSE NEIGHBOUR: 'it returns false'. Refute it at one input. -/
def cacheTrueWrong : ChangeSpec := { name := "cacheTrue", fn := fun _ => fun
  | [d1, d2, d3, d4] => { results := [.lit (.bool false)], args := [d1, d2, d3, d4] }
  | _ => none }
def CacheTrueWrongFalsely : Prop := cacheTrueRow.holds Try.pinned (OpenSpec.ofChange cacheTrueWrong)

/-- 'windsocklaw09.CachePlays': WHATEVER THE INPUT: true; the input reads as it did. -/
def cachePlaysSpec : ChangeSpec := { name := "cachePlays", fn := fun _ => fun
  | [d1, d2, d3] => { results := [.lit (.bool true)], args := [d1, d2, d3] }
  | _ => none }
def cachePlaysRow : OpenClaim := { program := "ythfdpekgbdjniaa", sum := "41533b2d8e9213fc514370e71e1c4c1661811095bf0ffd0f87c2b32101f87f2c", func := "windsock/windsocklaw09.CachePlays", spec := "cachePlays", inPlace := ["slices.overlaps[windsock/api.Sound]"], unfollowed := true, recurses := true, apart := false }
def CachePlaysSaid : Prop := cachePlaysRow.holds Try.pinned (OpenSpec.ofChange cachePlaysSpec)

/-- ITS FALSE NEIGHBOUR: 'it returns false'. Refute it at one input. -/
def cachePlaysWrong : ChangeSpec := { name := "cachePlays", fn := fun _ => fun
  | [d1, d2, d3] => { results := [.lit (.bool false)], args := [d1, d2, d3] }
  | _ => none }
def CachePlaysWrongFalsely : Prop := cachePlaysRow.holds Try.pinned (OpenSpec.ofChange cachePlaysWrong)

/-- 'windsocklaw09.CacheNever': WHATEVER THE INPUT: true; the input reads as it did. -/
def cacheNeverSpec : ChangeSpec := { name := "cacheNever", fn := fun _ => fun
  | [d1, d2, d3] => { results := [.lit (.bool true)], args := [d1, d2, d3] }
  | _ => none }
def cacheNeverRow : OpenClaim := { program := "ythfdpekgbdjniaa", sum := "41533b2d8e9213fc514370e71e1c4c1661811095bf0ffd0f87c2b32101f87f2c", func := "windsock/windsocklaw09.CacheNever", spec := "cacheNever", inPlace := ["slices.overlaps[windsock/api.Sound]"], unfollowed := true, recurses := true, apart := false }
def CacheNeverSaid : Prop := cacheNeverRow.holds Try.pinned (OpenSpec.ofChange cacheNeverSpec)

/-- ITS FALSE NEIGHBOUR: 'it returns false'. Refute it at one input. -/
def cacheNeverWrong : ChangeSpec := { name := "cacheNever", fn := fun _ => fun
  | [d1, d2, d3] => { results := [.lit (.bool false)], args := [d1, d2, d3] }
  | _ => none }
def CacheNeverWrongFalsely : Prop := cacheNeverRow.holds Try.pinned (OpenSpec.ofChange cacheNeverWrong)

/-- 'windsocklaw09.CacheHolds': WHATEVER THE INPUT: true; the input reads as it did. -/
def cacheHoldsSpec : ChangeSpec := { name := "cacheHolds", fn := fun _ => fun
  | [d1, d2] => { results := [.lit (.bool true)], args := [d1, d2] }
  | _ => none }
def cacheHoldsRow : OpenClaim := { program := "ythfdpekgbdjniaa", sum := "41533b2d8e9213fc514370e71e1c4c1661811095bf0ffd0f87c2b32101f87f2c", func := "windsock/windsocklaw09.CacheHolds", spec := "cacheHolds", inPlace := ["slices.overlaps[windsock/api.Sound]"], unfollowed := true, recurses := true, apart := false }
def CacheHoldsSaid : Prop := cacheHoldsRow.holds Try.pinned (OpenSpec.ofChange cacheHoldsSpec)

/-- ITS FALSE NEIGHBOUR: 'it returns false'. Refute it at one input. -/
def cacheHoldsWrong : ChangeSpec := { name := "cacheHolds", fn := fun _ => fun
  | [d1, d2] => { results := [.lit (.bool false)], args := [d1, d2] }
  | _ => none }
def CacheHoldsWrongFalsely : Prop := cacheHoldsRow.holds Try.pinned (OpenSpec.ofChange cacheHoldsWrong)

/-- 'windsocklaw09.CacheCheapest': WHATEVER THE INPUT: true; the input reads as it did. -/
def cacheCheapestSpec : ChangeSpec := { name := "cacheCheapest", fn := fun _ => fun
  | [d1, d2] => { results := [.lit (.bool true)], args := [d1, d2] }
  | _ => none }
def cacheCheapestRow : OpenClaim := { program := "ythfdpekgbdjniaa", sum := "41533b2d8e9213fc514370e71e1c4c1661811095bf0ffd0f87c2b32101f87f2c", func := "windsock/windsocklaw09.CacheCheapest", spec := "cacheCheapest", inPlace := ["slices.overlaps[windsock/api.Sound]"], unfollowed := true, recurses := true, apart := false }
def CacheCheapestSaid : Prop := cacheCheapestRow.holds Try.pinned (OpenSpec.ofChange cacheCheapestSpec)

/-- ITS FALSE NEIGHBOUR: 'it returns false'. Refute it at one input. -/
def cacheCheapestWrong : ChangeSpec := { name := "cacheCheapest", fn := fun _ => fun
  | [d1, d2] => { results := [.lit (.bool false)], args := [d1, d2] }
  | _ => none }
def CacheCheapestWrongFalsely : Prop := cacheCheapestRow.holds Try.pinned (OpenSpec.ofChange cacheCheapestWrong)

/-- 'windsocklaw09.CacheDraws': WHATEVER THE INPUT: true; the input reads as it did. -/
def cacheDrawsSpec : ChangeSpec := { name := "cacheDraws", fn := fun _ => fun
  | [d1, d2, d3] => { results := [.lit (.bool true)], args := [d1, d2, d3] }
  | _ => none }
def cacheDrawsRow : OpenClaim := { program := "ythfdpekgbdjniaa", sum := "41533b2d8e9213fc514370e71e1c4c1661811095bf0ffd0f87c2b32101f87f2c", func := "windsock/windsocklaw09.CacheDraws", spec := "cacheDraws", inPlace := ["slices.overlaps[windsock/api.Sound]"], unfollowed := true, recurses := true, apart := false }
def CacheDrawsSaid : Prop := cacheDrawsRow.holds Try.pinned (OpenSpec.ofChange cacheDrawsSpec)

/-- ITS FALSE NEIGHBOUR: 'it returns false'. Refute it at one input. -/
def cacheDrawsWrong : ChangeSpec := { name := "cacheDraws", fn := fun _ => fun
  | [d1, d2, d3] => { results := [.lit (.bool false)], args := [d1, d2, d3] }
  | _ => none }
def CacheDrawsWrongFalsely : Prop := cacheDrawsRow.holds Try.pinned (OpenSpec.ofChange cacheDrawsWrong)

/- THE SECOND FORM. 'bulk': how many values and letters a reading holds, each counted each time it is reached (what is shared counts as often as it is met; a slice's spare places count too). A statement '..UptoSaid' is the law's where the arguments, and the package variables that the reading takes, are together of bulk at most 1048576: NARROWER than '..Said'. Prove '..Said' where nothing that the law and all that it calls make is longer than what came in: it says more and counts as full. Else prove '..UptoSaid'. A law counts once. -/
mutual
def uptoBulk {H : Type} : DataW H → Nat
  | .lit (.string bytes) => bytes.length + 1
  | .lit _ => 1
  | .nil => 1
  | .ptr d => uptoBulk d + 1
  | .slice elems spare => uptoBulkAll elems + uptoBulkAll spare + 1
  | .agg parts => uptoBulkAll parts + 1
  | .iface _ d => uptoBulk d + 1
  | .map entries => uptoBulkEntries entries + 1
  | .held _ => 1
def uptoBulkAll {H : Type} : List (DataW H) → Nat
  | [] => 0
  | d :: r => uptoBulk d + uptoBulkAll r
def uptoBulkEntries {H : Type} : List (Lit × DataW H) → Nat
  | [] => 0
  | x :: r => uptoBulkEntry x + uptoBulkEntries r
def uptoBulkEntry {H : Type} : Lit × DataW H → Nat
  | (.string bytes, d) => bytes.length + uptoBulk d + 1
  | (_, d) => uptoBulk d + 1
 end
def uptoSmall : (H : Type) → List (DataW H) → Bool := fun _ ds => decide (uptoBulkAll ds ≤ 1048576)
def OpenSpec.upto (s : _root_.Go.ChangeSpec) : _root_.Go.OpenSpec := { _root_.Go.OpenSpec.ofChange s with cond := some uptoSmall }

/-- 'windsocklaw09.CacheKeeps', WHERE WHAT IT READS IS OF BULK AT MOST 1048576: true; the input reads as it did. -/
def cacheKeepsUptoRow : OpenClaim := { program := "ythfdpekgbdjniaa", sum := "41533b2d8e9213fc514370e71e1c4c1661811095bf0ffd0f87c2b32101f87f2c", func := "windsock/windsocklaw09.CacheKeeps", spec := "cacheKeeps", inPlace := ["slices.overlaps[windsock/api.Sound]"], unfollowed := true, recurses := true, apart := false, narrowed := true }
def CacheKeepsUptoSaid : Prop := cacheKeepsUptoRow.holds Try.pinned (OpenSpec.upto cacheKeepsSpec)

/-- 'windsocklaw09.CacheBooks', WHERE WHAT IT READS IS OF BULK AT MOST 1048576: true; the input reads as it did. -/
def cacheBooksUptoRow : OpenClaim := { program := "ythfdpekgbdjniaa", sum := "41533b2d8e9213fc514370e71e1c4c1661811095bf0ffd0f87c2b32101f87f2c", func := "windsock/windsocklaw09.CacheBooks", spec := "cacheBooks", inPlace := ["slices.overlaps[windsock/api.Sound]"], unfollowed := true, recurses := true, apart := false, narrowed := true }
def CacheBooksUptoSaid : Prop := cacheBooksUptoRow.holds Try.pinned (OpenSpec.upto cacheBooksSpec)

/-- 'windsocklaw09.CacheBest', WHERE WHAT IT READS IS OF BULK AT MOST 1048576: true; the input reads as it did. -/
def cacheBestUptoRow : OpenClaim := { program := "ythfdpekgbdjniaa", sum := "41533b2d8e9213fc514370e71e1c4c1661811095bf0ffd0f87c2b32101f87f2c", func := "windsock/windsocklaw09.CacheBest", spec := "cacheBest", inPlace := ["slices.overlaps[windsock/api.Sound]"], unfollowed := true, recurses := true, apart := false, narrowed := true }
def CacheBestUptoSaid : Prop := cacheBestUptoRow.holds Try.pinned (OpenSpec.upto cacheBestSpec)

/-- 'windsocklaw09.CacheMore', WHERE WHAT IT READS IS OF BULK AT MOST 1048576: true; the input reads as it did. -/
def cacheMoreUptoRow : OpenClaim := { program := "ythfdpekgbdjniaa", sum := "41533b2d8e9213fc514370e71e1c4c1661811095bf0ffd0f87c2b32101f87f2c", func := "windsock/windsocklaw09.CacheMore", spec := "cacheMore", inPlace := ["slices.overlaps[windsock/api.Sound]"], unfollowed := true, recurses := true, apart := false, narrowed := true }
def CacheMoreUptoSaid : Prop := cacheMoreUptoRow.holds Try.pinned (OpenSpec.upto cacheMoreSpec)

/-- 'windsocklaw09.CacheVisits', WHERE WHAT IT READS IS OF BULK AT MOST 1048576: true; the input reads as it did. -/
def cacheVisitsUptoRow : OpenClaim := { program := "ythfdpekgbdjniaa", sum := "41533b2d8e9213fc514370e71e1c4c1661811095bf0ffd0f87c2b32101f87f2c", func := "windsock/windsocklaw09.CacheVisits", spec := "cacheVisits", inPlace := ["slices.overlaps[windsock/api.Sound]"], unfollowed := true, recurses := true, apart := false, narrowed := true }
def CacheVisitsUptoSaid : Prop := cacheVisitsUptoRow.holds Try.pinned (OpenSpec.upto cacheVisitsSpec)

/-- 'windsocklaw09.CacheTrue', WHERE WHAT IT READS IS OF BULK AT MOST 1048576: true; the input reads as it did. -/
def cacheTrueUptoRow : OpenClaim := { program := "ythfdpekgbdjniaa", sum := "41533b2d8e9213fc514370e71e1c4c1661811095bf0ffd0f87c2b32101f87f2c", func := "windsock/windsocklaw09.CacheTrue", spec := "cacheTrue", inPlace := ["slices.overlaps[windsock/api.Sound]"], unfollowed := true, recurses := true, apart := false, narrowed := true }
def CacheTrueUptoSaid : Prop := cacheTrueUptoRow.holds Try.pinned (OpenSpec.upto cacheTrueSpec)

/-- 'windsocklaw09.CachePlays', WHERE WHAT IT READS IS OF BULK AT MOST 1048576: true; the input reads as it did. -/
def cachePlaysUptoRow : OpenClaim := { program := "ythfdpekgbdjniaa", sum := "41533b2d8e9213fc514370e71e1c4c1661811095bf0ffd0f87c2b32101f87f2c", func := "windsock/windsocklaw09.CachePlays", spec := "cachePlays", inPlace := ["slices.overlaps[windsock/api.Sound]"], unfollowed := true, recurses := true, apart := false, narrowed := true }
def CachePlaysUptoSaid : Prop := cachePlaysUptoRow.holds Try.pinned (OpenSpec.upto cachePlaysSpec)

/-- 'windsocklaw09.CacheNever', WHERE WHAT IT READS IS OF BULK AT MOST 1048576: true; the input reads as it did. -/
def cacheNeverUptoRow : OpenClaim := { program := "ythfdpekgbdjniaa", sum := "41533b2d8e9213fc514370e71e1c4c1661811095bf0ffd0f87c2b32101f87f2c", func := "windsock/windsocklaw09.CacheNever", spec := "cacheNever", inPlace := ["slices.overlaps[windsock/api.Sound]"], unfollowed := true, recurses := true, apart := false, narrowed := true }
def CacheNeverUptoSaid : Prop := cacheNeverUptoRow.holds Try.pinned (OpenSpec.upto cacheNeverSpec)

/-- 'windsocklaw09.CacheHolds', WHERE WHAT IT READS IS OF BULK AT MOST 1048576: true; the input reads as it did. -/
def cacheHoldsUptoRow : OpenClaim := { program := "ythfdpekgbdjniaa", sum := "41533b2d8e9213fc514370e71e1c4c1661811095bf0ffd0f87c2b32101f87f2c", func := "windsock/windsocklaw09.CacheHolds", spec := "cacheHolds", inPlace := ["slices.overlaps[windsock/api.Sound]"], unfollowed := true, recurses := true, apart := false, narrowed := true }
def CacheHoldsUptoSaid : Prop := cacheHoldsUptoRow.holds Try.pinned (OpenSpec.upto cacheHoldsSpec)

/-- 'windsocklaw09.CacheCheapest', WHERE WHAT IT READS IS OF BULK AT MOST 1048576: true; the input reads as it did. -/
def cacheCheapestUptoRow : OpenClaim := { program := "ythfdpekgbdjniaa", sum := "41533b2d8e9213fc514370e71e1c4c1661811095bf0ffd0f87c2b32101f87f2c", func := "windsock/windsocklaw09.CacheCheapest", spec := "cacheCheapest", inPlace := ["slices.overlaps[windsock/api.Sound]"], unfollowed := true, recurses := true, apart := false, narrowed := true }
def CacheCheapestUptoSaid : Prop := cacheCheapestUptoRow.holds Try.pinned (OpenSpec.upto cacheCheapestSpec)

/-- 'windsocklaw09.CacheDraws', WHERE WHAT IT READS IS OF BULK AT MOST 1048576: true; the input reads as it did. -/
def cacheDrawsUptoRow : OpenClaim := { program := "ythfdpekgbdjniaa", sum := "41533b2d8e9213fc514370e71e1c4c1661811095bf0ffd0f87c2b32101f87f2c", func := "windsock/windsocklaw09.CacheDraws", spec := "cacheDraws", inPlace := ["slices.overlaps[windsock/api.Sound]"], unfollowed := true, recurses := true, apart := false, narrowed := true }
def CacheDrawsUptoSaid : Prop := cacheDrawsUptoRow.holds Try.pinned (OpenSpec.upto cacheDrawsSpec)

end Rows
end Go.Proofs.Ythfdpekgbdjniaa
