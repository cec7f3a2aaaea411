/-
  No cell of these rows narrows 'for every input' (looked for: loops, veiled, ifaces, maps, wideKeys, modest, calm, conditions, laid).
  DERIVED. THE GIVEN ROWS OF THIS SEAT. 7 by the template 'for every input the law returns true; each argument reads behind the call as it read before'; 0 by the template 'total and deterministic' (their statements: YtdddbpnllhnfdaaTotals.lean).
  GIVEN WITH THE SEED: the statements are not yours to turn. If you find one false, say at which input.
  Laid BY PROGRAM, IN A SANDBOX (cutbox-rows.mjs): the forced cells as the released guide's own fill.sh prints them over the translation b47e52d04fc7afdb… (all of the seat's roots in one cut). By AI agents, Wed Nov 11 2026. No macro, syntax, notation, axiom, sorry.
-/
import Derived.Test.YtdddbpnllhnfdaaChecked
import GoSem.Claim
import GoSem.ClaimJoined
import GoSem.ClaimMapViews
import Derived.JoinedTies
import Derived.KernelRfl
namespace Go.Proofs.Ytdddbpnllhnfdaa
/- THE CELL 'sum', in the pinned program and in every row, IS THE sha256 OF THE DUMP (.gsa) THAT YtdddbpnllhnfdaaProg.lean LOADS. Nothing in Lean hashes anything: it is a label: what it is worth is what the hold of that sum in a sandbox is worth. -/
noncomputable def Try.pinned : Pinned := { name := "ytdddbpnllhnfdaa", sum := "b47e52d04fc7afdb488fe5d77c03c7531bfb1d889749c3ec042360dafa9170f5", checked := Try.checked }
namespace Rows
def none {H : Type} : Left H := { results := [], args := [] }

/-- 'caissonlaw05.ExtentWhole': WHATEVER THE INPUT: true; the input reads as it did. -/
def extentWholeSpec : ChangeSpec := { name := "extentWhole", fn := fun _ => fun
  | [d1, d2, d3] => { results := [.lit (.bool true)], args := [d1, d2, d3] }
  | _ => none }
def extentWholeRow : OpenClaim := { program := "ytdddbpnllhnfdaa", sum := "b47e52d04fc7afdb488fe5d77c03c7531bfb1d889749c3ec042360dafa9170f5", func := "caisson/caissonlaw05.ExtentWhole", spec := "extentWhole", unfollowed := true, recurses := true, apart := false }
def ExtentWholeSaid : Prop := extentWholeRow.holds Try.pinned (OpenSpec.ofChange extentWholeSpec)

/-- ITS FALSE NEIGHBOUR: 'it returns false'. Refute it at one input. -/
def extentWholeWrong : ChangeSpec := { name := "extentWhole", fn := fun _ => fun
  | [d1, d2, d3] => { results := [.lit (.bool false)], args := [d1, d2, d3] }
  | _ => none }
def ExtentWholeWrongFalsely : Prop := extentWholeRow.holds Try.pinned (OpenSpec.ofChange extentWholeWrong)

/-- 'caissonlaw05.ExtentCounts': WHATEVER THE INPUT: true; the input reads as it did. -/
def extentCountsSpec : ChangeSpec := { name := "extentCounts", fn := fun _ => fun
  | [d1, d2] => { results := [.lit (.bool true)], args := [d1, d2] }
  | _ => none }
def extentCountsRow : OpenClaim := { program := "ytdddbpnllhnfdaa", sum := "b47e52d04fc7afdb488fe5d77c03c7531bfb1d889749c3ec042360dafa9170f5", func := "caisson/caissonlaw05.ExtentCounts", spec := "extentCounts", unfollowed := true, recurses := true, apart := false }
def ExtentCountsSaid : Prop := extentCountsRow.holds Try.pinned (OpenSpec.ofChange extentCountsSpec)

/-- ITS FALSE NEIGHBOUR: 'it returns false'. Refute it at one input. -/
def extentCountsWrong : ChangeSpec := { name := "extentCounts", fn := fun _ => fun
  | [d1, d2] => { results := [.lit (.bool false)], args := [d1, d2] }
  | _ => none }
def ExtentCountsWrongFalsely : Prop := extentCountsRow.holds Try.pinned (OpenSpec.ofChange extentCountsWrong)

/-- 'caissonlaw05.ExtentApart': WHATEVER THE INPUT: true; the input reads as it did. -/
def extentApartSpec : ChangeSpec := { name := "extentApart", fn := fun _ => fun
  | [d1, d2, d3] => { results := [.lit (.bool true)], args := [d1, d2, d3] }
  | _ => none }
def extentApartRow : OpenClaim := { program := "ytdddbpnllhnfdaa", sum := "b47e52d04fc7afdb488fe5d77c03c7531bfb1d889749c3ec042360dafa9170f5", func := "caisson/caissonlaw05.ExtentApart", spec := "extentApart", unfollowed := true, recurses := true, apart := false }
def ExtentApartSaid : Prop := extentApartRow.holds Try.pinned (OpenSpec.ofChange extentApartSpec)

/-- ITS FALSE NEIGHBOUR: 'it returns false'. Refute it at one input. -/
def extentApartWrong : ChangeSpec := { name := "extentApart", fn := fun _ => fun
  | [d1, d2, d3] => { results := [.lit (.bool false)], args := [d1, d2, d3] }
  | _ => none }
def ExtentApartWrongFalsely : Prop := extentApartRow.holds Try.pinned (OpenSpec.ofChange extentApartWrong)

/-- 'caissonlaw05.ExtentDiffs': WHATEVER THE INPUT: true; the input reads as it did. -/
def extentDiffsSpec : ChangeSpec := { name := "extentDiffs", fn := fun _ => fun
  | [d1, d2, d3, d4] => { results := [.lit (.bool true)], args := [d1, d2, d3, d4] }
  | _ => none }
def extentDiffsRow : OpenClaim := { program := "ytdddbpnllhnfdaa", sum := "b47e52d04fc7afdb488fe5d77c03c7531bfb1d889749c3ec042360dafa9170f5", func := "caisson/caissonlaw05.ExtentDiffs", spec := "extentDiffs", unfollowed := true, recurses := true, apart := false }
def ExtentDiffsSaid : Prop := extentDiffsRow.holds Try.pinned (OpenSpec.ofChange extentDiffsSpec)

/-- ITS FALSE NEIGHBOUR: 'it returns false'. Refute it at one input. -/
def extentDiffsWrong : ChangeSpec := { name := "extentDiffs", fn := fun _ => fun
  | [d1, d2, d3, d4] => { results := [.lit (.bool false)], args := [d1, d2, d3, d4] }
  | _ => none }
def ExtentDiffsWrongFalsely : Prop := extentDiffsRow.holds Try.pinned (OpenSpec.ofChange extentDiffsWrong)

/-- 'caissonlaw05.ExtentLoads': WHATEVER THE INPUT: true; the input reads as it did. -/
def extentLoadsSpec : ChangeSpec := { name := "extentLoads", fn := fun _ => fun
  | [d] => { results := [.lit (.bool true)], args := [d] }
  | _ => none }
def extentLoadsRow : OpenClaim := { program := "ytdddbpnllhnfdaa", sum := "b47e52d04fc7afdb488fe5d77c03c7531bfb1d889749c3ec042360dafa9170f5", func := "caisson/caissonlaw05.ExtentLoads", spec := "extentLoads", unfollowed := true, recurses := true, apart := false }
def ExtentLoadsSaid : Prop := extentLoadsRow.holds Try.pinned (OpenSpec.ofChange extentLoadsSpec)

/-- ITS FALSE NEIGHBOUR: 'it returns false'. Refute it at one input. -/
def extentLoadsWrong : ChangeSpec := { name := "extentLoads", fn := fun _ => fun
  | [d] => { results := [.lit (.bool false)], args := [d] }
  | _ => none }
def ExtentLoadsWrongFalsely : Prop := extentLoadsRow.holds Try.pinned (OpenSpec.ofChange extentLoadsWrong)

/-- 'caissonlaw05.ExtentNil': WHATEVER THE INPUT: true; the input reads as it did. -/
def extentNilSpec : ChangeSpec := { name := "extentNil", fn := fun _ => fun
  | [d] => { results := [.lit (.bool true)], args := [d] }
  | _ => none }
def extentNilRow : OpenClaim := { program := "ytdddbpnllhnfdaa", sum := "b47e52d04fc7afdb488fe5d77c03c7531bfb1d889749c3ec042360dafa9170f5", func := "caisson/caissonlaw05.ExtentNil", spec := "extentNil", inPlace := ["maps.clone"], unfollowed := true, recurses := true, apart := false }
def ExtentNilSaid : Prop := extentNilRow.holds Try.pinned (OpenSpec.ofChange extentNilSpec)

/-- ITS FALSE NEIGHBOUR: 'it returns false'. Refute it at one input. -/
def extentNilWrong : ChangeSpec := { name := "extentNil", fn := fun _ => fun
  | [d] => { results := [.lit (.bool false)], args := [d] }
  | _ => none }
def ExtentNilWrongFalsely : Prop := extentNilRow.holds Try.pinned (OpenSpec.ofChange extentNilWrong)

/-- 'caissonlaw05.ExtentPlays': WHATEVER THE INPUT: true; the input reads as it did. -/
def extentPlaysSpec : ChangeSpec := { name := "extentPlays", fn := fun _ => fun
  | [d1, d2] => { results := [.lit (.bool true)], args := [d1, d2] }
  | _ => none }
def extentPlaysRow : OpenClaim := { program := "ytdddbpnllhnfdaa", sum := "b47e52d04fc7afdb488fe5d77c03c7531bfb1d889749c3ec042360dafa9170f5", func := "caisson/caissonlaw05.ExtentPlays", spec := "extentPlays", inPlace := ["maps.clone"], unfollowed := true, recurses := true, apart := false }
def ExtentPlaysSaid : Prop := extentPlaysRow.holds Try.pinned (OpenSpec.ofChange extentPlaysSpec)

/-- ITS FALSE NEIGHBOUR: 'it returns false'. Refute it at one input. -/
def extentPlaysWrong : ChangeSpec := { name := "extentPlays", fn := fun _ => fun
  | [d1, d2] => { results := [.lit (.bool false)], args := [d1, d2] }
  | _ => none }
def ExtentPlaysWrongFalsely : Prop := extentPlaysRow.holds Try.pinned (OpenSpec.ofChange extentPlaysWrong)

/- THE SECOND FORM. 'bulk': how many values and letters a reading holds, each counted each time it is reached (what is shared counts as often as it is met; a slice's spare places count too). A statement '..UptoSaid' is the law's where the arguments, and the package variables that the reading takes, are together of bulk at most 1048576: NARROWER than '..Said'. Prove '..Said' where nothing that the law and all that it calls make is longer than what came in: it says more and counts as full. Else prove '..UptoSaid'. A law counts once. -/
mutual
def uptoBulk {H : Type} : DataW H → Nat
  | .lit (.string bytes) => bytes.length + 1
  | .lit _ => 1
  | .nil => 1
  | .ptr d => uptoBulk d + 1
  | .slice elems spare => uptoBulkAll elems + uptoBulkAll spare + 1
  | .agg parts => uptoBulkAll parts + 1
  | .iface _ d => uptoBulk d + 1
  | .map entries => uptoBulkEntries entries + 1
  | .held _ => 1
def uptoBulkAll {H : Type} : List (DataW H) → Nat
  | [] => 0
  | d :: r => uptoBulk d + uptoBulkAll r
def uptoBulkEntries {H : Type} : List (Lit × DataW H) → Nat
  | [] => 0
  | x :: r => uptoBulkEntry x + uptoBulkEntries r
def uptoBulkEntry {H : Type} : Lit × DataW H → Nat
  | (.string bytes, d) => bytes.length + uptoBulk d + 1
  | (_, d) => uptoBulk d + 1
 end
def uptoSmall : (H : Type) → List (DataW H) → Bool := fun _ ds => decide (uptoBulkAll ds ≤ 1048576)
def OpenSpec.upto (s : _root_.Go.ChangeSpec) : _root_.Go.OpenSpec := { _root_.Go.OpenSpec.ofChange s with cond := some uptoSmall }

/-- 'caissonlaw05.ExtentWhole', WHERE WHAT IT READS IS OF BULK AT MOST 1048576: true; the input reads as it did. -/
def extentWholeUptoRow : OpenClaim := { program := "ytdddbpnllhnfdaa", sum := "b47e52d04fc7afdb488fe5d77c03c7531bfb1d889749c3ec042360dafa9170f5", func := "caisson/caissonlaw05.ExtentWhole", spec := "extentWhole", unfollowed := true, recurses := true, apart := false, narrowed := true }
def ExtentWholeUptoSaid : Prop := extentWholeUptoRow.holds Try.pinned (OpenSpec.upto extentWholeSpec)

/-- 'caissonlaw05.ExtentCounts', WHERE WHAT IT READS IS OF BULK AT MOST 1048576: true; the input reads as it did. -/
def extentCountsUptoRow : OpenClaim := { program := "ytdddbpnllhnfdaa", sum := "b47e52d04fc7afdb488fe5d77c03c7531bfb1d889749c3ec042360dafa9170f5", func := "caisson/caissonlaw05.ExtentCounts", spec := "extentCounts", unfollowed := true, recurses := true, apart := false, narrowed := true }
def ExtentCountsUptoSaid : Prop := extentCountsUptoRow.holds Try.pinned (OpenSpec.upto extentCountsSpec)

/-- 'caissonlaw05.ExtentApart', WHERE WHAT IT READS IS OF BULK AT MOST 1048576: true; the input reads as it did. -/
def extentApartUptoRow : OpenClaim := { program := "ytdddbpnllhnfdaa", sum := "b47e52d04fc7afdb488fe5d77c03c7531bfb1d889749c3ec042360dafa9170f5", func := "caisson/caissonlaw05.ExtentApart", spec := "extentApart", unfollowed := true, recurses := true, apart := false, narrowed := true }
def ExtentApartUptoSaid : Prop := extentApartUptoRow.holds Try.pinned (OpenSpec.upto extentApartSpec)

/-- 'caissonlaw05.ExtentDiffs', WHERE WHAT IT READS IS OF BULK AT MOST 1048576: true; the input reads as it did. -/
def extentDiffsUptoRow : OpenClaim := { program := "ytdddbpnllhnfdaa", sum := "b47e52d04fc7afdb488fe5d77c03c7531bfb1d889749c3ec042360dafa9170f5", func := "caisson/caissonlaw05.ExtentDiffs", spec := "extentDiffs", unfollowed := true, recurses := true, apart := false, narrowed := true }
def ExtentDiffsUptoSaid : Prop := extentDiffsUptoRow.holds Try.pinned (OpenSpec.upto extentDiffsSpec)

/-- 'caissonlaw05.ExtentLoads', WHERE WHAT IT READS IS OF BULK AT MOST 1048576: true; the input reads as it did. -/
def extentLoadsUptoRow : OpenClaim := { program := "ytdddbpnllhnfdaa", sum := "b47e52d04fc7afdb488fe5d77c03c7531bfb1d889749c3ec042360dafa9170f5", func := "caisson/caissonlaw05.ExtentLoads", spec := "extentLoads", unfollowed := true, recurses := true, apart := false, narrowed := true }
def ExtentLoadsUptoSaid : Prop := extentLoadsUptoRow.holds Try.pinned (OpenSpec.upto extentLoadsSpec)

/-- 'caissonlaw05.ExtentNil', WHERE WHAT IT READS IS OF BULK AT MOST 1048576: true; the input reads as it did. -/
def extentNilUptoRow : OpenClaim := { program := "ytdddbpnllhnfdaa", sum := "b47e52d04fc7afdb488fe5d77c03c7531bfb1d889749c3ec042360dafa9170f5", func := "caisson/caissonlaw05.ExtentNil", spec := "extentNil", inPlace := ["maps.clone"], unfollowed := true, recurses := true, apart := false, narrowed := true }
def ExtentNilUptoSaid : Prop := extentNilUptoRow.holds Try.pinned (OpenSpec.upto extentNilSpec)

/-- 'caissonlaw05.ExtentPlays', WHERE WHAT IT READS IS OF BULK AT MOST 1048576: true; the input reads as it did. -/
def extentPlaysUptoRow : OpenClaim := { program := "ytdddbpnllhnfdaa", sum := "b47e52d04fc7afdb488fe5d77c03c7531bfb1d889749c3ec042360dafa9170f5", func := "caisson/caissonlaw05.ExtentPlays", spec := "extentPlays", inPlace := ["maps.clone"], unfollowed := true, recurses := true, apart := false, narrowed := true }
def ExtentPlaysUptoSaid : Prop := extentPlaysUptoRow.holds Try.pinned (OpenSpec.upto extentPlaysSpec)

end Rows
end Go.Proofs.Ytdddbpnllhnfdaa
