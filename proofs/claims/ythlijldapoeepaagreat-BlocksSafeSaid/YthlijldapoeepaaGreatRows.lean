/-
  No cell of these rows narrows 'for every input' (looked for: loops, veiled, ifaces, maps, wideKeys, modest, calm, conditions, laid).
  DERIVED. THE GIVEN ROWS OF THIS SEAT. 2 by the template 'for every input the law returns true; each argument reads behind the call as it read before'; 0 by the template 'total and deterministic' (their statements: YthlijldapoeepaaGreatTotals.lean).
  GIVEN WITH THE SEED: the statements are not yours to turn. If you find one false, say at which input.
  Laid BY PROGRAM, IN A SANDBOX (cutbox-rows.mjs): the forced cells as the released guide's own fill.sh prints them over the translation 3c122b1059254505… (all of the seat's roots in one cut). By AI agents, Wed Nov 11 2026. No macro, syntax, notation, axiom, sorry.
-/
import Derived.Test.YthlijldapoeepaaGreatChecked
import GoSem.Claim
import GoSem.ClaimJoined
import GoSem.ClaimMapViews
import Derived.JoinedTies
import Derived.KernelRfl
namespace Go.Proofs.YthlijldapoeepaaGreat
/- THE CELL 'sum', in the pinned program and in every row, IS THE sha256 OF THE DUMP (.gsa) THAT YthlijldapoeepaaGreatProg.lean LOADS. Nothing in Lean hashes anything: it is a label: what it is worth is what the hold of that sum in a sandbox is worth. -/
noncomputable def Tryz.pinned : Pinned := { name := "ythlijldapoeepaagreat", sum := "3c122b1059254505efe231360d3ef01a42f2e93b8e657fe7d2924895b00fce6f", checked := Tryz.checked }
namespace Rows
def none {H : Type} : Left H := { results := [], args := [] }

/-- 'caissonlaw06.BlocksPlays': WHATEVER THE INPUT: true; the input reads as it did. -/
def blocksPlaysSpec : ChangeSpec := { name := "blocksPlays", fn := fun _ => fun
  | [d1, d2] => { results := [.lit (.bool true)], args := [d1, d2] }
  | _ => none }
def blocksPlaysRow : OpenClaim := { program := "ythlijldapoeepaagreat", sum := "3c122b1059254505efe231360d3ef01a42f2e93b8e657fe7d2924895b00fce6f", func := "caisson/caissonlaw06.BlocksPlays", spec := "blocksPlays", inPlace := ["maps.clone"], unfollowed := true, recurses := true, apart := false }
def BlocksPlaysSaid : Prop := blocksPlaysRow.holds Tryz.pinned (OpenSpec.ofChange blocksPlaysSpec)

/-- ITS FALSE NEIGHBOUR: 'it returns false'. Refute it at one input. -/
def blocksPlaysWrong : ChangeSpec := { name := "blocksPlays", fn := fun _ => fun
  | [d1, d2] => { results := [.lit (.bool false)], args := [d1, d2] }
  | _ => none }
def BlocksPlaysWrongFalsely : Prop := blocksPlaysRow.holds Tryz.pinned (OpenSpec.ofChange blocksPlaysWrong)

/-- 'caissonlaw06.BlocksSafe': WHATEVER THE INPUT: true; the input reads as it did. -/
def blocksSafeSpec : ChangeSpec := { name := "blocksSafe", fn := fun _ => fun
  | [d1, d2] => { results := [.lit (.bool true)], args := [d1, d2] }
  | _ => none }
def blocksSafeRow : OpenClaim := { program := "ythlijldapoeepaagreat", sum := "3c122b1059254505efe231360d3ef01a42f2e93b8e657fe7d2924895b00fce6f", func := "caisson/caissonlaw06.BlocksSafe", spec := "blocksSafe", inPlace := ["maps.clone"], unfollowed := true, recurses := true, apart := false }
def BlocksSafeSaid : Prop := blocksSafeRow.holds Tryz.pinned (OpenSpec.ofChange blocksSafeSpec)

/-- ITS FALSE NEIGHBOUR: 'it returns false'. Refute it at one input. -/
def blocksSafeWrong : ChangeSpec := { name := "blocksSafe", fn := fun _ => fun
  | [d1, d2] => { results := [.lit (.bool false)], args := [d1, d2] }
  | _ => none }
def BlocksSafeWrongFalsely : Prop := blocksSafeRow.holds Tryz.pinned (OpenSpec.ofChange blocksSafeWrong)

/- THE SECOND FORM. 'bulk': how many values and letters a reading holds, each counted each time it is reached (what is shared counts as often as it is met; a slice's spare places count too). A statement '..UptoSaid' is the law's where the arguments, and the package variables that the reading takes, are together of bulk at most 1048576: NARROWER than '..Said'. Prove '..Said' where nothing that the law and all that it calls make is longer than what came in: it says more and counts as full. Else prove '..UptoSaid'. A law counts once. -/
mutual
def uptoBulk {H : Type} : DataW H → Nat
  | .lit (.string bytes) => bytes.length + 1
  | .lit _ => 1
  | .nil => 1
  | .ptr d => uptoBulk d + 1
  | .slice elems spare => uptoBulkAll elems + uptoBulkAll spare + 1
  | .agg parts => uptoBulkAll parts + 1
  | .iface _ d => uptoBulk d + 1
  | .map entries => uptoBulkEntries entries + 1
  | .held _ => 1
def uptoBulkAll {H : Type} : List (DataW H) → Nat
  | [] => 0
  | d :: r => uptoBulk d + uptoBulkAll r
def uptoBulkEntries {H : Type} : List (Lit × DataW H) → Nat
  | [] => 0
  | x :: r => uptoBulkEntry x + uptoBulkEntries r
def uptoBulkEntry {H : Type} : Lit × DataW H → Nat
  | (.string bytes, d) => bytes.length + uptoBulk d + 1
  | (_, d) => uptoBulk d + 1
 end
def uptoSmall : (H : Type) → List (DataW H) → Bool := fun _ ds => decide (uptoBulkAll ds ≤ 1048576)
def OpenSpec.upto (s : _root_.Go.ChangeSpec) : _root_.Go.OpenSpec := { _root_.Go.OpenSpec.ofChange s with cond := some uptoSmall }

/-- 'caissonlaw06.BlocksPlays', WHERE WHAT IT READS IS OF BULK AT MOST 1048576: true; the input reads as it did. -/
def blocksPlaysUptoRow : OpenClaim := { program := "ythlijldapoeepaagreat", sum := "3c122b1059254505efe231360d3ef01a42f2e93b8e657fe7d2924895b00fce6f", func := "caisson/caissonlaw06.BlocksPlays", spec := "blocksPlays", inPlace := ["maps.clone"], unfollowed := true, recurses := true, apart := false, narrowed := true }
def BlocksPlaysUptoSaid : Prop := blocksPlaysUptoRow.holds Tryz.pinned (OpenSpec.upto blocksPlaysSpec)

/-- 'caissonlaw06.BlocksSafe', WHERE WHAT IT READS IS OF BULK AT MOST 1048576: true; the input reads as it did. -/
def blocksSafeUptoRow : OpenClaim := { program := "ythlijldapoeepaagreat", sum := "3c122b1059254505efe231360d3ef01a42f2e93b8e657fe7d2924895b00fce6f", func := "caisson/caissonlaw06.BlocksSafe", spec := "blocksSafe", inPlace := ["maps.clone"], unfollowed := true, recurses := true, apart := false, narrowed := true }
def BlocksSafeUptoSaid : Prop := blocksSafeUptoRow.holds Tryz.pinned (OpenSpec.upto blocksSafeSpec)

end Rows
end Go.Proofs.YthlijldapoeepaaGreat
