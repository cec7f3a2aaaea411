/-
  No cell of these rows narrows 'for every input' (looked for: loops, veiled, ifaces, maps, wideKeys, modest, calm, conditions, laid).
  DERIVED. THE GIVEN ROWS OF THIS SEAT. 4 by the template 'for every input the law returns true; each argument reads behind the call as it read before'; 0 by the template 'total and deterministic' (their statements: YtlkdglhbncnkhaaTotals.lean).
  GIVEN WITH THE SEED: the statements are not yours to turn. If you find one false, say at which input.
  Laid BY PROGRAM, IN A SANDBOX (cutbox-rows.mjs): the forced cells as the released guide's own fill.sh prints them over the translation bba27076fa25af6c… (all of the seat's roots in one cut). By AI agents, Wed Nov 11 2026. No macro, syntax, notation, axiom, sorry.
-/
import Derived.Test.YtlkdglhbncnkhaaChecked
import GoSem.Claim
import GoSem.ClaimJoined
import GoSem.ClaimMapViews
import Derived.JoinedTies
import Derived.KernelRfl
namespace Go.Proofs.Ytlkdglhbncnkhaa
/- THE CELL 'sum', in the pinned program and in every row, IS THE sha256 OF THE DUMP (.gsa) THAT YtlkdglhbncnkhaaProg.lean LOADS. Nothing in Lean hashes anything: it is a label: what it is worth is what the hold of that sum in a sandbox is worth. -/
noncomputable def Try.pinned : Pinned := { name := "ytlkdglhbncnkhaa", sum := "bba27076fa25af6c59e6abc31ce2f1e3f399d963fcd08385772af0fa62cd83d6", checked := Try.checked }
namespace Rows
def none {H : Type} : Left H := { results := [], args := [] }

/-- 'caissonlaw13.ResvFences': WHATEVER THE INPUT: true; the input reads as it did. -/
def resvFencesSpec : ChangeSpec := { name := "resvFences", fn := fun _ => fun
  | [d] => { results := [.lit (.bool true)], args := [d] }
  | _ => none }
def resvFencesRow : OpenClaim := { program := "ytlkdglhbncnkhaa", sum := "bba27076fa25af6c59e6abc31ce2f1e3f399d963fcd08385772af0fa62cd83d6", func := "caisson/caissonlaw13.ResvFences", spec := "resvFences", unfollowed := true, recurses := true, apart := false }
def ResvFencesSaid : Prop := resvFencesRow.holds Try.pinned (OpenSpec.ofChange resvFencesSpec)

/-- ITS FALSE NEIGHBOUR: 'it returns false'. Refute it at one input. -/
def resvFencesWrong : ChangeSpec := { name := "resvFences", fn := fun _ => fun
  | [d] => { results := [.lit (.bool false)], args := [d] }
  | _ => none }
def ResvFencesWrongFalsely : Prop := resvFencesRow.holds Try.pinned (OpenSpec.ofChange resvFencesWrong)

/-- 'caissonlaw13.ResvHolds': WHATEVER THE INPUT: true; the input reads as it did. -/
def resvHoldsSpec : ChangeSpec := { name := "resvHolds", fn := fun _ => fun
  | [d] => { results := [.lit (.bool true)], args := [d] }
  | _ => none }
def resvHoldsRow : OpenClaim := { program := "ytlkdglhbncnkhaa", sum := "bba27076fa25af6c59e6abc31ce2f1e3f399d963fcd08385772af0fa62cd83d6", func := "caisson/caissonlaw13.ResvHolds", spec := "resvHolds", unfollowed := true, recurses := true, apart := false }
def ResvHoldsSaid : Prop := resvHoldsRow.holds Try.pinned (OpenSpec.ofChange resvHoldsSpec)

/-- ITS FALSE NEIGHBOUR: 'it returns false'. Refute it at one input. -/
def resvHoldsWrong : ChangeSpec := { name := "resvHolds", fn := fun _ => fun
  | [d] => { results := [.lit (.bool false)], args := [d] }
  | _ => none }
def ResvHoldsWrongFalsely : Prop := resvHoldsRow.holds Try.pinned (OpenSpec.ofChange resvHoldsWrong)

/-- 'caissonlaw13.ResvRefused': WHATEVER THE INPUT: true; the input reads as it did. -/
def resvRefusedSpec : ChangeSpec := { name := "resvRefused", fn := fun _ => fun
  | [d] => { results := [.lit (.bool true)], args := [d] }
  | _ => none }
def resvRefusedRow : OpenClaim := { program := "ytlkdglhbncnkhaa", sum := "bba27076fa25af6c59e6abc31ce2f1e3f399d963fcd08385772af0fa62cd83d6", func := "caisson/caissonlaw13.ResvRefused", spec := "resvRefused", unfollowed := true, recurses := true, apart := false }
def ResvRefusedSaid : Prop := resvRefusedRow.holds Try.pinned (OpenSpec.ofChange resvRefusedSpec)

/-- ITS FALSE NEIGHBOUR: 'it returns false'. Refute it at one input. -/
def resvRefusedWrong : ChangeSpec := { name := "resvRefused", fn := fun _ => fun
  | [d] => { results := [.lit (.bool false)], args := [d] }
  | _ => none }
def ResvRefusedWrongFalsely : Prop := resvRefusedRow.holds Try.pinned (OpenSpec.ofChange resvRefusedWrong)

/-- 'caissonlaw13.ResvOrder': WHATEVER THE INPUT: true; the input reads as it did. -/
def resvOrderSpec : ChangeSpec := { name := "resvOrder", fn := fun _ => fun
  | [d1, d2, d3, d4, d5] => { results := [.lit (.bool true)], args := [d1, d2, d3, d4, d5] }
  | _ => none }
def resvOrderRow : OpenClaim := { program := "ytlkdglhbncnkhaa", sum := "bba27076fa25af6c59e6abc31ce2f1e3f399d963fcd08385772af0fa62cd83d6", func := "caisson/caissonlaw13.ResvOrder", spec := "resvOrder", unfollowed := true, recurses := true, apart := false }
def ResvOrderSaid : Prop := resvOrderRow.holds Try.pinned (OpenSpec.ofChange resvOrderSpec)

/-- ITS FALSE NEIGHBOUR: 'it returns false'. Refute it at one input. -/
def resvOrderWrong : ChangeSpec := { name := "resvOrder", fn := fun _ => fun
  | [d1, d2, d3, d4, d5] => { results := [.lit (.bool false)], args := [d1, d2, d3, d4, d5] }
  | _ => none }
def ResvOrderWrongFalsely : Prop := resvOrderRow.holds Try.pinned (OpenSpec.ofChange resvOrderWrong)

/- THE SECOND FORM. 'bulk': how many values and letters a reading holds, each counted each time it is reached (what is shared counts as often as it is met; a slice's spare places count too). A statement '..UptoSaid' is the law's where the arguments, and the package variables that the reading takes, are together of bulk at most 1048576: NARROWER than '..Said'. Prove '..Said' where nothing that the law and all that it calls make is longer than what came in: it says more and counts as full. Else prove '..UptoSaid'. A law counts once. -/
mutual
def uptoBulk {H : Type} : DataW H → Nat
  | .lit (.string bytes) => bytes.length + 1
  | .lit _ => 1
  | .nil => 1
  | .ptr d => uptoBulk d + 1
  | .slice elems spare => uptoBulkAll elems + uptoBulkAll spare + 1
  | .agg parts => uptoBulkAll parts + 1
  | .iface _ d => uptoBulk d + 1
  | .map entries => uptoBulkEntries entries + 1
  | .held _ => 1
def uptoBulkAll {H : Type} : List (DataW H) → Nat
  | [] => 0
  | d :: r => uptoBulk d + uptoBulkAll r
def uptoBulkEntries {H : Type} : List (Lit × DataW H) → Nat
  | [] => 0
  | x :: r => uptoBulkEntry x + uptoBulkEntries r
def uptoBulkEntry {H : Type} : Lit × DataW H → Nat
  | (.string bytes, d) => bytes.length + uptoBulk d + 1
  | (_, d) => uptoBulk d + 1
 end
def uptoSmall : (H : Type) → List (DataW H) → Bool := fun _ ds => decide (uptoBulkAll ds ≤ 1048576)
def OpenSpec.upto (s : _root_.Go.ChangeSpec) : _root_.Go.OpenSpec := { _root_.Go.OpenSpec.ofChange s with cond := some uptoSmall }

/-- 'caissonlaw13.ResvFences', WHERE WHAT IT READS IS OF BULK AT MOST 1048576: true; the input reads as it did. -/
def resvFencesUptoRow : OpenClaim := { program := "ytlkdglhbncnkhaa", sum := "bba27076fa25af6c59e6abc31ce2f1e3f399d963fcd08385772af0fa62cd83d6", func := "caisson/caissonlaw13.ResvFences", spec := "resvFences", unfollowed := true, recurses := true, apart := false, narrowed := true }
def ResvFencesUptoSaid : Prop := resvFencesUptoRow.holds Try.pinned (OpenSpec.upto resvFencesSpec)

/-- 'caissonlaw13.ResvHolds', WHERE WHAT IT READS IS OF BULK AT MOST 1048576: true; the input reads as it did. -/
def resvHoldsUptoRow : OpenClaim := { program := "ytlkdglhbncnkhaa", sum := "bba27076fa25af6c59e6abc31ce2f1e3f399d963fcd08385772af0fa62cd83d6", func := "caisson/caissonlaw13.ResvHolds", spec := "resvHolds", unfollowed := true, recurses := true, apart := false, narrowed := true }
def ResvHoldsUptoSaid : Prop := resvHoldsUptoRow.holds Try.pinned (OpenSpec.upto resvHoldsSpec)

/-- 'caissonlaw13.ResvRefused', WHERE WHAT IT READS IS OF BULK AT MOST 1048576: true; the input reads as it did. -/
def resvRefusedUptoRow : OpenClaim := { program := "ytlkdglhbncnkhaa", sum := "bba27076fa25af6c59e6abc31ce2f1e3f399d963fcd08385772af0fa62cd83d6", func := "caisson/caissonlaw13.ResvRefused", spec := "resvRefused", unfollowed := true, recurses := true, apart := false, narrowed := true }
def ResvRefusedUptoSaid : Prop := resvRefusedUptoRow.holds Try.pinned (OpenSpec.upto resvRefusedSpec)

/-- 'caissonlaw13.ResvOrder', WHERE WHAT IT READS IS OF BULK AT MOST 1048576: true; the input reads as it did. -/
def resvOrderUptoRow : OpenClaim := { program := "ytlkdglhbncnkhaa", sum := "bba27076fa25af6c59e6abc31ce2f1e3f399d963fcd08385772af0fa62cd83d6", func := "caisson/caissonlaw13.ResvOrder", spec := "resvOrder", unfollowed := true, recurses := true, apart := false, narrowed := true }
def ResvOrderUptoSaid : Prop := resvOrderUptoRow.holds Try.pinned (OpenSpec.upto resvOrderSpec)

end Rows
end Go.Proofs.Ytlkdglhbncnkhaa
