/-
  No cell of these rows narrows 'for every input' (looked for: loops, veiled, ifaces, maps, wideKeys, modest, calm, conditions, laid).
  DERIVED. THE GIVEN ROWS OF THIS SEAT. 5 by the template 'for every input the law returns true; each argument reads behind the call as it read before'; 0 by the template 'total and deterministic' (their statements: YtifhlkfdmnkhoaaTotals.lean).
  GIVEN WITH THE SEED: the statements are not yours to turn. If you find one false, say at which input.
  Laid BY PROGRAM, IN A SANDBOX (cutbox-rows.mjs): the forced cells as the released guide's own fill.sh prints them over the translation 5f36e37afeb0a837… (all of the seat's roots in one cut). By AI agents, Wed Nov 11 2026. No macro, syntax, notation, axiom, sorry.
-/
import Derived.Test.YtifhlkfdmnkhoaaChecked
import GoSem.Claim
import GoSem.ClaimJoined
import GoSem.ClaimMapViews
import Derived.JoinedTies
import Derived.KernelRfl
namespace Go.Proofs.Ytifhlkfdmnkhoaa
/- THE CELL 'sum', in the pinned program and in every row, IS THE sha256 OF THE DUMP (.gsa) THAT YtifhlkfdmnkhoaaProg.lean LOADS. Nothing in Lean hashes anything: it is a label: what it is worth is what the hold of that sum in a sandbox is worth. -/
noncomputable def Try.pinned : Pinned := { name := "ytifhlkfdmnkhoaa", sum := "5f36e37afeb0a837648ed144240d81b0aadb546faaafb22b08e6e14a00771611", checked := Try.checked }
namespace Rows
def none {H : Type} : Left H := { results := [], args := [] }

/-- 'caissonlaw16.SenseCut': WHATEVER THE INPUT: true; the input reads as it did. -/
def senseCutSpec : ChangeSpec := { name := "senseCut", fn := fun _ => fun
  | [d1, d2] => { results := [.lit (.bool true)], args := [d1, d2] }
  | _ => none }
def senseCutRow : OpenClaim := { program := "ytifhlkfdmnkhoaa", sum := "5f36e37afeb0a837648ed144240d81b0aadb546faaafb22b08e6e14a00771611", func := "caisson/caissonlaw16.SenseCut", spec := "senseCut", apart := false }
def SenseCutSaid : Prop := senseCutRow.holds Try.pinned (OpenSpec.ofChange senseCutSpec)

/-- ITS FALSE NEIGHBOUR: 'it returns false'. Refute it at one input. -/
def senseCutWrong : ChangeSpec := { name := "senseCut", fn := fun _ => fun
  | [d1, d2] => { results := [.lit (.bool false)], args := [d1, d2] }
  | _ => none }
def SenseCutWrongFalsely : Prop := senseCutRow.holds Try.pinned (OpenSpec.ofChange senseCutWrong)

/-- 'caissonlaw16.SenseUnits': WHATEVER THE INPUT: true; the input reads as it did. -/
def senseUnitsSpec : ChangeSpec := { name := "senseUnits", fn := fun _ => fun
  | [d1, d2] => { results := [.lit (.bool true)], args := [d1, d2] }
  | _ => none }
def senseUnitsRow : OpenClaim := { program := "ytifhlkfdmnkhoaa", sum := "5f36e37afeb0a837648ed144240d81b0aadb546faaafb22b08e6e14a00771611", func := "caisson/caissonlaw16.SenseUnits", spec := "senseUnits", apart := false }
def SenseUnitsSaid : Prop := senseUnitsRow.holds Try.pinned (OpenSpec.ofChange senseUnitsSpec)

/-- ITS FALSE NEIGHBOUR: 'it returns false'. Refute it at one input. -/
def senseUnitsWrong : ChangeSpec := { name := "senseUnits", fn := fun _ => fun
  | [d1, d2] => { results := [.lit (.bool false)], args := [d1, d2] }
  | _ => none }
def SenseUnitsWrongFalsely : Prop := senseUnitsRow.holds Try.pinned (OpenSpec.ofChange senseUnitsWrong)

/-- 'caissonlaw16.SenseData': WHATEVER THE INPUT: true; the input reads as it did. -/
def senseDataSpec : ChangeSpec := { name := "senseData", fn := fun _ => fun
  | [d1, d2] => { results := [.lit (.bool true)], args := [d1, d2] }
  | _ => none }
def senseDataRow : OpenClaim := { program := "ytifhlkfdmnkhoaa", sum := "5f36e37afeb0a837648ed144240d81b0aadb546faaafb22b08e6e14a00771611", func := "caisson/caissonlaw16.SenseData", spec := "senseData", apart := false }
def SenseDataSaid : Prop := senseDataRow.holds Try.pinned (OpenSpec.ofChange senseDataSpec)

/-- ITS FALSE NEIGHBOUR: 'it returns false'. Refute it at one input. -/
def senseDataWrong : ChangeSpec := { name := "senseData", fn := fun _ => fun
  | [d1, d2] => { results := [.lit (.bool false)], args := [d1, d2] }
  | _ => none }
def SenseDataWrongFalsely : Prop := senseDataRow.holds Try.pinned (OpenSpec.ofChange senseDataWrong)

/-- 'caissonlaw16.SenseKeys': WHATEVER THE INPUT: true; the input reads as it did. -/
def senseKeysSpec : ChangeSpec := { name := "senseKeys", fn := fun _ => fun
  | [d1, d2, d3, d4] => { results := [.lit (.bool true)], args := [d1, d2, d3, d4] }
  | _ => none }
def senseKeysRow : OpenClaim := { program := "ytifhlkfdmnkhoaa", sum := "5f36e37afeb0a837648ed144240d81b0aadb546faaafb22b08e6e14a00771611", func := "caisson/caissonlaw16.SenseKeys", spec := "senseKeys", apart := false }
def SenseKeysSaid : Prop := senseKeysRow.holds Try.pinned (OpenSpec.ofChange senseKeysSpec)

/-- ITS FALSE NEIGHBOUR: 'it returns false'. Refute it at one input. -/
def senseKeysWrong : ChangeSpec := { name := "senseKeys", fn := fun _ => fun
  | [d1, d2, d3, d4] => { results := [.lit (.bool false)], args := [d1, d2, d3, d4] }
  | _ => none }
def SenseKeysWrongFalsely : Prop := senseKeysRow.holds Try.pinned (OpenSpec.ofChange senseKeysWrong)

/-- 'caissonlaw16.SensePorts': WHATEVER THE INPUT: true; the input reads as it did. -/
def sensePortsSpec : ChangeSpec := { name := "sensePorts", fn := fun _ => fun
  | [d1, d2] => { results := [.lit (.bool true)], args := [d1, d2] }
  | _ => none }
def sensePortsRow : OpenClaim := { program := "ytifhlkfdmnkhoaa", sum := "5f36e37afeb0a837648ed144240d81b0aadb546faaafb22b08e6e14a00771611", func := "caisson/caissonlaw16.SensePorts", spec := "sensePorts", unfollowed := true, recurses := true, apart := false }
def SensePortsSaid : Prop := sensePortsRow.holds Try.pinned (OpenSpec.ofChange sensePortsSpec)

/-- ITS FALSE NEIGHBOUR: 'it returns false'. Refute it at one input. -/
def sensePortsWrong : ChangeSpec := { name := "sensePorts", fn := fun _ => fun
  | [d1, d2] => { results := [.lit (.bool false)], args := [d1, d2] }
  | _ => none }
def SensePortsWrongFalsely : Prop := sensePortsRow.holds Try.pinned (OpenSpec.ofChange sensePortsWrong)

/- THE SECOND FORM. 'bulk': how many values and letters a reading holds, each counted each time it is reached (what is shared counts as often as it is met; a slice's spare places count too). A statement '..UptoSaid' is the law's where the arguments, and the package variables that the reading takes, are together of bulk at most 1048576: NARROWER than '..Said'. Prove '..Said' where nothing that the law and all that it calls make is longer than what came in: it says more and counts as full. Else prove '..UptoSaid'. A law counts once. -/
mutual
def uptoBulk {H : Type} : DataW H → Nat
  | .lit (.string bytes) => bytes.length + 1
  | .lit _ => 1
  | .nil => 1
  | .ptr d => uptoBulk d + 1
  | .slice elems spare => uptoBulkAll elems + uptoBulkAll spare + 1
  | .agg parts => uptoBulkAll parts + 1
  | .iface _ d => uptoBulk d + 1
  | .map entries => uptoBulkEntries entries + 1
  | .held _ => 1
def uptoBulkAll {H : Type} : List (DataW H) → Nat
  | [] => 0
  | d :: r => uptoBulk d + uptoBulkAll r
def uptoBulkEntries {H : Type} : List (Lit × DataW H) → Nat
  | [] => 0
  | x :: r => uptoBulkEntry x + uptoBulkEntries r
def uptoBulkEntry {H : Type} : Lit × DataW H → Nat
  | (.string bytes, d) => bytes.length + uptoBulk d + 1
  | (_, d) => uptoBulk d + 1
 end
def uptoSmall : (H : Type) → List (DataW H) → Bool := fun _ ds => decide (uptoBulkAll ds ≤ 1048576)
def OpenSpec.upto (s : _root_.Go.ChangeSpec) : _root_.Go.OpenSpec := { _root_.Go.OpenSpec.ofChange s with cond := some uptoSmall }

/-- 'caissonlaw16.SenseCut', WHERE WHAT IT READS IS OF BULK AT MOST 1048576: true; the input reads as it did. -/
def senseCutUptoRow : OpenClaim := { program := "ytifhlkfdmnkhoaa", sum := "5f36e37afeb0a837648ed144240d81b0aadb546faaafb22b08e6e14a00771611", func := "caisson/caissonlaw16.SenseCut", spec := "senseCut", apart := false, narrowed := true }
def SenseCutUptoSaid : Prop := senseCutUptoRow.holds Try.pinned (OpenSpec.upto senseCutSpec)

/-- 'caissonlaw16.SenseUnits', WHERE WHAT IT READS IS OF BULK AT MOST 1048576: true; the input reads as it did. -/
def senseUnitsUptoRow : OpenClaim := { program := "ytifhlkfdmnkhoaa", sum := "5f36e37afeb0a837648ed144240d81b0aadb546faaafb22b08e6e14a00771611", func := "caisson/caissonlaw16.SenseUnits", spec := "senseUnits", apart := false, narrowed := true }
def SenseUnitsUptoSaid : Prop := senseUnitsUptoRow.holds Try.pinned (OpenSpec.upto senseUnitsSpec)

/-- 'caissonlaw16.SenseData', WHERE WHAT IT READS IS OF BULK AT MOST 1048576: true; the input reads as it did. -/
def senseDataUptoRow : OpenClaim := { program := "ytifhlkfdmnkhoaa", sum := "5f36e37afeb0a837648ed144240d81b0aadb546faaafb22b08e6e14a00771611", func := "caisson/caissonlaw16.SenseData", spec := "senseData", apart := false, narrowed := true }
def SenseDataUptoSaid : Prop := senseDataUptoRow.holds Try.pinned (OpenSpec.upto senseDataSpec)

/-- 'caissonlaw16.SenseKeys', WHERE WHAT IT READS IS OF BULK AT MOST 1048576: true; the input reads as it did. -/
def senseKeysUptoRow : OpenClaim := { program := "ytifhlkfdmnkhoaa", sum := "5f36e37afeb0a837648ed144240d81b0aadb546faaafb22b08e6e14a00771611", func := "caisson/caissonlaw16.SenseKeys", spec := "senseKeys", apart := false, narrowed := true }
def SenseKeysUptoSaid : Prop := senseKeysUptoRow.holds Try.pinned (OpenSpec.upto senseKeysSpec)

/-- 'caissonlaw16.SensePorts', WHERE WHAT IT READS IS OF BULK AT MOST 1048576: true; the input reads as it did. -/
def sensePortsUptoRow : OpenClaim := { program := "ytifhlkfdmnkhoaa", sum := "5f36e37afeb0a837648ed144240d81b0aadb546faaafb22b08e6e14a00771611", func := "caisson/caissonlaw16.SensePorts", spec := "sensePorts", unfollowed := true, recurses := true, apart := false, narrowed := true }
def SensePortsUptoSaid : Prop := sensePortsUptoRow.holds Try.pinned (OpenSpec.upto sensePortsSpec)

end Rows
end Go.Proofs.Ytifhlkfdmnkhoaa
