/-
  NARROWER THAN 'FOR EVERY INPUT', by the rows' own cells (each row's printed sentence says how): SenseInquiry: laid.
  DERIVED. THE GIVEN ROWS OF THIS SEAT. 1 by the template 'for every input the law returns true; each argument reads behind the call as it read before'; 0 by the template 'total and deterministic' (their statements: YtifhlkfdmnkhoaaDoorTotals.lean).
  GIVEN WITH THE SEED: the statements are not yours to turn. If you find one false, say at which input.
  Laid BY PROGRAM, IN A SANDBOX (cutbox-rows.mjs): the forced cells as the released guide's own fill.sh prints them over the translation 9ffd523b2787bab6… (all of the seat's roots in one cut). By AI agents, Wed Nov 11 2026. No macro, syntax, notation, axiom, sorry.
-/
import Derived.Test.YtifhlkfdmnkhoaaDoorChecked
import GoSem.Claim
import GoSem.ClaimJoined
import GoSem.ClaimMapViews
import Derived.JoinedTies
import Derived.KernelRfl
namespace Go.Proofs.YtifhlkfdmnkhoaaDoor
/- THE CELL 'sum', in the pinned program and in every row, IS THE sha256 OF THE DUMP (.gsa) THAT YtifhlkfdmnkhoaaDoorProg.lean LOADS. Nothing in Lean hashes anything: it is a label: what it is worth is what the hold of that sum in a sandbox is worth. -/
noncomputable def Tryd.pinned : Pinned := { name := "ytifhlkfdmnkhoaadoor", sum := "9ffd523b2787bab6978ebc2771ceba2f0ed280bbf88e69ec4e4f6c00c81e7ccf", checked := Tryd.checked }
namespace Rows
def none {H : Type} : Left H := { results := [], args := [] }

/- WHAT THE LISTED PACKAGE-LEVEL VARIABLES READ AS WHEN THE CALL BEGINS. Each datum BY PROGRAM (the guide's laid-datum.mjs) off the statement by which the dump's own 'gosem.cut.vars' lays the variable. In a bare row this is a premise. The card (YtifhlkfdmnkhoaaDoorCards.lean) ties it to the program's text. -/
def laid_caisson_sense_kinds {H : Type} : DataW H := .agg [.agg [.lit (.int .i64 0), .lit (.int .i64 0)], .agg [.lit (.int .i64 128), .lit (.int .i64 1)], .agg [.lit (.int .i64 131), .lit (.int .i64 2)]]

/-- 'caissonlaw16.SenseInquiry': WHATEVER THE INPUT: true; the input reads as it did. -/
def senseInquirySpec : ChangeSpec := { name := "senseInquiry", fn := fun _ => fun
  | [d1, d2, d3] => { results := [.lit (.bool true)], args := [d1, d2, d3] }
  | _ => none }
def senseInquiryRow : OpenClaim := { program := "ytifhlkfdmnkhoaadoor", sum := "9ffd523b2787bab6978ebc2771ceba2f0ed280bbf88e69ec4e4f6c00c81e7ccf", func := "caisson/caissonlaw16.SenseInquiry", spec := "senseInquiry", named := ["caisson/sense.kinds"], apart := false, laid := [("caisson/sense.kinds", laid_caisson_sense_kinds)] }
def SenseInquirySaid : Prop := senseInquiryRow.holds Tryd.pinned (OpenSpec.ofChange senseInquirySpec)

/-- ITS FALSE NEIGHBOUR: 'it returns false'. Refute it at one input. -/
def senseInquiryWrong : ChangeSpec := { name := "senseInquiry", fn := fun _ => fun
  | [d1, d2, d3] => { results := [.lit (.bool false)], args := [d1, d2, d3] }
  | _ => none }
def SenseInquiryWrongFalsely : Prop := senseInquiryRow.holds Tryd.pinned (OpenSpec.ofChange senseInquiryWrong)

/- THE SECOND FORM. 'bulk': how many values and letters a reading holds, each counted each time it is reached (what is shared counts as often as it is met; a slice's spare places count too). A statement '..UptoSaid' is the law's where the arguments, and the package variables that the reading takes, are together of bulk at most 1048576: NARROWER than '..Said'. Prove '..Said' where nothing that the law and all that it calls make is longer than what came in: it says more and counts as full. Else prove '..UptoSaid'. A law counts once. -/
mutual
def uptoBulk {H : Type} : DataW H → Nat
  | .lit (.string bytes) => bytes.length + 1
  | .lit _ => 1
  | .nil => 1
  | .ptr d => uptoBulk d + 1
  | .slice elems spare => uptoBulkAll elems + uptoBulkAll spare + 1
  | .agg parts => uptoBulkAll parts + 1
  | .iface _ d => uptoBulk d + 1
  | .map entries => uptoBulkEntries entries + 1
  | .held _ => 1
def uptoBulkAll {H : Type} : List (DataW H) → Nat
  | [] => 0
  | d :: r => uptoBulk d + uptoBulkAll r
def uptoBulkEntries {H : Type} : List (Lit × DataW H) → Nat
  | [] => 0
  | x :: r => uptoBulkEntry x + uptoBulkEntries r
def uptoBulkEntry {H : Type} : Lit × DataW H → Nat
  | (.string bytes, d) => bytes.length + uptoBulk d + 1
  | (_, d) => uptoBulk d + 1
 end
def uptoSmall : (H : Type) → List (DataW H) → Bool := fun _ ds => decide (uptoBulkAll ds ≤ 1048576)
def OpenSpec.upto (s : _root_.Go.ChangeSpec) : _root_.Go.OpenSpec := { _root_.Go.OpenSpec.ofChange s with cond := some uptoSmall }

/-- 'caissonlaw16.SenseInquiry', WHERE WHAT IT READS IS OF BULK AT MOST 1048576: true; the input reads as it did. -/
def senseInquiryUptoRow : OpenClaim := { program := "ytifhlkfdmnkhoaadoor", sum := "9ffd523b2787bab6978ebc2771ceba2f0ed280bbf88e69ec4e4f6c00c81e7ccf", func := "caisson/caissonlaw16.SenseInquiry", spec := "senseInquiry", named := ["caisson/sense.kinds"], apart := false, laid := [("caisson/sense.kinds", laid_caisson_sense_kinds)], narrowed := true }
def SenseInquiryUptoSaid : Prop := senseInquiryUptoRow.holds Tryd.pinned (OpenSpec.upto senseInquirySpec)

end Rows
end Go.Proofs.YtifhlkfdmnkhoaaDoor
