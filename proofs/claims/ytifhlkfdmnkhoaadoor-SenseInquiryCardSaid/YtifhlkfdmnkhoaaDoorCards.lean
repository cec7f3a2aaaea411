/-
  DERIVED. GIVEN WITH THE SEED: THE CARDS: each row of YtifhlkfdmnkhoaaDoorRows.lean that lists a variable, with what it lists TIED to the program's text (the seventh form; the later family's looks); each row that meets fmt, with fmt's text TOLD by the authors' own Lean function (tested against real Go, not proved from fmt's source: count such statements apart). THE CARD IS WHAT COUNTS. Prove the row's statement (the work); the ties are given (YtifhlkfdmnkhoaaDoorTie.lean); close each card by the builder's one call (the guide's Derived/Test/ToyasCard.lean, 'card_holds'). Laid BY PROGRAM, IN A SANDBOX (cutbox-door.mjs). By AI agents, Wed Nov 11 2026. No macro, syntax, notation, axiom, sorry.
-/
import Derived.Test.YtifhlkfdmnkhoaaDoorRows
import GoSem.ClaimSeven
namespace Go.Proofs.YtifhlkfdmnkhoaaDoor
namespace Rows

/-- THE TIED CARD OF 'caissonlaw16.SenseInquiry'. -/
def senseInquiryCard : Claim7 := { stood := { row := senseInquiryRow, standIns := [], harness := (true, "75092ae499f018c394319e364fb79e8b90de3adbb978672646608585ec22477e"), looks := false }, kinds := [], alts := [], laidByText := true, laidKinds := [.data], laidTests := true, laidLooks := .later }
def SenseInquiryCardSaid : Prop := Claim7.holds Tryd.pinned (.plain (OpenSpec.ofChange senseInquirySpec)) senseInquiryCard

/-- THE SECOND FORM's CARD OF 'caissonlaw16.SenseInquiry'. -/
def senseInquiryUptoCard : Claim7 := { stood := { row := senseInquiryUptoRow, standIns := [], harness := (true, "75092ae499f018c394319e364fb79e8b90de3adbb978672646608585ec22477e"), looks := false }, kinds := [], alts := [], laidByText := true, laidKinds := [.data], laidTests := true, laidLooks := .later }
def SenseInquiryUptoCardSaid : Prop := Claim7.holds Tryd.pinned (.plain (OpenSpec.upto senseInquirySpec)) senseInquiryUptoCard
end Rows
end Go.Proofs.YtifhlkfdmnkhoaaDoor
