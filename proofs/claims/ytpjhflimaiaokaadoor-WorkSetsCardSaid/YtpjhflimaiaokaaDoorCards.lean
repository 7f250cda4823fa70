/-
  DERIVED. GIVEN WITH THE SEED: THE CARDS: each row of YtpjhflimaiaokaaDoorRows.lean that lists a variable, with what it lists TIED to the program's text (the seventh form; the later family's looks); each row that meets fmt, with fmt's text TOLD by the authors' own Lean function (tested against real Go, not proved from fmt's source: count such statements apart). THE CARD IS WHAT COUNTS. Prove the row's statement (the work); the ties are given (YtpjhflimaiaokaaDoorTie.lean); close each card by the builder's one call (the guide's Derived/Test/ToyasCard.lean, 'card_holds'). Laid BY PROGRAM, IN A SANDBOX (cutbox-door.mjs). By AI agents, Wed Nov 11 2026. No macro, syntax, notation, axiom, sorry.
-/
import Derived.Test.YtpjhflimaiaokaaDoorRows
import GoSem.ClaimSeven
namespace Go.Proofs.YtpjhflimaiaokaaDoor
namespace Rows

/-- THE TIED CARD OF 'quoinlaw03.WorkAlgebra'. -/
def workAlgebraCard : Claim7 := { stood := { row := workAlgebraRow, standIns := [], harness := (true, "fc35b4c3310905600df46e2f5ec7f049bfd53a689febd5656ed3198df874a17f"), looks := true }, kinds := [], alts := [], laidByText := true, laidKinds := [.data, .data, .data], laidTests := true, laidLooks := .later }
def WorkAlgebraCardSaid : Prop := Claim7.holds Tryd.pinned (.plain (OpenSpec.ofChange workAlgebraSpec)) workAlgebraCard

/-- THE TIED CARD OF 'quoinlaw03.WorkSets'. -/
def workSetsCard : Claim7 := { stood := { row := workSetsRow, standIns := [], harness := (true, "fc35b4c3310905600df46e2f5ec7f049bfd53a689febd5656ed3198df874a17f"), looks := true }, kinds := [], alts := [], laidByText := true, laidKinds := [.data, .data, .data], laidTests := true, laidLooks := .later }
def WorkSetsCardSaid : Prop := Claim7.holds Tryd.pinned (.plain (OpenSpec.ofChange workSetsSpec)) workSetsCard

/-- THE TIED CARD OF 'quoinlaw03.WorkNil'. -/
def workNilCard : Claim7 := { stood := { row := workNilRow, standIns := [], harness := (true, "fc35b4c3310905600df46e2f5ec7f049bfd53a689febd5656ed3198df874a17f"), looks := true }, kinds := [], alts := [], laidByText := true, laidKinds := [.data, .data, .data], laidTests := true, laidLooks := .later }
def WorkNilCardSaid : Prop := Claim7.holds Tryd.pinned (.plain (OpenSpec.ofChange workNilSpec)) workNilCard

/-- THE SECOND FORM's CARD OF 'quoinlaw03.WorkAlgebra'. -/
def workAlgebraUptoCard : Claim7 := { stood := { row := workAlgebraUptoRow, standIns := [], harness := (true, "fc35b4c3310905600df46e2f5ec7f049bfd53a689febd5656ed3198df874a17f"), looks := true }, kinds := [], alts := [], laidByText := true, laidKinds := [.data, .data, .data], laidTests := true, laidLooks := .later }
def WorkAlgebraUptoCardSaid : Prop := Claim7.holds Tryd.pinned (.plain (OpenSpec.upto workAlgebraSpec)) workAlgebraUptoCard

/-- THE SECOND FORM's CARD OF 'quoinlaw03.WorkSets'. -/
def workSetsUptoCard : Claim7 := { stood := { row := workSetsUptoRow, standIns := [], harness := (true, "fc35b4c3310905600df46e2f5ec7f049bfd53a689febd5656ed3198df874a17f"), looks := true }, kinds := [], alts := [], laidByText := true, laidKinds := [.data, .data, .data], laidTests := true, laidLooks := .later }
def WorkSetsUptoCardSaid : Prop := Claim7.holds Tryd.pinned (.plain (OpenSpec.upto workSetsSpec)) workSetsUptoCard

/-- THE SECOND FORM's CARD OF 'quoinlaw03.WorkNil'. -/
def workNilUptoCard : Claim7 := { stood := { row := workNilUptoRow, standIns := [], harness := (true, "fc35b4c3310905600df46e2f5ec7f049bfd53a689febd5656ed3198df874a17f"), looks := true }, kinds := [], alts := [], laidByText := true, laidKinds := [.data, .data, .data], laidTests := true, laidLooks := .later }
def WorkNilUptoCardSaid : Prop := Claim7.holds Tryd.pinned (.plain (OpenSpec.upto workNilSpec)) workNilUptoCard
end Rows
end Go.Proofs.YtpjhflimaiaokaaDoor
