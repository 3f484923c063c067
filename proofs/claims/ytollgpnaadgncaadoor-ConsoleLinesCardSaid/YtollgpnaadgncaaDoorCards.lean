/-
  DERIVED. GIVEN WITH THE SEED: THE CARDS: each row of YtollgpnaadgncaaDoorRows.lean that lists a variable, with what it lists TIED to the program's text (the seventh form; the later family's looks); each row that meets fmt, with fmt's text TOLD by the authors' own Lean function (tested against real Go, not proved from fmt's source: count such statements apart). THE CARD IS WHAT COUNTS. Prove the row's statement (the work); the ties are given (YtollgpnaadgncaaDoorTie.lean); close each card by the builder's one call (the guide's Derived/Test/ToyasCard.lean, 'card_holds'). Laid BY PROGRAM, IN A SANDBOX (cutbox-door.mjs). By AI agents, Wed Nov 11 2026. No macro, syntax, notation, axiom, sorry.
-/
import Derived.Test.YtollgpnaadgncaaDoorRows
import GoSem.ClaimSeven
namespace Go.Proofs.YtollgpnaadgncaaDoor
namespace Rows

/-- THE TIED CARD OF 'hartixlaw11.ConsoleFroms'. -/
def consoleFromsCard : Claim7 := { stood := { row := consoleFromsRow, standIns := [], harness := (true, "8afb239bfaafe54614f870d8dcebff28ff110b54a7c172cbf4d80a9e95e69b76"), looks := true }, kinds := [], alts := [], laidByText := true, laidKinds := [.data], laidTests := true, laidLooks := .later }
def ConsoleFromsCardSaid : Prop := Claim7.holds Tryd.pinned (.plain (OpenSpec.ofChange consoleFromsSpec)) consoleFromsCard

/-- THE TIED CARD OF 'hartixlaw11.ConsoleEcho'. -/
def consoleEchoCard : Claim7 := { stood := { row := consoleEchoRow, standIns := [], harness := (true, "8afb239bfaafe54614f870d8dcebff28ff110b54a7c172cbf4d80a9e95e69b76"), looks := true }, kinds := [], alts := [], laidByText := true, laidKinds := [.data], laidTests := true, laidLooks := .later }
def ConsoleEchoCardSaid : Prop := Claim7.holds Tryd.pinned (.plain (OpenSpec.ofChange consoleEchoSpec)) consoleEchoCard

/-- THE TIED CARD OF 'hartixlaw11.ConsoleFresh'. -/
def consoleFreshCard : Claim7 := { stood := { row := consoleFreshRow, standIns := [], harness := (true, "8afb239bfaafe54614f870d8dcebff28ff110b54a7c172cbf4d80a9e95e69b76"), looks := true }, kinds := [], alts := [], laidByText := true, laidKinds := [.data], laidTests := true, laidLooks := .later }
def ConsoleFreshCardSaid : Prop := Claim7.holds Tryd.pinned (.plain (OpenSpec.ofChange consoleFreshSpec)) consoleFreshCard

/-- THE TIED CARD OF 'hartixlaw11.ConsoleLines'. -/
def consoleLinesCard : Claim7 := { stood := { row := consoleLinesRow, standIns := [], harness := (true, "8afb239bfaafe54614f870d8dcebff28ff110b54a7c172cbf4d80a9e95e69b76"), looks := true }, kinds := [], alts := [], laidByText := true, laidKinds := [.data], laidTests := true, laidLooks := .later }
def ConsoleLinesCardSaid : Prop := Claim7.holds Tryd.pinned (.plain (OpenSpec.ofChange consoleLinesSpec)) consoleLinesCard

/-- THE TIED CARD OF 'hartixlaw11.ConsoleParts'. -/
def consolePartsCard : Claim7 := { stood := { row := consolePartsRow, standIns := [], harness := (true, "8afb239bfaafe54614f870d8dcebff28ff110b54a7c172cbf4d80a9e95e69b76"), looks := true }, kinds := [], alts := [], laidByText := true, laidKinds := [.data], laidTests := true, laidLooks := .later }
def ConsolePartsCardSaid : Prop := Claim7.holds Tryd.pinned (.plain (OpenSpec.ofChange consolePartsSpec)) consolePartsCard

/-- THE TIED CARD OF 'hartixlaw11.ConsolePlays'. -/
def consolePlaysCard : Claim7 := { stood := { row := consolePlaysRow, standIns := [], harness := (true, "8afb239bfaafe54614f870d8dcebff28ff110b54a7c172cbf4d80a9e95e69b76"), looks := true }, kinds := [], alts := [], laidByText := true, laidKinds := [.data], laidTests := true, laidLooks := .later }
def ConsolePlaysCardSaid : Prop := Claim7.holds Tryd.pinned (.plain (OpenSpec.ofChange consolePlaysSpec)) consolePlaysCard

/-- THE TIED CARD OF 'hartixlaw11.ConsoleNobody'. -/
def consoleNobodyCard : Claim7 := { stood := { row := consoleNobodyRow, standIns := [], harness := (true, "8afb239bfaafe54614f870d8dcebff28ff110b54a7c172cbf4d80a9e95e69b76"), looks := true }, kinds := [], alts := [], laidByText := true, laidKinds := [.data], laidTests := true, laidLooks := .later }
def ConsoleNobodyCardSaid : Prop := Claim7.holds Tryd.pinned (.plain (OpenSpec.ofChange consoleNobodySpec)) consoleNobodyCard

/-- THE SECOND FORM's CARD OF 'hartixlaw11.ConsoleFroms'. -/
def consoleFromsUptoCard : Claim7 := { stood := { row := consoleFromsUptoRow, standIns := [], harness := (true, "8afb239bfaafe54614f870d8dcebff28ff110b54a7c172cbf4d80a9e95e69b76"), looks := true }, kinds := [], alts := [], laidByText := true, laidKinds := [.data], laidTests := true, laidLooks := .later }
def ConsoleFromsUptoCardSaid : Prop := Claim7.holds Tryd.pinned (.plain (OpenSpec.upto consoleFromsSpec)) consoleFromsUptoCard

/-- THE SECOND FORM's CARD OF 'hartixlaw11.ConsoleEcho'. -/
def consoleEchoUptoCard : Claim7 := { stood := { row := consoleEchoUptoRow, standIns := [], harness := (true, "8afb239bfaafe54614f870d8dcebff28ff110b54a7c172cbf4d80a9e95e69b76"), looks := true }, kinds := [], alts := [], laidByText := true, laidKinds := [.data], laidTests := true, laidLooks := .later }
def ConsoleEchoUptoCardSaid : Prop := Claim7.holds Tryd.pinned (.plain (OpenSpec.upto consoleEchoSpec)) consoleEchoUptoCard

/-- THE SECOND FORM's CARD OF 'hartixlaw11.ConsoleFresh'. -/
def consoleFreshUptoCard : Claim7 := { stood := { row := consoleFreshUptoRow, standIns := [], harness := (true, "8afb239bfaafe54614f870d8dcebff28ff110b54a7c172cbf4d80a9e95e69b76"), looks := true }, kinds := [], alts := [], laidByText := true, laidKinds := [.data], laidTests := true, laidLooks := .later }
def ConsoleFreshUptoCardSaid : Prop := Claim7.holds Tryd.pinned (.plain (OpenSpec.upto consoleFreshSpec)) consoleFreshUptoCard

/-- THE SECOND FORM's CARD OF 'hartixlaw11.ConsoleLines'. -/
def consoleLinesUptoCard : Claim7 := { stood := { row := consoleLinesUptoRow, standIns := [], harness := (true, "8afb239bfaafe54614f870d8dcebff28ff110b54a7c172cbf4d80a9e95e69b76"), looks := true }, kinds := [], alts := [], laidByText := true, laidKinds := [.data], laidTests := true, laidLooks := .later }
def ConsoleLinesUptoCardSaid : Prop := Claim7.holds Tryd.pinned (.plain (OpenSpec.upto consoleLinesSpec)) consoleLinesUptoCard

/-- THE SECOND FORM's CARD OF 'hartixlaw11.ConsoleParts'. -/
def consolePartsUptoCard : Claim7 := { stood := { row := consolePartsUptoRow, standIns := [], harness := (true, "8afb239bfaafe54614f870d8dcebff28ff110b54a7c172cbf4d80a9e95e69b76"), looks := true }, kinds := [], alts := [], laidByText := true, laidKinds := [.data], laidTests := true, laidLooks := .later }
def ConsolePartsUptoCardSaid : Prop := Claim7.holds Tryd.pinned (.plain (OpenSpec.upto consolePartsSpec)) consolePartsUptoCard

/-- THE SECOND FORM's CARD OF 'hartixlaw11.ConsolePlays'. -/
def consolePlaysUptoCard : Claim7 := { stood := { row := consolePlaysUptoRow, standIns := [], harness := (true, "8afb239bfaafe54614f870d8dcebff28ff110b54a7c172cbf4d80a9e95e69b76"), looks := true }, kinds := [], alts := [], laidByText := true, laidKinds := [.data], laidTests := true, laidLooks := .later }
def ConsolePlaysUptoCardSaid : Prop := Claim7.holds Tryd.pinned (.plain (OpenSpec.upto consolePlaysSpec)) consolePlaysUptoCard

/-- THE SECOND FORM's CARD OF 'hartixlaw11.ConsoleNobody'. -/
def consoleNobodyUptoCard : Claim7 := { stood := { row := consoleNobodyUptoRow, standIns := [], harness := (true, "8afb239bfaafe54614f870d8dcebff28ff110b54a7c172cbf4d80a9e95e69b76"), looks := true }, kinds := [], alts := [], laidByText := true, laidKinds := [.data], laidTests := true, laidLooks := .later }
def ConsoleNobodyUptoCardSaid : Prop := Claim7.holds Tryd.pinned (.plain (OpenSpec.upto consoleNobodySpec)) consoleNobodyUptoCard
end Rows
end Go.Proofs.YtollgpnaadgncaaDoor
