/-
  DERIVED. GIVEN WITH THE SEED: THE CARDS: each row of YtajbomiaoncgiaaDoorRows.lean that lists a variable, with what it lists TIED to the program's text (the seventh form; the later family's looks); each row that meets fmt, with fmt's text TOLD by the authors' own Lean function (tested against real Go, not proved from fmt's source: count such statements apart). THE CARD IS WHAT COUNTS. Prove the row's statement (the work); the ties are given (YtajbomiaoncgiaaDoorTie.lean); close each card by the builder's one call (the guide's Derived/Test/ToyasCard.lean, 'card_holds'). Laid BY PROGRAM, IN A SANDBOX (cutbox-door.mjs). By AI agents, Wed Nov 11 2026. No macro, syntax, notation, axiom, sorry.
-/
import Derived.Test.YtajbomiaoncgiaaDoorRows
import GoSem.ClaimSeven
namespace Go.Proofs.YtajbomiaoncgiaaDoor
namespace Rows

/-- THE TIED CARD OF 'laws.FnPowerLoss'. -/
def fnPowerLossCard : Claim7 := { stood := { row := fnPowerLossRow, standIns := [], harness := (true, "05f1853d722861f93111db08328725af0d7b46e40011c3ed5f944f051e2ec1ce"), looks := false }, kinds := [], alts := [], laidByText := true, laidKinds := [.data, .data, .data, .data, .pinned], laidTests := true, laidLooks := .later }
def FnPowerLossCardSaid : Prop := Claim7.holds Tryd.pinned (.plain (OpenSpec.ofChange fnPowerLossSpec)) fnPowerLossCard

/-- THE TIED CARD OF 'laws.FnLogs'. -/
def fnLogsCard : Claim7 := { stood := { row := fnLogsRow, standIns := [], harness := (true, "05f1853d722861f93111db08328725af0d7b46e40011c3ed5f944f051e2ec1ce"), looks := false }, kinds := [], alts := [], laidByText := true, laidKinds := [.data, .data, .data, .data, .pinned], laidTests := true, laidLooks := .later }
def FnLogsCardSaid : Prop := Claim7.holds Tryd.pinned (.plain (OpenSpec.ofChange fnLogsSpec)) fnLogsCard

/-- THE TIED CARD OF 'laws.FnExactNewDesk'. -/
def fnExactNewDeskCard : Claim7 := { stood := { row := fnExactNewDeskRow, standIns := [], harness := (true, "05f1853d722861f93111db08328725af0d7b46e40011c3ed5f944f051e2ec1ce"), looks := false }, kinds := [], alts := [], laidByText := true, laidKinds := [.data, .data, .data, .data, .pinned], laidTests := true, laidLooks := .later }
def FnExactNewDeskCardSaid : Prop := Claim7.holds Tryd.pinned (.plain (OpenSpec.ofChange fnExactNewDeskSpec)) fnExactNewDeskCard

/-- THE SECOND FORM's CARD OF 'laws.FnPowerLoss'. -/
def fnPowerLossUptoCard : Claim7 := { stood := { row := fnPowerLossUptoRow, standIns := [], harness := (true, "05f1853d722861f93111db08328725af0d7b46e40011c3ed5f944f051e2ec1ce"), looks := false }, kinds := [], alts := [], laidByText := true, laidKinds := [.data, .data, .data, .data, .pinned], laidTests := true, laidLooks := .later }
def FnPowerLossUptoCardSaid : Prop := Claim7.holds Tryd.pinned (.plain (OpenSpec.upto fnPowerLossSpec)) fnPowerLossUptoCard

/-- THE SECOND FORM's CARD OF 'laws.FnLogs'. -/
def fnLogsUptoCard : Claim7 := { stood := { row := fnLogsUptoRow, standIns := [], harness := (true, "05f1853d722861f93111db08328725af0d7b46e40011c3ed5f944f051e2ec1ce"), looks := false }, kinds := [], alts := [], laidByText := true, laidKinds := [.data, .data, .data, .data, .pinned], laidTests := true, laidLooks := .later }
def FnLogsUptoCardSaid : Prop := Claim7.holds Tryd.pinned (.plain (OpenSpec.upto fnLogsSpec)) fnLogsUptoCard

/-- THE SECOND FORM's CARD OF 'laws.FnExactNewDesk'. -/
def fnExactNewDeskUptoCard : Claim7 := { stood := { row := fnExactNewDeskUptoRow, standIns := [], harness := (true, "05f1853d722861f93111db08328725af0d7b46e40011c3ed5f944f051e2ec1ce"), looks := false }, kinds := [], alts := [], laidByText := true, laidKinds := [.data, .data, .data, .data, .pinned], laidTests := true, laidLooks := .later }
def FnExactNewDeskUptoCardSaid : Prop := Claim7.holds Tryd.pinned (.plain (OpenSpec.upto fnExactNewDeskSpec)) fnExactNewDeskUptoCard
end Rows
end Go.Proofs.YtajbomiaoncgiaaDoor
