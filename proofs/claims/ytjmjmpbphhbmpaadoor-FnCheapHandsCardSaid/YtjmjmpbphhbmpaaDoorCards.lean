/-
  DERIVED. GIVEN WITH THE SEED: THE CARDS: each row of YtjmjmpbphhbmpaaDoorRows.lean that lists a variable, with what it lists TIED to the program's text (the seventh form; the later family's looks); each row that meets fmt, with fmt's text TOLD by the authors' own Lean function (tested against real Go, not proved from fmt's source: count such statements apart). THE CARD IS WHAT COUNTS. Prove the row's statement (the work); the ties are given (YtjmjmpbphhbmpaaDoorTie.lean); close each card by the builder's one call (the guide's Derived/Test/ToyasCard.lean, 'card_holds'). Laid BY PROGRAM, IN A SANDBOX (cutbox-door.mjs). By AI agents, Wed Nov 11 2026. No macro, syntax, notation, axiom, sorry.
-/
import Derived.Test.YtjmjmpbphhbmpaaDoorRows
import GoSem.ClaimSeven
namespace Go.Proofs.YtjmjmpbphhbmpaaDoor
namespace Rows

/-- THE TIED CARD OF 'laws.FnCheapHands'. -/
def fnCheapHandsCard : Claim7 := { stood := { row := fnCheapHandsRow, standIns := [], harness := (true, "4534909925285987d115d3dc6c90fc1111822c20e5f2714bc141fd2d7dd98075"), looks := false }, kinds := [], alts := [], laidByText := true, laidKinds := [.data, .data, .data], laidTests := true, laidLooks := .later }
def FnCheapHandsCardSaid : Prop := Claim7.holds Tryd.pinned (.plain (OpenSpec.ofChange fnCheapHandsSpec)) fnCheapHandsCard

/-- THE TIED CARD OF 'laws.FnLoftOrders'. -/
def fnLoftOrdersCard : Claim7 := { stood := { row := fnLoftOrdersRow, standIns := [], harness := (true, "4534909925285987d115d3dc6c90fc1111822c20e5f2714bc141fd2d7dd98075"), looks := false }, kinds := [], alts := [], laidByText := true, laidKinds := [.data, .data, .data, .data, .pinned], laidTests := true, laidLooks := .later }
def FnLoftOrdersCardSaid : Prop := Claim7.holds Tryd.pinned (.plain (OpenSpec.ofChange fnLoftOrdersSpec)) fnLoftOrdersCard

/-- THE SECOND FORM's CARD OF 'laws.FnCheapHands'. -/
def fnCheapHandsUptoCard : Claim7 := { stood := { row := fnCheapHandsUptoRow, standIns := [], harness := (true, "4534909925285987d115d3dc6c90fc1111822c20e5f2714bc141fd2d7dd98075"), looks := false }, kinds := [], alts := [], laidByText := true, laidKinds := [.data, .data, .data], laidTests := true, laidLooks := .later }
def FnCheapHandsUptoCardSaid : Prop := Claim7.holds Tryd.pinned (.plain (OpenSpec.upto fnCheapHandsSpec)) fnCheapHandsUptoCard

/-- THE SECOND FORM's CARD OF 'laws.FnLoftOrders'. -/
def fnLoftOrdersUptoCard : Claim7 := { stood := { row := fnLoftOrdersUptoRow, standIns := [], harness := (true, "4534909925285987d115d3dc6c90fc1111822c20e5f2714bc141fd2d7dd98075"), looks := false }, kinds := [], alts := [], laidByText := true, laidKinds := [.data, .data, .data, .data, .pinned], laidTests := true, laidLooks := .later }
def FnLoftOrdersUptoCardSaid : Prop := Claim7.holds Tryd.pinned (.plain (OpenSpec.upto fnLoftOrdersSpec)) fnLoftOrdersUptoCard
end Rows
end Go.Proofs.YtjmjmpbphhbmpaaDoor
