/-
  DERIVED. GIVEN WITH THE SEED: THE CARDS: each row of YtncjghmjlcohjaaDoorRows.lean that lists a variable, with what it lists TIED to the program's text (the seventh form; the later family's looks); each row that meets fmt, with fmt's text TOLD by the authors' own Lean function (tested against real Go, not proved from fmt's source: count such statements apart). THE CARD IS WHAT COUNTS. Prove the row's statement (the work); the ties are given (YtncjghmjlcohjaaDoorTie.lean); close each card by the builder's one call (the guide's Derived/Test/ToyasCard.lean, 'card_holds'). Laid BY PROGRAM, IN A SANDBOX (cutbox-door.mjs). By AI agents, Wed Nov 11 2026. No macro, syntax, notation, axiom, sorry.
-/
import Derived.Test.YtncjghmjlcohjaaDoorRows
import GoSem.ClaimSeven
namespace Go.Proofs.YtncjghmjlcohjaaDoor
namespace Rows

/-- THE TIED CARD OF 'laws.FnExactOpenFile'. -/
def fnExactOpenFileCard : Claim7 := { stood := { row := fnExactOpenFileRow, standIns := [], harness := (true, "91aa6f0789ea5ed7252e037eb83ac4780b5f0840c55988bff4de23c8c2edd911"), looks := false }, kinds := [], alts := [], laidByText := true, laidKinds := [.data, .pinned], laidTests := true, laidLooks := .later }
def FnExactOpenFileCardSaid : Prop := Claim7.holds Tryd.pinned (.plain (OpenSpec.ofChange fnExactOpenFileSpec)) fnExactOpenFileCard

/-- THE SECOND FORM's CARD OF 'laws.FnExactOpenFile'. -/
def fnExactOpenFileUptoCard : Claim7 := { stood := { row := fnExactOpenFileUptoRow, standIns := [], harness := (true, "91aa6f0789ea5ed7252e037eb83ac4780b5f0840c55988bff4de23c8c2edd911"), looks := false }, kinds := [], alts := [], laidByText := true, laidKinds := [.data, .pinned], laidTests := true, laidLooks := .later }
def FnExactOpenFileUptoCardSaid : Prop := Claim7.holds Tryd.pinned (.plain (OpenSpec.upto fnExactOpenFileSpec)) fnExactOpenFileUptoCard
end Rows
end Go.Proofs.YtncjghmjlcohjaaDoor
