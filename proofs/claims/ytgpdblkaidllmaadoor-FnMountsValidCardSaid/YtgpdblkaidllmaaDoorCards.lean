/-
  DERIVED. GIVEN WITH THE SEED: THE CARDS: each row of YtgpdblkaidllmaaDoorRows.lean that lists a variable, with what it lists TIED to the program's text (the seventh form; the later family's looks); each row that meets fmt, with fmt's text TOLD by the authors' own Lean function (tested against real Go, not proved from fmt's source: count such statements apart). THE CARD IS WHAT COUNTS. Prove the row's statement (the work); the ties are given (YtgpdblkaidllmaaDoorTie.lean); close each card by the builder's one call (the guide's Derived/Test/ToyasCard.lean, 'card_holds'). Laid BY PROGRAM, IN A SANDBOX (cutbox-door.mjs). By AI agents, Wed Nov 11 2026. No macro, syntax, notation, axiom, sorry.
-/
import Derived.Test.YtgpdblkaidllmaaDoorRows
import GoSem.ClaimSeven
namespace Go.Proofs.YtgpdblkaidllmaaDoor
namespace Rows

/-- THE TIED CARD OF 'laws.FnMountsValid'. -/
def fnMountsValidCard : Claim7 := { stood := { row := fnMountsValidRow, standIns := [], harness := (true, "0b54c4f8b462cb63c2a940657facc993387ea1287b9470c8cb9918d696ac7839"), looks := false }, kinds := [], alts := [], laidByText := true, laidKinds := [.data, .pinned], laidTests := true, laidLooks := .later }
def FnMountsValidCardSaid : Prop := Claim7.holds Tryd.pinned (.plain (OpenSpec.ofChange fnMountsValidSpec)) fnMountsValidCard

/-- THE TIED CARD OF 'laws.FnExactThroughMounts'. -/
def fnExactThroughMountsCard : Claim7 := { stood := { row := fnExactThroughMountsRow, standIns := [], harness := (true, "0b54c4f8b462cb63c2a940657facc993387ea1287b9470c8cb9918d696ac7839"), looks := false }, kinds := [], alts := [], laidByText := true, laidKinds := [.data, .pinned], laidTests := true, laidLooks := .later }
def FnExactThroughMountsCardSaid : Prop := Claim7.holds Tryd.pinned (.plain (OpenSpec.ofChange fnExactThroughMountsSpec)) fnExactThroughMountsCard

/-- THE TIED CARD OF 'laws.FnExactIsBelow'. -/
def fnExactIsBelowCard : Claim7 := { stood := { row := fnExactIsBelowRow, standIns := [], harness := (true, "0b54c4f8b462cb63c2a940657facc993387ea1287b9470c8cb9918d696ac7839"), looks := false }, kinds := [], alts := [], laidByText := true, laidKinds := [.data, .pinned], laidTests := true, laidLooks := .later }
def FnExactIsBelowCardSaid : Prop := Claim7.holds Tryd.pinned (.plain (OpenSpec.ofChange fnExactIsBelowSpec)) fnExactIsBelowCard

/-- THE TIED CARD OF 'laws.FnExactMountsValid'. -/
def fnExactMountsValidCard : Claim7 := { stood := { row := fnExactMountsValidRow, standIns := [], harness := (true, "0b54c4f8b462cb63c2a940657facc993387ea1287b9470c8cb9918d696ac7839"), looks := false }, kinds := [], alts := [], laidByText := true, laidKinds := [.data, .pinned], laidTests := true, laidLooks := .later }
def FnExactMountsValidCardSaid : Prop := Claim7.holds Tryd.pinned (.plain (OpenSpec.ofChange fnExactMountsValidSpec)) fnExactMountsValidCard

/-- THE SECOND FORM's CARD OF 'laws.FnMountsValid'. -/
def fnMountsValidUptoCard : Claim7 := { stood := { row := fnMountsValidUptoRow, standIns := [], harness := (true, "0b54c4f8b462cb63c2a940657facc993387ea1287b9470c8cb9918d696ac7839"), looks := false }, kinds := [], alts := [], laidByText := true, laidKinds := [.data, .pinned], laidTests := true, laidLooks := .later }
def FnMountsValidUptoCardSaid : Prop := Claim7.holds Tryd.pinned (.plain (OpenSpec.upto fnMountsValidSpec)) fnMountsValidUptoCard

/-- THE SECOND FORM's CARD OF 'laws.FnExactThroughMounts'. -/
def fnExactThroughMountsUptoCard : Claim7 := { stood := { row := fnExactThroughMountsUptoRow, standIns := [], harness := (true, "0b54c4f8b462cb63c2a940657facc993387ea1287b9470c8cb9918d696ac7839"), looks := false }, kinds := [], alts := [], laidByText := true, laidKinds := [.data, .pinned], laidTests := true, laidLooks := .later }
def FnExactThroughMountsUptoCardSaid : Prop := Claim7.holds Tryd.pinned (.plain (OpenSpec.upto fnExactThroughMountsSpec)) fnExactThroughMountsUptoCard

/-- THE SECOND FORM's CARD OF 'laws.FnExactIsBelow'. -/
def fnExactIsBelowUptoCard : Claim7 := { stood := { row := fnExactIsBelowUptoRow, standIns := [], harness := (true, "0b54c4f8b462cb63c2a940657facc993387ea1287b9470c8cb9918d696ac7839"), looks := false }, kinds := [], alts := [], laidByText := true, laidKinds := [.data, .pinned], laidTests := true, laidLooks := .later }
def FnExactIsBelowUptoCardSaid : Prop := Claim7.holds Tryd.pinned (.plain (OpenSpec.upto fnExactIsBelowSpec)) fnExactIsBelowUptoCard

/-- THE SECOND FORM's CARD OF 'laws.FnExactMountsValid'. -/
def fnExactMountsValidUptoCard : Claim7 := { stood := { row := fnExactMountsValidUptoRow, standIns := [], harness := (true, "0b54c4f8b462cb63c2a940657facc993387ea1287b9470c8cb9918d696ac7839"), looks := false }, kinds := [], alts := [], laidByText := true, laidKinds := [.data, .pinned], laidTests := true, laidLooks := .later }
def FnExactMountsValidUptoCardSaid : Prop := Claim7.holds Tryd.pinned (.plain (OpenSpec.upto fnExactMountsValidSpec)) fnExactMountsValidUptoCard
end Rows
end Go.Proofs.YtgpdblkaidllmaaDoor
