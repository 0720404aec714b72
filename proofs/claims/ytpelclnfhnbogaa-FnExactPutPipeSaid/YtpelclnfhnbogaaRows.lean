/-
  No cell of these rows narrows 'for every input' (looked for: loops, veiled, ifaces, maps, wideKeys, modest, calm, conditions, laid).
  DERIVED. THE GIVEN ROWS OF THIS SEAT. 19 by the template 'for every input the law returns true; each argument reads behind the call as it read before'; 0 by the template 'total and deterministic' (their statements: YtpelclnfhnbogaaTotals.lean).
  GIVEN WITH THE SEED: the statements are not yours to turn. If you find one false, say at which input.
  Laid BY PROGRAM, IN A SANDBOX (cutbox-rows.mjs): the forced cells as the released guide's own fill.sh prints them over the translation ee1d32e4ad6be2bd… (all of the seat's roots in one cut). By AI agents, Wed Nov 11 2026. No macro, syntax, notation, axiom, sorry.
-/
import Derived.Test.YtpelclnfhnbogaaChecked
import GoSem.Claim
import GoSem.ClaimJoined
import GoSem.ClaimMapViews
import Derived.JoinedTies
import Derived.KernelRfl
namespace Go.Proofs.Ytpelclnfhnbogaa
/- THE CELL 'sum', in the pinned program and in every row, IS THE sha256 OF THE DUMP (.gsa) THAT YtpelclnfhnbogaaProg.lean LOADS. Nothing in Lean hashes anything: it is a label: what it is worth is what the hold of that sum in a sandbox is worth. -/
noncomputable def Try.pinned : Pinned := { name := "ytpelclnfhnbogaa", sum := "ee1d32e4ad6be2bdf359dff6cd8b72d0ddb919ab67c38c365f687b907f861780", checked := Try.checked }
namespace Rows
def none {H : Type} : Left H := { results := [], args := [] }

/-- 'laws.FnExactSignalsValid': WHATEVER THE INPUT: true; the input reads as it did. -/
def fnExactSignalsValidSpec : ChangeSpec := { name := "fnExactSignalsValid", fn := fun _ => fun
  | [d] => { results := [.lit (.bool true)], args := [d] }
  | _ => none }
def fnExactSignalsValidRow : OpenClaim := { program := "ytpelclnfhnbogaa", sum := "ee1d32e4ad6be2bdf359dff6cd8b72d0ddb919ab67c38c365f687b907f861780", func := "loop.example/userspaces/laws.FnExactSignalsValid", spec := "fnExactSignalsValid", apart := false }
def FnExactSignalsValidSaid : Prop := fnExactSignalsValidRow.holds Try.pinned (OpenSpec.ofChange fnExactSignalsValidSpec)

/-- ITS FALSE NEIGHBOUR: 'it returns false'. Refute it at one input. -/
def fnExactSignalsValidWrong : ChangeSpec := { name := "fnExactSignalsValid", fn := fun _ => fun
  | [d] => { results := [.lit (.bool false)], args := [d] }
  | _ => none }
def FnExactSignalsValidWrongFalsely : Prop := fnExactSignalsValidRow.holds Try.pinned (OpenSpec.ofChange fnExactSignalsValidWrong)

/-- 'laws.FnExactPowersValid': WHATEVER THE INPUT: true; the input reads as it did. -/
def fnExactPowersValidSpec : ChangeSpec := { name := "fnExactPowersValid", fn := fun _ => fun
  | [d] => { results := [.lit (.bool true)], args := [d] }
  | _ => none }
def fnExactPowersValidRow : OpenClaim := { program := "ytpelclnfhnbogaa", sum := "ee1d32e4ad6be2bdf359dff6cd8b72d0ddb919ab67c38c365f687b907f861780", func := "loop.example/userspaces/laws.FnExactPowersValid", spec := "fnExactPowersValid", apart := false }
def FnExactPowersValidSaid : Prop := fnExactPowersValidRow.holds Try.pinned (OpenSpec.ofChange fnExactPowersValidSpec)

/-- ITS FALSE NEIGHBOUR: 'it returns false'. Refute it at one input. -/
def fnExactPowersValidWrong : ChangeSpec := { name := "fnExactPowersValid", fn := fun _ => fun
  | [d] => { results := [.lit (.bool false)], args := [d] }
  | _ => none }
def FnExactPowersValidWrongFalsely : Prop := fnExactPowersValidRow.holds Try.pinned (OpenSpec.ofChange fnExactPowersValidWrong)

/-- 'laws.FnExactPipeValid': WHATEVER THE INPUT: true; the input reads as it did. -/
def fnExactPipeValidSpec : ChangeSpec := { name := "fnExactPipeValid", fn := fun _ => fun
  | [d] => { results := [.lit (.bool true)], args := [d] }
  | _ => none }
def fnExactPipeValidRow : OpenClaim := { program := "ytpelclnfhnbogaa", sum := "ee1d32e4ad6be2bdf359dff6cd8b72d0ddb919ab67c38c365f687b907f861780", func := "loop.example/userspaces/laws.FnExactPipeValid", spec := "fnExactPipeValid", apart := false }
def FnExactPipeValidSaid : Prop := fnExactPipeValidRow.holds Try.pinned (OpenSpec.ofChange fnExactPipeValidSpec)

/-- ITS FALSE NEIGHBOUR: 'it returns false'. Refute it at one input. -/
def fnExactPipeValidWrong : ChangeSpec := { name := "fnExactPipeValid", fn := fun _ => fun
  | [d] => { results := [.lit (.bool false)], args := [d] }
  | _ => none }
def FnExactPipeValidWrongFalsely : Prop := fnExactPipeValidRow.holds Try.pinned (OpenSpec.ofChange fnExactPipeValidWrong)

/-- 'laws.FnExactMaySignal': WHATEVER THE INPUT: true; the input reads as it did. -/
def fnExactMaySignalSpec : ChangeSpec := { name := "fnExactMaySignal", fn := fun _ => fun
  | [d1, d2] => { results := [.lit (.bool true)], args := [d1, d2] }
  | _ => none }
def fnExactMaySignalRow : OpenClaim := { program := "ytpelclnfhnbogaa", sum := "ee1d32e4ad6be2bdf359dff6cd8b72d0ddb919ab67c38c365f687b907f861780", func := "loop.example/userspaces/laws.FnExactMaySignal", spec := "fnExactMaySignal", apart := false }
def FnExactMaySignalSaid : Prop := fnExactMaySignalRow.holds Try.pinned (OpenSpec.ofChange fnExactMaySignalSpec)

/-- ITS FALSE NEIGHBOUR: 'it returns false'. Refute it at one input. -/
def fnExactMaySignalWrong : ChangeSpec := { name := "fnExactMaySignal", fn := fun _ => fun
  | [d1, d2] => { results := [.lit (.bool false)], args := [d1, d2] }
  | _ => none }
def FnExactMaySignalWrongFalsely : Prop := fnExactMaySignalRow.holds Try.pinned (OpenSpec.ofChange fnExactMaySignalWrong)

/-- 'laws.FnExactHoldSignals': WHATEVER THE INPUT: true; the input reads as it did. -/
def fnExactHoldSignalsSpec : ChangeSpec := { name := "fnExactHoldSignals", fn := fun _ => fun
  | [d1, d2] => { results := [.lit (.bool true)], args := [d1, d2] }
  | _ => none }
def fnExactHoldSignalsRow : OpenClaim := { program := "ytpelclnfhnbogaa", sum := "ee1d32e4ad6be2bdf359dff6cd8b72d0ddb919ab67c38c365f687b907f861780", func := "loop.example/userspaces/laws.FnExactHoldSignals", spec := "fnExactHoldSignals", apart := false }
def FnExactHoldSignalsSaid : Prop := fnExactHoldSignalsRow.holds Try.pinned (OpenSpec.ofChange fnExactHoldSignalsSpec)

/-- ITS FALSE NEIGHBOUR: 'it returns false'. Refute it at one input. -/
def fnExactHoldSignalsWrong : ChangeSpec := { name := "fnExactHoldSignals", fn := fun _ => fun
  | [d1, d2] => { results := [.lit (.bool false)], args := [d1, d2] }
  | _ => none }
def FnExactHoldSignalsWrongFalsely : Prop := fnExactHoldSignalsRow.holds Try.pinned (OpenSpec.ofChange fnExactHoldSignalsWrong)

/-- 'laws.FnExactPutSignal': WHATEVER THE INPUT: true; the input reads as it did. -/
def fnExactPutSignalSpec : ChangeSpec := { name := "fnExactPutSignal", fn := fun _ => fun
  | [d1, d2] => { results := [.lit (.bool true)], args := [d1, d2] }
  | _ => none }
def fnExactPutSignalRow : OpenClaim := { program := "ytpelclnfhnbogaa", sum := "ee1d32e4ad6be2bdf359dff6cd8b72d0ddb919ab67c38c365f687b907f861780", func := "loop.example/userspaces/laws.FnExactPutSignal", spec := "fnExactPutSignal", apart := false }
def FnExactPutSignalSaid : Prop := fnExactPutSignalRow.holds Try.pinned (OpenSpec.ofChange fnExactPutSignalSpec)

/-- ITS FALSE NEIGHBOUR: 'it returns false'. Refute it at one input. -/
def fnExactPutSignalWrong : ChangeSpec := { name := "fnExactPutSignal", fn := fun _ => fun
  | [d1, d2] => { results := [.lit (.bool false)], args := [d1, d2] }
  | _ => none }
def FnExactPutSignalWrongFalsely : Prop := fnExactPutSignalRow.holds Try.pinned (OpenSpec.ofChange fnExactPutSignalWrong)

/-- 'laws.FnSignalsValid': WHATEVER THE INPUT: true; the input reads as it did. -/
def fnSignalsValidSpec : ChangeSpec := { name := "fnSignalsValid", fn := fun _ => fun
  | [d] => { results := [.lit (.bool true)], args := [d] }
  | _ => none }
def fnSignalsValidRow : OpenClaim := { program := "ytpelclnfhnbogaa", sum := "ee1d32e4ad6be2bdf359dff6cd8b72d0ddb919ab67c38c365f687b907f861780", func := "loop.example/userspaces/laws.FnSignalsValid", spec := "fnSignalsValid", apart := false }
def FnSignalsValidSaid : Prop := fnSignalsValidRow.holds Try.pinned (OpenSpec.ofChange fnSignalsValidSpec)

/-- ITS FALSE NEIGHBOUR: 'it returns false'. Refute it at one input. -/
def fnSignalsValidWrong : ChangeSpec := { name := "fnSignalsValid", fn := fun _ => fun
  | [d] => { results := [.lit (.bool false)], args := [d] }
  | _ => none }
def FnSignalsValidWrongFalsely : Prop := fnSignalsValidRow.holds Try.pinned (OpenSpec.ofChange fnSignalsValidWrong)

/-- 'laws.FnPipeValid': WHATEVER THE INPUT: true; the input reads as it did. -/
def fnPipeValidSpec : ChangeSpec := { name := "fnPipeValid", fn := fun _ => fun
  | [d] => { results := [.lit (.bool true)], args := [d] }
  | _ => none }
def fnPipeValidRow : OpenClaim := { program := "ytpelclnfhnbogaa", sum := "ee1d32e4ad6be2bdf359dff6cd8b72d0ddb919ab67c38c365f687b907f861780", func := "loop.example/userspaces/laws.FnPipeValid", spec := "fnPipeValid", apart := false }
def FnPipeValidSaid : Prop := fnPipeValidRow.holds Try.pinned (OpenSpec.ofChange fnPipeValidSpec)

/-- ITS FALSE NEIGHBOUR: 'it returns false'. Refute it at one input. -/
def fnPipeValidWrong : ChangeSpec := { name := "fnPipeValid", fn := fun _ => fun
  | [d] => { results := [.lit (.bool false)], args := [d] }
  | _ => none }
def FnPipeValidWrongFalsely : Prop := fnPipeValidRow.holds Try.pinned (OpenSpec.ofChange fnPipeValidWrong)

/-- 'laws.FnExactTakePipe': WHATEVER THE INPUT: true; the input reads as it did. -/
def fnExactTakePipeSpec : ChangeSpec := { name := "fnExactTakePipe", fn := fun _ => fun
  | [d1, d2] => { results := [.lit (.bool true)], args := [d1, d2] }
  | _ => none }
def fnExactTakePipeRow : OpenClaim := { program := "ytpelclnfhnbogaa", sum := "ee1d32e4ad6be2bdf359dff6cd8b72d0ddb919ab67c38c365f687b907f861780", func := "loop.example/userspaces/laws.FnExactTakePipe", spec := "fnExactTakePipe", apart := false }
def FnExactTakePipeSaid : Prop := fnExactTakePipeRow.holds Try.pinned (OpenSpec.ofChange fnExactTakePipeSpec)

/-- ITS FALSE NEIGHBOUR: 'it returns false'. Refute it at one input. -/
def fnExactTakePipeWrong : ChangeSpec := { name := "fnExactTakePipe", fn := fun _ => fun
  | [d1, d2] => { results := [.lit (.bool false)], args := [d1, d2] }
  | _ => none }
def FnExactTakePipeWrongFalsely : Prop := fnExactTakePipeRow.holds Try.pinned (OpenSpec.ofChange fnExactTakePipeWrong)

/-- 'laws.FnExactTakeSignal': WHATEVER THE INPUT: true; the input reads as it did. -/
def fnExactTakeSignalSpec : ChangeSpec := { name := "fnExactTakeSignal", fn := fun _ => fun
  | [d] => { results := [.lit (.bool true)], args := [d] }
  | _ => none }
def fnExactTakeSignalRow : OpenClaim := { program := "ytpelclnfhnbogaa", sum := "ee1d32e4ad6be2bdf359dff6cd8b72d0ddb919ab67c38c365f687b907f861780", func := "loop.example/userspaces/laws.FnExactTakeSignal", spec := "fnExactTakeSignal", apart := false }
def FnExactTakeSignalSaid : Prop := fnExactTakeSignalRow.holds Try.pinned (OpenSpec.ofChange fnExactTakeSignalSpec)

/-- ITS FALSE NEIGHBOUR: 'it returns false'. Refute it at one input. -/
def fnExactTakeSignalWrong : ChangeSpec := { name := "fnExactTakeSignal", fn := fun _ => fun
  | [d] => { results := [.lit (.bool false)], args := [d] }
  | _ => none }
def FnExactTakeSignalWrongFalsely : Prop := fnExactTakeSignalRow.holds Try.pinned (OpenSpec.ofChange fnExactTakeSignalWrong)

/-- 'laws.FnExactPutPipe': WHATEVER THE INPUT: true; the input reads as it did. -/
def fnExactPutPipeSpec : ChangeSpec := { name := "fnExactPutPipe", fn := fun _ => fun
  | [d1, d2] => { results := [.lit (.bool true)], args := [d1, d2] }
  | _ => none }
def fnExactPutPipeRow : OpenClaim := { program := "ytpelclnfhnbogaa", sum := "ee1d32e4ad6be2bdf359dff6cd8b72d0ddb919ab67c38c365f687b907f861780", func := "loop.example/userspaces/laws.FnExactPutPipe", spec := "fnExactPutPipe", apart := false }
def FnExactPutPipeSaid : Prop := fnExactPutPipeRow.holds Try.pinned (OpenSpec.ofChange fnExactPutPipeSpec)

/-- ITS FALSE NEIGHBOUR: 'it returns false'. Refute it at one input. -/
def fnExactPutPipeWrong : ChangeSpec := { name := "fnExactPutPipe", fn := fun _ => fun
  | [d1, d2] => { results := [.lit (.bool false)], args := [d1, d2] }
  | _ => none }
def FnExactPutPipeWrongFalsely : Prop := fnExactPutPipeRow.holds Try.pinned (OpenSpec.ofChange fnExactPutPipeWrong)

/-- 'laws.FnExactClosePipe': WHATEVER THE INPUT: true; the input reads as it did. -/
def fnExactClosePipeSpec : ChangeSpec := { name := "fnExactClosePipe", fn := fun _ => fun
  | [d1, d2] => { results := [.lit (.bool true)], args := [d1, d2] }
  | _ => none }
def fnExactClosePipeRow : OpenClaim := { program := "ytpelclnfhnbogaa", sum := "ee1d32e4ad6be2bdf359dff6cd8b72d0ddb919ab67c38c365f687b907f861780", func := "loop.example/userspaces/laws.FnExactClosePipe", spec := "fnExactClosePipe", apart := false }
def FnExactClosePipeSaid : Prop := fnExactClosePipeRow.holds Try.pinned (OpenSpec.ofChange fnExactClosePipeSpec)

/-- ITS FALSE NEIGHBOUR: 'it returns false'. Refute it at one input. -/
def fnExactClosePipeWrong : ChangeSpec := { name := "fnExactClosePipe", fn := fun _ => fun
  | [d1, d2] => { results := [.lit (.bool false)], args := [d1, d2] }
  | _ => none }
def FnExactClosePipeWrongFalsely : Prop := fnExactClosePipeRow.holds Try.pinned (OpenSpec.ofChange fnExactClosePipeWrong)

/-- 'laws.FnPutSignal': WHATEVER THE INPUT: true; the input reads as it did. -/
def fnPutSignalSpec : ChangeSpec := { name := "fnPutSignal", fn := fun _ => fun
  | [d] => { results := [.lit (.bool true)], args := [d] }
  | _ => none }
def fnPutSignalRow : OpenClaim := { program := "ytpelclnfhnbogaa", sum := "ee1d32e4ad6be2bdf359dff6cd8b72d0ddb919ab67c38c365f687b907f861780", func := "loop.example/userspaces/laws.FnPutSignal", spec := "fnPutSignal", apart := false }
def FnPutSignalSaid : Prop := fnPutSignalRow.holds Try.pinned (OpenSpec.ofChange fnPutSignalSpec)

/-- ITS FALSE NEIGHBOUR: 'it returns false'. Refute it at one input. -/
def fnPutSignalWrong : ChangeSpec := { name := "fnPutSignal", fn := fun _ => fun
  | [d] => { results := [.lit (.bool false)], args := [d] }
  | _ => none }
def FnPutSignalWrongFalsely : Prop := fnPutSignalRow.holds Try.pinned (OpenSpec.ofChange fnPutSignalWrong)

/-- 'laws.FnTakePipe': WHATEVER THE INPUT: true; the input reads as it did. -/
def fnTakePipeSpec : ChangeSpec := { name := "fnTakePipe", fn := fun _ => fun
  | [d] => { results := [.lit (.bool true)], args := [d] }
  | _ => none }
def fnTakePipeRow : OpenClaim := { program := "ytpelclnfhnbogaa", sum := "ee1d32e4ad6be2bdf359dff6cd8b72d0ddb919ab67c38c365f687b907f861780", func := "loop.example/userspaces/laws.FnTakePipe", spec := "fnTakePipe", apart := false }
def FnTakePipeSaid : Prop := fnTakePipeRow.holds Try.pinned (OpenSpec.ofChange fnTakePipeSpec)

/-- ITS FALSE NEIGHBOUR: 'it returns false'. Refute it at one input. -/
def fnTakePipeWrong : ChangeSpec := { name := "fnTakePipe", fn := fun _ => fun
  | [d] => { results := [.lit (.bool false)], args := [d] }
  | _ => none }
def FnTakePipeWrongFalsely : Prop := fnTakePipeRow.holds Try.pinned (OpenSpec.ofChange fnTakePipeWrong)

/-- 'laws.FnMaySignal': WHATEVER THE INPUT: true; the input reads as it did. -/
def fnMaySignalSpec : ChangeSpec := { name := "fnMaySignal", fn := fun _ => fun
  | [d] => { results := [.lit (.bool true)], args := [d] }
  | _ => none }
def fnMaySignalRow : OpenClaim := { program := "ytpelclnfhnbogaa", sum := "ee1d32e4ad6be2bdf359dff6cd8b72d0ddb919ab67c38c365f687b907f861780", func := "loop.example/userspaces/laws.FnMaySignal", spec := "fnMaySignal", apart := false }
def FnMaySignalSaid : Prop := fnMaySignalRow.holds Try.pinned (OpenSpec.ofChange fnMaySignalSpec)

/-- ITS FALSE NEIGHBOUR: 'it returns false'. Refute it at one input. -/
def fnMaySignalWrong : ChangeSpec := { name := "fnMaySignal", fn := fun _ => fun
  | [d] => { results := [.lit (.bool false)], args := [d] }
  | _ => none }
def FnMaySignalWrongFalsely : Prop := fnMaySignalRow.holds Try.pinned (OpenSpec.ofChange fnMaySignalWrong)

/-- 'laws.FnClosePipe': WHATEVER THE INPUT: true; the input reads as it did. -/
def fnClosePipeSpec : ChangeSpec := { name := "fnClosePipe", fn := fun _ => fun
  | [d] => { results := [.lit (.bool true)], args := [d] }
  | _ => none }
def fnClosePipeRow : OpenClaim := { program := "ytpelclnfhnbogaa", sum := "ee1d32e4ad6be2bdf359dff6cd8b72d0ddb919ab67c38c365f687b907f861780", func := "loop.example/userspaces/laws.FnClosePipe", spec := "fnClosePipe", apart := false }
def FnClosePipeSaid : Prop := fnClosePipeRow.holds Try.pinned (OpenSpec.ofChange fnClosePipeSpec)

/-- ITS FALSE NEIGHBOUR: 'it returns false'. Refute it at one input. -/
def fnClosePipeWrong : ChangeSpec := { name := "fnClosePipe", fn := fun _ => fun
  | [d] => { results := [.lit (.bool false)], args := [d] }
  | _ => none }
def FnClosePipeWrongFalsely : Prop := fnClosePipeRow.holds Try.pinned (OpenSpec.ofChange fnClosePipeWrong)

/-- 'laws.FnHoldSignals': WHATEVER THE INPUT: true; the input reads as it did. -/
def fnHoldSignalsSpec : ChangeSpec := { name := "fnHoldSignals", fn := fun _ => fun
  | [d] => { results := [.lit (.bool true)], args := [d] }
  | _ => none }
def fnHoldSignalsRow : OpenClaim := { program := "ytpelclnfhnbogaa", sum := "ee1d32e4ad6be2bdf359dff6cd8b72d0ddb919ab67c38c365f687b907f861780", func := "loop.example/userspaces/laws.FnHoldSignals", spec := "fnHoldSignals", apart := false }
def FnHoldSignalsSaid : Prop := fnHoldSignalsRow.holds Try.pinned (OpenSpec.ofChange fnHoldSignalsSpec)

/-- ITS FALSE NEIGHBOUR: 'it returns false'. Refute it at one input. -/
def fnHoldSignalsWrong : ChangeSpec := { name := "fnHoldSignals", fn := fun _ => fun
  | [d] => { results := [.lit (.bool false)], args := [d] }
  | _ => none }
def FnHoldSignalsWrongFalsely : Prop := fnHoldSignalsRow.holds Try.pinned (OpenSpec.ofChange fnHoldSignalsWrong)

/-- 'laws.FnPutPipe': WHATEVER THE INPUT: true; the input reads as it did. -/
def fnPutPipeSpec : ChangeSpec := { name := "fnPutPipe", fn := fun _ => fun
  | [d] => { results := [.lit (.bool true)], args := [d] }
  | _ => none }
def fnPutPipeRow : OpenClaim := { program := "ytpelclnfhnbogaa", sum := "ee1d32e4ad6be2bdf359dff6cd8b72d0ddb919ab67c38c365f687b907f861780", func := "loop.example/userspaces/laws.FnPutPipe", spec := "fnPutPipe", apart := false }
def FnPutPipeSaid : Prop := fnPutPipeRow.holds Try.pinned (OpenSpec.ofChange fnPutPipeSpec)

/-- ITS FALSE NEIGHBOUR: 'it returns false'. Refute it at one input. -/
def fnPutPipeWrong : ChangeSpec := { name := "fnPutPipe", fn := fun _ => fun
  | [d] => { results := [.lit (.bool false)], args := [d] }
  | _ => none }
def FnPutPipeWrongFalsely : Prop := fnPutPipeRow.holds Try.pinned (OpenSpec.ofChange fnPutPipeWrong)

/-- 'laws.FnTakeSignal': WHATEVER THE INPUT: true; the input reads as it did. -/
def fnTakeSignalSpec : ChangeSpec := { name := "fnTakeSignal", fn := fun _ => fun
  | [d] => { results := [.lit (.bool true)], args := [d] }
  | _ => none }
def fnTakeSignalRow : OpenClaim := { program := "ytpelclnfhnbogaa", sum := "ee1d32e4ad6be2bdf359dff6cd8b72d0ddb919ab67c38c365f687b907f861780", func := "loop.example/userspaces/laws.FnTakeSignal", spec := "fnTakeSignal", apart := false }
def FnTakeSignalSaid : Prop := fnTakeSignalRow.holds Try.pinned (OpenSpec.ofChange fnTakeSignalSpec)

/-- ITS FALSE NEIGHBOUR: 'it returns false'. Refute it at one input. -/
def fnTakeSignalWrong : ChangeSpec := { name := "fnTakeSignal", fn := fun _ => fun
  | [d] => { results := [.lit (.bool false)], args := [d] }
  | _ => none }
def FnTakeSignalWrongFalsely : Prop := fnTakeSignalRow.holds Try.pinned (OpenSpec.ofChange fnTakeSignalWrong)

/- THE SECOND FORM. 'bulk': how many values and letters a reading holds, each counted each time it is reached (what is shared counts as often as it is met; a slice's spare places count too). A statement '..UptoSaid' is the law's where the arguments, and the package variables that the reading takes, are together of bulk at most 1048576: NARROWER than '..Said'. Prove '..Said' where nothing that the law and all that it calls make is longer than what came in: it says more and counts as full. Else prove '..UptoSaid'. A law counts once. -/
mutual
def uptoBulk {H : Type} : DataW H → Nat
  | .lit (.string bytes) => bytes.length + 1
  | .lit _ => 1
  | .nil => 1
  | .ptr d => uptoBulk d + 1
  | .slice elems spare => uptoBulkAll elems + uptoBulkAll spare + 1
  | .agg parts => uptoBulkAll parts + 1
  | .iface _ d => uptoBulk d + 1
  | .map entries => uptoBulkEntries entries + 1
  | .held _ => 1
def uptoBulkAll {H : Type} : List (DataW H) → Nat
  | [] => 0
  | d :: r => uptoBulk d + uptoBulkAll r
def uptoBulkEntries {H : Type} : List (Lit × DataW H) → Nat
  | [] => 0
  | x :: r => uptoBulkEntry x + uptoBulkEntries r
def uptoBulkEntry {H : Type} : Lit × DataW H → Nat
  | (.string bytes, d) => bytes.length + uptoBulk d + 1
  | (_, d) => uptoBulk d + 1
 end
def uptoSmall : (H : Type) → List (DataW H) → Bool := fun _ ds => decide (uptoBulkAll ds ≤ 1048576)
def OpenSpec.upto (s : _root_.Go.ChangeSpec) : _root_.Go.OpenSpec := { _root_.Go.OpenSpec.ofChange s with cond := some uptoSmall }

/-- 'laws.FnExactSignalsValid', WHERE WHAT IT READS IS OF BULK AT MOST 1048576: true; the input reads as it did. -/
def fnExactSignalsValidUptoRow : OpenClaim := { program := "ytpelclnfhnbogaa", sum := "ee1d32e4ad6be2bdf359dff6cd8b72d0ddb919ab67c38c365f687b907f861780", func := "loop.example/userspaces/laws.FnExactSignalsValid", spec := "fnExactSignalsValid", apart := false, narrowed := true }
def FnExactSignalsValidUptoSaid : Prop := fnExactSignalsValidUptoRow.holds Try.pinned (OpenSpec.upto fnExactSignalsValidSpec)

/-- 'laws.FnExactPowersValid', WHERE WHAT IT READS IS OF BULK AT MOST 1048576: true; the input reads as it did. -/
def fnExactPowersValidUptoRow : OpenClaim := { program := "ytpelclnfhnbogaa", sum := "ee1d32e4ad6be2bdf359dff6cd8b72d0ddb919ab67c38c365f687b907f861780", func := "loop.example/userspaces/laws.FnExactPowersValid", spec := "fnExactPowersValid", apart := false, narrowed := true }
def FnExactPowersValidUptoSaid : Prop := fnExactPowersValidUptoRow.holds Try.pinned (OpenSpec.upto fnExactPowersValidSpec)

/-- 'laws.FnExactPipeValid', WHERE WHAT IT READS IS OF BULK AT MOST 1048576: true; the input reads as it did. -/
def fnExactPipeValidUptoRow : OpenClaim := { program := "ytpelclnfhnbogaa", sum := "ee1d32e4ad6be2bdf359dff6cd8b72d0ddb919ab67c38c365f687b907f861780", func := "loop.example/userspaces/laws.FnExactPipeValid", spec := "fnExactPipeValid", apart := false, narrowed := true }
def FnExactPipeValidUptoSaid : Prop := fnExactPipeValidUptoRow.holds Try.pinned (OpenSpec.upto fnExactPipeValidSpec)

/-- 'laws.FnExactMaySignal', WHERE WHAT IT READS IS OF BULK AT MOST 1048576: true; the input reads as it did. -/
def fnExactMaySignalUptoRow : OpenClaim := { program := "ytpelclnfhnbogaa", sum := "ee1d32e4ad6be2bdf359dff6cd8b72d0ddb919ab67c38c365f687b907f861780", func := "loop.example/userspaces/laws.FnExactMaySignal", spec := "fnExactMaySignal", apart := false, narrowed := true }
def FnExactMaySignalUptoSaid : Prop := fnExactMaySignalUptoRow.holds Try.pinned (OpenSpec.upto fnExactMaySignalSpec)

/-- 'laws.FnExactHoldSignals', WHERE WHAT IT READS IS OF BULK AT MOST 1048576: true; the input reads as it did. -/
def fnExactHoldSignalsUptoRow : OpenClaim := { program := "ytpelclnfhnbogaa", sum := "ee1d32e4ad6be2bdf359dff6cd8b72d0ddb919ab67c38c365f687b907f861780", func := "loop.example/userspaces/laws.FnExactHoldSignals", spec := "fnExactHoldSignals", apart := false, narrowed := true }
def FnExactHoldSignalsUptoSaid : Prop := fnExactHoldSignalsUptoRow.holds Try.pinned (OpenSpec.upto fnExactHoldSignalsSpec)

/-- 'laws.FnExactPutSignal', WHERE WHAT IT READS IS OF BULK AT MOST 1048576: true; the input reads as it did. -/
def fnExactPutSignalUptoRow : OpenClaim := { program := "ytpelclnfhnbogaa", sum := "ee1d32e4ad6be2bdf359dff6cd8b72d0ddb919ab67c38c365f687b907f861780", func := "loop.example/userspaces/laws.FnExactPutSignal", spec := "fnExactPutSignal", apart := false, narrowed := true }
def FnExactPutSignalUptoSaid : Prop := fnExactPutSignalUptoRow.holds Try.pinned (OpenSpec.upto fnExactPutSignalSpec)

/-- 'laws.FnSignalsValid', WHERE WHAT IT READS IS OF BULK AT MOST 1048576: true; the input reads as it did. -/
def fnSignalsValidUptoRow : OpenClaim := { program := "ytpelclnfhnbogaa", sum := "ee1d32e4ad6be2bdf359dff6cd8b72d0ddb919ab67c38c365f687b907f861780", func := "loop.example/userspaces/laws.FnSignalsValid", spec := "fnSignalsValid", apart := false, narrowed := true }
def FnSignalsValidUptoSaid : Prop := fnSignalsValidUptoRow.holds Try.pinned (OpenSpec.upto fnSignalsValidSpec)

/-- 'laws.FnPipeValid', WHERE WHAT IT READS IS OF BULK AT MOST 1048576: true; the input reads as it did. -/
def fnPipeValidUptoRow : OpenClaim := { program := "ytpelclnfhnbogaa", sum := "ee1d32e4ad6be2bdf359dff6cd8b72d0ddb919ab67c38c365f687b907f861780", func := "loop.example/userspaces/laws.FnPipeValid", spec := "fnPipeValid", apart := false, narrowed := true }
def FnPipeValidUptoSaid : Prop := fnPipeValidUptoRow.holds Try.pinned (OpenSpec.upto fnPipeValidSpec)

/-- 'laws.FnExactTakePipe', WHERE WHAT IT READS IS OF BULK AT MOST 1048576: true; the input reads as it did. -/
def fnExactTakePipeUptoRow : OpenClaim := { program := "ytpelclnfhnbogaa", sum := "ee1d32e4ad6be2bdf359dff6cd8b72d0ddb919ab67c38c365f687b907f861780", func := "loop.example/userspaces/laws.FnExactTakePipe", spec := "fnExactTakePipe", apart := false, narrowed := true }
def FnExactTakePipeUptoSaid : Prop := fnExactTakePipeUptoRow.holds Try.pinned (OpenSpec.upto fnExactTakePipeSpec)

/-- 'laws.FnExactTakeSignal', WHERE WHAT IT READS IS OF BULK AT MOST 1048576: true; the input reads as it did. -/
def fnExactTakeSignalUptoRow : OpenClaim := { program := "ytpelclnfhnbogaa", sum := "ee1d32e4ad6be2bdf359dff6cd8b72d0ddb919ab67c38c365f687b907f861780", func := "loop.example/userspaces/laws.FnExactTakeSignal", spec := "fnExactTakeSignal", apart := false, narrowed := true }
def FnExactTakeSignalUptoSaid : Prop := fnExactTakeSignalUptoRow.holds Try.pinned (OpenSpec.upto fnExactTakeSignalSpec)

/-- 'laws.FnExactPutPipe', WHERE WHAT IT READS IS OF BULK AT MOST 1048576: true; the input reads as it did. -/
def fnExactPutPipeUptoRow : OpenClaim := { program := "ytpelclnfhnbogaa", sum := "ee1d32e4ad6be2bdf359dff6cd8b72d0ddb919ab67c38c365f687b907f861780", func := "loop.example/userspaces/laws.FnExactPutPipe", spec := "fnExactPutPipe", apart := false, narrowed := true }
def FnExactPutPipeUptoSaid : Prop := fnExactPutPipeUptoRow.holds Try.pinned (OpenSpec.upto fnExactPutPipeSpec)

/-- 'laws.FnExactClosePipe', WHERE WHAT IT READS IS OF BULK AT MOST 1048576: true; the input reads as it did. -/
def fnExactClosePipeUptoRow : OpenClaim := { program := "ytpelclnfhnbogaa", sum := "ee1d32e4ad6be2bdf359dff6cd8b72d0ddb919ab67c38c365f687b907f861780", func := "loop.example/userspaces/laws.FnExactClosePipe", spec := "fnExactClosePipe", apart := false, narrowed := true }
def FnExactClosePipeUptoSaid : Prop := fnExactClosePipeUptoRow.holds Try.pinned (OpenSpec.upto fnExactClosePipeSpec)

/-- 'laws.FnPutSignal', WHERE WHAT IT READS IS OF BULK AT MOST 1048576: true; the input reads as it did. -/
def fnPutSignalUptoRow : OpenClaim := { program := "ytpelclnfhnbogaa", sum := "ee1d32e4ad6be2bdf359dff6cd8b72d0ddb919ab67c38c365f687b907f861780", func := "loop.example/userspaces/laws.FnPutSignal", spec := "fnPutSignal", apart := false, narrowed := true }
def FnPutSignalUptoSaid : Prop := fnPutSignalUptoRow.holds Try.pinned (OpenSpec.upto fnPutSignalSpec)

/-- 'laws.FnTakePipe', WHERE WHAT IT READS IS OF BULK AT MOST 1048576: true; the input reads as it did. -/
def fnTakePipeUptoRow : OpenClaim := { program := "ytpelclnfhnbogaa", sum := "ee1d32e4ad6be2bdf359dff6cd8b72d0ddb919ab67c38c365f687b907f861780", func := "loop.example/userspaces/laws.FnTakePipe", spec := "fnTakePipe", apart := false, narrowed := true }
def FnTakePipeUptoSaid : Prop := fnTakePipeUptoRow.holds Try.pinned (OpenSpec.upto fnTakePipeSpec)

/-- 'laws.FnMaySignal', WHERE WHAT IT READS IS OF BULK AT MOST 1048576: true; the input reads as it did. -/
def fnMaySignalUptoRow : OpenClaim := { program := "ytpelclnfhnbogaa", sum := "ee1d32e4ad6be2bdf359dff6cd8b72d0ddb919ab67c38c365f687b907f861780", func := "loop.example/userspaces/laws.FnMaySignal", spec := "fnMaySignal", apart := false, narrowed := true }
def FnMaySignalUptoSaid : Prop := fnMaySignalUptoRow.holds Try.pinned (OpenSpec.upto fnMaySignalSpec)

/-- 'laws.FnClosePipe', WHERE WHAT IT READS IS OF BULK AT MOST 1048576: true; the input reads as it did. -/
def fnClosePipeUptoRow : OpenClaim := { program := "ytpelclnfhnbogaa", sum := "ee1d32e4ad6be2bdf359dff6cd8b72d0ddb919ab67c38c365f687b907f861780", func := "loop.example/userspaces/laws.FnClosePipe", spec := "fnClosePipe", apart := false, narrowed := true }
def FnClosePipeUptoSaid : Prop := fnClosePipeUptoRow.holds Try.pinned (OpenSpec.upto fnClosePipeSpec)

/-- 'laws.FnHoldSignals', WHERE WHAT IT READS IS OF BULK AT MOST 1048576: true; the input reads as it did. -/
def fnHoldSignalsUptoRow : OpenClaim := { program := "ytpelclnfhnbogaa", sum := "ee1d32e4ad6be2bdf359dff6cd8b72d0ddb919ab67c38c365f687b907f861780", func := "loop.example/userspaces/laws.FnHoldSignals", spec := "fnHoldSignals", apart := false, narrowed := true }
def FnHoldSignalsUptoSaid : Prop := fnHoldSignalsUptoRow.holds Try.pinned (OpenSpec.upto fnHoldSignalsSpec)

/-- 'laws.FnPutPipe', WHERE WHAT IT READS IS OF BULK AT MOST 1048576: true; the input reads as it did. -/
def fnPutPipeUptoRow : OpenClaim := { program := "ytpelclnfhnbogaa", sum := "ee1d32e4ad6be2bdf359dff6cd8b72d0ddb919ab67c38c365f687b907f861780", func := "loop.example/userspaces/laws.FnPutPipe", spec := "fnPutPipe", apart := false, narrowed := true }
def FnPutPipeUptoSaid : Prop := fnPutPipeUptoRow.holds Try.pinned (OpenSpec.upto fnPutPipeSpec)

/-- 'laws.FnTakeSignal', WHERE WHAT IT READS IS OF BULK AT MOST 1048576: true; the input reads as it did. -/
def fnTakeSignalUptoRow : OpenClaim := { program := "ytpelclnfhnbogaa", sum := "ee1d32e4ad6be2bdf359dff6cd8b72d0ddb919ab67c38c365f687b907f861780", func := "loop.example/userspaces/laws.FnTakeSignal", spec := "fnTakeSignal", apart := false, narrowed := true }
def FnTakeSignalUptoSaid : Prop := fnTakeSignalUptoRow.holds Try.pinned (OpenSpec.upto fnTakeSignalSpec)

end Rows
end Go.Proofs.Ytpelclnfhnbogaa
