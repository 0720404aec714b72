/-
  No cell of these rows narrows 'for every input' (looked for: loops, veiled, ifaces, maps, wideKeys, modest, calm, conditions, laid).
  DERIVED. THE GIVEN ROWS OF THIS SEAT. 9 by the template 'for every input the law returns true; each argument reads behind the call as it read before'; 0 by the template 'total and deterministic' (their statements: YtheblgfgcmkdiaaTotals.lean).
  GIVEN WITH THE SEED: the statements are not yours to turn. If you find one false, say at which input.
  Laid BY PROGRAM, IN A SANDBOX (cutbox-rows.mjs): the forced cells as the released guide's own fill.sh prints them over the translation 6fa5ad431951479c… (all of the seat's roots in one cut). By AI agents, Wed Nov 11 2026. No macro, syntax, notation, axiom, sorry.
-/
import Derived.Test.YtheblgfgcmkdiaaChecked
import GoSem.Claim
import GoSem.ClaimJoined
import GoSem.ClaimMapViews
import Derived.JoinedTies
import Derived.KernelRfl
namespace Go.Proofs.Ytheblgfgcmkdiaa
/- THE CELL 'sum', in the pinned program and in every row, IS THE sha256 OF THE DUMP (.gsa) THAT YtheblgfgcmkdiaaProg.lean LOADS. Nothing in Lean hashes anything: it is a label: what it is worth is what the hold of that sum in a sandbox is worth. -/
noncomputable def Try.pinned : Pinned := { name := "ytheblgfgcmkdiaa", sum := "6fa5ad431951479c09775826a5a3dcc34a4f691a8eb3e2184bf48f6226ff9bb4", checked := Try.checked }
namespace Rows
def none {H : Type} : Left H := { results := [], args := [] }

/-- 'laws.FnSignalsValid': WHATEVER THE INPUT: true; the input reads as it did. -/
def fnSignalsValidSpec : ChangeSpec := { name := "fnSignalsValid", fn := fun _ => fun
  | [d] => { results := [.lit (.bool true)], args := [d] }
  | _ => none }
def fnSignalsValidRow : OpenClaim := { program := "ytheblgfgcmkdiaa", sum := "6fa5ad431951479c09775826a5a3dcc34a4f691a8eb3e2184bf48f6226ff9bb4", func := "loop.example/userspaces/laws.FnSignalsValid", spec := "fnSignalsValid", apart := false }
def FnSignalsValidSaid : Prop := fnSignalsValidRow.holds Try.pinned (OpenSpec.ofChange fnSignalsValidSpec)

/-- ITS FALSE NEIGHBOUR: 'it returns false'. Refute it at one input. -/
def fnSignalsValidWrong : ChangeSpec := { name := "fnSignalsValid", fn := fun _ => fun
  | [d] => { results := [.lit (.bool false)], args := [d] }
  | _ => none }
def FnSignalsValidWrongFalsely : Prop := fnSignalsValidRow.holds Try.pinned (OpenSpec.ofChange fnSignalsValidWrong)

/-- 'laws.FnPipeValid': WHATEVER THE INPUT: true; the input reads as it did. -/
def fnPipeValidSpec : ChangeSpec := { name := "fnPipeValid", fn := fun _ => fun
  | [d] => { results := [.lit (.bool true)], args := [d] }
  | _ => none }
def fnPipeValidRow : OpenClaim := { program := "ytheblgfgcmkdiaa", sum := "6fa5ad431951479c09775826a5a3dcc34a4f691a8eb3e2184bf48f6226ff9bb4", func := "loop.example/userspaces/laws.FnPipeValid", spec := "fnPipeValid", apart := false }
def FnPipeValidSaid : Prop := fnPipeValidRow.holds Try.pinned (OpenSpec.ofChange fnPipeValidSpec)

/-- ITS FALSE NEIGHBOUR: 'it returns false'. Refute it at one input. -/
def fnPipeValidWrong : ChangeSpec := { name := "fnPipeValid", fn := fun _ => fun
  | [d] => { results := [.lit (.bool false)], args := [d] }
  | _ => none }
def FnPipeValidWrongFalsely : Prop := fnPipeValidRow.holds Try.pinned (OpenSpec.ofChange fnPipeValidWrong)

/-- 'laws.FnPutSignal': WHATEVER THE INPUT: true; the input reads as it did. -/
def fnPutSignalSpec : ChangeSpec := { name := "fnPutSignal", fn := fun _ => fun
  | [d] => { results := [.lit (.bool true)], args := [d] }
  | _ => none }
def fnPutSignalRow : OpenClaim := { program := "ytheblgfgcmkdiaa", sum := "6fa5ad431951479c09775826a5a3dcc34a4f691a8eb3e2184bf48f6226ff9bb4", func := "loop.example/userspaces/laws.FnPutSignal", spec := "fnPutSignal", apart := false }
def FnPutSignalSaid : Prop := fnPutSignalRow.holds Try.pinned (OpenSpec.ofChange fnPutSignalSpec)

/-- ITS FALSE NEIGHBOUR: 'it returns false'. Refute it at one input. -/
def fnPutSignalWrong : ChangeSpec := { name := "fnPutSignal", fn := fun _ => fun
  | [d] => { results := [.lit (.bool false)], args := [d] }
  | _ => none }
def FnPutSignalWrongFalsely : Prop := fnPutSignalRow.holds Try.pinned (OpenSpec.ofChange fnPutSignalWrong)

/-- 'laws.FnTakePipe': WHATEVER THE INPUT: true; the input reads as it did. -/
def fnTakePipeSpec : ChangeSpec := { name := "fnTakePipe", fn := fun _ => fun
  | [d] => { results := [.lit (.bool true)], args := [d] }
  | _ => none }
def fnTakePipeRow : OpenClaim := { program := "ytheblgfgcmkdiaa", sum := "6fa5ad431951479c09775826a5a3dcc34a4f691a8eb3e2184bf48f6226ff9bb4", func := "loop.example/userspaces/laws.FnTakePipe", spec := "fnTakePipe", apart := false }
def FnTakePipeSaid : Prop := fnTakePipeRow.holds Try.pinned (OpenSpec.ofChange fnTakePipeSpec)

/-- ITS FALSE NEIGHBOUR: 'it returns false'. Refute it at one input. -/
def fnTakePipeWrong : ChangeSpec := { name := "fnTakePipe", fn := fun _ => fun
  | [d] => { results := [.lit (.bool false)], args := [d] }
  | _ => none }
def FnTakePipeWrongFalsely : Prop := fnTakePipeRow.holds Try.pinned (OpenSpec.ofChange fnTakePipeWrong)

/-- 'laws.FnMaySignal': WHATEVER THE INPUT: true; the input reads as it did. -/
def fnMaySignalSpec : ChangeSpec := { name := "fnMaySignal", fn := fun _ => fun
  | [d] => { results := [.lit (.bool true)], args := [d] }
  | _ => none }
def fnMaySignalRow : OpenClaim := { program := "ytheblgfgcmkdiaa", sum := "6fa5ad431951479c09775826a5a3dcc34a4f691a8eb3e2184bf48f6226ff9bb4", func := "loop.example/userspaces/laws.FnMaySignal", spec := "fnMaySignal", apart := false }
def FnMaySignalSaid : Prop := fnMaySignalRow.holds Try.pinned (OpenSpec.ofChange fnMaySignalSpec)

/-- ITS FALSE NEIGHBOUR: 'it returns false'. Refute it at one input. -/
def fnMaySignalWrong : ChangeSpec := { name := "fnMaySignal", fn := fun _ => fun
  | [d] => { results := [.lit (.bool false)], args := [d] }
  | _ => none }
def FnMaySignalWrongFalsely : Prop := fnMaySignalRow.holds Try.pinned (OpenSpec.ofChange fnMaySignalWrong)

/-- 'laws.FnClosePipe': WHATEVER THE INPUT: true; the input reads as it did. -/
def fnClosePipeSpec : ChangeSpec := { name := "fnClosePipe", fn := fun _ => fun
  | [d] => { results := [.lit (.bool true)], args := [d] }
  | _ => none }
def fnClosePipeRow : OpenClaim := { program := "ytheblgfgcmkdiaa", sum := "6fa5ad431951479c09775826a5a3dcc34a4f691a8eb3e2184bf48f6226ff9bb4", func := "loop.example/userspaces/laws.FnClosePipe", spec := "fnClosePipe", apart := false }
def FnClosePipeSaid : Prop := fnClosePipeRow.holds Try.pinned (OpenSpec.ofChange fnClosePipeSpec)

/-- ITS FALSE NEIGHBOUR: 'it returns false'. Refute it at one input. -/
def fnClosePipeWrong : ChangeSpec := { name := "fnClosePipe", fn := fun _ => fun
  | [d] => { results := [.lit (.bool false)], args := [d] }
  | _ => none }
def FnClosePipeWrongFalsely : Prop := fnClosePipeRow.holds Try.pinned (OpenSpec.ofChange fnClosePipeWrong)

/-- 'laws.FnHoldSignals': WHATEVER THE INPUT: true; the input reads as it did. -/
def fnHoldSignalsSpec : ChangeSpec := { name := "fnHoldSignals", fn := fun _ => fun
  | [d] => { results := [.lit (.bool true)], args := [d] }
  | _ => none }
def fnHoldSignalsRow : OpenClaim := { program := "ytheblgfgcmkdiaa", sum := "6fa5ad431951479c09775826a5a3dcc34a4f691a8eb3e2184bf48f6226ff9bb4", func := "loop.example/userspaces/laws.FnHoldSignals", spec := "fnHoldSignals", apart := false }
def FnHoldSignalsSaid : Prop := fnHoldSignalsRow.holds Try.pinned (OpenSpec.ofChange fnHoldSignalsSpec)

/-- ITS FALSE NEIGHBOUR: 'it returns false'. Refute it at one input. -/
def fnHoldSignalsWrong : ChangeSpec := { name := "fnHoldSignals", fn := fun _ => fun
  | [d] => { results := [.lit (.bool false)], args := [d] }
  | _ => none }
def FnHoldSignalsWrongFalsely : Prop := fnHoldSignalsRow.holds Try.pinned (OpenSpec.ofChange fnHoldSignalsWrong)

/-- 'laws.FnPutPipe': WHATEVER THE INPUT: true; the input reads as it did. -/
def fnPutPipeSpec : ChangeSpec := { name := "fnPutPipe", fn := fun _ => fun
  | [d] => { results := [.lit (.bool true)], args := [d] }
  | _ => none }
def fnPutPipeRow : OpenClaim := { program := "ytheblgfgcmkdiaa", sum := "6fa5ad431951479c09775826a5a3dcc34a4f691a8eb3e2184bf48f6226ff9bb4", func := "loop.example/userspaces/laws.FnPutPipe", spec := "fnPutPipe", apart := false }
def FnPutPipeSaid : Prop := fnPutPipeRow.holds Try.pinned (OpenSpec.ofChange fnPutPipeSpec)

/-- ITS FALSE NEIGHBOUR: 'it returns false'. Refute it at one input. -/
def fnPutPipeWrong : ChangeSpec := { name := "fnPutPipe", fn := fun _ => fun
  | [d] => { results := [.lit (.bool false)], args := [d] }
  | _ => none }
def FnPutPipeWrongFalsely : Prop := fnPutPipeRow.holds Try.pinned (OpenSpec.ofChange fnPutPipeWrong)

/-- 'laws.FnTakeSignal': WHATEVER THE INPUT: true; the input reads as it did. -/
def fnTakeSignalSpec : ChangeSpec := { name := "fnTakeSignal", fn := fun _ => fun
  | [d] => { results := [.lit (.bool true)], args := [d] }
  | _ => none }
def fnTakeSignalRow : OpenClaim := { program := "ytheblgfgcmkdiaa", sum := "6fa5ad431951479c09775826a5a3dcc34a4f691a8eb3e2184bf48f6226ff9bb4", func := "loop.example/userspaces/laws.FnTakeSignal", spec := "fnTakeSignal", apart := false }
def FnTakeSignalSaid : Prop := fnTakeSignalRow.holds Try.pinned (OpenSpec.ofChange fnTakeSignalSpec)

/-- ITS FALSE NEIGHBOUR: 'it returns false'. Refute it at one input. -/
def fnTakeSignalWrong : ChangeSpec := { name := "fnTakeSignal", fn := fun _ => fun
  | [d] => { results := [.lit (.bool false)], args := [d] }
  | _ => none }
def FnTakeSignalWrongFalsely : Prop := fnTakeSignalRow.holds Try.pinned (OpenSpec.ofChange fnTakeSignalWrong)

/- THE SECOND FORM. 'bulk': how many values and letters a reading holds, each counted each time it is reached (what is shared counts as often as it is met; a slice's spare places count too). A statement '..UptoSaid' is the law's where the arguments, and the package variables that the reading takes, are together of bulk at most 1048576: NARROWER than '..Said'. Prove '..Said' where nothing that the law and all that it calls make is longer than what came in: it says more and counts as full. Else prove '..UptoSaid'. A law counts once. -/
mutual
def uptoBulk {H : Type} : DataW H → Nat
  | .lit (.string bytes) => bytes.length + 1
  | .lit _ => 1
  | .nil => 1
  | .ptr d => uptoBulk d + 1
  | .slice elems spare => uptoBulkAll elems + uptoBulkAll spare + 1
  | .agg parts => uptoBulkAll parts + 1
  | .iface _ d => uptoBulk d + 1
  | .map entries => uptoBulkEntries entries + 1
  | .held _ => 1
def uptoBulkAll {H : Type} : List (DataW H) → Nat
  | [] => 0
  | d :: r => uptoBulk d + uptoBulkAll r
def uptoBulkEntries {H : Type} : List (Lit × DataW H) → Nat
  | [] => 0
  | x :: r => uptoBulkEntry x + uptoBulkEntries r
def uptoBulkEntry {H : Type} : Lit × DataW H → Nat
  | (.string bytes, d) => bytes.length + uptoBulk d + 1
  | (_, d) => uptoBulk d + 1
 end
def uptoSmall : (H : Type) → List (DataW H) → Bool := fun _ ds => decide (uptoBulkAll ds ≤ 1048576)
def OpenSpec.upto (s : _root_.Go.ChangeSpec) : _root_.Go.OpenSpec := { _root_.Go.OpenSpec.ofChange s with cond := some uptoSmall }

/-- 'laws.FnSignalsValid', WHERE WHAT IT READS IS OF BULK AT MOST 1048576: true; the input reads as it did. -/
def fnSignalsValidUptoRow : OpenClaim := { program := "ytheblgfgcmkdiaa", sum := "6fa5ad431951479c09775826a5a3dcc34a4f691a8eb3e2184bf48f6226ff9bb4", func := "loop.example/userspaces/laws.FnSignalsValid", spec := "fnSignalsValid", apart := false, narrowed := true }
def FnSignalsValidUptoSaid : Prop := fnSignalsValidUptoRow.holds Try.pinned (OpenSpec.upto fnSignalsValidSpec)

/-- 'laws.FnPipeValid', WHERE WHAT IT READS IS OF BULK AT MOST 1048576: true; the input reads as it did. -/
def fnPipeValidUptoRow : OpenClaim := { program := "ytheblgfgcmkdiaa", sum := "6fa5ad431951479c09775826a5a3dcc34a4f691a8eb3e2184bf48f6226ff9bb4", func := "loop.example/userspaces/laws.FnPipeValid", spec := "fnPipeValid", apart := false, narrowed := true }
def FnPipeValidUptoSaid : Prop := fnPipeValidUptoRow.holds Try.pinned (OpenSpec.upto fnPipeValidSpec)

/-- 'laws.FnPutSignal', WHERE WHAT IT READS IS OF BULK AT MOST 1048576: true; the input reads as it did. -/
def fnPutSignalUptoRow : OpenClaim := { program := "ytheblgfgcmkdiaa", sum := "6fa5ad431951479c09775826a5a3dcc34a4f691a8eb3e2184bf48f6226ff9bb4", func := "loop.example/userspaces/laws.FnPutSignal", spec := "fnPutSignal", apart := false, narrowed := true }
def FnPutSignalUptoSaid : Prop := fnPutSignalUptoRow.holds Try.pinned (OpenSpec.upto fnPutSignalSpec)

/-- 'laws.FnTakePipe', WHERE WHAT IT READS IS OF BULK AT MOST 1048576: true; the input reads as it did. -/
def fnTakePipeUptoRow : OpenClaim := { program := "ytheblgfgcmkdiaa", sum := "6fa5ad431951479c09775826a5a3dcc34a4f691a8eb3e2184bf48f6226ff9bb4", func := "loop.example/userspaces/laws.FnTakePipe", spec := "fnTakePipe", apart := false, narrowed := true }
def FnTakePipeUptoSaid : Prop := fnTakePipeUptoRow.holds Try.pinned (OpenSpec.upto fnTakePipeSpec)

/-- 'laws.FnMaySignal', WHERE WHAT IT READS IS OF BULK AT MOST 1048576: true; the input reads as it did. -/
def fnMaySignalUptoRow : OpenClaim := { program := "ytheblgfgcmkdiaa", sum := "6fa5ad431951479c09775826a5a3dcc34a4f691a8eb3e2184bf48f6226ff9bb4", func := "loop.example/userspaces/laws.FnMaySignal", spec := "fnMaySignal", apart := false, narrowed := true }
def FnMaySignalUptoSaid : Prop := fnMaySignalUptoRow.holds Try.pinned (OpenSpec.upto fnMaySignalSpec)

/-- 'laws.FnClosePipe', WHERE WHAT IT READS IS OF BULK AT MOST 1048576: true; the input reads as it did. -/
def fnClosePipeUptoRow : OpenClaim := { program := "ytheblgfgcmkdiaa", sum := "6fa5ad431951479c09775826a5a3dcc34a4f691a8eb3e2184bf48f6226ff9bb4", func := "loop.example/userspaces/laws.FnClosePipe", spec := "fnClosePipe", apart := false, narrowed := true }
def FnClosePipeUptoSaid : Prop := fnClosePipeUptoRow.holds Try.pinned (OpenSpec.upto fnClosePipeSpec)

/-- 'laws.FnHoldSignals', WHERE WHAT IT READS IS OF BULK AT MOST 1048576: true; the input reads as it did. -/
def fnHoldSignalsUptoRow : OpenClaim := { program := "ytheblgfgcmkdiaa", sum := "6fa5ad431951479c09775826a5a3dcc34a4f691a8eb3e2184bf48f6226ff9bb4", func := "loop.example/userspaces/laws.FnHoldSignals", spec := "fnHoldSignals", apart := false, narrowed := true }
def FnHoldSignalsUptoSaid : Prop := fnHoldSignalsUptoRow.holds Try.pinned (OpenSpec.upto fnHoldSignalsSpec)

/-- 'laws.FnPutPipe', WHERE WHAT IT READS IS OF BULK AT MOST 1048576: true; the input reads as it did. -/
def fnPutPipeUptoRow : OpenClaim := { program := "ytheblgfgcmkdiaa", sum := "6fa5ad431951479c09775826a5a3dcc34a4f691a8eb3e2184bf48f6226ff9bb4", func := "loop.example/userspaces/laws.FnPutPipe", spec := "fnPutPipe", apart := false, narrowed := true }
def FnPutPipeUptoSaid : Prop := fnPutPipeUptoRow.holds Try.pinned (OpenSpec.upto fnPutPipeSpec)

/-- 'laws.FnTakeSignal', WHERE WHAT IT READS IS OF BULK AT MOST 1048576: true; the input reads as it did. -/
def fnTakeSignalUptoRow : OpenClaim := { program := "ytheblgfgcmkdiaa", sum := "6fa5ad431951479c09775826a5a3dcc34a4f691a8eb3e2184bf48f6226ff9bb4", func := "loop.example/userspaces/laws.FnTakeSignal", spec := "fnTakeSignal", apart := false, narrowed := true }
def FnTakeSignalUptoSaid : Prop := fnTakeSignalUptoRow.holds Try.pinned (OpenSpec.upto fnTakeSignalSpec)

end Rows
end Go.Proofs.Ytheblgfgcmkdiaa
