/-
  No cell of these rows narrows 'for every input' (looked for: loops, veiled, ifaces, maps, wideKeys, modest, calm, conditions, laid).
  DERIVED. THE GIVEN ROWS OF THIS SEAT. 8 by the template 'for every input the law returns true; each argument reads behind the call as it read before'; 0 by the template 'total and deterministic' (their statements: YtnpgofmihmjmeaaTotals.lean).
  GIVEN WITH THE SEED: the statements are not yours to turn. If you find one false, say at which input.
  Laid BY PROGRAM, IN A SANDBOX (cutbox-rows.mjs): the forced cells as the released guide's own fill.sh prints them over the translation 229d997e6dc40cf0… (all of the seat's roots in one cut). By AI agents, Wed Nov 11 2026. No macro, syntax, notation, axiom, sorry.
-/
import Derived.Test.YtnpgofmihmjmeaaChecked
import GoSem.Claim
import GoSem.ClaimJoined
import GoSem.ClaimMapViews
import Derived.JoinedTies
import Derived.KernelRfl
namespace Go.Proofs.Ytnpgofmihmjmeaa
/- THE CELL 'sum', in the pinned program and in every row, IS THE sha256 OF THE DUMP (.gsa) THAT YtnpgofmihmjmeaaProg.lean LOADS. Nothing in Lean hashes anything: it is a label: what it is worth is what the hold of that sum in a sandbox is worth. -/
noncomputable def Try.pinned : Pinned := { name := "ytnpgofmihmjmeaa", sum := "229d997e6dc40cf0e442ce7dc6c49c88fa9b9f49e57436d3a10b6516d0a4da1e", checked := Try.checked }
namespace Rows
def none {H : Type} : Left H := { results := [], args := [] }

/-- 'laws.FnExactTasksValid': WHATEVER THE INPUT: true; the input reads as it did. -/
def fnExactTasksValidSpec : ChangeSpec := { name := "fnExactTasksValid", fn := fun _ => fun
  | [d] => { results := [.lit (.bool true)], args := [d] }
  | _ => none }
def fnExactTasksValidRow : OpenClaim := { program := "ytnpgofmihmjmeaa", sum := "229d997e6dc40cf0e442ce7dc6c49c88fa9b9f49e57436d3a10b6516d0a4da1e", func := "loop.example/userspaces/laws.FnExactTasksValid", spec := "fnExactTasksValid", unfollowed := true, recurses := true, apart := false }
def FnExactTasksValidSaid : Prop := fnExactTasksValidRow.holds Try.pinned (OpenSpec.ofChange fnExactTasksValidSpec)

/-- ITS FALSE NEIGHBOUR: 'it returns false'. Refute it at one input. -/
def fnExactTasksValidWrong : ChangeSpec := { name := "fnExactTasksValid", fn := fun _ => fun
  | [d] => { results := [.lit (.bool false)], args := [d] }
  | _ => none }
def FnExactTasksValidWrongFalsely : Prop := fnExactTasksValidRow.holds Try.pinned (OpenSpec.ofChange fnExactTasksValidWrong)

/-- 'laws.FnTasksValid': WHATEVER THE INPUT: true; the input reads as it did. -/
def fnTasksValidSpec : ChangeSpec := { name := "fnTasksValid", fn := fun _ => fun
  | [d] => { results := [.lit (.bool true)], args := [d] }
  | _ => none }
def fnTasksValidRow : OpenClaim := { program := "ytnpgofmihmjmeaa", sum := "229d997e6dc40cf0e442ce7dc6c49c88fa9b9f49e57436d3a10b6516d0a4da1e", func := "loop.example/userspaces/laws.FnTasksValid", spec := "fnTasksValid", unfollowed := true, recurses := true, apart := false }
def FnTasksValidSaid : Prop := fnTasksValidRow.holds Try.pinned (OpenSpec.ofChange fnTasksValidSpec)

/-- ITS FALSE NEIGHBOUR: 'it returns false'. Refute it at one input. -/
def fnTasksValidWrong : ChangeSpec := { name := "fnTasksValid", fn := fun _ => fun
  | [d] => { results := [.lit (.bool false)], args := [d] }
  | _ => none }
def FnTasksValidWrongFalsely : Prop := fnTasksValidRow.holds Try.pinned (OpenSpec.ofChange fnTasksValidWrong)

/-- 'laws.FnExactNextTask': WHATEVER THE INPUT: true; the input reads as it did. -/
def fnExactNextTaskSpec : ChangeSpec := { name := "fnExactNextTask", fn := fun _ => fun
  | [d] => { results := [.lit (.bool true)], args := [d] }
  | _ => none }
def fnExactNextTaskRow : OpenClaim := { program := "ytnpgofmihmjmeaa", sum := "229d997e6dc40cf0e442ce7dc6c49c88fa9b9f49e57436d3a10b6516d0a4da1e", func := "loop.example/userspaces/laws.FnExactNextTask", spec := "fnExactNextTask", unfollowed := true, recurses := true, apart := false }
def FnExactNextTaskSaid : Prop := fnExactNextTaskRow.holds Try.pinned (OpenSpec.ofChange fnExactNextTaskSpec)

/-- ITS FALSE NEIGHBOUR: 'it returns false'. Refute it at one input. -/
def fnExactNextTaskWrong : ChangeSpec := { name := "fnExactNextTask", fn := fun _ => fun
  | [d] => { results := [.lit (.bool false)], args := [d] }
  | _ => none }
def FnExactNextTaskWrongFalsely : Prop := fnExactNextTaskRow.holds Try.pinned (OpenSpec.ofChange fnExactNextTaskWrong)

/-- 'laws.FnNextTask': WHATEVER THE INPUT: true; the input reads as it did. -/
def fnNextTaskSpec : ChangeSpec := { name := "fnNextTask", fn := fun _ => fun
  | [d] => { results := [.lit (.bool true)], args := [d] }
  | _ => none }
def fnNextTaskRow : OpenClaim := { program := "ytnpgofmihmjmeaa", sum := "229d997e6dc40cf0e442ce7dc6c49c88fa9b9f49e57436d3a10b6516d0a4da1e", func := "loop.example/userspaces/laws.FnNextTask", spec := "fnNextTask", unfollowed := true, recurses := true, apart := false }
def FnNextTaskSaid : Prop := fnNextTaskRow.holds Try.pinned (OpenSpec.ofChange fnNextTaskSpec)

/-- ITS FALSE NEIGHBOUR: 'it returns false'. Refute it at one input. -/
def fnNextTaskWrong : ChangeSpec := { name := "fnNextTask", fn := fun _ => fun
  | [d] => { results := [.lit (.bool false)], args := [d] }
  | _ => none }
def FnNextTaskWrongFalsely : Prop := fnNextTaskRow.holds Try.pinned (OpenSpec.ofChange fnNextTaskWrong)

/-- 'laws.FnWakeTask': WHATEVER THE INPUT: true; the input reads as it did. -/
def fnWakeTaskSpec : ChangeSpec := { name := "fnWakeTask", fn := fun _ => fun
  | [d] => { results := [.lit (.bool true)], args := [d] }
  | _ => none }
def fnWakeTaskRow : OpenClaim := { program := "ytnpgofmihmjmeaa", sum := "229d997e6dc40cf0e442ce7dc6c49c88fa9b9f49e57436d3a10b6516d0a4da1e", func := "loop.example/userspaces/laws.FnWakeTask", spec := "fnWakeTask", unfollowed := true, recurses := true, apart := false }
def FnWakeTaskSaid : Prop := fnWakeTaskRow.holds Try.pinned (OpenSpec.ofChange fnWakeTaskSpec)

/-- ITS FALSE NEIGHBOUR: 'it returns false'. Refute it at one input. -/
def fnWakeTaskWrong : ChangeSpec := { name := "fnWakeTask", fn := fun _ => fun
  | [d] => { results := [.lit (.bool false)], args := [d] }
  | _ => none }
def FnWakeTaskWrongFalsely : Prop := fnWakeTaskRow.holds Try.pinned (OpenSpec.ofChange fnWakeTaskWrong)

/-- 'laws.FnExactWakeTask': WHATEVER THE INPUT: true; the input reads as it did. -/
def fnExactWakeTaskSpec : ChangeSpec := { name := "fnExactWakeTask", fn := fun _ => fun
  | [d1, d2] => { results := [.lit (.bool true)], args := [d1, d2] }
  | _ => none }
def fnExactWakeTaskRow : OpenClaim := { program := "ytnpgofmihmjmeaa", sum := "229d997e6dc40cf0e442ce7dc6c49c88fa9b9f49e57436d3a10b6516d0a4da1e", func := "loop.example/userspaces/laws.FnExactWakeTask", spec := "fnExactWakeTask", unfollowed := true, recurses := true, apart := false }
def FnExactWakeTaskSaid : Prop := fnExactWakeTaskRow.holds Try.pinned (OpenSpec.ofChange fnExactWakeTaskSpec)

/-- ITS FALSE NEIGHBOUR: 'it returns false'. Refute it at one input. -/
def fnExactWakeTaskWrong : ChangeSpec := { name := "fnExactWakeTask", fn := fun _ => fun
  | [d1, d2] => { results := [.lit (.bool false)], args := [d1, d2] }
  | _ => none }
def FnExactWakeTaskWrongFalsely : Prop := fnExactWakeTaskRow.holds Try.pinned (OpenSpec.ofChange fnExactWakeTaskWrong)

/-- 'laws.FnRunTurns': WHATEVER THE INPUT: true; the input reads as it did. -/
def fnRunTurnsSpec : ChangeSpec := { name := "fnRunTurns", fn := fun _ => fun
  | [d] => { results := [.lit (.bool true)], args := [d] }
  | _ => none }
def fnRunTurnsRow : OpenClaim := { program := "ytnpgofmihmjmeaa", sum := "229d997e6dc40cf0e442ce7dc6c49c88fa9b9f49e57436d3a10b6516d0a4da1e", func := "loop.example/userspaces/laws.FnRunTurns", spec := "fnRunTurns", unfollowed := true, recurses := true, apart := false }
def FnRunTurnsSaid : Prop := fnRunTurnsRow.holds Try.pinned (OpenSpec.ofChange fnRunTurnsSpec)

/-- ITS FALSE NEIGHBOUR: 'it returns false'. Refute it at one input. -/
def fnRunTurnsWrong : ChangeSpec := { name := "fnRunTurns", fn := fun _ => fun
  | [d] => { results := [.lit (.bool false)], args := [d] }
  | _ => none }
def FnRunTurnsWrongFalsely : Prop := fnRunTurnsRow.holds Try.pinned (OpenSpec.ofChange fnRunTurnsWrong)

/-- 'laws.FnExactRunTurns': WHATEVER THE INPUT: true; the input reads as it did. -/
def fnExactRunTurnsSpec : ChangeSpec := { name := "fnExactRunTurns", fn := fun _ => fun
  | [d1, d2] => { results := [.lit (.bool true)], args := [d1, d2] }
  | _ => none }
def fnExactRunTurnsRow : OpenClaim := { program := "ytnpgofmihmjmeaa", sum := "229d997e6dc40cf0e442ce7dc6c49c88fa9b9f49e57436d3a10b6516d0a4da1e", func := "loop.example/userspaces/laws.FnExactRunTurns", spec := "fnExactRunTurns", unfollowed := true, recurses := true, apart := false }
def FnExactRunTurnsSaid : Prop := fnExactRunTurnsRow.holds Try.pinned (OpenSpec.ofChange fnExactRunTurnsSpec)

/-- ITS FALSE NEIGHBOUR: 'it returns false'. Refute it at one input. -/
def fnExactRunTurnsWrong : ChangeSpec := { name := "fnExactRunTurns", fn := fun _ => fun
  | [d1, d2] => { results := [.lit (.bool false)], args := [d1, d2] }
  | _ => none }
def FnExactRunTurnsWrongFalsely : Prop := fnExactRunTurnsRow.holds Try.pinned (OpenSpec.ofChange fnExactRunTurnsWrong)

/- THE SECOND FORM. 'bulk': how many values and letters a reading holds, each counted each time it is reached (what is shared counts as often as it is met; a slice's spare places count too). A statement '..UptoSaid' is the law's where the arguments, and the package variables that the reading takes, are together of bulk at most 1048576: NARROWER than '..Said'. Prove '..Said' where nothing that the law and all that it calls make is longer than what came in: it says more and counts as full. Else prove '..UptoSaid'. A law counts once. -/
mutual
def uptoBulk {H : Type} : DataW H → Nat
  | .lit (.string bytes) => bytes.length + 1
  | .lit _ => 1
  | .nil => 1
  | .ptr d => uptoBulk d + 1
  | .slice elems spare => uptoBulkAll elems + uptoBulkAll spare + 1
  | .agg parts => uptoBulkAll parts + 1
  | .iface _ d => uptoBulk d + 1
  | .map entries => uptoBulkEntries entries + 1
  | .held _ => 1
def uptoBulkAll {H : Type} : List (DataW H) → Nat
  | [] => 0
  | d :: r => uptoBulk d + uptoBulkAll r
def uptoBulkEntries {H : Type} : List (Lit × DataW H) → Nat
  | [] => 0
  | x :: r => uptoBulkEntry x + uptoBulkEntries r
def uptoBulkEntry {H : Type} : Lit × DataW H → Nat
  | (.string bytes, d) => bytes.length + uptoBulk d + 1
  | (_, d) => uptoBulk d + 1
 end
def uptoSmall : (H : Type) → List (DataW H) → Bool := fun _ ds => decide (uptoBulkAll ds ≤ 1048576)
def OpenSpec.upto (s : _root_.Go.ChangeSpec) : _root_.Go.OpenSpec := { _root_.Go.OpenSpec.ofChange s with cond := some uptoSmall }

/-- 'laws.FnExactTasksValid', WHERE WHAT IT READS IS OF BULK AT MOST 1048576: true; the input reads as it did. -/
def fnExactTasksValidUptoRow : OpenClaim := { program := "ytnpgofmihmjmeaa", sum := "229d997e6dc40cf0e442ce7dc6c49c88fa9b9f49e57436d3a10b6516d0a4da1e", func := "loop.example/userspaces/laws.FnExactTasksValid", spec := "fnExactTasksValid", unfollowed := true, recurses := true, apart := false, narrowed := true }
def FnExactTasksValidUptoSaid : Prop := fnExactTasksValidUptoRow.holds Try.pinned (OpenSpec.upto fnExactTasksValidSpec)

/-- 'laws.FnTasksValid', WHERE WHAT IT READS IS OF BULK AT MOST 1048576: true; the input reads as it did. -/
def fnTasksValidUptoRow : OpenClaim := { program := "ytnpgofmihmjmeaa", sum := "229d997e6dc40cf0e442ce7dc6c49c88fa9b9f49e57436d3a10b6516d0a4da1e", func := "loop.example/userspaces/laws.FnTasksValid", spec := "fnTasksValid", unfollowed := true, recurses := true, apart := false, narrowed := true }
def FnTasksValidUptoSaid : Prop := fnTasksValidUptoRow.holds Try.pinned (OpenSpec.upto fnTasksValidSpec)

/-- 'laws.FnExactNextTask', WHERE WHAT IT READS IS OF BULK AT MOST 1048576: true; the input reads as it did. -/
def fnExactNextTaskUptoRow : OpenClaim := { program := "ytnpgofmihmjmeaa", sum := "229d997e6dc40cf0e442ce7dc6c49c88fa9b9f49e57436d3a10b6516d0a4da1e", func := "loop.example/userspaces/laws.FnExactNextTask", spec := "fnExactNextTask", unfollowed := true, recurses := true, apart := false, narrowed := true }
def FnExactNextTaskUptoSaid : Prop := fnExactNextTaskUptoRow.holds Try.pinned (OpenSpec.upto fnExactNextTaskSpec)

/-- 'laws.FnNextTask', WHERE WHAT IT READS IS OF BULK AT MOST 1048576: true; the input reads as it did. -/
def fnNextTaskUptoRow : OpenClaim := { program := "ytnpgofmihmjmeaa", sum := "229d997e6dc40cf0e442ce7dc6c49c88fa9b9f49e57436d3a10b6516d0a4da1e", func := "loop.example/userspaces/laws.FnNextTask", spec := "fnNextTask", unfollowed := true, recurses := true, apart := false, narrowed := true }
def FnNextTaskUptoSaid : Prop := fnNextTaskUptoRow.holds Try.pinned (OpenSpec.upto fnNextTaskSpec)

/-- 'laws.FnWakeTask', WHERE WHAT IT READS IS OF BULK AT MOST 1048576: true; the input reads as it did. -/
def fnWakeTaskUptoRow : OpenClaim := { program := "ytnpgofmihmjmeaa", sum := "229d997e6dc40cf0e442ce7dc6c49c88fa9b9f49e57436d3a10b6516d0a4da1e", func := "loop.example/userspaces/laws.FnWakeTask", spec := "fnWakeTask", unfollowed := true, recurses := true, apart := false, narrowed := true }
def FnWakeTaskUptoSaid : Prop := fnWakeTaskUptoRow.holds Try.pinned (OpenSpec.upto fnWakeTaskSpec)

/-- 'laws.FnExactWakeTask', WHERE WHAT IT READS IS OF BULK AT MOST 1048576: true; the input reads as it did. -/
def fnExactWakeTaskUptoRow : OpenClaim := { program := "ytnpgofmihmjmeaa", sum := "229d997e6dc40cf0e442ce7dc6c49c88fa9b9f49e57436d3a10b6516d0a4da1e", func := "loop.example/userspaces/laws.FnExactWakeTask", spec := "fnExactWakeTask", unfollowed := true, recurses := true, apart := false, narrowed := true }
def FnExactWakeTaskUptoSaid : Prop := fnExactWakeTaskUptoRow.holds Try.pinned (OpenSpec.upto fnExactWakeTaskSpec)

/-- 'laws.FnRunTurns', WHERE WHAT IT READS IS OF BULK AT MOST 1048576: true; the input reads as it did. -/
def fnRunTurnsUptoRow : OpenClaim := { program := "ytnpgofmihmjmeaa", sum := "229d997e6dc40cf0e442ce7dc6c49c88fa9b9f49e57436d3a10b6516d0a4da1e", func := "loop.example/userspaces/laws.FnRunTurns", spec := "fnRunTurns", unfollowed := true, recurses := true, apart := false, narrowed := true }
def FnRunTurnsUptoSaid : Prop := fnRunTurnsUptoRow.holds Try.pinned (OpenSpec.upto fnRunTurnsSpec)

/-- 'laws.FnExactRunTurns', WHERE WHAT IT READS IS OF BULK AT MOST 1048576: true; the input reads as it did. -/
def fnExactRunTurnsUptoRow : OpenClaim := { program := "ytnpgofmihmjmeaa", sum := "229d997e6dc40cf0e442ce7dc6c49c88fa9b9f49e57436d3a10b6516d0a4da1e", func := "loop.example/userspaces/laws.FnExactRunTurns", spec := "fnExactRunTurns", unfollowed := true, recurses := true, apart := false, narrowed := true }
def FnExactRunTurnsUptoSaid : Prop := fnExactRunTurnsUptoRow.holds Try.pinned (OpenSpec.upto fnExactRunTurnsSpec)

end Rows
end Go.Proofs.Ytnpgofmihmjmeaa
