/-
  No cell of these rows narrows 'for every input' (looked for: loops, veiled, ifaces, maps, wideKeys, modest, calm, conditions, laid).
  DERIVED. THE GIVEN ROWS OF THIS SEAT. 8 by the template 'for every input the law returns true; each argument reads behind the call as it read before'; 0 by the template 'total and deterministic' (their statements: YtlfchcjollcdhaaTotals.lean).
  GIVEN WITH THE SEED: the statements are not yours to turn. If you find one false, say at which input.
  Laid BY PROGRAM, IN A SANDBOX (cutbox-rows.mjs): the forced cells as the released guide's own fill.sh prints them over the translation 96432547689dafd6… (all of the seat's roots in one cut). By AI agents, Wed Nov 11 2026. No macro, syntax, notation, axiom, sorry.
-/
import Derived.Test.YtlfchcjollcdhaaChecked
import GoSem.Claim
import GoSem.ClaimJoined
import GoSem.ClaimMapViews
import Derived.JoinedTies
import Derived.KernelRfl
namespace Go.Proofs.Ytlfchcjollcdhaa
/- THE CELL 'sum', in the pinned program and in every row, IS THE sha256 OF THE DUMP (.gsa) THAT YtlfchcjollcdhaaProg.lean LOADS. Nothing in Lean hashes anything: it is a label: what it is worth is what the hold of that sum in a sandbox is worth. -/
noncomputable def Try.pinned : Pinned := { name := "ytlfchcjollcdhaa", sum := "96432547689dafd648f552a3c9121443473b0340f89df2057238418e48cfcdf6", checked := Try.checked }
namespace Rows
def none {H : Type} : Left H := { results := [], args := [] }

/-- 'laws.FnExactProcessesValid': WHATEVER THE INPUT: true; the input reads as it did. -/
def fnExactProcessesValidSpec : ChangeSpec := { name := "fnExactProcessesValid", fn := fun _ => fun
  | [d] => { results := [.lit (.bool true)], args := [d] }
  | _ => none }
def fnExactProcessesValidRow : OpenClaim := { program := "ytlfchcjollcdhaa", sum := "96432547689dafd648f552a3c9121443473b0340f89df2057238418e48cfcdf6", func := "loop.example/userspaces/laws.FnExactProcessesValid", spec := "fnExactProcessesValid", unfollowed := true, recurses := true, apart := false }
def FnExactProcessesValidSaid : Prop := fnExactProcessesValidRow.holds Try.pinned (OpenSpec.ofChange fnExactProcessesValidSpec)

/-- ITS FALSE NEIGHBOUR: 'it returns false'. Refute it at one input. -/
def fnExactProcessesValidWrong : ChangeSpec := { name := "fnExactProcessesValid", fn := fun _ => fun
  | [d] => { results := [.lit (.bool false)], args := [d] }
  | _ => none }
def FnExactProcessesValidWrongFalsely : Prop := fnExactProcessesValidRow.holds Try.pinned (OpenSpec.ofChange fnExactProcessesValidWrong)

/-- 'laws.FnProcessesValid': WHATEVER THE INPUT: true; the input reads as it did. -/
def fnProcessesValidSpec : ChangeSpec := { name := "fnProcessesValid", fn := fun _ => fun
  | [d] => { results := [.lit (.bool true)], args := [d] }
  | _ => none }
def fnProcessesValidRow : OpenClaim := { program := "ytlfchcjollcdhaa", sum := "96432547689dafd648f552a3c9121443473b0340f89df2057238418e48cfcdf6", func := "loop.example/userspaces/laws.FnProcessesValid", spec := "fnProcessesValid", unfollowed := true, recurses := true, apart := false }
def FnProcessesValidSaid : Prop := fnProcessesValidRow.holds Try.pinned (OpenSpec.ofChange fnProcessesValidSpec)

/-- ITS FALSE NEIGHBOUR: 'it returns false'. Refute it at one input. -/
def fnProcessesValidWrong : ChangeSpec := { name := "fnProcessesValid", fn := fun _ => fun
  | [d] => { results := [.lit (.bool false)], args := [d] }
  | _ => none }
def FnProcessesValidWrongFalsely : Prop := fnProcessesValidRow.holds Try.pinned (OpenSpec.ofChange fnProcessesValidWrong)

/-- 'laws.FnForkProcess': WHATEVER THE INPUT: true; the input reads as it did. -/
def fnForkProcessSpec : ChangeSpec := { name := "fnForkProcess", fn := fun _ => fun
  | [d] => { results := [.lit (.bool true)], args := [d] }
  | _ => none }
def fnForkProcessRow : OpenClaim := { program := "ytlfchcjollcdhaa", sum := "96432547689dafd648f552a3c9121443473b0340f89df2057238418e48cfcdf6", func := "loop.example/userspaces/laws.FnForkProcess", spec := "fnForkProcess", unfollowed := true, recurses := true, apart := false }
def FnForkProcessSaid : Prop := fnForkProcessRow.holds Try.pinned (OpenSpec.ofChange fnForkProcessSpec)

/-- ITS FALSE NEIGHBOUR: 'it returns false'. Refute it at one input. -/
def fnForkProcessWrong : ChangeSpec := { name := "fnForkProcess", fn := fun _ => fun
  | [d] => { results := [.lit (.bool false)], args := [d] }
  | _ => none }
def FnForkProcessWrongFalsely : Prop := fnForkProcessRow.holds Try.pinned (OpenSpec.ofChange fnForkProcessWrong)

/-- 'laws.FnEndProcess': WHATEVER THE INPUT: true; the input reads as it did. -/
def fnEndProcessSpec : ChangeSpec := { name := "fnEndProcess", fn := fun _ => fun
  | [d] => { results := [.lit (.bool true)], args := [d] }
  | _ => none }
def fnEndProcessRow : OpenClaim := { program := "ytlfchcjollcdhaa", sum := "96432547689dafd648f552a3c9121443473b0340f89df2057238418e48cfcdf6", func := "loop.example/userspaces/laws.FnEndProcess", spec := "fnEndProcess", unfollowed := true, recurses := true, apart := false }
def FnEndProcessSaid : Prop := fnEndProcessRow.holds Try.pinned (OpenSpec.ofChange fnEndProcessSpec)

/-- ITS FALSE NEIGHBOUR: 'it returns false'. Refute it at one input. -/
def fnEndProcessWrong : ChangeSpec := { name := "fnEndProcess", fn := fun _ => fun
  | [d] => { results := [.lit (.bool false)], args := [d] }
  | _ => none }
def FnEndProcessWrongFalsely : Prop := fnEndProcessRow.holds Try.pinned (OpenSpec.ofChange fnEndProcessWrong)

/-- 'laws.FnWaitProcess': WHATEVER THE INPUT: true; the input reads as it did. -/
def fnWaitProcessSpec : ChangeSpec := { name := "fnWaitProcess", fn := fun _ => fun
  | [d] => { results := [.lit (.bool true)], args := [d] }
  | _ => none }
def fnWaitProcessRow : OpenClaim := { program := "ytlfchcjollcdhaa", sum := "96432547689dafd648f552a3c9121443473b0340f89df2057238418e48cfcdf6", func := "loop.example/userspaces/laws.FnWaitProcess", spec := "fnWaitProcess", unfollowed := true, recurses := true, apart := false }
def FnWaitProcessSaid : Prop := fnWaitProcessRow.holds Try.pinned (OpenSpec.ofChange fnWaitProcessSpec)

/-- ITS FALSE NEIGHBOUR: 'it returns false'. Refute it at one input. -/
def fnWaitProcessWrong : ChangeSpec := { name := "fnWaitProcess", fn := fun _ => fun
  | [d] => { results := [.lit (.bool false)], args := [d] }
  | _ => none }
def FnWaitProcessWrongFalsely : Prop := fnWaitProcessRow.holds Try.pinned (OpenSpec.ofChange fnWaitProcessWrong)

/-- 'laws.FnExactForkProcess': WHATEVER THE INPUT: true; the input reads as it did. -/
def fnExactForkProcessSpec : ChangeSpec := { name := "fnExactForkProcess", fn := fun _ => fun
  | [d1, d2] => { results := [.lit (.bool true)], args := [d1, d2] }
  | _ => none }
def fnExactForkProcessRow : OpenClaim := { program := "ytlfchcjollcdhaa", sum := "96432547689dafd648f552a3c9121443473b0340f89df2057238418e48cfcdf6", func := "loop.example/userspaces/laws.FnExactForkProcess", spec := "fnExactForkProcess", unfollowed := true, recurses := true, apart := false }
def FnExactForkProcessSaid : Prop := fnExactForkProcessRow.holds Try.pinned (OpenSpec.ofChange fnExactForkProcessSpec)

/-- ITS FALSE NEIGHBOUR: 'it returns false'. Refute it at one input. -/
def fnExactForkProcessWrong : ChangeSpec := { name := "fnExactForkProcess", fn := fun _ => fun
  | [d1, d2] => { results := [.lit (.bool false)], args := [d1, d2] }
  | _ => none }
def FnExactForkProcessWrongFalsely : Prop := fnExactForkProcessRow.holds Try.pinned (OpenSpec.ofChange fnExactForkProcessWrong)

/-- 'laws.FnExactWaitProcess': WHATEVER THE INPUT: true; the input reads as it did. -/
def fnExactWaitProcessSpec : ChangeSpec := { name := "fnExactWaitProcess", fn := fun _ => fun
  | [d1, d2] => { results := [.lit (.bool true)], args := [d1, d2] }
  | _ => none }
def fnExactWaitProcessRow : OpenClaim := { program := "ytlfchcjollcdhaa", sum := "96432547689dafd648f552a3c9121443473b0340f89df2057238418e48cfcdf6", func := "loop.example/userspaces/laws.FnExactWaitProcess", spec := "fnExactWaitProcess", unfollowed := true, recurses := true, apart := false }
def FnExactWaitProcessSaid : Prop := fnExactWaitProcessRow.holds Try.pinned (OpenSpec.ofChange fnExactWaitProcessSpec)

/-- ITS FALSE NEIGHBOUR: 'it returns false'. Refute it at one input. -/
def fnExactWaitProcessWrong : ChangeSpec := { name := "fnExactWaitProcess", fn := fun _ => fun
  | [d1, d2] => { results := [.lit (.bool false)], args := [d1, d2] }
  | _ => none }
def FnExactWaitProcessWrongFalsely : Prop := fnExactWaitProcessRow.holds Try.pinned (OpenSpec.ofChange fnExactWaitProcessWrong)

/-- 'laws.FnExactEndProcess': WHATEVER THE INPUT: true; the input reads as it did. -/
def fnExactEndProcessSpec : ChangeSpec := { name := "fnExactEndProcess", fn := fun _ => fun
  | [d1, d2, d3] => { results := [.lit (.bool true)], args := [d1, d2, d3] }
  | _ => none }
def fnExactEndProcessRow : OpenClaim := { program := "ytlfchcjollcdhaa", sum := "96432547689dafd648f552a3c9121443473b0340f89df2057238418e48cfcdf6", func := "loop.example/userspaces/laws.FnExactEndProcess", spec := "fnExactEndProcess", unfollowed := true, recurses := true, apart := false }
def FnExactEndProcessSaid : Prop := fnExactEndProcessRow.holds Try.pinned (OpenSpec.ofChange fnExactEndProcessSpec)

/-- ITS FALSE NEIGHBOUR: 'it returns false'. Refute it at one input. -/
def fnExactEndProcessWrong : ChangeSpec := { name := "fnExactEndProcess", fn := fun _ => fun
  | [d1, d2, d3] => { results := [.lit (.bool false)], args := [d1, d2, d3] }
  | _ => none }
def FnExactEndProcessWrongFalsely : Prop := fnExactEndProcessRow.holds Try.pinned (OpenSpec.ofChange fnExactEndProcessWrong)

/- THE SECOND FORM. 'bulk': how many values and letters a reading holds, each counted each time it is reached (what is shared counts as often as it is met; a slice's spare places count too). A statement '..UptoSaid' is the law's where the arguments, and the package variables that the reading takes, are together of bulk at most 1048576: NARROWER than '..Said'. Prove '..Said' where nothing that the law and all that it calls make is longer than what came in: it says more and counts as full. Else prove '..UptoSaid'. A law counts once. -/
mutual
def uptoBulk {H : Type} : DataW H → Nat
  | .lit (.string bytes) => bytes.length + 1
  | .lit _ => 1
  | .nil => 1
  | .ptr d => uptoBulk d + 1
  | .slice elems spare => uptoBulkAll elems + uptoBulkAll spare + 1
  | .agg parts => uptoBulkAll parts + 1
  | .iface _ d => uptoBulk d + 1
  | .map entries => uptoBulkEntries entries + 1
  | .held _ => 1
def uptoBulkAll {H : Type} : List (DataW H) → Nat
  | [] => 0
  | d :: r => uptoBulk d + uptoBulkAll r
def uptoBulkEntries {H : Type} : List (Lit × DataW H) → Nat
  | [] => 0
  | x :: r => uptoBulkEntry x + uptoBulkEntries r
def uptoBulkEntry {H : Type} : Lit × DataW H → Nat
  | (.string bytes, d) => bytes.length + uptoBulk d + 1
  | (_, d) => uptoBulk d + 1
 end
def uptoSmall : (H : Type) → List (DataW H) → Bool := fun _ ds => decide (uptoBulkAll ds ≤ 1048576)
def OpenSpec.upto (s : _root_.Go.ChangeSpec) : _root_.Go.OpenSpec := { _root_.Go.OpenSpec.ofChange s with cond := some uptoSmall }

/-- 'laws.FnExactProcessesValid', WHERE WHAT IT READS IS OF BULK AT MOST 1048576: true; the input reads as it did. -/
def fnExactProcessesValidUptoRow : OpenClaim := { program := "ytlfchcjollcdhaa", sum := "96432547689dafd648f552a3c9121443473b0340f89df2057238418e48cfcdf6", func := "loop.example/userspaces/laws.FnExactProcessesValid", spec := "fnExactProcessesValid", unfollowed := true, recurses := true, apart := false, narrowed := true }
def FnExactProcessesValidUptoSaid : Prop := fnExactProcessesValidUptoRow.holds Try.pinned (OpenSpec.upto fnExactProcessesValidSpec)

/-- 'laws.FnProcessesValid', WHERE WHAT IT READS IS OF BULK AT MOST 1048576: true; the input reads as it did. -/
def fnProcessesValidUptoRow : OpenClaim := { program := "ytlfchcjollcdhaa", sum := "96432547689dafd648f552a3c9121443473b0340f89df2057238418e48cfcdf6", func := "loop.example/userspaces/laws.FnProcessesValid", spec := "fnProcessesValid", unfollowed := true, recurses := true, apart := false, narrowed := true }
def FnProcessesValidUptoSaid : Prop := fnProcessesValidUptoRow.holds Try.pinned (OpenSpec.upto fnProcessesValidSpec)

/-- 'laws.FnForkProcess', WHERE WHAT IT READS IS OF BULK AT MOST 1048576: true; the input reads as it did. -/
def fnForkProcessUptoRow : OpenClaim := { program := "ytlfchcjollcdhaa", sum := "96432547689dafd648f552a3c9121443473b0340f89df2057238418e48cfcdf6", func := "loop.example/userspaces/laws.FnForkProcess", spec := "fnForkProcess", unfollowed := true, recurses := true, apart := false, narrowed := true }
def FnForkProcessUptoSaid : Prop := fnForkProcessUptoRow.holds Try.pinned (OpenSpec.upto fnForkProcessSpec)

/-- 'laws.FnEndProcess', WHERE WHAT IT READS IS OF BULK AT MOST 1048576: true; the input reads as it did. -/
def fnEndProcessUptoRow : OpenClaim := { program := "ytlfchcjollcdhaa", sum := "96432547689dafd648f552a3c9121443473b0340f89df2057238418e48cfcdf6", func := "loop.example/userspaces/laws.FnEndProcess", spec := "fnEndProcess", unfollowed := true, recurses := true, apart := false, narrowed := true }
def FnEndProcessUptoSaid : Prop := fnEndProcessUptoRow.holds Try.pinned (OpenSpec.upto fnEndProcessSpec)

/-- 'laws.FnWaitProcess', WHERE WHAT IT READS IS OF BULK AT MOST 1048576: true; the input reads as it did. -/
def fnWaitProcessUptoRow : OpenClaim := { program := "ytlfchcjollcdhaa", sum := "96432547689dafd648f552a3c9121443473b0340f89df2057238418e48cfcdf6", func := "loop.example/userspaces/laws.FnWaitProcess", spec := "fnWaitProcess", unfollowed := true, recurses := true, apart := false, narrowed := true }
def FnWaitProcessUptoSaid : Prop := fnWaitProcessUptoRow.holds Try.pinned (OpenSpec.upto fnWaitProcessSpec)

/-- 'laws.FnExactForkProcess', WHERE WHAT IT READS IS OF BULK AT MOST 1048576: true; the input reads as it did. -/
def fnExactForkProcessUptoRow : OpenClaim := { program := "ytlfchcjollcdhaa", sum := "96432547689dafd648f552a3c9121443473b0340f89df2057238418e48cfcdf6", func := "loop.example/userspaces/laws.FnExactForkProcess", spec := "fnExactForkProcess", unfollowed := true, recurses := true, apart := false, narrowed := true }
def FnExactForkProcessUptoSaid : Prop := fnExactForkProcessUptoRow.holds Try.pinned (OpenSpec.upto fnExactForkProcessSpec)

/-- 'laws.FnExactWaitProcess', WHERE WHAT IT READS IS OF BULK AT MOST 1048576: true; the input reads as it did. -/
def fnExactWaitProcessUptoRow : OpenClaim := { program := "ytlfchcjollcdhaa", sum := "96432547689dafd648f552a3c9121443473b0340f89df2057238418e48cfcdf6", func := "loop.example/userspaces/laws.FnExactWaitProcess", spec := "fnExactWaitProcess", unfollowed := true, recurses := true, apart := false, narrowed := true }
def FnExactWaitProcessUptoSaid : Prop := fnExactWaitProcessUptoRow.holds Try.pinned (OpenSpec.upto fnExactWaitProcessSpec)

/-- 'laws.FnExactEndProcess', WHERE WHAT IT READS IS OF BULK AT MOST 1048576: true; the input reads as it did. -/
def fnExactEndProcessUptoRow : OpenClaim := { program := "ytlfchcjollcdhaa", sum := "96432547689dafd648f552a3c9121443473b0340f89df2057238418e48cfcdf6", func := "loop.example/userspaces/laws.FnExactEndProcess", spec := "fnExactEndProcess", unfollowed := true, recurses := true, apart := false, narrowed := true }
def FnExactEndProcessUptoSaid : Prop := fnExactEndProcessUptoRow.holds Try.pinned (OpenSpec.upto fnExactEndProcessSpec)

end Rows
end Go.Proofs.Ytlfchcjollcdhaa
