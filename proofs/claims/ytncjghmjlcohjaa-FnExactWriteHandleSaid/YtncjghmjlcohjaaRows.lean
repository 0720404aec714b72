/-
  No cell of these rows narrows 'for every input' (looked for: loops, veiled, ifaces, maps, wideKeys, modest, calm, conditions, laid).
  DERIVED. THE GIVEN ROWS OF THIS SEAT. 5 by the template 'for every input the law returns true; each argument reads behind the call as it read before'; 0 by the template 'total and deterministic' (their statements: YtncjghmjlcohjaaTotals.lean).
  GIVEN WITH THE SEED: the statements are not yours to turn. If you find one false, say at which input.
  Laid BY PROGRAM, IN A SANDBOX (cutbox-rows.mjs): the forced cells as the released guide's own fill.sh prints them over the translation 3d8e25db04b02856… (all of the seat's roots in one cut). By AI agents, Wed Nov 11 2026. No macro, syntax, notation, axiom, sorry.
-/
import Derived.Test.YtncjghmjlcohjaaChecked
import GoSem.Claim
import GoSem.ClaimJoined
import GoSem.ClaimMapViews
import Derived.JoinedTies
import Derived.KernelRfl
namespace Go.Proofs.Ytncjghmjlcohjaa
/- THE CELL 'sum', in the pinned program and in every row, IS THE sha256 OF THE DUMP (.gsa) THAT YtncjghmjlcohjaaProg.lean LOADS. Nothing in Lean hashes anything: it is a label: what it is worth is what the hold of that sum in a sandbox is worth. -/
noncomputable def Try.pinned : Pinned := { name := "ytncjghmjlcohjaa", sum := "3d8e25db04b02856d6a12dfe0d1275713436725ca0d7e4eaa7cb34b80873c064", checked := Try.checked }
namespace Rows
def none {H : Type} : Left H := { results := [], args := [] }

/-- 'laws.FnExactUsageOf': WHATEVER THE INPUT: true; the input reads as it did. -/
def fnExactUsageOfSpec : ChangeSpec := { name := "fnExactUsageOf", fn := fun _ => fun
  | [d1, d2] => { results := [.lit (.bool true)], args := [d1, d2] }
  | _ => none }
def fnExactUsageOfRow : OpenClaim := { program := "ytncjghmjlcohjaa", sum := "3d8e25db04b02856d6a12dfe0d1275713436725ca0d7e4eaa7cb34b80873c064", func := "loop.example/userspaces/laws.FnExactUsageOf", spec := "fnExactUsageOf", apart := false }
def FnExactUsageOfSaid : Prop := fnExactUsageOfRow.holds Try.pinned (OpenSpec.ofChange fnExactUsageOfSpec)

/-- ITS FALSE NEIGHBOUR: 'it returns false'. Refute it at one input. -/
def fnExactUsageOfWrong : ChangeSpec := { name := "fnExactUsageOf", fn := fun _ => fun
  | [d1, d2] => { results := [.lit (.bool false)], args := [d1, d2] }
  | _ => none }
def FnExactUsageOfWrongFalsely : Prop := fnExactUsageOfRow.holds Try.pinned (OpenSpec.ofChange fnExactUsageOfWrong)

/-- 'laws.FnExactReadHandle': WHATEVER THE INPUT: true; the input reads as it did. -/
def fnExactReadHandleSpec : ChangeSpec := { name := "fnExactReadHandle", fn := fun _ => fun
  | [d1, d2, d3] => { results := [.lit (.bool true)], args := [d1, d2, d3] }
  | _ => none }
def fnExactReadHandleRow : OpenClaim := { program := "ytncjghmjlcohjaa", sum := "3d8e25db04b02856d6a12dfe0d1275713436725ca0d7e4eaa7cb34b80873c064", func := "loop.example/userspaces/laws.FnExactReadHandle", spec := "fnExactReadHandle", apart := false }
def FnExactReadHandleSaid : Prop := fnExactReadHandleRow.holds Try.pinned (OpenSpec.ofChange fnExactReadHandleSpec)

/-- ITS FALSE NEIGHBOUR: 'it returns false'. Refute it at one input. -/
def fnExactReadHandleWrong : ChangeSpec := { name := "fnExactReadHandle", fn := fun _ => fun
  | [d1, d2, d3] => { results := [.lit (.bool false)], args := [d1, d2, d3] }
  | _ => none }
def FnExactReadHandleWrongFalsely : Prop := fnExactReadHandleRow.holds Try.pinned (OpenSpec.ofChange fnExactReadHandleWrong)

/-- 'laws.FnExactQuotaAllows': WHATEVER THE INPUT: true; the input reads as it did. -/
def fnExactQuotaAllowsSpec : ChangeSpec := { name := "fnExactQuotaAllows", fn := fun _ => fun
  | [d1, d2, d3] => { results := [.lit (.bool true)], args := [d1, d2, d3] }
  | _ => none }
def fnExactQuotaAllowsRow : OpenClaim := { program := "ytncjghmjlcohjaa", sum := "3d8e25db04b02856d6a12dfe0d1275713436725ca0d7e4eaa7cb34b80873c064", func := "loop.example/userspaces/laws.FnExactQuotaAllows", spec := "fnExactQuotaAllows", apart := false }
def FnExactQuotaAllowsSaid : Prop := fnExactQuotaAllowsRow.holds Try.pinned (OpenSpec.ofChange fnExactQuotaAllowsSpec)

/-- ITS FALSE NEIGHBOUR: 'it returns false'. Refute it at one input. -/
def fnExactQuotaAllowsWrong : ChangeSpec := { name := "fnExactQuotaAllows", fn := fun _ => fun
  | [d1, d2, d3] => { results := [.lit (.bool false)], args := [d1, d2, d3] }
  | _ => none }
def FnExactQuotaAllowsWrongFalsely : Prop := fnExactQuotaAllowsRow.holds Try.pinned (OpenSpec.ofChange fnExactQuotaAllowsWrong)

/-- 'laws.FnExactOverQuota': WHATEVER THE INPUT: true; the input reads as it did. -/
def fnExactOverQuotaSpec : ChangeSpec := { name := "fnExactOverQuota", fn := fun _ => fun
  | [d1, d2] => { results := [.lit (.bool true)], args := [d1, d2] }
  | _ => none }
def fnExactOverQuotaRow : OpenClaim := { program := "ytncjghmjlcohjaa", sum := "3d8e25db04b02856d6a12dfe0d1275713436725ca0d7e4eaa7cb34b80873c064", func := "loop.example/userspaces/laws.FnExactOverQuota", spec := "fnExactOverQuota", apart := false }
def FnExactOverQuotaSaid : Prop := fnExactOverQuotaRow.holds Try.pinned (OpenSpec.ofChange fnExactOverQuotaSpec)

/-- ITS FALSE NEIGHBOUR: 'it returns false'. Refute it at one input. -/
def fnExactOverQuotaWrong : ChangeSpec := { name := "fnExactOverQuota", fn := fun _ => fun
  | [d1, d2] => { results := [.lit (.bool false)], args := [d1, d2] }
  | _ => none }
def FnExactOverQuotaWrongFalsely : Prop := fnExactOverQuotaRow.holds Try.pinned (OpenSpec.ofChange fnExactOverQuotaWrong)

/-- 'laws.FnExactWriteHandle': WHATEVER THE INPUT: true; the input reads as it did. -/
def fnExactWriteHandleSpec : ChangeSpec := { name := "fnExactWriteHandle", fn := fun _ => fun
  | [d1, d2, d3] => { results := [.lit (.bool true)], args := [d1, d2, d3] }
  | _ => none }
def fnExactWriteHandleRow : OpenClaim := { program := "ytncjghmjlcohjaa", sum := "3d8e25db04b02856d6a12dfe0d1275713436725ca0d7e4eaa7cb34b80873c064", func := "loop.example/userspaces/laws.FnExactWriteHandle", spec := "fnExactWriteHandle", apart := false }
def FnExactWriteHandleSaid : Prop := fnExactWriteHandleRow.holds Try.pinned (OpenSpec.ofChange fnExactWriteHandleSpec)

/-- ITS FALSE NEIGHBOUR: 'it returns false'. Refute it at one input. -/
def fnExactWriteHandleWrong : ChangeSpec := { name := "fnExactWriteHandle", fn := fun _ => fun
  | [d1, d2, d3] => { results := [.lit (.bool false)], args := [d1, d2, d3] }
  | _ => none }
def FnExactWriteHandleWrongFalsely : Prop := fnExactWriteHandleRow.holds Try.pinned (OpenSpec.ofChange fnExactWriteHandleWrong)

/- THE SECOND FORM. 'bulk': how many values and letters a reading holds, each counted each time it is reached (what is shared counts as often as it is met; a slice's spare places count too). A statement '..UptoSaid' is the law's where the arguments, and the package variables that the reading takes, are together of bulk at most 1048576: NARROWER than '..Said'. Prove '..Said' where nothing that the law and all that it calls make is longer than what came in: it says more and counts as full. Else prove '..UptoSaid'. A law counts once. -/
mutual
def uptoBulk {H : Type} : DataW H → Nat
  | .lit (.string bytes) => bytes.length + 1
  | .lit _ => 1
  | .nil => 1
  | .ptr d => uptoBulk d + 1
  | .slice elems spare => uptoBulkAll elems + uptoBulkAll spare + 1
  | .agg parts => uptoBulkAll parts + 1
  | .iface _ d => uptoBulk d + 1
  | .map entries => uptoBulkEntries entries + 1
  | .held _ => 1
def uptoBulkAll {H : Type} : List (DataW H) → Nat
  | [] => 0
  | d :: r => uptoBulk d + uptoBulkAll r
def uptoBulkEntries {H : Type} : List (Lit × DataW H) → Nat
  | [] => 0
  | x :: r => uptoBulkEntry x + uptoBulkEntries r
def uptoBulkEntry {H : Type} : Lit × DataW H → Nat
  | (.string bytes, d) => bytes.length + uptoBulk d + 1
  | (_, d) => uptoBulk d + 1
 end
def uptoSmall : (H : Type) → List (DataW H) → Bool := fun _ ds => decide (uptoBulkAll ds ≤ 1048576)
def OpenSpec.upto (s : _root_.Go.ChangeSpec) : _root_.Go.OpenSpec := { _root_.Go.OpenSpec.ofChange s with cond := some uptoSmall }

/-- 'laws.FnExactUsageOf', WHERE WHAT IT READS IS OF BULK AT MOST 1048576: true; the input reads as it did. -/
def fnExactUsageOfUptoRow : OpenClaim := { program := "ytncjghmjlcohjaa", sum := "3d8e25db04b02856d6a12dfe0d1275713436725ca0d7e4eaa7cb34b80873c064", func := "loop.example/userspaces/laws.FnExactUsageOf", spec := "fnExactUsageOf", apart := false, narrowed := true }
def FnExactUsageOfUptoSaid : Prop := fnExactUsageOfUptoRow.holds Try.pinned (OpenSpec.upto fnExactUsageOfSpec)

/-- 'laws.FnExactReadHandle', WHERE WHAT IT READS IS OF BULK AT MOST 1048576: true; the input reads as it did. -/
def fnExactReadHandleUptoRow : OpenClaim := { program := "ytncjghmjlcohjaa", sum := "3d8e25db04b02856d6a12dfe0d1275713436725ca0d7e4eaa7cb34b80873c064", func := "loop.example/userspaces/laws.FnExactReadHandle", spec := "fnExactReadHandle", apart := false, narrowed := true }
def FnExactReadHandleUptoSaid : Prop := fnExactReadHandleUptoRow.holds Try.pinned (OpenSpec.upto fnExactReadHandleSpec)

/-- 'laws.FnExactQuotaAllows', WHERE WHAT IT READS IS OF BULK AT MOST 1048576: true; the input reads as it did. -/
def fnExactQuotaAllowsUptoRow : OpenClaim := { program := "ytncjghmjlcohjaa", sum := "3d8e25db04b02856d6a12dfe0d1275713436725ca0d7e4eaa7cb34b80873c064", func := "loop.example/userspaces/laws.FnExactQuotaAllows", spec := "fnExactQuotaAllows", apart := false, narrowed := true }
def FnExactQuotaAllowsUptoSaid : Prop := fnExactQuotaAllowsUptoRow.holds Try.pinned (OpenSpec.upto fnExactQuotaAllowsSpec)

/-- 'laws.FnExactOverQuota', WHERE WHAT IT READS IS OF BULK AT MOST 1048576: true; the input reads as it did. -/
def fnExactOverQuotaUptoRow : OpenClaim := { program := "ytncjghmjlcohjaa", sum := "3d8e25db04b02856d6a12dfe0d1275713436725ca0d7e4eaa7cb34b80873c064", func := "loop.example/userspaces/laws.FnExactOverQuota", spec := "fnExactOverQuota", apart := false, narrowed := true }
def FnExactOverQuotaUptoSaid : Prop := fnExactOverQuotaUptoRow.holds Try.pinned (OpenSpec.upto fnExactOverQuotaSpec)

/-- 'laws.FnExactWriteHandle', WHERE WHAT IT READS IS OF BULK AT MOST 1048576: true; the input reads as it did. -/
def fnExactWriteHandleUptoRow : OpenClaim := { program := "ytncjghmjlcohjaa", sum := "3d8e25db04b02856d6a12dfe0d1275713436725ca0d7e4eaa7cb34b80873c064", func := "loop.example/userspaces/laws.FnExactWriteHandle", spec := "fnExactWriteHandle", apart := false, narrowed := true }
def FnExactWriteHandleUptoSaid : Prop := fnExactWriteHandleUptoRow.holds Try.pinned (OpenSpec.upto fnExactWriteHandleSpec)

end Rows
end Go.Proofs.Ytncjghmjlcohjaa
