/-
  No cell of these rows narrows 'for every input' (looked for: loops, veiled, ifaces, maps, wideKeys, modest, calm, conditions, laid).
  DERIVED. THE GIVEN ROWS OF THIS SEAT. 8 by the template 'for every input the law returns true; each argument reads behind the call as it read before'; 0 by the template 'total and deterministic' (their statements: YthocpajiihdceaaTotals.lean).
  GIVEN WITH THE SEED: the statements are not yours to turn. If you find one false, say at which input.
  Laid BY PROGRAM, IN A SANDBOX (cutbox-rows.mjs): the forced cells as the released guide's own fill.sh prints them over the translation e40499e17cf82c15… (all of the seat's roots in one cut). By AI agents, Wed Nov 11 2026. No macro, syntax, notation, axiom, sorry.
-/
import Derived.Test.YthocpajiihdceaaChecked
import GoSem.Claim
import GoSem.ClaimJoined
import GoSem.ClaimMapViews
import Derived.JoinedTies
import Derived.KernelRfl
namespace Go.Proofs.Ythocpajiihdceaa
/- THE CELL 'sum', in the pinned program and in every row, IS THE sha256 OF THE DUMP (.gsa) THAT YthocpajiihdceaaProg.lean LOADS. Nothing in Lean hashes anything: it is a label: what it is worth is what the hold of that sum in a sandbox is worth. -/
noncomputable def Try.pinned : Pinned := { name := "ythocpajiihdceaa", sum := "e40499e17cf82c1554ed45841732ab77ba6a3425a4a4d3be4f61095a1704a1da", checked := Try.checked }
namespace Rows
def none {H : Type} : Left H := { results := [], args := [] }

/-- 'laws.FnExactRangesValid': WHATEVER THE INPUT: true; the input reads as it did. -/
def fnExactRangesValidSpec : ChangeSpec := { name := "fnExactRangesValid", fn := fun _ => fun
  | [d] => { results := [.lit (.bool true)], args := [d] }
  | _ => none }
def fnExactRangesValidRow : OpenClaim := { program := "ythocpajiihdceaa", sum := "e40499e17cf82c1554ed45841732ab77ba6a3425a4a4d3be4f61095a1704a1da", func := "loop.example/userspaces/laws.FnExactRangesValid", spec := "fnExactRangesValid", apart := false }
def FnExactRangesValidSaid : Prop := fnExactRangesValidRow.holds Try.pinned (OpenSpec.ofChange fnExactRangesValidSpec)

/-- ITS FALSE NEIGHBOUR: 'it returns false'. Refute it at one input. -/
def fnExactRangesValidWrong : ChangeSpec := { name := "fnExactRangesValid", fn := fun _ => fun
  | [d] => { results := [.lit (.bool false)], args := [d] }
  | _ => none }
def FnExactRangesValidWrongFalsely : Prop := fnExactRangesValidRow.holds Try.pinned (OpenSpec.ofChange fnExactRangesValidWrong)

/-- 'laws.FnRangesValid': WHATEVER THE INPUT: true; the input reads as it did. -/
def fnRangesValidSpec : ChangeSpec := { name := "fnRangesValid", fn := fun _ => fun
  | [d] => { results := [.lit (.bool true)], args := [d] }
  | _ => none }
def fnRangesValidRow : OpenClaim := { program := "ythocpajiihdceaa", sum := "e40499e17cf82c1554ed45841732ab77ba6a3425a4a4d3be4f61095a1704a1da", func := "loop.example/userspaces/laws.FnRangesValid", spec := "fnRangesValid", apart := false }
def FnRangesValidSaid : Prop := fnRangesValidRow.holds Try.pinned (OpenSpec.ofChange fnRangesValidSpec)

/-- ITS FALSE NEIGHBOUR: 'it returns false'. Refute it at one input. -/
def fnRangesValidWrong : ChangeSpec := { name := "fnRangesValid", fn := fun _ => fun
  | [d] => { results := [.lit (.bool false)], args := [d] }
  | _ => none }
def FnRangesValidWrongFalsely : Prop := fnRangesValidRow.holds Try.pinned (OpenSpec.ofChange fnRangesValidWrong)

/-- 'laws.FnExactUserInside': WHATEVER THE INPUT: true; the input reads as it did. -/
def fnExactUserInsideSpec : ChangeSpec := { name := "fnExactUserInside", fn := fun _ => fun
  | [d1, d2] => { results := [.lit (.bool true)], args := [d1, d2] }
  | _ => none }
def fnExactUserInsideRow : OpenClaim := { program := "ythocpajiihdceaa", sum := "e40499e17cf82c1554ed45841732ab77ba6a3425a4a4d3be4f61095a1704a1da", func := "loop.example/userspaces/laws.FnExactUserInside", spec := "fnExactUserInside", apart := false }
def FnExactUserInsideSaid : Prop := fnExactUserInsideRow.holds Try.pinned (OpenSpec.ofChange fnExactUserInsideSpec)

/-- ITS FALSE NEIGHBOUR: 'it returns false'. Refute it at one input. -/
def fnExactUserInsideWrong : ChangeSpec := { name := "fnExactUserInside", fn := fun _ => fun
  | [d1, d2] => { results := [.lit (.bool false)], args := [d1, d2] }
  | _ => none }
def FnExactUserInsideWrongFalsely : Prop := fnExactUserInsideRow.holds Try.pinned (OpenSpec.ofChange fnExactUserInsideWrong)

/-- 'laws.FnExactUserOutside': WHATEVER THE INPUT: true; the input reads as it did. -/
def fnExactUserOutsideSpec : ChangeSpec := { name := "fnExactUserOutside", fn := fun _ => fun
  | [d1, d2] => { results := [.lit (.bool true)], args := [d1, d2] }
  | _ => none }
def fnExactUserOutsideRow : OpenClaim := { program := "ythocpajiihdceaa", sum := "e40499e17cf82c1554ed45841732ab77ba6a3425a4a4d3be4f61095a1704a1da", func := "loop.example/userspaces/laws.FnExactUserOutside", spec := "fnExactUserOutside", apart := false }
def FnExactUserOutsideSaid : Prop := fnExactUserOutsideRow.holds Try.pinned (OpenSpec.ofChange fnExactUserOutsideSpec)

/-- ITS FALSE NEIGHBOUR: 'it returns false'. Refute it at one input. -/
def fnExactUserOutsideWrong : ChangeSpec := { name := "fnExactUserOutside", fn := fun _ => fun
  | [d1, d2] => { results := [.lit (.bool false)], args := [d1, d2] }
  | _ => none }
def FnExactUserOutsideWrongFalsely : Prop := fnExactUserOutsideRow.holds Try.pinned (OpenSpec.ofChange fnExactUserOutsideWrong)

/-- 'laws.FnUserOutside': WHATEVER THE INPUT: true; the input reads as it did. -/
def fnUserOutsideSpec : ChangeSpec := { name := "fnUserOutside", fn := fun _ => fun
  | [d] => { results := [.lit (.bool true)], args := [d] }
  | _ => none }
def fnUserOutsideRow : OpenClaim := { program := "ythocpajiihdceaa", sum := "e40499e17cf82c1554ed45841732ab77ba6a3425a4a4d3be4f61095a1704a1da", func := "loop.example/userspaces/laws.FnUserOutside", spec := "fnUserOutside", apart := false }
def FnUserOutsideSaid : Prop := fnUserOutsideRow.holds Try.pinned (OpenSpec.ofChange fnUserOutsideSpec)

/-- ITS FALSE NEIGHBOUR: 'it returns false'. Refute it at one input. -/
def fnUserOutsideWrong : ChangeSpec := { name := "fnUserOutside", fn := fun _ => fun
  | [d] => { results := [.lit (.bool false)], args := [d] }
  | _ => none }
def FnUserOutsideWrongFalsely : Prop := fnUserOutsideRow.holds Try.pinned (OpenSpec.ofChange fnUserOutsideWrong)

/-- 'laws.FnUserInside': WHATEVER THE INPUT: true; the input reads as it did. -/
def fnUserInsideSpec : ChangeSpec := { name := "fnUserInside", fn := fun _ => fun
  | [d] => { results := [.lit (.bool true)], args := [d] }
  | _ => none }
def fnUserInsideRow : OpenClaim := { program := "ythocpajiihdceaa", sum := "e40499e17cf82c1554ed45841732ab77ba6a3425a4a4d3be4f61095a1704a1da", func := "loop.example/userspaces/laws.FnUserInside", spec := "fnUserInside", apart := false }
def FnUserInsideSaid : Prop := fnUserInsideRow.holds Try.pinned (OpenSpec.ofChange fnUserInsideSpec)

/-- ITS FALSE NEIGHBOUR: 'it returns false'. Refute it at one input. -/
def fnUserInsideWrong : ChangeSpec := { name := "fnUserInside", fn := fun _ => fun
  | [d] => { results := [.lit (.bool false)], args := [d] }
  | _ => none }
def FnUserInsideWrongFalsely : Prop := fnUserInsideRow.holds Try.pinned (OpenSpec.ofChange fnUserInsideWrong)

/-- 'laws.FnExactCredOutside': WHATEVER THE INPUT: true; the input reads as it did. -/
def fnExactCredOutsideSpec : ChangeSpec := { name := "fnExactCredOutside", fn := fun _ => fun
  | [d1, d2] => { results := [.lit (.bool true)], args := [d1, d2] }
  | _ => none }
def fnExactCredOutsideRow : OpenClaim := { program := "ythocpajiihdceaa", sum := "e40499e17cf82c1554ed45841732ab77ba6a3425a4a4d3be4f61095a1704a1da", func := "loop.example/userspaces/laws.FnExactCredOutside", spec := "fnExactCredOutside", apart := false }
def FnExactCredOutsideSaid : Prop := fnExactCredOutsideRow.holds Try.pinned (OpenSpec.ofChange fnExactCredOutsideSpec)

/-- ITS FALSE NEIGHBOUR: 'it returns false'. Refute it at one input. -/
def fnExactCredOutsideWrong : ChangeSpec := { name := "fnExactCredOutside", fn := fun _ => fun
  | [d1, d2] => { results := [.lit (.bool false)], args := [d1, d2] }
  | _ => none }
def FnExactCredOutsideWrongFalsely : Prop := fnExactCredOutsideRow.holds Try.pinned (OpenSpec.ofChange fnExactCredOutsideWrong)

/-- 'laws.FnCredOutside': WHATEVER THE INPUT: true; the input reads as it did. -/
def fnCredOutsideSpec : ChangeSpec := { name := "fnCredOutside", fn := fun _ => fun
  | [d] => { results := [.lit (.bool true)], args := [d] }
  | _ => none }
def fnCredOutsideRow : OpenClaim := { program := "ythocpajiihdceaa", sum := "e40499e17cf82c1554ed45841732ab77ba6a3425a4a4d3be4f61095a1704a1da", func := "loop.example/userspaces/laws.FnCredOutside", spec := "fnCredOutside", apart := false }
def FnCredOutsideSaid : Prop := fnCredOutsideRow.holds Try.pinned (OpenSpec.ofChange fnCredOutsideSpec)

/-- ITS FALSE NEIGHBOUR: 'it returns false'. Refute it at one input. -/
def fnCredOutsideWrong : ChangeSpec := { name := "fnCredOutside", fn := fun _ => fun
  | [d] => { results := [.lit (.bool false)], args := [d] }
  | _ => none }
def FnCredOutsideWrongFalsely : Prop := fnCredOutsideRow.holds Try.pinned (OpenSpec.ofChange fnCredOutsideWrong)

/- THE SECOND FORM. 'bulk': how many values and letters a reading holds, each counted each time it is reached (what is shared counts as often as it is met; a slice's spare places count too). A statement '..UptoSaid' is the law's where the arguments, and the package variables that the reading takes, are together of bulk at most 1048576: NARROWER than '..Said'. Prove '..Said' where nothing that the law and all that it calls make is longer than what came in: it says more and counts as full. Else prove '..UptoSaid'. A law counts once. -/
mutual
def uptoBulk {H : Type} : DataW H → Nat
  | .lit (.string bytes) => bytes.length + 1
  | .lit _ => 1
  | .nil => 1
  | .ptr d => uptoBulk d + 1
  | .slice elems spare => uptoBulkAll elems + uptoBulkAll spare + 1
  | .agg parts => uptoBulkAll parts + 1
  | .iface _ d => uptoBulk d + 1
  | .map entries => uptoBulkEntries entries + 1
  | .held _ => 1
def uptoBulkAll {H : Type} : List (DataW H) → Nat
  | [] => 0
  | d :: r => uptoBulk d + uptoBulkAll r
def uptoBulkEntries {H : Type} : List (Lit × DataW H) → Nat
  | [] => 0
  | x :: r => uptoBulkEntry x + uptoBulkEntries r
def uptoBulkEntry {H : Type} : Lit × DataW H → Nat
  | (.string bytes, d) => bytes.length + uptoBulk d + 1
  | (_, d) => uptoBulk d + 1
 end
def uptoSmall : (H : Type) → List (DataW H) → Bool := fun _ ds => decide (uptoBulkAll ds ≤ 1048576)
def OpenSpec.upto (s : _root_.Go.ChangeSpec) : _root_.Go.OpenSpec := { _root_.Go.OpenSpec.ofChange s with cond := some uptoSmall }

/-- 'laws.FnExactRangesValid', WHERE WHAT IT READS IS OF BULK AT MOST 1048576: true; the input reads as it did. -/
def fnExactRangesValidUptoRow : OpenClaim := { program := "ythocpajiihdceaa", sum := "e40499e17cf82c1554ed45841732ab77ba6a3425a4a4d3be4f61095a1704a1da", func := "loop.example/userspaces/laws.FnExactRangesValid", spec := "fnExactRangesValid", apart := false, narrowed := true }
def FnExactRangesValidUptoSaid : Prop := fnExactRangesValidUptoRow.holds Try.pinned (OpenSpec.upto fnExactRangesValidSpec)

/-- 'laws.FnRangesValid', WHERE WHAT IT READS IS OF BULK AT MOST 1048576: true; the input reads as it did. -/
def fnRangesValidUptoRow : OpenClaim := { program := "ythocpajiihdceaa", sum := "e40499e17cf82c1554ed45841732ab77ba6a3425a4a4d3be4f61095a1704a1da", func := "loop.example/userspaces/laws.FnRangesValid", spec := "fnRangesValid", apart := false, narrowed := true }
def FnRangesValidUptoSaid : Prop := fnRangesValidUptoRow.holds Try.pinned (OpenSpec.upto fnRangesValidSpec)

/-- 'laws.FnExactUserInside', WHERE WHAT IT READS IS OF BULK AT MOST 1048576: true; the input reads as it did. -/
def fnExactUserInsideUptoRow : OpenClaim := { program := "ythocpajiihdceaa", sum := "e40499e17cf82c1554ed45841732ab77ba6a3425a4a4d3be4f61095a1704a1da", func := "loop.example/userspaces/laws.FnExactUserInside", spec := "fnExactUserInside", apart := false, narrowed := true }
def FnExactUserInsideUptoSaid : Prop := fnExactUserInsideUptoRow.holds Try.pinned (OpenSpec.upto fnExactUserInsideSpec)

/-- 'laws.FnExactUserOutside', WHERE WHAT IT READS IS OF BULK AT MOST 1048576: true; the input reads as it did. -/
def fnExactUserOutsideUptoRow : OpenClaim := { program := "ythocpajiihdceaa", sum := "e40499e17cf82c1554ed45841732ab77ba6a3425a4a4d3be4f61095a1704a1da", func := "loop.example/userspaces/laws.FnExactUserOutside", spec := "fnExactUserOutside", apart := false, narrowed := true }
def FnExactUserOutsideUptoSaid : Prop := fnExactUserOutsideUptoRow.holds Try.pinned (OpenSpec.upto fnExactUserOutsideSpec)

/-- 'laws.FnUserOutside', WHERE WHAT IT READS IS OF BULK AT MOST 1048576: true; the input reads as it did. -/
def fnUserOutsideUptoRow : OpenClaim := { program := "ythocpajiihdceaa", sum := "e40499e17cf82c1554ed45841732ab77ba6a3425a4a4d3be4f61095a1704a1da", func := "loop.example/userspaces/laws.FnUserOutside", spec := "fnUserOutside", apart := false, narrowed := true }
def FnUserOutsideUptoSaid : Prop := fnUserOutsideUptoRow.holds Try.pinned (OpenSpec.upto fnUserOutsideSpec)

/-- 'laws.FnUserInside', WHERE WHAT IT READS IS OF BULK AT MOST 1048576: true; the input reads as it did. -/
def fnUserInsideUptoRow : OpenClaim := { program := "ythocpajiihdceaa", sum := "e40499e17cf82c1554ed45841732ab77ba6a3425a4a4d3be4f61095a1704a1da", func := "loop.example/userspaces/laws.FnUserInside", spec := "fnUserInside", apart := false, narrowed := true }
def FnUserInsideUptoSaid : Prop := fnUserInsideUptoRow.holds Try.pinned (OpenSpec.upto fnUserInsideSpec)

/-- 'laws.FnExactCredOutside', WHERE WHAT IT READS IS OF BULK AT MOST 1048576: true; the input reads as it did. -/
def fnExactCredOutsideUptoRow : OpenClaim := { program := "ythocpajiihdceaa", sum := "e40499e17cf82c1554ed45841732ab77ba6a3425a4a4d3be4f61095a1704a1da", func := "loop.example/userspaces/laws.FnExactCredOutside", spec := "fnExactCredOutside", apart := false, narrowed := true }
def FnExactCredOutsideUptoSaid : Prop := fnExactCredOutsideUptoRow.holds Try.pinned (OpenSpec.upto fnExactCredOutsideSpec)

/-- 'laws.FnCredOutside', WHERE WHAT IT READS IS OF BULK AT MOST 1048576: true; the input reads as it did. -/
def fnCredOutsideUptoRow : OpenClaim := { program := "ythocpajiihdceaa", sum := "e40499e17cf82c1554ed45841732ab77ba6a3425a4a4d3be4f61095a1704a1da", func := "loop.example/userspaces/laws.FnCredOutside", spec := "fnCredOutside", apart := false, narrowed := true }
def FnCredOutsideUptoSaid : Prop := fnCredOutsideUptoRow.holds Try.pinned (OpenSpec.upto fnCredOutsideSpec)

end Rows
end Go.Proofs.Ythocpajiihdceaa
