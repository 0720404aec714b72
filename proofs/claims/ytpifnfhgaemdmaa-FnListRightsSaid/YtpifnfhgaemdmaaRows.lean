/-
  No cell of these rows narrows 'for every input' (looked for: loops, veiled, ifaces, maps, wideKeys, modest, calm, conditions, laid).
  DERIVED. THE GIVEN ROWS OF THIS SEAT. 8 by the template 'for every input the law returns true; each argument reads behind the call as it read before'; 0 by the template 'total and deterministic' (their statements: YtpifnfhgaemdmaaTotals.lean).
  GIVEN WITH THE SEED: the statements are not yours to turn. If you find one false, say at which input.
  Laid BY PROGRAM, IN A SANDBOX (cutbox-rows.mjs): the forced cells as the released guide's own fill.sh prints them over the translation adec57a47ec93849… (all of the seat's roots in one cut). By AI agents, Wed Nov 11 2026. No macro, syntax, notation, axiom, sorry.
-/
import Derived.Test.YtpifnfhgaemdmaaChecked
import GoSem.Claim
import GoSem.ClaimJoined
import GoSem.ClaimMapViews
import Derived.JoinedTies
import Derived.KernelRfl
namespace Go.Proofs.Ytpifnfhgaemdmaa
/- THE CELL 'sum', in the pinned program and in every row, IS THE sha256 OF THE DUMP (.gsa) THAT YtpifnfhgaemdmaaProg.lean LOADS. Nothing in Lean hashes anything: it is a label: what it is worth is what the hold of that sum in a sandbox is worth. -/
noncomputable def Try.pinned : Pinned := { name := "ytpifnfhgaemdmaa", sum := "adec57a47ec938493bf336e5f097229bcadc1e633bb7fda068748f5ce87151ac", checked := Try.checked }
namespace Rows
def none {H : Type} : Left H := { results := [], args := [] }

/-- 'laws.FnExactListOf': WHATEVER THE INPUT: true; the input reads as it did. -/
def fnExactListOfSpec : ChangeSpec := { name := "fnExactListOf", fn := fun _ => fun
  | [d] => { results := [.lit (.bool true)], args := [d] }
  | _ => none }
def fnExactListOfRow : OpenClaim := { program := "ytpifnfhgaemdmaa", sum := "adec57a47ec938493bf336e5f097229bcadc1e633bb7fda068748f5ce87151ac", func := "loop.example/userspaces/laws.FnExactListOf", spec := "fnExactListOf", apart := false }
def FnExactListOfSaid : Prop := fnExactListOfRow.holds Try.pinned (OpenSpec.ofChange fnExactListOfSpec)

/-- ITS FALSE NEIGHBOUR: 'it returns false'. Refute it at one input. -/
def fnExactListOfWrong : ChangeSpec := { name := "fnExactListOf", fn := fun _ => fun
  | [d] => { results := [.lit (.bool false)], args := [d] }
  | _ => none }
def FnExactListOfWrongFalsely : Prop := fnExactListOfRow.holds Try.pinned (OpenSpec.ofChange fnExactListOfWrong)

/-- 'laws.FnExactListValid': WHATEVER THE INPUT: true; the input reads as it did. -/
def fnExactListValidSpec : ChangeSpec := { name := "fnExactListValid", fn := fun _ => fun
  | [d] => { results := [.lit (.bool true)], args := [d] }
  | _ => none }
def fnExactListValidRow : OpenClaim := { program := "ytpifnfhgaemdmaa", sum := "adec57a47ec938493bf336e5f097229bcadc1e633bb7fda068748f5ce87151ac", func := "loop.example/userspaces/laws.FnExactListValid", spec := "fnExactListValid", unfollowed := true, recurses := true, apart := false }
def FnExactListValidSaid : Prop := fnExactListValidRow.holds Try.pinned (OpenSpec.ofChange fnExactListValidSpec)

/-- ITS FALSE NEIGHBOUR: 'it returns false'. Refute it at one input. -/
def fnExactListValidWrong : ChangeSpec := { name := "fnExactListValid", fn := fun _ => fun
  | [d] => { results := [.lit (.bool false)], args := [d] }
  | _ => none }
def FnExactListValidWrongFalsely : Prop := fnExactListValidRow.holds Try.pinned (OpenSpec.ofChange fnExactListValidWrong)

/-- 'laws.FnListValid': WHATEVER THE INPUT: true; the input reads as it did. -/
def fnListValidSpec : ChangeSpec := { name := "fnListValid", fn := fun _ => fun
  | [d] => { results := [.lit (.bool true)], args := [d] }
  | _ => none }
def fnListValidRow : OpenClaim := { program := "ytpifnfhgaemdmaa", sum := "adec57a47ec938493bf336e5f097229bcadc1e633bb7fda068748f5ce87151ac", func := "loop.example/userspaces/laws.FnListValid", spec := "fnListValid", unfollowed := true, recurses := true, apart := false }
def FnListValidSaid : Prop := fnListValidRow.holds Try.pinned (OpenSpec.ofChange fnListValidSpec)

/-- ITS FALSE NEIGHBOUR: 'it returns false'. Refute it at one input. -/
def fnListValidWrong : ChangeSpec := { name := "fnListValid", fn := fun _ => fun
  | [d] => { results := [.lit (.bool false)], args := [d] }
  | _ => none }
def FnListValidWrongFalsely : Prop := fnListValidRow.holds Try.pinned (OpenSpec.ofChange fnListValidWrong)

/-- 'laws.FnListOf': WHATEVER THE INPUT: true; the input reads as it did. -/
def fnListOfSpec : ChangeSpec := { name := "fnListOf", fn := fun _ => fun
  | [d] => { results := [.lit (.bool true)], args := [d] }
  | _ => none }
def fnListOfRow : OpenClaim := { program := "ytpifnfhgaemdmaa", sum := "adec57a47ec938493bf336e5f097229bcadc1e633bb7fda068748f5ce87151ac", func := "loop.example/userspaces/laws.FnListOf", spec := "fnListOf", unfollowed := true, recurses := true, apart := false }
def FnListOfSaid : Prop := fnListOfRow.holds Try.pinned (OpenSpec.ofChange fnListOfSpec)

/-- ITS FALSE NEIGHBOUR: 'it returns false'. Refute it at one input. -/
def fnListOfWrong : ChangeSpec := { name := "fnListOf", fn := fun _ => fun
  | [d] => { results := [.lit (.bool false)], args := [d] }
  | _ => none }
def FnListOfWrongFalsely : Prop := fnListOfRow.holds Try.pinned (OpenSpec.ofChange fnListOfWrong)

/-- 'laws.FnExactSetGrant': WHATEVER THE INPUT: true; the input reads as it did. -/
def fnExactSetGrantSpec : ChangeSpec := { name := "fnExactSetGrant", fn := fun _ => fun
  | [d1, d2] => { results := [.lit (.bool true)], args := [d1, d2] }
  | _ => none }
def fnExactSetGrantRow : OpenClaim := { program := "ytpifnfhgaemdmaa", sum := "adec57a47ec938493bf336e5f097229bcadc1e633bb7fda068748f5ce87151ac", func := "loop.example/userspaces/laws.FnExactSetGrant", spec := "fnExactSetGrant", unfollowed := true, recurses := true, apart := false }
def FnExactSetGrantSaid : Prop := fnExactSetGrantRow.holds Try.pinned (OpenSpec.ofChange fnExactSetGrantSpec)

/-- ITS FALSE NEIGHBOUR: 'it returns false'. Refute it at one input. -/
def fnExactSetGrantWrong : ChangeSpec := { name := "fnExactSetGrant", fn := fun _ => fun
  | [d1, d2] => { results := [.lit (.bool false)], args := [d1, d2] }
  | _ => none }
def FnExactSetGrantWrongFalsely : Prop := fnExactSetGrantRow.holds Try.pinned (OpenSpec.ofChange fnExactSetGrantWrong)

/-- 'laws.FnSetGrant': WHATEVER THE INPUT: true; the input reads as it did. -/
def fnSetGrantSpec : ChangeSpec := { name := "fnSetGrant", fn := fun _ => fun
  | [d] => { results := [.lit (.bool true)], args := [d] }
  | _ => none }
def fnSetGrantRow : OpenClaim := { program := "ytpifnfhgaemdmaa", sum := "adec57a47ec938493bf336e5f097229bcadc1e633bb7fda068748f5ce87151ac", func := "loop.example/userspaces/laws.FnSetGrant", spec := "fnSetGrant", unfollowed := true, recurses := true, apart := false }
def FnSetGrantSaid : Prop := fnSetGrantRow.holds Try.pinned (OpenSpec.ofChange fnSetGrantSpec)

/-- ITS FALSE NEIGHBOUR: 'it returns false'. Refute it at one input. -/
def fnSetGrantWrong : ChangeSpec := { name := "fnSetGrant", fn := fun _ => fun
  | [d] => { results := [.lit (.bool false)], args := [d] }
  | _ => none }
def FnSetGrantWrongFalsely : Prop := fnSetGrantRow.holds Try.pinned (OpenSpec.ofChange fnSetGrantWrong)

/-- 'laws.FnExactListRights': WHATEVER THE INPUT: true; the input reads as it did. -/
def fnExactListRightsSpec : ChangeSpec := { name := "fnExactListRights", fn := fun _ => fun
  | [d1, d2, d3, d4] => { results := [.lit (.bool true)], args := [d1, d2, d3, d4] }
  | _ => none }
def fnExactListRightsRow : OpenClaim := { program := "ytpifnfhgaemdmaa", sum := "adec57a47ec938493bf336e5f097229bcadc1e633bb7fda068748f5ce87151ac", func := "loop.example/userspaces/laws.FnExactListRights", spec := "fnExactListRights", unfollowed := true, recurses := true, apart := false }
def FnExactListRightsSaid : Prop := fnExactListRightsRow.holds Try.pinned (OpenSpec.ofChange fnExactListRightsSpec)

/-- ITS FALSE NEIGHBOUR: 'it returns false'. Refute it at one input. -/
def fnExactListRightsWrong : ChangeSpec := { name := "fnExactListRights", fn := fun _ => fun
  | [d1, d2, d3, d4] => { results := [.lit (.bool false)], args := [d1, d2, d3, d4] }
  | _ => none }
def FnExactListRightsWrongFalsely : Prop := fnExactListRightsRow.holds Try.pinned (OpenSpec.ofChange fnExactListRightsWrong)

/-- 'laws.FnListRights': WHATEVER THE INPUT: true; the input reads as it did. -/
def fnListRightsSpec : ChangeSpec := { name := "fnListRights", fn := fun _ => fun
  | [d] => { results := [.lit (.bool true)], args := [d] }
  | _ => none }
def fnListRightsRow : OpenClaim := { program := "ytpifnfhgaemdmaa", sum := "adec57a47ec938493bf336e5f097229bcadc1e633bb7fda068748f5ce87151ac", func := "loop.example/userspaces/laws.FnListRights", spec := "fnListRights", unfollowed := true, recurses := true, apart := false }
def FnListRightsSaid : Prop := fnListRightsRow.holds Try.pinned (OpenSpec.ofChange fnListRightsSpec)

/-- ITS FALSE NEIGHBOUR: 'it returns false'. Refute it at one input. -/
def fnListRightsWrong : ChangeSpec := { name := "fnListRights", fn := fun _ => fun
  | [d] => { results := [.lit (.bool false)], args := [d] }
  | _ => none }
def FnListRightsWrongFalsely : Prop := fnListRightsRow.holds Try.pinned (OpenSpec.ofChange fnListRightsWrong)

/- THE SECOND FORM. 'bulk': how many values and letters a reading holds, each counted each time it is reached (what is shared counts as often as it is met; a slice's spare places count too). A statement '..UptoSaid' is the law's where the arguments, and the package variables that the reading takes, are together of bulk at most 1048576: NARROWER than '..Said'. Prove '..Said' where nothing that the law and all that it calls make is longer than what came in: it says more and counts as full. Else prove '..UptoSaid'. A law counts once. -/
mutual
def uptoBulk {H : Type} : DataW H → Nat
  | .lit (.string bytes) => bytes.length + 1
  | .lit _ => 1
  | .nil => 1
  | .ptr d => uptoBulk d + 1
  | .slice elems spare => uptoBulkAll elems + uptoBulkAll spare + 1
  | .agg parts => uptoBulkAll parts + 1
  | .iface _ d => uptoBulk d + 1
  | .map entries => uptoBulkEntries entries + 1
  | .held _ => 1
def uptoBulkAll {H : Type} : List (DataW H) → Nat
  | [] => 0
  | d :: r => uptoBulk d + uptoBulkAll r
def uptoBulkEntries {H : Type} : List (Lit × DataW H) → Nat
  | [] => 0
  | x :: r => uptoBulkEntry x + uptoBulkEntries r
def uptoBulkEntry {H : Type} : Lit × DataW H → Nat
  | (.string bytes, d) => bytes.length + uptoBulk d + 1
  | (_, d) => uptoBulk d + 1
 end
def uptoSmall : (H : Type) → List (DataW H) → Bool := fun _ ds => decide (uptoBulkAll ds ≤ 1048576)
def OpenSpec.upto (s : _root_.Go.ChangeSpec) : _root_.Go.OpenSpec := { _root_.Go.OpenSpec.ofChange s with cond := some uptoSmall }

/-- 'laws.FnExactListOf', WHERE WHAT IT READS IS OF BULK AT MOST 1048576: true; the input reads as it did. -/
def fnExactListOfUptoRow : OpenClaim := { program := "ytpifnfhgaemdmaa", sum := "adec57a47ec938493bf336e5f097229bcadc1e633bb7fda068748f5ce87151ac", func := "loop.example/userspaces/laws.FnExactListOf", spec := "fnExactListOf", apart := false, narrowed := true }
def FnExactListOfUptoSaid : Prop := fnExactListOfUptoRow.holds Try.pinned (OpenSpec.upto fnExactListOfSpec)

/-- 'laws.FnExactListValid', WHERE WHAT IT READS IS OF BULK AT MOST 1048576: true; the input reads as it did. -/
def fnExactListValidUptoRow : OpenClaim := { program := "ytpifnfhgaemdmaa", sum := "adec57a47ec938493bf336e5f097229bcadc1e633bb7fda068748f5ce87151ac", func := "loop.example/userspaces/laws.FnExactListValid", spec := "fnExactListValid", unfollowed := true, recurses := true, apart := false, narrowed := true }
def FnExactListValidUptoSaid : Prop := fnExactListValidUptoRow.holds Try.pinned (OpenSpec.upto fnExactListValidSpec)

/-- 'laws.FnListValid', WHERE WHAT IT READS IS OF BULK AT MOST 1048576: true; the input reads as it did. -/
def fnListValidUptoRow : OpenClaim := { program := "ytpifnfhgaemdmaa", sum := "adec57a47ec938493bf336e5f097229bcadc1e633bb7fda068748f5ce87151ac", func := "loop.example/userspaces/laws.FnListValid", spec := "fnListValid", unfollowed := true, recurses := true, apart := false, narrowed := true }
def FnListValidUptoSaid : Prop := fnListValidUptoRow.holds Try.pinned (OpenSpec.upto fnListValidSpec)

/-- 'laws.FnListOf', WHERE WHAT IT READS IS OF BULK AT MOST 1048576: true; the input reads as it did. -/
def fnListOfUptoRow : OpenClaim := { program := "ytpifnfhgaemdmaa", sum := "adec57a47ec938493bf336e5f097229bcadc1e633bb7fda068748f5ce87151ac", func := "loop.example/userspaces/laws.FnListOf", spec := "fnListOf", unfollowed := true, recurses := true, apart := false, narrowed := true }
def FnListOfUptoSaid : Prop := fnListOfUptoRow.holds Try.pinned (OpenSpec.upto fnListOfSpec)

/-- 'laws.FnExactSetGrant', WHERE WHAT IT READS IS OF BULK AT MOST 1048576: true; the input reads as it did. -/
def fnExactSetGrantUptoRow : OpenClaim := { program := "ytpifnfhgaemdmaa", sum := "adec57a47ec938493bf336e5f097229bcadc1e633bb7fda068748f5ce87151ac", func := "loop.example/userspaces/laws.FnExactSetGrant", spec := "fnExactSetGrant", unfollowed := true, recurses := true, apart := false, narrowed := true }
def FnExactSetGrantUptoSaid : Prop := fnExactSetGrantUptoRow.holds Try.pinned (OpenSpec.upto fnExactSetGrantSpec)

/-- 'laws.FnSetGrant', WHERE WHAT IT READS IS OF BULK AT MOST 1048576: true; the input reads as it did. -/
def fnSetGrantUptoRow : OpenClaim := { program := "ytpifnfhgaemdmaa", sum := "adec57a47ec938493bf336e5f097229bcadc1e633bb7fda068748f5ce87151ac", func := "loop.example/userspaces/laws.FnSetGrant", spec := "fnSetGrant", unfollowed := true, recurses := true, apart := false, narrowed := true }
def FnSetGrantUptoSaid : Prop := fnSetGrantUptoRow.holds Try.pinned (OpenSpec.upto fnSetGrantSpec)

/-- 'laws.FnExactListRights', WHERE WHAT IT READS IS OF BULK AT MOST 1048576: true; the input reads as it did. -/
def fnExactListRightsUptoRow : OpenClaim := { program := "ytpifnfhgaemdmaa", sum := "adec57a47ec938493bf336e5f097229bcadc1e633bb7fda068748f5ce87151ac", func := "loop.example/userspaces/laws.FnExactListRights", spec := "fnExactListRights", unfollowed := true, recurses := true, apart := false, narrowed := true }
def FnExactListRightsUptoSaid : Prop := fnExactListRightsUptoRow.holds Try.pinned (OpenSpec.upto fnExactListRightsSpec)

/-- 'laws.FnListRights', WHERE WHAT IT READS IS OF BULK AT MOST 1048576: true; the input reads as it did. -/
def fnListRightsUptoRow : OpenClaim := { program := "ytpifnfhgaemdmaa", sum := "adec57a47ec938493bf336e5f097229bcadc1e633bb7fda068748f5ce87151ac", func := "loop.example/userspaces/laws.FnListRights", spec := "fnListRights", unfollowed := true, recurses := true, apart := false, narrowed := true }
def FnListRightsUptoSaid : Prop := fnListRightsUptoRow.holds Try.pinned (OpenSpec.upto fnListRightsSpec)

end Rows
end Go.Proofs.Ytpifnfhgaemdmaa
