/-
  NARROWER THAN 'FOR EVERY INPUT', by the rows' own cells (each row's printed sentence says how): FnMountsValid: laid · FnExactThroughMounts: laid · FnExactIsBelow: laid · FnExactMountsValid: laid.
  DERIVED. THE GIVEN ROWS OF THIS SEAT. 4 by the template 'for every input the law returns true; each argument reads behind the call as it read before'; 0 by the template 'total and deterministic' (their statements: YtgpdblkaidllmaaDoorTotals.lean).
  GIVEN WITH THE SEED: the statements are not yours to turn. If you find one false, say at which input.
  Laid BY PROGRAM, IN A SANDBOX (cutbox-rows.mjs): the forced cells as the released guide's own fill.sh prints them over the translation 74b944145c48730f… (all of the seat's roots in one cut). By AI agents, Wed Nov 11 2026. No macro, syntax, notation, axiom, sorry.
-/
import Derived.Test.YtgpdblkaidllmaaDoorChecked
import GoSem.PinnedTables
import GoSem.Claim
import GoSem.ClaimJoined
import GoSem.ClaimMapViews
import Derived.JoinedTies
import Derived.KernelRfl
namespace Go.Proofs.YtgpdblkaidllmaaDoor
/- THE CELL 'sum', in the pinned program and in every row, IS THE sha256 OF THE DUMP (.gsa) THAT YtgpdblkaidllmaaDoorProg.lean LOADS. Nothing in Lean hashes anything: it is a label: what it is worth is what the hold of that sum in a sandbox is worth. -/
noncomputable def Tryd.pinned : Pinned := { name := "ytgpdblkaidllmaadoor", sum := "74b944145c48730fcab37e94d6a425656a58315a90212e710b52535d92dd7093", checked := Tryd.checked }
namespace Rows
def none {H : Type} : Left H := { results := [], args := [] }

/- WHAT THE LISTED PACKAGE-LEVEL VARIABLES READ AS WHEN THE CALL BEGINS. Each datum BY PROGRAM (the guide's laid-datum.mjs) off the statement by which the dump's own 'gosem.cut.vars' lays the variable. In a bare row this is a premise. The card (YtgpdblkaidllmaaDoorCards.lean) ties it to the program's text. -/
def laid_unicode_utf8_acceptRanges {H : Type} : DataW H := .agg [.agg [.lit (.int .u8 128), .lit (.int .u8 191)], .agg [.lit (.int .u8 160), .lit (.int .u8 191)], .agg [.lit (.int .u8 128), .lit (.int .u8 159)], .agg [.lit (.int .u8 144), .lit (.int .u8 191)], .agg [.lit (.int .u8 128), .lit (.int .u8 143)], .agg [.lit (.int .u8 0), .lit (.int .u8 0)], .agg [.lit (.int .u8 0), .lit (.int .u8 0)], .agg [.lit (.int .u8 0), .lit (.int .u8 0)], .agg [.lit (.int .u8 0), .lit (.int .u8 0)], .agg [.lit (.int .u8 0), .lit (.int .u8 0)], .agg [.lit (.int .u8 0), .lit (.int .u8 0)], .agg [.lit (.int .u8 0), .lit (.int .u8 0)], .agg [.lit (.int .u8 0), .lit (.int .u8 0)], .agg [.lit (.int .u8 0), .lit (.int .u8 0)], .agg [.lit (.int .u8 0), .lit (.int .u8 0)], .agg [.lit (.int .u8 0), .lit (.int .u8 0)]]
/-- One of Go's own tables, pinned by name: the form's constant. -/
def laid_unicode_utf8_first : DataW Unit := Go.Pinned.utf8First

/-- 'laws.FnMountsValid': WHATEVER THE INPUT: true; the input reads as it did. -/
def fnMountsValidSpec : ChangeSpec := { name := "fnMountsValid", fn := fun _ => fun
  | [d] => { results := [.lit (.bool true)], args := [d] }
  | _ => none }
def fnMountsValidRow : OpenClaim := { program := "ytgpdblkaidllmaadoor", sum := "74b944145c48730fcab37e94d6a425656a58315a90212e710b52535d92dd7093", func := "loop.example/userspaces/laws.FnMountsValid", spec := "fnMountsValid", inPlace := ["internal/bytealg.CountString", "internal/bytealg.IndexByteString", "internal/bytealg.IndexString", "internal/abi.NoEscape", "internal/bytealg.MakeNoZero"], unfollowed := true, recurses := true, named := ["unicode/utf8.first", "unicode/utf8.acceptRanges", "internal/bytealg.MaxLen"], apart := false, laid := [("unicode/utf8.acceptRanges", laid_unicode_utf8_acceptRanges), ("unicode/utf8.first", laid_unicode_utf8_first)] }
def FnMountsValidSaid : Prop := fnMountsValidRow.holds Tryd.pinned (OpenSpec.ofChange fnMountsValidSpec)

/-- ITS FALSE NEIGHBOUR: 'it returns false'. Refute it at one input. -/
def fnMountsValidWrong : ChangeSpec := { name := "fnMountsValid", fn := fun _ => fun
  | [d] => { results := [.lit (.bool false)], args := [d] }
  | _ => none }
def FnMountsValidWrongFalsely : Prop := fnMountsValidRow.holds Tryd.pinned (OpenSpec.ofChange fnMountsValidWrong)

/-- 'laws.FnExactThroughMounts': WHATEVER THE INPUT: true; the input reads as it did. -/
def fnExactThroughMountsSpec : ChangeSpec := { name := "fnExactThroughMounts", fn := fun _ => fun
  | [d1, d2] => { results := [.lit (.bool true)], args := [d1, d2] }
  | _ => none }
def fnExactThroughMountsRow : OpenClaim := { program := "ytgpdblkaidllmaadoor", sum := "74b944145c48730fcab37e94d6a425656a58315a90212e710b52535d92dd7093", func := "loop.example/userspaces/laws.FnExactThroughMounts", spec := "fnExactThroughMounts", inPlace := ["internal/bytealg.CountString", "internal/bytealg.IndexByteString", "internal/bytealg.IndexString", "internal/abi.NoEscape", "internal/bytealg.MakeNoZero"], unfollowed := true, recurses := true, named := ["unicode/utf8.first", "unicode/utf8.acceptRanges", "internal/bytealg.MaxLen"], apart := false, laid := [("unicode/utf8.acceptRanges", laid_unicode_utf8_acceptRanges), ("unicode/utf8.first", laid_unicode_utf8_first)] }
def FnExactThroughMountsSaid : Prop := fnExactThroughMountsRow.holds Tryd.pinned (OpenSpec.ofChange fnExactThroughMountsSpec)

/-- ITS FALSE NEIGHBOUR: 'it returns false'. Refute it at one input. -/
def fnExactThroughMountsWrong : ChangeSpec := { name := "fnExactThroughMounts", fn := fun _ => fun
  | [d1, d2] => { results := [.lit (.bool false)], args := [d1, d2] }
  | _ => none }
def FnExactThroughMountsWrongFalsely : Prop := fnExactThroughMountsRow.holds Tryd.pinned (OpenSpec.ofChange fnExactThroughMountsWrong)

/-- 'laws.FnExactIsBelow': WHATEVER THE INPUT: true; the input reads as it did. -/
def fnExactIsBelowSpec : ChangeSpec := { name := "fnExactIsBelow", fn := fun _ => fun
  | [d1, d2] => { results := [.lit (.bool true)], args := [d1, d2] }
  | _ => none }
def fnExactIsBelowRow : OpenClaim := { program := "ytgpdblkaidllmaadoor", sum := "74b944145c48730fcab37e94d6a425656a58315a90212e710b52535d92dd7093", func := "loop.example/userspaces/laws.FnExactIsBelow", spec := "fnExactIsBelow", inPlace := ["internal/bytealg.CountString", "internal/bytealg.IndexByteString", "internal/bytealg.IndexString", "internal/abi.NoEscape", "internal/bytealg.MakeNoZero"], unfollowed := true, recurses := true, named := ["unicode/utf8.first", "unicode/utf8.acceptRanges", "internal/bytealg.MaxLen"], apart := false, laid := [("unicode/utf8.acceptRanges", laid_unicode_utf8_acceptRanges), ("unicode/utf8.first", laid_unicode_utf8_first)] }
def FnExactIsBelowSaid : Prop := fnExactIsBelowRow.holds Tryd.pinned (OpenSpec.ofChange fnExactIsBelowSpec)

/-- ITS FALSE NEIGHBOUR: 'it returns false'. Refute it at one input. -/
def fnExactIsBelowWrong : ChangeSpec := { name := "fnExactIsBelow", fn := fun _ => fun
  | [d1, d2] => { results := [.lit (.bool false)], args := [d1, d2] }
  | _ => none }
def FnExactIsBelowWrongFalsely : Prop := fnExactIsBelowRow.holds Tryd.pinned (OpenSpec.ofChange fnExactIsBelowWrong)

/-- 'laws.FnExactMountsValid': WHATEVER THE INPUT: true; the input reads as it did. -/
def fnExactMountsValidSpec : ChangeSpec := { name := "fnExactMountsValid", fn := fun _ => fun
  | [d] => { results := [.lit (.bool true)], args := [d] }
  | _ => none }
def fnExactMountsValidRow : OpenClaim := { program := "ytgpdblkaidllmaadoor", sum := "74b944145c48730fcab37e94d6a425656a58315a90212e710b52535d92dd7093", func := "loop.example/userspaces/laws.FnExactMountsValid", spec := "fnExactMountsValid", inPlace := ["internal/bytealg.CountString", "internal/bytealg.IndexByteString", "internal/bytealg.IndexString", "internal/abi.NoEscape", "internal/bytealg.MakeNoZero"], unfollowed := true, recurses := true, named := ["unicode/utf8.first", "unicode/utf8.acceptRanges", "internal/bytealg.MaxLen"], apart := false, laid := [("unicode/utf8.acceptRanges", laid_unicode_utf8_acceptRanges), ("unicode/utf8.first", laid_unicode_utf8_first)] }
def FnExactMountsValidSaid : Prop := fnExactMountsValidRow.holds Tryd.pinned (OpenSpec.ofChange fnExactMountsValidSpec)

/-- ITS FALSE NEIGHBOUR: 'it returns false'. Refute it at one input. -/
def fnExactMountsValidWrong : ChangeSpec := { name := "fnExactMountsValid", fn := fun _ => fun
  | [d] => { results := [.lit (.bool false)], args := [d] }
  | _ => none }
def FnExactMountsValidWrongFalsely : Prop := fnExactMountsValidRow.holds Tryd.pinned (OpenSpec.ofChange fnExactMountsValidWrong)

/- THE SECOND FORM. 'bulk': how many values and letters a reading holds, each counted each time it is reached (what is shared counts as often as it is met; a slice's spare places count too). A statement '..UptoSaid' is the law's where the arguments, and the package variables that the reading takes, are together of bulk at most 1048576: NARROWER than '..Said'. Prove '..Said' where nothing that the law and all that it calls make is longer than what came in: it says more and counts as full. Else prove '..UptoSaid'. A law counts once. -/
mutual
def uptoBulk {H : Type} : DataW H → Nat
  | .lit (.string bytes) => bytes.length + 1
  | .lit _ => 1
  | .nil => 1
  | .ptr d => uptoBulk d + 1
  | .slice elems spare => uptoBulkAll elems + uptoBulkAll spare + 1
  | .agg parts => uptoBulkAll parts + 1
  | .iface _ d => uptoBulk d + 1
  | .map entries => uptoBulkEntries entries + 1
  | .held _ => 1
def uptoBulkAll {H : Type} : List (DataW H) → Nat
  | [] => 0
  | d :: r => uptoBulk d + uptoBulkAll r
def uptoBulkEntries {H : Type} : List (Lit × DataW H) → Nat
  | [] => 0
  | x :: r => uptoBulkEntry x + uptoBulkEntries r
def uptoBulkEntry {H : Type} : Lit × DataW H → Nat
  | (.string bytes, d) => bytes.length + uptoBulk d + 1
  | (_, d) => uptoBulk d + 1
 end
def uptoSmall : (H : Type) → List (DataW H) → Bool := fun _ ds => decide (uptoBulkAll ds ≤ 1048576)
def OpenSpec.upto (s : _root_.Go.ChangeSpec) : _root_.Go.OpenSpec := { _root_.Go.OpenSpec.ofChange s with cond := some uptoSmall }

/-- 'laws.FnMountsValid', WHERE WHAT IT READS IS OF BULK AT MOST 1048576: true; the input reads as it did. -/
def fnMountsValidUptoRow : OpenClaim := { program := "ytgpdblkaidllmaadoor", sum := "74b944145c48730fcab37e94d6a425656a58315a90212e710b52535d92dd7093", func := "loop.example/userspaces/laws.FnMountsValid", spec := "fnMountsValid", inPlace := ["internal/bytealg.CountString", "internal/bytealg.IndexByteString", "internal/bytealg.IndexString", "internal/abi.NoEscape", "internal/bytealg.MakeNoZero"], unfollowed := true, recurses := true, named := ["unicode/utf8.first", "unicode/utf8.acceptRanges", "internal/bytealg.MaxLen"], apart := false, laid := [("unicode/utf8.acceptRanges", laid_unicode_utf8_acceptRanges), ("unicode/utf8.first", laid_unicode_utf8_first)], narrowed := true }
def FnMountsValidUptoSaid : Prop := fnMountsValidUptoRow.holds Tryd.pinned (OpenSpec.upto fnMountsValidSpec)

/-- 'laws.FnExactThroughMounts', WHERE WHAT IT READS IS OF BULK AT MOST 1048576: true; the input reads as it did. -/
def fnExactThroughMountsUptoRow : OpenClaim := { program := "ytgpdblkaidllmaadoor", sum := "74b944145c48730fcab37e94d6a425656a58315a90212e710b52535d92dd7093", func := "loop.example/userspaces/laws.FnExactThroughMounts", spec := "fnExactThroughMounts", inPlace := ["internal/bytealg.CountString", "internal/bytealg.IndexByteString", "internal/bytealg.IndexString", "internal/abi.NoEscape", "internal/bytealg.MakeNoZero"], unfollowed := true, recurses := true, named := ["unicode/utf8.first", "unicode/utf8.acceptRanges", "internal/bytealg.MaxLen"], apart := false, laid := [("unicode/utf8.acceptRanges", laid_unicode_utf8_acceptRanges), ("unicode/utf8.first", laid_unicode_utf8_first)], narrowed := true }
def FnExactThroughMountsUptoSaid : Prop := fnExactThroughMountsUptoRow.holds Tryd.pinned (OpenSpec.upto fnExactThroughMountsSpec)

/-- 'laws.FnExactIsBelow', WHERE WHAT IT READS IS OF BULK AT MOST 1048576: true; the input reads as it did. -/
def fnExactIsBelowUptoRow : OpenClaim := { program := "ytgpdblkaidllmaadoor", sum := "74b944145c48730fcab37e94d6a425656a58315a90212e710b52535d92dd7093", func := "loop.example/userspaces/laws.FnExactIsBelow", spec := "fnExactIsBelow", inPlace := ["internal/bytealg.CountString", "internal/bytealg.IndexByteString", "internal/bytealg.IndexString", "internal/abi.NoEscape", "internal/bytealg.MakeNoZero"], unfollowed := true, recurses := true, named := ["unicode/utf8.first", "unicode/utf8.acceptRanges", "internal/bytealg.MaxLen"], apart := false, laid := [("unicode/utf8.acceptRanges", laid_unicode_utf8_acceptRanges), ("unicode/utf8.first", laid_unicode_utf8_first)], narrowed := true }
def FnExactIsBelowUptoSaid : Prop := fnExactIsBelowUptoRow.holds Tryd.pinned (OpenSpec.upto fnExactIsBelowSpec)

/-- 'laws.FnExactMountsValid', WHERE WHAT IT READS IS OF BULK AT MOST 1048576: true; the input reads as it did. -/
def fnExactMountsValidUptoRow : OpenClaim := { program := "ytgpdblkaidllmaadoor", sum := "74b944145c48730fcab37e94d6a425656a58315a90212e710b52535d92dd7093", func := "loop.example/userspaces/laws.FnExactMountsValid", spec := "fnExactMountsValid", inPlace := ["internal/bytealg.CountString", "internal/bytealg.IndexByteString", "internal/bytealg.IndexString", "internal/abi.NoEscape", "internal/bytealg.MakeNoZero"], unfollowed := true, recurses := true, named := ["unicode/utf8.first", "unicode/utf8.acceptRanges", "internal/bytealg.MaxLen"], apart := false, laid := [("unicode/utf8.acceptRanges", laid_unicode_utf8_acceptRanges), ("unicode/utf8.first", laid_unicode_utf8_first)], narrowed := true }
def FnExactMountsValidUptoSaid : Prop := fnExactMountsValidUptoRow.holds Tryd.pinned (OpenSpec.upto fnExactMountsValidSpec)

end Rows
end Go.Proofs.YtgpdblkaidllmaaDoor
