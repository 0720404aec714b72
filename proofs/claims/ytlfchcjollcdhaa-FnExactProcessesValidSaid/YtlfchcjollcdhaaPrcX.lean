/-
  The exact law of ProcessesValid. No condition.
-/
import Derived.Test.YtlfchcjollcdhaaProg
import Derived.Test.YtlfchcjollcdhaaPrcV
import Derived.Test.YtlfchcjollcdhaaPrcW
namespace Go.Proofs.Ytlfchcjollcdhaa
open Go.RowKit
set_option linter.unusedSimpArgs false
set_option linter.unusedVariables false


set_option maxHeartbeats 1000000 in
theorem fnExactProcessesValid_walk {w : World} (A : Option Addr) (n c : Nat) (l : List Pcs) (hA : InsProcess w A n c l)  :
    Calls Try.prog 3 #[.slice A n c] w fun e w' => e = .returned (.bool true) ∧ Below w.heap.size w w' := by
  obtain ⟨hIn, hm, hc⟩ := hA
  by_cases h : (n : Int) ≤ 1048576
  · have g1 : 0 ≤ 1048576 - (n : Int) := by omega
    have hn : n ≤ 1048576 := by omega
    have hl := hide hIn.1
    have HI := hide hIn
    clear hIn
    go_enter Try.func3, Try.ntmps3
    go_wp2_with fail
    refine (szProcess_yes _ _ _ _ h (by omega) _).mono ?_
    rintro e w' ⟨rfl, rfl⟩
    go_wp2_with fail
    refine (toProcessS_c _ _ _ l _ HI.out hn).mono ?_
    rintro e w1 ⟨b1, rfl, hg1, hR1, hb1⟩
    go_wp2_with fail
    refine (pvSpec_c _ _ _ l hn _ ⟨hl.out, fun _ => ⟨_, _, rfl, hR1⟩⟩).mono ?_
    rintro e w2 ⟨rfl, hb2⟩
    have hB2 := below_via0 hb1 hb2
    have HI2 := hide (HI.out.below hB2)
    go_wp2_with fail
    refine (toProcessS_c _ _ _ l _ HI2.out hn).mono ?_
    rintro e w3 ⟨b3, rfl, hg3, hR3, hb3⟩
    have hB3 := below_via0 hB2 hb3
    go_wp2_with fail
    refine (pvImpl_c _ _ _ l hn (Nat.le_refl _) _ ⟨hl.out, fun _ => ⟨_, _, rfl, hR3⟩⟩).mono ?_
    rintro e w4 ⟨rfl, hb4⟩
    have hB4 := below_via0 hB3 hb4
    have HI4 := hide (HI.out.below hB4)
    go_wp2_with fail
    refine (toProcessS_c _ _ _ l _ HI4.out hn).mono ?_
    rintro e w5 ⟨b5, rfl, hg5, hR5, hb5⟩
    have hB5 := below_via0 hB4 hb5
    have hR3' := (hR3.below hb4).below hb5
    go_wp2_with fail
    refine (eqProcessS_c _ _ _ _ _ _ _ l hl.out hn _ hR3' hR5).mono ?_
    rintro e w6 ⟨rfl, hb6⟩
    have hB6 := below_via0 hB5 hb6
    go_wp2
    go_ret
    exact ⟨rfl, hB6⟩
  · go_enter Try.func3, Try.ntmps3
    go_wp2_with fail
    refine (szProcess_no _ _ _ _ (by omega) (by omega) hm (by omega) _).mono ?_
    rintro e w' ⟨rfl, rfl⟩
    go_wp2
    go_ret
    exact ⟨rfl, Below.refl _ _⟩
end Go.Proofs.Ytlfchcjollcdhaa
