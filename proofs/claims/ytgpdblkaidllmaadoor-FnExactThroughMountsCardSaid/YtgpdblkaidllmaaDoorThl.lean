/-
  The exact law of ThroughMounts. The library's own variable holds some number.
-/
import Derived.Test.YtgpdblkaidllmaaDoorProg
import Derived.Test.YtgpdblkaidllmaaDoorThs
namespace Go.Proofs.YtgpdblkaidllmaaDoor
open Go.RowKit
set_option linter.unusedSimpArgs false
set_option linter.unusedVariables false

set_option maxHeartbeats 1000000 in
theorem fnExactThroughMounts_walk {w : World} (hm : MX w) (A : Option Addr) (n c : Nat) (l : List Mount) (hA : InsMount w A n c l) (p : ByteArray) (hp : p.size ≤ maxLen) :
    Calls Tryd.prog 4 #[.slice A n c, .string p] w fun e w' => e = .returned (.bool true) ∧ Below w.heap.size w w' := by
  unfold maxLen at hp
  obtain ⟨hI, hmx, hc, hZ⟩ := hA
  have HI := hide hI
  have HZ := hide hZ
  have HM := hide hm
  have hlen := hI.1
  clear hI hZ hm
  by_cases hps : (1048576 : Int) < p.size
  · go_enter Tryd.func4, Tryd.ntmps4
    go_wp2_with fail
    go_ret
    exact ⟨rfl, Below.refl _ _⟩
  go_enter Tryd.func4, Tryd.ntmps4
  go_wp2_with fail
  refine (szMountS_c A n c l hmx HZ.out _ HI.out).mono ?_
  rintro e w1 ⟨y, rfl, hy, hb1⟩
  have B := hide hb1
  clear hb1
  by_cases hy0 : y < 0
  · go_wp2_with fail
    go_ret
    exact ⟨rfl, B.out⟩
  obtain ⟨hn, hz⟩ := hy (by omega)
  have HS := hide hz
  clear hy hz
  go_wp2_with fail
  refine (toMountS_c A n c l _ (HI.out.below B.out) hn).mono ?_
  rintro e w2 ⟨g, rfl, _, hr, hb⟩
  replace B := hide (below_via0 B.out hb)
  have HR := hide hr
  clear hr hb
  go_wp2_with fail
  refine (tmSpec_c g 0 n n l p hlen hn HS.out (by omega) _ HR.out).mono ?_
  rintro e w3 ⟨rfl, hb⟩
  replace B := hide (below_via0 B.out hb)
  clear hb HR
  obtain ⟨BB, hBB⟩ : ∃ BB, thP l p = BB := ⟨_, rfl⟩
  rw [hBB]
  have HBB := hide hBB
  clear hBB
  go_wp2_with fail
  refine (toMountS_c A n c l _ (HI.out.below B.out) hn).mono ?_
  rintro e w4 ⟨g4, rfl, _, hr, hb⟩
  replace B := hide (below_via0 B.out hb)
  have HR := hide hr
  clear hr hb
  go_wp2_with fail
  refine (tmImpl_c g4 0 n n l p hlen hn (Nat.le_refl _) HS.out (by omega) _ (HM.out.below B.out) HR.out).mono ?_
  rintro e w5 ⟨rfl, hb⟩
  replace B := hide (below_via0 B.out hb)
  replace HR := hide (HR.out.below hb)
  clear hb
  rw [HBB.out]
  go_wp2_with fail
  refine (toMountS_c A n c l _ (HI.out.below B.out) hn).mono ?_
  rintro e w6 ⟨g6, rfl, _, hr, hb⟩
  replace B := hide (below_via0 B.out hb)
  replace HR := hide (HR.out.below hb)
  have HQ := hide hr
  clear hr hb
  go_wp2_with fail
  refine (eqMountS_c g4 0 n g6 0 n n l hlen hn _ HR.out HQ.out).mono ?_
  rintro e w7 ⟨rfl, hb⟩
  replace B := hide (below_via0 B.out hb)
  go_wp2_with fail
  go_ret
  exact ⟨rfl, B.out⟩
end Go.Proofs.YtgpdblkaidllmaaDoor
