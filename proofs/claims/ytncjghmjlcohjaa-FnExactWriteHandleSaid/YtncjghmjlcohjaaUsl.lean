/-
  The exact law of UsageOf. No condition.
-/
import Derived.Test.YtncjghmjlcohjaaProg
import Derived.Test.YtncjghmjlcohjaaUsi
import Derived.Test.YtncjghmjlcohjaaOpm
namespace Go.Proofs.Ytncjghmjlcohjaa
open Go.RowKit
set_option linter.unusedSimpArgs false
set_option linter.unusedVariables false

theorem inNode_of {w : World} {g n : Nat} {l : List Node} (hl : l.length = n) (h : RdNode w g 0 l) : InNode w (some ⟨g, 0, none⟩) n l := ⟨hl, fun _ => ⟨g, 0, rfl, h⟩⟩
set_option maxHeartbeats 4000000 in
theorem fnExactUsageOf_walk {w : World} (A : Option Addr) (n c : Nat) (l : List Node) (hA : InsNode w A n c l) (q : Int) (hq : (Lit.int .i64 q).wf = true) :
    Calls Try.prog 3 #[.slice A n c, .int .i64 q] w fun e w' => e = .returned (.bool true) ∧ Below w.heap.size w w' := by
  obtain ⟨hI, hm, hc, hZ⟩ := hA
  have HI := hide hI
  have HZ := hide hZ
  have hlen := hI.1
  clear hI hZ
  go_enter Try.func3, Try.ntmps3
  go_wp2_with fail
  refine (szNodeS_c A n c l hm HZ.out _ HI.out).mono ?_
  rintro e w1 ⟨y, rfl, hy, hb1⟩
  have B := hide hb1
  clear hb1
  by_cases hy0 : y < 0
  · go_wp2_with fail
    go_ret
    exact ⟨rfl, B.out⟩
  obtain ⟨hn, hz⟩ := hy (by omega)
  have HS := hide hz
  clear hy hz
  go_wp2_with fail
  refine (toNodeS_c A n c l _ (HI.out.below B.out) hn HS.out).mono ?_
  rintro e w2 ⟨g, rfl, _, hr, hb⟩
  replace B := hide (below_via0 B.out hb)
  have HR := hide (inNode_of hlen hr)
  clear hr hb
  go_wp2_with fail
  refine (usSpec_c _ n n l q _ HR.out hn HS.out HZ.out).mono ?_
  rintro e w3 ⟨rfl, hb⟩
  replace B := hide (below_via0 B.out hb)
  clear hb HR
  obtain ⟨R1, hR1⟩ : ∃ R, (if treeB l n = true then usN l q n else -1) = R := ⟨_, rfl⟩
  obtain ⟨R2, hR2⟩ : ∃ R, (if treeB l n = true then usB l q n else -1) = R := ⟨_, rfl⟩
  rw [hR1, hR2]
  have HR1 := hide hR1
  have HR2 := hide hR2
  clear hR1 hR2
  go_wp2_with fail
  refine (toNodeS_c A n c l _ (HI.out.below B.out) hn HS.out).mono ?_
  rintro e w4 ⟨g4, rfl, _, hr, hb⟩
  replace B := hide (below_via0 B.out hb)
  have HR := hide (inNode_of hlen hr)
  clear hr hb
  go_wp2_with fail
  refine (usImpl_c _ n n l q _ HR.out hn HS.out HZ.out).mono ?_
  rintro e w5 ⟨rfl, hb⟩
  rw [HR1.out, HR2.out]
  replace B := hide (below_via0 B.out hb)
  replace HR := hide (HR.out.below hb)
  clear hb
  go_wp2_with fail
  refine (toNodeS_c A n c l _ (HI.out.below B.out) hn HS.out).mono ?_
  rintro e w6 ⟨g6, rfl, _, hr, hb⟩
  replace B := hide (below_via0 B.out hb)
  replace HR := hide (HR.out.below hb)
  have HQ := hide (inNode_of hlen hr)
  clear hr hb
  go_wp2_with fail
  refine (eqNodeS_c _ _ n n n l hn HS.out _ HR.out HQ.out).mono ?_
  rintro e w7 ⟨rfl, hb⟩
  replace B := hide (below_via0 B.out hb)
  go_wp2_with fail
  go_ret
  exact ⟨rfl, B.out⟩
end Go.Proofs.Ytncjghmjlcohjaa
