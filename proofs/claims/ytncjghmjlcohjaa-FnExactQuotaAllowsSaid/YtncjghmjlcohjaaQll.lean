/-
  The exact law of QuotaAllows. No condition.
-/
import Derived.Test.YtncjghmjlcohjaaProg
import Derived.Test.YtncjghmjlcohjaaQal
import Derived.Test.YtncjghmjlcohjaaSzn
import Derived.Test.YtncjghmjlcohjaaUsl
namespace Go.Proofs.Ytncjghmjlcohjaa
open Go.RowKit
set_option linter.unusedSimpArgs false
set_option linter.unusedVariables false

set_option maxHeartbeats 4000000 in
theorem fnExactQuotaAllows_walk {w : World} (A1 : Option Addr) (n1 c1 : Nat) (l1 : List Node) (hA1 : InsNode w A1 n1 c1 l1) (A2 : Option Addr) (n2 c2 : Nat) (l2 : List Node) (hA2 : InsNode w A2 n2 c2 l2) (A3 : Option Addr) (n3 c3 : Nat) (l3 : List Quota) (hA3 : InsQuota w A3 n3 c3 l3) :
    Calls Try.prog 5 #[.slice A1 n1 c1, .slice A2 n2 c2, .slice A3 n3 c3] w fun e w' => e = .returned (.bool true) ∧ Below w.heap.size w w' := by
  obtain ⟨hI1, hm1, hc1, hZ1⟩ := hA1
  obtain ⟨hI2, hm2, hc2, hZ2⟩ := hA2
  obtain ⟨hI3, hm3, hc3⟩ := hA3
  have HI1 := hide hI1
  have HZ1 := hide hZ1
  have hlen1 := hI1.1
  have HI2 := hide hI2
  have HZ2 := hide hZ2
  have hlen2 := hI2.1
  have HI3 := hide hI3
  have hlen3 := hI3.1
  have B := hide (Below.refl w.heap.size w)
  clear hI1 hZ1 hI2 hZ2 hI3
  go_enter Try.func5, Try.ntmps5
  go_wp2_with fail
  refine (szNodeZ_c A1 n1 c1 l1 _ (by omega) hm1 HZ1.out _ (HI1.out.below B.out)).mono ?_
  rintro e w1 ⟨y1, rfl, hyz1, hy1, hb⟩
  replace B := hide (below_via0 B.out hb)
  clear hb
  by_cases hy0 : y1 < 0
  · go_wp2_with fail
    go_ret
    exact ⟨rfl, B.out⟩
  obtain ⟨hn1, hz1⟩ := hy1 (by omega)
  have HS1 := hide hz1
  clear hy1 hz1
  go_wp2_with fail
  refine (szNodeZ_c A2 n2 c2 l2 _ (by omega) hm2 HZ2.out _ (HI2.out.below B.out)).mono ?_
  rintro e w1 ⟨y2, rfl, hyz2, hy2, hb⟩
  replace B := hide (below_via0 B.out hb)
  clear hb
  by_cases hy0 : y2 < 0
  · go_wp2_with fail
    go_ret
    exact ⟨rfl, B.out⟩
  obtain ⟨hn2, hz2⟩ := hy2 (by omega)
  have HS2 := hide hz2
  clear hy2 hz2
  go_wp2_with fail
  by_cases hq3 : (n3 : Int) ≤ y2
  case neg =>
    refine (szQuota_no A3 n3 c3 y2 (by omega) (by omega) hm3 (by omega) _).mono ?_
    rintro e w1 ⟨rfl, rfl⟩
    go_wp2_with fail
    go_ret
    exact ⟨rfl, B.out⟩
  have hn3 : n3 ≤ 1048576 := by omega
  have hge3 : 0 ≤ y2 - (n3 : Int) := by omega
  refine (szQuota_yes A3 n3 c3 y2 hq3 (by omega) _).mono ?_
  rintro e w1 ⟨rfl, rfl⟩
  go_wp2_with fail
  refine (toNodeS_c A1 n1 c1 l1 _ (HI1.out.below B.out) hn1 HS1.out).mono ?_
  rintro e w2 ⟨ga, rfl, _, hr, hb⟩
  replace B := hide (below_via0 B.out hb)
  have GA := hide (inNode_of hlen1 hr)
  clear hr hb
  go_wp2_with fail
  refine (toNodeS_c A2 n2 c2 l2 _ (HI2.out.below B.out) hn2 HS2.out).mono ?_
  rintro e w2 ⟨gb, rfl, _, hr, hb⟩
  replace B := hide (below_via0 B.out hb)
  replace GA := hide (GA.out.below hb)
  have GB := hide (inNode_of hlen2 hr)
  clear hr hb
  go_wp2_with fail
  refine (toQuotaS_c A3 n3 c3 l3 _ (HI3.out.below B.out) hn3).mono ?_
  rintro e w2 ⟨gc, rfl, _, hr, hb⟩
  replace B := hide (below_via0 B.out hb)
  replace GA := hide (GA.out.below hb)
  replace GB := hide (GB.out.below hb)
  have GC := hide hr
  clear hr hb
  go_wp2_with fail
  refine (qaSpec_c _ n1 n1 l1 _ n2 n2 l2 gc 0 n3 n3 l3 hlen3 hn3 _ GA.out hn1 HS1.out HZ1.out GB.out hn2 HS2.out HZ2.out GC.out).mono ?_
  rintro e w3 ⟨rfl, hb⟩
  replace B := hide (below_via0 B.out hb)
  clear hb GA GB GC
  obtain ⟨BB, hBB⟩ : ∃ BB, qaB l1 l2 n1 n2 l3 = BB := ⟨_, rfl⟩
  rw [hBB]
  have HBB := hide hBB
  clear hBB
  go_wp2_with fail
  refine (toNodeS_c A1 n1 c1 l1 _ (HI1.out.below B.out) hn1 HS1.out).mono ?_
  rintro e w2 ⟨ga, rfl, _, hr, hb⟩
  replace B := hide (below_via0 B.out hb)
  have GA := hide (inNode_of hlen1 hr)
  clear hr hb
  go_wp2_with fail
  refine (toNodeS_c A2 n2 c2 l2 _ (HI2.out.below B.out) hn2 HS2.out).mono ?_
  rintro e w2 ⟨gb, rfl, _, hr, hb⟩
  replace B := hide (below_via0 B.out hb)
  replace GA := hide (GA.out.below hb)
  have GB := hide (inNode_of hlen2 hr)
  clear hr hb
  go_wp2_with fail
  refine (toQuotaS_c A3 n3 c3 l3 _ (HI3.out.below B.out) hn3).mono ?_
  rintro e w2 ⟨gc, rfl, _, hr, hb⟩
  replace B := hide (below_via0 B.out hb)
  replace GA := hide (GA.out.below hb)
  replace GB := hide (GB.out.below hb)
  have GC := hide hr
  clear hr hb
  go_wp2_with fail
  refine (qaImpl_c _ n1 n1 l1 _ n2 n2 l2 gc 0 n3 n3 l3 hlen3 hn3 _ GA.out hn1 HS1.out HZ1.out GB.out hn2 HS2.out HZ2.out GC.out).mono ?_
  rintro e w3 ⟨rfl, hb⟩
  rw [HBB.out]
  replace B := hide (below_via0 B.out hb)
  replace GA := hide (GA.out.below hb)
  replace GB := hide (GB.out.below hb)
  replace GC := hide (GC.out.below hb)
  clear hb
  go_wp2_with fail
  refine (toNodeS_c A1 n1 c1 l1 _ (HI1.out.below B.out) hn1 HS1.out).mono ?_
  rintro e w2 ⟨gd, rfl, _, hr, hb⟩
  replace B := hide (below_via0 B.out hb)
  replace GA := hide (GA.out.below hb)
  replace GB := hide (GB.out.below hb)
  replace GC := hide (GC.out.below hb)
  have GD := hide (inNode_of hlen1 hr)
  clear hr hb
  go_wp2_with fail
  refine (eqNodeS_c _ _ n1 n1 n1 l1 hn1 HS1.out _ GA.out GD.out).mono ?_
  rintro e w7 ⟨rfl, hb⟩
  replace B := hide (below_via0 B.out hb)
  replace GB := hide (GB.out.below hb)
  replace GC := hide (GC.out.below hb)
  clear GA GD hb
  go_wp2_with fail
  refine (toNodeS_c A2 n2 c2 l2 _ (HI2.out.below B.out) hn2 HS2.out).mono ?_
  rintro e w2 ⟨gd, rfl, _, hr, hb⟩
  replace B := hide (below_via0 B.out hb)
  replace GB := hide (GB.out.below hb)
  replace GC := hide (GC.out.below hb)
  have GD := hide (inNode_of hlen2 hr)
  clear hr hb
  go_wp2_with fail
  refine (eqNodeS_c _ _ n2 n2 n2 l2 hn2 HS2.out _ GB.out GD.out).mono ?_
  rintro e w7 ⟨rfl, hb⟩
  replace B := hide (below_via0 B.out hb)
  replace GC := hide (GC.out.below hb)
  clear GB GD hb
  go_wp2_with fail
  refine (toQuotaS_c A3 n3 c3 l3 _ (HI3.out.below B.out) hn3).mono ?_
  rintro e w2 ⟨gd, rfl, _, hr, hb⟩
  replace B := hide (below_via0 B.out hb)
  replace GC := hide (GC.out.below hb)
  have GD := hide hr
  clear hr hb
  go_wp2_with fail
  refine (eqQuotaS_c gc 0 n3 gd 0 n3 n3 l3 hlen3 hn3 _ GC.out GD.out).mono ?_
  rintro e w8 ⟨rfl, hb⟩
  replace B := hide (below_via0 B.out hb)
  go_wp2_with fail
  go_ret
  exact ⟨rfl, B.out⟩
end Go.Proofs.Ytncjghmjlcohjaa
