/-
  The law of ProcessesValid over drawn lists. No condition.
-/
import Derived.Test.YtlfchcjollcdhaaProg
import Derived.Test.YtlfchcjollcdhaaPdr
import Derived.Test.YtlfchcjollcdhaaPrcW
import Derived.Test.YtlfchcjollcdhaaAlive
import Derived.Test.YtlfchcjollcdhaaPsm
namespace Go.Proofs.Ytlfchcjollcdhaa
open Go.RowKit
set_option linter.unusedSimpArgs false
set_option linter.unusedVariables false

theorem inP_drop {w : World} {b off n : Nat} {l : List Pcs} (hl : l.length = n) (h : RdProcess w b off l) : InProcess w (some ⟨b, off + 8, none⟩) (n - 1) (l.drop 1) := by
  refine ⟨by simp [hl], fun _ => ⟨b, off + 8, rfl, h.1, fun k t ht => ?_⟩⟩
  rw [List.getElem?_drop] at ht
  have := h.2 (1 + k) t ht
  rw [show off + (1 + k) * 8 = off + 8 + k * 8 by omega] at this
  exact this
theorem inP_take {w : World} {b off n k : Nat} {l : List Pcs} (hl : l.length = n) (hk : k ≤ n) (h : RdProcess w b off l) : InProcess w (some ⟨b, off, none⟩) k (l.take k) := by
  refine ⟨by simp [hl]; omega, fun _ => ⟨b, off, rfl, h.1, fun i t ht => ?_⟩⟩
  rw [List.getElem?_take] at ht
  split at ht
  · exact h.2 i t ht
  · cases ht
theorem inP_0 {w : World} {A : Option Addr} : InProcess w A 0 [] := ⟨rfl, fun h => absurd h (by omega)⟩
theorem drop_nil {l : List Pcs} (h : l.length = 1) : l.drop 1 = [] := List.drop_eq_nil_of_le (by omega)
set_option maxHeartbeats 8000000 in
theorem fnProcessesValid_walk {w : World} (A : Option Addr) (n c : Nat) (h : InB w A n c) :
    Calls Try.prog 4 #[.slice A n c] w fun e w' => e = .returned (.bool true) ∧ Below w.heap.size w w' := by
  have hm := h.2.1
  unfold maxLen at hm
  have hc := h.1
  have H := hide h
  clear h
  by_cases h20 : 1048576 < n
  · go_enter Try.func4, Try.ntmps4
    go_wp2_with fail
    go_ret
    exact ⟨rfl, Below.refl _ _⟩
  go_enter Try.func4, Try.ntmps4
  go_wp2_with fail
  refine (gProcs_c A n c _ H.out).mono ?_
  rintro e w1 ⟨A, nl, cl, l, rfl, hl, hn, ho, hb1⟩
  have hcap := ho.cap
  have hcm := hcap.2
  unfold maxLen at hcm
  have P1 := hide (ho.ins hl)
  have B1 := hide hb1
  have HL := hide hl
  clear ho hb1 hl
  go_wp2_with fail
  refine (pvImpl_c _ _ _ l (by omega) hcap.1 _ P1.out).mono ?_
  rintro e w2 ⟨rfl, hb2⟩
  have P2 := hide (P1.out.below hb2)
  have B2 := hide (below_via0 B1.out hb2)
  clear hb2 B1 P1
  go_wp2_with fail
  refine (pvSpec_c _ _ _ l (by omega) _ P2.out).mono ?_
  rintro e w3 ⟨rfl, hb3⟩
  have P3 := hide (P2.out.below hb3)
  have B3 := hide (below_via0 B2.out hb3)
  clear hb3 B2 P2
  cases hv : procsB l
  · clear hv
    go_wp2_with fail
    refine (alive_c _).mono ?_
    rintro e w4 ⟨rfl, hb4⟩
    have B4 := hide (below_via0 B3.out hb4)
    go_wp2_with fail
    go_ret
    exact ⟨rfl, B4.out⟩
  have hV := procsB_iff.1 hv
  have hn1 : 1 ≤ nl := by have := hV.2.1; have := HL.out; omega
  have HD := hide (procsB_no hV.rest)
  have HT := hide (procsB_iff.2 hV.one)
  obtain ⟨b, off, rfl, hR⟩ := P3.out.2 (by omega)
  have HR := hide hR
  clear hv hV hR
  have hi1 : (1 : Int) ≤ nl := by omega
  have hi2 : (1 : Int) ≤ cl := by omega
  by_cases hc1 : cl = 1
  · obtain rfl : nl = 1 := by omega
    subst hc1
    rw [drop_nil HL.out] at HD
    go_wp2_with fail
    refine (pvImpl_c _ _ _ [] (by omega) (by omega) _ inP_0).mono ?_
    rintro e w4 ⟨rfl, hb4⟩
    rw [HD.out]
    have R4 := hide (HR.out.below hb4)
    have B4 := hide (below_via0 B3.out hb4)
    clear hb4
    go_wp2_with fail
    refine (pvImpl_c _ _ _ (l.take 1) (by omega) (by omega) _ (inP_take HL.out (by omega) R4.out)).mono ?_
    rintro e w5 ⟨rfl, hb5⟩
    rw [HT.out]
    have B5 := hide (below_via0 B4.out hb5)
    dsimp only
    go_wp2_with fail
    go_ret
    exact ⟨rfl, B5.out⟩
  · go_wp2_with fail
    refine (pvImpl_c _ _ _ (l.drop 1) (by omega) (by omega) _ (inP_drop HL.out HR.out)).mono ?_
    rintro e w4 ⟨rfl, hb4⟩
    rw [HD.out]
    have R4 := hide (HR.out.below hb4)
    have B4 := hide (below_via0 B3.out hb4)
    clear hb4
    go_wp2_with fail
    refine (pvImpl_c _ _ _ (l.take 1) (by omega) (by omega) _ (inP_take HL.out (by omega) R4.out)).mono ?_
    rintro e w5 ⟨rfl, hb5⟩
    rw [HT.out]
    have B5 := hide (below_via0 B4.out hb5)
    dsimp only
    go_wp2_with fail
    go_ret
    exact ⟨rfl, B5.out⟩
end Go.Proofs.Ytlfchcjollcdhaa
