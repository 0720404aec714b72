/-
  Handles: what a valid one is to the reference. No condition.
-/
import Derived.Test.YtncjghmjlcohjaaProg
import Derived.Test.YtncjghmjlcohjaaHan
namespace Go.Proofs.Ytncjghmjlcohjaa
open Go.RowKit
set_option linter.unusedSimpArgs false
set_option linter.unusedVariables false

set_option maxHeartbeats 4000000 in
theorem hanSpec_c (A : Option Addr) (n c : Nat) (l : List Node) (f a r : Int) (w : World) (hI : InNode w A n l) (hn : n ≤ 1048576) (hz : ∀ t ∈ l, NodeS t) (hZ : ∀ t ∈ l, NodeZ t) :
    Calls Try.prog 37 #[.slice A n c, .agg #[.int .i64 f, .int .i64 a, .int .i64 r]] w fun e w' => e = .returned (.bool (hanB l n f a r)) ∧ Below w.heap.size w w' := by
  have HI := hide hI
  have hlen := hI.1
  have B0 : Below w.heap.size w (w.alloc (.cells #[.int .i64 f, .int .i64 a, .int .i64 r] 32)) := below_alloc0 (Below.refl _ _) _
  have R0 := hide (Row.made w 32 #[.int .i64 f, .int .i64 a, .int .i64 r] (fun j => #[Value.int .i64 f, .int .i64 a, .int .i64 r][j]?) (fun _ _ h => h))
  have jn := IntWalk.i64_in ((n : Int) - 1) (by omega)
  cases hv : treeB l n
  · have HF := hide (show hanB l n f a r = false by rw [hanB, hv]; rfl)
    go_enter Try.func37, Try.ntmps37
    go_wp2_with fail
    refine (tvSpec_c A n c l _ (hI.below B0) hn hz hZ).mono ?_
    rintro e w1 ⟨rfl, hb1⟩
    rw [hv]
    go_wp2_with fail
    go_ret
    exact ⟨by rw [HF.out]; rfl, below_via0 B0 hb1⟩
  cases hf : inB f 0 ((n : Int) - 1)
  · have HF := hide (show hanB l n f a r = false by rw [hanB, hv, hf]; rfl)
    go_enter Try.func37, Try.ntmps37
    go_wp2_with fail
    refine (tvSpec_c A n c l _ (hI.below B0) hn hz hZ).mono ?_
    rintro e w1 ⟨rfl, hb1⟩
    rw [hv]
    have R1 := R0.out.below hb1 (by simp)
    have g1 := R1.lt
    have g0 := R1.cell (j := 0) rfl
    clear R1
    go_wp2_with fail
    refine (l1In_c _ _ _ _).mono ?_
    rintro e w2 ⟨rfl, rfl⟩
    rw [hf]
    go_wp2_with fail
    go_ret
    exact ⟨by rw [HF.out]; rfl, below_via0 B0 hb1⟩
  obtain ⟨f0, f1⟩ := inB_iff.1 hf
  obtain ⟨k, rfl⟩ := Int.eq_ofNat_of_zero_le f0
  obtain ⟨b, off, rfl, hR⟩ := hI.2 (by omega)
  have hk : k < n := by omega
  have hkn : (k : Int) < n := by omega
  obtain ⟨t, ht⟩ : ∃ t, l[k]? = some t := ⟨_, List.getElem?_eq_getElem (by omega)⟩
  have hda : dirAt l (k : Int) = t.dir := by simp [dirAt, ht]
  have HT := hide ht
  have HR := hide hR
  have HE := hide (show hanB l n (k : Int) a r = (!t.dir && (inB a 0 40 && inB r 0 7)) by rw [hanB, hv, hf, hda]; rfl)
  clear ht hR hda
  go_enter Try.func37, Try.ntmps37
  go_wp2_with fail
  refine (tvSpec_c _ n c l _ (hI.below B0) hn hz hZ).mono ?_
  rintro e w1 ⟨rfl, hb1⟩
  rw [hv]
  have B1 := hide (below_via0 B0 hb1)
  have R1 := hide (R0.out.below hb1 (by simp))
  have g1 := R1.out.lt
  have g0 := R1.out.cell (j := 0) rfl
  have g2 := R1.out.cell (j := 1) rfl
  have g3 := R1.out.cell (j := 2) rfl
  obtain ⟨S, K, ⟨c0, _⟩, _, _⟩ := (HR.out.below B1.out).2 k t HT.out
  have hbl := (HR.out.below B1.out).1
  clear hb1 hI hz hZ
  go_wp2_with fail
  refine (l1In_c _ _ _ _).mono ?_
  rintro e w2 ⟨rfl, rfl⟩
  rw [hf]
  cases hd : t.dir
  · rw [hd] at c0
    have HE1 := hide (show hanB l n (k : Int) a r = (inB a 0 40 && inB r 0 7) by rw [HE.out, hd]; rfl)
    go_wp2_with fail
    refine (l1In_c _ _ _ _).mono ?_
    rintro e w2 ⟨rfl, rfl⟩
    cases ha : inB a 0 40
    · go_wp2_with fail
      go_ret
      exact ⟨by rw [HE1.out, ha]; rfl, B1.out⟩
    · go_wp2_with fail
      refine (l1In_c _ _ _ _).mono ?_
      rintro e w2 ⟨rfl, rfl⟩
      go_wp2_with fail
      go_ret
      exact ⟨by rw [HE1.out, ha]; rfl, B1.out⟩
  · rw [hd] at c0
    go_wp2_with fail
    go_ret
    exact ⟨by rw [HE.out, hd]; rfl, B1.out⟩
end Go.Proofs.Ytncjghmjlcohjaa
