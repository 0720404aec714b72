/-
  Handles: copies, equality, what a valid one is. No condition.
-/
import Derived.Test.YtncjghmjlcohjaaProg
import Derived.Test.YtncjghmjlcohjaaTvi
namespace Go.Proofs.Ytncjghmjlcohjaa
open Go.RowKit
set_option linter.unusedSimpArgs false
set_option linter.unusedVariables false

theorem toHandle_c (f a r : Int) (w : World) :
    Calls Try.prog 14 #[.agg #[.int .i64 f, .int .i64 a, .int .i64 r]] w fun e w' => e = .returned (.agg #[.int .i64 f, .int .i64 a, .int .i64 r]) ∧ Below w.heap.size w w' := by
  go_enter Try.func14, Try.ntmps14
  go_wp2
  exact bodyPost_ret (v := .agg #[.int .i64 f, .int .i64 a, .int .i64 r]) (by simp [results, Try.results14, go_sem]) rfl ⟨rfl, (by repeat' (first | exact Below.refl _ _ | assumption | exact And.left (by assumption) | omega | (simp; done) | (simp; omega) | (simp at *; omega) | (refine Below.setCell ?_ ?_ _) | (refine below_alloc0 ?_ _) | (refine Below.drew ?_) | (refine below_drewN ?_ _) | (refine below_via0 ?_ (by assumption)) | (refine Below.alloc ?_ ?_ _) | (refine below_via ?_ (by assumption) ?_)))⟩
theorem eqHandle_c (f a r : Int) (w : World) :
    Calls Try.prog 16 #[.agg #[.int .i64 f, .int .i64 a, .int .i64 r], .agg #[.int .i64 f, .int .i64 a, .int .i64 r]] w fun e w' => e = .returned (.bool true) ∧ Below w.heap.size w w' := by
  go_enter Try.func16, Try.ntmps16
  go_wp2
  go_ret
  exact ⟨rfl, (by repeat' (first | exact Below.refl _ _ | assumption | exact And.left (by assumption) | omega | (simp; done) | (simp; omega) | (simp at *; omega) | (refine Below.setCell ?_ ?_ _) | (refine below_alloc0 ?_ _) | (refine Below.drew ?_) | (refine below_drewN ?_ _) | (refine below_via0 ?_ (by assumption)) | (refine Below.alloc ?_ ?_ _) | (refine below_via ?_ (by assumption) ?_)))⟩
def txAt (l : List Node) (x : Int) : ByteArray := match l[x.toNat]? with | some u => u.text | none => ByteArray.empty
/-- A handle that is valid for a tree. -/
noncomputable def hanB (l : List Node) (n : Nat) (f a r : Int) : Bool := treeB l n && (inB f 0 ((n : Int) - 1) && (!dirAt l f && (inB a 0 40 && inB r 0 7)))
theorem isRights_c (n : Int) (w : World) : Calls Try.prog 59 #[.int .i64 n] w fun e w' => e = .returned (.bool (inB n 0 7)) ∧ w = w' := by
  go_enter Try.func59, Try.ntmps59
  go_wp2_with (go_at_call 58; refine (within_c _ _ _ _).mono ?_; rintro e w' ⟨rfl, rfl⟩)
  go_ret
  exact ⟨rfl, rfl⟩
set_option maxHeartbeats 4000000 in
theorem hanImpl_c (A : Option Addr) (n c : Nat) (l : List Node) (f a r : Int) (w : World) (hI : InNode w A n l) (hn : n ≤ 1048576) (hz : ∀ t ∈ l, NodeS t) (hZ : ∀ t ∈ l, NodeZ t) :
    Calls Try.prog 38 #[.slice A n c, .agg #[.int .i64 f, .int .i64 a, .int .i64 r]] w fun e w' => e = .returned (.bool (hanB l n f a r)) ∧ Below w.heap.size w w' := by
  have HI := hide hI
  have hlen := hI.1
  have B0 : Below w.heap.size w (w.alloc (.cells #[.int .i64 f, .int .i64 a, .int .i64 r] 32)) := below_alloc0 (Below.refl _ _) _
  have R0 := hide (Row.made w 32 #[.int .i64 f, .int .i64 a, .int .i64 r] (fun j => #[Value.int .i64 f, .int .i64 a, .int .i64 r][j]?) (fun _ _ h => h))
  have jn := IntWalk.i64_in ((n : Int) - 1) (by omega)
  cases hv : treeB l n
  · have HF := hide (show hanB l n f a r = false by rw [hanB, hv]; rfl)
    go_enter Try.func38, Try.ntmps38
    go_wp2_with fail
    refine (tvImpl_c A n c l _ (hI.below B0) hn hz hZ).mono ?_
    rintro e w1 ⟨rfl, hb1⟩
    rw [hv]
    go_wp2_with fail
    go_ret
    exact ⟨by rw [HF.out]; rfl, below_via0 B0 hb1⟩
  cases hf : inB f 0 ((n : Int) - 1)
  · have HF := hide (show hanB l n f a r = false by rw [hanB, hv, hf]; rfl)
    go_enter Try.func38, Try.ntmps38
    go_wp2_with fail
    refine (tvImpl_c A n c l _ (hI.below B0) hn hz hZ).mono ?_
    rintro e w1 ⟨rfl, hb1⟩
    rw [hv]
    have R1 := R0.out.below hb1 (by simp)
    have g1 := R1.lt
    have g0 := R1.cell (j := 0) rfl
    clear R1
    go_wp2_with fail
    refine (within_c _ _ _ _).mono ?_
    rintro e w2 ⟨rfl, rfl⟩
    rw [hf]
    go_wp2_with fail
    go_ret
    exact ⟨by rw [HF.out]; rfl, below_via0 B0 hb1⟩
  obtain ⟨f0, f1⟩ := inB_iff.1 hf
  obtain ⟨k, rfl⟩ := Int.eq_ofNat_of_zero_le f0
  obtain ⟨b, off, rfl, hR⟩ := hI.2 (by omega)
  have hk : k < n := by omega
  have hkn : (k : Int) < n := by omega
  obtain ⟨t, ht⟩ : ∃ t, l[k]? = some t := ⟨_, List.getElem?_eq_getElem (by omega)⟩
  have hda : dirAt l (k : Int) = t.dir := by simp [dirAt, ht]
  have HT := hide ht
  have HR := hide hR
  have HE := hide (show hanB l n (k : Int) a r = (!t.dir && (inB a 0 40 && inB r 0 7)) by rw [hanB, hv, hf, hda]; rfl)
  clear ht hR hda
  go_enter Try.func38, Try.ntmps38
  go_wp2_with fail
  refine (tvImpl_c _ n c l _ (hI.below B0) hn hz hZ).mono ?_
  rintro e w1 ⟨rfl, hb1⟩
  rw [hv]
  have B1 := hide (below_via0 B0 hb1)
  have R1 := hide (R0.out.below hb1 (by simp))
  have g1 := R1.out.lt
  have g0 := R1.out.cell (j := 0) rfl
  have g2 := R1.out.cell (j := 1) rfl
  have g3 := R1.out.cell (j := 2) rfl
  obtain ⟨S, K, ⟨c0, _⟩, _, _⟩ := (HR.out.below B1.out).2 k t HT.out
  have hbl := (HR.out.below B1.out).1
  clear hb1 hI hz hZ
  go_wp2_with fail
  refine (within_c _ _ _ _).mono ?_
  rintro e w2 ⟨rfl, rfl⟩
  rw [hf]
  cases hd : t.dir
  · rw [hd] at c0
    have HE1 := hide (show hanB l n (k : Int) a r = (inB a 0 40 && inB r 0 7) by rw [HE.out, hd]; rfl)
    go_wp2_with fail
    refine (within_c _ _ _ _).mono ?_
    rintro e w2 ⟨rfl, rfl⟩
    cases ha : inB a 0 40
    · go_wp2_with fail
      go_ret
      exact ⟨by rw [HE1.out, ha]; rfl, B1.out⟩
    · go_wp2_with fail
      refine (isRights_c _ _).mono ?_
      rintro e w2 ⟨rfl, rfl⟩
      go_wp2_with fail
      go_ret
      exact ⟨by rw [HE1.out, ha]; rfl, B1.out⟩
  · rw [hd] at c0
    go_wp2_with fail
    go_ret
    exact ⟨by rw [HE.out, hd]; rfl, B1.out⟩
end Go.Proofs.Ytncjghmjlcohjaa
