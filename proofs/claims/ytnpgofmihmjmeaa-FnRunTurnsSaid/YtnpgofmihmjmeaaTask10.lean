/-
  The exact law's walk of WakeTask, whole. No condition.
-/
import Derived.Test.YtnpgofmihmjmeaaProg
import Derived.Test.YtnpgofmihmjmeaaTask9
namespace Go.Proofs.Ytnpgofmihmjmeaa
open Go.RowKit
set_option linter.unusedSimpArgs false
set_option linter.unusedVariables false

theorem eqTask_0 (A A' : Option Addr) (c c' : Nat) (w : World) :
    Calls Try.prog 15 #[.slice A (0 : Nat) c, .slice A' (0 : Nat) c'] w fun e w' => e = .returned (.bool true) ∧ Below w.heap.size w w' := by
  go_enter Try.func15, Try.ntmps15
  go_wp2_with fail
  go_loopw [5] (fun i wr => i = .int .i64 0 ∧ Below w.heap.size w wr) (fun i _ => 0)
  case atStart => exact ⟨rfl, Below.refl _ _⟩
  case round =>
    obtain ⟨rfl, hbel⟩ := hrel
    go_wp2
    go_ret
    exact ⟨rfl, (by repeat' (first | exact Below.refl _ _ | assumption | exact And.left (by assumption) | omega | (simp; done) | (simp; omega) | (simp at *; omega) | (refine Below.setCell ?_ ?_ _) | (refine below_alloc0 ?_ _) | (refine Below.drew ?_) | (refine below_drewN ?_ _) | (refine below_via0 ?_ (by assumption)) | (refine Below.alloc ?_ ?_ _) | (refine below_via ?_ (by assumption) ?_)))⟩
theorem markTask_0 (A : Option Addr) (c : Nat) (w : World) :
    Calls Try.prog 25 #[.slice A (0 : Nat) c, .int .i64 1] w fun e w' => e = .returned (.int .i64 1) ∧ Below w.heap.size w w' := by
  go_enter Try.func25, Try.ntmps25
  go_wp2_with fail
  go_loopw [1, 5] (fun q i wr => q = .int .i64 1 ∧ i = .int .i64 0 ∧ Below w.heap.size w wr) (fun _ i _ => 0)
  case atStart => exact ⟨rfl, rfl, Below.refl _ _⟩
  case round =>
    obtain ⟨rfl, rfl, hbel⟩ := hrel
    go_wp2
    go_ret
    exact ⟨rfl, (by repeat' (first | exact Below.refl _ _ | assumption | exact And.left (by assumption) | omega | (simp; done) | (simp; omega) | (simp at *; omega) | (refine Below.setCell ?_ ?_ _) | (refine below_alloc0 ?_ _) | (refine Below.drew ?_) | (refine below_drewN ?_ _) | (refine below_via0 ?_ (by assumption)) | (refine Below.alloc ?_ ?_ _) | (refine below_via ?_ (by assumption) ?_)))⟩
theorem heldTask_0 (A : Option Addr) (c : Nat) (w : World) :
    Calls Try.prog 26 #[.slice A (0 : Nat) c, .int .i64 1] w fun e w' => e = .returned (.int .i64 1) ∧ Below w.heap.size w w' := by
  go_enter Try.func26, Try.ntmps26
  go_wp2_with fail
  go_loopw [1, 5] (fun q i wr => q = .int .i64 1 ∧ i = .int .i64 0 ∧ Below w.heap.size w wr) (fun _ i _ => 0)
  case atStart => exact ⟨rfl, rfl, Below.refl _ _⟩
  case round =>
    obtain ⟨rfl, rfl, hbel⟩ := hrel
    go_wp2
    go_ret
    exact ⟨rfl, (by repeat' (first | exact Below.refl _ _ | assumption | exact And.left (by assumption) | omega | (simp; done) | (simp; omega) | (simp at *; omega) | (refine Below.setCell ?_ ?_ _) | (refine below_alloc0 ?_ _) | (refine Below.drew ?_) | (refine below_drewN ?_ _) | (refine below_via0 ?_ (by assumption)) | (refine Below.alloc ?_ ?_ _) | (refine below_via ?_ (by assumption) ?_)))⟩

set_option maxHeartbeats 4000000 in
theorem wakeLaw_no {w : World} (A : Option Addr) (n c : Nat) (l : List Task) (q : Int) (hA : InsTask w A n c l) (h : (n : Int) ≤ 1048576) (hv : tasksB l = false) :
    Calls Try.prog 8 #[.slice A n c, .int .i64 q] w fun e w' => e = .returned (.bool true) ∧ Below w.heap.size w w' := by
  obtain ⟨hIn, hm, hc⟩ := hA
  have g1 : 0 ≤ 1048576 - (n : Int) := by omega
  have hn : n ≤ 1048576 := by omega
  have hl := hide hIn.1
  have HI := hide hIn
  have gk : ¬ (1 + 3 * (n : Int) < 0) := by omega
  clear hIn
  go_enter Try.func8, Try.ntmps8
  go_wp2_with fail
  refine (szTask_yes _ _ _ _ h (by omega) _).mono ?_
  rintro e w' ⟨rfl, rfl⟩
  go_wp2_with fail
  refine (toTaskS_c _ _ _ l _ HI.out hn).mono ?_
  rintro e w1 ⟨b1, rfl, hg1, hR1, hb1⟩
  go_wp2_with fail
  refine (wakeSpec_no _ _ _ _ l hl.out hn q _ hR1 hv).mono ?_
  rintro e w2 ⟨⟨gw, rfl, hgw, hgw'⟩, hb2⟩
  have hB2 := below_via0 hb1 hb2
  go_wp2_with fail
  refine (toTaskR_c _ _ _ l _ (HI.out.below hB2) hn).mono ?_
  rintro e w3 ⟨b3, rfl, hg3, hrow3, hb3⟩
  have hB3 := below_via0 hB2 hb3
  have hR3 := RdT_of_row hrow3 hl.out
  have HROW3 := hide hrow3
  clear hrow3
  go_wp2_with fail
  refine (wakeImpl_no _ _ _ _ l hl.out hn q _ hR3 hv).mono ?_
  rintro e w4 ⟨rfl, hb4⟩
  have hB4 := below_via0 hB3 hb4
  have hR4 := hR3.below hb4
  have HROW4 := hide (HROW3.out.below hb4 hR3.1)
  go_wp2_with fail
  refine (eqTask_0 _ _ _ _ _).mono ?_
  rintro e w5 ⟨rfl, hb5⟩
  have hB5 := below_via0 hB4 hb5
  go_wp2_with fail
  refine (toTaskS_c _ _ _ l _ (HI.out.below hB5) hn).mono ?_
  rintro e w6 ⟨b6, rfl, hg6, hR6, hb6⟩
  have hB6 := below_via0 hB5 hb6
  have hB46 := below_via0 hb5 hb6
  go_wp2_with fail
  refine (eqTaskS_c _ _ _ _ _ _ _ l hl.out hn _ (hR4.below hB46) hR6).mono ?_
  rintro e w7 ⟨rfl, hb7⟩
  have hB7 := below_via0 hB6 hb7
  have hB47 := below_via0 hB46 hb7
  go_wp2_with fail
  refine (markTask_c _ n _ (n * 3) (fun _ => none) hn _ (Nat.le_refl _) ((HROW4.out.below hB47 hR4.1).mono (fun j u hj => by cases hj))).mono ?_
  rintro e w8 ⟨rfl, hoff8, hrow8⟩
  have q2 := hR3.1
  have s2 := hB2.size
  have s7 := hB7.size
  have hB8 := hoff8.below hB7 (by omega) (by omega)
  clear hrow8
  go_wp2_with fail
  refine (eqTask_0 _ _ _ _ _).mono ?_
  rintro e w9 ⟨rfl, hb9⟩
  have hB9 := below_via0 hB8 hb9
  go_wp2_with fail
  refine (markTask_0 _ _ _).mono ?_
  rintro e w10 ⟨rfl, hb10⟩
  have hB10 := below_via0 hB9 hb10
  go_wp2_with fail
  refine (heldTask_0 _ _ _).mono ?_
  rintro e w11 ⟨rfl, hb11⟩
  have hB11 := below_via0 hB10 hb11
  go_wp2_with fail
  refine (toTaskS_c _ _ _ l _ (HI.out.below hB11) hn).mono ?_
  rintro e w12 ⟨b12, rfl, hg12, hR12, hb12⟩
  have hB12 := below_via0 hB11 hb12
  go_wp2_with fail
  refine (wakeImpl_no _ _ _ _ l hl.out hn q _ hR12 hv).mono ?_
  rintro e w13 ⟨rfl, hb13⟩
  have hB13 := below_via0 hB12 hb13
  go_wp2_with fail
  refine (eqTask_0 _ _ _ _ _).mono ?_
  rintro e w14 ⟨rfl, hb14⟩
  have hB14 := below_via0 hB13 hb14
  go_wp2_with fail
  refine (heldTask_0 _ _ _).mono ?_
  rintro e w15 ⟨rfl, hb15⟩
  have hB15 := below_via0 hB14 hb15
  go_wp2
  go_ret
  exact ⟨rfl, hB15⟩

set_option maxHeartbeats 1000000 in
theorem fnExactWakeTask_walk {w : World} (A : Option Addr) (n c : Nat) (l : List Task) (hA : InsTask w A n c l) (q : Int) (hq : (Lit.int .i64 q).wf = true) :
    Calls Try.prog 8 #[.slice A n c, .int .i64 q] w fun e w' => e = .returned (.bool true) ∧ Below w.heap.size w w' := by
  by_cases h : (n : Int) ≤ 1048576
  · cases hv : tasksB l with
    | true => exact wakeLaw_yes A n c l _ q _ hA h hv rfl ((wakeQ_len l q).trans hA.1.1)
    | false => exact wakeLaw_no A n c l q hA h hv
  · obtain ⟨hIn, hm, hc⟩ := hA
    go_enter Try.func8, Try.ntmps8
    go_wp2_with fail
    refine (szTask_no _ _ _ _ (by omega) (by omega) hm (by omega) _).mono ?_
    rintro e w' ⟨rfl, rfl⟩
    go_wp2
    go_ret
    exact ⟨rfl, Below.refl _ _⟩
end Go.Proofs.Ytnpgofmihmjmeaa
