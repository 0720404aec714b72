/-
  ListOf: the list without grants. No condition.
-/
import Derived.Test.YtpifnfhgaemdmaaProg
import Derived.Test.YtpifnfhgaemdmaaIns
namespace Go.Proofs.Ytpifnfhgaemdmaa
open Go.RowKit
set_option linter.unusedSimpArgs false
set_option linter.unusedVariables false

theorem isPlain_c (n : Int) (w : World) : Calls Try.prog 35 #[.int .i64 n] w fun e w' => e = .returned (.bool (inB n 0 511)) ∧ w = w' := by
  go_enter Try.func35, Try.ntmps35
  go_wp2_with (go_at_call 53; refine (within_c _ _ _ _).mono ?_; rintro e w' ⟨rfl, rfl⟩)
  go_ret
  exact ⟨rfl, rfl⟩
def loM (m : Int) : Int := if inB m 0 511 = true then m else 0
def loK (m : Int) : Int := if inB m 0 511 = true then 7 else 0
theorem loImpl_c (m : Int) (w : World) :
    Calls Try.prog 12 #[.int .i64 m] w fun e w' => e = .returned (.agg #[.int .i64 (loM m), .slice none 0 0, .int .i64 (loK m)]) ∧ Below w.heap.size w w' := by
  cases h : inB m 0 511
  all_goals
    go_enter Try.func12, Try.ntmps12
    go_wp2_with (go_at_call 35; refine (isPlain_c _ _).mono ?_; rintro e w' ⟨rfl, rfl⟩)
    exact bodyPost_ret (v := .agg #[.int .i64 (loM m), .slice none 0 0, .int .i64 (loK m)]) (by simp [results, Try.results12, go_sem, loM, loK, h]) rfl ⟨rfl, (by repeat' (first | exact Below.refl _ _ | assumption | exact And.left (by assumption) | omega | (simp; done) | (simp; omega) | (simp at *; omega) | (refine Below.setCell ?_ ?_ _) | (refine below_alloc0 ?_ _) | (refine Below.drew ?_) | (refine below_drewN ?_ _) | (refine below_via0 ?_ (by assumption)) | (refine Below.alloc ?_ ?_ _) | (refine below_via ?_ (by assumption) ?_)))⟩
theorem loSpec_c (m : Int) (w : World) :
    Calls Try.prog 11 #[.int .i64 m] w fun e w' => e = .returned (.agg #[.int .i64 (loM m), .slice none 0 0, .int .i64 (loK m)]) ∧ Below w.heap.size w w' := by
  cases h : inB m 0 511
  all_goals
    go_enter Try.func11, Try.ntmps11
    go_wp2_with (go_at_call 34; refine (l1In_c _ _ _ _).mono ?_; rintro e w' ⟨rfl, rfl⟩)
    exact bodyPost_ret (v := .agg #[.int .i64 (loM m), .slice none 0 0, .int .i64 (loK m)]) (by simp [results, Try.results11, go_sem, loM, loK, h]) rfl ⟨rfl, (by repeat' (first | exact Below.refl _ _ | assumption | exact And.left (by assumption) | omega | (simp; done) | (simp; omega) | (simp at *; omega) | (refine Below.setCell ?_ ?_ _) | (refine below_alloc0 ?_ _) | (refine Below.drew ?_) | (refine below_drewN ?_ _) | (refine below_via0 ?_ (by assumption)) | (refine Below.alloc ?_ ?_ _) | (refine below_via ?_ (by assumption) ?_)))⟩
theorem eqGS_0 (A A' : Option Addr) (c c' : Nat) (w : World) :
    Calls Try.prog 36 #[.slice A (0 : Nat) c, .slice A' (0 : Nat) c'] w fun e w' => e = .returned (.bool true) ∧ Below w.heap.size w w' := by
  go_enter Try.func36, Try.ntmps36
  go_wp2_with fail
  go_loopw [5] (fun i wr => i = .int .i64 0 ∧ Below w.heap.size w wr) (fun i _ => 0)
  case atStart => exact ⟨rfl, Below.refl _ _⟩
  case round =>
    obtain ⟨rfl, hbel⟩ := hrel
    go_wp2
    go_ret
    exact ⟨rfl, (by repeat' (first | exact Below.refl _ _ | assumption | exact And.left (by assumption) | omega | (simp; done) | (simp; omega) | (simp at *; omega) | (refine Below.setCell ?_ ?_ _) | (refine below_alloc0 ?_ _) | (refine Below.drew ?_) | (refine below_drewN ?_ _) | (refine below_via0 ?_ (by assumption)) | (refine Below.alloc ?_ ?_ _) | (refine below_via ?_ (by assumption) ?_)))⟩
theorem mkGS_0 (A : Option Addr) (c : Nat) (k : Int) (w : World) :
    Calls Try.prog 37 #[.slice A (0 : Nat) c, .int .i64 k] w fun e w' => e = .returned (.int .i64 k) ∧ Below w.heap.size w w' := by
  go_enter Try.func37, Try.ntmps37
  go_wp2_with fail
  go_loopw [1, 5] (fun q i wr => q = .int .i64 k ∧ i = .int .i64 0 ∧ Below w.heap.size w wr) (fun _ i _ => 0)
  case atStart => exact ⟨rfl, rfl, Below.refl _ _⟩
  case round =>
    obtain ⟨rfl, rfl, hbel⟩ := hrel
    go_wp2
    go_ret
    exact ⟨rfl, (by repeat' (first | exact Below.refl _ _ | assumption | exact And.left (by assumption) | omega | (simp; done) | (simp; omega) | (simp at *; omega) | (refine Below.setCell ?_ ?_ _) | (refine below_alloc0 ?_ _) | (refine Below.drew ?_) | (refine below_drewN ?_ _) | (refine below_via0 ?_ (by assumption)) | (refine Below.alloc ?_ ?_ _) | (refine below_via ?_ (by assumption) ?_)))⟩
theorem hdGS_0 (A : Option Addr) (c : Nat) (k : Int) (w : World) :
    Calls Try.prog 38 #[.slice A (0 : Nat) c, .int .i64 k] w fun e w' => e = .returned (.int .i64 k) ∧ Below w.heap.size w w' := by
  go_enter Try.func38, Try.ntmps38
  go_wp2_with fail
  go_loopw [1, 5] (fun q i wr => q = .int .i64 k ∧ i = .int .i64 0 ∧ Below w.heap.size w wr) (fun _ i _ => 0)
  case atStart => exact ⟨rfl, rfl, Below.refl _ _⟩
  case round =>
    obtain ⟨rfl, rfl, hbel⟩ := hrel
    go_wp2
    go_ret
    exact ⟨rfl, (by repeat' (first | exact Below.refl _ _ | assumption | exact And.left (by assumption) | omega | (simp; done) | (simp; omega) | (simp at *; omega) | (refine Below.setCell ?_ ?_ _) | (refine below_alloc0 ?_ _) | (refine Below.drew ?_) | (refine below_drewN ?_ _) | (refine below_via0 ?_ (by assumption)) | (refine Below.alloc ?_ ?_ _) | (refine below_via ?_ (by assumption) ?_)))⟩
theorem eqL_0 (m k : Int) (w : World) :
    Calls Try.prog 13 #[.agg #[.int .i64 m, .slice none 0 0, .int .i64 k], .agg #[.int .i64 m, .slice none 0 0, .int .i64 k]] w fun e w' => e = .returned (.bool true) ∧ Below w.heap.size w w' := by
  go_enter Try.func13, Try.ntmps13
  go_wp2_with fail
  refine (eqGS_0 _ _ _ _ _).mono ?_
  rintro e w1 ⟨rfl, hb1⟩
  have V0 := live hb1 w.heap.size (by first | omega | (simp <;> omega))
  have V1 := live hb1 (w.heap.size + 1) (by first | omega | (simp <;> omega))
  go_wp2
  go_ret
  exact ⟨rfl, (by repeat' (first | exact Below.refl _ _ | assumption | exact And.left (by assumption) | omega | (simp; done) | (simp; omega) | (simp at *; omega) | (refine Below.setCell ?_ ?_ _) | (refine below_alloc0 ?_ _) | (refine Below.drew ?_) | (refine below_drewN ?_ _) | (refine below_via0 ?_ (by assumption)) | (refine Below.alloc ?_ ?_ _) | (refine below_via ?_ (by assumption) ?_)))⟩
theorem mkL_0 (m k : Int) (w : World) :
    Calls Try.prog 14 #[.agg #[.int .i64 m, .slice none 0 0, .int .i64 k], .int .i64 1] w fun e w' => e = .returned (.int .i64 1) ∧ Below w.heap.size w w' := by
  go_enter Try.func14, Try.ntmps14
  go_wp2_with fail
  refine (mkGS_0 _ _ _ _).mono ?_
  rintro e w1 ⟨rfl, hb1⟩
  go_wp2
  go_ret
  exact ⟨rfl, (by repeat' (first | exact Below.refl _ _ | assumption | exact And.left (by assumption) | omega | (simp; done) | (simp; omega) | (simp at *; omega) | (refine Below.setCell ?_ ?_ _) | (refine below_alloc0 ?_ _) | (refine Below.drew ?_) | (refine below_drewN ?_ _) | (refine below_via0 ?_ (by assumption)) | (refine Below.alloc ?_ ?_ _) | (refine below_via ?_ (by assumption) ?_)))⟩
theorem hdL_0 (m k : Int) (w : World) :
    Calls Try.prog 15 #[.agg #[.int .i64 m, .slice none 0 0, .int .i64 k], .int .i64 1] w fun e w' => e = .returned (.int .i64 1) ∧ Below w.heap.size w w' := by
  go_enter Try.func15, Try.ntmps15
  go_wp2_with fail
  refine (hdGS_0 _ _ _ _).mono ?_
  rintro e w1 ⟨rfl, hb1⟩
  go_wp2
  go_ret
  exact ⟨rfl, (by repeat' (first | exact Below.refl _ _ | assumption | exact And.left (by assumption) | omega | (simp; done) | (simp; omega) | (simp at *; omega) | (refine Below.setCell ?_ ?_ _) | (refine below_alloc0 ?_ _) | (refine Below.drew ?_) | (refine below_drewN ?_ _) | (refine below_via0 ?_ (by assumption)) | (refine Below.alloc ?_ ?_ _) | (refine below_via ?_ (by assumption) ?_)))⟩
set_option maxHeartbeats 2000000 in
theorem fnExactListOf_walk {w : World} (m : Int) (hm : (Lit.int .i64 m).wf = true) :
    Calls Try.prog 3 #[.int .i64 m] w fun e w' => e = .returned (.bool true) ∧ Below w.heap.size w w' := by
  clear hm
  go_enter Try.func3, Try.ntmps3
  go_wp2_with fail
  refine (loSpec_c _ _).mono ?_
  rintro e w1 ⟨rfl, hb1⟩
  have B1 : Below w.heap.size w w1 := (by repeat' (first | exact Below.refl _ _ | assumption | exact And.left (by assumption) | omega | (simp; done) | (simp; omega) | (simp at *; omega) | (refine Below.setCell ?_ ?_ _) | (refine below_alloc0 ?_ _) | (refine Below.drew ?_) | (refine below_drewN ?_ _) | (refine below_via0 ?_ (by assumption)) | (refine Below.alloc ?_ ?_ _) | (refine below_via ?_ (by assumption) ?_)))
  go_wp2_with fail
  refine (loImpl_c _ _).mono ?_
  rintro e w2 ⟨rfl, hb2⟩
  have L2 := live hb2 w1.heap.size (by first | omega | (simp <;> omega))
  have B2 : Below w.heap.size w w2 := below_via0 (below_alloc0 B1 _) hb2
  go_wp2_with fail
  refine (eqL_0 _ _ _).mono ?_
  rintro e w3 ⟨rfl, hb3⟩
  have L3 := live hb3 w1.heap.size (by first | omega | (simp <;> omega))
  have M3 := live hb3 w2.heap.size (by first | omega | (simp <;> omega))
  have B3 : Below w.heap.size w w3 := below_via0 (below_alloc0 B2 _) hb3
  go_wp2_with fail
  refine (mkL_0 _ _ _).mono ?_
  rintro e w4 ⟨rfl, hb4⟩
  have L4 := live hb4 w1.heap.size (by first | omega | (simp <;> omega))
  have M4 := live hb4 w2.heap.size (by first | omega | (simp <;> omega))
  have B4 : Below w.heap.size w w4 := below_via0 B3 hb4
  go_wp2_with fail
  refine (hdL_0 _ _ _).mono ?_
  rintro e w5 ⟨rfl, hb5⟩
  have L5 := live hb5 w1.heap.size (by first | omega | (simp <;> omega))
  have M5 := live hb5 w2.heap.size (by first | omega | (simp <;> omega))
  have B5 : Below w.heap.size w w5 := below_via0 B4 hb5
  go_wp2_with fail
  refine (loImpl_c _ _).mono ?_
  rintro e w6 ⟨rfl, hb6⟩
  have L6 := live hb6 w1.heap.size (by first | omega | (simp <;> omega))
  have M6 := live hb6 w2.heap.size (by first | omega | (simp <;> omega))
  have B6 : Below w.heap.size w w6 := below_via0 B5 hb6
  go_wp2_with fail
  refine (eqL_0 _ _ _).mono ?_
  rintro e w7 ⟨rfl, hb7⟩
  have L7 := live hb7 w1.heap.size (by first | omega | (simp <;> omega))
  have M7 := live hb7 w2.heap.size (by first | omega | (simp <;> omega))
  have B7 : Below w.heap.size w w7 := below_via0 (below_alloc0 B6 _) hb7
  go_wp2_with fail
  refine (hdL_0 _ _ _).mono ?_
  rintro e w8 ⟨rfl, hb8⟩
  have B8 : Below w.heap.size w w8 := below_via0 B7 hb8
  go_wp2
  go_ret
  exact ⟨rfl, B8⟩
end Go.Proofs.Ytpifnfhgaemdmaa
