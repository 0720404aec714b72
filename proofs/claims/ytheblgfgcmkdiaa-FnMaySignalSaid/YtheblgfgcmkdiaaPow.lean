/-
  Contracts of CredValid, MaySignal and PowersValid, and their exact laws' walks. No condition.
-/
import Derived.Test.YtheblgfgcmkdiaaProg
import Derived.Test.YtheblgfgcmkdiaaSig
namespace Go.Proofs.Ytheblgfgcmkdiaa
open Go.RowKit
set_option linter.unusedSimpArgs false
set_option linter.unusedVariables false

def credB (r a s g : Int) : Bool := inB r 0 99 && (inB a 0 99 && (inB s 0 99 && inB g 0 255))
theorem isUser_c (n : Int) (w : World) : Calls Try.prog 50 #[.int .i64 n] w fun e w' => e = .returned (.bool (inB n 0 99)) ∧ w = w' := by
  go_enter Try.func50, Try.ntmps50
  go_wp2_with (go_at_call 43; refine (within_c _ _ _ _).mono ?_; rintro e w' ⟨rfl, rfl⟩)
  go_ret
  exact ⟨rfl, rfl⟩
theorem credImpl_c (r a s g : Int) (w : World) :
    Calls Try.prog 28 #[.agg #[.int .i64 r, .int .i64 a, .int .i64 s, .int .i64 g]] w fun e w' => e = .returned (.bool (credB r a s g)) ∧ Below w.heap.size w w' := by
  go_enter Try.func28, Try.ntmps28
  go_wp2_with (first | (go_at_call 43; refine (within_c _ _ _ _).mono ?_; rintro e w' ⟨rfl, rfl⟩) | (go_at_call 50; refine (isUser_c _ _).mono ?_; rintro e w' ⟨rfl, rfl⟩))
  all_goals
    go_ret
    exact ⟨by simp [credB, *], (by repeat' (first | exact Below.refl _ _ | assumption | exact And.left (by assumption) | omega | (simp; done) | (simp; omega) | (simp at *; omega) | (refine Below.setCell ?_ ?_ _) | (refine below_alloc0 ?_ _) | (refine Below.drew ?_) | (refine below_drewN ?_ _) | (refine below_via0 ?_ (by assumption)) | (refine Below.alloc ?_ ?_ _) | (refine below_via ?_ (by assumption) ?_)))⟩
theorem credSpec_c (r a s g : Int) (w : World) :
    Calls Try.prog 49 #[.agg #[.int .i64 r, .int .i64 a, .int .i64 s, .int .i64 g]] w fun e w' => e = .returned (.bool (credB r a s g)) ∧ Below w.heap.size w w' := by
  go_enter Try.func49, Try.ntmps49
  go_wp2_with (go_at_call 44; refine (l1In_c _ _ _ _).mono ?_; rintro e w' ⟨rfl, rfl⟩)
  all_goals
    go_ret
    exact ⟨by simp [credB, *], (by repeat' (first | exact Below.refl _ _ | assumption | exact And.left (by assumption) | omega | (simp; done) | (simp; omega) | (simp at *; omega) | (refine Below.setCell ?_ ?_ _) | (refine below_alloc0 ?_ _) | (refine Below.drew ?_) | (refine below_drewN ?_ _) | (refine below_via0 ?_ (by assumption)) | (refine Below.alloc ?_ ?_ _) | (refine below_via ?_ (by assumption) ?_)))⟩
def mayB (r a s g r' a' s' g' : Int) : Bool := credB r a s g && (credB r' a' s' g' && ((a == 0) || ((a == r') || ((a == s') || ((r == r') || (r == s'))))))
theorem mayImpl_c (r a s g r' a' s' g' : Int) (w : World) :
    Calls Try.prog 26 #[.agg #[.int .i64 r, .int .i64 a, .int .i64 s, .int .i64 g], .agg #[.int .i64 r', .int .i64 a', .int .i64 s', .int .i64 g']] w fun e w' => e = .returned (.bool (mayB r a s g r' a' s' g')) ∧ Below w.heap.size w w' := by
  by_cases c1 : credB r a s g = true
  · by_cases c2 : credB r' a' s' g' = true
    · go_enter Try.func26, Try.ntmps26
      go_wp2_with (go_at_call 28; refine (credImpl_c _ _ _ _ _).mono ?_; rintro e w1 ⟨rfl, hb1⟩; have L1 := live hb1 w.heap.size (by first | omega | (simp <;> omega)); have L2 := live hb1 (w.heap.size + 1) (by first | omega | (simp <;> omega)))
      all_goals
        go_ret
        exact ⟨by rw [mayB, c1, c2]; simp [*, Bool.or_assoc], (by repeat' (first | exact Below.refl _ _ | assumption | exact And.left (by assumption) | omega | (simp; done) | (simp; omega) | (simp at *; omega) | (refine Below.setCell ?_ ?_ _) | (refine below_alloc0 ?_ _) | (refine Below.drew ?_) | (refine below_drewN ?_ _) | (refine below_via0 ?_ (by assumption)) | (refine Below.alloc ?_ ?_ _) | (refine below_via ?_ (by assumption) ?_)))⟩
    · go_enter Try.func26, Try.ntmps26
      go_wp2_with (go_at_call 28; refine (credImpl_c _ _ _ _ _).mono ?_; rintro e w1 ⟨rfl, hb1⟩; have L1 := live hb1 w.heap.size (by first | omega | (simp <;> omega)); have L2 := live hb1 (w.heap.size + 1) (by first | omega | (simp <;> omega)))
      go_ret
      exact ⟨by simp [mayB, c2], (by repeat' (first | exact Below.refl _ _ | assumption | exact And.left (by assumption) | omega | (simp; done) | (simp; omega) | (simp at *; omega) | (refine Below.setCell ?_ ?_ _) | (refine below_alloc0 ?_ _) | (refine Below.drew ?_) | (refine below_drewN ?_ _) | (refine below_via0 ?_ (by assumption)) | (refine Below.alloc ?_ ?_ _) | (refine below_via ?_ (by assumption) ?_)))⟩
  · go_enter Try.func26, Try.ntmps26
    go_wp2_with (go_at_call 28; refine (credImpl_c _ _ _ _ _).mono ?_; rintro e w1 ⟨rfl, hb1⟩; have L1 := live hb1 w.heap.size (by first | omega | (simp <;> omega)); have L2 := live hb1 (w.heap.size + 1) (by first | omega | (simp <;> omega)))
    go_ret
    exact ⟨by simp [mayB, c1], (by repeat' (first | exact Below.refl _ _ | assumption | exact And.left (by assumption) | omega | (simp; done) | (simp; omega) | (simp at *; omega) | (refine Below.setCell ?_ ?_ _) | (refine below_alloc0 ?_ _) | (refine Below.drew ?_) | (refine below_drewN ?_ _) | (refine below_via0 ?_ (by assumption)) | (refine Below.alloc ?_ ?_ _) | (refine below_via ?_ (by assumption) ?_)))⟩
theorem maySpec_c (r a s g r' a' s' g' : Int) (w : World) :
    Calls Try.prog 27 #[.agg #[.int .i64 r, .int .i64 a, .int .i64 s, .int .i64 g], .agg #[.int .i64 r', .int .i64 a', .int .i64 s', .int .i64 g']] w fun e w' => e = .returned (.bool (mayB r a s g r' a' s' g')) ∧ Below w.heap.size w w' := by
  by_cases c1 : credB r a s g = true
  · by_cases c2 : credB r' a' s' g' = true
    · go_enter Try.func27, Try.ntmps27
      go_wp2_with (go_at_call 49; refine (credSpec_c _ _ _ _ _).mono ?_; rintro e w1 ⟨rfl, hb1⟩; have L1 := live hb1 w.heap.size (by first | omega | (simp <;> omega)); have L2 := live hb1 (w.heap.size + 1) (by first | omega | (simp <;> omega)))
      all_goals
        go_ret
        exact ⟨by rw [mayB, c1, c2]; simp [*, Bool.or_assoc], (by repeat' (first | exact Below.refl _ _ | assumption | exact And.left (by assumption) | omega | (simp; done) | (simp; omega) | (simp at *; omega) | (refine Below.setCell ?_ ?_ _) | (refine below_alloc0 ?_ _) | (refine Below.drew ?_) | (refine below_drewN ?_ _) | (refine below_via0 ?_ (by assumption)) | (refine Below.alloc ?_ ?_ _) | (refine below_via ?_ (by assumption) ?_)))⟩
    · go_enter Try.func27, Try.ntmps27
      go_wp2_with (go_at_call 49; refine (credSpec_c _ _ _ _ _).mono ?_; rintro e w1 ⟨rfl, hb1⟩; have L1 := live hb1 w.heap.size (by first | omega | (simp <;> omega)); have L2 := live hb1 (w.heap.size + 1) (by first | omega | (simp <;> omega)))
      go_ret
      exact ⟨by simp [mayB, c2], (by repeat' (first | exact Below.refl _ _ | assumption | exact And.left (by assumption) | omega | (simp; done) | (simp; omega) | (simp at *; omega) | (refine Below.setCell ?_ ?_ _) | (refine below_alloc0 ?_ _) | (refine Below.drew ?_) | (refine below_drewN ?_ _) | (refine below_via0 ?_ (by assumption)) | (refine Below.alloc ?_ ?_ _) | (refine below_via ?_ (by assumption) ?_)))⟩
  · go_enter Try.func27, Try.ntmps27
    go_wp2_with (go_at_call 49; refine (credSpec_c _ _ _ _ _).mono ?_; rintro e w1 ⟨rfl, hb1⟩; have L1 := live hb1 w.heap.size (by first | omega | (simp <;> omega)); have L2 := live hb1 (w.heap.size + 1) (by first | omega | (simp <;> omega)))
    go_ret
    exact ⟨by simp [mayB, c1], (by repeat' (first | exact Below.refl _ _ | assumption | exact And.left (by assumption) | omega | (simp; done) | (simp; omega) | (simp at *; omega) | (refine Below.setCell ?_ ?_ _) | (refine below_alloc0 ?_ _) | (refine Below.drew ?_) | (refine below_drewN ?_ _) | (refine below_via0 ?_ (by assumption)) | (refine Below.alloc ?_ ?_ _) | (refine below_via ?_ (by assumption) ?_)))⟩

/-! powers -/
def powB (m c i b : Int) : Bool := inB m 0 63 && (inB c 0 63 && (inB i 0 63 && (inB b 0 63 && decide ((c.toNat &&& m.toNat) = c.toNat))))
theorem pow_nat : ∀ m : Fin 64, ∀ c : Fin 64, ((c.val &&& (18446744073709551615 - m.val)) = 0 ↔ (c.val &&& m.val) = c.val) := by decide +kernel
theorem pow_and (c m : Int) (h1 : inB m 0 63 = true) (h2 : inB c 0 63 = true) : (bits .and .i64 c m == c) = decide ((c.toNat &&& m.toNat) = c.toNat) := by
  obtain ⟨a1, a2⟩ := inB_iff.1 h1; obtain ⟨b1, b2⟩ := inB_iff.1 h2
  rw [i64_and c m (by omega) (by omega) (by omega) (by omega), Bool.eq_iff_iff]
  simp only [beq_iff_eq, decide_eq_true_eq]
  omega
theorem pow_not (c m : Int) (h1 : inB m 0 63 = true) (h2 : inB c 0 63 = true) : (bits .andNot .i64 c m == 0) = decide ((c.toNat &&& m.toNat) = c.toNat) := by
  obtain ⟨a1, a2⟩ := inB_iff.1 h1; obtain ⟨b1, b2⟩ := inB_iff.1 h2
  rw [i64_andNot c m (by omega) (by omega) (by omega) (by omega), Bool.eq_iff_iff]
  simp only [beq_iff_eq, decide_eq_true_eq]
  have := pow_nat ⟨m.toNat, by omega⟩ ⟨c.toNat, by omega⟩
  simp only at this
  omega
end Go.Proofs.Ytheblgfgcmkdiaa
