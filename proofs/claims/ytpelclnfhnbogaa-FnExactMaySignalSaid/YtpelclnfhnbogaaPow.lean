/-
  Contracts of CredValid, MaySignal and PowersValid, and their exact laws' walks. No condition.
-/
import Derived.Test.YtpelclnfhnbogaaProg
import Derived.Test.YtpelclnfhnbogaaSig
namespace Go.Proofs.Ytpelclnfhnbogaa
open Go.RowKit

def credB (r a s g : Int) : Bool := inB r 0 99 && (inB a 0 99 && (inB s 0 99 && inB g 0 255))
theorem isUser_c (n : Int) (w : World) : Calls Try.prog 70 #[.int .i64 n] w fun e w' => e = .returned (.bool (inB n 0 99)) ∧ w = w' := by
  go_enter Try.func70, Try.ntmps70
  go_wp2_with (go_at_call 61; refine (within_c _ _ _ _).mono ?_; rintro e w' ⟨rfl, rfl⟩)
  go_ret
  exact ⟨rfl, rfl⟩
theorem credImpl_c (r a s g : Int) (w : World) :
    Calls Try.prog 55 #[.agg #[.int .i64 r, .int .i64 a, .int .i64 s, .int .i64 g]] w fun e w' => e = .returned (.bool (credB r a s g)) ∧ Below w.heap.size w w' := by
  go_enter Try.func55, Try.ntmps55
  go_wp2_with (first | (go_at_call 61; refine (within_c _ _ _ _).mono ?_; rintro e w' ⟨rfl, rfl⟩) | (go_at_call 70; refine (isUser_c _ _).mono ?_; rintro e w' ⟨rfl, rfl⟩))
  all_goals
    go_ret
    exact ⟨by simp [credB, *], (by repeat' (first | exact Below.refl _ _ | assumption | omega | (simp; done) | (simp; omega) | (simp at *; omega) | (refine Below.setCell ?_ ?_ _) | (refine below_alloc0 ?_ _) | (refine Below.drew ?_) | (refine below_drewN ?_ _) | (refine below_via0 ?_ (by assumption)) | (refine Below.alloc ?_ ?_ _) | (refine below_via ?_ (by assumption) ?_)))⟩
theorem credSpec_c (r a s g : Int) (w : World) :
    Calls Try.prog 63 #[.agg #[.int .i64 r, .int .i64 a, .int .i64 s, .int .i64 g]] w fun e w' => e = .returned (.bool (credB r a s g)) ∧ Below w.heap.size w w' := by
  go_enter Try.func63, Try.ntmps63
  go_wp2_with (go_at_call 60; refine (l1In_c _ _ _ _).mono ?_; rintro e w' ⟨rfl, rfl⟩)
  all_goals
    go_ret
    exact ⟨by simp [credB, *], (by repeat' (first | exact Below.refl _ _ | assumption | omega | (simp; done) | (simp; omega) | (simp at *; omega) | (refine Below.setCell ?_ ?_ _) | (refine below_alloc0 ?_ _) | (refine Below.drew ?_) | (refine below_drewN ?_ _) | (refine below_via0 ?_ (by assumption)) | (refine Below.alloc ?_ ?_ _) | (refine below_via ?_ (by assumption) ?_)))⟩
theorem toCred_c (r a s g : Int) (w : World) :
    Calls Try.prog 33 #[.agg #[.int .i64 r, .int .i64 a, .int .i64 s, .int .i64 g]] w fun e w' => e = .returned (.agg #[.int .i64 r, .int .i64 a, .int .i64 s, .int .i64 g]) ∧ Below w.heap.size w w' := by
  go_enter Try.func33, Try.ntmps33
  go_wp2
  exact bodyPost_ret (v := .agg #[.int .i64 r, .int .i64 a, .int .i64 s, .int .i64 g]) (by simp [results, Try.results33, go_sem]) rfl ⟨rfl, (by repeat' (first | exact Below.refl _ _ | assumption | omega | (simp; done) | (simp; omega) | (simp at *; omega) | (refine Below.setCell ?_ ?_ _) | (refine below_alloc0 ?_ _) | (refine Below.drew ?_) | (refine below_drewN ?_ _) | (refine below_via0 ?_ (by assumption)) | (refine Below.alloc ?_ ?_ _) | (refine below_via ?_ (by assumption) ?_)))⟩

def mayB (r a s g r' a' s' g' : Int) : Bool := credB r a s g && (credB r' a' s' g' && ((a == 0) || ((a == r') || ((a == s') || ((r == r') || (r == s'))))))
theorem mayImpl_c (r a s g r' a' s' g' : Int) (w : World) :
    Calls Try.prog 34 #[.agg #[.int .i64 r, .int .i64 a, .int .i64 s, .int .i64 g], .agg #[.int .i64 r', .int .i64 a', .int .i64 s', .int .i64 g']] w fun e w' => e = .returned (.bool (mayB r a s g r' a' s' g')) ∧ Below w.heap.size w w' := by
  by_cases c1 : credB r a s g = true
  · by_cases c2 : credB r' a' s' g' = true
    · go_enter Try.func34, Try.ntmps34
      go_wp2_with (go_at_call 55; refine (credImpl_c _ _ _ _ _).mono ?_; rintro e w1 ⟨rfl, hb1⟩; have L1 := live hb1 w.heap.size (by first | omega | (simp <;> omega)); have L2 := live hb1 (w.heap.size + 1) (by first | omega | (simp <;> omega)))
      all_goals
        go_ret
        exact ⟨by rw [mayB, c1, c2]; simp [*, Bool.or_assoc], (by repeat' (first | exact Below.refl _ _ | assumption | omega | (simp; done) | (simp; omega) | (simp at *; omega) | (refine Below.setCell ?_ ?_ _) | (refine below_alloc0 ?_ _) | (refine Below.drew ?_) | (refine below_drewN ?_ _) | (refine below_via0 ?_ (by assumption)) | (refine Below.alloc ?_ ?_ _) | (refine below_via ?_ (by assumption) ?_)))⟩
    · go_enter Try.func34, Try.ntmps34
      go_wp2_with (go_at_call 55; refine (credImpl_c _ _ _ _ _).mono ?_; rintro e w1 ⟨rfl, hb1⟩; have L1 := live hb1 w.heap.size (by first | omega | (simp <;> omega)); have L2 := live hb1 (w.heap.size + 1) (by first | omega | (simp <;> omega)))
      go_ret
      exact ⟨by simp [mayB, c2], (by repeat' (first | exact Below.refl _ _ | assumption | omega | (simp; done) | (simp; omega) | (simp at *; omega) | (refine Below.setCell ?_ ?_ _) | (refine below_alloc0 ?_ _) | (refine Below.drew ?_) | (refine below_drewN ?_ _) | (refine below_via0 ?_ (by assumption)) | (refine Below.alloc ?_ ?_ _) | (refine below_via ?_ (by assumption) ?_)))⟩
  · go_enter Try.func34, Try.ntmps34
    go_wp2_with (go_at_call 55; refine (credImpl_c _ _ _ _ _).mono ?_; rintro e w1 ⟨rfl, hb1⟩; have L1 := live hb1 w.heap.size (by first | omega | (simp <;> omega)); have L2 := live hb1 (w.heap.size + 1) (by first | omega | (simp <;> omega)))
    go_ret
    exact ⟨by simp [mayB, c1], (by repeat' (first | exact Below.refl _ _ | assumption | omega | (simp; done) | (simp; omega) | (simp at *; omega) | (refine Below.setCell ?_ ?_ _) | (refine below_alloc0 ?_ _) | (refine Below.drew ?_) | (refine below_drewN ?_ _) | (refine below_via0 ?_ (by assumption)) | (refine Below.alloc ?_ ?_ _) | (refine below_via ?_ (by assumption) ?_)))⟩
theorem maySpec_c (r a s g r' a' s' g' : Int) (w : World) :
    Calls Try.prog 32 #[.agg #[.int .i64 r, .int .i64 a, .int .i64 s, .int .i64 g], .agg #[.int .i64 r', .int .i64 a', .int .i64 s', .int .i64 g']] w fun e w' => e = .returned (.bool (mayB r a s g r' a' s' g')) ∧ Below w.heap.size w w' := by
  by_cases c1 : credB r a s g = true
  · by_cases c2 : credB r' a' s' g' = true
    · go_enter Try.func32, Try.ntmps32
      go_wp2_with (go_at_call 63; refine (credSpec_c _ _ _ _ _).mono ?_; rintro e w1 ⟨rfl, hb1⟩; have L1 := live hb1 w.heap.size (by first | omega | (simp <;> omega)); have L2 := live hb1 (w.heap.size + 1) (by first | omega | (simp <;> omega)))
      all_goals
        go_ret
        exact ⟨by rw [mayB, c1, c2]; simp [*, Bool.or_assoc], (by repeat' (first | exact Below.refl _ _ | assumption | omega | (simp; done) | (simp; omega) | (simp at *; omega) | (refine Below.setCell ?_ ?_ _) | (refine below_alloc0 ?_ _) | (refine Below.drew ?_) | (refine below_drewN ?_ _) | (refine below_via0 ?_ (by assumption)) | (refine Below.alloc ?_ ?_ _) | (refine below_via ?_ (by assumption) ?_)))⟩
    · go_enter Try.func32, Try.ntmps32
      go_wp2_with (go_at_call 63; refine (credSpec_c _ _ _ _ _).mono ?_; rintro e w1 ⟨rfl, hb1⟩; have L1 := live hb1 w.heap.size (by first | omega | (simp <;> omega)); have L2 := live hb1 (w.heap.size + 1) (by first | omega | (simp <;> omega)))
      go_ret
      exact ⟨by simp [mayB, c2], (by repeat' (first | exact Below.refl _ _ | assumption | omega | (simp; done) | (simp; omega) | (simp at *; omega) | (refine Below.setCell ?_ ?_ _) | (refine below_alloc0 ?_ _) | (refine Below.drew ?_) | (refine below_drewN ?_ _) | (refine below_via0 ?_ (by assumption)) | (refine Below.alloc ?_ ?_ _) | (refine below_via ?_ (by assumption) ?_)))⟩
  · go_enter Try.func32, Try.ntmps32
    go_wp2_with (go_at_call 63; refine (credSpec_c _ _ _ _ _).mono ?_; rintro e w1 ⟨rfl, hb1⟩; have L1 := live hb1 w.heap.size (by first | omega | (simp <;> omega)); have L2 := live hb1 (w.heap.size + 1) (by first | omega | (simp <;> omega)))
    go_ret
    exact ⟨by simp [mayB, c1], (by repeat' (first | exact Below.refl _ _ | assumption | omega | (simp; done) | (simp; omega) | (simp at *; omega) | (refine Below.setCell ?_ ?_ _) | (refine below_alloc0 ?_ _) | (refine Below.drew ?_) | (refine below_drewN ?_ _) | (refine below_via0 ?_ (by assumption)) | (refine Below.alloc ?_ ?_ _) | (refine below_via ?_ (by assumption) ?_)))⟩

theorem fnExactMaySignal_walk (r : Int) (hr : (Lit.int .i64 r).wf = true) (a : Int) (ha : (Lit.int .i64 a).wf = true) (s : Int) (hs : (Lit.int .i64 s).wf = true) (g : Int) (hg : (Lit.int .i64 g).wf = true)
    (r' : Int) (hr' : (Lit.int .i64 r').wf = true) (a' : Int) (ha' : (Lit.int .i64 a').wf = true) (s' : Int) (hs' : (Lit.int .i64 s').wf = true) (g' : Int) (hg' : (Lit.int .i64 g').wf = true) (w : World) :
    Calls Try.prog 6 #[.agg #[.int .i64 r, .int .i64 a, .int .i64 s, .int .i64 g], .agg #[.int .i64 r', .int .i64 a', .int .i64 s', .int .i64 g']] w fun e w' => e = .returned (.bool true) ∧ Below w.heap.size w w' := by
  clear hr ha hs hg hr' ha' hs' hg'
  go_enter Try.func6, Try.ntmps6
  go_wp2_with fail
  go_region_held3 (fun w' => Below w.heap.size w w' ∧ w.heap.size < w'.heap.size ∧ w.heap.size + 1 < w'.heap.size ∧ w'.cell? ⟨w.heap.size, 0, none⟩ = some (.int .i64 r) ∧ w'.cell? ⟨w.heap.size, 1, none⟩ = some (.int .i64 a) ∧ w'.cell? ⟨w.heap.size, 2, none⟩ = some (.int .i64 s) ∧ w'.cell? ⟨w.heap.size, 3, none⟩ = some (.int .i64 g) ∧
      w'.cell? ⟨w.heap.size + 1, 0, none⟩ = some (.int .i64 r') ∧ w'.cell? ⟨w.heap.size + 1, 1, none⟩ = some (.int .i64 a') ∧ w'.cell? ⟨w.heap.size + 1, 2, none⟩ = some (.int .i64 s') ∧ w'.cell? ⟨w.heap.size + 1, 3, none⟩ = some (.int .i64 g'))
    (first | (have L1 := live hb1 w.heap.size (by omega); have L2 := live hb1 (w.heap.size + 1) (by omega); refine ⟨(by repeat' (first | exact Below.refl _ _ | assumption | omega | (simp; done) | (simp; omega) | (simp at *; omega) | (refine Below.setCell ?_ ?_ _) | (refine below_alloc0 ?_ _) | (refine Below.drew ?_) | (refine below_drewN ?_ _) | (refine below_via0 ?_ (by assumption)) | (refine Below.alloc ?_ ?_ _) | (refine below_via ?_ (by assumption) ?_))), ?_⟩; simp [*]; done) | (refine ⟨(by repeat' (first | exact Below.refl _ _ | assumption | omega | (simp; done) | (simp; omega) | (simp at *; omega) | (refine Below.setCell ?_ ?_ _) | (refine below_alloc0 ?_ _) | (refine Below.drew ?_) | (refine below_drewN ?_ _) | (refine below_via0 ?_ (by assumption)) | (refine Below.alloc ?_ ?_ _) | (refine below_via ?_ (by assumption) ?_))), ?_⟩; simp [go_sem]; done) | (refine ⟨(by repeat' (first | exact Below.refl _ _ | assumption | omega | (simp; done) | (simp; omega) | (simp at *; omega) | (refine Below.setCell ?_ ?_ _) | (refine below_alloc0 ?_ _) | (refine Below.drew ?_) | (refine below_drewN ?_ _) | (refine below_via0 ?_ (by assumption)) | (refine Below.alloc ?_ ?_ _) | (refine below_via ?_ (by assumption) ?_))), ?_⟩; simp [go_sem, *]; done) | assumption | go_keep)
    (first | (go_at_call 33; refine (toCred_c _ _ _ _ _).mono ?_; rintro e w1 ⟨rfl, hb1⟩) | (go_at_call 32; refine (maySpec_c _ _ _ _ _ _ _ _ _).mono ?_; rintro e w1 ⟨rfl, hb1⟩))
  have bel1 : Below w.heap.size w w1 := And.left (by assumption)
  go_wp2_with fail
  go_region_held3 (fun w' => Below w.heap.size w w' ∧ w.heap.size < w'.heap.size ∧ w.heap.size + 1 < w'.heap.size ∧ w'.cell? ⟨w.heap.size, 0, none⟩ = some (.int .i64 r) ∧ w'.cell? ⟨w.heap.size, 1, none⟩ = some (.int .i64 a) ∧ w'.cell? ⟨w.heap.size, 2, none⟩ = some (.int .i64 s) ∧ w'.cell? ⟨w.heap.size, 3, none⟩ = some (.int .i64 g) ∧
      w'.cell? ⟨w.heap.size + 1, 0, none⟩ = some (.int .i64 r') ∧ w'.cell? ⟨w.heap.size + 1, 1, none⟩ = some (.int .i64 a') ∧ w'.cell? ⟨w.heap.size + 1, 2, none⟩ = some (.int .i64 s') ∧ w'.cell? ⟨w.heap.size + 1, 3, none⟩ = some (.int .i64 g'))
    (first | (have L1 := live hb1 w.heap.size (by omega); have L2 := live hb1 (w.heap.size + 1) (by omega); refine ⟨(by repeat' (first | exact Below.refl _ _ | assumption | omega | (simp; done) | (simp; omega) | (simp at *; omega) | (refine Below.setCell ?_ ?_ _) | (refine below_alloc0 ?_ _) | (refine Below.drew ?_) | (refine below_drewN ?_ _) | (refine below_via0 ?_ (by assumption)) | (refine Below.alloc ?_ ?_ _) | (refine below_via ?_ (by assumption) ?_))), ?_⟩; simp [*]; done) | (refine ⟨(by repeat' (first | exact Below.refl _ _ | assumption | omega | (simp; done) | (simp; omega) | (simp at *; omega) | (refine Below.setCell ?_ ?_ _) | (refine below_alloc0 ?_ _) | (refine Below.drew ?_) | (refine below_drewN ?_ _) | (refine below_via0 ?_ (by assumption)) | (refine Below.alloc ?_ ?_ _) | (refine below_via ?_ (by assumption) ?_))), ?_⟩; simp [go_sem]; done) | (refine ⟨(by repeat' (first | exact Below.refl _ _ | assumption | omega | (simp; done) | (simp; omega) | (simp at *; omega) | (refine Below.setCell ?_ ?_ _) | (refine below_alloc0 ?_ _) | (refine Below.drew ?_) | (refine below_drewN ?_ _) | (refine below_via0 ?_ (by assumption)) | (refine Below.alloc ?_ ?_ _) | (refine below_via ?_ (by assumption) ?_))), ?_⟩; simp [go_sem, *]; done) | assumption | go_keep)
    (first | (go_at_call 33; refine (toCred_c _ _ _ _ _).mono ?_; rintro e w1 ⟨rfl, hb1⟩) | (go_at_call 34; refine (mayImpl_c _ _ _ _ _ _ _ _ _).mono ?_; rintro e w1 ⟨rfl, hb1⟩))
  have bel2 : Below w.heap.size w w1 := And.left (by assumption)
  go_wp2
  go_ret
  exact ⟨rfl, bel2⟩

/-! powers -/
def powB (m c i b : Int) : Bool := inB m 0 63 && (inB c 0 63 && (inB i 0 63 && (inB b 0 63 && decide ((c.toNat &&& m.toNat) = c.toNat))))
theorem pow_nat : ∀ m : Fin 64, ∀ c : Fin 64, ((c.val &&& (18446744073709551615 - m.val)) = 0 ↔ (c.val &&& m.val) = c.val) := by decide +kernel
theorem pow_and (c m : Int) (h1 : inB m 0 63 = true) (h2 : inB c 0 63 = true) : (bits .and .i64 c m == c) = decide ((c.toNat &&& m.toNat) = c.toNat) := by
  obtain ⟨a1, a2⟩ := inB_iff.1 h1; obtain ⟨b1, b2⟩ := inB_iff.1 h2
  rw [i64_and c m (by omega) (by omega) (by omega) (by omega), Bool.eq_iff_iff]
  simp only [beq_iff_eq, decide_eq_true_eq]
  omega
theorem pow_not (c m : Int) (h1 : inB m 0 63 = true) (h2 : inB c 0 63 = true) : (bits .andNot .i64 c m == 0) = decide ((c.toNat &&& m.toNat) = c.toNat) := by
  obtain ⟨a1, a2⟩ := inB_iff.1 h1; obtain ⟨b1, b2⟩ := inB_iff.1 h2
  rw [i64_andNot c m (by omega) (by omega) (by omega) (by omega), Bool.eq_iff_iff]
  simp only [beq_iff_eq, decide_eq_true_eq]
  have := pow_nat ⟨m.toNat, by omega⟩ ⟨c.toNat, by omega⟩
  simp only at this
  omega
theorem toPowers_c (r a s g : Int) (w : World) :
    Calls Try.prog 26 #[.agg #[.int .i64 r, .int .i64 a, .int .i64 s, .int .i64 g]] w fun e w' => e = .returned (.agg #[.int .i64 r, .int .i64 a, .int .i64 s, .int .i64 g]) ∧ Below w.heap.size w w' := by
  go_enter Try.func26, Try.ntmps26
  go_wp2
  exact bodyPost_ret (v := .agg #[.int .i64 r, .int .i64 a, .int .i64 s, .int .i64 g]) (by simp [results, Try.results26, go_sem]) rfl ⟨rfl, (by repeat' (first | exact Below.refl _ _ | assumption | omega | (simp; done) | (simp; omega) | (simp at *; omega) | (refine Below.setCell ?_ ?_ _) | (refine below_alloc0 ?_ _) | (refine Below.drew ?_) | (refine below_drewN ?_ _) | (refine below_via0 ?_ (by assumption)) | (refine Below.alloc ?_ ?_ _) | (refine below_via ?_ (by assumption) ?_)))⟩
theorem arePowers_c (n : Int) (w : World) : Calls Try.prog 62 #[.int .i64 n] w fun e w' => e = .returned (.bool (inB n 0 63)) ∧ w = w' := by
  go_enter Try.func62, Try.ntmps62
  go_wp2_with (go_at_call 61; refine (within_c _ _ _ _).mono ?_; rintro e w' ⟨rfl, rfl⟩)
  go_ret
  exact ⟨rfl, rfl⟩
theorem powImpl_c (m c i b : Int) (w : World) :
    Calls Try.prog 27 #[.agg #[.int .i64 m, .int .i64 c, .int .i64 i, .int .i64 b]] w fun e w' => e = .returned (.bool (powB m c i b)) ∧ Below w.heap.size w w' := by
  go_enter Try.func27, Try.ntmps27
  go_wp2_with (go_at_call 62; refine (arePowers_c _ _).mono ?_; rintro e w' ⟨rfl, rfl⟩)
  all_goals
    go_ret
    exact ⟨by simp [powB, *] <;> (first | done | (rw [pow_not _ _ (by assumption) (by assumption)]) | (rw [← pow_not _ _ (by assumption) (by assumption)]; simp)), (by repeat' (first | exact Below.refl _ _ | assumption | omega | (simp; done) | (simp; omega) | (simp at *; omega) | (refine Below.setCell ?_ ?_ _) | (refine below_alloc0 ?_ _) | (refine Below.drew ?_) | (refine below_drewN ?_ _) | (refine below_via0 ?_ (by assumption)) | (refine Below.alloc ?_ ?_ _) | (refine below_via ?_ (by assumption) ?_)))⟩
theorem powSpec_c (m c i b : Int) (w : World) :
    Calls Try.prog 25 #[.agg #[.int .i64 m, .int .i64 c, .int .i64 i, .int .i64 b]] w fun e w' => e = .returned (.bool (powB m c i b)) ∧ Below w.heap.size w w' := by
  go_enter Try.func25, Try.ntmps25
  go_wp2_with (go_at_call 60; refine (l1In_c _ _ _ _).mono ?_; rintro e w' ⟨rfl, rfl⟩)
  all_goals
    go_ret
    exact ⟨by simp [powB, *] <;> (first | done | (rw [pow_and _ _ (by assumption) (by assumption)]) | (rw [← pow_and _ _ (by assumption) (by assumption)]; simp)), (by repeat' (first | exact Below.refl _ _ | assumption | omega | (simp; done) | (simp; omega) | (simp at *; omega) | (refine Below.setCell ?_ ?_ _) | (refine below_alloc0 ?_ _) | (refine Below.drew ?_) | (refine below_drewN ?_ _) | (refine below_via0 ?_ (by assumption)) | (refine Below.alloc ?_ ?_ _) | (refine below_via ?_ (by assumption) ?_)))⟩
theorem fnExactPowersValid_walk (r : Int) (hr : (Lit.int .i64 r).wf = true) (a : Int) (ha : (Lit.int .i64 a).wf = true) (s : Int) (hs : (Lit.int .i64 s).wf = true) (g : Int) (hg : (Lit.int .i64 g).wf = true) (w : World) :
    Calls Try.prog 4 #[.agg #[.int .i64 r, .int .i64 a, .int .i64 s, .int .i64 g]] w fun e w' => e = .returned (.bool true) ∧ Below w.heap.size w w' := by
  clear hr ha hs hg
  go_enter Try.func4, Try.ntmps4
  go_wp2_with fail
  refine (toPowers_c _ _ _ _ _).mono ?_
  rintro e w1 ⟨rfl, hb1⟩
  have L1 := live hb1 w.heap.size (by first | omega | (simp <;> omega))
  go_wp2_with fail
  refine (powSpec_c _ _ _ _ _).mono ?_
  rintro e w2 ⟨rfl, hb2⟩
  have L2 := live hb2 w.heap.size (by first | omega | (simp <;> omega))
  go_wp2_with fail
  refine (toPowers_c _ _ _ _ _).mono ?_
  rintro e w3 ⟨rfl, hb3⟩
  go_wp2_with fail
  refine (powImpl_c _ _ _ _ _).mono ?_
  rintro e w4 ⟨rfl, hb4⟩
  go_wp2
  go_ret
  exact ⟨rfl, (by repeat' (first | exact Below.refl _ _ | assumption | omega | (simp; done) | (simp; omega) | (simp at *; omega) | (refine Below.setCell ?_ ?_ _) | (refine below_alloc0 ?_ _) | (refine Below.drew ?_) | (refine below_drewN ?_ _) | (refine below_via0 ?_ (by assumption)) | (refine Below.alloc ?_ ?_ _) | (refine below_via ?_ (by assumption) ?_)))⟩
end Go.Proofs.Ytpelclnfhnbogaa
