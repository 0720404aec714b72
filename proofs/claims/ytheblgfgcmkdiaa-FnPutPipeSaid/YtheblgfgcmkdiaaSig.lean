/-
  Contracts of the functions of the signals. No condition.
-/
import Derived.Test.YtheblgfgcmkdiaaProg
import Derived.Test.YtheblgfgcmkdiaaBase
namespace Go.Proofs.Ytheblgfgcmkdiaa
open Go.RowKit
set_option linter.unusedSimpArgs false
set_option linter.unusedVariables false

theorem l1In_c (n lo hi : Int) (w : World) :
    Calls Try.prog 44 #[.int .i64 n, .int .i64 lo, .int .i64 hi] w fun e w' => e = .returned (.bool (inB n lo hi)) ∧ w = w' := by
  by_cases h : lo ≤ n
  all_goals
    go_enter Try.func44, Try.ntmps44
    go_wp2
    go_ret
    exact ⟨by simp [inB]; try omega, rfl⟩
theorem within_c (n lo hi : Int) (w : World) :
    Calls Try.prog 43 #[.int .i64 n, .int .i64 lo, .int .i64 hi] w fun e w' => e = .returned (.bool (inB n lo hi)) ∧ w = w' := by
  by_cases h : lo ≤ n
  all_goals
    go_enter Try.func43, Try.ntmps43
    go_wp2
    go_ret
    exact ⟨by simp [inB]; try omega, rfl⟩

def sigB (a b : Int) : Bool := inB a 0 255 && inB b 0 127
theorem sigB_yes {a b : Int} (h : sigB a b = true) : 0 ≤ a ∧ a ≤ 255 ∧ 0 ≤ b ∧ b ≤ 127 := by
  simp only [sigB, Bool.and_eq_true, inB_iff] at h; omega
theorem bit7 (b : Int) (h0 : 0 ≤ b) (h1 : b ≤ 255) : bits .and .i64 (b / 128) 1 = b / 128 := by
  rw [i64_and _ _ (by omega) (by omega) (by omega) (by omega)]
  have : (b / 128).toNat &&& (1 : Int).toNat = (b / 128).toNat % 2 := Nat.and_two_pow_sub_one_eq_mod _ 1
  omega
theorem sig_end (a b : Int) (h0 : 0 ≤ b) (h1 : b ≤ 255) (ha : inB a 0 255 = true) : decide (b / 128 % 2 = 0) = sigB a b := by
  rw [sigB, ha, Bool.true_and, inB, Bool.eq_iff_iff]; simp; omega
theorem sig_end' (a b : Int) (h0 : 0 ≤ b) (h1 : b ≤ 255) (ha : inB a 0 255 = true) : decide (b / 128 = 0) = sigB a b := by
  rw [sigB, ha, Bool.true_and, inB, Bool.eq_iff_iff]; simp; omega
theorem sig_no1 (a b : Int) (ha : ¬ inB a 0 255 = true) : sigB a b = false := by simp [sigB, ha]
theorem sig_no2 (a b : Int) (ha : ¬ inB b 0 255 = true) : sigB a b = false := by
  rw [inB_iff] at ha; simp [sigB, inB]; omega

theorem sigSpec_c (a b : Int) (w : World) :
    Calls Try.prog 14 #[.agg #[.int .i64 a, .int .i64 b]] w fun e w' => e = .returned (.bool (sigB a b)) ∧ Below w.heap.size w w' := by
  by_cases hb : inB b 0 255 = true
  · obtain ⟨hb0, hb1⟩ := inB_iff.1 hb
    go_enter Try.func14, Try.ntmps14
    go_wp2_with (go_at_call 44; refine (l1In_c _ _ _ _).mono ?_; rintro e w' ⟨rfl, rfl⟩)
    · go_ret
      exact ⟨by rw [← sig_end a b hb0 hb1 (by assumption)]; rfl, (by repeat' (first | exact Below.refl _ _ | assumption | exact And.left (by assumption) | omega | (simp; done) | (simp; omega) | (simp at *; omega) | (refine Below.setCell ?_ ?_ _) | (refine below_alloc0 ?_ _) | (refine Below.drew ?_) | (refine below_drewN ?_ _) | (refine below_via0 ?_ (by assumption)) | (refine Below.alloc ?_ ?_ _) | (refine below_via ?_ (by assumption) ?_)))⟩
    · go_ret
      exact ⟨by rw [sig_no1 a b (by assumption)]; rfl, (by repeat' (first | exact Below.refl _ _ | assumption | exact And.left (by assumption) | omega | (simp; done) | (simp; omega) | (simp at *; omega) | (refine Below.setCell ?_ ?_ _) | (refine below_alloc0 ?_ _) | (refine Below.drew ?_) | (refine below_drewN ?_ _) | (refine below_via0 ?_ (by assumption)) | (refine Below.alloc ?_ ?_ _) | (refine below_via ?_ (by assumption) ?_)))⟩
  · go_enter Try.func14, Try.ntmps14
    go_wp2_with (go_at_call 44; refine (l1In_c _ _ _ _).mono ?_; rintro e w' ⟨rfl, rfl⟩)
    all_goals
      go_ret
      exact ⟨by rw [sig_no2 a b hb]; try simp [hb], (by repeat' (first | exact Below.refl _ _ | assumption | exact And.left (by assumption) | omega | (simp; done) | (simp; omega) | (simp at *; omega) | (refine Below.setCell ?_ ?_ _) | (refine below_alloc0 ?_ _) | (refine Below.drew ?_) | (refine below_drewN ?_ _) | (refine below_via0 ?_ (by assumption)) | (refine Below.alloc ?_ ?_ _) | (refine below_via ?_ (by assumption) ?_)))⟩
theorem sigImpl_c (a b : Int) (w : World) :
    Calls Try.prog 13 #[.agg #[.int .i64 a, .int .i64 b]] w fun e w' => e = .returned (.bool (sigB a b)) ∧ Below w.heap.size w w' := by
  by_cases hb : inB b 0 255 = true
  · obtain ⟨hb0, hb1⟩ := inB_iff.1 hb
    have h7 := bit7 b hb0 hb1
    go_enter Try.func13, Try.ntmps13
    go_wp2_with (go_at_call 43; refine (within_c _ _ _ _).mono ?_; rintro e w' ⟨rfl, rfl⟩)
    · go_ret
      exact ⟨by rw [← sig_end' a b hb0 hb1 (by assumption)]; rfl, (by repeat' (first | exact Below.refl _ _ | assumption | exact And.left (by assumption) | omega | (simp; done) | (simp; omega) | (simp at *; omega) | (refine Below.setCell ?_ ?_ _) | (refine below_alloc0 ?_ _) | (refine Below.drew ?_) | (refine below_drewN ?_ _) | (refine below_via0 ?_ (by assumption)) | (refine Below.alloc ?_ ?_ _) | (refine below_via ?_ (by assumption) ?_)))⟩
    · go_ret
      exact ⟨by rw [sig_no1 a b (by assumption)]; rfl, (by repeat' (first | exact Below.refl _ _ | assumption | exact And.left (by assumption) | omega | (simp; done) | (simp; omega) | (simp at *; omega) | (refine Below.setCell ?_ ?_ _) | (refine below_alloc0 ?_ _) | (refine Below.drew ?_) | (refine below_drewN ?_ _) | (refine below_via0 ?_ (by assumption)) | (refine Below.alloc ?_ ?_ _) | (refine below_via ?_ (by assumption) ?_)))⟩
  · go_enter Try.func13, Try.ntmps13
    go_wp2_with (go_at_call 43; refine (within_c _ _ _ _).mono ?_; rintro e w' ⟨rfl, rfl⟩)
    all_goals
      go_ret
      exact ⟨by rw [sig_no2 a b hb]; try simp [hb], (by repeat' (first | exact Below.refl _ _ | assumption | exact And.left (by assumption) | omega | (simp; done) | (simp; omega) | (simp at *; omega) | (refine Below.setCell ?_ ?_ _) | (refine below_alloc0 ?_ _) | (refine Below.drew ?_) | (refine below_drewN ?_ _) | (refine below_via0 ?_ (by assumption)) | (refine Below.alloc ?_ ?_ _) | (refine below_via ?_ (by assumption) ?_)))⟩

theorem shl_i64 (s : Int) (h0 : 0 ≤ s) (h1 : s ≤ 62) : wrap64 (2 ^ s.toNat) = 2 ^ s.toNat := by
  obtain ⟨s, rfl⟩ := Int.eq_ofNat_of_zero_le h0
  have : (2 : Int) ^ s ≤ 2 ^ 62 := by
    have := Nat.pow_le_pow_right (n := 2) (by omega) (show s ≤ 62 by omega)
    exact_mod_cast this
  have h2 : (0 : Int) ≤ 2 ^ s := Int.le_of_lt (Int.pow_pos (by decide))
  simp only [Int.toNat_natCast]
  unfold wrap64
  omega

def orI (a s : Int) : Int := bits .or .i64 a (2 ^ s.toNat)
def putOk (a b s : Int) : Bool := sigB a b && inB s 0 7
def putW (a b s : Int) : Int := if putOk a b s = true then orI a s else 0
def putH (a b s : Int) : Int := if putOk a b s = true then b else 0
theorem putImpl_c (a b s : Int) (w : World) :
    Calls Try.prog 20 #[.agg #[.int .i64 a, .int .i64 b], .int .i64 s] w fun e w' => e = .returned (.agg #[.int .i64 (putW a b s), .int .i64 (putH a b s)]) ∧ Below w.heap.size w w' := by
  by_cases hv : sigB a b = true
  · by_cases hn : inB s 0 7 = true
    · obtain ⟨q1, q2, q3, q4⟩ := sigB_yes hv
      obtain ⟨q5, q6⟩ := inB_iff.1 hn
      have e1 := shl_i64 s q5 (by omega)
      go_enter Try.func20, Try.ntmps20
      go_wp2_with (first | (go_at_call 43; refine (within_c _ _ _ _).mono ?_; rintro e w' ⟨rfl, rfl⟩) | (go_at_call 13; refine (sigImpl_c _ _ _).mono ?_; rintro e w1 ⟨rfl, hb1⟩; have L1 := live hb1 w.heap.size (by first | omega | (simp <;> omega)); have L2 := live hb1 (w.heap.size + 1) (by first | omega | (simp <;> omega))))
      exact bodyPost_ret (v := .agg #[.int .i64 (putW a b s), .int .i64 (putH a b s)]) (by simp [results, Try.results20, go_sem, putW, putH, putOk, hv, hn, orI, L2.1, L2.2]) rfl ⟨rfl, (by repeat' (first | exact Below.refl _ _ | assumption | exact And.left (by assumption) | omega | (simp; done) | (simp; omega) | (simp at *; omega) | (refine Below.setCell ?_ ?_ _) | (refine below_alloc0 ?_ _) | (refine Below.drew ?_) | (refine below_drewN ?_ _) | (refine below_via0 ?_ (by assumption)) | (refine Below.alloc ?_ ?_ _) | (refine below_via ?_ (by assumption) ?_)))⟩
    · go_enter Try.func20, Try.ntmps20
      go_wp2_with (first | (go_at_call 43; refine (within_c _ _ _ _).mono ?_; rintro e w' ⟨rfl, rfl⟩) | (go_at_call 13; refine (sigImpl_c _ _ _).mono ?_; rintro e w1 ⟨rfl, hb1⟩; have L1 := live hb1 w.heap.size (by first | omega | (simp <;> omega)); have L2 := live hb1 (w.heap.size + 1) (by first | omega | (simp <;> omega))))
      exact bodyPost_ret (v := .agg #[.int .i64 (putW a b s), .int .i64 (putH a b s)]) (by simp [results, Try.results20, go_sem, putW, putH, putOk, hv, hn, L2.1, L2.2]) rfl ⟨rfl, (by repeat' (first | exact Below.refl _ _ | assumption | exact And.left (by assumption) | omega | (simp; done) | (simp; omega) | (simp at *; omega) | (refine Below.setCell ?_ ?_ _) | (refine below_alloc0 ?_ _) | (refine Below.drew ?_) | (refine below_drewN ?_ _) | (refine below_via0 ?_ (by assumption)) | (refine Below.alloc ?_ ?_ _) | (refine below_via ?_ (by assumption) ?_)))⟩
  · go_enter Try.func20, Try.ntmps20
    go_wp2_with (first | (go_at_call 43; refine (within_c _ _ _ _).mono ?_; rintro e w' ⟨rfl, rfl⟩) | (go_at_call 13; refine (sigImpl_c _ _ _).mono ?_; rintro e w1 ⟨rfl, hb1⟩; have L1 := live hb1 w.heap.size (by first | omega | (simp <;> omega)); have L2 := live hb1 (w.heap.size + 1) (by first | omega | (simp <;> omega))))
    exact bodyPost_ret (v := .agg #[.int .i64 (putW a b s), .int .i64 (putH a b s)]) (by simp [results, Try.results20, go_sem, putW, putH, putOk, hv, L2.1, L2.2]) rfl ⟨rfl, (by repeat' (first | exact Below.refl _ _ | assumption | exact And.left (by assumption) | omega | (simp; done) | (simp; omega) | (simp at *; omega) | (refine Below.setCell ?_ ?_ _) | (refine below_alloc0 ?_ _) | (refine Below.drew ?_) | (refine below_drewN ?_ _) | (refine below_via0 ?_ (by assumption)) | (refine Below.alloc ?_ ?_ _) | (refine below_via ?_ (by assumption) ?_)))⟩
theorem putSpec_c (a b s : Int) (w : World) :
    Calls Try.prog 21 #[.agg #[.int .i64 a, .int .i64 b], .int .i64 s] w fun e w' => e = .returned (.agg #[.int .i64 (putW a b s), .int .i64 (putH a b s)]) ∧ Below w.heap.size w w' := by
  by_cases hv : sigB a b = true
  · by_cases hn : inB s 0 7 = true
    · obtain ⟨q1, q2, q3, q4⟩ := sigB_yes hv
      obtain ⟨q5, q6⟩ := inB_iff.1 hn
      have e1 := shl_i64 s q5 (by omega)
      go_enter Try.func21, Try.ntmps21
      go_wp2_with (first | (go_at_call 44; refine (l1In_c _ _ _ _).mono ?_; rintro e w' ⟨rfl, rfl⟩) | (go_at_call 14; refine (sigSpec_c _ _ _).mono ?_; rintro e w1 ⟨rfl, hb1⟩; have L1 := live hb1 w.heap.size (by first | omega | (simp <;> omega)); have L2 := live hb1 (w.heap.size + 1) (by first | omega | (simp <;> omega))))
      go_region
      go_wp2
      exact bodyPost_ret (v := .agg #[.int .i64 (putW a b s), .int .i64 (putH a b s)]) (by simp [results, Try.results21, go_sem, putW, putH, putOk, hv, hn, orI, L2.1, L2.2]) rfl ⟨rfl, (by repeat' (first | exact Below.refl _ _ | assumption | exact And.left (by assumption) | omega | (simp; done) | (simp; omega) | (simp at *; omega) | (refine Below.setCell ?_ ?_ _) | (refine below_alloc0 ?_ _) | (refine Below.drew ?_) | (refine below_drewN ?_ _) | (refine below_via0 ?_ (by assumption)) | (refine Below.alloc ?_ ?_ _) | (refine below_via ?_ (by assumption) ?_)))⟩
    · go_enter Try.func21, Try.ntmps21
      go_wp2_with (first | (go_at_call 44; refine (l1In_c _ _ _ _).mono ?_; rintro e w' ⟨rfl, rfl⟩) | (go_at_call 14; refine (sigSpec_c _ _ _).mono ?_; rintro e w1 ⟨rfl, hb1⟩; have L1 := live hb1 w.heap.size (by first | omega | (simp <;> omega)); have L2 := live hb1 (w.heap.size + 1) (by first | omega | (simp <;> omega))))
      exact bodyPost_ret (v := .agg #[.int .i64 (putW a b s), .int .i64 (putH a b s)]) (by simp [results, Try.results21, go_sem, putW, putH, putOk, hv, hn, L2.1, L2.2]) rfl ⟨rfl, (by repeat' (first | exact Below.refl _ _ | assumption | exact And.left (by assumption) | omega | (simp; done) | (simp; omega) | (simp at *; omega) | (refine Below.setCell ?_ ?_ _) | (refine below_alloc0 ?_ _) | (refine Below.drew ?_) | (refine below_drewN ?_ _) | (refine below_via0 ?_ (by assumption)) | (refine Below.alloc ?_ ?_ _) | (refine below_via ?_ (by assumption) ?_)))⟩
  · go_enter Try.func21, Try.ntmps21
    go_wp2_with (first | (go_at_call 44; refine (l1In_c _ _ _ _).mono ?_; rintro e w' ⟨rfl, rfl⟩) | (go_at_call 14; refine (sigSpec_c _ _ _).mono ?_; rintro e w1 ⟨rfl, hb1⟩; have L1 := live hb1 w.heap.size (by first | omega | (simp <;> omega)); have L2 := live hb1 (w.heap.size + 1) (by first | omega | (simp <;> omega))))
    exact bodyPost_ret (v := .agg #[.int .i64 (putW a b s), .int .i64 (putH a b s)]) (by simp [results, Try.results21, go_sem, putW, putH, putOk, hv, L2.1, L2.2]) rfl ⟨rfl, (by repeat' (first | exact Below.refl _ _ | assumption | exact And.left (by assumption) | omega | (simp; done) | (simp; omega) | (simp at *; omega) | (refine Below.setCell ?_ ?_ _) | (refine below_alloc0 ?_ _) | (refine Below.drew ?_) | (refine below_drewN ?_ _) | (refine below_via0 ?_ (by assumption)) | (refine Below.alloc ?_ ?_ _) | (refine below_via ?_ (by assumption) ?_)))⟩

def holdOk (a b s : Int) : Bool := sigB a b && inB s 0 255
def holdW (a b s : Int) : Int := if holdOk a b s = true then a else 0
def holdH (a b s : Int) : Int := if holdOk a b s = true then bits .andNot .i64 s 128 else 0
theorem holdImpl_c (a b s : Int) (w : World) :
    Calls Try.prog 33 #[.agg #[.int .i64 a, .int .i64 b], .int .i64 s] w fun e w' => e = .returned (.agg #[.int .i64 (holdW a b s), .int .i64 (holdH a b s)]) ∧ Below w.heap.size w w' := by
  by_cases hv : sigB a b = true
  · by_cases hn : inB s 0 255 = true
    · go_enter Try.func33, Try.ntmps33
      go_wp2_with (first | (go_at_call 43; refine (within_c _ _ _ _).mono ?_; rintro e w' ⟨rfl, rfl⟩) | (go_at_call 13; refine (sigImpl_c _ _ _).mono ?_; rintro e w1 ⟨rfl, hb1⟩; have L1 := live hb1 w.heap.size (by first | omega | (simp <;> omega)); have L2 := live hb1 (w.heap.size + 1) (by first | omega | (simp <;> omega))))
      exact bodyPost_ret (v := .agg #[.int .i64 (holdW a b s), .int .i64 (holdH a b s)]) (by simp [results, Try.results33, go_sem, holdW, holdH, holdOk, hv, hn, L2.1, L2.2]) rfl ⟨rfl, (by repeat' (first | exact Below.refl _ _ | assumption | exact And.left (by assumption) | omega | (simp; done) | (simp; omega) | (simp at *; omega) | (refine Below.setCell ?_ ?_ _) | (refine below_alloc0 ?_ _) | (refine Below.drew ?_) | (refine below_drewN ?_ _) | (refine below_via0 ?_ (by assumption)) | (refine Below.alloc ?_ ?_ _) | (refine below_via ?_ (by assumption) ?_)))⟩
    · go_enter Try.func33, Try.ntmps33
      go_wp2_with (first | (go_at_call 43; refine (within_c _ _ _ _).mono ?_; rintro e w' ⟨rfl, rfl⟩) | (go_at_call 13; refine (sigImpl_c _ _ _).mono ?_; rintro e w1 ⟨rfl, hb1⟩; have L1 := live hb1 w.heap.size (by first | omega | (simp <;> omega)); have L2 := live hb1 (w.heap.size + 1) (by first | omega | (simp <;> omega))))
      exact bodyPost_ret (v := .agg #[.int .i64 (holdW a b s), .int .i64 (holdH a b s)]) (by simp [results, Try.results33, go_sem, holdW, holdH, holdOk, hv, hn, L2.1, L2.2]) rfl ⟨rfl, (by repeat' (first | exact Below.refl _ _ | assumption | exact And.left (by assumption) | omega | (simp; done) | (simp; omega) | (simp at *; omega) | (refine Below.setCell ?_ ?_ _) | (refine below_alloc0 ?_ _) | (refine Below.drew ?_) | (refine below_drewN ?_ _) | (refine below_via0 ?_ (by assumption)) | (refine Below.alloc ?_ ?_ _) | (refine below_via ?_ (by assumption) ?_)))⟩
  · go_enter Try.func33, Try.ntmps33
    go_wp2_with (first | (go_at_call 43; refine (within_c _ _ _ _).mono ?_; rintro e w' ⟨rfl, rfl⟩) | (go_at_call 13; refine (sigImpl_c _ _ _).mono ?_; rintro e w1 ⟨rfl, hb1⟩; have L1 := live hb1 w.heap.size (by first | omega | (simp <;> omega)); have L2 := live hb1 (w.heap.size + 1) (by first | omega | (simp <;> omega))))
    exact bodyPost_ret (v := .agg #[.int .i64 (holdW a b s), .int .i64 (holdH a b s)]) (by simp [results, Try.results33, go_sem, holdW, holdH, holdOk, hv, L2.1, L2.2]) rfl ⟨rfl, (by repeat' (first | exact Below.refl _ _ | assumption | exact And.left (by assumption) | omega | (simp; done) | (simp; omega) | (simp at *; omega) | (refine Below.setCell ?_ ?_ _) | (refine below_alloc0 ?_ _) | (refine Below.drew ?_) | (refine below_drewN ?_ _) | (refine below_via0 ?_ (by assumption)) | (refine Below.alloc ?_ ?_ _) | (refine below_via ?_ (by assumption) ?_)))⟩
theorem holdSpec_c (a b s : Int) (w : World) :
    Calls Try.prog 34 #[.agg #[.int .i64 a, .int .i64 b], .int .i64 s] w fun e w' => e = .returned (.agg #[.int .i64 (holdW a b s), .int .i64 (holdH a b s)]) ∧ Below w.heap.size w w' := by
  by_cases hv : sigB a b = true
  · by_cases hn : inB s 0 255 = true
    · go_enter Try.func34, Try.ntmps34
      go_wp2_with (first | (go_at_call 44; refine (l1In_c _ _ _ _).mono ?_; rintro e w' ⟨rfl, rfl⟩) | (go_at_call 14; refine (sigSpec_c _ _ _).mono ?_; rintro e w1 ⟨rfl, hb1⟩; have L1 := live hb1 w.heap.size (by first | omega | (simp <;> omega)); have L2 := live hb1 (w.heap.size + 1) (by first | omega | (simp <;> omega))))
      exact bodyPost_ret (v := .agg #[.int .i64 (holdW a b s), .int .i64 (holdH a b s)]) (by simp [results, Try.results34, go_sem, holdW, holdH, holdOk, hv, hn, L2.1, L2.2]) rfl ⟨rfl, (by repeat' (first | exact Below.refl _ _ | assumption | exact And.left (by assumption) | omega | (simp; done) | (simp; omega) | (simp at *; omega) | (refine Below.setCell ?_ ?_ _) | (refine below_alloc0 ?_ _) | (refine Below.drew ?_) | (refine below_drewN ?_ _) | (refine below_via0 ?_ (by assumption)) | (refine Below.alloc ?_ ?_ _) | (refine below_via ?_ (by assumption) ?_)))⟩
    · go_enter Try.func34, Try.ntmps34
      go_wp2_with (first | (go_at_call 44; refine (l1In_c _ _ _ _).mono ?_; rintro e w' ⟨rfl, rfl⟩) | (go_at_call 14; refine (sigSpec_c _ _ _).mono ?_; rintro e w1 ⟨rfl, hb1⟩; have L1 := live hb1 w.heap.size (by first | omega | (simp <;> omega)); have L2 := live hb1 (w.heap.size + 1) (by first | omega | (simp <;> omega))))
      exact bodyPost_ret (v := .agg #[.int .i64 (holdW a b s), .int .i64 (holdH a b s)]) (by simp [results, Try.results34, go_sem, holdW, holdH, holdOk, hv, hn, L2.1, L2.2]) rfl ⟨rfl, (by repeat' (first | exact Below.refl _ _ | assumption | exact And.left (by assumption) | omega | (simp; done) | (simp; omega) | (simp at *; omega) | (refine Below.setCell ?_ ?_ _) | (refine below_alloc0 ?_ _) | (refine Below.drew ?_) | (refine below_drewN ?_ _) | (refine below_via0 ?_ (by assumption)) | (refine Below.alloc ?_ ?_ _) | (refine below_via ?_ (by assumption) ?_)))⟩
  · go_enter Try.func34, Try.ntmps34
    go_wp2_with (first | (go_at_call 44; refine (l1In_c _ _ _ _).mono ?_; rintro e w' ⟨rfl, rfl⟩) | (go_at_call 14; refine (sigSpec_c _ _ _).mono ?_; rintro e w1 ⟨rfl, hb1⟩; have L1 := live hb1 w.heap.size (by first | omega | (simp <;> omega)); have L2 := live hb1 (w.heap.size + 1) (by first | omega | (simp <;> omega))))
    exact bodyPost_ret (v := .agg #[.int .i64 (holdW a b s), .int .i64 (holdH a b s)]) (by simp [results, Try.results34, go_sem, holdW, holdH, holdOk, hv, L2.1, L2.2]) rfl ⟨rfl, (by repeat' (first | exact Below.refl _ _ | assumption | exact And.left (by assumption) | omega | (simp; done) | (simp; omega) | (simp at *; omega) | (refine Below.setCell ?_ ?_ _) | (refine below_alloc0 ?_ _) | (refine Below.drew ?_) | (refine below_drewN ?_ _) | (refine below_via0 ?_ (by assumption)) | (refine Below.alloc ?_ ?_ _) | (refine below_via ?_ (by assumption) ?_)))⟩

end Go.Proofs.Ytheblgfgcmkdiaa
