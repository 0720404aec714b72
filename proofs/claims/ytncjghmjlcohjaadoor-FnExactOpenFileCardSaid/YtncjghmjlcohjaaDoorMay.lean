/-
  CredValid, HasGroup, ClassOf, rightsFor; mayDo and MayDo. No condition.
-/
import Derived.Test.YtncjghmjlcohjaaDoorProg
import Derived.Test.YtncjghmjlcohjaaDoorNdv
namespace Go.Proofs.YtncjghmjlcohjaaDoor
open Go.RowKit
set_option linter.unusedSimpArgs false
set_option linter.unusedVariables false

def credB (r a s g : Int) : Bool := inB r 0 99 && (inB a 0 99 && (inB s 0 99 && inB g 0 255))
theorem credImpl_c (r a s g : Int) (w : World) :
    Calls Tryd.prog 32 #[.agg #[.int .i64 r, .int .i64 a, .int .i64 s, .int .i64 g]] w fun e w' => e = .returned (.bool (credB r a s g)) ∧ Below w.heap.size w w' := by
  go_enter Tryd.func32, Tryd.ntmps32
  go_wp2_with (first | (go_at_call 40; refine (within_c _ _ _ _).mono ?_; rintro e w' ⟨rfl, rfl⟩) | (go_at_call 47; refine (isUser_c _ _).mono ?_; rintro e w' ⟨rfl, rfl⟩))
  all_goals
    go_ret
    exact ⟨by simp [credB, *], (by repeat' (first | exact Below.refl _ _ | assumption | exact And.left (by assumption) | omega | (simp; done) | (simp; omega) | (simp at *; omega) | (refine Below.setCell ?_ ?_ _) | (refine below_alloc0 ?_ _) | (refine Below.drew ?_) | (refine below_drewN ?_ _) | (refine below_via0 ?_ (by assumption)) | (refine Below.alloc ?_ ?_ _) | (refine below_via ?_ (by assumption) ?_)))⟩
theorem credSpec_c (r a s g : Int) (w : World) :
    Calls Tryd.prog 24 #[.agg #[.int .i64 r, .int .i64 a, .int .i64 s, .int .i64 g]] w fun e w' => e = .returned (.bool (credB r a s g)) ∧ Below w.heap.size w w' := by
  go_enter Tryd.func24, Tryd.ntmps24
  go_wp2_with (go_at_call 20; refine (l1In_c _ _ _ _).mono ?_; rintro e w' ⟨rfl, rfl⟩)
  all_goals
    go_ret
    exact ⟨by simp [credB, *], (by repeat' (first | exact Below.refl _ _ | assumption | exact And.left (by assumption) | omega | (simp; done) | (simp; omega) | (simp at *; omega) | (refine Below.setCell ?_ ?_ _) | (refine below_alloc0 ?_ _) | (refine Below.drew ?_) | (refine below_drewN ?_ _) | (refine below_via0 ?_ (by assumption)) | (refine Below.alloc ?_ ?_ _) | (refine below_via ?_ (by assumption) ?_)))⟩
theorem toCred_c (r a s g : Int) (w : World) :
    Calls Tryd.prog 7 #[.agg #[.int .i64 r, .int .i64 a, .int .i64 s, .int .i64 g]] w fun e w' => e = .returned (.agg #[.int .i64 r, .int .i64 a, .int .i64 s, .int .i64 g]) ∧ Below w.heap.size w w' := by
  go_enter Tryd.func7, Tryd.ntmps7
  go_wp2
  exact bodyPost_ret (v := .agg #[.int .i64 r, .int .i64 a, .int .i64 s, .int .i64 g]) (by simp [results, Tryd.results7, go_sem]) rfl ⟨rfl, (by repeat' (first | exact Below.refl _ _ | assumption | exact And.left (by assumption) | omega | (simp; done) | (simp; omega) | (simp at *; omega) | (refine Below.setCell ?_ ?_ _) | (refine below_alloc0 ?_ _) | (refine Below.drew ?_) | (refine below_drewN ?_ _) | (refine below_via0 ?_ (by assumption)) | (refine Below.alloc ?_ ?_ _) | (refine below_via ?_ (by assumption) ?_)))⟩
theorem and_low (x k : Nat) (m : Nat) (hk : m = 2 ^ k - 1) (hx : x < 9223372036854775808) (hm : m < 9223372036854775808) : bits .and .i64 (x : Int) (m : Int) = ((x % 2 ^ k : Nat) : Int) := by
  rw [i64_and _ _ (by omega) (by omega) (by omega) (by omega)]
  simp only [Int.toNat_natCast]
  rw [hk, Nat.and_two_pow_sub_one_eq_mod]
def hasG (x g : Int) : Bool := inB x 0 255 && (inB g 0 7 && decide (x.toNat / 2 ^ g.toNat % 2 = 1))
theorem hasImpl_c (x g : Int) (w : World) : Calls Tryd.prog 65 #[.int .i64 x, .int .i64 g] w fun e w' => e = .returned (.bool (hasG x g)) ∧ w = w' := by
  cases h1 : inB x 0 255
  · go_enter Tryd.func65, Tryd.ntmps65
    go_wp2_with (first | (go_at_call 40; refine (within_c _ _ _ _).mono ?_; rintro e w' ⟨rfl, rfl⟩; rw [h1]) | (go_at_call 60; refine (isGroup_c _ _).mono ?_; rintro e w' ⟨rfl, rfl⟩))
    go_ret
    exact ⟨by simp [hasG, h1], rfl⟩
  · cases h2 : inB g 0 7
    · go_enter Tryd.func65, Tryd.ntmps65
      go_wp2_with (first | (go_at_call 40; refine (within_c _ _ _ _).mono ?_; rintro e w' ⟨rfl, rfl⟩; rw [h1]) | (go_at_call 60; refine (isGroup_c _ _).mono ?_; rintro e w' ⟨rfl, rfl⟩; rw [h2]))
      go_ret
      exact ⟨by simp [hasG, h1, h2], rfl⟩
    · have b1 := inB_iff.1 h1
      have b2 := inB_iff.1 h2
      obtain ⟨x, rfl⟩ := Int.eq_ofNat_of_zero_le b1.1
      obtain ⟨g, rfl⟩ := Int.eq_ofNat_of_zero_le b2.1
      have HV := hide (show (bits .and .i64 ((x : Int) / 2 ^ g) 1 == 1) = hasG x g by
        have hq : x / 2 ^ g ≤ x := Nat.div_le_self _ _
        have h3 : ((x : Int) / 2 ^ g) = ((x / 2 ^ g : Nat) : Int) := by simp
        rw [h3, show (1 : Int) = ((1 : Nat) : Int) by rfl, and_low _ 1 1 (by decide) (by omega) (by decide)]
        simp only [hasG, h1, h2, Bool.true_and, Int.toNat_natCast]
        rw [Bool.eq_iff_iff]; simp only [beq_iff_eq, decide_eq_true_eq]; omega)
      go_enter Tryd.func65, Tryd.ntmps65
      go_wp2_with (first | (go_at_call 40; refine (within_c _ _ _ _).mono ?_; rintro e w' ⟨rfl, rfl⟩; rw [h1]) | (go_at_call 60; refine (isGroup_c _ _).mono ?_; rintro e w' ⟨rfl, rfl⟩; rw [h2]))
      go_ret
      exact ⟨congrArg (fun b => Ending.returned (.bool b)) HV.out, rfl⟩
theorem hasSpec_c (x g : Int) (w : World) : Calls Tryd.prog 64 #[.int .i64 x, .int .i64 g] w fun e w' => e = .returned (.bool (hasG x g)) ∧ w = w' := by
  cases h1 : inB x 0 255
  · go_enter Tryd.func64, Tryd.ntmps64
    go_wp2_with (go_at_call 20; refine (l1In_c _ _ _ _).mono ?_; rintro e w' ⟨rfl, rfl⟩)
    go_ret
    exact ⟨by simp [hasG, h1], rfl⟩
  · cases h2 : inB g 0 7
    · go_enter Tryd.func64, Tryd.ntmps64
      go_wp2_with (go_at_call 20; refine (l1In_c _ _ _ _).mono ?_; rintro e w' ⟨rfl, rfl⟩)
      go_ret
      exact ⟨by simp [hasG, h1, h2], rfl⟩
    · have b1 := inB_iff.1 h1
      have b2 := inB_iff.1 h2
      obtain ⟨x, rfl⟩ := Int.eq_ofNat_of_zero_le b1.1
      obtain ⟨g, rfl⟩ := Int.eq_ofNat_of_zero_le b2.1
      have HV := hide (show (((x : Int) / 2 ^ g).tmod 2 == 1) = hasG x g by
        have h3 : ((x : Int) / 2 ^ g) = ((x / 2 ^ g : Nat) : Int) := by simp
        rw [h3, show (2 : Int) = ((2 : Nat) : Int) by rfl, ← Int.ofNat_tmod]
        simp only [hasG, h1, h2, Bool.true_and, Int.toNat_natCast]
        rw [Bool.eq_iff_iff]; simp only [beq_iff_eq, decide_eq_true_eq]; omega)
      go_enter Tryd.func64, Tryd.ntmps64
      go_wp2_with (go_at_call 20; refine (l1In_c _ _ _ _).mono ?_; rintro e w' ⟨rfl, rfl⟩)
      go_ret
      exact ⟨congrArg (fun b => Ending.returned (.bool b)) HV.out, rfl⟩
def fld (m c : Int) : Int := ((m.toNat / 2 ^ (6 - 3 * c).toNat % 8 : Nat) : Int)
theorem fld0 (m : Nat) : fld (m : Int) 0 = ((m / 64 % 8 : Nat) : Int) := by simp [fld]
theorem fld1 (m : Nat) : fld (m : Int) 1 = ((m / 8 % 8 : Nat) : Int) := by simp [fld]
theorem fld2 (m : Nat) : fld (m : Int) 2 = ((m % 8 : Nat) : Int) := by simp [fld]
theorem rfImpl_c (m c : Int) (hm : inB m 0 1023 = true) (hc : inB c 0 2 = true) (w : World) : Calls Tryd.prog 52 #[.int .i64 m, .int .i64 c] w fun e w' => e = .returned (.int .i64 (fld m c)) ∧ w = w' := by
  have b1 := inB_iff.1 hm
  have b2 := inB_iff.1 hc
  obtain ⟨m, rfl⟩ := Int.eq_ofNat_of_zero_le b1.1
  obtain rfl | rfl | rfl : c = 0 ∨ c = 1 ∨ c = 2 := by omega
  · have HV := hide (show bits .and .i64 ((m : Int) / 64) 7 = fld (m : Int) 0 by
      rw [fld0, show ((m : Int) / 64) = (((m / 64 : Nat) : Nat) : Int) by simp, show (7 : Int) = ((7 : Nat) : Int) by rfl, and_low _ 3 7 (by decide) (by omega) (by decide)])
    go_enter Tryd.func52, Tryd.ntmps52
    go_wp2_with fail
    go_ret
    exact ⟨congrArg (fun b => Ending.returned (.int .i64 b)) HV.out, rfl⟩
  · have HV := hide (show bits .and .i64 ((m : Int) / 8) 7 = fld (m : Int) 1 by
      rw [fld1, show ((m : Int) / 8) = (((m / 8 : Nat) : Nat) : Int) by simp, show (7 : Int) = ((7 : Nat) : Int) by rfl, and_low _ 3 7 (by decide) (by omega) (by decide)])
    go_enter Tryd.func52, Tryd.ntmps52
    go_wp2_with fail
    go_ret
    exact ⟨congrArg (fun b => Ending.returned (.int .i64 b)) HV.out, rfl⟩
  · have HV := hide (show bits .and .i64 (m : Int) 7 = fld (m : Int) 2 by
      rw [fld2, show (7 : Int) = ((7 : Nat) : Int) by rfl, and_low _ 3 7 (by decide) (by omega) (by decide)])
    go_enter Tryd.func52, Tryd.ntmps52
    go_wp2_with fail
    go_ret
    exact ⟨congrArg (fun b => Ending.returned (.int .i64 b)) HV.out, rfl⟩
theorem rfSpec_c (m c : Int) (hm : inB m 0 1023 = true) (hc : inB c 0 2 = true) (w : World) : Calls Tryd.prog 50 #[.int .i64 m, .int .i64 c] w fun e w' => e = .returned (.int .i64 (fld m c)) ∧ w = w' := by
  have b1 := inB_iff.1 hm
  have b2 := inB_iff.1 hc
  have h3 := hm
  obtain ⟨m, rfl⟩ := Int.eq_ofNat_of_zero_le b1.1
  obtain rfl | rfl | rfl : c = 0 ∨ c = 1 ∨ c = 2 := by omega
  · have HV := hide (show ((m : Int) / 64).tmod 8 = fld (m : Int) 0 by
      rw [fld0, show ((m : Int) / 64) = (((m / 64 : Nat) : Nat) : Int) by simp, show (8 : Int) = ((8 : Nat) : Int) by rfl, ← Int.ofNat_tmod])
    go_enter Tryd.func50, Tryd.ntmps50
    go_wp2_with (go_at_call 20; refine (l1In_c _ _ _ _).mono ?_; rintro e w' ⟨rfl, rfl⟩)
    go_ret
    exact ⟨congrArg (fun b => Ending.returned (.int .i64 b)) HV.out, rfl⟩
  · have HV := hide (show ((m : Int) / 8).tmod 8 = fld (m : Int) 1 by
      rw [fld1, show ((m : Int) / 8) = (((m / 8 : Nat) : Nat) : Int) by simp, show (8 : Int) = ((8 : Nat) : Int) by rfl, ← Int.ofNat_tmod])
    go_enter Tryd.func50, Tryd.ntmps50
    go_wp2_with (go_at_call 20; refine (l1In_c _ _ _ _).mono ?_; rintro e w' ⟨rfl, rfl⟩)
    go_ret
    exact ⟨congrArg (fun b => Ending.returned (.int .i64 b)) HV.out, rfl⟩
  · have HV := hide (show (m : Int).tmod 8 = fld (m : Int) 2 by
      rw [fld2, show (8 : Int) = ((8 : Nat) : Int) by rfl, ← Int.ofNat_tmod])
    go_enter Tryd.func50, Tryd.ntmps50
    go_wp2_with (go_at_call 20; refine (l1In_c _ _ _ _).mono ?_; rintro e w' ⟨rfl, rfl⟩)
    go_ret
    exact ⟨congrArg (fun b => Ending.returned (.int .i64 b)) HV.out, rfl⟩
def classF (r a s g u p : Int) : Int := if credB r a s g && (inB u 0 99 && inB p 0 7) then (if (a == u) then 0 else if hasG g p then 1 else 2) else -1
theorem classF_cases (r a s g u p : Int) : classF r a s g u p = -1 ∨ (classF r a s g u p = 0 ∧ (a == u) = true) ∨ (classF r a s g u p = 1 ∧ (a == u) = false ∧ hasG g p = true) ∨ (classF r a s g u p = 2 ∧ (a == u) = false ∧ hasG g p = false) := by
  unfold classF
  cases credB r a s g && (inB u 0 99 && inB p 0 7) <;> cases (a == u) <;> cases hasG g p <;> simp
theorem classS_c (r a s g u p : Int) (w : World) :
    Calls Tryd.prog 49 #[.agg #[.int .i64 r, .int .i64 a, .int .i64 s, .int .i64 g], .int .i64 u, .int .i64 p] w fun e w' => e = .returned (.int .i64 (classF r a s g u p)) ∧ Below w.heap.size w w' := by
  cases h1 : credB r a s g <;> cases h2 : inB u 0 99 <;> cases h3 : inB p 0 7 <;> cases h4 : (a == u) <;> cases h5 : hasG g p
  all_goals
    go_enter Tryd.func49, Tryd.ntmps49
    go_wp2_with fail
    refine (credSpec_c _ _ _ _ _).mono ?_
    rintro e w1 ⟨rfl, hb1⟩
    rw [h1]
    have L1 := live hb1 w.heap.size (by first | omega | (simp <;> omega))
    have B1 : Below w.heap.size w w1 := below_via0 (below_alloc0 (Below.refl _ _) _) hb1
    have HF := hide (show classF r a s g u p = _ by unfold classF; rw [h1, h2, h3, h4, h5])
    go_wp2_with (first | (go_at_call 20; refine (l1In_c _ _ _ _).mono ?_; rintro e w' ⟨rfl, rfl⟩) | (go_at_call 64; refine (hasSpec_c _ _ _).mono ?_; rintro e w' ⟨rfl, rfl⟩; rw [h5]))
    go_ret
    exact ⟨by rw [HF.out]; rfl, B1⟩
theorem class1_c (r a s g u p : Int) (w : World) :
    Calls Tryd.prog 53 #[.agg #[.int .i64 r, .int .i64 a, .int .i64 s, .int .i64 g], .int .i64 u, .int .i64 p] w fun e w' => e = .returned (.int .i64 (if (a == u) then 0 else if hasG g p then 1 else 2)) ∧ Below w.heap.size w w' := by
  cases h4 : (a == u) <;> cases h5 : hasG g p
  all_goals
    go_enter Tryd.func53, Tryd.ntmps53
    go_wp2_with (go_at_call 65; refine (hasImpl_c _ _ _).mono ?_; rintro e w' ⟨rfl, rfl⟩; rw [h5])
    go_ret
    exact ⟨rfl, below_alloc0 (Below.refl _ _) _⟩
theorem fld_bd (m c : Int) : 0 ≤ fld m c ∧ fld m c < 8 := by unfold fld; omega
/-- A credential may do x: c the class. -/
def mayV (a m x c : Int) : Bool := bif a == 0 then ((x.tmod 2 == 0) || ((bits .or .i64 (bits .or .i64 (fld m 0) (fld m 1)) (fld m 2)).tmod 2 == 1)) else (bits .and .i64 (fld m c) x == x)
theorem andNot_nat : ∀ x, x < 8 → ∀ y, y < 8 → (bits .andNot .i64 ((x : Nat) : Int) ((y : Nat) : Int) == 0) = (bits .and .i64 ((y : Nat) : Int) ((x : Nat) : Int) == ((x : Nat) : Int)) := by decide
theorem odd_nat : ∀ x, x < 8 → (bits .and .i64 ((x : Nat) : Int) 1 == 0) = (((x : Nat) : Int).tmod 2 == 0) ∧ (!(bits .and .i64 ((x : Nat) : Int) 1 == 0)) = (((x : Nat) : Int).tmod 2 == 1) := by decide
theorem or_nat : ∀ x, x < 8 → ∀ y, y < 8 → 0 ≤ bits .or .i64 ((x : Nat) : Int) ((y : Nat) : Int) ∧ bits .or .i64 ((x : Nat) : Int) ((y : Nat) : Int) < 8 ∧ ((bits .or .i64 ((x : Nat) : Int) ((y : Nat) : Int)).tmod 2 == 1) = ((((x : Nat) : Int).tmod 2 == 1) || (((y : Nat) : Int).tmod 2 == 1)) := by decide
theorem sub_nat : ∀ x, x < 8 → ∀ y, y < 8 → (bits .and .i64 ((y : Nat) : Int) ((x : Nat) : Int) == ((x : Nat) : Int)) = true → (((x : Nat) : Int).tmod 2 == 0) = true ∨ (((y : Nat) : Int).tmod 2 == 1) = true := by decide
theorem andNot_i {x y : Int} (hx : 0 ≤ x ∧ x < 8) (hy : 0 ≤ y ∧ y < 8) : (bits .andNot .i64 x y == 0) = (bits .and .i64 y x == x) := by
  obtain ⟨x, rfl⟩ := Int.eq_ofNat_of_zero_le hx.1
  obtain ⟨y, rfl⟩ := Int.eq_ofNat_of_zero_le hy.1
  exact andNot_nat x (by omega) y (by omega)
theorem odd_i {x : Int} (hx : 0 ≤ x ∧ x < 8) : (bits .and .i64 x 1 == 0) = (x.tmod 2 == 0) ∧ (!(bits .and .i64 x 1 == 0)) = (x.tmod 2 == 1) := by
  obtain ⟨x, rfl⟩ := Int.eq_ofNat_of_zero_le hx.1
  exact odd_nat x (by omega)
theorem or_i {x y : Int} (hx : 0 ≤ x ∧ x < 8) (hy : 0 ≤ y ∧ y < 8) : (0 ≤ bits .or .i64 x y ∧ bits .or .i64 x y < 8) ∧ ((bits .or .i64 x y).tmod 2 == 1) = ((x.tmod 2 == 1) || (y.tmod 2 == 1)) := by
  obtain ⟨x, rfl⟩ := Int.eq_ofNat_of_zero_le hx.1
  obtain ⟨y, rfl⟩ := Int.eq_ofNat_of_zero_le hy.1
  have := or_nat x (by omega) y (by omega)
  exact ⟨⟨this.1, this.2.1⟩, this.2.2⟩
theorem sub_i {x y : Int} (hx : 0 ≤ x ∧ x < 8) (hy : 0 ≤ y ∧ y < 8) (h : (bits .and .i64 y x == x) = true) : (x.tmod 2 == 0) = true ∨ (y.tmod 2 == 1) = true := by
  obtain ⟨x, rfl⟩ := Int.eq_ofNat_of_zero_le hx.1
  obtain ⟨y, rfl⟩ := Int.eq_ofNat_of_zero_le hy.1
  exact sub_nat x (by omega) y (by omega) h
/-- What the program asks is what the reference asks. -/
theorem mayV_impl (a m x c : Int) (hx : inB x 0 7 = true) (hc : inB c 0 2 = true) :
    mayV a m x c = (if (bits .andNot .i64 x (fld m c) == 0) = true then true else (a == 0) && ((bits .and .i64 x 1 == 0) || !(bits .and .i64 (bits .or .i64 (bits .or .i64 (fld m 0) (fld m 1)) (fld m 2)) 1 == 0))) := by
  have bx := inB_iff.1 hx
  have bc := inB_iff.1 hc
  have hx' : 0 ≤ x ∧ x < 8 := by omega
  have h01 := or_i (fld_bd m 0) (fld_bd m 1)
  have h012 := or_i h01.1 (fld_bd m 2)
  rw [andNot_i hx' (fld_bd m c), (odd_i hx').1, (odd_i h012.1).2, h012.2, h01.2]
  unfold mayV
  rw [h012.2, h01.2]
  cases hz : (a == 0)
  · simp only [cond_false, Bool.false_and]
    cases (bits .and .i64 (fld m c) x == x) <;> rfl
  · simp only [cond_true, Bool.true_and]
    split
    · rename_i h
      have hs := sub_i hx' (fld_bd m c) h
      rcases hs with hs | hs
      · rw [hs]; rfl
      · obtain rfl | rfl | rfl : c = 0 ∨ c = 1 ∨ c = 2 := by omega
        · rw [hs]; simp
        · rw [hs]; simp
        · rw [hs]; simp
    · rfl
end Go.Proofs.YtncjghmjlcohjaaDoor
