/-
  Contracts of TakeSignal and its exact law's walk. No condition.
-/
import Derived.Test.YtheblgfgcmkdiaaProg
import Derived.Test.YtheblgfgcmkdiaaSig
namespace Go.Proofs.Ytheblgfgcmkdiaa
open Go.RowKit
set_option linter.unusedSimpArgs false
set_option linter.unusedVariables false

/-- The signals that wait and are not kept back. -/
def fr (a b : Int) : Int := bits .andNot .i64 a b
/-- The least bit of a number below 256. -/
def low (f : Int) : Int :=
  if f % 2 = 1 then 0 else if f / 2 % 2 = 1 then 1 else if f / 4 % 2 = 1 then 2 else if f / 8 % 2 = 1 then 3 else if f / 16 % 2 = 1 then 4 else if f / 32 % 2 = 1 then 5 else if f / 64 % 2 = 1 then 6 else 7
def takeN (a b : Int) : Int := if sigB a b = true then (if fr a b = 0 then -1 else if fr a b / 128 % 2 = 1 then 7 else low (fr a b)) else -1
def takeW (a b : Int) : Int := if sigB a b = true then (if fr a b = 0 then a else bits .andNot .i64 a (2 ^ (takeN a b).toNat)) else 0
def takeH (a b : Int) : Int := if sigB a b = true then b else 0

theorem fr_bd (a b : Int) (h : sigB a b = true) : 0 ≤ fr a b ∧ fr a b ≤ 255 := by
  obtain ⟨q1, q2, q3, q4⟩ := sigB_yes h
  unfold fr
  rw [i64_andNot a b (by omega) (by omega) (by omega) (by omega)]
  have : a.toNat &&& (18446744073709551615 - b.toNat) ≤ a.toNat := Nat.and_le_left
  omega
theorem low_eq (f : Int) (k : Nat) (h0 : 0 ≤ f) (h1 : f ≤ 255) (hk : k ≤ 7) (hall : ∀ j : Nat, j < k → f / 2 ^ j % 2 = 0) (hbit : f / 2 ^ k % 2 = 1) : low f = k := by
  have e0 := hall 0; have e1 := hall 1; have e2 := hall 2; have e3 := hall 3; have e4 := hall 4; have e5 := hall 5; have e6 := hall 6
  simp only [Int.reducePow] at e0 e1 e2 e3 e4 e5 e6
  unfold low
  match k, hk with
  | 0, _ => simp only [Int.reducePow] at hbit; split <;> omega
  | 1, _ => simp only [Int.reducePow] at hbit; repeat' split
            all_goals omega
  | 2, _ => simp only [Int.reducePow] at hbit; repeat' split
            all_goals omega
  | 3, _ => simp only [Int.reducePow] at hbit; repeat' split
            all_goals omega
  | 4, _ => simp only [Int.reducePow] at hbit; repeat' split
            all_goals omega
  | 5, _ => simp only [Int.reducePow] at hbit; repeat' split
            all_goals omega
  | 6, _ => simp only [Int.reducePow] at hbit; repeat' split
            all_goals omega
  | 7, _ => simp only [Int.reducePow] at hbit; repeat' split
            all_goals omega
theorem low_end (f : Int) (k : Nat) (h0 : 0 ≤ f) (h1 : f ≤ 255) (hk : 8 ≤ k) (hall : ∀ j : Nat, j < k → f / 2 ^ j % 2 = 0) : f = 0 := by
  have e0 := hall 0; have e1 := hall 1; have e2 := hall 2; have e3 := hall 3; have e4 := hall 4; have e5 := hall 5; have e6 := hall 6; have e7 := hall 7
  simp only [Int.reducePow] at e0 e1 e2 e3 e4 e5 e6 e7
  omega
theorem and_one (x : Int) (h0 : 0 ≤ x) (h1 : x ≤ 255) : bits .and .i64 x 1 = x % 2 := by
  rw [i64_and _ _ (by omega) (by omega) (by omega) (by omega)]
  have : x.toNat &&& (1 : Int).toNat = x.toNat % 2 := Nat.and_two_pow_sub_one_eq_mod _ 1
  omega
theorem shr_bd (f : Int) (k : Nat) (h0 : 0 ≤ f) (h1 : f ≤ 255) : 0 ≤ f / 2 ^ k ∧ f / 2 ^ k ≤ 255 := by
  have hp : (0 : Int) < 2 ^ k := Int.pow_pos (by decide)
  refine ⟨Int.ediv_nonneg h0 (Int.le_of_lt hp), Int.le_trans (Int.ediv_le_self _ h0) h1⟩


theorem takeSpec_c (a b : Int) (w : World) :
    Calls Try.prog 40 #[.agg #[.int .i64 a, .int .i64 b]] w fun e w' => e = .returned (.tuple #[.agg #[.int .i64 (takeW a b), .int .i64 (takeH a b)], .int .i64 (takeN a b)]) ∧ Below w.heap.size w w' := by
  by_cases hv : sigB a b = true
  · obtain ⟨f0, f1⟩ := fr_bd a b hv
    have hfr : bits .andNot .i64 a b = fr a b := rfl
    by_cases h7 : fr a b / 128 % 2 = 1
    · have h7' : (fr a b / 128 % 2 == 1) = true := by simpa using h7
      have hz : ¬ fr a b = 0 := by omega
      have HN := hide (show takeN a b = 7 by simp [takeN, hv, hz, h7])
      clear h7
      go_enter Try.func40, Try.ntmps40
      go_wp2_with (go_at_call 14; refine (sigSpec_c _ _ _).mono ?_; rintro e w1 ⟨rfl, hb1⟩; have L1 := live hb1 w.heap.size (by first | omega | (simp <;> omega)); have L2 := live hb1 (w.heap.size + 1) (by first | omega | (simp <;> omega)))
      exact bodyPost_ret (v := .tuple #[.agg #[.int .i64 (takeW a b), .int .i64 (takeH a b)], .int .i64 (takeN a b)]) (by simp [results, Try.results40, go_sem, takeW, takeH, HN.out, hv, hz, L2.1, L2.2]) rfl ⟨rfl, (by repeat' (first | exact Below.refl _ _ | assumption | exact And.left (by assumption) | omega | (simp; done) | (simp; omega) | (simp at *; omega) | (refine Below.setCell ?_ ?_ _) | (refine below_alloc0 ?_ _) | (refine Below.drew ?_) | (refine below_drewN ?_ _) | (refine below_via0 ?_ (by assumption)) | (refine Below.alloc ?_ ?_ _) | (refine below_via ?_ (by assumption) ?_)))⟩
    · have h7' : (fr a b / 128 % 2 == 1) = false := by simpa using h7
      have H7 := hide h7
      clear h7
      go_enter Try.func40, Try.ntmps40
      go_wp2_with (go_at_call 14; refine (sigSpec_c _ _ _).mono ?_; rintro e w1 ⟨rfl, hb1⟩; have L1 := live hb1 w.heap.size (by first | omega | (simp <;> omega)); have L2 := live hb1 (w.heap.size + 1) (by first | omega | (simp <;> omega)))
      go_loop [5] (fun k => ∃ n : Nat, n ≤ 8 ∧ k = .int .i64 n ∧ Hid (∀ j : Nat, j < n → fr a b / 2 ^ j % 2 = 0)) (fun k => 8 - (intOf k).toNat)
      case atStart => exact ⟨0, by omega, rfl, fun j hj => absurd hj (by omega)⟩
      case round =>
        obtain ⟨n, hn, rfl, hall⟩ := hrel
        by_cases hlt : n < 8
        · have hlt' : n ≤ 7 := by omega
          by_cases hbit : fr a b / 2 ^ n % 2 = 1
          · have hbit' : (fr a b / 2 ^ n % 2 == 1) = true := by simpa using hbit
            have hz : ¬ fr a b = 0 := by intro h; rw [h] at hbit; simp at hbit
            have HN := hide (show takeN a b = n by simp [takeN, hv, hz, H7.out]; exact low_eq _ _ f0 f1 hlt' hall.out hbit)
            have hsb := shr_bd (fr a b) n f0 f1
            have e1 := shl_i64 (n : Int) (by omega) (by omega)
            simp only [Int.toNat_natCast] at e1
            clear hbit
            go_wp2
            go_region
            go_wp2
            exact bodyPost_ret (v := .tuple #[.agg #[.int .i64 (takeW a b), .int .i64 (takeH a b)], .int .i64 (takeN a b)]) (by simp [results, Try.results40, go_sem, takeW, takeH, HN.out, hv, hz, e1, L2.1, L2.2]) rfl ⟨rfl, (by repeat' (first | exact Below.refl _ _ | assumption | exact And.left (by assumption) | omega | (simp; done) | (simp; omega) | (simp at *; omega) | (refine Below.setCell ?_ ?_ _) | (refine below_alloc0 ?_ _) | (refine Below.drew ?_) | (refine below_drewN ?_ _) | (refine below_via0 ?_ (by assumption)) | (refine Below.alloc ?_ ?_ _) | (refine below_via ?_ (by assumption) ?_)))⟩
          · have hbit' : (fr a b / 2 ^ n % 2 == 1) = false := by simpa using hbit
            have hsb := shr_bd (fr a b) n f0 f1
            have H0 := hide (show fr a b / 2 ^ n % 2 = 0 by omega)
            clear hbit
            go_wp2
            go_round
            case rel => exact ⟨n + 1, by omega, by go_num, fun j hj => by
              rcases Nat.lt_or_ge j n with h | h
              · exact hall.out j h
              · obtain rfl : j = n := by omega
                exact H0.out⟩
            case measure => simp [intOf]; omega
        · have hz := hide (low_end _ _ f0 f1 (by omega) hall.out)
          have HN := hide (show takeN a b = -1 by simp [takeN, hv, hz.out])
          go_wp2
          exact bodyPost_ret (v := .tuple #[.agg #[.int .i64 (takeW a b), .int .i64 (takeH a b)], .int .i64 (takeN a b)]) (by simp [results, Try.results40, go_sem, takeW, takeH, HN.out, hz.out, hv, L1.1, L1.2, L2.1, L2.2]) rfl ⟨rfl, (by repeat' (first | exact Below.refl _ _ | assumption | exact And.left (by assumption) | omega | (simp; done) | (simp; omega) | (simp at *; omega) | (refine Below.setCell ?_ ?_ _) | (refine below_alloc0 ?_ _) | (refine Below.drew ?_) | (refine below_drewN ?_ _) | (refine below_via0 ?_ (by assumption)) | (refine Below.alloc ?_ ?_ _) | (refine below_via ?_ (by assumption) ?_)))⟩
  · go_enter Try.func40, Try.ntmps40
    go_wp2_with (go_at_call 14; refine (sigSpec_c _ _ _).mono ?_; rintro e w1 ⟨rfl, hb1⟩; have L1 := live hb1 w.heap.size (by first | omega | (simp <;> omega)); have L2 := live hb1 (w.heap.size + 1) (by first | omega | (simp <;> omega)))
    exact bodyPost_ret (v := .tuple #[.agg #[.int .i64 (takeW a b), .int .i64 (takeH a b)], .int .i64 (takeN a b)]) (by simp [results, Try.results40, go_sem, takeW, takeH, takeN, hv, L2.1, L2.2]) rfl ⟨rfl, (by repeat' (first | exact Below.refl _ _ | assumption | exact And.left (by assumption) | omega | (simp; done) | (simp; omega) | (simp at *; omega) | (refine Below.setCell ?_ ?_ _) | (refine below_alloc0 ?_ _) | (refine Below.drew ?_) | (refine below_drewN ?_ _) | (refine below_via0 ?_ (by assumption)) | (refine Below.alloc ?_ ?_ _) | (refine below_via ?_ (by assumption) ?_)))⟩
theorem takeImpl_c (a b : Int) (w : World) :
    Calls Try.prog 35 #[.agg #[.int .i64 a, .int .i64 b]] w fun e w' => e = .returned (.tuple #[.agg #[.int .i64 (takeW a b), .int .i64 (takeH a b)], .int .i64 (takeN a b)]) ∧ Below w.heap.size w w' := by
  by_cases hv : sigB a b = true
  · obtain ⟨f0, f1⟩ := fr_bd a b hv
    have hfr : bits .andNot .i64 a b = fr a b := rfl
    by_cases hz : fr a b = 0
    · have hz' : (fr a b == 0) = true := by simpa using hz
      have HN := hide (show takeN a b = -1 by simp [takeN, hv, hz])
      have HZ := hide hz
      clear hz
      go_enter Try.func35, Try.ntmps35
      go_wp2_with (go_at_call 13; refine (sigImpl_c _ _ _).mono ?_; rintro e w1 ⟨rfl, hb1⟩; have L1 := live hb1 w.heap.size (by first | omega | (simp <;> omega)); have L2 := live hb1 (w.heap.size + 1) (by first | omega | (simp <;> omega)))
      exact bodyPost_ret (v := .tuple #[.agg #[.int .i64 (takeW a b), .int .i64 (takeH a b)], .int .i64 (takeN a b)]) (by simp [results, Try.results35, go_sem, takeW, takeH, HN.out, HZ.out, hv, L1.1, L1.2, L2.1, L2.2]) rfl ⟨rfl, (by repeat' (first | exact Below.refl _ _ | assumption | exact And.left (by assumption) | omega | (simp; done) | (simp; omega) | (simp at *; omega) | (refine Below.setCell ?_ ?_ _) | (refine below_alloc0 ?_ _) | (refine Below.drew ?_) | (refine below_drewN ?_ _) | (refine below_via0 ?_ (by assumption)) | (refine Below.alloc ?_ ?_ _) | (refine below_via ?_ (by assumption) ?_)))⟩
    · have hz' : (fr a b == 0) = false := by simpa using hz
      have a7 := and_one (fr a b / 128) (by omega) (by omega)
      go_enter Try.func35, Try.ntmps35
      go_wp2_with (go_at_call 13; refine (sigImpl_c _ _ _).mono ?_; rintro e w1 ⟨rfl, hb1⟩; have L1 := live hb1 w.heap.size (by first | omega | (simp <;> omega)); have L2 := live hb1 (w.heap.size + 1) (by first | omega | (simp <;> omega)))
      go_loop [5] (fun k => ∃ n : Nat, n ≤ 7 ∧ k = .int .i64 n ∧ Hid (∀ j : Nat, j < n → fr a b / 2 ^ j % 2 = 0)) (fun k => 8 - (intOf k).toNat)
      case atStart => exact ⟨0, by omega, rfl, fun j hj => absurd hj (by omega)⟩
      case round =>
        obtain ⟨n, hn, rfl, hall⟩ := hrel
        have hsb := shr_bd (fr a b) n f0 f1
        have an := and_one (fr a b / 2 ^ n) hsb.1 hsb.2
        by_cases hbit : fr a b / 2 ^ n % 2 = 1
        · have hbit' : (fr a b / 2 ^ n % 2 == 0) = false := by simp [hbit]
          have HL := hide (low_eq _ _ f0 f1 hn hall.out hbit)
          clear hbit
          by_cases h7 : fr a b / 128 % 2 = 1
          · have h7' : (fr a b / 128 % 2 == 1) = true := by simpa using h7
            have HN := hide (show takeN a b = 7 by simp [takeN, hv, hz, h7])
            clear h7
            go_wp2
            exact bodyPost_ret (v := .tuple #[.agg #[.int .i64 (takeW a b), .int .i64 (takeH a b)], .int .i64 (takeN a b)]) (by simp [results, Try.results35, go_sem, takeW, takeH, HN.out, hz, hv, L1.1, L1.2, L2.1, L2.2]) rfl ⟨rfl, (by repeat' (first | exact Below.refl _ _ | assumption | exact And.left (by assumption) | omega | (simp; done) | (simp; omega) | (simp at *; omega) | (refine Below.setCell ?_ ?_ _) | (refine below_alloc0 ?_ _) | (refine Below.drew ?_) | (refine below_drewN ?_ _) | (refine below_via0 ?_ (by assumption)) | (refine Below.alloc ?_ ?_ _) | (refine below_via ?_ (by assumption) ?_)))⟩
          · have h7' : (fr a b / 128 % 2 == 1) = false := by simpa using h7
            have HN := hide (show takeN a b = n by simp [takeN, hv, hz, h7]; exact HL.out)
            have e1 := shl_i64 (n : Int) (by omega) (by omega)
            simp only [Int.toNat_natCast] at e1
            clear h7
            go_wp2
            exact bodyPost_ret (v := .tuple #[.agg #[.int .i64 (takeW a b), .int .i64 (takeH a b)], .int .i64 (takeN a b)]) (by simp [results, Try.results35, go_sem, takeW, takeH, HN.out, hz, hv, e1, L1.1, L1.2, L2.1, L2.2]) rfl ⟨rfl, (by repeat' (first | exact Below.refl _ _ | assumption | exact And.left (by assumption) | omega | (simp; done) | (simp; omega) | (simp at *; omega) | (refine Below.setCell ?_ ?_ _) | (refine below_alloc0 ?_ _) | (refine Below.drew ?_) | (refine below_drewN ?_ _) | (refine below_via0 ?_ (by assumption)) | (refine Below.alloc ?_ ?_ _) | (refine below_via ?_ (by assumption) ?_)))⟩
        · have hbit' : (fr a b / 2 ^ n % 2 == 0) = true := by simp; omega
          have H0 := hide (show fr a b / 2 ^ n % 2 = 0 by omega)
          clear hbit
          have hall' : ∀ j : Nat, j < n + 1 → fr a b / 2 ^ j % 2 = 0 := fun j hj => by
            rcases Nat.lt_or_ge j n with h | h
            · exact hall.out j h
            · obtain rfl : j = n := by omega
              exact H0.out
          have hn' : n < 7 := by
            rcases Nat.lt_or_ge n 7 with h | h
            · exact h
            · exact absurd (low_end _ (n + 1) f0 f1 (by omega) hall') hz
          have HA := hide hall'
          clear hall'
          go_wp2
          go_round
          case rel => exact ⟨n + 1, by omega, by go_num, HA⟩
          case measure => simp [intOf]; omega
  · go_enter Try.func35, Try.ntmps35
    go_wp2_with (go_at_call 13; refine (sigImpl_c _ _ _).mono ?_; rintro e w1 ⟨rfl, hb1⟩; have L1 := live hb1 w.heap.size (by first | omega | (simp <;> omega)); have L2 := live hb1 (w.heap.size + 1) (by first | omega | (simp <;> omega)))
    exact bodyPost_ret (v := .tuple #[.agg #[.int .i64 (takeW a b), .int .i64 (takeH a b)], .int .i64 (takeN a b)]) (by simp [results, Try.results35, go_sem, takeW, takeH, takeN, hv, L2.1, L2.2]) rfl ⟨rfl, (by repeat' (first | exact Below.refl _ _ | assumption | exact And.left (by assumption) | omega | (simp; done) | (simp; omega) | (simp at *; omega) | (refine Below.setCell ?_ ?_ _) | (refine below_alloc0 ?_ _) | (refine Below.drew ?_) | (refine below_drewN ?_ _) | (refine below_via0 ?_ (by assumption)) | (refine Below.alloc ?_ ?_ _) | (refine below_via ?_ (by assumption) ?_)))⟩

end Go.Proofs.Ytheblgfgcmkdiaa
