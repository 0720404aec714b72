/-
  The laws of the signals over drawn arguments: HoldSignals, TakeSignal. No condition.
-/
import Derived.Test.YtheblgfgcmkdiaaProg
import Derived.Test.YtheblgfgcmkdiaaFnSig2
namespace Go.Proofs.Ytheblgfgcmkdiaa
open Go.RowKit
set_option linter.unusedSimpArgs false
set_option linter.unusedVariables false

theorem hold_all : ∀ a : Fin 256, takeN (a.val : Int) 127 = -1 ∨ takeN (a.val : Int) 127 = 7 := by decide +kernel
theorem hold_nat : ∀ s : Fin 256, s.val &&& (18446744073709551615 - 128) ≤ 127 := by decide +kernel
theorem hold_fix : bits .andNot .i64 255 128 = 127 := by decide
theorem hold_facts {a b s : Int} (hv : sigB a b = true) (h0 : 0 ≤ s) (h7 : s ≤ 255) :
    holdW a b s = a ∧ holdH a b s = bits .andNot .i64 s 128 ∧ sigB a (bits .andNot .i64 s 128) = true ∧ holdW a b 255 = a ∧ holdH a b 255 = 127 ∧ (takeN a 127 = -1 ∨ takeN a 127 = 7) := by
  obtain ⟨q1, q2, q3, q4⟩ := sigB_yes hv
  have hn : inB s 0 255 = true := inB_iff.2 ⟨h0, h7⟩
  have hn2 : inB 255 0 255 = true := by decide
  obtain ⟨a, rfl⟩ := Int.eq_ofNat_of_zero_le q1
  obtain ⟨s, rfl⟩ := Int.eq_ofNat_of_zero_le h0
  have h1 := hold_nat ⟨s, by omega⟩
  have h2 := hold_all ⟨a, by omega⟩
  simp only at h1 h2
  refine ⟨by simp [holdW, holdOk, hv, hn], by simp [holdH, holdOk, hv, hn], ?_, by simp [holdW, holdOk, hv, hn2], by simp [holdH, holdOk, hv, hn2, hold_fix], h2⟩
  rw [i64_andNot _ _ (by omega) (by omega) (by omega) (by omega)]
  simp only [sigB, Bool.and_eq_true, inB_iff]
  have e : (128 : Int).toNat = 128 := rfl
  rw [Int.toNat_natCast, e]
  omega
set_option maxHeartbeats 2000000 in
theorem fnHoldSignals_walk {w : World} (A : Option Addr) (n c : Nat) (h : InB w A n c) :
    Calls Try.prog 9 #[.slice A n c] w fun e w' => e = .returned (.bool true) ∧ Below w.heap.size w w' := by
  have hm := h.2.1
  unfold maxLen at hm
  have hc := h.1
  have H := hide h
  clear h
  by_cases h20 : 1048576 < n
  · go_enter Try.func9, Try.ntmps9
    go_wp2_with fail
    go_ret
    exact ⟨rfl, Below.refl _ _⟩
  · go_enter Try.func9, Try.ntmps9
    go_wp2_with fail
    refine (gHoldSignals_c A n c _ (H.out.below (Below.refl _ _))).mono ?_
    rintro e w1 ⟨a, b, s, rfl, hb1⟩
    go_wp2_with fail
    refine (holdImpl_c _ _ _ _).mono ?_
    have PS := hide (holdSpec_c a b s)
    by_cases hok : sigB a b = true ∧ 0 ≤ s ∧ s ≤ 255
    · obtain ⟨hv, h0, h7⟩ := hok
      obtain ⟨f1, f2, f3, f4, f5, f6⟩ := hold_facts hv h0 h7
      rw [f1, f2] at PS ⊢
      have HV := hide hv
      have PV := hide (sigImpl_c a (bits .andNot .i64 s 128))
      have PI := hide (holdImpl_c a b 255)
      rw [f4, f5] at PI
      rw [f3] at PV
      clear f1 f2 f3 f4 f5 hv
      generalize bits .andNot .i64 s 128 = y at *
      have HT := hide f6
      clear f6
      rintro e w2 ⟨rfl, hb2⟩
      have L2 := live hb2 w1.heap.size (by first | omega | (simp; done) | (simp; omega))
      have B2 : Below w.heap.size w w2 := (by repeat' (first | exact Below.refl _ _ | assumption | exact And.left (by assumption) | omega | (simp; done) | (simp; omega) | (simp at *; omega) | (refine Below.setCell ?_ ?_ _) | (refine below_alloc0 ?_ _) | (refine Below.drew ?_) | (refine below_drewN ?_ _) | (refine below_via0 ?_ (by assumption)) | (refine Below.alloc ?_ ?_ _) | (refine below_via ?_ (by assumption) ?_)))
      go_wp2_with fail
      go_region_held3 (fun w' => Below w.heap.size w w' ∧ w1.heap.size < w'.heap.size ∧ w2.heap.size < w'.heap.size ∧ w'.cell? ⟨w1.heap.size, 0, none⟩ = some (.int .i64 a) ∧ w'.cell? ⟨w1.heap.size, 1, none⟩ = some (.int .i64 b) ∧ w'.cell? ⟨w2.heap.size, 0, none⟩ = some (.int .i64 a) ∧ w'.cell? ⟨w2.heap.size, 1, none⟩ = some (.int .i64 y))
        (first | assumption | (refine ⟨(by repeat' (first | exact Below.refl _ _ | assumption | exact And.left (by assumption) | omega | (simp; done) | (simp; omega) | (simp at *; omega) | (refine Below.setCell ?_ ?_ _) | (refine below_alloc0 ?_ _) | (refine Below.drew ?_) | (refine below_drewN ?_ _) | (refine below_via0 ?_ (by assumption)) | (refine Below.alloc ?_ ?_ _) | (refine below_via ?_ (by assumption) ?_))), ?_⟩; simp [go_sem, *]; done) | (refine ⟨(by repeat' (first | exact Below.refl _ _ | assumption | exact And.left (by assumption) | omega | (simp; done) | (simp; omega) | (simp at *; omega) | (refine Below.setCell ?_ ?_ _) | (refine below_alloc0 ?_ _) | (refine Below.drew ?_) | (refine below_drewN ?_ _) | (refine below_via0 ?_ (by assumption)) | (refine Below.alloc ?_ ?_ _) | (refine below_via ?_ (by assumption) ?_))), ?_⟩; simp [go_sem, *]; omega))
        (first | (go_at_call 34; refine (PS.out _).mono ?_; rintro e w3 ⟨rfl, hb3⟩; have L3 := live hb3 w1.heap.size (by first | omega | (simp; done) | (simp; omega)); have M3 := live hb3 w2.heap.size (by first | omega | (simp; done) | (simp; omega))))
      have B3 : Below w.heap.size w w3 := And.left (by assumption)
      go_wp2_with fail
      refine (sigImpl_c _ _ _).mono ?_
      rintro e w4 ⟨rfl, hb4⟩
      rw [HV.out]
      have L4 := live hb4 w1.heap.size (by first | omega | (simp; done) | (simp; omega))
      have M4 := live hb4 w2.heap.size (by first | omega | (simp; done) | (simp; omega))
      have B4 : Below w.heap.size w w4 := (by repeat' (first | exact Below.refl _ _ | assumption | exact And.left (by assumption) | omega | (simp; done) | (simp; omega) | (simp at *; omega) | (refine Below.setCell ?_ ?_ _) | (refine below_alloc0 ?_ _) | (refine Below.drew ?_) | (refine below_drewN ?_ _) | (refine below_via0 ?_ (by assumption)) | (refine Below.alloc ?_ ?_ _) | (refine below_via ?_ (by assumption) ?_)))
      go_wp2_with fail
      refine (PI.out _).mono ?_
      rintro e w5 ⟨rfl, hb5⟩
      have L5 := live hb5 w1.heap.size (by first | omega | (simp; done) | (simp; omega))
      have M5 := live hb5 w2.heap.size (by first | omega | (simp; done) | (simp; omega))
      have B5 : Below w.heap.size w w5 := (by repeat' (first | exact Below.refl _ _ | assumption | exact And.left (by assumption) | omega | (simp; done) | (simp; omega) | (simp at *; omega) | (refine Below.setCell ?_ ?_ _) | (refine below_alloc0 ?_ _) | (refine Below.drew ?_) | (refine below_drewN ?_ _) | (refine below_via0 ?_ (by assumption)) | (refine Below.alloc ?_ ?_ _) | (refine below_via ?_ (by assumption) ?_)))
      go_wp2_with fail
      refine (takeImpl_c _ _ _).mono ?_
      rintro e w6 ⟨rfl, hb6⟩
      have L6 := live hb6 w1.heap.size (by first | omega | (simp; done) | (simp; omega))
      have M6 := live hb6 w2.heap.size (by first | omega | (simp; done) | (simp; omega))
      have B6 : Below w.heap.size w w6 := (by repeat' (first | exact Below.refl _ _ | assumption | exact And.left (by assumption) | omega | (simp; done) | (simp; omega) | (simp at *; omega) | (refine Below.setCell ?_ ?_ _) | (refine below_alloc0 ?_ _) | (refine Below.drew ?_) | (refine below_drewN ?_ _) | (refine below_via0 ?_ (by assumption)) | (refine Below.alloc ?_ ?_ _) | (refine below_via ?_ (by assumption) ?_)))
      go_wp2_with fail
      refine (PV.out _).mono ?_
      rintro e w7 ⟨rfl, hb7⟩
      have L7 := live hb7 w1.heap.size (by first | omega | (simp; done) | (simp; omega))
      have M7 := live hb7 w2.heap.size (by first | omega | (simp; done) | (simp; omega))
      have B7 : Below w.heap.size w w7 := (by repeat' (first | exact Below.refl _ _ | assumption | exact And.left (by assumption) | omega | (simp; done) | (simp; omega) | (simp at *; omega) | (refine Below.setCell ?_ ?_ _) | (refine below_alloc0 ?_ _) | (refine Below.drew ?_) | (refine below_drewN ?_ _) | (refine below_via0 ?_ (by assumption)) | (refine Below.alloc ?_ ?_ _) | (refine below_via ?_ (by assumption) ?_)))
      rcases HT.out with ht | ht
      all_goals
        rw [ht]
        clear ht
        go_wp2_with fail
        go_ret
        exact ⟨rfl, B7⟩
    · have hz : holdW a b s = 0 ∧ holdH a b s = 0 := by
        have : holdOk a b s = false := by
          rw [← Bool.not_eq_true]
          intro h
          simp only [holdOk, Bool.and_eq_true, inB_iff] at h
          exact hok ⟨h.1, h.2.1, h.2.2⟩
        simp [holdW, holdH, this]
      rw [hz.1, hz.2] at PS ⊢
      clear hz
      rintro e w2 ⟨rfl, hb2⟩
      have L2 := live hb2 w1.heap.size (by first | omega | (simp; done) | (simp; omega))
      have B2 : Below w.heap.size w w2 := (by repeat' (first | exact Below.refl _ _ | assumption | exact And.left (by assumption) | omega | (simp; done) | (simp; omega) | (simp at *; omega) | (refine Below.setCell ?_ ?_ _) | (refine below_alloc0 ?_ _) | (refine Below.drew ?_) | (refine below_drewN ?_ _) | (refine below_via0 ?_ (by assumption)) | (refine Below.alloc ?_ ?_ _) | (refine below_via ?_ (by assumption) ?_)))
      go_wp2_with fail
      go_region_held3 (fun w' => Below w.heap.size w w' ∧ w1.heap.size < w'.heap.size ∧ w2.heap.size < w'.heap.size ∧ w'.cell? ⟨w1.heap.size, 0, none⟩ = some (.int .i64 a) ∧ w'.cell? ⟨w1.heap.size, 1, none⟩ = some (.int .i64 b) ∧ w'.cell? ⟨w2.heap.size, 0, none⟩ = some (.int .i64 0) ∧ w'.cell? ⟨w2.heap.size, 1, none⟩ = some (.int .i64 0))
        (first | assumption | (refine ⟨(by repeat' (first | exact Below.refl _ _ | assumption | exact And.left (by assumption) | omega | (simp; done) | (simp; omega) | (simp at *; omega) | (refine Below.setCell ?_ ?_ _) | (refine below_alloc0 ?_ _) | (refine Below.drew ?_) | (refine below_drewN ?_ _) | (refine below_via0 ?_ (by assumption)) | (refine Below.alloc ?_ ?_ _) | (refine below_via ?_ (by assumption) ?_))), ?_⟩; simp [go_sem, *]; done) | (refine ⟨(by repeat' (first | exact Below.refl _ _ | assumption | exact And.left (by assumption) | omega | (simp; done) | (simp; omega) | (simp at *; omega) | (refine Below.setCell ?_ ?_ _) | (refine below_alloc0 ?_ _) | (refine Below.drew ?_) | (refine below_drewN ?_ _) | (refine below_via0 ?_ (by assumption)) | (refine Below.alloc ?_ ?_ _) | (refine below_via ?_ (by assumption) ?_))), ?_⟩; simp [go_sem, *]; omega))
        (first | (go_at_call 34; refine (PS.out _).mono ?_; rintro e w3 ⟨rfl, hb3⟩; have L3 := live hb3 w1.heap.size (by first | omega | (simp; done) | (simp; omega)); have M3 := live hb3 w2.heap.size (by first | omega | (simp; done) | (simp; omega))))
      have B3 : Below w.heap.size w w3 := And.left (by assumption)
      cases hv : sigB a b with
      | true =>
        have HV := hide hv
        by_cases h0 : 0 ≤ s
        · have h7 : 255 < s := by
            by_cases h7 : s ≤ 255
            · exact absurd ⟨hv, h0, h7⟩ hok
            · omega
          clear hok hv
          go_wp2_with fail
          refine (sigImpl_c _ _ _).mono ?_
          rintro e w4 ⟨rfl, hb4⟩
          rw [HV.out]
          have M4 := live hb4 w2.heap.size (by first | omega | (simp; done) | (simp; omega))
          have B4 : Below w.heap.size w w4 := (by repeat' (first | exact Below.refl _ _ | assumption | exact And.left (by assumption) | omega | (simp; done) | (simp; omega) | (simp at *; omega) | (refine Below.setCell ?_ ?_ _) | (refine below_alloc0 ?_ _) | (refine Below.drew ?_) | (refine below_drewN ?_ _) | (refine below_via0 ?_ (by assumption)) | (refine Below.alloc ?_ ?_ _) | (refine below_via ?_ (by assumption) ?_)))
          go_wp2_with (go_at_call 15; refine (alive_c _).mono ?_; rintro e w5 ⟨rfl, hb5⟩; have B5 := below_via0 B4 hb5)
          go_ret
          exact ⟨rfl, (by repeat' (first | exact Below.refl _ _ | assumption | exact And.left (by assumption) | omega | (simp; done) | (simp; omega) | (simp at *; omega) | (refine Below.setCell ?_ ?_ _) | (refine below_alloc0 ?_ _) | (refine Below.drew ?_) | (refine below_drewN ?_ _) | (refine below_via0 ?_ (by assumption)) | (refine Below.alloc ?_ ?_ _) | (refine below_via ?_ (by assumption) ?_)))⟩
        · clear hok hv
          go_wp2_with fail
          refine (sigImpl_c _ _ _).mono ?_
          rintro e w4 ⟨rfl, hb4⟩
          rw [HV.out]
          have M4 := live hb4 w2.heap.size (by first | omega | (simp; done) | (simp; omega))
          have B4 : Below w.heap.size w w4 := (by repeat' (first | exact Below.refl _ _ | assumption | exact And.left (by assumption) | omega | (simp; done) | (simp; omega) | (simp at *; omega) | (refine Below.setCell ?_ ?_ _) | (refine below_alloc0 ?_ _) | (refine Below.drew ?_) | (refine below_drewN ?_ _) | (refine below_via0 ?_ (by assumption)) | (refine Below.alloc ?_ ?_ _) | (refine below_via ?_ (by assumption) ?_)))
          go_wp2_with (go_at_call 15; refine (alive_c _).mono ?_; rintro e w5 ⟨rfl, hb5⟩; have B5 := below_via0 B4 hb5)
          go_ret
          exact ⟨rfl, (by repeat' (first | exact Below.refl _ _ | assumption | exact And.left (by assumption) | omega | (simp; done) | (simp; omega) | (simp at *; omega) | (refine Below.setCell ?_ ?_ _) | (refine below_alloc0 ?_ _) | (refine Below.drew ?_) | (refine below_drewN ?_ _) | (refine below_via0 ?_ (by assumption)) | (refine Below.alloc ?_ ?_ _) | (refine below_via ?_ (by assumption) ?_)))⟩
      | false =>
        have HV := hide hv
        clear hok hv
        go_wp2_with fail
        refine (sigImpl_c _ _ _).mono ?_
        rintro e w4 ⟨rfl, hb4⟩
        rw [HV.out]
        have M4 := live hb4 w2.heap.size (by first | omega | (simp; done) | (simp; omega))
        have B4 : Below w.heap.size w w4 := (by repeat' (first | exact Below.refl _ _ | assumption | exact And.left (by assumption) | omega | (simp; done) | (simp; omega) | (simp at *; omega) | (refine Below.setCell ?_ ?_ _) | (refine below_alloc0 ?_ _) | (refine Below.drew ?_) | (refine below_drewN ?_ _) | (refine below_via0 ?_ (by assumption)) | (refine Below.alloc ?_ ?_ _) | (refine below_via ?_ (by assumption) ?_)))
        go_wp2_with (go_at_call 15; refine (alive_c _).mono ?_; rintro e w5 ⟨rfl, hb5⟩; have B5 := below_via0 B4 hb5)
        go_ret
        exact ⟨rfl, (by repeat' (first | exact Below.refl _ _ | assumption | exact And.left (by assumption) | omega | (simp; done) | (simp; omega) | (simp at *; omega) | (refine Below.setCell ?_ ?_ _) | (refine below_alloc0 ?_ _) | (refine Below.drew ?_) | (refine below_drewN ?_ _) | (refine below_via0 ?_ (by assumption)) | (refine Below.alloc ?_ ?_ _) | (refine below_via ?_ (by assumption) ?_)))⟩
end Go.Proofs.Ytheblgfgcmkdiaa
