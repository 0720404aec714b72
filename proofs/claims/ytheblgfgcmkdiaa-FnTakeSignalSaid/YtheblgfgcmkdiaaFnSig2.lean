/-
  The laws of the signals over drawn arguments: HoldSignals, PutSignal, TakeSignal. No condition.
-/
import Derived.Test.YtheblgfgcmkdiaaProg
import Derived.Test.YtheblgfgcmkdiaaFnSig
namespace Go.Proofs.Ytheblgfgcmkdiaa
open Go.RowKit
set_option linter.unusedSimpArgs false
set_option linter.unusedVariables false

set_option maxHeartbeats 1000000 in
theorem gHoldSignals_c (A : Option Addr) (n c : Nat) (w : World) (h : InB w A n c) : Calls Try.prog 32 #[.slice A n c] w (GotSigN w) := by
  have H := hide h
  clear h
  go_enter Try.func32, Try.ntmps32
  go_wp2_with fail
  refine (open_c A n c _ (H.out.below (by repeat' (first | exact Below.refl _ _ | assumption | exact And.left (by assumption) | omega | (simp; done) | (simp; omega) | (simp at *; omega) | (refine Below.setCell ?_ ?_ _) | (refine below_alloc0 ?_ _) | (refine Below.drew ?_) | (refine below_drewN ?_ _) | (refine below_via0 ?_ (by assumption)) | (refine Below.alloc ?_ ?_ _) | (refine below_via ?_ (by assumption) ?_))))).mono ?_
  rintro e w1 ⟨r, rfl, hr, hrd, hb1⟩
  go_wp2_with fail
  have L1 := live hb1 w.heap.size (by first | omega | (simp; done) | (simp; omega))
  simp at hr
  refine (drawSig_c w1.heap.size r 0 9 _ (by omega) (by omega) (by omega) hrd).mono ?_
  rintro e w2 ⟨a, b, rfl, hs, ha⟩
  have L2 := liveA ha w.heap.size (by first | omega | (simp; done) | (simp; omega)) (by omega)
  have hb12 : Below w.heap.size w w2 := ha.below (below_via (Below.refl _ w |>.alloc (Nat.le_refl _) _) hb1 (by simp)) (by omega) (by have := hb1.size; simp at this; omega)
  go_wp2_with fail
  have s2 : w.heap.size + 1 ≤ w2.heap.size := by have h1 := hb1.size; have h2 := ha.1.size; simp at h1; omega
  obtain ⟨z1, z2, z3⟩ := hs.size
  have hs' := (hs.alloc (.cells #[.int .i64 a, .int .i64 b] 24)).drew
  go_region_with (go_at_call 47; refine (pick_s w1 w1.heap.size r _ _ _ (by omega) (by omega) ?_ (by assumption)).mono ?_; omega; rintro e w3 ⟨x, rfl, x0, x1, hs3, ha3⟩; have L3 := liveA ha3 w2.heap.size (by first | omega | (simp; done) | (simp; omega)) (by omega); have M3 := liveA ha3 w.heap.size (by first | omega | (simp; done) | (simp; omega)) (by omega))
  all_goals
    go_wp2_with fail
    have hb13 : Below w.heap.size w w3 := hs3.2.1.below (below_via (Below.refl _ w |>.alloc (Nat.le_refl _) _) hb1 (by simp)) (by omega) (by have := hb1.size; simp at this; omega)
    exact bodyPost_ret (v := .tuple #[.agg #[.int .i64 a, .int .i64 b], .int .i64 _]) (by simp [results, Try.results32, go_sem, Act.put, *]; rfl) rfl ⟨a, b, _, rfl, (by repeat' (first | exact Below.refl _ _ | assumption | exact And.left (by assumption) | omega | (simp; done) | (simp; omega) | (simp at *; omega) | (refine Below.setCell ?_ ?_ _) | (refine below_alloc0 ?_ _) | (refine Below.drew ?_) | (refine below_drewN ?_ _) | (refine below_via0 ?_ (by assumption)) | (refine Below.alloc ?_ ?_ _) | (refine below_via ?_ (by assumption) ?_)))⟩

theorem or_nat : ∀ a : Fin 256, ∀ s : Fin 8, (a.val ||| 2 ^ s.val) / 2 ^ s.val % 2 = 1 ∧ (a.val ||| 2 ^ s.val) ||| 2 ^ s.val = a.val ||| 2 ^ s.val ∧ a.val ||| 2 ^ s.val ≤ 255 := by decide +kernel
theorem pow_i {s : Nat} (hs : s ≤ 7) : (0 : Int) ≤ 2 ^ s ∧ (2 : Int) ^ s < 9223372036854775808 := by
  match s, hs with
  | 0, _ => decide
  | 1, _ => decide
  | 2, _ => decide
  | 3, _ => decide
  | 4, _ => decide
  | 5, _ => decide
  | 6, _ => decide
  | 7, _ => decide
theorem orI_nat (a s : Nat) (ha : a ≤ 255) (hs : s ≤ 7) : orI (a : Int) (s : Int) = ((a ||| 2 ^ s : Nat) : Int) := by
  unfold orI
  have hp := pow_i hs
  rw [Int.toNat_natCast, i64_or _ _ (by omega) (by omega) hp.1 hp.2]
  simp only [Int.toNat_natCast]
  congr 2
theorem put_facts {a b s : Int} (hv : sigB a b = true) (h0 : 0 ≤ s) (h7 : s ≤ 7) :
    putW a b s = orI a s ∧ putH a b s = b ∧ sigB (orI a s) b = true ∧ putW (orI a s) b s = orI a s ∧ putH (orI a s) b s = b ∧ orI a s / 2 ^ s.toNat % 2 = 1 ∧ 0 ≤ orI a s ∧ orI a s ≤ 255 := by
  obtain ⟨q1, q2, q3, q4⟩ := sigB_yes hv
  have hn : inB s 0 7 = true := inB_iff.2 ⟨h0, h7⟩
  obtain ⟨a, rfl⟩ := Int.eq_ofNat_of_zero_le q1
  obtain ⟨s, rfl⟩ := Int.eq_ofNat_of_zero_le h0
  have hor := or_nat ⟨a, by omega⟩ ⟨s, by omega⟩
  simp only at hor
  have e := orI_nat a s (by omega) (by omega)
  have e2 := orI_nat (a ||| 2 ^ s) s hor.2.2 (by omega)
  have hs2 : sigB (orI (a : Int) (s : Int)) b = true := by
    rw [e]; simp only [sigB, Bool.and_eq_true, inB_iff]; omega
  refine ⟨by simp [putW, putOk, hv, hn], by simp [putH, putOk, hv, hn], hs2, ?_, by simp [putH, putOk, hs2, hn], ?_, by rw [e]; omega, by rw [e]; omega⟩
  · simp only [putW, putOk, hs2, hn, Bool.and_self, if_true]
    rw [e, e2, hor.2.1]
  · rw [e, Int.toNat_natCast]
    have : ((2 : Int) ^ s) = ((2 ^ s : Nat) : Int) := by simp
    rw [this, ← Int.natCast_ediv]
    omega
set_option maxHeartbeats 2000000 in
theorem fnPutSignal_walk {w : World} (A : Option Addr) (n c : Nat) (h : InB w A n c) :
    Calls Try.prog 5 #[.slice A n c] w fun e w' => e = .returned (.bool true) ∧ Below w.heap.size w w' := by
  have hm := h.2.1
  unfold maxLen at hm
  have hc := h.1
  have H := hide h
  clear h
  by_cases h20 : 1048576 < n
  · go_enter Try.func5, Try.ntmps5
    go_wp2_with fail
    go_ret
    exact ⟨rfl, Below.refl _ _⟩
  · go_enter Try.func5, Try.ntmps5
    go_wp2_with fail
    refine (gPutSignal_c A n c _ (H.out.below (Below.refl _ _))).mono ?_
    rintro e w1 ⟨a, b, s, rfl, hb1⟩
    go_wp2_with fail
    refine (putImpl_c _ _ _ _).mono ?_
    have PS := hide (putSpec_c a b s)
    by_cases hok : sigB a b = true ∧ 0 ≤ s ∧ s ≤ 7
    · obtain ⟨hv, h0, h7⟩ := hok
      obtain ⟨f1, f2, f3, f4, f5, f6, f7, f8⟩ := put_facts hv h0 h7
      rw [f1, f2] at PS ⊢
      have HV := hide hv
      have PV := hide (sigImpl_c (orI a s) b)
      have PI := hide (putImpl_c (orI a s) b s)
      rw [f4, f5] at PI
      rw [f3] at PV
      clear f1 f2 f3 f4 f5 hv
      generalize orI a s = y at *
      have hsh : ((y / 2 ^ s.toNat).tmod 2 == 1) = true := by
        have := Int.ediv_nonneg f7 (show (0 : Int) ≤ 2 ^ s.toNat from Int.le_of_lt (Int.pow_pos (by decide)))
        rw [Int.tmod_eq_emod_of_nonneg this, f6]; rfl
      have hsh2 : (y / 2 ^ s.toNat % 2 == 1) = true := by rw [f6]; rfl
      clear f6
      rintro e w2 ⟨rfl, hb2⟩
      have L2 := live hb2 w1.heap.size (by first | omega | (simp; done) | (simp; omega))
      have B2 : Below w.heap.size w w2 := (by repeat' (first | exact Below.refl _ _ | assumption | exact And.left (by assumption) | omega | (simp; done) | (simp; omega) | (simp at *; omega) | (refine Below.setCell ?_ ?_ _) | (refine below_alloc0 ?_ _) | (refine Below.drew ?_) | (refine below_drewN ?_ _) | (refine below_via0 ?_ (by assumption)) | (refine Below.alloc ?_ ?_ _) | (refine below_via ?_ (by assumption) ?_)))
      go_wp2_with fail
      go_region_held3 (fun w' => Below w.heap.size w w' ∧ w1.heap.size < w'.heap.size ∧ w2.heap.size < w'.heap.size ∧ w'.cell? ⟨w1.heap.size, 0, none⟩ = some (.int .i64 a) ∧ w'.cell? ⟨w1.heap.size, 1, none⟩ = some (.int .i64 b) ∧ w'.cell? ⟨w2.heap.size, 0, none⟩ = some (.int .i64 y) ∧ w'.cell? ⟨w2.heap.size, 1, none⟩ = some (.int .i64 b))
        (first | assumption | (refine ⟨(by repeat' (first | exact Below.refl _ _ | assumption | exact And.left (by assumption) | omega | (simp; done) | (simp; omega) | (simp at *; omega) | (refine Below.setCell ?_ ?_ _) | (refine below_alloc0 ?_ _) | (refine Below.drew ?_) | (refine below_drewN ?_ _) | (refine below_via0 ?_ (by assumption)) | (refine Below.alloc ?_ ?_ _) | (refine below_via ?_ (by assumption) ?_))), ?_⟩; simp [go_sem, *]; done) | (refine ⟨(by repeat' (first | exact Below.refl _ _ | assumption | exact And.left (by assumption) | omega | (simp; done) | (simp; omega) | (simp at *; omega) | (refine Below.setCell ?_ ?_ _) | (refine below_alloc0 ?_ _) | (refine Below.drew ?_) | (refine below_drewN ?_ _) | (refine below_via0 ?_ (by assumption)) | (refine Below.alloc ?_ ?_ _) | (refine below_via ?_ (by assumption) ?_))), ?_⟩; simp [go_sem, *]; omega))
        (first | (go_at_call 21; refine (PS.out _).mono ?_; rintro e w3 ⟨rfl, hb3⟩; have L3 := live hb3 w1.heap.size (by first | omega | (simp; done) | (simp; omega)); have M3 := live hb3 w2.heap.size (by first | omega | (simp; done) | (simp; omega))))
      have B3 : Below w.heap.size w w3 := And.left (by assumption)
      go_wp2_with fail
      refine (sigImpl_c _ _ _).mono ?_
      rintro e w4 ⟨rfl, hb4⟩
      rw [HV.out]
      have L4 := live hb4 w1.heap.size (by first | omega | (simp; done) | (simp; omega))
      have M4 := live hb4 w2.heap.size (by first | omega | (simp; done) | (simp; omega))
      have B4 : Below w.heap.size w w4 := (by repeat' (first | exact Below.refl _ _ | assumption | exact And.left (by assumption) | omega | (simp; done) | (simp; omega) | (simp at *; omega) | (refine Below.setCell ?_ ?_ _) | (refine below_alloc0 ?_ _) | (refine Below.drew ?_) | (refine below_drewN ?_ _) | (refine below_via0 ?_ (by assumption)) | (refine Below.alloc ?_ ?_ _) | (refine below_via ?_ (by assumption) ?_)))
      go_wp2_with fail
      go_region_held3 (fun w' => Below w.heap.size w w' ∧ w1.heap.size < w'.heap.size ∧ w2.heap.size < w'.heap.size ∧ w'.cell? ⟨w1.heap.size, 0, none⟩ = some (.int .i64 a) ∧ w'.cell? ⟨w1.heap.size, 1, none⟩ = some (.int .i64 b) ∧ w'.cell? ⟨w2.heap.size, 0, none⟩ = some (.int .i64 y) ∧ w'.cell? ⟨w2.heap.size, 1, none⟩ = some (.int .i64 b))
        (first | assumption | (refine ⟨(by repeat' (first | exact Below.refl _ _ | assumption | exact And.left (by assumption) | omega | (simp; done) | (simp; omega) | (simp at *; omega) | (refine Below.setCell ?_ ?_ _) | (refine below_alloc0 ?_ _) | (refine Below.drew ?_) | (refine below_drewN ?_ _) | (refine below_via0 ?_ (by assumption)) | (refine Below.alloc ?_ ?_ _) | (refine below_via ?_ (by assumption) ?_))), ?_⟩; simp [go_sem, *]; done) | (refine ⟨(by repeat' (first | exact Below.refl _ _ | assumption | exact And.left (by assumption) | omega | (simp; done) | (simp; omega) | (simp at *; omega) | (refine Below.setCell ?_ ?_ _) | (refine below_alloc0 ?_ _) | (refine Below.drew ?_) | (refine below_drewN ?_ _) | (refine below_via0 ?_ (by assumption)) | (refine Below.alloc ?_ ?_ _) | (refine below_via ?_ (by assumption) ?_))), ?_⟩; simp [go_sem, *]; omega))
        (first | (go_at_call 20; refine (PI.out _).mono ?_; rintro e w5 ⟨rfl, hb5⟩; have L5 := live hb5 w1.heap.size (by first | omega | (simp; done) | (simp; omega)); have M5 := live hb5 w2.heap.size (by first | omega | (simp; done) | (simp; omega))) | (go_at_call 13; refine (PV.out _).mono ?_; rintro e w6 ⟨rfl, hb6⟩; have L6 := live hb6 w1.heap.size (by first | omega | (simp; done) | (simp; omega)); have M6 := live hb6 w2.heap.size (by first | omega | (simp; done) | (simp; omega))))
      have B6 : Below w.heap.size w w6 := And.left (by assumption)
      go_wp2_with fail
      go_ret
      exact ⟨rfl, B6⟩
    · have hz : putW a b s = 0 ∧ putH a b s = 0 := by
        have : putOk a b s = false := by
          rw [← Bool.not_eq_true]
          intro h
          simp only [putOk, Bool.and_eq_true, inB_iff] at h
          exact hok ⟨h.1, h.2.1, h.2.2⟩
        simp [putW, putH, this]
      rw [hz.1, hz.2] at PS ⊢
      clear hz
      rintro e w2 ⟨rfl, hb2⟩
      have L2 := live hb2 w1.heap.size (by first | omega | (simp; done) | (simp; omega))
      have B2 : Below w.heap.size w w2 := (by repeat' (first | exact Below.refl _ _ | assumption | exact And.left (by assumption) | omega | (simp; done) | (simp; omega) | (simp at *; omega) | (refine Below.setCell ?_ ?_ _) | (refine below_alloc0 ?_ _) | (refine Below.drew ?_) | (refine below_drewN ?_ _) | (refine below_via0 ?_ (by assumption)) | (refine Below.alloc ?_ ?_ _) | (refine below_via ?_ (by assumption) ?_)))
      go_wp2_with fail
      go_region_held3 (fun w' => Below w.heap.size w w' ∧ w1.heap.size < w'.heap.size ∧ w2.heap.size < w'.heap.size ∧ w'.cell? ⟨w1.heap.size, 0, none⟩ = some (.int .i64 a) ∧ w'.cell? ⟨w1.heap.size, 1, none⟩ = some (.int .i64 b) ∧ w'.cell? ⟨w2.heap.size, 0, none⟩ = some (.int .i64 0) ∧ w'.cell? ⟨w2.heap.size, 1, none⟩ = some (.int .i64 0))
        (first | assumption | (refine ⟨(by repeat' (first | exact Below.refl _ _ | assumption | exact And.left (by assumption) | omega | (simp; done) | (simp; omega) | (simp at *; omega) | (refine Below.setCell ?_ ?_ _) | (refine below_alloc0 ?_ _) | (refine Below.drew ?_) | (refine below_drewN ?_ _) | (refine below_via0 ?_ (by assumption)) | (refine Below.alloc ?_ ?_ _) | (refine below_via ?_ (by assumption) ?_))), ?_⟩; simp [go_sem, *]; done) | (refine ⟨(by repeat' (first | exact Below.refl _ _ | assumption | exact And.left (by assumption) | omega | (simp; done) | (simp; omega) | (simp at *; omega) | (refine Below.setCell ?_ ?_ _) | (refine below_alloc0 ?_ _) | (refine Below.drew ?_) | (refine below_drewN ?_ _) | (refine below_via0 ?_ (by assumption)) | (refine Below.alloc ?_ ?_ _) | (refine below_via ?_ (by assumption) ?_))), ?_⟩; simp [go_sem, *]; omega))
        (first | (go_at_call 21; refine (PS.out _).mono ?_; rintro e w3 ⟨rfl, hb3⟩; have L3 := live hb3 w1.heap.size (by first | omega | (simp; done) | (simp; omega)); have M3 := live hb3 w2.heap.size (by first | omega | (simp; done) | (simp; omega))))
      have B3 : Below w.heap.size w w3 := And.left (by assumption)
      cases hv : sigB a b with
      | true =>
        have HV := hide hv
        by_cases h0 : 0 ≤ s
        · have h7 : 7 < s := by
            by_cases h7 : s ≤ 7
            · exact absurd ⟨hv, h0, h7⟩ hok
            · omega
          clear hok hv
          go_wp2_with fail
          refine (sigImpl_c _ _ _).mono ?_
          rintro e w4 ⟨rfl, hb4⟩
          rw [HV.out]
          have M4 := live hb4 w2.heap.size (by first | omega | (simp; done) | (simp; omega))
          have B4 : Below w.heap.size w w4 := (by repeat' (first | exact Below.refl _ _ | assumption | exact And.left (by assumption) | omega | (simp; done) | (simp; omega) | (simp at *; omega) | (refine Below.setCell ?_ ?_ _) | (refine below_alloc0 ?_ _) | (refine Below.drew ?_) | (refine below_drewN ?_ _) | (refine below_via0 ?_ (by assumption)) | (refine Below.alloc ?_ ?_ _) | (refine below_via ?_ (by assumption) ?_)))
          go_wp2_with (go_at_call 15; refine (alive_c _).mono ?_; rintro e w5 ⟨rfl, hb5⟩; have B5 := below_via0 B4 hb5)
          go_ret
          exact ⟨rfl, (by repeat' (first | exact Below.refl _ _ | assumption | exact And.left (by assumption) | omega | (simp; done) | (simp; omega) | (simp at *; omega) | (refine Below.setCell ?_ ?_ _) | (refine below_alloc0 ?_ _) | (refine Below.drew ?_) | (refine below_drewN ?_ _) | (refine below_via0 ?_ (by assumption)) | (refine Below.alloc ?_ ?_ _) | (refine below_via ?_ (by assumption) ?_)))⟩
        · clear hok hv
          go_wp2_with fail
          refine (sigImpl_c _ _ _).mono ?_
          rintro e w4 ⟨rfl, hb4⟩
          rw [HV.out]
          have M4 := live hb4 w2.heap.size (by first | omega | (simp; done) | (simp; omega))
          have B4 : Below w.heap.size w w4 := (by repeat' (first | exact Below.refl _ _ | assumption | exact And.left (by assumption) | omega | (simp; done) | (simp; omega) | (simp at *; omega) | (refine Below.setCell ?_ ?_ _) | (refine below_alloc0 ?_ _) | (refine Below.drew ?_) | (refine below_drewN ?_ _) | (refine below_via0 ?_ (by assumption)) | (refine Below.alloc ?_ ?_ _) | (refine below_via ?_ (by assumption) ?_)))
          go_wp2_with (go_at_call 15; refine (alive_c _).mono ?_; rintro e w5 ⟨rfl, hb5⟩; have B5 := below_via0 B4 hb5)
          go_ret
          exact ⟨rfl, (by repeat' (first | exact Below.refl _ _ | assumption | exact And.left (by assumption) | omega | (simp; done) | (simp; omega) | (simp at *; omega) | (refine Below.setCell ?_ ?_ _) | (refine below_alloc0 ?_ _) | (refine Below.drew ?_) | (refine below_drewN ?_ _) | (refine below_via0 ?_ (by assumption)) | (refine Below.alloc ?_ ?_ _) | (refine below_via ?_ (by assumption) ?_)))⟩
      | false =>
        have HV := hide hv
        clear hok hv
        go_wp2_with fail
        refine (sigImpl_c _ _ _).mono ?_
        rintro e w4 ⟨rfl, hb4⟩
        rw [HV.out]
        have M4 := live hb4 w2.heap.size (by first | omega | (simp; done) | (simp; omega))
        have B4 : Below w.heap.size w w4 := (by repeat' (first | exact Below.refl _ _ | assumption | exact And.left (by assumption) | omega | (simp; done) | (simp; omega) | (simp at *; omega) | (refine Below.setCell ?_ ?_ _) | (refine below_alloc0 ?_ _) | (refine Below.drew ?_) | (refine below_drewN ?_ _) | (refine below_via0 ?_ (by assumption)) | (refine Below.alloc ?_ ?_ _) | (refine below_via ?_ (by assumption) ?_)))
        go_wp2_with (go_at_call 15; refine (alive_c _).mono ?_; rintro e w5 ⟨rfl, hb5⟩; have B5 := below_via0 B4 hb5)
        go_ret
        exact ⟨rfl, (by repeat' (first | exact Below.refl _ _ | assumption | exact And.left (by assumption) | omega | (simp; done) | (simp; omega) | (simp at *; omega) | (refine Below.setCell ?_ ?_ _) | (refine below_alloc0 ?_ _) | (refine Below.drew ?_) | (refine below_drewN ?_ _) | (refine below_via0 ?_ (by assumption)) | (refine Below.alloc ?_ ?_ _) | (refine below_via ?_ (by assumption) ?_)))⟩
end Go.Proofs.Ytheblgfgcmkdiaa
