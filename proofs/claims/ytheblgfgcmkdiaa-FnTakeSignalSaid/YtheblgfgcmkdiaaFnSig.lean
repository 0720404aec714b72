/-
  The laws of the signals over drawn arguments. No condition.
-/
import Derived.Test.YtheblgfgcmkdiaaProg
import Derived.Test.YtheblgfgcmkdiaaDraw2
import Derived.Test.YtheblgfgcmkdiaaAlive
import Derived.Test.YtheblgfgcmkdiaaTake
namespace Go.Proofs.Ytheblgfgcmkdiaa
open Go.RowKit
set_option linter.unusedSimpArgs false
set_option linter.unusedVariables false

/-- A signals struct was drawn. -/
def GotSig (w : World) (e : Ending) (w' : World) : Prop := ∃ a b : Int, e = .returned (.agg #[.int .i64 a, .int .i64 b]) ∧ Below w.heap.size w w'
def GotSigN (w : World) (e : Ending) (w' : World) : Prop := ∃ a b x : Int, e = .returned (.tuple #[.agg #[.int .i64 a, .int .i64 b], .int .i64 x]) ∧ Below w.heap.size w w'
theorem gSignalsValid_c (A : Option Addr) (n c : Nat) (w : World) (h : InB w A n c) : Calls Try.prog 12 #[.slice A n c] w (GotSig w) := by
  have H := hide h
  clear h
  go_enter Try.func12, Try.ntmps12
  go_wp2_with fail
  refine (open_c A n c _ (H.out.below (by repeat' (first | exact Below.refl _ _ | assumption | exact And.left (by assumption) | omega | (simp; done) | (simp; omega) | (simp at *; omega) | (refine Below.setCell ?_ ?_ _) | (refine below_alloc0 ?_ _) | (refine Below.drew ?_) | (refine below_drewN ?_ _) | (refine below_via0 ?_ (by assumption)) | (refine Below.alloc ?_ ?_ _) | (refine below_via ?_ (by assumption) ?_))))).mono ?_
  rintro e w1 ⟨r, rfl, hr, hrd, hb1⟩
  go_wp2_with fail
  have L1 := live hb1 w.heap.size (by first | omega | (simp; done) | (simp; omega))
  simp at hr
  refine (drawSig_c w1.heap.size r 0 2 _ (by omega) (by omega) (by omega) hrd).mono ?_
  rintro e w2 ⟨a, b, rfl, hs, ha⟩
  have L2 := liveA ha w.heap.size (by first | omega | (simp; done) | (simp; omega)) (by omega)
  have hb12 : Below w.heap.size w w2 := ha.below (below_via (Below.refl _ w |>.alloc (Nat.le_refl _) _) hb1 (by simp)) (by omega) (by have := hb1.size; simp at this; omega)
  go_wp2_with fail
  exact bodyPost_ret (v := .agg #[.int .i64 a, .int .i64 b]) (by simp [results, Try.results12, go_sem, L2, L1]) rfl ⟨a, b, rfl, (by repeat' (first | exact Below.refl _ _ | assumption | exact And.left (by assumption) | omega | (simp; done) | (simp; omega) | (simp at *; omega) | (refine Below.setCell ?_ ?_ _) | (refine below_alloc0 ?_ _) | (refine Below.drew ?_) | (refine below_drewN ?_ _) | (refine below_via0 ?_ (by assumption)) | (refine Below.alloc ?_ ?_ _) | (refine below_via ?_ (by assumption) ?_)))⟩
theorem gTakeSignal_c (A : Option Addr) (n c : Nat) (w : World) (h : InB w A n c) : Calls Try.prog 39 #[.slice A n c] w (GotSig w) := by
  have H := hide h
  clear h
  go_enter Try.func39, Try.ntmps39
  go_wp2_with fail
  refine (open_c A n c _ (H.out.below (by repeat' (first | exact Below.refl _ _ | assumption | exact And.left (by assumption) | omega | (simp; done) | (simp; omega) | (simp at *; omega) | (refine Below.setCell ?_ ?_ _) | (refine below_alloc0 ?_ _) | (refine Below.drew ?_) | (refine below_drewN ?_ _) | (refine below_via0 ?_ (by assumption)) | (refine Below.alloc ?_ ?_ _) | (refine below_via ?_ (by assumption) ?_))))).mono ?_
  rintro e w1 ⟨r, rfl, hr, hrd, hb1⟩
  go_wp2_with fail
  have L1 := live hb1 w.heap.size (by first | omega | (simp; done) | (simp; omega))
  simp at hr
  refine (drawSig_c w1.heap.size r 0 9 _ (by omega) (by omega) (by omega) hrd).mono ?_
  rintro e w2 ⟨a, b, rfl, hs, ha⟩
  have L2 := liveA ha w.heap.size (by first | omega | (simp; done) | (simp; omega)) (by omega)
  have hb12 : Below w.heap.size w w2 := ha.below (below_via (Below.refl _ w |>.alloc (Nat.le_refl _) _) hb1 (by simp)) (by omega) (by have := hb1.size; simp at this; omega)
  go_wp2_with fail
  exact bodyPost_ret (v := .agg #[.int .i64 a, .int .i64 b]) (by simp [results, Try.results39, go_sem, L2, L1]) rfl ⟨a, b, rfl, (by repeat' (first | exact Below.refl _ _ | assumption | exact And.left (by assumption) | omega | (simp; done) | (simp; omega) | (simp at *; omega) | (refine Below.setCell ?_ ?_ _) | (refine below_alloc0 ?_ _) | (refine Below.drew ?_) | (refine below_drewN ?_ _) | (refine below_via0 ?_ (by assumption)) | (refine Below.alloc ?_ ?_ _) | (refine below_via ?_ (by assumption) ?_)))⟩
set_option maxHeartbeats 1000000 in
theorem gPutSignal_c (A : Option Addr) (n c : Nat) (w : World) (h : InB w A n c) : Calls Try.prog 19 #[.slice A n c] w (GotSigN w) := by
  have H := hide h
  clear h
  go_enter Try.func19, Try.ntmps19
  go_wp2_with fail
  refine (open_c A n c _ (H.out.below (by repeat' (first | exact Below.refl _ _ | assumption | exact And.left (by assumption) | omega | (simp; done) | (simp; omega) | (simp at *; omega) | (refine Below.setCell ?_ ?_ _) | (refine below_alloc0 ?_ _) | (refine Below.drew ?_) | (refine below_drewN ?_ _) | (refine below_via0 ?_ (by assumption)) | (refine Below.alloc ?_ ?_ _) | (refine below_via ?_ (by assumption) ?_))))).mono ?_
  rintro e w1 ⟨r, rfl, hr, hrd, hb1⟩
  go_wp2_with fail
  have L1 := live hb1 w.heap.size (by first | omega | (simp; done) | (simp; omega))
  simp at hr
  refine (drawSig_c w1.heap.size r 0 9 _ (by omega) (by omega) (by omega) hrd).mono ?_
  rintro e w2 ⟨a, b, rfl, hs, ha⟩
  have L2 := liveA ha w.heap.size (by first | omega | (simp; done) | (simp; omega)) (by omega)
  have hb12 : Below w.heap.size w w2 := ha.below (below_via (Below.refl _ w |>.alloc (Nat.le_refl _) _) hb1 (by simp)) (by omega) (by have := hb1.size; simp at this; omega)
  go_wp2_with fail
  have s2 : w.heap.size + 1 ≤ w2.heap.size := by have h1 := hb1.size; have h2 := ha.1.size; simp at h1; omega
  obtain ⟨z1, z2, z3⟩ := hs.size
  have hs' := (hs.alloc (.cells #[.int .i64 a, .int .i64 b] 24)).drew
  go_region_with (go_at_call 47; refine (pick_s w1 w1.heap.size r _ _ _ (by omega) (by omega) ?_ (by assumption)).mono ?_; omega; rintro e w3 ⟨x, rfl, x0, x1, hs3, ha3⟩; have L3 := liveA ha3 w2.heap.size (by first | omega | (simp; done) | (simp; omega)) (by omega); have M3 := liveA ha3 w.heap.size (by first | omega | (simp; done) | (simp; omega)) (by omega))
  all_goals
    go_wp2_with fail
    have hb13 : Below w.heap.size w w3 := hs3.2.1.below (below_via (Below.refl _ w |>.alloc (Nat.le_refl _) _) hb1 (by simp)) (by omega) (by have := hb1.size; simp at this; omega)
    exact bodyPost_ret (v := .tuple #[.agg #[.int .i64 a, .int .i64 b], .int .i64 _]) (by simp [results, Try.results19, go_sem, Act.put, *]; rfl) rfl ⟨a, b, _, rfl, (by repeat' (first | exact Below.refl _ _ | assumption | exact And.left (by assumption) | omega | (simp; done) | (simp; omega) | (simp at *; omega) | (refine Below.setCell ?_ ?_ _) | (refine below_alloc0 ?_ _) | (refine Below.drew ?_) | (refine below_drewN ?_ _) | (refine below_via0 ?_ (by assumption)) | (refine Below.alloc ?_ ?_ _) | (refine below_via ?_ (by assumption) ?_)))⟩
set_option maxHeartbeats 1000000 in
theorem sig_held (a : Int) : sigB a 128 = false := by simp [sigB, inB]
theorem sig_free {a b : Int} (h : sigB a b = true) : sigB a 0 = true := by
  simp only [sigB, Bool.and_eq_true, inB_iff] at h ⊢; omega
theorem fnSignalsValid_walk {w : World} (A : Option Addr) (n c : Nat) (h : InB w A n c) :
    Calls Try.prog 3 #[.slice A n c] w fun e w' => e = .returned (.bool true) ∧ Below w.heap.size w w' := by
  have hm := h.2.1
  unfold maxLen at hm
  have hc := h.1
  have H := hide h
  clear h
  by_cases h20 : 1048576 < n
  · go_enter Try.func3, Try.ntmps3
    go_wp2_with fail
    go_ret
    exact ⟨rfl, Below.refl _ _⟩
  · have H0 := hide (fun a => sig_held a)
    go_enter Try.func3, Try.ntmps3
    go_wp2_with fail
    refine (gSignalsValid_c A n c _ (H.out.below (Below.refl _ _))).mono ?_
    rintro e w1 ⟨a, b, rfl, hb1⟩
    have H1 := hide (sig_held a)
    cases hv : sigB a b with
    | true =>
      have H2 := hide (sig_free hv)
      go_wp2_with fail
      refine (sigImpl_c _ _ _).mono ?_
      rintro e w2 ⟨rfl, hb2⟩
      have L2 := live hb2 w1.heap.size (by first | omega | (simp; done) | (simp; omega))
      have B2 : Below w.heap.size w w2 := (by repeat' (first | exact Below.refl _ _ | assumption | exact And.left (by assumption) | omega | (simp; done) | (simp; omega) | (simp at *; omega) | (refine Below.setCell ?_ ?_ _) | (refine below_alloc0 ?_ _) | (refine Below.drew ?_) | (refine below_drewN ?_ _) | (refine below_via0 ?_ (by assumption)) | (refine Below.alloc ?_ ?_ _) | (refine below_via ?_ (by assumption) ?_)))
      go_wp2_with fail
      refine (sigSpec_c _ _ _).mono ?_
      rintro e w3 ⟨rfl, hb3⟩
      have L3 := live hb3 w1.heap.size (by first | omega | (simp; done) | (simp; omega))
      have B3 : Below w.heap.size w w3 := (by repeat' (first | exact Below.refl _ _ | assumption | exact And.left (by assumption) | omega | (simp; done) | (simp; omega) | (simp at *; omega) | (refine Below.setCell ?_ ?_ _) | (refine below_alloc0 ?_ _) | (refine Below.drew ?_) | (refine below_drewN ?_ _) | (refine below_via0 ?_ (by assumption)) | (refine Below.alloc ?_ ?_ _) | (refine below_via ?_ (by assumption) ?_)))
      go_wp2_with fail
      refine (sigImpl_c _ _ _).mono ?_
      rintro e w4 ⟨rfl, hb4⟩
      rw [H1.out]
      have L4 := live hb4 w1.heap.size (by first | omega | (simp; done) | (simp; omega))
      have B4 : Below w.heap.size w w4 := (by repeat' (first | exact Below.refl _ _ | assumption | exact And.left (by assumption) | omega | (simp; done) | (simp; omega) | (simp at *; omega) | (refine Below.setCell ?_ ?_ _) | (refine below_alloc0 ?_ _) | (refine Below.drew ?_) | (refine below_drewN ?_ _) | (refine below_via0 ?_ (by assumption)) | (refine Below.alloc ?_ ?_ _) | (refine below_via ?_ (by assumption) ?_)))
      go_wp2_with fail
      refine (sigImpl_c _ _ _).mono ?_
      rintro e w5 ⟨rfl, hb5⟩
      rw [H2.out]
      have B5 : Below w.heap.size w w5 := (by repeat' (first | exact Below.refl _ _ | assumption | exact And.left (by assumption) | omega | (simp; done) | (simp; omega) | (simp at *; omega) | (refine Below.setCell ?_ ?_ _) | (refine below_alloc0 ?_ _) | (refine Below.drew ?_) | (refine below_drewN ?_ _) | (refine below_via0 ?_ (by assumption)) | (refine Below.alloc ?_ ?_ _) | (refine below_via ?_ (by assumption) ?_)))
      go_wp2_with fail
      refine (alive_c _).mono ?_
      rintro e w6 ⟨rfl, hb6⟩
      go_wp2
      go_ret
      exact ⟨rfl, (by repeat' (first | exact Below.refl _ _ | assumption | exact And.left (by assumption) | omega | (simp; done) | (simp; omega) | (simp at *; omega) | (refine Below.setCell ?_ ?_ _) | (refine below_alloc0 ?_ _) | (refine Below.drew ?_) | (refine below_drewN ?_ _) | (refine below_via0 ?_ (by assumption)) | (refine Below.alloc ?_ ?_ _) | (refine below_via ?_ (by assumption) ?_)))⟩
    | false =>
      go_wp2_with fail
      refine (sigImpl_c _ _ _).mono ?_
      rintro e w2 ⟨rfl, hb2⟩
      have L2 := live hb2 w1.heap.size (by first | omega | (simp; done) | (simp; omega))
      have B2 : Below w.heap.size w w2 := (by repeat' (first | exact Below.refl _ _ | assumption | exact And.left (by assumption) | omega | (simp; done) | (simp; omega) | (simp at *; omega) | (refine Below.setCell ?_ ?_ _) | (refine below_alloc0 ?_ _) | (refine Below.drew ?_) | (refine below_drewN ?_ _) | (refine below_via0 ?_ (by assumption)) | (refine Below.alloc ?_ ?_ _) | (refine below_via ?_ (by assumption) ?_)))
      go_wp2_with fail
      refine (sigSpec_c _ _ _).mono ?_
      rintro e w3 ⟨rfl, hb3⟩
      have L3 := live hb3 w1.heap.size (by first | omega | (simp; done) | (simp; omega))
      have B3 : Below w.heap.size w w3 := (by repeat' (first | exact Below.refl _ _ | assumption | exact And.left (by assumption) | omega | (simp; done) | (simp; omega) | (simp at *; omega) | (refine Below.setCell ?_ ?_ _) | (refine below_alloc0 ?_ _) | (refine Below.drew ?_) | (refine below_drewN ?_ _) | (refine below_via0 ?_ (by assumption)) | (refine Below.alloc ?_ ?_ _) | (refine below_via ?_ (by assumption) ?_)))
      go_wp2_with fail
      refine (sigImpl_c _ _ _).mono ?_
      rintro e w4 ⟨rfl, hb4⟩
      rw [H1.out]
      have B4 : Below w.heap.size w w4 := (by repeat' (first | exact Below.refl _ _ | assumption | exact And.left (by assumption) | omega | (simp; done) | (simp; omega) | (simp at *; omega) | (refine Below.setCell ?_ ?_ _) | (refine below_alloc0 ?_ _) | (refine Below.drew ?_) | (refine below_drewN ?_ _) | (refine below_via0 ?_ (by assumption)) | (refine Below.alloc ?_ ?_ _) | (refine below_via ?_ (by assumption) ?_)))
      go_wp2_with fail
      refine (alive_c _).mono ?_
      rintro e w6 ⟨rfl, hb6⟩
      go_wp2
      go_ret
      exact ⟨rfl, (by repeat' (first | exact Below.refl _ _ | assumption | exact And.left (by assumption) | omega | (simp; done) | (simp; omega) | (simp at *; omega) | (refine Below.setCell ?_ ?_ _) | (refine below_alloc0 ?_ _) | (refine Below.drew ?_) | (refine below_drewN ?_ _) | (refine below_via0 ?_ (by assumption)) | (refine Below.alloc ?_ ?_ _) | (refine below_via ?_ (by assumption) ?_)))⟩
end Go.Proofs.Ytheblgfgcmkdiaa
