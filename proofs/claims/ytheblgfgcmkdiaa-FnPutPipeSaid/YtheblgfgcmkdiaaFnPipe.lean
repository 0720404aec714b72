/-
  The laws of the pipes over drawn arguments: draws, PipeValid. No condition.
-/
import Derived.Test.YtheblgfgcmkdiaaProg
import Derived.Test.YtheblgfgcmkdiaaDraw3
import Derived.Test.YtheblgfgcmkdiaaAlive
import Derived.Test.YtheblgfgcmkdiaaPipe2
namespace Go.Proofs.Ytheblgfgcmkdiaa
open Go.RowKit
set_option linter.unusedSimpArgs false
set_option linter.unusedVariables false

/-- A pipe was drawn. -/
def GotPipe (w : World) (e : Ending) (w' : World) : Prop := ∃ (s : ByteArray) (a b : Int), e = .returned (.agg #[.string s, .int .i64 a, .int .i64 b]) ∧ s.size ≤ 21 ∧ -1 ≤ a ∧ a ≤ 10 ∧ -1 ≤ b ∧ b ≤ 10 ∧ Below w.heap.size w w'
theorem gPipeValid_c (A : Option Addr) (n c : Nat) (w : World) (h : InB w A n c) : Calls Try.prog 16 #[.slice A n c] w (GotPipe w) := by
  have H := hide h
  clear h
  go_enter Try.func16, Try.ntmps16
  go_wp2_with fail
  refine (open_c A n c _ (H.out.below (by repeat' (first | exact Below.refl _ _ | assumption | exact And.left (by assumption) | omega | (simp; done) | (simp; omega) | (simp at *; omega) | (refine Below.setCell ?_ ?_ _) | (refine below_alloc0 ?_ _) | (refine Below.drew ?_) | (refine below_drewN ?_ _) | (refine below_via0 ?_ (by assumption)) | (refine Below.alloc ?_ ?_ _) | (refine below_via ?_ (by assumption) ?_))))).mono ?_
  rintro e w1 ⟨r, rfl, hr, hrd, hb1⟩
  go_wp2_with fail
  have L1 := live hb1 w.heap.size (by first | omega | (simp; done) | (simp; omega))
  simp at hr
  refine (drawPipe_c w1.heap.size r 0 2 _ (by omega) (by omega) (by omega) hrd).mono ?_
  rintro e w2 ⟨s, a, b, rfl, hs21, h1, h2, h3, h4, hs, ha⟩
  have L2 := liveA ha w.heap.size (by first | omega | (simp; done) | (simp; omega)) (by omega)
  have hb12 : Below w.heap.size w w2 := ha.below (below_via (Below.refl _ w |>.alloc (Nat.le_refl _) _) hb1 (by simp)) (by omega) (by have := hb1.size; simp at this; omega)
  go_wp2_with fail
  exact bodyPost_ret (v := .agg #[.string s, .int .i64 a, .int .i64 b]) (by simp [results, Try.results16, go_sem, L2, L1]) rfl ⟨s, a, b, rfl, hs21, h1, h2, h3, h4, (by repeat' (first | exact Below.refl _ _ | assumption | exact And.left (by assumption) | omega | (simp; done) | (simp; omega) | (simp at *; omega) | (refine Below.setCell ?_ ?_ _) | (refine below_alloc0 ?_ _) | (refine Below.drew ?_) | (refine below_drewN ?_ _) | (refine below_via0 ?_ (by assumption)) | (refine Below.alloc ?_ ?_ _) | (refine below_via ?_ (by assumption) ?_)))⟩
theorem pipe_long {s : ByteArray} (h : s.size = 21) (p r : Int) : pipeB s p r = false := by
  simp [pipeB, h]
theorem pipe_bare {s : ByteArray} {p r : Int} (h : pipeB s p r = true) : pipeB ⟨#[]⟩ p r = true := by
  simp only [pipeB, Bool.and_eq_true, inB_iff, decide_eq_true_eq] at h ⊢
  exact ⟨by decide, h.2⟩
set_option maxHeartbeats 2000000 in
theorem fnPipeValid_walk {w : World} (A : Option Addr) (n c : Nat) (h : InB w A n c) :
    Calls Try.prog 4 #[.slice A n c] w fun e w' => e = .returned (.bool true) ∧ Below w.heap.size w w' := by
  have hm := h.2.1
  unfold maxLen at hm
  have hc := h.1
  have H := hide h
  clear h
  by_cases h20 : 1048576 < n
  · go_enter Try.func4, Try.ntmps4
    go_wp2_with fail
    go_ret
    exact ⟨rfl, Below.refl _ _⟩
  · go_enter Try.func4, Try.ntmps4
    go_wp2_with fail
    refine (gPipeValid_c A n c _ (H.out.below (Below.refl _ _))).mono ?_
    rintro e w1 ⟨s, a, b, rfl, hs21, q1, q2, q3, q4, hb1⟩
    have HS := hide (show s.size ≤ maxLen by unfold maxLen; omega)
    cases hv : pipeB s a b with
    | true =>
      have H2 := hide (pipe_bare hv)
      have HV := hide hv
      clear hv
      go_wp2_with fail
      refine (pipeImpl_c _ _ _ HS.out _).mono ?_
      rintro e w2 ⟨rfl, hb2⟩
      rw [HV.out]
      have L2 := live hb2 w1.heap.size (by first | omega | (simp; done) | (simp; omega))
      have B2 : Below w.heap.size w w2 := (by repeat' (first | exact Below.refl _ _ | assumption | exact And.left (by assumption) | omega | (simp; done) | (simp; omega) | (simp at *; omega) | (refine Below.setCell ?_ ?_ _) | (refine below_alloc0 ?_ _) | (refine Below.drew ?_) | (refine below_drewN ?_ _) | (refine below_via0 ?_ (by assumption)) | (refine Below.alloc ?_ ?_ _) | (refine below_via ?_ (by assumption) ?_)))
      go_wp2_with fail
      refine (pipeSpec_c _ _ _ HS.out _).mono ?_
      rintro e w3 ⟨rfl, hb3⟩
      rw [HV.out]
      have L3 := live hb3 w1.heap.size (by first | omega | (simp; done) | (simp; omega))
      have B3 : Below w.heap.size w w3 := (by repeat' (first | exact Below.refl _ _ | assumption | exact And.left (by assumption) | omega | (simp; done) | (simp; omega) | (simp at *; omega) | (refine Below.setCell ?_ ?_ _) | (refine below_alloc0 ?_ _) | (refine Below.drew ?_) | (refine below_drewN ?_ _) | (refine below_via0 ?_ (by assumption)) | (refine Below.alloc ?_ ?_ _) | (refine below_via ?_ (by assumption) ?_)))
      go_wp2_with fail
      refine (pipeImpl_c _ _ _ (by decide) _).mono ?_
      rintro e w4 ⟨rfl, hb4⟩
      rw [pipe_long (by decide)]
      have L4 := live hb4 w1.heap.size (by first | omega | (simp; done) | (simp; omega))
      have B4 : Below w.heap.size w w4 := (by repeat' (first | exact Below.refl _ _ | assumption | exact And.left (by assumption) | omega | (simp; done) | (simp; omega) | (simp at *; omega) | (refine Below.setCell ?_ ?_ _) | (refine below_alloc0 ?_ _) | (refine Below.drew ?_) | (refine below_drewN ?_ _) | (refine below_via0 ?_ (by assumption)) | (refine Below.alloc ?_ ?_ _) | (refine below_via ?_ (by assumption) ?_)))
      go_wp2_with fail
      refine (pipeImpl_c _ _ _ (by decide) _).mono ?_
      rintro e w5 ⟨rfl, hb5⟩
      rw [H2.out]
      have B5 : Below w.heap.size w w5 := (by repeat' (first | exact Below.refl _ _ | assumption | exact And.left (by assumption) | omega | (simp; done) | (simp; omega) | (simp at *; omega) | (refine Below.setCell ?_ ?_ _) | (refine below_alloc0 ?_ _) | (refine Below.drew ?_) | (refine below_drewN ?_ _) | (refine below_via0 ?_ (by assumption)) | (refine Below.alloc ?_ ?_ _) | (refine below_via ?_ (by assumption) ?_)))
      go_wp2_with fail
      refine (alive_c _).mono ?_
      rintro e w6 ⟨rfl, hb6⟩
      go_wp2
      go_ret
      exact ⟨rfl, (by repeat' (first | exact Below.refl _ _ | assumption | exact And.left (by assumption) | omega | (simp; done) | (simp; omega) | (simp at *; omega) | (refine Below.setCell ?_ ?_ _) | (refine below_alloc0 ?_ _) | (refine Below.drew ?_) | (refine below_drewN ?_ _) | (refine below_via0 ?_ (by assumption)) | (refine Below.alloc ?_ ?_ _) | (refine below_via ?_ (by assumption) ?_)))⟩
    | false =>
      have HV := hide hv
      clear hv
      go_wp2_with fail
      refine (pipeImpl_c _ _ _ HS.out _).mono ?_
      rintro e w2 ⟨rfl, hb2⟩
      rw [HV.out]
      have L2 := live hb2 w1.heap.size (by first | omega | (simp; done) | (simp; omega))
      have B2 : Below w.heap.size w w2 := (by repeat' (first | exact Below.refl _ _ | assumption | exact And.left (by assumption) | omega | (simp; done) | (simp; omega) | (simp at *; omega) | (refine Below.setCell ?_ ?_ _) | (refine below_alloc0 ?_ _) | (refine Below.drew ?_) | (refine below_drewN ?_ _) | (refine below_via0 ?_ (by assumption)) | (refine Below.alloc ?_ ?_ _) | (refine below_via ?_ (by assumption) ?_)))
      go_wp2_with fail
      refine (pipeSpec_c _ _ _ HS.out _).mono ?_
      rintro e w3 ⟨rfl, hb3⟩
      rw [HV.out]
      have L3 := live hb3 w1.heap.size (by first | omega | (simp; done) | (simp; omega))
      have B3 : Below w.heap.size w w3 := (by repeat' (first | exact Below.refl _ _ | assumption | exact And.left (by assumption) | omega | (simp; done) | (simp; omega) | (simp at *; omega) | (refine Below.setCell ?_ ?_ _) | (refine below_alloc0 ?_ _) | (refine Below.drew ?_) | (refine below_drewN ?_ _) | (refine below_via0 ?_ (by assumption)) | (refine Below.alloc ?_ ?_ _) | (refine below_via ?_ (by assumption) ?_)))
      go_wp2_with fail
      refine (pipeImpl_c _ _ _ (by decide) _).mono ?_
      rintro e w4 ⟨rfl, hb4⟩
      rw [pipe_long (by decide)]
      have B4 : Below w.heap.size w w4 := (by repeat' (first | exact Below.refl _ _ | assumption | exact And.left (by assumption) | omega | (simp; done) | (simp; omega) | (simp at *; omega) | (refine Below.setCell ?_ ?_ _) | (refine below_alloc0 ?_ _) | (refine Below.drew ?_) | (refine below_drewN ?_ _) | (refine below_via0 ?_ (by assumption)) | (refine Below.alloc ?_ ?_ _) | (refine below_via ?_ (by assumption) ?_)))
      go_wp2_with fail
      refine (alive_c _).mono ?_
      rintro e w6 ⟨rfl, hb6⟩
      go_wp2
      go_ret
      exact ⟨rfl, (by repeat' (first | exact Below.refl _ _ | assumption | exact And.left (by assumption) | omega | (simp; done) | (simp; omega) | (simp at *; omega) | (refine Below.setCell ?_ ?_ _) | (refine below_alloc0 ?_ _) | (refine Below.drew ?_) | (refine below_drewN ?_ _) | (refine below_via0 ?_ (by assumption)) | (refine Below.alloc ?_ ?_ _) | (refine below_via ?_ (by assumption) ?_)))⟩
end Go.Proofs.Ytheblgfgcmkdiaa
