/-
  The law of MaySignal over drawn credentials. No condition.
-/
import Derived.Test.YtheblgfgcmkdiaaProg
import Derived.Test.YtheblgfgcmkdiaaCred
import Derived.Test.YtheblgfgcmkdiaaDraw2
import Derived.Test.YtheblgfgcmkdiaaAlive
import Derived.Test.YtheblgfgcmkdiaaPow
namespace Go.Proofs.Ytheblgfgcmkdiaa
open Go.RowKit
set_option linter.unusedSimpArgs false
set_option linter.unusedVariables false

def GotCreds (w : World) (e : Ending) (w' : World) : Prop := ∃ a0 a1 a2 a3 b0 b1 b2 b3 : Int, e = .returned (.tuple #[.agg #[.int .i64 a0, .int .i64 a1, .int .i64 a2, .int .i64 a3], .agg #[.int .i64 b0, .int .i64 b1, .int .i64 b2, .int .i64 b3]]) ∧ Below w.heap.size w w'
set_option maxHeartbeats 4000000 in
theorem gMaySignal_c (A : Option Addr) (n c : Nat) (w : World) (h : InB w A n c) : Calls Try.prog 25 #[.slice A n c] w (GotCreds w) := by
  have H := hide h
  clear h
  go_enter Try.func25, Try.ntmps25
  go_wp2_with fail
  refine (open_c A n c _ (H.out.below (by repeat' (first | exact Below.refl _ _ | assumption | exact And.left (by assumption) | omega | (simp; done) | (simp; omega) | (simp at *; omega) | (refine Below.setCell ?_ ?_ _) | (refine below_alloc0 ?_ _) | (refine Below.drew ?_) | (refine below_drewN ?_ _) | (refine below_via0 ?_ (by assumption)) | (refine Below.alloc ?_ ?_ _) | (refine below_via ?_ (by assumption) ?_))))).mono ?_
  rintro e w1 ⟨r, rfl, hr, hrd, hb1⟩
  have L1 := live hb1 w.heap.size (by first | omega | (simp; done) | (simp; omega))
  have K1 := live hb1 (w.heap.size + 1) (by first | omega | (simp; done) | (simp; omega))
  have s1 := hb1.size
  simp at hr s1
  go_wp2_with fail
  refine (drawCred_c w1.heap.size r 0 12 _ (by omega) (by omega) (by omega) hrd).mono ?_
  rintro e w2 ⟨a0, a1, a2, a3, rfl, hs, ha⟩
  obtain ⟨z1, z2, z3⟩ := hs.size
  have L2 := liveA ha w.heap.size (by first | omega | (simp; done) | (simp; omega)) (by omega)
  have K2 := liveA ha (w.heap.size + 1) (by first | omega | (simp; done) | (simp; omega)) (by omega)
  have hb2 : Below w.heap.size w w2 := ha.below (below_via (Below.refl _ w |>.alloc (Nat.le_refl _) _ |>.alloc (by simp) _) hb1 (by simp; omega)) (by omega) (by omega)
  go_wp2_with fail
  have hrd2 : Rdr (w2.alloc (.cells #[.int .i64 a0, .int .i64 a1, .int .i64 a2, .int .i64 a3] 41)).drew (w2.heap.size + 1) r 20 :=
    ((hs.1.mono (B' := w2.heap.size) z3 (Nat.le_refl _) (Nat.le_refl _)).below (((Below.refl w2.heap.size w2).alloc (Nat.le_refl _) (.cells #[.int .i64 a0, .int .i64 a1, .int .i64 a2, .int .i64 a3] 41)).drew)).mono (Nat.le_succ _) (by simp) (by omega)
  go_region_with (go_at_call 48; refine (drawCred_c (w2.heap.size + 1) r 20 12 _ (by omega) (by omega) (by omega) hrd2).mono ?_; rintro e w3 ⟨b0, b1, b2, b3, rfl, hs3, ha3⟩; have L3 := liveA ha3 w.heap.size (by first | omega | (simp; done) | (simp; omega)) (by omega); have K3 := liveA ha3 (w.heap.size + 1) (by first | omega | (simp; done) | (simp; omega)) (by omega); have M3 := liveA ha3 w2.heap.size (by first | omega | (simp; done) | (simp; omega)) (by omega))
  all_goals
    have hb3 : Below w.heap.size w w3 := ha3.below ((hb2.alloc hb2.size _).drew) (by omega) (by simp; have := hb2.size; omega)
    clear hrd hrd2 hs hs3 ha ha3 H
    go_wp2_with fail
    refine bodyPost_ret (v := .tuple #[.agg #[.int .i64 a0, .int .i64 a1, .int .i64 a2, .int .i64 a3], .agg #[.int .i64 b0, .int .i64 b1, .int .i64 b2, .int .i64 b3]]) ?_ rfl ⟨a0, a1, a2, a3, b0, b1, b2, b3, rfl, ?_⟩
    · simp [results, Try.results25, go_sem, Act.put, L3, K3, L2, K2, L1, K1]
    · exact ((((((((hb3).setCell (p := ⟨w.heap.size, _, none⟩) (Nat.le_refl _) _).setCell (p := ⟨w.heap.size, _, none⟩) (Nat.le_refl _) _).setCell (p := ⟨w.heap.size, _, none⟩) (Nat.le_refl _) _).setCell (p := ⟨w.heap.size, _, none⟩) (Nat.le_refl _) _).setCell (p := ⟨w.heap.size + 1, _, none⟩) (Nat.le_succ _) _).setCell (p := ⟨w.heap.size + 1, _, none⟩) (Nat.le_succ _) _).setCell (p := ⟨w.heap.size + 1, _, none⟩) (Nat.le_succ _) _).setCell (p := ⟨w.heap.size + 1, _, none⟩) (Nat.le_succ _) _
theorem may_self (r a s g : Int) : mayB r a s g r a s g = credB r a s g := by
  simp only [mayB]
  cases credB r a s g <;> simp
theorem may_root (r a s g : Int) : mayB 0 0 0 0 r a s g = credB r a s g := by
  have : credB 0 0 0 0 = true := by decide
  simp [mayB, this]
set_option maxHeartbeats 4000000 in
theorem fnMaySignal_walk {w : World} (A : Option Addr) (n c : Nat) (h : InB w A n c) :
    Calls Try.prog 7 #[.slice A n c] w fun e w' => e = .returned (.bool true) ∧ Below w.heap.size w w' := by
  have hm := h.2.1
  unfold maxLen at hm
  have hc := h.1
  have H := hide h
  clear h
  by_cases h20 : 1048576 < n
  · go_enter Try.func7, Try.ntmps7
    go_wp2_with fail
    go_ret
    exact ⟨rfl, Below.refl _ _⟩
  · go_enter Try.func7, Try.ntmps7
    go_wp2_with fail
    refine (gMaySignal_c A n c _ (H.out.below (Below.refl _ _))).mono ?_
    rintro e w1 ⟨a0, a1, a2, a3, b0, b1, b2, b3, rfl, hb1⟩
    have s1 := hb1.size
    go_wp2_with fail
    refine (mayImpl_c _ _ _ _ _ _ _ _ _).mono ?_
    rintro e w2 ⟨rfl, hb2⟩
    have s2 := hb2.size
    simp at s2
    have L2 := live hb2 w1.heap.size (by first | omega | (simp; done) | (simp; omega))
    have K2 := live hb2 (w1.heap.size + 1) (by first | omega | (simp; done) | (simp; omega))
    have B2 : Below w.heap.size w w2 := (by repeat' (first | exact Below.refl _ _ | assumption | exact And.left (by assumption) | omega | (simp; done) | (simp; omega) | (simp at *; omega) | (refine Below.setCell ?_ ?_ _) | (refine below_alloc0 ?_ _) | (refine Below.drew ?_) | (refine below_drewN ?_ _) | (refine below_via0 ?_ (by assumption)) | (refine Below.alloc ?_ ?_ _) | (refine below_via ?_ (by assumption) ?_)))
    go_wp2_with fail
    refine (maySpec_c _ _ _ _ _ _ _ _ _).mono ?_
    rintro e w3 ⟨rfl, hb3⟩
    have s3 := hb3.size
    have L3 := live hb3 w1.heap.size (by first | omega | (simp; done) | (simp; omega))
    have K3 := live hb3 (w1.heap.size + 1) (by first | omega | (simp; done) | (simp; omega))
    have B3 : Below w.heap.size w w3 := (by repeat' (first | exact Below.refl _ _ | assumption | exact And.left (by assumption) | omega | (simp; done) | (simp; omega) | (simp at *; omega) | (refine Below.setCell ?_ ?_ _) | (refine below_alloc0 ?_ _) | (refine Below.drew ?_) | (refine below_drewN ?_ _) | (refine below_via0 ?_ (by assumption)) | (refine Below.alloc ?_ ?_ _) | (refine below_via ?_ (by assumption) ?_)))
    have MA := hide (mayImpl_c a0 a1 a2 a3 a0 a1 a2 a3)
    have MB := hide (mayImpl_c 0 0 0 0 b0 b1 b2 b3)
    have CA := hide (credImpl_c a0 a1 a2 a3)
    have CB := hide (credImpl_c b0 b1 b2 b3)
    simp only [may_self, may_root] at MA MB
    cases hA : credB a0 a1 a2 a3 <;> cases hB : credB b0 b1 b2 b3
    all_goals
      rw [hA] at MA CA
      rw [hB] at MB CB
      clear hA hB
      go_wp2_with fail
      go_region_held3 (fun w' => Below w.heap.size w w' ∧ w1.heap.size < w'.heap.size ∧ w1.heap.size + 1 < w'.heap.size ∧ w'.cell? ⟨w1.heap.size, 0, none⟩ = some (.int .i64 a0) ∧ w'.cell? ⟨w1.heap.size + 1, 0, none⟩ = some (.int .i64 b0) ∧ w'.cell? ⟨w1.heap.size, 1, none⟩ = some (.int .i64 a1) ∧ w'.cell? ⟨w1.heap.size + 1, 1, none⟩ = some (.int .i64 b1) ∧ w'.cell? ⟨w1.heap.size, 2, none⟩ = some (.int .i64 a2) ∧ w'.cell? ⟨w1.heap.size + 1, 2, none⟩ = some (.int .i64 b2) ∧ w'.cell? ⟨w1.heap.size, 3, none⟩ = some (.int .i64 a3) ∧ w'.cell? ⟨w1.heap.size + 1, 3, none⟩ = some (.int .i64 b3))
        (first | assumption | (refine ⟨(by repeat' (first | exact Below.refl _ _ | assumption | exact And.left (by assumption) | omega | (simp; done) | (simp; omega) | (simp at *; omega) | (refine Below.setCell ?_ ?_ _) | (refine below_alloc0 ?_ _) | (refine Below.drew ?_) | (refine below_drewN ?_ _) | (refine below_via0 ?_ (by assumption)) | (refine Below.alloc ?_ ?_ _) | (refine below_via ?_ (by assumption) ?_))), ?_⟩; simp [go_sem, *]; done) | (refine ⟨(by repeat' (first | exact Below.refl _ _ | assumption | exact And.left (by assumption) | omega | (simp; done) | (simp; omega) | (simp at *; omega) | (refine Below.setCell ?_ ?_ _) | (refine below_alloc0 ?_ _) | (refine Below.drew ?_) | (refine below_drewN ?_ _) | (refine below_via0 ?_ (by assumption)) | (refine Below.alloc ?_ ?_ _) | (refine below_via ?_ (by assumption) ?_))), ?_⟩; simp [go_sem, *]; omega))
        (first | (go_at_call 26; (with_reducible refine (MA.out _).mono ?_); rintro e w4 ⟨rfl, hb4⟩; have L4 := live hb4 w1.heap.size (by first | omega | (simp; done) | (simp; omega)); have K4 := live hb4 (w1.heap.size + 1) (by first | omega | (simp; done) | (simp; omega))) | (go_at_call 26; (with_reducible refine (MB.out _).mono ?_); rintro e w4 ⟨rfl, hb4⟩; have L4 := live hb4 w1.heap.size (by first | omega | (simp; done) | (simp; omega)); have K4 := live hb4 (w1.heap.size + 1) (by first | omega | (simp; done) | (simp; omega))) | (go_at_call 28; (with_reducible refine (CA.out _).mono ?_); rintro e w4 ⟨rfl, hb4⟩; have L4 := live hb4 w1.heap.size (by first | omega | (simp; done) | (simp; omega)); have K4 := live hb4 (w1.heap.size + 1) (by first | omega | (simp; done) | (simp; omega))) | (go_at_call 28; (with_reducible refine (CB.out _).mono ?_); rintro e w4 ⟨rfl, hb4⟩; have L4 := live hb4 w1.heap.size (by first | omega | (simp; done) | (simp; omega)); have K4 := live hb4 (w1.heap.size + 1) (by first | omega | (simp; done) | (simp; omega))) | (go_at_call 15; refine (alive_c _).mono ?_; rintro e w4 ⟨rfl, hb4⟩; have L4 := live hb4 w1.heap.size (by first | omega | (simp; done) | (simp; omega)); have K4 := live hb4 (w1.heap.size + 1) (by first | omega | (simp; done) | (simp; omega))))
      have B4 : Below w.heap.size w w4 := And.left (by assumption)
      go_wp2_with fail
      go_ret
      exact ⟨rfl, B4⟩
end Go.Proofs.Ytheblgfgcmkdiaa
