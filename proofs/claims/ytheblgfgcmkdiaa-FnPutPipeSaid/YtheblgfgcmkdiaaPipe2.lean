/-
  Contracts of ClosePipe, and the exact laws' walks of PutPipe, TakePipe and ClosePipe. No condition.
-/
import Derived.Test.YtheblgfgcmkdiaaProg
import Derived.Test.YtheblgfgcmkdiaaPipe
namespace Go.Proofs.Ytheblgfgcmkdiaa
open Go.RowKit
set_option linter.unusedSimpArgs false
set_option linter.unusedVariables false

def clS (s : ByteArray) (p r : Int) : ByteArray := if pipeB s p r = true then s else emptyS
def clP (s : ByteArray) (p r : Int) (c : Bool) : Int := if pipeB s p r = true then (if c = true then (if 0 < p then p - 1 else p) else p) else 0
def clR (s : ByteArray) (p r : Int) (c : Bool) : Int := if pipeB s p r = true then (if c = true then r else (if 0 < r then r - 1 else r)) else 0
def clO (s : ByteArray) (p r : Int) (c : Bool) : Bool := if pipeB s p r = true then (if c = true then decide (0 < p) else decide (0 < r)) else false
set_option maxHeartbeats 4000000 in
theorem closeImpl_p (s : ByteArray) (p r : Int) (c : Bool) (hs : s.size ≤ maxLen) (w : World) :
    Calls Try.prog 30 #[.agg #[.string s, .int .i64 p, .int .i64 r], .bool c] w fun e w' => e = .returned (.tuple #[.agg #[.string (clS s p r), .int .i64 (clP s p r c), .int .i64 (clR s p r c)], .bool (clO s p r c)]) ∧ Below w.heap.size w w' := by
  by_cases hv : pipeB s p r = true
  · obtain ⟨q1, q2, q3, q4, q5⟩ := pipeB_yes hv
    cases c with
    | true =>
      by_cases hp : 0 < p
      · have E1 := hide (show clS s p r = s by simp [clS, emptyS, hv, hp])
        have E2 := hide (show clP s p r true = (p - 1) by simp [clP, hv, hp])
        have E3 := hide (show clR s p r true = r by simp [clR, hv, hp])
        have E4 := hide (show clO s p r true = true by simp [clO, hv, hp])
        go_enter Try.func30, Try.ntmps30
        go_wp2_with (go_at_call 17; refine (pipeImpl_c _ _ _ hs _).mono ?_; rintro e w1 ⟨rfl, hb1⟩; have L1 := live hb1 w.heap.size (by first | omega | (simp <;> omega)); have L2 := live hb1 (w.heap.size + 1) (by first | omega | (simp <;> omega)))
        exact bodyPost_ret (v := .tuple #[.agg #[.string (clS s p r), .int .i64 (clP s p r true), .int .i64 (clR s p r true)], .bool (clO s p r true)]) (by simp [results, Try.results30, go_sem, E1.out, E2.out, E3.out, E4.out, L1.1, L1.2, L2.1, L2.2]) rfl ⟨rfl, (by repeat' (first | exact Below.refl _ _ | assumption | exact And.left (by assumption) | omega | (simp; done) | (simp; omega) | (simp at *; omega) | (refine Below.setCell ?_ ?_ _) | (refine below_alloc0 ?_ _) | (refine Below.drew ?_) | (refine below_drewN ?_ _) | (refine below_via0 ?_ (by assumption)) | (refine Below.alloc ?_ ?_ _) | (refine below_via ?_ (by assumption) ?_)))⟩
      · have E1 := hide (show clS s p r = s by simp [clS, emptyS, hv, hp])
        have E2 := hide (show clP s p r true = p by simp [clP, hv, hp])
        have E3 := hide (show clR s p r true = r by simp [clR, hv, hp])
        have E4 := hide (show clO s p r true = false by simp [clO, hv, hp])
        go_enter Try.func30, Try.ntmps30
        go_wp2_with (go_at_call 17; refine (pipeImpl_c _ _ _ hs _).mono ?_; rintro e w1 ⟨rfl, hb1⟩; have L1 := live hb1 w.heap.size (by first | omega | (simp <;> omega)); have L2 := live hb1 (w.heap.size + 1) (by first | omega | (simp <;> omega)))
        exact bodyPost_ret (v := .tuple #[.agg #[.string (clS s p r), .int .i64 (clP s p r true), .int .i64 (clR s p r true)], .bool (clO s p r true)]) (by simp [results, Try.results30, go_sem, E1.out, E2.out, E3.out, E4.out, L1.1, L1.2, L2.1, L2.2]) rfl ⟨rfl, (by repeat' (first | exact Below.refl _ _ | assumption | exact And.left (by assumption) | omega | (simp; done) | (simp; omega) | (simp at *; omega) | (refine Below.setCell ?_ ?_ _) | (refine below_alloc0 ?_ _) | (refine Below.drew ?_) | (refine below_drewN ?_ _) | (refine below_via0 ?_ (by assumption)) | (refine Below.alloc ?_ ?_ _) | (refine below_via ?_ (by assumption) ?_)))⟩
    | false =>
      by_cases hp : 0 < r
      · have E1 := hide (show clS s p r = s by simp [clS, emptyS, hv, hp])
        have E2 := hide (show clP s p r false = p by simp [clP, hv, hp])
        have E3 := hide (show clR s p r false = (r - 1) by simp [clR, hv, hp])
        have E4 := hide (show clO s p r false = true by simp [clO, hv, hp])
        go_enter Try.func30, Try.ntmps30
        go_wp2_with (go_at_call 17; refine (pipeImpl_c _ _ _ hs _).mono ?_; rintro e w1 ⟨rfl, hb1⟩; have L1 := live hb1 w.heap.size (by first | omega | (simp <;> omega)); have L2 := live hb1 (w.heap.size + 1) (by first | omega | (simp <;> omega)))
        exact bodyPost_ret (v := .tuple #[.agg #[.string (clS s p r), .int .i64 (clP s p r false), .int .i64 (clR s p r false)], .bool (clO s p r false)]) (by simp [results, Try.results30, go_sem, E1.out, E2.out, E3.out, E4.out, L1.1, L1.2, L2.1, L2.2]) rfl ⟨rfl, (by repeat' (first | exact Below.refl _ _ | assumption | exact And.left (by assumption) | omega | (simp; done) | (simp; omega) | (simp at *; omega) | (refine Below.setCell ?_ ?_ _) | (refine below_alloc0 ?_ _) | (refine Below.drew ?_) | (refine below_drewN ?_ _) | (refine below_via0 ?_ (by assumption)) | (refine Below.alloc ?_ ?_ _) | (refine below_via ?_ (by assumption) ?_)))⟩
      · have E1 := hide (show clS s p r = s by simp [clS, emptyS, hv, hp])
        have E2 := hide (show clP s p r false = p by simp [clP, hv, hp])
        have E3 := hide (show clR s p r false = r by simp [clR, hv, hp])
        have E4 := hide (show clO s p r false = false by simp [clO, hv, hp])
        go_enter Try.func30, Try.ntmps30
        go_wp2_with (go_at_call 17; refine (pipeImpl_c _ _ _ hs _).mono ?_; rintro e w1 ⟨rfl, hb1⟩; have L1 := live hb1 w.heap.size (by first | omega | (simp <;> omega)); have L2 := live hb1 (w.heap.size + 1) (by first | omega | (simp <;> omega)))
        exact bodyPost_ret (v := .tuple #[.agg #[.string (clS s p r), .int .i64 (clP s p r false), .int .i64 (clR s p r false)], .bool (clO s p r false)]) (by simp [results, Try.results30, go_sem, E1.out, E2.out, E3.out, E4.out, L1.1, L1.2, L2.1, L2.2]) rfl ⟨rfl, (by repeat' (first | exact Below.refl _ _ | assumption | exact And.left (by assumption) | omega | (simp; done) | (simp; omega) | (simp at *; omega) | (refine Below.setCell ?_ ?_ _) | (refine below_alloc0 ?_ _) | (refine Below.drew ?_) | (refine below_drewN ?_ _) | (refine below_via0 ?_ (by assumption)) | (refine Below.alloc ?_ ?_ _) | (refine below_via ?_ (by assumption) ?_)))⟩
  · have E1 := hide (show clS s p r = ⟨#[]⟩ by simp [clS, emptyS, hv])
    have E2 := hide (show clP s p r c = 0 by simp [clP, hv])
    have E3 := hide (show clR s p r c = 0 by simp [clR, hv])
    have E4 := hide (show clO s p r c = false by simp [clO, hv])
    go_enter Try.func30, Try.ntmps30
    go_wp2_with (go_at_call 17; refine (pipeImpl_c _ _ _ hs _).mono ?_; rintro e w1 ⟨rfl, hb1⟩; have L1 := live hb1 w.heap.size (by first | omega | (simp <;> omega)); have L2 := live hb1 (w.heap.size + 1) (by first | omega | (simp <;> omega)))
    exact bodyPost_ret (v := .tuple #[.agg #[.string (clS s p r), .int .i64 (clP s p r c), .int .i64 (clR s p r c)], .bool (clO s p r c)]) (by simp [results, Try.results30, go_sem, E1.out, E2.out, E3.out, E4.out, L1.1, L1.2, L2.1, L2.2]) rfl ⟨rfl, (by repeat' (first | exact Below.refl _ _ | assumption | exact And.left (by assumption) | omega | (simp; done) | (simp; omega) | (simp at *; omega) | (refine Below.setCell ?_ ?_ _) | (refine below_alloc0 ?_ _) | (refine Below.drew ?_) | (refine below_drewN ?_ _) | (refine below_via0 ?_ (by assumption)) | (refine Below.alloc ?_ ?_ _) | (refine below_via ?_ (by assumption) ?_)))⟩
set_option maxHeartbeats 4000000 in
theorem closeSpec_p (s : ByteArray) (p r : Int) (c : Bool) (hs : s.size ≤ maxLen) (w : World) :
    Calls Try.prog 31 #[.agg #[.string s, .int .i64 p, .int .i64 r], .bool c] w fun e w' => e = .returned (.tuple #[.agg #[.string (clS s p r), .int .i64 (clP s p r c), .int .i64 (clR s p r c)], .bool (clO s p r c)]) ∧ Below w.heap.size w w' := by
  by_cases hv : pipeB s p r = true
  · obtain ⟨q1, q2, q3, q4, q5⟩ := pipeB_yes hv
    cases c with
    | true =>
      by_cases hp : 0 < p
      · have E1 := hide (show clS s p r = s by simp [clS, emptyS, hv, hp])
        have E2 := hide (show clP s p r true = (p - 1) by simp [clP, hv, hp])
        have E3 := hide (show clR s p r true = r by simp [clR, hv, hp])
        have E4 := hide (show clO s p r true = true by simp [clO, hv, hp])
        go_enter Try.func31, Try.ntmps31
        go_wp2_with (go_at_call 18; refine (pipeSpec_c _ _ _ hs _).mono ?_; rintro e w1 ⟨rfl, hb1⟩; have L1 := live hb1 w.heap.size (by first | omega | (simp <;> omega)); have L2 := live hb1 (w.heap.size + 1) (by first | omega | (simp <;> omega)))
        exact bodyPost_ret (v := .tuple #[.agg #[.string (clS s p r), .int .i64 (clP s p r true), .int .i64 (clR s p r true)], .bool (clO s p r true)]) (by simp [results, Try.results31, go_sem, E1.out, E2.out, E3.out, E4.out, L1.1, L1.2, L2.1, L2.2]) rfl ⟨rfl, (by repeat' (first | exact Below.refl _ _ | assumption | exact And.left (by assumption) | omega | (simp; done) | (simp; omega) | (simp at *; omega) | (refine Below.setCell ?_ ?_ _) | (refine below_alloc0 ?_ _) | (refine Below.drew ?_) | (refine below_drewN ?_ _) | (refine below_via0 ?_ (by assumption)) | (refine Below.alloc ?_ ?_ _) | (refine below_via ?_ (by assumption) ?_)))⟩
      · have E1 := hide (show clS s p r = s by simp [clS, emptyS, hv, hp])
        have E2 := hide (show clP s p r true = p by simp [clP, hv, hp])
        have E3 := hide (show clR s p r true = r by simp [clR, hv, hp])
        have E4 := hide (show clO s p r true = false by simp [clO, hv, hp])
        go_enter Try.func31, Try.ntmps31
        go_wp2_with (go_at_call 18; refine (pipeSpec_c _ _ _ hs _).mono ?_; rintro e w1 ⟨rfl, hb1⟩; have L1 := live hb1 w.heap.size (by first | omega | (simp <;> omega)); have L2 := live hb1 (w.heap.size + 1) (by first | omega | (simp <;> omega)))
        exact bodyPost_ret (v := .tuple #[.agg #[.string (clS s p r), .int .i64 (clP s p r true), .int .i64 (clR s p r true)], .bool (clO s p r true)]) (by simp [results, Try.results31, go_sem, E1.out, E2.out, E3.out, E4.out, L1.1, L1.2, L2.1, L2.2]) rfl ⟨rfl, (by repeat' (first | exact Below.refl _ _ | assumption | exact And.left (by assumption) | omega | (simp; done) | (simp; omega) | (simp at *; omega) | (refine Below.setCell ?_ ?_ _) | (refine below_alloc0 ?_ _) | (refine Below.drew ?_) | (refine below_drewN ?_ _) | (refine below_via0 ?_ (by assumption)) | (refine Below.alloc ?_ ?_ _) | (refine below_via ?_ (by assumption) ?_)))⟩
    | false =>
      by_cases hp : 0 < r
      · have E1 := hide (show clS s p r = s by simp [clS, emptyS, hv, hp])
        have E2 := hide (show clP s p r false = p by simp [clP, hv, hp])
        have E3 := hide (show clR s p r false = (r - 1) by simp [clR, hv, hp])
        have E4 := hide (show clO s p r false = true by simp [clO, hv, hp])
        go_enter Try.func31, Try.ntmps31
        go_wp2_with (go_at_call 18; refine (pipeSpec_c _ _ _ hs _).mono ?_; rintro e w1 ⟨rfl, hb1⟩; have L1 := live hb1 w.heap.size (by first | omega | (simp <;> omega)); have L2 := live hb1 (w.heap.size + 1) (by first | omega | (simp <;> omega)))
        exact bodyPost_ret (v := .tuple #[.agg #[.string (clS s p r), .int .i64 (clP s p r false), .int .i64 (clR s p r false)], .bool (clO s p r false)]) (by simp [results, Try.results31, go_sem, E1.out, E2.out, E3.out, E4.out, L1.1, L1.2, L2.1, L2.2]) rfl ⟨rfl, (by repeat' (first | exact Below.refl _ _ | assumption | exact And.left (by assumption) | omega | (simp; done) | (simp; omega) | (simp at *; omega) | (refine Below.setCell ?_ ?_ _) | (refine below_alloc0 ?_ _) | (refine Below.drew ?_) | (refine below_drewN ?_ _) | (refine below_via0 ?_ (by assumption)) | (refine Below.alloc ?_ ?_ _) | (refine below_via ?_ (by assumption) ?_)))⟩
      · have E1 := hide (show clS s p r = s by simp [clS, emptyS, hv, hp])
        have E2 := hide (show clP s p r false = p by simp [clP, hv, hp])
        have E3 := hide (show clR s p r false = r by simp [clR, hv, hp])
        have E4 := hide (show clO s p r false = false by simp [clO, hv, hp])
        go_enter Try.func31, Try.ntmps31
        go_wp2_with (go_at_call 18; refine (pipeSpec_c _ _ _ hs _).mono ?_; rintro e w1 ⟨rfl, hb1⟩; have L1 := live hb1 w.heap.size (by first | omega | (simp <;> omega)); have L2 := live hb1 (w.heap.size + 1) (by first | omega | (simp <;> omega)))
        exact bodyPost_ret (v := .tuple #[.agg #[.string (clS s p r), .int .i64 (clP s p r false), .int .i64 (clR s p r false)], .bool (clO s p r false)]) (by simp [results, Try.results31, go_sem, E1.out, E2.out, E3.out, E4.out, L1.1, L1.2, L2.1, L2.2]) rfl ⟨rfl, (by repeat' (first | exact Below.refl _ _ | assumption | exact And.left (by assumption) | omega | (simp; done) | (simp; omega) | (simp at *; omega) | (refine Below.setCell ?_ ?_ _) | (refine below_alloc0 ?_ _) | (refine Below.drew ?_) | (refine below_drewN ?_ _) | (refine below_via0 ?_ (by assumption)) | (refine Below.alloc ?_ ?_ _) | (refine below_via ?_ (by assumption) ?_)))⟩
  · have E1 := hide (show clS s p r = ⟨#[]⟩ by simp [clS, emptyS, hv])
    have E2 := hide (show clP s p r c = 0 by simp [clP, hv])
    have E3 := hide (show clR s p r c = 0 by simp [clR, hv])
    have E4 := hide (show clO s p r c = false by simp [clO, hv])
    go_enter Try.func31, Try.ntmps31
    go_wp2_with (go_at_call 18; refine (pipeSpec_c _ _ _ hs _).mono ?_; rintro e w1 ⟨rfl, hb1⟩; have L1 := live hb1 w.heap.size (by first | omega | (simp <;> omega)); have L2 := live hb1 (w.heap.size + 1) (by first | omega | (simp <;> omega)))
    exact bodyPost_ret (v := .tuple #[.agg #[.string (clS s p r), .int .i64 (clP s p r c), .int .i64 (clR s p r c)], .bool (clO s p r c)]) (by simp [results, Try.results31, go_sem, E1.out, E2.out, E3.out, E4.out, L1.1, L1.2, L2.1, L2.2]) rfl ⟨rfl, (by repeat' (first | exact Below.refl _ _ | assumption | exact And.left (by assumption) | omega | (simp; done) | (simp; omega) | (simp at *; omega) | (refine Below.setCell ?_ ?_ _) | (refine below_alloc0 ?_ _) | (refine Below.drew ?_) | (refine below_drewN ?_ _) | (refine below_via0 ?_ (by assumption)) | (refine Below.alloc ?_ ?_ _) | (refine below_via ?_ (by assumption) ?_)))⟩

end Go.Proofs.Ytheblgfgcmkdiaa
