/-
  Contracts of ClosePipe, and the exact laws' walks of PutPipe, TakePipe and ClosePipe. No condition.
-/
import Derived.Test.YtpelclnfhnbogaaProg
import Derived.Test.YtpelclnfhnbogaaPipe
namespace Go.Proofs.Ytpelclnfhnbogaa
open Go.RowKit
set_option linter.unusedSimpArgs false
set_option linter.unusedVariables false

def clS (s : ByteArray) (p r : Int) : ByteArray := if pipeB s p r = true then s else emptyS
def clP (s : ByteArray) (p r : Int) (c : Bool) : Int := if pipeB s p r = true then (if c = true then (if 0 < p then p - 1 else p) else p) else 0
def clR (s : ByteArray) (p r : Int) (c : Bool) : Int := if pipeB s p r = true then (if c = true then r else (if 0 < r then r - 1 else r)) else 0
def clO (s : ByteArray) (p r : Int) (c : Bool) : Bool := if pipeB s p r = true then (if c = true then decide (0 < p) else decide (0 < r)) else false
set_option maxHeartbeats 4000000 in
theorem closeImpl_p (s : ByteArray) (p r : Int) (c : Bool) (hs : s.size ≤ maxLen) (w : World) :
    Calls Try.prog 51 #[.agg #[.string s, .int .i64 p, .int .i64 r], .bool c] w fun e w' => e = .returned (.tuple #[.agg #[.string (clS s p r), .int .i64 (clP s p r c), .int .i64 (clR s p r c)], .bool (clO s p r c)]) ∧ Below w.heap.size w w' := by
  by_cases hv : pipeB s p r = true
  · obtain ⟨q1, q2, q3, q4, q5⟩ := pipeB_yes hv
    cases c with
    | true =>
      by_cases hp : 0 < p
      · have E1 := hide (show clS s p r = s by simp [clS, emptyS, hv, hp])
        have E2 := hide (show clP s p r true = (p - 1) by simp [clP, hv, hp])
        have E3 := hide (show clR s p r true = r by simp [clR, hv, hp])
        have E4 := hide (show clO s p r true = true by simp [clO, hv, hp])
        go_enter Try.func51, Try.ntmps51
        go_wp2_with (go_at_call 31; refine (pipeImpl_c _ _ _ hs _).mono ?_; rintro e w1 ⟨rfl, hb1⟩; have L1 := live hb1 w.heap.size (by first | omega | (simp <;> omega)); have L2 := live hb1 (w.heap.size + 1) (by first | omega | (simp <;> omega)))
        exact bodyPost_ret (v := .tuple #[.agg #[.string (clS s p r), .int .i64 (clP s p r true), .int .i64 (clR s p r true)], .bool (clO s p r true)]) (by simp [results, Try.results51, go_sem, E1.out, E2.out, E3.out, E4.out, L1.1, L1.2, L2.1, L2.2]) rfl ⟨rfl, (by repeat' (first | exact Below.refl _ _ | assumption | omega | (simp; done) | (simp; omega) | (simp at *; omega) | (refine Below.setCell ?_ ?_ _) | (refine below_alloc0 ?_ _) | (refine Below.drew ?_) | (refine below_drewN ?_ _) | (refine below_via0 ?_ (by assumption)) | (refine Below.alloc ?_ ?_ _) | (refine below_via ?_ (by assumption) ?_)))⟩
      · have E1 := hide (show clS s p r = s by simp [clS, emptyS, hv, hp])
        have E2 := hide (show clP s p r true = p by simp [clP, hv, hp])
        have E3 := hide (show clR s p r true = r by simp [clR, hv, hp])
        have E4 := hide (show clO s p r true = false by simp [clO, hv, hp])
        go_enter Try.func51, Try.ntmps51
        go_wp2_with (go_at_call 31; refine (pipeImpl_c _ _ _ hs _).mono ?_; rintro e w1 ⟨rfl, hb1⟩; have L1 := live hb1 w.heap.size (by first | omega | (simp <;> omega)); have L2 := live hb1 (w.heap.size + 1) (by first | omega | (simp <;> omega)))
        exact bodyPost_ret (v := .tuple #[.agg #[.string (clS s p r), .int .i64 (clP s p r true), .int .i64 (clR s p r true)], .bool (clO s p r true)]) (by simp [results, Try.results51, go_sem, E1.out, E2.out, E3.out, E4.out, L1.1, L1.2, L2.1, L2.2]) rfl ⟨rfl, (by repeat' (first | exact Below.refl _ _ | assumption | omega | (simp; done) | (simp; omega) | (simp at *; omega) | (refine Below.setCell ?_ ?_ _) | (refine below_alloc0 ?_ _) | (refine Below.drew ?_) | (refine below_drewN ?_ _) | (refine below_via0 ?_ (by assumption)) | (refine Below.alloc ?_ ?_ _) | (refine below_via ?_ (by assumption) ?_)))⟩
    | false =>
      by_cases hp : 0 < r
      · have E1 := hide (show clS s p r = s by simp [clS, emptyS, hv, hp])
        have E2 := hide (show clP s p r false = p by simp [clP, hv, hp])
        have E3 := hide (show clR s p r false = (r - 1) by simp [clR, hv, hp])
        have E4 := hide (show clO s p r false = true by simp [clO, hv, hp])
        go_enter Try.func51, Try.ntmps51
        go_wp2_with (go_at_call 31; refine (pipeImpl_c _ _ _ hs _).mono ?_; rintro e w1 ⟨rfl, hb1⟩; have L1 := live hb1 w.heap.size (by first | omega | (simp <;> omega)); have L2 := live hb1 (w.heap.size + 1) (by first | omega | (simp <;> omega)))
        exact bodyPost_ret (v := .tuple #[.agg #[.string (clS s p r), .int .i64 (clP s p r false), .int .i64 (clR s p r false)], .bool (clO s p r false)]) (by simp [results, Try.results51, go_sem, E1.out, E2.out, E3.out, E4.out, L1.1, L1.2, L2.1, L2.2]) rfl ⟨rfl, (by repeat' (first | exact Below.refl _ _ | assumption | omega | (simp; done) | (simp; omega) | (simp at *; omega) | (refine Below.setCell ?_ ?_ _) | (refine below_alloc0 ?_ _) | (refine Below.drew ?_) | (refine below_drewN ?_ _) | (refine below_via0 ?_ (by assumption)) | (refine Below.alloc ?_ ?_ _) | (refine below_via ?_ (by assumption) ?_)))⟩
      · have E1 := hide (show clS s p r = s by simp [clS, emptyS, hv, hp])
        have E2 := hide (show clP s p r false = p by simp [clP, hv, hp])
        have E3 := hide (show clR s p r false = r by simp [clR, hv, hp])
        have E4 := hide (show clO s p r false = false by simp [clO, hv, hp])
        go_enter Try.func51, Try.ntmps51
        go_wp2_with (go_at_call 31; refine (pipeImpl_c _ _ _ hs _).mono ?_; rintro e w1 ⟨rfl, hb1⟩; have L1 := live hb1 w.heap.size (by first | omega | (simp <;> omega)); have L2 := live hb1 (w.heap.size + 1) (by first | omega | (simp <;> omega)))
        exact bodyPost_ret (v := .tuple #[.agg #[.string (clS s p r), .int .i64 (clP s p r false), .int .i64 (clR s p r false)], .bool (clO s p r false)]) (by simp [results, Try.results51, go_sem, E1.out, E2.out, E3.out, E4.out, L1.1, L1.2, L2.1, L2.2]) rfl ⟨rfl, (by repeat' (first | exact Below.refl _ _ | assumption | omega | (simp; done) | (simp; omega) | (simp at *; omega) | (refine Below.setCell ?_ ?_ _) | (refine below_alloc0 ?_ _) | (refine Below.drew ?_) | (refine below_drewN ?_ _) | (refine below_via0 ?_ (by assumption)) | (refine Below.alloc ?_ ?_ _) | (refine below_via ?_ (by assumption) ?_)))⟩
  · have E1 := hide (show clS s p r = ⟨#[]⟩ by simp [clS, emptyS, hv])
    have E2 := hide (show clP s p r c = 0 by simp [clP, hv])
    have E3 := hide (show clR s p r c = 0 by simp [clR, hv])
    have E4 := hide (show clO s p r c = false by simp [clO, hv])
    go_enter Try.func51, Try.ntmps51
    go_wp2_with (go_at_call 31; refine (pipeImpl_c _ _ _ hs _).mono ?_; rintro e w1 ⟨rfl, hb1⟩; have L1 := live hb1 w.heap.size (by first | omega | (simp <;> omega)); have L2 := live hb1 (w.heap.size + 1) (by first | omega | (simp <;> omega)))
    exact bodyPost_ret (v := .tuple #[.agg #[.string (clS s p r), .int .i64 (clP s p r c), .int .i64 (clR s p r c)], .bool (clO s p r c)]) (by simp [results, Try.results51, go_sem, E1.out, E2.out, E3.out, E4.out, L1.1, L1.2, L2.1, L2.2]) rfl ⟨rfl, (by repeat' (first | exact Below.refl _ _ | assumption | omega | (simp; done) | (simp; omega) | (simp at *; omega) | (refine Below.setCell ?_ ?_ _) | (refine below_alloc0 ?_ _) | (refine Below.drew ?_) | (refine below_drewN ?_ _) | (refine below_via0 ?_ (by assumption)) | (refine Below.alloc ?_ ?_ _) | (refine below_via ?_ (by assumption) ?_)))⟩
set_option maxHeartbeats 4000000 in
theorem closeSpec_p (s : ByteArray) (p r : Int) (c : Bool) (hs : s.size ≤ maxLen) (w : World) :
    Calls Try.prog 50 #[.agg #[.string s, .int .i64 p, .int .i64 r], .bool c] w fun e w' => e = .returned (.tuple #[.agg #[.string (clS s p r), .int .i64 (clP s p r c), .int .i64 (clR s p r c)], .bool (clO s p r c)]) ∧ Below w.heap.size w w' := by
  by_cases hv : pipeB s p r = true
  · obtain ⟨q1, q2, q3, q4, q5⟩ := pipeB_yes hv
    cases c with
    | true =>
      by_cases hp : 0 < p
      · have E1 := hide (show clS s p r = s by simp [clS, emptyS, hv, hp])
        have E2 := hide (show clP s p r true = (p - 1) by simp [clP, hv, hp])
        have E3 := hide (show clR s p r true = r by simp [clR, hv, hp])
        have E4 := hide (show clO s p r true = true by simp [clO, hv, hp])
        go_enter Try.func50, Try.ntmps50
        go_wp2_with (go_at_call 29; refine (pipeSpec_c _ _ _ hs _).mono ?_; rintro e w1 ⟨rfl, hb1⟩; have L1 := live hb1 w.heap.size (by first | omega | (simp <;> omega)); have L2 := live hb1 (w.heap.size + 1) (by first | omega | (simp <;> omega)))
        exact bodyPost_ret (v := .tuple #[.agg #[.string (clS s p r), .int .i64 (clP s p r true), .int .i64 (clR s p r true)], .bool (clO s p r true)]) (by simp [results, Try.results50, go_sem, E1.out, E2.out, E3.out, E4.out, L1.1, L1.2, L2.1, L2.2]) rfl ⟨rfl, (by repeat' (first | exact Below.refl _ _ | assumption | omega | (simp; done) | (simp; omega) | (simp at *; omega) | (refine Below.setCell ?_ ?_ _) | (refine below_alloc0 ?_ _) | (refine Below.drew ?_) | (refine below_drewN ?_ _) | (refine below_via0 ?_ (by assumption)) | (refine Below.alloc ?_ ?_ _) | (refine below_via ?_ (by assumption) ?_)))⟩
      · have E1 := hide (show clS s p r = s by simp [clS, emptyS, hv, hp])
        have E2 := hide (show clP s p r true = p by simp [clP, hv, hp])
        have E3 := hide (show clR s p r true = r by simp [clR, hv, hp])
        have E4 := hide (show clO s p r true = false by simp [clO, hv, hp])
        go_enter Try.func50, Try.ntmps50
        go_wp2_with (go_at_call 29; refine (pipeSpec_c _ _ _ hs _).mono ?_; rintro e w1 ⟨rfl, hb1⟩; have L1 := live hb1 w.heap.size (by first | omega | (simp <;> omega)); have L2 := live hb1 (w.heap.size + 1) (by first | omega | (simp <;> omega)))
        exact bodyPost_ret (v := .tuple #[.agg #[.string (clS s p r), .int .i64 (clP s p r true), .int .i64 (clR s p r true)], .bool (clO s p r true)]) (by simp [results, Try.results50, go_sem, E1.out, E2.out, E3.out, E4.out, L1.1, L1.2, L2.1, L2.2]) rfl ⟨rfl, (by repeat' (first | exact Below.refl _ _ | assumption | omega | (simp; done) | (simp; omega) | (simp at *; omega) | (refine Below.setCell ?_ ?_ _) | (refine below_alloc0 ?_ _) | (refine Below.drew ?_) | (refine below_drewN ?_ _) | (refine below_via0 ?_ (by assumption)) | (refine Below.alloc ?_ ?_ _) | (refine below_via ?_ (by assumption) ?_)))⟩
    | false =>
      by_cases hp : 0 < r
      · have E1 := hide (show clS s p r = s by simp [clS, emptyS, hv, hp])
        have E2 := hide (show clP s p r false = p by simp [clP, hv, hp])
        have E3 := hide (show clR s p r false = (r - 1) by simp [clR, hv, hp])
        have E4 := hide (show clO s p r false = true by simp [clO, hv, hp])
        go_enter Try.func50, Try.ntmps50
        go_wp2_with (go_at_call 29; refine (pipeSpec_c _ _ _ hs _).mono ?_; rintro e w1 ⟨rfl, hb1⟩; have L1 := live hb1 w.heap.size (by first | omega | (simp <;> omega)); have L2 := live hb1 (w.heap.size + 1) (by first | omega | (simp <;> omega)))
        exact bodyPost_ret (v := .tuple #[.agg #[.string (clS s p r), .int .i64 (clP s p r false), .int .i64 (clR s p r false)], .bool (clO s p r false)]) (by simp [results, Try.results50, go_sem, E1.out, E2.out, E3.out, E4.out, L1.1, L1.2, L2.1, L2.2]) rfl ⟨rfl, (by repeat' (first | exact Below.refl _ _ | assumption | omega | (simp; done) | (simp; omega) | (simp at *; omega) | (refine Below.setCell ?_ ?_ _) | (refine below_alloc0 ?_ _) | (refine Below.drew ?_) | (refine below_drewN ?_ _) | (refine below_via0 ?_ (by assumption)) | (refine Below.alloc ?_ ?_ _) | (refine below_via ?_ (by assumption) ?_)))⟩
      · have E1 := hide (show clS s p r = s by simp [clS, emptyS, hv, hp])
        have E2 := hide (show clP s p r false = p by simp [clP, hv, hp])
        have E3 := hide (show clR s p r false = r by simp [clR, hv, hp])
        have E4 := hide (show clO s p r false = false by simp [clO, hv, hp])
        go_enter Try.func50, Try.ntmps50
        go_wp2_with (go_at_call 29; refine (pipeSpec_c _ _ _ hs _).mono ?_; rintro e w1 ⟨rfl, hb1⟩; have L1 := live hb1 w.heap.size (by first | omega | (simp <;> omega)); have L2 := live hb1 (w.heap.size + 1) (by first | omega | (simp <;> omega)))
        exact bodyPost_ret (v := .tuple #[.agg #[.string (clS s p r), .int .i64 (clP s p r false), .int .i64 (clR s p r false)], .bool (clO s p r false)]) (by simp [results, Try.results50, go_sem, E1.out, E2.out, E3.out, E4.out, L1.1, L1.2, L2.1, L2.2]) rfl ⟨rfl, (by repeat' (first | exact Below.refl _ _ | assumption | omega | (simp; done) | (simp; omega) | (simp at *; omega) | (refine Below.setCell ?_ ?_ _) | (refine below_alloc0 ?_ _) | (refine Below.drew ?_) | (refine below_drewN ?_ _) | (refine below_via0 ?_ (by assumption)) | (refine Below.alloc ?_ ?_ _) | (refine below_via ?_ (by assumption) ?_)))⟩
  · have E1 := hide (show clS s p r = ⟨#[]⟩ by simp [clS, emptyS, hv])
    have E2 := hide (show clP s p r c = 0 by simp [clP, hv])
    have E3 := hide (show clR s p r c = 0 by simp [clR, hv])
    have E4 := hide (show clO s p r c = false by simp [clO, hv])
    go_enter Try.func50, Try.ntmps50
    go_wp2_with (go_at_call 29; refine (pipeSpec_c _ _ _ hs _).mono ?_; rintro e w1 ⟨rfl, hb1⟩; have L1 := live hb1 w.heap.size (by first | omega | (simp <;> omega)); have L2 := live hb1 (w.heap.size + 1) (by first | omega | (simp <;> omega)))
    exact bodyPost_ret (v := .tuple #[.agg #[.string (clS s p r), .int .i64 (clP s p r c), .int .i64 (clR s p r c)], .bool (clO s p r c)]) (by simp [results, Try.results50, go_sem, E1.out, E2.out, E3.out, E4.out, L1.1, L1.2, L2.1, L2.2]) rfl ⟨rfl, (by repeat' (first | exact Below.refl _ _ | assumption | omega | (simp; done) | (simp; omega) | (simp at *; omega) | (refine Below.setCell ?_ ?_ _) | (refine below_alloc0 ?_ _) | (refine Below.drew ?_) | (refine below_drewN ?_ _) | (refine below_via0 ?_ (by assumption)) | (refine Below.alloc ?_ ?_ _) | (refine below_via ?_ (by assumption) ?_)))⟩

theorem fnExactPutPipe_walk (s : ByteArray) (hs : s.size ≤ maxLen) (p : Int) (hp : (Lit.int .i64 p).wf = true) (r : Int) (hr : (Lit.int .i64 r).wf = true) (t : ByteArray) (ht : t.size ≤ maxLen) (w : World) :
    Calls Try.prog 13 #[.agg #[.string s, .int .i64 p, .int .i64 r], .string t] w fun e w' => e = .returned (.bool true) ∧ Below w.heap.size w w' := by
  clear hp hr
  by_cases ht' : (1048576 : Int) < t.size
  · have tm := ht
    unfold maxLen at tm
    go_enter Try.func13, Try.ntmps13
    go_wp2
    go_ret
    exact ⟨rfl, (by repeat' (first | exact Below.refl _ _ | assumption | omega | (simp; done) | (simp; omega) | (simp at *; omega) | (refine Below.setCell ?_ ?_ _) | (refine below_alloc0 ?_ _) | (refine Below.drew ?_) | (refine below_drewN ?_ _) | (refine below_via0 ?_ (by assumption)) | (refine Below.alloc ?_ ?_ _) | (refine below_via ?_ (by assumption) ?_)))⟩
  have ht'' : ¬ ((1048576 : Int) < t.size) := ht'
  by_cases h : (s.size : Int) ≤ 1048576
  · have g1 : 0 ≤ 1048576 - (s.size : Int) := by omega
    go_enter Try.func13, Try.ntmps13
    go_wp2_with fail
    refine (szPipe_yes _ _ _ _ h (by omega) _).mono ?_
    rintro e w1 ⟨rfl, hb1⟩
    have V1_0 := live hb1 w.heap.size (by first | omega | (simp <;> omega))
    go_wp2_with fail
    refine (toPipe_c _ _ _ _).mono ?_
    rintro e w2 ⟨rfl, hb2⟩
    have V2_0 := live hb2 w.heap.size (by first | omega | (simp <;> omega))
    go_wp2_with fail
    refine (putSpec_p _ _ _ _ hs ht _).mono ?_
    rintro e w3 ⟨rfl, hb3⟩
    have V3_0 := live hb3 w.heap.size (by first | omega | (simp <;> omega))
    go_wp2_with fail
    refine (toPipe_c _ _ _ _).mono ?_
    rintro e w4 ⟨rfl, hb4⟩
    have V4_0 := live hb4 w.heap.size (by first | omega | (simp <;> omega))
    have V4_1 := live hb4 w3.heap.size (by first | omega | (simp <;> omega))
    go_wp2_with fail
    refine (putImpl_p _ _ _ _ hs ht _).mono ?_
    rintro e w5 ⟨rfl, hb5⟩
    have V5_0 := live hb5 w.heap.size (by first | omega | (simp <;> omega))
    have V5_1 := live hb5 w3.heap.size (by first | omega | (simp <;> omega))
    go_wp2_with fail
    refine (eqPipe_c _ _ _ _).mono ?_
    rintro e w6 ⟨rfl, hb6⟩
    have V6_0 := live hb6 w.heap.size (by first | omega | (simp <;> omega))
    have V6_1 := live hb6 w3.heap.size (by first | omega | (simp <;> omega))
    have V6_2 := live hb6 w5.heap.size (by first | omega | (simp <;> omega))
    go_wp2
    go_ret
    exact ⟨rfl, (by repeat' (first | exact Below.refl _ _ | assumption | omega | (simp; done) | (simp; omega) | (simp at *; omega) | (refine Below.setCell ?_ ?_ _) | (refine below_alloc0 ?_ _) | (refine Below.drew ?_) | (refine below_drewN ?_ _) | (refine below_via0 ?_ (by assumption)) | (refine Below.alloc ?_ ?_ _) | (refine below_via ?_ (by assumption) ?_)))⟩
  · go_enter Try.func13, Try.ntmps13
    go_wp2_with fail
    refine (szPipe_no _ _ _ _ hs (by omega) (by omega) (by omega) _).mono ?_
    rintro e w1 ⟨rfl, hb1⟩
    go_wp2
    go_ret
    exact ⟨rfl, (by repeat' (first | exact Below.refl _ _ | assumption | omega | (simp; done) | (simp; omega) | (simp at *; omega) | (refine Below.setCell ?_ ?_ _) | (refine below_alloc0 ?_ _) | (refine Below.drew ?_) | (refine below_drewN ?_ _) | (refine below_via0 ?_ (by assumption)) | (refine Below.alloc ?_ ?_ _) | (refine below_via ?_ (by assumption) ?_)))⟩

theorem fnExactTakePipe_walk (s : ByteArray) (hs : s.size ≤ maxLen) (p : Int) (hp : (Lit.int .i64 p).wf = true) (r : Int) (hr : (Lit.int .i64 r).wf = true) (m : Int) (hm : (Lit.int .i64 m).wf = true) (w : World) :
    Calls Try.prog 11 #[.agg #[.string s, .int .i64 p, .int .i64 r], .int .i64 m] w fun e w' => e = .returned (.bool true) ∧ Below w.heap.size w w' := by
  clear hp hr
  clear hm
  by_cases h : (s.size : Int) ≤ 1048576
  · have g1 : 0 ≤ 1048576 - (s.size : Int) := by omega
    go_enter Try.func11, Try.ntmps11
    go_wp2_with fail
    refine (szPipe_yes _ _ _ _ h (by omega) _).mono ?_
    rintro e w1 ⟨rfl, hb1⟩
    have V1_0 := live hb1 w.heap.size (by first | omega | (simp <;> omega))
    go_wp2_with fail
    refine (toPipe_c _ _ _ _).mono ?_
    rintro e w2 ⟨rfl, hb2⟩
    have V2_0 := live hb2 w.heap.size (by first | omega | (simp <;> omega))
    go_wp2_with fail
    refine (takeSpec_p _ _ _ _ hs _).mono ?_
    rintro e w3 ⟨rfl, hb3⟩
    have V3_0 := live hb3 w.heap.size (by first | omega | (simp <;> omega))
    go_wp2_with fail
    refine (toPipe_c _ _ _ _).mono ?_
    rintro e w4 ⟨rfl, hb4⟩
    have V4_0 := live hb4 w.heap.size (by first | omega | (simp <;> omega))
    have V4_1 := live hb4 w3.heap.size (by first | omega | (simp <;> omega))
    go_wp2_with fail
    refine (takeImpl_p _ _ _ _ hs _).mono ?_
    rintro e w5 ⟨rfl, hb5⟩
    have V5_0 := live hb5 w.heap.size (by first | omega | (simp <;> omega))
    have V5_1 := live hb5 w3.heap.size (by first | omega | (simp <;> omega))
    go_wp2_with fail
    refine (eqPipe_c _ _ _ _).mono ?_
    rintro e w6 ⟨rfl, hb6⟩
    have V6_0 := live hb6 w.heap.size (by first | omega | (simp <;> omega))
    have V6_1 := live hb6 w3.heap.size (by first | omega | (simp <;> omega))
    have V6_2 := live hb6 w5.heap.size (by first | omega | (simp <;> omega))
    go_wp2
    go_ret
    exact ⟨rfl, (by repeat' (first | exact Below.refl _ _ | assumption | omega | (simp; done) | (simp; omega) | (simp at *; omega) | (refine Below.setCell ?_ ?_ _) | (refine below_alloc0 ?_ _) | (refine Below.drew ?_) | (refine below_drewN ?_ _) | (refine below_via0 ?_ (by assumption)) | (refine Below.alloc ?_ ?_ _) | (refine below_via ?_ (by assumption) ?_)))⟩
  · go_enter Try.func11, Try.ntmps11
    go_wp2_with fail
    refine (szPipe_no _ _ _ _ hs (by omega) (by omega) (by omega) _).mono ?_
    rintro e w1 ⟨rfl, hb1⟩
    go_wp2
    go_ret
    exact ⟨rfl, (by repeat' (first | exact Below.refl _ _ | assumption | omega | (simp; done) | (simp; omega) | (simp at *; omega) | (refine Below.setCell ?_ ?_ _) | (refine below_alloc0 ?_ _) | (refine Below.drew ?_) | (refine below_drewN ?_ _) | (refine below_via0 ?_ (by assumption)) | (refine Below.alloc ?_ ?_ _) | (refine below_via ?_ (by assumption) ?_)))⟩

theorem fnExactClosePipe_walk (s : ByteArray) (hs : s.size ≤ maxLen) (p : Int) (hp : (Lit.int .i64 p).wf = true) (r : Int) (hr : (Lit.int .i64 r).wf = true) (c : Bool) (w : World) :
    Calls Try.prog 14 #[.agg #[.string s, .int .i64 p, .int .i64 r], .bool c] w fun e w' => e = .returned (.bool true) ∧ Below w.heap.size w w' := by
  clear hp hr
  by_cases h : (s.size : Int) ≤ 1048576
  · have g1 : 0 ≤ 1048576 - (s.size : Int) := by omega
    go_enter Try.func14, Try.ntmps14
    go_wp2_with fail
    refine (szPipe_yes _ _ _ _ h (by omega) _).mono ?_
    rintro e w1 ⟨rfl, hb1⟩
    have V1_0 := live hb1 w.heap.size (by first | omega | (simp <;> omega))
    go_wp2_with fail
    refine (toPipe_c _ _ _ _).mono ?_
    rintro e w2 ⟨rfl, hb2⟩
    have V2_0 := live hb2 w.heap.size (by first | omega | (simp <;> omega))
    go_wp2_with fail
    refine (closeSpec_p _ _ _ _ hs _).mono ?_
    rintro e w3 ⟨rfl, hb3⟩
    have V3_0 := live hb3 w.heap.size (by first | omega | (simp <;> omega))
    go_wp2_with fail
    refine (toPipe_c _ _ _ _).mono ?_
    rintro e w4 ⟨rfl, hb4⟩
    have V4_0 := live hb4 w.heap.size (by first | omega | (simp <;> omega))
    have V4_1 := live hb4 w3.heap.size (by first | omega | (simp <;> omega))
    go_wp2_with fail
    refine (closeImpl_p _ _ _ _ hs _).mono ?_
    rintro e w5 ⟨rfl, hb5⟩
    have V5_0 := live hb5 w.heap.size (by first | omega | (simp <;> omega))
    have V5_1 := live hb5 w3.heap.size (by first | omega | (simp <;> omega))
    go_wp2_with fail
    refine (eqPipe_c _ _ _ _).mono ?_
    rintro e w6 ⟨rfl, hb6⟩
    have V6_0 := live hb6 w.heap.size (by first | omega | (simp <;> omega))
    have V6_1 := live hb6 w3.heap.size (by first | omega | (simp <;> omega))
    have V6_2 := live hb6 w5.heap.size (by first | omega | (simp <;> omega))
    go_wp2
    go_ret
    exact ⟨rfl, (by repeat' (first | exact Below.refl _ _ | assumption | omega | (simp; done) | (simp; omega) | (simp at *; omega) | (refine Below.setCell ?_ ?_ _) | (refine below_alloc0 ?_ _) | (refine Below.drew ?_) | (refine below_drewN ?_ _) | (refine below_via0 ?_ (by assumption)) | (refine Below.alloc ?_ ?_ _) | (refine below_via ?_ (by assumption) ?_)))⟩
  · go_enter Try.func14, Try.ntmps14
    go_wp2_with fail
    refine (szPipe_no _ _ _ _ hs (by omega) (by omega) (by omega) _).mono ?_
    rintro e w1 ⟨rfl, hb1⟩
    go_wp2
    go_ret
    exact ⟨rfl, (by repeat' (first | exact Below.refl _ _ | assumption | omega | (simp; done) | (simp; omega) | (simp at *; omega) | (refine Below.setCell ?_ ?_ _) | (refine below_alloc0 ?_ _) | (refine Below.drew ?_) | (refine below_drewN ?_ _) | (refine below_via0 ?_ (by assumption)) | (refine Below.alloc ?_ ?_ _) | (refine below_via ?_ (by assumption) ?_)))⟩
end Go.Proofs.Ytpelclnfhnbogaa
