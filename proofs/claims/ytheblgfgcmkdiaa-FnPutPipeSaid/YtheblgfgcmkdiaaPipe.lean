/-
  Contracts of the functions of the pipes, and their exact laws' walks. No condition.
-/
import Derived.Test.YtheblgfgcmkdiaaProg
import Derived.Test.YtheblgfgcmkdiaaSig
namespace Go.Proofs.Ytheblgfgcmkdiaa
open Go.RowKit
set_option linter.unusedSimpArgs false
set_option linter.unusedVariables false

def pipeB (s : ByteArray) (p r : Int) : Bool := decide (s.size ≤ 20) && (inB p 0 9 && inB r 0 9)
theorem pipeB_yes {s : ByteArray} {p r : Int} (h : pipeB s p r = true) : s.size ≤ 20 ∧ 0 ≤ p ∧ p ≤ 9 ∧ 0 ≤ r ∧ r ≤ 9 := by
  simp only [pipeB, Bool.and_eq_true, inB_iff, decide_eq_true_eq] at h; omega
theorem pipeImpl_c (s : ByteArray) (p r : Int) (hs : s.size ≤ maxLen) (w : World) :
    Calls Try.prog 17 #[.agg #[.string s, .int .i64 p, .int .i64 r]] w fun e w' => e = .returned (.bool (pipeB s p r)) ∧ Below w.heap.size w w' := by
  unfold maxLen at hs
  by_cases h : s.size ≤ 20
  all_goals
    go_enter Try.func17, Try.ntmps17
    go_wp2_with (go_at_call 43; refine (within_c _ _ _ _).mono ?_; rintro e w' ⟨rfl, rfl⟩)
    all_goals
      go_ret
      exact ⟨by simp [pipeB, *], (by repeat' (first | exact Below.refl _ _ | assumption | exact And.left (by assumption) | omega | (simp; done) | (simp; omega) | (simp at *; omega) | (refine Below.setCell ?_ ?_ _) | (refine below_alloc0 ?_ _) | (refine Below.drew ?_) | (refine below_drewN ?_ _) | (refine below_via0 ?_ (by assumption)) | (refine Below.alloc ?_ ?_ _) | (refine below_via ?_ (by assumption) ?_)))⟩
theorem pipeSpec_c (s : ByteArray) (p r : Int) (hs : s.size ≤ maxLen) (w : World) :
    Calls Try.prog 18 #[.agg #[.string s, .int .i64 p, .int .i64 r]] w fun e w' => e = .returned (.bool (pipeB s p r)) ∧ Below w.heap.size w w' := by
  unfold maxLen at hs
  by_cases h : s.size ≤ 20
  all_goals
    go_enter Try.func18, Try.ntmps18
    go_wp2_with (go_at_call 44; refine (l1In_c _ _ _ _).mono ?_; rintro e w' ⟨rfl, rfl⟩)
    all_goals
      go_ret
      exact ⟨by simp [pipeB, *], (by repeat' (first | exact Below.refl _ _ | assumption | exact And.left (by assumption) | omega | (simp; done) | (simp; omega) | (simp at *; omega) | (refine Below.setCell ?_ ?_ _) | (refine below_alloc0 ?_ _) | (refine Below.drew ?_) | (refine below_drewN ?_ _) | (refine below_via0 ?_ (by assumption)) | (refine Below.alloc ?_ ?_ _) | (refine below_via ?_ (by assumption) ?_)))⟩
def emptyS : ByteArray := ⟨#[]⟩
def putT (s t : ByteArray) : ByteArray := if t.size ≤ 20 - s.size then s ++ t else s ++ t.extract 0 (20 - s.size)
def putM (s t : ByteArray) : Int := if t.size ≤ 20 - s.size then t.size else 20 - s.size
def ppS (s t : ByteArray) (p r : Int) : ByteArray := if pipeB s p r = true then (if (p == 0) = true then s else if (r == 0) = true then s else putT s t) else emptyS
def ppP (s : ByteArray) (p r : Int) : Int := if pipeB s p r = true then p else 0
def ppR (s : ByteArray) (p r : Int) : Int := if pipeB s p r = true then r else 0
def ppN (s t : ByteArray) (p r : Int) : Int := if pipeB s p r = true then (if (p == 0) = true then -1 else if (r == 0) = true then -1 else putM s t) else -1
set_option maxHeartbeats 4000000 in
theorem putImpl_p (s t : ByteArray) (p r : Int) (hs : s.size ≤ maxLen) (ht : t.size ≤ maxLen) (w : World) :
    Calls Try.prog 37 #[.agg #[.string s, .int .i64 p, .int .i64 r], .string t] w fun e w' => e = .returned (.tuple #[.agg #[.string (ppS s t p r), .int .i64 (ppP s p r), .int .i64 (ppR s p r)], .int .i64 (ppN s t p r)]) ∧ Below w.heap.size w w' := by
  have hm := hs; have tm := ht
  unfold maxLen at hm tm
  by_cases hv : pipeB s p r = true
  · obtain ⟨q1, q2, q3, q4, q5⟩ := pipeB_yes hv
    by_cases hp : p = 0
    · have e1 : (p == 0) = true := by simpa using hp
      have Hp := hide hp
      clear hp
      by_cases hr : r = 0
      · have e2 : (r == 0) = true := by simpa using hr
        have Hr := hide hr
        clear hr
        go_enter Try.func37, Try.ntmps37
        go_wp2_with (go_at_call 17; refine (pipeImpl_c _ _ _ hs _).mono ?_; rintro e w1 ⟨rfl, hb1⟩; have L1 := live hb1 w.heap.size (by first | omega | (simp <;> omega)); have L2 := live hb1 (w.heap.size + 1) (by first | omega | (simp <;> omega)))
        exact bodyPost_ret (v := .tuple #[.agg #[.string (ppS s t p r), .int .i64 (ppP s p r), .int .i64 (ppR s p r)], .int .i64 (ppN s t p r)]) (by simp [results, Try.results37, go_sem, ppS, ppP, ppR, ppN, hv, e1, e2, L1.1, L1.2, L2.1, L2.2]) rfl ⟨rfl, (by repeat' (first | exact Below.refl _ _ | assumption | exact And.left (by assumption) | omega | (simp; done) | (simp; omega) | (simp at *; omega) | (refine Below.setCell ?_ ?_ _) | (refine below_alloc0 ?_ _) | (refine Below.drew ?_) | (refine below_drewN ?_ _) | (refine below_via0 ?_ (by assumption)) | (refine Below.alloc ?_ ?_ _) | (refine below_via ?_ (by assumption) ?_)))⟩
      · have e2 : (r == 0) = false := by simpa using hr
        go_enter Try.func37, Try.ntmps37
        go_wp2_with (go_at_call 17; refine (pipeImpl_c _ _ _ hs _).mono ?_; rintro e w1 ⟨rfl, hb1⟩; have L1 := live hb1 w.heap.size (by first | omega | (simp <;> omega)); have L2 := live hb1 (w.heap.size + 1) (by first | omega | (simp <;> omega)))
        exact bodyPost_ret (v := .tuple #[.agg #[.string (ppS s t p r), .int .i64 (ppP s p r), .int .i64 (ppR s p r)], .int .i64 (ppN s t p r)]) (by simp [results, Try.results37, go_sem, ppS, ppP, ppR, ppN, hv, e1, e2, L1.1, L1.2, L2.1, L2.2]) rfl ⟨rfl, (by repeat' (first | exact Below.refl _ _ | assumption | exact And.left (by assumption) | omega | (simp; done) | (simp; omega) | (simp at *; omega) | (refine Below.setCell ?_ ?_ _) | (refine below_alloc0 ?_ _) | (refine Below.drew ?_) | (refine below_drewN ?_ _) | (refine below_via0 ?_ (by assumption)) | (refine Below.alloc ?_ ?_ _) | (refine below_via ?_ (by assumption) ?_)))⟩
    · have e1 : (p == 0) = false := by simpa using hp
      by_cases hr : r = 0
      · have e2 : (r == 0) = true := by simpa using hr
        have Hr := hide hr
        clear hr
        go_enter Try.func37, Try.ntmps37
        go_wp2_with (go_at_call 17; refine (pipeImpl_c _ _ _ hs _).mono ?_; rintro e w1 ⟨rfl, hb1⟩; have L1 := live hb1 w.heap.size (by first | omega | (simp <;> omega)); have L2 := live hb1 (w.heap.size + 1) (by first | omega | (simp <;> omega)))
        exact bodyPost_ret (v := .tuple #[.agg #[.string (ppS s t p r), .int .i64 (ppP s p r), .int .i64 (ppR s p r)], .int .i64 (ppN s t p r)]) (by simp [results, Try.results37, go_sem, ppS, ppP, ppR, ppN, hv, e1, e2, L1.1, L1.2, L2.1, L2.2]) rfl ⟨rfl, (by repeat' (first | exact Below.refl _ _ | assumption | exact And.left (by assumption) | omega | (simp; done) | (simp; omega) | (simp at *; omega) | (refine Below.setCell ?_ ?_ _) | (refine below_alloc0 ?_ _) | (refine Below.drew ?_) | (refine below_drewN ?_ _) | (refine below_via0 ?_ (by assumption)) | (refine Below.alloc ?_ ?_ _) | (refine below_via ?_ (by assumption) ?_)))⟩
      · have e2 : (r == 0) = false := by simpa using hr
        by_cases hn : t.size ≤ 20 - s.size
        · go_enter Try.func37, Try.ntmps37
          go_wp2_with (go_at_call 17; refine (pipeImpl_c _ _ _ hs _).mono ?_; rintro e w1 ⟨rfl, hb1⟩; have L1 := live hb1 w.heap.size (by first | omega | (simp <;> omega)); have L2 := live hb1 (w.heap.size + 1) (by first | omega | (simp <;> omega)))
          go_region
          go_wp2
          exact bodyPost_ret (v := .tuple #[.agg #[.string (ppS s t p r), .int .i64 (ppP s p r), .int .i64 (ppR s p r)], .int .i64 (ppN s t p r)]) (by simp [results, Try.results37, go_sem, ppS, ppP, ppR, ppN, hv, e1, e2, putT, putM, hn, L1.1, L1.2, L2.1, L2.2]) rfl ⟨rfl, (by repeat' (first | exact Below.refl _ _ | assumption | exact And.left (by assumption) | omega | (simp; done) | (simp; omega) | (simp at *; omega) | (refine Below.setCell ?_ ?_ _) | (refine below_alloc0 ?_ _) | (refine Below.drew ?_) | (refine below_drewN ?_ _) | (refine below_via0 ?_ (by assumption)) | (refine Below.alloc ?_ ?_ _) | (refine below_via ?_ (by assumption) ?_)))⟩
        · go_enter Try.func37, Try.ntmps37
          go_wp2_with (go_at_call 17; refine (pipeImpl_c _ _ _ hs _).mono ?_; rintro e w1 ⟨rfl, hb1⟩; have L1 := live hb1 w.heap.size (by first | omega | (simp <;> omega)); have L2 := live hb1 (w.heap.size + 1) (by first | omega | (simp <;> omega)))
          go_region
          go_wp2
          exact bodyPost_ret (v := .tuple #[.agg #[.string (ppS s t p r), .int .i64 (ppP s p r), .int .i64 (ppR s p r)], .int .i64 (ppN s t p r)]) (by simp [results, Try.results37, go_sem, ppS, ppP, ppR, ppN, hv, e1, e2, putT, putM, hn, L1.1, L1.2, L2.1, L2.2]) rfl ⟨rfl, (by repeat' (first | exact Below.refl _ _ | assumption | exact And.left (by assumption) | omega | (simp; done) | (simp; omega) | (simp at *; omega) | (refine Below.setCell ?_ ?_ _) | (refine below_alloc0 ?_ _) | (refine Below.drew ?_) | (refine below_drewN ?_ _) | (refine below_via0 ?_ (by assumption)) | (refine Below.alloc ?_ ?_ _) | (refine below_via ?_ (by assumption) ?_)))⟩
  · go_enter Try.func37, Try.ntmps37
    go_wp2_with (go_at_call 17; refine (pipeImpl_c _ _ _ hs _).mono ?_; rintro e w1 ⟨rfl, hb1⟩; have L1 := live hb1 w.heap.size (by first | omega | (simp <;> omega)); have L2 := live hb1 (w.heap.size + 1) (by first | omega | (simp <;> omega)))
    exact bodyPost_ret (v := .tuple #[.agg #[.string (ppS s t p r), .int .i64 (ppP s p r), .int .i64 (ppR s p r)], .int .i64 (ppN s t p r)]) (by simp [results, Try.results37, go_sem, ppS, ppP, ppR, ppN, emptyS, hv, L1.1, L1.2, L2.1, L2.2]) rfl ⟨rfl, (by repeat' (first | exact Below.refl _ _ | assumption | exact And.left (by assumption) | omega | (simp; done) | (simp; omega) | (simp at *; omega) | (refine Below.setCell ?_ ?_ _) | (refine below_alloc0 ?_ _) | (refine Below.drew ?_) | (refine below_drewN ?_ _) | (refine below_via0 ?_ (by assumption)) | (refine Below.alloc ?_ ?_ _) | (refine below_via ?_ (by assumption) ?_)))⟩
set_option maxHeartbeats 4000000 in
theorem putSpec_p (s t : ByteArray) (p r : Int) (hs : s.size ≤ maxLen) (ht : t.size ≤ maxLen) (w : World) :
    Calls Try.prog 38 #[.agg #[.string s, .int .i64 p, .int .i64 r], .string t] w fun e w' => e = .returned (.tuple #[.agg #[.string (ppS s t p r), .int .i64 (ppP s p r), .int .i64 (ppR s p r)], .int .i64 (ppN s t p r)]) ∧ Below w.heap.size w w' := by
  have hm := hs; have tm := ht
  unfold maxLen at hm tm
  by_cases hv : pipeB s p r = true
  · obtain ⟨q1, q2, q3, q4, q5⟩ := pipeB_yes hv
    by_cases hp : p = 0
    · have e1 : (p == 0) = true := by simpa using hp
      have Hp := hide hp
      clear hp
      by_cases hr : r = 0
      · have e2 : (r == 0) = true := by simpa using hr
        have Hr := hide hr
        clear hr
        go_enter Try.func38, Try.ntmps38
        go_wp2_with (go_at_call 18; refine (pipeSpec_c _ _ _ hs _).mono ?_; rintro e w1 ⟨rfl, hb1⟩; have L1 := live hb1 w.heap.size (by first | omega | (simp <;> omega)); have L2 := live hb1 (w.heap.size + 1) (by first | omega | (simp <;> omega)))
        exact bodyPost_ret (v := .tuple #[.agg #[.string (ppS s t p r), .int .i64 (ppP s p r), .int .i64 (ppR s p r)], .int .i64 (ppN s t p r)]) (by simp [results, Try.results38, go_sem, ppS, ppP, ppR, ppN, hv, e1, e2, L1.1, L1.2, L2.1, L2.2]) rfl ⟨rfl, (by repeat' (first | exact Below.refl _ _ | assumption | exact And.left (by assumption) | omega | (simp; done) | (simp; omega) | (simp at *; omega) | (refine Below.setCell ?_ ?_ _) | (refine below_alloc0 ?_ _) | (refine Below.drew ?_) | (refine below_drewN ?_ _) | (refine below_via0 ?_ (by assumption)) | (refine Below.alloc ?_ ?_ _) | (refine below_via ?_ (by assumption) ?_)))⟩
      · have e2 : (r == 0) = false := by simpa using hr
        go_enter Try.func38, Try.ntmps38
        go_wp2_with (go_at_call 18; refine (pipeSpec_c _ _ _ hs _).mono ?_; rintro e w1 ⟨rfl, hb1⟩; have L1 := live hb1 w.heap.size (by first | omega | (simp <;> omega)); have L2 := live hb1 (w.heap.size + 1) (by first | omega | (simp <;> omega)))
        exact bodyPost_ret (v := .tuple #[.agg #[.string (ppS s t p r), .int .i64 (ppP s p r), .int .i64 (ppR s p r)], .int .i64 (ppN s t p r)]) (by simp [results, Try.results38, go_sem, ppS, ppP, ppR, ppN, hv, e1, e2, L1.1, L1.2, L2.1, L2.2]) rfl ⟨rfl, (by repeat' (first | exact Below.refl _ _ | assumption | exact And.left (by assumption) | omega | (simp; done) | (simp; omega) | (simp at *; omega) | (refine Below.setCell ?_ ?_ _) | (refine below_alloc0 ?_ _) | (refine Below.drew ?_) | (refine below_drewN ?_ _) | (refine below_via0 ?_ (by assumption)) | (refine Below.alloc ?_ ?_ _) | (refine below_via ?_ (by assumption) ?_)))⟩
    · have e1 : (p == 0) = false := by simpa using hp
      by_cases hr : r = 0
      · have e2 : (r == 0) = true := by simpa using hr
        have Hr := hide hr
        clear hr
        go_enter Try.func38, Try.ntmps38
        go_wp2_with (go_at_call 18; refine (pipeSpec_c _ _ _ hs _).mono ?_; rintro e w1 ⟨rfl, hb1⟩; have L1 := live hb1 w.heap.size (by first | omega | (simp <;> omega)); have L2 := live hb1 (w.heap.size + 1) (by first | omega | (simp <;> omega)))
        exact bodyPost_ret (v := .tuple #[.agg #[.string (ppS s t p r), .int .i64 (ppP s p r), .int .i64 (ppR s p r)], .int .i64 (ppN s t p r)]) (by simp [results, Try.results38, go_sem, ppS, ppP, ppR, ppN, hv, e1, e2, L1.1, L1.2, L2.1, L2.2]) rfl ⟨rfl, (by repeat' (first | exact Below.refl _ _ | assumption | exact And.left (by assumption) | omega | (simp; done) | (simp; omega) | (simp at *; omega) | (refine Below.setCell ?_ ?_ _) | (refine below_alloc0 ?_ _) | (refine Below.drew ?_) | (refine below_drewN ?_ _) | (refine below_via0 ?_ (by assumption)) | (refine Below.alloc ?_ ?_ _) | (refine below_via ?_ (by assumption) ?_)))⟩
      · have e2 : (r == 0) = false := by simpa using hr
        by_cases hn : t.size ≤ 20 - s.size
        · go_enter Try.func38, Try.ntmps38
          go_wp2_with (go_at_call 18; refine (pipeSpec_c _ _ _ hs _).mono ?_; rintro e w1 ⟨rfl, hb1⟩; have L1 := live hb1 w.heap.size (by first | omega | (simp <;> omega)); have L2 := live hb1 (w.heap.size + 1) (by first | omega | (simp <;> omega)))
          go_region
          go_wp2
          exact bodyPost_ret (v := .tuple #[.agg #[.string (ppS s t p r), .int .i64 (ppP s p r), .int .i64 (ppR s p r)], .int .i64 (ppN s t p r)]) (by simp [results, Try.results38, go_sem, ppS, ppP, ppR, ppN, hv, e1, e2, putT, putM, hn, L1.1, L1.2, L2.1, L2.2]) rfl ⟨rfl, (by repeat' (first | exact Below.refl _ _ | assumption | exact And.left (by assumption) | omega | (simp; done) | (simp; omega) | (simp at *; omega) | (refine Below.setCell ?_ ?_ _) | (refine below_alloc0 ?_ _) | (refine Below.drew ?_) | (refine below_drewN ?_ _) | (refine below_via0 ?_ (by assumption)) | (refine Below.alloc ?_ ?_ _) | (refine below_via ?_ (by assumption) ?_)))⟩
        · go_enter Try.func38, Try.ntmps38
          go_wp2_with (go_at_call 18; refine (pipeSpec_c _ _ _ hs _).mono ?_; rintro e w1 ⟨rfl, hb1⟩; have L1 := live hb1 w.heap.size (by first | omega | (simp <;> omega)); have L2 := live hb1 (w.heap.size + 1) (by first | omega | (simp <;> omega)))
          go_region
          go_wp2
          exact bodyPost_ret (v := .tuple #[.agg #[.string (ppS s t p r), .int .i64 (ppP s p r), .int .i64 (ppR s p r)], .int .i64 (ppN s t p r)]) (by simp [results, Try.results38, go_sem, ppS, ppP, ppR, ppN, hv, e1, e2, putT, putM, hn, L1.1, L1.2, L2.1, L2.2]) rfl ⟨rfl, (by repeat' (first | exact Below.refl _ _ | assumption | exact And.left (by assumption) | omega | (simp; done) | (simp; omega) | (simp at *; omega) | (refine Below.setCell ?_ ?_ _) | (refine below_alloc0 ?_ _) | (refine Below.drew ?_) | (refine below_drewN ?_ _) | (refine below_via0 ?_ (by assumption)) | (refine Below.alloc ?_ ?_ _) | (refine below_via ?_ (by assumption) ?_)))⟩
  · go_enter Try.func38, Try.ntmps38
    go_wp2_with (go_at_call 18; refine (pipeSpec_c _ _ _ hs _).mono ?_; rintro e w1 ⟨rfl, hb1⟩; have L1 := live hb1 w.heap.size (by first | omega | (simp <;> omega)); have L2 := live hb1 (w.heap.size + 1) (by first | omega | (simp <;> omega)))
    exact bodyPost_ret (v := .tuple #[.agg #[.string (ppS s t p r), .int .i64 (ppP s p r), .int .i64 (ppR s p r)], .int .i64 (ppN s t p r)]) (by simp [results, Try.results38, go_sem, ppS, ppP, ppR, ppN, emptyS, hv, L1.1, L1.2, L2.1, L2.2]) rfl ⟨rfl, (by repeat' (first | exact Below.refl _ _ | assumption | exact And.left (by assumption) | omega | (simp; done) | (simp; omega) | (simp at *; omega) | (refine Below.setCell ?_ ?_ _) | (refine below_alloc0 ?_ _) | (refine Below.drew ?_) | (refine below_drewN ?_ _) | (refine below_via0 ?_ (by assumption)) | (refine Below.alloc ?_ ?_ _) | (refine below_via ?_ (by assumption) ?_)))⟩

def tkOk (s : ByteArray) (p r m : Int) : Bool := pipeB s p r && !decide (m < 0)
def tkR (s : ByteArray) (p r m : Int) : ByteArray := if pipeB s p r = true then (if m < 0 then emptyS else if m ≤ s.size then s.extract m.toNat s.size else ByteArray.empty) else emptyS
def tkT (s : ByteArray) (p r m : Int) : ByteArray := if pipeB s p r = true then (if m < 0 then emptyS else if m ≤ s.size then s.extract 0 m.toNat else s) else emptyS
def tkP (s : ByteArray) (p r m : Int) : Int := if pipeB s p r = true then (if m < 0 then 0 else p) else 0
def tkQ (s : ByteArray) (p r m : Int) : Int := if pipeB s p r = true then (if m < 0 then 0 else r) else 0
def tkE (s : ByteArray) (p r m : Int) : Bool := if pipeB s p r = true then (if m < 0 then false else s.toList.isEmpty && (p == 0)) else false
set_option maxHeartbeats 4000000 in
theorem takeImpl_p (s : ByteArray) (p r m : Int) (hs : s.size ≤ maxLen) (w : World) :
    Calls Try.prog 23 #[.agg #[.string s, .int .i64 p, .int .i64 r], .int .i64 m] w fun e w' => e = .returned (.tuple #[.agg #[.string (tkR s p r m), .int .i64 (tkP s p r m), .int .i64 (tkQ s p r m)], .string (tkT s p r m), .bool (tkE s p r m)]) ∧ Below w.heap.size w w' := by
  by_cases hv : pipeB s p r = true
  · obtain ⟨q1, q2, q3, q4, q5⟩ := pipeB_yes hv
    by_cases h0 : m < 0
    · go_enter Try.func23, Try.ntmps23
      go_wp2_with (go_at_call 17; refine (pipeImpl_c _ _ _ hs _).mono ?_; rintro e w1 ⟨rfl, hb1⟩; have L1 := live hb1 w.heap.size (by first | omega | (simp <;> omega)); have L2 := live hb1 (w.heap.size + 1) (by first | omega | (simp <;> omega)))
      exact bodyPost_ret (v := .tuple #[.agg #[.string (tkR s p r m), .int .i64 (tkP s p r m), .int .i64 (tkQ s p r m)], .string (tkT s p r m), .bool (tkE s p r m)]) (by simp [results, Try.results23, go_sem, tkR, tkP, tkQ, tkT, tkE, emptyS, hv, h0, L1.1, L1.2, L2.1, L2.2]) rfl ⟨rfl, (by repeat' (first | exact Below.refl _ _ | assumption | exact And.left (by assumption) | omega | (simp; done) | (simp; omega) | (simp at *; omega) | (refine Below.setCell ?_ ?_ _) | (refine below_alloc0 ?_ _) | (refine Below.drew ?_) | (refine below_drewN ?_ _) | (refine below_via0 ?_ (by assumption)) | (refine Below.alloc ?_ ?_ _) | (refine below_via ?_ (by assumption) ?_)))⟩
    · have h0' : 0 ≤ m := by omega
      have h0'' : ¬ m < 0 := by omega
      by_cases hn : m ≤ s.size
      · have hn' : ¬ ((s.size : Int) < m) := by omega
        have ER := hide (show tkR s p r m = s.extract m.toNat s.size by simp [tkR, hv, h0'', hn])
        have ET := hide (show tkT s p r m = s.extract 0 m.toNat by simp [tkT, hv, h0'', hn])
        have EP := hide (show tkP s p r m = p ∧ tkQ s p r m = r ∧ tkE s p r m = (s.toList.isEmpty && (p == 0)) by simp [tkP, tkQ, tkE, hv, h0''])
        by_cases he : s.toList.isEmpty = true
        · by_cases hp : p = 0
          · have e1 : (p == 0) = true := by simpa using hp
            have Hp := hide hp
            clear hp
            go_enter Try.func23, Try.ntmps23
            go_wp2_with (go_at_call 17; refine (pipeImpl_c _ _ _ hs _).mono ?_; rintro e w1 ⟨rfl, hb1⟩; have L1 := live hb1 w.heap.size (by first | omega | (simp <;> omega)); have L2 := live hb1 (w.heap.size + 1) (by first | omega | (simp <;> omega)))
            go_region
            go_wp2
            exact bodyPost_ret (v := .tuple #[.agg #[.string (tkR s p r m), .int .i64 (tkP s p r m), .int .i64 (tkQ s p r m)], .string (tkT s p r m), .bool (tkE s p r m)]) (by simp [results, Try.results23, go_sem, ER.out, ET.out, EP.out.1, EP.out.2.1, EP.out.2.2, he, e1, L1.1, L1.2, L2.1, L2.2]) rfl ⟨rfl, (by repeat' (first | exact Below.refl _ _ | assumption | exact And.left (by assumption) | omega | (simp; done) | (simp; omega) | (simp at *; omega) | (refine Below.setCell ?_ ?_ _) | (refine below_alloc0 ?_ _) | (refine Below.drew ?_) | (refine below_drewN ?_ _) | (refine below_via0 ?_ (by assumption)) | (refine Below.alloc ?_ ?_ _) | (refine below_via ?_ (by assumption) ?_)))⟩
          · have e1 : (p == 0) = false := by simpa using hp
            go_enter Try.func23, Try.ntmps23
            go_wp2_with (go_at_call 17; refine (pipeImpl_c _ _ _ hs _).mono ?_; rintro e w1 ⟨rfl, hb1⟩; have L1 := live hb1 w.heap.size (by first | omega | (simp <;> omega)); have L2 := live hb1 (w.heap.size + 1) (by first | omega | (simp <;> omega)))
            go_region
            go_wp2
            exact bodyPost_ret (v := .tuple #[.agg #[.string (tkR s p r m), .int .i64 (tkP s p r m), .int .i64 (tkQ s p r m)], .string (tkT s p r m), .bool (tkE s p r m)]) (by simp [results, Try.results23, go_sem, ER.out, ET.out, EP.out.1, EP.out.2.1, EP.out.2.2, he, e1, L1.1, L1.2, L2.1, L2.2]) rfl ⟨rfl, (by repeat' (first | exact Below.refl _ _ | assumption | exact And.left (by assumption) | omega | (simp; done) | (simp; omega) | (simp at *; omega) | (refine Below.setCell ?_ ?_ _) | (refine below_alloc0 ?_ _) | (refine Below.drew ?_) | (refine below_drewN ?_ _) | (refine below_via0 ?_ (by assumption)) | (refine Below.alloc ?_ ?_ _) | (refine below_via ?_ (by assumption) ?_)))⟩
        · have he' : s.toList.isEmpty = false := by simpa using he
          go_enter Try.func23, Try.ntmps23
          go_wp2_with (go_at_call 17; refine (pipeImpl_c _ _ _ hs _).mono ?_; rintro e w1 ⟨rfl, hb1⟩; have L1 := live hb1 w.heap.size (by first | omega | (simp <;> omega)); have L2 := live hb1 (w.heap.size + 1) (by first | omega | (simp <;> omega)))
          go_region
          go_wp2
          exact bodyPost_ret (v := .tuple #[.agg #[.string (tkR s p r m), .int .i64 (tkP s p r m), .int .i64 (tkQ s p r m)], .string (tkT s p r m), .bool (tkE s p r m)]) (by simp [results, Try.results23, go_sem, ER.out, ET.out, EP.out.1, EP.out.2.1, EP.out.2.2, he', L1.1, L1.2, L2.1, L2.2]) rfl ⟨rfl, (by repeat' (first | exact Below.refl _ _ | assumption | exact And.left (by assumption) | omega | (simp; done) | (simp; omega) | (simp at *; omega) | (refine Below.setCell ?_ ?_ _) | (refine below_alloc0 ?_ _) | (refine Below.drew ?_) | (refine below_drewN ?_ _) | (refine below_via0 ?_ (by assumption)) | (refine Below.alloc ?_ ?_ _) | (refine below_via ?_ (by assumption) ?_)))⟩
      · have hn' : ((s.size : Int) < m) := by omega
        have ER := hide (show tkR s p r m = ByteArray.empty by simp [tkR, hv, h0'', hn])
        have ET := hide (show tkT s p r m = s by simp [tkT, hv, h0'', hn])
        have EP := hide (show tkP s p r m = p ∧ tkQ s p r m = r ∧ tkE s p r m = (s.toList.isEmpty && (p == 0)) by simp [tkP, tkQ, tkE, hv, h0''])
        by_cases he : s.toList.isEmpty = true
        · by_cases hp : p = 0
          · have e1 : (p == 0) = true := by simpa using hp
            have Hp := hide hp
            clear hp
            go_enter Try.func23, Try.ntmps23
            go_wp2_with (go_at_call 17; refine (pipeImpl_c _ _ _ hs _).mono ?_; rintro e w1 ⟨rfl, hb1⟩; have L1 := live hb1 w.heap.size (by first | omega | (simp <;> omega)); have L2 := live hb1 (w.heap.size + 1) (by first | omega | (simp <;> omega)))
            go_region
            go_wp2
            exact bodyPost_ret (v := .tuple #[.agg #[.string (tkR s p r m), .int .i64 (tkP s p r m), .int .i64 (tkQ s p r m)], .string (tkT s p r m), .bool (tkE s p r m)]) (by simp [results, Try.results23, go_sem, ER.out, ET.out, EP.out.1, EP.out.2.1, EP.out.2.2, he, e1, L1.1, L1.2, L2.1, L2.2]) rfl ⟨rfl, (by repeat' (first | exact Below.refl _ _ | assumption | exact And.left (by assumption) | omega | (simp; done) | (simp; omega) | (simp at *; omega) | (refine Below.setCell ?_ ?_ _) | (refine below_alloc0 ?_ _) | (refine Below.drew ?_) | (refine below_drewN ?_ _) | (refine below_via0 ?_ (by assumption)) | (refine Below.alloc ?_ ?_ _) | (refine below_via ?_ (by assumption) ?_)))⟩
          · have e1 : (p == 0) = false := by simpa using hp
            go_enter Try.func23, Try.ntmps23
            go_wp2_with (go_at_call 17; refine (pipeImpl_c _ _ _ hs _).mono ?_; rintro e w1 ⟨rfl, hb1⟩; have L1 := live hb1 w.heap.size (by first | omega | (simp <;> omega)); have L2 := live hb1 (w.heap.size + 1) (by first | omega | (simp <;> omega)))
            go_region
            go_wp2
            exact bodyPost_ret (v := .tuple #[.agg #[.string (tkR s p r m), .int .i64 (tkP s p r m), .int .i64 (tkQ s p r m)], .string (tkT s p r m), .bool (tkE s p r m)]) (by simp [results, Try.results23, go_sem, ER.out, ET.out, EP.out.1, EP.out.2.1, EP.out.2.2, he, e1, L1.1, L1.2, L2.1, L2.2]) rfl ⟨rfl, (by repeat' (first | exact Below.refl _ _ | assumption | exact And.left (by assumption) | omega | (simp; done) | (simp; omega) | (simp at *; omega) | (refine Below.setCell ?_ ?_ _) | (refine below_alloc0 ?_ _) | (refine Below.drew ?_) | (refine below_drewN ?_ _) | (refine below_via0 ?_ (by assumption)) | (refine Below.alloc ?_ ?_ _) | (refine below_via ?_ (by assumption) ?_)))⟩
        · have he' : s.toList.isEmpty = false := by simpa using he
          go_enter Try.func23, Try.ntmps23
          go_wp2_with (go_at_call 17; refine (pipeImpl_c _ _ _ hs _).mono ?_; rintro e w1 ⟨rfl, hb1⟩; have L1 := live hb1 w.heap.size (by first | omega | (simp <;> omega)); have L2 := live hb1 (w.heap.size + 1) (by first | omega | (simp <;> omega)))
          go_region
          go_wp2
          exact bodyPost_ret (v := .tuple #[.agg #[.string (tkR s p r m), .int .i64 (tkP s p r m), .int .i64 (tkQ s p r m)], .string (tkT s p r m), .bool (tkE s p r m)]) (by simp [results, Try.results23, go_sem, ER.out, ET.out, EP.out.1, EP.out.2.1, EP.out.2.2, he', L1.1, L1.2, L2.1, L2.2]) rfl ⟨rfl, (by repeat' (first | exact Below.refl _ _ | assumption | exact And.left (by assumption) | omega | (simp; done) | (simp; omega) | (simp at *; omega) | (refine Below.setCell ?_ ?_ _) | (refine below_alloc0 ?_ _) | (refine Below.drew ?_) | (refine below_drewN ?_ _) | (refine below_via0 ?_ (by assumption)) | (refine Below.alloc ?_ ?_ _) | (refine below_via ?_ (by assumption) ?_)))⟩
  · go_enter Try.func23, Try.ntmps23
    go_wp2_with (go_at_call 17; refine (pipeImpl_c _ _ _ hs _).mono ?_; rintro e w1 ⟨rfl, hb1⟩; have L1 := live hb1 w.heap.size (by first | omega | (simp <;> omega)); have L2 := live hb1 (w.heap.size + 1) (by first | omega | (simp <;> omega)))
    exact bodyPost_ret (v := .tuple #[.agg #[.string (tkR s p r m), .int .i64 (tkP s p r m), .int .i64 (tkQ s p r m)], .string (tkT s p r m), .bool (tkE s p r m)]) (by simp [results, Try.results23, go_sem, tkR, tkP, tkQ, tkT, tkE, emptyS, hv, L1.1, L1.2, L2.1, L2.2]) rfl ⟨rfl, (by repeat' (first | exact Below.refl _ _ | assumption | exact And.left (by assumption) | omega | (simp; done) | (simp; omega) | (simp at *; omega) | (refine Below.setCell ?_ ?_ _) | (refine below_alloc0 ?_ _) | (refine Below.drew ?_) | (refine below_drewN ?_ _) | (refine below_via0 ?_ (by assumption)) | (refine Below.alloc ?_ ?_ _) | (refine below_via ?_ (by assumption) ?_)))⟩
set_option maxHeartbeats 4000000 in
theorem takeSpec_p (s : ByteArray) (p r m : Int) (hs : s.size ≤ maxLen) (w : World) :
    Calls Try.prog 24 #[.agg #[.string s, .int .i64 p, .int .i64 r], .int .i64 m] w fun e w' => e = .returned (.tuple #[.agg #[.string (tkR s p r m), .int .i64 (tkP s p r m), .int .i64 (tkQ s p r m)], .string (tkT s p r m), .bool (tkE s p r m)]) ∧ Below w.heap.size w w' := by
  by_cases hv : pipeB s p r = true
  · obtain ⟨q1, q2, q3, q4, q5⟩ := pipeB_yes hv
    by_cases h0 : m < 0
    · go_enter Try.func24, Try.ntmps24
      go_wp2_with (go_at_call 18; refine (pipeSpec_c _ _ _ hs _).mono ?_; rintro e w1 ⟨rfl, hb1⟩; have L1 := live hb1 w.heap.size (by first | omega | (simp <;> omega)); have L2 := live hb1 (w.heap.size + 1) (by first | omega | (simp <;> omega)))
      exact bodyPost_ret (v := .tuple #[.agg #[.string (tkR s p r m), .int .i64 (tkP s p r m), .int .i64 (tkQ s p r m)], .string (tkT s p r m), .bool (tkE s p r m)]) (by simp [results, Try.results24, go_sem, tkR, tkP, tkQ, tkT, tkE, emptyS, hv, h0, L1.1, L1.2, L2.1, L2.2]) rfl ⟨rfl, (by repeat' (first | exact Below.refl _ _ | assumption | exact And.left (by assumption) | omega | (simp; done) | (simp; omega) | (simp at *; omega) | (refine Below.setCell ?_ ?_ _) | (refine below_alloc0 ?_ _) | (refine Below.drew ?_) | (refine below_drewN ?_ _) | (refine below_via0 ?_ (by assumption)) | (refine Below.alloc ?_ ?_ _) | (refine below_via ?_ (by assumption) ?_)))⟩
    · have h0' : 0 ≤ m := by omega
      have h0'' : ¬ m < 0 := by omega
      by_cases hn : m ≤ s.size
      · have hn' : ¬ ((s.size : Int) < m) := by omega
        have ER := hide (show tkR s p r m = s.extract m.toNat s.size by simp [tkR, hv, h0'', hn])
        have ET := hide (show tkT s p r m = s.extract 0 m.toNat by simp [tkT, hv, h0'', hn])
        have EP := hide (show tkP s p r m = p ∧ tkQ s p r m = r ∧ tkE s p r m = (s.toList.isEmpty && (p == 0)) by simp [tkP, tkQ, tkE, hv, h0''])
        by_cases he : s.toList.isEmpty = true
        · by_cases hp : p = 0
          · have e1 : (p == 0) = true := by simpa using hp
            have Hp := hide hp
            clear hp
            go_enter Try.func24, Try.ntmps24
            go_wp2_with (go_at_call 18; refine (pipeSpec_c _ _ _ hs _).mono ?_; rintro e w1 ⟨rfl, hb1⟩; have L1 := live hb1 w.heap.size (by first | omega | (simp <;> omega)); have L2 := live hb1 (w.heap.size + 1) (by first | omega | (simp <;> omega)))
            go_region
            go_wp2
            exact bodyPost_ret (v := .tuple #[.agg #[.string (tkR s p r m), .int .i64 (tkP s p r m), .int .i64 (tkQ s p r m)], .string (tkT s p r m), .bool (tkE s p r m)]) (by simp [results, Try.results24, go_sem, ER.out, ET.out, EP.out.1, EP.out.2.1, EP.out.2.2, he, e1, L1.1, L1.2, L2.1, L2.2]) rfl ⟨rfl, (by repeat' (first | exact Below.refl _ _ | assumption | exact And.left (by assumption) | omega | (simp; done) | (simp; omega) | (simp at *; omega) | (refine Below.setCell ?_ ?_ _) | (refine below_alloc0 ?_ _) | (refine Below.drew ?_) | (refine below_drewN ?_ _) | (refine below_via0 ?_ (by assumption)) | (refine Below.alloc ?_ ?_ _) | (refine below_via ?_ (by assumption) ?_)))⟩
          · have e1 : (p == 0) = false := by simpa using hp
            go_enter Try.func24, Try.ntmps24
            go_wp2_with (go_at_call 18; refine (pipeSpec_c _ _ _ hs _).mono ?_; rintro e w1 ⟨rfl, hb1⟩; have L1 := live hb1 w.heap.size (by first | omega | (simp <;> omega)); have L2 := live hb1 (w.heap.size + 1) (by first | omega | (simp <;> omega)))
            go_region
            go_wp2
            exact bodyPost_ret (v := .tuple #[.agg #[.string (tkR s p r m), .int .i64 (tkP s p r m), .int .i64 (tkQ s p r m)], .string (tkT s p r m), .bool (tkE s p r m)]) (by simp [results, Try.results24, go_sem, ER.out, ET.out, EP.out.1, EP.out.2.1, EP.out.2.2, he, e1, L1.1, L1.2, L2.1, L2.2]) rfl ⟨rfl, (by repeat' (first | exact Below.refl _ _ | assumption | exact And.left (by assumption) | omega | (simp; done) | (simp; omega) | (simp at *; omega) | (refine Below.setCell ?_ ?_ _) | (refine below_alloc0 ?_ _) | (refine Below.drew ?_) | (refine below_drewN ?_ _) | (refine below_via0 ?_ (by assumption)) | (refine Below.alloc ?_ ?_ _) | (refine below_via ?_ (by assumption) ?_)))⟩
        · have he' : s.toList.isEmpty = false := by simpa using he
          go_enter Try.func24, Try.ntmps24
          go_wp2_with (go_at_call 18; refine (pipeSpec_c _ _ _ hs _).mono ?_; rintro e w1 ⟨rfl, hb1⟩; have L1 := live hb1 w.heap.size (by first | omega | (simp <;> omega)); have L2 := live hb1 (w.heap.size + 1) (by first | omega | (simp <;> omega)))
          go_region
          go_wp2
          exact bodyPost_ret (v := .tuple #[.agg #[.string (tkR s p r m), .int .i64 (tkP s p r m), .int .i64 (tkQ s p r m)], .string (tkT s p r m), .bool (tkE s p r m)]) (by simp [results, Try.results24, go_sem, ER.out, ET.out, EP.out.1, EP.out.2.1, EP.out.2.2, he', L1.1, L1.2, L2.1, L2.2]) rfl ⟨rfl, (by repeat' (first | exact Below.refl _ _ | assumption | exact And.left (by assumption) | omega | (simp; done) | (simp; omega) | (simp at *; omega) | (refine Below.setCell ?_ ?_ _) | (refine below_alloc0 ?_ _) | (refine Below.drew ?_) | (refine below_drewN ?_ _) | (refine below_via0 ?_ (by assumption)) | (refine Below.alloc ?_ ?_ _) | (refine below_via ?_ (by assumption) ?_)))⟩
      · have hn' : ((s.size : Int) < m) := by omega
        have ER := hide (show tkR s p r m = ByteArray.empty by simp [tkR, hv, h0'', hn])
        have ET := hide (show tkT s p r m = s by simp [tkT, hv, h0'', hn])
        have EP := hide (show tkP s p r m = p ∧ tkQ s p r m = r ∧ tkE s p r m = (s.toList.isEmpty && (p == 0)) by simp [tkP, tkQ, tkE, hv, h0''])
        by_cases he : s.toList.isEmpty = true
        · by_cases hp : p = 0
          · have e1 : (p == 0) = true := by simpa using hp
            have Hp := hide hp
            clear hp
            go_enter Try.func24, Try.ntmps24
            go_wp2_with (go_at_call 18; refine (pipeSpec_c _ _ _ hs _).mono ?_; rintro e w1 ⟨rfl, hb1⟩; have L1 := live hb1 w.heap.size (by first | omega | (simp <;> omega)); have L2 := live hb1 (w.heap.size + 1) (by first | omega | (simp <;> omega)))
            go_region
            go_wp2
            exact bodyPost_ret (v := .tuple #[.agg #[.string (tkR s p r m), .int .i64 (tkP s p r m), .int .i64 (tkQ s p r m)], .string (tkT s p r m), .bool (tkE s p r m)]) (by simp [results, Try.results24, go_sem, ER.out, ET.out, EP.out.1, EP.out.2.1, EP.out.2.2, he, e1, L1.1, L1.2, L2.1, L2.2]) rfl ⟨rfl, (by repeat' (first | exact Below.refl _ _ | assumption | exact And.left (by assumption) | omega | (simp; done) | (simp; omega) | (simp at *; omega) | (refine Below.setCell ?_ ?_ _) | (refine below_alloc0 ?_ _) | (refine Below.drew ?_) | (refine below_drewN ?_ _) | (refine below_via0 ?_ (by assumption)) | (refine Below.alloc ?_ ?_ _) | (refine below_via ?_ (by assumption) ?_)))⟩
          · have e1 : (p == 0) = false := by simpa using hp
            go_enter Try.func24, Try.ntmps24
            go_wp2_with (go_at_call 18; refine (pipeSpec_c _ _ _ hs _).mono ?_; rintro e w1 ⟨rfl, hb1⟩; have L1 := live hb1 w.heap.size (by first | omega | (simp <;> omega)); have L2 := live hb1 (w.heap.size + 1) (by first | omega | (simp <;> omega)))
            go_region
            go_wp2
            exact bodyPost_ret (v := .tuple #[.agg #[.string (tkR s p r m), .int .i64 (tkP s p r m), .int .i64 (tkQ s p r m)], .string (tkT s p r m), .bool (tkE s p r m)]) (by simp [results, Try.results24, go_sem, ER.out, ET.out, EP.out.1, EP.out.2.1, EP.out.2.2, he, e1, L1.1, L1.2, L2.1, L2.2]) rfl ⟨rfl, (by repeat' (first | exact Below.refl _ _ | assumption | exact And.left (by assumption) | omega | (simp; done) | (simp; omega) | (simp at *; omega) | (refine Below.setCell ?_ ?_ _) | (refine below_alloc0 ?_ _) | (refine Below.drew ?_) | (refine below_drewN ?_ _) | (refine below_via0 ?_ (by assumption)) | (refine Below.alloc ?_ ?_ _) | (refine below_via ?_ (by assumption) ?_)))⟩
        · have he' : s.toList.isEmpty = false := by simpa using he
          go_enter Try.func24, Try.ntmps24
          go_wp2_with (go_at_call 18; refine (pipeSpec_c _ _ _ hs _).mono ?_; rintro e w1 ⟨rfl, hb1⟩; have L1 := live hb1 w.heap.size (by first | omega | (simp <;> omega)); have L2 := live hb1 (w.heap.size + 1) (by first | omega | (simp <;> omega)))
          go_region
          go_wp2
          exact bodyPost_ret (v := .tuple #[.agg #[.string (tkR s p r m), .int .i64 (tkP s p r m), .int .i64 (tkQ s p r m)], .string (tkT s p r m), .bool (tkE s p r m)]) (by simp [results, Try.results24, go_sem, ER.out, ET.out, EP.out.1, EP.out.2.1, EP.out.2.2, he', L1.1, L1.2, L2.1, L2.2]) rfl ⟨rfl, (by repeat' (first | exact Below.refl _ _ | assumption | exact And.left (by assumption) | omega | (simp; done) | (simp; omega) | (simp at *; omega) | (refine Below.setCell ?_ ?_ _) | (refine below_alloc0 ?_ _) | (refine Below.drew ?_) | (refine below_drewN ?_ _) | (refine below_via0 ?_ (by assumption)) | (refine Below.alloc ?_ ?_ _) | (refine below_via ?_ (by assumption) ?_)))⟩
  · go_enter Try.func24, Try.ntmps24
    go_wp2_with (go_at_call 18; refine (pipeSpec_c _ _ _ hs _).mono ?_; rintro e w1 ⟨rfl, hb1⟩; have L1 := live hb1 w.heap.size (by first | omega | (simp <;> omega)); have L2 := live hb1 (w.heap.size + 1) (by first | omega | (simp <;> omega)))
    exact bodyPost_ret (v := .tuple #[.agg #[.string (tkR s p r m), .int .i64 (tkP s p r m), .int .i64 (tkQ s p r m)], .string (tkT s p r m), .bool (tkE s p r m)]) (by simp [results, Try.results24, go_sem, tkR, tkP, tkQ, tkT, tkE, emptyS, hv, L1.1, L1.2, L2.1, L2.2]) rfl ⟨rfl, (by repeat' (first | exact Below.refl _ _ | assumption | exact And.left (by assumption) | omega | (simp; done) | (simp; omega) | (simp at *; omega) | (refine Below.setCell ?_ ?_ _) | (refine below_alloc0 ?_ _) | (refine Below.drew ?_) | (refine below_drewN ?_ _) | (refine below_via0 ?_ (by assumption)) | (refine Below.alloc ?_ ?_ _) | (refine below_via ?_ (by assumption) ?_)))⟩
end Go.Proofs.Ytheblgfgcmkdiaa
