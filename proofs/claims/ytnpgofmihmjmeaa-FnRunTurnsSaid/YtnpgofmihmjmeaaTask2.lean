/-
  TasksValid, of the program and of the reference. No condition.
-/
import Derived.Test.YtnpgofmihmjmeaaProg
import Derived.Test.YtnpgofmihmjmeaaTask
namespace Go.Proofs.Ytnpgofmihmjmeaa
open Go.RowKit
set_option linter.unusedSimpArgs false
set_option linter.unusedVariables false

def TOk (t : Task) : Prop := inB t.weight 1 10 = true ∧ inB t.had 0 1000000 = true
def TUp (l : List Task) (k : Nat) : Prop := ∀ (i : Nat) (t : Task), i < k → l[i]? = some t → TOk t
def TV (l : List Task) : Prop := TUp l l.length ∧ l.length ≤ 6
noncomputable def tasksB (l : List Task) : Bool := @decide (TV l) (Classical.propDecidable _)
theorem tasksB_iff {l : List Task} : tasksB l = true ↔ TV l := by unfold tasksB; exact @decide_eq_true_iff _ (Classical.propDecidable _)
theorem tasksB_no {l : List Task} (h : ¬ TV l) : tasksB l = false := by
  rw [← Bool.not_eq_true, tasksB_iff]; exact h
theorem tasksB_end {l : List Task} (h : TUp l l.length) : tasksB l = decide (l.length ≤ 6) := by
  by_cases h5 : l.length ≤ 6
  · rw [tasksB_iff.2 ⟨h, h5⟩]; simp [h5]
  · rw [tasksB_no (fun e => h5 e.2)]; simp [h5]
theorem TUp.step {l : List Task} {k : Nat} {t : Task} (h : TUp l k) (ht : l[k]? = some t) (hr : TOk t) : TUp l (k + 1) := by
  intro i t' hi' ht'
  rcases Nat.lt_or_ge i k with hlt | hge
  · exact h i t' hlt ht'
  · obtain rfl : i = k := by omega
    obtain rfl : t' = t := by have := ht'.symm.trans ht; simpa using this
    exact hr

theorem specT_c (b off n c : Nat) (l : List Task) (hl : l.length = n) (hn : n ≤ 1048576) (w : World) (hR : RdTask w b off l) :
    Calls Try.prog 12 #[.slice (some ⟨b, off, none⟩) n c] w fun e w' => e = .returned (.bool (tasksB l)) ∧ Below w.heap.size w w' := by
  go_enter Try.func12, Try.ntmps12
  go_wp2_with fail
  go_loopw [3] (fun k wr => ∃ i : Nat, i ≤ n ∧ k = .int .i64 i ∧ Hid (TUp l i) ∧ Below w.heap.size w wr) (fun k _ => n - (intOf k).toNat)
  case atStart => exact ⟨0, by omega, rfl, fun i t hi => absurd hi (by omega), Below.refl _ _⟩
  case round =>
    obtain ⟨k, hk, rfl, hup, hbel⟩ := hrel
    by_cases hlt : k < n
    · obtain ⟨t, ht⟩ : ∃ t, l[k]? = some t := ⟨_, List.getElem?_eq_getElem (by omega)⟩
      have HT := hide ht
      have c0 := (hR.below hbel).2 k t ht
      clear ht
      have jj : (k : Int) < n := by omega
      by_cases h1 : inB t.weight 1 10 = true
      · by_cases h2 : inB t.had 0 1000000 = true
        · go_wp2_with (go_at_call 34; refine (l1In_c _ _ _ _).mono ?_; rintro e w' ⟨rfl, rfl⟩)
          refine ⟨⟨k + 1, by omega, by go_num, hup.out.step HT.out ⟨h1, h2⟩, (by repeat' (first | exact Below.refl _ _ | assumption | exact And.left (by assumption) | omega | (simp; done) | (simp; omega) | (simp at *; omega) | (refine Below.setCell ?_ ?_ _) | (refine below_alloc0 ?_ _) | (refine Below.drew ?_) | (refine below_drewN ?_ _) | (refine below_via0 ?_ (by assumption)) | (refine Below.alloc ?_ ?_ _) | (refine below_via ?_ (by assumption) ?_)))⟩, by simp [intOf]; omega⟩
        · go_wp2_with (go_at_call 34; refine (l1In_c _ _ _ _).mono ?_; rintro e w' ⟨rfl, rfl⟩)
          go_ret
          exact ⟨by rw [tasksB_no (fun e => h2 (e.1 k t (by omega) HT.out).2)]; rfl, (by repeat' (first | exact Below.refl _ _ | assumption | exact And.left (by assumption) | omega | (simp; done) | (simp; omega) | (simp at *; omega) | (refine Below.setCell ?_ ?_ _) | (refine below_alloc0 ?_ _) | (refine Below.drew ?_) | (refine below_drewN ?_ _) | (refine below_via0 ?_ (by assumption)) | (refine Below.alloc ?_ ?_ _) | (refine below_via ?_ (by assumption) ?_)))⟩
      · go_wp2_with (go_at_call 34; refine (l1In_c _ _ _ _).mono ?_; rintro e w' ⟨rfl, rfl⟩)
        go_ret
        exact ⟨by rw [tasksB_no (fun e => h1 (e.1 k t (by omega) HT.out).1)]; rfl, (by repeat' (first | exact Below.refl _ _ | assumption | exact And.left (by assumption) | omega | (simp; done) | (simp; omega) | (simp at *; omega) | (refine Below.setCell ?_ ?_ _) | (refine below_alloc0 ?_ _) | (refine Below.drew ?_) | (refine below_drewN ?_ _) | (refine below_via0 ?_ (by assumption)) | (refine Below.alloc ?_ ?_ _) | (refine below_via ?_ (by assumption) ?_)))⟩
    · obtain rfl : k = n := by omega
      go_wp2
      go_ret
      exact ⟨by rw [tasksB_end (by rw [hl]; exact hup.out), hl]; simp; omega, (by repeat' (first | exact Below.refl _ _ | assumption | exact And.left (by assumption) | omega | (simp; done) | (simp; omega) | (simp at *; omega) | (refine Below.setCell ?_ ?_ _) | (refine below_alloc0 ?_ _) | (refine Below.drew ?_) | (refine below_drewN ?_ _) | (refine below_via0 ?_ (by assumption)) | (refine Below.alloc ?_ ?_ _) | (refine below_via ?_ (by assumption) ?_)))⟩

theorem tbad_c (t : Task) (w : World) : Calls Try.prog 37 #[.agg #[.int .i64 t.weight, .int .i64 t.had, .bool t.waits]] w fun e w' => e = .returned (.bool (!(inB t.weight 1 10 && inB t.had 0 1000000))) ∧ Below w.heap.size w w' := by
  go_enter Try.func37, Try.ntmps37
  go_wp2_with (go_at_call 38; refine (within_c _ _ _ _).mono ?_; rintro e w' ⟨rfl, rfl⟩)
  all_goals
    go_ret
    exact ⟨by simp [*], (by repeat' (first | exact Below.refl _ _ | assumption | exact And.left (by assumption) | omega | (simp; done) | (simp; omega) | (simp at *; omega) | (refine Below.setCell ?_ ?_ _) | (refine below_alloc0 ?_ _) | (refine Below.drew ?_) | (refine below_drewN ?_ _) | (refine below_via0 ?_ (by assumption)) | (refine Below.alloc ?_ ?_ _) | (refine below_via ?_ (by assumption) ?_)))⟩
/-- IndexFunc at the test: -1 where all are right, else a place. -/
def IxT (l : List Task) (w : World) (e : Ending) (w' : World) : Prop :=
  ∃ r : Int, e = .returned (.int .i64 r) ∧ ((TUp l l.length ∧ r = -1) ∨ (¬ TUp l l.length ∧ 0 ≤ r)) ∧ Below w.heap.size w w'
set_option maxHeartbeats 1000000 in
theorem ixT_c (b off n c : Nat) (l : List Task) (hl : l.length = n) (hn : n ≤ 1048576) (w : World) (hR : RdTask w b off l) :
    Calls Try.prog 46 #[.slice (some ⟨b, off, none⟩) n c, .func (Fn.func 37) #[] #[]] w (IxT l w) := by
  go_enter Try.func46, Try.ntmps46
  go_wp2_with fail
  go_loopw [8] (fun k wr => ∃ i : Nat, i ≤ n ∧ k = .int .i64 i ∧ Hid (TUp l i) ∧ Below w.heap.size w wr) (fun k _ => n - (intOf k).toNat)
  case atStart => exact ⟨0, by omega, rfl, fun i t hi => absurd hi (by omega), Below.refl _ _⟩
  case round =>
    obtain ⟨k, hk, rfl, hup, hbel⟩ := hrel
    by_cases hlt : k < n
    · obtain ⟨t, ht⟩ : ∃ t, l[k]? = some t := ⟨_, List.getElem?_eq_getElem (by omega)⟩
      have HT := hide ht
      have c0 := (hR.below hbel).2 k t ht
      clear ht
      have jj : (k : Int) < n := by omega
      by_cases h1 : (inB t.weight 1 10 && inB t.had 0 1000000) = true
      · have HO := hide (show TOk t by simpa [TOk] using h1)
        go_wp2_with (go_at_call 37; refine (tbad_c t _).mono ?_; rintro e w1 ⟨rfl, hb1⟩)
        refine ⟨⟨k + 1, by omega, by go_num, hup.out.step HT.out HO.out, (by repeat' (first | exact Below.refl _ _ | assumption | exact And.left (by assumption) | omega | (simp; done) | (simp; omega) | (simp at *; omega) | (refine Below.setCell ?_ ?_ _) | (refine below_alloc0 ?_ _) | (refine Below.drew ?_) | (refine below_drewN ?_ _) | (refine below_via0 ?_ (by assumption)) | (refine Below.alloc ?_ ?_ _) | (refine below_via ?_ (by assumption) ?_)))⟩, by simp [intOf]; omega⟩
      · have h1' : (inB t.weight 1 10 && inB t.had 0 1000000) = false := by simpa using h1
        have HB := hide (show ¬ TUp l l.length from fun e => h1 (by have := e k t (by omega) HT.out; simpa [TOk] using this))
        clear h1
        go_wp2_with (go_at_call 37; refine (tbad_c t _).mono ?_; rintro e w1 ⟨rfl, hb1⟩)
        go_ret
        exact ⟨k, rfl, .inr ⟨HB.out, by omega⟩, (by repeat' (first | exact Below.refl _ _ | assumption | exact And.left (by assumption) | omega | (simp; done) | (simp; omega) | (simp at *; omega) | (refine Below.setCell ?_ ?_ _) | (refine below_alloc0 ?_ _) | (refine Below.drew ?_) | (refine below_drewN ?_ _) | (refine below_via0 ?_ (by assumption)) | (refine Below.alloc ?_ ?_ _) | (refine below_via ?_ (by assumption) ?_)))⟩
    · obtain rfl : k = n := by omega
      go_wp2
      go_ret
      exact ⟨-1, rfl, .inl ⟨by rw [hl]; exact hup.out, rfl⟩, (by repeat' (first | exact Below.refl _ _ | assumption | exact And.left (by assumption) | omega | (simp; done) | (simp; omega) | (simp at *; omega) | (refine Below.setCell ?_ ?_ _) | (refine below_alloc0 ?_ _) | (refine Below.drew ?_) | (refine below_drewN ?_ _) | (refine below_via0 ?_ (by assumption)) | (refine Below.alloc ?_ ?_ _) | (refine below_via ?_ (by assumption) ?_)))⟩
theorem cfT_c (b off n c : Nat) (l : List Task) (hl : l.length = n) (hn : n ≤ 1048576) (w : World) (hR : RdTask w b off l) :
    Calls Try.prog 36 #[.slice (some ⟨b, off, none⟩) n c, .func (Fn.func 37) #[] #[]] w fun e w' => e = .returned (.bool (@decide (¬ TUp l l.length) (Classical.propDecidable _))) ∧ Below w.heap.size w w' := by
  go_enter Try.func36, Try.ntmps36
  go_wp2_with fail
  refine (ixT_c _ _ _ _ l hl hn _ hR).mono ?_
  rintro e w1 ⟨r, rfl, hr, hb1⟩
  rcases hr with ⟨h1, rfl⟩ | ⟨h1, h2⟩
  · go_wp2
    go_ret
    exact ⟨by simp [h1], (by repeat' (first | exact Below.refl _ _ | assumption | exact And.left (by assumption) | omega | (simp; done) | (simp; omega) | (simp at *; omega) | (refine Below.setCell ?_ ?_ _) | (refine below_alloc0 ?_ _) | (refine Below.drew ?_) | (refine below_drewN ?_ _) | (refine below_via0 ?_ (by assumption)) | (refine Below.alloc ?_ ?_ _) | (refine below_via ?_ (by assumption) ?_)))⟩
  · have H1 := hide h1
    clear h1
    go_wp2
    go_ret
    exact ⟨by simp [H1.out], (by repeat' (first | exact Below.refl _ _ | assumption | exact And.left (by assumption) | omega | (simp; done) | (simp; omega) | (simp at *; omega) | (refine Below.setCell ?_ ?_ _) | (refine below_alloc0 ?_ _) | (refine Below.drew ?_) | (refine below_drewN ?_ _) | (refine below_via0 ?_ (by assumption)) | (refine Below.alloc ?_ ?_ _) | (refine below_via ?_ (by assumption) ?_)))⟩
theorem implT_c (b off n c : Nat) (l : List Task) (hl : l.length = n) (hn : n ≤ 1048576) (w : World) (hR : RdTask w b off l) :
    Calls Try.prog 14 #[.slice (some ⟨b, off, none⟩) n c] w fun e w' => e = .returned (.bool (tasksB l)) ∧ Below w.heap.size w w' := by
  by_cases h6 : n ≤ 6
  · have HT := hide (show (!(@decide (¬ TUp l l.length) (Classical.propDecidable _))) = tasksB l by
      by_cases h : TUp l l.length
      · rw [tasksB_end h]; simp [h]; omega
      · rw [tasksB_no (fun e => h e.1)]; simp [h])
    go_enter Try.func14, Try.ntmps14
    go_wp2_with fail
    refine (cfT_c _ _ _ _ l hl hn _ hR).mono ?_
    rintro e w1 ⟨rfl, hb1⟩
    generalize hX : (@decide (¬ TUp l l.length) (Classical.propDecidable _)) = X at *
    have HX := hide hX
    clear hX
    go_wp2
    go_ret
    exact ⟨by rw [← HT.out]; rfl, (by repeat' (first | exact Below.refl _ _ | assumption | exact And.left (by assumption) | omega | (simp; done) | (simp; omega) | (simp at *; omega) | (refine Below.setCell ?_ ?_ _) | (refine below_alloc0 ?_ _) | (refine Below.drew ?_) | (refine below_drewN ?_ _) | (refine below_via0 ?_ (by assumption)) | (refine Below.alloc ?_ ?_ _) | (refine below_via ?_ (by assumption) ?_)))⟩
  · go_enter Try.func14, Try.ntmps14
    go_wp2
    go_ret
    exact ⟨by rw [tasksB_no (fun e => h6 (by have := e.2; omega))]; rfl, (by repeat' (first | exact Below.refl _ _ | assumption | exact And.left (by assumption) | omega | (simp; done) | (simp; omega) | (simp at *; omega) | (refine Below.setCell ?_ ?_ _) | (refine below_alloc0 ?_ _) | (refine Below.drew ?_) | (refine below_drewN ?_ _) | (refine below_via0 ?_ (by assumption)) | (refine Below.alloc ?_ ?_ _) | (refine below_via ?_ (by assumption) ?_)))⟩
end Go.Proofs.Ytnpgofmihmjmeaa
