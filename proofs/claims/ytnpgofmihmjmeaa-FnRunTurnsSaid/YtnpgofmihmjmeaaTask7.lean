/-
  WakeTask, of the program and of the reference. No condition.
-/
import Derived.Test.YtnpgofmihmjmeaaProg
import Derived.Test.YtnpgofmihmjmeaaTask4
import Derived.Test.YtnpgofmihmjmeaaTask6
namespace Go.Proofs.Ytnpgofmihmjmeaa
open Go.RowKit
set_option linter.unusedSimpArgs false
set_option linter.unusedVariables false

theorem row_waits {w : World} {g n m q : Nat} {l : List Task} {t : Task} (h : Row w g m (doneTask l n)) (hm : n * 3 ≤ m) (hq : q < n) (ht : l[q]? = some t) (b : Bool) :
    Row (w.setCell ⟨g, q * 3 + 2, none⟩ (.bool b)) g m (doneTask (l.set q ⟨t.weight, t.had, b⟩) n) := by
  refine (h.set (q * 3 + 2) _).mono fun j u hj => ?_
  have hql : q < l.length := (List.getElem?_eq_some_iff.1 ht).1
  simp only [doneTask] at hj ⊢
  split at hj
  · rename_i hlt
    by_cases e : j = q * 3 + 2
    · subst e
      rw [if_pos rfl, if_pos (by omega), ← hj, cellTask, show (q * 3 + 2) / 3 = q by omega]
      simp [hql, show (q * 3 + 2) % 3 = 2 by omega]
    · rw [if_neg e, if_pos hlt, ← hj]
      simp only [cellTask]
      by_cases e' : j / 3 = q
      · rw [e', ht]
        by_cases e0 : j % 3 = 0
        · simp [hql, e0]
        · have e1 : j % 3 = 1 := by omega
          simp [hql, e1]
      · rw [List.getElem?_set_ne (fun x => e' x.symm)]
  · cases hj
theorem row_had {w : World} {g n m q : Nat} {l : List Task} {t : Task} (h : Row w g m (doneTask l n)) (hm : n * 3 ≤ m) (hq : q < n) (ht : l[q]? = some t) (x : Int) :
    Row (w.setCell ⟨g, q * 3 + 1, none⟩ (.int .i64 x)) g m (doneTask (l.set q ⟨t.weight, x, t.waits⟩) n) := by
  refine (h.set (q * 3 + 1) _).mono fun j u hj => ?_
  have hql : q < l.length := (List.getElem?_eq_some_iff.1 ht).1
  simp only [doneTask] at hj ⊢
  split at hj
  · rename_i hlt
    by_cases e : j = q * 3 + 1
    · subst e
      rw [if_pos rfl, if_pos (by omega), ← hj, cellTask, show (q * 3 + 1) / 3 = q by omega]
      simp [hql, show (q * 3 + 1) % 3 = 1 by omega]
    · rw [if_neg e, if_pos hlt, ← hj]
      simp only [cellTask]
      by_cases e' : j / 3 = q
      · rw [e', ht]
        by_cases e0 : j % 3 = 0
        · simp [hql, e0]
        · have e1 : j % 3 = 2 := by omega
          simp [hql, e1]
      · rw [List.getElem?_set_ne (fun x => e' x.symm)]
  · cases hj

def wakeT (l : List Task) (t : Task) : Task := ⟨t.weight, if 0 ≤ nextTo l l.length then max t.had (hadAt l (nextTo l l.length)) else t.had, false⟩
def wakeQ (l : List Task) (q : Int) : List Task × Bool :=
  match l[q.toNat]? with
  | some t => if 0 ≤ q ∧ t.waits = true then (l.set q.toNat (wakeT l t), true) else (l, false)
  | none => (l, false)
theorem wakeQ_len (l : List Task) (q : Int) : (wakeQ l q).1.length = l.length := by
  unfold wakeQ
  split
  · split <;> simp
  · rfl

set_option maxHeartbeats 2000000 in
theorem wakeImpl_no (b off n c : Nat) (l : List Task) (hl : l.length = n) (hn : n ≤ 1048576) (q : Int) (w : World) (hR : RdTask w b off l) (hv : tasksB l = false) :
    Calls Try.prog 22 #[.slice (some ⟨b, off, none⟩) n c, .int .i64 q] w fun e w' => e = .returned (.tuple #[.slice none 0 0, .bool false]) ∧ Below w.heap.size w w' := by
  go_enter Try.func22, Try.ntmps22
  go_wp2_with fail
  refine (implT_c _ _ _ _ l hl hn _ hR).mono ?_
  rintro e w1 ⟨rfl, hb1⟩
  go_wp2_with fail
  exact bodyPost_ret (v := .tuple #[.slice none 0 0, .bool false]) (by simp [results, Try.results22, go_sem]) rfl ⟨rfl, (by repeat' (first | exact Below.refl _ _ | assumption | exact And.left (by assumption) | omega | (simp; done) | (simp; omega) | (simp at *; omega) | (refine Below.setCell ?_ ?_ _) | (refine below_alloc0 ?_ _) | (refine Below.drew ?_) | (refine below_drewN ?_ _) | (refine below_via0 ?_ (by assumption)) | (refine Below.alloc ?_ ?_ _) | (refine below_via ?_ (by assumption) ?_)))⟩
set_option maxHeartbeats 2000000 in
theorem wakeSpec_no (b off n c : Nat) (l : List Task) (hl : l.length = n) (hn : n ≤ 1048576) (q : Int) (w : World) (hR : RdTask w b off l) (hv : tasksB l = false) :
    Calls Try.prog 23 #[.slice (some ⟨b, off, none⟩) n c, .int .i64 q] w fun e w' => (∃ g, e = .returned (.tuple #[.slice (some ⟨g, 0, none⟩) 0 0, .bool false]) ∧ w.heap.size ≤ g ∧ g < w'.heap.size) ∧ Below w.heap.size w w' := by
  go_enter Try.func23, Try.ntmps23
  go_wp2_with fail
  refine (specT_c _ _ _ _ l hl hn _ hR).mono ?_
  rintro e w1 ⟨rfl, hb1⟩
  go_wp2_with fail
  exact bodyPost_ret (v := .tuple #[.slice (some ⟨w1.heap.size, 0, none⟩) 0 0, .bool false]) (by simp [results, Try.results23, go_sem]) rfl ⟨⟨_, rfl, hb1.size, by simp⟩, (by repeat' (first | exact Below.refl _ _ | assumption | exact And.left (by assumption) | omega | (simp; done) | (simp; omega) | (simp at *; omega) | (refine Below.setCell ?_ ?_ _) | (refine below_alloc0 ?_ _) | (refine Below.drew ?_) | (refine below_drewN ?_ _) | (refine below_via0 ?_ (by assumption)) | (refine Below.alloc ?_ ?_ _) | (refine below_via ?_ (by assumption) ?_)))⟩
set_option maxHeartbeats 2000000 in
theorem wakeImpl_c (b off n c : Nat) (l : List Task) (hl : l.length = n) (hn : n ≤ 1048576) (q : Int) (w : World) (hR : RdTask w b off l) (hv : tasksB l = true) :
    Calls Try.prog 22 #[.slice (some ⟨b, off, none⟩) n c, .int .i64 q] w fun e w' => ∃ v, e = .returned (.tuple #[v, .bool (wakeQ l q).2]) ∧ OwnTask w.heap.size n (wakeQ l q).1 v w' ∧ Below w.heap.size w w' := by
  by_cases hr : inB q 0 ((n : Int) - 1) = true
  · rw [inB_iff] at hr
    obtain ⟨q, rfl⟩ := Int.eq_ofNat_of_zero_le hr.1
    have hqn : q < n := by omega
    obtain ⟨t, ht⟩ : ∃ t, l[q]? = some t := ⟨_, List.getElem?_eq_getElem (by omega)⟩
    have HT := hide ht
    have hr' : inB (q : Int) 0 ((n : Int) - 1) = true := by rw [inB_iff]; exact hr
    have jj : (q : Int) < n := by omega
    cases hwt : t.waits with
    | false =>
      have HW := hide (show wakeQ l q = (l, false) by simp [wakeQ, HT.out, hwt])
      clear ht
      go_enter Try.func22, Try.ntmps22
      go_wp2_with fail
      refine (implT_c _ _ _ _ l hl hn _ hR).mono ?_
      rintro e w1 ⟨rfl, hb1⟩
      go_wp2_with fail
      refine (cloneT_c _ _ _ _ l hl hn _ (hR.below hb1)).mono ?_
      rintro e w2 ⟨_, rfl, ⟨g, cap, m, rfl, hg, hcap, hm, hrow⟩, hb2⟩
      have HRow := hide hrow
      have hg' : w.heap.size ≤ g := Nat.le_trans hb1.size hg
      have c0 := ((hR.below hb1).below hb2).2 q t HT.out
      clear hrow
      go_wp2_with (go_at_call 38; refine (within_c _ _ _ _).mono ?_; rintro e w' ⟨rfl, rfl⟩)
      rw [HW.out]
      exact bodyPost_ret (v := .tuple #[.slice (some ⟨g, 0, none⟩) n cap, .bool false]) (by simp [results, Try.results22, go_sem]) rfl ⟨_, rfl, ⟨g, cap, m, rfl, hg', hcap, hm, HRow.out⟩, (by repeat' (first | exact Below.refl _ _ | assumption | exact And.left (by assumption) | omega | (simp; done) | (simp; omega) | (simp at *; omega) | (refine Below.setCell ?_ ?_ _) | (refine below_alloc0 ?_ _) | (refine Below.drew ?_) | (refine below_drewN ?_ _) | (refine below_via0 ?_ (by assumption)) | (refine Below.alloc ?_ ?_ _) | (refine below_via ?_ (by assumption) ?_)))⟩
    | true =>
      have HW := hide (show wakeQ l q = (l.set q (wakeT l t), true) by simp [wakeQ, HT.out, hwt])
      clear ht
      by_cases hk0 : nextTo l n < 0
      · have HK := hide (show wakeT l t = ⟨t.weight, t.had, false⟩ by simp [wakeT, hl]; omega)
        go_enter Try.func22, Try.ntmps22
        go_wp2_with fail
        refine (implT_c _ _ _ _ l hl hn _ hR).mono ?_
        rintro e w1 ⟨rfl, hb1⟩
        go_wp2_with fail
        refine (cloneT_c _ _ _ _ l hl hn _ (hR.below hb1)).mono ?_
        rintro e w2 ⟨_, rfl, ⟨g, cap, m, rfl, hg, hcap, hm, hrow⟩, hb2⟩
        have HRow := hide hrow
        have hg' : w.heap.size ≤ g := Nat.le_trans hb1.size hg
        have hR2 := (hR.below hb1).below hb2
        have hne : b ≠ g := by have := hR.1; omega
        have c0 := hR2.2 q t HT.out
        have g1 := hrow.lt
        obtain ⟨x2, gs2⟩ := hrow.some_ex (j := q * 3 + 2) (by omega)
        have gf2 := hrow.frozen (q * 3 + 2)
        have hcq : q < cap := by omega
        clear hrow
        go_wp2_with (go_at_call 38; refine (within_c _ _ _ _).mono ?_; rintro e w' ⟨rfl, rfl⟩)
        refine (nextImpl_c _ _ _ _ l hl hn _ (((Off.refl g w2).setCell _ _).rd hne hR2)).mono ?_
        rintro e w3 ⟨rfl, hb3⟩
        have hrow3 := hide ((row_waits HRow.out hm hqn HT.out false).below hb3 (by simp; omega))
        have hb23 : Below w.heap.size w w2 := below_via0 hb1 hb2
        have hb33 : Below w.heap.size w w3 := below_via0 (hb23.setCell (p := ⟨g, _, none⟩) hg' _) hb3
        go_wp2_with fail
        rw [HW.out, HK.out]
        exact bodyPost_ret (v := .tuple #[.slice (some ⟨g, 0, none⟩) n cap, .bool true]) (by simp [results, Try.results22, go_sem]) rfl ⟨_, rfl, ⟨g, cap, m, rfl, hg', hcap, hm, hrow3.out⟩, (by repeat' (first | exact Below.refl _ _ | assumption | exact And.left (by assumption) | omega | (simp; done) | (simp; omega) | (simp at *; omega) | (refine Below.setCell ?_ ?_ _) | (refine below_alloc0 ?_ _) | (refine Below.drew ?_) | (refine below_drewN ?_ _) | (refine below_via0 ?_ (by assumption)) | (refine Below.alloc ?_ ?_ _) | (refine below_via ?_ (by assumption) ?_)))⟩
      · have hk0' : 0 ≤ nextTo l n := by omega
        obtain ⟨p, hp⟩ := Int.eq_ofNat_of_zero_le hk0'
        have hpn : p < n := by have := (nextTo_bd l n).2; omega
        obtain ⟨s, hs⟩ : ∃ s, l[p]? = some s := ⟨_, List.getElem?_eq_getElem (by omega)⟩
        have HK := hide (show wakeT l t = ⟨t.weight, max t.had s.had, false⟩ by simp [wakeT, hl, hp, hadAt, hs])
        have HS := hide hs
        have HP := hide hp
        have pp : (p : Int) < n := by omega
        have hd : decide ((0 : Int) ≤ p) = true := by simp
        clear hs hp hk0 hk0'
        go_enter Try.func22, Try.ntmps22
        go_wp2_with fail
        refine (implT_c _ _ _ _ l hl hn _ hR).mono ?_
        rintro e w1 ⟨rfl, hb1⟩
        go_wp2_with fail
        refine (cloneT_c _ _ _ _ l hl hn _ (hR.below hb1)).mono ?_
        rintro e w2 ⟨_, rfl, ⟨g, cap, m, rfl, hg, hcap, hm, hrow⟩, hb2⟩
        have HRow := hide hrow
        have hg' : w.heap.size ≤ g := Nat.le_trans hb1.size hg
        have hR2 := (hR.below hb1).below hb2
        have hne : b ≠ g := by have := hR.1; omega
        have c0 := hR2.2 q t HT.out
        have g1 := hrow.lt
        obtain ⟨x2, gs2⟩ := hrow.some_ex (j := q * 3 + 2) (by omega)
        have gf2 := hrow.frozen (q * 3 + 2)
        have hcq : q < cap := by omega
        clear hrow
        go_wp2_with (go_at_call 38; refine (within_c _ _ _ _).mono ?_; rintro e w' ⟨rfl, rfl⟩)
        have hR3 := ((Off.refl g w2).setCell (q * 3 + 2) (.bool false)).rd hne hR2
        refine (nextImpl_c _ _ _ _ l hl hn _ hR3).mono ?_
        rintro e w3 ⟨rfl, hb3⟩
        rw [HP.out]
        have hrow3 := (row_waits HRow.out hm hqn HT.out false).below hb3 (by simp; omega)
        have ht3 : (l.set q ⟨t.weight, t.had, false⟩)[q]? = some ⟨t.weight, t.had, false⟩ := List.getElem?_set_self (by omega)
        have d1 := (RdT_of_row hrow3 (by simpa using hl)).2 q _ ht3
        simp only [Nat.zero_add] at d1
        have HT3 := hide ht3
        have HRow3 := hide hrow3
        have gf1 := hrow3.frozen (q * 3 + 1)
        have g3 := hrow3.lt
        have e0 := (hR3.below hb3).2 p s HS.out
        have hb23 : Below w.heap.size w w2 := below_via0 hb1 hb2
        have hb33 : Below w.heap.size w w3 := below_via0 (hb23.setCell (p := ⟨g, _, none⟩) hg' _) hb3
        clear ht3 hrow3 c0 gs2 gf2
        go_wp2_with fail
        go_region
        go_wp2
        rw [HW.out, HK.out]
        have hrow4 := (row_had HRow3.out hm hqn HT3.out (max t.had s.had)).drew
        rw [List.set_set] at hrow4
        exact bodyPost_ret (v := .tuple #[.slice (some ⟨g, 0, none⟩) n cap, .bool true]) (by simp [results, Try.results22, go_sem]) rfl ⟨_, rfl, ⟨g, cap, m, rfl, hg', hcap, hm, hrow4⟩, (hb33.setCell (p := ⟨g, _, none⟩) hg' _).drew⟩
  · have hr' : inB q 0 ((n : Int) - 1) = false := by simpa using hr
    have HW := hide (show wakeQ l q = (l, false) by
      rw [inB_no] at hr'
      unfold wakeQ
      split
      · rename_i t ht
        have := (List.getElem?_eq_some_iff.1 ht).1
        rw [if_neg (by omega)]
      · rfl)
    clear hr
    go_enter Try.func22, Try.ntmps22
    go_wp2_with fail
    refine (implT_c _ _ _ _ l hl hn _ hR).mono ?_
    rintro e w1 ⟨rfl, hb1⟩
    go_wp2_with fail
    refine (cloneT_c _ _ _ _ l hl hn _ (hR.below hb1)).mono ?_
    rintro e w2 ⟨_, rfl, ⟨g, cap, m, rfl, hg, hcap, hm, hrow⟩, hb2⟩
    have HRow := hide hrow
    have hg' : w.heap.size ≤ g := Nat.le_trans hb1.size hg
    clear hrow
    go_wp2_with (go_at_call 38; refine (within_c _ _ _ _).mono ?_; rintro e w' ⟨rfl, rfl⟩)
    rw [HW.out]
    exact bodyPost_ret (v := .tuple #[.slice (some ⟨g, 0, none⟩) n cap, .bool false]) (by simp [results, Try.results22, go_sem]) rfl ⟨_, rfl, ⟨g, cap, m, rfl, hg', hcap, hm, HRow.out⟩, (by repeat' (first | exact Below.refl _ _ | assumption | exact And.left (by assumption) | omega | (simp; done) | (simp; omega) | (simp at *; omega) | (refine Below.setCell ?_ ?_ _) | (refine below_alloc0 ?_ _) | (refine Below.drew ?_) | (refine below_drewN ?_ _) | (refine below_via0 ?_ (by assumption)) | (refine Below.alloc ?_ ?_ _) | (refine below_via ?_ (by assumption) ?_)))⟩
end Go.Proofs.Ytnpgofmihmjmeaa
