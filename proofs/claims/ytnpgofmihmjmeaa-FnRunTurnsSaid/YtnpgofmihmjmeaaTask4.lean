/-
  spec.NextTask, impl.NextTask, and the exact laws' walks of TasksValid and NextTask. No condition.
-/
import Derived.Test.YtnpgofmihmjmeaaProg
import Derived.Test.YtnpgofmihmjmeaaTask3
namespace Go.Proofs.Ytnpgofmihmjmeaa
open Go.RowKit
set_option linter.unusedSimpArgs false
set_option linter.unusedVariables false

set_option maxHeartbeats 2000000 in
theorem nextSpec_c (b off n c : Nat) (l : List Task) (hl : l.length = n) (hn : n ≤ 1048576) (w : World) (hR : RdTask w b off l) :
    Calls Try.prog 18 #[.slice (some ⟨b, off, none⟩) n c] w fun e w' => e = .returned (.int .i64 (nextB l)) ∧ Below w.heap.size w w' := by
  by_cases hv : tasksB l = true
  · have HU := hide (show nextB l = nextTo l n by simp [nextB, hv, hl])
    go_enter Try.func18, Try.ntmps18
    go_wp2_with fail
    go_loopw [3, 4] (fun bst k wr => ∃ i : Nat, i ≤ n ∧ k = .int .i64 i ∧ bst = .int .i64 (nextTo l i) ∧ Below w.heap.size w wr) (fun _ k _ => n - (intOf k).toNat)
    case atStart => exact ⟨0, by omega, rfl, rfl, Below.refl _ _⟩
    case round =>
      obtain ⟨k, hk, rfl, rfl, hbel⟩ := hrel
      obtain ⟨bd1, bd2⟩ := nextTo_bd l k
      by_cases hlt : k < n
      · obtain ⟨t, ht⟩ : ∃ t, l[k]? = some t := ⟨_, List.getElem?_eq_getElem (by omega)⟩
        have HT := hide ht
        clear ht
        have jj : (k : Int) < n := by omega
        cases hwt : t.waits with
        | true =>
          have HS := hide (show nextTo l (k + 1) = nextTo l k by simp [nextTo, HT.out, hwt])
          go_wp2_with (go_at_call 12; refine (specT_c _ _ _ _ l (by first | assumption | omega) (by omega) _ (hR.below hbel)).mono ?_; rintro e w1 ⟨rfl, hb1⟩; have c0 := (hR.below (below_via0 hbel hb1)).2 k t HT.out)
          go_quiet (fail)
          go_wp2_with fail
          refine ⟨⟨k + 1, by omega, by first | rfl | go_num, by first | (rw [HS.out]; rfl) | rw [HS.out], (by repeat' (first | exact Below.refl _ _ | assumption | exact And.left (by assumption) | omega | (simp; done) | (simp; omega) | (simp at *; omega) | (refine Below.setCell ?_ ?_ _) | (refine below_alloc0 ?_ _) | (refine Below.drew ?_) | (refine below_drewN ?_ _) | (refine below_via0 ?_ (by assumption)) | (refine Below.alloc ?_ ?_ _) | (refine below_via ?_ (by assumption) ?_)))⟩, by simp [intOf]; omega⟩
        | false =>
          by_cases hb0 : nextTo l k < 0
          · have HS := hide (show nextTo l (k + 1) = k by simp [nextTo, HT.out, hwt, hb0])
            have hd : decide (nextTo l k < 0) = true := by simpa using hb0
            go_wp2_with (go_at_call 12; refine (specT_c _ _ _ _ l (by first | assumption | omega) (by omega) _ (hR.below hbel)).mono ?_; rintro e w1 ⟨rfl, hb1⟩; have c0 := (hR.below (below_via0 hbel hb1)).2 k t HT.out)
            go_quiet (fail)
            go_wp2_with fail
            refine ⟨⟨k + 1, by omega, by first | rfl | go_num, by first | (rw [HS.out]; rfl) | rw [HS.out], (by repeat' (first | exact Below.refl _ _ | assumption | exact And.left (by assumption) | omega | (simp; done) | (simp; omega) | (simp at *; omega) | (refine Below.setCell ?_ ?_ _) | (refine below_alloc0 ?_ _) | (refine Below.drew ?_) | (refine below_drewN ?_ _) | (refine below_via0 ?_ (by assumption)) | (refine Below.alloc ?_ ?_ _) | (refine below_via ?_ (by assumption) ?_)))⟩, by simp [intOf]; omega⟩
          · have hb0' : 0 ≤ nextTo l k := by omega
            obtain ⟨q, hq⟩ := Int.eq_ofNat_of_zero_le hb0'
            have hqk : q < k := by omega
            obtain ⟨s, hs⟩ : ∃ s, l[q]? = some s := ⟨_, List.getElem?_eq_getElem (by omega)⟩
            have HH := hide (show hadAt l (nextTo l k) = s.had by simp [hadAt, hq, hs])
            have HQ := hide hs
            have qq : (q : Int) < n := by omega
            by_cases hc : t.had < s.had
            · have HS := hide (show nextTo l (k + 1) = k by simp [nextTo, HT.out, hwt, hb0, HH.out, hc])
              clear hs hb0 hb0' bd1 bd2
              rw [hq]
              have HQQ := hide hq
              clear hq
              have hd : decide ((q : Int) < 0) = false := by simp
              have hc' : decide (t.had < s.had) = true := by simpa using hc
              go_wp2_with (go_at_call 12; refine (specT_c _ _ _ _ l (by first | assumption | omega) (by omega) _ (hR.below hbel)).mono ?_; rintro e w1 ⟨rfl, hb1⟩; have c0 := (hR.below (below_via0 hbel hb1)).2 k t HT.out; have ds := (hR.below (below_via0 hbel hb1)).2 q s HQ.out)
              go_quiet (fail)
              go_wp2_with fail
              refine ⟨⟨k + 1, by omega, by first | rfl | go_num, by first | (rw [HS.out]; rfl) | rw [HS.out], (by repeat' (first | exact Below.refl _ _ | assumption | exact And.left (by assumption) | omega | (simp; done) | (simp; omega) | (simp at *; omega) | (refine Below.setCell ?_ ?_ _) | (refine below_alloc0 ?_ _) | (refine Below.drew ?_) | (refine below_drewN ?_ _) | (refine below_via0 ?_ (by assumption)) | (refine Below.alloc ?_ ?_ _) | (refine below_via ?_ (by assumption) ?_)))⟩, by simp [intOf]; omega⟩
            · have HS := hide (show nextTo l (k + 1) = nextTo l k by simp [nextTo, HT.out, hwt, hb0, HH.out, hc])
              clear hs hb0 hb0' bd1 bd2
              rw [hq]
              have HQQ := hide hq
              clear hq
              have hd : decide ((q : Int) < 0) = false := by simp
              have hc' : decide (t.had < s.had) = false := by simpa using hc
              go_wp2_with (go_at_call 12; refine (specT_c _ _ _ _ l (by first | assumption | omega) (by omega) _ (hR.below hbel)).mono ?_; rintro e w1 ⟨rfl, hb1⟩; have c0 := (hR.below (below_via0 hbel hb1)).2 k t HT.out; have ds := (hR.below (below_via0 hbel hb1)).2 q s HQ.out)
              go_quiet (fail)
              go_wp2_with fail
              refine ⟨⟨k + 1, by omega, by first | rfl | go_num, by rw [HS.out, HQQ.out], (by repeat' (first | exact Below.refl _ _ | assumption | exact And.left (by assumption) | omega | (simp; done) | (simp; omega) | (simp at *; omega) | (refine Below.setCell ?_ ?_ _) | (refine below_alloc0 ?_ _) | (refine Below.drew ?_) | (refine below_drewN ?_ _) | (refine below_via0 ?_ (by assumption)) | (refine Below.alloc ?_ ?_ _) | (refine below_via ?_ (by assumption) ?_)))⟩, by simp [intOf]; omega⟩
      · obtain rfl : k = n := by omega
        go_wp2
        go_ret
        exact ⟨by rw [HU.out]; rfl, (by repeat' (first | exact Below.refl _ _ | assumption | exact And.left (by assumption) | omega | (simp; done) | (simp; omega) | (simp at *; omega) | (refine Below.setCell ?_ ?_ _) | (refine below_alloc0 ?_ _) | (refine Below.drew ?_) | (refine below_drewN ?_ _) | (refine below_via0 ?_ (by assumption)) | (refine Below.alloc ?_ ?_ _) | (refine below_via ?_ (by assumption) ?_)))⟩
  · have hv' : tasksB l = false := by simpa using hv
    have HU := hide (show nextB l = -1 by simp [nextB, hv'])
    clear hv
    go_enter Try.func18, Try.ntmps18
    go_wp2_with fail
    go_loopw [3, 4] (fun bst k wr => bst = .int .i64 (-1) ∧ k = .int .i64 0 ∧ Below w.heap.size w wr) (fun _ k _ => 0)
    case atStart => exact ⟨rfl, rfl, Below.refl _ _⟩
    case round =>
      obtain ⟨rfl, rfl, hbel⟩ := hrel
      by_cases hlt : 0 < n
      · go_wp2_with (go_at_call 12; refine (specT_c _ _ _ _ l (by first | assumption | omega) (by omega) _ (hR.below hbel)).mono ?_; rintro e w1 ⟨rfl, hb1⟩)
        go_ret
        exact ⟨by rw [HU.out]; rfl, (by repeat' (first | exact Below.refl _ _ | assumption | exact And.left (by assumption) | omega | (simp; done) | (simp; omega) | (simp at *; omega) | (refine Below.setCell ?_ ?_ _) | (refine below_alloc0 ?_ _) | (refine Below.drew ?_) | (refine below_drewN ?_ _) | (refine below_via0 ?_ (by assumption)) | (refine Below.alloc ?_ ?_ _) | (refine below_via ?_ (by assumption) ?_)))⟩
      · obtain rfl : n = 0 := by omega
        go_wp2
        go_ret
        exact ⟨by rw [HU.out]; rfl, (by repeat' (first | exact Below.refl _ _ | assumption | exact And.left (by assumption) | omega | (simp; done) | (simp; omega) | (simp at *; omega) | (refine Below.setCell ?_ ?_ _) | (refine below_alloc0 ?_ _) | (refine Below.drew ?_) | (refine below_drewN ?_ _) | (refine below_via0 ?_ (by assumption)) | (refine Below.alloc ?_ ?_ _) | (refine below_via ?_ (by assumption) ?_)))⟩
theorem nextB_c (b off n c : Nat) (l : List Task) (hl : l.length = n) (hn : n ≤ 1048576) (w : World) (hR : RdTask w b off l) :
    Calls Try.prog 19 #[.slice (some ⟨b, off, none⟩) n c] w fun e w' => e = .returned (.int .i64 (nextB l)) ∧ Below w.heap.size w w' := by
  by_cases hv : tasksB l = true
  · have HU := hide (show nextB l = nextTo l n by simp [nextB, hv, hl])
    go_enter Try.func19, Try.ntmps19
    go_wp2_with fail
    refine (implT_c _ _ _ _ l hl hn _ hR).mono ?_
    rintro e w1 ⟨rfl, hb1⟩
    go_wp2_with fail
    refine (nextImpl_c _ _ _ _ l hl hn _ (hR.below hb1)).mono ?_
    rintro e w2 ⟨rfl, hb2⟩
    go_wp2
    go_ret
    exact ⟨by rw [HU.out]; rfl, (by repeat' (first | exact Below.refl _ _ | assumption | exact And.left (by assumption) | omega | (simp; done) | (simp; omega) | (simp at *; omega) | (refine Below.setCell ?_ ?_ _) | (refine below_alloc0 ?_ _) | (refine Below.drew ?_) | (refine below_drewN ?_ _) | (refine below_via0 ?_ (by assumption)) | (refine Below.alloc ?_ ?_ _) | (refine below_via ?_ (by assumption) ?_)))⟩
  · have hv' : tasksB l = false := by simpa using hv
    have HU := hide (show nextB l = -1 by simp [nextB, hv'])
    clear hv
    go_enter Try.func19, Try.ntmps19
    go_wp2_with fail
    refine (implT_c _ _ _ _ l hl hn _ hR).mono ?_
    rintro e w1 ⟨rfl, hb1⟩
    go_wp2
    go_ret
    exact ⟨by rw [HU.out]; rfl, (by repeat' (first | exact Below.refl _ _ | assumption | exact And.left (by assumption) | omega | (simp; done) | (simp; omega) | (simp at *; omega) | (refine Below.setCell ?_ ?_ _) | (refine below_alloc0 ?_ _) | (refine Below.drew ?_) | (refine below_drewN ?_ _) | (refine below_via0 ?_ (by assumption)) | (refine Below.alloc ?_ ?_ _) | (refine below_via ?_ (by assumption) ?_)))⟩

set_option maxHeartbeats 1000000 in
theorem fnExactTasksValid_walk {w : World} (A : Option Addr) (n c : Nat) (l : List Task) (hA : InsTask w A n c l)  :
    Calls Try.prog 3 #[.slice A n c] w fun e w' => e = .returned (.bool true) ∧ Below w.heap.size w w' := by
  obtain ⟨hIn, hm, hc⟩ := hA
  by_cases h : (n : Int) ≤ 1048576
  · have g1 : 0 ≤ 1048576 - (n : Int) := by omega
    have hn : n ≤ 1048576 := by omega
    have hl := hide hIn.1
    have HI := hide hIn
    clear hIn
    go_enter Try.func3, Try.ntmps3
    go_wp2_with fail
    refine (szTask_yes _ _ _ _ h (by omega) _).mono ?_
    rintro e w' ⟨rfl, rfl⟩
    go_wp2_with fail
    refine (toTaskS_c _ _ _ l _ HI.out hn).mono ?_
    rintro e w1 ⟨b1, rfl, hg1, hR1, hb1⟩
    go_wp2_with fail
    refine (specT_c _ _ _ _ l hl.out hn _ hR1).mono ?_
    rintro e w2 ⟨rfl, hb2⟩
    have hB2 := below_via0 hb1 hb2
    have HI2 := hide (HI.out.below hB2)
    go_wp2_with fail
    refine (toTaskS_c _ _ _ l _ HI2.out hn).mono ?_
    rintro e w3 ⟨b3, rfl, hg3, hR3, hb3⟩
    have hB3 := below_via0 hB2 hb3
    go_wp2_with fail
    refine (implT_c _ _ _ _ l hl.out hn _ hR3).mono ?_
    rintro e w4 ⟨rfl, hb4⟩
    have hB4 := below_via0 hB3 hb4
    have HI4 := hide (HI.out.below hB4)
    go_wp2_with fail
    refine (toTaskS_c _ _ _ l _ HI4.out hn).mono ?_
    rintro e w5 ⟨b5, rfl, hg5, hR5, hb5⟩
    have hB5 := below_via0 hB4 hb5
    have hR3' := (hR3.below hb4).below hb5
    go_wp2_with fail
    refine (eqTaskS_c _ _ _ _ _ _ _ l hl.out hn _ hR3' hR5).mono ?_
    rintro e w6 ⟨rfl, hb6⟩
    have hB6 := below_via0 hB5 hb6
    go_wp2
    go_ret
    exact ⟨rfl, hB6⟩
  · go_enter Try.func3, Try.ntmps3
    go_wp2_with fail
    refine (szTask_no _ _ _ _ (by omega) (by omega) hm (by omega) _).mono ?_
    rintro e w' ⟨rfl, rfl⟩
    go_wp2
    go_ret
    exact ⟨rfl, Below.refl _ _⟩

set_option maxHeartbeats 1000000 in
theorem fnExactNextTask_walk {w : World} (A : Option Addr) (n c : Nat) (l : List Task) (hA : InsTask w A n c l)  :
    Calls Try.prog 5 #[.slice A n c] w fun e w' => e = .returned (.bool true) ∧ Below w.heap.size w w' := by
  obtain ⟨hIn, hm, hc⟩ := hA
  by_cases h : (n : Int) ≤ 1048576
  · have g1 : 0 ≤ 1048576 - (n : Int) := by omega
    have hn : n ≤ 1048576 := by omega
    have hl := hide hIn.1
    have HI := hide hIn
    clear hIn
    go_enter Try.func5, Try.ntmps5
    go_wp2_with fail
    refine (szTask_yes _ _ _ _ h (by omega) _).mono ?_
    rintro e w' ⟨rfl, rfl⟩
    go_wp2_with fail
    refine (toTaskS_c _ _ _ l _ HI.out hn).mono ?_
    rintro e w1 ⟨b1, rfl, hg1, hR1, hb1⟩
    go_wp2_with fail
    refine (nextSpec_c _ _ _ _ l hl.out hn _ hR1).mono ?_
    rintro e w2 ⟨rfl, hb2⟩
    have hB2 := below_via0 hb1 hb2
    have HI2 := hide (HI.out.below hB2)
    go_wp2_with fail
    refine (toTaskS_c _ _ _ l _ HI2.out hn).mono ?_
    rintro e w3 ⟨b3, rfl, hg3, hR3, hb3⟩
    have hB3 := below_via0 hB2 hb3
    go_wp2_with fail
    refine (nextB_c _ _ _ _ l hl.out hn _ hR3).mono ?_
    rintro e w4 ⟨rfl, hb4⟩
    have hB4 := below_via0 hB3 hb4
    have HI4 := hide (HI.out.below hB4)
    go_wp2_with fail
    refine (toTaskS_c _ _ _ l _ HI4.out hn).mono ?_
    rintro e w5 ⟨b5, rfl, hg5, hR5, hb5⟩
    have hB5 := below_via0 hB4 hb5
    have hR3' := (hR3.below hb4).below hb5
    go_wp2_with fail
    refine (eqTaskS_c _ _ _ _ _ _ _ l hl.out hn _ hR3' hR5).mono ?_
    rintro e w6 ⟨rfl, hb6⟩
    have hB6 := below_via0 hB5 hb6
    go_wp2
    go_ret
    exact ⟨rfl, hB6⟩
  · go_enter Try.func5, Try.ntmps5
    go_wp2_with fail
    refine (szTask_no _ _ _ _ (by omega) (by omega) hm (by omega) _).mono ?_
    rintro e w' ⟨rfl, rfl⟩
    go_wp2
    go_ret
    exact ⟨rfl, Below.refl _ _⟩
end Go.Proofs.Ytnpgofmihmjmeaa
