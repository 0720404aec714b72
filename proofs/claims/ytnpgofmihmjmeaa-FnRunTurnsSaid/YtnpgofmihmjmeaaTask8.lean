/-
  WakeTask of the reference. No condition.
-/
import Derived.Test.YtnpgofmihmjmeaaProg
import Derived.Test.YtnpgofmihmjmeaaTask7
import Derived.Shelf.RegionOpenPlain
import Derived.Lib.Walk
import Derived.Lib.SliceRun
namespace Go.Proofs.Ytnpgofmihmjmeaa
open Go.RowKit
set_option linter.unusedSimpArgs false
set_option linter.unusedVariables false

set_option maxHeartbeats 4000000 in
theorem wakeSpec_c (b off n c : Nat) (l : List Task) (hl : l.length = n) (hn : n ≤ 1048576) (q : Int) (w : World) (hR : RdTask w b off l) (hv : tasksB l = true) :
    Calls Try.prog 23 #[.slice (some ⟨b, off, none⟩) n c, .int .i64 q] w fun e w' => ∃ v, e = .returned (.tuple #[v, .bool (wakeQ l q).2]) ∧ OwnTask w.heap.size n (wakeQ l q).1 v w' ∧ Below w.heap.size w w' := by
  obtain ⟨i0, hi0, hz0, hz1, hz2⟩ := info_parts infoTask
  have HI := hide hi0
  have HZ0 := hide hz0
  have HZ1 := hide hz1
  have HZ2 := hide hz2
  clear hi0 hz0 hz1 hz2
  have hNB : nextB l = nextTo l n := by simp [nextB, hv, hl]
  by_cases hr : inB q 0 ((n : Int) - 1) = true
  · rw [inB_iff] at hr
    obtain ⟨q, rfl⟩ := Int.eq_ofNat_of_zero_le hr.1
    have hqn : q < n := by omega
    obtain ⟨t, ht⟩ : ∃ t, l[q]? = some t := ⟨_, List.getElem?_eq_getElem (by omega)⟩
    have HT := hide ht
    have hr' : inB (q : Int) 0 ((n : Int) - 1) = true := by rw [inB_iff]; exact hr
    have jj : (q : Int) < n := by omega
    cases hwt : t.waits with
    | false =>
      have HW := hide (show wakeQ l q = (l, false) by simp [wakeQ, HT.out, hwt])
      clear ht
      go_enter Try.func23, Try.ntmps23
      go_wp2_with fail
      refine (specT_c _ _ _ _ l hl hn _ hR).mono ?_
      rintro e w1 ⟨rfl, hb1⟩
      go_wp2_with (at_builtin; refine wpList_append_own _ rfl _ _ 25 rfl w1.heap.size 32 i0 _ 3 24 Try.underlying25 HI.out HZ0.out HZ1.out HZ2.out rfl (by decide) _ _ _ rfl (World.ownsRow_made w1 #[] 0 (Nat.le_refl _) (Nat.zero_le _) (by simp)) ⟨b, off, none⟩ n c (flatT l) rfl ?qc1 ?qc2 ?qc3 ?qc4 ?qc5 ?qc6 ?_)
      case qc1 => rw [flatT_len, hl]
      case qc2 =>
        intro j u hj
        rw [Addr.add_lit]
        exact Lib.cell?_alloc_some _ (flatT_cells (hR.below hb1) j u hj)
      case qc3 => exact flatT_one l
      case qc4 => rw [Nat.zero_add]; unfold maxLen; omega
      case qc5 => rw [Nat.zero_add]; omega
      case qc6 => simp
      intro v' w2 hown hgrow hnil
      obtain ⟨g, cap, m, rfl, hg, hcap, hm, hrow⟩ := ownT_of hl (by simpa using hown) hnil
      have hb2 : Below w1.heap.size w1 w2 := ((Below.refl _ w1).alloc (Nat.le_refl _) _).grown hgrow (by simp) (by intro k hk; simp [Value.ownBlock] at hk; omega)
      clear hown hgrow hnil
      have HRow := hide hrow
      have hg' : w.heap.size ≤ g := Nat.le_trans hb1.size hg
      have hR2 := (hR.below hb1).below hb2
      have hne : b ≠ g := by have := hR.1; omega
      have hcq : n ≤ cap := hcap
      have g1 := hrow.lt
      clear hrow
      have hb23 : Below w.heap.size w w2 := below_via0 hb1 hb2
      have c0 := hR2.2 q t HT.out
      go_wp2_with (go_at_call 34; refine (l1In_c _ _ _ _).mono ?_; rintro e w' ⟨rfl, rfl⟩)
      rw [HW.out]
      exact bodyPost_ret (v := .tuple #[.slice (some ⟨g, 0, none⟩) n cap, .bool false]) (by simp [results, Try.results23, go_sem]) rfl ⟨_, rfl, ⟨g, cap, m, rfl, hg', hcap, hm, HRow.out⟩, hb23⟩
    | true =>
      have HW := hide (show wakeQ l q = (l.set q (wakeT l t), true) by simp [wakeQ, HT.out, hwt])
      clear ht
      by_cases hk0 : nextTo l n < 0
      · have HK := hide (show wakeT l t = ⟨t.weight, t.had, false⟩ by simp [wakeT, hl]; omega)
        have HN := hide (show nextB l = -1 by have := (nextTo_bd l n).1; omega)
        clear hk0 hNB
        go_enter Try.func23, Try.ntmps23
        go_wp2_with fail
        refine (specT_c _ _ _ _ l hl hn _ hR).mono ?_
        rintro e w1 ⟨rfl, hb1⟩
        go_wp2_with (at_builtin; refine wpList_append_own _ rfl _ _ 25 rfl w1.heap.size 32 i0 _ 3 24 Try.underlying25 HI.out HZ0.out HZ1.out HZ2.out rfl (by decide) _ _ _ rfl (World.ownsRow_made w1 #[] 0 (Nat.le_refl _) (Nat.zero_le _) (by simp)) ⟨b, off, none⟩ n c (flatT l) rfl ?qc1 ?qc2 ?qc3 ?qc4 ?qc5 ?qc6 ?_)
        case qc1 => rw [flatT_len, hl]
        case qc2 =>
          intro j u hj
          rw [Addr.add_lit]
          exact Lib.cell?_alloc_some _ (flatT_cells (hR.below hb1) j u hj)
        case qc3 => exact flatT_one l
        case qc4 => rw [Nat.zero_add]; unfold maxLen; omega
        case qc5 => rw [Nat.zero_add]; omega
        case qc6 => simp
        intro v' w2 hown hgrow hnil
        obtain ⟨g, cap, m, rfl, hg, hcap, hm, hrow⟩ := ownT_of hl (by simpa using hown) hnil
        have hb2 : Below w1.heap.size w1 w2 := ((Below.refl _ w1).alloc (Nat.le_refl _) _).grown hgrow (by simp) (by intro k hk; simp [Value.ownBlock] at hk; omega)
        clear hown hgrow hnil
        have HRow := hide hrow
        have hg' : w.heap.size ≤ g := Nat.le_trans hb1.size hg
        have hR2 := (hR.below hb1).below hb2
        have hne : b ≠ g := by have := hR.1; omega
        have hcq : n ≤ cap := hcap
        have g1 := hrow.lt
        clear hrow
        have hb23 : Below w.heap.size w w2 := below_via0 hb1 hb2
        have c0 := hR2.2 q t HT.out
        go_wp2_with (go_at_call 34; refine (l1In_c _ _ _ _).mono ?_; rintro e w' ⟨rfl, rfl⟩)
        refine (nextSpec_c _ _ _ _ l hl hn _ hR2).mono ?_
        rintro e w3 ⟨rfl, hb3⟩
        rw [HN.out]
        have hrow3 := HRow.out.below hb3 g1
        have HRow3 := hide hrow3
        obtain ⟨x2, gs2⟩ := hrow3.some_ex (j := q * 3 + 2) (by omega)
        have gf2 := hrow3.frozen (q * 3 + 2)
        have hb33 : Below w.heap.size w w3 := below_via0 hb23 hb3
        have g3 := hrow3.lt
        clear hrow3
        go_wp2_with fail
        rw [HW.out, HK.out]
        exact bodyPost_ret (v := .tuple #[.slice (some ⟨g, 0, none⟩) n cap, .bool true]) (by simp [results, Try.results23, go_sem]) rfl ⟨_, rfl, ⟨g, cap, m, rfl, hg', hcap, hm, row_waits HRow3.out hm hqn HT.out false⟩, hb33.setCell (p := ⟨g, _, none⟩) hg' _⟩
      · have hk0' : 0 ≤ nextTo l n := by omega
        obtain ⟨p, hp⟩ := Int.eq_ofNat_of_zero_le hk0'
        have hpn : p < n := by have := (nextTo_bd l n).2; omega
        obtain ⟨s, hs⟩ : ∃ s, l[p]? = some s := ⟨_, List.getElem?_eq_getElem (by omega)⟩
        have HK := hide (show wakeT l t = ⟨t.weight, max t.had s.had, false⟩ by simp [wakeT, hl, hp, hadAt, hs])
        have HS := hide hs
        have HP := hide (hNB.trans hp)
        have pp : (p : Int) < n := by omega
        have hd : decide ((0 : Int) ≤ p) = true := by simp
        clear hs hp hk0 hk0' hNB
        go_enter Try.func23, Try.ntmps23
        go_wp2_with fail
        refine (specT_c _ _ _ _ l hl hn _ hR).mono ?_
        rintro e w1 ⟨rfl, hb1⟩
        go_wp2_with (at_builtin; refine wpList_append_own _ rfl _ _ 25 rfl w1.heap.size 32 i0 _ 3 24 Try.underlying25 HI.out HZ0.out HZ1.out HZ2.out rfl (by decide) _ _ _ rfl (World.ownsRow_made w1 #[] 0 (Nat.le_refl _) (Nat.zero_le _) (by simp)) ⟨b, off, none⟩ n c (flatT l) rfl ?qc1 ?qc2 ?qc3 ?qc4 ?qc5 ?qc6 ?_)
        case qc1 => rw [flatT_len, hl]
        case qc2 =>
          intro j u hj
          rw [Addr.add_lit]
          exact Lib.cell?_alloc_some _ (flatT_cells (hR.below hb1) j u hj)
        case qc3 => exact flatT_one l
        case qc4 => rw [Nat.zero_add]; unfold maxLen; omega
        case qc5 => rw [Nat.zero_add]; omega
        case qc6 => simp
        intro v' w2 hown hgrow hnil
        obtain ⟨g, cap, m, rfl, hg, hcap, hm, hrow⟩ := ownT_of hl (by simpa using hown) hnil
        have hb2 : Below w1.heap.size w1 w2 := ((Below.refl _ w1).alloc (Nat.le_refl _) _).grown hgrow (by simp) (by intro k hk; simp [Value.ownBlock] at hk; omega)
        clear hown hgrow hnil
        have HRow := hide hrow
        have hg' : w.heap.size ≤ g := Nat.le_trans hb1.size hg
        have hR2 := (hR.below hb1).below hb2
        have hne : b ≠ g := by have := hR.1; omega
        have hcq : n ≤ cap := hcap
        have g1 := hrow.lt
        clear hrow
        have hb23 : Below w.heap.size w w2 := below_via0 hb1 hb2
        have c0 := hR2.2 q t HT.out
        go_wp2_with (go_at_call 34; refine (l1In_c _ _ _ _).mono ?_; rintro e w' ⟨rfl, rfl⟩)
        refine (nextSpec_c _ _ _ _ l hl hn _ hR2).mono ?_
        rintro e w3 ⟨rfl, hb3⟩
        rw [HP.out]
        have hrow3 := HRow.out.below hb3 g1
        have HRow3 := hide hrow3
        have d1 := (RdT_of_row hrow3 hl).2 q _ HT.out
        simp only [Nat.zero_add] at d1
        have gf1 := hrow3.frozen (q * 3 + 1)
        have gf2 := hrow3.frozen (q * 3 + 2)
        have e0 := (hR2.below hb3).2 p s HS.out
        have hb33 : Below w.heap.size w w3 := below_via0 hb23 hb3
        have g3 := hrow3.lt
        have HT3 := hide (show (l.set q ⟨t.weight, t.had, false⟩)[q]? = some ⟨t.weight, t.had, false⟩ from List.getElem?_set_self (by omega))
        clear hrow3 c0
        go_wp2_with fail
        go_region
        go_wp2
        rw [HW.out, HK.out]
        have hrow4 := (row_had (row_waits HRow3.out hm hqn HT.out false) hm hqn HT3.out (max t.had s.had)).drew
        rw [List.set_set] at hrow4
        exact bodyPost_ret (v := .tuple #[.slice (some ⟨g, 0, none⟩) n cap, .bool true]) (by simp [results, Try.results23, go_sem]) rfl ⟨_, rfl, ⟨g, cap, m, rfl, hg', hcap, hm, hrow4⟩, ((hb33.setCell (p := ⟨g, _, none⟩) hg' _).setCell (p := ⟨g, _, none⟩) hg' _).drew⟩
  · have hr' : inB q 0 ((n : Int) - 1) = false := by simpa using hr
    have HW := hide (show wakeQ l q = (l, false) by
      rw [inB_no] at hr'
      unfold wakeQ
      split
      · rename_i t ht
        have := (List.getElem?_eq_some_iff.1 ht).1
        rw [if_neg (by omega)]
      · rfl)
    clear hr
    go_enter Try.func23, Try.ntmps23
    go_wp2_with fail
    refine (specT_c _ _ _ _ l hl hn _ hR).mono ?_
    rintro e w1 ⟨rfl, hb1⟩
    go_wp2_with (at_builtin; refine wpList_append_own _ rfl _ _ 25 rfl w1.heap.size 32 i0 _ 3 24 Try.underlying25 HI.out HZ0.out HZ1.out HZ2.out rfl (by decide) _ _ _ rfl (World.ownsRow_made w1 #[] 0 (Nat.le_refl _) (Nat.zero_le _) (by simp)) ⟨b, off, none⟩ n c (flatT l) rfl ?qc1 ?qc2 ?qc3 ?qc4 ?qc5 ?qc6 ?_)
    case qc1 => rw [flatT_len, hl]
    case qc2 =>
      intro j u hj
      rw [Addr.add_lit]
      exact Lib.cell?_alloc_some _ (flatT_cells (hR.below hb1) j u hj)
    case qc3 => exact flatT_one l
    case qc4 => rw [Nat.zero_add]; unfold maxLen; omega
    case qc5 => rw [Nat.zero_add]; omega
    case qc6 => simp
    intro v' w2 hown hgrow hnil
    obtain ⟨g, cap, m, rfl, hg, hcap, hm, hrow⟩ := ownT_of hl (by simpa using hown) hnil
    have hb2 : Below w1.heap.size w1 w2 := ((Below.refl _ w1).alloc (Nat.le_refl _) _).grown hgrow (by simp) (by intro k hk; simp [Value.ownBlock] at hk; omega)
    clear hown hgrow hnil
    have HRow := hide hrow
    have hg' : w.heap.size ≤ g := Nat.le_trans hb1.size hg
    have hR2 := (hR.below hb1).below hb2
    have hne : b ≠ g := by have := hR.1; omega
    have hcq : n ≤ cap := hcap
    have g1 := hrow.lt
    clear hrow
    have hb23 : Below w.heap.size w w2 := below_via0 hb1 hb2
    go_wp2_with (go_at_call 34; refine (l1In_c _ _ _ _).mono ?_; rintro e w' ⟨rfl, rfl⟩)
    rw [HW.out]
    exact bodyPost_ret (v := .tuple #[.slice (some ⟨g, 0, none⟩) n cap, .bool false]) (by simp [results, Try.results23, go_sem]) rfl ⟨_, rfl, ⟨g, cap, m, rfl, hg', hcap, hm, HRow.out⟩, hb23⟩
end Go.Proofs.Ytnpgofmihmjmeaa
