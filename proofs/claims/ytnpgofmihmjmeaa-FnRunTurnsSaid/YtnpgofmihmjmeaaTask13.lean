/-
  RunTurns of the reference. No condition.
-/
import Derived.Test.YtnpgofmihmjmeaaProg
import Derived.Test.YtnpgofmihmjmeaaTask12
import Derived.Maps.AppendAt
import Derived.OneCell
import Derived.Shelf.RegionOpenPlain
import Derived.Lib.Walk
import Derived.Lib.SliceRun
namespace Go.Proofs.Ytnpgofmihmjmeaa
open Go.RowKit
set_option linter.unusedSimpArgs false
set_option linter.unusedVariables false

set_option maxHeartbeats 4000000 in
theorem runSpec_c (b off n c : Nat) (l : List Task) (hl : l.length = n) (hn : n ≤ 1048576) (q : Nat) (w : World) (hR : RdTask w b off l) (hv : tasksB l = true) (hq : q ≤ 60) :
    Calls Try.prog 29 #[.slice (some ⟨b, off, none⟩) n c, .int .i64 q] w (RanSpec w n (runT q l [])) := by
  obtain ⟨i0, hi0, hz0, hz1, hz2⟩ := info_parts infoI
  have HI := hide hi0
  have HZ0 := hide hz0
  have HZ1 := hide hz1
  have HZ2 := hide hz2
  clear hi0 hz0 hz1 hz2
  obtain ⟨i1, hi0, hz0, hz1, hz2⟩ := info_parts infoTask
  have TI := hide hi0
  have TZ0 := hide hz0
  have TZ1 := hide hz1
  have TZ2 := hide hz2
  clear hi0 hz0 hz1 hz2
  have hr' : inB (q : Int) 0 60 = true := by rw [inB_iff]; omega
  have HV := hide hv
  have HL := hide hl
  have h6 : n ≤ 6 := by have := (tasksB_iff.1 hv).2; omega
  have hq64 : (q : Int) ≤ 60 := by omega
  have hR0 := hR.below (below_alloc0 (Below.refl _ w) (.cells #[] 3))
  go_enter Try.func29, Try.ntmps29
  go_wp2_with fail
  refine (specT_c _ _ _ _ l hl hn _ hR0).mono ?_
  rintro e w1 ⟨rfl, hb1⟩
  have s1 := hb1.size
  simp at s1
  have hown1 := own_below (World.ownsRow_made (e := 3) (size := 1) w #[] 0 (Nat.le_refl _) (Nat.zero_le _) (by simp)) hb1
  have hR1 := hR0.below hb1
  have hB1 : Below w.heap.size w w1 := below_via0 (below_alloc0 (Below.refl _ w) _) hb1
  go_wp2_with (first | (go_at_call 34; refine (l1In_c _ _ _ _).mono ?_; rintro e w' ⟨rfl, rfl⟩) | (at_builtin; refine wpList_append_own _ rfl _ _ 25 rfl w1.heap.size 32 i1 _ 3 24 Try.underlying25 TI.out TZ0.out TZ1.out TZ2.out rfl (by decide) _ _ _ rfl (World.ownsRow_made w1 #[] 0 (Nat.le_refl _) (Nat.zero_le _) (by simp)) ⟨b, off, none⟩ n c (flatT l) rfl ?qc1 ?qc2 ?qc3 ?qc4 ?qc5 ?qc6 ?_))
  case qc1 => rw [flatT_len, hl]
  case qc2 =>
    intro j u hj
    rw [Addr.add_lit]
    exact Lib.cell?_alloc_some _ (flatT_cells hR1 j u hj)
  case qc3 => exact flatT_one l
  case qc4 => rw [Nat.zero_add]; unfold maxLen; omega
  case qc5 => rw [Nat.zero_add]; omega
  case qc6 => simp
  intro v' w2 hown hgrow hnil
  obtain ⟨g, cap, m, rfl, hg, hcap, hm, hrow⟩ := ownT_of hl (by simpa using hown) hnil
  have hb2 : Below w1.heap.size w1 w2 := ((Below.refl _ w1).alloc (Nat.le_refl _) _).grown hgrow (by simp) (by intro k hk; simp [Value.ownBlock] at hk; omega)
  clear hown hgrow hnil
  have hown2 := own_below hown1 hb2
  have HOWN2 := hide hown2
  have HRow := hide hrow
  have hg' : w.heap.size ≤ g := by omega
  have hgw : g ≠ w.heap.size := by omega
  have g1 := hrow.lt
  clear hrow hown2 hown1
  have hB2 : Below w.heap.size w w2 := below_via0 hB1 hb2
  go_wp2_with fail
  go_loopw [6, 8] (fun hv iv wr => ∃ (i : Nat) (l' : List Task) (ps : List Int), i ≤ q ∧ iv = .int .i64 i ∧ Hid (wr.ownsRow w.heap.size 3 1 hv ps.length (ps.map (Value.int .i64))) ∧ Hid (hv ≠ .slice none 0 0) ∧ Hid (hv.ownBlock ≠ some g) ∧ Row wr g m (doneTask l' n) ∧ Hid (l'.length = n) ∧ Hid (tasksB l' = true) ∧
      Hid (runT (q - i) l' ps = runT q l []) ∧ ps.length ≤ i ∧ Below w.heap.size w wr) (fun _ iv _ => q - (intOf iv).toNat)
  case atStart =>
    exact ⟨0, l, [], by omega, rfl, HOWN2.out, (fun e => by cases e), (fun e => by simp [Value.ownBlock] at e; omega), HRow.out, HL.out, HV.out, rfl, by simp, hB2⟩
  case round =>
    obtain ⟨i, l', ps, hi, rfl, hown, hne, hat0, hrow, hl', hv', hrun, hps, hbel⟩ := hrel
    obtain ⟨g', cap', m', rfl, hg0', hc', hm', hrow'⟩ := ownI_of rfl hown.out hne.out
    have hgg : g ≠ g' := fun e => hat0.out (by simp [Value.ownBlock, e])
    have HR' := hide hrow
    have HRI := hide hrow'
    have hgw' := hrow.lt
    have hgw'' := hrow'.lt
    by_cases hlt : i < q
    · have hR' := RdT_of_row hrow hl'.out
      obtain ⟨j, hj⟩ : ∃ j, q - i = j + 1 := ⟨q - i - 1, by omega⟩
      have HJ := hide hj
      have HNB := hide (show nextB l' = nextTo l' n by have := hv'.out; have := hl'.out; simp [nextB, *])
      clear hj hrow hrow'
      by_cases hk0 : nextTo l' n < 0
      · have hfin := hide (show runT q l [] = some (l', ps) by rw [← hrun.out]; exact runT_stop (by rw [hl'.out]; exact hk0) _ _)
        go_wp2_with fail
        refine (nextSpec_c _ _ _ _ l' hl'.out hn _ hR').mono ?_
        rintro e w3 ⟨rfl, hb3⟩
        rw [HNB.out]
        have hr3 := HR'.out.below hb3 hgw'
        have hr3' := HRI.out.below hb3 hgw''
        have hb13 := below_via0 hbel hb3
        go_wp2_with fail
        rw [hfin.out]
        exact bodyPost_ret (v := .tuple #[.slice (some ⟨g, 0, none⟩) n cap, .slice (some ⟨g', 0, none⟩) ps.length cap']) (by simp [results, Try.results29, go_sem]) rfl ⟨g, cap, m, g', cap', m', rfl, hg', by omega, hgg, hcap, hm, hr3, hc', hm', hr3', hb13⟩
      · have hk0' : 0 ≤ nextTo l' n := by omega
        obtain ⟨p, hp⟩ := Int.eq_ofNat_of_zero_le hk0'
        have hpn : p < n := by have := (nextTo_bd l' n).2; omega
        have hl0 := hl'.out
        obtain ⟨t, ht⟩ : ∃ t, l'[p]? = some t := ⟨_, List.getElem?_eq_getElem (by omega)⟩
        have hp' : nextTo l' l'.length = p := by rw [hl0]; exact hp
        have hT := (tasksB_iff.1 hv'.out).1 p t (by omega) ht
        obtain ⟨w1', w2'⟩ := inB_iff.1 hT.1
        obtain ⟨h1', h2'⟩ := inB_iff.1 hT.2
        obtain ⟨dv1, dv2⟩ := div_bd hT.1
        have HT := hide ht
        have HP := hide (HNB.out.trans hp)
        have HP' := hide hp'
        have pp : (p : Int) < n := by omega
        have hpc : p < cap := by omega
        have hd : decide ((p : Int) < 0) = false := by simp
        clear hk0 hk0' hp hp' ht hT hl0
        by_cases ho : 1000000 < t.had + 2520 / t.weight
        · have hfin := hide (show runT q l [] = none by rw [← hrun.out, HJ.out]; exact runT_over HP'.out HT.out ho _ _)
          have hv3 := hide (tasksB_over HT.out ho)
          go_wp2_with fail
          refine (nextSpec_c _ _ _ _ l' hl'.out hn _ hR').mono ?_
          rintro e w3 ⟨rfl, hb3⟩
          rw [HP.out]
          have hr3 := HR'.out.below hb3 hgw'
          have d1 := (RdT_of_row hr3 hl'.out).2 p t HT.out
          simp only [Nat.zero_add] at d1
          have gf1 := hr3.frozen (p * 3 + 1)
          have g3 := hr3.lt
          have hb13 := below_via0 hbel hb3
          have HR3 := hide hr3
          have hown3 := hide (own_below hown.out hb3)
          have hs3 := hb3.size
          clear hr3
          go_wp2_with fail
          go_region
          have hown4 := fun (T : TypeId) x => World.ownsRow.alloc (World.ownsRow.drew (ownsRow_setCell_other hown3.out (a := ⟨g, p * 3 + 1, none⟩) (by simp [Value.ownBlock]; omega) (.int .i64 (t.had + 2520 / t.weight)))) (.cells #[x] T)
          go_wp2_with (at_builtin; refine wpList_append_own_at _ rfl _ _ 42 rfl w.heap.size 3 i0 (.int .i64 0) 1 8 Try.underlying42 HI.out HZ0.out HZ1.out HZ2.out rfl (by decide) _ _ _ rfl (hown4 _ _) ⟨w3.heap.size, 0, none⟩ 1 1 [.int .i64 (p : Int)] rfl rfl ?qc2 ?qc3 ?qc4 ?qc5 ?qc6 ?_)
          case qc2 => exact one_new _ _ _ (by simp)
          case qc3 => exact one_cell rfl
          case qc4 => unfold maxLen; omega
          case qc5 => omega
          case qc6 => simp; have := hb13.size; omega
          intro v' w5 hown5 hgrow hnil hat
          have hne5 := hide (show v' ≠ .slice none 0 0 from fun e => by simp [e] at hnil)
          have hat5 := hide (show v'.ownBlock ≠ some g from fun e => by
            rw [e] at hat
            simp [Value.ownBlock] at hat
            omega)
          have hown5' := hide (show w5.ownsRow w.heap.size 3 1 v' (ps ++ [(p : Int)]).length ((ps ++ [(p : Int)]).map (Value.int .i64)) by simpa using hown5)
          have hr5 := (((row_had HR3.out hm hpn HT.out (t.had + 2520 / t.weight)).drew).alloc (.cells #[.int .i64 (p : Int)] 3)).grown hgrow (by simp [Value.ownBlock]; omega)
          have hb5 := ((((hb13.setCell (p := ⟨g, p * 3 + 1, none⟩) hg' (.int .i64 (t.had + 2520 / t.weight))).drew).alloc (by have := hb13.size; simp; omega) (.cells #[.int .i64 (p : Int)] 3))).grown hgrow (by have := hb13.size; simp; omega) (by intro k hk; simp [Value.ownBlock] at hk; omega)
          clear hown5 hgrow hnil hat
          have hl5 := hide (show (l'.set p (gave t)).length = n by simpa using hl'.out)
          go_wp2_with fail
          refine (specT_c _ _ _ _ (l'.set p (gave t)) hl5.out hn _ (RdT_of_row hr5 hl5.out)).mono ?_
          rintro e w6 ⟨rfl, hb6⟩
          rw [hv3.out]
          have g5 := hr5.lt
          have hb56 := below_via0 hb5 hb6
          go_wp2_with fail
          rw [hfin.out]
          exact bodyPost_ret (v := .tuple #[.slice (some ⟨w6.heap.size, 0, none⟩) 0 0, .slice (some ⟨w6.heap.size + 1, 0, none⟩) 0 0]) (by simp [results, Try.results29, go_sem]) rfl ⟨⟨_, _, rfl, hb56.size, by have := hb56.size; omega, (by first | (simp; done) | (simp; omega)), (by first | (simp; done) | (simp; omega))⟩, (by repeat' (first | exact Below.refl _ _ | assumption | exact And.left (by assumption) | omega | (simp; done) | (simp; omega) | (simp at *; omega) | (refine Below.setCell ?_ ?_ _) | (refine below_alloc0 ?_ _) | (refine Below.drew ?_) | (refine below_drewN ?_ _) | (refine below_via0 ?_ (by assumption)) | (refine Below.alloc ?_ ?_ _) | (refine below_via ?_ (by assumption) ?_)))⟩
        · have hfin := hide (show runT (q - (i + 1)) (l'.set p (gave t)) (ps ++ [(p : Int)]) = runT q l [] by
            rw [← hrun.out, HJ.out, runT_step HP'.out HT.out ho]; congr 1; have := HJ.out; omega)
          have hv3 := hide (tasksB_gave hv'.out HT.out ho)
          have hv4 := hv3
          go_wp2_with fail
          refine (nextSpec_c _ _ _ _ l' hl'.out hn _ hR').mono ?_
          rintro e w3 ⟨rfl, hb3⟩
          rw [HP.out]
          have hr3 := HR'.out.below hb3 hgw'
          have d1 := (RdT_of_row hr3 hl'.out).2 p t HT.out
          simp only [Nat.zero_add] at d1
          have gf1 := hr3.frozen (p * 3 + 1)
          have g3 := hr3.lt
          have hb13 := below_via0 hbel hb3
          have HR3 := hide hr3
          have hown3 := hide (own_below hown.out hb3)
          have hs3 := hb3.size
          clear hr3
          go_wp2_with fail
          go_region
          have hown4 := fun (T : TypeId) x => World.ownsRow.alloc (World.ownsRow.drew (ownsRow_setCell_other hown3.out (a := ⟨g, p * 3 + 1, none⟩) (by simp [Value.ownBlock]; omega) (.int .i64 (t.had + 2520 / t.weight)))) (.cells #[x] T)
          go_wp2_with (at_builtin; refine wpList_append_own_at _ rfl _ _ 42 rfl w.heap.size 3 i0 (.int .i64 0) 1 8 Try.underlying42 HI.out HZ0.out HZ1.out HZ2.out rfl (by decide) _ _ _ rfl (hown4 _ _) ⟨w3.heap.size, 0, none⟩ 1 1 [.int .i64 (p : Int)] rfl rfl ?qc2 ?qc3 ?qc4 ?qc5 ?qc6 ?_)
          case qc2 => exact one_new _ _ _ (by simp)
          case qc3 => exact one_cell rfl
          case qc4 => unfold maxLen; omega
          case qc5 => omega
          case qc6 => simp; have := hb13.size; omega
          intro v' w5 hown5 hgrow hnil hat
          have hne5 := hide (show v' ≠ .slice none 0 0 from fun e => by simp [e] at hnil)
          have hat5 := hide (show v'.ownBlock ≠ some g from fun e => by
            rw [e] at hat
            simp [Value.ownBlock] at hat
            omega)
          have hown5' := hide (show w5.ownsRow w.heap.size 3 1 v' (ps ++ [(p : Int)]).length ((ps ++ [(p : Int)]).map (Value.int .i64)) by simpa using hown5)
          have hr5 := (((row_had HR3.out hm hpn HT.out (t.had + 2520 / t.weight)).drew).alloc (.cells #[.int .i64 (p : Int)] 3)).grown hgrow (by simp [Value.ownBlock]; omega)
          have hb5 := ((((hb13.setCell (p := ⟨g, p * 3 + 1, none⟩) hg' (.int .i64 (t.had + 2520 / t.weight))).drew).alloc (by have := hb13.size; simp; omega) (.cells #[.int .i64 (p : Int)] 3))).grown hgrow (by have := hb13.size; simp; omega) (by intro k hk; simp [Value.ownBlock] at hk; omega)
          clear hown5 hgrow hnil hat
          have hl5 := hide (show (l'.set p (gave t)).length = n by simpa using hl'.out)
          go_wp2_with fail
          refine (specT_c _ _ _ _ (l'.set p (gave t)) hl5.out hn _ (RdT_of_row hr5 hl5.out)).mono ?_
          rintro e w6 ⟨rfl, hb6⟩
          rw [hv3.out]
          have g5 := hr5.lt
          have hb56 := below_via0 hb5 hb6
          have hr6 := hr5.below hb6 g5
          have hown6 := hide (own_below hown5'.out hb6)
          clear hr5
          go_wp2_with fail
          exact ⟨⟨i + 1, l'.set p (gave t), ps ++ [(p : Int)], by omega, by go_num, hown6.out, hne5.out, hat5.out, hr6, hl5.out, hv4.out, hfin.out, by simp; omega, hb56⟩, by simp [intOf]; omega⟩
    · obtain rfl : i = q := by omega
      have hfin := hide (show runT i l [] = some (l', ps) by rw [← hrun.out, Nat.sub_self]; rfl)
      go_wp2_with fail
      rw [hfin.out]
      exact bodyPost_ret (v := .tuple #[.slice (some ⟨g, 0, none⟩) n cap, .slice (some ⟨g', 0, none⟩) ps.length cap']) (by simp [results, Try.results29, go_sem]) rfl ⟨g, cap, m, g', cap', m', rfl, hg', by omega, hgg, hcap, hm, hrow, hc', hm', hrow', hbel⟩
end Go.Proofs.Ytnpgofmihmjmeaa
