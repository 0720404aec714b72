/-
  The exact law's walk of WakeTask. No condition.
-/
import Derived.Test.YtnpgofmihmjmeaaProg
import Derived.Test.YtnpgofmihmjmeaaTask8
namespace Go.Proofs.Ytnpgofmihmjmeaa
open Go.RowKit
set_option linter.unusedSimpArgs false
set_option linter.unusedVariables false

def MadeRow (w : World) (n : Nat) (l : List Task) (e : Ending) (w' : World) : Prop :=
  ∃ g, e = .returned (.slice (some ⟨g, 0, none⟩) n n) ∧ w.heap.size ≤ g ∧ Row w' g (n * 3) (doneTask l n) ∧ Below w.heap.size w w'
set_option maxHeartbeats 1000000 in
theorem toTaskR_c (A : Option Addr) (n c : Nat) (l : List Task) (w : World) (hA : InTask w A n l) (hn : n ≤ 1048576) :
    Calls Try.prog 13 #[.slice A n c] w (MadeRow w n l) := by
  obtain ⟨i0, hi0, hz0, hz1, hz2⟩ := info_parts infoTask
  have hmk := fun W => run_make_rowN (P := Try.prog) 25 32 i0 _ Try.underlying25 hi0 hz0 .i64 .i64 n n (Nat.le_refl _) (by rw [hz2]; omega) (by omega) W
  rw [hz1] at hmk
  have hA' := hide hA
  clear hA
  go_enter Try.func13, Try.ntmps13
  go_wp2_with fail
  clear hmk
  generalize hW : w.alloc (.cells (madeCells #[.int .i64 0, .int .i64 0, .bool false] (n * 3)) 32) = W
  have hr0 : Row W w.heap.size (n * 3) (doneTask l 0) := by
    rw [← hW]
    have := Row.made w 32 (madeCells #[.int .i64 0, .int .i64 0, .bool false] (n * 3)) (doneTask l 0) (fun j u hj => by simp [doneTask] at hj)
    rwa [size_madeCells] at this
  have hb0 : Below w.heap.size w W := by rw [← hW]; exact below_alloc0 (Below.refl _ _) _
  clear hW
  go_loopw [4] (fun i wr => ∃ k : Nat, k ≤ n ∧ i = .int .i64 k ∧ Row wr w.heap.size (n * 3) (doneTask l k) ∧ Below w.heap.size w wr) (fun i _ => n - (intOf i).toNat)
  case atStart => exact ⟨0, by omega, rfl, hr0, hb0⟩
  case round =>
    obtain ⟨k, hk, rfl, hrow, hbel⟩ := hrel
    by_cases hlt : k < n
    · obtain ⟨hl, hin⟩ := hA'.out
      obtain ⟨b, off, rfl, hR⟩ := hin (by omega)
      clear hin
      obtain ⟨t, ht⟩ : ∃ t, l[k]? = some t := ⟨_, List.getElem?_eq_getElem (by omega)⟩
      have HT := hide ht
      have hlb : b < wr.heap.size := Nat.lt_of_lt_of_le hR.1 hbel.size
      have c0 := (hR.below hbel).2 k t ht
      have HL := hide hl
      clear ht hl
      have g1 := hrow.lt
      obtain ⟨x0, gs0⟩ := hrow.some_ex (j := k * 3) (by omega)
      obtain ⟨x1, gs1⟩ := hrow.some_ex (j := k * 3 + 1) (by omega)
      obtain ⟨x2, gs2⟩ := hrow.some_ex (j := k * 3 + 2) (by omega)
      have gf0 := hrow.frozen (k * 3)
      have gf1 := hrow.frozen (k * 3 + 1)
      have gf2 := hrow.frozen (k * 3 + 2)
      go_wp2_with fail
      refine (toTask_c _ _ _ _).mono ?_
      rintro e w1 ⟨rfl, hb1⟩
      have V1 := live hb1 w.heap.size (by omega)
      go_wp2_with fail
      refine ⟨⟨k + 1, by omega, by go_num, row_nextTask (hrow.below hb1 g1) hlt HT.out, (by repeat' (first | exact Below.refl _ _ | assumption | exact And.left (by assumption) | omega | (simp; done) | (simp; omega) | (simp at *; omega) | (refine Below.setCell ?_ ?_ _) | (refine below_alloc0 ?_ _) | (refine Below.drew ?_) | (refine below_drewN ?_ _) | (refine below_via0 ?_ (by assumption)) | (refine Below.alloc ?_ ?_ _) | (refine below_via ?_ (by assumption) ?_)))⟩, by simp [intOf]; omega⟩
    · obtain rfl : k = n := by omega
      go_wp2
      go_ret
      exact ⟨w.heap.size, rfl, Nat.le_refl _, hrow, (by repeat' (first | exact Below.refl _ _ | assumption | exact And.left (by assumption) | omega | (simp; done) | (simp; omega) | (simp at *; omega) | (refine Below.setCell ?_ ?_ _) | (refine below_alloc0 ?_ _) | (refine Below.drew ?_) | (refine below_drewN ?_ _) | (refine below_via0 ?_ (by assumption)) | (refine Below.alloc ?_ ?_ _) | (refine below_via ?_ (by assumption) ?_)))⟩


set_option maxHeartbeats 4000000 in
theorem wakeLaw_yes {w : World} (A : Option Addr) (n c : Nat) (l L : List Task) (q : Int) (B : Bool) (hA : InsTask w A n c l) (h : (n : Int) ≤ 1048576) (hv : tasksB l = true) (hq : wakeQ l q = (L, B)) (hL : L.length = n) :
    Calls Try.prog 8 #[.slice A n c, .int .i64 q] w fun e w' => e = .returned (.bool true) ∧ Below w.heap.size w w' := by
  obtain ⟨hIn, hm, hc⟩ := hA
  have g1 : 0 ≤ 1048576 - (n : Int) := by omega
  have hn : n ≤ 1048576 := by omega
  have hl := hide hIn.1
  have HI := hide hIn
  have HL := hide hL
  have gk : ¬ (1 + 3 * (n : Int) < 0) := by omega
  clear hIn hL
  go_enter Try.func8, Try.ntmps8
  go_wp2_with fail
  refine (szTask_yes _ _ _ _ h (by omega) _).mono ?_
  rintro e w' ⟨rfl, rfl⟩
  go_wp2_with fail
  refine (toTaskS_c _ _ _ l _ HI.out hn).mono ?_
  rintro e w1 ⟨b1, rfl, hg1, hR1, hb1⟩
  go_wp2_with fail
  refine (wakeSpec_c _ _ _ _ l hl.out hn q _ hR1 hv).mono ?_
  rintro e w2 ⟨_, rfl, ⟨gw, cw, mw, rfl, hgw, hcw, hmw, hroww⟩, hb2⟩
  rw [hq] at hroww
  rw [hq]
  have hB2 := below_via0 hb1 hb2
  have hRw := RdT_of_row hroww HL.out
  clear hroww
  go_wp2_with fail
  refine (toTaskR_c _ _ _ l _ (HI.out.below hB2) hn).mono ?_
  rintro e w3 ⟨b3, rfl, hg3, hrow3, hb3⟩
  have hB3 := below_via0 hB2 hb3
  have hRw3 := hRw.below hb3
  have hR3 := RdT_of_row hrow3 hl.out
  have HROW3 := hide hrow3
  clear hrow3
  go_wp2_with fail
  refine (wakeImpl_c _ _ _ _ l hl.out hn q _ hR3 hv).mono ?_
  rintro e w4 ⟨_, rfl, ⟨gg, cg, mg, rfl, hgg, hcg, hmg, hrowg⟩, hb4⟩
  rw [hq] at hrowg
  rw [hq]
  have hB4 := below_via0 hB3 hb4
  have hRw4 := hRw3.below hb4
  have hR4 := hR3.below hb4
  have HROW4 := hide (HROW3.out.below hb4 hR3.1)
  have hRg := RdT_of_row hrowg HL.out
  have HROWG := hide hrowg
  clear hrowg
  go_wp2_with fail
  refine (eqTaskS_c _ _ _ _ _ _ _ L HL.out hn _ hRg hRw4).mono ?_
  rintro e w5 ⟨rfl, hb5⟩
  have hB5 := below_via0 hB4 hb5
  go_wp2_with fail
  refine (toTaskS_c _ _ _ l _ (HI.out.below hB5) hn).mono ?_
  rintro e w6 ⟨b6, rfl, hg6, hR6, hb6⟩
  have hB6 := below_via0 hB5 hb6
  have hB46 := below_via0 hb5 hb6
  go_wp2_with fail
  refine (eqTaskS_c _ _ _ _ _ _ _ l hl.out hn _ (hR4.below hB46) hR6).mono ?_
  rintro e w7 ⟨rfl, hb7⟩
  have hB7 := below_via0 hB6 hb7
  have hB47 := below_via0 hB46 hb7
  go_wp2_with fail
  refine (markTask_c _ n _ (n * 3) (fun _ => none) hn _ (Nat.le_refl _) ((HROW4.out.below hB47 hR4.1).mono (fun j u hj => by cases hj))).mono ?_
  rintro e w8 ⟨rfl, hoff8, hrow8⟩
  have q1 := hRw.1
  have q2 := hR3.1
  have hRw8 := hoff8.rd (show gw ≠ b3 by omega) (hRw4.below hB47)
  have hRg8 := hoff8.rd (show gg ≠ b3 by omega) (hRg.below hB47)
  have s2 := hB2.size
  have s7 := hB7.size
  have hB8 := hoff8.below hB7 (by omega) (by omega)
  have HG8 := hide ((HROWG.out.below hB47 hRg.1).keep (hoff8.2 gg (Nat.lt_of_lt_of_le hRg.1 hB47.size) (by omega)))
  go_wp2_with fail
  refine (eqTaskS_c _ _ _ _ _ _ _ L HL.out hn _ hRg8 hRw8).mono ?_
  rintro e w9 ⟨rfl, hb9⟩
  have hB9 := below_via0 hB8 hb9
  go_wp2_with fail
  refine (markTask_c _ n _ mg (fun _ => none) hn _ hmg ((HG8.out.below hb9 hRg8.1).mono (fun j u hj => by cases hj))).mono ?_
  rintro e w10 ⟨rfl, hoff10, hrow10⟩
  have hM10 := RdT_of_row hrow10 (mkL_len n)
  have hRw10 := hoff10.rd (show gw ≠ gg by omega) (hRw8.below hb9)
  have s9 := hB9.size
  have s3 := hB3.size
  have hB10 := hoff10.below hB9 (by omega) (by omega)
  clear hrow10 hrow8
  go_wp2_with fail
  refine (heldTask_c _ _ n _ hn _ hM10).mono ?_
  rintro e w11 ⟨rfl, hb11⟩
  have hB11 := below_via0 hB10 hb11
  go_wp2_with fail
  refine (toTaskS_c _ _ _ l _ (HI.out.below hB11) hn).mono ?_
  rintro e w12 ⟨b12, rfl, hg12, hR12, hb12⟩
  have hB12 := below_via0 hB11 hb12
  go_wp2_with fail
  refine (wakeImpl_c _ _ _ _ l hl.out hn q _ hR12 hv).mono ?_
  rintro e w13 ⟨_, rfl, ⟨gh, ch, mh, rfl, hgh, hch, hmh, hrowh⟩, hb13⟩
  rw [hq] at hrowh
  rw [hq]
  have hB13 := below_via0 hB12 hb13
  have hRh := RdT_of_row hrowh HL.out
  have hB1013 := below_via0 (below_via0 hb11 hb12) hb13
  clear hrowh
  go_wp2_with fail
  refine (eqTaskS_c _ _ _ _ _ _ _ L HL.out hn _ hRh (hRw10.below hB1013)).mono ?_
  rintro e w14 ⟨rfl, hb14⟩
  have hB14 := below_via0 hB13 hb14
  go_wp2_with fail
  refine (heldTask_c _ _ n _ hn _ ((hM10.below hB1013).below hb14)).mono ?_
  rintro e w15 ⟨rfl, hb15⟩
  have hB15 := below_via0 hB14 hb15
  go_wp2
  go_ret
  exact ⟨rfl, hB15⟩
end Go.Proofs.Ytnpgofmihmjmeaa
