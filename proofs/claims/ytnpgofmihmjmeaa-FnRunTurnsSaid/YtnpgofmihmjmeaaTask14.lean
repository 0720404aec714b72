/-
  The exact law's walk of RunTurns. No condition.
-/
import Derived.Test.YtnpgofmihmjmeaaProg
import Derived.Test.YtnpgofmihmjmeaaTask13
namespace Go.Proofs.Ytnpgofmihmjmeaa
open Go.RowKit
set_option linter.unusedSimpArgs false
set_option linter.unusedVariables false

theorem eqI_0 (A A' : Option Addr) (c c' : Nat) (w : World) :
    Calls Try.prog 31 #[.slice A (0 : Nat) c, .slice A' (0 : Nat) c'] w fun e w' => e = .returned (.bool true) ∧ Below w.heap.size w w' := by
  go_enter Try.func31, Try.ntmps31
  go_wp2_with fail
  go_loopw [5] (fun i wr => i = .int .i64 0 ∧ Below w.heap.size w wr) (fun i _ => 0)
  case atStart => exact ⟨rfl, Below.refl _ _⟩
  case round =>
    obtain ⟨rfl, hbel⟩ := hrel
    go_wp2
    go_ret
    exact ⟨rfl, (by repeat' (first | exact Below.refl _ _ | assumption | exact And.left (by assumption) | omega | (simp; done) | (simp; omega) | (simp at *; omega) | (refine Below.setCell ?_ ?_ _) | (refine below_alloc0 ?_ _) | (refine Below.drew ?_) | (refine below_drewN ?_ _) | (refine below_via0 ?_ (by assumption)) | (refine Below.alloc ?_ ?_ _) | (refine below_via ?_ (by assumption) ?_)))⟩
theorem markI_0 (A : Option Addr) (c : Nat) (w : World) :
    Calls Try.prog 32 #[.slice A (0 : Nat) c, .int .i64 1] w fun e w' => e = .returned (.int .i64 1) ∧ Below w.heap.size w w' := by
  go_enter Try.func32, Try.ntmps32
  go_wp2_with fail
  go_loopw [1, 5] (fun q i wr => q = .int .i64 1 ∧ i = .int .i64 0 ∧ Below w.heap.size w wr) (fun _ i _ => 0)
  case atStart => exact ⟨rfl, rfl, Below.refl _ _⟩
  case round =>
    obtain ⟨rfl, rfl, hbel⟩ := hrel
    go_wp2
    go_ret
    exact ⟨rfl, (by repeat' (first | exact Below.refl _ _ | assumption | exact And.left (by assumption) | omega | (simp; done) | (simp; omega) | (simp at *; omega) | (refine Below.setCell ?_ ?_ _) | (refine below_alloc0 ?_ _) | (refine Below.drew ?_) | (refine below_drewN ?_ _) | (refine below_via0 ?_ (by assumption)) | (refine Below.alloc ?_ ?_ _) | (refine below_via ?_ (by assumption) ?_)))⟩
theorem heldI_0 (A : Option Addr) (c : Nat) (w : World) :
    Calls Try.prog 33 #[.slice A (0 : Nat) c, .int .i64 1] w fun e w' => e = .returned (.int .i64 1) ∧ Below w.heap.size w w' := by
  go_enter Try.func33, Try.ntmps33
  go_wp2_with fail
  go_loopw [1, 5] (fun q i wr => q = .int .i64 1 ∧ i = .int .i64 0 ∧ Below w.heap.size w wr) (fun _ i _ => 0)
  case atStart => exact ⟨rfl, rfl, Below.refl _ _⟩
  case round =>
    obtain ⟨rfl, rfl, hbel⟩ := hrel
    go_wp2
    go_ret
    exact ⟨rfl, (by repeat' (first | exact Below.refl _ _ | assumption | exact And.left (by assumption) | omega | (simp; done) | (simp; omega) | (simp at *; omega) | (refine Below.setCell ?_ ?_ _) | (refine below_alloc0 ?_ _) | (refine Below.drew ?_) | (refine below_drewN ?_ _) | (refine below_via0 ?_ (by assumption)) | (refine Below.alloc ?_ ?_ _) | (refine below_via ?_ (by assumption) ?_)))⟩

theorem markI_k (g n c m k0 : Nat) (k : Int) (hk : k = (k0 : Nat)) (hn : n ≤ 1048576) (h0 : k0 ≤ 100000000) (w : World) (hm : n ≤ m) (hR : Row w g m (fun _ => none)) :
    Calls Try.prog 32 #[.slice (some ⟨g, 0, none⟩) n c, .int .i64 k] w fun e w' => e = .returned (.int .i64 (k + n)) ∧ Off g w w' ∧ Row w' g m (doneI (mkI k0 n) n) := by
  subst hk; exact markI_c g n c m k0 hn h0 w hm hR
theorem heldI_k (b off n c k0 : Nat) (k : Int) (hk : k = (k0 : Nat)) (hn : n ≤ 1048576) (h0 : k0 ≤ 100000000) (w : World) (hR : RdI w b off (mkI k0 n)) :
    Calls Try.prog 33 #[.slice (some ⟨b, off, none⟩) n c, .int .i64 k] w fun e w' => e = .returned (.int .i64 (k + n)) ∧ Below w.heap.size w w' := by
  subst hk; exact heldI_c b off n c k0 hn h0 w hR
noncomputable def runQ (l : List Task) (q : Int) : Option (List Task × List Int) := if tasksB l = true then (if inB q 0 60 = true then runT q.toNat l [] else none) else none
theorem runQ_len {l : List Task} {q : Int} {L : List Task} {ps : List Int} (h : runQ l q = some (L, ps)) : L.length = l.length ∧ ps.length ≤ 60 := by
  unfold runQ at h
  split at h
  · split at h
    · rename_i hq
      rw [inB_iff] at hq
      have := runT_len _ _ _ _ _ h
      simp at this
      exact ⟨this.1, by omega⟩
    · cases h
  · cases h
set_option maxHeartbeats 2000000 in
theorem runImplQ_c (b off n c : Nat) (l : List Task) (hl : l.length = n) (hn : n ≤ 1048576) (q : Int) (w : World) (hR : RdTask w b off l) :
    Calls Try.prog 28 #[.slice (some ⟨b, off, none⟩) n c, .int .i64 q] w (RanImpl w n (runQ l q)) := by
  cases hv : tasksB l with
  | true =>
    cases hq : inB q 0 60 with
    | true =>
      have hq' := inB_iff.1 hq
      obtain ⟨q, rfl⟩ := Int.eq_ofNat_of_zero_le hq'.1
      have : runQ l (q : Int) = runT q l [] := by simp [runQ, hv, hq]
      rw [this]
      exact runImpl_c b off n c l hl hn q w hR hv (by omega)
    | false =>
      have HQ := hide (show runQ l q = none by simp [runQ, hv, hq])
      go_enter Try.func28, Try.ntmps28
      go_wp2_with fail
      refine (implT_c _ _ _ _ l hl hn _ hR).mono ?_
      rintro e w1 ⟨rfl, hb1⟩
      go_wp2_with (go_at_call 38; refine (within_c _ _ _ _).mono ?_; rintro e w' ⟨rfl, rfl⟩)
      rw [HQ.out]
      exact bodyPost_ret (v := .tuple #[.slice none 0 0, .slice none 0 0]) (by simp [results, Try.results28, go_sem]) rfl ⟨rfl, (by repeat' (first | exact Below.refl _ _ | assumption | exact And.left (by assumption) | omega | (simp; done) | (simp; omega) | (simp at *; omega) | (refine Below.setCell ?_ ?_ _) | (refine below_alloc0 ?_ _) | (refine Below.drew ?_) | (refine below_drewN ?_ _) | (refine below_via0 ?_ (by assumption)) | (refine Below.alloc ?_ ?_ _) | (refine below_via ?_ (by assumption) ?_)))⟩
  | false =>
    have HQ := hide (show runQ l q = none by simp [runQ, hv])
    go_enter Try.func28, Try.ntmps28
    go_wp2_with fail
    refine (implT_c _ _ _ _ l hl hn _ hR).mono ?_
    rintro e w1 ⟨rfl, hb1⟩
    go_wp2_with (go_at_call 38; refine (within_c _ _ _ _).mono ?_; rintro e w' ⟨rfl, rfl⟩)
    rw [HQ.out]
    exact bodyPost_ret (v := .tuple #[.slice none 0 0, .slice none 0 0]) (by simp [results, Try.results28, go_sem]) rfl ⟨rfl, (by repeat' (first | exact Below.refl _ _ | assumption | exact And.left (by assumption) | omega | (simp; done) | (simp; omega) | (simp at *; omega) | (refine Below.setCell ?_ ?_ _) | (refine below_alloc0 ?_ _) | (refine Below.drew ?_) | (refine below_drewN ?_ _) | (refine below_via0 ?_ (by assumption)) | (refine Below.alloc ?_ ?_ _) | (refine below_via ?_ (by assumption) ?_)))⟩
set_option maxHeartbeats 2000000 in
theorem runSpecQ_c (b off n c : Nat) (l : List Task) (hl : l.length = n) (hn : n ≤ 1048576) (q : Int) (w : World) (hR : RdTask w b off l) :
    Calls Try.prog 29 #[.slice (some ⟨b, off, none⟩) n c, .int .i64 q] w (RanSpec w n (runQ l q)) := by
  have hR0 := hR.below (below_alloc0 (Below.refl _ w) (.cells #[] 3))
  cases hv : tasksB l with
  | true =>
    cases hq : inB q 0 60 with
    | true =>
      have hq' := inB_iff.1 hq
      obtain ⟨q, rfl⟩ := Int.eq_ofNat_of_zero_le hq'.1
      have : runQ l (q : Int) = runT q l [] := by simp [runQ, hv, hq]
      rw [this]
      exact runSpec_c b off n c l hl hn q w hR hv (by omega)
    | false =>
      have HQ := hide (show runQ l q = none by simp [runQ, hv, hq])
      go_enter Try.func29, Try.ntmps29
      go_wp2_with fail
      refine (specT_c _ _ _ _ l hl hn _ hR0).mono ?_
      rintro e w1 ⟨rfl, hb1⟩
      have s1 := hb1.size
      simp at s1
      go_wp2_with (go_at_call 34; refine (l1In_c _ _ _ _).mono ?_; rintro e w' ⟨rfl, rfl⟩)
      rw [HQ.out]
      exact bodyPost_ret (v := .tuple #[.slice (some ⟨w1.heap.size, 0, none⟩) 0 0, .slice (some ⟨w.heap.size, 0, none⟩) 0 0]) (by simp [results, Try.results29, go_sem]) rfl ⟨⟨_, _, rfl, by omega, by omega, (by first | (simp; done) | (simp; omega)), (by first | (simp; done) | (simp; omega))⟩, (by repeat' (first | exact Below.refl _ _ | assumption | exact And.left (by assumption) | omega | (simp; done) | (simp; omega) | (simp at *; omega) | (refine Below.setCell ?_ ?_ _) | (refine below_alloc0 ?_ _) | (refine Below.drew ?_) | (refine below_drewN ?_ _) | (refine below_via0 ?_ (by assumption)) | (refine Below.alloc ?_ ?_ _) | (refine below_via ?_ (by assumption) ?_)))⟩
  | false =>
    have HQ := hide (show runQ l q = none by simp [runQ, hv])
    go_enter Try.func29, Try.ntmps29
    go_wp2_with fail
    refine (specT_c _ _ _ _ l hl hn _ hR0).mono ?_
    rintro e w1 ⟨rfl, hb1⟩
    have s1 := hb1.size
    simp at s1
    go_wp2_with (go_at_call 34; refine (l1In_c _ _ _ _).mono ?_; rintro e w' ⟨rfl, rfl⟩)
    rw [HQ.out]
    exact bodyPost_ret (v := .tuple #[.slice (some ⟨w1.heap.size, 0, none⟩) 0 0, .slice (some ⟨w.heap.size, 0, none⟩) 0 0]) (by simp [results, Try.results29, go_sem]) rfl ⟨⟨_, _, rfl, by omega, by omega, (by first | (simp; done) | (simp; omega)), (by first | (simp; done) | (simp; omega))⟩, (by repeat' (first | exact Below.refl _ _ | assumption | exact And.left (by assumption) | omega | (simp; done) | (simp; omega) | (simp at *; omega) | (refine Below.setCell ?_ ?_ _) | (refine below_alloc0 ?_ _) | (refine Below.drew ?_) | (refine below_drewN ?_ _) | (refine below_via0 ?_ (by assumption)) | (refine Below.alloc ?_ ?_ _) | (refine below_via ?_ (by assumption) ?_)))⟩

set_option maxHeartbeats 8000000 in
theorem runLaw_yes {w : World} (A : Option Addr) (n c : Nat) (l L : List Task) (ps : List Int) (q : Int) (hA : InsTask w A n c l) (h : (n : Int) ≤ 1048576) (hq : runQ l q = some (L, ps)) :
    Calls Try.prog 10 #[.slice A n c, .int .i64 q] w fun e w' => e = .returned (.bool true) ∧ Below w.heap.size w w' := by
  obtain ⟨hIn, hm, hc⟩ := hA
  have g1 : 0 ≤ 1048576 - (n : Int) := by omega
  have hn : n ≤ 1048576 := by omega
  have hl := hide hIn.1
  have HI := hide hIn
  have HL := hide ((runQ_len hq).1.trans hIn.1)
  have hps := (runQ_len hq).2
  have HQ := hide hq
  have gk : ¬ (1 + 3 * (n : Int) < 0) := by omega
  have K0 : Hid ((1 : Int) + 3 * n = ((1 + 3 * n : Nat) : Int)) := by show (1 : Int) + 3 * n = ((1 + 3 * n : Nat) : Int); omega
  have gk2 : ¬ (1 + 3 * (n : Int) + ps.length < 0) := by omega
  clear hIn hq
  go_enter Try.func10, Try.ntmps10
  go_wp2_with fail
  refine (szTask_yes _ _ _ _ h (by omega) _).mono ?_
  rintro e w' ⟨rfl, rfl⟩
  go_wp2_with fail
  refine (toTaskS_c _ _ _ l _ HI.out hn).mono ?_
  rintro e w1 ⟨b1, rfl, hg1, hR1, hb1⟩
  go_wp2_with fail
  refine (runSpecQ_c _ _ _ _ l hl.out hn q _ hR1).mono ?_
  rw [HQ.out]
  rintro e w2 ⟨gw, cw, mw, gw', cw', mw', rfl, hgw, hgw', hgne, hcw, hmw, hroww, hcw', hmw', hroww', hb2⟩
  have hB2 := below_via0 hb1 hb2
  have hRw := RdT_of_row hroww HL.out
  have hRi := RdI_of_row hroww' rfl
  have x1 := hRw.1
  have x2 := hRi.1
  clear hroww hroww'
  go_wp2_with fail
  refine (toTaskR_c _ _ _ l _ (HI.out.below hB2) hn).mono ?_
  rintro e w3 ⟨b3, rfl, hg3, hrow3, hb3⟩
  have hB3 := below_via0 hB2 hb3
  have hRw3 := hRw.below hb3
  have hRi3 := hRi.below hb3
  have hR3 := RdT_of_row hrow3 hl.out
  have x3 := hR3.1
  have HROW3 := hide hrow3
  clear hrow3 hRw hRi
  go_wp2_with fail
  refine (runImplQ_c _ _ _ _ l hl.out hn q _ hR3).mono ?_
  rw [HQ.out]
  rintro e w4 ⟨gg, cg, mg, gi, ci, mi, rfl, hgg, hgi, hggi, hcg, hmg, hrowg, hci, hmi, hrowi, hb4⟩
  have hB4 := below_via0 hB3 hb4
  have hRw4 := hRw3.below hb4
  have hRi4 := hRi3.below hb4
  have hR4 := hR3.below hb4
  have HROW4 := hide (HROW3.out.below hb4 hR3.1)
  have hRg := RdT_of_row hrowg HL.out
  have hRgi := RdI_of_row hrowi rfl
  have x4 := hRg.1
  have x5 := hRgi.1
  have HROWG := hide hrowg
  have HROWI := hide hrowi
  clear hrowg hrowi hRw3 hRi3
  go_wp2_with fail
  refine (eqTaskS_c _ _ _ _ _ _ _ L HL.out hn _ hRg hRw4).mono ?_
  rintro e w5 ⟨rfl, hb5⟩
  have hB5 := below_via0 hB4 hb5
  go_wp2_with fail
  refine (eqI_c _ _ _ _ _ _ _ ps rfl (by omega) _ (hRgi.below hb5) (hRi4.below hb5)).mono ?_
  rintro e w5a ⟨rfl, hb5a⟩
  have hB5a := below_via0 hB5 hb5a
  have hB45 := below_via0 hb5 hb5a
  go_wp2_with fail
  refine (toTaskS_c _ _ _ l _ (HI.out.below hB5a) hn).mono ?_
  rintro e w6 ⟨b6, rfl, hg6, hR6, hb6⟩
  have hB6 := below_via0 hB5a hb6
  have hB46 := below_via0 hB45 hb6
  go_wp2_with fail
  refine (eqTaskS_c _ _ _ _ _ _ _ l hl.out hn _ (hR4.below hB46) hR6).mono ?_
  rintro e w7 ⟨rfl, hb7⟩
  have hB7 := below_via0 hB6 hb7
  have hB47 := below_via0 hB46 hb7
  go_wp2_with fail
  refine (markTask_c _ n _ (n * 3) (fun _ => none) hn _ (Nat.le_refl _) ((HROW4.out.below hB47 hR4.1).mono (fun j u hj => by cases hj))).mono ?_
  rintro e w8 ⟨rfl, hoff8, hrow8⟩
  have s47 := hB47.size
  have s34 := hb4.size
  have s23 := hb3.size
  have hRw8 := hoff8.rd (show gw ≠ b3 by omega) (hRw4.below hB47)
  have hRi8 := hoff8.rdI (show gw' ≠ b3 by omega) (hRi4.below hB47)
  have hRg8 := hoff8.rd (show gg ≠ b3 by omega) (hRg.below hB47)
  have hRgi8 := hoff8.rdI (show gi ≠ b3 by omega) (hRgi.below hB47)
  have s2 := hB2.size
  have s7 := hB7.size
  have hB8 := hoff8.below hB7 (by omega) (by omega)
  have HG8 := hide ((HROWG.out.below hB47 hRg.1).keep (hoff8.2 gg (by omega) (by omega)))
  have HI8 := hide ((HROWI.out.below hB47 hRgi.1).keep (hoff8.2 gi (by omega) (by omega)))
  clear hrow8
  go_wp2_with fail
  refine (eqTaskS_c _ _ _ _ _ _ _ L HL.out hn _ hRg8 hRw8).mono ?_
  rintro e w9 ⟨rfl, hb9⟩
  have hB9 := below_via0 hB8 hb9
  go_wp2_with fail
  refine (eqI_c _ _ _ _ _ _ _ ps rfl (by omega) _ (hRgi8.below hb9) (hRi8.below hb9)).mono ?_
  rintro e w9a ⟨rfl, hb9a⟩
  have hB9a := below_via0 hB9 hb9a
  have hB89 := below_via0 hb9 hb9a
  go_wp2_with fail
  refine (markTask_c _ n _ mg (fun _ => none) hn _ hmg ((HG8.out.below hB89 hRg8.1).mono (fun j u hj => by cases hj))).mono ?_
  rintro e w10 ⟨rfl, hoff10, hrow10⟩
  have s89 := hB89.size
  have s8 := hoff8.1.size
  have hRw10 := hoff10.rd (show gw ≠ gg by omega) (hRw8.below hB89)
  have hRi10 := hoff10.rdI (show gw' ≠ gg by omega) (hRi8.below hB89)
  have HI10 := hide ((HI8.out.below hB89 hRgi8.1).keep (hoff10.2 gi (by omega) (by omega)))
  have s9 := hB9a.size
  have s3 := hB3.size
  have hB10 := hoff10.below hB9a (by omega) (by omega)
  have s10 := hoff10.1.size
  have HM10 := hide hrow10
  clear hrow10
  go_wp2_with fail
  refine (markI_k gi ps.length _ mi (1 + 3 * n) _ (by omega) (by omega) (by omega) _ hmi (HI10.out.mono (fun j u hj => by cases hj))).mono ?_
  rintro e w11 ⟨rfl, hoff11, hrow11⟩
  have hM11 := hoff11.rd (show gg ≠ gi by omega) (RdT_of_row HM10.out (mkL_len n))
  have hRw11 := hoff11.rd (show gw ≠ gi by omega) hRw10
  have hRi11 := hoff11.rdI (show gw' ≠ gi by omega) hRi10
  have hN11 := RdI_of_row hrow11 (mkI_len _ _)
  have hB11 := hoff11.below hB10 (by omega) (by omega)
  clear hrow11
  go_wp2_with fail
  refine (heldTask_c _ _ n _ hn _ hM11).mono ?_
  rintro e w12 ⟨rfl, hb12⟩
  have hB12 := below_via0 hB11 hb12
  go_wp2_with fail
  refine (heldI_k _ _ ps.length _ (1 + 3 * n) _ (by omega) (by omega) (by omega) _ (hN11.below hb12)).mono ?_
  rintro e w13 ⟨rfl, hb13⟩
  have hB13 := below_via0 hB12 hb13
  have hB1113 := below_via0 hb12 hb13
  go_wp2_with fail
  refine (toTaskS_c _ _ _ l _ (HI.out.below hB13) hn).mono ?_
  rintro e w14 ⟨b14, rfl, hg14, hR14, hb14⟩
  have hB14 := below_via0 hB13 hb14
  have hB1114 := below_via0 hB1113 hb14
  go_wp2_with fail
  refine (runImplQ_c _ _ _ _ l hl.out hn q _ hR14).mono ?_
  rw [HQ.out]
  rintro e w15 ⟨gh, ch, mh, gj, cj, mj, rfl, hgh, hgj, hghj, hch, hmh, hrowh, hcj, hmj, hrowj, hb15⟩
  have hB15 := below_via0 hB14 hb15
  have hB1115 := below_via0 hB1114 hb15
  have hRh := RdT_of_row hrowh HL.out
  have hRj := RdI_of_row hrowj rfl
  clear hrowh hrowj
  go_wp2_with fail
  refine (eqTaskS_c _ _ _ _ _ _ _ L HL.out hn _ hRh (hRw11.below hB1115)).mono ?_
  rintro e w16 ⟨rfl, hb16⟩
  have hB16 := below_via0 hB15 hb16
  have hB1116 := below_via0 hB1115 hb16
  go_wp2_with fail
  refine (eqI_c _ _ _ _ _ _ _ ps rfl (by omega) _ (hRj.below hb16) (hRi11.below hB1116)).mono ?_
  rintro e w17 ⟨rfl, hb17⟩
  have hB17 := below_via0 hB16 hb17
  have hB1117 := below_via0 hB1116 hb17
  go_wp2_with fail
  refine (heldTask_c _ _ n _ hn _ (hM11.below hB1117)).mono ?_
  rintro e w18 ⟨rfl, hb18⟩
  have hB18 := below_via0 hB17 hb18
  have hB1118 := below_via0 hB1117 hb18
  go_wp2_with fail
  refine (heldI_k _ _ ps.length _ (1 + 3 * n) _ (by omega) (by omega) (by omega) _ (hN11.below hB1118)).mono ?_
  rintro e w19 ⟨rfl, hb19⟩
  have hB19 := below_via0 hB18 hb19
  go_wp2
  go_ret
  exact ⟨rfl, hB19⟩

set_option maxHeartbeats 8000000 in
theorem runLaw_no {w : World} (A : Option Addr) (n c : Nat) (l : List Task) (q : Int) (hA : InsTask w A n c l) (h : (n : Int) ≤ 1048576) (hq : runQ l q = none) :
    Calls Try.prog 10 #[.slice A n c, .int .i64 q] w fun e w' => e = .returned (.bool true) ∧ Below w.heap.size w w' := by
  obtain ⟨hIn, hm, hc⟩ := hA
  have g1 : 0 ≤ 1048576 - (n : Int) := by omega
  have hn : n ≤ 1048576 := by omega
  have hl := hide hIn.1
  have HI := hide hIn
  have HQ := hide hq
  have gk : ¬ (1 + 3 * (n : Int) < 0) := by omega
  clear hIn hq
  go_enter Try.func10, Try.ntmps10
  go_wp2_with fail
  refine (szTask_yes _ _ _ _ h (by omega) _).mono ?_
  rintro e w' ⟨rfl, rfl⟩
  go_wp2_with fail
  refine (toTaskS_c _ _ _ l _ HI.out hn).mono ?_
  rintro e w1 ⟨b1, rfl, hg1, hR1, hb1⟩
  go_wp2_with fail
  refine (runSpecQ_c _ _ _ _ l hl.out hn q _ hR1).mono ?_
  rw [HQ.out]
  rintro e w2 ⟨⟨gw, gw', rfl, hgw, hgw', hgx, hgx'⟩, hb2⟩
  have hB2 := below_via0 hb1 hb2
  go_wp2_with fail
  refine (toTaskR_c _ _ _ l _ (HI.out.below hB2) hn).mono ?_
  rintro e w3 ⟨b3, rfl, hg3, hrow3, hb3⟩
  have hB3 := below_via0 hB2 hb3
  have hR3 := RdT_of_row hrow3 hl.out
  have HROW3 := hide hrow3
  clear hrow3
  go_wp2_with fail
  refine (runImplQ_c _ _ _ _ l hl.out hn q _ hR3).mono ?_
  rw [HQ.out]
  rintro e w4 ⟨rfl, hb4⟩
  have hB4 := below_via0 hB3 hb4
  have hR4 := hR3.below hb4
  have HROW4 := hide (HROW3.out.below hb4 hR3.1)
  go_wp2_with fail
  refine (eqTask_0 _ _ _ _ _).mono ?_
  rintro e w5 ⟨rfl, hb5⟩
  have hB5 := below_via0 hB4 hb5
  go_wp2_with fail
  refine (eqI_0 _ _ _ _ _).mono ?_
  rintro e w5a ⟨rfl, hb5a⟩
  have hB5a := below_via0 hB5 hb5a
  have hB45 := below_via0 hb5 hb5a
  go_wp2_with fail
  refine (toTaskS_c _ _ _ l _ (HI.out.below hB5a) hn).mono ?_
  rintro e w6 ⟨b6, rfl, hg6, hR6, hb6⟩
  have hB6 := below_via0 hB5a hb6
  have hB46 := below_via0 hB45 hb6
  go_wp2_with fail
  refine (eqTaskS_c _ _ _ _ _ _ _ l hl.out hn _ (hR4.below hB46) hR6).mono ?_
  rintro e w7 ⟨rfl, hb7⟩
  have hB7 := below_via0 hB6 hb7
  have hB47 := below_via0 hB46 hb7
  go_wp2_with fail
  refine (markTask_c _ n _ (n * 3) (fun _ => none) hn _ (Nat.le_refl _) ((HROW4.out.below hB47 hR4.1).mono (fun j u hj => by cases hj))).mono ?_
  rintro e w8 ⟨rfl, hoff8, hrow8⟩
  have q2 := hR3.1
  have s2 := hB2.size
  have s7 := hB7.size
  have hB8 := hoff8.below hB7 (by omega) (by omega)
  clear hrow8
  go_wp2_with fail
  refine (eqTask_0 _ _ _ _ _).mono ?_
  rintro e w9 ⟨rfl, hb9⟩
  have hB9 := below_via0 hB8 hb9
  go_wp2_with fail
  refine (eqI_0 _ _ _ _ _).mono ?_
  rintro e w9a ⟨rfl, hb9a⟩
  have hB9a := below_via0 hB9 hb9a
  go_wp2_with fail
  refine (markTask_0 _ _ _).mono ?_
  rintro e w10 ⟨rfl, hb10⟩
  have hB10 := below_via0 hB9a hb10
  go_wp2_with fail
  refine (markI_0 _ _ _).mono ?_
  rintro e w10a ⟨rfl, hb10a⟩
  have hB10a := below_via0 hB10 hb10a
  go_wp2_with fail
  refine (heldTask_0 _ _ _).mono ?_
  rintro e w11 ⟨rfl, hb11⟩
  have hB11 := below_via0 hB10a hb11
  go_wp2_with fail
  refine (heldI_0 _ _ _).mono ?_
  rintro e w11a ⟨rfl, hb11a⟩
  have hB11a := below_via0 hB11 hb11a
  go_wp2_with fail
  refine (toTaskS_c _ _ _ l _ (HI.out.below hB11a) hn).mono ?_
  rintro e w12 ⟨b12, rfl, hg12, hR12, hb12⟩
  have hB12 := below_via0 hB11a hb12
  go_wp2_with fail
  refine (runImplQ_c _ _ _ _ l hl.out hn q _ hR12).mono ?_
  rw [HQ.out]
  rintro e w13 ⟨rfl, hb13⟩
  have hB13 := below_via0 hB12 hb13
  go_wp2_with fail
  refine (eqTask_0 _ _ _ _ _).mono ?_
  rintro e w14 ⟨rfl, hb14⟩
  have hB14 := below_via0 hB13 hb14
  go_wp2_with fail
  refine (eqI_0 _ _ _ _ _).mono ?_
  rintro e w14a ⟨rfl, hb14a⟩
  have hB14a := below_via0 hB14 hb14a
  go_wp2_with fail
  refine (heldTask_0 _ _ _).mono ?_
  rintro e w15 ⟨rfl, hb15⟩
  have hB15 := below_via0 hB14a hb15
  go_wp2_with fail
  refine (heldI_0 _ _ _).mono ?_
  rintro e w16 ⟨rfl, hb16⟩
  have hB16 := below_via0 hB15 hb16
  go_wp2
  go_ret
  exact ⟨rfl, hB16⟩

set_option maxHeartbeats 1000000 in
theorem fnExactRunTurns_walk {w : World} (A : Option Addr) (n c : Nat) (l : List Task) (hA : InsTask w A n c l) (q : Int) (hq : (Lit.int .i64 q).wf = true) :
    Calls Try.prog 10 #[.slice A n c, .int .i64 q] w fun e w' => e = .returned (.bool true) ∧ Below w.heap.size w w' := by
  by_cases h : (n : Int) ≤ 1048576
  · cases hv : runQ l q with
    | some r => exact runLaw_yes A n c l r.1 r.2 q hA h hv
    | none => exact runLaw_no A n c l q hA h hv
  · obtain ⟨hIn, hm, hc⟩ := hA
    go_enter Try.func10, Try.ntmps10
    go_wp2_with fail
    refine (szTask_no _ _ _ _ (by omega) (by omega) hm (by omega) _).mono ?_
    rintro e w' ⟨rfl, rfl⟩
    go_wp2
    go_ret
    exact ⟨rfl, Below.refl _ _⟩
end Go.Proofs.Ytnpgofmihmjmeaa
