/-
  RunTurns: what it computes, and slices of int of one's own. No condition.
-/
import Derived.Test.YtnpgofmihmjmeaaProg
import Derived.Test.YtnpgofmihmjmeaaTask11
import Derived.Test.YtnpgofmihmjmeaaOwn
namespace Go.Proofs.Ytnpgofmihmjmeaa
open Go.RowKit
set_option linter.unusedSimpArgs false
set_option linter.unusedVariables false

def gave (t : Task) : Task := ⟨t.weight, t.had + 2520 / t.weight, t.waits⟩
/-- The tasks and who had turns, after k turns more; none if one had too much. -/
def runT : Nat → List Task → List Int → Option (List Task × List Int)
  | 0, l, ps => some (l, ps)
  | k + 1, l, ps => if nextTo l l.length < 0 then some (l, ps) else
      match l[(nextTo l l.length).toNat]? with
      | none => some (l, ps)
      | some t => if 1000000 < (gave t).had then none else runT k (l.set (nextTo l l.length).toNat (gave t)) (ps ++ [nextTo l l.length])
theorem runT_stop {l : List Task} (h : nextTo l l.length < 0) (ps : List Int) : ∀ k, runT k l ps = some (l, ps)
  | 0 => rfl
  | k + 1 => by simp [runT, h]
theorem runT_over {l : List Task} {p : Nat} {t : Task} (h : nextTo l l.length = p) (ht : l[p]? = some t) (ho : 1000000 < (gave t).had) (k : Nat) (ps : List Int) : runT (k + 1) l ps = none := by
  have h0 : ¬ ((p : Int) < 0) := by omega
  simp [runT, h, ht, ho, h0]
theorem runT_step {l : List Task} {p : Nat} {t : Task} (h : nextTo l l.length = p) (ht : l[p]? = some t) (ho : ¬ 1000000 < (gave t).had) (k : Nat) (ps : List Int) :
    runT (k + 1) l ps = runT k (l.set p (gave t)) (ps ++ [(p : Int)]) := by
  have h0 : ¬ ((p : Int) < 0) := by omega
  simp [runT, h, ht, ho, h0]
theorem div_bd {x : Int} (h : inB x 1 10 = true) : 0 ≤ 2520 / x ∧ 2520 / x ≤ 2520 := by
  rw [inB_iff] at h
  exact ⟨Int.ediv_nonneg (by omega) (by omega), Int.ediv_le_self _ (by omega)⟩
theorem tasksB_gave {l : List Task} {p : Nat} {t : Task} (hv : tasksB l = true) (ht : l[p]? = some t) (ho : ¬ 1000000 < (gave t).had) : tasksB (l.set p (gave t)) = true := by
  rw [tasksB_iff] at hv ⊢
  obtain ⟨hu, h6⟩ := hv
  have hpl := (List.getElem?_eq_some_iff.1 ht).1
  refine ⟨fun i s hi hs => ?_, by simpa using h6⟩
  by_cases e : i = p
  · subst e
    rw [List.getElem?_set_self hpl] at hs
    cases hs
    have := hu i t hpl ht
    have d := div_bd this.1
    have h2 := inB_iff.1 this.2
    refine ⟨this.1, inB_iff.2 ?_⟩
    simp only [gave] at ho ⊢
    omega
  · rw [List.getElem?_set_ne (fun x => e x.symm)] at hs
    exact hu i s (by simpa using hi) hs
theorem tasksB_over {l : List Task} {p : Nat} {t : Task} (ht : l[p]? = some t) (ho : 1000000 < (gave t).had) : tasksB (l.set p (gave t)) = false := by
  refine tasksB_no fun hv => ?_
  have hpl := (List.getElem?_eq_some_iff.1 ht).1
  have := hv.1 p (gave t) (by simpa using hpl) (List.getElem?_set_self hpl)
  have := inB_iff.1 this.2
  omega
theorem runT_len : ∀ (k : Nat) (l : List Task) (ps : List Int) (L : List Task) (qs : List Int), runT k l ps = some (L, qs) → L.length = l.length ∧ qs.length ≤ ps.length + k
  | 0, l, ps, L, qs, h => by simp only [runT, Option.some.injEq, Prod.mk.injEq] at h; obtain ⟨rfl, rfl⟩ := h; exact ⟨rfl, by omega⟩
  | k + 1, l, ps, L, qs, h => by
    unfold runT at h
    split at h
    · simp only [Option.some.injEq, Prod.mk.injEq] at h; obtain ⟨rfl, rfl⟩ := h; exact ⟨rfl, by omega⟩
    · split at h
      · simp only [Option.some.injEq, Prod.mk.injEq] at h; obtain ⟨rfl, rfl⟩ := h; exact ⟨rfl, by omega⟩
      · split at h
        · cases h
        · have := runT_len k _ _ L qs h
          simp at this
          exact ⟨this.1, by omega⟩

/-- The two slices that a run gives. -/
def Ran (w : World) (n : Nat) (L : List Task) (ps : List Int) (e : Ending) (w' : World) : Prop :=
  ∃ g cap m g' cap' m', e = .returned (.tuple #[.slice (some ⟨g, 0, none⟩) n cap, .slice (some ⟨g', 0, none⟩) ps.length cap']) ∧ w.heap.size ≤ g ∧ w.heap.size ≤ g' ∧ g ≠ g' ∧
    n ≤ cap ∧ n * 3 ≤ m ∧ Row w' g m (doneTask L n) ∧ ps.length ≤ cap' ∧ ps.length ≤ m' ∧ Row w' g' m' (doneI ps ps.length) ∧ Below w.heap.size w w'
def RanImpl (w : World) (n : Nat) (r : Option (List Task × List Int)) (e : Ending) (w' : World) : Prop :=
  match r with
  | none => e = .returned (.tuple #[.slice none 0 0, .slice none 0 0]) ∧ Below w.heap.size w w'
  | some (L, ps) => Ran w n L ps e w'
def RanSpec (w : World) (n : Nat) (r : Option (List Task × List Int)) (e : Ending) (w' : World) : Prop :=
  match r with
  | none => (∃ g g', e = .returned (.tuple #[.slice (some ⟨g, 0, none⟩) 0 0, .slice (some ⟨g', 0, none⟩) 0 0]) ∧ w.heap.size ≤ g ∧ w.heap.size ≤ g' ∧ g < w'.heap.size ∧ g' < w'.heap.size) ∧ Below w.heap.size w w'
  | some (L, ps) => Ran w n L ps e w'

theorem infoI : (Try.prog.info? 3).map (fun i => (i.zero, i.size, i.bytes)) = some (some (.int .i64 0), 1, 8) := by kernel_rfl
theorem ownI_of {w : World} {base n : Nat} {T : TypeId} {v : Value} {l : List Int} (hl : l.length = n) (h : w.ownsRow base T 1 v n (l.map (Value.int .i64))) (hv : v ≠ .slice none 0 0) :
    ∃ g cap m, v = .slice (some ⟨g, 0, none⟩) n cap ∧ base ≤ g ∧ n ≤ cap ∧ n ≤ m ∧ Row w g m (doneI l n) := by
  rcases h.2 with ⟨h', _⟩ | ⟨g, cap, cur, rfl, hb, hg, hnc, hcm, hcs, htake⟩
  · exact absurd h' hv
  · refine ⟨g, cap, cap, rfl, hb, hnc, by omega, cur, T, hg, by omega, fun j u hj => ?_⟩
    simp only [doneI] at hj
    split at hj
    · rename_i hlt
      rw [← List.getElem?_map, ← htake, List.getElem?_take] at hj
      rw [if_pos (by omega)] at hj
      simpa using hj
    · cases hj
set_option maxHeartbeats 4000000 in
theorem runImpl_c (b off n c : Nat) (l : List Task) (hl : l.length = n) (hn : n ≤ 1048576) (q : Nat) (w : World) (hR : RdTask w b off l) (hv : tasksB l = true) (hq : q ≤ 60) :
    Calls Try.prog 28 #[.slice (some ⟨b, off, none⟩) n c, .int .i64 q] w (RanImpl w n (runT q l [])) := by
  obtain ⟨i0, hi0, hz0, hz1, hz2⟩ := info_parts infoI
  have HI := hide hi0
  have HZ0 := hide hz0
  have HZ1 := hide hz1
  have HZ2 := hide hz2
  clear hi0 hz0 hz1 hz2
  have hr' : inB (q : Int) 0 60 = true := by rw [inB_iff]; omega
  have HV := hide hv
  have HL := hide hl
  have h6 : n ≤ 6 := by have := (tasksB_iff.1 hv).2; omega
  go_enter Try.func28, Try.ntmps28
  go_wp2_with fail
  refine (implT_c _ _ _ _ l hl hn _ hR).mono ?_
  rintro e w1 ⟨rfl, hb1⟩
  go_wp2_with (go_at_call 38; refine (within_c _ _ _ _).mono ?_; rintro e w' ⟨rfl, rfl⟩)
  refine (cloneT_c _ _ _ _ l hl hn _ (hR.below hb1)).mono ?_
  rintro e w2 ⟨_, rfl, ⟨g, cap, m, rfl, hg, hcap, hm, hrow⟩, hb2⟩
  have HRow := hide hrow
  have hg' : w.heap.size ≤ g := Nat.le_trans hb1.size hg
  have g1 := hrow.lt
  have hb12 := below_via0 hb1 hb2
  clear hrow
  have hq64 : (q : Int) ≤ 60 := by omega
  have hgs : g < w2.heap.size := g1
  have LQ := hide (runT_len q l [])
  go_wp2_with fail
  go_loopw [7, 21] (fun hv iv wr => ∃ (i : Nat) (l' : List Task) (ps : List Int), i ≤ q ∧ iv = .int .i64 i ∧ Hid (wr.ownsRow w2.heap.size 3 1 hv ps.length (ps.map (Value.int .i64))) ∧ Hid (hv ≠ .slice none 0 0) ∧ Row wr g m (doneTask l' n) ∧ Hid (l'.length = n) ∧ Hid (tasksB l' = true) ∧
      Hid (runT (q - i) l' ps = runT q l []) ∧ ps.length ≤ i ∧ Below w.heap.size w wr ∧ w2.heap.size ≤ wr.heap.size) (fun _ iv _ => q - (intOf iv).toNat)
  case atStart =>
    exact ⟨0, l, [], by omega, rfl, World.ownsRow_made w2 #[] 0 (Nat.le_refl _) (Nat.zero_le _) (by simp), (fun e => by cases e), HRow.out.alloc _, HL.out, HV.out, rfl, by simp, (by repeat' (first | exact Below.refl _ _ | assumption | exact And.left (by assumption) | omega | (simp; done) | (simp; omega) | (simp at *; omega) | (refine Below.setCell ?_ ?_ _) | (refine below_alloc0 ?_ _) | (refine Below.drew ?_) | (refine below_drewN ?_ _) | (refine below_via0 ?_ (by assumption)) | (refine Below.alloc ?_ ?_ _) | (refine below_via ?_ (by assumption) ?_))), by simp⟩
  case round =>
    obtain ⟨i, l', ps, hi, rfl, hown, hne, hrow, hl', hv', hrun, hps, hbel, hsz⟩ := hrel
    obtain ⟨g', cap', m', rfl, hg0', hc', hm', hrow'⟩ := ownI_of rfl hown.out hne.out
    have hgg : g ≠ g' := by omega
    have HR' := hide hrow
    have HRI := hide hrow'
    have hgw := hrow.lt
    have hgw' := hrow'.lt
    by_cases hlt : i < q
    · have hR' := RdT_of_row hrow hl'.out
      obtain ⟨j, hj⟩ : ∃ j, q - i = j + 1 := ⟨q - i - 1, by omega⟩
      have HJ := hide hj
      clear hj hrow hrow'
      by_cases hk0 : nextTo l' n < 0
      · have hfin := hide (show runT q l [] = some (l', ps) by rw [← hrun.out]; exact runT_stop (by rw [hl'.out]; exact hk0) _ _)
        go_wp2_with fail
        refine (nextImpl_c _ _ _ _ l' hl'.out hn _ hR').mono ?_
        rintro e w3 ⟨rfl, hb3⟩
        have hr3 := HR'.out.below hb3 hgw
        have hr3' := HRI.out.below hb3 hgw'
        have hb13 := below_via0 hbel hb3
        go_wp2_with fail
        rw [hfin.out]
        exact bodyPost_ret (v := .tuple #[.slice (some ⟨g, 0, none⟩) n cap, .slice (some ⟨g', 0, none⟩) ps.length cap']) (by simp [results, Try.results28, go_sem]) rfl ⟨g, cap, m, g', cap', m', rfl, hg', by omega, hgg, hcap, hm, hr3, hc', hm', hr3', hb13⟩
      · have hk0' : 0 ≤ nextTo l' n := by omega
        obtain ⟨p, hp⟩ := Int.eq_ofNat_of_zero_le hk0'
        have hpn : p < n := by have := (nextTo_bd l' n).2; omega
        have hl0 := hl'.out
        obtain ⟨t, ht⟩ : ∃ t, l'[p]? = some t := ⟨_, List.getElem?_eq_getElem (by omega)⟩
        have hp' : nextTo l' l'.length = p := by rw [hl0]; exact hp
        have hT := (tasksB_iff.1 hv'.out).1 p t (by omega) ht
        obtain ⟨w1', w2'⟩ := inB_iff.1 hT.1
        obtain ⟨h1', h2'⟩ := inB_iff.1 hT.2
        obtain ⟨dv1, dv2⟩ := div_bd hT.1
        have HT := hide ht
        have HP := hide hp
        have HP' := hide hp'
        have pp : (p : Int) < n := by omega
        have hpc : p < cap := by omega
        have hd : decide ((p : Int) < 0) = false := by simp
        clear hk0 hk0' hp hp' ht hT hl0
        by_cases ho : 1000000 < t.had + 2520 / t.weight
        · have hfin := hide (show runT q l [] = none by rw [← hrun.out, HJ.out]; exact runT_over HP'.out HT.out ho _ _)
          go_wp2_with fail
          refine (nextImpl_c _ _ _ _ l' hl'.out hn _ hR').mono ?_
          rintro e w3 ⟨rfl, hb3⟩
          rw [HP.out]
          have hr3 := HR'.out.below hb3 hgw
          have d1 := (RdT_of_row hr3 hl'.out).2 p t HT.out
          simp only [Nat.zero_add] at d1
          have gf1 := hr3.frozen (p * 3 + 1)
          have g3 := hr3.lt
          have hb13 := below_via0 hbel hb3
          clear hr3
          go_wp2_with fail
          go_region
          go_wp2
          rw [hfin.out]
          exact bodyPost_ret (v := .tuple #[.slice none 0 0, .slice none 0 0]) (by simp [results, Try.results28, go_sem]) rfl ⟨rfl, (hb13.setCell (p := ⟨g, _, none⟩) hg' _).drew⟩
        · have hfin := hide (show runT (q - (i + 1)) (l'.set p (gave t)) (ps ++ [(p : Int)]) = runT q l [] by
            rw [← hrun.out, HJ.out, runT_step HP'.out HT.out ho]; congr 1; have := HJ.out; omega)
          have hv3 := hide (tasksB_gave hv'.out HT.out ho)
          go_wp2_with fail
          refine (nextImpl_c _ _ _ _ l' hl'.out hn _ hR').mono ?_
          rintro e w3 ⟨rfl, hb3⟩
          rw [HP.out]
          have hr3 := HR'.out.below hb3 hgw
          have d1 := (RdT_of_row hr3 hl'.out).2 p t HT.out
          simp only [Nat.zero_add] at d1
          have gf1 := hr3.frozen (p * 3 + 1)
          have g3 := hr3.lt
          have hb13 := below_via0 hbel hb3
          have HR3 := hide hr3
          have hown3 := hide (own_below hown.out hb3)
          have hs3 := hb3.size
          clear hr3
          go_wp2_with fail
          go_region
          have hown4 := fun (T : TypeId) x => World.ownsRow.alloc (World.ownsRow.drew (ownsRow_setCell_below hown3.out (a := ⟨g, p * 3 + 1, none⟩) g1 (.int .i64 (t.had + 2520 / t.weight)))) (.cells #[x] T)
          go_wp2_with (at_builtin; refine wpList_append_own _ rfl _ _ 42 rfl w2.heap.size 3 i0 (.int .i64 0) 1 8 Try.underlying42 HI.out HZ0.out HZ1.out HZ2.out rfl (by decide) _ _ _ rfl (hown4 _ _) ⟨w3.heap.size, 0, none⟩ 1 1 [.int .i64 (p : Int)] rfl rfl ?qc2 ?qc3 ?qc4 ?qc5 ?qc6 ?_)
          case qc2 => exact one_new _ _ _ (by simp)
          case qc3 => exact one_cell rfl
          case qc4 => unfold maxLen; omega
          case qc5 => omega
          case qc6 => simp; omega
          intro v' w5 hown5 hgrow hnil
          have hne5 := hide (show v' ≠ .slice none 0 0 from hnil)
          have hown5' := hide (show w5.ownsRow w2.heap.size 3 1 v' (ps ++ [(p : Int)]).length ((ps ++ [(p : Int)]).map (Value.int .i64)) by simpa using hown5)
          have hr5 := (((row_had HR3.out hm hpn HT.out (t.had + 2520 / t.weight)).drew).alloc (.cells #[.int .i64 (p : Int)] 3)).grown hgrow (by simp [Value.ownBlock]; omega)
          have hb5 := ((((hb13.setCell (p := ⟨g, p * 3 + 1, none⟩) hg' (.int .i64 (t.had + 2520 / t.weight))).drew).alloc (by have := hb13.size; simp; omega) (.cells #[.int .i64 (p : Int)] 3))).grown hgrow (by have := hb13.size; simp; omega) (by intro k hk; simp [Value.ownBlock] at hk; omega)
          have hs5 := hgrow.size
          simp at hs5
          clear hown5 hgrow hnil
          go_wp2_with fail
          exact ⟨⟨i + 1, l'.set p (gave t), ps ++ [(p : Int)], by omega, by go_num, hown5'.out, hne5.out, hr5, by simpa [Hid] using hl'.out, hv3.out, hfin.out, by simp; omega, hb5, by omega⟩, by simp [intOf]; omega⟩
    · obtain rfl : i = q := by omega
      have hfin := hide (show runT i l [] = some (l', ps) by rw [← hrun.out, Nat.sub_self]; rfl)
      go_wp2_with fail
      rw [hfin.out]
      exact bodyPost_ret (v := .tuple #[.slice (some ⟨g, 0, none⟩) n cap, .slice (some ⟨g', 0, none⟩) ps.length cap']) (by simp [results, Try.results28, go_sem]) rfl ⟨g, cap, m, g', cap', m', rfl, hg', by omega, hgg, hcap, hm, hrow, hc', hm', hrow', hbel⟩
end Go.Proofs.Ytnpgofmihmjmeaa
