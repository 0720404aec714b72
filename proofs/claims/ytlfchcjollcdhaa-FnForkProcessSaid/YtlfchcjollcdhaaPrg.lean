/-
  ForkProcess of the program. No condition.
-/
import Derived.Test.YtlfchcjollcdhaaProg
import Derived.Test.YtlfchcjollcdhaaPrf
import Derived.Test.YtlfchcjollcdhaaFlowS
namespace Go.Proofs.Ytlfchcjollcdhaa
open Go.RowKit
set_option linter.unusedSimpArgs false
set_option linter.unusedVariables false

def pgF (b off c k : Nat) (sn : Int) (l : List Pcs) (lo : Nat) (i : Nat) (v : Value) (vs : List Value) (W : World) : Prop :=
  match i with
  | 0 => v = .slice (some ⟨b, off, none⟩) (k + 1) c
  | 1 => ∃ gz cz, v = .slice (some ⟨gz, 0, none⟩) (k + 1) cz ∧ OwnSP W lo (k + 1) cz (some ⟨gz, 0, none⟩) l
  | 2 => v = .slice (some ⟨b, off, none⟩) (k + 1) c
  | 3 => v = .slice (some ⟨b, off, none⟩) (k + 1) c
  | 4 => v = .int .i64 ((k : Int) + 1)
  | 5 => v = .int .i64 k
  | 6 => v = .pointer (some ⟨b, off + k * 8, none⟩)
  | 7 => v = .pointer (some ⟨b, off + k * 8, none⟩)
  | 8 => v = .int .i64 sn
  | 9 => v = .int .i64 (sn + 1)
  | 10 => ∃ gz cz, v = .slice (some ⟨gz, 0, none⟩) (k + 1) cz ∧ OwnSP W lo (k + 1) cz (some ⟨gz, 0, none⟩) l
  | 11 => v = .int .i64 (sn + 1)
  | _ => True
theorem pgF_keep {b off c k lo j : Nat} {sn : Int} {l : List Pcs} {v : Value} {vs : List Value} {W W' : World} (h : pgF b off c k sn l lo j v vs W) (hc : Below W.heap.size W W') : pgF b off c k sn l lo j v vs W' := by
  unfold pgF at h ⊢
  split <;> simp only at h <;> try exact h
  all_goals
    obtain ⟨gz, cz, h1, h2⟩ := h
    exact ⟨gz, cz, h1, h2.below hc⟩
set_option maxRecDepth 100000 in
set_option maxHeartbeats 4000000 in
theorem forkImpl_c (A : Option Addr) (n c : Nat) (l : List Pcs) (q : Int) (hn : n ≤ 1048576) (hc : n ≤ c) (w : World) (hI : InProcess w A n l) :
    Calls Try.prog 19 #[.slice A n c, .int .i64 q] w (FkOut w l q) := by
  obtain ⟨i0, hi0, hz0, hz1, hz2⟩ := info_parts infoProcess
  have HII := hide hi0
  have HZ0 := hide hz0
  have HZ1 := hide hz1
  have HZ2 := hide hz2
  clear hi0 hz0 hz1 hz2
  have HI := hide hI
  have HL := hide hI.1
  clear hI
  go_enter Try.func19, Try.ntmps19
  go_wp2_with fail
  refine (pvImpl_c _ _ _ l hn hc _ HI.out).mono ?_
  rintro e w1 ⟨rfl, hb1⟩
  have B1 := hide hb1
  clear hb1
  cases hv : procsB l
  · have HF := hide (fork_bad (q := q) hv)
    clear hv
    go_wp2_with fail
    exact bodyPost_ret (v := .tuple #[.slice none 0 0, .int .i64 0]) (by simp [results, Try.results19, go_sem]) rfl (FkOut.of HF.out.1 HF.out.2 rfl (.inl ⟨rfl, rfl, rfl⟩) B1.out)
  have HV := hide hv
  have hpv := procsB_iff.1 hv
  obtain ⟨k, rfl⟩ : ∃ k, n = k + 1 := ⟨n - 1, by have := hpv.2.1; have := HL.out; omega⟩
  have hk10 : k + 1 ≤ 10 := by have := hpv.2.2.1; rw [HL.out] at this; exact this
  obtain ⟨b, off, hA, hR⟩ := HI.out.2 (by omega)
  subst hA
  have hR1 := hide (hR.below B1.out)
  obtain ⟨s, hs⟩ : ∃ s, l[k]? = some s := ⟨_, List.getElem?_eq_getElem (by rw [HL.out]; omega)⟩
  obtain ⟨sn, hsn⟩ : ∃ sn, s.number = sn := ⟨_, rfl⟩
  have hsb := (inB_iff.1 (hpv.1 k s (by rw [HL.out]; omega) hs).1)
  rw [hsn] at hsb
  have HS := hide hs
  have HSN := hide hsn
  obtain ⟨c0, _⟩ := hR1.out.2 k s hs
  rw [hsn] at c0
  have hbl := hR1.out.1
  have HKK := hide (show (k : Int) < (k : Int) + 1 by omega)
  have HJW := hide (show IntKind.i64.wrap (k : Int) = k from IntWalk.i64_in _ (by omega))
  have HSW := hide (show IntKind.i64.wrap (sn + 1) = sn + 1 from IntWalk.i64_in _ (by omega))
  clear hv hpv hs hR hsn
  go_wp2_with fail
  refine wp_flowX (os := [_, _, _, _, _, _, _, _, _, _, _, _]) (fun cc W => Below w1.heap.size w1 W) ((fun i W W' => Below W.heap.size W W')) (pgF b off c k sn l w1.heap.size) 12 rfl ?_ ?_ ?_ ?_ ?_ ?_ ?_
  · kernel_rfl
  · kernel_rfl
  · kernel_rfl
  · exact (fun i j v vs w1 w2 hij hdd h hc => pgF_keep h hc)
  · exact (Below.refl _ _).drew
  ·
    refine FlowStepsX.stepY 49 12 1 rfl rfl (by kernel_rfl) (by kernel_rfl) (by kernel_rfl) rfl rfl ?_ ?_
    ·
      intro cc act vs W hcc ha hvs hS hd hi K hK
      clear ha
      have u0 : act.tmps[0]? = some (.slice (some ⟨b, off, none⟩) (k + 1) c) := (hi.out 0 (by kernel_rfl)).trans rfl
      clear hd hi
      clear hvs
      refine wanted_un rfl ?_
      go_simp
      exact hK.out _ _ rfl hS (Below.refl _ _)
    refine FlowStepsX.stepY 49 12 2 rfl rfl (by kernel_rfl) (by kernel_rfl) (by kernel_rfl) rfl rfl ?_ ?_
    ·
      intro cc act vs W hcc ha hvs hS hd hi K hK
      clear ha
      have u11 : act.tmps[11]? = some (.slice (some ⟨b, off, none⟩) (k + 1) c) := by obtain ⟨_, u, _, h⟩ := hd.out ⟨0, .data⟩ (some 11) (by simp) rfl rfl; exact u.trans (congrArg some h)
      clear hd hi
      clear hvs
      refine wanted_un rfl ?_
      go_wp2_with fail
      refine (cloneP_c b off (k + 1) c l HL.out (by omega) _ (hR1.out.below hS)).mono ?_
      rintro e w6 ⟨gz, cz, rfl, ho, hb6⟩
      exact hK.out _ w6 ⟨gz, cz, rfl, ho.mono hS.size⟩ (hS.trans (hb6.mono hS.size)) hb6
    refine FlowStepsX.stepY 49 12 3 rfl rfl (by kernel_rfl) (by kernel_rfl) (by kernel_rfl) rfl rfl ?_ ?_
    ·
      intro cc act vs W hcc ha hvs hS hd hi K hK
      clear ha
      have u0 : act.tmps[0]? = some (.slice (some ⟨b, off, none⟩) (k + 1) c) := (hi.out 0 (by kernel_rfl)).trans rfl
      clear hd hi
      clear hvs
      refine wanted_un rfl ?_
      go_simp
      exact hK.out _ _ rfl hS (Below.refl _ _)
    refine FlowStepsX.stepY 49 12 4 rfl rfl (by kernel_rfl) (by kernel_rfl) (by kernel_rfl) rfl rfl ?_ ?_
    ·
      intro cc act vs W hcc ha hvs hS hd hi K hK
      clear ha
      have u0 : act.tmps[0]? = some (.slice (some ⟨b, off, none⟩) (k + 1) c) := (hi.out 0 (by kernel_rfl)).trans rfl
      clear hd hi
      clear hvs
      refine wanted_un rfl ?_
      go_simp
      exact hK.out _ _ rfl hS (Below.refl _ _)
    refine FlowStepsX.stepY 49 12 5 rfl rfl (by kernel_rfl) (by kernel_rfl) (by kernel_rfl) rfl rfl ?_ ?_
    ·
      intro cc act vs W hcc ha hvs hS hd hi K hK
      clear ha
      have u14 : act.tmps[14]? = some (.slice (some ⟨b, off, none⟩) (k + 1) c) := by obtain ⟨_, u, _, h⟩ := hd.out ⟨3, .data⟩ (some 14) (by simp) rfl rfl; exact u.trans (congrArg some h)
      clear hd hi
      clear hvs
      refine wanted_un rfl ?_
      go_simp
      exact hK.out _ _ rfl hS (Below.refl _ _)
    refine FlowStepsX.stepY 49 12 6 rfl rfl (by kernel_rfl) (by kernel_rfl) (by kernel_rfl) rfl rfl ?_ ?_
    ·
      intro cc act vs W hcc ha hvs hS hd hi K hK
      clear ha
      have u15 : act.tmps[15]? = some (.int .i64 ((k : Int) + 1)) := by obtain ⟨_, u, _, h⟩ := hd.out ⟨4, .data⟩ (some 15) (by simp) rfl rfl; exact u.trans (congrArg some h)
      clear hd hi
      clear hvs
      refine wanted_un rfl ?_
      have jw := HJW.out
      go_simp
      exact hK.out _ _ rfl hS (Below.refl _ _)
    refine FlowStepsX.stepY 49 12 7 rfl rfl (by kernel_rfl) (by kernel_rfl) (by kernel_rfl) rfl rfl ?_ ?_
    ·
      intro cc act vs W hcc ha hvs hS hd hi K hK
      clear ha
      have u13 : act.tmps[13]? = some (.slice (some ⟨b, off, none⟩) (k + 1) c) := by obtain ⟨_, u, _, h⟩ := hd.out ⟨2, .data⟩ (some 13) (by simp) rfl rfl; exact u.trans (congrArg some h)
      have u16 : act.tmps[16]? = some (.int .i64 k) := by obtain ⟨_, u, _, h⟩ := hd.out ⟨5, .data⟩ (some 16) (by simp) rfl rfl; exact u.trans (congrArg some h)
      clear hd hi
      clear hvs
      refine wanted_un rfl ?_
      have jj := HKK.out
      go_simp
      exact hK.out _ _ rfl hS (Below.refl _ _)
    refine FlowStepsX.stepY 49 12 8 rfl rfl (by kernel_rfl) (by kernel_rfl) (by kernel_rfl) rfl rfl ?_ ?_
    ·
      intro cc act vs W hcc ha hvs hS hd hi K hK
      clear ha
      have u17 : act.tmps[17]? = some (.pointer (some ⟨b, (off + k * 8), none⟩)) := by obtain ⟨_, u, _, h⟩ := hd.out ⟨6, .data⟩ (some 17) (by simp) rfl rfl; exact u.trans (congrArg some h)
      clear hd hi
      clear hvs
      refine wanted_un rfl ?_
      go_simp
      exact hK.out _ _ rfl hS (Below.refl _ _)
    refine FlowStepsX.stepY 49 12 9 rfl rfl (by kernel_rfl) (by kernel_rfl) (by kernel_rfl) rfl rfl ?_ ?_
    ·
      intro cc act vs W hcc ha hvs hS hd hi K hK
      clear ha
      have u18 : act.tmps[18]? = some (.pointer (some ⟨b, (off + k * 8), none⟩)) := by obtain ⟨_, u, _, h⟩ := hd.out ⟨7, .data⟩ (some 18) (by simp) rfl rfl; exact u.trans (congrArg some h)
      clear hd hi
      clear hvs
      refine wanted_un rfl ?_
      have e9 := (hS.cell (p := ⟨b, _, none⟩) hbl).trans c0
      go_simp
      exact hK.out _ _ rfl hS (Below.refl _ _)
    refine FlowStepsX.stepY 49 12 10 rfl rfl (by kernel_rfl) (by kernel_rfl) (by kernel_rfl) rfl rfl ?_ ?_
    ·
      intro cc act vs W hcc ha hvs hS hd hi K hK
      clear ha
      have u19 : act.tmps[19]? = some (.int .i64 sn) := by obtain ⟨_, u, _, h⟩ := hd.out ⟨8, .data⟩ (some 19) (by simp) rfl rfl; exact u.trans (congrArg some h)
      clear hd hi
      clear hvs
      refine wanted_un rfl ?_
      have jw := HSW.out
      go_simp
      exact hK.out _ _ rfl hS (Below.refl _ _)
    refine FlowStepsX.stepY 49 12 11 rfl rfl (by kernel_rfl) (by kernel_rfl) (by kernel_rfl) rfl rfl ?_ ?_
    ·
      intro cc act vs W hcc ha hvs hS hd hi K hK
      clear ha
      obtain ⟨_, u12, _, ⟨gz, cz, rfl, ho⟩⟩ := hd.out ⟨1, .data⟩ (some 12) (by simp) rfl rfl
      clear hd hi
      clear hvs
      refine wanted_un rfl ?_
      go_simp
      exact hK.out _ _ ⟨gz, cz, rfl, ho⟩ hS (Below.refl _ _)
    refine FlowStepsX.stepY 49 12 12 rfl rfl (by kernel_rfl) (by kernel_rfl) (by kernel_rfl) rfl rfl ?_ ?_
    ·
      intro cc act vs W hcc ha hvs hS hd hi K hK
      clear ha
      have u20 : act.tmps[20]? = some (.int .i64 (sn + 1)) := by obtain ⟨_, u, _, h⟩ := hd.out ⟨9, .data⟩ (some 20) (by simp) rfl rfl; exact u.trans (congrArg some h)
      clear hd hi
      clear hvs
      refine wanted_un rfl ?_
      go_simp
      exact hK.out _ _ rfl hS (Below.refl _ _)
    exact FlowStepsX.nil
  · intro c' ρ W hc' hS hd
    simp only [putFrom, Act.put, List.setIfInBounds_toArray, List.set_cons_zero, List.set_cons_succ, Nat.reduceAdd]
    obtain ⟨gz, cz, e10, ho⟩ := hd.out 10 (by decide) (by kernel_rfl)
    have e11 : ρ 11 = .int .i64 (sn + 1) := hd.out 11 (by decide) (by kernel_rfl)
    clear hd
    generalize ρ 10 = z10 at e10 ⊢
    generalize ρ 11 = z11 at e11 ⊢
    subst e10 e11
    have B2 := hide (B1.out.trans (hS.mono B1.out.size))
    have O2 := hide (ho.mono B1.out.size)
    have hR2 := hide (hR1.out.below hS)
    clear hS ho c0 hbl
    go_wp2_with fail
    refine (runs_c _ _ _ l q _ ⟨HL.out, fun _ => ⟨_, _, rfl, hR2.out⟩⟩ (by omega) hc).mono ?_
    rintro e w3 ⟨rfl, hb3⟩
    have B3 := hide (B2.out.trans (hb3.mono B2.out.size))
    have O3 := hide (O2.out.below hb3)
    have hR3 := hide (hR2.out.below hb3)
    clear hb3 hR2 O2
    rcases place_cases l q with ⟨hf, hx, hr⟩ | ⟨j, t, hf, hx, ht, hj, _, hr⟩
    · rw [hr]
      have HF := hide (fork_no (q := q) HV.out (by simp only [forkF, find_none hf]; split <;> simp_all))
      clear hf hx hr
      go_wp2_with fail
      exact bodyPost_ret (v := .tuple #[.slice (some ⟨gz, 0, none⟩) (k + 1) cz, .int .i64 0]) (by simp [results, Try.results19, go_sem]) rfl (FkOut.of HF.out.1 HF.out.2 HL.out O3.out B3.out)
    rw [hr]
    have hjn : j < k + 1 := by rw [← HL.out]; exact hj
    have HT := hide ht
    have HX := hide hx
    have HFF := hide (show forkF l q = if t.ended = false ∧ l.length ≠ 10 ∧ sn + 1 ≤ 99 then some ⟨sn + 1, q, t.real, t.acts, t.saved, t.groups, false, 0⟩ else none by
      simp only [forkF, find_place hf ht, HL.out, Nat.add_sub_cancel, HS.out, HSN.out])
    have j0 : (0 : Int) ≤ (j : Int) := by omega
    clear hx hr hf ht hj
    cases hte : t.ended
    case true =>
      have HF := hide (fork_no (q := q) HV.out (by rw [HFF.out, if_neg (by simp [hte])]))
      go_wp2_with fail
      exact bodyPost_ret (v := .tuple #[.slice (some ⟨gz, 0, none⟩) (k + 1) cz, .int .i64 0]) (by simp [results, Try.results19, go_sem]) rfl (FkOut.of HF.out.1 HF.out.2 HL.out O3.out B3.out)
    by_cases h10 : k + 1 = 10
    · obtain rfl : k = 9 := by omega
      have HF := hide (fork_no (q := q) HV.out (by rw [HFF.out, if_neg (by simp [HL.out])]))
      go_wp2_with fail
      exact bodyPost_ret (v := .tuple #[.slice (some ⟨gz, 0, none⟩) (9 + 1) cz, .int .i64 0]) (by simp [results, Try.results19, go_sem]) rfl (FkOut.of HF.out.1 HF.out.2 HL.out O3.out B3.out)
    have h10' : (((k + 1 : Nat) : Int) == 10) = false := by simp; omega
    have h10'' : ((k : Int) + 1 == 10) = false := by simp; omega
    by_cases h99 : 99 < sn + 1
    · have HF := hide (fork_no (q := q) HV.out (by rw [HFF.out, if_neg (by omega)]))
      go_wp2_with fail
      exact bodyPost_ret (v := .tuple #[.slice (some ⟨gz, 0, none⟩) (k + 1) cz, .int .i64 0]) (by simp [results, Try.results19, go_sem]) rfl (FkOut.of HF.out.1 HF.out.2 HL.out O3.out B3.out)
    have HF := hide (fork_yes (q := q) HV.out (by rw [HFF.out, if_pos ⟨hte, by rw [HL.out]; exact h10, by omega⟩]))
    go_wp2_with fail
    refine (pplace_c _ _ _ l q _ ⟨HL.out, fun _ => ⟨_, _, rfl, hR3.out⟩⟩ (by omega)).mono ?_
    rintro e w4 ⟨rfl, hb4⟩
    have B4 := hide (B3.out.trans (hb4.mono B3.out.size))
    have O4 := hide (O3.out.below hb4)
    obtain ⟨t0, t1, t2, t3, t4, t5, t6, t7⟩ := (hR3.out.below hb4).2 j t HT.out
    have hbl := (hR3.out.below hb4).1
    rw [HX.out]
    clear hb4
    have OW := hide ((O4.out.own HL.out).alloc (.cells #[.int .i64 (sn + 1), .int .i64 q, .int .i64 t.real, .int .i64 t.acts, .int .i64 t.saved, .int .i64 t.groups, .bool false, .int .i64 0] 39))
    go_wp2_with (at_builtin; refine wpList_append_own _ rfl _ _ 25 rfl w.heap.size 39 i0 _ 8 64 Try.underlying25 HII.out HZ0.out HZ1.out HZ2.out rfl (by decide) _ _ _ rfl OW.out ⟨w4.heap.size, 0, none⟩ 1 1 (flatP [⟨sn + 1, q, t.real, t.acts, t.saved, t.groups, false, 0⟩]) rfl rfl ?qa0 (flatP_one _) ?qb0 ?qd0 ?qe0 ?_)
    case qa0 => exact flatP_new w4 ⟨sn + 1, q, t.real, t.acts, t.saved, t.groups, false, 0⟩ _ _ rfl
    case qb0 => unfold maxLen; omega
    case qd0 => omega
    case qe0 => simp; have := B4.out.size; omega
    intro v' w5 hown hgrow hnil
    rw [← flatP_app] at hown
    obtain ⟨A5, c5, rfl, ho5⟩ := ownSP_of hown (by simp [HL.out])
    have B5 := hide ((B4.out.alloc B4.out.size (.cells #[.int .i64 (sn + 1), .int .i64 q, .int .i64 t.real, .int .i64 t.acts, .int .i64 t.saved, .int .i64 t.groups, .bool false, .int .i64 0] 39)).grown hgrow (by simp; have := B4.out.size; omega) (fun q hq => (OW.out.lt q hq).1))
    have O5 := hide ho5
    clear hown hgrow hnil ho5
    go_wp2_with fail
    exact bodyPost_ret (v := .tuple #[.slice A5 (k + 1 + 1) c5, .int .i64 (sn + 1)]) (by simp [results, Try.results19, go_sem]) rfl (FkOut.of HF.out.1 HF.out.2 (by simp [HL.out]) O5.out B5.out)
end Go.Proofs.Ytlfchcjollcdhaa
