/-
  SetGrant of the program. No condition.
-/
import Derived.Test.YtpifnfhgaemdmaaProg
import Derived.Test.YtpifnfhgaemdmaaSg
namespace Go.Proofs.Ytpifnfhgaemdmaa
open Go.RowKit
set_option linter.unusedSimpArgs false
set_option linter.unusedVariables false

theorem own_base {W : World} {B B' n : Nat} {v : Value} {xs : List Value} (h : W.ownsRow B 40 3 v n xs) (hb : B' ≤ B) : W.ownsRow B' 40 3 v n xs := by
  refine ⟨h.1, ?_⟩
  rcases h.2 with h2 | ⟨g, cap, cur, h1, h2, h3⟩
  · exact .inl h2
  · exact .inr ⟨g, cap, cur, h1, Nat.le_trans hb h2, h3⟩
set_option maxHeartbeats 2000000 in
theorem cloneG_c (b off n c : Nat) (l : List Grant) (hl : l.length = n) (hn : n ≤ 1048576) (w : World) (hR : RdGrant w b off l) :
    Calls Try.prog 54 #[.slice (some ⟨b, off, none⟩) n c] w fun e w' => ∃ gz cz, e = .returned (.slice (some ⟨gz, 0, none⟩) n cz) ∧ w'.ownsRow w.heap.size 40 3 (.slice (some ⟨gz, 0, none⟩) n cz) n (flatG l) ∧ Below w.heap.size w w' := by
  obtain ⟨i0, hi0, hz0, hz1, hz2⟩ := info_parts infoGrant
  have A := hide hR
  clear hR
  have HI := hide hi0
  have HZ0 := hide hz0
  have HZ1 := hide hz1
  have HZ2 := hide hz2
  clear hi0 hz0 hz1 hz2
  have q22 : ∀ (w : World) (a : Option Addr) (n c n' c' : Nat), (binOp .eql 22 (.slice a n c) (.slice none n' c')).run Try.prog w = .ok (.bool a.isNone) w := fun w a n c n' c' => Lib.run_eql_slice_nil w _ _ a n c n' c' Try.underlying22
  have u22 : ∀ w, Sem.run Try.prog (underlying 22) w = .ok (TypeDesc.slice 40) w := run_underlying Try.underlying22
  go_enter Try.func54, Try.ntmps54
  go_wp2_with (at_builtin; refine wpList_append_own _ rfl _ _ 22 rfl w.heap.size 40 i0 _ 3 24 Try.underlying22 HI.out HZ0.out HZ1.out HZ2.out rfl (by decide) _ _ _ rfl (World.ownsRow_made w #[] 0 (Nat.le_refl _) (Nat.zero_le _) (by simp)) ⟨b, off, none⟩ n c (flatG l) rfl ?qc1 ?qc2 ?qc3 ?qc4 ?qc5 ?qc6 ?_)
  case qc1 => rw [flatG_len, hl]
  case qc2 =>
    intro j u hj
    rw [Addr.add_lit]
    exact Lib.cell?_alloc_some _ (flatG_cells A.out j u hj)
  case qc3 => exact flatG_one l
  case qc4 => rw [Nat.zero_add]; unfold maxLen; omega
  case qc5 => rw [Nat.zero_add]; omega
  case qc6 => simp
  intro v' w1 hown hgrow hnil
  have hnil' : v' ≠ .slice none 0 0 := hnil
  obtain ⟨gz, cz, rfl⟩ := own_slice hown hnil'
  go_wp2
  go_ret
  refine ⟨gz, cz, rfl, hown, ?_⟩
  exact ((Below.refl _ w).alloc (Nat.le_refl _) _).grown hgrow (by simp) (by intro k hk; simp [Value.ownBlock] at hk; omega)
def siMap (i : Nat) : Nat := match i with | 0 => 0 | 1 => 1 | 2 => 3 | 3 => 4 | 4 => 5 | 5 => 6 | 6 => 7 | 7 => 8 | 8 => 9 | 9 => 10 | _ => 11
theorem siMap_eq {i : Nat} : (siMap i = 5 → i = 4) ∧ (siMap i = 10 → i = 9) ∧ (siMap i = 8 → i = 7) ∧ (siMap i = 9 → i = 8) ∧ siMap i ≠ 2 := by
  unfold siMap; split <;> simp
theorem sgC_all {lo s i : Nat} {W W' : World} (hb : Below W.heap.size W W') (hl : lo ≤ W.heap.size) : sgC lo s i W W' := by
  unfold sgC
  split
  · exact hb.mono hl
  · split
    · refine ⟨hb.mono hl, fun b C h => hb.block b ?_⟩
      rcases Nat.lt_or_ge b W.heap.size with hlt | hge
      · exact hlt
      · rw [Array.getElem?_eq_none hge] at h; cases h
    · exact hb
set_option maxHeartbeats 4000000 in
theorem sgImpl_some (m : Int) (b off n c : Nat) (k : Int) (l : List Grant) (tg : Bool) (tw tr : Int) (hn : n ≤ 1048576) (hc : n ≤ c) (hcm : c ≤ maxLen) (w : World) (hl : l.length = n) (hR : RdGrant w b off l) :
    Calls Try.prog 28 #[.agg #[.int .i64 m, .slice (some ⟨b, off, none⟩) n c, .int .i64 k], .agg #[.bool tg, .int .i64 tw, .int .i64 tr]] w (SgOut w m l k ⟨tg, tw, tr⟩) := by
  obtain ⟨i0, hi0, hz0, hz1, hz2⟩ := info_parts infoGrant
  have HII := hide hi0
  have HZ0 := hide hz0
  have HZ1 := hide hz1
  have HZ2 := hide hz2
  clear hi0 hz0 hz1 hz2
  have HL := hide hl
  have HR := hide hR
  clear hR hl
  go_enter Try.func28, Try.ntmps28
  go_wp2_with fail
  have BW0 : Below w.heap.size w (((w.alloc (.cells #[.int .i64 m, .slice (some ⟨b, off, none⟩) n c, .int .i64 k] 24)).alloc (.cells #[.bool tg, .int .i64 tw, .int .i64 tr] 40)).alloc (.cells #[.int .i64 0, .slice none 0 0, .int .i64 0] 24)) := below_alloc0 (below_alloc0 (below_alloc0 (Below.refl _ _) _) _) _
  refine (lvImpl_c _ _ _ _ _ l hn hc hcm _ ⟨HL.out, fun _ => ⟨_, _, rfl, HR.out.below BW0⟩⟩).mono ?_
  rintro e W0 ⟨rfl, hb1⟩
  have L1 := live hb1 w.heap.size (by simp; try omega)
  have M1 := live hb1 (w.heap.size + 1) (by simp; try omega)
  have N1 := live hb1 (w.heap.size + 2) (by simp; try omega)
  have B1 := hide (below_via0 BW0 hb1)
  have hR0 := hide (HR.out.below B1.out)
  have RR0 : Row W0 (w.heap.size + 1 + 1) 3 noCell := by
    have := (Row.madeN ((w.alloc (.cells #[.int .i64 m, .slice (some ⟨b, off, none⟩) n c, .int .i64 k] 24)).alloc (.cells #[.bool tg, .int .i64 tw, .int .i64 tr] 40)) 24 #[.int .i64 0, .slice none 0 0, .int .i64 0] 3 rfl).below hb1 (by simp)
    simpa using this
  have HRR0 := hide RR0
  have hbw : b < w.heap.size := HR.out.1
  clear hb1 RR0
  cases hlv : listB m l k
  · have HF := hide hlv
    obtain ⟨u0, v0⟩ := HRR0.out.some_ex (j := 0) (by omega)
    obtain ⟨u1, v1⟩ := HRR0.out.some_ex (j := 1) (by omega)
    obtain ⟨u2, v2⟩ := HRR0.out.some_ex (j := 2) (by omega)
    have vz0 := HRR0.out.frozen 0
    have vz1 := HRR0.out.frozen 1
    have vz2 := HRR0.out.frozen 2
    have hrl := HRR0.out.lt
    clear L1 M1 N1 hlv
    go_wp2_with fail
    exact bodyPost_ret (v := .tuple #[.agg #[.int .i64 0, .slice none 0 0, .int .i64 0], .bool false]) (by simp [results, Try.results28, go_sem, *]) rfl (SgOut.bad HF.out (below_set3 B1.out (by omega)))
  · have HV := hide hlv
    have hn6 : n ≤ 6 := by rw [← HL.out]; exact (listB_iff.1 hlv).2.2.2
    have x0 : W0.cell? ⟨w.heap.size, 0, none⟩ = some (.int .i64 m) := by simp [go_sem, L1]
    have x1 : W0.cell? ⟨w.heap.size, 1, none⟩ = some (.slice (some ⟨b, off, none⟩) n c) := by simp [go_sem, L1]
    have x2 : W0.cell? ⟨w.heap.size, 2, none⟩ = some (.int .i64 k) := by simp [go_sem, L1]
    have y0 : W0.cell? ⟨w.heap.size + 1, 0, none⟩ = some (.bool tg) := by simp [go_sem, M1]
    have y1 : W0.cell? ⟨w.heap.size + 1, 1, none⟩ = some (.int .i64 tw) := by simp [go_sem, M1]
    have y2 : W0.cell? ⟨w.heap.size + 1, 2, none⟩ = some (.int .i64 tr) := by simp [go_sem, M1]
    have hxl := L1.1
    have hxl1 := M1.1
    have hxl2 := N1.1
    clear hlv L1 M1 N1
    go_wp2_with fail
    obtain ⟨xd, hxd⟩ : ∃ xd, xd = w.heap.size := ⟨_, rfl⟩
    have hrr0 := HRR0.out
    rw [← hxd] at x0 x1 x2 y0 y1 y2 hxl hxl1 hxl2 hrr0 hbw ⊢
    have HX := hide (And.intro x0 (And.intro x1 x2))
    have HRR := hide hrr0
    clear hrr0
    have HXD := hide hxd
    clear hxd
    refine wp_flowZ (os := [_, _, _, _, _, _, _, _, _, _]) (fun cc W => Below W0.heap.size W0 W) ((fun i W W' => sgC W0.heap.size 10 (siMap i) W W')) (fun i v vs W => sgF m (some ⟨b, off, none⟩) n c k l xd W0.heap.size (siMap i) v vs W) 10 rfl ?_ ?_ ?_ ?_ ?_ ?_ ?_
    · kernel_rfl
    · kernel_rfl
    · kernel_rfl
    · exact (fun i j v vs w1 w2 hij hdd hbf h hc => sgF_keep (fun h5 => by obtain rfl := siMap_eq.1 h5; exact ⟨siMap_eq.2.2.2.2, fun e => hij (siMap_eq.1 e).symm, fun e => by obtain rfl := siMap_eq.2.2.1 e; exact absurd (show beforeX _ 4 7 = true by kernel_rfl) (by rw [hbf]; decide), fun e => by obtain rfl := siMap_eq.2.1 e; exact absurd (show beforeX _ 4 9 = true by kernel_rfl) (by rw [hbf]; decide)⟩) (fun h10 => by obtain rfl := siMap_eq.2.1 h10; exact ⟨siMap_eq.2.2.2.2, fun e => by obtain rfl := siMap_eq.1 e; exact absurd (show dead _ 9 4 = true by kernel_rfl) (by rw [hdd]; decide), fun e => by obtain rfl := siMap_eq.2.2.1 e; exact absurd (show dead _ 9 7 = true by kernel_rfl) (by rw [hdd]; decide), fun e => by obtain rfl := siMap_eq.2.2.2.1 e; exact absurd (show dead _ 9 8 = true by kernel_rfl) (by rw [hdd]; decide), fun e => hij (siMap_eq.2.1 e).symm⟩) h hc)
    · exact (Below.refl _ _).drew
    ·
      refine FlowStepsX.stepY 52 10 1 rfl rfl (by kernel_rfl) (by kernel_rfl) (by kernel_rfl) rfl rfl ?_ ?_
      ·
        intro cc act vs W hcc ha hvs hS hd hi K hK
        clear ha
        have u2 : act.tmps[2]? = some (.pointer (some ⟨xd, 0, none⟩)) := (hi.out 2 (by kernel_rfl)).trans rfl
        clear hd hi
        clear hvs
        refine wanted_un rfl ?_
        go_simp
        exact hK.out _ _ rfl hS (sgC_all (Below.refl _ _) hS.size)
      refine FlowStepsX.stepY 52 10 2 rfl rfl (by kernel_rfl) (by kernel_rfl) (by kernel_rfl) rfl rfl ?_ ?_
      ·
        intro cc act vs W hcc ha hvs hS hd hi K hK
        clear ha
        have u12 : act.tmps[12]? = some (.pointer (some ⟨xd, 0, none⟩)) := by obtain ⟨_, u, _, h⟩ := hd.out ⟨0, .data⟩ (some 12) (by simp) rfl rfl; exact u.trans (congrArg some h)
        clear hd hi
        clear hvs
        refine wanted_un rfl ?_
        have e0 := (hS.cell (p := ⟨xd, 0, none⟩) hxl).trans x0
        go_simp
        exact hK.out _ _ rfl hS (sgC_all (Below.refl _ _) hS.size)
      refine FlowStepsX.stepY 52 10 3 rfl rfl (by kernel_rfl) (by kernel_rfl) (by kernel_rfl) rfl rfl ?_ ?_
      ·
        intro cc act vs W hcc ha hvs hS hd hi K hK
        clear ha
        have u2 : act.tmps[2]? = some (.pointer (some ⟨xd, 0, none⟩)) := (hi.out 2 (by kernel_rfl)).trans rfl
        clear hd hi
        clear hvs
        refine wanted_un rfl ?_
        go_simp
        exact hK.out _ _ rfl hS (sgC_all (Below.refl _ _) hS.size)
      refine FlowStepsX.stepY 52 10 4 rfl rfl (by kernel_rfl) (by kernel_rfl) (by kernel_rfl) rfl rfl ?_ ?_
      ·
        intro cc act vs W hcc ha hvs hS hd hi K hK
        clear ha
        have u14 : act.tmps[14]? = some (.pointer (some ⟨xd, 1, none⟩)) := by obtain ⟨_, u, _, h⟩ := hd.out ⟨2, .data⟩ (some 14) (by simp) rfl rfl; exact u.trans (congrArg some h)
        clear hd hi
        clear hvs
        refine wanted_un rfl ?_
        have e1 := (hS.cell (p := ⟨xd, 1, none⟩) hxl).trans x1
        go_simp
        exact hK.out _ _ rfl hS (sgC_all (Below.refl _ _) hS.size)
      refine FlowStepsX.stepY 52 10 5 rfl rfl (by kernel_rfl) (by kernel_rfl) (by kernel_rfl) rfl rfl ?_ ?_
      ·
        intro cc act vs W hcc ha hvs hS hd hi K hK
        clear ha
        have u15 : act.tmps[15]? = some (.slice (some ⟨b, off, none⟩) n c) := by obtain ⟨_, u, _, h⟩ := hd.out ⟨3, .data⟩ (some 15) (by simp) rfl rfl; exact u.trans (congrArg some h)
        clear hd hi
        clear hvs
        refine wanted_un rfl ?_
        go_wp2_with fail
        refine (cloneG_c b off n c l HL.out hn _ (hR0.out.below hS)).mono ?_
        rintro e w6 ⟨gz, cz, rfl, ho, hb6⟩
        exact hK.out _ w6 ⟨gz, cz, rfl, own_base ho hS.size⟩ (hS.trans (hb6.mono hS.size)) (sgC_all hb6 hS.size)
      refine FlowStepsX.stepY 52 10 6 rfl rfl (by kernel_rfl) (by kernel_rfl) (by kernel_rfl) rfl rfl ?_ ?_
      ·
        intro cc act vs W hcc ha hvs hS hd hi K hK
        clear ha
        have u2 : act.tmps[2]? = some (.pointer (some ⟨xd, 0, none⟩)) := (hi.out 2 (by kernel_rfl)).trans rfl
        clear hd hi
        clear hvs
        refine wanted_un rfl ?_
        go_simp
        exact hK.out _ _ rfl hS (sgC_all (Below.refl _ _) hS.size)
      refine FlowStepsX.stepY 52 10 7 rfl rfl (by kernel_rfl) (by kernel_rfl) (by kernel_rfl) rfl rfl ?_ ?_
      ·
        intro cc act vs W hcc ha hvs hS hd hi K hK
        clear ha
        have u17 : act.tmps[17]? = some (.pointer (some ⟨xd, 2, none⟩)) := by obtain ⟨_, u, _, h⟩ := hd.out ⟨5, .data⟩ (some 17) (by simp) rfl rfl; exact u.trans (congrArg some h)
        clear hd hi
        clear hvs
        refine wanted_un rfl ?_
        have e2 := (hS.cell (p := ⟨xd, 2, none⟩) hxl).trans x2
        go_simp
        exact hK.out _ _ rfl hS (sgC_all (Below.refl _ _) hS.size)
      refine FlowStepsX.stepY 52 10 8 rfl rfl (by kernel_rfl) (by kernel_rfl) (by kernel_rfl) rfl rfl ?_ ?_
      ·
        intro cc act vs W hcc ha hvs hS hd hi K hK
        clear ha
        have u13 : act.tmps[13]? = some (.int .i64 m) := by obtain ⟨_, u, _, h⟩ := hd.out ⟨1, .data⟩ (some 13) (by simp) rfl rfl; exact u.trans (congrArg some h)
        obtain ⟨_, u16, _, ⟨gz, cz, rfl, hown⟩⟩ := hd.out ⟨4, .data⟩ (some 16) (by simp) rfl rfl
        have u18 : act.tmps[18]? = some (.int .i64 k) := by obtain ⟨_, u, _, h⟩ := hd.out ⟨6, .data⟩ (some 18) (by simp) rfl rfl; exact u.trans (congrArg some h)
        clear hd hi
        clear hvs
        refine wanted_un rfl ?_
        go_simp
        exact hK.out _ _ ⟨_, _, rfl, hown⟩ hS (sgC_all (Below.refl _ _) hS.size)
      refine FlowStepsX.stepY 52 10 9 rfl rfl (by kernel_rfl) (by kernel_rfl) (by kernel_rfl) rfl rfl ?_ ?_
      ·
        intro cc act vs W hcc ha hvs hS hd hi K hK
        clear ha
        clear hd hi
        clear hvs
        refine wanted_un rfl ?_
        go_simp
        have hsz := hS.size
        exact hK.out _ _ ⟨W.heap.size, rfl, hsz, _, Below.heap_alloc_self W _, rfl⟩ (hS.alloc hsz _) (sgC_all ((Below.refl _ _).alloc (Nat.le_refl _) _) hsz)
      refine FlowStepsX.stepY 52 10 10 rfl rfl (by kernel_rfl) (by kernel_rfl) (by kernel_rfl) rfl rfl ?_ ?_
      ·
        intro cc act vs W hcc ha hvs hS hd hi K hK
        clear ha
        obtain ⟨_, u6, _, ⟨q, rfl, hlo, hLB⟩⟩ := hd.out ⟨8, .data⟩ (some 6) (by simp) rfl rfl
        obtain ⟨_, u19, _, ⟨gz, cz, rfl, hz2⟩⟩ := hd.out ⟨7, .data⟩ (some 19) (by simp) rfl rfl
        clear hd hi
        refine wanted_un rfl ?_
        have hr := hLB.row
        obtain ⟨y0, g0⟩ := hr.some_ex (j := 0) (by omega)
        have z0 := hr.frozen 0
        obtain ⟨y1, g1⟩ := hr.some_ex (j := 1) (by omega)
        have z1 := hr.frozen 1
        obtain ⟨y2, g2⟩ := hr.some_ex (j := 2) (by omega)
        have z2 := hr.frozen 2
        have hl0 := (hvs.out 0 6 rfl).trans u6
        go_simp
        exact hK.out (.pointer (some ⟨q, 0, none⟩)) _ ⟨q, gz, cz, rfl, hl0, hlo, rwl_set3 hr, own_far3 hz2 (own_apart hz2 hLB), own_apart hz2 hLB, ((hLB.set 0 _).set 1 _).set 2 _⟩ (below_set3 hS hlo) (by unfold sgC; rw [if_pos (show siMap _ = 10 from rfl)]; exact below_set3 (Below.refl _ _) hlo)
      exact FlowStepsX.nil

    · intro c' ρ W hc' hS hd
      simp only [putFrom, Act.put, List.setIfInBounds_toArray, List.set_cons_zero, List.set_cons_succ, Nat.reduceAdd]
      obtain ⟨q, gz, cz, h10, hl10, hlo, hrow, hown, hne, hlb⟩ := hd.out 9 (by decide) (by kernel_rfl)
      have e9 : ρ 8 = .pointer (some ⟨q, 0, none⟩) := by
        rw [h10] at hl10; exact Option.some.inj hl10
      clear hd hl10 h10
      generalize ρ 8 = x9 at e9 ⊢
      subst e9
      have hsz := hS.size
      obtain ⟨gz', cz', mz, hv, hglo, hnc, hcm', hmz, hrz⟩ := ownG_of HL.out hown (by simp)
      obtain ⟨rfl, rfl⟩ : gz = gz' ∧ cz = cz' := by simpa using hv
      clear hv
      have hRz := hide (RdGrant_of_rowm hrz HL.out)
      have hs1 := hide (hS.cell (p := ⟨xd + 1, 0, none⟩) hxl1 |>.trans y0)
      have hs2 := hide (hS.cell (p := ⟨xd + 1, 1, none⟩) hxl1 |>.trans y1)
      have hs3 := hide (hS.cell (p := ⟨xd + 1, 2, none⟩) hxl1 |>.trans y2)
      have hq1 := hide (hrow.cell (j := 1) rfl)
      have HRO := hide hrow
      have HLB := hide hlb
      have HRZ := hide hrz
      have HOW := hide hown
      have BW := hide (B1.out.trans (hS.mono B1.out.size))
      have hql := hrow.lt
      have hgl := hrz.lt
      have HS0 := hide hS
      have z0 := hs1.out
      have z1 := hs2.out
      have z2 := hs3.out
      have zq := hq1.out
      clear hlb hrow hrz hown x0 x1 x2 hS
      go_wp2_with fail
      refine (gplace_c _ _ _ l tg tw _ ⟨HL.out, fun _ => ⟨_, _, rfl, hRz.out⟩⟩ (by omega)).mono ?_
      rintro e wr ⟨rfl, hbel⟩
      have HBel := hide hbel
      clear hbel z0 z1 z2 zq
      have hwz := HBel.out.size
      have e1 := (HBel.out.cell (p := ⟨q, 1, none⟩) hql).trans hq1.out
      have hqr : q < wr.heap.size := by omega
      have f0 := (HBel.out.cell (p := ⟨xd + 1, 0, none⟩) (by show xd + 1 < _; omega)).trans hs1.out
      have f1 := (HBel.out.cell (p := ⟨xd + 1, 1, none⟩) (by show xd + 1 < _; omega)).trans hs2.out
      have f2 := (HBel.out.cell (p := ⟨xd + 1, 2, none⟩) (by show xd + 1 < _; omega)).trans hs3.out
      have hgr : gz < wr.heap.size := by omega
      have hxr : xd + 1 < wr.heap.size := by omega
      cases hfi : l.findIdx? (isG tg tw) with
      | some j =>
        obtain ⟨hjl, hjy, hjn⟩ := List.findIdx?_eq_some_iff_getElem.1 hfi
        have hlt : j < n := by rw [← HL.out]; exact hjl
        have HP := hide (show putG l ⟨tg, tw, tr⟩ = l.set j ⟨tg, tw, tr⟩ by simp only [putG, hfi])
        have HIX := hide (show idxG l tg tw = (j : Int) by simp only [idxG, hfi])
        have hjj : (0 : Int) ≤ (j : Int) := by omega
        have hjc : (j : Int) < n := by omega
        have hrz := HRZ.out.below HBel.out hgl
        have c0 := hrz.some_ex (j := j * 3) (by omega)
        have c1 := hrz.some_ex (j := j * 3 + 1) (by omega)
        have c2 := hrz.some_ex (j := j * 3 + 2) (by omega)
        obtain ⟨u0, c0⟩ := c0
        obtain ⟨u1, c1⟩ := c1
        obtain ⟨u2, c2⟩ := c2
        have z0 := hrz.frozen (j * 3)
        have z1 := hrz.frozen (j * 3 + 1)
        have z2 := hrz.frozen (j * 3 + 2)
        have hlo2 := hglo
        have g0 := (HBel.out.cell (p := ⟨q, 0, none⟩) hql).trans (HRO.out.cell (j := 0) rfl)
        have g2 := (HBel.out.cell (p := ⟨q, 2, none⟩) hql).trans (HRO.out.cell (j := 2) rfl)
        have HTn := hide (((((ownG_ty HOW.out).below HBel.out).set (b := gz) (o := j * 3) (.bool tg)).set (b := gz) (o := j * 3 + 1) (.int .i64 tw)).set (b := gz) (o := j * 3 + 2) (.int .i64 tr))
        have HRn := hide (row_setGrant (t := ⟨tg, tw, tr⟩) hrz (by omega) hlt HL.out)
        have HRQ := hide ((((HRO.out.below HBel.out hql).far (p := ⟨gz, j * 3, none⟩) (Ne.symm hne) (.bool tg)).far (p := ⟨gz, j * 3 + 1, none⟩) (Ne.symm hne) (.int .i64 tw)).far (p := ⟨gz, j * 3 + 2, none⟩) (Ne.symm hne) (.int .i64 tr))
        have B05 := hide ((((HS0.out.trans (HBel.out.mono hsz)).setCell (p := ⟨gz, j * 3, none⟩) hlo2 (.bool tg)).setCell (p := ⟨gz, j * 3 + 1, none⟩) hlo2 (.int .i64 tw)).setCell (p := ⟨gz, j * 3 + 2, none⟩) hlo2 (.int .i64 tr))
        rw [HIX.out]
        clear hrz hjl hjy hjn hfi HIX
        have hncz := hnc
        have hcmn := hcm'
        have hmn := hmz
        go_wp2_with fail
        refine (lvImpl_c _ _ _ _ _ (l.set j (⟨tg, tw, tr⟩ : Grant)) (by omega) hnc hcm' _ ⟨by simp [HL.out], fun _ => ⟨_, _, rfl, RdGrant_of_rowm HRn.out (by simp [HL.out])⟩⟩).mono ?_
        rintro e w6 ⟨rfl, hb6⟩
        have B06 := hide (B05.out.trans (hb6.mono B05.out.size))
        have hz6 := B06.out.size
        have hrq6 := HRQ.out.below hb6 HRQ.out.lt
        have HRN6 := hide (HRn.out.below hb6 HRn.out.lt)
        have HTN6 := hide (HTn.out.below hb6)
        have hrr6 := HRR.out.below B06.out hxl2
        have x0 := (B06.out.cell (p := ⟨xd, 0, none⟩) hxl).trans HX.out.1
        have x1 := (B06.out.cell (p := ⟨xd, 1, none⟩) hxl).trans HX.out.2.1
        have x2 := (B06.out.cell (p := ⟨xd, 2, none⟩) hxl).trans HX.out.2.2
        have hq0 := hrq6.cell (j := 0) rfl
        have hq1' := hrq6.cell (j := 1) rfl
        have hq2 := hrq6.cell (j := 2) rfl
        have hql6 := hrq6.lt
        obtain ⟨u0, v0⟩ := hrr6.some_ex (j := 0) (by omega)
        obtain ⟨u1, v1⟩ := hrr6.some_ex (j := 1) (by omega)
        obtain ⟨u2, v2⟩ := hrr6.some_ex (j := 2) (by omega)
        have vz0 := hrr6.frozen 0
        have vz1 := hrr6.frozen 1
        have vz2 := hrr6.frozen 2
        have hrl6 := hrr6.lt
        clear hb6
        cases hlv2 : listB m (l.set j (⟨tg, tw, tr⟩ : Grant)) k
        · go_wp2_with fail
          clear v0 v1 v2 vz0 vz1 vz2 hq0 hq1' hq2
          refine wp_flowZ (os := [_, _, _, _, _, _, _, _, _, _]) (fun cc W => Below (xd + 1 + 1) w6 W ∧ w6.heap.size ≤ W.heap.size ∧ Row W (xd + 1 + 1) 3 noCell) ((fun i W W' => sgC (xd + 1 + 1) 9 (siMap i) W W')) (fun i v vs W => sgF2 m (some ⟨b, off, none⟩) n c k l xd w6.heap.size (siMap i) v vs W) 10 rfl ?_ ?_ ?_ ?_ ?_ ?_ ?_
          · kernel_rfl
          · kernel_rfl
          · kernel_rfl
          · exact (fun i j v vs w1 w2 hij hdd hbf h hc => sgF2_keep (fun h5 => by obtain rfl := siMap_eq.1 h5; exact ⟨siMap_eq.2.2.2.2, fun e => hij (siMap_eq.1 e).symm, fun e => by obtain rfl := siMap_eq.2.2.1 e; exact absurd (show beforeX _ 4 7 = true by kernel_rfl) (by rw [hbf]; decide), fun e => by obtain rfl := siMap_eq.2.2.2.1 e; exact absurd (show beforeX _ 4 8 = true by kernel_rfl) (by rw [hbf]; decide)⟩) (fun h9 => by obtain rfl := siMap_eq.2.2.2.1 h9; exact ⟨siMap_eq.2.2.2.2, fun e => by obtain rfl := siMap_eq.1 e; exact absurd (show dead _ 8 4 = true by kernel_rfl) (by rw [hdd]; decide), fun e => by obtain rfl := siMap_eq.2.2.1 e; exact absurd (show dead _ 8 7 = true by kernel_rfl) (by rw [hdd]; decide), fun e => hij (siMap_eq.2.2.2.1 e).symm⟩) h hc)
          · exact ⟨(Below.refl _ _).drew, Nat.le_refl _, hrr6⟩
          ·
            refine FlowStepsX.stepY 52 10 1 rfl rfl (by kernel_rfl) (by kernel_rfl) (by kernel_rfl) rfl rfl ?_ ?_
            ·
              intro cc act vs W hcc ha hvs hS hd hi K hK
              clear ha
              have u2 : act.tmps[2]? = some (.pointer (some ⟨xd, 0, none⟩)) := (hi.out 2 (by kernel_rfl)).trans rfl
              clear hd hi
              clear hvs
              refine wanted_un rfl ?_
              go_simp
              exact hK.out _ _ rfl hS (sgC_all (Below.refl _ _) (by have := hS.2.1; omega))
            refine FlowStepsX.stepY 52 10 2 rfl rfl (by kernel_rfl) (by kernel_rfl) (by kernel_rfl) rfl rfl ?_ ?_
            ·
              intro cc act vs W hcc ha hvs hS hd hi K hK
              clear ha
              have u43 : act.tmps[43]? = some (.pointer (some ⟨xd, 0, none⟩)) := by obtain ⟨_, u, _, h⟩ := hd.out ⟨0, .data⟩ (some 43) (by simp) rfl rfl; exact u.trans (congrArg some h)
              clear hd hi
              clear hvs
              refine wanted_un rfl ?_
              have e0 := (hS.1.cell (p := ⟨xd, 0, none⟩) (by show xd < _; omega)).trans x0
              go_simp
              exact hK.out _ _ rfl hS (sgC_all (Below.refl _ _) (by have := hS.2.1; omega))
            refine FlowStepsX.stepY 52 10 3 rfl rfl (by kernel_rfl) (by kernel_rfl) (by kernel_rfl) rfl rfl ?_ ?_
            ·
              intro cc act vs W hcc ha hvs hS hd hi K hK
              clear ha
              have u2 : act.tmps[2]? = some (.pointer (some ⟨xd, 0, none⟩)) := (hi.out 2 (by kernel_rfl)).trans rfl
              clear hd hi
              clear hvs
              refine wanted_un rfl ?_
              go_simp
              exact hK.out _ _ rfl hS (sgC_all (Below.refl _ _) (by have := hS.2.1; omega))
            refine FlowStepsX.stepY 52 10 4 rfl rfl (by kernel_rfl) (by kernel_rfl) (by kernel_rfl) rfl rfl ?_ ?_
            ·
              intro cc act vs W hcc ha hvs hS hd hi K hK
              clear ha
              have u45 : act.tmps[45]? = some (.pointer (some ⟨xd, 1, none⟩)) := by obtain ⟨_, u, _, h⟩ := hd.out ⟨2, .data⟩ (some 45) (by simp) rfl rfl; exact u.trans (congrArg some h)
              clear hd hi
              clear hvs
              refine wanted_un rfl ?_
              have e1 := (hS.1.cell (p := ⟨xd, 1, none⟩) (by show xd < _; omega)).trans x1
              go_simp
              exact hK.out _ _ rfl hS (sgC_all (Below.refl _ _) (by have := hS.2.1; omega))
            refine FlowStepsX.stepY 52 10 5 rfl rfl (by kernel_rfl) (by kernel_rfl) (by kernel_rfl) rfl rfl ?_ ?_
            ·
              intro cc act vs W hcc ha hvs hS hd hi K hK
              clear ha
              have u46 : act.tmps[46]? = some (.slice (some ⟨b, off, none⟩) n c) := by obtain ⟨_, u, _, h⟩ := hd.out ⟨3, .data⟩ (some 46) (by simp) rfl rfl; exact u.trans (congrArg some h)
              clear hd hi
              clear hvs
              refine wanted_un rfl ?_
              have hsz := hS.2.1
              have hRW : RdGrant W b off l := HR.out.below (B1.out.trans ((B06.out.mono B1.out.size).trans (hS.1.mono (by have := HXD.out; omega))))
              go_wp2_with fail
              refine (cloneG_c b off n c l HL.out (by omega) _ hRW).mono ?_
              rintro e w7 ⟨gz, cz, rfl, ho, hb7⟩
              exact hK.out _ w7 ⟨gz, cz, rfl, own_base ho hsz⟩ ⟨hS.1.trans (hb7.mono (by omega)), by have := hb7.size; omega, hS.2.2.below hb7 (by omega)⟩ (sgC_all hb7 (by omega))
            refine FlowStepsX.stepY 52 10 6 rfl rfl (by kernel_rfl) (by kernel_rfl) (by kernel_rfl) rfl rfl ?_ ?_
            ·
              intro cc act vs W hcc ha hvs hS hd hi K hK
              clear ha
              have u2 : act.tmps[2]? = some (.pointer (some ⟨xd, 0, none⟩)) := (hi.out 2 (by kernel_rfl)).trans rfl
              clear hd hi
              clear hvs
              refine wanted_un rfl ?_
              go_simp
              exact hK.out _ _ rfl hS (sgC_all (Below.refl _ _) (by have := hS.2.1; omega))
            refine FlowStepsX.stepY 52 10 7 rfl rfl (by kernel_rfl) (by kernel_rfl) (by kernel_rfl) rfl rfl ?_ ?_
            ·
              intro cc act vs W hcc ha hvs hS hd hi K hK
              clear ha
              have u48 : act.tmps[48]? = some (.pointer (some ⟨xd, 2, none⟩)) := by obtain ⟨_, u, _, h⟩ := hd.out ⟨5, .data⟩ (some 48) (by simp) rfl rfl; exact u.trans (congrArg some h)
              clear hd hi
              clear hvs
              refine wanted_un rfl ?_
              have e2 := (hS.1.cell (p := ⟨xd, 2, none⟩) (by show xd < _; omega)).trans x2
              go_simp
              exact hK.out _ _ rfl hS (sgC_all (Below.refl _ _) (by have := hS.2.1; omega))
            refine FlowStepsX.stepY 52 10 8 rfl rfl (by kernel_rfl) (by kernel_rfl) (by kernel_rfl) rfl rfl ?_ ?_
            ·
              intro cc act vs W hcc ha hvs hS hd hi K hK
              clear ha
              have u44 : act.tmps[44]? = some (.int .i64 m) := by obtain ⟨_, u, _, h⟩ := hd.out ⟨1, .data⟩ (some 44) (by simp) rfl rfl; exact u.trans (congrArg some h)
              obtain ⟨_, u47, _, ⟨gz, cz, rfl, hown⟩⟩ := hd.out ⟨4, .data⟩ (some 47) (by simp) rfl rfl
              have u49 : act.tmps[49]? = some (.int .i64 k) := by obtain ⟨_, u, _, h⟩ := hd.out ⟨6, .data⟩ (some 49) (by simp) rfl rfl; exact u.trans (congrArg some h)
              clear hd hi
              clear hvs
              refine wanted_un rfl ?_
              go_simp
              exact hK.out _ _ ⟨_, _, rfl, hown⟩ hS (sgC_all (Below.refl _ _) (by have := hS.2.1; omega))
            refine FlowStepsX.stepY 52 10 9 rfl rfl (by kernel_rfl) (by kernel_rfl) (by kernel_rfl) rfl rfl ?_ ?_
            ·
              intro cc act vs W hcc ha hvs hS hd hi K hK
              clear ha
              obtain ⟨_, u50, _, ⟨gz, cz, rfl, hz2⟩⟩ := hd.out ⟨7, .data⟩ (some 50) (by simp) rfl rfl
              have u4 : act.tmps[4]? = some (.pointer (some ⟨xd + 1 + 1, 0, none⟩)) := (hi.out 4 (by kernel_rfl)).trans rfl
              clear hd hi
              clear hvs
              refine wanted_un rfl ?_
              have hr := hS.2.2
              have hrl := hr.lt
              obtain ⟨y0, g0⟩ := hr.some_ex (j := 0) (by omega)
              have z0 := hr.frozen 0
              obtain ⟨y1, g1⟩ := hr.some_ex (j := 1) (by omega)
              have z1 := hr.frozen 1
              obtain ⟨y2, g2⟩ := hr.some_ex (j := 2) (by omega)
              have z2 := hr.frozen 2
              have hgze : gz ≠ xd + 1 + 1 := by have := (hz2.lt gz rfl).1; omega
              go_simp
              exact hK.out (.bool true) _ ⟨gz, cz, rwl_set3 hr, own_far3 hz2 hgze⟩ ⟨below_set3 hS.1 (Nat.le_refl _), by simp; exact hS.2.1, (rwl_set3 hr).none⟩ (by unfold sgC; rw [if_pos (show siMap _ = 9 from rfl)]; exact below_set3 (Below.refl _ _) (Nat.le_refl _))
            refine FlowStepsX.stepY 52 10 10 rfl rfl (by kernel_rfl) (by kernel_rfl) (by kernel_rfl) rfl rfl ?_ ?_
            ·
              intro cc act vs W hcc ha hvs hS hd hi K hK
              clear ha
              clear hd hi
              clear hvs
              refine wanted_un rfl ?_
              go_simp
              exact hK.out _ _ rfl hS (sgC_all (Below.refl _ _) (by have := hS.2.1; omega))
            exact FlowStepsX.nil
          · intro c' ρ W9 hc' hS hd
            simp only [putFrom, Act.put, List.setIfInBounds_toArray, List.set_cons_zero, List.set_cons_succ, Nat.reduceAdd]
            obtain ⟨gy, cy, hrow9, hown9⟩ := hd.out 8 (by decide) (by kernel_rfl)
            have d10 : ρ 9 = .bool false := hd.out 9 (by decide) (by kernel_rfl)
            generalize ρ 9 = x10 at d10 ⊢
            subst d10
            clear hd
            obtain ⟨gy', cy', my, hvy, hgylo, hncy, hcmy, hmy, hry⟩ := ownG_of HL.out hown9 (by simp)
            obtain ⟨rfl, rfl⟩ : gy = gy' ∧ cy = cy' := by simpa using hvy
            have r0 := hrow9.cell (j := 0) rfl
            have r1 := hrow9.cell (j := 1) rfl
            have r2 := hrow9.cell (j := 2) rfl
            have hr9 := hrow9.lt
            have hxw := HXD.out
            have BXX : Below w.heap.size w W9 := B1.out.trans ((B06.out.mono (show w.heap.size ≤ W0.heap.size by omega)).trans (hS.1.mono (show w.heap.size ≤ xd + 1 + 1 by omega)))
            clear hxw
            clear hvy
            go_wp2_with fail
            exact bodyPost_ret (v := .tuple #[.agg #[.int .i64 m, .slice (some ⟨gy, 0, none⟩) n cy, .int .i64 k], .bool false]) (by simp [results, Try.results28, go_sem, *]) rfl (SgOut.kept HV.out HP.out hlv2 HL.out (by have := HXD.out; omega) hncy hcmy hmy hry (ownG_ty hown9) BXX)
        · have HV2 := hide hlv2
          clear hlv2
          go_wp2_with fail
          exact bodyPost_ret (v := .tuple #[.agg #[.int .i64 m, .slice (some ⟨gz, 0, none⟩) (n) cz, .int .i64 k], .bool true]) (by simp [results, Try.results28, go_sem, *]) rfl (SgOut.good HV.out HP.out HV2.out (by simp [HL.out]) (by have := HXD.out; omega) hncz hcmn hmn (((HRN6.out.far (by show gz ≠ xd + 1 + 1; omega) _).far (by show gz ≠ xd + 1 + 1; omega) _).far (by show gz ≠ xd + 1 + 1; omega) _) (((HTN6.out.set _).set _).set _) (below_set3 (B1.out.trans (B06.out.mono (show w.heap.size ≤ W0.heap.size by have := HXD.out; omega))) (by have := HXD.out; omega)))
      | none =>
        have HP := hide (show putG l ⟨tg, tw, tr⟩ = l ++ [⟨tg, tw, tr⟩] by simp only [putG, hfi])
        have HIX := hide (show idxG l tg tw = -1 by simp only [idxG, hfi])
        have OWN4 := hide ((own_below HOW.out HBel.out).alloc (.cells #[.bool tg, .int .i64 tw, .int .i64 tr] 40))
        have HRq := hide (HRO.out.below HBel.out hql)
        rw [HIX.out]
        clear hfi HIX
        go_wp2_with (at_builtin; refine wpList_append_own _ rfl _ _ 22 rfl W0.heap.size 40 i0 _ 3 24 Try.underlying22 HII.out HZ0.out HZ1.out HZ2.out rfl (by decide) _ _ _ rfl OWN4.out ⟨wr.heap.size, 0, none⟩ 1 1 (flatG [⟨tg, tw, tr⟩]) rfl rfl ?qa0 (flatG_one _) ?qb0 ?qc0 ?qd0 ?_)
        case qa0 => exact flatG_new wr ⟨tg, tw, tr⟩ _ _ rfl
        case qb0 => unfold maxLen; omega
        case qc0 => omega
        case qd0 => simp; omega
        intro v' w5 hown' hgrow hnil
        obtain ⟨gn, cn, rfl⟩ := own_slice hown' (fun e => by simp [e] at hnil)
        have own5 := hide (show w5.ownsRow W0.heap.size 40 3 (.slice (some ⟨gn, 0, none⟩) (n + 1) cn) (n + 1) (flatG (l ++ [(⟨tg, tw, tr⟩ : Grant)])) by
          rw [flatG_app]; simpa using hown')
        have HRq5 := hide ((HRq.out.alloc (.cells #[.bool tg, .int .i64 tw, .int .i64 tr] 40)).grown hgrow (by simpa [Value.ownBlock] using hne))
        have g0 := HRq5.out.cell (j := 0) rfl
        have g2 := HRq5.out.cell (j := 2) rfl
        have HLB5 := hide (((HLB.out.below HBel.out).below (below_alloc0 (Below.refl _ _) (.cells #[.bool tg, .int .i64 tw, .int .i64 tr] 40))).keep (hgrow.block q (by simp; omega) (by simpa [Value.ownBlock] using Ne.symm hne)))
        have hneq := own_apart own5.out HLB5.out
        obtain ⟨z1, g1⟩ := HRq5.out.some_ex (j := 1) (by omega)
        have z1f := HRq5.out.frozen 1
        have hq5 := HRq5.out.lt
        have B05 := hide ((((HS0.out.trans (HBel.out.mono (by omega))).alloc (by omega) (.cells #[.bool tg, .int .i64 tw, .int .i64 tr] 40)).grown hgrow (by simp; omega) (fun k hk => (OWN4.out.lt k hk).1)).setCell (p := ⟨q, 1, none⟩) hlo (.slice (some ⟨gn, 0, none⟩) (n + 1) cn))
        clear hown' hgrow hnil
        obtain ⟨gn', cn', mn, hvn, hgnlo, hncn, hcmn, hmn, hrn⟩ := ownG_of (by simp [HL.out]) own5.out (by simp)
        obtain ⟨rfl, rfl⟩ : gn = gn' ∧ cn = cn' := by simpa using hvn
        clear hvn
        go_wp2_with fail
        have HRn := hide (hrn.far (p := ⟨q, 1, none⟩) hneq (.slice (some ⟨gn, 0, none⟩) (n + 1) cn))
        have HTn := hide ((ownG_ty own5.out).set (b := q) (o := 1) (.slice (some ⟨gn, 0, none⟩) (n + 1) cn))
        have HRQ := hide (((HRq5.out.set 1 (.slice (some ⟨gn, 0, none⟩) (n + 1) cn))).mono (f' := rwl [.int .i64 m, .slice (some ⟨gn, 0, none⟩) (n + 1) cn, .int .i64 k]) (fun j u hj => by match j with | 0 => simpa [rwl] using hj | 1 => simpa [rwl] using hj | 2 => simpa [rwl] using hj | j + 3 => simp [rwl] at hj))
        refine (lvImpl_c _ _ _ _ _ (l ++ [(⟨tg, tw, tr⟩ : Grant)]) (by omega) hncn hcmn _ ⟨by simp [HL.out], fun _ => ⟨_, _, rfl, RdGrant_of_rowm HRn.out (by simp [HL.out])⟩⟩).mono ?_
        rintro e w6 ⟨rfl, hb6⟩
        have B06 := hide (B05.out.trans (hb6.mono B05.out.size))
        have hz6 := B06.out.size
        have hrq6 := HRQ.out.below hb6 HRQ.out.lt
        have HRN6 := hide (HRn.out.below hb6 HRn.out.lt)
        have HTN6 := hide (HTn.out.below hb6)
        have hrr6 := HRR.out.below B06.out hxl2
        have x0 := (B06.out.cell (p := ⟨xd, 0, none⟩) hxl).trans HX.out.1
        have x1 := (B06.out.cell (p := ⟨xd, 1, none⟩) hxl).trans HX.out.2.1
        have x2 := (B06.out.cell (p := ⟨xd, 2, none⟩) hxl).trans HX.out.2.2
        have hq0 := hrq6.cell (j := 0) rfl
        have hq1' := hrq6.cell (j := 1) rfl
        have hq2 := hrq6.cell (j := 2) rfl
        have hql6 := hrq6.lt
        obtain ⟨u0, v0⟩ := hrr6.some_ex (j := 0) (by omega)
        obtain ⟨u1, v1⟩ := hrr6.some_ex (j := 1) (by omega)
        obtain ⟨u2, v2⟩ := hrr6.some_ex (j := 2) (by omega)
        have vz0 := hrr6.frozen 0
        have vz1 := hrr6.frozen 1
        have vz2 := hrr6.frozen 2
        have hrl6 := hrr6.lt
        clear hb6
        cases hlv2 : listB m (l ++ [(⟨tg, tw, tr⟩ : Grant)]) k
        · go_wp2_with fail
          clear v0 v1 v2 vz0 vz1 vz2 hq0 hq1' hq2
          refine wp_flowZ (os := [_, _, _, _, _, _, _, _, _, _]) (fun cc W => Below (xd + 1 + 1) w6 W ∧ w6.heap.size ≤ W.heap.size ∧ Row W (xd + 1 + 1) 3 noCell) ((fun i W W' => sgC (xd + 1 + 1) 9 (siMap i) W W')) (fun i v vs W => sgF2 m (some ⟨b, off, none⟩) n c k l xd w6.heap.size (siMap i) v vs W) 10 rfl ?_ ?_ ?_ ?_ ?_ ?_ ?_
          · kernel_rfl
          · kernel_rfl
          · kernel_rfl
          · exact (fun i j v vs w1 w2 hij hdd hbf h hc => sgF2_keep (fun h5 => by obtain rfl := siMap_eq.1 h5; exact ⟨siMap_eq.2.2.2.2, fun e => hij (siMap_eq.1 e).symm, fun e => by obtain rfl := siMap_eq.2.2.1 e; exact absurd (show beforeX _ 4 7 = true by kernel_rfl) (by rw [hbf]; decide), fun e => by obtain rfl := siMap_eq.2.2.2.1 e; exact absurd (show beforeX _ 4 8 = true by kernel_rfl) (by rw [hbf]; decide)⟩) (fun h9 => by obtain rfl := siMap_eq.2.2.2.1 h9; exact ⟨siMap_eq.2.2.2.2, fun e => by obtain rfl := siMap_eq.1 e; exact absurd (show dead _ 8 4 = true by kernel_rfl) (by rw [hdd]; decide), fun e => by obtain rfl := siMap_eq.2.2.1 e; exact absurd (show dead _ 8 7 = true by kernel_rfl) (by rw [hdd]; decide), fun e => hij (siMap_eq.2.2.2.1 e).symm⟩) h hc)
          · exact ⟨(Below.refl _ _).drew, Nat.le_refl _, hrr6⟩
          ·
            refine FlowStepsX.stepY 52 10 1 rfl rfl (by kernel_rfl) (by kernel_rfl) (by kernel_rfl) rfl rfl ?_ ?_
            ·
              intro cc act vs W hcc ha hvs hS hd hi K hK
              clear ha
              have u2 : act.tmps[2]? = some (.pointer (some ⟨xd, 0, none⟩)) := (hi.out 2 (by kernel_rfl)).trans rfl
              clear hd hi
              clear hvs
              refine wanted_un rfl ?_
              go_simp
              exact hK.out _ _ rfl hS (sgC_all (Below.refl _ _) (by have := hS.2.1; omega))
            refine FlowStepsX.stepY 52 10 2 rfl rfl (by kernel_rfl) (by kernel_rfl) (by kernel_rfl) rfl rfl ?_ ?_
            ·
              intro cc act vs W hcc ha hvs hS hd hi K hK
              clear ha
              have u43 : act.tmps[43]? = some (.pointer (some ⟨xd, 0, none⟩)) := by obtain ⟨_, u, _, h⟩ := hd.out ⟨0, .data⟩ (some 43) (by simp) rfl rfl; exact u.trans (congrArg some h)
              clear hd hi
              clear hvs
              refine wanted_un rfl ?_
              have e0 := (hS.1.cell (p := ⟨xd, 0, none⟩) (by show xd < _; omega)).trans x0
              go_simp
              exact hK.out _ _ rfl hS (sgC_all (Below.refl _ _) (by have := hS.2.1; omega))
            refine FlowStepsX.stepY 52 10 3 rfl rfl (by kernel_rfl) (by kernel_rfl) (by kernel_rfl) rfl rfl ?_ ?_
            ·
              intro cc act vs W hcc ha hvs hS hd hi K hK
              clear ha
              have u2 : act.tmps[2]? = some (.pointer (some ⟨xd, 0, none⟩)) := (hi.out 2 (by kernel_rfl)).trans rfl
              clear hd hi
              clear hvs
              refine wanted_un rfl ?_
              go_simp
              exact hK.out _ _ rfl hS (sgC_all (Below.refl _ _) (by have := hS.2.1; omega))
            refine FlowStepsX.stepY 52 10 4 rfl rfl (by kernel_rfl) (by kernel_rfl) (by kernel_rfl) rfl rfl ?_ ?_
            ·
              intro cc act vs W hcc ha hvs hS hd hi K hK
              clear ha
              have u45 : act.tmps[45]? = some (.pointer (some ⟨xd, 1, none⟩)) := by obtain ⟨_, u, _, h⟩ := hd.out ⟨2, .data⟩ (some 45) (by simp) rfl rfl; exact u.trans (congrArg some h)
              clear hd hi
              clear hvs
              refine wanted_un rfl ?_
              have e1 := (hS.1.cell (p := ⟨xd, 1, none⟩) (by show xd < _; omega)).trans x1
              go_simp
              exact hK.out _ _ rfl hS (sgC_all (Below.refl _ _) (by have := hS.2.1; omega))
            refine FlowStepsX.stepY 52 10 5 rfl rfl (by kernel_rfl) (by kernel_rfl) (by kernel_rfl) rfl rfl ?_ ?_
            ·
              intro cc act vs W hcc ha hvs hS hd hi K hK
              clear ha
              have u46 : act.tmps[46]? = some (.slice (some ⟨b, off, none⟩) n c) := by obtain ⟨_, u, _, h⟩ := hd.out ⟨3, .data⟩ (some 46) (by simp) rfl rfl; exact u.trans (congrArg some h)
              clear hd hi
              clear hvs
              refine wanted_un rfl ?_
              have hsz := hS.2.1
              have hRW : RdGrant W b off l := HR.out.below (B1.out.trans ((B06.out.mono B1.out.size).trans (hS.1.mono (by have := HXD.out; omega))))
              go_wp2_with fail
              refine (cloneG_c b off n c l HL.out (by omega) _ hRW).mono ?_
              rintro e w7 ⟨gz, cz, rfl, ho, hb7⟩
              exact hK.out _ w7 ⟨gz, cz, rfl, own_base ho hsz⟩ ⟨hS.1.trans (hb7.mono (by omega)), by have := hb7.size; omega, hS.2.2.below hb7 (by omega)⟩ (sgC_all hb7 (by omega))
            refine FlowStepsX.stepY 52 10 6 rfl rfl (by kernel_rfl) (by kernel_rfl) (by kernel_rfl) rfl rfl ?_ ?_
            ·
              intro cc act vs W hcc ha hvs hS hd hi K hK
              clear ha
              have u2 : act.tmps[2]? = some (.pointer (some ⟨xd, 0, none⟩)) := (hi.out 2 (by kernel_rfl)).trans rfl
              clear hd hi
              clear hvs
              refine wanted_un rfl ?_
              go_simp
              exact hK.out _ _ rfl hS (sgC_all (Below.refl _ _) (by have := hS.2.1; omega))
            refine FlowStepsX.stepY 52 10 7 rfl rfl (by kernel_rfl) (by kernel_rfl) (by kernel_rfl) rfl rfl ?_ ?_
            ·
              intro cc act vs W hcc ha hvs hS hd hi K hK
              clear ha
              have u48 : act.tmps[48]? = some (.pointer (some ⟨xd, 2, none⟩)) := by obtain ⟨_, u, _, h⟩ := hd.out ⟨5, .data⟩ (some 48) (by simp) rfl rfl; exact u.trans (congrArg some h)
              clear hd hi
              clear hvs
              refine wanted_un rfl ?_
              have e2 := (hS.1.cell (p := ⟨xd, 2, none⟩) (by show xd < _; omega)).trans x2
              go_simp
              exact hK.out _ _ rfl hS (sgC_all (Below.refl _ _) (by have := hS.2.1; omega))
            refine FlowStepsX.stepY 52 10 8 rfl rfl (by kernel_rfl) (by kernel_rfl) (by kernel_rfl) rfl rfl ?_ ?_
            ·
              intro cc act vs W hcc ha hvs hS hd hi K hK
              clear ha
              have u44 : act.tmps[44]? = some (.int .i64 m) := by obtain ⟨_, u, _, h⟩ := hd.out ⟨1, .data⟩ (some 44) (by simp) rfl rfl; exact u.trans (congrArg some h)
              obtain ⟨_, u47, _, ⟨gz, cz, rfl, hown⟩⟩ := hd.out ⟨4, .data⟩ (some 47) (by simp) rfl rfl
              have u49 : act.tmps[49]? = some (.int .i64 k) := by obtain ⟨_, u, _, h⟩ := hd.out ⟨6, .data⟩ (some 49) (by simp) rfl rfl; exact u.trans (congrArg some h)
              clear hd hi
              clear hvs
              refine wanted_un rfl ?_
              go_simp
              exact hK.out _ _ ⟨_, _, rfl, hown⟩ hS (sgC_all (Below.refl _ _) (by have := hS.2.1; omega))
            refine FlowStepsX.stepY 52 10 9 rfl rfl (by kernel_rfl) (by kernel_rfl) (by kernel_rfl) rfl rfl ?_ ?_
            ·
              intro cc act vs W hcc ha hvs hS hd hi K hK
              clear ha
              obtain ⟨_, u50, _, ⟨gz, cz, rfl, hz2⟩⟩ := hd.out ⟨7, .data⟩ (some 50) (by simp) rfl rfl
              have u4 : act.tmps[4]? = some (.pointer (some ⟨xd + 1 + 1, 0, none⟩)) := (hi.out 4 (by kernel_rfl)).trans rfl
              clear hd hi
              clear hvs
              refine wanted_un rfl ?_
              have hr := hS.2.2
              have hrl := hr.lt
              obtain ⟨y0, g0⟩ := hr.some_ex (j := 0) (by omega)
              have z0 := hr.frozen 0
              obtain ⟨y1, g1⟩ := hr.some_ex (j := 1) (by omega)
              have z1 := hr.frozen 1
              obtain ⟨y2, g2⟩ := hr.some_ex (j := 2) (by omega)
              have z2 := hr.frozen 2
              have hgne : gz ≠ xd + 1 + 1 := by have := (hz2.lt gz rfl).1; omega
              go_simp
              exact hK.out (.bool true) _ ⟨gz, cz, rwl_set3 hr, own_far3 hz2 hgne⟩ ⟨below_set3 hS.1 (Nat.le_refl _), by simp; exact hS.2.1, (rwl_set3 hr).none⟩ (by unfold sgC; rw [if_pos (show siMap _ = 9 from rfl)]; exact below_set3 (Below.refl _ _) (Nat.le_refl _))
            refine FlowStepsX.stepY 52 10 10 rfl rfl (by kernel_rfl) (by kernel_rfl) (by kernel_rfl) rfl rfl ?_ ?_
            ·
              intro cc act vs W hcc ha hvs hS hd hi K hK
              clear ha
              clear hd hi
              clear hvs
              refine wanted_un rfl ?_
              go_simp
              exact hK.out _ _ rfl hS (sgC_all (Below.refl _ _) (by have := hS.2.1; omega))
            exact FlowStepsX.nil
          · intro c' ρ W9 hc' hS hd
            simp only [putFrom, Act.put, List.setIfInBounds_toArray, List.set_cons_zero, List.set_cons_succ, Nat.reduceAdd]
            obtain ⟨gy, cy, hrow9, hown9⟩ := hd.out 8 (by decide) (by kernel_rfl)
            have d10 : ρ 9 = .bool false := hd.out 9 (by decide) (by kernel_rfl)
            generalize ρ 9 = x10 at d10 ⊢
            subst d10
            clear hd
            obtain ⟨gy', cy', my, hvy, hgylo, hncy, hcmy, hmy, hry⟩ := ownG_of HL.out hown9 (by simp)
            obtain ⟨rfl, rfl⟩ : gy = gy' ∧ cy = cy' := by simpa using hvy
            have r0 := hrow9.cell (j := 0) rfl
            have r1 := hrow9.cell (j := 1) rfl
            have r2 := hrow9.cell (j := 2) rfl
            have hr9 := hrow9.lt
            have hxw := HXD.out
            have BXX : Below w.heap.size w W9 := B1.out.trans ((B06.out.mono (show w.heap.size ≤ W0.heap.size by omega)).trans (hS.1.mono (show w.heap.size ≤ xd + 1 + 1 by omega)))
            clear hxw
            clear hvy
            go_wp2_with fail
            exact bodyPost_ret (v := .tuple #[.agg #[.int .i64 m, .slice (some ⟨gy, 0, none⟩) n cy, .int .i64 k], .bool false]) (by simp [results, Try.results28, go_sem, *]) rfl (SgOut.kept HV.out HP.out hlv2 HL.out (by have := HXD.out; omega) hncy hcmy hmy hry (ownG_ty hown9) BXX)
        · have HV2 := hide hlv2
          clear hlv2
          go_wp2_with fail
          exact bodyPost_ret (v := .tuple #[.agg #[.int .i64 m, .slice (some ⟨gn, 0, none⟩) (n + 1) cn, .int .i64 k], .bool true]) (by simp [results, Try.results28, go_sem, *]) rfl (SgOut.good HV.out HP.out HV2.out (by simp [HL.out]) (by have := HXD.out; omega) hncn hcmn hmn (((HRN6.out.far (by show gn ≠ xd + 1 + 1; omega) _).far (by show gn ≠ xd + 1 + 1; omega) _).far (by show gn ≠ xd + 1 + 1; omega) _) (((HTN6.out.set _).set _).set _) (below_set3 (B1.out.trans (B06.out.mono (show w.heap.size ≤ W0.heap.size by have := HXD.out; omega))) (by have := HXD.out; omega)))
end Go.Proofs.Ytpifnfhgaemdmaa
