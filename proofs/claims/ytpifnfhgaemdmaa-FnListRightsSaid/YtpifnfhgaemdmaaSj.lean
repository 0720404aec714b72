/-
  SetGrant of the program at a list that is nil; SetGrant of both at a list of one's own. No condition.
-/
import Derived.Test.YtpifnfhgaemdmaaProg
import Derived.Test.YtpifnfhgaemdmaaLs
import Derived.Test.YtpifnfhgaemdmaaSi
namespace Go.Proofs.Ytpifnfhgaemdmaa
open Go.RowKit
set_option linter.unusedSimpArgs false
set_option linter.unusedVariables false

theorem inG_nil (w : World) : InGrant w none 0 [] := ⟨rfl, fun h => absurd h (by omega)⟩
theorem cloneG_nil (w : World) : Calls Try.prog 54 #[.slice none 0 0] w fun e w' => e = .returned (.slice none 0 0) ∧ w = w' := by
  have q22 : ∀ (w : World) (a : Option Addr) (n c n' c' : Nat), (binOp .eql 22 (.slice a n c) (.slice none n' c')).run Try.prog w = .ok (.bool a.isNone) w := fun w a n c n' c' => Lib.run_eql_slice_nil w _ _ a n c n' c' Try.underlying22
  have u22 : ∀ w, Sem.run Try.prog (underlying 22) w = .ok (TypeDesc.slice 40) w := run_underlying Try.underlying22
  go_enter Try.func54, Try.ntmps54
  go_wp2_with fail
  go_ret
  exact ⟨rfl, rfl⟩
def snF (m k : Int) (xd lo : Nat) (i : Nat) (v : Value) (vs : List Value) (W : World) : Prop :=
  match i with
  | 0 => v = .pointer (some ⟨xd, 0, none⟩)
  | 1 => v = .int .i64 m
  | 2 => v = .pointer (some ⟨xd, 1, none⟩)
  | 3 => v = .slice none 0 0
  | 4 => v = .slice none 0 0
  | 5 => v = .pointer (some ⟨xd, 2, none⟩)
  | 6 => v = .int .i64 k
  | 7 => v = .agg #[.int .i64 m, .slice none 0 0, .int .i64 k]
  | 8 => ∃ q, v = .pointer (some ⟨q, 0, none⟩) ∧ lo ≤ q ∧ LBlk W q
  | 9 => ∃ q, vs[0]? = some (.pointer (some ⟨q, 0, none⟩)) ∧ lo ≤ q ∧ LRow W q (.int .i64 m) (.slice none 0 0) (.int .i64 k)
  | _ => True
def snC (lo s i : Nat) (W W' : World) : Prop := if i = s then Below lo W W' else Below W.heap.size W W'
theorem snC_of {lo s i : Nat} {W W' : World} (hb : Below W.heap.size W W') (hl : lo ≤ W.heap.size) : snC lo s i W W' := by
  unfold snC; split
  · exact hb.mono hl
  · exact hb
theorem snF_keep {m k : Int} {xd lo lo' i j : Nat} {v : Value} {vs : List Value} {W W' : World} (h9 : i = 9 → j ≠ 8 ∧ j ≠ 9) (h : snF m k xd lo j v vs W) (hc : snC lo' 9 i W W') : snF m k xd lo j v vs W' := by
  have hb : i ≠ 9 → Below W.heap.size W W' := fun h1 => by unfold snC at hc; rw [if_neg h1] at hc; exact hc
  unfold snF at h ⊢
  split <;> simp only at h <;> try exact h
  · obtain ⟨q, h1, h2, h3⟩ := h
    exact ⟨q, h1, h2, h3.below (hb fun e => (h9 e).1 rfl)⟩
  · obtain ⟨q, h1, h2, h3⟩ := h
    exact ⟨q, h1, h2, h3.below (hb fun e => (h9 e).2 rfl)⟩
def snG (m k : Int) (xd q : Nat) (i : Nat) (v : Value) (vs : List Value) (W : World) : Prop :=
  match i with
  | 8 => LRow W q (.int .i64 m) (.slice none 0 0) (.int .i64 k)
  | 9 => v = .bool false
  | _ => snF m k xd 0 i v vs W
theorem snG_keep {m k : Int} {xd q lo' i j : Nat} {v : Value} {vs : List Value} {W W' : World} (h8 : i = 8 → j ≠ 8) (h : snG m k xd q j v vs W) (hc : snC lo' 8 i W W') : snG m k xd q j v vs W' := by
  unfold snG at h ⊢
  split <;> simp only at h <;> try exact h
  · unfold snC at hc; rw [if_neg (fun e => h8 e rfl)] at hc
    exact h.below hc
  · rename_i h1 h2
    unfold snF at h ⊢
    split <;> simp only at h <;> try exact h
    · exact absurd rfl h1
    · exact absurd rfl h2
set_option maxHeartbeats 4000000 in
theorem sgImpl_none (m k : Int) (tg : Bool) (tw tr : Int) (w : World) :
    Calls Try.prog 28 #[.agg #[.int .i64 m, .slice none 0 0, .int .i64 k], .agg #[.bool tg, .int .i64 tw, .int .i64 tr]] w (SgOut w m [] k ⟨tg, tw, tr⟩) := by
  obtain ⟨i0, hi0, hz0, hz1, hz2⟩ := info_parts infoGrant
  have HII := hide hi0
  have HZ0 := hide hz0
  have HZ1 := hide hz1
  have HZ2 := hide hz2
  clear hi0 hz0 hz1 hz2
  go_enter Try.func28, Try.ntmps28
  go_wp2_with fail
  have BW0 : Below w.heap.size w (((w.alloc (.cells #[.int .i64 m, .slice none 0 0, .int .i64 k] 24)).alloc (.cells #[.bool tg, .int .i64 tw, .int .i64 tr] 40)).alloc (.cells #[.int .i64 0, .slice none 0 0, .int .i64 0] 24)) := below_alloc0 (below_alloc0 (below_alloc0 (Below.refl _ _) _) _) _
  refine (lvImpl_c _ _ 0 0 _ [] (by omega) (Nat.le_refl _) (by decide) _ (inG_nil _)).mono ?_
  rintro e W0 ⟨rfl, hb1⟩
  have L1 := live hb1 w.heap.size (by simp; try omega)
  have M1 := live hb1 (w.heap.size + 1) (by simp; try omega)
  have N1 := live hb1 (w.heap.size + 2) (by simp; try omega)
  have B1 := hide (below_via0 BW0 hb1)
  have RR0 : LRow W0 (w.heap.size + 1 + 1) (.int .i64 0) (.slice none 0 0) (.int .i64 0) := by
    have := (LRow.made ((w.alloc (.cells #[.int .i64 m, .slice none 0 0, .int .i64 k] 24)).alloc (.cells #[.bool tg, .int .i64 tw, .int .i64 tr] 40)) (.int .i64 0) (.slice none 0 0) (.int .i64 0)).below hb1
    simpa using this
  have HRR0 := hide RR0
  clear hb1 RR0
  cases hlv : listB m [] k
  · have HF := hide hlv
    have v0 := HRR0.out.c0
    have v1 := HRR0.out.c1
    have v2 := HRR0.out.c2
    have vz0 := HRR0.out.1.frozen 0
    have vz1 := HRR0.out.1.frozen 1
    have vz2 := HRR0.out.1.frozen 2
    have hrl := HRR0.out.lt
    clear L1 M1 N1 hlv
    go_wp2_with fail
    exact bodyPost_ret (v := .tuple #[.agg #[.int .i64 0, .slice none 0 0, .int .i64 0], .bool false]) (by simp [results, Try.results28, go_sem, *]) rfl (SgOut.bad HF.out (below_set3 B1.out (by omega)))
  · have HV := hide hlv
    have x0 : W0.cell? ⟨w.heap.size, 0, none⟩ = some (.int .i64 m) := by simp [go_sem, L1]
    have x1 : W0.cell? ⟨w.heap.size, 1, none⟩ = some (.slice none 0 0) := by simp [go_sem, L1]
    have x2 : W0.cell? ⟨w.heap.size, 2, none⟩ = some (.int .i64 k) := by simp [go_sem, L1]
    have y0 : W0.cell? ⟨w.heap.size + 1, 0, none⟩ = some (.bool tg) := by simp [go_sem, M1]
    have y1 : W0.cell? ⟨w.heap.size + 1, 1, none⟩ = some (.int .i64 tw) := by simp [go_sem, M1]
    have y2 : W0.cell? ⟨w.heap.size + 1, 2, none⟩ = some (.int .i64 tr) := by simp [go_sem, M1]
    have hxl := L1.1
    have hxl1 := M1.1
    have hxl2 := N1.1
    clear hlv L1 M1 N1
    go_wp2_with fail
    obtain ⟨xd, hxd⟩ : ∃ xd, xd = w.heap.size := ⟨_, rfl⟩
    have hrr0 := HRR0.out
    rw [← hxd] at x0 x1 x2 y0 y1 y2 hxl hxl1 hxl2 hrr0 ⊢
    have HX := hide (And.intro x0 (And.intro x1 x2))
    have HRR := hide hrr0
    clear hrr0
    have HXD := hide hxd
    clear hxd
    refine wp_flowZ (os := [_, _, _, _, _, _, _, _, _, _]) (fun cc W => Below W0.heap.size W0 W) ((snC W0.heap.size 9)) (snF m k xd W0.heap.size) 10 rfl ?_ ?_ ?_ ?_ ?_ ?_ ?_
    · kernel_rfl
    · kernel_rfl
    · kernel_rfl
    · exact (fun i j v vs w1 w2 hij hdd hbf h hc => snF_keep (by rintro rfl; exact ⟨fun e => by subst e; exact absurd (show dead _ 9 8 = true by kernel_rfl) (by rw [hdd]; decide), Ne.symm hij⟩) h hc)
    · exact (Below.refl _ _).drew
    ·
      refine FlowStepsX.stepY 52 10 1 rfl rfl (by kernel_rfl) (by kernel_rfl) (by kernel_rfl) rfl rfl ?_ ?_
      ·
        intro cc act vs W hcc ha hvs hS hd hi K hK
        clear ha
        have u2 : act.tmps[2]? = some (.pointer (some ⟨xd, 0, none⟩)) := (hi.out 2 (by kernel_rfl)).trans rfl
        clear hd hi
        clear hvs
        refine wanted_un rfl ?_
        go_simp
        exact hK.out _ _ rfl hS (snC_of (Below.refl _ _) hS.size)
      refine FlowStepsX.stepY 52 10 2 rfl rfl (by kernel_rfl) (by kernel_rfl) (by kernel_rfl) rfl rfl ?_ ?_
      ·
        intro cc act vs W hcc ha hvs hS hd hi K hK
        clear ha
        have u12 : act.tmps[12]? = some (.pointer (some ⟨xd, 0, none⟩)) := by obtain ⟨_, u, _, h⟩ := hd.out ⟨0, .data⟩ (some 12) (by simp) rfl rfl; exact u.trans (congrArg some h)
        clear hd hi
        clear hvs
        refine wanted_un rfl ?_
        have e0 := (hS.cell (p := ⟨xd, 0, none⟩) hxl).trans x0
        go_simp
        exact hK.out _ _ rfl hS (snC_of (Below.refl _ _) hS.size)
      refine FlowStepsX.stepY 52 10 3 rfl rfl (by kernel_rfl) (by kernel_rfl) (by kernel_rfl) rfl rfl ?_ ?_
      ·
        intro cc act vs W hcc ha hvs hS hd hi K hK
        clear ha
        have u2 : act.tmps[2]? = some (.pointer (some ⟨xd, 0, none⟩)) := (hi.out 2 (by kernel_rfl)).trans rfl
        clear hd hi
        clear hvs
        refine wanted_un rfl ?_
        go_simp
        exact hK.out _ _ rfl hS (snC_of (Below.refl _ _) hS.size)
      refine FlowStepsX.stepY 52 10 4 rfl rfl (by kernel_rfl) (by kernel_rfl) (by kernel_rfl) rfl rfl ?_ ?_
      ·
        intro cc act vs W hcc ha hvs hS hd hi K hK
        clear ha
        have u14 : act.tmps[14]? = some (.pointer (some ⟨xd, 1, none⟩)) := by obtain ⟨_, u, _, h⟩ := hd.out ⟨2, .data⟩ (some 14) (by simp) rfl rfl; exact u.trans (congrArg some h)
        clear hd hi
        clear hvs
        refine wanted_un rfl ?_
        have e1 := (hS.cell (p := ⟨xd, 1, none⟩) hxl).trans x1
        go_simp
        exact hK.out _ _ rfl hS (snC_of (Below.refl _ _) hS.size)
      refine FlowStepsX.stepY 52 10 5 rfl rfl (by kernel_rfl) (by kernel_rfl) (by kernel_rfl) rfl rfl ?_ ?_
      ·
        intro cc act vs W hcc ha hvs hS hd hi K hK
        clear ha
        have u15 : act.tmps[15]? = some (.slice none 0 0) := by obtain ⟨_, u, _, h⟩ := hd.out ⟨3, .data⟩ (some 15) (by simp) rfl rfl; exact u.trans (congrArg some h)
        clear hd hi
        clear hvs
        refine wanted_un rfl ?_
        go_wp2_with fail
        refine (cloneG_nil _).mono ?_
        rintro e w6 ⟨rfl, rfl⟩
        exact hK.out _ _ rfl hS (snC_of (Below.refl _ _) hS.size)
      refine FlowStepsX.stepY 52 10 6 rfl rfl (by kernel_rfl) (by kernel_rfl) (by kernel_rfl) rfl rfl ?_ ?_
      ·
        intro cc act vs W hcc ha hvs hS hd hi K hK
        clear ha
        have u2 : act.tmps[2]? = some (.pointer (some ⟨xd, 0, none⟩)) := (hi.out 2 (by kernel_rfl)).trans rfl
        clear hd hi
        clear hvs
        refine wanted_un rfl ?_
        go_simp
        exact hK.out _ _ rfl hS (snC_of (Below.refl _ _) hS.size)
      refine FlowStepsX.stepY 52 10 7 rfl rfl (by kernel_rfl) (by kernel_rfl) (by kernel_rfl) rfl rfl ?_ ?_
      ·
        intro cc act vs W hcc ha hvs hS hd hi K hK
        clear ha
        have u17 : act.tmps[17]? = some (.pointer (some ⟨xd, 2, none⟩)) := by obtain ⟨_, u, _, h⟩ := hd.out ⟨5, .data⟩ (some 17) (by simp) rfl rfl; exact u.trans (congrArg some h)
        clear hd hi
        clear hvs
        refine wanted_un rfl ?_
        have e2 := (hS.cell (p := ⟨xd, 2, none⟩) hxl).trans x2
        go_simp
        exact hK.out _ _ rfl hS (snC_of (Below.refl _ _) hS.size)
      refine FlowStepsX.stepY 52 10 8 rfl rfl (by kernel_rfl) (by kernel_rfl) (by kernel_rfl) rfl rfl ?_ ?_
      ·
        intro cc act vs W hcc ha hvs hS hd hi K hK
        clear ha
        have u13 : act.tmps[13]? = some (.int .i64 m) := by obtain ⟨_, u, _, h⟩ := hd.out ⟨1, .data⟩ (some 13) (by simp) rfl rfl; exact u.trans (congrArg some h)
        have u16 : act.tmps[16]? = some (.slice none 0 0) := by obtain ⟨_, u, _, h⟩ := hd.out ⟨4, .data⟩ (some 16) (by simp) rfl rfl; exact u.trans (congrArg some h)
        have u18 : act.tmps[18]? = some (.int .i64 k) := by obtain ⟨_, u, _, h⟩ := hd.out ⟨6, .data⟩ (some 18) (by simp) rfl rfl; exact u.trans (congrArg some h)
        clear hd hi
        clear hvs
        refine wanted_un rfl ?_
        go_simp
        exact hK.out _ _ rfl hS (snC_of (Below.refl _ _) hS.size)
      refine FlowStepsX.stepY 52 10 9 rfl rfl (by kernel_rfl) (by kernel_rfl) (by kernel_rfl) rfl rfl ?_ ?_
      ·
        intro cc act vs W hcc ha hvs hS hd hi K hK
        clear ha
        clear hd hi
        clear hvs
        refine wanted_un rfl ?_
        go_simp
        have hsz := hS.size
        exact hK.out _ _ ⟨W.heap.size, rfl, hsz, _, Below.heap_alloc_self W _, rfl⟩ (hS.alloc hsz _) (snC_of ((Below.refl _ _).alloc (Nat.le_refl _) _) hsz)
      refine FlowStepsX.stepY 52 10 10 rfl rfl (by kernel_rfl) (by kernel_rfl) (by kernel_rfl) rfl rfl ?_ ?_
      ·
        intro cc act vs W hcc ha hvs hS hd hi K hK
        clear ha
        obtain ⟨_, u6, _, ⟨q, rfl, hlo, hLB⟩⟩ := hd.out ⟨8, .data⟩ (some 6) (by simp) rfl rfl
        have u19 : act.tmps[19]? = some (.agg #[.int .i64 m, .slice none 0 0, .int .i64 k]) := by obtain ⟨_, u, _, h⟩ := hd.out ⟨7, .data⟩ (some 19) (by simp) rfl rfl; exact u.trans (congrArg some h)
        clear hd hi
        refine wanted_un rfl ?_
        have hr := hLB.row
        obtain ⟨y0, g0⟩ := hr.some_ex (j := 0) (by omega)
        have z0 := hr.frozen 0
        obtain ⟨y1, g1⟩ := hr.some_ex (j := 1) (by omega)
        have z1 := hr.frozen 1
        obtain ⟨y2, g2⟩ := hr.some_ex (j := 2) (by omega)
        have z2 := hr.frozen 2
        have hl0 := (hvs.out 0 6 rfl).trans u6
        go_simp
        exact hK.out (.bool true) _ ⟨q, hl0, hlo, LRow.stored hLB⟩ (below_set3 hS hlo) (by unfold snC; rw [if_pos rfl]; exact below_set3 (Below.refl _ _) hlo)
      exact FlowStepsX.nil
    · intro c' ρ W hc' hS hd
      simp only [putFrom, Act.put, List.setIfInBounds_toArray, List.set_cons_zero, List.set_cons_succ, Nat.reduceAdd]
      obtain ⟨q, hl9, hlo, hrow⟩ := hd.out 9 (by decide) (by kernel_rfl)
      have e9 : ρ 8 = .pointer (some ⟨q, 0, none⟩) := Option.some.inj hl9
      clear hd hl9
      generalize ρ 8 = x9 at e9 ⊢
      subst e9
      have hsz := hS.size
      have hs1 := hide (hS.cell (p := ⟨xd + 1, 0, none⟩) hxl1 |>.trans y0)
      have hs2 := hide (hS.cell (p := ⟨xd + 1, 1, none⟩) hxl1 |>.trans y1)
      have hs3 := hide (hS.cell (p := ⟨xd + 1, 2, none⟩) hxl1 |>.trans y2)
      have HRO := hide hrow
      have BW := hide (B1.out.trans (hS.mono B1.out.size))
      have hql := hrow.lt
      have HS0 := hide hS
      have z0 := hs1.out
      have z1 := hs2.out
      have z2 := hs3.out
      have zq := hrow.c1
      clear hrow x0 x1 x2 hS
      go_wp2_with fail
      refine (gplace_c none 0 0 [] tg tw _ (inG_nil _) (by omega)).mono ?_
      rintro e wr ⟨rfl, hbel⟩
      have HBel := hide hbel
      have HRq := hide (HRO.out.below hbel)
      clear hbel z0 z1 z2 zq
      have hwz := HBel.out.size
      have e1 := HRq.out.c1
      have hqr : q < wr.heap.size := by omega
      have f0 := (HBel.out.cell (p := ⟨xd + 1, 0, none⟩) (by show xd + 1 < _; omega)).trans hs1.out
      have f1 := (HBel.out.cell (p := ⟨xd + 1, 1, none⟩) (by show xd + 1 < _; omega)).trans hs2.out
      have f2 := (HBel.out.cell (p := ⟨xd + 1, 2, none⟩) (by show xd + 1 < _; omega)).trans hs3.out
      have hxr : xd + 1 < wr.heap.size := by omega
      have HP := hide (show putG [] ⟨tg, tw, tr⟩ = [⟨tg, tw, tr⟩] from rfl)
      have HIX := hide (show idxG [] tg tw = -1 from rfl)
      have OWN4 : Hid ((wr.alloc (.cells #[.bool tg, .int .i64 tw, .int .i64 tr] 40)).ownsRow W0.heap.size 40 3 (.slice none 0 0) 0 []) := hide (World.ownsRow_nil _ _ _ _)
      rw [HIX.out]
      clear HIX
      go_wp2_with (at_builtin; refine wpList_append_own _ rfl _ _ 22 rfl W0.heap.size 40 i0 _ 3 24 Try.underlying22 HII.out HZ0.out HZ1.out HZ2.out rfl (by decide) _ _ _ rfl OWN4.out ⟨wr.heap.size, 0, none⟩ 1 1 (flatG [⟨tg, tw, tr⟩]) rfl rfl ?qa0 (flatG_one _) ?qb0 ?qc0 ?qd0 ?_)
      case qa0 => exact flatG_new wr ⟨tg, tw, tr⟩ _ _ rfl
      case qb0 => unfold maxLen; omega
      case qc0 => omega
      case qd0 => simp; omega
      intro v' w5 hown' hgrow hnil
      obtain ⟨gn, cn, rfl⟩ := own_slice hown' (fun e => by simp [e] at hnil)
      have own5 := hide (show w5.ownsRow W0.heap.size 40 3 (.slice (some ⟨gn, 0, none⟩) 1 cn) 1 (flatG [(⟨tg, tw, tr⟩ : Grant)]) by simpa using hown')
      have HRq5 := hide (((HRq.out.below (below_alloc0 (Below.refl _ _) (.cells #[.bool tg, .int .i64 tw, .int .i64 tr] 40)))).keep (hgrow.block q (by simp; omega) (by simp [Value.ownBlock])))
      have g0 := HRq5.out.c0
      have g2 := HRq5.out.c2
      have g1 := HRq5.out.c1
      have hneq := (ownG_ty own5.out).not_list HRq5.out.2
      have z1f := HRq5.out.1.frozen 1
      have hq5 := HRq5.out.lt
      have B05 := hide ((((HS0.out.trans (HBel.out.mono (by omega))).alloc (by omega) (.cells #[.bool tg, .int .i64 tw, .int .i64 tr] 40)).grown hgrow (by simp; omega) (fun k hk => (OWN4.out.lt k hk).1)).setCell (p := ⟨q, 1, none⟩) hlo (.slice (some ⟨gn, 0, none⟩) 1 cn))
      clear hown' hgrow hnil
      obtain ⟨gn', cn', mn, hvn, hgnlo, hncn, hcmn, hmn, hrn⟩ := ownG_of (l := [⟨tg, tw, tr⟩]) rfl own5.out (by simp)
      obtain ⟨rfl, rfl⟩ : gn = gn' ∧ cn = cn' := by simpa using hvn
      clear hvn
      go_wp2_with fail
      have HRn := hide (hrn.far (p := ⟨q, 1, none⟩) hneq (.slice (some ⟨gn, 0, none⟩) 1 cn))
      have HTn := hide ((ownG_ty own5.out).set (b := q) (o := 1) (.slice (some ⟨gn, 0, none⟩) 1 cn))
      have HRQ := hide (((HRq5.out.1.set 1 (.slice (some ⟨gn, 0, none⟩) 1 cn))).mono (f' := rwl [.int .i64 m, .slice (some ⟨gn, 0, none⟩) 1 cn, .int .i64 k]) (fun j u hj => by match j with | 0 => simpa [rwl] using hj | 1 => simpa [rwl] using hj | 2 => simpa [rwl] using hj | j + 3 => simp [rwl] at hj))
      refine (lvImpl_c _ _ 1 _ _ [(⟨tg, tw, tr⟩ : Grant)] (by omega) hncn hcmn _ ⟨rfl, fun _ => ⟨_, _, rfl, RdGrant_of_rowm HRn.out rfl⟩⟩).mono ?_
      rintro e w6 ⟨rfl, hb6⟩
      have B06 := hide (B05.out.trans (hb6.mono B05.out.size))
      have hz6 := B06.out.size
      have hrq6 := HRQ.out.below hb6 HRQ.out.lt
      have HRN6 := hide (HRn.out.below hb6 HRn.out.lt)
      have HTN6 := hide (HTn.out.below hb6)
      have HLB6 := hide ((HRR.out.keep (B06.out.block (xd + 1 + 1) hxl2)).2)
      have x0 := (B06.out.cell (p := ⟨xd, 0, none⟩) hxl).trans HX.out.1
      have x1 := (B06.out.cell (p := ⟨xd, 1, none⟩) hxl).trans HX.out.2.1
      have x2 := (B06.out.cell (p := ⟨xd, 2, none⟩) hxl).trans HX.out.2.2
      have hq0 := hrq6.cell (j := 0) rfl
      have hq1' := hrq6.cell (j := 1) rfl
      have hq2 := hrq6.cell (j := 2) rfl
      have hql6 := hrq6.lt
      have hrr6 := HLB6.out.row
      obtain ⟨u0, v0⟩ := hrr6.some_ex (j := 0) (by omega)
      obtain ⟨u1, v1⟩ := hrr6.some_ex (j := 1) (by omega)
      obtain ⟨u2, v2⟩ := hrr6.some_ex (j := 2) (by omega)
      have vz0 := hrr6.frozen 0
      have vz1 := hrr6.frozen 1
      have vz2 := hrr6.frozen 2
      have hrl6 := hrr6.lt
      clear hb6 hrr6
      cases hlv2 : listB m [(⟨tg, tw, tr⟩ : Grant)] k
      · go_wp2_with fail
        clear v0 v1 v2 vz0 vz1 vz2 hq0 hq1' hq2
        refine wp_flowZ (os := [_, _, _, _, _, _, _, _, _, _]) (fun cc W => Below (xd + 1 + 1) w6 W ∧ w6.heap.size ≤ W.heap.size ∧ LBlk W (xd + 1 + 1)) ((snC (xd + 1 + 1) 8)) (snG m k xd (xd + 1 + 1)) 10 rfl ?_ ?_ ?_ ?_ ?_ ?_ ?_
        · kernel_rfl
        · kernel_rfl
        · kernel_rfl
        · exact (fun i j v vs w1 w2 hij hdd hbf h hc => snG_keep (by rintro rfl; exact Ne.symm hij) h hc)
        · exact ⟨(Below.refl _ _).drew, Nat.le_refl _, HLB6.out⟩
        ·
          refine FlowStepsX.stepY 52 10 1 rfl rfl (by kernel_rfl) (by kernel_rfl) (by kernel_rfl) rfl rfl ?_ ?_
          ·
            intro cc act vs W hcc ha hvs hS hd hi K hK
            clear ha
            have u2 : act.tmps[2]? = some (.pointer (some ⟨xd, 0, none⟩)) := (hi.out 2 (by kernel_rfl)).trans rfl
            clear hd hi
            clear hvs
            refine wanted_un rfl ?_
            go_simp
            exact hK.out _ _ rfl hS (snC_of (Below.refl _ _) (by have := hS.2.1; omega))
          refine FlowStepsX.stepY 52 10 2 rfl rfl (by kernel_rfl) (by kernel_rfl) (by kernel_rfl) rfl rfl ?_ ?_
          ·
            intro cc act vs W hcc ha hvs hS hd hi K hK
            clear ha
            have u43 : act.tmps[43]? = some (.pointer (some ⟨xd, 0, none⟩)) := by obtain ⟨_, u, _, h⟩ := hd.out ⟨0, .data⟩ (some 43) (by simp) rfl rfl; exact u.trans (congrArg some h)
            clear hd hi
            clear hvs
            refine wanted_un rfl ?_
            have e0 := (hS.1.cell (p := ⟨xd, 0, none⟩) (by show xd < _; omega)).trans x0
            go_simp
            exact hK.out _ _ rfl hS (snC_of (Below.refl _ _) (by have := hS.2.1; omega))
          refine FlowStepsX.stepY 52 10 3 rfl rfl (by kernel_rfl) (by kernel_rfl) (by kernel_rfl) rfl rfl ?_ ?_
          ·
            intro cc act vs W hcc ha hvs hS hd hi K hK
            clear ha
            have u2 : act.tmps[2]? = some (.pointer (some ⟨xd, 0, none⟩)) := (hi.out 2 (by kernel_rfl)).trans rfl
            clear hd hi
            clear hvs
            refine wanted_un rfl ?_
            go_simp
            exact hK.out _ _ rfl hS (snC_of (Below.refl _ _) (by have := hS.2.1; omega))
          refine FlowStepsX.stepY 52 10 4 rfl rfl (by kernel_rfl) (by kernel_rfl) (by kernel_rfl) rfl rfl ?_ ?_
          ·
            intro cc act vs W hcc ha hvs hS hd hi K hK
            clear ha
            have u45 : act.tmps[45]? = some (.pointer (some ⟨xd, 1, none⟩)) := by obtain ⟨_, u, _, h⟩ := hd.out ⟨2, .data⟩ (some 45) (by simp) rfl rfl; exact u.trans (congrArg some h)
            clear hd hi
            clear hvs
            refine wanted_un rfl ?_
            have e1 := (hS.1.cell (p := ⟨xd, 1, none⟩) (by show xd < _; omega)).trans x1
            go_simp
            exact hK.out _ _ rfl hS (snC_of (Below.refl _ _) (by have := hS.2.1; omega))
          refine FlowStepsX.stepY 52 10 5 rfl rfl (by kernel_rfl) (by kernel_rfl) (by kernel_rfl) rfl rfl ?_ ?_
          ·
            intro cc act vs W hcc ha hvs hS hd hi K hK
            clear ha
            have u46 : act.tmps[46]? = some (.slice none 0 0) := by obtain ⟨_, u, _, h⟩ := hd.out ⟨3, .data⟩ (some 46) (by simp) rfl rfl; exact u.trans (congrArg some h)
            clear hd hi
            clear hvs
            refine wanted_un rfl ?_
            go_wp2_with fail
            refine (cloneG_nil _).mono ?_
            rintro e w7 ⟨rfl, rfl⟩
            exact hK.out _ _ rfl hS (snC_of (Below.refl _ _) (by have := hS.2.1; omega))
          refine FlowStepsX.stepY 52 10 6 rfl rfl (by kernel_rfl) (by kernel_rfl) (by kernel_rfl) rfl rfl ?_ ?_
          ·
            intro cc act vs W hcc ha hvs hS hd hi K hK
            clear ha
            have u2 : act.tmps[2]? = some (.pointer (some ⟨xd, 0, none⟩)) := (hi.out 2 (by kernel_rfl)).trans rfl
            clear hd hi
            clear hvs
            refine wanted_un rfl ?_
            go_simp
            exact hK.out _ _ rfl hS (snC_of (Below.refl _ _) (by have := hS.2.1; omega))
          refine FlowStepsX.stepY 52 10 7 rfl rfl (by kernel_rfl) (by kernel_rfl) (by kernel_rfl) rfl rfl ?_ ?_
          ·
            intro cc act vs W hcc ha hvs hS hd hi K hK
            clear ha
            have u48 : act.tmps[48]? = some (.pointer (some ⟨xd, 2, none⟩)) := by obtain ⟨_, u, _, h⟩ := hd.out ⟨5, .data⟩ (some 48) (by simp) rfl rfl; exact u.trans (congrArg some h)
            clear hd hi
            clear hvs
            refine wanted_un rfl ?_
            have e2 := (hS.1.cell (p := ⟨xd, 2, none⟩) (by show xd < _; omega)).trans x2
            go_simp
            exact hK.out _ _ rfl hS (snC_of (Below.refl _ _) (by have := hS.2.1; omega))
          refine FlowStepsX.stepY 52 10 8 rfl rfl (by kernel_rfl) (by kernel_rfl) (by kernel_rfl) rfl rfl ?_ ?_
          ·
            intro cc act vs W hcc ha hvs hS hd hi K hK
            clear ha
            have u44 : act.tmps[44]? = some (.int .i64 m) := by obtain ⟨_, u, _, h⟩ := hd.out ⟨1, .data⟩ (some 44) (by simp) rfl rfl; exact u.trans (congrArg some h)
            have u47 : act.tmps[47]? = some (.slice none 0 0) := by obtain ⟨_, u, _, h⟩ := hd.out ⟨4, .data⟩ (some 47) (by simp) rfl rfl; exact u.trans (congrArg some h)
            have u49 : act.tmps[49]? = some (.int .i64 k) := by obtain ⟨_, u, _, h⟩ := hd.out ⟨6, .data⟩ (some 49) (by simp) rfl rfl; exact u.trans (congrArg some h)
            clear hd hi
            clear hvs
            refine wanted_un rfl ?_
            go_simp
            exact hK.out _ _ rfl hS (snC_of (Below.refl _ _) (by have := hS.2.1; omega))
          refine FlowStepsX.stepY 52 10 9 rfl rfl (by kernel_rfl) (by kernel_rfl) (by kernel_rfl) rfl rfl ?_ ?_
          ·
            intro cc act vs W hcc ha hvs hS hd hi K hK
            clear ha
            have u50 : act.tmps[50]? = some (.agg #[.int .i64 m, .slice none 0 0, .int .i64 k]) := by obtain ⟨_, u, _, h⟩ := hd.out ⟨7, .data⟩ (some 50) (by simp) rfl rfl; exact u.trans (congrArg some h)
            have u4 : act.tmps[4]? = some (.pointer (some ⟨xd + 1 + 1, 0, none⟩)) := (hi.out 4 (by kernel_rfl)).trans rfl
            clear hd hi
            clear hvs
            refine wanted_un rfl ?_
            have hr := hS.2.2.row
            have hrl := hr.lt
            obtain ⟨y0, g0⟩ := hr.some_ex (j := 0) (by omega)
            have z0 := hr.frozen 0
            obtain ⟨y1, g1⟩ := hr.some_ex (j := 1) (by omega)
            have z1 := hr.frozen 1
            obtain ⟨y2, g2⟩ := hr.some_ex (j := 2) (by omega)
            have z2 := hr.frozen 2
            go_simp
            exact hK.out (.bool true) _ (LRow.stored hS.2.2) ⟨below_set3 hS.1 (Nat.le_refl _), by simp; exact hS.2.1, (LRow.stored hS.2.2).2⟩ (by unfold snC; rw [if_pos rfl]; exact below_set3 (Below.refl _ _) (Nat.le_refl _))
          refine FlowStepsX.stepY 52 10 10 rfl rfl (by kernel_rfl) (by kernel_rfl) (by kernel_rfl) rfl rfl ?_ ?_
          ·
            intro cc act vs W hcc ha hvs hS hd hi K hK
            clear ha
            clear hd hi
            clear hvs
            refine wanted_un rfl ?_
            go_simp
            exact hK.out _ _ rfl hS (snC_of (Below.refl _ _) (by have := hS.2.1; omega))
          exact FlowStepsX.nil
        · intro c' ρ W9 hc' hS hd
          simp only [putFrom, Act.put, List.setIfInBounds_toArray, List.set_cons_zero, List.set_cons_succ, Nat.reduceAdd]
          have hrow9 : LRow W9 (xd + 1 + 1) (.int .i64 m) (.slice none 0 0) (.int .i64 k) := hd.out 8 (by decide) (by kernel_rfl)
          have d10 : ρ 9 = .bool false := hd.out 9 (by decide) (by kernel_rfl)
          generalize ρ 9 = x10 at d10 ⊢
          subst d10
          clear hd
          have r0 := hrow9.c0
          have r1 := hrow9.c1
          have r2 := hrow9.c2
          have hr9 := hrow9.lt
          have hxw := HXD.out
          have BXX : Below w.heap.size w W9 := B1.out.trans ((B06.out.mono (show w.heap.size ≤ W0.heap.size by omega)).trans (hS.1.mono (show w.heap.size ≤ xd + 1 + 1 by omega)))
          clear hxw
          go_wp2_with fail
          exact bodyPost_ret (v := .tuple #[.agg #[.int .i64 m, .slice none 0 0, .int .i64 k], .bool false]) (by simp [results, Try.results28, go_sem, *]) rfl (SgOut.keptS HV.out HP.out hlv2 rfl (.inl ⟨rfl, rfl, rfl⟩) BXX)
      · have HV2 := hide hlv2
        clear hlv2
        go_wp2_with fail
        exact bodyPost_ret (v := .tuple #[.agg #[.int .i64 m, .slice (some ⟨gn, 0, none⟩) 1 cn, .int .i64 k], .bool true]) (by simp [results, Try.results28, go_sem, *]) rfl (SgOut.good HV.out HP.out HV2.out rfl (by have := HXD.out; omega) hncn hcmn hmn (((HRN6.out.far (by show gn ≠ xd + 1 + 1; omega) _).far (by show gn ≠ xd + 1 + 1; omega) _).far (by show gn ≠ xd + 1 + 1; omega) _) (((HTN6.out.set _).set _).set _) (below_set3 (B1.out.trans (B06.out.mono (show w.heap.size ≤ W0.heap.size by have := HXD.out; omega))) (by have := HXD.out; omega)))
/-- A list of one's own as an argument. -/
theorem OwnSG.rd {w : World} {B n c : Nat} {A : Option Addr} {l : List Grant} (h : OwnSG w B n c A l) (hl : l.length = n) : (A = none ∧ n = 0 ∧ c = 0 ∧ l = []) ∨ ∃ g, A = some ⟨g, 0, none⟩ ∧ RdGrant w g 0 l := by
  rcases h with ⟨h1, h2, h3⟩ | ⟨g, m, h1, _, _, _, _, hr, _⟩
  · exact .inl ⟨h1, h2, h3, List.eq_nil_of_length_eq_zero (hl.trans h2)⟩
  · exact .inr ⟨g, h1, RdGrant_of_rowm hr hl⟩
theorem sgImpl_own (m : Int) (A : Option Addr) (n c B : Nat) (k : Int) (l : List Grant) (tg : Bool) (tw tr : Int) (hn : n ≤ 1048576) (w : World) (hl : l.length = n) (h : OwnSG w B n c A l) :
    Calls Try.prog 28 #[.agg #[.int .i64 m, .slice A n c, .int .i64 k], .agg #[.bool tg, .int .i64 tw, .int .i64 tr]] w (SgOut w m l k ⟨tg, tw, tr⟩) := by
  rcases h.rd hl with ⟨rfl, rfl, rfl, rfl⟩ | ⟨g, rfl, hR⟩
  · exact sgImpl_none m k tg tw tr w
  · exact sgImpl_some m g 0 n c k l tg tw tr hn h.cap.1 h.cap.2 w hl hR
theorem sgSpec_own (m : Int) (A : Option Addr) (n c B : Nat) (k : Int) (l : List Grant) (tg : Bool) (tw tr : Int) (hn : n ≤ 1048576) (w : World) (hl : l.length = n) (h : OwnSG w B n c A l) :
    Calls Try.prog 26 #[.agg #[.int .i64 m, .slice A n c, .int .i64 k], .agg #[.bool tg, .int .i64 tw, .int .i64 tr]] w (SgOut w m l k ⟨tg, tw, tr⟩) :=
  sgSpec_c m A n c k l tg tw tr hn w (h.ins hl) (fun e => by
    rcases h with ⟨_, _, h3⟩ | ⟨g, mm, h1, _⟩
    · exact h3
    · rw [e] at h1; cases h1)
end Go.Proofs.Ytpifnfhgaemdmaa
