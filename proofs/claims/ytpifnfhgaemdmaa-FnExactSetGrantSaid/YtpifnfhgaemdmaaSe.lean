/-
  The exact law's walk of SetGrant. No condition.
-/
import Derived.Test.YtpifnfhgaemdmaaProg
import Derived.Test.YtpifnfhgaemdmaaLs
import Derived.Test.YtpifnfhgaemdmaaSi
namespace Go.Proofs.Ytpifnfhgaemdmaa
open Go.RowKit
set_option linter.unusedSimpArgs false
set_option linter.unusedVariables false

/-- SetGrant's result in letters. -/
def SgO (w : World) (M K : Int) (ok : Bool) (L : List Grant) (nL : Nat) (e : Ending) (w' : World) : Prop :=
  ∃ (A : Option Addr) (c : Nat), e = .returned (.tuple #[.agg #[.int .i64 M, .slice A nL c, .int .i64 K], .bool ok]) ∧ OwnSG w' w.heap.size nL c A L ∧ Below w.heap.size w w'
theorem SgOut.toO {w w' : World} {m k M K : Int} {l L : List Grant} {t : Grant} {ok : Bool} {nL : Nat} {e : Ending} (hM : sgN m l k m = M) (hK : sgN m l k k = K) (hok : sgOk m l k t = ok) (hL : sgL m l k t = L) (hn : L.length = nL) (h : SgOut w m l k t e w') : SgO w M K ok L nL e w' := by
  obtain ⟨A, n, c, he, hl, ho, hb⟩ := h
  rw [hM, hK, hok] at he
  rw [hL] at hl ho
  obtain rfl : n = nL := hl.symm.trans hn
  exact ⟨A, c, he, ho, hb⟩
theorem sgL_len (m k : Int) (l : List Grant) (t : Grant) : (sgL m l k t).length ≤ 6 := by
  unfold sgL
  split
  · rename_i h
    split
    · rename_i h2; exact (listB_iff.1 h2).2.2.2
    · exact (listB_iff.1 h).2.2.2
  · simp
/-- What is known of each operation of a statement that lays SetGrant's result into a struct. -/
def xeF (m k : Int) (A : Option Addr) (n c : Nat) (l L : List Grant) (vG : Value) (M K : Int) (ok : Bool) (nL lo : Nat) (i : Nat) (v : Value) (vs : List Value) (W : World) : Prop :=
  match i with
  | 0 => v = .agg #[.int .i64 m, .slice A n c, .int .i64 k]
  | 1 => ∃ g, v = .agg #[.int .i64 m, .slice (some ⟨g, 0, none⟩) n n, .int .i64 k] ∧ RdGrant W g 0 l
  | 2 => v = vG
  | 3 => v = vG
  | 4 => ∃ A' c', v = .tuple #[.agg #[.int .i64 M, .slice A' nL c', .int .i64 K], .bool ok] ∧ OwnSG W lo nL c' A' L
  | 5 => ∃ A' c', v = .tuple #[.agg #[.int .i64 M, .slice A' nL c', .int .i64 K], .bool ok] ∧ OwnSG W lo nL c' A' L
  | 6 => ∃ A' c', v = .agg #[.int .i64 M, .slice A' nL c', .int .i64 K] ∧ OwnSG W lo nL c' A' L
  | 7 => v = .bool ok
  | 8 => ∃ q, v = .pointer (some ⟨q, 0, none⟩) ∧ lo ≤ q ∧ LBlk W q
  | 9 => ∃ q A' c', vs[0]? = some (.pointer (some ⟨q, 0, none⟩)) ∧ lo ≤ q ∧ OwnSG W lo nL c' A' L ∧ LRow W q (.int .i64 M) (.slice A' nL c') (.int .i64 K)
  | 10 => v = .bool ok
  | _ => True
theorem xeF_keep {m k : Int} {A : Option Addr} {n c : Nat} {l L : List Grant} {vG : Value} {M K : Int} {ok : Bool} {nL lo lo' i j : Nat} {v : Value} {vs : List Value} {W W' : World} (h9 : i = 9 → j ≠ 1 ∧ j ≠ 8 ∧ j ≠ 9)
    (h : xeF m k A n c l L vG M K ok nL lo j v vs W) (hc : xgC lo' 9 i W W') : xeF m k A n c l L vG M K ok nL lo j v vs W' := by
  unfold xeF at h ⊢
  split <;> simp only at h <;> try exact h
  · obtain ⟨g, h1, h2⟩ := h
    exact ⟨g, h1, h2.below (hc.below fun e => (h9 e).1 rfl)⟩
  · obtain ⟨A', c', h1, h2⟩ := h
    exact ⟨A', c', h1, hc.own h2⟩
  · obtain ⟨A', c', h1, h2⟩ := h
    exact ⟨A', c', h1, hc.own h2⟩
  · obtain ⟨A', c', h1, h2⟩ := h
    exact ⟨A', c', h1, hc.own h2⟩
  · obtain ⟨q, h1, h2, h3⟩ := h
    exact ⟨q, h1, h2, h3.below (hc.below fun e => (h9 e).2.1 rfl)⟩
  · obtain ⟨q, A', c', h1, h2, h3, h4⟩ := h
    exact ⟨q, A', c', h1, h2, hc.own h3, h4.below (hc.below fun e => (h9 e).2.2 rfl)⟩
/-- The operations where no copy of the list is made. -/
def xe7 (i : Nat) : Nat := match i with | 0 => 0 | 1 => 2 | 2 => 3 | 3 => 4 | 4 => 5 | 5 => 6 | 6 => 7 | 7 => 8 | 8 => 9 | 9 => 10 | _ => 11
theorem xe7_eq {i : Nat} : (xe7 i = 9 → i = 8) ∧ (xe7 i = 8 → i = 7) ∧ xe7 i ≠ 1 := by
  unfold xe7; split <;> simp
def xeE (vX vL : Value) (m k : Int) (n : Nat) (l : List Grant) (i : Nat) (v : Value) (vs : List Value) (W : World) : Prop :=
  match i with
  | 0 => v = vX
  | 1 => v = vL
  | 2 => ∃ g, v = .agg #[.int .i64 m, .slice (some ⟨g, 0, none⟩) n n, .int .i64 k] ∧ RdGrant W g 0 l
  | 3 => v = .bool true
  | 4 => v = .bool false
  | _ => True
theorem xeE_keep {vX vL : Value} {m k : Int} {n j : Nat} {l : List Grant} {v : Value} {vs : List Value} {W W' : World} (h : xeE vX vL m k n l j v vs W) (hc : Below W.heap.size W W') : xeE vX vL m k n l j v vs W' := by
  unfold xeE at h ⊢
  split <;> simp only at h <;> try exact h
  obtain ⟨g, h1, h2⟩ := h
  exact ⟨g, h1, h2.below hc⟩
set_option maxHeartbeats 4000000 in
theorem fnExactSetGrant_walk {w : World} (m : Int) (hm : (Lit.int .i64 m).wf = true) (A : Option Addr) (n c : Nat) (l : List Grant) (hA : InsGrant w A n c l) (k : Int) (hk : (Lit.int .i64 k).wf = true) (tg : Bool) (tw : Int) (htw : (Lit.int .i64 tw).wf = true) (tr : Int) (htr : (Lit.int .i64 tr).wf = true) :
    Calls Try.prog 7 #[.agg #[.int .i64 m, .slice A n c, .int .i64 k], .agg #[.bool tg, .int .i64 tw, .int .i64 tr]] w fun e w' => e = .returned (.bool true) ∧ Below w.heap.size w w' := by
  clear hm hk htw htr
  obtain ⟨hIn, hm, hc⟩ := hA
  have b0 : Below w.heap.size w ((w.alloc (.cells #[.int .i64 m, .slice A n c, .int .i64 k] 31)).alloc (.cells #[.bool tg, .int .i64 tw, .int .i64 tr] 47)) := below_alloc0 (below_alloc0 (Below.refl _ _) _) _
  by_cases h : (n : Int) ≤ 1048576
  case neg =>
    go_enter Try.func7, Try.ntmps7
    go_wp2_with fail
    refine (szList_no _ _ _ _ _ _ (by omega) (by omega) hm (by omega) _).mono ?_
    rintro e w1 ⟨rfl, hb1⟩
    have B1 := below_via0 b0 hb1
    go_wp2
    go_ret
    exact ⟨rfl, B1⟩
  have g1 : 0 ≤ 1048576 - (n : Int) := by omega
  have hn : n ≤ 1048576 := by omega
  have hl := hide hIn.1
  have HI := hide hIn
  obtain ⟨M, hM⟩ : ∃ M, sgN m l k m = M := ⟨_, rfl⟩
  obtain ⟨K, hK⟩ : ∃ K, sgN m l k k = K := ⟨_, rfl⟩
  obtain ⟨ok, hok⟩ : ∃ ok, sgOk m l k ⟨tg, tw, tr⟩ = ok := ⟨_, rfl⟩
  obtain ⟨L, hL⟩ : ∃ L, sgL m l k ⟨tg, tw, tr⟩ = L := ⟨_, rfl⟩
  obtain ⟨nL, hnL⟩ : ∃ nL, L.length = nL := ⟨_, rfl⟩
  have hnL6 : nL ≤ 6 := by rw [← hnL, ← hL]; exact sgL_len _ _ _ _
  have HSP := hide (fun (W : World) (b off c' : Nat) (hR : RdGrant W b off l) (hc : n ≤ c') (hcm : c' ≤ maxLen) => (sgSpec_some m b off n c' k l tg tw tr hn hc hcm W hl.out hR).mono (fun e w' h => h.toO hM hK hok hL hnL))
  have HIM := hide (fun (W : World) (b off c' : Nat) (hR : RdGrant W b off l) (hc : n ≤ c') (hcm : c' ≤ maxLen) => (sgImpl_some m b off n c' k l tg tw tr hn hc hcm W hl.out hR).mono (fun e w' h => h.toO hM hK hok hL hnL))
  have HLL := hide hnL
  have gk1 : ¬ (1 + 3 * (n : Int) < 0) := by omega
  have gk2 : ¬ (1 + 3 * (nL : Int) < 0) := by omega
  clear hM hK hok hL hnL hIn
  go_enter Try.func7, Try.ntmps7
  go_wp2_with fail
  refine (szList_yes _ _ _ _ _ _ h (by omega) _).mono ?_
  rintro e w1 ⟨rfl, hb1⟩
  have L1 := live hb1 w.heap.size (by simp; try omega)
  have M1 := live hb1 (w.heap.size + 1) (by simp; try omega)
  have B1 := hide (below_via0 b0 hb1)
  have x0 : w1.cell? ⟨w.heap.size, 0, none⟩ = some (.int .i64 m) := by simp [go_sem, L1]
  have x1 : w1.cell? ⟨w.heap.size, 1, none⟩ = some (.slice A n c) := by simp [go_sem, L1]
  have x2 : w1.cell? ⟨w.heap.size, 2, none⟩ = some (.int .i64 k) := by simp [go_sem, L1]
  have y0 : w1.cell? ⟨w.heap.size + 1, 0, none⟩ = some (.bool tg) := by simp [go_sem, M1]
  have y1 : w1.cell? ⟨w.heap.size + 1, 1, none⟩ = some (.int .i64 tw) := by simp [go_sem, M1]
  have y2 : w1.cell? ⟨w.heap.size + 1, 2, none⟩ = some (.int .i64 tr) := by simp [go_sem, M1]
  have hxl1 := M1.1
  clear L1 M1 hb1 b0
  go_wp2_with fail
  obtain ⟨xd, hxd⟩ : ∃ xd, xd = w.heap.size := ⟨_, rfl⟩
  rw [← hxd] at x0 x1 x2 y0 y1 y2 hxl1 ⊢
  have HX := hide (And.intro x0 (And.intro x1 x2))
  have HY := hide (And.intro y0 (And.intro y1 y2))
  have HXD := hide hxd
  have HIb := hide (HI.out.below B1.out)
  clear hxd g1
  refine wp_flowZ (os := [_, _, _, _, _, _, _, _, _, _, _]) (fun cc W => Below w1.heap.size w1 W) ((xgC w1.heap.size 9)) (xeF m k A n c l L (.agg #[.bool tg, .int .i64 tw, .int .i64 tr]) M K ok nL w1.heap.size) 11 rfl ?_ ?_ ?_ ?_ ?_ ?_ ?_
  · kernel_rfl
  · kernel_rfl
  · kernel_rfl
  · exact (fun i j v vs w1 w2 hij hdd hbf h hc => xeF_keep (by rintro rfl; exact ⟨fun e => by subst e; exact absurd (show dead _ 9 1 = true by kernel_rfl) (by rw [hdd]; decide), fun e => by subst e; exact absurd (show dead _ 9 8 = true by kernel_rfl) (by rw [hdd]; decide), Ne.symm hij⟩) h hc)
  · exact (Below.refl _ _).drew
  ·
    refine FlowStepsX.stepY 104 11 1 rfl rfl (by kernel_rfl) (by kernel_rfl) (by kernel_rfl) rfl rfl ?_ ?_
    ·
      intro cc act vs W hcc ha hvs hS hd hi K hK
      clear ha
      have u2 : act.tmps[2]? = some (.pointer (some ⟨xd, 0, none⟩)) := (hi.out 2 (by kernel_rfl)).trans rfl
      clear hd hi
      clear hvs
      refine wanted_un rfl ?_
      have e0 := (hS.cell (p := ⟨xd, 0, none⟩) (by show xd < _; omega)).trans x0
      have e1 := (hS.cell (p := ⟨xd, 1, none⟩) (by show xd < _; omega)).trans x1
      have e2 := (hS.cell (p := ⟨xd, 2, none⟩) (by show xd < _; omega)).trans x2
      go_simp
      exact hK.out _ _ rfl hS (xgC.of (Below.refl _ _) hS.size)
    refine FlowStepsX.stepY 104 11 2 rfl rfl (by kernel_rfl) (by kernel_rfl) (by kernel_rfl) rfl rfl ?_ ?_
    ·
      intro cc act vs W hcc ha hvs hS hd hi K hK
      clear ha
      have u22 : act.tmps[22]? = some (.agg #[.int .i64 m, .slice A n c, .int .i64 k]) := by obtain ⟨_, u, _, h⟩ := hd.out ⟨0, .data⟩ (some 22) (by simp) rfl rfl; exact u.trans (congrArg some h)
      clear hd hi
      clear hvs
      refine wanted_un rfl ?_
      go_wp2_with fail
      refine (toList_c _ _ _ _ _ l _ (HIb.out.below hS) hn).mono ?_
      rintro e w6 ⟨g, rfl, hg, hR, hb6⟩
      exact hK.out _ w6 ⟨g, rfl, hR⟩ (hS.trans (hb6.mono hS.size)) (xgC.of hb6 hS.size)
    refine FlowStepsX.stepY 104 11 3 rfl rfl (by kernel_rfl) (by kernel_rfl) (by kernel_rfl) rfl rfl ?_ ?_
    ·
      intro cc act vs W hcc ha hvs hS hd hi K hK
      clear ha
      have u3 : act.tmps[3]? = some (.pointer (some ⟨xd + 1, 0, none⟩)) := (hi.out 3 (by kernel_rfl)).trans rfl
      clear hd hi
      clear hvs
      refine wanted_un rfl ?_
      have e0 := (hS.cell (p := ⟨xd + 1, 0, none⟩) (by show xd + 1 < _; omega)).trans y0
      have e1 := (hS.cell (p := ⟨xd + 1, 1, none⟩) (by show xd + 1 < _; omega)).trans y1
      have e2 := (hS.cell (p := ⟨xd + 1, 2, none⟩) (by show xd + 1 < _; omega)).trans y2
      go_simp
      exact hK.out _ _ rfl hS (xgC.of (Below.refl _ _) hS.size)
    refine FlowStepsX.stepY 104 11 4 rfl rfl (by kernel_rfl) (by kernel_rfl) (by kernel_rfl) rfl rfl ?_ ?_
    ·
      intro cc act vs W hcc ha hvs hS hd hi K hK
      clear ha
      have u24 : act.tmps[24]? = some (.agg #[.bool tg, .int .i64 tw, .int .i64 tr]) := by obtain ⟨_, u, _, h⟩ := hd.out ⟨2, .data⟩ (some 24) (by simp) rfl rfl; exact u.trans (congrArg some h)
      clear hd hi
      clear hvs
      refine wanted_un rfl ?_
      go_wp2_with fail
      refine (toGrant_c _ _ _ _).mono ?_
      rintro e w6 ⟨rfl, hb6⟩
      exact hK.out _ w6 rfl (hS.trans (hb6.mono hS.size)) (xgC.of hb6 hS.size)
    refine FlowStepsX.stepY 104 11 5 rfl rfl (by kernel_rfl) (by kernel_rfl) (by kernel_rfl) rfl rfl ?_ ?_
    ·
      intro cc act vs W hcc ha hvs hS hd hi K hK
      clear ha
      obtain ⟨_, u23, _, ⟨g, rfl, hR⟩⟩ := hd.out ⟨1, .data⟩ (some 23) (by simp) rfl rfl
      have u25 : act.tmps[25]? = some (.agg #[.bool tg, .int .i64 tw, .int .i64 tr]) := by obtain ⟨_, u, _, h⟩ := hd.out ⟨3, .data⟩ (some 25) (by simp) rfl rfl; exact u.trans (congrArg some h)
      clear hd hi
      clear hvs
      refine wanted_un rfl ?_
      go_wp2_with fail
      refine (HSP.out _ _ _ _ hR (Nat.le_refl _) (by unfold maxLen; omega)).mono ?_
      rintro e w6 ⟨A1, c1, rfl, ho, hb6⟩
      exact hK.out _ w6 ⟨A1, c1, rfl, ho.mono hS.size⟩ (hS.trans (hb6.mono hS.size)) (xgC.of hb6 hS.size)
    refine FlowStepsX.stepY 104 11 6 rfl rfl (by kernel_rfl) (by kernel_rfl) (by kernel_rfl) rfl rfl ?_ ?_
    ·
      intro cc act vs W hcc ha hvs hS hd hi K hK
      clear ha
      obtain ⟨_, u26, _, ⟨A1, c1, rfl, ho⟩⟩ := hd.out ⟨4, .data⟩ (some 26) (by simp) rfl rfl
      clear hd hi
      clear hvs
      refine wanted_un rfl ?_
      go_simp
      exact hK.out _ _ ⟨_, _, rfl, ho⟩ hS (xgC.of (Below.refl _ _) hS.size)
    refine FlowStepsX.stepY 104 11 7 rfl rfl (by kernel_rfl) (by kernel_rfl) (by kernel_rfl) rfl rfl ?_ ?_
    ·
      intro cc act vs W hcc ha hvs hS hd hi K hK
      clear ha
      obtain ⟨_, u21, _, ⟨A1, c1, rfl, ho⟩⟩ := hd.out ⟨5, .data⟩ (some 21) (by simp) rfl rfl
      clear hd hi
      clear hvs
      refine wanted_un rfl ?_
      go_simp
      exact hK.out _ _ ⟨_, _, rfl, ho⟩ hS (xgC.of (Below.refl _ _) hS.size)
    refine FlowStepsX.stepY 104 11 8 rfl rfl (by kernel_rfl) (by kernel_rfl) (by kernel_rfl) rfl rfl ?_ ?_
    ·
      intro cc act vs W hcc ha hvs hS hd hi K hK
      clear ha
      obtain ⟨_, u21, _, ⟨A1, c1, rfl, ho⟩⟩ := hd.out ⟨5, .data⟩ (some 21) (by simp) rfl rfl
      clear hd hi
      clear hvs
      refine wanted_un rfl ?_
      go_simp
      exact hK.out _ _ rfl hS (xgC.of (Below.refl _ _) hS.size)
    refine FlowStepsX.stepY 104 11 9 rfl rfl (by kernel_rfl) (by kernel_rfl) (by kernel_rfl) rfl rfl ?_ ?_
    ·
      intro cc act vs W hcc ha hvs hS hd hi K hK
      clear ha
      clear hd hi
      clear hvs
      refine wanted_un rfl ?_
      go_simp
      have hsz := hS.size
      exact hK.out _ _ ⟨W.heap.size, rfl, hsz, _, Below.heap_alloc_self W _, rfl⟩ (hS.alloc hsz _) (xgC.of ((Below.refl _ _).alloc (Nat.le_refl _) _) hsz)
    refine FlowStepsX.stepY 104 11 10 rfl rfl (by kernel_rfl) (by kernel_rfl) (by kernel_rfl) rfl rfl ?_ ?_
    ·
      intro cc act vs W hcc ha hvs hS hd hi K hK
      clear ha
      obtain ⟨_, u6, _, ⟨q, rfl, hlo, hLB⟩⟩ := hd.out ⟨8, .data⟩ (some 6) (by simp) rfl rfl
      obtain ⟨_, u27, _, ⟨A1, c1, rfl, ho⟩⟩ := hd.out ⟨6, .data⟩ (some 27) (by simp) rfl rfl
      clear hd hi
      refine wanted_un rfl ?_
      have hr := hLB.row
      obtain ⟨y0, g0⟩ := hr.some_ex (j := 0) (by omega)
      have z0 := hr.frozen 0
      obtain ⟨y1, g1⟩ := hr.some_ex (j := 1) (by omega)
      have z1 := hr.frozen 1
      obtain ⟨y2, g2⟩ := hr.some_ex (j := 2) (by omega)
      have z2 := hr.frozen 2
      have hl0 := (hvs.out 0 6 rfl).trans u6
      go_simp
      exact hK.out (.bool true) _ ⟨q, A1, c1, hl0, hlo, (xgC.store (s := 9) hLB hlo).own ho, LRow.stored hLB⟩ (below_set3 hS hlo) (xgC.store (s := 9) hLB hlo)
    refine FlowStepsX.stepY 104 11 11 rfl rfl (by kernel_rfl) (by kernel_rfl) (by kernel_rfl) rfl rfl ?_ ?_
    ·
      intro cc act vs W hcc ha hvs hS hd hi K hK
      clear ha
      have u28 : act.tmps[28]? = some (.bool ok) := by obtain ⟨_, u, _, h⟩ := hd.out ⟨7, .data⟩ (some 28) (by simp) rfl rfl; exact u.trans (congrArg some h)
      clear hd hi
      clear hvs
      refine wanted_un rfl ?_
      go_simp
      exact hK.out _ _ rfl hS (xgC.of (Below.refl _ _) hS.size)
    exact FlowStepsX.nil
  · intro c' ρ w5 hc' hS hd
    simp only [putFrom, Act.put, List.setIfInBounds_toArray, List.set_cons_zero, List.set_cons_succ, Nat.reduceAdd]
    obtain ⟨q0, A0, c0, hl9, hlo, ho, hr⟩ := hd.out 9 (by decide) (by kernel_rfl)
    have e8 : ρ 8 = .pointer (some ⟨q0, 0, none⟩) := Option.some.inj hl9
    have e10 : ρ 10 = .bool ok := hd.out 10 (by decide) (by kernel_rfl)
    clear hd hl9
    generalize ρ 8 = z8 at e8 ⊢
    generalize ρ 10 = z10 at e10 ⊢
    subst e8 e10
    have S_5 := hide hS
    have R0_5 := hide hr
    have O0_5 := hide ho
    have lt0 := hide ho.lt
    clear hS hr ho hlo HIb x0 x1 x2 y0 y1 y2
    have hsz := S_5.out.size
    have x0 := (S_5.out.cell (p := ⟨xd, 0, none⟩) (by show xd < _; omega)).trans HX.out.1
    have x1 := (S_5.out.cell (p := ⟨xd, 1, none⟩) (by show xd < _; omega)).trans HX.out.2.1
    have x2 := (S_5.out.cell (p := ⟨xd, 2, none⟩) (by show xd < _; omega)).trans HX.out.2.2
    go_wp2_with fail
    refine (toListR_c _ _ _ _ _ l _ (HI.out.below (B1.out.trans (S_5.out.mono B1.out.size))) hn).mono ?_
    rintro e w6 ⟨bx, rfl, ox, hb6⟩
    have P0x := hide (show ∀ a a' : Addr, A0 = some a → some (⟨bx, 0, none⟩ : Addr) = some a' → a.block ≠ a'.block from fun a a' h1 h2 => by have := lt0.out a h1; have := ox.ge a' h2; omega)
    have Tx := hide (show ∀ a, some (⟨bx, 0, none⟩ : Addr) = some a → w1.heap.size ≤ a.block from fun a ha => Nat.le_trans S_5.out.size (ox.ge a ha))
    clear hsz x0 x1 x2
    have S_6 := hide (S_5.out.trans (hb6.mono S_5.out.size))
    have R0_6 := hide (R0_5.out.below hb6)
    have O0_6 := hide (O0_5.out.below hb6)
    have Ox_6 := hide ox
    clear ox hb6
    clear S_5
    clear R0_5
    clear O0_5
    go_wp2_with fail
    have hb7 : Below w6.heap.size w6 (w6.alloc (.cells #[.int .i64 m, .slice (some ⟨bx, 0, none⟩) n n, .int .i64 k] 24)) := below_alloc0 (Below.refl _ _) _
    have rx := LRow.made w6 (.int .i64 m) (.slice (some ⟨bx, 0, none⟩) n n) (.int .i64 k)
    have S_7 := hide (S_6.out.trans (hb7.mono S_6.out.size))
    have R0_7 := hide (R0_6.out.below hb7)
    have O0_7 := hide (O0_6.out.below hb7)
    have Ox_7 := hide (Ox_6.out.below hb7)
    have Rx_7 := hide rx
    clear rx hb7
    generalize w6.alloc (.cells #[.int .i64 m, .slice (some ⟨bx, 0, none⟩) n n, .int .i64 k] 24) = w7 at *
    obtain ⟨qx, hqx⟩ : ∃ qx, qx = w6.heap.size := ⟨_, rfl⟩
    rw [← hqx] at Rx_7 ⊢
    clear hqx S_6 R0_6 O0_6 Ox_6
    have HRx := hide (show RdGrant w7 bx 0 l from by
      rcases Ox_7.out with ⟨h, _⟩ | ⟨g, mm, h, _, _, _, _, hr, _⟩
      · cases h
      · cases h; exact RdGrant_of_rowm hr hl.out)
    have hsz := S_7.out.size
    have y0 := (S_7.out.cell (p := ⟨xd + 1, 0, none⟩) (by show xd + 1 < _; omega)).trans HY.out.1
    have y1 := (S_7.out.cell (p := ⟨xd + 1, 1, none⟩) (by show xd + 1 < _; omega)).trans HY.out.2.1
    have y2 := (S_7.out.cell (p := ⟨xd + 1, 2, none⟩) (by show xd + 1 < _; omega)).trans HY.out.2.2
    have xr0 := Rx_7.out.c0
    have xr1 := Rx_7.out.c1
    have xr2 := Rx_7.out.c2
    have hqx := Rx_7.out.lt
    refine wp_flowZ (os := [_, _, _, _, _, _, _, _, _, _]) (fun cc W => Below w7.heap.size w7 W) ((fun i W W' => xgC w7.heap.size 9 (xe7 i) W W')) (fun i v vs W => xeF m k (some ⟨bx, 0, none⟩) n n l L (.agg #[.bool tg, .int .i64 tw, .int .i64 tr]) M K ok nL w7.heap.size (xe7 i) v vs W) 10 rfl ?_ ?_ ?_ ?_ ?_ ?_ ?_
    · kernel_rfl
    · kernel_rfl
    · kernel_rfl
    · exact (fun i j v vs w1 w2 hij hdd hbf h hc => xeF_keep (fun e9 => by obtain rfl := xe7_eq.1 e9; exact ⟨xe7_eq.2.2, fun e => by obtain rfl := xe7_eq.2.1 e; exact absurd (show dead _ 8 7 = true by kernel_rfl) (by rw [hdd]; decide), fun e => hij (xe7_eq.1 e).symm⟩) h hc)
    · exact (Below.refl _ _).drew
    ·
      refine FlowStepsX.stepY 104 10 1 rfl rfl (by kernel_rfl) (by kernel_rfl) (by kernel_rfl) rfl rfl ?_ ?_
      ·
        intro cc act vs W hcc ha hvs hS hd hi K hK
        clear ha
        have u8 : act.tmps[8]? = some (.pointer (some ⟨qx, 0, none⟩)) := (hi.out 8 (by kernel_rfl)).trans rfl
        clear hd hi
        clear hvs
        refine wanted_un rfl ?_
        have e0 := (hS.cell (p := ⟨qx, 0, none⟩) (by show qx < _; omega)).trans xr0
        have e1 := (hS.cell (p := ⟨qx, 1, none⟩) (by show qx < _; omega)).trans xr1
        have e2 := (hS.cell (p := ⟨qx, 2, none⟩) (by show qx < _; omega)).trans xr2
        go_simp
        exact hK.out _ _ rfl hS (xgC.of (Below.refl _ _) hS.size)
      refine FlowStepsX.stepY 104 10 2 rfl rfl (by kernel_rfl) (by kernel_rfl) (by kernel_rfl) rfl rfl ?_ ?_
      ·
        intro cc act vs W hcc ha hvs hS hd hi K hK
        clear ha
        have u3 : act.tmps[3]? = some (.pointer (some ⟨xd + 1, 0, none⟩)) := (hi.out 3 (by kernel_rfl)).trans rfl
        clear hd hi
        clear hvs
        refine wanted_un rfl ?_
        have e0 := (hS.cell (p := ⟨xd + 1, 0, none⟩) (by show xd + 1 < _; omega)).trans y0
        have e1 := (hS.cell (p := ⟨xd + 1, 1, none⟩) (by show xd + 1 < _; omega)).trans y1
        have e2 := (hS.cell (p := ⟨xd + 1, 2, none⟩) (by show xd + 1 < _; omega)).trans y2
        go_simp
        exact hK.out _ _ rfl hS (xgC.of (Below.refl _ _) hS.size)
      refine FlowStepsX.stepY 104 10 3 rfl rfl (by kernel_rfl) (by kernel_rfl) (by kernel_rfl) rfl rfl ?_ ?_
      ·
        intro cc act vs W hcc ha hvs hS hd hi K hK
        clear ha
        have u33 : act.tmps[33]? = some (.agg #[.bool tg, .int .i64 tw, .int .i64 tr]) := by obtain ⟨_, u, _, h⟩ := hd.out ⟨1, .data⟩ (some 33) (by simp) rfl rfl; exact u.trans (congrArg some h)
        clear hd hi
        clear hvs
        refine wanted_un rfl ?_
        go_wp2_with fail
        refine (toGrant_c _ _ _ _).mono ?_
        rintro e w6 ⟨rfl, hb6⟩
        exact hK.out _ w6 rfl (hS.trans (hb6.mono hS.size)) (xgC.of hb6 hS.size)
      refine FlowStepsX.stepY 104 10 4 rfl rfl (by kernel_rfl) (by kernel_rfl) (by kernel_rfl) rfl rfl ?_ ?_
      ·
        intro cc act vs W hcc ha hvs hS hd hi K hK
        clear ha
        have u32 : act.tmps[32]? = some (.agg #[.int .i64 m, .slice (some ⟨bx, 0, none⟩) n n, .int .i64 k]) := by obtain ⟨_, u, _, h⟩ := hd.out ⟨0, .data⟩ (some 32) (by simp) rfl rfl; exact u.trans (congrArg some h)
        have u34 : act.tmps[34]? = some (.agg #[.bool tg, .int .i64 tw, .int .i64 tr]) := by obtain ⟨_, u, _, h⟩ := hd.out ⟨2, .data⟩ (some 34) (by simp) rfl rfl; exact u.trans (congrArg some h)
        clear hd hi
        clear hvs
        refine wanted_un rfl ?_
        go_wp2_with fail
        refine (HIM.out _ _ _ _ (HRx.out.below hS) (Nat.le_refl _) (by unfold maxLen; omega)).mono ?_
        rintro e w6 ⟨A1, c1, rfl, ho, hb6⟩
        exact hK.out _ w6 ⟨A1, c1, rfl, ho.mono hS.size⟩ (hS.trans (hb6.mono hS.size)) (xgC.of hb6 hS.size)
      refine FlowStepsX.stepY 104 10 5 rfl rfl (by kernel_rfl) (by kernel_rfl) (by kernel_rfl) rfl rfl ?_ ?_
      ·
        intro cc act vs W hcc ha hvs hS hd hi K hK
        clear ha
        obtain ⟨_, u35, _, ⟨A1, c1, rfl, ho⟩⟩ := hd.out ⟨3, .data⟩ (some 35) (by simp) rfl rfl
        clear hd hi
        clear hvs
        refine wanted_un rfl ?_
        go_simp
        exact hK.out _ _ ⟨_, _, rfl, ho⟩ hS (xgC.of (Below.refl _ _) hS.size)
      refine FlowStepsX.stepY 104 10 6 rfl rfl (by kernel_rfl) (by kernel_rfl) (by kernel_rfl) rfl rfl ?_ ?_
      ·
        intro cc act vs W hcc ha hvs hS hd hi K hK
        clear ha
        obtain ⟨_, u31, _, ⟨A1, c1, rfl, ho⟩⟩ := hd.out ⟨4, .data⟩ (some 31) (by simp) rfl rfl
        clear hd hi
        clear hvs
        refine wanted_un rfl ?_
        go_simp
        exact hK.out _ _ ⟨_, _, rfl, ho⟩ hS (xgC.of (Below.refl _ _) hS.size)
      refine FlowStepsX.stepY 104 10 7 rfl rfl (by kernel_rfl) (by kernel_rfl) (by kernel_rfl) rfl rfl ?_ ?_
      ·
        intro cc act vs W hcc ha hvs hS hd hi K hK
        clear ha
        obtain ⟨_, u31, _, ⟨A1, c1, rfl, ho⟩⟩ := hd.out ⟨4, .data⟩ (some 31) (by simp) rfl rfl
        clear hd hi
        clear hvs
        refine wanted_un rfl ?_
        go_simp
        exact hK.out _ _ rfl hS (xgC.of (Below.refl _ _) hS.size)
      refine FlowStepsX.stepY 104 10 8 rfl rfl (by kernel_rfl) (by kernel_rfl) (by kernel_rfl) rfl rfl ?_ ?_
      ·
        intro cc act vs W hcc ha hvs hS hd hi K hK
        clear ha
        clear hd hi
        clear hvs
        refine wanted_un rfl ?_
        go_simp
        have hsz := hS.size
        exact hK.out _ _ ⟨W.heap.size, rfl, hsz, _, Below.heap_alloc_self W _, rfl⟩ (hS.alloc hsz _) (xgC.of ((Below.refl _ _).alloc (Nat.le_refl _) _) hsz)
      refine FlowStepsX.stepY 104 10 9 rfl rfl (by kernel_rfl) (by kernel_rfl) (by kernel_rfl) rfl rfl ?_ ?_
      ·
        intro cc act vs W hcc ha hvs hS hd hi K hK
        clear ha
        obtain ⟨_, u9, _, ⟨q, rfl, hlo, hLB⟩⟩ := hd.out ⟨7, .data⟩ (some 9) (by simp) rfl rfl
        obtain ⟨_, u36, _, ⟨A1, c1, rfl, ho⟩⟩ := hd.out ⟨5, .data⟩ (some 36) (by simp) rfl rfl
        clear hd hi
        refine wanted_un rfl ?_
        have hr := hLB.row
        obtain ⟨y0, g0⟩ := hr.some_ex (j := 0) (by omega)
        have z0 := hr.frozen 0
        obtain ⟨y1, g1⟩ := hr.some_ex (j := 1) (by omega)
        have z1 := hr.frozen 1
        obtain ⟨y2, g2⟩ := hr.some_ex (j := 2) (by omega)
        have z2 := hr.frozen 2
        have hl0 := (hvs.out 0 9 rfl).trans u9
        go_simp
        exact hK.out (.bool true) _ ⟨q, A1, c1, hl0, hlo, (xgC.store (s := 9) hLB hlo).own ho, LRow.stored hLB⟩ (below_set3 hS hlo) (xgC.store (s := 9) hLB hlo)
      refine FlowStepsX.stepY 104 10 10 rfl rfl (by kernel_rfl) (by kernel_rfl) (by kernel_rfl) rfl rfl ?_ ?_
      ·
        intro cc act vs W hcc ha hvs hS hd hi K hK
        clear ha
        have u37 : act.tmps[37]? = some (.bool ok) := by obtain ⟨_, u, _, h⟩ := hd.out ⟨6, .data⟩ (some 37) (by simp) rfl rfl; exact u.trans (congrArg some h)
        clear hd hi
        clear hvs
        refine wanted_un rfl ?_
        go_simp
        exact hK.out _ _ rfl hS (xgC.of (Below.refl _ _) hS.size)
      exact FlowStepsX.nil
    · intro c' ρ w8 hc' hS hd
      simp only [putFrom, Act.put, List.setIfInBounds_toArray, List.set_cons_zero, List.set_cons_succ, Nat.reduceAdd]
      obtain ⟨qg, Ag, cg, hl9, hlo, ho, hr⟩ := hd.out 8 (by decide) (by kernel_rfl)
      have e8 : ρ 7 = .pointer (some ⟨qg, 0, none⟩) := Option.some.inj hl9
      have e10 : ρ 9 = .bool ok := hd.out 9 (by decide) (by kernel_rfl)
      clear hd hl9
      generalize ρ 7 = z8 at e8 ⊢
      generalize ρ 9 = z10 at e10 ⊢
      subst e8 e10
      clear hsz y0 y1 y2
      clear xr0 xr1 xr2 hqx HRx
      have P0g := hide (show ∀ a a' : Addr, A0 = some a → Ag = some a' → a.block ≠ a'.block from fun a a' h1 h2 => by have := O0_7.out.lt a h1; have := ho.ge a' h2; omega)
      have Pxg := hide (show ∀ a a' : Addr, Ag = some a → some (⟨bx, 0, none⟩ : Addr) = some a' → a.block ≠ a'.block from fun a a' h1 h2 => by have := Ox_7.out.lt a' h2; have := ho.ge a h1; omega)
      have Tg := hide (show ∀ a, Ag = some a → w1.heap.size ≤ a.block from fun a ha => Nat.le_trans S_7.out.size (ho.ge a ha))
      have S_8 := hide (S_7.out.trans (hS.mono S_7.out.size))
      have R0_8 := hide (R0_7.out.below hS)
      have O0_8 := hide (O0_7.out.below hS)
      have Ox_8 := hide (Ox_7.out.below hS)
      have Rx_8 := hide (Rx_7.out.below hS)
      have Rg_8 := hide hr
      have Og_8 := hide ho
      have hs7 := S_7.out.size
      clear hS hr ho hlo S_7 R0_7 O0_7 Ox_7 Rx_7
      have hsz := S_8.out.size
      have rg0 := Rg_8.out.c0
      have rg1 := Rg_8.out.c1
      have rg2 := Rg_8.out.c2
      have lg := Rg_8.out.lt
      have r00 := R0_8.out.c0
      have r01 := R0_8.out.c1
      have r02 := R0_8.out.c2
      have l0 := R0_8.out.lt
      go_wp2_with fail
      refine (eqListI_c _ _ _ _ _ _ _ L (by omega) _ (Og_8.out.ins HLL.out) (O0_8.out.ins HLL.out)).mono ?_
      rintro e w9 ⟨rfl, hb9⟩
      clear hsz rg0 rg1 rg2 lg r00 r01 r02 l0
      have S_9 := hide (S_8.out.trans (hb9.mono S_8.out.size))
      have R0_9 := hide (R0_8.out.below hb9)
      have O0_9 := hide (O0_8.out.below hb9)
      have Ox_9 := hide (Ox_8.out.below hb9)
      have Rx_9 := hide (Rx_8.out.below hb9)
      have Rg_9 := hide (Rg_8.out.below hb9)
      have Og_9 := hide (Og_8.out.below hb9)
      clear hb9 S_8 R0_8 O0_8 Ox_8 Rx_8 Rg_8 Og_8
      have hsz := S_9.out.size
      have x0 := (S_9.out.cell (p := ⟨xd, 0, none⟩) (by show xd < _; omega)).trans HX.out.1
      have x1 := (S_9.out.cell (p := ⟨xd, 1, none⟩) (by show xd < _; omega)).trans HX.out.2.1
      have x2 := (S_9.out.cell (p := ⟨xd, 2, none⟩) (by show xd < _; omega)).trans HX.out.2.2
      have xr0 := Rx_9.out.c0
      have xr1 := Rx_9.out.c1
      have xr2 := Rx_9.out.c2
      have hqx := Rx_9.out.lt
      have HOx := hide Ox_9.out
      have HIb := hide (HI.out.below (B1.out.trans (S_9.out.mono B1.out.size)))
      go_wp2_with fail
      refine wp_flowZ (os := [_, _, _, _, _]) (fun cc W => Below w9.heap.size w9 W) ((fun i W W' => Below W.heap.size W W')) (xeE (.agg #[.int .i64 m, .slice (some ⟨bx, 0, none⟩) n n, .int .i64 k]) (.agg #[.int .i64 m, .slice A n c, .int .i64 k]) m k n l) 5 rfl ?_ ?_ ?_ ?_ ?_ ?_ ?_
      · kernel_rfl
      · kernel_rfl
      · kernel_rfl
      · exact (fun i j v vs w1 w2 hij hdd hbf h hc => xeE_keep h hc)
      · exact (Below.refl _ _).drew
      ·
        refine FlowStepsX.stepY 104 5 1 rfl rfl (by kernel_rfl) (by kernel_rfl) (by kernel_rfl) rfl rfl ?_ ?_
        ·
          intro cc act vs W hcc ha hvs hS hd hi K hK
          clear ha
          have u8 : act.tmps[8]? = some (.pointer (some ⟨qx, 0, none⟩)) := (hi.out 8 (by kernel_rfl)).trans rfl
          clear hd hi
          clear hvs
          refine wanted_un rfl ?_
          have e0 := (hS.cell (p := ⟨qx, 0, none⟩) (by show qx < _; omega)).trans xr0
          have e1 := (hS.cell (p := ⟨qx, 1, none⟩) (by show qx < _; omega)).trans xr1
          have e2 := (hS.cell (p := ⟨qx, 2, none⟩) (by show qx < _; omega)).trans xr2
          go_simp
          exact hK.out _ _ rfl hS (Below.refl _ _)
        refine FlowStepsX.stepY 104 5 2 rfl rfl (by kernel_rfl) (by kernel_rfl) (by kernel_rfl) rfl rfl ?_ ?_
        ·
          intro cc act vs W hcc ha hvs hS hd hi K hK
          clear ha
          have u2 : act.tmps[2]? = some (.pointer (some ⟨xd, 0, none⟩)) := (hi.out 2 (by kernel_rfl)).trans rfl
          clear hd hi
          clear hvs
          refine wanted_un rfl ?_
          have e0 := (hS.cell (p := ⟨xd, 0, none⟩) (by show xd < _; omega)).trans x0
          have e1 := (hS.cell (p := ⟨xd, 1, none⟩) (by show xd < _; omega)).trans x1
          have e2 := (hS.cell (p := ⟨xd, 2, none⟩) (by show xd < _; omega)).trans x2
          go_simp
          exact hK.out _ _ rfl hS (Below.refl _ _)
        refine FlowStepsX.stepY 104 5 3 rfl rfl (by kernel_rfl) (by kernel_rfl) (by kernel_rfl) rfl rfl ?_ ?_
        ·
          intro cc act vs W hcc ha hvs hS hd hi K hK
          clear ha
          have u48 : act.tmps[48]? = some (.agg #[.int .i64 m, .slice A n c, .int .i64 k]) := by obtain ⟨_, u, _, h⟩ := hd.out ⟨1, .data⟩ (some 48) (by simp) rfl rfl; exact u.trans (congrArg some h)
          clear hd hi
          clear hvs
          refine wanted_un rfl ?_
          go_wp2_with fail
          refine (toList_c _ _ _ _ _ l _ (HIb.out.below hS) hn).mono ?_
          rintro e w6 ⟨g, rfl, hg, hR, hb6⟩
          exact hK.out _ w6 ⟨g, rfl, hR⟩ (hS.trans (hb6.mono hS.size)) hb6
        refine FlowStepsX.stepY 104 5 4 rfl rfl (by kernel_rfl) (by kernel_rfl) (by kernel_rfl) rfl rfl ?_ ?_
        ·
          intro cc act vs W hcc ha hvs hS hd hi K hK
          clear ha
          have u47 : act.tmps[47]? = some (.agg #[.int .i64 m, .slice (some ⟨bx, 0, none⟩) n n, .int .i64 k]) := by obtain ⟨_, u, _, h⟩ := hd.out ⟨0, .data⟩ (some 47) (by simp) rfl rfl; exact u.trans (congrArg some h)
          obtain ⟨_, u49, _, ⟨g, rfl, hR⟩⟩ := hd.out ⟨2, .data⟩ (some 49) (by simp) rfl rfl
          clear hd hi
          clear hvs
          refine wanted_un rfl ?_
          go_wp2_with fail
          refine (eqListI_c _ _ _ _ _ _ _ l hn _ (HOx.out.below hS |>.ins hl.out) ⟨hl.out, fun _ => ⟨_, _, rfl, hR⟩⟩).mono ?_
          rintro e w6 ⟨rfl, hb6⟩
          exact hK.out _ w6 rfl (hS.trans (hb6.mono hS.size)) hb6
        refine FlowStepsX.stepY 104 5 5 rfl rfl (by kernel_rfl) (by kernel_rfl) (by kernel_rfl) rfl rfl ?_ ?_
        ·
          intro cc act vs W hcc ha hvs hS hd hi K hK
          clear ha
          have u50 : act.tmps[50]? = some (.bool true) := by obtain ⟨_, u, _, h⟩ := hd.out ⟨3, .data⟩ (some 50) (by simp) rfl rfl; exact u.trans (congrArg some h)
          clear hd hi
          clear hvs
          refine wanted_un rfl ?_
          go_simp
          exact hK.out _ _ rfl hS (Below.refl _ _)
        exact FlowStepsX.nil
      · intro c' ρ w10 hc' hS hd
        simp only [putFrom, Act.put, List.setIfInBounds_toArray, List.set_cons_zero, List.set_cons_succ, Nat.reduceAdd]
        have e4 : ρ 4 = .bool false := hd.out 4 (by decide) (by kernel_rfl)
        clear hd
        generalize ρ 4 = z4 at e4 ⊢
        subst e4
        clear xr0 xr1 xr2 hqx HOx HIb x0 x1 x2 hsz
        have S_10 := hide (S_9.out.trans (hS.mono S_9.out.size))
        have R0_10 := hide (R0_9.out.below hS)
        have O0_10 := hide (O0_9.out.below hS)
        have Ox_10 := hide (Ox_9.out.below hS)
        have Rx_10 := hide (Rx_9.out.below hS)
        have Rg_10 := hide (Rg_9.out.below hS)
        have Og_10 := hide (Og_9.out.below hS)
        clear hS S_9 R0_9 O0_9 Ox_9 Rx_9 Rg_9 Og_9
        have hsz := S_10.out.size
        have rX0 := Rx_10.out.c0
        have rX1 := Rx_10.out.c1
        have rX2 := Rx_10.out.c2
        have lX := Rx_10.out.lt
        go_wp2_with fail
        refine (markListI_c _ _ _ _ _ _ l hn _ Ox_10.out).mono ?_
        rintro e w11 ⟨rfl, hoff, hown⟩
        clear hsz rX0 rX1 rX2 lX
        have hss := S_10.out.size
        have S_11 := hide (hoff.below S_10.out Tx.out hss)
        have R0_11 := hide (R0_10.out.offs hoff Ox_10.out.ty)
        have O0_11 := hide (O0_10.out.offs hoff P0x.out)
        have Rg_11 := hide (Rg_10.out.offs hoff Ox_10.out.ty)
        have Og_11 := hide (Og_10.out.offs hoff Pxg.out)
        clear hss hoff hown S_10 R0_10 O0_10 Ox_10 Rx_10 Rg_10 Og_10
        have hsz := S_11.out.size
        have rg0 := Rg_11.out.c0
        have rg1 := Rg_11.out.c1
        have rg2 := Rg_11.out.c2
        have lg := Rg_11.out.lt
        have r00 := R0_11.out.c0
        have r01 := R0_11.out.c1
        have r02 := R0_11.out.c2
        have l0 := R0_11.out.lt
        go_wp2_with fail
        refine (eqListI_c _ _ _ _ _ _ _ L (by omega) _ (Og_11.out.ins HLL.out) (O0_11.out.ins HLL.out)).mono ?_
        rintro e w12 ⟨rfl, hb12⟩
        clear hsz rg0 rg1 rg2 lg r00 r01 r02 l0
        have S_12 := hide (S_11.out.trans (hb12.mono S_11.out.size))
        have R0_12 := hide (R0_11.out.below hb12)
        have O0_12 := hide (O0_11.out.below hb12)
        have Rg_12 := hide (Rg_11.out.below hb12)
        have Og_12 := hide (Og_11.out.below hb12)
        clear hb12 S_11 R0_11 O0_11 Rg_11 Og_11
        have hsz := S_12.out.size
        have rg0 := Rg_12.out.c0
        have rg1 := Rg_12.out.c1
        have rg2 := Rg_12.out.c2
        have lg := Rg_12.out.lt
        go_wp2_with fail
        refine (markListI_c _ _ _ _ _ _ L (by omega) _ Og_12.out).mono ?_
        rintro e w13 ⟨rfl, hoff, hown⟩
        clear hsz rg0 rg1 rg2 lg
        have hss := S_12.out.size
        have S_13 := hide (hoff.below S_12.out Tg.out hss)
        have R0_13 := hide (R0_12.out.offs hoff Og_12.out.ty)
        have O0_13 := hide (O0_12.out.offs hoff P0g.out)
        have Rg_13 := hide (Rg_12.out.offs hoff Og_12.out.ty)
        have Og_13 := hide hown
        clear hss hoff hown S_12 R0_12 O0_12 Rg_12 Og_12
        have hsz := S_13.out.size
        have rg0 := Rg_13.out.c0
        have rg1 := Rg_13.out.c1
        have rg2 := Rg_13.out.c2
        have lg := Rg_13.out.lt
        go_wp2_with fail
        refine (heldListI_c _ _ _ _ _ (by omega) _ (Og_13.out.ins (mkLG_len _))).mono ?_
        rintro e w14 ⟨rfl, hb14⟩
        clear hsz rg0 rg1 rg2 lg
        have S_14 := hide (S_13.out.trans (hb14.mono S_13.out.size))
        have R0_14 := hide (R0_13.out.below hb14)
        have O0_14 := hide (O0_13.out.below hb14)
        have Rg_14 := hide (Rg_13.out.below hb14)
        have Og_14 := hide (Og_13.out.below hb14)
        clear hb14 S_13 R0_13 O0_13 Rg_13 Og_13
        have hsz := S_14.out.size
        have x0 := (S_14.out.cell (p := ⟨xd, 0, none⟩) (by show xd < _; omega)).trans HX.out.1
        have x1 := (S_14.out.cell (p := ⟨xd, 1, none⟩) (by show xd < _; omega)).trans HX.out.2.1
        have x2 := (S_14.out.cell (p := ⟨xd, 2, none⟩) (by show xd < _; omega)).trans HX.out.2.2
        have y0 := (S_14.out.cell (p := ⟨xd + 1, 0, none⟩) (by show xd + 1 < _; omega)).trans HY.out.1
        have y1 := (S_14.out.cell (p := ⟨xd + 1, 1, none⟩) (by show xd + 1 < _; omega)).trans HY.out.2.1
        have y2 := (S_14.out.cell (p := ⟨xd + 1, 2, none⟩) (by show xd + 1 < _; omega)).trans HY.out.2.2
        have HIb := hide (HI.out.below (B1.out.trans (S_14.out.mono B1.out.size)))
        go_wp2_with fail
        refine wp_flowZ (os := [_, _, _, _, _, _, _, _, _, _, _]) (fun cc W => Below w14.heap.size w14 W) ((xgC w14.heap.size 9)) (xeF m k A n c l L (.agg #[.bool tg, .int .i64 tw, .int .i64 tr]) M K ok nL w14.heap.size) 11 rfl ?_ ?_ ?_ ?_ ?_ ?_ ?_
        · kernel_rfl
        · kernel_rfl
        · kernel_rfl
        · exact (fun i j v vs w1 w2 hij hdd hbf h hc => xeF_keep (by rintro rfl; exact ⟨fun e => by subst e; exact absurd (show dead _ 9 1 = true by kernel_rfl) (by rw [hdd]; decide), fun e => by subst e; exact absurd (show dead _ 9 8 = true by kernel_rfl) (by rw [hdd]; decide), Ne.symm hij⟩) h hc)
        · exact (Below.refl _ _).drew
        ·
          refine FlowStepsX.stepY 104 11 1 rfl rfl (by kernel_rfl) (by kernel_rfl) (by kernel_rfl) rfl rfl ?_ ?_
          ·
            intro cc act vs W hcc ha hvs hS hd hi K hK
            clear ha
            have u2 : act.tmps[2]? = some (.pointer (some ⟨xd, 0, none⟩)) := (hi.out 2 (by kernel_rfl)).trans rfl
            clear hd hi
            clear hvs
            refine wanted_un rfl ?_
            have e0 := (hS.cell (p := ⟨xd, 0, none⟩) (by show xd < _; omega)).trans x0
            have e1 := (hS.cell (p := ⟨xd, 1, none⟩) (by show xd < _; omega)).trans x1
            have e2 := (hS.cell (p := ⟨xd, 2, none⟩) (by show xd < _; omega)).trans x2
            go_simp
            exact hK.out _ _ rfl hS (xgC.of (Below.refl _ _) hS.size)
          refine FlowStepsX.stepY 104 11 2 rfl rfl (by kernel_rfl) (by kernel_rfl) (by kernel_rfl) rfl rfl ?_ ?_
          ·
            intro cc act vs W hcc ha hvs hS hd hi K hK
            clear ha
            have u80 : act.tmps[80]? = some (.agg #[.int .i64 m, .slice A n c, .int .i64 k]) := by obtain ⟨_, u, _, h⟩ := hd.out ⟨0, .data⟩ (some 80) (by simp) rfl rfl; exact u.trans (congrArg some h)
            clear hd hi
            clear hvs
            refine wanted_un rfl ?_
            go_wp2_with fail
            refine (toList_c _ _ _ _ _ l _ (HIb.out.below hS) hn).mono ?_
            rintro e w6 ⟨g, rfl, hg, hR, hb6⟩
            exact hK.out _ w6 ⟨g, rfl, hR⟩ (hS.trans (hb6.mono hS.size)) (xgC.of hb6 hS.size)
          refine FlowStepsX.stepY 104 11 3 rfl rfl (by kernel_rfl) (by kernel_rfl) (by kernel_rfl) rfl rfl ?_ ?_
          ·
            intro cc act vs W hcc ha hvs hS hd hi K hK
            clear ha
            have u3 : act.tmps[3]? = some (.pointer (some ⟨xd + 1, 0, none⟩)) := (hi.out 3 (by kernel_rfl)).trans rfl
            clear hd hi
            clear hvs
            refine wanted_un rfl ?_
            have e0 := (hS.cell (p := ⟨xd + 1, 0, none⟩) (by show xd + 1 < _; omega)).trans y0
            have e1 := (hS.cell (p := ⟨xd + 1, 1, none⟩) (by show xd + 1 < _; omega)).trans y1
            have e2 := (hS.cell (p := ⟨xd + 1, 2, none⟩) (by show xd + 1 < _; omega)).trans y2
            go_simp
            exact hK.out _ _ rfl hS (xgC.of (Below.refl _ _) hS.size)
          refine FlowStepsX.stepY 104 11 4 rfl rfl (by kernel_rfl) (by kernel_rfl) (by kernel_rfl) rfl rfl ?_ ?_
          ·
            intro cc act vs W hcc ha hvs hS hd hi K hK
            clear ha
            have u82 : act.tmps[82]? = some (.agg #[.bool tg, .int .i64 tw, .int .i64 tr]) := by obtain ⟨_, u, _, h⟩ := hd.out ⟨2, .data⟩ (some 82) (by simp) rfl rfl; exact u.trans (congrArg some h)
            clear hd hi
            clear hvs
            refine wanted_un rfl ?_
            go_wp2_with fail
            refine (toGrant_c _ _ _ _).mono ?_
            rintro e w6 ⟨rfl, hb6⟩
            exact hK.out _ w6 rfl (hS.trans (hb6.mono hS.size)) (xgC.of hb6 hS.size)
          refine FlowStepsX.stepY 104 11 5 rfl rfl (by kernel_rfl) (by kernel_rfl) (by kernel_rfl) rfl rfl ?_ ?_
          ·
            intro cc act vs W hcc ha hvs hS hd hi K hK
            clear ha
            obtain ⟨_, u81, _, ⟨g, rfl, hR⟩⟩ := hd.out ⟨1, .data⟩ (some 81) (by simp) rfl rfl
            have u83 : act.tmps[83]? = some (.agg #[.bool tg, .int .i64 tw, .int .i64 tr]) := by obtain ⟨_, u, _, h⟩ := hd.out ⟨3, .data⟩ (some 83) (by simp) rfl rfl; exact u.trans (congrArg some h)
            clear hd hi
            clear hvs
            refine wanted_un rfl ?_
            go_wp2_with fail
            refine (HIM.out _ _ _ _ hR (Nat.le_refl _) (by unfold maxLen; omega)).mono ?_
            rintro e w6 ⟨A1, c1, rfl, ho, hb6⟩
            exact hK.out _ w6 ⟨A1, c1, rfl, ho.mono hS.size⟩ (hS.trans (hb6.mono hS.size)) (xgC.of hb6 hS.size)
          refine FlowStepsX.stepY 104 11 6 rfl rfl (by kernel_rfl) (by kernel_rfl) (by kernel_rfl) rfl rfl ?_ ?_
          ·
            intro cc act vs W hcc ha hvs hS hd hi K hK
            clear ha
            obtain ⟨_, u84, _, ⟨A1, c1, rfl, ho⟩⟩ := hd.out ⟨4, .data⟩ (some 84) (by simp) rfl rfl
            clear hd hi
            clear hvs
            refine wanted_un rfl ?_
            go_simp
            exact hK.out _ _ ⟨_, _, rfl, ho⟩ hS (xgC.of (Below.refl _ _) hS.size)
          refine FlowStepsX.stepY 104 11 7 rfl rfl (by kernel_rfl) (by kernel_rfl) (by kernel_rfl) rfl rfl ?_ ?_
          ·
            intro cc act vs W hcc ha hvs hS hd hi K hK
            clear ha
            obtain ⟨_, u79, _, ⟨A1, c1, rfl, ho⟩⟩ := hd.out ⟨5, .data⟩ (some 79) (by simp) rfl rfl
            clear hd hi
            clear hvs
            refine wanted_un rfl ?_
            go_simp
            exact hK.out _ _ ⟨_, _, rfl, ho⟩ hS (xgC.of (Below.refl _ _) hS.size)
          refine FlowStepsX.stepY 104 11 8 rfl rfl (by kernel_rfl) (by kernel_rfl) (by kernel_rfl) rfl rfl ?_ ?_
          ·
            intro cc act vs W hcc ha hvs hS hd hi K hK
            clear ha
            obtain ⟨_, u79, _, ⟨A1, c1, rfl, ho⟩⟩ := hd.out ⟨5, .data⟩ (some 79) (by simp) rfl rfl
            clear hd hi
            clear hvs
            refine wanted_un rfl ?_
            go_simp
            exact hK.out _ _ rfl hS (xgC.of (Below.refl _ _) hS.size)
          refine FlowStepsX.stepY 104 11 9 rfl rfl (by kernel_rfl) (by kernel_rfl) (by kernel_rfl) rfl rfl ?_ ?_
          ·
            intro cc act vs W hcc ha hvs hS hd hi K hK
            clear ha
            clear hd hi
            clear hvs
            refine wanted_un rfl ?_
            go_simp
            have hsz := hS.size
            exact hK.out _ _ ⟨W.heap.size, rfl, hsz, _, Below.heap_alloc_self W _, rfl⟩ (hS.alloc hsz _) (xgC.of ((Below.refl _ _).alloc (Nat.le_refl _) _) hsz)
          refine FlowStepsX.stepY 104 11 10 rfl rfl (by kernel_rfl) (by kernel_rfl) (by kernel_rfl) rfl rfl ?_ ?_
          ·
            intro cc act vs W hcc ha hvs hS hd hi K hK
            clear ha
            obtain ⟨_, u14, _, ⟨q, rfl, hlo, hLB⟩⟩ := hd.out ⟨8, .data⟩ (some 14) (by simp) rfl rfl
            obtain ⟨_, u85, _, ⟨A1, c1, rfl, ho⟩⟩ := hd.out ⟨6, .data⟩ (some 85) (by simp) rfl rfl
            clear hd hi
            refine wanted_un rfl ?_
            have hr := hLB.row
            obtain ⟨y0, g0⟩ := hr.some_ex (j := 0) (by omega)
            have z0 := hr.frozen 0
            obtain ⟨y1, g1⟩ := hr.some_ex (j := 1) (by omega)
            have z1 := hr.frozen 1
            obtain ⟨y2, g2⟩ := hr.some_ex (j := 2) (by omega)
            have z2 := hr.frozen 2
            have hl0 := (hvs.out 0 14 rfl).trans u14
            go_simp
            exact hK.out (.bool true) _ ⟨q, A1, c1, hl0, hlo, (xgC.store (s := 9) hLB hlo).own ho, LRow.stored hLB⟩ (below_set3 hS hlo) (xgC.store (s := 9) hLB hlo)
          refine FlowStepsX.stepY 104 11 11 rfl rfl (by kernel_rfl) (by kernel_rfl) (by kernel_rfl) rfl rfl ?_ ?_
          ·
            intro cc act vs W hcc ha hvs hS hd hi K hK
            clear ha
            have u86 : act.tmps[86]? = some (.bool ok) := by obtain ⟨_, u, _, h⟩ := hd.out ⟨7, .data⟩ (some 86) (by simp) rfl rfl; exact u.trans (congrArg some h)
            clear hd hi
            clear hvs
            refine wanted_un rfl ?_
            go_simp
            exact hK.out _ _ rfl hS (xgC.of (Below.refl _ _) hS.size)
          exact FlowStepsX.nil
        · intro c' ρ w15 hc' hS hd
          simp only [putFrom, Act.put, List.setIfInBounds_toArray, List.set_cons_zero, List.set_cons_succ, Nat.reduceAdd]
          obtain ⟨qh, Ah, ch, hl9, hlo, ho, hr⟩ := hd.out 9 (by decide) (by kernel_rfl)
          have e8 : ρ 8 = .pointer (some ⟨qh, 0, none⟩) := Option.some.inj hl9
          have e10 : ρ 10 = .bool ok := hd.out 10 (by decide) (by kernel_rfl)
          clear hd hl9
          generalize ρ 8 = z8 at e8 ⊢
          generalize ρ 10 = z10 at e10 ⊢
          subst e8 e10
          clear HIb
          clear hsz x0 x1 x2 y0 y1 y2
          have S_15 := hide (S_14.out.trans (hS.mono S_14.out.size))
          have R0_15 := hide (R0_14.out.below hS)
          have O0_15 := hide (O0_14.out.below hS)
          have Rg_15 := hide (Rg_14.out.below hS)
          have Og_15 := hide (Og_14.out.below hS)
          have Rh_15 := hide hr
          have Oh_15 := hide ho
          clear hS hr ho hlo S_14 R0_14 O0_14 Rg_14 Og_14
          have hsz := S_15.out.size
          have rh0 := Rh_15.out.c0
          have rh1 := Rh_15.out.c1
          have rh2 := Rh_15.out.c2
          have lh := Rh_15.out.lt
          have r00 := R0_15.out.c0
          have r01 := R0_15.out.c1
          have r02 := R0_15.out.c2
          have l0 := R0_15.out.lt
          go_wp2_with fail
          refine (eqListI_c _ _ _ _ _ _ _ L (by omega) _ (Oh_15.out.ins HLL.out) (O0_15.out.ins HLL.out)).mono ?_
          rintro e w16 ⟨rfl, hb16⟩
          clear hsz rh0 rh1 rh2 lh r00 r01 r02 l0
          have S_16 := hide (S_15.out.trans (hb16.mono S_15.out.size))
          have R0_16 := hide (R0_15.out.below hb16)
          have O0_16 := hide (O0_15.out.below hb16)
          have Rg_16 := hide (Rg_15.out.below hb16)
          have Og_16 := hide (Og_15.out.below hb16)
          have Rh_16 := hide (Rh_15.out.below hb16)
          have Oh_16 := hide (Oh_15.out.below hb16)
          clear hb16 S_15 R0_15 O0_15 Rg_15 Og_15 Rh_15 Oh_15
          have hsz := S_16.out.size
          have rg0 := Rg_16.out.c0
          have rg1 := Rg_16.out.c1
          have rg2 := Rg_16.out.c2
          have lg := Rg_16.out.lt
          go_wp2_with fail
          refine (heldListI_c _ _ _ _ _ (by omega) _ (Og_16.out.ins (mkLG_len _))).mono ?_
          rintro e w17 ⟨rfl, hb17⟩
          clear hsz rg0 rg1 rg2 lg
          have S_17 := hide (S_16.out.trans (hb17.mono S_16.out.size))
          have R0_17 := hide (R0_16.out.below hb17)
          have O0_17 := hide (O0_16.out.below hb17)
          have Rg_17 := hide (Rg_16.out.below hb17)
          have Og_17 := hide (Og_16.out.below hb17)
          have Rh_17 := hide (Rh_16.out.below hb17)
          have Oh_17 := hide (Oh_16.out.below hb17)
          clear hb17 S_16 R0_16 O0_16 Rg_16 Og_16 Rh_16 Oh_16
          go_wp2
          go_ret
          exact ⟨rfl, B1.out.trans (S_17.out.mono B1.out.size)⟩
end Go.Proofs.Ytpifnfhgaemdmaa
