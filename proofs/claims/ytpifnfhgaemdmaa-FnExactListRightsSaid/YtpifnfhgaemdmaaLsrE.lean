/-
  The law ListRights over any list. No condition.
-/
import Derived.Test.YtpifnfhgaemdmaaProg
import Derived.Test.YtpifnfhgaemdmaaLsrI
namespace Go.Proofs.Ytpifnfhgaemdmaa
open Go.RowKit
set_option linter.unusedSimpArgs false
set_option linter.unusedVariables false

def lxF (m : Int) (A : Option Addr) (n c : Nat) (k : Int) (l : List Grant) (r a s g u p : Int) (i : Nat) (v : Value) (vs : List Value) (W : World) : Prop :=
  match i with
  | 0 => v = .agg #[.int .i64 m, .slice A n c, .int .i64 k]
  | 1 => ∃ b, v = .agg #[.int .i64 m, .slice (some ⟨b, 0, none⟩) n n, .int .i64 k] ∧ RdGrant W b 0 l
  | 2 => v = .agg #[.int .i64 r, .int .i64 a, .int .i64 s, .int .i64 g]
  | 3 => v = .agg #[.int .i64 r, .int .i64 a, .int .i64 s, .int .i64 g]
  | 4 => v = .int .i64 u
  | 5 => v = .int .i64 p
  | _ => v = .int .i64 (lrF m l k r a s g u p)
theorem lxF_keep {m : Int} {A : Option Addr} {n c : Nat} {k : Int} {l : List Grant} {r a s g u p : Int} {j : Nat} {v : Value} {vs : List Value} {W W' : World} (h : lxF m A n c k l r a s g u p j v vs W) (hc : Below W.heap.size W W') : lxF m A n c k l r a s g u p j v vs W' := by
  unfold lxF at h ⊢
  split <;> simp only at h <;> try exact h
  obtain ⟨b, h1, h2⟩ := h
  exact ⟨b, h1, h2.below hc⟩
noncomputable def lyV (m : Int) (n : Nat) (k : Int) (l : List Grant) (r a s g u p : Int) (g4 : Nat) (i : Nat) : Value :=
  match i with
  | 0 => .agg #[.int .i64 m, .slice (some ⟨g4, 0, none⟩) n n, .int .i64 k]
  | 1 => .agg #[.int .i64 r, .int .i64 a, .int .i64 s, .int .i64 g]
  | 2 => .agg #[.int .i64 r, .int .i64 a, .int .i64 s, .int .i64 g]
  | 3 => .int .i64 u
  | 4 => .int .i64 p
  | 5 => .int .i64 (lrF m l k r a s g u p)
  | _ => .int .i64 (lrF m l k r a s g u p)

set_option maxHeartbeats 4000000 in
theorem fnExactListRights_walk {w : World} (m : Int) (hm : (Lit.int .i64 m).wf = true) (A : Option Addr) (n c : Nat) (l : List Grant) (hA : InsGrant w A n c l) (k : Int) (hk : (Lit.int .i64 k).wf = true)
    (r : Int) (hr : (Lit.int .i64 r).wf = true) (a : Int) (ha : (Lit.int .i64 a).wf = true) (s : Int) (hs : (Lit.int .i64 s).wf = true) (g : Int) (hg : (Lit.int .i64 g).wf = true) (u : Int) (hu : (Lit.int .i64 u).wf = true) (p : Int) (hp : (Lit.int .i64 p).wf = true) :
    Calls Try.prog 9 #[.agg #[.int .i64 m, .slice A n c, .int .i64 k], .agg #[.int .i64 r, .int .i64 a, .int .i64 s, .int .i64 g], .int .i64 u, .int .i64 p] w fun e w' => e = .returned (.bool true) ∧ Below w.heap.size w w' := by
  clear hm hk hr ha hs hg hu hp
  obtain ⟨hIn, hm, hc⟩ := hA
  have b0 : Below w.heap.size w ((w.alloc (.cells #[.int .i64 m, .slice A n c, .int .i64 k] 31)).alloc (.cells #[.int .i64 r, .int .i64 a, .int .i64 s, .int .i64 g] 54)) := below_alloc0 (below_alloc0 (Below.refl _ _) _) _
  by_cases h : (n : Int) ≤ 1048576
  · have g1 : 0 ≤ 1048576 - (n : Int) := by omega
    have hn : n ≤ 1048576 := by omega
    have hl := hide hIn.1
    have HI := hide hIn
    have hb0 := hide b0
    clear hIn b0 hm hc
    go_enter Try.func9, Try.ntmps9
    go_wp2_with fail
    refine (szList_yes _ _ _ _ _ _ h (by omega) _).mono ?_
    rintro e w1 ⟨rfl, hb1⟩
    have L1 := live hb1 w.heap.size (by simp; try omega)
    have M1 := live hb1 (w.heap.size + 1) (by simp)
    have B1 := hide (below_via0 hb0.out hb1)
    have x0 : w1.cell? ⟨w.heap.size, 0, none⟩ = some (.int .i64 m) := by simp [go_sem, L1]
    have x1 : w1.cell? ⟨w.heap.size, 1, none⟩ = some (.slice A n c) := by simp [go_sem, L1]
    have x2 : w1.cell? ⟨w.heap.size, 2, none⟩ = some (.int .i64 k) := by simp [go_sem, L1]
    have y0 : w1.cell? ⟨w.heap.size + 1, 0, none⟩ = some (.int .i64 r) := by simp [go_sem, M1]
    have y1 : w1.cell? ⟨w.heap.size + 1, 1, none⟩ = some (.int .i64 a) := by simp [go_sem, M1]
    have y2 : w1.cell? ⟨w.heap.size + 1, 2, none⟩ = some (.int .i64 s) := by simp [go_sem, M1]
    have y3 : w1.cell? ⟨w.heap.size + 1, 3, none⟩ = some (.int .i64 g) := by simp [go_sem, M1]
    have hx1 : w.heap.size + 1 < w1.heap.size := M1.1
    clear L1 M1 hb1
    go_wp2_with fail
    refine wp_flowX (os := [_, _, _, _, _, _, _, _]) (fun cc W => Below w1.heap.size w1 W) (fun _ W W' => Below W.heap.size W W') (lxF m A n c k l r a s g u p) 8 rfl ?_ ?_ ?_ ?_ ?_ ?_ ?_
    · kernel_rfl
    · kernel_rfl
    · kernel_rfl
    · exact (fun i j v vs w1 w2 _ _ h hc => lxF_keep h hc)
    · exact (Below.refl _ _).drew
    ·
      refine FlowStepsX.stepY 41 8 1 rfl rfl (by kernel_rfl) (by kernel_rfl) (by kernel_rfl) rfl rfl ?_ ?_
      ·
        intro cc act vs W hcc ha hvs hS hd hi K hK
        clear ha
        have u4 : act.tmps[4]? = some (.pointer (some ⟨w.heap.size, 0, none⟩)) := (hi.out 4 (by kernel_rfl)).trans rfl
        clear hd hi
        clear hvs
        refine wanted_un rfl ?_
        have e0 := (hS.cell (p := ⟨w.heap.size, 0, none⟩) (by show w.heap.size < _; omega)).trans x0
        have e1 := (hS.cell (p := ⟨w.heap.size, 1, none⟩) (by show w.heap.size < _; omega)).trans x1
        have e2 := (hS.cell (p := ⟨w.heap.size, 2, none⟩) (by show w.heap.size < _; omega)).trans x2
        go_simp
        exact hK.out _ _ rfl hS (Below.refl _ _)
      refine FlowStepsX.stepY 41 8 2 rfl rfl (by kernel_rfl) (by kernel_rfl) (by kernel_rfl) rfl rfl ?_ ?_
      ·
        intro cc act vs W hcc ha hvs hS hd hi K hK
        clear ha
        have u18 : act.tmps[18]? = some (.agg #[.int .i64 m, .slice A n c, .int .i64 k]) := by obtain ⟨_, u, _, h⟩ := hd.out ⟨0, .data⟩ (some 18) (by simp) rfl rfl; exact u.trans (congrArg some h)
        clear hd hi
        clear hvs
        refine wanted_un rfl ?_
        go_wp2_with fail
        refine (toList_c _ _ _ _ _ l _ (HI.out.below (B1.out.trans (hS.mono B1.out.size))) hn).mono ?_
        rintro e w6 ⟨g6, rfl, hg6, hR6, hb6⟩
        exact hK.out _ w6 ⟨g6, rfl, hR6⟩ (hS.trans (hb6.mono hS.size)) hb6
      refine FlowStepsX.stepY 41 8 3 rfl rfl (by kernel_rfl) (by kernel_rfl) (by kernel_rfl) rfl rfl ?_ ?_
      ·
        intro cc act vs W hcc ha hvs hS hd hi K hK
        clear ha
        have u5 : act.tmps[5]? = some (.pointer (some ⟨w.heap.size + 1, 0, none⟩)) := (hi.out 5 (by kernel_rfl)).trans rfl
        clear hd hi
        clear hvs
        refine wanted_un rfl ?_
        have e0 := (hS.cell (p := ⟨w.heap.size + 1, 0, none⟩) (by show w.heap.size + 1 < _; omega)).trans y0
        have e1 := (hS.cell (p := ⟨w.heap.size + 1, 1, none⟩) (by show w.heap.size + 1 < _; omega)).trans y1
        have e2 := (hS.cell (p := ⟨w.heap.size + 1, 2, none⟩) (by show w.heap.size + 1 < _; omega)).trans y2
        have e3 := (hS.cell (p := ⟨w.heap.size + 1, 3, none⟩) (by show w.heap.size + 1 < _; omega)).trans y3
        go_simp
        exact hK.out _ _ rfl hS (Below.refl _ _)
      refine FlowStepsX.stepY 41 8 4 rfl rfl (by kernel_rfl) (by kernel_rfl) (by kernel_rfl) rfl rfl ?_ ?_
      ·
        intro cc act vs W hcc ha hvs hS hd hi K hK
        clear ha
        have u20 : act.tmps[20]? = some (.agg #[.int .i64 r, .int .i64 a, .int .i64 s, .int .i64 g]) := by obtain ⟨_, u, _, h⟩ := hd.out ⟨2, .data⟩ (some 20) (by simp) rfl rfl; exact u.trans (congrArg some h)
        clear hd hi
        clear hvs
        refine wanted_un rfl ?_
        go_wp2_with fail
        refine (toCred_c _ _ _ _ _).mono ?_
        rintro e w6 ⟨rfl, hb6⟩
        exact hK.out _ w6 rfl (hS.trans (hb6.mono hS.size)) hb6
      refine FlowStepsX.stepY 41 8 5 rfl rfl (by kernel_rfl) (by kernel_rfl) (by kernel_rfl) rfl rfl ?_ ?_
      ·
        intro cc act vs W hcc ha hvs hS hd hi K hK
        clear ha
        have u2 : act.tmps[2]? = some (.int .i64 u) := (hi.out 2 (by kernel_rfl)).trans rfl
        clear hd hi
        clear hvs
        refine wanted_un rfl ?_
        go_simp
        exact hK.out _ _ rfl hS (Below.refl _ _)
      refine FlowStepsX.stepY 41 8 6 rfl rfl (by kernel_rfl) (by kernel_rfl) (by kernel_rfl) rfl rfl ?_ ?_
      ·
        intro cc act vs W hcc ha hvs hS hd hi K hK
        clear ha
        have u3 : act.tmps[3]? = some (.int .i64 p) := (hi.out 3 (by kernel_rfl)).trans rfl
        clear hd hi
        clear hvs
        refine wanted_un rfl ?_
        go_simp
        exact hK.out _ _ rfl hS (Below.refl _ _)
      refine FlowStepsX.stepY 41 8 7 rfl rfl (by kernel_rfl) (by kernel_rfl) (by kernel_rfl) rfl rfl ?_ ?_
      ·
        intro cc act vs W hcc ha hvs hS hd hi K hK
        clear ha
        obtain ⟨_, u19, _, ⟨g6, rfl, hR6⟩⟩ := hd.out ⟨1, .data⟩ (some 19) (by simp) rfl rfl
        have u21 : act.tmps[21]? = some (.agg #[.int .i64 r, .int .i64 a, .int .i64 s, .int .i64 g]) := by obtain ⟨_, u, _, h⟩ := hd.out ⟨3, .data⟩ (some 21) (by simp) rfl rfl; exact u.trans (congrArg some h)
        have u22 : act.tmps[22]? = some (.int .i64 u) := by obtain ⟨_, u, _, h⟩ := hd.out ⟨4, .data⟩ (some 22) (by simp) rfl rfl; exact u.trans (congrArg some h)
        have u23 : act.tmps[23]? = some (.int .i64 p) := by obtain ⟨_, u, _, h⟩ := hd.out ⟨5, .data⟩ (some 23) (by simp) rfl rfl; exact u.trans (congrArg some h)
        clear hd hi
        clear hvs
        refine wanted_un rfl ?_
        go_wp2_with fail
        refine (lrSpec_c m _ n n k l r a s g u p hn _ ⟨hl.out, fun _ => ⟨_, _, rfl, hR6⟩⟩).mono ?_
        rintro e w6 ⟨rfl, hb6⟩
        exact hK.out _ w6 rfl (hS.trans (hb6.mono hS.size)) hb6
      refine FlowStepsX.stepY 41 8 8 rfl rfl (by kernel_rfl) (by kernel_rfl) (by kernel_rfl) rfl rfl ?_ ?_
      ·
        intro cc act vs W hcc ha hvs hS hd hi K hK
        clear ha
        have u24 : act.tmps[24]? = some (.int .i64 (lrF m l k r a s g u p)) := by obtain ⟨_, u, _, h⟩ := hd.out ⟨6, .data⟩ (some 24) (by simp) rfl rfl; exact u.trans (congrArg some h)
        clear hd hi
        clear hvs
        refine wanted_un rfl ?_
        go_simp
        exact hK.out _ _ rfl hS (Below.refl _ _)
      exact FlowStepsX.nil
    · intro c' ρ W hc' hS hd
      simp only [putFrom, Act.put, List.setIfInBounds_toArray, List.set_cons_zero, List.set_cons_succ, Nat.reduceAdd]
      have d7 : ρ 7 = .int .i64 (lrF m l k r a s g u p) := hd.out 7 (by decide) (by kernel_rfl)
      generalize ρ 7 = x7 at d7 ⊢
      subst d7
      clear hd
      have hsz := hS.size
      have B3 := hide (B1.out.trans (hS.mono B1.out.size))
      have hS' := hide hS
      have L3 := live hS w.heap.size (by omega)
      have M3 := live hS (w.heap.size + 1) (by omega)
      clear hS
      go_wp2_with fail
      refine (toList_c _ _ _ _ _ l _ (HI.out.below B3.out) hn).mono ?_
      rintro e w4 ⟨g4, rfl, hg4, hR4, hb4⟩
      have L4 := live hb4 w.heap.size L3.1
      have M4 := live hb4 (w.heap.size + 1) M3.1
      have B4 := hide (below_via0 B3.out hb4)
      have HR4 := hide hR4
      clear hR4 hg4
      go_wp2_with fail
      have b45 : Below w4.heap.size w4 (w4.alloc (.cells #[.int .i64 m, .slice (some ⟨g4, 0, none⟩) n n, .int .i64 k] 24)) := below_alloc0 (Below.refl _ _) _
      have HR5 := hide (HR4.out.below b45)
      have B5 := hide (below_via0 B4.out b45)
      have z0 : (w4.alloc (.cells #[.int .i64 m, .slice (some ⟨g4, 0, none⟩) n n, .int .i64 k] 24)).cell? ⟨w4.heap.size, 0, none⟩ = some (.int .i64 m) := by simp
      have z1 : (w4.alloc (.cells #[.int .i64 m, .slice (some ⟨g4, 0, none⟩) n n, .int .i64 k] 24)).cell? ⟨w4.heap.size, 1, none⟩ = some (.slice (some ⟨g4, 0, none⟩) n n) := by simp
      have z2 : (w4.alloc (.cells #[.int .i64 m, .slice (some ⟨g4, 0, none⟩) n n, .int .i64 k] 24)).cell? ⟨w4.heap.size, 2, none⟩ = some (.int .i64 k) := by simp
      have a0 := (b45.cell (p := ⟨w.heap.size, 0, none⟩) L4.1).trans ((hb4.cell (p := ⟨w.heap.size, 0, none⟩) L3.1).trans ((hS'.out.cell (p := ⟨w.heap.size, 0, none⟩) (by show w.heap.size < _; omega)).trans x0))
      have a1 := (b45.cell (p := ⟨w.heap.size, 1, none⟩) L4.1).trans ((hb4.cell (p := ⟨w.heap.size, 1, none⟩) L3.1).trans ((hS'.out.cell (p := ⟨w.heap.size, 1, none⟩) (by show w.heap.size < _; omega)).trans x1))
      have a2 := (b45.cell (p := ⟨w.heap.size, 2, none⟩) L4.1).trans ((hb4.cell (p := ⟨w.heap.size, 2, none⟩) L3.1).trans ((hS'.out.cell (p := ⟨w.heap.size, 2, none⟩) (by show w.heap.size < _; omega)).trans x2))
      have a3 := (b45.cell (p := ⟨w.heap.size + 1, 0, none⟩) M4.1).trans ((hb4.cell (p := ⟨w.heap.size + 1, 0, none⟩) M3.1).trans ((hS'.out.cell (p := ⟨w.heap.size + 1, 0, none⟩) (by show w.heap.size + 1 < _; omega)).trans y0))
      have a4 := (b45.cell (p := ⟨w.heap.size + 1, 1, none⟩) M4.1).trans ((hb4.cell (p := ⟨w.heap.size + 1, 1, none⟩) M3.1).trans ((hS'.out.cell (p := ⟨w.heap.size + 1, 1, none⟩) (by show w.heap.size + 1 < _; omega)).trans y1))
      have a5 := (b45.cell (p := ⟨w.heap.size + 1, 2, none⟩) M4.1).trans ((hb4.cell (p := ⟨w.heap.size + 1, 2, none⟩) M3.1).trans ((hS'.out.cell (p := ⟨w.heap.size + 1, 2, none⟩) (by show w.heap.size + 1 < _; omega)).trans y2))
      have a6 := (b45.cell (p := ⟨w.heap.size + 1, 3, none⟩) M4.1).trans ((hb4.cell (p := ⟨w.heap.size + 1, 3, none⟩) M3.1).trans ((hS'.out.cell (p := ⟨w.heap.size + 1, 3, none⟩) (by show w.heap.size + 1 < _; omega)).trans y3))
      have dz : (w4.alloc (.cells #[.int .i64 m, .slice (some ⟨g4, 0, none⟩) n n, .int .i64 k] 24)).heap.size = w4.heap.size + 1 := by simp
      have hm4 := M4.1
      clear L3 M3 L4 M4 x0 x1 x2 y0 y1 y2 y3 b45 hb4
      generalize w4.alloc (.cells #[.int .i64 m, .slice (some ⟨g4, 0, none⟩) n n, .int .i64 k] 24) = w5 at *
      obtain ⟨qd, hqd0⟩ : ∃ qd, qd = w4.heap.size := ⟨_, rfl⟩
      rw [← hqd0] at z0 z1 z2 dz hm4 ⊢
      have hqd : qd < w5.heap.size := by omega
      clear hqd0 HR4 B4
      have x0 := a0
      have x1 := a1
      have x2 := a2
      have y0 := a3
      have y1 := a4
      have y2 := a5
      have y3 := a6
      clear a0 a1 a2 a3 a4 a5 a6 hsz
      refine wp_flowX (os := [_, _, _, _, _, _, _]) (fun cc W => Below w5.heap.size w5 W) (fun _ _ _ => True) (fun i v _ _ => v = lyV m n k l r a s g u p g4 i) 7 rfl ?_ ?_ ?_ ?_ ?_ ?_ ?_
      · kernel_rfl
      · kernel_rfl
      · kernel_rfl
      · exact (fun i j v vs w1 w2 _ _ h _ => h)
      · exact (Below.refl _ _).drew
      ·
        refine FlowStepsX.stepY 41 7 1 rfl rfl (by kernel_rfl) (by kernel_rfl) (by kernel_rfl) rfl rfl ?_ ?_
        ·
          intro cc act vs W hcc ha hvs hS hd hi K hK
          clear ha
          have u11 : act.tmps[11]? = some (.pointer (some ⟨qd, 0, none⟩)) := (hi.out 11 (by kernel_rfl)).trans rfl
          clear hd hi
          clear hvs
          refine wanted_un rfl ?_
          have e0 := (hS.cell (p := ⟨qd, 0, none⟩) hqd).trans z0
          have e1 := (hS.cell (p := ⟨qd, 1, none⟩) hqd).trans z1
          have e2 := (hS.cell (p := ⟨qd, 2, none⟩) hqd).trans z2
          go_simp
          exact hK.out _ _ rfl hS trivial
        refine FlowStepsX.stepY 41 7 2 rfl rfl (by kernel_rfl) (by kernel_rfl) (by kernel_rfl) rfl rfl ?_ ?_
        ·
          intro cc act vs W hcc ha hvs hS hd hi K hK
          clear ha
          have u5 : act.tmps[5]? = some (.pointer (some ⟨w.heap.size + 1, 0, none⟩)) := (hi.out 5 (by kernel_rfl)).trans rfl
          clear hd hi
          clear hvs
          refine wanted_un rfl ?_
          have e0 := (hS.cell (p := ⟨w.heap.size + 1, 0, none⟩) (by show w.heap.size + 1 < _; omega)).trans y0
          have e1 := (hS.cell (p := ⟨w.heap.size + 1, 1, none⟩) (by show w.heap.size + 1 < _; omega)).trans y1
          have e2 := (hS.cell (p := ⟨w.heap.size + 1, 2, none⟩) (by show w.heap.size + 1 < _; omega)).trans y2
          have e3 := (hS.cell (p := ⟨w.heap.size + 1, 3, none⟩) (by show w.heap.size + 1 < _; omega)).trans y3
          go_simp
          exact hK.out _ _ rfl hS trivial
        refine FlowStepsX.stepY 41 7 3 rfl rfl (by kernel_rfl) (by kernel_rfl) (by kernel_rfl) rfl rfl ?_ ?_
        ·
          intro cc act vs W hcc ha hvs hS hd hi K hK
          clear ha
          have u28 : act.tmps[28]? = some (.agg #[.int .i64 r, .int .i64 a, .int .i64 s, .int .i64 g]) := by obtain ⟨_, u, _, h⟩ := hd.out ⟨1, .data⟩ (some 28) (by simp) rfl rfl; exact u.trans (congrArg some h)
          clear hd hi
          clear hvs
          refine wanted_un rfl ?_
          go_wp2_with fail
          refine (toCred_c _ _ _ _ _).mono ?_
          rintro e w6 ⟨rfl, hb6⟩
          exact hK.out _ w6 rfl (hS.trans (hb6.mono hS.size)) trivial
        refine FlowStepsX.stepY 41 7 4 rfl rfl (by kernel_rfl) (by kernel_rfl) (by kernel_rfl) rfl rfl ?_ ?_
        ·
          intro cc act vs W hcc ha hvs hS hd hi K hK
          clear ha
          have u2 : act.tmps[2]? = some (.int .i64 u) := (hi.out 2 (by kernel_rfl)).trans rfl
          clear hd hi
          clear hvs
          refine wanted_un rfl ?_
          go_simp
          exact hK.out _ _ rfl hS trivial
        refine FlowStepsX.stepY 41 7 5 rfl rfl (by kernel_rfl) (by kernel_rfl) (by kernel_rfl) rfl rfl ?_ ?_
        ·
          intro cc act vs W hcc ha hvs hS hd hi K hK
          clear ha
          have u3 : act.tmps[3]? = some (.int .i64 p) := (hi.out 3 (by kernel_rfl)).trans rfl
          clear hd hi
          clear hvs
          refine wanted_un rfl ?_
          go_simp
          exact hK.out _ _ rfl hS trivial
        refine FlowStepsX.stepY 41 7 6 rfl rfl (by kernel_rfl) (by kernel_rfl) (by kernel_rfl) rfl rfl ?_ ?_
        ·
          intro cc act vs W hcc ha hvs hS hd hi K hK
          clear ha
          have u27 : act.tmps[27]? = some (.agg #[.int .i64 m, .slice (some ⟨g4, 0, none⟩) n n, .int .i64 k]) := by obtain ⟨_, u, _, h⟩ := hd.out ⟨0, .data⟩ (some 27) (by simp) rfl rfl; exact u.trans (congrArg some h)
          have u29 : act.tmps[29]? = some (.agg #[.int .i64 r, .int .i64 a, .int .i64 s, .int .i64 g]) := by obtain ⟨_, u, _, h⟩ := hd.out ⟨2, .data⟩ (some 29) (by simp) rfl rfl; exact u.trans (congrArg some h)
          have u30 : act.tmps[30]? = some (.int .i64 u) := by obtain ⟨_, u, _, h⟩ := hd.out ⟨3, .data⟩ (some 30) (by simp) rfl rfl; exact u.trans (congrArg some h)
          have u31 : act.tmps[31]? = some (.int .i64 p) := by obtain ⟨_, u, _, h⟩ := hd.out ⟨4, .data⟩ (some 31) (by simp) rfl rfl; exact u.trans (congrArg some h)
          clear hd hi
          clear hvs
          refine wanted_un rfl ?_
          go_wp2_with fail
          refine (lrImpl_c m _ n n k l r a s g u p hn (Nat.le_refl _) (by unfold maxLen; omega) _ ⟨hl.out, fun _ => ⟨_, _, rfl, HR5.out.below hS⟩⟩).mono ?_
          rintro e w6 ⟨rfl, hb6⟩
          exact hK.out _ w6 rfl (hS.trans (hb6.mono hS.size)) trivial
        refine FlowStepsX.stepY 41 7 7 rfl rfl (by kernel_rfl) (by kernel_rfl) (by kernel_rfl) rfl rfl ?_ ?_
        ·
          intro cc act vs W hcc ha hvs hS hd hi K hK
          clear ha
          have u32 : act.tmps[32]? = some (.int .i64 (lrF m l k r a s g u p)) := by obtain ⟨_, u, _, h⟩ := hd.out ⟨5, .data⟩ (some 32) (by simp) rfl rfl; exact u.trans (congrArg some h)
          clear hd hi
          clear hvs
          refine wanted_un rfl ?_
          go_simp
          exact hK.out _ _ rfl hS trivial
        exact FlowStepsX.nil
      · intro c' ρ W_1 hc' hS hd
        simp only [putFrom, Act.put, List.setIfInBounds_toArray, List.set_cons_zero, List.set_cons_succ, Nat.reduceAdd]
        have d6 : ρ 6 = .int .i64 (lrF m l k r a s g u p) := hd.out 6 (by decide) (by kernel_rfl)
        generalize ρ 6 = x6 at d6 ⊢
        subst d6
        clear hd
        have hsz := hS.size
        have B6 := hide (B5.out.trans (hS.mono B5.out.size))
        have hR6 := HR5.out.below hS
        have e0 := (hS.cell (p := ⟨w.heap.size, 0, none⟩) (by show w.heap.size < _; omega)).trans x0
        have e1 := (hS.cell (p := ⟨w.heap.size, 1, none⟩) (by show w.heap.size < _; omega)).trans x1
        have e2 := (hS.cell (p := ⟨w.heap.size, 2, none⟩) (by show w.heap.size < _; omega)).trans x2
        have d0 := (hS.cell (p := ⟨qd, 0, none⟩) hqd).trans z0
        have d1 := (hS.cell (p := ⟨qd, 1, none⟩) hqd).trans z1
        have d2 := (hS.cell (p := ⟨qd, 2, none⟩) hqd).trans z2
        have hqW : qd < W_1.heap.size := by omega
        have hxW : w.heap.size < W_1.heap.size := by omega
        have HR6 := hide hR6
        clear hS hR6 x0 x1 x2 y0 y1 y2 y3 z0 z1 z2
        go_wp2_with fail
        go_region_with (first | (go_at_call 18; refine (toList_c _ _ _ _ _ l W_1.drew (HI.out.below B6.out.drew) hn).mono ?_; rintro e w6 ⟨g6, rfl, hg6, hR7, hb6⟩; have L6 := live hb6 w.heap.size hxW; have M6 := live hb6 qd hqW; have B7 := below_via0 B6.out.drew hb6; have HR7 := hide (And.intro hR7 ((show RdGrant W_1.drew g4 0 l from HR6.out).below hb6)); clear hR7 hg6) | (go_at_call 13; refine (eqList_c _ _ _ _ _ _ _ _ _ l hl.out hn _ HR7.out.2 HR7.out.1).mono ?_; rintro e w7 ⟨rfl, hb7⟩; have B8 := below_via0 B7 hb7))
        all_goals
          go_wp2_with fail
          go_ret
          exact ⟨rfl, B8⟩
  · go_enter Try.func9, Try.ntmps9
    go_wp2_with fail
    refine (szList_no _ _ _ _ _ _ (by omega) (by omega) hm (by omega) _).mono ?_
    rintro e w1 ⟨rfl, hb1⟩
    have B1 := below_via0 b0 hb1
    go_wp2
    go_ret
    exact ⟨rfl, B1⟩
end Go.Proofs.Ytpifnfhgaemdmaa
