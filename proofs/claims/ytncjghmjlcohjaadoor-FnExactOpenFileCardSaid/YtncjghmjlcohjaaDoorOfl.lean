/-
  The exact law of OpenFile. The library's own variable holds some number.
-/
import Derived.Test.YtncjghmjlcohjaaDoorProg
import Derived.Test.YtncjghmjlcohjaaDoorOpf
import Derived.Test.YtncjghmjlcohjaaDoorFlowX
import Derived.Test.YtncjghmjlcohjaaDoorFlowS
import Derived.Test.YtncjghmjlcohjaaDoorOpm
namespace Go.Proofs.YtncjghmjlcohjaaDoor
open Go.RowKit
set_option linter.unusedSimpArgs false
set_option linter.unusedVariables false

def oxF (l : List Node) (r a s g x F N E : Int) (path : ByteArray) (A : Option Addr) (n c lo : Nat) (i : Nat) (v : Value) (vs : List Value) (W : World) : Prop :=
  match i with
  | 0 => v = .slice A n c
  | 1 => ∃ b, v = .slice (some ⟨b, 0, none⟩) n n ∧ InNode W (some ⟨b, 0, none⟩) n l
  | 2 => v = .agg #[.int .i64 r, .int .i64 a, .int .i64 s, .int .i64 g]
  | 3 => v = .agg #[.int .i64 r, .int .i64 a, .int .i64 s, .int .i64 g]
  | 4 => v = .string path
  | 5 => v = .int .i64 x
  | 6 => v = .tuple #[.agg #[.int .i64 F, .int .i64 0, .int .i64 N], .int .i64 E]
  | 7 => v = .tuple #[.agg #[.int .i64 F, .int .i64 0, .int .i64 N], .int .i64 E]
  | 8 => v = .agg #[.int .i64 F, .int .i64 0, .int .i64 N]
  | 9 => v = .int .i64 E
  | 10 => ∃ q, v = .pointer (some ⟨q, 0, none⟩) ∧ lo ≤ q ∧ Row W q 3 noCell
  | 11 => ∃ q, v = .pointer (some ⟨q, 0, none⟩) ∧ vs[0]? = some v ∧ lo ≤ q ∧ Row W q 3 (rwl [.int .i64 F, .int .i64 0, .int .i64 N])
  | 12 => v = .int .i64 E
  | _ => True
theorem oxF_keep {l : List Node} {r a s g x F N E : Int} {path : ByteArray} {A : Option Addr} {n c lo i j : Nat} {v : Value} {vs : List Value} {W W' : World} (hij : i ≠ j) (hdd : ¬ (i = 11 ∧ j = 1)) (h : oxF l r a s g x F N E path A n c lo j v vs W) (hc : stC lo [11] i W W') : oxF l r a s g x F N E path A n c lo j v vs W' := by
  unfold oxF at h ⊢
  split <;> simp only at h <;> try exact h
  · obtain ⟨b, h1, h2⟩ := h
    unfold stC at hc
    rw [if_neg (by simpa using hdd)] at hc
    exact ⟨b, h1, h2.below hc⟩
  · obtain ⟨q, h1, h2, h3⟩ := h
    exact ⟨q, h1, h2, stC_row hc h3⟩
  · obtain ⟨q, h1, h2, h3, h4⟩ := h
    exact ⟨q, h1, h2, h3, stC_keep hc (by simpa using hij) h4⟩
theorem eqHandle_c (f a r : Int) (w : World) :
    Calls Tryd.prog 9 #[.agg #[.int .i64 f, .int .i64 a, .int .i64 r], .agg #[.int .i64 f, .int .i64 a, .int .i64 r]] w fun e w' => e = .returned (.bool true) ∧ Below w.heap.size w w' := by
  go_enter Tryd.func9, Tryd.ntmps9
  go_wp2
  go_ret
  exact ⟨rfl, (by repeat' (first | exact Below.refl _ _ | assumption | exact And.left (by assumption) | omega | (simp; done) | (simp; omega) | (simp at *; omega) | (refine Below.setCell ?_ ?_ _) | (refine below_alloc0 ?_ _) | (refine Below.drew ?_) | (refine below_drewN ?_ _) | (refine below_via0 ?_ (by assumption)) | (refine Below.alloc ?_ ?_ _) | (refine below_via ?_ (by assumption) ?_)))⟩
theorem inNode_of {w : World} {b n : Nat} {l : List Node} (hl : l.length = n) (h : RdNode w b 0 l) : InNode w (some ⟨b, 0, none⟩) n l := ⟨hl, fun _ => ⟨b, 0, rfl, h⟩⟩
set_option maxRecDepth 100000 in
set_option maxHeartbeats 4000000 in
theorem fnExactOpenFile_walk {w : World} (hm : MX w) (A : Option Addr) (n c : Nat) (l : List Node) (hA : InsNode w A n c l) (r : Int) (hr : (Lit.int .i64 r).wf = true) (a : Int) (ha : (Lit.int .i64 a).wf = true) (s : Int) (hs : (Lit.int .i64 s).wf = true) (g : Int) (hg : (Lit.int .i64 g).wf = true) (path : ByteArray) (hp : path.size ≤ maxLen) (x : Int) (hx : (Lit.int .i64 x).wf = true) :
    Calls Tryd.prog 3 #[.slice A n c, .agg #[.int .i64 r, .int .i64 a, .int .i64 s, .int .i64 g], .string path, .int .i64 x] w fun e w' => e = .returned (.bool true) ∧ Below w.heap.size w w' := by
  clear hr ha hs hg hx
  unfold maxLen at hp
  obtain ⟨hI, hmm, hc, hZ⟩ := hA
  have HI := hide hI
  have HZ := hide hZ
  have HM := hide hm
  have hlen := hI.1
  clear hI hZ hm
  have BV0 : Below w.heap.size w (w.alloc (.cells #[.int .i64 r, .int .i64 a, .int .i64 s, .int .i64 g] 24)) := below_alloc0 (Below.refl _ _) _
  by_cases hx2 : (1048576 : Int) < path.size
  · go_enter Tryd.func3, Tryd.ntmps3
    go_wp2_with fail
    go_ret
    exact ⟨rfl, BV0⟩
  have hps : path.size ≤ 1048576 := by omega
  go_enter Tryd.func3, Tryd.ntmps3
  go_wp2_with fail
  have hn0 : (w.alloc (.cells #[.int .i64 r, .int .i64 a, .int .i64 s, .int .i64 g] 24)).heap.size = w.heap.size + 1 := by simp
  generalize hW0 : w.alloc (.cells #[.int .i64 r, .int .i64 a, .int .i64 s, .int .i64 g] 24) = V0 at hn0 BV0 ⊢
  have cy0 : V0.cell? ⟨w.heap.size, 0, none⟩ = some (.int .i64 r) := by rw [← hW0]; simp
  have cy1 : V0.cell? ⟨w.heap.size, 1, none⟩ = some (.int .i64 a) := by rw [← hW0]; simp
  have cy2 : V0.cell? ⟨w.heap.size, 2, none⟩ = some (.int .i64 s) := by rw [← hW0]; simp
  have cy3 : V0.cell? ⟨w.heap.size, 3, none⟩ = some (.int .i64 g) := by rw [← hW0]; simp
  clear hW0
  refine (szNodeS_c A n c l hmm HZ.out _ (HI.out.below BV0)).mono ?_
  rintro e W0 ⟨y, rfl, hy, hb1⟩
  have BW0 := below_via0 BV0 hb1
  have hz1 := hb1.size
  have cx0 := (hb1.cell (p := ⟨w.heap.size, 0, none⟩) (by show w.heap.size < _; omega)).trans cy0
  have cx1 := (hb1.cell (p := ⟨w.heap.size, 1, none⟩) (by show w.heap.size < _; omega)).trans cy1
  have cx2 := (hb1.cell (p := ⟨w.heap.size, 2, none⟩) (by show w.heap.size < _; omega)).trans cy2
  have cx3 := (hb1.cell (p := ⟨w.heap.size, 3, none⟩) (by show w.heap.size < _; omega)).trans cy3
  clear hb1 cy0 cy1 cy2 cy3
  by_cases hy0 : y < 0
  · go_wp2_with fail
    go_ret
    exact ⟨rfl, BW0⟩
  obtain ⟨hn, hz⟩ := hy (by omega)
  have HS := hide hz
  clear hy hz
  have HSP0 := fun (g1 : Addr) (W : World) (h1 : InNode W (some g1) n l) => opS_c (some g1) n n l r a s g x path hps W h1 hn HS.out HZ.out
  have HIM0 := fun (g1 : Addr) (W : World) (hM : MX W) (h1 : InNode W (some g1) n l) => opI_c (some g1) n n l r a s g x path hps W hM h1 hn HS.out HZ.out
  generalize opR l n r a s g path x = RR at HSP0 HIM0
  obtain ⟨F, N, E⟩ := RR
  have HSP := hide HSP0
  have HIM := hide HIM0
  clear HSP0 HIM0
  have hW0s : w.heap.size + 1 ≤ W0.heap.size := by omega
  go_wp2_with fail
  refine wp_flowX (os := [_, _, _, _, _, _, _, _, _, _, _, _, _]) (fun cc W => Below (w.heap.size + 1) W0 W) (stC (w.heap.size + 1) [11]) (oxF l r a s g x F N E path A n c (w.heap.size + 1)) 13 rfl ?_ ?_ ?_ ?_ ?_ ?_ ?_
  · kernel_rfl
  · kernel_rfl
  · kernel_rfl
  · exact (fun i j v vs w1 w2 hij hdd h hc => oxF_keep hij (by rintro ⟨rfl, rfl⟩; exact absurd (show dead _ 11 1 = true by kernel_rfl) (by rw [hdd]; decide)) h hc)
  · exact (Below.refl _ _).drew
  ·
    refine FlowStepsX.stepY 58 13 1 rfl rfl (by kernel_rfl) (by kernel_rfl) (by kernel_rfl) rfl rfl ?_ ?_
    ·
      intro cc act vs W hcc ha hvs hS hd hi K hK
      clear ha
      have u0 : act.tmps[0]? = some (.slice A n c) := (hi.out 0 (by kernel_rfl)).trans rfl
      clear hd hi
      clear hvs
      refine wanted_un rfl ?_
      go_simp
      exact hK.out _ _ rfl hS (stC_refl (by decide))
    refine FlowStepsX.stepY 58 13 2 rfl rfl (by kernel_rfl) (by kernel_rfl) (by kernel_rfl) rfl rfl ?_ ?_
    ·
      intro cc act vs W hcc ha hvs hS hd hi K hK
      clear ha
      have u24 : act.tmps[24]? = some (.slice A n c) := by obtain ⟨_, u, _, h⟩ := hd.out ⟨0, .data⟩ (some 24) (by simp) rfl rfl; exact u.trans (congrArg some h)
      clear hd hi
      clear hvs
      refine wanted_un rfl ?_
      have hsz := hS.size
      go_wp2_with fail
      refine (toNodeS_c A n c l _ (HI.out.below (BW0.trans (hS.mono (by omega)))) hn HS.out).mono ?_
      rintro e w6 ⟨b1, rfl, _, hR1, hb6⟩
      exact hK.out _ w6 ⟨b1, rfl, inNode_of hlen hR1⟩ (hS.trans (hb6.mono (by omega))) (stC_below (by decide) hb6)
    refine FlowStepsX.stepY 58 13 3 rfl rfl (by kernel_rfl) (by kernel_rfl) (by kernel_rfl) rfl rfl ?_ ?_
    ·
      intro cc act vs W hcc ha hvs hS hd hi K hK
      clear ha
      have u5 : act.tmps[5]? = some (.pointer (some ⟨w.heap.size, 0, none⟩)) := (hi.out 5 (by kernel_rfl)).trans rfl
      clear hd hi
      clear hvs
      refine wanted_un rfl ?_
      have e0 := (hS.cell (p := ⟨w.heap.size, 0, none⟩) (by show w.heap.size < _; omega)).trans cx0
      have e1 := (hS.cell (p := ⟨w.heap.size, 1, none⟩) (by show w.heap.size < _; omega)).trans cx1
      have e2 := (hS.cell (p := ⟨w.heap.size, 2, none⟩) (by show w.heap.size < _; omega)).trans cx2
      have e3 := (hS.cell (p := ⟨w.heap.size, 3, none⟩) (by show w.heap.size < _; omega)).trans cx3
      go_simp
      exact hK.out _ _ rfl hS (stC_refl (by decide))
    refine FlowStepsX.stepY 58 13 4 rfl rfl (by kernel_rfl) (by kernel_rfl) (by kernel_rfl) rfl rfl ?_ ?_
    ·
      intro cc act vs W hcc ha hvs hS hd hi K hK
      clear ha
      have u26 : act.tmps[26]? = some (.agg #[.int .i64 r, .int .i64 a, .int .i64 s, .int .i64 g]) := by obtain ⟨_, u, _, h⟩ := hd.out ⟨2, .data⟩ (some 26) (by simp) rfl rfl; exact u.trans (congrArg some h)
      clear hd hi
      clear hvs
      refine wanted_un rfl ?_
      have hsz := hS.size
      go_wp2_with fail
      refine (toCred_c _ _ _ _ _).mono ?_
      rintro e w6 ⟨rfl, hb6⟩
      exact hK.out _ w6 rfl (hS.trans (hb6.mono (by omega))) (stC_below (by decide) hb6)
    refine FlowStepsX.stepY 58 13 5 rfl rfl (by kernel_rfl) (by kernel_rfl) (by kernel_rfl) rfl rfl ?_ ?_
    ·
      intro cc act vs W hcc ha hvs hS hd hi K hK
      clear ha
      have u2 : act.tmps[2]? = some (.string path) := (hi.out 2 (by kernel_rfl)).trans rfl
      clear hd hi
      clear hvs
      refine wanted_un rfl ?_
      go_simp
      exact hK.out _ _ rfl hS (stC_refl (by decide))
    refine FlowStepsX.stepY 58 13 6 rfl rfl (by kernel_rfl) (by kernel_rfl) (by kernel_rfl) rfl rfl ?_ ?_
    ·
      intro cc act vs W hcc ha hvs hS hd hi K hK
      clear ha
      have u3 : act.tmps[3]? = some (.int .i64 x) := (hi.out 3 (by kernel_rfl)).trans rfl
      clear hd hi
      clear hvs
      refine wanted_un rfl ?_
      go_simp
      exact hK.out _ _ rfl hS (stC_refl (by decide))
    refine FlowStepsX.stepY 58 13 7 rfl rfl (by kernel_rfl) (by kernel_rfl) (by kernel_rfl) rfl rfl ?_ ?_
    ·
      intro cc act vs W hcc ha hvs hS hd hi K hK
      clear ha
      obtain ⟨_, u25, _, ⟨b1, rfl, hR1⟩⟩ := hd.out ⟨1, .data⟩ (some 25) (by simp) rfl rfl
      have u27 : act.tmps[27]? = some (.agg #[.int .i64 r, .int .i64 a, .int .i64 s, .int .i64 g]) := by obtain ⟨_, u, _, h⟩ := hd.out ⟨3, .data⟩ (some 27) (by simp) rfl rfl; exact u.trans (congrArg some h)
      have u28 : act.tmps[28]? = some (.string path) := by obtain ⟨_, u, _, h⟩ := hd.out ⟨4, .data⟩ (some 28) (by simp) rfl rfl; exact u.trans (congrArg some h)
      have u29 : act.tmps[29]? = some (.int .i64 x) := by obtain ⟨_, u, _, h⟩ := hd.out ⟨5, .data⟩ (some 29) (by simp) rfl rfl; exact u.trans (congrArg some h)
      clear hd hi
      clear hvs
      refine wanted_un rfl ?_
      have hsz := hS.size
      go_wp2_with fail
      refine (HSP.out _ _ hR1).mono ?_
      rintro e w6 ⟨rfl, hb6⟩
      exact hK.out _ w6 rfl (hS.trans (hb6.mono (by omega))) (stC_below (by decide) hb6)
    refine FlowStepsX.stepY 58 13 8 rfl rfl (by kernel_rfl) (by kernel_rfl) (by kernel_rfl) rfl rfl ?_ ?_
    ·
      intro cc act vs W hcc ha hvs hS hd hi K hK
      clear ha
      have u30 : act.tmps[30]? = some (.tuple #[.agg #[.int .i64 F, .int .i64 0, .int .i64 N], .int .i64 E]) := by obtain ⟨_, u, _, h⟩ := hd.out ⟨6, .data⟩ (some 30) (by simp) rfl rfl; exact u.trans (congrArg some h)
      clear hd hi
      clear hvs
      refine wanted_un rfl ?_
      go_simp
      exact hK.out _ _ rfl hS (stC_refl (by decide))
    refine FlowStepsX.stepY 58 13 9 rfl rfl (by kernel_rfl) (by kernel_rfl) (by kernel_rfl) rfl rfl ?_ ?_
    ·
      intro cc act vs W hcc ha hvs hS hd hi K hK
      clear ha
      have u23 : act.tmps[23]? = some (.tuple #[.agg #[.int .i64 F, .int .i64 0, .int .i64 N], .int .i64 E]) := by obtain ⟨_, u, _, h⟩ := hd.out ⟨7, .data⟩ (some 23) (by simp) rfl rfl; exact u.trans (congrArg some h)
      clear hd hi
      clear hvs
      refine wanted_un rfl ?_
      go_simp
      exact hK.out _ _ rfl hS (stC_refl (by decide))
    refine FlowStepsX.stepY 58 13 10 rfl rfl (by kernel_rfl) (by kernel_rfl) (by kernel_rfl) rfl rfl ?_ ?_
    ·
      intro cc act vs W hcc ha hvs hS hd hi K hK
      clear ha
      have u23 : act.tmps[23]? = some (.tuple #[.agg #[.int .i64 F, .int .i64 0, .int .i64 N], .int .i64 E]) := by obtain ⟨_, u, _, h⟩ := hd.out ⟨7, .data⟩ (some 23) (by simp) rfl rfl; exact u.trans (congrArg some h)
      clear hd hi
      clear hvs
      refine wanted_un rfl ?_
      go_simp
      exact hK.out _ _ rfl hS (stC_refl (by decide))
    refine FlowStepsX.stepY 58 13 11 rfl rfl (by kernel_rfl) (by kernel_rfl) (by kernel_rfl) rfl rfl ?_ ?_
    ·
      intro cc act vs W hcc ha hvs hS hd hi K hK
      clear ha
      clear hd hi
      clear hvs
      refine wanted_un rfl ?_
      go_simp
      have hsz := hS.size
      exact hK.out _ _ ⟨W.heap.size, rfl, by omega, Row.madeN W _ _ 3 rfl⟩ (hS.alloc (by omega) _) (stC_below (by decide) ((Below.refl _ _).alloc (Nat.le_refl _) _))
    refine FlowStepsX.stepY 58 13 12 rfl rfl (by kernel_rfl) (by kernel_rfl) (by kernel_rfl) rfl rfl ?_ ?_
    ·
      intro cc act vs W hcc ha hvs hS hd hi K hK
      clear ha
      obtain ⟨_, u10, _, ⟨q, rfl, hlo, hr⟩⟩ := hd.out ⟨10, .data⟩ (some 10) (by simp) rfl rfl
      have u31 : act.tmps[31]? = some (.agg #[.int .i64 F, .int .i64 0, .int .i64 N]) := by obtain ⟨_, u, _, h⟩ := hd.out ⟨8, .data⟩ (some 31) (by simp) rfl rfl; exact u.trans (congrArg some h)
      clear hd hi
      refine wanted_un rfl ?_
      obtain ⟨y0, g0⟩ := hr.some_ex (j := 0) (by omega)
      have z0 := hr.frozen 0
      obtain ⟨y1, g1⟩ := hr.some_ex (j := 1) (by omega)
      have z1 := hr.frozen 1
      obtain ⟨y2, g2⟩ := hr.some_ex (j := 2) (by omega)
      have z2 := hr.frozen 2
      have hl0 := (hvs.out 0 10 rfl).trans u10
      go_simp
      exact hK.out (.pointer (some ⟨q, 0, none⟩)) _ ⟨q, rfl, hl0, hlo, rwl_set3 hr⟩ (below_set3 hS hlo) (stC_set3 hlo (by decide))
    refine FlowStepsX.stepY 58 13 13 rfl rfl (by kernel_rfl) (by kernel_rfl) (by kernel_rfl) rfl rfl ?_ ?_
    ·
      intro cc act vs W hcc ha hvs hS hd hi K hK
      clear ha
      have u32 : act.tmps[32]? = some (.int .i64 E) := by obtain ⟨_, u, _, h⟩ := hd.out ⟨9, .data⟩ (some 32) (by simp) rfl rfl; exact u.trans (congrArg some h)
      clear hd hi
      clear hvs
      refine wanted_un rfl ?_
      go_simp
      exact hK.out _ _ rfl hS (stC_refl (by decide))
    exact FlowStepsX.nil
  · intro c' ρ W hc' hS hd
    simp only [putFrom, Act.put, List.setIfInBounds_toArray, List.set_cons_zero, List.set_cons_succ, Nat.reduceAdd]
    obtain ⟨q9, h9, hl9, hlo, hrow⟩ := hd.out 11 (by decide) (by kernel_rfl)
    have e9 : ρ 10 = .pointer (some ⟨q9, 0, none⟩) := by
      rw [h9] at hl9; exact Option.some.inj hl9
    have d12 : ρ 12 = .int .i64 E := hd.out 12 (by decide) (by kernel_rfl)
    clear hd hl9 h9
    generalize ρ 10 = x10 at e9 ⊢
    subst e9
    generalize ρ 12 = x12 at d12 ⊢
    subst d12
    have BW : Below w.heap.size w W := BW0.trans (hS.mono (by omega))
    have hsW := hS.size
    have L0 := live0 hS w.heap.size (by omega)
    have y0 := (L0.1 0).trans cx0
    have y1 := (L0.1 1).trans cx1
    have y2 := (L0.1 2).trans cx2
    have y3 := (L0.1 3).trans cx3
    clear L0 cx0 cx1 cx2 cx3
    have hq := hrow.lt
    go_wp2_with fail
    refine (toNodeS_c A n c l _ (HI.out.below BW) hn HS.out).mono ?_
    rintro e w3 ⟨b3, rfl, _, hR3, hb3⟩
    have hB3 := below_via0 BW hb3
    have L3 := live hb3 w.heap.size (by omega)
    have hr3 := hrow.below hb3 hq
    have HR3 := hide (inNode_of hlen hR3)
    clear hR3
    go_wp2_with fail
    refine (toCred_c _ _ _ _ _).mono ?_
    rintro e w4 ⟨rfl, hb4⟩
    have hB4 : Below w.heap.size w w4 := below_via0 hB3 hb4
    have hr4 := hr3.below hb4 hr3.lt
    go_wp2_with fail
    refine (HIM.out _ _ (HM.out.below hB4) (HR3.out.below hb4)).mono ?_
    rintro e w5 ⟨rfl, hb5⟩
    have hB5 : Below w.heap.size w w5 := below_via0 hB4 hb5
    have hr5 := hr4.below hb5 hr4.lt
    have z0 := hr5.cell (j := 0) rfl
    have z1 := hr5.cell (j := 1) rfl
    have z2 := hr5.cell (j := 2) rfl
    have hq5 := hr5.lt
    have hq9 : w.heap.size + 1 ≤ q9 := hlo
    go_wp2_with fail
    refine (eqHandle_c _ _ _ _).mono ?_
    rintro e w6 ⟨rfl, hb6⟩
    have hb56 : Below w5.heap.size w5 w6 := below_via0 (below_alloc0 (Below.refl _ _) _) hb6
    have hB6 : Below w.heap.size w w6 := below_via0 hB5 hb56
    have HR6 := hide (((HR3.out.below hb4).below hb5).below hb56)
    go_wp2_with fail
    refine (toNodeS_c A n c l _ (HI.out.below hB6) hn HS.out).mono ?_
    rintro e w7 ⟨b7, rfl, _, hR7, hb7⟩
    have hB7 := below_via0 hB6 hb7
    go_wp2_with fail
    refine (eqNodeS_c _ _ n n n l hn HS.out _ (HR6.out.below hb7) (inNode_of hlen hR7)).mono ?_
    rintro e w8 ⟨rfl, hb8⟩
    have hB8 := below_via0 hB7 hb8
    go_wp2
    go_ret
    exact ⟨rfl, hB8⟩
end Go.Proofs.YtncjghmjlcohjaaDoor
