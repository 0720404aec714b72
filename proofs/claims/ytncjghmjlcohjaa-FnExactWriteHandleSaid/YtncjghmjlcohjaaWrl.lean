/-
  The exact law of WriteHandle. No condition.
-/
import Derived.Test.YtncjghmjlcohjaaProg
import Derived.Test.YtncjghmjlcohjaaWrm
import Derived.Test.YtncjghmjlcohjaaWrs
import Derived.Test.YtncjghmjlcohjaaUsl
namespace Go.Proofs.Ytncjghmjlcohjaa
open Go.RowKit
set_option linter.unusedSimpArgs false
set_option linter.unusedVariables false

theorem WrV.mono {w : World} {B B' : Nat} {V : Value} {L : List Node} (h : WrV w B V L) (hB : B' ≤ B) : WrV w B' V L := h.imp id fun h => h.mono hB
theorem WrV.inA {w : World} {B m c : Nat} {A : Option Addr} {L : List Node} (h : WrV w B (.slice A m c) L) (hm : m = L.length) : InNode w A m L := by
  obtain ⟨A', c', hq, hi⟩ := h.inN
  simp only [Value.slice.injEq] at hq
  obtain ⟨rfl, rfl, rfl⟩ := hq
  exact hi
def wxF (l : List Node) (f a r N E : Int) (x : ByteArray) (L : List Node) (A : Option Addr) (n c lo : Nat) (i : Nat) (v : Value) (vs : List Value) (W : World) : Prop :=
  match i with
  | 0 => v = .slice A n c
  | 1 => ∃ b, v = .slice (some ⟨b, 0, none⟩) n n ∧ InNode W (some ⟨b, 0, none⟩) n l ∧ InJ W (some ⟨b, 0, none⟩) n l
  | 2 => v = .agg #[.int .i64 f, .int .i64 a, .int .i64 r]
  | 3 => v = .agg #[.int .i64 f, .int .i64 a, .int .i64 r]
  | 4 => v = .string x
  | 5 => ∃ V, v = .tuple #[V, .agg #[.int .i64 f, .int .i64 N, .int .i64 r], .int .i64 E] ∧ WrV W lo V L
  | 6 => ∃ V, v = .tuple #[V, .agg #[.int .i64 f, .int .i64 N, .int .i64 r], .int .i64 E] ∧ WrV W lo V L
  | 7 => WrV W lo v L
  | 8 => v = .agg #[.int .i64 f, .int .i64 N, .int .i64 r]
  | 9 => v = .int .i64 E
  | 10 => ∃ q, v = .pointer (some ⟨q, 0, none⟩) ∧ lo ≤ q ∧ Row W q 3 noCell ∧ TyH W q
  | 11 => WrV W lo v L
  | 12 => ∃ q, v = .pointer (some ⟨q, 0, none⟩) ∧ vs[0]? = some v ∧ lo ≤ q ∧ Row W q 3 (rwl [.int .i64 f, .int .i64 N, .int .i64 r])
  | 13 => v = .int .i64 E
  | _ => True
theorem wxF_keep {l : List Node} {f a r N E : Int} {x : ByteArray} {L : List Node} {A : Option Addr} {n c lo i j : Nat} {v : Value} {vs : List Value} {W W' : World} (hij : i ≠ j) (hd1 : ¬ (i = 12 ∧ j = 1)) (hd10 : ¬ (i = 12 ∧ j = 10)) (h : wxF l f a r N E x L A n c lo j v vs W) (hc : wxC lo i W W') : wxF l f a r N E x L A n c lo j v vs W' := by
  have hw : ∀ V, WrV W lo V L → WrV W' lo V L := fun V hV => by
    unfold wxC at hc
    split at hc
    · exact hV.keepH (hc.1.mono (Nat.zero_le _)) hc.2.2
    · exact hV.below hc
  unfold wxF at h ⊢
  split <;> simp only at h <;> try exact h
  · obtain ⟨b, h1, h2, h3⟩ := h
    unfold wxC at hc
    rw [if_neg (by simpa using hd1)] at hc
    exact ⟨b, h1, h2.below hc, h3.below hc⟩
  · obtain ⟨V, h1, h2⟩ := h
    exact ⟨V, h1, hw _ h2⟩
  · obtain ⟨V, h1, h2⟩ := h
    exact ⟨V, h1, hw _ h2⟩
  · exact hw _ h
  · obtain ⟨q, h1, h2, h3, h4⟩ := h
    unfold wxC at hc
    rw [if_neg (by simpa using hd10)] at hc
    exact ⟨q, h1, h2, h3.below hc h3.lt, h4.below hc⟩
  · exact hw _ h
  · obtain ⟨q, h1, h2, h3, h4⟩ := h
    unfold wxC at hc
    rw [if_neg (by simpa using hij)] at hc
    exact ⟨q, h1, h2, h3, h4.below hc h4.lt⟩
set_option maxRecDepth 100000 in
set_option maxHeartbeats 8000000 in
theorem fnExactWriteHandle_walk {w : World} (A : Option Addr) (n c : Nat) (l : List Node) (hA : InsNode w A n c l) (f : Int) (hf : (Lit.int .i64 f).wf = true) (a : Int) (ha : (Lit.int .i64 a).wf = true) (r : Int) (hr : (Lit.int .i64 r).wf = true) (x : ByteArray) (hx : x.size ≤ maxLen) :
    Calls Try.prog 7 #[.slice A n c, .agg #[.int .i64 f, .int .i64 a, .int .i64 r], .string x] w fun e w' => e = .returned (.bool true) ∧ Below w.heap.size w w' := by
  clear hf ha hr
  unfold maxLen at hx
  obtain ⟨hI, hm, hc, hZ⟩ := hA
  have HI := hide hI
  have HZ := hide hZ
  have hlen := hI.1
  clear hI hZ
  have BV0 : Below w.heap.size w (w.alloc (.cells #[.int .i64 f, .int .i64 a, .int .i64 r] 31)) := below_alloc0 (Below.refl _ _) _
  by_cases hx2 : (1048576 : Int) < x.size
  · go_enter Try.func7, Try.ntmps7
    go_wp2_with fail
    go_ret
    exact ⟨rfl, BV0⟩
  have hxs : x.size ≤ 1048576 := by omega
  go_enter Try.func7, Try.ntmps7
  go_wp2_with fail
  have hn0 : (w.alloc (.cells #[.int .i64 f, .int .i64 a, .int .i64 r] 31)).heap.size = w.heap.size + 1 := by simp
  generalize hW0 : w.alloc (.cells #[.int .i64 f, .int .i64 a, .int .i64 r] 31) = V0 at hn0 BV0 ⊢
  have cy0 : V0.cell? ⟨w.heap.size, 0, none⟩ = some (.int .i64 f) := by rw [← hW0]; simp
  have cy1 : V0.cell? ⟨w.heap.size, 1, none⟩ = some (.int .i64 a) := by rw [← hW0]; simp
  have cy2 : V0.cell? ⟨w.heap.size, 2, none⟩ = some (.int .i64 r) := by rw [← hW0]; simp
  clear hW0
  refine (szNodeS_c A n c l hm HZ.out _ (HI.out.below BV0)).mono ?_
  rintro e W0 ⟨y, rfl, hy, hb1⟩
  have BW0 := below_via0 BV0 hb1
  have hz1 := hb1.size
  have cx0 := (hb1.cell (p := ⟨w.heap.size, 0, none⟩) (by show w.heap.size < _; omega)).trans cy0
  have cx1 := (hb1.cell (p := ⟨w.heap.size, 1, none⟩) (by show w.heap.size < _; omega)).trans cy1
  have cx2 := (hb1.cell (p := ⟨w.heap.size, 2, none⟩) (by show w.heap.size < _; omega)).trans cy2
  clear hb1 cy0 cy1 cy2
  by_cases hy0 : y < 0
  · go_wp2_with fail
    go_ret
    exact ⟨rfl, BW0⟩
  obtain ⟨hn, hz⟩ := hy (by omega)
  have HS := hide hz
  have hok := wrR_ok f a r x hz hlen
  clear hy hz
  have HSP0 := fun (g : Addr) (W : World) (h1 : InNode W (some g) n l) (h2 : InJ W (some g) n l) => wrSpec_c (some g) n n l f a r x hxs W h1 h2 hn HS.out HZ.out
  have HIM0 := fun (g : Addr) (W : World) (h1 : InNode W (some g) n l) (h2 : InJ W (some g) n l) => wrImpl_c (some g) n n l f a r x hxs W h1 h2 hn HS.out HZ.out
  generalize wrR l n f a r x = RR at hok HSP0 HIM0
  obtain ⟨L, N, E⟩ := RR
  have HLS := hide hok.1
  have hLn : L.length ≤ 1048576 := Nat.le_trans hok.2 hn
  have HSP := hide HSP0
  have HIM := hide HIM0
  clear hok HSP0 HIM0
  have hW0s : w.heap.size + 1 ≤ W0.heap.size := by omega
  go_wp2_with fail
  refine wp_flowX (os := [_, _, _, _, _, _, _, _, _, _, _, _, _, _]) (fun cc W => Below (w.heap.size + 1) W0 W) (wxC (w.heap.size + 1)) (wxF l f a r N E x L A n c (w.heap.size + 1)) 14 rfl ?_ ?_ ?_ ?_ ?_ ?_ ?_
  · kernel_rfl
  · kernel_rfl
  · kernel_rfl
  · exact (fun i j v vs w1 w2 hij hdd h hc => wxF_keep hij (by rintro ⟨rfl, rfl⟩; exact absurd (show dead _ 12 1 = true by kernel_rfl) (by rw [hdd]; decide)) (by rintro ⟨rfl, rfl⟩; exact absurd (show dead _ 12 10 = true by kernel_rfl) (by rw [hdd]; decide)) h hc)
  · exact (Below.refl _ _).drew
  ·
    refine FlowStepsX.stepY 136 14 1 rfl rfl (by kernel_rfl) (by kernel_rfl) (by kernel_rfl) rfl rfl ?_ ?_
    ·
      intro cc act vs W hcc ha hvs hS hd hi K hK
      clear ha
      have u0 : act.tmps[0]? = some (.slice A n c) := (hi.out 0 (by kernel_rfl)).trans rfl
      clear hd hi
      clear hvs
      refine wanted_un rfl ?_
      go_simp
      exact hK.out _ _ rfl hS (wxC_of (by decide) (Below.refl _ _))
    refine FlowStepsX.stepY 136 14 2 rfl rfl (by kernel_rfl) (by kernel_rfl) (by kernel_rfl) rfl rfl ?_ ?_
    ·
      intro cc act vs W hcc ha hvs hS hd hi K hK
      clear ha
      have u30 : act.tmps[30]? = some (.slice A n c) := by obtain ⟨_, u, _, h⟩ := hd.out ⟨0, .data⟩ (some 30) (by simp) rfl rfl; exact u.trans (congrArg some h)
      clear hd hi
      clear hvs
      refine wanted_un rfl ?_
      have hsz := hS.size
      go_wp2_with fail
      refine (toNodeSJ_c A n c l _ (HI.out.below (BW0.trans (hS.mono (by omega)))) hn HS.out).mono ?_
      rintro e w6 ⟨b1, rfl, hcp, hj, hb6⟩
      obtain ⟨g1, d1, hq1, _, hR1⟩ := hcp.inN
      simp only [Value.slice.injEq, Option.some.injEq, Addr.mk.injEq, and_true, true_and] at hq1
      obtain ⟨rfl, rfl⟩ := hq1
      exact hK.out _ w6 ⟨b1, rfl, hR1, hj⟩ (hS.trans (hb6.mono (by omega))) (wxC_of (by decide) hb6)
    refine FlowStepsX.stepY 136 14 3 rfl rfl (by kernel_rfl) (by kernel_rfl) (by kernel_rfl) rfl rfl ?_ ?_
    ·
      intro cc act vs W hcc ha hvs hS hd hi K hK
      clear ha
      have u4 : act.tmps[4]? = some (.pointer (some ⟨w.heap.size, 0, none⟩)) := (hi.out 4 (by kernel_rfl)).trans rfl
      clear hd hi
      clear hvs
      refine wanted_un rfl ?_
      have e0 := (hS.cell (p := ⟨w.heap.size, 0, none⟩) (by show w.heap.size < _; omega)).trans cx0
      have e1 := (hS.cell (p := ⟨w.heap.size, 1, none⟩) (by show w.heap.size < _; omega)).trans cx1
      have e2 := (hS.cell (p := ⟨w.heap.size, 2, none⟩) (by show w.heap.size < _; omega)).trans cx2
      go_simp
      exact hK.out _ _ rfl hS (wxC_of (by decide) (Below.refl _ _))
    refine FlowStepsX.stepY 136 14 4 rfl rfl (by kernel_rfl) (by kernel_rfl) (by kernel_rfl) rfl rfl ?_ ?_
    ·
      intro cc act vs W hcc ha hvs hS hd hi K hK
      clear ha
      have u32 : act.tmps[32]? = some (.agg #[.int .i64 f, .int .i64 a, .int .i64 r]) := by obtain ⟨_, u, _, h⟩ := hd.out ⟨2, .data⟩ (some 32) (by simp) rfl rfl; exact u.trans (congrArg some h)
      clear hd hi
      clear hvs
      refine wanted_un rfl ?_
      have hsz := hS.size
      go_wp2_with fail
      refine (toHandle_c _ _ _ _).mono ?_
      rintro e w6 ⟨rfl, hb6⟩
      exact hK.out _ w6 rfl (hS.trans (hb6.mono (by omega))) (wxC_of (by decide) hb6)
    refine FlowStepsX.stepY 136 14 5 rfl rfl (by kernel_rfl) (by kernel_rfl) (by kernel_rfl) rfl rfl ?_ ?_
    ·
      intro cc act vs W hcc ha hvs hS hd hi K hK
      clear ha
      have u2 : act.tmps[2]? = some (.string x) := (hi.out 2 (by kernel_rfl)).trans rfl
      clear hd hi
      clear hvs
      refine wanted_un rfl ?_
      go_simp
      exact hK.out _ _ rfl hS (wxC_of (by decide) (Below.refl _ _))
    refine FlowStepsX.stepY 136 14 6 rfl rfl (by kernel_rfl) (by kernel_rfl) (by kernel_rfl) rfl rfl ?_ ?_
    ·
      intro cc act vs W hcc ha hvs hS hd hi K hK
      clear ha
      obtain ⟨_, u31, _, ⟨b1, rfl, hR1, hJ1⟩⟩ := hd.out ⟨1, .data⟩ (some 31) (by simp) rfl rfl
      have u33 : act.tmps[33]? = some (.agg #[.int .i64 f, .int .i64 a, .int .i64 r]) := by obtain ⟨_, u, _, h⟩ := hd.out ⟨3, .data⟩ (some 33) (by simp) rfl rfl; exact u.trans (congrArg some h)
      have u34 : act.tmps[34]? = some (.string x) := by obtain ⟨_, u, _, h⟩ := hd.out ⟨4, .data⟩ (some 34) (by simp) rfl rfl; exact u.trans (congrArg some h)
      clear hd hi
      clear hvs
      refine wanted_un rfl ?_
      have hsz := hS.size
      go_wp2_with fail
      refine (HSP.out _ _ hR1 hJ1).mono ?_
      rintro e w6 ⟨V, rfl, hV, hb6⟩
      exact hK.out _ w6 ⟨V, rfl, hV.mono (by omega)⟩ (hS.trans (hb6.mono (by omega))) (wxC_of (by decide) hb6)
    refine FlowStepsX.stepY 136 14 7 rfl rfl (by kernel_rfl) (by kernel_rfl) (by kernel_rfl) rfl rfl ?_ ?_
    ·
      intro cc act vs W hcc ha hvs hS hd hi K hK
      clear ha
      obtain ⟨_, u35, _, ⟨V, rfl, hV⟩⟩ := hd.out ⟨5, .data⟩ (some 35) (by simp) rfl rfl
      clear hd hi
      clear hvs
      refine wanted_un rfl ?_
      go_simp
      exact hK.out _ _ ⟨V, rfl, hV⟩ hS (wxC_of (by decide) (Below.refl _ _))
    refine FlowStepsX.stepY 136 14 8 rfl rfl (by kernel_rfl) (by kernel_rfl) (by kernel_rfl) rfl rfl ?_ ?_
    ·
      intro cc act vs W hcc ha hvs hS hd hi K hK
      clear ha
      obtain ⟨_, u29, _, ⟨V, rfl, hV⟩⟩ := hd.out ⟨6, .data⟩ (some 29) (by simp) rfl rfl
      clear hd hi
      clear hvs
      refine wanted_un rfl ?_
      go_simp
      exact hK.out _ _ hV hS (wxC_of (by decide) (Below.refl _ _))
    refine FlowStepsX.stepY 136 14 9 rfl rfl (by kernel_rfl) (by kernel_rfl) (by kernel_rfl) rfl rfl ?_ ?_
    ·
      intro cc act vs W hcc ha hvs hS hd hi K hK
      clear ha
      obtain ⟨_, u29, _, ⟨V, rfl, hV⟩⟩ := hd.out ⟨6, .data⟩ (some 29) (by simp) rfl rfl
      clear hd hi
      clear hvs
      refine wanted_un rfl ?_
      go_simp
      exact hK.out _ _ rfl hS (wxC_of (by decide) (Below.refl _ _))
    refine FlowStepsX.stepY 136 14 10 rfl rfl (by kernel_rfl) (by kernel_rfl) (by kernel_rfl) rfl rfl ?_ ?_
    ·
      intro cc act vs W hcc ha hvs hS hd hi K hK
      clear ha
      obtain ⟨_, u29, _, ⟨V, rfl, hV⟩⟩ := hd.out ⟨6, .data⟩ (some 29) (by simp) rfl rfl
      clear hd hi
      clear hvs
      refine wanted_un rfl ?_
      go_simp
      exact hK.out _ _ rfl hS (wxC_of (by decide) (Below.refl _ _))
    refine FlowStepsX.stepY 136 14 11 rfl rfl (by kernel_rfl) (by kernel_rfl) (by kernel_rfl) rfl rfl ?_ ?_
    ·
      intro cc act vs W hcc ha hvs hS hd hi K hK
      clear ha
      clear hd hi
      clear hvs
      refine wanted_un rfl ?_
      go_simp
      have hsz := hS.size
      exact hK.out _ _ ⟨W.heap.size, rfl, by omega, Row.madeN W _ _ 3 rfl, _, Below.heap_alloc_self W _⟩ (hS.alloc (by omega) _) (wxC_of (by decide) ((Below.refl _ _).alloc (Nat.le_refl _) _))
    refine FlowStepsX.stepY 136 14 12 rfl rfl (by kernel_rfl) (by kernel_rfl) (by kernel_rfl) rfl rfl ?_ ?_
    ·
      intro cc act vs W hcc ha hvs hS hd hi K hK
      clear ha
      obtain ⟨_, u36, _, hV⟩ := hd.out ⟨7, .data⟩ (some 36) (by simp) rfl rfl
      clear hd hi
      clear hvs
      refine wanted_un rfl ?_
      go_simp
      exact hK.out _ _ hV hS (wxC_of (by decide) (Below.refl _ _))
    refine FlowStepsX.stepY 136 14 13 rfl rfl (by kernel_rfl) (by kernel_rfl) (by kernel_rfl) rfl rfl ?_ ?_
    ·
      intro cc act vs W hcc ha hvs hS hd hi K hK
      clear ha
      obtain ⟨_, u9, _, ⟨q, rfl, hlo, hr, hty⟩⟩ := hd.out ⟨10, .data⟩ (some 9) (by simp) rfl rfl
      have u37 : act.tmps[37]? = some (.agg #[.int .i64 f, .int .i64 N, .int .i64 r]) := by obtain ⟨_, u, _, h⟩ := hd.out ⟨8, .data⟩ (some 37) (by simp) rfl rfl; exact u.trans (congrArg some h)
      clear hd hi
      refine wanted_un rfl ?_
      obtain ⟨y0, g0⟩ := hr.some_ex (j := 0) (by omega)
      have z0 := hr.frozen 0
      obtain ⟨y1, g1⟩ := hr.some_ex (j := 1) (by omega)
      have z1 := hr.frozen 1
      obtain ⟨y2, g2⟩ := hr.some_ex (j := 2) (by omega)
      have z2 := hr.frozen 2
      have hl0 := (hvs.out 0 9 rfl).trans u9
      go_simp
      exact hK.out (.pointer (some ⟨q, 0, none⟩)) _ ⟨q, rfl, hl0, hlo, rwl_set3 hr⟩ (below_set3 hS hlo) (wxC_set hlo hty)
    refine FlowStepsX.stepY 136 14 14 rfl rfl (by kernel_rfl) (by kernel_rfl) (by kernel_rfl) rfl rfl ?_ ?_
    ·
      intro cc act vs W hcc ha hvs hS hd hi K hK
      clear ha
      have u38 : act.tmps[38]? = some (.int .i64 E) := by obtain ⟨_, u, _, h⟩ := hd.out ⟨9, .data⟩ (some 38) (by simp) rfl rfl; exact u.trans (congrArg some h)
      clear hd hi
      clear hvs
      refine wanted_un rfl ?_
      go_simp
      exact hK.out _ _ rfl hS (wxC_of (by decide) (Below.refl _ _))
    exact FlowStepsX.nil
  · intro c' ρ W hc' hS hd
    simp only [putFrom, Act.put, List.setIfInBounds_toArray, List.set_cons_zero, List.set_cons_succ, Nat.reduceAdd]
    obtain ⟨q9, h9, hl9, hlo, hrow⟩ := hd.out 12 (by decide) (by kernel_rfl)
    have e9 : ρ 10 = .pointer (some ⟨q9, 0, none⟩) := by
      rw [h9] at hl9; exact Option.some.inj hl9
    have d11 : WrV W (w.heap.size + 1) (ρ 11) L := hd.out 11 (by decide) (by kernel_rfl)
    have d13 : ρ 13 = .int .i64 E := hd.out 13 (by decide) (by kernel_rfl)
    clear hd hl9 h9
    generalize ρ 10 = x10 at e9 ⊢
    subst e9
    generalize ρ 11 = x11 at d11 ⊢
    generalize ρ 13 = x13 at d13 ⊢
    subst d13
    have BW : Below w.heap.size w W := BW0.trans (hS.mono (by omega))
    have hsW := hS.size
    have L0 := live0 hS w.heap.size (by omega)
    have y0 := (L0.1 0).trans cx0
    have y1 := (L0.1 1).trans cx1
    have y2 := (L0.1 2).trans cx2
    clear L0 cx0 cx1 cx2
    obtain ⟨A0, k0, rfl, hw0⟩ := d11.inN
    have HWf := hide hw0
    have HW := hide hw0
    have QF := hide (show RwF W q9 f N r from ⟨hrow⟩)
    have QFf := QF
    have HQ9 := hide (And.intro hlo hrow.lt)
    have HXC := hide (And.intro y0 (And.intro y1 y2))
    have BZ := hide (Below.refl W.heap.size W)
    have BWh := hide BW
    have hwW : w.heap.size < W.heap.size := by omega
    clear d11 hw0 hrow hlo hS BW hsW y0 y1 y2 BW0
    go_wp2_with fail
    refine (toNodeSJ_c A n c l _ (HI.out.below (below_via0 BWh.out BZ.out)) hn HS.out).mono ?_
    rintro e w3 ⟨bw3, rfl, hcp, hj, hb⟩
    replace BZ := hide (below_via0 BZ.out hb)
    replace HW := hide (HW.out.below hb)
    replace QF := hide (QF.out.below hb)
    have HJw3 := hide hj
    have HCw3 := hide hcp
    obtain ⟨g1, d1, hq1, _, hR1⟩ := hcp.inN
    simp only [Value.slice.injEq, Option.some.injEq, Addr.mk.injEq, and_true, true_and] at hq1
    obtain ⟨rfl, rfl⟩ := hq1
    have HNw3 := hide hR1
    clear hj hcp hR1 hb
    have BX := hide (Below.refl w3.heap.size w3)
    have HBW3 := hide BZ.out.size
    have y0 := (BZ.out.cell (p := ⟨w.heap.size, 0, none⟩) hwW).trans HXC.out.1
    have y1 := (BZ.out.cell (p := ⟨w.heap.size, 1, none⟩) hwW).trans HXC.out.2.1
    have y2 := (BZ.out.cell (p := ⟨w.heap.size, 2, none⟩) hwW).trans HXC.out.2.2
    have hwn := Nat.lt_of_lt_of_le hwW BZ.out.size
    go_wp2_with fail
    refine (toHandle_c _ _ _ _).mono ?_
    rintro e w4 ⟨rfl, hb⟩
    clear y0 y1 y2 hwn
    replace BZ := hide (below_via0 BZ.out hb)
    replace HW := hide (HW.out.below hb)
    replace QF := hide (QF.out.below hb)
    replace HJw3 := hide (HJw3.out.below hb)
    replace HNw3 := hide (HNw3.out.below hb)
    replace BX := hide (below_via0 BX.out hb)
    clear hb
    have H34 := hide BX.out.size
    have HB4 := hide BZ.out.size
    go_wp2_with fail
    refine (HIM.out _ _ HNw3.out HJw3.out).mono ?_
    rintro e w5 ⟨V1, rfl, hV, hb⟩
    replace BZ := hide (below_via0 BZ.out hb)
    replace HW := hide (HW.out.below hb)
    replace QF := hide (QF.out.below hb)
    replace HJw3 := hide (HJw3.out.below hb)
    replace HNw3 := hide (HNw3.out.below hb)
    replace BX := hide (below_via0 BX.out hb)
    clear hb
    have HG := hide hV
    clear hV
    have H35 := hide BX.out.size
    clear HJw3
    obtain ⟨A1, k1, rfl, _⟩ := HG.out.inN
    go_wp2_with fail
    have hb := below_alloc0 (Below.refl w5.heap.size w5) (.cells #[.int .i64 f, .int .i64 N, .int .i64 r] 32)
    have hrw : RwF (w5.alloc (.cells #[.int .i64 f, .int .i64 N, .int .i64 r] 32)) w5.heap.size f N r := ⟨Row.madeL w5 _ [.int .i64 f, .int .i64 N, .int .i64 r]⟩
    generalize w5.alloc (.cells #[.int .i64 f, .int .i64 N, .int .i64 r] 32) = w6 at *
    replace BZ := hide (below_via0 BZ.out hb)
    replace HW := hide (HW.out.below hb)
    replace QF := hide (QF.out.below hb)
    replace HNw3 := hide (HNw3.out.below hb)
    replace BX := hide (below_via0 BX.out hb)
    replace HG := hide (HG.out.below hb)
    have QT := hide hrw
    clear hrw hb
    refine (eqNodeS_c A1 A0 L.length k1 k0 L hLn HLS.out _ (HG.out.inA rfl) HW.out).mono ?_
    rintro e wx ⟨rfl, hb⟩
    replace BZ := hide (below_via0 BZ.out hb)
    replace HW := hide (HW.out.below hb)
    replace QF := hide (QF.out.below hb)
    replace HNw3 := hide (HNw3.out.below hb)
    replace BX := hide (below_via0 BX.out hb)
    replace HG := hide (HG.out.below hb)
    replace QT := hide (QT.out.below hb)
    clear hb
    have hq9 := QF.out.row.lt
    have r0 := QF.out.row.cell (j := 0) rfl
    have r1 := QF.out.row.cell (j := 1) rfl
    have r2 := QF.out.row.cell (j := 2) rfl
    have hqt := QT.out.row.lt
    have t0 := QT.out.row.cell (j := 0) rfl
    have t1 := QT.out.row.cell (j := 1) rfl
    have t2 := QT.out.row.cell (j := 2) rfl
    go_wp2_with fail
    refine (eqHandle_c _ _ _ _).mono ?_
    rintro e wx ⟨rfl, hb⟩
    clear hqt t0 t1 t2
    clear hq9 r0 r1 r2
    replace BZ := hide (below_via0 BZ.out hb)
    replace HW := hide (HW.out.below hb)
    replace QF := hide (QF.out.below hb)
    replace HNw3 := hide (HNw3.out.below hb)
    replace BX := hide (below_via0 BX.out hb)
    replace HG := hide (HG.out.below hb)
    replace QT := hide (QT.out.below hb)
    clear hb
    go_wp2_with fail
    refine (toNodeS_c A n c l _ (HI.out.below (below_via0 BWh.out BZ.out)) hn HS.out).mono ?_
    rintro e wx ⟨gx, rfl, _, hr, hb⟩
    replace BZ := hide (below_via0 BZ.out hb)
    replace HW := hide (HW.out.below hb)
    replace QF := hide (QF.out.below hb)
    replace HNw3 := hide (HNw3.out.below hb)
    replace BX := hide (below_via0 BX.out hb)
    replace HG := hide (HG.out.below hb)
    replace QT := hide (QT.out.below hb)
    have HD := hide (inNode_of hlen hr)
    clear hr hb
    go_wp2_with fail
    refine (eqNodeS_c _ _ n n n l hn HS.out _ HNw3.out HD.out).mono ?_
    rintro e wx ⟨rfl, hb⟩
    replace BZ := hide (below_via0 BZ.out hb)
    replace HW := hide (HW.out.below hb)
    replace QF := hide (QF.out.below hb)
    replace HNw3 := hide (HNw3.out.below hb)
    replace BX := hide (below_via0 BX.out hb)
    replace HG := hide (HG.out.below hb)
    replace QT := hide (QT.out.below hb)
    replace HD := hide (HD.out.below hb)
    clear hb HD HNw3
    go_wp2_with fail
    refine (markCp_c (k0 := 1) HCw3.out BX.out hn (by omega) HS.out).mono ?_
    rintro e w9 ⟨rfl, ho, _⟩
    clear BX
    replace HG := hide (HG.out.offP ho (fun b hp _ => by have := H34.out; omega))
    replace QT := hide (QT.out.offP ho (fun hp => by have := H35.out; have := hp.2; omega))
    replace BZ := hide (ho.below BZ.out (fun b hp => by exact hp.1) BZ.out.size)
    replace HW := hide (HWf.out.below BZ.out)
    replace QF := hide (QFf.out.below BZ.out)
    clear ho
    have hkb := kS_le (l := l) (k0 := 1) HS.out n
    generalize kS l 1 n = kk at *
    go_wp2_with fail
    refine (eqNodeS_c A1 A0 L.length k1 k0 L hLn HLS.out _ (HG.out.inA rfl) HW.out).mono ?_
    rintro e wx ⟨rfl, hb⟩
    replace BZ := hide (below_via0 BZ.out hb)
    replace HW := hide (HW.out.below hb)
    replace QF := hide (QF.out.below hb)
    replace HG := hide (HG.out.below hb)
    replace QT := hide (QT.out.below hb)
    clear hb
    have hq9 := QF.out.row.lt
    have r0 := QF.out.row.cell (j := 0) rfl
    have r1 := QF.out.row.cell (j := 1) rfl
    have r2 := QF.out.row.cell (j := 2) rfl
    have hqt := QT.out.row.lt
    have t0 := QT.out.row.cell (j := 0) rfl
    have t1 := QT.out.row.cell (j := 1) rfl
    have t2 := QT.out.row.cell (j := 2) rfl
    go_wp2_with fail
    refine (eqHandle_c _ _ _ _).mono ?_
    rintro e w10 ⟨rfl, hb⟩
    clear hqt t0 t1 t2
    clear hq9 r0 r1 r2
    replace BZ := hide (below_via0 BZ.out hb)
    replace HW := hide (HW.out.below hb)
    replace QF := hide (QF.out.below hb)
    replace HG := hide (HG.out.below hb)
    replace QT := hide (QT.out.below hb)
    clear hb QT
    go_wp2_with fail
    refine (markWr_c (k0 := 1) HG.out (Below.refl _ _) hLn (by omega) HLS.out).mono ?_
    rintro e w11 ⟨rfl, ho, A9, c9, hq, hm9⟩
    simp only [Value.slice.injEq, true_and] at hq
    obtain ⟨rfl, rfl⟩ := hq
    replace BZ := hide (ho.below BZ.out (fun b hp => by have := HB4.out; have := hp.1; omega) BZ.out.size)
    replace HW := hide (HWf.out.below BZ.out)
    replace QF := hide (QFf.out.below BZ.out)
    clear HG ho
    have HM := hide hm9
    clear hm9
    have hmb := kS_le (l := L) (k0 := 1) HLS.out L.length
    obtain ⟨mm, hmm⟩ : ∃ mm, kS L 1 L.length = mm := ⟨_, rfl⟩
    rw [hmm] at hmb ⊢
    have HMM := hide hmm
    clear hmm
    go_wp2_with fail
    refine (heldNode_c _ L.length _ 1 L rfl hLn (by omega) HLS.out _ HM.out).mono ?_
    rintro e w12 ⟨rfl, hb⟩
    rw [HMM.out]
    replace BZ := hide (below_via0 BZ.out hb)
    replace HW := hide (HW.out.below hb)
    replace QF := hide (QF.out.below hb)
    replace HM := hide (HM.out.below hb)
    clear hb
    go_wp2_with fail
    have y0 := (BZ.out.cell (p := ⟨w.heap.size, 0, none⟩) hwW).trans HXC.out.1
    have y1 := (BZ.out.cell (p := ⟨w.heap.size, 1, none⟩) hwW).trans HXC.out.2.1
    have y2 := (BZ.out.cell (p := ⟨w.heap.size, 2, none⟩) hwW).trans HXC.out.2.2
    have hwn := Nat.lt_of_lt_of_le hwW BZ.out.size
    have hW0s : w.heap.size + 1 ≤ w12.heap.size := by omega
    have BW12 := below_via0 BWh.out BZ.out
    have cx0 := y0
    have cx1 := y1
    have cx2 := y2
    clear y0 y1 y2
    go_wp2_with fail
    refine wp_flowX (os := [_, _, _, _, _, _, _, _, _, _, _, _, _, _]) (fun cc W => Below w12.heap.size w12 W) (wxC w12.heap.size) (wxF l f a r N E x L A n c w12.heap.size) 14 rfl ?_ ?_ ?_ ?_ ?_ ?_ ?_
    · kernel_rfl
    · kernel_rfl
    · kernel_rfl
    · exact (fun i j v vs w1 w2 hij hdd h hc => wxF_keep hij (by rintro ⟨rfl, rfl⟩; exact absurd (show dead _ 12 1 = true by kernel_rfl) (by rw [hdd]; decide)) (by rintro ⟨rfl, rfl⟩; exact absurd (show dead _ 12 10 = true by kernel_rfl) (by rw [hdd]; decide)) h hc)
    · exact (Below.refl _ _).drew
    ·
      refine FlowStepsX.stepY 136 14 1 rfl rfl (by kernel_rfl) (by kernel_rfl) (by kernel_rfl) rfl rfl ?_ ?_
      ·
        intro cc act vs W hcc ha hvs hS hd hi K hK
        clear ha
        have u0 : act.tmps[0]? = some (.slice A n c) := (hi.out 0 (by kernel_rfl)).trans rfl
        clear hd hi
        clear hvs
        refine wanted_un rfl ?_
        go_simp
        exact hK.out _ _ rfl hS (wxC_of (by decide) (Below.refl _ _))
      refine FlowStepsX.stepY 136 14 2 rfl rfl (by kernel_rfl) (by kernel_rfl) (by kernel_rfl) rfl rfl ?_ ?_
      ·
        intro cc act vs W hcc ha hvs hS hd hi K hK
        clear ha
        have u104 : act.tmps[104]? = some (.slice A n c) := by obtain ⟨_, u, _, h⟩ := hd.out ⟨0, .data⟩ (some 104) (by simp) rfl rfl; exact u.trans (congrArg some h)
        clear hd hi
        clear hvs
        refine wanted_un rfl ?_
        have hsz := hS.size
        go_wp2_with fail
        refine (toNodeSJ_c A n c l _ (HI.out.below (BW12.trans (hS.mono (by omega)))) hn HS.out).mono ?_
        rintro e w6 ⟨b1, rfl, hcp, hj, hb6⟩
        obtain ⟨g1, d1, hq1, _, hR1⟩ := hcp.inN
        simp only [Value.slice.injEq, Option.some.injEq, Addr.mk.injEq, and_true, true_and] at hq1
        obtain ⟨rfl, rfl⟩ := hq1
        exact hK.out _ w6 ⟨b1, rfl, hR1, hj⟩ (hS.trans (hb6.mono (by omega))) (wxC_of (by decide) hb6)
      refine FlowStepsX.stepY 136 14 3 rfl rfl (by kernel_rfl) (by kernel_rfl) (by kernel_rfl) rfl rfl ?_ ?_
      ·
        intro cc act vs W hcc ha hvs hS hd hi K hK
        clear ha
        have u4 : act.tmps[4]? = some (.pointer (some ⟨w.heap.size, 0, none⟩)) := (hi.out 4 (by kernel_rfl)).trans rfl
        clear hd hi
        clear hvs
        refine wanted_un rfl ?_
        have e0 := (hS.cell (p := ⟨w.heap.size, 0, none⟩) (by show w.heap.size < _; omega)).trans cx0
        have e1 := (hS.cell (p := ⟨w.heap.size, 1, none⟩) (by show w.heap.size < _; omega)).trans cx1
        have e2 := (hS.cell (p := ⟨w.heap.size, 2, none⟩) (by show w.heap.size < _; omega)).trans cx2
        go_simp
        exact hK.out _ _ rfl hS (wxC_of (by decide) (Below.refl _ _))
      refine FlowStepsX.stepY 136 14 4 rfl rfl (by kernel_rfl) (by kernel_rfl) (by kernel_rfl) rfl rfl ?_ ?_
      ·
        intro cc act vs W hcc ha hvs hS hd hi K hK
        clear ha
        have u106 : act.tmps[106]? = some (.agg #[.int .i64 f, .int .i64 a, .int .i64 r]) := by obtain ⟨_, u, _, h⟩ := hd.out ⟨2, .data⟩ (some 106) (by simp) rfl rfl; exact u.trans (congrArg some h)
        clear hd hi
        clear hvs
        refine wanted_un rfl ?_
        have hsz := hS.size
        go_wp2_with fail
        refine (toHandle_c _ _ _ _).mono ?_
        rintro e w6 ⟨rfl, hb6⟩
        exact hK.out _ w6 rfl (hS.trans (hb6.mono (by omega))) (wxC_of (by decide) hb6)
      refine FlowStepsX.stepY 136 14 5 rfl rfl (by kernel_rfl) (by kernel_rfl) (by kernel_rfl) rfl rfl ?_ ?_
      ·
        intro cc act vs W hcc ha hvs hS hd hi K hK
        clear ha
        have u2 : act.tmps[2]? = some (.string x) := (hi.out 2 (by kernel_rfl)).trans rfl
        clear hd hi
        clear hvs
        refine wanted_un rfl ?_
        go_simp
        exact hK.out _ _ rfl hS (wxC_of (by decide) (Below.refl _ _))
      refine FlowStepsX.stepY 136 14 6 rfl rfl (by kernel_rfl) (by kernel_rfl) (by kernel_rfl) rfl rfl ?_ ?_
      ·
        intro cc act vs W hcc ha hvs hS hd hi K hK
        clear ha
        obtain ⟨_, u105, _, ⟨b1, rfl, hR1, hJ1⟩⟩ := hd.out ⟨1, .data⟩ (some 105) (by simp) rfl rfl
        have u107 : act.tmps[107]? = some (.agg #[.int .i64 f, .int .i64 a, .int .i64 r]) := by obtain ⟨_, u, _, h⟩ := hd.out ⟨3, .data⟩ (some 107) (by simp) rfl rfl; exact u.trans (congrArg some h)
        have u108 : act.tmps[108]? = some (.string x) := by obtain ⟨_, u, _, h⟩ := hd.out ⟨4, .data⟩ (some 108) (by simp) rfl rfl; exact u.trans (congrArg some h)
        clear hd hi
        clear hvs
        refine wanted_un rfl ?_
        have hsz := hS.size
        go_wp2_with fail
        refine (HIM.out _ _ hR1 hJ1).mono ?_
        rintro e w6 ⟨V, rfl, hV, hb6⟩
        exact hK.out _ w6 ⟨V, rfl, hV.mono (by omega)⟩ (hS.trans (hb6.mono (by omega))) (wxC_of (by decide) hb6)
      refine FlowStepsX.stepY 136 14 7 rfl rfl (by kernel_rfl) (by kernel_rfl) (by kernel_rfl) rfl rfl ?_ ?_
      ·
        intro cc act vs W hcc ha hvs hS hd hi K hK
        clear ha
        obtain ⟨_, u109, _, ⟨V, rfl, hV⟩⟩ := hd.out ⟨5, .data⟩ (some 109) (by simp) rfl rfl
        clear hd hi
        clear hvs
        refine wanted_un rfl ?_
        go_simp
        exact hK.out _ _ ⟨V, rfl, hV⟩ hS (wxC_of (by decide) (Below.refl _ _))
      refine FlowStepsX.stepY 136 14 8 rfl rfl (by kernel_rfl) (by kernel_rfl) (by kernel_rfl) rfl rfl ?_ ?_
      ·
        intro cc act vs W hcc ha hvs hS hd hi K hK
        clear ha
        obtain ⟨_, u103, _, ⟨V, rfl, hV⟩⟩ := hd.out ⟨6, .data⟩ (some 103) (by simp) rfl rfl
        clear hd hi
        clear hvs
        refine wanted_un rfl ?_
        go_simp
        exact hK.out _ _ hV hS (wxC_of (by decide) (Below.refl _ _))
      refine FlowStepsX.stepY 136 14 9 rfl rfl (by kernel_rfl) (by kernel_rfl) (by kernel_rfl) rfl rfl ?_ ?_
      ·
        intro cc act vs W hcc ha hvs hS hd hi K hK
        clear ha
        obtain ⟨_, u103, _, ⟨V, rfl, hV⟩⟩ := hd.out ⟨6, .data⟩ (some 103) (by simp) rfl rfl
        clear hd hi
        clear hvs
        refine wanted_un rfl ?_
        go_simp
        exact hK.out _ _ rfl hS (wxC_of (by decide) (Below.refl _ _))
      refine FlowStepsX.stepY 136 14 10 rfl rfl (by kernel_rfl) (by kernel_rfl) (by kernel_rfl) rfl rfl ?_ ?_
      ·
        intro cc act vs W hcc ha hvs hS hd hi K hK
        clear ha
        obtain ⟨_, u103, _, ⟨V, rfl, hV⟩⟩ := hd.out ⟨6, .data⟩ (some 103) (by simp) rfl rfl
        clear hd hi
        clear hvs
        refine wanted_un rfl ?_
        go_simp
        exact hK.out _ _ rfl hS (wxC_of (by decide) (Below.refl _ _))
      refine FlowStepsX.stepY 136 14 11 rfl rfl (by kernel_rfl) (by kernel_rfl) (by kernel_rfl) rfl rfl ?_ ?_
      ·
        intro cc act vs W hcc ha hvs hS hd hi K hK
        clear ha
        clear hd hi
        clear hvs
        refine wanted_un rfl ?_
        go_simp
        have hsz := hS.size
        exact hK.out _ _ ⟨W.heap.size, rfl, by omega, Row.madeN W _ _ 3 rfl, _, Below.heap_alloc_self W _⟩ (hS.alloc (by omega) _) (wxC_of (by decide) ((Below.refl _ _).alloc (Nat.le_refl _) _))
      refine FlowStepsX.stepY 136 14 12 rfl rfl (by kernel_rfl) (by kernel_rfl) (by kernel_rfl) rfl rfl ?_ ?_
      ·
        intro cc act vs W hcc ha hvs hS hd hi K hK
        clear ha
        obtain ⟨_, u110, _, hV⟩ := hd.out ⟨7, .data⟩ (some 110) (by simp) rfl rfl
        clear hd hi
        clear hvs
        refine wanted_un rfl ?_
        go_simp
        exact hK.out _ _ hV hS (wxC_of (by decide) (Below.refl _ _))
      refine FlowStepsX.stepY 136 14 13 rfl rfl (by kernel_rfl) (by kernel_rfl) (by kernel_rfl) rfl rfl ?_ ?_
      ·
        intro cc act vs W hcc ha hvs hS hd hi K hK
        clear ha
        obtain ⟨_, u19, _, ⟨q, rfl, hlo, hr, hty⟩⟩ := hd.out ⟨10, .data⟩ (some 19) (by simp) rfl rfl
        have u111 : act.tmps[111]? = some (.agg #[.int .i64 f, .int .i64 N, .int .i64 r]) := by obtain ⟨_, u, _, h⟩ := hd.out ⟨8, .data⟩ (some 111) (by simp) rfl rfl; exact u.trans (congrArg some h)
        clear hd hi
        refine wanted_un rfl ?_
        obtain ⟨y0, g0⟩ := hr.some_ex (j := 0) (by omega)
        have z0 := hr.frozen 0
        obtain ⟨y1, g1⟩ := hr.some_ex (j := 1) (by omega)
        have z1 := hr.frozen 1
        obtain ⟨y2, g2⟩ := hr.some_ex (j := 2) (by omega)
        have z2 := hr.frozen 2
        have hl0 := (hvs.out 0 19 rfl).trans u19
        go_simp
        exact hK.out (.pointer (some ⟨q, 0, none⟩)) _ ⟨q, rfl, hl0, hlo, rwl_set3 hr⟩ (below_set3 hS hlo) (wxC_set hlo hty)
      refine FlowStepsX.stepY 136 14 14 rfl rfl (by kernel_rfl) (by kernel_rfl) (by kernel_rfl) rfl rfl ?_ ?_
      ·
        intro cc act vs W hcc ha hvs hS hd hi K hK
        clear ha
        have u112 : act.tmps[112]? = some (.int .i64 E) := by obtain ⟨_, u, _, h⟩ := hd.out ⟨9, .data⟩ (some 112) (by simp) rfl rfl; exact u.trans (congrArg some h)
        clear hd hi
        clear hvs
        refine wanted_un rfl ?_
        go_simp
        exact hK.out _ _ rfl hS (wxC_of (by decide) (Below.refl _ _))
      exact FlowStepsX.nil
    · intro c'' ρ' W13 hc'' hS hd
      simp only [putFrom, Act.put, List.setIfInBounds_toArray, List.set_cons_zero, List.set_cons_succ, Nat.reduceAdd]
      obtain ⟨q19, h9, hl9, hlo, hrow⟩ := hd.out 12 (by decide) (by kernel_rfl)
      have e9 : ρ' 10 = .pointer (some ⟨q19, 0, none⟩) := by
        rw [h9] at hl9; exact Option.some.inj hl9
      have d11 : WrV W13 w12.heap.size (ρ' 11) L := hd.out 11 (by decide) (by kernel_rfl)
      have d13 : ρ' 13 = .int .i64 E := hd.out 13 (by decide) (by kernel_rfl)
      clear hd hl9 h9
      generalize ρ' 10 = x10 at e9 ⊢
      subst e9
      generalize ρ' 11 = x11 at d11 ⊢
      generalize ρ' 13 = x13 at d13 ⊢
      subst d13
      replace BZ := hide (below_via0 BZ.out hS)
      replace HW := hide (HW.out.below hS)
      replace QF := hide (QF.out.below hS)
      replace HM := hide (HM.out.below hS)
      have HH := hide d11
      have QU := hide (show RwF W13 q19 f N r from ⟨hrow⟩)
      clear d11 hrow hlo hS cx0 cx1 cx2 hwn
      obtain ⟨A2, k2, rfl, _⟩ := HH.out.inN
      go_wp2_with fail
      refine (eqNodeS_c A2 A0 L.length k2 k0 L hLn HLS.out _ (HH.out.inA rfl) HW.out).mono ?_
      rintro e wx ⟨rfl, hb⟩
      replace BZ := hide (below_via0 BZ.out hb)
      replace HW := hide (HW.out.below hb)
      replace QF := hide (QF.out.below hb)
      replace HM := hide (HM.out.below hb)
      replace HH := hide (HH.out.below hb)
      replace QU := hide (QU.out.below hb)
      clear hb
      have hq9 := QF.out.row.lt
      have r0 := QF.out.row.cell (j := 0) rfl
      have r1 := QF.out.row.cell (j := 1) rfl
      have r2 := QF.out.row.cell (j := 2) rfl
      have hqt := QU.out.row.lt
      have t0 := QU.out.row.cell (j := 0) rfl
      have t1 := QU.out.row.cell (j := 1) rfl
      have t2 := QU.out.row.cell (j := 2) rfl
      go_wp2_with fail
      refine (eqHandle_c _ _ _ _).mono ?_
      rintro e wx ⟨rfl, hb⟩
      clear hqt t0 t1 t2
      clear hq9 r0 r1 r2
      replace BZ := hide (below_via0 BZ.out hb)
      replace HW := hide (HW.out.below hb)
      replace QF := hide (QF.out.below hb)
      replace HM := hide (HM.out.below hb)
      replace HH := hide (HH.out.below hb)
      replace QU := hide (QU.out.below hb)
      clear hb
      go_wp2_with fail
      refine (heldNode_c _ L.length _ 1 L rfl hLn (by omega) HLS.out _ HM.out).mono ?_
      rintro e w12 ⟨rfl, hb⟩
      rw [HMM.out]
      replace BZ := hide (below_via0 BZ.out hb)
      replace HW := hide (HW.out.below hb)
      replace QF := hide (QF.out.below hb)
      replace HM := hide (HM.out.below hb)
      replace HH := hide (HH.out.below hb)
      replace QU := hide (QU.out.below hb)
      clear hb
      go_wp2_with fail
      go_ret
      exact ⟨rfl, below_via0 BWh.out BZ.out⟩
end Go.Proofs.Ytncjghmjlcohjaa
