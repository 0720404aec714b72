/-
  The law of ListValid over drawn lists. No condition.
-/
import Derived.Test.YtpifnfhgaemdmaaProg
import Derived.Test.YtpifnfhgaemdmaaLd
import Derived.Test.YtpifnfhgaemdmaaAlive
namespace Go.Proofs.Ytpifnfhgaemdmaa
open Go.RowKit
set_option linter.unusedSimpArgs false
set_option linter.unusedVariables false

theorem InB.below {w w' : World} {A : Option Addr} {n c : Nat} (h : InB w A n c) (hb : Below w.heap.size w w') : InB w' A n c :=
  ⟨h.1, h.2.1, fun h0 => by
    obtain ⟨b, off, hA, hlt, hne, hc⟩ := h.2.2 h0
    have := hb.size
    refine ⟨b, off, hA, by omega, by omega, fun i hi => ?_⟩
    obtain ⟨x, h1, h2, h3⟩ := hc i hi
    exact ⟨x, h1, h2, (hb.cell (p := ⟨b, _, none⟩) hlt).trans h3⟩⟩
def GotList (w : World) (e : Ending) (w' : World) : Prop :=
  ∃ (A : Option Addr) (n c : Nat) (l : List Grant) (m k2 : Int), e = .returned (.agg #[.int .i64 m, .slice A n c, .int .i64 k2]) ∧ l.length = n ∧ n ≤ 7 ∧ OwnSG w' w.heap.size n c A l ∧ Below w.heap.size w w'
set_option maxHeartbeats 1000000 in
theorem gListValid_c (A : Option Addr) (n c : Nat) (w : World) (h : InB w A n c) : Calls Try.prog 20 #[.slice A n c] w (GotList w) := by
  have H := hide h
  clear h
  go_enter Try.func20, Try.ntmps20
  go_wp2_with fail
  refine (open_c A n c _ (H.out.below (below_alloc0 (Below.refl _ _) _))).mono ?_
  rintro e w1 ⟨r, rfl, hr, hrd, hb1⟩
  have Z1 : LBlk w1 w.heap.size := LBlk.below (W := w.alloc (.cells #[.int .i64 0, .slice none 0 0, .int .i64 0] 24)) ⟨_, Below.heap_alloc_self w _, rfl⟩ hb1
  have hr' : w.heap.size + 1 ≤ r := by simpa using hr
  have hs1 := Z1.row.lt
  have B1 : Below w.heap.size w w1 := below_via0 (below_alloc0 (Below.refl _ _) _) hb1
  go_wp2_with fail
  refine (drawList_c w1.heap.size r 0 2 _ (by omega) (by omega) (by omega) hrd).mono ?_
  rintro e w2 ⟨A', n', c', l, m, k2, rfl, hl, hn', ho, hs, ha⟩
  have Z2 := Z1.keep (ha.2 _ hs1 (by omega))
  have hz := Z2.row
  have hzl := hz.lt
  obtain ⟨y0, g0⟩ := hz.some_ex (j := 0) (by omega)
  obtain ⟨y1, g1⟩ := hz.some_ex (j := 1) (by omega)
  obtain ⟨y2, g2⟩ := hz.some_ex (j := 2) (by omega)
  have f0 := hz.frozen 0
  have f1 := hz.frozen 1
  have f2 := hz.frozen 2
  have HZ := hide Z2
  have HO := hide ho
  have B2 := hide (ha.below B1 (by omega) (by omega))
  clear hz Z1 Z2 ho hs hrd
  go_wp2_with fail
  have hA : ∀ a, A' = some a → a.block ≠ w.heap.size := fun a ha => (HO.out.ty a ha).not_list HZ.out
  exact bodyPost_ret (v := .agg #[.int .i64 m, .slice A' n' c', .int .i64 k2]) (by simp [results, Try.results20, go_sem, *]) rfl ⟨A', n', c', l, m, k2, rfl, hl, hn', (((HO.out.farB hA _).farB hA _).farB hA _).mono (by omega), below_set3 B2.out (Nat.le_refl _)⟩
theorem listB_nil {m k : Int} {l : List Grant} (h : listB m l k = true) : listB m [] k = true := by
  rw [listB_iff] at h ⊢
  exact ⟨fun i t hi => absurd hi (by simp), h.2.1, h.2.2.1, by simp⟩
theorem listB_twice {m k : Int} {l : List Grant} {t : Grant} (h : l[0]? = some t) : listB m (t :: l) k = false := by
  refine listB_no fun e => ?_
  have hl : 0 < l.length := (List.getElem?_eq_some_iff.1 h).1
  have := (e.1 1 t (by simp; omega) (by simpa using h)).2 0 t (by omega) (by simp)
  simp [sameG] at this
/-- What is known of each operation of the last statement. -/
def flF (m k : Int) (A : Option Addr) (n c : Nat) (l : List Grant) (t : Grant) (lb gz lo : Nat) (i : Nat) (v : Value) (vs : List Value) (W : World) : Prop :=
  match i with
  | 0 => v = .pointer (some ⟨lb, 0, none⟩)
  | 1 => v = .int .i64 m
  | 2 => v = .pointer (some ⟨lb, 2, none⟩)
  | 3 => v = .int .i64 k
  | 4 => v = .agg #[.int .i64 m, .slice none 0 0, .int .i64 k]
  | 5 => v = .bool true
  | 6 => v = .bool true
  | 7 => v = .pointer (some ⟨lb, 0, none⟩)
  | 8 => v = .int .i64 m
  | 9 => v = .pointer (some ⟨lb, 2, none⟩)
  | 10 => v = .int .i64 k
  | 11 => v = .pointer (some ⟨lb, 1, none⟩)
  | 12 => v = .slice A n c
  | 13 => v = .pointer (some ⟨gz, 0, none⟩)
  | 14 => v = .agg #[.bool t.ofGroup, .int .i64 t.who, .int .i64 t.rights]
  | 15 => W.ownsRow lo 40 3 v 1 (flatG [t]) ∧ v ≠ .slice none 0 0
  | 16 => v = .pointer (some ⟨lb, 1, none⟩)
  | 17 => v = .slice A n c
  | 18 => ∃ A' c', v = .slice A' (1 + n) c' ∧ OwnSG W lo (1 + n) c' A' (t :: l)
  | 19 => ∃ A' c', v = .agg #[.int .i64 m, .slice A' (1 + n) c', .int .i64 k] ∧ OwnSG W lo (1 + n) c' A' (t :: l)
  | 20 => v = .bool false
  | 21 => v = .bool true
  | 22 => v = .bool true
  | 23 => v = .bool true
  | _ => True
theorem flF_keep {m k : Int} {A : Option Addr} {n c : Nat} {l : List Grant} {t : Grant} {lb gz lo lo' i j : Nat} {v : Value} {vs : List Value} {W W' : World} (h18 : i = 18 → j ≠ 15 ∧ j ≠ 18 ∧ j ≠ 19) (h : flF m k A n c l t lb gz lo j v vs W) (hc : snC lo' 18 i W W') : flF m k A n c l t lb gz lo j v vs W' := by
  have hb : i ≠ 18 → Below W.heap.size W W' := fun h1 => by unfold snC at hc; rw [if_neg h1] at hc; exact hc
  unfold flF at h ⊢
  split <;> simp only at h <;> try exact h
  · exact ⟨own_below h.1 (hb fun e => (h18 e).1 rfl), h.2⟩
  · obtain ⟨A', c', h1, h2⟩ := h
    exact ⟨A', c', h1, h2.below (hb fun e => (h18 e).2.1 rfl)⟩
  · obtain ⟨A', c', h1, h2⟩ := h
    exact ⟨A', c', h1, h2.below (hb fun e => (h18 e).2.2 rfl)⟩
set_option maxHeartbeats 4000000 in
theorem fnListValid_walk {w : World} (A : Option Addr) (n c : Nat) (h : InB w A n c) :
    Calls Try.prog 5 #[.slice A n c] w fun e w' => e = .returned (.bool true) ∧ Below w.heap.size w w' := by
  have hm := h.2.1
  unfold maxLen at hm
  have hc := h.1
  have H := hide h
  clear h
  by_cases h20 : 1048576 < n
  · go_enter Try.func5, Try.ntmps5
    go_wp2_with fail
    go_ret
    exact ⟨rfl, Below.refl _ _⟩
  obtain ⟨i0, hi0, hz0, hz1, hz2⟩ := info_parts infoGrant
  have HI := hide hi0
  have HZ0 := hide hz0
  have HZ1 := hide hz1
  have HZ2 := hide hz2
  clear hi0 hz0 hz1 hz2
  go_enter Try.func5, Try.ntmps5
  go_wp2_with fail
  refine (gListValid_c A n c _ H.out).mono ?_
  rintro e w1 ⟨A, nl, cl, l, m, k2, rfl, hl, hn7, ho, hb1⟩
  have HLL := hide hl
  have hb2 : Below w1.heap.size w1 (w1.alloc (.cells #[.int .i64 m, .slice A nl cl, .int .i64 k2] 24)) := below_alloc0 (Below.refl _ _) _
  have O2 := hide (ho.below hb2)
  have R2 := LRow.made w1 (.int .i64 m) (.slice A nl cl) (.int .i64 k2)
  have B2 := hide (below_via0 hb1 hb2)
  clear ho hb1 hb2 hl
  go_wp2_with fail
  generalize w1.alloc (.cells #[.int .i64 m, .slice A nl cl, .int .i64 k2] 24) = w2 at *
  obtain ⟨lb, hlb⟩ : ∃ lb, lb = w1.heap.size := ⟨_, rfl⟩
  rw [← hlb] at R2 ⊢
  clear hlb
  refine (lvImpl_c _ _ _ _ _ l (by omega) O2.out.cap.1 O2.out.cap.2 _ (O2.out.ins HLL.out)).mono ?_
  rintro e w3 ⟨rfl, hb3⟩
  have R3 := hide (R2.below hb3)
  have O3 := hide (O2.out.below hb3)
  have B3 := hide (below_via0 B2.out hb3)
  clear R2 hb3
  have x0 := R3.out.c0
  have x1 := R3.out.c1
  have x2 := R3.out.c2
  have xl := R3.out.lt
  go_wp2_with fail
  refine (lvSpec_c _ _ _ _ _ l (by omega) _ (O3.out.ins HLL.out)).mono ?_
  rintro e w4 ⟨rfl, hb4⟩
  have R4 := hide (R3.out.below hb4)
  have O4 := hide (O3.out.below hb4)
  have B4 := hide (below_via0 B3.out hb4)
  clear x0 x1 x2 xl hb4
  have x0 := R4.out.c0
  have x1 := R4.out.c1
  have x2 := R4.out.c2
  have xl := R4.out.lt
  cases hok : listB m l k2
  · clear hok
    go_wp2_with fail
    refine (alive_c _).mono ?_
    rintro e w5 ⟨rfl, hb5⟩
    have B5 := hide (below_via0 B4.out hb5)
    go_wp2_with fail
    go_ret
    exact ⟨rfl, B5.out⟩
  have HOK := hide hok
  clear hok
  rcases Nat.eq_zero_or_pos nl with rfl | hpos
  · go_wp2_with fail
    refine (alive_c _).mono ?_
    rintro e w5 ⟨rfl, hb5⟩
    have B5 := hide (below_via0 B4.out hb5)
    go_wp2_with fail
    go_ret
    exact ⟨rfl, B5.out⟩
  have HN0 := hide (show (0 : Int) < nl by omega)
  have hd0 : ((nl : Int) == 0) = false := by simp; omega
  rcases O4.out with ⟨_, h, _⟩ | ⟨gz, mm, rfl, _, _, _, _, hrow, _⟩
  · omega
  have HRd := hide (RdGrant_of_rowm hrow HLL.out)
  obtain ⟨t, ht⟩ : ∃ t, l[0]? = some t := ⟨_, List.getElem?_eq_getElem (by rw [HLL.out]; exact hpos)⟩
  have HT := hide ht
  obtain ⟨c0, c1, c2⟩ := HRd.out.2 0 t ht
  have hgl := HRd.out.1
  simp only [Nat.zero_mul, Nat.add_zero] at c0 c1 c2
  clear hrow ht
  go_wp2_with fail
  obtain ⟨W0, hW0⟩ : ∃ W0, W0 = w4 := ⟨_, rfl⟩
  rw [← hW0] at x0 x1 x2 xl c0 c1 c2 hgl HRd B4 ⊢
  clear hW0 R4 O4
  refine wp_flowZ (os := [_, _, _, _, _, _, _, _, _, _, _, _, _, _, _, _, _, _, _, _, _, _, _, _]) (fun cc W => Below W0.heap.size W0 W) ((snC W0.heap.size 18)) (flF m k2 (some ⟨gz, 0, none⟩) nl cl l t lb gz W0.heap.size) 24 rfl ?_ ?_ ?_ ?_ ?_ ?_ ?_
  · kernel_rfl
  · kernel_rfl
  · kernel_rfl
  · exact (fun i j v vs w1 w2 hij hdd hbf h hc => flF_keep (by rintro rfl; exact ⟨fun e => by subst e; exact absurd (show dead _ 18 15 = true by kernel_rfl) (by rw [hdd]; decide), Ne.symm hij, fun e => by subst e; exact absurd (show beforeX _ 18 19 = true by kernel_rfl) (by rw [hbf]; decide)⟩) h hc)
  · exact (Below.refl _ _).drew
  ·
    refine FlowStepsX.stepY 48 24 1 rfl rfl (by kernel_rfl) (by kernel_rfl) (by kernel_rfl) rfl rfl ?_ ?_
    ·
      intro cc act vs W hcc ha hvs hS hd hi K hK
      clear ha
      have u3 : act.tmps[3]? = some (.pointer (some ⟨lb, 0, none⟩)) := (hi.out 3 (by kernel_rfl)).trans rfl
      clear hd hi
      clear hvs
      refine wanted_un rfl ?_
      go_simp
      exact hK.out _ _ rfl hS (snC_of (Below.refl _ _) hS.size)
    refine FlowStepsX.stepY 48 24 2 rfl rfl (by kernel_rfl) (by kernel_rfl) (by kernel_rfl) rfl rfl ?_ ?_
    ·
      intro cc act vs W hcc ha hvs hS hd hi K hK
      clear ha
      have u25 : act.tmps[25]? = some (.pointer (some ⟨lb, 0, none⟩)) := by obtain ⟨_, u, _, h⟩ := hd.out ⟨0, .data⟩ (some 25) (by simp) rfl rfl; exact u.trans (congrArg some h)
      clear hd hi
      clear hvs
      refine wanted_un rfl ?_
      have e0 := (hS.cell (p := ⟨lb, 0, none⟩) (by show lb < _; omega)).trans x0
      go_simp
      exact hK.out _ _ rfl hS (snC_of (Below.refl _ _) hS.size)
    refine FlowStepsX.stepY 48 24 3 rfl rfl (by kernel_rfl) (by kernel_rfl) (by kernel_rfl) rfl rfl ?_ ?_
    ·
      intro cc act vs W hcc ha hvs hS hd hi K hK
      clear ha
      have u3 : act.tmps[3]? = some (.pointer (some ⟨lb, 0, none⟩)) := (hi.out 3 (by kernel_rfl)).trans rfl
      clear hd hi
      clear hvs
      refine wanted_un rfl ?_
      go_simp
      exact hK.out _ _ rfl hS (snC_of (Below.refl _ _) hS.size)
    refine FlowStepsX.stepY 48 24 4 rfl rfl (by kernel_rfl) (by kernel_rfl) (by kernel_rfl) rfl rfl ?_ ?_
    ·
      intro cc act vs W hcc ha hvs hS hd hi K hK
      clear ha
      have u27 : act.tmps[27]? = some (.pointer (some ⟨lb, 2, none⟩)) := by obtain ⟨_, u, _, h⟩ := hd.out ⟨2, .data⟩ (some 27) (by simp) rfl rfl; exact u.trans (congrArg some h)
      clear hd hi
      clear hvs
      refine wanted_un rfl ?_
      have e2 := (hS.cell (p := ⟨lb, 2, none⟩) (by show lb < _; omega)).trans x2
      go_simp
      exact hK.out _ _ rfl hS (snC_of (Below.refl _ _) hS.size)
    refine FlowStepsX.stepY 48 24 5 rfl rfl (by kernel_rfl) (by kernel_rfl) (by kernel_rfl) rfl rfl ?_ ?_
    ·
      intro cc act vs W hcc ha hvs hS hd hi K hK
      clear ha
      have u26 : act.tmps[26]? = some (.int .i64 m) := by obtain ⟨_, u, _, h⟩ := hd.out ⟨1, .data⟩ (some 26) (by simp) rfl rfl; exact u.trans (congrArg some h)
      have u28 : act.tmps[28]? = some (.int .i64 k2) := by obtain ⟨_, u, _, h⟩ := hd.out ⟨3, .data⟩ (some 28) (by simp) rfl rfl; exact u.trans (congrArg some h)
      clear hd hi
      clear hvs
      refine wanted_un rfl ?_
      go_simp
      exact hK.out _ _ rfl hS (snC_of (Below.refl _ _) hS.size)
    refine FlowStepsX.stepY 48 24 6 rfl rfl (by kernel_rfl) (by kernel_rfl) (by kernel_rfl) rfl rfl ?_ ?_
    ·
      intro cc act vs W hcc ha hvs hS hd hi K hK
      clear ha
      have u29 : act.tmps[29]? = some (.agg #[.int .i64 m, .slice none 0 0, .int .i64 k2]) := by obtain ⟨_, u, _, h⟩ := hd.out ⟨4, .data⟩ (some 29) (by simp) rfl rfl; exact u.trans (congrArg some h)
      clear hd hi
      clear hvs
      refine wanted_un rfl ?_
      go_wp2_with fail
      refine (lvImpl_c _ _ 0 0 _ [] (by omega) (Nat.le_refl _) (by decide) _ (inG_nil _)).mono ?_
      rintro e w6 ⟨rfl, hb6⟩
      exact hK.out _ w6 (congrArg Value.bool (listB_nil HOK.out)) (hS.trans (hb6.mono hS.size)) (snC_of hb6 hS.size)
    refine FlowStepsX.stepY 48 24 7 rfl rfl (by kernel_rfl) (by kernel_rfl) (by kernel_rfl) rfl rfl ?_ ?_
    ·
      intro cc act vs W hcc ha hvs hS hd hi K hK
      clear ha
      have u30 : act.tmps[30]? = some (.bool true) := by obtain ⟨_, u, _, h⟩ := hd.out ⟨5, .data⟩ (some 30) (by simp) rfl rfl; exact u.trans (congrArg some h)
      clear hd hi
      clear hvs
      refine wanted_un rfl ?_
      go_simp
      exact hK.out _ _ rfl hS (snC_of (Below.refl _ _) hS.size)
    refine FlowStepsX.stepY 48 24 8 rfl rfl (by kernel_rfl) (by kernel_rfl) (by kernel_rfl) rfl rfl ?_ ?_
    ·
      intro cc act vs W hcc ha hvs hS hd hi K hK
      clear ha
      have u31 : act.tmps[31]? = some (.bool true) := by obtain ⟨_, u, _, h⟩ := hd.out ⟨6, .guard⟩ (some 31) (by simp) rfl rfl; exact u.trans (congrArg some h)
      have u3 : act.tmps[3]? = some (.pointer (some ⟨lb, 0, none⟩)) := (hi.out 3 (by kernel_rfl)).trans rfl
      clear hd hi
      clear hvs
      refine wanted_yes rfl rfl u31 ?_
      go_simp
      exact hK.out _ _ rfl hS (snC_of (Below.refl _ _) hS.size)
    refine FlowStepsX.stepY 48 24 9 rfl rfl (by kernel_rfl) (by kernel_rfl) (by kernel_rfl) rfl rfl ?_ ?_
    ·
      intro cc act vs W hcc ha hvs hS hd hi K hK
      clear ha
      have u32 : act.tmps[32]? = some (.pointer (some ⟨lb, 0, none⟩)) := by obtain ⟨_, u, _, h⟩ := hd.out ⟨7, .data⟩ (some 32) (by simp) rfl rfl; exact u.trans (congrArg some h)
      have u31 : act.tmps[31]? = some (.bool true) := by obtain ⟨_, u, _, h⟩ := hd.out ⟨6, .guard⟩ (some 31) (by simp) rfl rfl; exact u.trans (congrArg some h)
      clear hd hi
      clear hvs
      refine wanted_yes rfl rfl u31 ?_
      have e0 := (hS.cell (p := ⟨lb, 0, none⟩) (by show lb < _; omega)).trans x0
      go_simp
      exact hK.out _ _ rfl hS (snC_of (Below.refl _ _) hS.size)
    refine FlowStepsX.stepY 48 24 10 rfl rfl (by kernel_rfl) (by kernel_rfl) (by kernel_rfl) rfl rfl ?_ ?_
    ·
      intro cc act vs W hcc ha hvs hS hd hi K hK
      clear ha
      have u31 : act.tmps[31]? = some (.bool true) := by obtain ⟨_, u, _, h⟩ := hd.out ⟨6, .guard⟩ (some 31) (by simp) rfl rfl; exact u.trans (congrArg some h)
      have u3 : act.tmps[3]? = some (.pointer (some ⟨lb, 0, none⟩)) := (hi.out 3 (by kernel_rfl)).trans rfl
      clear hd hi
      clear hvs
      refine wanted_yes rfl rfl u31 ?_
      go_simp
      exact hK.out _ _ rfl hS (snC_of (Below.refl _ _) hS.size)
    refine FlowStepsX.stepY 48 24 11 rfl rfl (by kernel_rfl) (by kernel_rfl) (by kernel_rfl) rfl rfl ?_ ?_
    ·
      intro cc act vs W hcc ha hvs hS hd hi K hK
      clear ha
      have u34 : act.tmps[34]? = some (.pointer (some ⟨lb, 2, none⟩)) := by obtain ⟨_, u, _, h⟩ := hd.out ⟨9, .data⟩ (some 34) (by simp) rfl rfl; exact u.trans (congrArg some h)
      have u31 : act.tmps[31]? = some (.bool true) := by obtain ⟨_, u, _, h⟩ := hd.out ⟨6, .guard⟩ (some 31) (by simp) rfl rfl; exact u.trans (congrArg some h)
      clear hd hi
      clear hvs
      refine wanted_yes rfl rfl u31 ?_
      have e2 := (hS.cell (p := ⟨lb, 2, none⟩) (by show lb < _; omega)).trans x2
      go_simp
      exact hK.out _ _ rfl hS (snC_of (Below.refl _ _) hS.size)
    refine FlowStepsX.stepY 48 24 12 rfl rfl (by kernel_rfl) (by kernel_rfl) (by kernel_rfl) rfl rfl ?_ ?_
    ·
      intro cc act vs W hcc ha hvs hS hd hi K hK
      clear ha
      have u31 : act.tmps[31]? = some (.bool true) := by obtain ⟨_, u, _, h⟩ := hd.out ⟨6, .guard⟩ (some 31) (by simp) rfl rfl; exact u.trans (congrArg some h)
      have u3 : act.tmps[3]? = some (.pointer (some ⟨lb, 0, none⟩)) := (hi.out 3 (by kernel_rfl)).trans rfl
      clear hd hi
      clear hvs
      refine wanted_yes rfl rfl u31 ?_
      go_simp
      exact hK.out _ _ rfl hS (snC_of (Below.refl _ _) hS.size)
    refine FlowStepsX.stepY 48 24 13 rfl rfl (by kernel_rfl) (by kernel_rfl) (by kernel_rfl) rfl rfl ?_ ?_
    ·
      intro cc act vs W hcc ha hvs hS hd hi K hK
      clear ha
      have u36 : act.tmps[36]? = some (.pointer (some ⟨lb, 1, none⟩)) := by obtain ⟨_, u, _, h⟩ := hd.out ⟨11, .data⟩ (some 36) (by simp) rfl rfl; exact u.trans (congrArg some h)
      have u31 : act.tmps[31]? = some (.bool true) := by obtain ⟨_, u, _, h⟩ := hd.out ⟨6, .guard⟩ (some 31) (by simp) rfl rfl; exact u.trans (congrArg some h)
      clear hd hi
      clear hvs
      refine wanted_yes rfl rfl u31 ?_
      have e1 := (hS.cell (p := ⟨lb, 1, none⟩) (by show lb < _; omega)).trans x1
      go_simp
      exact hK.out _ _ rfl hS (snC_of (Below.refl _ _) hS.size)
    refine FlowStepsX.stepY 48 24 14 rfl rfl (by kernel_rfl) (by kernel_rfl) (by kernel_rfl) rfl rfl ?_ ?_
    ·
      intro cc act vs W hcc ha hvs hS hd hi K hK
      clear ha
      have u37 : act.tmps[37]? = some (.slice (some ⟨gz, 0, none⟩) nl cl) := by obtain ⟨_, u, _, h⟩ := hd.out ⟨12, .data⟩ (some 37) (by simp) rfl rfl; exact u.trans (congrArg some h)
      have u31 : act.tmps[31]? = some (.bool true) := by obtain ⟨_, u, _, h⟩ := hd.out ⟨6, .guard⟩ (some 31) (by simp) rfl rfl; exact u.trans (congrArg some h)
      clear hd hi
      clear hvs
      refine wanted_yes rfl rfl u31 ?_
      have jj := HN0.out
      go_simp
      exact hK.out _ _ rfl hS (snC_of (Below.refl _ _) hS.size)
    refine FlowStepsX.stepY 48 24 15 rfl rfl (by kernel_rfl) (by kernel_rfl) (by kernel_rfl) rfl rfl ?_ ?_
    ·
      intro cc act vs W hcc ha hvs hS hd hi K hK
      clear ha
      have u38 : act.tmps[38]? = some (.pointer (some ⟨gz, 0, none⟩)) := by obtain ⟨_, u, _, h⟩ := hd.out ⟨13, .data⟩ (some 38) (by simp) rfl rfl; exact u.trans (congrArg some h)
      have u31 : act.tmps[31]? = some (.bool true) := by obtain ⟨_, u, _, h⟩ := hd.out ⟨6, .guard⟩ (some 31) (by simp) rfl rfl; exact u.trans (congrArg some h)
      clear hd hi
      clear hvs
      refine wanted_yes rfl rfl u31 ?_
      have e0 := (hS.cell (p := ⟨gz, 0, none⟩) (by show gz < _; omega)).trans c0
      have e1 := (hS.cell (p := ⟨gz, 1, none⟩) (by show gz < _; omega)).trans c1
      have e2 := (hS.cell (p := ⟨gz, 2, none⟩) (by show gz < _; omega)).trans c2
      go_simp
      exact hK.out _ _ rfl hS (snC_of (Below.refl _ _) hS.size)
    refine FlowStepsX.stepY 48 24 16 rfl rfl (by kernel_rfl) (by kernel_rfl) (by kernel_rfl) rfl rfl ?_ ?_
    ·
      intro cc act vs W hcc ha hvs hS hd hi K hK
      clear ha
      have u39 : act.tmps[39]? = some (.agg #[.bool t.ofGroup, .int .i64 t.who, .int .i64 t.rights]) := by obtain ⟨_, u, _, h⟩ := hd.out ⟨14, .data⟩ (some 39) (by simp) rfl rfl; exact u.trans (congrArg some h)
      have u31 : act.tmps[31]? = some (.bool true) := by obtain ⟨_, u, _, h⟩ := hd.out ⟨6, .guard⟩ (some 31) (by simp) rfl rfl; exact u.trans (congrArg some h)
      clear hd hi
      clear hvs
      refine wanted_yes rfl rfl u31 ?_
      go_simp
      have hsz := hS.size
      exact hK.out _ _ ⟨own_new (n := 1) W _ hsz (by decide) rfl, by simp⟩ (hS.alloc hsz _) (snC_of ((Below.refl _ _).alloc (Nat.le_refl _) _) hsz)
    refine FlowStepsX.stepY 48 24 17 rfl rfl (by kernel_rfl) (by kernel_rfl) (by kernel_rfl) rfl rfl ?_ ?_
    ·
      intro cc act vs W hcc ha hvs hS hd hi K hK
      clear ha
      have u31 : act.tmps[31]? = some (.bool true) := by obtain ⟨_, u, _, h⟩ := hd.out ⟨6, .guard⟩ (some 31) (by simp) rfl rfl; exact u.trans (congrArg some h)
      have u3 : act.tmps[3]? = some (.pointer (some ⟨lb, 0, none⟩)) := (hi.out 3 (by kernel_rfl)).trans rfl
      clear hd hi
      clear hvs
      refine wanted_yes rfl rfl u31 ?_
      go_simp
      exact hK.out _ _ rfl hS (snC_of (Below.refl _ _) hS.size)
    refine FlowStepsX.stepY 48 24 18 rfl rfl (by kernel_rfl) (by kernel_rfl) (by kernel_rfl) rfl rfl ?_ ?_
    ·
      intro cc act vs W hcc ha hvs hS hd hi K hK
      clear ha
      have u41 : act.tmps[41]? = some (.pointer (some ⟨lb, 1, none⟩)) := by obtain ⟨_, u, _, h⟩ := hd.out ⟨16, .data⟩ (some 41) (by simp) rfl rfl; exact u.trans (congrArg some h)
      have u31 : act.tmps[31]? = some (.bool true) := by obtain ⟨_, u, _, h⟩ := hd.out ⟨6, .guard⟩ (some 31) (by simp) rfl rfl; exact u.trans (congrArg some h)
      clear hd hi
      clear hvs
      refine wanted_yes rfl rfl u31 ?_
      have e1 := (hS.cell (p := ⟨lb, 1, none⟩) (by show lb < _; omega)).trans x1
      go_simp
      exact hK.out _ _ rfl hS (snC_of (Below.refl _ _) hS.size)
    refine FlowStepsX.stepY 48 24 19 rfl rfl (by kernel_rfl) (by kernel_rfl) (by kernel_rfl) rfl rfl ?_ ?_
    ·
      intro cc act vs W hcc ha hvs hS hd hi K hK
      clear ha
      obtain ⟨_, u40, _, ⟨hown, hne⟩⟩ := hd.out ⟨15, .data⟩ (some 40) (by simp) rfl rfl
      have u42 : act.tmps[42]? = some (.slice (some ⟨gz, 0, none⟩) nl cl) := by obtain ⟨_, u, _, h⟩ := hd.out ⟨17, .data⟩ (some 42) (by simp) rfl rfl; exact u.trans (congrArg some h)
      have u31 : act.tmps[31]? = some (.bool true) := by obtain ⟨_, u, _, h⟩ := hd.out ⟨6, .guard⟩ (some 31) (by simp) rfl rfl; exact u.trans (congrArg some h)
      clear hd hi
      clear hvs
      refine wanted_yes rfl rfl u31 ?_
      have hsz := hS.size
      have hRW : RdGrant W gz 0 l := HRd.out.below hS
      refine wp_append_own W (.tmp 40) (.tmp 42) 22 rfl W0.heap.size 40 i0 _ 3 24 Try.underlying22 HI.out HZ0.out HZ1.out HZ2.out rfl (by decide) _ 1 (flatG [t]) (by simp [Act.eval, u40]) hown ⟨gz, 0, none⟩ nl cl (flatG l) (by simp [Act.eval, u42]) (by rw [flatG_len, HLL.out]) (fun j u hj => by rw [Addr.add_lit]; exact flatG_cells hRW j u hj) (flatG_one l) (by unfold maxLen; omega) (by omega) hsz ?_
      intro v' w' ho hgr hnil
      rw [← flatG_app] at ho
      obtain ⟨A', c', rfl, ho'⟩ := ownSG_of ho (by simp [HLL.out]; omega)
      have hgb : Below W0.heap.size W w' := (Below.refl W0.heap.size W).grown hgr hsz (fun k hk => (hown.lt k hk).1)
      exact hK.out _ w' ⟨A', c', rfl, ho'⟩ (hS.trans hgb) (by unfold snC; rw [if_pos rfl]; exact hgb)
    refine FlowStepsX.stepY 48 24 20 rfl rfl (by kernel_rfl) (by kernel_rfl) (by kernel_rfl) rfl rfl ?_ ?_
    ·
      intro cc act vs W hcc ha hvs hS hd hi K hK
      clear ha
      have u33 : act.tmps[33]? = some (.int .i64 m) := by obtain ⟨_, u, _, h⟩ := hd.out ⟨8, .data⟩ (some 33) (by simp) rfl rfl; exact u.trans (congrArg some h)
      obtain ⟨_, u43, _, ⟨A', c', rfl, ho⟩⟩ := hd.out ⟨18, .data⟩ (some 43) (by simp) rfl rfl
      have u35 : act.tmps[35]? = some (.int .i64 k2) := by obtain ⟨_, u, _, h⟩ := hd.out ⟨10, .data⟩ (some 35) (by simp) rfl rfl; exact u.trans (congrArg some h)
      have u31 : act.tmps[31]? = some (.bool true) := by obtain ⟨_, u, _, h⟩ := hd.out ⟨6, .guard⟩ (some 31) (by simp) rfl rfl; exact u.trans (congrArg some h)
      clear hd hi
      clear hvs
      refine wanted_yes rfl rfl u31 ?_
      go_simp
      exact hK.out _ _ ⟨_, _, rfl, ho⟩ hS (snC_of (Below.refl _ _) hS.size)
    refine FlowStepsX.stepY 48 24 21 rfl rfl (by kernel_rfl) (by kernel_rfl) (by kernel_rfl) rfl rfl ?_ ?_
    ·
      intro cc act vs W hcc ha hvs hS hd hi K hK
      clear ha
      obtain ⟨_, u44, _, ⟨A', c', rfl, ho⟩⟩ := hd.out ⟨19, .data⟩ (some 44) (by simp) rfl rfl
      have u31 : act.tmps[31]? = some (.bool true) := by obtain ⟨_, u, _, h⟩ := hd.out ⟨6, .guard⟩ (some 31) (by simp) rfl rfl; exact u.trans (congrArg some h)
      clear hd hi
      clear hvs
      refine wanted_yes rfl rfl u31 ?_
      go_wp2_with fail
      refine (lvImpl_c _ _ (1 + nl) _ _ (t :: l) (by omega) ho.cap.1 ho.cap.2 _ (ho.ins (by simp [HLL.out]; omega))).mono ?_
      rintro e w6 ⟨rfl, hb6⟩
      exact hK.out _ w6 (congrArg Value.bool (listB_twice HT.out)) (hS.trans (hb6.mono hS.size)) (snC_of hb6 hS.size)
    refine FlowStepsX.stepY 48 24 22 rfl rfl (by kernel_rfl) (by kernel_rfl) (by kernel_rfl) rfl rfl ?_ ?_
    ·
      intro cc act vs W hcc ha hvs hS hd hi K hK
      clear ha
      have u45 : act.tmps[45]? = some (.bool false) := by obtain ⟨_, u, _, h⟩ := hd.out ⟨20, .data⟩ (some 45) (by simp) rfl rfl; exact u.trans (congrArg some h)
      have u31 : act.tmps[31]? = some (.bool true) := by obtain ⟨_, u, _, h⟩ := hd.out ⟨6, .guard⟩ (some 31) (by simp) rfl rfl; exact u.trans (congrArg some h)
      clear hd hi
      clear hvs
      refine wanted_yes rfl rfl u31 ?_
      go_simp
      exact hK.out _ _ rfl hS (snC_of (Below.refl _ _) hS.size)
    refine FlowStepsX.stepY 48 24 23 rfl rfl (by kernel_rfl) (by kernel_rfl) (by kernel_rfl) rfl rfl ?_ ?_
    ·
      intro cc act vs W hcc ha hvs hS hd hi K hK
      clear ha
      have u31 : act.tmps[31]? = some (.bool true) := by obtain ⟨_, u, _, h⟩ := hd.out ⟨6, .data⟩ (some 31) (by simp) rfl rfl; exact u.trans (congrArg some h)
      have u46 : act.tmps[46]? = some (.bool true) := by obtain ⟨_, u, _, h⟩ := hd.out ⟨21, .data⟩ (some 46) (by simp) rfl rfl; exact u.trans (congrArg some h)
      clear hd hi
      clear hvs
      refine wanted_un rfl ?_
      go_simp
      exact hK.out _ _ rfl hS (snC_of (Below.refl _ _) hS.size)
    refine FlowStepsX.stepY 48 24 24 rfl rfl (by kernel_rfl) (by kernel_rfl) (by kernel_rfl) rfl rfl ?_ ?_
    ·
      intro cc act vs W hcc ha hvs hS hd hi K hK
      clear ha
      have u47 : act.tmps[47]? = some (.bool true) := by obtain ⟨_, u, _, h⟩ := hd.out ⟨22, .data⟩ (some 47) (by simp) rfl rfl; exact u.trans (congrArg some h)
      clear hd hi
      clear hvs
      refine wanted_un rfl ?_
      go_simp
      exact hK.out _ _ rfl hS (snC_of (Below.refl _ _) hS.size)
    exact FlowStepsX.nil
  · intro c' ρ W hc' hS hd
    simp only [putFrom, Act.put, List.setIfInBounds_toArray, List.set_cons_zero, List.set_cons_succ, Nat.reduceAdd]
    have e23 : ρ 23 = .bool true := hd.out 23 (by decide) (by kernel_rfl)
    clear hd
    generalize ρ 23 = z at e23 ⊢
    subst e23
    have BW := hide (B4.out.trans (hS.mono B4.out.size))
    go_wp2_with fail
    go_ret
    exact ⟨rfl, BW.out⟩
end Go.Proofs.Ytpifnfhgaemdmaa
