/-
  WaitProcess of the program. No condition.
-/
import Derived.Test.YtlfchcjollcdhaaProg
import Derived.Test.YtlfchcjollcdhaaPrw
import Derived.Test.YtlfchcjollcdhaaFlowT
namespace Go.Proofs.Ytlfchcjollcdhaa
open Go.RowKit
set_option linter.unusedSimpArgs false
set_option linter.unusedVariables false

theorem idxW_none {l : List Pcs} {q : Int} (h : ∀ (i : Nat) (s : Pcs), i < l.length → l[i]? = some s → isW q s = false) : idxW l q = -1 := by
  unfold idxW; rw [fiW_none h]
theorem idxW_some {l : List Pcs} {q : Int} {k : Nat} {t : Pcs} (ht : l[k]? = some t) (hy : isW q t = true) (h : ∀ (i : Nat) (s : Pcs), i < k → l[i]? = some s → isW q s = false) : idxW l q = k := by
  unfold idxW; rw [fiW_some ht hy h]
theorem wp1_c (t : Pcs) (q : Int) (p : Nat) (w : World) (hp : w.cell? ⟨p, 0, none⟩ = some (.int .i64 q)) (hpl : p < w.heap.size) :
    Calls Try.prog 46 #[.agg #[.int .i64 t.number, .int .i64 t.parent, .int .i64 t.real, .int .i64 t.acts, .int .i64 t.saved, .int .i64 t.groups, .bool t.ended, .int .i64 t.result], .pointer (some ⟨p, 0, none⟩)] w fun e w' => e = .returned (.bool (isW q t)) ∧ Below w.heap.size w w' := by
  obtain ⟨t0, t1, t2, t3, t4, t5, t6, t7⟩ := t
  have hp' := ((below_alloc0 (Below.refl _ _) _ : Below w.heap.size w (w.alloc (.cells #[.int .i64 t0, .int .i64 t1, .int .i64 t2, .int .i64 t3, .int .i64 t4, .int .i64 t5, .bool t6, .int .i64 t7] 39))).cell (p := ⟨p, 0, none⟩) hpl).trans hp
  cases t6
  all_goals
    go_enter Try.func46, Try.ntmps46
    go_wp2_with fail
    go_ret
    exact ⟨by simp [isW], below_alloc0 (Below.refl _ _) _⟩
set_option maxHeartbeats 1000000 in
theorem indexW_c (A : Option Addr) (n c : Nat) (l : List Pcs) (q : Int) (p : Nat) (w : World) (hI : InProcess w A n l) (hn : n ≤ 1048576)
    (hp : w.cell? ⟨p, 0, none⟩ = some (.int .i64 q)) (hpl : p < w.heap.size) :
    Calls Try.prog 45 #[.slice A n c, .func (.func 46) #[] #[.pointer (some ⟨p, 0, none⟩)]] w fun e w' => e = .returned (.int .i64 (idxW l q)) ∧ Below w.heap.size w w' := by
  have HI := hide hI
  have HL := hide hI.1
  have HP := hide (And.intro hp hpl)
  clear hI hp hpl
  go_enter Try.func45, Try.ntmps45
  go_wp2_with fail
  go_loopw [8] (fun kv wr => ∃ i : Nat, i ≤ n ∧ kv = .int .i64 i ∧ Hid (∀ (j : Nat) (s : Pcs), j < i → l[j]? = some s → isW q s = false) ∧ Hid (Below w.heap.size w wr)) (fun kv _ => n - (intOf kv).toNat)
  case atStart => exact ⟨0, by omega, rfl, fun j s hj => absurd hj (by omega), Below.refl _ _⟩
  case round =>
    obtain ⟨i, hi, rfl, hin, hbel⟩ := hrel
    by_cases hlt : i < n
    · obtain ⟨t, ht⟩ : ∃ t, l[i]? = some t := ⟨_, List.getElem?_eq_getElem (by rw [HL.out]; exact hlt)⟩
      have HT := hide ht
      obtain ⟨b, off, hA, hR⟩ := HI.out.2 (by omega)
      subst hA
      have hRw := hR.below hbel.out
      obtain ⟨c0, c1, c2, c3, c4, c5, c6, c7⟩ := hRw.2 i t ht
      have hbl := hRw.1
      clear ht hR hRw
      have hC := wp1_c t q p wr ((hbel.out.cell (p := ⟨p, 0, none⟩) HP.out.2).trans HP.out.1) (Nat.lt_of_lt_of_le HP.out.2 hbel.out.size)
      go_wp2_with fail
      refine hC.mono ?_
      rintro e w1 ⟨rfl, hb1⟩
      have HB1 := hide hb1
      clear hb1 hC
      cases hg : isW q t
      · go_wp2_with fail
        refine ⟨⟨i + 1, by omega, by go_num, fun j s hj hs => ?_, hbel.out.trans (HB1.out.mono hbel.out.size)⟩, by simp [intOf]; omega⟩
        rcases Nat.lt_or_ge j i with h | h
        · exact hin.out j s h hs
        · obtain rfl : j = i := by omega
          obtain rfl : s = t := by have := hs.symm.trans HT.out; simpa using this
          exact hg
      · go_wp2_with fail
        go_ret
        exact ⟨by rw [idxW_some HT.out hg hin.out]; rfl, hbel.out.trans (HB1.out.mono hbel.out.size)⟩
    · obtain rfl : i = n := by omega
      go_wp2
      go_ret
      exact ⟨by rw [idxW_none (fun j s hj => hin.out j s (by rw [← HL.out]; exact hj))]; rfl, hbel.out⟩
/-- What is known of each operation of the last statement. -/
def wiF (b off c k j gz cz : Nat) (tn tr : Int) (i : Nat) (v : Value) (vs : List Value) (W : World) : Prop :=
  match i with
  | 0 => v = .slice (some ⟨gz, 0, none⟩) (k + 1) cz
  | 1 => v = .int .i64 j
  | 2 => v = .int .i64 j
  | 3 => v = .int .i64 ((j : Int) + 1)
  | 4 => v = .slice (some ⟨gz, 0, none⟩) k cz
  | 5 => v = .slice (some ⟨b, off, none⟩) (k + 1) c
  | 6 => v = .int .i64 j
  | 7 => v = .pointer (some ⟨b, off + j * 8, none⟩)
  | 8 => v = .pointer (some ⟨b, off + j * 8, none⟩)
  | 9 => v = .int .i64 tn
  | 10 => v = .slice (some ⟨b, off, none⟩) (k + 1) c
  | 11 => v = .int .i64 j
  | 12 => v = .pointer (some ⟨b, off + j * 8, none⟩)
  | 13 => v = .pointer (some ⟨b, off + j * 8 + 7, none⟩)
  | 14 => v = .int .i64 tr
  | 15 => v = .slice (some ⟨gz, 0, none⟩) k cz
  | 16 => v = .int .i64 tn
  | 17 => v = .int .i64 tr
  | _ => True
def wiS (w : World) (b off j gz cz k : Nat) (l : List Pcs) (d : Nat → Bool) (W : World) : Prop :=
  (d 4 = false → OwnSP W w.heap.size (k + 1) cz (some ⟨gz, 0, none⟩) l) ∧ (d 4 = true → OwnSP W w.heap.size k cz (some ⟨gz, 0, none⟩) (l.eraseIdx j)) ∧ RdProcess W b off l ∧ Below w.heap.size w W
theorem RdProcess.offs {w w' : World} {A : Option Addr} {b off : Nat} {l : List Pcs} (h : RdProcess w b off l) (ho : Offs A w w') (hA : ∀ a, A = some a → b ≠ a.block) : RdProcess w' b off l := by
  have hc : ∀ o, w'.cell? ⟨b, o, none⟩ = w.cell? ⟨b, o, none⟩ := fun o => by simp [World.cell?, ho.2 b h.1 hA]
  refine ⟨Nat.lt_of_lt_of_le h.1 ho.1.size, fun k t ht => ?_⟩
  obtain ⟨h0, h1, h2, h3, h4, h5, h6, h7⟩ := h.2 k t ht
  exact ⟨(hc _).trans h0, (hc _).trans h1, (hc _).trans h2, (hc _).trans h3, (hc _).trans h4, (hc _).trans h5, (hc _).trans h6, (hc _).trans h7⟩
set_option maxRecDepth 100000 in
set_option maxHeartbeats 4000000 in
theorem waitImpl_c (A : Option Addr) (n c : Nat) (l : List Pcs) (q : Int) (hn : n ≤ 1048576) (hc : n ≤ c) (w : World) (hI : InProcess w A n l) :
    Calls Try.prog 26 #[.slice A n c, .int .i64 q] w (WtOut w l q) := by
  have HI := hide hI
  have HL := hide hI.1
  clear hI
  go_enter Try.func26, Try.ntmps26
  go_wp2_with fail
  have b0 : Below w.heap.size w (w.alloc (.cells #[.int .i64 q] 3)) := below_alloc0 (Below.refl _ _) _
  refine (pvImpl_c _ _ _ l hn hc _ (HI.out.below b0)).mono ?_
  rintro e w1 ⟨rfl, hb1⟩
  have B1 := hide (below_via0 b0 hb1)
  have L1 := live hb1 w.heap.size (by simp)
  have x0 : w1.cell? ⟨w.heap.size, 0, none⟩ = some (.int .i64 q) := by simp [go_sem, L1]
  have xl := L1.1
  clear hb1 b0 L1
  cases hv : procsB l
  · have HF := hide (wait_bad (q := q) hv)
    clear hv
    go_wp2_with fail
    exact bodyPost_ret (v := .tuple #[.slice none 0 0, .int .i64 0, .int .i64 (-1)]) (by simp [results, Try.results26, go_sem]) rfl (WtOut.of HF.out.1 HF.out.2.1 HF.out.2.2 rfl (.inl ⟨rfl, rfl, rfl⟩) B1.out)
  have HV := hide hv
  have hpv := procsB_iff.1 hv
  obtain ⟨k, rfl⟩ : ∃ k, n = k + 1 := ⟨n - 1, by have := hpv.2.1; have := HL.out; omega⟩
  have hk10 : k + 1 ≤ 10 := by have := hpv.2.2.1; rw [HL.out] at this; exact this
  obtain ⟨b, off, hA, hR⟩ := HI.out.2 (by omega)
  subst hA
  have hR1 := hide (hR.below B1.out)
  have hbw : b < w.heap.size := hR.1
  clear hv hpv hR
  go_wp2_with fail
  refine (cloneP_c b off (k + 1) c l HL.out hn _ hR1.out).mono ?_
  rintro e w2 ⟨gz, cz, rfl, ho, hb2⟩
  have O2 := hide (ho.mono B1.out.size)
  have hgw : w1.heap.size ≤ gz := ho.ge _ rfl
  have B2 := hide (B1.out.trans (hb2.mono B1.out.size))
  have hR2 := hide (hR1.out.below hb2)
  have x2 := (hb2.cell (p := ⟨w.heap.size, 0, none⟩) xl).trans x0
  have xl2 : w.heap.size < w2.heap.size := Nat.lt_of_lt_of_le xl hb2.size
  have hs12 := B1.out.size
  clear ho hb2 x0
  go_wp2_with fail
  refine (indexW_c _ _ _ l q w.heap.size _ ⟨HL.out, fun _ => ⟨_, _, rfl, hR2.out⟩⟩ (by omega) x2 xl2).mono ?_
  rintro e w4 ⟨rfl, hb4⟩
  have B4 := hide (B2.out.trans (hb4.mono B2.out.size))
  have O4 := hide (O2.out.below hb4)
  have HR4 := hide (hR2.out.below hb4)
  clear hb4 x2
  cases hf : l.findIdx? (isW q) with
  | none =>
    have HF := hide (wait_no HV.out hf)
    have hx : idxW l q = -1 := by simp only [idxW, hf]
    rw [hx]
    clear hx hf
    go_wp2_with fail
    exact bodyPost_ret (v := .tuple #[.slice (some ⟨gz, 0, none⟩) (k + 1) cz, .int .i64 0, .int .i64 (-1)]) (by simp [results, Try.results26, go_sem]) rfl (WtOut.of HF.out.1 HF.out.2.1 HF.out.2.2 HL.out O4.out B4.out)
  | some j =>
    have hx : idxW l q = j := by simp only [idxW, hf]
    have hj : j < l.length := (List.findIdx?_eq_some_iff_getElem.1 hf).1
    obtain ⟨t, ht⟩ : ∃ t, l[j]? = some t := ⟨_, List.getElem?_eq_getElem hj⟩
    have HF := hide (wait_yes HV.out hf ht)
    have HT := hide ht
    rw [HL.out] at hj
    have HJK := hide hj
    have HJI := hide (show (j : Int) < (k : Int) + 1 by omega)
    have HJW := hide (show IntKind.i64.wrap ((j : Int) + 1) = (j : Int) + 1 from IntWalk.i64_in _ (by omega))
    have HNE := hide (show ∀ a : Addr, some (⟨gz, 0, none⟩ : Addr) = some a → b ≠ a.block from fun a ha => by cases ha; show b ≠ gz; omega)
    have j0 : ¬ ((j : Int) < 0) := by omega
    rw [hx]
    clear hx hf ht
    go_wp2_with fail
    refine wp_flowT' (os := [_, _, _, _, _, _, _, _, _, _, _, _, _, _, _, _, _, _]) (wiS w b off j gz cz k l) ((fun i W W' => True)) (wiF b off c k j gz cz t.number t.result) 18 rfl ?_ ?_ ?_ ?_ ?_ ?_ ?_
    · kernel_rfl
    · kernel_rfl
    · kernel_rfl
    · exact (fun i j v vs w1 w2 hij hdd hbf h hc => h)
    · exact ⟨fun _ => O4.out, (fun e => by cases e), HR4.out, B4.out.drew⟩
    ·
      refine FlowStepsT.stepY 35 18 1 rfl rfl (by kernel_rfl) (by kernel_rfl) (by kernel_rfl) rfl rfl ?_ ?_
      ·
        intro cc act vs W hcc ha hvs hS hd hi K hK
        clear ha
        have u7 : act.tmps[7]? = some (.slice (some ⟨gz, 0, none⟩) (k + 1) cz) := (hi.out 7 (by kernel_rfl)).trans rfl
        clear hd hi
        clear hvs
        refine wanted_un rfl ?_
        go_simp
        exact hK.out _ _ rfl hS trivial
      refine FlowStepsT.stepY 35 18 2 rfl rfl (by kernel_rfl) (by kernel_rfl) (by kernel_rfl) rfl rfl ?_ ?_
      ·
        intro cc act vs W hcc ha hvs hS hd hi K hK
        clear ha
        have u8 : act.tmps[8]? = some (.int .i64 j) := (hi.out 8 (by kernel_rfl)).trans rfl
        clear hd hi
        clear hvs
        refine wanted_un rfl ?_
        go_simp
        exact hK.out _ _ rfl hS trivial
      refine FlowStepsT.stepY 35 18 3 rfl rfl (by kernel_rfl) (by kernel_rfl) (by kernel_rfl) rfl rfl ?_ ?_
      ·
        intro cc act vs W hcc ha hvs hS hd hi K hK
        clear ha
        have u8 : act.tmps[8]? = some (.int .i64 j) := (hi.out 8 (by kernel_rfl)).trans rfl
        clear hd hi
        clear hvs
        refine wanted_un rfl ?_
        go_simp
        exact hK.out _ _ rfl hS trivial
      refine FlowStepsT.stepY 35 18 4 rfl rfl (by kernel_rfl) (by kernel_rfl) (by kernel_rfl) rfl rfl ?_ ?_
      ·
        intro cc act vs W hcc ha hvs hS hd hi K hK
        clear ha
        have u22 : act.tmps[22]? = some (.int .i64 j) := by obtain ⟨_, u, _, h⟩ := hd.out ⟨2, .data⟩ (some 22) (by simp) rfl rfl; exact u.trans (congrArg some h)
        clear hd hi
        clear hvs
        refine wanted_un rfl ?_
        have jw := HJW.out
        go_simp
        exact hK.out _ _ rfl hS trivial
      refine FlowStepsT.stepY 35 18 5 rfl rfl (by kernel_rfl) (by kernel_rfl) (by kernel_rfl) rfl rfl ?_ ?_
      ·
        intro cc act vs W hcc ha hvs hS hd hi K hK
        clear ha
        have u20 : act.tmps[20]? = some (.slice (some ⟨gz, 0, none⟩) (k + 1) cz) := by obtain ⟨_, u, _, h⟩ := hd.out ⟨0, .data⟩ (some 20) (by simp) rfl rfl; exact u.trans (congrArg some h)
        have u21 : act.tmps[21]? = some (.int .i64 j) := by obtain ⟨_, u, _, h⟩ := hd.out ⟨1, .data⟩ (some 21) (by simp) rfl rfl; exact u.trans (congrArg some h)
        have u23 : act.tmps[23]? = some (.int .i64 ((j : Int) + 1)) := by obtain ⟨_, u, _, h⟩ := hd.out ⟨3, .data⟩ (some 23) (by simp) rfl rfl; exact u.trans (congrArg some h)
        clear hd hi
        clear hvs
        refine wanted_un rfl ?_
        obtain ⟨s1, s2, s3, s4⟩ := hS
        go_wp2_with fail
        refine (deleteP_c gz cz k j w.heap.size l HL.out HJK.out (by omega) _ (s1 hcc.out.1)).mono ?_
        rintro e w6 ⟨rfl, ho, hoff⟩
        have hsz := s4.size
        have hgw : w.heap.size ≤ gz := (s1 hcc.out.1).ge _ rfl
        exact hK.out _ w6 rfl ⟨(fun e => by cases e), fun _ => ho, RdProcess.offs s3 hoff HNE.out, hoff.below s4 (fun a ha => by cases ha; exact hgw) hsz⟩ trivial
      refine FlowStepsT.stepY 35 18 6 rfl rfl (by kernel_rfl) (by kernel_rfl) (by kernel_rfl) rfl rfl ?_ ?_
      ·
        intro cc act vs W hcc ha hvs hS hd hi K hK
        clear ha
        have u0 : act.tmps[0]? = some (.slice (some ⟨b, off, none⟩) (k + 1) c) := (hi.out 0 (by kernel_rfl)).trans rfl
        clear hd hi
        clear hvs
        refine wanted_un rfl ?_
        go_simp
        exact hK.out _ _ rfl hS trivial
      refine FlowStepsT.stepY 35 18 7 rfl rfl (by kernel_rfl) (by kernel_rfl) (by kernel_rfl) rfl rfl ?_ ?_
      ·
        intro cc act vs W hcc ha hvs hS hd hi K hK
        clear ha
        have u8 : act.tmps[8]? = some (.int .i64 j) := (hi.out 8 (by kernel_rfl)).trans rfl
        clear hd hi
        clear hvs
        refine wanted_un rfl ?_
        go_simp
        exact hK.out _ _ rfl hS trivial
      refine FlowStepsT.stepY 35 18 8 rfl rfl (by kernel_rfl) (by kernel_rfl) (by kernel_rfl) rfl rfl ?_ ?_
      ·
        intro cc act vs W hcc ha hvs hS hd hi K hK
        clear ha
        have u25 : act.tmps[25]? = some (.slice (some ⟨b, off, none⟩) (k + 1) c) := by obtain ⟨_, u, _, h⟩ := hd.out ⟨5, .data⟩ (some 25) (by simp) rfl rfl; exact u.trans (congrArg some h)
        have u26 : act.tmps[26]? = some (.int .i64 j) := by obtain ⟨_, u, _, h⟩ := hd.out ⟨6, .data⟩ (some 26) (by simp) rfl rfl; exact u.trans (congrArg some h)
        clear hd hi
        clear hvs
        refine wanted_un rfl ?_
        have jj := HJI.out
        go_simp
        exact hK.out _ _ rfl hS trivial
      refine FlowStepsT.stepY 35 18 9 rfl rfl (by kernel_rfl) (by kernel_rfl) (by kernel_rfl) rfl rfl ?_ ?_
      ·
        intro cc act vs W hcc ha hvs hS hd hi K hK
        clear ha
        have u27 : act.tmps[27]? = some (.pointer (some ⟨b, (off + j * 8), none⟩)) := by obtain ⟨_, u, _, h⟩ := hd.out ⟨7, .data⟩ (some 27) (by simp) rfl rfl; exact u.trans (congrArg some h)
        clear hd hi
        clear hvs
        refine wanted_un rfl ?_
        go_simp
        exact hK.out _ _ rfl hS trivial
      refine FlowStepsT.stepY 35 18 10 rfl rfl (by kernel_rfl) (by kernel_rfl) (by kernel_rfl) rfl rfl ?_ ?_
      ·
        intro cc act vs W hcc ha hvs hS hd hi K hK
        clear ha
        have u28 : act.tmps[28]? = some (.pointer (some ⟨b, (off + j * 8), none⟩)) := by obtain ⟨_, u, _, h⟩ := hd.out ⟨8, .data⟩ (some 28) (by simp) rfl rfl; exact u.trans (congrArg some h)
        clear hd hi
        clear hvs
        refine wanted_un rfl ?_
        obtain ⟨r0, r1, r2, r3, r4, r5, r6, r7⟩ := hS.2.2.1.2 j t HT.out
        have rl := hS.2.2.1.1
        go_simp
        exact hK.out _ _ rfl hS trivial
      refine FlowStepsT.stepY 35 18 11 rfl rfl (by kernel_rfl) (by kernel_rfl) (by kernel_rfl) rfl rfl ?_ ?_
      ·
        intro cc act vs W hcc ha hvs hS hd hi K hK
        clear ha
        have u0 : act.tmps[0]? = some (.slice (some ⟨b, off, none⟩) (k + 1) c) := (hi.out 0 (by kernel_rfl)).trans rfl
        clear hd hi
        clear hvs
        refine wanted_un rfl ?_
        go_simp
        exact hK.out _ _ rfl hS trivial
      refine FlowStepsT.stepY 35 18 12 rfl rfl (by kernel_rfl) (by kernel_rfl) (by kernel_rfl) rfl rfl ?_ ?_
      ·
        intro cc act vs W hcc ha hvs hS hd hi K hK
        clear ha
        have u8 : act.tmps[8]? = some (.int .i64 j) := (hi.out 8 (by kernel_rfl)).trans rfl
        clear hd hi
        clear hvs
        refine wanted_un rfl ?_
        go_simp
        exact hK.out _ _ rfl hS trivial
      refine FlowStepsT.stepY 35 18 13 rfl rfl (by kernel_rfl) (by kernel_rfl) (by kernel_rfl) rfl rfl ?_ ?_
      ·
        intro cc act vs W hcc ha hvs hS hd hi K hK
        clear ha
        have u30 : act.tmps[30]? = some (.slice (some ⟨b, off, none⟩) (k + 1) c) := by obtain ⟨_, u, _, h⟩ := hd.out ⟨10, .data⟩ (some 30) (by simp) rfl rfl; exact u.trans (congrArg some h)
        have u31 : act.tmps[31]? = some (.int .i64 j) := by obtain ⟨_, u, _, h⟩ := hd.out ⟨11, .data⟩ (some 31) (by simp) rfl rfl; exact u.trans (congrArg some h)
        clear hd hi
        clear hvs
        refine wanted_un rfl ?_
        have jj := HJI.out
        go_simp
        exact hK.out _ _ rfl hS trivial
      refine FlowStepsT.stepY 35 18 14 rfl rfl (by kernel_rfl) (by kernel_rfl) (by kernel_rfl) rfl rfl ?_ ?_
      ·
        intro cc act vs W hcc ha hvs hS hd hi K hK
        clear ha
        have u32 : act.tmps[32]? = some (.pointer (some ⟨b, (off + j * 8), none⟩)) := by obtain ⟨_, u, _, h⟩ := hd.out ⟨12, .data⟩ (some 32) (by simp) rfl rfl; exact u.trans (congrArg some h)
        clear hd hi
        clear hvs
        refine wanted_un rfl ?_
        go_simp
        exact hK.out _ _ rfl hS trivial
      refine FlowStepsT.stepY 35 18 15 rfl rfl (by kernel_rfl) (by kernel_rfl) (by kernel_rfl) rfl rfl ?_ ?_
      ·
        intro cc act vs W hcc ha hvs hS hd hi K hK
        clear ha
        have u33 : act.tmps[33]? = some (.pointer (some ⟨b, (off + j * 8 + 7), none⟩)) := by obtain ⟨_, u, _, h⟩ := hd.out ⟨13, .data⟩ (some 33) (by simp) rfl rfl; exact u.trans (congrArg some h)
        clear hd hi
        clear hvs
        refine wanted_un rfl ?_
        obtain ⟨r0, r1, r2, r3, r4, r5, r6, r7⟩ := hS.2.2.1.2 j t HT.out
        have rl := hS.2.2.1.1
        go_simp
        exact hK.out _ _ rfl hS trivial
      refine FlowStepsT.stepY 35 18 16 rfl rfl (by kernel_rfl) (by kernel_rfl) (by kernel_rfl) rfl rfl ?_ ?_
      ·
        intro cc act vs W hcc ha hvs hS hd hi K hK
        clear ha
        have u24 : act.tmps[24]? = some (.slice (some ⟨gz, 0, none⟩) k cz) := by obtain ⟨_, u, _, h⟩ := hd.out ⟨4, .data⟩ (some 24) (by simp) rfl rfl; exact u.trans (congrArg some h)
        clear hd hi
        clear hvs
        refine wanted_un rfl ?_
        go_simp
        exact hK.out _ _ rfl hS trivial
      refine FlowStepsT.stepY 35 18 17 rfl rfl (by kernel_rfl) (by kernel_rfl) (by kernel_rfl) rfl rfl ?_ ?_
      ·
        intro cc act vs W hcc ha hvs hS hd hi K hK
        clear ha
        have u29 : act.tmps[29]? = some (.int .i64 t.number) := by obtain ⟨_, u, _, h⟩ := hd.out ⟨9, .data⟩ (some 29) (by simp) rfl rfl; exact u.trans (congrArg some h)
        clear hd hi
        clear hvs
        refine wanted_un rfl ?_
        go_simp
        exact hK.out _ _ rfl hS trivial
      refine FlowStepsT.stepY 35 18 18 rfl rfl (by kernel_rfl) (by kernel_rfl) (by kernel_rfl) rfl rfl ?_ ?_
      ·
        intro cc act vs W hcc ha hvs hS hd hi K hK
        clear ha
        have u34 : act.tmps[34]? = some (.int .i64 t.result) := by obtain ⟨_, u, _, h⟩ := hd.out ⟨14, .data⟩ (some 34) (by simp) rfl rfl; exact u.trans (congrArg some h)
        clear hd hi
        clear hvs
        refine wanted_un rfl ?_
        go_simp
        exact hK.out _ _ rfl hS trivial
      exact FlowStepsT.nil
    · intro d ρ W hdd hS hd
      simp only [putFrom, Act.put, List.setIfInBounds_toArray, List.set_cons_zero, List.set_cons_succ, Nat.reduceAdd]
      have e15 : ρ 15 = .slice (some ⟨gz, 0, none⟩) k cz := hd.out 15 (by decide) (by kernel_rfl)
      have e16 : ρ 16 = .int .i64 t.number := hd.out 16 (by decide) (by kernel_rfl)
      have e17 : ρ 17 = .int .i64 t.result := hd.out 17 (by decide) (by kernel_rfl)
      clear hd
      generalize ρ 15 = z15 at e15 ⊢
      generalize ρ 16 = z16 at e16 ⊢
      generalize ρ 17 = z17 at e17 ⊢
      subst e15 e16 e17
      have OW := hide (hS.2.1 (hdd 4 (by omega)))
      have BW := hide hS.2.2.2
      clear hS hdd
      go_wp2_with fail
      exact bodyPost_ret (v := .tuple #[.slice (some ⟨gz, 0, none⟩) k cz, .int .i64 t.number, .int .i64 t.result]) (by simp [results, Try.results26, go_sem]) rfl (WtOut.of HF.out.1 HF.out.2.1 HF.out.2.2 (by rw [List.length_eraseIdx, HL.out, if_pos HJK.out]; omega) OW.out BW.out)
end Go.Proofs.Ytlfchcjollcdhaa
