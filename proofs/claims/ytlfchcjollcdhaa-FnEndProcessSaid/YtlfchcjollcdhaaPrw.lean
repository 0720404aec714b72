/-
  WaitProcess: what it gives; of the reference. No condition.
-/
import Derived.Test.YtlfchcjollcdhaaProg
import Derived.Test.YtlfchcjollcdhaaPrd
import Derived.Test.YtlfchcjollcdhaaFlowZ
namespace Go.Proofs.Ytlfchcjollcdhaa
open Go.RowKit
set_option linter.unusedSimpArgs false
set_option linter.unusedVariables false

/-- One that is waited for. -/
def isW (q : Int) (t : Pcs) : Bool := t.ended && (t.parent == q)
def idxW (l : List Pcs) (q : Int) : Int := match l.findIdx? (isW q) with | some j => (j : Int) | none => -1
noncomputable def waitL (l : List Pcs) (q : Int) : List Pcs := if procsB l = true then (match l.findIdx? (isW q) with | some j => l.eraseIdx j | none => l) else []
noncomputable def waitN (l : List Pcs) (q : Int) : Int := if procsB l = true then (match l.find? (isW q) with | some t => t.number | none => 0) else 0
noncomputable def waitR (l : List Pcs) (q : Int) : Int := if procsB l = true then (match l.find? (isW q) with | some t => t.result | none => -1) else -1
def WtOut (w : World) (l : List Pcs) (q : Int) (e : Ending) (w' : World) : Prop :=
  ∃ (A : Option Addr) (n c : Nat), e = .returned (.tuple #[.slice A n c, .int .i64 (waitN l q), .int .i64 (waitR l q)]) ∧ (waitL l q).length = n ∧ OwnSP w' w.heap.size n c A (waitL l q) ∧ Below w.heap.size w w'
theorem WtOut.of {w w' : World} {l L : List Pcs} {q N R : Int} {A : Option Addr} {n c : Nat} (hL : waitL l q = L) (hN : waitN l q = N) (hR : waitR l q = R) (hl : L.length = n) (ho : OwnSP w' w.heap.size n c A L) (hb : Below w.heap.size w w') : WtOut w l q (.returned (.tuple #[.slice A n c, .int .i64 N, .int .i64 R])) w' := by
  subst hL hN hR
  exact ⟨A, n, c, rfl, hl, ho, hb⟩
theorem wait_bad {l : List Pcs} {q : Int} (h : procsB l = false) : waitL l q = [] ∧ waitN l q = 0 ∧ waitR l q = -1 := by simp [waitL, waitN, waitR, h]
theorem findW_none {l : List Pcs} {q : Int} (h : l.findIdx? (isW q) = none) : l.find? (isW q) = none := by
  rw [List.find?_eq_none]
  intro x hx
  rw [List.findIdx?_eq_none_iff] at h
  simpa using h x hx
theorem findW_some {l : List Pcs} {q : Int} {j : Nat} {t : Pcs} (h : l.findIdx? (isW q) = some j) (ht : l[j]? = some t) : l.find? (isW q) = some t := by
  obtain ⟨hj, hy, hn⟩ := List.findIdx?_eq_some_iff_getElem.1 h
  rw [List.find?_eq_some_iff_getElem]
  have : l[j] = t := by rw [List.getElem?_eq_getElem hj] at ht; simpa using ht
  exact ⟨by rw [← this]; exact hy, j, hj, this, fun i hi => by simpa using hn i hi⟩
theorem wait_no {l : List Pcs} {q : Int} (h : procsB l = true) (hf : l.findIdx? (isW q) = none) : waitL l q = l ∧ waitN l q = 0 ∧ waitR l q = -1 := by simp [waitL, waitN, waitR, h, hf, findW_none hf]
theorem wait_yes {l : List Pcs} {q : Int} {j : Nat} {t : Pcs} (h : procsB l = true) (hf : l.findIdx? (isW q) = some j) (ht : l[j]? = some t) : waitL l q = l.eraseIdx j ∧ waitN l q = t.number ∧ waitR l q = t.result := by simp [waitL, waitN, waitR, h, hf, findW_some hf ht]
theorem fiW_none {l : List Pcs} {q : Int} (h : ∀ (i : Nat) (s : Pcs), i < l.length → l[i]? = some s → isW q s = false) : l.findIdx? (isW q) = none := by
  rw [List.findIdx?_eq_none_iff]
  intro x hx
  obtain ⟨i, hi, rfl⟩ := List.getElem_of_mem hx
  exact h i _ hi (List.getElem?_eq_getElem hi)
theorem fiW_some {l : List Pcs} {q : Int} {k : Nat} {t : Pcs} (ht : l[k]? = some t) (hy : isW q t = true) (h : ∀ (i : Nat) (s : Pcs), i < k → l[i]? = some s → isW q s = false) : l.findIdx? (isW q) = some k := by
  obtain ⟨hk, rfl⟩ := List.getElem?_eq_some_iff.1 ht
  rw [List.findIdx?_eq_some_iff_getElem]
  exact ⟨hk, hy, fun j hj => by simpa using h j _ hj (List.getElem?_eq_getElem (by omega))⟩
theorem erase_eq (l : List Pcs) (j : Nat) : l.take j ++ l.drop (j + 1) = l.eraseIdx j := (List.eraseIdx_eq_take_drop_succ l j).symm
theorem flatP_take {l : List Pcs} {j p : Nat} {u : Value} (h : (flatP (l.take j))[p]? = some u) : (flatP l)[p]? = some u := by
  have hl : p < (flatP (l.take j)).length := (List.getElem?_eq_some_iff.1 h).1
  rw [← List.take_append_drop j l, flatP_app, List.getElem?_append_left hl]
  exact h
/-- What is known of each operation of the statement that appends both parts. -/
def wsF (b off c k j lo : Nat) (l : List Pcs) (i : Nat) (v : Value) (vs : List Value) (W : World) : Prop :=
  match i with
  | 0 => v ≠ .slice none 0 0 ∧ W.ownsRow lo 39 8 v 0 []
  | 1 => v = .slice (some ⟨b, off, none⟩) (k + 1) c
  | 2 => v = .int .i64 j
  | 3 => v = .slice (some ⟨b, off, none⟩) j c
  | 4 => v ≠ .slice none 0 0 ∧ W.ownsRow lo 39 8 v j (flatP (l.take j))
  | 5 => v = .slice (some ⟨b, off, none⟩) (k + 1) c
  | 6 => v = .int .i64 j
  | 7 => v = .int .i64 ((j : Int) + 1)
  | 8 => ∃ ad c', v = .slice (some ad) (k - j) c' ∧ (0 < k - j → ad = ⟨b, off + (j + 1) * 8, none⟩)
  | 9 => ∃ A' c', v = .slice A' k c' ∧ OwnSP W lo k c' A' (l.eraseIdx j)
  | 10 => ∃ A' c', v = .slice A' k c' ∧ OwnSP W lo k c' A' (l.eraseIdx j)
  | _ => True
def wsC (lo i : Nat) (W W' : World) : Prop := if i = 4 ∨ i = 9 then Below lo W W' else Below W.heap.size W W'
theorem wsC.of {lo i : Nat} {W W' : World} (hb : Below W.heap.size W W') (hl : lo ≤ W.heap.size) : wsC lo i W W' := by
  unfold wsC; split
  · exact hb.mono hl
  · exact hb
theorem wsF_keep {b off c k j lo lo' i q : Nat} {l : List Pcs} {v : Value} {vs : List Value} {W W' : World} (h4 : i = 4 ∨ i = 9 → q ≠ 0 ∧ q ≠ 4 ∧ q ≠ 9 ∧ q ≠ 10) (h : wsF b off c k j lo l q v vs W) (hc : wsC lo' i W W') : wsF b off c k j lo l q v vs W' := by
  have hb : ¬ (i = 4 ∨ i = 9) → Below W.heap.size W W' := fun h1 => by unfold wsC at hc; rw [if_neg h1] at hc; exact hc
  unfold wsF at h ⊢
  split <;> simp only at h <;> try exact h
  · exact ⟨h.1, own_below h.2 (hb fun e => (h4 e).1 rfl)⟩
  · exact ⟨h.1, own_below h.2 (hb fun e => (h4 e).2.1 rfl)⟩
  · obtain ⟨A', c', h1, h2⟩ := h
    exact ⟨A', c', h1, h2.below (hb fun e => (h4 e).2.2.1 rfl)⟩
  · obtain ⟨A', c', h1, h2⟩ := h
    exact ⟨A', c', h1, h2.below (hb fun e => (h4 e).2.2.2 rfl)⟩
set_option maxRecDepth 100000 in
set_option maxHeartbeats 4000000 in
theorem waitSpec_c (A : Option Addr) (n c : Nat) (l : List Pcs) (q : Int) (hn : n ≤ 1048576) (hcn : n ≤ c) (w : World) (hI : InProcess w A n l) :
    Calls Try.prog 27 #[.slice A n c, .int .i64 q] w (WtOut w l q) := by
  obtain ⟨i0, hi0, hz0, hz1, hz2⟩ := info_parts infoProcess
  have HII := hide hi0
  have HZ0 := hide hz0
  have HZ1 := hide hz1
  have HZ2 := hide hz2
  clear hi0 hz0 hz1 hz2
  have HI := hide hI
  have HL := hide hI.1
  clear hI
  go_enter Try.func27, Try.ntmps27
  go_wp2_with fail
  refine (pvSpec_c _ _ _ l hn _ HI.out).mono ?_
  rintro e w1 ⟨rfl, hb1⟩
  have B1 := hide hb1
  clear hb1
  cases hv : procsB l
  · have HF := hide (wait_bad (q := q) hv)
    clear hv
    go_wp2_with fail
    exact bodyPost_ret (v := .tuple #[.slice (some ⟨w1.heap.size, 0, none⟩) 0 0, .int .i64 0, .int .i64 (-1)]) (by simp [results, Try.results27, go_sem]) rfl (WtOut.of HF.out.1 HF.out.2.1 HF.out.2.2 rfl (ownSP_empty B1.out.size) (B1.out.alloc B1.out.size _))
  have HV := hide hv
  have hpv := procsB_iff.1 hv
  obtain ⟨k, rfl⟩ : ∃ k, n = k + 1 := ⟨n - 1, by have := hpv.2.1; have := HL.out; omega⟩
  have hk10 : k + 1 ≤ 10 := by have := hpv.2.2.1; rw [HL.out] at this; exact this
  obtain ⟨b, off, hA, hR⟩ := HI.out.2 (by omega)
  subst hA
  have hR1 := hide (hR.below B1.out)
  clear hv hpv hR
  go_wp2_with fail
  go_loopw [7] (fun kv wr => ∃ i : Nat, i ≤ k + 1 ∧ kv = .int .i64 i ∧ Hid (∀ (j : Nat) (s : Pcs), j < i → l[j]? = some s → isW q s = false) ∧ w1 = wr) (fun kv _ => k + 1 - (intOf kv).toNat)
  case atStart => exact ⟨0, by omega, rfl, fun j s hj => absurd hj (by omega), rfl⟩
  case round =>
    obtain ⟨j, hj, rfl, hin, rfl⟩ := hrel
    by_cases hlt : j < k + 1
    · have hltI : (j : Int) < (k : Int) + 1 := by omega
      obtain ⟨t, ht⟩ : ∃ t, l[j]? = some t := ⟨_, List.getElem?_eq_getElem (by rw [HL.out]; exact hlt)⟩
      have HT := hide ht
      obtain ⟨c0, c1, c2, c3, c4, c5, c6, c7⟩ := hR1.out.2 j t ht
      have hbl := hR1.out.1
      clear ht
      cases hte : t.ended
      · rw [hte] at c6
        have hno : isW q t = false := by simp [isW, hte]
        go_wp2_with fail
        refine ⟨⟨j + 1, by omega, by go_num, fun i s hi hs => ?_, trivial⟩, by simp [intOf]; omega⟩
        rcases Nat.lt_or_ge i j with h | h
        · exact hin.out i s h hs
        · obtain rfl : j = i := by omega
          obtain rfl := Option.some.inj (hs.symm.trans HT.out)
          exact hno
      rw [hte] at c6
      cases htp : (t.parent == q)
      · have hno : isW q t = false := by simp [isW, htp]
        go_wp2_with fail
        refine ⟨⟨j + 1, by omega, by go_num, fun i s hi hs => ?_, trivial⟩, by simp [intOf]; omega⟩
        rcases Nat.lt_or_ge i j with h | h
        · exact hin.out i s h hs
        · obtain rfl : j = i := by omega
          obtain rfl := Option.some.inj (hs.symm.trans HT.out)
          exact hno
      have HF := hide (wait_yes (q := q) HV.out (fiW_some HT.out (by simp [isW, hte, htp]) hin.out) HT.out)
      have HJC := hide (show j ≤ c by omega)
      have HJ1 := hide (show (j : Int) + 1 ≤ (k : Int) + 1 by omega)
      have HJW := hide (show IntKind.i64.wrap ((j : Int) + 1) = (j : Int) + 1 from IntWalk.i64_in _ (by omega))
      go_wp2_with fail
      obtain ⟨wr, hwr⟩ : ∃ wr, wr = w1 := ⟨_, rfl⟩
      rw [← hwr] at hR1 B1 c0 c7 hbl ⊢
      have HRr := hR1
      clear hwr c1 c2 c3 c4 c5 c6 hte htp
      refine wp_flowZ (os := [_, _, _, _, _, _, _, _, _, _, _]) (fun cc W => Below wr.heap.size wr W) ((wsC wr.heap.size)) (wsF b off c k j wr.heap.size l) 11 rfl ?_ ?_ ?_ ?_ ?_ ?_ ?_
      · kernel_rfl
      · kernel_rfl
      · kernel_rfl
      · exact (fun i q v vs w1 w2 hij hdd hbf h hc => wsF_keep (by rintro (rfl | rfl); exact ⟨fun e => by subst e; exact absurd (show dead _ 4 0 = true by kernel_rfl) (by rw [hdd]; decide), Ne.symm hij, fun e => by subst e; exact absurd (show beforeX _ 4 9 = true by kernel_rfl) (by rw [hbf]; decide), fun e => by subst e; exact absurd (show beforeX _ 4 10 = true by kernel_rfl) (by rw [hbf]; decide)⟩; exact ⟨fun e => by subst e; exact absurd (show dead _ 9 0 = true by kernel_rfl) (by rw [hdd]; decide), fun e => by subst e; exact absurd (show dead _ 9 4 = true by kernel_rfl) (by rw [hdd]; decide), Ne.symm hij, fun e => by subst e; exact absurd (show beforeX _ 9 10 = true by kernel_rfl) (by rw [hbf]; decide)⟩) h hc)
      · exact (Below.refl _ _).drew
      ·
        refine FlowStepsX.stepY 57 11 1 rfl rfl (by kernel_rfl) (by kernel_rfl) (by kernel_rfl) rfl rfl ?_ ?_
        ·
          intro cc act vs W hcc ha hvs hS hd hi K hK
          clear ha
          clear hd hi
          clear hvs
          refine wanted_un rfl ?_
          go_simp
          have hsz := hS.size
          exact hK.out _ _ ⟨by simp, own_new (n := 0) W #[] hsz (Nat.zero_le _) rfl⟩ (hS.alloc hsz _) (wsC.of ((Below.refl _ _).alloc (Nat.le_refl _) _) hsz)
        refine FlowStepsX.stepY 57 11 2 rfl rfl (by kernel_rfl) (by kernel_rfl) (by kernel_rfl) rfl rfl ?_ ?_
        ·
          intro cc act vs W hcc ha hvs hS hd hi K hK
          clear ha
          have u0 : act.tmps[0]? = some (.slice (some ⟨b, off, none⟩) (k + 1) c) := (hi.out 0 (by kernel_rfl)).trans rfl
          clear hd hi
          clear hvs
          refine wanted_un rfl ?_
          go_simp
          exact hK.out _ _ rfl hS (wsC.of (Below.refl _ _) hS.size)
        refine FlowStepsX.stepY 57 11 3 rfl rfl (by kernel_rfl) (by kernel_rfl) (by kernel_rfl) rfl rfl ?_ ?_
        ·
          intro cc act vs W hcc ha hvs hS hd hi K hK
          clear ha
          have u7 : act.tmps[7]? = some (.int .i64 j) := (hi.out 7 (by kernel_rfl)).trans rfl
          clear hd hi
          clear hvs
          refine wanted_un rfl ?_
          go_simp
          exact hK.out _ _ rfl hS (wsC.of (Below.refl _ _) hS.size)
        refine FlowStepsX.stepY 57 11 4 rfl rfl (by kernel_rfl) (by kernel_rfl) (by kernel_rfl) rfl rfl ?_ ?_
        ·
          intro cc act vs W hcc ha hvs hS hd hi K hK
          clear ha
          have u34 : act.tmps[34]? = some (.slice (some ⟨b, off, none⟩) (k + 1) c) := by obtain ⟨_, u, _, h⟩ := hd.out ⟨1, .data⟩ (some 34) (by simp) rfl rfl; exact u.trans (congrArg some h)
          have u35 : act.tmps[35]? = some (.int .i64 j) := by obtain ⟨_, u, _, h⟩ := hd.out ⟨2, .data⟩ (some 35) (by simp) rfl rfl; exact u.trans (congrArg some h)
          clear hd hi
          clear hvs
          refine wanted_un rfl ?_
          have jc := HJC.out
          go_simp
          exact hK.out _ _ rfl hS (wsC.of (Below.refl _ _) hS.size)
        refine FlowStepsX.stepY 57 11 5 rfl rfl (by kernel_rfl) (by kernel_rfl) (by kernel_rfl) rfl rfl ?_ ?_
        ·
          intro cc act vs W hcc ha hvs hS hd hi K hK
          clear ha
          obtain ⟨_, u33, _, ⟨hne, hown⟩⟩ := hd.out ⟨0, .data⟩ (some 33) (by simp) rfl rfl
          have u36 : act.tmps[36]? = some (.slice (some ⟨b, off, none⟩) j c) := by obtain ⟨_, u, _, h⟩ := hd.out ⟨3, .data⟩ (some 36) (by simp) rfl rfl; exact u.trans (congrArg some h)
          clear hd hi
          clear hvs
          refine wanted_un rfl ?_
          have hsz := hS.size
          have hRW : RdProcess W b off l := HRr.out.below hS
          refine wp_append_own W (.tmp 33) (.tmp 36) 25 rfl wr.heap.size 39 i0 _ 8 64 Try.underlying25 HII.out HZ0.out HZ1.out HZ2.out rfl (by decide) _ 0 [] (by simp [Act.eval, u33]) hown ⟨b, off, none⟩ j c (flatP (l.take j)) (by simp [Act.eval, u36]) (by rw [flatP_len, List.length_take, HL.out]; congr 1; omega) (fun p u hp => by
              rw [Addr.add_lit]
              exact flatP_cells hRW p u (flatP_take hp)) (flatP_one _) (by unfold maxLen; omega) (by omega) hsz ?_
          intro v' w' ho hgr hnil
          have hgb : Below wr.heap.size W w' := (Below.refl wr.heap.size W).grown hgr hsz (fun q hq => (hown.lt q hq).1)
          have hne' : v' ≠ .slice none 0 0 := fun e => hne (hnil.1 e).1
          rw [Nat.zero_add, List.nil_append] at ho
          exact hK.out _ w' ⟨hne', ho⟩ (hS.trans hgb) (by unfold wsC; rw [if_pos (.inl rfl)]; exact hgb)
        refine FlowStepsX.stepY 57 11 6 rfl rfl (by kernel_rfl) (by kernel_rfl) (by kernel_rfl) rfl rfl ?_ ?_
        ·
          intro cc act vs W hcc ha hvs hS hd hi K hK
          clear ha
          have u0 : act.tmps[0]? = some (.slice (some ⟨b, off, none⟩) (k + 1) c) := (hi.out 0 (by kernel_rfl)).trans rfl
          clear hd hi
          clear hvs
          refine wanted_un rfl ?_
          go_simp
          exact hK.out _ _ rfl hS (wsC.of (Below.refl _ _) hS.size)
        refine FlowStepsX.stepY 57 11 7 rfl rfl (by kernel_rfl) (by kernel_rfl) (by kernel_rfl) rfl rfl ?_ ?_
        ·
          intro cc act vs W hcc ha hvs hS hd hi K hK
          clear ha
          have u7 : act.tmps[7]? = some (.int .i64 j) := (hi.out 7 (by kernel_rfl)).trans rfl
          clear hd hi
          clear hvs
          refine wanted_un rfl ?_
          go_simp
          exact hK.out _ _ rfl hS (wsC.of (Below.refl _ _) hS.size)
        refine FlowStepsX.stepY 57 11 8 rfl rfl (by kernel_rfl) (by kernel_rfl) (by kernel_rfl) rfl rfl ?_ ?_
        ·
          intro cc act vs W hcc ha hvs hS hd hi K hK
          clear ha
          have u39 : act.tmps[39]? = some (.int .i64 j) := by obtain ⟨_, u, _, h⟩ := hd.out ⟨6, .data⟩ (some 39) (by simp) rfl rfl; exact u.trans (congrArg some h)
          clear hd hi
          clear hvs
          refine wanted_un rfl ?_
          have jw := HJW.out
          go_simp
          exact hK.out _ _ rfl hS (wsC.of (Below.refl _ _) hS.size)
        refine FlowStepsX.stepY 57 11 9 rfl rfl (by kernel_rfl) (by kernel_rfl) (by kernel_rfl) rfl rfl ?_ ?_
        ·
          intro cc act vs W hcc ha hvs hS hd hi K hK
          clear ha
          have u38 : act.tmps[38]? = some (.slice (some ⟨b, off, none⟩) (k + 1) c) := by obtain ⟨_, u, _, h⟩ := hd.out ⟨5, .data⟩ (some 38) (by simp) rfl rfl; exact u.trans (congrArg some h)
          have u40 : act.tmps[40]? = some (.int .i64 ((j : Int) + 1)) := by obtain ⟨_, u, _, h⟩ := hd.out ⟨7, .data⟩ (some 40) (by simp) rfl rfl; exact u.trans (congrArg some h)
          clear hd hi
          clear hvs
          refine wanted_un rfl ?_
          have j3 : (0 : Int) ≤ (j : Int) + 1 := by omega
          have j1 := HJ1.out
          have jc := HJC.out
          by_cases hcj : c = j + 1
          · go_simp
            exact hK.out _ _ ⟨_, _, rfl, fun h => absurd h (by omega)⟩ hS (wsC.of (Below.refl _ _) hS.size)
          · go_simp
            exact hK.out _ _ ⟨_, _, rfl, fun _ => rfl⟩ hS (wsC.of (Below.refl _ _) hS.size)
        refine FlowStepsX.stepY 57 11 10 rfl rfl (by kernel_rfl) (by kernel_rfl) (by kernel_rfl) rfl rfl ?_ ?_
        ·
          intro cc act vs W hcc ha hvs hS hd hi K hK
          clear ha
          obtain ⟨_, u37, _, ⟨hne, hown⟩⟩ := hd.out ⟨4, .data⟩ (some 37) (by simp) rfl rfl
          obtain ⟨_, u41, _, ⟨ad, c', rfl, had⟩⟩ := hd.out ⟨8, .data⟩ (some 41) (by simp) rfl rfl
          clear hd hi
          clear hvs
          refine wanted_un rfl ?_
          have hsz := hS.size
          have hRW : RdProcess W b off l := HRr.out.below hS
          refine wp_append_own W (.tmp 37) (.tmp 41) 25 rfl wr.heap.size 39 i0 _ 8 64 Try.underlying25 HII.out HZ0.out HZ1.out HZ2.out rfl (by decide) _ j (flatP (l.take j)) (by simp [Act.eval, u37]) hown ad (k - j) c' (flatP (l.drop (j + 1))) (by simp [Act.eval, u41]) (by rw [flatP_len, List.length_drop, HL.out]; congr 1; omega) (fun p u hp => by
              have h0 : 0 < k - j := by
                have := (List.getElem?_eq_some_iff.1 hp).1
                rw [flatP_len, List.length_drop, HL.out] at this
                omega
              obtain rfl := had h0
              rw [Addr.add_lit]
              rw [flatP_drop] at hp
              have := flatP_cells hRW _ u hp
              rw [show off + (j + 1) * 8 + p = off + ((j + 1) * 8 + p) by omega]
              exact this) (flatP_one _) (by unfold maxLen; omega) (by omega) hsz ?_
          intro v' w' ho hgr hnil
          have hgb : Below wr.heap.size W w' := (Below.refl wr.heap.size W).grown hgr hsz (fun q hq => (hown.lt q hq).1)
          rw [← flatP_app, erase_eq] at ho
          have hjk : j + (k - j) = k := by have := HJ1.out; omega
          rw [hjk] at ho
          obtain ⟨A', c2, rfl, ho'⟩ := ownSP_of ho (by rw [List.length_eraseIdx, HL.out, if_pos (by have := HJ1.out; omega)]; omega)
          exact hK.out _ w' ⟨A', c2, rfl, ho'⟩ (hS.trans hgb) (by unfold wsC; rw [if_pos (.inr rfl)]; exact hgb)
        refine FlowStepsX.stepY 57 11 11 rfl rfl (by kernel_rfl) (by kernel_rfl) (by kernel_rfl) rfl rfl ?_ ?_
        ·
          intro cc act vs W hcc ha hvs hS hd hi K hK
          clear ha
          obtain ⟨_, u42, _, ⟨A', c', rfl, ho⟩⟩ := hd.out ⟨9, .data⟩ (some 42) (by simp) rfl rfl
          clear hd hi
          clear hvs
          refine wanted_un rfl ?_
          go_simp
          exact hK.out _ _ ⟨_, _, rfl, ho⟩ hS (wsC.of (Below.refl _ _) hS.size)
        exact FlowStepsX.nil
      · intro c' ρ W hc' hS hd
        simp only [putFrom, Act.put, List.setIfInBounds_toArray, List.set_cons_zero, List.set_cons_succ, Nat.reduceAdd]
        obtain ⟨A', cz, e10, ho⟩ := hd.out 10 (by decide) (by kernel_rfl)
        clear hd
        generalize ρ 10 = z10 at e10 ⊢
        subst e10
        have O2 := hide (ho.mono B1.out.size)
        have B2 := hide (B1.out.trans (hS.mono B1.out.size))
        have d0 := (hS.cell (p := ⟨b, _, none⟩) hbl).trans c0
        have d7 := (hS.cell (p := ⟨b, _, none⟩) hbl).trans c7
        have hbW : b < W.heap.size := Nat.lt_of_lt_of_le hbl hS.size
        clear hS ho c0 c7
        go_wp2_with fail
        go_quiet (fail)
        go_wp2_with fail
        exact bodyPost_ret (v := .tuple #[.slice A' k cz, .int .i64 t.number, .int .i64 t.result]) (by simp [results, Try.results27, go_sem]) rfl (WtOut.of HF.out.1 HF.out.2.1 HF.out.2.2 (by rw [List.length_eraseIdx, HL.out, if_pos hlt]; omega) (by have := O2.out; exact this) (below_drewN B2.out _))
    · obtain rfl : k + 1 = j := by omega
      have HF := hide (wait_no (q := q) HV.out (fiW_none fun i s hi hs => hin.out i s (by rw [← HL.out]; exact hi) hs))
      have hdd : decide ((k : Int) + 1 < (k : Int) + 1) = false := by simp
      go_wp2_with (at_builtin; refine wpList_append_own _ rfl _ _ 25 rfl w.heap.size 39 i0 _ 8 64 Try.underlying25 HII.out HZ0.out HZ1.out HZ2.out rfl (by decide) _ _ _ rfl (World.ownsRow_made w1 #[] 0 B1.out.size (Nat.zero_le _) (by simp)) ⟨b, off, none⟩ (k + 1) c (flatP l) rfl ?qc1 ?qc2 ?qc3 ?qc4 ?qc5 ?qc6 ?_)
      case qc1 => rw [flatP_len, HL.out]
      case qc2 =>
        intro p u hp
        rw [Addr.add_lit]
        exact Lib.cell?_alloc_some _ (flatP_cells hR1.out p u hp)
      case qc3 => exact flatP_one l
      case qc4 => rw [Nat.zero_add]; unfold maxLen; omega
      case qc5 => rw [Nat.zero_add]; omega
      case qc6 => simp; have := B1.out.size; omega
      intro v' w2 hown hgrow hnil
      obtain ⟨A', cz, rfl, ho⟩ := ownSP_of hown HL.out
      have O2 := hide ho
      have B2 := hide (B1.out.trans ((((Below.refl _ w1).alloc (Nat.le_refl _) _).grown hgrow (by simp) (by intro k hk; simp [Value.ownBlock] at hk; omega) : Below w1.heap.size w1 w2).mono B1.out.size))
      clear hown hgrow hnil ho
      go_wp2_with fail
      exact bodyPost_ret (v := .tuple #[.slice A' (k + 1) cz, .int .i64 0, .int .i64 (-1)]) (by simp [results, Try.results27, go_sem]) rfl (WtOut.of HF.out.1 HF.out.2.1 HF.out.2.2 HL.out O2.out B2.out)
end Go.Proofs.Ytlfchcjollcdhaa
