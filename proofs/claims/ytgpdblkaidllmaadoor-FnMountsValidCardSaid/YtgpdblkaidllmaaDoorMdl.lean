/-
  The law on drawn mounts. No condition.
-/
import Derived.Test.YtgpdblkaidllmaaDoorProg
import Derived.Test.YtgpdblkaidllmaaDoorMdm
import Derived.Test.YtgpdblkaidllmaaDoorMvi
import Derived.Test.YtgpdblkaidllmaaDoorAlive
import Derived.Lib.SliceRun
namespace Go.Proofs.YtgpdblkaidllmaaDoor
open Go.RowKit
set_option linter.unusedSimpArgs false
set_option linter.unusedVariables false

def GotM (w : World) (e : Ending) (w' : World) : Prop :=
  ∃ (g cap : Nat) (l : List Mount), e = .returned (.slice (some ⟨g, 0, none⟩) l.length cap) ∧ RdMount w' g 0 l ∧ (∀ t ∈ l, MntS t) ∧ l.length ≤ 6 ∧ l.length ≤ cap ∧ cap ≤ maxLen ∧ Below w.heap.size w w'
theorem gMountsValid_c (A : Option Addr) (n c : Nat) (w : World) (h : InB w A n c) : Calls Tryd.prog 7 #[.slice A n c] w (GotM w) := by
  have H := hide h
  clear h
  go_enter Tryd.func7, Tryd.ntmps7
  go_wp2_with fail
  refine (open_c A n c _ H.out).mono ?_
  rintro e w1 ⟨r, rfl, hr, hrd, hb1⟩
  go_wp2_with fail
  refine (mounts_d w1.heap.size r 0 _ (by omega) hrd).mono ?_
  rintro e w2 ⟨V, l, rfl, hO, hne, h4, hms, ha⟩
  have hb2 : Below w.heap.size w w2 := ha.below hb1 hr hb1.size
  obtain ⟨g, cap, m, rfl, hg, hcap, hcm, hm, hrow⟩ := ownM_of rfl hO hne
  go_wp2_with fail
  go_ret
  exact ⟨g, cap, l, rfl, RdMount_of_rowm hrow rfl, hms, by omega, hcap, hcm, hb2⟩
theorem mntB_tail {t : Mount} {l : List Mount} (h : mntB (t :: l) = true) : mntB l = true := by
  rw [mntB_iff] at h ⊢
  refine ⟨fun i s hi hs => ?_, by have := h.2; simp at this; omega⟩
  obtain ⟨h1, h2, h3⟩ := h.1 (i + 1) s (by simpa using hi) (by simpa using hs)
  exact ⟨h1, h2, fun j u hj hu => h3 (j + 1) u (by omega) (by simpa using hu)⟩
theorem mntB_twice {t : Mount} {l : List Mount} : mntB (t :: t :: l) = false := by
  refine mntB_no fun hv => ?_
  exact (hv.1 1 t (by simp) rfl).2.2 0 t (by omega) rfl rfl
theorem RdMount_nil {w : World} {b off off' : Nat} {l : List Mount} (h : RdMount w b off l) : RdMount w b off' [] := ⟨h.1, fun k t ht => by simp at ht⟩
set_option maxRecDepth 100000 in
set_option maxHeartbeats 4000000 in
theorem fnMountsValid_walk {w : World} (hm : MX w) (A : Option Addr) (n c : Nat) (h : InB w A n c) :
    Calls Tryd.prog 3 #[.slice A n c] w fun e w' => e = .returned (.bool true) ∧ Below w.heap.size w w' := by
  have HM := hide hm
  clear hm
  have hm := h.2.1
  unfold maxLen at hm
  have hc := h.1
  have H := hide h
  clear h
  obtain ⟨i0, hi0, hz0, hz1, hz2⟩ := info_parts infoMount
  have HI := hide hi0
  have HZ0 := hide hz0
  have HZ1 := hide hz1
  have HZ2 := hide hz2
  clear hi0 hz0 hz1 hz2
  by_cases h20 : 1048576 < n
  · go_enter Tryd.func3, Tryd.ntmps3
    go_wp2_with fail
    go_ret
    exact ⟨rfl, Below.refl _ _⟩
  · go_enter Tryd.func3, Tryd.ntmps3
    go_wp2_with fail
    refine (gMountsValid_c A n c _ H.out).mono ?_
    rintro e w1 ⟨g, cap, l, rfl, hR, hms, h6, hc1, hc2, hb1⟩
    have HMS := hide hms
    clear hms
    unfold maxLen at hc2
    go_wp2_with fail
    refine (mvImpl_c _ _ _ _ l rfl (by omega) hc1 HMS.out _ (HM.out.below hb1) hR).mono ?_
    rintro e w2 ⟨rfl, hb2⟩
    have B2 := below_via0 hb1 hb2
    have hR2 := hR.below hb2
    cases hv : mntB l with
    | false =>
      have HV := hide hv
      clear hv
      go_wp2_with fail
      refine (mvSpec_c _ _ _ _ l rfl (by omega) HMS.out _ hR2).mono ?_
      rintro e w3 ⟨rfl, hb3⟩
      rw [HV.out]
      have B3 := below_via0 B2 hb3
      go_wp2_with (go_at_call 10; refine (alive_c _).mono ?_; rintro e w5 ⟨rfl, hb5⟩; have B5 := below_via0 B3 hb5)
      go_ret
      exact ⟨rfl, B5⟩
    | true =>
      have HV := hide hv
      clear hv
      go_wp2_with fail
      refine (mvSpec_c _ _ _ _ l rfl (by omega) HMS.out _ hR2).mono ?_
      rintro e w3 ⟨rfl, hb3⟩
      rw [HV.out]
      have B3 := below_via0 B2 hb3
      have hR3 := hR2.below hb3
      cases l with
      | nil =>
        go_wp2_with (go_at_call 10; refine (alive_c _).mono ?_; rintro e w5 ⟨rfl, hb5⟩; have B5 := below_via0 B3 hb5)
        go_ret
        exact ⟨rfl, B5⟩
      | cons t l =>
        have HT := hide (mntB_tail HV.out)
        simp only [List.length_cons] at h6 hc1 ⊢
        have c0 := hR3.2 0 t rfl
        have hRt := RdMount_tail hR3
        have HMT := hide (show ∀ s ∈ l, MntS s from fun s hs => HMS.out s (by simp [hs]))
        have HM2 := hide (show ∀ s ∈ t :: t :: l, MntS s from fun s hs => HMS.out s (by simpa using hs))
        have HSL : Hid (∃ o, RdMount w3 g o l ∧ (if cap = 1 then o = 0 else o = 2)) := by
          by_cases h1 : cap = 1
          · obtain rfl : l = [] := List.eq_nil_of_length_eq_zero (by omega)
            exact ⟨0, RdMount_nil hR3, by rw [if_pos h1]⟩
          · exact ⟨2, hRt, by rw [if_neg h1]⟩
        by_cases h1 : cap = 1
        all_goals
          obtain ⟨o, hRo, ho⟩ := HSL.out
          first | rw [if_pos h1] at ho | rw [if_neg h1] at ho
          subst ho
          clear hRt
          have h1c : (1 : Int) ≤ cap := by omega
          go_wp2_with fail
          refine (mvImpl_c _ _ _ _ l rfl (by omega) (by omega) HMT.out _ (HM.out.below B3) hRo).mono ?_
          rintro e w4 ⟨rfl, hb4⟩
          rw [HT.out]
          have B4 := below_via0 B3 hb4
          have hR4 := hR3.below hb4
          have c4 := hR4.2 0 t rfl
          clear c0 hRo
          simp only [Nat.zero_mul, Nat.add_zero, Nat.zero_add] at c4
          go_wp2_with (at_builtin; refine wpList_append_ownG (by rfl) _ _ 23 rfl w4.heap.size 28 i0 _ 2 32 Tryd.underlying23 HI.out HZ0.out HZ1.out HZ2.out rfl (by decide) (.slice (some ⟨w4.heap.size, 0, none⟩) 1 1) 1 _ (by rfl) (own_new (n := 1) w4 #[.string t.src, .string t.dst] (Nat.le_refl _) (by unfold maxLen; omega) rfl) ⟨g, 0, none⟩ (l.length + 1) _ (flatM (t :: l)) rfl (flatM_len _) (fun j u hj => by rw [Addr.add_lit]; exact Lib.cell?_alloc_some _ (flatM_cells hR4 j u hj)) (flatM_one _) (by unfold maxLen; omega) (by omega) (by simp) ?_)
          intro v' w5 hown hgrow hnil
          have hown' : w5.ownsRow w4.heap.size 28 2 v' (t :: t :: l).length (flatM (t :: t :: l)) := by
            have e : flatM (t :: t :: l) = [.string t.src, .string t.dst] ++ flatM (t :: l) := by simp [flatM]
            rw [e, List.length_cons, List.length_cons, Nat.add_comm (l.length + 1) 1]; simpa using hown
          obtain ⟨g5, cap5, m5, rfl, hg5, hcap5, hcm5, hm5, hrow5⟩ := ownM_of rfl hown' (fun e => by simp [e] at hnil)
          have B5 : Below w.heap.size w w5 := (B4.alloc B4.size _).grown hgrow (by simp; have := B4.size; omega) (by intro k hk; simp [Value.ownBlock] at hk; have := B4.size; omega)
          have hA5 := RdMount_of_rowm hrow5 rfl
          simp only [List.length_cons] at hcap5 ⊢
          clear hown hown' hgrow hnil hrow5
          go_wp2_with fail
          refine (mvImpl_c _ _ _ _ (t :: t :: l) (by simp) (by omega) (by omega) HM2.out _ (HM.out.below B5) hA5).mono ?_
          rintro e w6 ⟨rfl, hb6⟩
          rw [mntB_twice]
          have B6 := below_via0 B5 hb6
          go_wp2_with fail
          go_ret
          exact ⟨rfl, B6⟩
end Go.Proofs.YtgpdblkaidllmaaDoor
