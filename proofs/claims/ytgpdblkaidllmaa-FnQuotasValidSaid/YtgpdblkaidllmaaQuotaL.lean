/-
  The law of QuotasValid over drawn quotas. No condition.
-/
import Derived.Test.YtgpdblkaidllmaaProg
import Derived.Test.YtgpdblkaidllmaaQuotaD
import Derived.Test.YtgpdblkaidllmaaAlive
import Derived.Test.YtgpdblkaidllmaaQuota2
import Derived.Lib.SliceRun
namespace Go.Proofs.Ytgpdblkaidllmaa
open Go.RowKit
set_option linter.unusedSimpArgs false
set_option linter.unusedVariables false

def GotQ (w : World) (e : Ending) (w' : World) : Prop :=
  ∃ (g cap : Nat) (l : List Quota), e = .returned (.slice (some ⟨g, 0, none⟩) l.length cap) ∧ RdQuota w' g 0 l ∧ l.length ≤ 6 ∧ l.length ≤ cap ∧ cap ≤ maxLen ∧ Below w.heap.size w w'
theorem gQuotasValid_c (A : Option Addr) (n c : Nat) (w : World) (h : InB w A n c) : Calls Try.prog 10 #[.slice A n c] w (GotQ w) := by
  have H := hide h
  clear h
  go_enter Try.func10, Try.ntmps10
  go_wp2_with fail
  refine (open_c A n c _ H.out).mono ?_
  rintro e w1 ⟨r, rfl, hr, hrd, hb1⟩
  go_wp2_with fail
  refine (drawQ_c w1.heap.size r 0 2 _ (by omega) (by omega) (by omega) hrd).mono ?_
  rintro e w2 ⟨g, cap, l, rfl, hg, hR, h6, hc1, hc2, hs, ha⟩
  have hb2 : Below w.heap.size w w2 := hs.2.1.below hb1 hr hb1.size
  go_wp2_with fail
  go_ret
  exact ⟨g, cap, l, rfl, hR, h6, hc1, hc2, hb2⟩
theorem quotasB_tail {t : Quota} {l : List Quota} (h : quotasB (t :: l) = true) : quotasB l = true := by
  rw [quotasB_iff] at h ⊢
  refine ⟨fun i s hi hs => ?_, by have := h.2; simp at this; omega⟩
  obtain ⟨h1, h2⟩ := h.1 (i + 1) s (by simpa using hi) (by simpa using hs)
  refine ⟨h1, fun u h0 hu => h2 u (by omega) ?_⟩
  obtain ⟨i, rfl⟩ : ∃ p, i = p + 1 := ⟨i - 1, by omega⟩
  simpa using hu
theorem quotasB_twice {t : Quota} {l : List Quota} (h : quotasB (t :: l) = true) : quotasB (t :: t :: l) = false := by
  refine quotasB_no fun hv => ?_
  have h1 := (hv.1 1 t (by simp) rfl).2 t (by omega) rfl
  omega
theorem RdQuota_nil {w : World} {b off off' : Nat} {l : List Quota} (h : RdQuota w b off l) : RdQuota w b off' [] := ⟨h.1, fun k t ht => by simp at ht⟩
set_option maxHeartbeats 2000000 in
theorem fnQuotasValid_walk {w : World} (A : Option Addr) (n c : Nat) (h : InB w A n c) :
    Calls Try.prog 4 #[.slice A n c] w fun e w' => e = .returned (.bool true) ∧ Below w.heap.size w w' := by
  have hm := h.2.1
  unfold maxLen at hm
  have hc := h.1
  have H := hide h
  clear h
  obtain ⟨i0, hi0, hz0, hz1, hz2⟩ := info_parts infoQuota
  have HI := hide hi0
  have HZ0 := hide hz0
  have HZ1 := hide hz1
  have HZ2 := hide hz2
  clear hi0 hz0 hz1 hz2
  by_cases h20 : 1048576 < n
  · go_enter Try.func4, Try.ntmps4
    go_wp2_with fail
    go_ret
    exact ⟨rfl, Below.refl _ _⟩
  · go_enter Try.func4, Try.ntmps4
    go_wp2_with fail
    refine (gQuotasValid_c A n c _ H.out).mono ?_
    rintro e w1 ⟨g, cap, l, rfl, hR, h6, hc1, hc2, hb1⟩
    unfold maxLen at hc2
    go_wp2_with fail
    refine (quoImpl_c _ _ _ _ l rfl (by omega) _ hR).mono ?_
    rintro e w2 ⟨rfl, hb2⟩
    have B2 := below_via0 hb1 hb2
    have hR2 := hR.below hb2
    cases hv : quotasB l with
    | false =>
      have HV := hide hv
      clear hv
      go_wp2_with fail
      refine (quoSpec_c _ _ _ _ l rfl (by omega) _ hR2).mono ?_
      rintro e w3 ⟨rfl, hb3⟩
      rw [HV.out]
      have B3 := below_via0 B2 hb3
      go_wp2_with (go_at_call 11; refine (alive_c _).mono ?_; rintro e w5 ⟨rfl, hb5⟩; have B5 := below_via0 B3 hb5)
      go_ret
      exact ⟨rfl, B5⟩
    | true =>
      have HV := hide hv
      clear hv
      go_wp2_with fail
      refine (quoSpec_c _ _ _ _ l rfl (by omega) _ hR2).mono ?_
      rintro e w3 ⟨rfl, hb3⟩
      rw [HV.out]
      have B3 := below_via0 B2 hb3
      have hR3 := hR2.below hb3
      cases l with
      | nil =>
        go_wp2_with (go_at_call 11; refine (alive_c _).mono ?_; rintro e w5 ⟨rfl, hb5⟩; have B5 := below_via0 B3 hb5)
        go_ret
        exact ⟨rfl, B5⟩
      | cons t l =>
        have HT := hide (quotasB_tail HV.out)
        have H2 := hide (quotasB_twice HV.out)
        simp only [List.length_cons] at h6 hc1 ⊢
        have c0 := hR3.2 0 t rfl
        have hRt := RdQuota_tail hR3
        have HSL : Hid (∃ o, RdQuota w3 g o l ∧ (if cap = 1 then o = 0 else o = 3)) := by
          by_cases h1 : cap = 1
          · obtain rfl : l = [] := List.eq_nil_of_length_eq_zero (by omega)
            exact ⟨0, RdQuota_nil hR3, by rw [if_pos h1]⟩
          · exact ⟨3, hRt, by rw [if_neg h1]⟩
        by_cases h1 : cap = 1
        all_goals
          obtain ⟨o, hRo, ho⟩ := HSL.out
          first | rw [if_pos h1] at ho | rw [if_neg h1] at ho
          subst ho
          clear hRt
          have h1c : (1 : Int) ≤ cap := by omega
          go_wp2_with fail
          refine (quoImpl_c _ _ _ _ l rfl (by omega) _ hRo).mono ?_
          rintro e w4 ⟨rfl, hb4⟩
          rw [HT.out]
          have B4 := below_via0 B3 hb4
          have hR4 := hR3.below hb4
          have c4 := hR4.2 0 t rfl
          clear c0 hRo
          simp only [Nat.zero_mul, Nat.add_zero, Nat.zero_add] at c4
          go_wp2_with (at_builtin; refine wpList_append_ownG (by rfl) _ _ 25 rfl w4.heap.size 33 i0 _ 3 24 Try.underlying25 HI.out HZ0.out HZ1.out HZ2.out rfl (by decide) (.slice (some ⟨w4.heap.size, 0, none⟩) 1 1) 1 _ (by rfl) (own_new (n := 1) w4 #[.int .i64 t.who, .int .i64 t.nodes, .int .i64 t.bytes] (Nat.le_refl _) (by unfold maxLen; omega) rfl) ⟨g, 0, none⟩ (l.length + 1) _ (flatQ (t :: l)) rfl (flatQ_len _) (fun j u hj => by rw [Addr.add_lit]; exact Lib.cell?_alloc_some _ (flatQ_cells hR4 j u hj)) (flatQ_one _) (by unfold maxLen; omega) (by omega) (by simp) ?_)
          intro v' w5 hown hgrow hnil
          have hown' : w5.ownsRow w4.heap.size 33 3 v' (t :: t :: l).length (flatQ (t :: t :: l)) := by
            have e : flatQ (t :: t :: l) = [.int .i64 t.who, .int .i64 t.nodes, .int .i64 t.bytes] ++ flatQ (t :: l) := by simp [flatQ]
            rw [e, List.length_cons, List.length_cons, Nat.add_comm (l.length + 1) 1]; simpa using hown
          obtain ⟨g5, cap5, m5, rfl, hg5, hcap5, hcm5, hm5, hrow5⟩ := ownQ_of rfl hown' (fun e => by simp [e] at hnil)
          have B5 : Below w.heap.size w w5 := (B4.alloc B4.size _).grown hgrow (by simp; have := B4.size; omega) (by intro k hk; simp [Value.ownBlock] at hk; have := B4.size; omega)
          have hA5 := RdQuota_of_rowm hrow5 rfl
          simp only [List.length_cons] at hcap5 ⊢
          clear hown hown' hgrow hnil hrow5
          go_wp2_with fail
          refine (quoImpl_c _ _ _ _ (t :: t :: l) (by simp) (by omega) _ hA5).mono ?_
          rintro e w6 ⟨rfl, hb6⟩
          rw [H2.out]
          have B6 := below_via0 B5 hb6
          go_wp2_with fail
          go_ret
          exact ⟨rfl, B6⟩
end Go.Proofs.Ytgpdblkaidllmaa
