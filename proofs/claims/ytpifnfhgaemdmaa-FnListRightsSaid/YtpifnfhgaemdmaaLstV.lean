/-
  ListValid of the reference. No condition.
-/
import Derived.Test.YtpifnfhgaemdmaaProg
import Derived.Test.YtpifnfhgaemdmaaGrant
import Derived.Test.YtpifnfhgaemdmaaFlowS
namespace Go.Proofs.Ytpifnfhgaemdmaa
open Go.RowKit
set_option linter.unusedSimpArgs false
set_option linter.unusedVariables false

def sameG (s t : Grant) : Bool := (s.ofGroup == t.ofGroup) && (s.who == t.who)
def mostG (t : Grant) : Int := if t.ofGroup = true then 7 else 99
def GOk (t : Grant) : Prop := inB t.who 0 (mostG t) = true ∧ inB t.rights 0 7 = true
def GUp (l : List Grant) (k : Nat) : Prop := ∀ (i : Nat) (t : Grant), i < k → l[i]? = some t → GOk t ∧ ∀ (j : Nat) (s : Grant), j < i → l[j]? = some s → sameG s t = false
def LV (m : Int) (l : List Grant) (k : Int) : Prop := GUp l l.length ∧ inB m 0 511 = true ∧ inB k 0 7 = true ∧ l.length ≤ 6
noncomputable def listB (m : Int) (l : List Grant) (k : Int) : Bool := @decide (LV m l k) (Classical.propDecidable _)
theorem listB_iff {m : Int} {l : List Grant} {k : Int} : listB m l k = true ↔ LV m l k := by unfold listB; exact @decide_eq_true_iff _ (Classical.propDecidable _)
theorem listB_no {m : Int} {l : List Grant} {k : Int} (h : ¬ LV m l k) : listB m l k = false := by
  rw [← Bool.not_eq_true, listB_iff]; exact h
theorem GUp.step {l : List Grant} {k : Nat} {t : Grant} (h : GUp l k) (ht : l[k]? = some t) (hr : GOk t) (hi : ∀ (q : Nat) (s : Grant), q < k → l[q]? = some s → sameG s t = false) : GUp l (k + 1) := by
  intro i t' hi' ht'
  rcases Nat.lt_or_ge i k with hlt | hge
  · exact h i t' hlt ht'
  · obtain rfl : i = k := by omega
    obtain rfl : t' = t := by have := ht'.symm.trans ht; simpa using this
    exact ⟨hr, hi⟩
set_option maxHeartbeats 4000000 in
theorem lvSpec_c (m : Int) (A : Option Addr) (n c : Nat) (k : Int) (l : List Grant) (hn : n ≤ 1048576) (w : World) (hI : InGrant w A n l) :
    Calls Try.prog 17 #[.agg #[.int .i64 m, .slice A n c, .int .i64 k]] w fun e w' => e = .returned (.bool (listB m l k)) ∧ Below w.heap.size w w' := by
  have HI := hide hI
  have HL := hide hI.1
  clear hI
  go_enter Try.func17, Try.ntmps17
  go_wp2_with fail
  have x0 : (w.alloc (.cells #[.int .i64 m, .slice A n c, .int .i64 k] 24)).cell? ⟨w.heap.size, 0, none⟩ = some (.int .i64 m) := by simp
  have x1 : (w.alloc (.cells #[.int .i64 m, .slice A n c, .int .i64 k] 24)).cell? ⟨w.heap.size, 1, none⟩ = some (.slice A n c) := by simp
  have x2 : (w.alloc (.cells #[.int .i64 m, .slice A n c, .int .i64 k] 24)).cell? ⟨w.heap.size, 2, none⟩ = some (.int .i64 k) := by simp
  have hz0 : (w.alloc (.cells #[.int .i64 m, .slice A n c, .int .i64 k] 24)).heap.size = w.heap.size + 1 := by simp
  have BW0 : Below w.heap.size w (w.alloc (.cells #[.int .i64 m, .slice A n c, .int .i64 k] 24)) := below_alloc0 (Below.refl _ _) _
  generalize w.alloc (.cells #[.int .i64 m, .slice A n c, .int .i64 k] 24) = W0 at *
  obtain ⟨xd, hxd⟩ : ∃ xd, xd = w.heap.size := ⟨_, rfl⟩
  rw [← hxd] at x0 x1 x2 hz0 ⊢
  have HXD := hide hxd
  clear hxd
  have HX := hide (And.intro x0 (And.intro x1 x2))
  have HB0 := hide BW0
  clear x0 x1 x2 BW0
  go_loopw [3] (fun kv wr => ∃ i : Nat, i ≤ n ∧ kv = .int .i64 i ∧ Hid (GUp l i) ∧ Hid (Below W0.heap.size W0 wr)) (fun kv _ => n - (intOf kv).toNat)
  case atStart => exact ⟨0, by omega, rfl, fun i t hi => absurd hi (by omega), Below.refl _ _⟩
  case round =>
    obtain ⟨i, hi, rfl, hup, hbel⟩ := hrel
    have hsz := hbel.out.size
    have hxl : xd < wr.heap.size := by omega
    have y0 := (hbel.out.cell (p := ⟨xd, 0, none⟩) (by show xd < _; omega)).trans HX.out.1
    have y1 := (hbel.out.cell (p := ⟨xd, 1, none⟩) (by show xd < _; omega)).trans HX.out.2.1
    have y2 := (hbel.out.cell (p := ⟨xd, 2, none⟩) (by show xd < _; omega)).trans HX.out.2.2
    have BW : Hid (Below w.heap.size w wr) := hide (HB0.out.trans (hbel.out.mono HB0.out.size))
    by_cases hlt : i < n
    · obtain ⟨t, ht⟩ : ∃ t, l[i]? = some t := ⟨_, List.getElem?_eq_getElem (by rw [HL.out]; exact hlt)⟩
      have HT := hide ht
      obtain ⟨b, off, hA, hR⟩ := HI.out.2 (by omega)
      subst hA
      have hRw := hide (hR.below BW.out)
      have c0 := hRw.out.2 i t ht
      have hbl := hRw.out.1
      clear ht hR
      cases hg : t.ofGroup
      · rw [hg] at c0
        obtain ⟨g0, g1, g2⟩ := c0
        by_cases h1 : inB t.who 0 (mostG t) = true
        · have h1' := h1
          simp only [mostG, hg, if_true, Bool.false_eq_true, if_false] at h1'
          by_cases h2 : inB t.rights 0 7 = true
          · have HGO := hide (show GOk t from ⟨h1, h2⟩)
            clear h1
            go_wp2_with (go_at_call 34; refine (l1In_c _ _ _ _).mono ?_; rintro e w' ⟨rfl, rfl⟩)
            have hb1 : Below wr.heap.size wr (wr.alloc (.cells #[.bool false, .int .i64 t.who, .int .i64 t.rights] 40)) := below_alloc0 (Below.refl _ _) _
            have d0 : (wr.alloc (.cells #[.bool false, .int .i64 t.who, .int .i64 t.rights] 40)).cell? ⟨wr.heap.size, 0, none⟩ = some (.bool false) := by simp
            have d1 : (wr.alloc (.cells #[.bool false, .int .i64 t.who, .int .i64 t.rights] 40)).cell? ⟨wr.heap.size, 1, none⟩ = some (.int .i64 t.who) := by simp
            have dz : (wr.alloc (.cells #[.bool false, .int .i64 t.who, .int .i64 t.rights] 40)).heap.size = wr.heap.size + 1 := by simp
            generalize wr.alloc (.cells #[.bool false, .int .i64 t.who, .int .i64 t.rights] 40) = W1 at *
            obtain ⟨gd, hgd⟩ : ∃ gd, gd = wr.heap.size := ⟨_, rfl⟩
            rw [← hgd] at d0 d1 dz ⊢
            have HGD := hide hgd
            have HB1 := hide hb1
            have HD := hide (And.intro d0 d1)
            have HY1 := hide ((hb1.cell (p := ⟨xd, 1, none⟩) hxl).trans y1)
            clear d0 d1 hb1 hgd y0 y1 y2 g0 g1 g2
            go_loopw [6] (fun jv w2 => ∃ j : Nat, j ≤ i ∧ jv = .int .i64 j ∧ Hid (∀ (q : Nat) (s : Grant), q < j → l[q]? = some s → sameG s t = false) ∧ Hid (Below W1.heap.size W1 w2)) (fun jv _ => i - (intOf jv).toNat)
            case atStart => exact ⟨0, by omega, rfl, fun q s hq => absurd hq (by omega), Below.refl _ _⟩
            case round =>
              obtain ⟨j, hj, rfl, hin, hbi⟩ := hrel
              by_cases hjk : j < i
              · obtain ⟨s, hs⟩ : ∃ s, l[j]? = some s := ⟨_, List.getElem?_eq_getElem (by rw [HL.out]; omega)⟩
                have HS := hide hs
                have hgx : gd < W1.heap.size := by omega
                have hxx : xd < W1.heap.size := by have := HGD.out; omega
                have cs := ((hRw.out.below HB1.out).below hbi.out).2 j s hs
                have e0 := (hbi.out.cell (p := ⟨gd, 0, none⟩) hgx).trans HD.out.1
                have e1 := (hbi.out.cell (p := ⟨gd, 1, none⟩) hgx).trans HD.out.2
                have e2 := (hbi.out.cell (p := ⟨xd, 1, none⟩) hxx).trans HY1.out
                clear hs
                have jj : (j : Int) < n := by omega
                cases hso : s.ofGroup
                all_goals
                  rw [hso] at cs
                  obtain ⟨s0, s1, s2⟩ := cs
                  by_cases hw : s.who = t.who
                  · have hw' : (s.who == t.who) = true := by simpa using hw
                    have HSW := hide hw
                    clear hw
                    go_wp2_with fail
                    go_quiet (fail)
                    go_wp2_with fail
                    first
                      | (refine ⟨⟨j + 1, by omega, by go_num, fun q s' hq hs' => ?_, below_drewN hbi.out _⟩, by simp [intOf]; omega⟩
                         rcases Nat.lt_or_ge q j with h | h
                         · exact hin.out q s' h hs'
                         · obtain rfl : q = j := by omega
                           obtain rfl : s' = s := by have := hs'.symm.trans HS.out; simpa using this
                           simp [sameG, hso, hg])
                      | (go_ret
                         exact ⟨by rw [listB_no (fun e => by have := (e.1 i t (by rw [HL.out]; exact hlt) HT.out).2 j s hjk HS.out; simp [sameG, hso, hg, HSW.out] at this)]; rfl, below_drewN (BW.out.trans ((HB1.out.trans (hbi.out.mono HB1.out.size)).mono BW.out.size)) _⟩)
                  · have hw' : (s.who == t.who) = false := by simpa using hw
                    have HSW := hide hw
                    clear hw
                    go_wp2_with fail
                    go_quiet (fail)
                    go_wp2_with fail
                    refine ⟨⟨j + 1, by omega, by go_num, fun q s' hq hs' => ?_, ?_⟩, by simp [intOf]; omega⟩
                    · rcases Nat.lt_or_ge q j with h | h
                      · exact hin.out q s' h hs'
                      · obtain rfl : q = j := by omega
                        obtain rfl : s' = s := by have := hs'.symm.trans HS.out; simpa using this
                        simp [sameG, HSW.out]
                    · exact below_drewN hbi.out _
              · obtain rfl : j = i := by omega
                go_wp2
                go_roundw
                case rel => exact ⟨j + 1, by omega, by go_num, hup.out.step HT.out HGO.out hin.out, hbel.out.trans ((HB1.out.trans (hbi.out.mono HB1.out.size)).mono hbel.out.size)⟩
                case measure => simp [intOf]; omega
          · have h2' : inB t.rights 0 7 = false := by simpa using h2
            have HF := hide (listB_no (m := m) (l := l) (k := k) fun e => h2 (e.1 i t (by rw [HL.out]; exact hlt) HT.out).1.2)
            clear h1 h2
            go_wp2_with (go_at_call 34; refine (l1In_c _ _ _ _).mono ?_; rintro e w' ⟨rfl, rfl⟩)
            go_ret
            exact ⟨by rw [HF.out]; rfl, below_alloc0 BW.out _⟩
        · have h1' : inB t.who 0 99 = false := by
            have : ¬ inB t.who 0 99 = true := by simpa [mostG, hg] using h1
            simpa using this
          have HF := hide (listB_no (m := m) (l := l) (k := k) fun e => h1 (e.1 i t (by rw [HL.out]; exact hlt) HT.out).1.1)
          clear h1
          go_wp2_with (go_at_call 34; refine (l1In_c _ _ _ _).mono ?_; rintro e w' ⟨rfl, rfl⟩)
          go_ret
          exact ⟨by rw [HF.out]; rfl, below_alloc0 BW.out _⟩
      · rw [hg] at c0
        obtain ⟨g0, g1, g2⟩ := c0
        by_cases h1 : inB t.who 0 (mostG t) = true
        · have h1' := h1
          simp only [mostG, hg, if_true, Bool.false_eq_true, if_false] at h1'
          by_cases h2 : inB t.rights 0 7 = true
          · have HGO := hide (show GOk t from ⟨h1, h2⟩)
            clear h1
            go_wp2_with (go_at_call 34; refine (l1In_c _ _ _ _).mono ?_; rintro e w' ⟨rfl, rfl⟩)
            have hb1 : Below wr.heap.size wr (wr.alloc (.cells #[.bool true, .int .i64 t.who, .int .i64 t.rights] 40)) := below_alloc0 (Below.refl _ _) _
            have d0 : (wr.alloc (.cells #[.bool true, .int .i64 t.who, .int .i64 t.rights] 40)).cell? ⟨wr.heap.size, 0, none⟩ = some (.bool true) := by simp
            have d1 : (wr.alloc (.cells #[.bool true, .int .i64 t.who, .int .i64 t.rights] 40)).cell? ⟨wr.heap.size, 1, none⟩ = some (.int .i64 t.who) := by simp
            have dz : (wr.alloc (.cells #[.bool true, .int .i64 t.who, .int .i64 t.rights] 40)).heap.size = wr.heap.size + 1 := by simp
            generalize wr.alloc (.cells #[.bool true, .int .i64 t.who, .int .i64 t.rights] 40) = W1 at *
            obtain ⟨gd, hgd⟩ : ∃ gd, gd = wr.heap.size := ⟨_, rfl⟩
            rw [← hgd] at d0 d1 dz ⊢
            have HGD := hide hgd
            have HB1 := hide hb1
            have HD := hide (And.intro d0 d1)
            have HY1 := hide ((hb1.cell (p := ⟨xd, 1, none⟩) hxl).trans y1)
            clear d0 d1 hb1 hgd y0 y1 y2 g0 g1 g2
            go_loopw [6] (fun jv w2 => ∃ j : Nat, j ≤ i ∧ jv = .int .i64 j ∧ Hid (∀ (q : Nat) (s : Grant), q < j → l[q]? = some s → sameG s t = false) ∧ Hid (Below W1.heap.size W1 w2)) (fun jv _ => i - (intOf jv).toNat)
            case atStart => exact ⟨0, by omega, rfl, fun q s hq => absurd hq (by omega), Below.refl _ _⟩
            case round =>
              obtain ⟨j, hj, rfl, hin, hbi⟩ := hrel
              by_cases hjk : j < i
              · obtain ⟨s, hs⟩ : ∃ s, l[j]? = some s := ⟨_, List.getElem?_eq_getElem (by rw [HL.out]; omega)⟩
                have HS := hide hs
                have hgx : gd < W1.heap.size := by omega
                have hxx : xd < W1.heap.size := by have := HGD.out; omega
                have cs := ((hRw.out.below HB1.out).below hbi.out).2 j s hs
                have e0 := (hbi.out.cell (p := ⟨gd, 0, none⟩) hgx).trans HD.out.1
                have e1 := (hbi.out.cell (p := ⟨gd, 1, none⟩) hgx).trans HD.out.2
                have e2 := (hbi.out.cell (p := ⟨xd, 1, none⟩) hxx).trans HY1.out
                clear hs
                have jj : (j : Int) < n := by omega
                cases hso : s.ofGroup
                all_goals
                  rw [hso] at cs
                  obtain ⟨s0, s1, s2⟩ := cs
                  by_cases hw : s.who = t.who
                  · have hw' : (s.who == t.who) = true := by simpa using hw
                    have HSW := hide hw
                    clear hw
                    go_wp2_with fail
                    go_quiet (fail)
                    go_wp2_with fail
                    first
                      | (refine ⟨⟨j + 1, by omega, by go_num, fun q s' hq hs' => ?_, below_drewN hbi.out _⟩, by simp [intOf]; omega⟩
                         rcases Nat.lt_or_ge q j with h | h
                         · exact hin.out q s' h hs'
                         · obtain rfl : q = j := by omega
                           obtain rfl : s' = s := by have := hs'.symm.trans HS.out; simpa using this
                           simp [sameG, hso, hg])
                      | (go_ret
                         exact ⟨by rw [listB_no (fun e => by have := (e.1 i t (by rw [HL.out]; exact hlt) HT.out).2 j s hjk HS.out; simp [sameG, hso, hg, HSW.out] at this)]; rfl, below_drewN (BW.out.trans ((HB1.out.trans (hbi.out.mono HB1.out.size)).mono BW.out.size)) _⟩)
                  · have hw' : (s.who == t.who) = false := by simpa using hw
                    have HSW := hide hw
                    clear hw
                    go_wp2_with fail
                    go_quiet (fail)
                    go_wp2_with fail
                    refine ⟨⟨j + 1, by omega, by go_num, fun q s' hq hs' => ?_, ?_⟩, by simp [intOf]; omega⟩
                    · rcases Nat.lt_or_ge q j with h | h
                      · exact hin.out q s' h hs'
                      · obtain rfl : q = j := by omega
                        obtain rfl : s' = s := by have := hs'.symm.trans HS.out; simpa using this
                        simp [sameG, HSW.out]
                    · exact below_drewN hbi.out _
              · obtain rfl : j = i := by omega
                go_wp2
                go_roundw
                case rel => exact ⟨j + 1, by omega, by go_num, hup.out.step HT.out HGO.out hin.out, hbel.out.trans ((HB1.out.trans (hbi.out.mono HB1.out.size)).mono hbel.out.size)⟩
                case measure => simp [intOf]; omega
          · have h2' : inB t.rights 0 7 = false := by simpa using h2
            have HF := hide (listB_no (m := m) (l := l) (k := k) fun e => h2 (e.1 i t (by rw [HL.out]; exact hlt) HT.out).1.2)
            clear h1 h2
            go_wp2_with (go_at_call 34; refine (l1In_c _ _ _ _).mono ?_; rintro e w' ⟨rfl, rfl⟩)
            go_ret
            exact ⟨by rw [HF.out]; rfl, below_alloc0 BW.out _⟩
        · have h1' : inB t.who 0 7 = false := by
            have : ¬ inB t.who 0 7 = true := by simpa [mostG, hg] using h1
            simpa using this
          have HF := hide (listB_no (m := m) (l := l) (k := k) fun e => h1 (e.1 i t (by rw [HL.out]; exact hlt) HT.out).1.1)
          clear h1
          go_wp2_with (go_at_call 34; refine (l1In_c _ _ _ _).mono ?_; rintro e w' ⟨rfl, rfl⟩)
          go_ret
          exact ⟨by rw [HF.out]; rfl, below_alloc0 BW.out _⟩
    · obtain rfl : i = n := by omega
      have hall : GUp l l.length := by rw [HL.out]; exact hup.out
      by_cases h1 : inB m 0 511 = true
      · by_cases h2 : inB k 0 7 = true
        · by_cases h6 : i ≤ 6
          · have h6' : decide ((i : Int) ≤ 6) = true := by simp; omega
            have HF := hide (listB_iff.2 ⟨hall, h1, h2, by rw [HL.out]; exact h6⟩ : listB m l k = true)
            clear hall
            go_wp2_with (go_at_call 34; refine (l1In_c _ _ _ _).mono ?_; rintro e w' ⟨rfl, rfl⟩)
            go_ret
            exact ⟨by rw [HF.out]; simp [h6'], BW.out⟩
          · have h6' : decide ((i : Int) ≤ 6) = false := by simp; omega
            have HF := hide (listB_no (fun e => h6 (by have := e.2.2.2; rw [HL.out] at this; exact this)) : listB m l k = false)
            clear hall
            go_wp2_with (go_at_call 34; refine (l1In_c _ _ _ _).mono ?_; rintro e w' ⟨rfl, rfl⟩)
            go_ret
            exact ⟨by rw [HF.out]; simp [h6'], BW.out⟩
        · have h2' : inB k 0 7 = false := by simpa using h2
          have HF := hide (listB_no (fun e => h2 e.2.2.1) : listB m l k = false)
          clear hall h2
          go_wp2_with (go_at_call 34; refine (l1In_c _ _ _ _).mono ?_; rintro e w' ⟨rfl, rfl⟩)
          go_ret
          exact ⟨by rw [HF.out]; rfl, BW.out⟩
      · have h1' : inB m 0 511 = false := by simpa using h1
        have HF := hide (listB_no (fun e => h1 e.2.1) : listB m l k = false)
        clear hall h1
        go_wp2_with (go_at_call 34; refine (l1In_c _ _ _ _).mono ?_; rintro e w' ⟨rfl, rfl⟩)
        go_ret
        exact ⟨by rw [HF.out]; rfl, BW.out⟩
end Go.Proofs.Ytpifnfhgaemdmaa
