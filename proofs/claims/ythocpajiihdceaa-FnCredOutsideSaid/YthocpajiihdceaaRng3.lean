/-
  impl.RangesValid. No condition.
-/
import Derived.Test.YthocpajiihdceaaProg
import Derived.Test.YthocpajiihdceaaRng2
namespace Go.Proofs.Ythocpajiihdceaa
open Go.RowKit
set_option linter.unusedSimpArgs false
set_option linter.unusedVariables false

set_option maxHeartbeats 1000000 in
theorem implR_c (b off n c : Nat) (l : List Rng) (hl : l.length = n) (hn : n ≤ 1048576) (hc : n ≤ c) (w : World) (hR : RR w b off l) :
    Calls Try.prog 14 #[.slice (some ⟨b, off, none⟩) n c] w fun e w' => e = .returned (.bool (rangesB l)) ∧ Below w.heap.size w w' := by
  go_enter Try.func14, Try.ntmps14
  go_wp2_with fail
  go_loopw [9] (fun k wr => ∃ i : Nat, i ≤ n ∧ k = .int .i64 i ∧ Hid (UpTo l i) ∧ Below w.heap.size w wr) (fun k _ => n - (intOf k).toNat)
  case atStart => exact ⟨0, by omega, rfl, fun i t hi => absurd hi (by omega), Below.refl _ _⟩
  case round =>
    obtain ⟨k, hk, rfl, hup, hbel⟩ := hrel
    by_cases hlt : k < n
    · obtain ⟨t, ht⟩ : ∃ t, l[k]? = some t := ⟨_, List.getElem?_eq_getElem (by omega)⟩
      have HT := hide ht
      have c0 := (hR.below hbel).2 k t ht
      clear ht
      have kc : k ≤ c := by omega
      by_cases h1 : inB t.m 1 100 = true
      · obtain ⟨m1, m2⟩ := inB_iff.1 h1
        by_cases h2 : inB t.i 0 (100 - t.m) = true
        · obtain ⟨i1, i2⟩ := inB_iff.1 h2
          by_cases h3 : inB t.o 0 (100 - t.m) = true
          · obtain ⟨o1, o2⟩ := inB_iff.1 h3
            go_wp2_with (go_at_call 33; refine (within_c _ _ _ _).mono ?_; rintro e w' ⟨rfl, rfl⟩)
            obtain ⟨wo, rfl⟩ : ∃ wo : World, wo = wr := ⟨_, rfl⟩
            generalize hW0 : wo.alloc (.cells #[.int .i64 t.i, .int .i64 t.o, .int .i64 t.m] 33) = W0
            have HW := hide hW0
            have z0 : W0.heap.size = wo.heap.size + 1 := by rw [← hW0]; simp
            have f0 : W0.cell? ⟨wo.heap.size, 0, none⟩ = some (.int .i64 t.i) ∧ W0.cell? ⟨wo.heap.size, 1, none⟩ = some (.int .i64 t.o) ∧ W0.cell? ⟨wo.heap.size, 2, none⟩ = some (.int .i64 t.m) := by rw [← hW0]; simp
            have hb0 : Below w.heap.size w W0 := by rw [← hW0]; exact below_alloc0 hbel _
            have hR0 : RR W0 b off l := hR.below hb0
            clear hW0 hbel c0
            have Z0 := hide z0
            clear z0
            go_loopw [40] (fun j wr => ∃ i : Nat, i ≤ k ∧ j = .int .i64 i ∧ Hid (∀ (q : Nat) (s : Rng), q < i → l[q]? = some s → apI s t = true ∧ apO s t = true) ∧ Below W0.heap.size W0 wr) (fun j _ => k - (intOf j).toNat)
            case atStart => exact ⟨0, by omega, rfl, fun q s hq => absurd hq (by omega), Below.refl _ _⟩
            case round =>
              obtain ⟨j, hj, rfl, hin, hbi⟩ := hrel
              by_cases hjk : j < k
              · obtain ⟨s, hs⟩ : ∃ s, l[j]? = some s := ⟨_, List.getElem?_eq_getElem (by omega)⟩
                have HS := hide hs
                obtain ⟨s1, s2, s3⟩ := (hup.out j s hjk hs).1
                have cs := (hR0.below hbi).2 j s hs
                have lb := (hR0.below hbi).1
                clear hs
                obtain ⟨p1, p2⟩ := inB_iff.1 s1; obtain ⟨p3, p4⟩ := inB_iff.1 s2; obtain ⟨p5, p6⟩ := inB_iff.1 s3
                have L0 := live hbi wo.heap.size (by rw [Z0.out]; omega)
                obtain ⟨d0, d1, d2⟩ := f0
                have g0 := (L0.2.2.2.2.2.1 0).trans d0; have g1 := (L0.2.2.2.2.2.1 1).trans d1; have g2 := (L0.2.2.2.2.2.1 2).trans d2
                have lt0 := L0.1
                clear L0
                have jj : (j : Int) < k := by omega
                by_cases ha : apI s t = true
                · have ha' : (decide (t.i + t.m ≤ s.i) || decide (s.i + s.m ≤ t.i)) = true := by rw [Bool.or_comm]; exact ha
                  by_cases hb : apO s t = true
                  · have hb' : (decide (t.o + t.m ≤ s.o) || decide (s.o + s.m ≤ t.o)) = true := by rw [Bool.or_comm]; exact hb
                    have HA := hide (And.intro ha hb)
                    clear ha hb
                    go_wp2_with (go_at_call 34; refine (meet_c _ _ _ _ _ (by omega) (by omega) (by omega) (by omega) (by omega) (by omega) (by omega) (by omega)).mono ?_; rintro e w' ⟨rfl, rfl⟩)
                    refine ⟨⟨j + 1, by omega, by go_num, fun q s' hq hs' => ?_, (by repeat' (first | exact Below.refl _ _ | assumption | exact And.left (by assumption) | omega | (simp; done) | (simp; omega) | (simp at *; omega) | (refine Below.setCell ?_ ?_ _) | (refine below_alloc0 ?_ _) | (refine Below.drew ?_) | (refine below_drewN ?_ _) | (refine below_via0 ?_ (by assumption)) | (refine Below.alloc ?_ ?_ _) | (refine below_via ?_ (by assumption) ?_)))⟩, by simp [intOf]; omega⟩
                    rcases Nat.lt_or_ge q j with h | h
                    · exact hin.out q s' h hs'
                    · obtain rfl : q = j := by omega
                      obtain rfl : s' = s := by have := hs'.symm.trans HS.out; simpa using this
                      exact HA.out
                  · have hb' : (decide (t.o + t.m ≤ s.o) || decide (s.o + s.m ≤ t.o)) = false := by rw [Bool.or_comm]; simpa [apO] using hb
                    go_wp2_with (go_at_call 34; refine (meet_c _ _ _ _ _ (by omega) (by omega) (by omega) (by omega) (by omega) (by omega) (by omega) (by omega)).mono ?_; rintro e w' ⟨rfl, rfl⟩)
                    go_ret
                    exact ⟨by rw [rangesB_no (fun e => hb ((e.1 k t (by omega) HT.out).2 j s hjk HS.out).2)]; rfl, (by repeat' (first | exact Below.refl _ _ | assumption | exact And.left (by assumption) | omega | (simp; done) | (simp; omega) | (simp at *; omega) | (refine Below.setCell ?_ ?_ _) | (refine below_alloc0 ?_ _) | (refine Below.drew ?_) | (refine below_drewN ?_ _) | (refine below_via0 ?_ (by assumption)) | (refine Below.alloc ?_ ?_ _) | (refine below_via ?_ (by assumption) ?_)))⟩
                · have ha' : (decide (t.i + t.m ≤ s.i) || decide (s.i + s.m ≤ t.i)) = false := by rw [Bool.or_comm]; simpa [apI] using ha
                  go_wp2_with (go_at_call 34; refine (meet_c _ _ _ _ _ (by omega) (by omega) (by omega) (by omega) (by omega) (by omega) (by omega) (by omega)).mono ?_; rintro e w' ⟨rfl, rfl⟩)
                  go_ret
                  exact ⟨by rw [rangesB_no (fun e => ha ((e.1 k t (by omega) HT.out).2 j s hjk HS.out).1)]; rfl, (by repeat' (first | exact Below.refl _ _ | assumption | exact And.left (by assumption) | omega | (simp; done) | (simp; omega) | (simp at *; omega) | (refine Below.setCell ?_ ?_ _) | (refine below_alloc0 ?_ _) | (refine Below.drew ?_) | (refine below_drewN ?_ _) | (refine below_via0 ?_ (by assumption)) | (refine Below.alloc ?_ ?_ _) | (refine below_via ?_ (by assumption) ?_)))⟩
              · obtain rfl : j = k := by omega
                go_wp2
                go_roundw
                case rel => exact ⟨j + 1, by omega, by go_num, upTo_step hup.out HT.out ⟨h1, h2, h3⟩ hin.out, (by repeat' (first | exact Below.refl _ _ | assumption | exact And.left (by assumption) | omega | (simp; done) | (simp; omega) | (simp at *; omega) | (refine Below.setCell ?_ ?_ _) | (refine below_alloc0 ?_ _) | (refine Below.drew ?_) | (refine below_drewN ?_ _) | (refine below_via0 ?_ (by assumption)) | (refine Below.alloc ?_ ?_ _) | (refine below_via ?_ (by assumption) ?_)))⟩
                case measure => simp [intOf]; omega
          · go_wp2_with (go_at_call 33; refine (within_c _ _ _ _).mono ?_; rintro e w' ⟨rfl, rfl⟩)
            go_ret
            exact ⟨by rw [rangesB_no (fun e => h3 (e.1 k t (by omega) HT.out).1.2.2)]; rfl, (by repeat' (first | exact Below.refl _ _ | assumption | exact And.left (by assumption) | omega | (simp; done) | (simp; omega) | (simp at *; omega) | (refine Below.setCell ?_ ?_ _) | (refine below_alloc0 ?_ _) | (refine Below.drew ?_) | (refine below_drewN ?_ _) | (refine below_via0 ?_ (by assumption)) | (refine Below.alloc ?_ ?_ _) | (refine below_via ?_ (by assumption) ?_)))⟩
        · go_wp2_with (go_at_call 33; refine (within_c _ _ _ _).mono ?_; rintro e w' ⟨rfl, rfl⟩)
          go_ret
          exact ⟨by rw [rangesB_no (fun e => h2 (e.1 k t (by omega) HT.out).1.2.1)]; rfl, (by repeat' (first | exact Below.refl _ _ | assumption | exact And.left (by assumption) | omega | (simp; done) | (simp; omega) | (simp at *; omega) | (refine Below.setCell ?_ ?_ _) | (refine below_alloc0 ?_ _) | (refine Below.drew ?_) | (refine below_drewN ?_ _) | (refine below_via0 ?_ (by assumption)) | (refine Below.alloc ?_ ?_ _) | (refine below_via ?_ (by assumption) ?_)))⟩
      · go_wp2_with (go_at_call 33; refine (within_c _ _ _ _).mono ?_; rintro e w' ⟨rfl, rfl⟩)
        go_ret
        exact ⟨by rw [rangesB_no (fun e => h1 (e.1 k t (by omega) HT.out).1.1)]; rfl, (by repeat' (first | exact Below.refl _ _ | assumption | exact And.left (by assumption) | omega | (simp; done) | (simp; omega) | (simp at *; omega) | (refine Below.setCell ?_ ?_ _) | (refine below_alloc0 ?_ _) | (refine Below.drew ?_) | (refine below_drewN ?_ _) | (refine below_via0 ?_ (by assumption)) | (refine Below.alloc ?_ ?_ _) | (refine below_via ?_ (by assumption) ?_)))⟩
    · obtain rfl : k = n := by omega
      go_wp2
      go_ret
      exact ⟨by rw [rangesB_end (by rw [hl]; exact hup.out), hl]; simp; omega, (by repeat' (first | exact Below.refl _ _ | assumption | exact And.left (by assumption) | omega | (simp; done) | (simp; omega) | (simp at *; omega) | (refine Below.setCell ?_ ?_ _) | (refine below_alloc0 ?_ _) | (refine Below.drew ?_) | (refine below_drewN ?_ _) | (refine below_via0 ?_ (by assumption)) | (refine Below.alloc ?_ ?_ _) | (refine below_via ?_ (by assumption) ?_)))⟩
end Go.Proofs.Ythocpajiihdceaa
