/-
  Contracts of the functions of the maps of users. No condition.
-/
import Derived.Test.YthocpajiihdceaaProg
import Derived.Test.YthocpajiihdceaaBase
namespace Go.Proofs.Ythocpajiihdceaa
open Go.RowKit
set_option linter.unusedSimpArgs false
set_option linter.unusedVariables false

theorem l1In_c (n lo hi : Int) (w : World) :
    Calls Try.prog 30 #[.int .i64 n, .int .i64 lo, .int .i64 hi] w fun e w' => e = .returned (.bool (inB n lo hi)) ∧ w = w' := by
  by_cases h : lo ≤ n
  all_goals
    go_enter Try.func30, Try.ntmps30
    go_wp2
    go_ret
    exact ⟨by simp [inB]; try omega, rfl⟩
theorem within_c (n lo hi : Int) (w : World) :
    Calls Try.prog 33 #[.int .i64 n, .int .i64 lo, .int .i64 hi] w fun e w' => e = .returned (.bool (inB n lo hi)) ∧ w = w' := by
  by_cases h : lo ≤ n
  all_goals
    go_enter Try.func33, Try.ntmps33
    go_wp2
    go_ret
    exact ⟨by simp [inB]; try omega, rfl⟩

/-- A range of users: inside, outside, how many. -/
structure Rng where
  i : Int
  o : Int
  m : Int

theorem sz_yes (A : Option Addr) (n c : Nat) (l : Int) (h : (n : Int) ≤ l) (hl : l ≤ 1048576) (w : World) :
    Calls Try.prog 11 #[.slice A n c, .int .i64 l] w fun e w' => e = .returned (.int .i64 (l - n)) ∧ w = w' := by
  have h1 : 0 ≤ l - n := by omega
  go_enter Try.func11, Try.ntmps11
  go_wp2
  go_ret
  exact ⟨rfl, rfl⟩
theorem sz_no (A : Option Addr) (n c : Nat) (l : Int) (h : l < (n : Int)) (h0 : 0 ≤ l) (hn : n ≤ maxLen) (hl : l ≤ 1048576) (w : World) :
    Calls Try.prog 11 #[.slice A n c, .int .i64 l] w fun e w' => e = .returned (.int .i64 (-1)) ∧ w = w' := by
  unfold maxLen at hn
  have h1 : l - n < 0 := by omega
  go_enter Try.func11, Try.ntmps11
  go_wp2
  go_ret
  exact ⟨rfl, rfl⟩
theorem toR_c (i o m : Int) (w : World) :
    Calls Try.prog 32 #[.agg #[.int .i64 i, .int .i64 o, .int .i64 m]] w fun e w' => e = .returned (.agg #[.int .i64 i, .int .i64 o, .int .i64 m]) ∧ Below w.heap.size w w' := by
  go_enter Try.func32, Try.ntmps32
  go_wp2
  exact bodyPost_ret (v := .agg #[.int .i64 i, .int .i64 o, .int .i64 m]) (by simp [results, Try.results32, go_sem]) rfl ⟨rfl, (by repeat' (first | exact Below.refl _ _ | assumption | exact And.left (by assumption) | omega | (simp; done) | (simp; omega) | (simp at *; omega) | (refine Below.setCell ?_ ?_ _) | (refine below_alloc0 ?_ _) | (refine Below.drew ?_) | (refine below_drewN ?_ _) | (refine below_via0 ?_ (by assumption)) | (refine Below.alloc ?_ ?_ _) | (refine below_via ?_ (by assumption) ?_)))⟩
theorem apart_c (a n b m : Int) (w : World) (h1 : 0 ≤ a) (h2 : a ≤ 100) (h3 : 0 ≤ n) (h4 : n ≤ 100) (h5 : 0 ≤ b) (h6 : b ≤ 100) (h7 : 0 ≤ m) (h8 : m ≤ 100) :
    Calls Try.prog 31 #[.int .i64 a, .int .i64 n, .int .i64 b, .int .i64 m] w fun e w' => e = .returned (.bool (decide (a + n ≤ b) || decide (b + m ≤ a))) ∧ w = w' := by
  by_cases h : a + n ≤ b
  all_goals
    go_enter Try.func31, Try.ntmps31
    go_wp2
    go_ret
    exact ⟨by simp; try omega, rfl⟩
theorem meet_c (a n b m : Int) (w : World) (h1 : 0 ≤ a) (h2 : a ≤ 100) (h3 : 0 ≤ n) (h4 : n ≤ 100) (h5 : 0 ≤ b) (h6 : b ≤ 100) (h7 : 0 ≤ m) (h8 : m ≤ 100) :
    Calls Try.prog 34 #[.int .i64 a, .int .i64 n, .int .i64 b, .int .i64 m] w fun e w' => e = .returned (.bool (!(decide (a + n ≤ b) || decide (b + m ≤ a)))) ∧ w = w' := by
  by_cases h : a < b + m
  all_goals
    go_enter Try.func34, Try.ntmps34
    go_wp2
    go_ret
    exact ⟨by simp only [Bool.not_or, ← decide_not, Int.not_le]; simp [*]; try omega, rfl⟩


def RR (w : World) (b off : Nat) (l : List Rng) : Prop :=
  b < w.heap.size ∧ ∀ (k : Nat) (t : Rng), l[k]? = some t → w.cell? ⟨b, off + k * 3, none⟩ = some (.int .i64 t.i) ∧ w.cell? ⟨b, off + k * 3 + 1, none⟩ = some (.int .i64 t.o) ∧ w.cell? ⟨b, off + k * 3 + 2, none⟩ = some (.int .i64 t.m)
theorem RR.below {w w' : World} {b off : Nat} {l : List Rng} (h : RR w b off l) (hb : Below w.heap.size w w') : RR w' b off l := by
  refine ⟨Nat.lt_of_lt_of_le h.1 hb.size, fun k t ht => ?_⟩
  obtain ⟨h1, h2, h3⟩ := h.2 k t ht
  exact ⟨(hb.cell (p := ⟨b, _, none⟩) h.1).trans h1, (hb.cell (p := ⟨b, _, none⟩) h.1).trans h2, (hb.cell (p := ⟨b, _, none⟩) h.1).trans h3⟩


def apI (s t : Rng) : Bool := decide (s.i + s.m ≤ t.i) || decide (t.i + t.m ≤ s.i)
def apO (s t : Rng) : Bool := decide (s.o + s.m ≤ t.o) || decide (t.o + t.m ≤ s.o)
def ROk (t : Rng) : Prop := inB t.m 1 100 = true ∧ inB t.i 0 (100 - t.m) = true ∧ inB t.o 0 (100 - t.m) = true
/-- The first k elements are right. -/
def UpTo (l : List Rng) (k : Nat) : Prop := ∀ (i : Nat) (t : Rng), i < k → l[i]? = some t → ROk t ∧ ∀ (j : Nat) (s : Rng), j < i → l[j]? = some s → apI s t = true ∧ apO s t = true
def RV (l : List Rng) : Prop := UpTo l l.length ∧ l.length ≤ 5
noncomputable def rangesB (l : List Rng) : Bool := @decide (RV l) (Classical.propDecidable _)
theorem rangesB_iff {l : List Rng} : rangesB l = true ↔ RV l := by unfold rangesB; exact @decide_eq_true_iff _ (Classical.propDecidable _)
theorem rangesB_no {l : List Rng} (h : ¬ RV l) : rangesB l = false := by
  rw [← Bool.not_eq_true, rangesB_iff]; exact h
theorem rangesB_end {l : List Rng} (h : UpTo l l.length) : rangesB l = decide (l.length ≤ 5) := by
  by_cases h5 : l.length ≤ 5
  · rw [rangesB_iff.2 ⟨h, h5⟩]; simp [h5]
  · rw [rangesB_no (fun e => h5 e.2)]; simp [h5]

theorem upTo_step {l : List Rng} {k : Nat} {t : Rng} (h : UpTo l k) (ht : l[k]? = some t) (hr : ROk t) (hi : ∀ (q : Nat) (s : Rng), q < k → l[q]? = some s → apI s t = true ∧ apO s t = true) : UpTo l (k + 1) := by
  intro i t' hi' ht'
  rcases Nat.lt_or_ge i k with hlt | hge
  · exact h i t' hlt ht'
  · obtain rfl : i = k := by omega
    obtain rfl : t' = t := by have := ht'.symm.trans ht; simpa using this
    exact ⟨hr, hi⟩

theorem specR_c (b off n c : Nat) (l : List Rng) (hl : l.length = n) (hn : n ≤ 1048576) (w : World) (hR : RR w b off l) :
    Calls Try.prog 12 #[.slice (some ⟨b, off, none⟩) n c] w fun e w' => e = .returned (.bool (rangesB l)) ∧ Below w.heap.size w w' := by
  go_enter Try.func12, Try.ntmps12
  go_wp2_with fail
  go_loopw [3, 4, 5] (fun k _ _ wr => ∃ i : Nat, i ≤ n ∧ k = .int .i64 i ∧ Hid (UpTo l i) ∧ Below w.heap.size w wr) (fun k _ _ _ => n - (intOf k).toNat)
  case atStart => exact ⟨0, by omega, rfl, fun i t hi => absurd hi (by omega), Below.refl _ _⟩
  case round =>
    obtain ⟨k, hk, rfl, hup, hbel⟩ := hrel
    by_cases hlt : k < n
    · obtain ⟨t, ht⟩ : ∃ t, l[k]? = some t := ⟨_, List.getElem?_eq_getElem (by omega)⟩
      have HT := hide ht
      have c0 := (hR.below hbel).2 k t ht
      clear ht
      by_cases h1 : inB t.m 1 100 = true
      · obtain ⟨m1, m2⟩ := inB_iff.1 h1
        by_cases h2 : inB t.i 0 (100 - t.m) = true
        · obtain ⟨i1, i2⟩ := inB_iff.1 h2
          by_cases h3 : inB t.o 0 (100 - t.m) = true
          · obtain ⟨o1, o2⟩ := inB_iff.1 h3
            go_wp2_with (go_at_call 30; refine (l1In_c _ _ _ _).mono ?_; rintro e w' ⟨rfl, rfl⟩)
            obtain ⟨wo, rfl⟩ : ∃ wo : World, wo = wr := ⟨_, rfl⟩
            generalize hW0 : wo.alloc (.cells #[.int .i64 t.i, .int .i64 t.o, .int .i64 t.m] 33) = W0
            have HW := hide hW0
            have z0 : W0.heap.size = wo.heap.size + 1 := by rw [← hW0]; simp
            have f0 : W0.cell? ⟨wo.heap.size, 0, none⟩ = some (.int .i64 t.i) ∧ W0.cell? ⟨wo.heap.size, 1, none⟩ = some (.int .i64 t.o) ∧ W0.cell? ⟨wo.heap.size, 2, none⟩ = some (.int .i64 t.m) := by rw [← hW0]; simp
            have hb0 : Below w.heap.size w W0 := by rw [← hW0]; exact below_alloc0 hbel _
            have hR0 : RR W0 b off l := hR.below hb0
            clear hW0 hbel c0
            have Z0 := hide z0
            clear z0
            go_loopw [5] (fun j wr => ∃ i : Nat, i ≤ k ∧ j = .int .i64 i ∧ Hid (∀ (q : Nat) (s : Rng), q < i → l[q]? = some s → apI s t = true ∧ apO s t = true) ∧ Below W0.heap.size W0 wr) (fun j _ => k - (intOf j).toNat)
            case atStart => exact ⟨0, by omega, rfl, fun q s hq => absurd hq (by omega), Below.refl _ _⟩
            case round =>
              obtain ⟨j, hj, rfl, hin, hbi⟩ := hrel
              by_cases hjk : j < k
              · obtain ⟨s, hs⟩ : ∃ s, l[j]? = some s := ⟨_, List.getElem?_eq_getElem (by omega)⟩
                have HS := hide hs
                obtain ⟨s1, s2, s3⟩ := (hup.out j s hjk hs).1
                have cs := (hR0.below hbi).2 j s hs
                clear hs
                obtain ⟨p1, p2⟩ := inB_iff.1 s1; obtain ⟨p3, p4⟩ := inB_iff.1 s2; obtain ⟨p5, p6⟩ := inB_iff.1 s3
                have L0 := live hbi wo.heap.size (by rw [Z0.out]; omega)
                obtain ⟨d0, d1, d2⟩ := f0
                have g0 := (L0.2.2.2.2.2.1 0).trans d0; have g1 := (L0.2.2.2.2.2.1 1).trans d1; have g2 := (L0.2.2.2.2.2.1 2).trans d2
                clear L0
                have jj : (j : Int) < n := by omega
                by_cases ha : apI s t = true
                · by_cases hb : apO s t = true
                  · have ha' : (decide (s.i + s.m ≤ t.i) || decide (t.i + t.m ≤ s.i)) = true := ha
                    have hb' : (decide (s.o + s.m ≤ t.o) || decide (t.o + t.m ≤ s.o)) = true := hb
                    go_wp2_with fail
                    go_quiet ((go_at_call 31; exact quiet_left (apart_c _ _ _ _ _ (by omega) (by omega) (by omega) (by omega) (by omega) (by omega) (by omega) (by omega))))
                    have HA := hide (And.intro ha hb)
                    clear ha hb ha' hb'
                    go_wp2_with fail
                    refine ⟨⟨j + 1, by omega, by go_num, fun q s' hq hs' => ?_, (by repeat' (first | exact Below.refl _ _ | assumption | exact And.left (by assumption) | omega | (simp; done) | (simp; omega) | (simp at *; omega) | (refine Below.setCell ?_ ?_ _) | (refine below_alloc0 ?_ _) | (refine Below.drew ?_) | (refine below_drewN ?_ _) | (refine below_via0 ?_ (by assumption)) | (refine Below.alloc ?_ ?_ _) | (refine below_via ?_ (by assumption) ?_)))⟩, by simp [intOf]; omega⟩
                    rcases Nat.lt_or_ge q j with h | h
                    · exact hin.out q s' h hs'
                    · obtain rfl : q = j := by omega
                      obtain rfl : s' = s := by have := hs'.symm.trans HS.out; simpa using this
                      exact HA.out
                  · have ha' : (decide (s.i + s.m ≤ t.i) || decide (t.i + t.m ≤ s.i)) = true := ha
                    have hb' : (decide (s.o + s.m ≤ t.o) || decide (t.o + t.m ≤ s.o)) = false := by simpa [apO] using hb
                    go_wp2_with fail
                    go_quiet ((go_at_call 31; exact quiet_left (apart_c _ _ _ _ _ (by omega) (by omega) (by omega) (by omega) (by omega) (by omega) (by omega) (by omega))))
                    go_wp2
                    go_ret
                    exact ⟨by rw [rangesB_no (fun e => hb ((e.1 k t (by omega) HT.out).2 j s hjk HS.out).2)]; rfl, (by repeat' (first | exact Below.refl _ _ | assumption | exact And.left (by assumption) | omega | (simp; done) | (simp; omega) | (simp at *; omega) | (refine Below.setCell ?_ ?_ _) | (refine below_alloc0 ?_ _) | (refine Below.drew ?_) | (refine below_drewN ?_ _) | (refine below_via0 ?_ (by assumption)) | (refine Below.alloc ?_ ?_ _) | (refine below_via ?_ (by assumption) ?_)))⟩
                · have ha' : (decide (s.i + s.m ≤ t.i) || decide (t.i + t.m ≤ s.i)) = false := by simpa [apI] using ha
                  go_wp2_with fail
                  go_quiet ((go_at_call 31; exact quiet_left (apart_c _ _ _ _ _ (by omega) (by omega) (by omega) (by omega) (by omega) (by omega) (by omega) (by omega))))
                  go_wp2
                  go_ret
                  exact ⟨by rw [rangesB_no (fun e => ha ((e.1 k t (by omega) HT.out).2 j s hjk HS.out).1)]; rfl, (by repeat' (first | exact Below.refl _ _ | assumption | exact And.left (by assumption) | omega | (simp; done) | (simp; omega) | (simp at *; omega) | (refine Below.setCell ?_ ?_ _) | (refine below_alloc0 ?_ _) | (refine Below.drew ?_) | (refine below_drewN ?_ _) | (refine below_via0 ?_ (by assumption)) | (refine Below.alloc ?_ ?_ _) | (refine below_via ?_ (by assumption) ?_)))⟩
              · obtain rfl : j = k := by omega
                go_wp2
                go_roundw
                case rel => exact ⟨j + 1, by omega, by go_num, upTo_step hup.out HT.out ⟨h1, h2, h3⟩ hin.out, (by repeat' (first | exact Below.refl _ _ | assumption | exact And.left (by assumption) | omega | (simp; done) | (simp; omega) | (simp at *; omega) | (refine Below.setCell ?_ ?_ _) | (refine below_alloc0 ?_ _) | (refine Below.drew ?_) | (refine below_drewN ?_ _) | (refine below_via0 ?_ (by assumption)) | (refine Below.alloc ?_ ?_ _) | (refine below_via ?_ (by assumption) ?_)))⟩
                case measure => simp [intOf]; omega
          · go_wp2_with (go_at_call 30; refine (l1In_c _ _ _ _).mono ?_; rintro e w' ⟨rfl, rfl⟩)
            go_ret
            exact ⟨by rw [rangesB_no (fun e => h3 (e.1 k t (by omega) HT.out).1.2.2)]; rfl, (by repeat' (first | exact Below.refl _ _ | assumption | exact And.left (by assumption) | omega | (simp; done) | (simp; omega) | (simp at *; omega) | (refine Below.setCell ?_ ?_ _) | (refine below_alloc0 ?_ _) | (refine Below.drew ?_) | (refine below_drewN ?_ _) | (refine below_via0 ?_ (by assumption)) | (refine Below.alloc ?_ ?_ _) | (refine below_via ?_ (by assumption) ?_)))⟩
        · go_wp2_with (go_at_call 30; refine (l1In_c _ _ _ _).mono ?_; rintro e w' ⟨rfl, rfl⟩)
          go_ret
          exact ⟨by rw [rangesB_no (fun e => h2 (e.1 k t (by omega) HT.out).1.2.1)]; rfl, (by repeat' (first | exact Below.refl _ _ | assumption | exact And.left (by assumption) | omega | (simp; done) | (simp; omega) | (simp at *; omega) | (refine Below.setCell ?_ ?_ _) | (refine below_alloc0 ?_ _) | (refine Below.drew ?_) | (refine below_drewN ?_ _) | (refine below_via0 ?_ (by assumption)) | (refine Below.alloc ?_ ?_ _) | (refine below_via ?_ (by assumption) ?_)))⟩
      · go_wp2_with (go_at_call 30; refine (l1In_c _ _ _ _).mono ?_; rintro e w' ⟨rfl, rfl⟩)
        go_ret
        exact ⟨by rw [rangesB_no (fun e => h1 (e.1 k t (by omega) HT.out).1.1)]; rfl, (by repeat' (first | exact Below.refl _ _ | assumption | exact And.left (by assumption) | omega | (simp; done) | (simp; omega) | (simp at *; omega) | (refine Below.setCell ?_ ?_ _) | (refine below_alloc0 ?_ _) | (refine Below.drew ?_) | (refine below_drewN ?_ _) | (refine below_via0 ?_ (by assumption)) | (refine Below.alloc ?_ ?_ _) | (refine below_via ?_ (by assumption) ?_)))⟩
    · obtain rfl : k = n := by omega
      go_wp2
      go_ret
      exact ⟨by rw [rangesB_end (by rw [hl]; exact hup.out), hl]; simp; omega, (by repeat' (first | exact Below.refl _ _ | assumption | exact And.left (by assumption) | omega | (simp; done) | (simp; omega) | (simp at *; omega) | (refine Below.setCell ?_ ?_ _) | (refine below_alloc0 ?_ _) | (refine Below.drew ?_) | (refine below_drewN ?_ _) | (refine below_via0 ?_ (by assumption)) | (refine Below.alloc ?_ ?_ _) | (refine below_via ?_ (by assumption) ?_)))⟩
end Go.Proofs.Ythocpajiihdceaa
