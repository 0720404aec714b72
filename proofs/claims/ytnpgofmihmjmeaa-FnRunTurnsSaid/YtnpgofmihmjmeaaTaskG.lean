/-
  The law of NextTask over drawn tasks. No condition.
-/
import Derived.Test.YtnpgofmihmjmeaaProg
import Derived.Test.YtnpgofmihmjmeaaTaskF
namespace Go.Proofs.Ytnpgofmihmjmeaa
open Go.RowKit
set_option linter.unusedSimpArgs false
set_option linter.unusedVariables false

/-- Among the first n tasks p has had least of those that do not wait, and is the first such one. -/
def Least (l : List Task) (n p : Nat) (s : Task) : Prop :=
  l[p]? = some s ∧ s.waits = false ∧ ∀ (k : Nat) (t : Task), k < n → l[k]? = some t → t.waits = false → s.had ≤ t.had ∧ (k < p → s.had < t.had)
theorem nextTo_least (l : List Task) : ∀ n, n ≤ l.length → (nextTo l n = -1 ∧ ∀ (k : Nat) (t : Task), k < n → l[k]? = some t → t.waits = true) ∨ (∃ (p : Nat) (s : Task), nextTo l n = p ∧ p < n ∧ Least l n p s)
  | 0, _ => .inl ⟨rfl, fun k t hk => absurd hk (by omega)⟩
  | n + 1, hn => by
    obtain ⟨t, ht⟩ : ∃ t, l[n]? = some t := ⟨_, List.getElem?_eq_getElem (by omega)⟩
    have ih := nextTo_least l n (by omega)
    have up : ∀ (k : Nat) (t' : Task), k < n + 1 → l[k]? = some t' → k < n ∨ t' = t := fun k t' hk h' => by
      rcases Nat.lt_or_ge k n with h | h
      · exact .inl h
      · obtain rfl : k = n := by omega
        exact .inr (by simpa using h'.symm.trans ht)
    cases hw : t.waits with
    | true =>
      have e : nextTo l (n + 1) = nextTo l n := by simp [nextTo, ht, hw]
      rcases ih with ⟨h1, h2⟩ | ⟨p, s, h1, h2, h3, h4, h5⟩
      · refine .inl ⟨e.trans h1, fun k t' hk h' => ?_⟩
        rcases up k t' hk h' with h | rfl
        · exact h2 k t' h h'
        · exact hw
      · refine .inr ⟨p, s, e.trans h1, by omega, h3, h4, fun k t' hk h' hw' => ?_⟩
        rcases up k t' hk h' with h | rfl
        · exact h5 k t' h h' hw'
        · rw [hw] at hw'; cases hw'
    | false =>
      rcases ih with ⟨h1, h2⟩ | ⟨p, s, h1, h2, h3, h4, h5⟩
      · have e : nextTo l (n + 1) = (n : Int) := by simp [nextTo, ht, hw, h1]
        refine .inr ⟨n, t, e, by omega, ht, hw, fun k t' hk h' hw' => ?_⟩
        rcases up k t' hk h' with h | rfl
        · rw [h2 k t' h h'] at hw'; cases hw'
        · have : k = n ∨ k < n := by omega
          rcases this with h | h
          · exact ⟨Int.le_refl _, fun hh => by omega⟩
          · rw [h2 k _ h h'] at hw'; cases hw'
      · have hh : hadAt l (nextTo l n) = s.had := by simp [hadAt, h1, h3]
        have hneg : ¬ nextTo l n < 0 := by omega
        by_cases hc : t.had < s.had
        · have e : nextTo l (n + 1) = (n : Int) := by simp [nextTo, ht, hw, hneg, hh, hc]
          refine .inr ⟨n, t, e, by omega, ht, hw, fun k t' hk h' hw' => ?_⟩
          rcases Nat.lt_or_ge k n with h | h
          · have := (h5 k t' h h' hw').1
            exact ⟨by omega, fun _ => by omega⟩
          · obtain rfl : k = n := by omega
            obtain rfl : t' = t := by simpa using h'.symm.trans ht
            exact ⟨Int.le_refl _, fun hh => by omega⟩
        · have e : nextTo l (n + 1) = nextTo l n := by simp [nextTo, ht, hw, hneg, hh, hc]
          refine .inr ⟨p, s, e.trans h1, by omega, h3, h4, fun k t' hk h' hw' => ?_⟩
          rcases Nat.lt_or_ge k n with h | h
          · exact h5 k t' h h' hw'
          · obtain rfl : k = n := by omega
            obtain rfl : t' = t := by simpa using h'.symm.trans ht
            exact ⟨by omega, fun hh => by omega⟩
set_option maxHeartbeats 2000000 in
theorem fnNextTask_walk {w : World} (A : Option Addr) (n c : Nat) (h : InB w A n c) :
    Calls Try.prog 6 #[.slice A n c] w fun e w' => e = .returned (.bool true) ∧ Below w.heap.size w w' := by
  have hm := h.2.1
  unfold maxLen at hm
  have hc := h.1
  have H := hide h
  clear h
  by_cases h20 : 1048576 < n
  · go_enter Try.func6, Try.ntmps6
    go_wp2_with fail
    go_ret
    exact ⟨rfl, Below.refl _ _⟩
  · go_enter Try.func6, Try.ntmps6
    go_wp2_with fail
    refine (gNextTask_c A n c _ H.out).mono ?_
    rintro e w1 ⟨g, cap, l, rfl, hR, h6, hcl, hcm, hb1⟩
    unfold maxLen at hcm
    have IB := hide (nextB_c g 0 l.length cap l rfl (by omega))
    have SB := hide (nextSpec_c g 0 l.length cap l rfl (by omega))
    have hcase : (nextB l = -1) ∨ (∃ (p : Nat) (s : Task), nextB l = p ∧ p < l.length ∧ Least l l.length p s) := by
      cases hv : tasksB l with
      | false => exact .inl (by simp [nextB, hv])
      | true =>
        rcases nextTo_least l l.length (Nat.le_refl _) with ⟨h1, _⟩ | ⟨p, s, h1, h2, h3⟩
        · exact .inl (by simp [nextB, hv, h1])
        · exact .inr ⟨p, s, by simp [nextB, hv, h1], h2, h3⟩
    rcases hcase with hx | ⟨p, s, hx, hp, hL⟩
    · rw [hx] at IB SB
      clear hx
      go_wp2_with fail
      refine (IB.out _ hR).mono ?_
      rintro e w2 ⟨rfl, hb2⟩
      have B2 := below_via0 hb1 hb2
      have hR2 := hR.below hb2
      go_wp2_with fail
      refine (SB.out _ hR2).mono ?_
      rintro e w3 ⟨rfl, hb3⟩
      have B3 := below_via0 B2 hb3
      go_wp2_with (go_at_call 17; refine (alive_c _).mono ?_; rintro e w4 ⟨rfl, hb4⟩; have B4 := below_via0 B3 hb4)
      go_ret
      exact ⟨rfl, (by repeat' (first | exact Below.refl _ _ | assumption | exact And.left (by assumption) | omega | (simp; done) | (simp; omega) | (simp at *; omega) | (refine Below.setCell ?_ ?_ _) | (refine below_alloc0 ?_ _) | (refine Below.drew ?_) | (refine below_drewN ?_ _) | (refine below_via0 ?_ (by assumption)) | (refine Below.alloc ?_ ?_ _) | (refine below_via ?_ (by assumption) ?_)))⟩
    · rw [hx] at IB SB
      have HL := hide hL
      obtain ⟨hs, hws, _⟩ := hL
      have HS := hide hs
      clear hx hs
      have pp : (p : Int) < l.length := by omega
      have pd : decide ((p : Int) < 0) = false := by simp
      go_wp2_with fail
      refine (IB.out _ hR).mono ?_
      rintro e w2 ⟨rfl, hb2⟩
      have B2 := below_via0 hb1 hb2
      have hR2 := hR.below hb2
      go_wp2_with fail
      refine (SB.out _ hR2).mono ?_
      rintro e w3 ⟨rfl, hb3⟩
      have B3 := below_via0 B2 hb3
      have hR3 := hR2.below hb3
      go_wp2_with fail
      go_loopw [5] (fun i wr => ∃ k : Nat, k ≤ l.length ∧ i = .int .i64 k ∧ Below w3.heap.size w3 wr) (fun i _ => l.length - (intOf i).toNat)
      case atStart => exact ⟨0, by omega, rfl, Below.refl _ _⟩
      case round =>
        obtain ⟨k, hk, rfl, hbel⟩ := hrel
        have ds := (hR3.below hbel).2 p s HS.out
        simp only [Nat.zero_add] at ds
        have lb := (hR3.below hbel).1
        have B4 := below_via0 B3 hbel
        by_cases hlt : k < l.length
        · obtain ⟨t, ht⟩ : ∃ t, l[k]? = some t := ⟨_, List.getElem?_eq_getElem hlt⟩
          have c0 := (hR3.below hbel).2 k t ht
          simp only [Nat.zero_add] at c0
          have hmin := HL.out.2.2 k t hlt ht
          clear ht
          have jj : (k : Int) < l.length := by omega
          cases hwt : t.waits with
          | true =>
            clear hmin
            go_wp2_with fail
            go_quiet (fail)
            go_wp2_with fail
            exact ⟨⟨k + 1, by omega, by first | rfl | go_num, (by repeat' (first | exact Below.refl _ _ | assumption | exact And.left (by assumption) | omega | (simp; done) | (simp; omega) | (simp at *; omega) | (refine Below.setCell ?_ ?_ _) | (refine below_alloc0 ?_ _) | (refine Below.drew ?_) | (refine below_drewN ?_ _) | (refine below_via0 ?_ (by assumption)) | (refine Below.alloc ?_ ?_ _) | (refine below_via ?_ (by assumption) ?_)))⟩, by simp [intOf]; omega⟩
          | false =>
            obtain ⟨m1, m2⟩ := hmin hwt
            have d1 : decide (t.had < s.had) = false := by simp; omega
            by_cases hkp : k < p
            · have m3 := m2 hkp
              have d2 : (t.had == s.had) = false := by simp; omega
              have d3 : decide ((k : Int) < (p : Int)) = true := by simp; omega
              clear hmin m2 m1 m3
              go_wp2_with fail
              go_quiet (fail)
              go_wp2_with fail
              exact ⟨⟨k + 1, by omega, by first | rfl | go_num, (by repeat' (first | exact Below.refl _ _ | assumption | exact And.left (by assumption) | omega | (simp; done) | (simp; omega) | (simp at *; omega) | (refine Below.setCell ?_ ?_ _) | (refine below_alloc0 ?_ _) | (refine Below.drew ?_) | (refine below_drewN ?_ _) | (refine below_via0 ?_ (by assumption)) | (refine Below.alloc ?_ ?_ _) | (refine below_via ?_ (by assumption) ?_)))⟩, by simp [intOf]; omega⟩
            · have d3 : decide ((k : Int) < (p : Int)) = false := by simp; omega
              clear hmin m2 m1
              go_wp2_with fail
              go_quiet (fail)
              go_wp2_with fail
              exact ⟨⟨k + 1, by omega, by first | rfl | go_num, (by repeat' (first | exact Below.refl _ _ | assumption | exact And.left (by assumption) | omega | (simp; done) | (simp; omega) | (simp at *; omega) | (refine Below.setCell ?_ ?_ _) | (refine below_alloc0 ?_ _) | (refine Below.drew ?_) | (refine below_drewN ?_ _) | (refine below_via0 ?_ (by assumption)) | (refine Below.alloc ?_ ?_ _) | (refine below_via ?_ (by assumption) ?_)))⟩, by simp [intOf]; omega⟩
        · obtain rfl : k = l.length := by omega
          go_wp2_with fail
          go_ret
          exact ⟨by simp [hws], (by repeat' (first | exact Below.refl _ _ | assumption | exact And.left (by assumption) | omega | (simp; done) | (simp; omega) | (simp at *; omega) | (refine Below.setCell ?_ ?_ _) | (refine below_alloc0 ?_ _) | (refine Below.drew ?_) | (refine below_drewN ?_ _) | (refine below_via0 ?_ (by assumption)) | (refine Below.alloc ?_ ?_ _) | (refine below_via ?_ (by assumption) ?_)))⟩
end Go.Proofs.Ytnpgofmihmjmeaa
