/-
  QuotasValid, of the program and of the reference, and its exact law's walk. No condition.
-/
import Derived.Test.YtncjghmjlcohjaaProg
import Derived.Test.YtncjghmjlcohjaaQuota
namespace Go.Proofs.Ytncjghmjlcohjaa
open Go.RowKit
set_option linter.unusedSimpArgs false
set_option linter.unusedVariables false

theorem isUser_c (n : Int) (w : World) : Calls Try.prog 60 #[.int .i64 n] w fun e w' => e = .returned (.bool (inB n 0 99)) ∧ w = w' := by
  go_enter Try.func60, Try.ntmps60
  go_wp2_with (go_at_call 58; refine (within_c _ _ _ _).mono ?_; rintro e w' ⟨rfl, rfl⟩)
  go_ret
  exact ⟨rfl, rfl⟩
def QOk (t : Quota) : Prop := inB t.who 0 99 = true ∧ inB t.nodes 0 16 = true ∧ inB t.bytes 0 1000 = true
def QUp (l : List Quota) (k : Nat) : Prop := ∀ (i : Nat) (t : Quota), i < k → l[i]? = some t → QOk t ∧ ∀ s, 0 < i → l[i - 1]? = some s → s.who < t.who
def QV (l : List Quota) : Prop := QUp l l.length ∧ l.length ≤ 8
noncomputable def quotasB (l : List Quota) : Bool := @decide (QV l) (Classical.propDecidable _)
theorem quotasB_iff {l : List Quota} : quotasB l = true ↔ QV l := by unfold quotasB; exact @decide_eq_true_iff _ (Classical.propDecidable _)
theorem quotasB_no {l : List Quota} (h : ¬ QV l) : quotasB l = false := by
  rw [← Bool.not_eq_true, quotasB_iff]; exact h
theorem quotasB_end {l : List Quota} (h : QUp l l.length) : quotasB l = decide (l.length ≤ 8) := by
  by_cases h5 : l.length ≤ 8
  · rw [quotasB_iff.2 ⟨h, h5⟩]; simp [h5]
  · rw [quotasB_no (fun e => h5 e.2)]; simp [h5]
theorem QUp.step {l : List Quota} {k : Nat} {t : Quota} (h : QUp l k) (ht : l[k]? = some t) (hr : QOk t) (hs : ∀ s, 0 < k → l[k - 1]? = some s → s.who < t.who) : QUp l (k + 1) := by
  intro i t' hi' ht'
  rcases Nat.lt_or_ge i k with hlt | hge
  · exact h i t' hlt ht'
  · obtain rfl : i = k := by omega
    obtain rfl : t' = t := by have := ht'.symm.trans ht; simpa using this
    exact ⟨hr, hs⟩

set_option maxHeartbeats 2000000 in
theorem quoSpec_c (b off n c : Nat) (l : List Quota) (hl : l.length = n) (hn : n ≤ 1048576) (w : World) (hR : RdQuota w b off l) :
    Calls Try.prog 39 #[.slice (some ⟨b, off, none⟩) n c] w fun e w' => e = .returned (.bool (quotasB l)) ∧ Below w.heap.size w w' := by
  go_enter Try.func39, Try.ntmps39
  go_wp2_with fail
  go_loopw [3] (fun k wr => ∃ i : Nat, i ≤ n ∧ k = .int .i64 i ∧ Hid (QUp l i) ∧ Below w.heap.size w wr) (fun k _ => n - (intOf k).toNat)
  case atStart => exact ⟨0, by omega, rfl, fun i t hi => absurd hi (by omega), Below.refl _ _⟩
  case round =>
    obtain ⟨k, hk, rfl, hup, hbel⟩ := hrel
    by_cases hlt : k < n
    · obtain ⟨t, ht⟩ : ∃ t, l[k]? = some t := ⟨_, List.getElem?_eq_getElem (by omega)⟩
      have HT := hide ht
      have c0 := (hR.below hbel).2 k t ht
      have lb := (hR.below hbel).1
      clear ht
      have jj : (k : Int) < n := by omega
      by_cases h1 : inB t.who 0 99 = true
      · by_cases h2 : inB t.nodes 0 16 = true
        · by_cases h3 : inB t.bytes 0 1000 = true
          · by_cases k0 : k = 0
            · have g0 : decide (0 < k) = false := by simp; omega
              have K0 := hide k0
              clear k0
              go_wp2_with fail
              go_quiet ((go_at_call 50; exact quiet_left (l1In_c _ _ _ _)))
              try rw [h1]
              try rw [h2]
              try rw [h3]
              try rw [h1']
              try rw [h2']
              try rw [h3']
              go_wp2_with fail
              refine ⟨⟨k + 1, by omega, by first | rfl | go_num, hup.out.step HT.out ⟨h1, h2, h3⟩ (fun s h => absurd h (by have := K0.out; omega)), (by repeat' (first | exact Below.refl _ _ | assumption | exact And.left (by assumption) | omega | (simp; done) | (simp; omega) | (simp at *; omega) | (refine Below.setCell ?_ ?_ _) | (refine below_alloc0 ?_ _) | (refine Below.drew ?_) | (refine below_drewN ?_ _) | (refine below_via0 ?_ (by assumption)) | (refine Below.alloc ?_ ?_ _) | (refine below_via ?_ (by assumption) ?_)))⟩, by simp [intOf]; omega⟩
            · obtain ⟨m, hm⟩ : ∃ m, k = m + 1 := ⟨k - 1, by omega⟩
              subst hm
              obtain ⟨s, hs⟩ : ∃ s, l[m]? = some s := ⟨_, List.getElem?_eq_getElem (by omega)⟩
              have HQ := hide hs
              have ds := (hR.below hbel).2 m s hs
              clear hs k0
              have e1 : IntKind.i64.wrap ((m : Int) + 1 - 1) = (m : Int) := by rw [show (m : Int) + 1 - 1 = m by omega]; exact IntWalk.i64_in _ (by omega)
              by_cases hc : s.who < t.who
              · have HC := hide hc
                have hc' : decide (t.who ≤ s.who) = false := by simpa using hc
                go_wp2_with fail
                go_quiet ((go_at_call 50; exact quiet_left (l1In_c _ _ _ _)))
                try rw [h1]
                try rw [h2]
                try rw [h3]
                try rw [h1']
                try rw [h2']
                try rw [h3']
                go_wp2_with fail
                refine ⟨⟨m + 1 + 1, by omega, by first | rfl | go_num, hup.out.step HT.out ⟨h1, h2, h3⟩ (fun s' h hs' => by
                  obtain rfl : s' = s := by have := hs'.symm.trans HQ.out; simpa using this
                  exact HC.out), (by repeat' (first | exact Below.refl _ _ | assumption | exact And.left (by assumption) | omega | (simp; done) | (simp; omega) | (simp at *; omega) | (refine Below.setCell ?_ ?_ _) | (refine below_alloc0 ?_ _) | (refine Below.drew ?_) | (refine below_drewN ?_ _) | (refine below_via0 ?_ (by assumption)) | (refine Below.alloc ?_ ?_ _) | (refine below_via ?_ (by assumption) ?_)))⟩, by simp [intOf]; omega⟩
              · have HC := hide hc
                have hc' : decide (t.who ≤ s.who) = true := by simpa using hc
                go_wp2_with fail
                go_quiet ((go_at_call 50; exact quiet_left (l1In_c _ _ _ _)))
                try rw [h1]
                try rw [h2]
                try rw [h3]
                try rw [h1']
                try rw [h2']
                try rw [h3']
                go_wp2_with fail
                go_ret
                exact ⟨by rw [quotasB_no (fun e => by have h := (e.1 (m + 1) t (by omega) HT.out).2 s (by omega) HQ.out; have := HC.out; omega)]; rfl, (by repeat' (first | exact Below.refl _ _ | assumption | exact And.left (by assumption) | omega | (simp; done) | (simp; omega) | (simp at *; omega) | (refine Below.setCell ?_ ?_ _) | (refine below_alloc0 ?_ _) | (refine Below.drew ?_) | (refine below_drewN ?_ _) | (refine below_via0 ?_ (by assumption)) | (refine Below.alloc ?_ ?_ _) | (refine below_via ?_ (by assumption) ?_)))⟩
          · have h3' : inB t.bytes 0 1000 = false := by simpa using h3
            go_wp2_with fail
            go_quiet ((go_at_call 50; exact quiet_left (l1In_c _ _ _ _)))
            try rw [h1]
            try rw [h2]
            try rw [h3]
            try rw [h1']
            try rw [h2']
            try rw [h3']
            go_wp2_with fail
            all_goals
              go_ret
              exact ⟨by rw [quotasB_no (fun e => h3 (e.1 k t (by omega) HT.out).1.2.2)]; rfl, (by repeat' (first | exact Below.refl _ _ | assumption | exact And.left (by assumption) | omega | (simp; done) | (simp; omega) | (simp at *; omega) | (refine Below.setCell ?_ ?_ _) | (refine below_alloc0 ?_ _) | (refine Below.drew ?_) | (refine below_drewN ?_ _) | (refine below_via0 ?_ (by assumption)) | (refine Below.alloc ?_ ?_ _) | (refine below_via ?_ (by assumption) ?_)))⟩
        · go_wp2_with fail
          go_quiet ((go_at_call 50; exact quiet_left (l1In_c _ _ _ _)))
          try rw [h1]
          try rw [h2]
          try rw [h3]
          try rw [h1']
          try rw [h2']
          try rw [h3']
          go_wp2_with fail
          go_ret
          exact ⟨by rw [quotasB_no (fun e => h2 (e.1 k t (by omega) HT.out).1.2.1)]; rfl, (by repeat' (first | exact Below.refl _ _ | assumption | exact And.left (by assumption) | omega | (simp; done) | (simp; omega) | (simp at *; omega) | (refine Below.setCell ?_ ?_ _) | (refine below_alloc0 ?_ _) | (refine Below.drew ?_) | (refine below_drewN ?_ _) | (refine below_via0 ?_ (by assumption)) | (refine Below.alloc ?_ ?_ _) | (refine below_via ?_ (by assumption) ?_)))⟩
      · go_wp2_with fail
        go_quiet ((go_at_call 50; exact quiet_left (l1In_c _ _ _ _)))
        try rw [h1]
        try rw [h2]
        try rw [h3]
        try rw [h1']
        try rw [h2']
        try rw [h3']
        go_wp2_with fail
        go_ret
        exact ⟨by rw [quotasB_no (fun e => h1 (e.1 k t (by omega) HT.out).1.1)]; rfl, (by repeat' (first | exact Below.refl _ _ | assumption | exact And.left (by assumption) | omega | (simp; done) | (simp; omega) | (simp at *; omega) | (refine Below.setCell ?_ ?_ _) | (refine below_alloc0 ?_ _) | (refine Below.drew ?_) | (refine below_drewN ?_ _) | (refine below_via0 ?_ (by assumption)) | (refine Below.alloc ?_ ?_ _) | (refine below_via ?_ (by assumption) ?_)))⟩
    · obtain rfl : k = n := by omega
      go_wp2
      go_ret
      exact ⟨by rw [quotasB_end (by rw [hl]; exact hup.out), hl]; simp; omega, (by repeat' (first | exact Below.refl _ _ | assumption | exact And.left (by assumption) | omega | (simp; done) | (simp; omega) | (simp at *; omega) | (refine Below.setCell ?_ ?_ _) | (refine below_alloc0 ?_ _) | (refine Below.drew ?_) | (refine below_drewN ?_ _) | (refine below_via0 ?_ (by assumption)) | (refine Below.alloc ?_ ?_ _) | (refine below_via ?_ (by assumption) ?_)))⟩

set_option maxHeartbeats 2000000 in
theorem quoImpl_c (b off n c : Nat) (l : List Quota) (hl : l.length = n) (hn : n ≤ 1048576) (w : World) (hR : RdQuota w b off l) :
    Calls Try.prog 41 #[.slice (some ⟨b, off, none⟩) n c] w fun e w' => e = .returned (.bool (quotasB l)) ∧ Below w.heap.size w w' := by
  go_enter Try.func41, Try.ntmps41
  go_wp2_with fail
  go_loopw [7] (fun k wr => ∃ i : Nat, i ≤ n ∧ k = .int .i64 i ∧ Hid (QUp l i) ∧ Below w.heap.size w wr) (fun k _ => n - (intOf k).toNat)
  case atStart => exact ⟨0, by omega, rfl, fun i t hi => absurd hi (by omega), Below.refl _ _⟩
  case round =>
    obtain ⟨k, hk, rfl, hup, hbel⟩ := hrel
    by_cases hlt : k < n
    · obtain ⟨t, ht⟩ : ∃ t, l[k]? = some t := ⟨_, List.getElem?_eq_getElem (by omega)⟩
      have HT := hide ht
      have c0 := (hR.below hbel).2 k t ht
      have lb := (hR.below hbel).1
      clear ht
      have jj : (k : Int) < n := by omega
      by_cases h1 : inB t.who 0 99 = true
      · by_cases h2 : inB t.nodes 0 16 = true
        · by_cases h3 : inB t.bytes 0 1000 = true
          · by_cases k0 : k = 0
            · have g0 : decide (0 < k) = false := by simp; omega
              have K0 := hide k0
              clear k0
              go_wp2_with fail
              go_quiet ((first | (go_at_call 60; exact quiet_left (isUser_c _ _)) | (go_at_call 58; exact quiet_left (within_c _ _ _ _))))
              try rw [h1]
              try rw [h2]
              try rw [h3]
              try rw [h1']
              try rw [h2']
              try rw [h3']
              go_wp2_with fail
              refine ⟨⟨k + 1, by omega, by first | rfl | go_num, hup.out.step HT.out ⟨h1, h2, h3⟩ (fun s h => absurd h (by have := K0.out; omega)), (by repeat' (first | exact Below.refl _ _ | assumption | exact And.left (by assumption) | omega | (simp; done) | (simp; omega) | (simp at *; omega) | (refine Below.setCell ?_ ?_ _) | (refine below_alloc0 ?_ _) | (refine Below.drew ?_) | (refine below_drewN ?_ _) | (refine below_via0 ?_ (by assumption)) | (refine Below.alloc ?_ ?_ _) | (refine below_via ?_ (by assumption) ?_)))⟩, by simp [intOf]; omega⟩
            · obtain ⟨m, hm⟩ : ∃ m, k = m + 1 := ⟨k - 1, by omega⟩
              subst hm
              obtain ⟨s, hs⟩ : ∃ s, l[m]? = some s := ⟨_, List.getElem?_eq_getElem (by omega)⟩
              have HQ := hide hs
              have ds := (hR.below hbel).2 m s hs
              clear hs k0
              have e1 : IntKind.i64.wrap ((m : Int) + 1 - 1) = (m : Int) := by rw [show (m : Int) + 1 - 1 = m by omega]; exact IntWalk.i64_in _ (by omega)
              by_cases hc : s.who < t.who
              · have HC := hide hc
                have hc' : decide (t.who ≤ s.who) = false := by simpa using hc
                go_wp2_with fail
                go_quiet ((first | (go_at_call 60; exact quiet_left (isUser_c _ _)) | (go_at_call 58; exact quiet_left (within_c _ _ _ _))))
                try rw [h1]
                try rw [h2]
                try rw [h3]
                try rw [h1']
                try rw [h2']
                try rw [h3']
                go_wp2_with fail
                refine ⟨⟨m + 1 + 1, by omega, by first | rfl | go_num, hup.out.step HT.out ⟨h1, h2, h3⟩ (fun s' h hs' => by
                  obtain rfl : s' = s := by have := hs'.symm.trans HQ.out; simpa using this
                  exact HC.out), (by repeat' (first | exact Below.refl _ _ | assumption | exact And.left (by assumption) | omega | (simp; done) | (simp; omega) | (simp at *; omega) | (refine Below.setCell ?_ ?_ _) | (refine below_alloc0 ?_ _) | (refine Below.drew ?_) | (refine below_drewN ?_ _) | (refine below_via0 ?_ (by assumption)) | (refine Below.alloc ?_ ?_ _) | (refine below_via ?_ (by assumption) ?_)))⟩, by simp [intOf]; omega⟩
              · have HC := hide hc
                have hc' : decide (t.who ≤ s.who) = true := by simpa using hc
                go_wp2_with fail
                go_quiet ((first | (go_at_call 60; exact quiet_left (isUser_c _ _)) | (go_at_call 58; exact quiet_left (within_c _ _ _ _))))
                try rw [h1]
                try rw [h2]
                try rw [h3]
                try rw [h1']
                try rw [h2']
                try rw [h3']
                go_wp2_with fail
                go_ret
                exact ⟨by rw [quotasB_no (fun e => by have h := (e.1 (m + 1) t (by omega) HT.out).2 s (by omega) HQ.out; have := HC.out; omega)]; rfl, (by repeat' (first | exact Below.refl _ _ | assumption | exact And.left (by assumption) | omega | (simp; done) | (simp; omega) | (simp at *; omega) | (refine Below.setCell ?_ ?_ _) | (refine below_alloc0 ?_ _) | (refine Below.drew ?_) | (refine below_drewN ?_ _) | (refine below_via0 ?_ (by assumption)) | (refine Below.alloc ?_ ?_ _) | (refine below_via ?_ (by assumption) ?_)))⟩
          · have h3' : inB t.bytes 0 1000 = false := by simpa using h3
            go_wp2_with fail
            go_quiet ((first | (go_at_call 60; exact quiet_left (isUser_c _ _)) | (go_at_call 58; exact quiet_left (within_c _ _ _ _))))
            try rw [h1]
            try rw [h2]
            try rw [h3]
            try rw [h1']
            try rw [h2']
            try rw [h3']
            go_wp2_with fail
            all_goals
              go_ret
              exact ⟨by rw [quotasB_no (fun e => h3 (e.1 k t (by omega) HT.out).1.2.2)]; rfl, (by repeat' (first | exact Below.refl _ _ | assumption | exact And.left (by assumption) | omega | (simp; done) | (simp; omega) | (simp at *; omega) | (refine Below.setCell ?_ ?_ _) | (refine below_alloc0 ?_ _) | (refine Below.drew ?_) | (refine below_drewN ?_ _) | (refine below_via0 ?_ (by assumption)) | (refine Below.alloc ?_ ?_ _) | (refine below_via ?_ (by assumption) ?_)))⟩
        · go_wp2_with fail
          go_quiet ((first | (go_at_call 60; exact quiet_left (isUser_c _ _)) | (go_at_call 58; exact quiet_left (within_c _ _ _ _))))
          try rw [h1]
          try rw [h2]
          try rw [h3]
          try rw [h1']
          try rw [h2']
          try rw [h3']
          go_wp2_with fail
          go_ret
          exact ⟨by rw [quotasB_no (fun e => h2 (e.1 k t (by omega) HT.out).1.2.1)]; rfl, (by repeat' (first | exact Below.refl _ _ | assumption | exact And.left (by assumption) | omega | (simp; done) | (simp; omega) | (simp at *; omega) | (refine Below.setCell ?_ ?_ _) | (refine below_alloc0 ?_ _) | (refine Below.drew ?_) | (refine below_drewN ?_ _) | (refine below_via0 ?_ (by assumption)) | (refine Below.alloc ?_ ?_ _) | (refine below_via ?_ (by assumption) ?_)))⟩
      · go_wp2_with fail
        go_quiet ((first | (go_at_call 60; exact quiet_left (isUser_c _ _)) | (go_at_call 58; exact quiet_left (within_c _ _ _ _))))
        try rw [h1]
        try rw [h2]
        try rw [h3]
        try rw [h1']
        try rw [h2']
        try rw [h3']
        go_wp2_with fail
        go_ret
        exact ⟨by rw [quotasB_no (fun e => h1 (e.1 k t (by omega) HT.out).1.1)]; rfl, (by repeat' (first | exact Below.refl _ _ | assumption | exact And.left (by assumption) | omega | (simp; done) | (simp; omega) | (simp at *; omega) | (refine Below.setCell ?_ ?_ _) | (refine below_alloc0 ?_ _) | (refine Below.drew ?_) | (refine below_drewN ?_ _) | (refine below_via0 ?_ (by assumption)) | (refine Below.alloc ?_ ?_ _) | (refine below_via ?_ (by assumption) ?_)))⟩
    · obtain rfl : k = n := by omega
      go_wp2
      go_ret
      exact ⟨by rw [quotasB_end (by rw [hl]; exact hup.out), hl]; simp; omega, (by repeat' (first | exact Below.refl _ _ | assumption | exact And.left (by assumption) | omega | (simp; done) | (simp; omega) | (simp at *; omega) | (refine Below.setCell ?_ ?_ _) | (refine below_alloc0 ?_ _) | (refine Below.drew ?_) | (refine below_drewN ?_ _) | (refine below_via0 ?_ (by assumption)) | (refine Below.alloc ?_ ?_ _) | (refine below_via ?_ (by assumption) ?_)))⟩


end Go.Proofs.Ytncjghmjlcohjaa
