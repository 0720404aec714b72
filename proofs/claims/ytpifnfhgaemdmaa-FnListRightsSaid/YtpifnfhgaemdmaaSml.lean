/-
  sameGrants, sameList: whether two lists are the same. No condition.
-/
import Derived.Test.YtpifnfhgaemdmaaProg
import Derived.Test.YtpifnfhgaemdmaaLs
namespace Go.Proofs.Ytpifnfhgaemdmaa
open Go.RowKit
set_option linter.unusedSimpArgs false
set_option linter.unusedVariables false

def eqG (s t : Grant) : Bool := (s.ofGroup == t.ofGroup) && ((s.who == t.who) && (s.rights == t.rights))
def samG : List Grant → List Grant → Bool
  | [], [] => true
  | s :: l, t :: m => eqG s t && samG l m
  | _, _ => false
theorem samG_refl : ∀ l : List Grant, samG l l = true
  | [] => rfl
  | t :: l => by simp [samG, eqG, samG_refl l]
theorem samG_len : ∀ (l m : List Grant), samG l m = true → l.length = m.length
  | [], [], _ => rfl
  | s :: l, t :: m, h => by
    simp only [samG, Bool.and_eq_true] at h
    simp [samG_len l m h.2]
  | [], t :: m, h => by simp [samG] at h
  | s :: l, [], h => by simp [samG] at h
theorem samG_ne {l m : List Grant} {i : Nat} {s t : Grant} (hs : l[i]? = some s) (ht : m[i]? = some t) (h : eqG s t = false) : samG l m = false := by
  induction i generalizing l m with
  | zero =>
    cases l with
    | nil => simp at hs
    | cons a l =>
      cases m with
      | nil => simp at ht
      | cons b m =>
        simp at hs ht
        subst hs ht
        simp [samG, h]
  | succ i ih =>
    cases l with
    | nil => simp at hs
    | cons a l =>
      cases m with
      | nil => simp at ht
      | cons b m =>
        have := ih (l := l) (m := m) (by simpa using hs) (by simpa using ht)
        simp [samG, this]
theorem samG_all {l m : List Grant} (hl : l.length = m.length) (h : ∀ (i : Nat) (s t : Grant), l[i]? = some s → m[i]? = some t → eqG s t = true) : samG l m = true := by
  induction l generalizing m with
  | nil =>
    cases m with
    | nil => rfl
    | cons b m => simp at hl
  | cons a l ih =>
    cases m with
    | nil => simp at hl
    | cons b m =>
      simp only [samG, Bool.and_eq_true]
      exact ⟨h 0 a b rfl rfl, ih (by simpa using hl) fun i s t hs ht => h (i + 1) s t (by simpa using hs) (by simpa using ht)⟩
set_option maxHeartbeats 2000000 in
theorem sameGrants_c (A A' : Option Addr) (n c n' c' : Nat) (l m : List Grant) (hn : n ≤ 1048576) (hn' : n' ≤ 1048576) (w : World) (h : InGrant w A n l) (h' : InGrant w A' n' m) :
    Calls Try.prog 49 #[.slice A n c, .slice A' n' c'] w fun e w' => e = .returned (.bool (samG l m)) ∧ Below w.heap.size w w' := by
  have HI := hide h
  have HI' := hide h'
  have HL := hide h.1
  have HL' := hide h'.1
  clear h h'
  by_cases hnn : n = n'
  case neg =>
    have HF := hide (show samG l m = false from by
      cases hh : samG l m with
      | false => rfl
      | true => exact absurd (samG_len l m hh) (by rw [HL.out, HL'.out]; exact hnn))
    have h1 : ((n : Int) != n') = true := by simp; omega
    go_enter Try.func49, Try.ntmps49
    go_wp2_with fail
    go_ret
    exact ⟨by rw [HF.out]; rfl, Below.refl _ _⟩
  subst hnn
  go_enter Try.func49, Try.ntmps49
  go_wp2_with fail
  go_loopw [5] (fun kv wr => ∃ i : Nat, i ≤ n ∧ kv = .int .i64 i ∧ Hid (∀ (j : Nat) (s t : Grant), j < i → l[j]? = some s → m[j]? = some t → eqG s t = true) ∧ Hid (Below w.heap.size w wr)) (fun kv _ => n - (intOf kv).toNat)
  case atStart => exact ⟨0, by omega, rfl, fun j s t hj => absurd hj (by omega), Below.refl _ _⟩
  case round =>
    obtain ⟨i, hi, rfl, hin, hbel⟩ := hrel
    by_cases hlt : i < n
    · obtain ⟨s, hs⟩ : ∃ s, l[i]? = some s := ⟨_, List.getElem?_eq_getElem (by rw [HL.out]; exact hlt)⟩
      obtain ⟨t, ht⟩ : ∃ t, m[i]? = some t := ⟨_, List.getElem?_eq_getElem (by rw [HL'.out]; exact hlt)⟩
      obtain ⟨b, off, hA, hR⟩ := HI.out.2 (by omega)
      obtain ⟨b', off', hA', hR'⟩ := HI'.out.2 (by omega)
      subst hA hA'
      obtain ⟨c0, c1, c2⟩ := (hR.below hbel.out).2 i s hs
      obtain ⟨d0, d1, d2⟩ := (hR'.below hbel.out).2 i t ht
      have HS := hide hs
      have HT := hide ht
      have hbl := (hR.below hbel.out).1
      have hbl' := (hR'.below hbel.out).1
      clear hs ht hR hR'
      obtain ⟨sg, sw, sr⟩ := s
      obtain ⟨tg, tw, tr⟩ := t
      simp only at c0 c1 c2 d0 d1 d2
      cases heq : eqG ⟨sg, sw, sr⟩ ⟨tg, tw, tr⟩
      · have HF := hide (samG_ne HS.out HT.out heq)
        have hcs : (sw == tw) = false ∨ (sr == tr) = false ∨ sg ≠ tg := by
          cases h1 : (sw == tw)
          · exact .inl rfl
          · cases h2 : (sr == tr)
            · exact .inr (.inl rfl)
            · refine .inr (.inr fun e => ?_)
              simp [eqG, h1, h2, e] at heq
        clear heq
        cases h1 : (sw == tw) <;> cases h2 : (sr == tr) <;> cases sg <;> cases tg
        all_goals
          first
            | (exfalso; rcases hcs with h | h | h; (rw [h1] at h; cases h); (rw [h2] at h; cases h); exact h rfl)
            | (clear hcs
               go_wp2_with fail
               go_quiet (fail)
               go_wp2_with fail
               go_ret
               exact ⟨by rw [HF.out]; rfl, below_drewN hbel.out _⟩)
      · simp only [eqG, Bool.and_eq_true] at heq
        obtain ⟨h0, h1, h2⟩ := heq
        have HE := hide (show eqG ⟨sg, sw, sr⟩ ⟨tg, tw, tr⟩ = true by simp only [eqG, Bool.and_eq_true]; exact ⟨h0, h1, h2⟩)
        cases sg <;> cases tg
        all_goals
          first
            | (exact absurd h0 (by decide))
            | (clear h0
               go_wp2_with fail
               go_quiet (fail)
               go_wp2_with fail
               refine ⟨⟨i + 1, by omega, by go_num, fun j s t hj hs ht => ?_, below_drewN hbel.out _⟩, by simp [intOf]; omega⟩
               rcases Nat.lt_or_ge j i with h | h
               · exact hin.out j s t h hs ht
               · obtain rfl : i = j := by omega
                 obtain rfl := Option.some.inj (hs.symm.trans HS.out)
                 obtain rfl := Option.some.inj (ht.symm.trans HT.out)
                 exact HE.out)
    · obtain rfl : i = n := by omega
      have HF := hide (show samG l m = true from samG_all (by rw [HL.out, HL'.out]) fun j s t hs ht => hin.out j s t (by rw [← HL.out]; exact (List.getElem?_eq_some_iff.1 hs).1) hs ht)
      go_wp2
      go_ret
      exact ⟨by rw [HF.out]; rfl, hbel.out⟩
def samL (m k : Int) (l : List Grant) (m' k' : Int) (l' : List Grant) : Bool := (m == m') && ((k == k') && samG l l')
theorem samL_refl (m k : Int) (l : List Grant) : samL m k l m k l = true := by simp [samL, samG_refl]
set_option maxHeartbeats 1000000 in
theorem sameList_c (m k m' k' : Int) (A A' : Option Addr) (n c n' c' : Nat) (l l' : List Grant) (hn : n ≤ 1048576) (hn' : n' ≤ 1048576) (w : World) (h : InGrant w A n l) (h' : InGrant w A' n' l') :
    Calls Try.prog 23 #[.agg #[.int .i64 m, .slice A n c, .int .i64 k], .agg #[.int .i64 m', .slice A' n' c', .int .i64 k']] w fun e w' => e = .returned (.bool (samL m k l m' k' l')) ∧ Below w.heap.size w w' := by
  have H := hide h
  have H' := hide h'
  clear h h'
  have hb : Below w.heap.size w ((w.alloc (.cells #[.int .i64 m, .slice A n c, .int .i64 k] 24)).alloc (.cells #[.int .i64 m', .slice A' n' c', .int .i64 k'] 24)) := below_alloc0 (below_alloc0 (Below.refl _ _) _) _
  have HB := hide hb
  clear hb
  cases h1 : (m == m')
  · go_enter Try.func23, Try.ntmps23
    go_wp2_with fail
    go_ret
    exact ⟨by simp [samL, h1], HB.out⟩
  cases h2 : (k == k')
  · go_enter Try.func23, Try.ntmps23
    go_wp2_with fail
    go_ret
    exact ⟨by simp [samL, h2], HB.out⟩
  have HE := hide (show samL m k l m' k' l' = samG l l' by simp [samL, h1, h2])
  go_enter Try.func23, Try.ntmps23
  go_wp2_with fail
  refine (sameGrants_c _ _ _ _ _ _ l l' hn hn' _ (H.out.below HB.out) (H'.out.below HB.out)).mono ?_
  rintro e w1 ⟨rfl, hb1⟩
  have B1 := hide (below_via0 HB.out hb1)
  clear hb1
  dsimp only
  go_wp2_with fail
  go_ret
  exact ⟨by rw [HE.out]; rfl, B1.out⟩
end Go.Proofs.Ytpifnfhgaemdmaa
