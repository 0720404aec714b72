/-
  MountsValid of the reference. No condition.
-/
import Derived.Test.YtgpdblkaidllmaaDoorProg
import Derived.Test.YtgpdblkaidllmaaDoorPpw
import Derived.Test.YtgpdblkaidllmaaDoorMnt
namespace Go.Proofs.YtgpdblkaidllmaaDoor
open Go.RowKit
set_option linter.unusedSimpArgs false
set_option linter.unusedVariables false

/-- The mount i is right beside those before it. -/
def MOk (l : List Mount) (i : Nat) (t : Mount) : Prop := pathB t.src = true ∧ pathB t.dst = true ∧ ∀ (j : Nat) (u : Mount), j < i → l[j]? = some u → ¬ u.src = t.src
def MUp (l : List Mount) (k : Nat) : Prop := ∀ (i : Nat) (t : Mount), i < k → l[i]? = some t → MOk l i t
def MV (l : List Mount) : Prop := MUp l l.length ∧ l.length ≤ 6
noncomputable def mntB (l : List Mount) : Bool := @decide (MV l) (Classical.propDecidable _)
theorem mntB_iff {l : List Mount} : mntB l = true ↔ MV l := by unfold mntB; exact @decide_eq_true_iff _ (Classical.propDecidable _)
theorem mntB_no {l : List Mount} (h : ¬ MV l) : mntB l = false := by rw [← Bool.not_eq_true, mntB_iff]; exact h
theorem mntB_bad {l : List Mount} {i : Nat} {t : Mount} (ht : l[i]? = some t) (h : ¬ MOk l i t) : mntB l = false := mntB_no fun e => h (e.1 i t (List.getElem?_eq_some_iff.1 ht).1 ht)
theorem mntB_end {l : List Mount} (h : MUp l l.length) : mntB l = decide (l.length ≤ 6) := by
  by_cases h6 : l.length ≤ 6
  · rw [decide_eq_true h6]; exact mntB_iff.2 ⟨h, h6⟩
  · rw [decide_eq_false h6]; exact mntB_no fun e => h6 e.2
theorem MUp.step {l : List Mount} {k : Nat} {t : Mount} (h : MUp l k) (ht : l[k]? = some t) (hm : MOk l k t) : MUp l (k + 1) := by
  intro i u hi hu
  rcases Nat.lt_or_ge i k with hlt | hge
  · exact h i u hlt hu
  · obtain rfl : i = k := by omega
    obtain rfl := Option.some.inj (hu.symm.trans ht)
    exact hm
theorem eq_tl {a b : ByteArray} : (a.toList == b.toList) = decide (a = b) := by
  by_cases h : a = b
  · subst h; simp
  · rw [ne_tl h, decide_eq_false h]
set_option maxHeartbeats 4000000 in
theorem mvSpec_c (b off n c : Nat) (l : List Mount) (hl : l.length = n) (hn : n ≤ 1048576) (hz : ∀ t ∈ l, MntS t) (w : World) (hR : RdMount w b off l) :
    Calls Tryd.prog 9 #[.slice (some ⟨b, off, none⟩) n c] w fun e w' => e = .returned (.bool (mntB l)) ∧ Below w.heap.size w w' := by
  have HR := hide hR
  have HZ := hide hz
  clear hR hz
  go_enter Tryd.func9, Tryd.ntmps9
  go_wp2_with fail
  go_loopw [3] (fun kv wr => ∃ k : Nat, k ≤ n ∧ kv = .int .i64 k ∧ Hid (MUp l k) ∧ Hid (Below w.heap.size w wr)) (fun kv _ => n - (intOf kv).toNat)
  case atStart => exact ⟨0, by omega, rfl, fun i t hi => absurd hi (by omega), Below.refl _ _⟩
  case round =>
    obtain ⟨k, hk, rfl, hup, hbel⟩ := hrel
    by_cases hlt : k < n
    · have hkk : (k : Int) < n := by omega
      obtain ⟨t, ht⟩ : ∃ t, l[k]? = some t := ⟨_, List.getElem?_eq_getElem (by omega)⟩
      have HT := hide ht
      have HZt := hide (HZ.out t (List.mem_of_getElem? ht))
      obtain ⟨c0, c1⟩ := (HR.out.below hbel.out).2 k t ht
      have hbl := (HR.out.below hbel.out).1
      clear ht
      go_wp2_with fail
      refine (ppSpec_c t.src HZt.out.1 _).mono ?_
      rintro e w1 ⟨V, rfl, hb1, _⟩
      have B1 := hide (below_via0 hbel.out hb1)
      clear c0 c1 hbl hb1
      obtain ⟨c0, c1⟩ := (HR.out.below B1.out).2 k t HT.out
      have hbl := (HR.out.below B1.out).1
      go_wp2_with fail
      refine (ppSpec_c t.dst HZt.out.2 _).mono ?_
      rintro e w2 ⟨V2, rfl, hb2, _⟩
      have B2 := hide (below_via0 B1.out hb2)
      clear c0 c1 hbl hb2
      cases hp1 : pathB t.src
      · have HF := hide (mntB_bad HT.out fun e => by rw [e.1] at hp1; cases hp1)
        go_wp2_with fail
        go_ret
        exact ⟨by rw [HF.out]; rfl, B2.out⟩
      cases hp2 : pathB t.dst
      · have HF := hide (mntB_bad HT.out fun e => by rw [e.2.1] at hp2; cases hp2)
        go_wp2_with fail
        go_ret
        exact ⟨by rw [HF.out]; rfl, B2.out⟩
      go_wp2_with fail
      go_loopw [8] (fun kv wq => ∃ j : Nat, j ≤ k ∧ kv = .int .i64 j ∧ Hid (∀ (q : Nat) (u : Mount), q < j → l[q]? = some u → ¬ u.src = t.src) ∧ Hid (Below w2.heap.size w2 wq)) (fun kv _ => k - (intOf kv).toNat)
      case atStart => exact ⟨0, by omega, rfl, fun q u hq => absurd hq (by omega), Below.refl _ _⟩
      case round =>
        obtain ⟨j, hj, rfl, hne, hbj⟩ := hrel
        have BJ := hide (below_via0 B2.out hbj.out)
        obtain ⟨c0, c1⟩ := (HR.out.below BJ.out).2 k t HT.out
        have hbl := (HR.out.below BJ.out).1
        by_cases hjl : j < k
        · have hjj : (j : Int) < k := by omega
          have hjn : (j : Int) < n := by omega
          obtain ⟨u, hu⟩ : ∃ u, l[j]? = some u := ⟨_, List.getElem?_eq_getElem (by omega)⟩
          obtain ⟨d0, d1⟩ := (HR.out.below BJ.out).2 j u hu
          have HU := hide hu
          clear hu
          by_cases he : u.src = t.src
          · have HF := hide (mntB_bad HT.out fun e => e.2.2 j u (by omega) HU.out he)
            rw [he] at d0
            go_wp2_with fail
            go_quiet (fail)
            go_wp2_with fail
            go_ret
            exact ⟨by rw [HF.out]; rfl, below_drewN BJ.out _⟩
          · have HN := hide (show ∀ (q : Nat) (v : Mount), q < j + 1 → l[q]? = some v → ¬ v.src = t.src from fun q v hq hv => by
              rcases Nat.lt_or_ge q j with h' | h'
              · exact hne.out q v h' hv
              · obtain rfl : q = j := by omega
                obtain rfl := Option.some.inj (hv.symm.trans HU.out)
                exact he)
            have hq := ne_tl he
            go_wp2_with fail
            go_quiet (fail)
            go_wp2_with fail
            exact ⟨⟨j + 1, by omega, by go_num, HN, hide (below_drewN hbj.out _)⟩, by simp [intOf] <;> omega⟩
        · obtain rfl : j = k := by omega
          have hjj : ¬ (j : Int) < j := by omega
          have HM := hide (hup.out.step HT.out ⟨hp1, hp2, hne.out⟩)
          go_wp2_with fail
          exact ⟨⟨j + 1, by omega, by go_num, HM, BJ⟩, by simp [intOf] <;> omega⟩
    · obtain rfl : k = n := by omega
      have hkk : ¬ (k : Int) < k := by omega
      have HE := hide (show mntB l = decide (k ≤ 6) by rw [← hl]; exact mntB_end (by rw [hl]; exact hup.out))
      go_wp2_with fail
      go_ret
      exact ⟨by rw [HE.out]; simp; omega, hbel.out⟩
end Go.Proofs.YtgpdblkaidllmaaDoor
