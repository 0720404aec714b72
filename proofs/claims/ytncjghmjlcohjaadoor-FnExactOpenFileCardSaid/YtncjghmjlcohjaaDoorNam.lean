/-
  Names: what NameValid answers. No condition.
-/
import Derived.Test.YtncjghmjlcohjaaDoorProg
import Derived.Test.YtncjghmjlcohjaaDoorIns
namespace Go.Proofs.YtncjghmjlcohjaaDoor
open Go.RowKit
set_option linter.unusedSimpArgs false
set_option linter.unusedVariables false

def chB (i : Nat) (c : UInt8) : Bool := (decide (97 ≤ c.toNat) && decide (c.toNat ≤ 122)) || (decide (0 < i) && (decide (48 ≤ c.toNat) && decide (c.toNat ≤ 57)))
def NmUp (s : ByteArray) (k : Nat) : Prop := ∀ (i : Nat) (h : i < s.size), i < k → chB i (s[i]'h) = true
def NM (s : ByteArray) : Prop := NmUp s s.size ∧ 1 ≤ s.size ∧ s.size ≤ 8
noncomputable def nameB (s : ByteArray) : Bool := @decide (NM s) (Classical.propDecidable _)
theorem nameB_iff {s : ByteArray} : nameB s = true ↔ NM s := by unfold nameB; exact @decide_eq_true_iff _ (Classical.propDecidable _)
theorem nameB_no {s : ByteArray} (h : ¬ NM s) : nameB s = false := by rw [← Bool.not_eq_true, nameB_iff]; exact h
theorem NmUp.step {s : ByteArray} {k : Nat} (h : NmUp s k) (hk : k < s.size) (hc : chB k (s[k]'hk) = true) : NmUp s (k + 1) := by
  intro i hi hik
  rcases Nat.lt_or_ge i k with hlt | hge
  · exact h i hi hlt
  · obtain rfl : i = k := by omega
    exact hc
theorem nm_bad {s : ByteArray} {k : Nat} (hk : k < s.size) (hc : chB k (s[k]'hk) = false) : nameB s = false := nameB_no fun e => by
  have := e.1 k hk hk
  rw [hc] at this; cases this
theorem nm_end {s : ByteArray} (h : NmUp s s.size) : nameB s = inB (s.size : Int) 1 8 := by
  cases hb : inB (s.size : Int) 1 8 with
  | true => exact nameB_iff.2 ⟨h, by have := inB_iff.1 hb; omega⟩
  | false =>
    refine nameB_no fun e => ?_
    have := inB_no.1 hb
    have := e.2
    omega
set_option maxHeartbeats 2000000 in
theorem nmSpec_c (s : ByteArray) (hs : s.size ≤ maxLen) (w : World) : Calls Tryd.prog 51 #[.string s] w fun e w' => e = .returned (.bool (nameB s)) ∧ w = w' := by
  unfold maxLen at hs
  go_enter Tryd.func51, Tryd.ntmps51
  go_wp2_with fail
  go_loopw [3] (fun kv wr => ∃ k : Nat, k ≤ s.size ∧ kv = .int .i64 k ∧ Hid (NmUp s k) ∧ wr = w) (fun kv _ => s.size - (intOf kv).toNat)
  case atStart => exact ⟨0, by omega, rfl, fun i hi h => absurd h (by omega), rfl⟩
  case round =>
    obtain ⟨k, hk, rfl, hup, rfl⟩ := hrel
    by_cases hlt : k < s.size
    · have hkk : (k : Int) < s.size := by omega
      have HG := hide (fun h => hup.out.step hlt h)
      have HB := hide (fun h => nm_bad hlt h)
      have hcd : s[k] = s[k] := rfl
      generalize hc : s[k] = c at HG HB hcd
      clear hcd
      have hu := c.toNat_lt
      by_cases h1 : (97 : Int) ≤ c.toNat
      · by_cases h2 : (c.toNat : Int) ≤ 122
        · have hch : chB k c = true := by simp [chB]; omega
          have HN := HG.out hch
          clear HG HB hch hup
          go_wp2_with fail
          exact ⟨⟨k + 1, by omega, by go_num, hide HN, by first | rfl | trivial⟩, by simp [intOf] <;> omega⟩
        · have hch : chB k c = false := by simp [chB]; omega
          have HN := hide (HB.out hch)
          clear HG HB hch hup
          have h3 : (57 : Int) < c.toNat := by omega
          have h4 : (48 : Int) ≤ c.toNat := by omega
          have h5 : ¬ ((c.toNat : Int) ≤ 57) := by omega
          by_cases h0 : k = 0
          · subst h0
            go_wp2_with fail
            go_ret
            exact ⟨by rw [HN.out]; rfl, rfl⟩
          · have h0' : (0 : Int) < k := by omega
            have h0'' : ((k : Int) == 0) = false := by simp; omega
            go_wp2_with fail
            go_ret
            exact ⟨by rw [HN.out]; rfl, rfl⟩
      · by_cases h0 : k = 0
        · subst h0
          have hch : chB 0 c = false := by simp [chB]; omega
          have HN := hide (HB.out hch)
          clear HG HB hch hup
          go_wp2_with fail
          go_ret
          exact ⟨by rw [HN.out]; rfl, rfl⟩
        have h0' : (0 : Int) < k := by omega
        have h0'' : ((k : Int) == 0) = false := by simp; omega
        by_cases h3 : (48 : Int) ≤ c.toNat
        · by_cases h4 : (c.toNat : Int) ≤ 57
          · have hch : chB k c = true := by simp [chB]; omega
            have HN := HG.out hch
            clear HG HB hch hup
            go_wp2_with fail
            exact ⟨⟨k + 1, by omega, by go_num, hide HN, by first | rfl | trivial⟩, by simp [intOf] <;> omega⟩
          · have hch : chB k c = false := by simp [chB]; omega
            have HN := hide (HB.out hch)
            clear HG HB hch hup
            go_wp2_with fail
            go_ret
            exact ⟨by rw [HN.out]; rfl, rfl⟩
        · have hch : chB k c = false := by simp [chB]; omega
          have HN := hide (HB.out hch)
          clear HG HB hch hup
          go_wp2_with fail
          go_ret
          exact ⟨by rw [HN.out]; rfl, rfl⟩
    · obtain rfl : k = s.size := by omega
      have hkk : ¬ (s.size : Int) < s.size := by omega
      have HE := hide (nm_end hup.out)
      go_wp2_with fail
      refine (l1In_c _ _ _ _).mono ?_
      rintro e w' ⟨rfl, rfl⟩
      go_wp2_with fail
      go_ret
      exact ⟨by rw [HE.out]; rfl, rfl⟩
set_option maxHeartbeats 2000000 in
theorem nmImpl_c (s : ByteArray) (hs : s.size ≤ maxLen) (w : World) : Calls Tryd.prog 58 #[.string s] w fun e w' => e = .returned (.bool (nameB s)) ∧ w = w' := by
  unfold maxLen at hs
  go_enter Tryd.func58, Tryd.ntmps58
  go_wp2_with fail
  go_loopw [6] (fun kv wr => ∃ k : Nat, k ≤ s.size ∧ kv = .int .i64 k ∧ Hid (NmUp s k) ∧ wr = w) (fun kv _ => s.size - (intOf kv).toNat)
  case atStart => exact ⟨0, by omega, rfl, fun i hi h => absurd h (by omega), rfl⟩
  case round =>
    obtain ⟨k, hk, rfl, hup, rfl⟩ := hrel
    by_cases hlt : k < s.size
    · have hkk : (k : Int) < s.size := by omega
      have HG := hide (fun h => hup.out.step hlt h)
      have HB := hide (fun h => nm_bad hlt h)
      have hcd : s[k] = s[k] := rfl
      generalize hc : s[k] = c at HG HB hcd
      clear hcd
      have hu := c.toNat_lt
      by_cases h1 : (97 : Int) ≤ c.toNat
      · by_cases h2 : (c.toNat : Int) ≤ 122
        · have hch : chB k c = true := by simp [chB]; omega
          have HN := HG.out hch
          clear HG HB hch hup
          go_wp2_with fail
          exact ⟨⟨k + 1, by omega, by go_num, hide HN, by first | rfl | trivial⟩, by simp [intOf] <;> omega⟩
        · have hch : chB k c = false := by simp [chB]; omega
          have HN := hide (HB.out hch)
          clear HG HB hch hup
          have h3 : (57 : Int) < c.toNat := by omega
          have h4 : (48 : Int) ≤ c.toNat := by omega
          have h5 : ¬ ((c.toNat : Int) ≤ 57) := by omega
          by_cases h0 : k = 0
          · subst h0
            go_wp2_with fail
            go_ret
            exact ⟨by rw [HN.out]; rfl, rfl⟩
          · have h0' : (0 : Int) < k := by omega
            have h0'' : ((k : Int) == 0) = false := by simp; omega
            go_wp2_with fail
            go_ret
            exact ⟨by rw [HN.out]; rfl, rfl⟩
      · by_cases h0 : k = 0
        · subst h0
          have hch : chB 0 c = false := by simp [chB]; omega
          have HN := hide (HB.out hch)
          clear HG HB hch hup
          go_wp2_with fail
          go_ret
          exact ⟨by rw [HN.out]; rfl, rfl⟩
        have h0' : (0 : Int) < k := by omega
        have h0'' : ((k : Int) == 0) = false := by simp; omega
        by_cases h3 : (48 : Int) ≤ c.toNat
        · by_cases h4 : (c.toNat : Int) ≤ 57
          · have hch : chB k c = true := by simp [chB]; omega
            have HN := HG.out hch
            clear HG HB hch hup
            go_wp2_with fail
            exact ⟨⟨k + 1, by omega, by go_num, hide HN, by first | rfl | trivial⟩, by simp [intOf] <;> omega⟩
          · have hch : chB k c = false := by simp [chB]; omega
            have HN := hide (HB.out hch)
            clear HG HB hch hup
            go_wp2_with fail
            go_ret
            exact ⟨by rw [HN.out]; rfl, rfl⟩
        · have hch : chB k c = false := by simp [chB]; omega
          have HN := hide (HB.out hch)
          clear HG HB hch hup
          go_wp2_with fail
          go_ret
          exact ⟨by rw [HN.out]; rfl, rfl⟩
    · obtain rfl : k = s.size := by omega
      have hkk : ¬ (s.size : Int) < s.size := by omega
      have HE := hide (nm_end hup.out)
      go_wp2_with fail
      refine (within_c _ _ _ _).mono ?_
      rintro e w' ⟨rfl, rfl⟩
      go_wp2_with fail
      go_ret
      exact ⟨by rw [HE.out]; rfl, rfl⟩
end Go.Proofs.YtncjghmjlcohjaaDoor
