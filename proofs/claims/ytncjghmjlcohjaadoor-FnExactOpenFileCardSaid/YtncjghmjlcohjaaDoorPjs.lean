/-
  JoinPath of the reference. No condition.
-/
import Derived.Test.YtncjghmjlcohjaaDoorProg
import Derived.Test.YtncjghmjlcohjaaDoorPpl
import Derived.Test.YtncjghmjlcohjaaDoorSli
namespace Go.Proofs.YtncjghmjlcohjaaDoor
open Go.RowKit
set_option linter.unusedSimpArgs false
set_option linter.unusedVariables false

def PUp (l : List ByteArray) (k : Nat) : Prop := ∀ (i : Nat) (p : ByteArray), i < k → l[i]? = some p → NM p
theorem PUp.step {l : List ByteArray} {k : Nat} {p : ByteArray} (h : PUp l k) (hp : l[k]? = some p) (hv : NM p) : PUp l (k + 1) := by
  intro i q hi hq
  rcases Nat.lt_or_ge i k with hlt | hge
  · exact h i q hlt hq
  · obtain rfl : i = k := by omega
    obtain rfl := Option.some.inj (hq.symm.trans hp)
    exact hv
theorem PUp.all {l : List ByteArray} {n : Nat} (h : PUp l n) (hl : l.length = n) : ∀ p ∈ l, NM p := fun p hp => by
  obtain ⟨i, hi, rfl⟩ := List.getElem_of_mem hp
  exact h i _ (by omega) (List.getElem?_eq_getElem hi)
theorem catK_small {l : List ByteArray} {k : Nat} (h : PUp l k) : (catK l k).size ≤ 9 * k := by
  induction k with
  | zero => show (ByteArray.mk #[]).size ≤ 0; exact Nat.le_refl 0
  | succ k ih =>
    have := ih fun i p hi => h i p (by omega)
    cases hk : l[k]? with
    | none => simp only [catK, hk]; omega
    | some p =>
      have := (h k p (by omega) hk).2.2
      simp only [catK, hk, ByteArray.size_append]
      have e : (ByteArray.mk #[47]).size = 1 := rfl
      omega
theorem catK_pos {l : List ByteArray} {k : Nat} (hk : k < l.length) : (catK l (k + 1)).size ≠ 0 := by
  simp only [catK, List.getElem?_eq_getElem hk, ByteArray.size_append]
  have e : (ByteArray.mk #[47]).size = 1 := rfl
  omega
theorem em_size {s : ByteArray} : s.toList.isEmpty = decide (s.size = 0) := by
  have h1 : s.toList = s.data.toList := Go.ByteArray.toList_eq s
  rw [h1]
  cases h : s.data.toList with
  | nil =>
    have : s.size = 0 := by have := congrArg List.length h; exact this
    simp [this]
  | cons a r =>
    have : s.size = r.length + 1 := by have := congrArg List.length h; exact this
    simp [this]
set_option maxHeartbeats 2000000 in
theorem jnSpec_c (A : Option Addr) (n c : Nat) (l : List ByteArray) (hn : n ≤ 1048576) (hs : ∀ x ∈ l, x.size ≤ maxLen) (w : World) (hI : InString w A n l) :
    Calls Tryd.prog 37 #[.slice A n c] w fun e w' => e = .returned (.string (joinP l)) ∧ w = w' := by
  have HI := hide hI
  have HS := hide hs
  have hlen := hI.1
  clear hI hs
  go_enter Tryd.func37, Tryd.ntmps37
  go_wp2_with fail
  go_loopw [3, 4] (fun ov kv wr => ∃ k : Nat, k ≤ n ∧ kv = .int .i64 k ∧ ov = .string (catK l k) ∧ (k = 0 ∨ n ≤ 6) ∧ Hid (PUp l k) ∧ wr = w) (fun _ kv _ => n - (intOf kv).toNat)
  case atStart => exact ⟨0, by omega, rfl, rfl, Or.inl rfl, fun i p h => absurd h (by omega), rfl⟩
  case round =>
    obtain ⟨k, hk, rfl, rfl, h6, hup, rfl⟩ := hrel
    by_cases hlt : k < n
    · obtain ⟨b, off, rfl, hR⟩ := HI.out.2 (by omega)
      obtain ⟨p, hp⟩ : ∃ p, l[k]? = some p := ⟨_, List.getElem?_eq_getElem (by omega)⟩
      have c0 := hR.2 k p hp
      have hbl := hR.1
      have hps := HS.out p (List.mem_of_getElem? hp)
      have HP := hide hp
      have hkk : (k : Int) < n := by omega
      have HE := hide (show catK l (k + 1) = catK l k ++ ⟨#[47]⟩ ++ p by simp only [catK, hp])
      have HO := hide (catK_small hup.out)
      clear hp hR
      cases hv : nameB p
      · have HF := hide (joinP_no (l := l) fun e => by
          have := nameB_iff.2 (e.2 p (List.mem_of_getElem? HP.out))
          rw [hv] at this; cases this)
        go_wp2_with fail
        refine (nmSpec_c p hps _).mono ?_
        rintro e w1 ⟨rfl, rfl⟩
        rw [hv]
        go_wp2_with fail
        go_ret
        exact ⟨by rw [HF.out]; rfl, rfl⟩
      · by_cases hn6 : (6 : Int) < n
        · have HF := hide (joinP_no (l := l) fun e => by have := e.1; omega)
          go_wp2_with fail
          refine (nmSpec_c p hps _).mono ?_
          rintro e w1 ⟨rfl, rfl⟩
          rw [hv]
          go_wp2_with fail
          go_ret
          exact ⟨by rw [HF.out]; rfl, rfl⟩
        · have HN := hide (hup.out.step HP.out (nameB_iff.1 hv))
          have hp8 := (nameB_iff.1 hv).2.2
          have hO6 : (catK l k).size ≤ 54 := by have := HO.out; omega
          go_wp2_with fail
          refine (nmSpec_c p hps _).mono ?_
          rintro e w1 ⟨rfl, rfl⟩
          rw [hv]
          go_wp2_with fail
          exact ⟨⟨k + 1, by omega, by go_num, by rw [HE.out], Or.inr (by omega), HN, by first | rfl | trivial⟩, by simp [intOf] <;> omega⟩
    · obtain rfl : k = n := by omega
      have hkk : ¬ (k : Int) < k := by omega
      have HF := hide (show joinP l = if k = 0 then ⟨#[47]⟩ else catK l k by
        rw [← hlen]
        refine joinP_yes ⟨?_, hup.out.all hlen⟩
        rcases h6 with h6 | h6 <;> omega)
      have HZ := hide (fun h : k ≠ 0 => by
        have := catK_pos (l := l) (k := k - 1) (by omega)
        rwa [show k - 1 + 1 = k by omega] at this)
      by_cases h0 : k = 0
      · subst h0
        have h2 : (catK l 0).toList.isEmpty = true := by rw [em_size]; rfl
        go_wp2_with fail
        go_ret
        exact ⟨by rw [HF.out]; rfl, rfl⟩
      · have h1 := HZ.out h0
        have h2 : (catK l k).toList.isEmpty = false := by rw [em_size]; exact decide_eq_false h1
        rw [if_neg h0] at HF
        generalize catK l k = O at *
        go_wp2_with fail
        go_ret
        exact ⟨by rw [HF.out]; rfl, rfl⟩
end Go.Proofs.YtncjghmjlcohjaaDoor
