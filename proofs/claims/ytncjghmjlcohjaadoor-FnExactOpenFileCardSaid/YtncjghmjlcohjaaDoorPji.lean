/-
  JoinPath of the program. No condition.
-/
import Derived.Test.YtncjghmjlcohjaaDoorProg
import Derived.Test.YtncjghmjlcohjaaDoorShf
import Derived.Test.YtncjghmjlcohjaaDoorPjs
namespace Go.Proofs.YtncjghmjlcohjaaDoor
open Go.RowKit
set_option linter.unusedSimpArgs false
set_option linter.unusedVariables false

theorem jp1_c (s : ByteArray) (hs : s.size ≤ maxLen) (w : World) : Calls Tryd.prog 57 #[.string s] w fun e w' => e = .returned (.bool (!nameB s)) ∧ w = w' := by
  have hc := nmImpl_c s hs w
  generalize nameB s = B at *
  go_enter Tryd.func57, Tryd.ntmps57
  go_wp2_with fail
  refine hc.mono ?_
  rintro e w1 ⟨rfl, rfl⟩
  cases B <;> (go_wp2_with fail; go_ret; exact ⟨rfl, rfl⟩)
/-- All names of the first k are valid. -/
noncomputable def allB (l : List ByteArray) : Bool := @decide (∀ p ∈ l, NM p) (Classical.propDecidable _)
theorem allB_iff {l : List ByteArray} : allB l = true ↔ ∀ p ∈ l, NM p := by unfold allB; exact @decide_eq_true_iff _ (Classical.propDecidable _)
theorem allB_no {l : List ByteArray} (h : ¬ ∀ p ∈ l, NM p) : allB l = false := by rw [← Bool.not_eq_true, allB_iff]; exact h
set_option maxHeartbeats 2000000 in
theorem ixJ_c (A : Option Addr) (n c : Nat) (l : List ByteArray) (hn : n ≤ 1048576) (hs : ∀ x ∈ l, x.size ≤ maxLen) (w : World) (hI : InString w A n l) :
    Calls Tryd.prog 70 #[.slice A n c, .func (Fn.func 57) #[] #[]] w fun e w' => ∃ r : Int, e = .returned (.int .i64 r) ∧ decide (0 ≤ r) = !allB l ∧ w = w' := by
  have HI := hide hI
  have HS := hide hs
  have hlen := hI.1
  clear hI hs
  go_enter Tryd.func70, Tryd.ntmps70
  go_wp2_with fail
  go_loopw [8] (fun kv wr => ∃ k : Nat, k ≤ n ∧ kv = .int .i64 k ∧ Hid (PUp l k) ∧ wr = w) (fun kv _ => n - (intOf kv).toNat)
  case atStart => exact ⟨0, by omega, rfl, fun i p h => absurd h (by omega), rfl⟩
  case round =>
    obtain ⟨k, hk, rfl, hup, rfl⟩ := hrel
    by_cases hlt : k < n
    · obtain ⟨b, off, rfl, hR⟩ := HI.out.2 (by omega)
      obtain ⟨p, hp⟩ : ∃ p, l[k]? = some p := ⟨_, List.getElem?_eq_getElem (by omega)⟩
      have c0 := hR.2 k p hp
      have hbl := hR.1
      have hps := HS.out p (List.mem_of_getElem? hp)
      have HP := hide hp
      have hkk : (k : Int) < n := by omega
      clear hp hR
      cases hv : nameB p
      · have HF := hide (allB_no (l := l) fun e => by
          have := nameB_iff.2 (e p (List.mem_of_getElem? HP.out))
          rw [hv] at this; cases this)
        go_wp2_with fail
        refine (jp1_c p hps _).mono ?_
        rintro e w1 ⟨rfl, rfl⟩
        rw [hv]
        go_wp2_with fail
        go_ret
        exact ⟨k, rfl, by rw [HF.out]; simp, rfl⟩
      · have HN := hide (hup.out.step HP.out (nameB_iff.1 hv))
        go_wp2_with fail
        refine (jp1_c p hps _).mono ?_
        rintro e w1 ⟨rfl, rfl⟩
        rw [hv]
        go_wp2_with fail
        exact ⟨⟨k + 1, by omega, by go_num, HN, by first | rfl | trivial⟩, by simp [intOf] <;> omega⟩
    · obtain rfl : k = n := by omega
      have hkk : ¬ (k : Int) < k := by omega
      have HT := hide (allB_iff.2 (hup.out.all hlen))
      go_wp2_with fail
      go_ret
      exact ⟨-1, rfl, by rw [HT.out]; rfl, rfl⟩
theorem cfJ_c (A : Option Addr) (n c : Nat) (l : List ByteArray) (hn : n ≤ 1048576) (hs : ∀ x ∈ l, x.size ≤ maxLen) (w : World) (hI : InString w A n l) :
    Calls Tryd.prog 56 #[.slice A n c, .func (Fn.func 57) #[] #[]] w fun e w' => e = .returned (.bool (!allB l)) ∧ w = w' := by
  go_enter Tryd.func56, Tryd.ntmps56
  go_wp2_with fail
  refine (ixJ_c A n c l hn hs _ hI).mono ?_
  rintro e w1 ⟨r, rfl, hr, rfl⟩
  have HR := hide hr
  clear hr
  go_wp2_with fail
  go_ret
  exact ⟨by rw [← HR.out]; rfl, rfl⟩
theorem pathL_len (l : List ByteArray) : ∀ k, k ≤ l.length → (catK l k).size = (pathL ((l.take k).map (·.data.toList))).length := fun k _ => by rw [← catK_data]; rfl
set_option maxHeartbeats 2000000 in
theorem jnImpl_c (A : Option Addr) (n c : Nat) (l : List ByteArray) (hn : n ≤ 1048576) (hc : n ≤ c) (hs : ∀ x ∈ l, x.size ≤ maxLen) (w : World) (hI : InString w A n l) :
    Calls Tryd.prog 44 #[.slice A n c] w fun e w' => e = .returned (.string (joinP l)) ∧ Below w.heap.size w w' := by
  have hlen := hI.1
  by_cases h6 : (6 : Int) < n
  · have HF := hide (joinP_no (l := l) fun e => by have := e.1; omega)
    clear hI hs
    go_enter Tryd.func44, Tryd.ntmps44
    go_wp2_with fail
    go_ret
    exact ⟨by rw [HF.out]; rfl, Below.refl _ _⟩
  have HI := hide hI
  cases hv : allB l
  · have HF := hide (joinP_no (l := l) fun e => by
      have := allB_iff.2 e.2
      rw [hv] at this; cases this)
    go_enter Tryd.func44, Tryd.ntmps44
    go_wp2_with fail
    refine (cfJ_c A n c l hn hs _ hI).mono ?_
    rintro e w1 ⟨rfl, rfl⟩
    rw [hv]
    go_wp2_with fail
    go_ret
    exact ⟨by rw [HF.out]; rfl, Below.refl _ _⟩
  have hV : PV l := ⟨by omega, allB_iff.1 hv⟩
  have HJ := hide (joinP_impl hV)
  have HL := hide (show (Lib.join (l.map (·.data.toList)) [47]).length ≤ 54 by
    have h1 := congrArg ByteArray.size (joinP_impl hV)
    rw [joinP_yes hV] at h1
    have h2 := catK_small (l := l) (k := l.length) (fun i p _ hp => hV.2 p (List.mem_of_getElem? hp))
    have e : (ByteArray.mk #[47]).size = 1 := rfl
    rw [ByteArray.size_append, e] at h1
    have e2 : ∀ x : List UInt8, (ByteArray.mk x.toArray).size = x.length := fun x => by show x.toArray.size = _; simp
    rw [e2] at h1
    split at h1
    · rw [e] at h1; omega
    · omega)
  clear hV
  go_enter Tryd.func44, Tryd.ntmps44
  go_wp2_with fail
  refine (cfJ_c A n c l hn hs _ hI).mono ?_
  rintro e w1 ⟨rfl, rfl⟩
  rw [hv]
  clear hI
  by_cases h0 : n = 0
  · subst h0
    obtain rfl := List.eq_nil_of_length_eq_zero hlen
    go_wp2_with fail
    refine (Tryd.strings_Join_none A c _ _).mono ?_
    rintro e w1 ⟨rfl, rfl⟩
    go_wp2_with fail
    go_ret
    exact ⟨by rw [joinP_nil]; rfl, Below.refl _ _⟩
  obtain ⟨b, off, rfl, hR⟩ := HI.out.2 (by omega)
  have HR := hide hR
  clear hR
  go_wp2_with fail
  subst hlen
  refine (Tryd.strings_Join b off c l ⟨#[47]⟩ _ (fun j x hx => HR.out.2 j x hx) HR.out.1 (by omega) hc (Nat.le_trans HL.out (by omega))).mono ?_
  rintro e w2 ⟨rfl, hb⟩
  have hL2 := HL.out
  have HX := hide (HJ.out)
  have HLN := hide (show (ByteArray.mk (Lib.join (l.map (·.data.toList)) [47]).toArray).size ≤ 54 from by
    show (Lib.join (l.map (·.data.toList)) [47]).toArray.size ≤ 54
    simpa using hL2)
  have hX2 := HLN.out
  generalize hO : (ByteArray.mk (Lib.join (l.map (·.data.toList)) [47]).toArray) = O at *
  go_wp2_with fail
  go_ret
  exact ⟨by rw [← HX.out]; rfl, hb⟩
end Go.Proofs.YtncjghmjlcohjaaDoor
