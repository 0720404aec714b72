/-
  Whether two lists of processes are the same. No condition.
-/
import Derived.Test.YtlfchcjollcdhaaProg
import Derived.Test.YtlfchcjollcdhaaPrcO
import Derived.Test.YtlfchcjollcdhaaPrcM
namespace Go.Proofs.Ytlfchcjollcdhaa
open Go.RowKit
set_option linter.unusedSimpArgs false
set_option linter.unusedVariables false

set_option maxHeartbeats 2000000 in
theorem samePr_eq (A A' : Option Addr) (n c n' c' : Nat) (l : List Pcs) (hn : n ≤ 1048576) (w : World) (h : InProcess w A n l) (h' : InProcess w A' n' l) :
    Calls Try.prog 21 #[.slice A n c, .slice A' n' c'] w fun e w' => e = .returned (.bool true) ∧ Below w.heap.size w w' := by
  have HI := hide h
  have HI' := hide h'
  have HL := hide h.1
  obtain rfl : n = n' := h.1.symm.trans h'.1
  clear h h'
  go_enter Try.func21, Try.ntmps21
  go_wp2_with fail
  go_loopw [5] (fun kv wr => ∃ i : Nat, i ≤ n ∧ kv = .int .i64 i ∧ Hid (Below w.heap.size w wr)) (fun kv _ => n - (intOf kv).toNat)
  case atStart => exact ⟨0, by omega, rfl, Below.refl _ _⟩
  case round =>
    obtain ⟨i, hi, rfl, hbel⟩ := hrel
    by_cases hlt : i < n
    · obtain ⟨s, hs⟩ : ∃ s, l[i]? = some s := ⟨_, List.getElem?_eq_getElem (by rw [HL.out]; exact hlt)⟩
      obtain ⟨b, off, hA, hR⟩ := HI.out.2 (by omega)
      obtain ⟨b', off', hA', hR'⟩ := HI'.out.2 (by omega)
      subst hA hA'
      obtain ⟨c0, c1, c2, c3, c4, c5, c6, c7⟩ := (hR.below hbel.out).2 i s hs
      obtain ⟨d0, d1, d2, d3, d4, d5, d6, d7⟩ := (hR'.below hbel.out).2 i s hs
      have hbl := (hR.below hbel.out).1
      have hbl' := (hR'.below hbel.out).1
      clear hs hR hR'
      obtain ⟨s0, s1, s2, s3, s4, s5, s6, s7⟩ := s
      simp only at c0 c1 c2 c3 c4 c5 c6 c7 d0 d1 d2 d3 d4 d5 d6 d7
      cases s6
      all_goals
        go_wp2_with fail
        go_quiet (fail)
        go_wp2_with fail
        exact ⟨⟨i + 1, by omega, by go_num, below_drewN hbel.out _⟩, by simp [intOf]; omega⟩
    · obtain rfl : i = n := by omega
      go_wp2
      go_ret
      exact ⟨rfl, hbel.out⟩
theorem samePr_len (A A' : Option Addr) (n c n' c' : Nat) (hnn : n ≠ n') (w : World) :
    Calls Try.prog 21 #[.slice A n c, .slice A' n' c'] w fun e w' => e = .returned (.bool false) ∧ Below w.heap.size w w' := by
  have h1 : ((n : Int) != n') = true := by simp; omega
  go_enter Try.func21, Try.ntmps21
  go_wp2_with fail
  go_ret
  exact ⟨rfl, Below.refl _ _⟩
end Go.Proofs.Ytlfchcjollcdhaa
