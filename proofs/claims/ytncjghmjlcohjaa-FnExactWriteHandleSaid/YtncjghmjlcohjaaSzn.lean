/-
  The size of a slice of nodes, out of whatever is left. No condition.
-/
import Derived.Test.YtncjghmjlcohjaaProg
import Derived.Test.YtncjghmjlcohjaaNod
namespace Go.Proofs.Ytncjghmjlcohjaa
open Go.RowKit
set_option linter.unusedSimpArgs false
set_option linter.unusedVariables false

set_option maxHeartbeats 1000000 in
theorem szNodeZ_c (A : Option Addr) (n c : Nat) (l : List Node) (z : Int) (hz0 : 0 ≤ z ∧ z ≤ 1048576) (hn : n ≤ maxLen) (hZ : ∀ t ∈ l, NodeZ t) (w : World) (hI : InNode w A n l) :
    Calls Try.prog 8 #[.slice A n c, .int .i64 z] w fun e w' => ∃ y : Int, e = .returned (.int .i64 y) ∧ y ≤ z ∧ (0 ≤ y → n ≤ 1048576 ∧ ∀ t ∈ l, NodeS t) ∧ Below w.heap.size w w' := by
  unfold maxLen at hn
  have HI := hide hI
  have HZ := hide hZ
  clear hI hZ
  have jw := IntWalk.i64_in (z - n) (by omega)
  by_cases h : z - (n : Int) < 0
  · go_enter Try.func8, Try.ntmps8
    go_wp2_with fail
    go_ret
    exact ⟨-1, rfl, by omega, fun h => absurd h (by omega), Below.refl _ _⟩
  · go_enter Try.func8, Try.ntmps8
    go_wp2_with fail
    go_loopw [1, 5] (fun zv i wr => ∃ (k : Nat) (y : Int), k ≤ n ∧ i = .int .i64 k ∧ zv = .int .i64 y ∧ 0 ≤ y ∧ y ≤ z ∧ Hid (∀ (q : Nat) (t : Node), q < k → l[q]? = some t → NodeS t) ∧ Hid (Below w.heap.size w wr)) (fun _ i _ => n - (intOf i).toNat)
    case atStart => exact ⟨0, _, by omega, rfl, rfl, by omega, by omega, fun q t hq => absurd hq (by omega), Below.refl _ _⟩
    case round =>
      obtain ⟨k, y, hk, rfl, rfl, y0, y1, hup, hbel⟩ := hrel
      by_cases hlt : k < n
      · obtain ⟨b, off, hA0, hR⟩ := HI.out.2 (by omega)
        subst hA0
        obtain ⟨t, ht⟩ : ∃ t, l[k]? = some t := ⟨_, List.getElem?_eq_getElem (by have := HI.out.1; omega)⟩
        obtain ⟨S, K, ⟨c0, c1, c2, c3, c4, c5, c6⟩, hS, hK⟩ := (hR.below hbel.out).2 k t ht
        have hb1 := (hR.below hbel.out).1
        have hzt := HZ.out t (List.mem_of_getElem? ht)
        have HT := hide ht
        have hkk : (k : Int) < n := by omega
        have HSK := hide (And.intro hS hK)
        clear ht hR hS hK
        go_wp2_with fail
        refine (szNode_c t S K y ⟨y0, by omega⟩ hzt _ HSK.out.1 HSK.out.2).mono ?_
        rintro e w1 ⟨x, rfl, x1, x2, hbx⟩
        have B1 := hide (below_via0 hbel.out hbx)
        clear hbx
        by_cases h2 : x < 0
        · go_wp2_with fail
          go_ret
          exact ⟨-1, rfl, by omega, fun h => absurd h (by omega), B1.out⟩
        · have HX := hide (x2 (by omega))
          clear x2
          go_wp2_with fail
          refine ⟨⟨k + 1, x, by omega, by go_num, rfl, by omega, by omega, fun q t' hq ht' => ?_, B1⟩, by simp [intOf] <;> omega⟩
          rcases Nat.lt_or_ge q k with hq' | hq'
          · exact hup.out q t' hq' ht'
          · obtain rfl : q = k := by omega
            obtain rfl := Option.some.inj (ht'.symm.trans HT.out)
            exact HX.out
      · obtain rfl : k = n := by omega
        have hkk : ¬ (k : Int) < k := by omega
        have HE := hide (show ∀ t ∈ l, NodeS t from fun t ht => by
          obtain ⟨q, hq, rfl⟩ := List.getElem_of_mem ht
          exact hup.out q _ (by have := HI.out.1; omega) (List.getElem?_eq_getElem hq))
        go_wp2_with fail
        go_ret
        exact ⟨y, rfl, by omega, fun _ => ⟨by omega, HE.out⟩, hbel.out⟩
end Go.Proofs.Ytncjghmjlcohjaa
