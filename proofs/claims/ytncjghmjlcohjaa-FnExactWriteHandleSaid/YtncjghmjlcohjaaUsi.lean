/-
  UsageOf of the program. No condition.
-/
import Derived.Test.YtncjghmjlcohjaaProg
import Derived.Test.YtncjghmjlcohjaaUsg
namespace Go.Proofs.Ytncjghmjlcohjaa
open Go.RowKit
set_option linter.unusedSimpArgs false
set_option linter.unusedVariables false

set_option maxHeartbeats 4000000 in
theorem usImpl_c (A : Option Addr) (n c : Nat) (l : List Node) (q : Int) (w : World) (hI : InNode w A n l) (hn : n ≤ 1048576) (hz : ∀ t ∈ l, NodeS t) (hZ : ∀ t ∈ l, NodeZ t) :
    Calls Try.prog 11 #[.slice A n c, .int .i64 q] w fun e w' => e = .returned (.tuple #[.int .i64 (if treeB l n = true then usN l q n else -1), .int .i64 (if treeB l n = true then usB l q n else -1)]) ∧ Below w.heap.size w w' := by
  generalize hN1 : (if treeB l n = true then usN l q n else -1) = N1
  generalize hN2 : (if treeB l n = true then usB l q n else -1) = N2
  have HN1 := hide hN1
  have HN2 := hide hN2
  clear hN1 hN2
  have HI := hide hI
  have hlen := hI.1
  go_enter Try.func11, Try.ntmps11
  go_wp2_with fail
  refine (tvImpl_c A n c l _ hI hn hz hZ).mono ?_
  rintro e w1 ⟨rfl, hb1⟩
  have B1 := hide hb1
  have HI1 := hide (hI.below hb1)
  clear hI hb1 hz hZ
  cases hv : treeB l n
  · obtain rfl : N1 = -1 := by rw [← HN1.out, hv]; rfl
    obtain rfl : N2 = -1 := by rw [← HN2.out, hv]; rfl
    clear HN1 HN2
    go_wp2_with fail
    exact bodyPost_ret (v := .tuple #[.int .i64 (-1), .int .i64 (-1)]) (by simp [results, Try.results11, go_sem]) rfl ⟨rfl, B1.out⟩
  have hT := treeB_iff.1 hv
  have HE1 := hide (show usN l q n = N1 from by rw [← HN1.out, if_pos hv])
  have HE2 := hide (show usB l q n = N2 from by rw [← HN2.out, if_pos hv])
  clear HN1 HN2
  have HTX := hide (show ∀ (i : Nat) (t : Node), l[i]? = some t → t.text.size ≤ 40 from fun i t ht => (hT.2.2.2.1 i t ht).1.2.1)
  have h16 := hT.2.1
  clear hT hv
  go_wp2_with fail
  go_loopw [6, 7, 15] (fun av bv kv wr => ∃ i : Nat, i ≤ n ∧ kv = .int .i64 i ∧ av = .int .i64 (usN l q i) ∧ bv = .int .i64 (usB l q i) ∧ 0 ≤ usN l q i ∧ usN l q i ≤ i ∧ 0 ≤ usB l q i ∧ usB l q i ≤ 40 * i ∧ Hid (Below w1.heap.size w1 wr)) (fun _ _ kv _ => n - (intOf kv).toNat)
  case atStart => exact ⟨0, by omega, rfl, rfl, rfl, by simp [usN], by simp [usN], by simp [usB], by simp [usB], Below.refl _ _⟩
  case round =>
    obtain ⟨i, hi, rfl, rfl, rfl, a0, a1, b0, b1, hbel⟩ := hrel
    by_cases hlt : i < n
    · have hii : (i : Int) < n := by omega
      obtain ⟨b, off, hA, hR⟩ := HI1.out.2 (by omega)
      subst hA
      obtain ⟨t, ht⟩ : ∃ t, l[i]? = some t := ⟨_, List.getElem?_eq_getElem (by omega)⟩
      obtain ⟨S, K, ⟨c0, c1, c2, c3, c4, c5, c6⟩, ⟨A5, n5, c5x, rfl, _, _⟩, ⟨A6, n6, c6x, rfl, _, _⟩⟩ := (hR.below hbel.out).2 i t ht
      have hbl := (hR.below hbel.out).1
      have HBA := hide (hbel.out.alloc hbel.out.size (.cells #[.bool t.dir, .int .i64 t.owner, .int .i64 t.group, .int .i64 t.mode, .string t.text, .slice A5 n5 c5x, .slice A6 n6 c6x] 60))
      have hx := HTX.out i t ht
      have eN : usN l q (i + 1) = if (t.owner == q) = true then usN l q i + 1 else usN l q i := by simp only [usN, ht]
      have eB : usB l q (i + 1) = if (t.owner == q) = true then usB l q i + t.text.size else usB l q i := by simp only [usB, ht]
      have HNB := hide (And.intro eN eB)
      generalize usN l q i = X at *
      generalize usB l q i = Y at *
      have j1 := IntWalk.i64_in (X + 1) (by omega)
      have j2 := IntWalk.i64_in (Y + t.text.size) (by omega)
      clear ht hR eN eB
      cases hq : (t.owner == q)
      · go_wp2_with fail
        exact ⟨⟨i + 1, by omega, by go_num, by rw [HNB.out.1, hq]; rfl, by rw [HNB.out.2, hq]; rfl, by rw [HNB.out.1, hq]; simp; omega, by rw [HNB.out.1, hq]; simp; omega, by rw [HNB.out.2, hq]; simp; omega, by rw [HNB.out.2, hq]; simp; omega, HBA⟩, by simp [intOf] <;> omega⟩
      · go_wp2_with fail
        go_quiet (fail)
        go_wp2_with fail
        exact ⟨⟨i + 1, by omega, by go_num, by rw [HNB.out.1, hq]; rfl, by rw [HNB.out.2, hq]; rfl, by rw [HNB.out.1, hq]; simp; omega, by rw [HNB.out.1, hq]; simp; omega, by rw [HNB.out.2, hq]; simp; omega, by rw [HNB.out.2, hq]; simp; omega, hide (below_drewN HBA.out _)⟩, by simp [intOf] <;> omega⟩
    · obtain rfl : i = n := by omega
      have hii : ¬ (i : Int) < i := by omega
      go_wp2_with fail
      exact bodyPost_ret (v := .tuple #[.int .i64 (usN l q i), .int .i64 (usB l q i)]) (by simp [results, Try.results11, go_sem]) rfl ⟨by rw [HE1.out, HE2.out], below_via0 B1.out hbel.out⟩
end Go.Proofs.Ytncjghmjlcohjaa
