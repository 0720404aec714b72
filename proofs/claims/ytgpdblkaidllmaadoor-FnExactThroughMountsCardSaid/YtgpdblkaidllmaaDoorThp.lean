/-
  ThroughMounts: the plain law on the mount that counts. No condition.
-/
import Derived.Test.YtgpdblkaidllmaaDoorProg
import Derived.Test.YtgpdblkaidllmaaDoorPbl
import Derived.Test.YtgpdblkaidllmaaDoorMvi
namespace Go.Proofs.YtgpdblkaidllmaaDoor
open Go.RowKit
set_option linter.unusedSimpArgs false
set_option linter.unusedVariables false

/-- The best of the first k mounts, and how many names its At has. -/
noncomputable def bst (l : List Mount) (p : ByteArray) : Nat → Int × Int
  | 0 => (-1, -1)
  | k + 1 => match l[k]? with
    | some t => if (blB p t.src && decide ((bst l p k).2 < (ppOf t.src).length)) = true then ((k : Int), ((ppOf t.src).length : Int)) else bst l p k
    | none => bst l p k
theorem bst_take {l : List Mount} {p : ByteArray} {k : Nat} {t : Mount} (ht : l[k]? = some t) (h : blB p t.src = true) (h2 : (bst l p k).2 < (ppOf t.src).length) : bst l p (k + 1) = ((k : Int), ((ppOf t.src).length : Int)) := by
  simp only [bst, ht]
  rw [if_pos (by rw [h, decide_eq_true h2]; rfl)]
theorem bst_skip {l : List Mount} {p : ByteArray} {k : Nat} {t : Mount} (ht : l[k]? = some t) (h : blB p t.src = false) : bst l p (k + 1) = bst l p k := by
  simp only [bst, ht]
  rw [if_neg (by rw [h]; simp)]
theorem bst_less {l : List Mount} {p : ByteArray} {k : Nat} {t : Mount} (ht : l[k]? = some t) (h2 : ¬ (bst l p k).2 < (ppOf t.src).length) : bst l p (k + 1) = bst l p k := by
  simp only [bst, ht]
  rw [if_neg (by rw [decide_eq_false h2]; simp)]
theorem blB_len {p a : ByteArray} (h : blB p a = true) : (ppOf a).length ≤ (ppOf p).length := by
  unfold blB at h
  simp only [Bool.and_eq_true] at h
  have h3 := @of_decide_eq_true _ (Classical.propDecidable _) h.2.2
  have := congrArg List.length h3
  rw [List.length_take] at this
  omega
/-- What the best mount is. -/
def BInv (l : List Mount) (p : ByteArray) (k : Nat) : Prop :=
  ((bst l p k).1 = -1 ∧ (bst l p k).2 = -1) ∨ ∃ (i : Nat) (t : Mount), (bst l p k).1 = (i : Int) ∧ i < k ∧ l[i]? = some t ∧ (bst l p k).2 = ((ppOf t.src).length : Int) ∧ (ppOf t.src).length ≤ (ppOf p).length
theorem bst_inv (l : List Mount) (p : ByteArray) : ∀ k, BInv l p k
  | 0 => .inl ⟨rfl, rfl⟩
  | k + 1 => by
    have ih := bst_inv l p k
    have keep : bst l p (k + 1) = bst l p k → BInv l p (k + 1) := fun e => by
      unfold BInv
      rw [e]
      rcases ih with h | ⟨i, t, h1, h2, h3⟩
      · exact .inl h
      · exact .inr ⟨i, t, h1, by omega, h3⟩
    cases ht : l[k]? with
    | none => exact keep (by simp only [bst, ht])
    | some t =>
      cases hb : blB p t.src with
      | false => exact keep (bst_skip ht hb)
      | true =>
        by_cases h2 : (bst l p k).2 < (ppOf t.src).length
        · unfold BInv
          rw [bst_take ht hb h2]
          exact .inr ⟨k, t, rfl, by omega, ht, rfl, blB_len hb⟩
        · exact keep (bst_less ht h2)
def dstAt (l : List Mount) (i : Int) : ByteArray := match l[i.toNat]? with | some t => t.dst | none => ⟨#[]⟩
/-- The path to which a path leads. -/
noncomputable def thP (l : List Mount) (p : ByteArray) : ByteArray :=
  bif mntB l && pathB p then (if (bst l p l.length).1 < 0 then p else joinP (ppOf (dstAt l (bst l p l.length).1) ++ (ppOf p).drop (bst l p l.length).2.toNat)) else ⟨#[]⟩
theorem ppOf_short (s : ByteArray) : (ppOf s).length ≤ 6 := by
  by_cases h : ∃ l, IsPP s l
  · obtain ⟨l, hl⟩ := h
    rw [ppOf_eq hl]; exact hl.1.1
  · unfold ppOf
    rw [dif_neg h]; simp
theorem ppOf_size (s : ByteArray) : ∀ x ∈ ppOf s, x.size ≤ 8 := by
  by_cases h : ∃ l, IsPP s l
  · obtain ⟨l, hl⟩ := h
    rw [ppOf_eq hl]; exact fun x hx => (hl.1.2 x hx).2.2
  · unfold ppOf
    rw [dif_neg h]; simp
end Go.Proofs.YtgpdblkaidllmaaDoor
