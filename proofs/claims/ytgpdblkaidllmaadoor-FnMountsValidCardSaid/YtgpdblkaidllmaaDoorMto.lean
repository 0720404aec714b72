/-
  A slice of mounts of one's own. No condition.
-/
import Derived.Test.YtgpdblkaidllmaaDoorProg
import Derived.Test.YtgpdblkaidllmaaDoorMnt
import Derived.Test.YtgpdblkaidllmaaDoorOwn
import Derived.Laws.AppendOwn
import Derived.Laws.OwnMore
namespace Go.Proofs.YtgpdblkaidllmaaDoor
open Go.RowKit
set_option linter.unusedSimpArgs false
set_option linter.unusedVariables false

def flatM (l : List Mount) : List Value := l.flatMap fun t => [.string t.src, .string t.dst]
theorem flatM_len (l : List Mount) : (flatM l).length = l.length * 2 := by
  induction l with
  | nil => rfl
  | cons t l ih => simp only [flatM, List.flatMap_cons, List.length_append, List.length_cons, List.length_nil] at ih ⊢; omega
theorem flatM_app (l m : List Mount) : flatM (l ++ m) = flatM l ++ flatM m := by simp [flatM]
theorem flatM_get (l : List Mount) (j : Nat) : (flatM l)[j]? = cellMount l j := by
  induction l generalizing j with
  | nil => simp [flatM, cellMount]
  | cons t l ih =>
    rcases j with _ | _ | j
    · simp [flatM, cellMount]
    · simp [flatM, cellMount]
    · have h1 : (flatM (t :: l))[j + 2]? = (flatM l)[j]? := by simp [flatM]
      have h2 : cellMount (t :: l) (j + 2) = cellMount l j := by
        simp only [cellMount]
        rw [show (j + 2) / 2 = j / 2 + 1 by omega, show (j + 2) % 2 = j % 2 by omega]
        simp
      exact h1.trans ((ih j).trans h2.symm)
theorem flatM_one (l : List Mount) : ∀ u ∈ flatM l, u.oneCell' = true := by
  intro u hu
  simp only [flatM, List.mem_flatMap] at hu
  obtain ⟨t, _, ht⟩ := hu
  simp at ht
  rcases ht with rfl | rfl <;> rfl
theorem flatM_cells {w : World} {b off : Nat} {l : List Mount} (hR : RdMount w b off l) (j : Nat) (u : Value) (hj : (flatM l)[j]? = some u) : w.cell? ⟨b, off + j, none⟩ = some u := by
  rw [flatM_get] at hj
  simp only [cellMount, Option.map_eq_some_iff] at hj
  obtain ⟨t, ht, hu⟩ := hj
  obtain ⟨h0, h1⟩ := hR.2 _ _ ht
  subst hu
  have hd : j = j / 2 * 2 + j % 2 := by omega
  by_cases e0 : j % 2 = 0
  · rw [if_pos e0, show off + j = off + j / 2 * 2 by omega]; exact h0
  rw [if_neg e0]
  rw [show off + j = off + j / 2 * 2 + 1 by omega]; exact h1
theorem flatM_new (w : World) (t : Mount) (C : Array Value) (T : TypeId) (hC : C = #[.string t.src, .string t.dst]) (j : Nat) (u : Value) (hj : (flatM [t])[j]? = some u) : (w.alloc (.cells C T)).cell? ((⟨w.heap.size, 0, none⟩ : Addr).add j) = some u := by
  have : ((⟨w.heap.size, 0, none⟩ : Addr).add j) = ⟨w.heap.size, j, none⟩ := by
    unfold Addr.add
    split
    · rename_i h; rw [h]
    · simp
  rw [this]
  refine (Row.made w T C (fun j => C[j]?) (fun _ _ h => h)).cell ?_
  subst hC
  simpa [flatM] using hj
/-- A slice of one's own, made at the size B or later. -/
def OwnM (B n : Nat) (l : List Mount) (v : Value) (w' : World) : Prop :=
  ∃ g cap m, v = .slice (some ⟨g, 0, none⟩) n cap ∧ B ≤ g ∧ n ≤ cap ∧ cap ≤ maxLen ∧ m = cap * 2 ∧ Row w' g m (doneMount l n)
theorem ownM_of {w : World} {base n : Nat} {T : TypeId} {v : Value} {l : List Mount} (hl : l.length = n) (h : w.ownsRow base T 2 v n (flatM l)) (hv : v ≠ .slice none 0 0) : OwnM base n l v w := by
  rcases h.2 with ⟨h', _⟩ | ⟨g, cap, cur, rfl, hb, hg, hnc, hcm, hcs, htake⟩
  · exact absurd h' hv
  · refine ⟨g, cap, cap * 2, rfl, hb, hnc, hcm, rfl, cur, T, hg, hcs, fun j u hj => ?_⟩
    simp only [doneMount] at hj
    split at hj
    · rename_i hlt
      rw [← flatM_get, ← htake, List.getElem?_take] at hj
      rw [if_pos hlt] at hj
      simpa using hj
    · cases hj
theorem RdMount_of_rowm {w : World} {g n m : Nat} {l : List Mount} (h : Row w g m (doneMount l n)) (hl : l.length = n) : RdMount w g 0 l := by
  refine ⟨h.lt, fun k t ht => ?_⟩
  have hk : k < n := by rw [← hl]; exact (List.getElem?_eq_some_iff.1 ht).1
  refine ⟨h.cell ?_, h.cell ?_⟩
  · simp only [doneMount, cellMount]; rw [if_pos (by omega), show (0 + k * 2) / 2 = k by omega, ht]; simp
  · simp only [doneMount, cellMount]; rw [if_pos (by omega), show (0 + k * 2 + 1) / 2 = k by omega, ht]; simp [show (k * 2 + 1) % 2 = 1 by omega]
theorem RdMount_tail {w : World} {b off : Nat} {t : Mount} {l : List Mount} (h : RdMount w b off (t :: l)) : RdMount w b (off + 2) l := by
  refine ⟨h.1, fun q s hs => ?_⟩
  have := h.2 (q + 1) s (by simpa using hs)
  simp only [show off + (q + 1) * 2 = off + 2 + q * 2 by omega] at this
  exact this
end Go.Proofs.YtgpdblkaidllmaaDoor
