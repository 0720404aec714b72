/-
  A slice of structs of one's own that grows by append. No condition.
-/
import Derived.Test.YthocpajiihdceaaProg
import Derived.Test.YthocpajiihdceaaRng2
import Derived.Test.YthocpajiihdceaaOwn
import Derived.Laws.AppendOwn
import Derived.Laws.OwnMore
namespace Go.Proofs.Ythocpajiihdceaa
open Go.RowKit
set_option linter.unusedSimpArgs false
set_option linter.unusedVariables false

def flatR (l : List Rng) : List Value := l.flatMap fun t => [.int .i64 t.i, .int .i64 t.o, .int .i64 t.m]
theorem flatR_len (l : List Rng) : (flatR l).length = l.length * 3 := by
  induction l with
  | nil => rfl
  | cons t l ih => simp only [flatR, List.flatMap_cons, List.length_append, List.length_cons, List.length_nil] at ih ⊢; omega
theorem flatR_app (l m : List Rng) : flatR (l ++ m) = flatR l ++ flatR m := by simp [flatR]
theorem flatR_get (l : List Rng) (j : Nat) : (flatR l)[j]? = cellR l j := by
  induction l generalizing j with
  | nil => simp [flatR, cellR]
  | cons t l ih =>
    rcases j with _ | _ | _ | j
    · simp [flatR, cellR]
    · simp [flatR, cellR]
    · simp [flatR, cellR]
    · have h1 : (flatR (t :: l))[j + 3]? = (flatR l)[j]? := by simp [flatR]
      have h2 : cellR (t :: l) (j + 3) = cellR l j := by
        simp only [cellR]
        rw [show (j + 3) / 3 = j / 3 + 1 by omega, show (j + 3) % 3 = j % 3 by omega]
        simp
      exact h1.trans ((ih j).trans h2.symm)
theorem flatR_one (l : List Rng) : ∀ u ∈ flatR l, u.oneCell' = true := by
  intro u hu
  simp only [flatR, List.mem_flatMap] at hu
  obtain ⟨t, _, ht⟩ := hu
  simp at ht
  rcases ht with rfl | rfl | rfl <;> rfl
theorem flatR_cells {w : World} {b off : Nat} {l : List Rng} (hR : RR w b off l) (j : Nat) (u : Value) (hj : (flatR l)[j]? = some u) : w.cell? ⟨b, off + j, none⟩ = some u := by
  rw [flatR_get] at hj
  simp only [cellR, Option.map_eq_some_iff] at hj
  obtain ⟨t, ht, hu⟩ := hj
  obtain ⟨h0, h1, h2⟩ := hR.2 _ _ ht
  subst hu
  have hd : j = j / 3 * 3 + j % 3 := by omega
  by_cases e0 : j % 3 = 0
  · rw [if_pos e0, show off + j = off + j / 3 * 3 by omega]; exact h0
  rw [if_neg e0]
  by_cases e1 : j % 3 = 1
  · rw [if_pos e1, show off + j = off + j / 3 * 3 + 1 by omega]; exact h1
  rw [if_neg e1]
  rw [show off + j = off + j / 3 * 3 + 2 by omega]; exact h2
theorem flatR_new (w : World) (t : Rng) (C : Array Value) (T : TypeId) (hC : C = #[.int .i64 t.i, .int .i64 t.o, .int .i64 t.m]) (j : Nat) (u : Value) (hj : (flatR [t])[j]? = some u) : (w.alloc (.cells C T)).cell? ((⟨w.heap.size, 0, none⟩ : Addr).add j) = some u := by
  have : ((⟨w.heap.size, 0, none⟩ : Addr).add j) = ⟨w.heap.size, j, none⟩ := by
    unfold Addr.add
    split
    · rename_i h; rw [h]
    · simp
  rw [this]
  refine (Row.made w T C (fun j => C[j]?) (fun _ _ h => h)).cell ?_
  subst hC
  simpa [flatR] using hj
/-- A slice of one's own, made at the size B or later. -/
def OwnR (B n : Nat) (l : List Rng) (v : Value) (w' : World) : Prop :=
  ∃ g cap m, v = .slice (some ⟨g, 0, none⟩) n cap ∧ B ≤ g ∧ n ≤ cap ∧ cap ≤ maxLen ∧ n * 3 ≤ m ∧ Row w' g m (doneR l n)
theorem ownR_of {w : World} {base n : Nat} {T : TypeId} {v : Value} {l : List Rng} (hl : l.length = n) (h : w.ownsRow base T 3 v n (flatR l)) (hv : v ≠ .slice none 0 0) : OwnR base n l v w := by
  rcases h.2 with ⟨h', _⟩ | ⟨g, cap, cur, rfl, hb, hg, hnc, hcm, hcs, htake⟩
  · exact absurd h' hv
  · refine ⟨g, cap, cap * 3, rfl, hb, hnc, hcm, by omega, cur, T, hg, hcs, fun j u hj => ?_⟩
    simp only [doneR] at hj
    split at hj
    · rename_i hlt
      rw [← flatR_get, ← htake, List.getElem?_take] at hj
      rw [if_pos hlt] at hj
      simpa using hj
    · cases hj
theorem RR_of_rowm {w : World} {g n m : Nat} {l : List Rng} (h : Row w g m (doneR l n)) (hl : l.length = n) : RR w g 0 l := by
  refine ⟨h.lt, fun k t ht => ?_⟩
  have hk : k < n := by rw [← hl]; exact (List.getElem?_eq_some_iff.1 ht).1
  refine ⟨h.cell ?_, h.cell ?_, h.cell ?_⟩
  · simp only [doneR, cellR]; rw [if_pos (by omega), show (0 + k * 3) / 3 = k by omega, ht]; simp
  · simp only [doneR, cellR]; rw [if_pos (by omega), show (0 + k * 3 + 1) / 3 = k by omega, ht]; simp [show (k * 3 + 1) % 3 = 1 by omega]
  · simp only [doneR, cellR]; rw [if_pos (by omega), show (0 + k * 3 + 2) / 3 = k by omega, ht]; simp [show (k * 3 + 2) % 3 = 2 by omega]
theorem RR_tail {w : World} {b off : Nat} {t : Rng} {l : List Rng} (h : RR w b off (t :: l)) : RR w b (off + 3) l := by
  refine ⟨h.1, fun q s hs => ?_⟩
  have := h.2 (q + 1) s (by simpa using hs)
  simp only [show off + (q + 1) * 3 = off + 3 + q * 3 by omega] at this
  exact this
end Go.Proofs.Ythocpajiihdceaa
