/-
  A slice of structs of one's own that grows by append. No condition.
-/
import Derived.Test.YtgpdblkaidllmaaProg
import Derived.Test.YtgpdblkaidllmaaQuota
import Derived.Test.YtgpdblkaidllmaaOwn
import Derived.Laws.AppendOwn
import Derived.Laws.OwnMore
namespace Go.Proofs.Ytgpdblkaidllmaa
open Go.RowKit
set_option linter.unusedSimpArgs false
set_option linter.unusedVariables false

def flatQ (l : List Quota) : List Value := l.flatMap fun t => [.int .i64 t.who, .int .i64 t.nodes, .int .i64 t.bytes]
theorem flatQ_len (l : List Quota) : (flatQ l).length = l.length * 3 := by
  induction l with
  | nil => rfl
  | cons t l ih => simp only [flatQ, List.flatMap_cons, List.length_append, List.length_cons, List.length_nil] at ih ⊢; omega
theorem flatQ_app (l m : List Quota) : flatQ (l ++ m) = flatQ l ++ flatQ m := by simp [flatQ]
theorem flatQ_get (l : List Quota) (j : Nat) : (flatQ l)[j]? = cellQuota l j := by
  induction l generalizing j with
  | nil => simp [flatQ, cellQuota]
  | cons t l ih =>
    rcases j with _ | _ | _ | j
    · simp [flatQ, cellQuota]
    · simp [flatQ, cellQuota]
    · simp [flatQ, cellQuota]
    · have h1 : (flatQ (t :: l))[j + 3]? = (flatQ l)[j]? := by simp [flatQ]
      have h2 : cellQuota (t :: l) (j + 3) = cellQuota l j := by
        simp only [cellQuota]
        rw [show (j + 3) / 3 = j / 3 + 1 by omega, show (j + 3) % 3 = j % 3 by omega]
        simp
      exact h1.trans ((ih j).trans h2.symm)
theorem flatQ_one (l : List Quota) : ∀ u ∈ flatQ l, u.oneCell' = true := by
  intro u hu
  simp only [flatQ, List.mem_flatMap] at hu
  obtain ⟨t, _, ht⟩ := hu
  simp at ht
  rcases ht with rfl | rfl | rfl <;> rfl
theorem flatQ_cells {w : World} {b off : Nat} {l : List Quota} (hR : RdQuota w b off l) (j : Nat) (u : Value) (hj : (flatQ l)[j]? = some u) : w.cell? ⟨b, off + j, none⟩ = some u := by
  rw [flatQ_get] at hj
  simp only [cellQuota, Option.map_eq_some_iff] at hj
  obtain ⟨t, ht, hu⟩ := hj
  obtain ⟨h0, h1, h2⟩ := hR.2 _ _ ht
  subst hu
  have hd : j = j / 3 * 3 + j % 3 := by omega
  by_cases e0 : j % 3 = 0
  · rw [if_pos e0, show off + j = off + j / 3 * 3 by omega]; exact h0
  rw [if_neg e0]
  by_cases e1 : j % 3 = 1
  · rw [if_pos e1, show off + j = off + j / 3 * 3 + 1 by omega]; exact h1
  rw [if_neg e1]
  rw [show off + j = off + j / 3 * 3 + 2 by omega]; exact h2
theorem flatQ_new (w : World) (t : Quota) (C : Array Value) (T : TypeId) (hC : C = #[.int .i64 t.who, .int .i64 t.nodes, .int .i64 t.bytes]) (j : Nat) (u : Value) (hj : (flatQ [t])[j]? = some u) : (w.alloc (.cells C T)).cell? ((⟨w.heap.size, 0, none⟩ : Addr).add j) = some u := by
  have : ((⟨w.heap.size, 0, none⟩ : Addr).add j) = ⟨w.heap.size, j, none⟩ := by
    unfold Addr.add
    split
    · rename_i h; rw [h]
    · simp
  rw [this]
  refine (Row.made w T C (fun j => C[j]?) (fun _ _ h => h)).cell ?_
  subst hC
  simpa [flatQ] using hj
/-- A slice of one's own, made at the size B or later. -/
def OwnQ (B n : Nat) (l : List Quota) (v : Value) (w' : World) : Prop :=
  ∃ g cap m, v = .slice (some ⟨g, 0, none⟩) n cap ∧ B ≤ g ∧ n ≤ cap ∧ cap ≤ maxLen ∧ n * 3 ≤ m ∧ Row w' g m (doneQuota l n)
theorem ownQ_of {w : World} {base n : Nat} {T : TypeId} {v : Value} {l : List Quota} (hl : l.length = n) (h : w.ownsRow base T 3 v n (flatQ l)) (hv : v ≠ .slice none 0 0) : OwnQ base n l v w := by
  rcases h.2 with ⟨h', _⟩ | ⟨g, cap, cur, rfl, hb, hg, hnc, hcm, hcs, htake⟩
  · exact absurd h' hv
  · refine ⟨g, cap, cap * 3, rfl, hb, hnc, hcm, by omega, cur, T, hg, hcs, fun j u hj => ?_⟩
    simp only [doneQuota] at hj
    split at hj
    · rename_i hlt
      rw [← flatQ_get, ← htake, List.getElem?_take] at hj
      rw [if_pos hlt] at hj
      simpa using hj
    · cases hj
theorem RdQuota_of_rowm {w : World} {g n m : Nat} {l : List Quota} (h : Row w g m (doneQuota l n)) (hl : l.length = n) : RdQuota w g 0 l := by
  refine ⟨h.lt, fun k t ht => ?_⟩
  have hk : k < n := by rw [← hl]; exact (List.getElem?_eq_some_iff.1 ht).1
  refine ⟨h.cell ?_, h.cell ?_, h.cell ?_⟩
  · simp only [doneQuota, cellQuota]; rw [if_pos (by omega), show (0 + k * 3) / 3 = k by omega, ht]; simp
  · simp only [doneQuota, cellQuota]; rw [if_pos (by omega), show (0 + k * 3 + 1) / 3 = k by omega, ht]; simp [show (k * 3 + 1) % 3 = 1 by omega]
  · simp only [doneQuota, cellQuota]; rw [if_pos (by omega), show (0 + k * 3 + 2) / 3 = k by omega, ht]; simp [show (k * 3 + 2) % 3 = 2 by omega]
theorem RdQuota_tail {w : World} {b off : Nat} {t : Quota} {l : List Quota} (h : RdQuota w b off (t :: l)) : RdQuota w b (off + 3) l := by
  refine ⟨h.1, fun q s hs => ?_⟩
  have := h.2 (q + 1) s (by simpa using hs)
  simp only [show off + (q + 1) * 3 = off + 3 + q * 3 by omega] at this
  exact this
end Go.Proofs.Ytgpdblkaidllmaa
