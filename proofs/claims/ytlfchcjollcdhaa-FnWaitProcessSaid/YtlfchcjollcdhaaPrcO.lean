/-
  A slice of processes of one's own. No condition.
-/
import Derived.Test.YtlfchcjollcdhaaProg
import Derived.Test.YtlfchcjollcdhaaPrc
import Derived.Test.YtlfchcjollcdhaaOwn
import Derived.Laws.AppendOwn
import Derived.Laws.OwnMore
namespace Go.Proofs.Ytlfchcjollcdhaa
open Go.RowKit
set_option linter.unusedSimpArgs false
set_option linter.unusedVariables false

def flatP (l : List Pcs) : List Value := l.flatMap fun t => [.int .i64 t.number, .int .i64 t.parent, .int .i64 t.real, .int .i64 t.acts, .int .i64 t.saved, .int .i64 t.groups, .bool t.ended, .int .i64 t.result]
theorem flatP_len (l : List Pcs) : (flatP l).length = l.length * 8 := by
  induction l with
  | nil => rfl
  | cons t l ih => simp only [flatP, List.flatMap_cons, List.length_append, List.length_cons, List.length_nil] at ih ⊢; omega
theorem flatP_app (l m : List Pcs) : flatP (l ++ m) = flatP l ++ flatP m := by simp [flatP]
theorem flatP_get (l : List Pcs) (j : Nat) : (flatP l)[j]? = cellProcess l j := by
  induction l generalizing j with
  | nil => simp [flatP, cellProcess]
  | cons t l ih =>
    rcases j with _ | _ | _ | _ | _ | _ | _ | _ | j
    · simp [flatP, cellProcess]
    · simp [flatP, cellProcess]
    · simp [flatP, cellProcess]
    · simp [flatP, cellProcess]
    · simp [flatP, cellProcess]
    · simp [flatP, cellProcess]
    · simp [flatP, cellProcess]
    · simp [flatP, cellProcess]
    · have h1 : (flatP (t :: l))[j + 8]? = (flatP l)[j]? := by simp [flatP]
      have h2 : cellProcess (t :: l) (j + 8) = cellProcess l j := by
        simp only [cellProcess]
        rw [show (j + 8) / 8 = j / 8 + 1 by omega, show (j + 8) % 8 = j % 8 by omega]
        simp
      exact h1.trans ((ih j).trans h2.symm)
theorem flatP_one (l : List Pcs) : ∀ u ∈ flatP l, u.oneCell' = true := by
  intro u hu
  simp only [flatP, List.mem_flatMap] at hu
  obtain ⟨t, _, ht⟩ := hu
  simp at ht
  rcases ht with rfl | rfl | rfl | rfl | rfl | rfl | rfl | rfl <;> rfl
theorem flatP_cells {w : World} {b off : Nat} {l : List Pcs} (hR : RdProcess w b off l) (j : Nat) (u : Value) (hj : (flatP l)[j]? = some u) : w.cell? ⟨b, off + j, none⟩ = some u := by
  rw [flatP_get] at hj
  simp only [cellProcess, Option.map_eq_some_iff] at hj
  obtain ⟨t, ht, hu⟩ := hj
  obtain ⟨h0, h1, h2, h3, h4, h5, h6, h7⟩ := hR.2 _ _ ht
  subst hu
  have hd : j = j / 8 * 8 + j % 8 := by omega
  by_cases e0 : j % 8 = 0
  · rw [if_pos e0, show off + j = off + j / 8 * 8 by omega]; exact h0
  rw [if_neg e0]
  by_cases e1 : j % 8 = 1
  · rw [if_pos e1, show off + j = off + j / 8 * 8 + 1 by omega]; exact h1
  rw [if_neg e1]
  by_cases e2 : j % 8 = 2
  · rw [if_pos e2, show off + j = off + j / 8 * 8 + 2 by omega]; exact h2
  rw [if_neg e2]
  by_cases e3 : j % 8 = 3
  · rw [if_pos e3, show off + j = off + j / 8 * 8 + 3 by omega]; exact h3
  rw [if_neg e3]
  by_cases e4 : j % 8 = 4
  · rw [if_pos e4, show off + j = off + j / 8 * 8 + 4 by omega]; exact h4
  rw [if_neg e4]
  by_cases e5 : j % 8 = 5
  · rw [if_pos e5, show off + j = off + j / 8 * 8 + 5 by omega]; exact h5
  rw [if_neg e5]
  by_cases e6 : j % 8 = 6
  · rw [if_pos e6, show off + j = off + j / 8 * 8 + 6 by omega]; exact h6
  rw [if_neg e6]
  rw [show off + j = off + j / 8 * 8 + 7 by omega]; exact h7
theorem flatP_new (w : World) (t : Pcs) (C : Array Value) (T : TypeId) (hC : C = #[.int .i64 t.number, .int .i64 t.parent, .int .i64 t.real, .int .i64 t.acts, .int .i64 t.saved, .int .i64 t.groups, .bool t.ended, .int .i64 t.result]) (j : Nat) (u : Value) (hj : (flatP [t])[j]? = some u) : (w.alloc (.cells C T)).cell? ((⟨w.heap.size, 0, none⟩ : Addr).add j) = some u := by
  have : ((⟨w.heap.size, 0, none⟩ : Addr).add j) = ⟨w.heap.size, j, none⟩ := by
    unfold Addr.add
    split
    · rename_i h; rw [h]
    · simp
  rw [this]
  refine (Row.made w T C (fun j => C[j]?) (fun _ _ h => h)).cell ?_
  subst hC
  simpa [flatP] using hj
/-- A slice of one's own, made at the size B or later. -/
def OwnP (B n : Nat) (l : List Pcs) (v : Value) (w' : World) : Prop :=
  ∃ g cap m, v = .slice (some ⟨g, 0, none⟩) n cap ∧ B ≤ g ∧ n ≤ cap ∧ cap ≤ maxLen ∧ m = cap * 8 ∧ Row w' g m (doneProcess l n)
theorem ownP_of {w : World} {base n : Nat} {T : TypeId} {v : Value} {l : List Pcs} (hl : l.length = n) (h : w.ownsRow base T 8 v n (flatP l)) (hv : v ≠ .slice none 0 0) : OwnP base n l v w := by
  rcases h.2 with ⟨h', _⟩ | ⟨g, cap, cur, rfl, hb, hg, hnc, hcm, hcs, htake⟩
  · exact absurd h' hv
  · refine ⟨g, cap, cap * 8, rfl, hb, hnc, hcm, rfl, cur, T, hg, hcs, fun j u hj => ?_⟩
    simp only [doneProcess] at hj
    split at hj
    · rename_i hlt
      rw [← flatP_get, ← htake, List.getElem?_take] at hj
      rw [if_pos hlt] at hj
      simpa using hj
    · cases hj
theorem RdProcess_of_rowm {w : World} {g n m : Nat} {l : List Pcs} (h : Row w g m (doneProcess l n)) (hl : l.length = n) : RdProcess w g 0 l := by
  refine ⟨h.lt, fun k t ht => ?_⟩
  have hk : k < n := by rw [← hl]; exact (List.getElem?_eq_some_iff.1 ht).1
  refine ⟨h.cell ?_, h.cell ?_, h.cell ?_, h.cell ?_, h.cell ?_, h.cell ?_, h.cell ?_, h.cell ?_⟩
  · simp only [doneProcess, cellProcess]; rw [if_pos (by omega), show (0 + k * 8) / 8 = k by omega, ht]; simp
  · simp only [doneProcess, cellProcess]; rw [if_pos (by omega), show (0 + k * 8 + 1) / 8 = k by omega, ht]; simp [show (k * 8 + 1) % 8 = 1 by omega]
  · simp only [doneProcess, cellProcess]; rw [if_pos (by omega), show (0 + k * 8 + 2) / 8 = k by omega, ht]; simp [show (k * 8 + 2) % 8 = 2 by omega]
  · simp only [doneProcess, cellProcess]; rw [if_pos (by omega), show (0 + k * 8 + 3) / 8 = k by omega, ht]; simp [show (k * 8 + 3) % 8 = 3 by omega]
  · simp only [doneProcess, cellProcess]; rw [if_pos (by omega), show (0 + k * 8 + 4) / 8 = k by omega, ht]; simp [show (k * 8 + 4) % 8 = 4 by omega]
  · simp only [doneProcess, cellProcess]; rw [if_pos (by omega), show (0 + k * 8 + 5) / 8 = k by omega, ht]; simp [show (k * 8 + 5) % 8 = 5 by omega]
  · simp only [doneProcess, cellProcess]; rw [if_pos (by omega), show (0 + k * 8 + 6) / 8 = k by omega, ht]; simp [show (k * 8 + 6) % 8 = 6 by omega]
  · simp only [doneProcess, cellProcess]; rw [if_pos (by omega), show (0 + k * 8 + 7) / 8 = k by omega, ht]; simp [show (k * 8 + 7) % 8 = 7 by omega]
theorem RdProcess_tail {w : World} {b off : Nat} {t : Pcs} {l : List Pcs} (h : RdProcess w b off (t :: l)) : RdProcess w b (off + 8) l := by
  refine ⟨h.1, fun q s hs => ?_⟩
  have := h.2 (q + 1) s (by simpa using hs)
  simp only [show off + (q + 1) * 8 = off + 8 + q * 8 by omega] at this
  exact this
/-- Block g holds cells of the struct's own kind. -/
def TyP (w : World) (g : Nat) : Prop := ∃ C : Array Value, w.heap[g]? = some (.cells C 39 (0, 0))
theorem TyP.keep {w w' : World} {g : Nat} (h : TyP w g) (hb : w'.heap[g]? = w.heap[g]?) : TyP w' g := by
  obtain ⟨C, h⟩ := h
  exact ⟨C, hb.trans h⟩
theorem TyP.lt {w : World} {g : Nat} (h : TyP w g) : g < w.heap.size := by
  obtain ⟨C, h⟩ := h
  rcases Nat.lt_or_ge g w.heap.size with hlt | hge
  · exact hlt
  · rw [Array.getElem?_eq_none hge] at h; cases h
theorem TyP.below {w w' : World} {g : Nat} (h : TyP w g) (hb : Below w.heap.size w w') : TyP w' g := h.keep (hb.block g h.lt)
theorem TyP.set {w : World} {g : Nat} (h : TyP w g) {b o : Nat} (v : Value) : TyP (w.setCell ⟨b, o, none⟩ v) g := by
  by_cases e : g = b
  · obtain ⟨C, h⟩ := h
    subst e
    exact ⟨C.setIfInBounds o v, by simp [World.setCell, Array.getElem?_modify, h]⟩
  · exact h.keep (Below.heap_setCell w ⟨b, o, none⟩ v g e)
theorem ownP_ty {w : World} {base n g c k : Nat} {xs : List Value} (h : w.ownsRow base 39 8 (.slice (some ⟨g, 0, none⟩) n c) k xs) : TyP w g := by
  rcases h.2 with ⟨h', _⟩ | ⟨g', cap, cur, h', _, hg, _⟩
  · cases h'
  · cases h'
    exact ⟨cur, hg⟩
end Go.Proofs.Ytlfchcjollcdhaa
