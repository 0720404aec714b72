/-
  A slice of Grant of one's own. No condition.
-/
import Derived.Test.YtpifnfhgaemdmaaProg
import Derived.Test.YtpifnfhgaemdmaaGrant
import Derived.Test.YtpifnfhgaemdmaaOwn
namespace Go.Proofs.Ytpifnfhgaemdmaa
open Go.RowKit
set_option linter.unusedSimpArgs false
set_option linter.unusedVariables false

def flatG (l : List Grant) : List Value := l.flatMap fun t => [.bool t.ofGroup, .int .i64 t.who, .int .i64 t.rights]
theorem flatG_len (l : List Grant) : (flatG l).length = l.length * 3 := by
  induction l with
  | nil => rfl
  | cons t l ih => simp only [flatG, List.flatMap_cons, List.length_append, List.length_cons, List.length_nil] at ih ⊢; omega
theorem flatG_app (l m : List Grant) : flatG (l ++ m) = flatG l ++ flatG m := by simp [flatG]
theorem flatG_get (l : List Grant) (j : Nat) : (flatG l)[j]? = cellGrant l j := by
  induction l generalizing j with
  | nil => simp [flatG, cellGrant]
  | cons t l ih =>
    rcases j with _ | _ | _ | j
    · simp [flatG, cellGrant]
    · simp [flatG, cellGrant]
    · simp [flatG, cellGrant]
    · have h1 : (flatG (t :: l))[j + 3]? = (flatG l)[j]? := by simp [flatG]
      have h2 : cellGrant (t :: l) (j + 3) = cellGrant l j := by
        simp only [cellGrant]
        rw [show (j + 3) / 3 = j / 3 + 1 by omega, show (j + 3) % 3 = j % 3 by omega]
        simp
      exact h1.trans ((ih j).trans h2.symm)
theorem flatG_one (l : List Grant) : ∀ u ∈ flatG l, u.oneCell' = true := by
  intro u hu
  simp only [flatG, List.mem_flatMap] at hu
  obtain ⟨t, _, ht⟩ := hu
  simp at ht
  rcases ht with rfl | rfl | rfl <;> rfl
theorem flatG_cells {w : World} {b off : Nat} {l : List Grant} (hR : RdGrant w b off l) (j : Nat) (u : Value) (hj : (flatG l)[j]? = some u) : w.cell? ⟨b, off + j, none⟩ = some u := by
  rw [flatG_get] at hj
  simp only [cellGrant, Option.map_eq_some_iff] at hj
  obtain ⟨t, ht, hu⟩ := hj
  obtain ⟨h0, h1, h2⟩ := hR.2 _ _ ht
  subst hu
  have hd : j = j / 3 * 3 + j % 3 := by omega
  by_cases e0 : j % 3 = 0
  · rw [if_pos e0, show off + j = off + j / 3 * 3 by omega]; exact h0
  rw [if_neg e0]
  by_cases e1 : j % 3 = 1
  · rw [if_pos e1, show off + j = off + j / 3 * 3 + 1 by omega]; exact h1
  rw [if_neg e1]
  rw [show off + j = off + j / 3 * 3 + 2 by omega]; exact h2
theorem flatG_new (w : World) (t : Grant) (C : Array Value) (T : TypeId) (hC : C = #[.bool t.ofGroup, .int .i64 t.who, .int .i64 t.rights]) (j : Nat) (u : Value) (hj : (flatG [t])[j]? = some u) : (w.alloc (.cells C T)).cell? ((⟨w.heap.size, 0, none⟩ : Addr).add j) = some u := by
  have : ((⟨w.heap.size, 0, none⟩ : Addr).add j) = ⟨w.heap.size, j, none⟩ := by
    unfold Addr.add
    split
    · rename_i h; rw [h]
    · simp
  rw [this]
  refine (Row.made w T C (fun j => C[j]?) (fun _ _ h => h)).cell ?_
  subst hC
  simpa [flatG] using hj
/-- A slice of one's own, made at the size B or later. -/
def OwnG (B n : Nat) (l : List Grant) (v : Value) (w' : World) : Prop :=
  ∃ g cap m, v = .slice (some ⟨g, 0, none⟩) n cap ∧ B ≤ g ∧ n ≤ cap ∧ cap ≤ maxLen ∧ m = cap * 3 ∧ Row w' g m (doneGrant l n)
theorem ownG_of {w : World} {base n : Nat} {T : TypeId} {v : Value} {l : List Grant} (hl : l.length = n) (h : w.ownsRow base T 3 v n (flatG l)) (hv : v ≠ .slice none 0 0) : OwnG base n l v w := by
  rcases h.2 with ⟨h', _⟩ | ⟨g, cap, cur, rfl, hb, hg, hnc, hcm, hcs, htake⟩
  · exact absurd h' hv
  · refine ⟨g, cap, cap * 3, rfl, hb, hnc, hcm, rfl, cur, T, hg, hcs, fun j u hj => ?_⟩
    simp only [doneGrant] at hj
    split at hj
    · rename_i hlt
      rw [← flatG_get, ← htake, List.getElem?_take] at hj
      rw [if_pos hlt] at hj
      simpa using hj
    · cases hj
theorem RdGrant_of_rowm {w : World} {g n m : Nat} {l : List Grant} (h : Row w g m (doneGrant l n)) (hl : l.length = n) : RdGrant w g 0 l := by
  refine ⟨h.lt, fun k t ht => ?_⟩
  have hk : k < n := by rw [← hl]; exact (List.getElem?_eq_some_iff.1 ht).1
  refine ⟨h.cell ?_, h.cell ?_, h.cell ?_⟩
  · simp only [doneGrant, cellGrant]; rw [if_pos (by omega), show (0 + k * 3) / 3 = k by omega, ht]; simp
  · simp only [doneGrant, cellGrant]; rw [if_pos (by omega), show (0 + k * 3 + 1) / 3 = k by omega, ht]; simp [show (k * 3 + 1) % 3 = 1 by omega]
  · simp only [doneGrant, cellGrant]; rw [if_pos (by omega), show (0 + k * 3 + 2) / 3 = k by omega, ht]; simp [show (k * 3 + 2) % 3 = 2 by omega]
theorem RdGrant_tail {w : World} {b off : Nat} {t : Grant} {l : List Grant} (h : RdGrant w b off (t :: l)) : RdGrant w b (off + 3) l := by
  refine ⟨h.1, fun q s hs => ?_⟩
  have := h.2 (q + 1) s (by simpa using hs)
  simp only [show off + (q + 1) * 3 = off + 3 + q * 3 by omega] at this
  exact this
/-- Block g holds cells of the struct's own kind. -/
def TyG (w : World) (g : Nat) : Prop := ∃ C : Array Value, w.heap[g]? = some (.cells C 40 (0, 0))
theorem TyG.keep {w w' : World} {g : Nat} (h : TyG w g) (hb : w'.heap[g]? = w.heap[g]?) : TyG w' g := by
  obtain ⟨C, h⟩ := h
  exact ⟨C, hb.trans h⟩
theorem TyG.lt {w : World} {g : Nat} (h : TyG w g) : g < w.heap.size := by
  obtain ⟨C, h⟩ := h
  rcases Nat.lt_or_ge g w.heap.size with hlt | hge
  · exact hlt
  · rw [Array.getElem?_eq_none hge] at h; cases h
theorem TyG.below {w w' : World} {g : Nat} (h : TyG w g) (hb : Below w.heap.size w w') : TyG w' g := h.keep (hb.block g h.lt)
theorem TyG.set {w : World} {g : Nat} (h : TyG w g) {b o : Nat} (v : Value) : TyG (w.setCell ⟨b, o, none⟩ v) g := by
  by_cases e : g = b
  · obtain ⟨C, h⟩ := h
    subst e
    exact ⟨C.setIfInBounds o v, by simp [World.setCell, Array.getElem?_modify, h]⟩
  · exact h.keep (Below.heap_setCell w ⟨b, o, none⟩ v g e)
theorem ownG_ty {w : World} {base n g c k : Nat} {xs : List Value} (h : w.ownsRow base 40 3 (.slice (some ⟨g, 0, none⟩) n c) k xs) : TyG w g := by
  rcases h.2 with ⟨h', _⟩ | ⟨g', cap, cur, h', _, hg, _⟩
  · cases h'
  · cases h'
    exact ⟨cur, hg⟩
end Go.Proofs.Ytpifnfhgaemdmaa
