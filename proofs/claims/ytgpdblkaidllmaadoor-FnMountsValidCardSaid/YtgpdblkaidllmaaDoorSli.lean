/-
  Slices of strings and of ints. No condition.
-/
import Derived.Test.YtgpdblkaidllmaaDoorProg
import Derived.Test.YtgpdblkaidllmaaDoorIns
namespace Go.Proofs.YtgpdblkaidllmaaDoor
open Go.RowKit
set_option linter.unusedSimpArgs false
set_option linter.unusedVariables false

/-- A slice of .strings reads as the list. -/
def RdString (w : World) (b off : Nat) (l : List ByteArray) : Prop := b < w.heap.size ∧ ∀ (k : Nat) (x : ByteArray), l[k]? = some x → w.cell? ⟨b, off + k, none⟩ = some (.string x)
theorem RdString.below {w w' : World} {b off : Nat} {l : List ByteArray} (h : RdString w b off l) (hb : Below w.heap.size w w') : RdString w' b off l :=
  ⟨Nat.lt_of_lt_of_le h.1 hb.size, fun k x hx => (hb.cell (p := ⟨b, _, none⟩) h.1).trans (h.2 k x hx)⟩
theorem RdString.keep {w w' : World} {b off : Nat} {l : List ByteArray} (h : RdString w b off l) (hs : w.heap.size ≤ w'.heap.size) (hb : w'.heap[b]? = w.heap[b]?) : RdString w' b off l :=
  ⟨Nat.lt_of_lt_of_le h.1 hs, fun k x hx => by
    have := h.2 k x hx
    rw [← this]
    unfold World.cell?
    simp only [hb]⟩
def InString (w : World) (A : Option Addr) (n : Nat) (l : List ByteArray) : Prop := l.length = n ∧ (0 < n → ∃ b off, A = some ⟨b, off, none⟩ ∧ RdString w b off l)
theorem InString.below {w w' : World} {A : Option Addr} {n : Nat} {l : List ByteArray} (h : InString w A n l) (hb : Below w.heap.size w w') : InString w' A n l :=
  ⟨h.1, fun h0 => by
    obtain ⟨b, off, hA, hR⟩ := h.2 h0
    exact ⟨b, off, hA, hR.below hb⟩⟩
def doneString (l : List ByteArray) (k : Nat) (j : Nat) : Option Value := if j < k then (l[j]?).map (.string) else none
theorem rdString_of_row {w : World} {g n : Nat} {l : List ByteArray} (h : Row w g n (doneString l n)) (hl : l.length = n) : RdString w g 0 l := by
  refine ⟨h.lt, fun k x hx => ?_⟩
  have hk : k < n := by rw [← hl]; exact (List.getElem?_eq_some_iff.1 hx).1
  refine h.cell ?_
  simp only [doneString]
  rw [if_pos (by omega), Nat.zero_add, hx]
  rfl
theorem row_nextString {w : World} {g n k : Nat} {l : List ByteArray} {x : ByteArray} (h : Row w g n (doneString l k)) (hk : k < n) (hx : l[k]? = some x) : Row (w.setCell ⟨g, k, none⟩ (.string x)) g n (doneString l (k + 1)) := by
  refine (h.set k _).mono fun j u hj => ?_
  simp only [doneString] at hj ⊢
  split at hj
  · rename_i hlt
    by_cases e : j = k
    · subst e
      rw [if_pos rfl, if_pos (by omega), ← hj, hx]; rfl
    · rw [if_neg e, if_pos (by omega)]; exact hj
  · cases hj
theorem infoString : (Tryd.prog.info? 9).map (fun i => (i.zero, i.size, i.bytes)) = some (some (.string ByteArray.empty), 1, 16) := by kernel_rfl
/-- A slice of .int .i64s reads as the list. -/
def RdInt (w : World) (b off : Nat) (l : List Int) : Prop := b < w.heap.size ∧ ∀ (k : Nat) (x : Int), l[k]? = some x → w.cell? ⟨b, off + k, none⟩ = some (.int .i64 x)
theorem RdInt.below {w w' : World} {b off : Nat} {l : List Int} (h : RdInt w b off l) (hb : Below w.heap.size w w') : RdInt w' b off l :=
  ⟨Nat.lt_of_lt_of_le h.1 hb.size, fun k x hx => (hb.cell (p := ⟨b, _, none⟩) h.1).trans (h.2 k x hx)⟩
theorem RdInt.keep {w w' : World} {b off : Nat} {l : List Int} (h : RdInt w b off l) (hs : w.heap.size ≤ w'.heap.size) (hb : w'.heap[b]? = w.heap[b]?) : RdInt w' b off l :=
  ⟨Nat.lt_of_lt_of_le h.1 hs, fun k x hx => by
    have := h.2 k x hx
    rw [← this]
    unfold World.cell?
    simp only [hb]⟩
def InInt (w : World) (A : Option Addr) (n : Nat) (l : List Int) : Prop := l.length = n ∧ (0 < n → ∃ b off, A = some ⟨b, off, none⟩ ∧ RdInt w b off l)
theorem InInt.below {w w' : World} {A : Option Addr} {n : Nat} {l : List Int} (h : InInt w A n l) (hb : Below w.heap.size w w') : InInt w' A n l :=
  ⟨h.1, fun h0 => by
    obtain ⟨b, off, hA, hR⟩ := h.2 h0
    exact ⟨b, off, hA, hR.below hb⟩⟩
def doneInt (l : List Int) (k : Nat) (j : Nat) : Option Value := if j < k then (l[j]?).map (.int .i64) else none
theorem rdInt_of_row {w : World} {g n : Nat} {l : List Int} (h : Row w g n (doneInt l n)) (hl : l.length = n) : RdInt w g 0 l := by
  refine ⟨h.lt, fun k x hx => ?_⟩
  have hk : k < n := by rw [← hl]; exact (List.getElem?_eq_some_iff.1 hx).1
  refine h.cell ?_
  simp only [doneInt]
  rw [if_pos (by omega), Nat.zero_add, hx]
  rfl
theorem row_nextInt {w : World} {g n k : Nat} {l : List Int} {x : Int} (h : Row w g n (doneInt l k)) (hk : k < n) (hx : l[k]? = some x) : Row (w.setCell ⟨g, k, none⟩ (.int .i64 x)) g n (doneInt l (k + 1)) := by
  refine (h.set k _).mono fun j u hj => ?_
  simp only [doneInt] at hj ⊢
  split at hj
  · rename_i hlt
    by_cases e : j = k
    · subst e
      rw [if_pos rfl, if_pos (by omega), ← hj, hx]; rfl
    · rw [if_neg e, if_pos (by omega)]; exact hj
  · cases hj
theorem infoInt : (Tryd.prog.info? 3).map (fun i => (i.zero, i.size, i.bytes)) = some (some (.int .i64 0), 1, 8) := by kernel_rfl
end Go.Proofs.YtgpdblkaidllmaaDoor
