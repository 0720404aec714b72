/-
  Stores into new blocks inside a region that draws its order. No condition.
-/
import Derived.Test.YtncjghmjlcohjaaDoorFlowX
namespace Go.Proofs.YtncjghmjlcohjaaDoor
open Go.RowKit
set_option linter.unusedSimpArgs false
set_option linter.unusedVariables false

def noCell (_ : Nat) : Option Value := none
def rwl (xs : List Value) (j : Nat) : Option Value := xs[j]?
theorem Row.none {w : World} {q k : Nat} {f : Nat → Option Value} (h : Row w q k f) : Row w q k noCell := h.mono fun j u h => by cases h
theorem Row.madeN (w : World) (T : TypeId) (C : Array Value) (k : Nat) (h : C.size = k) : Row (w.alloc (.cells C T)) w.heap.size k noCell := by
  subst h; exact Row.made w T C noCell fun j u h => by cases h
theorem Row.madeL (w : World) (T : TypeId) (C : List Value) : Row (w.alloc (.cells C.toArray T)) w.heap.size C.length (rwl C) := by
  have := Row.made w T C.toArray (rwl C) (fun j u h => by rw [List.getElem?_toArray]; exact h)
  simpa using this
theorem row_any {w : World} {q k : Nat} (h : Row w q k noCell) (p : Addr) (v : Value) (hp : p = ⟨p.block, p.off, Option.none⟩) : Row (w.setCell p v) q k noCell := by
  by_cases e : q = p.block
  · subst e
    rw [hp]
    exact (h.set _ _).none
  · exact h.far e _
theorem live0 {B : Nat} {W W' : World} (hb : Below B W W') (n : Nat) (h : n < B) : (∀ o, W'.cell? ⟨n, o, Option.none⟩ = W.cell? ⟨n, o, Option.none⟩) ∧ (∀ o, W'.frozen? ⟨n, o, Option.none⟩ = W.frozen? ⟨n, o, Option.none⟩) :=
  ⟨fun o => hb.cell (p := ⟨n, o, Option.none⟩) h, fun o => hb.frozen (p := ⟨n, o, Option.none⟩) h⟩
/-- What the operations of a region keep: those of ss store into blocks from lo on, all others make new blocks alone. -/
def stC (lo : Nat) (ss : List Nat) (i : Nat) (w w' : World) : Prop := if i ∈ ss then Below lo w w' ∧ ∀ q k, Row w q k noCell → Row w' q k noCell else Below w.heap.size w w'
theorem stC_refl {lo i : Nat} {ss : List Nat} {w : World} (h : i ∉ ss) : stC lo ss i w w := by unfold stC; rw [if_neg h]; exact Below.refl _ _
theorem stC_below {lo i : Nat} {ss : List Nat} {w w' : World} (h : i ∉ ss) (hb : Below w.heap.size w w') : stC lo ss i w w' := by unfold stC; rw [if_neg h]; exact hb
theorem stC_row {lo i q k : Nat} {ss : List Nat} {w w' : World} (hc : stC lo ss i w w') (h : Row w q k noCell) : Row w' q k noCell := by
  unfold stC at hc
  split at hc
  · exact hc.2 _ _ h
  · exact h.below hc h.lt
theorem stC_keep {lo i q k : Nat} {ss : List Nat} {f : Nat → Option Value} {w w' : World} (hc : stC lo ss i w w') (hi : i ∉ ss) (h : Row w q k f) : Row w' q k f := by
  unfold stC at hc
  rw [if_neg hi] at hc
  exact h.below hc h.lt
theorem stC_lo {lo i : Nat} {ss : List Nat} {w w' : World} (hc : stC lo ss i w w') (h : lo ≤ w.heap.size) : Below lo w w' := by
  unfold stC at hc
  split at hc
  · exact hc.1
  · exact hc.mono h
theorem rwl_set1 {w : World} {g : Nat} {f : Nat → Option Value} {x0 : Value} (h : Row w g 1 f) : Row (w.setCell ⟨g, 0, Option.none⟩ x0) g 1 (rwl [x0]) := by
  refine (h.set 0 _).mono fun j u hj => ?_
  match j with
  | 0 => simpa [rwl] using hj
  | j + 1 => simp [rwl] at hj
theorem stC_set1 {lo i g : Nat} {ss : List Nat} {w : World} {x0 : Value} (h : lo ≤ g) (hi : i ∈ ss) : stC lo ss i w (w.setCell ⟨g, 0, Option.none⟩ x0) := by
  unfold stC; rw [if_pos hi]
  exact ⟨((Below.refl _ _).setCell (p := ⟨g, 0, Option.none⟩) h _), fun q k hr => (row_any hr _ _ rfl)⟩
theorem below_set1 {lo g : Nat} {w0 w : World} {x0 : Value} (hb : Below lo w0 w) (h : lo ≤ g) : Below lo w0 (w.setCell ⟨g, 0, Option.none⟩ x0) :=
  (hb.setCell (p := ⟨g, 0, Option.none⟩) h _)
theorem rwl_set2 {w : World} {g : Nat} {f : Nat → Option Value} {x0 x1 : Value} (h : Row w g 2 f) : Row ((w.setCell ⟨g, 0, Option.none⟩ x0).setCell ⟨g, 1, Option.none⟩ x1) g 2 (rwl [x0, x1]) := by
  refine ((h.set 0 _).set 1 _).mono fun j u hj => ?_
  match j with
  | 0 => simpa [rwl] using hj
  | 1 => simpa [rwl] using hj
  | j + 2 => simp [rwl] at hj
theorem stC_set2 {lo i g : Nat} {ss : List Nat} {w : World} {x0 x1 : Value} (h : lo ≤ g) (hi : i ∈ ss) : stC lo ss i w ((w.setCell ⟨g, 0, Option.none⟩ x0).setCell ⟨g, 1, Option.none⟩ x1) := by
  unfold stC; rw [if_pos hi]
  exact ⟨(((Below.refl _ _).setCell (p := ⟨g, 0, Option.none⟩) h _).setCell (p := ⟨g, 1, Option.none⟩) h _), fun q k hr => (row_any (row_any hr _ _ rfl) _ _ rfl)⟩
theorem below_set2 {lo g : Nat} {w0 w : World} {x0 x1 : Value} (hb : Below lo w0 w) (h : lo ≤ g) : Below lo w0 ((w.setCell ⟨g, 0, Option.none⟩ x0).setCell ⟨g, 1, Option.none⟩ x1) :=
  ((hb.setCell (p := ⟨g, 0, Option.none⟩) h _).setCell (p := ⟨g, 1, Option.none⟩) h _)
theorem rwl_set3 {w : World} {g : Nat} {f : Nat → Option Value} {x0 x1 x2 : Value} (h : Row w g 3 f) : Row (((w.setCell ⟨g, 0, Option.none⟩ x0).setCell ⟨g, 1, Option.none⟩ x1).setCell ⟨g, 2, Option.none⟩ x2) g 3 (rwl [x0, x1, x2]) := by
  refine (((h.set 0 _).set 1 _).set 2 _).mono fun j u hj => ?_
  match j with
  | 0 => simpa [rwl] using hj
  | 1 => simpa [rwl] using hj
  | 2 => simpa [rwl] using hj
  | j + 3 => simp [rwl] at hj
theorem stC_set3 {lo i g : Nat} {ss : List Nat} {w : World} {x0 x1 x2 : Value} (h : lo ≤ g) (hi : i ∈ ss) : stC lo ss i w (((w.setCell ⟨g, 0, Option.none⟩ x0).setCell ⟨g, 1, Option.none⟩ x1).setCell ⟨g, 2, Option.none⟩ x2) := by
  unfold stC; rw [if_pos hi]
  exact ⟨((((Below.refl _ _).setCell (p := ⟨g, 0, Option.none⟩) h _).setCell (p := ⟨g, 1, Option.none⟩) h _).setCell (p := ⟨g, 2, Option.none⟩) h _), fun q k hr => (row_any (row_any (row_any hr _ _ rfl) _ _ rfl) _ _ rfl)⟩
theorem below_set3 {lo g : Nat} {w0 w : World} {x0 x1 x2 : Value} (hb : Below lo w0 w) (h : lo ≤ g) : Below lo w0 (((w.setCell ⟨g, 0, Option.none⟩ x0).setCell ⟨g, 1, Option.none⟩ x1).setCell ⟨g, 2, Option.none⟩ x2) :=
  (((hb.setCell (p := ⟨g, 0, Option.none⟩) h _).setCell (p := ⟨g, 1, Option.none⟩) h _).setCell (p := ⟨g, 2, Option.none⟩) h _)
theorem rwl_set4 {w : World} {g : Nat} {f : Nat → Option Value} {x0 x1 x2 x3 : Value} (h : Row w g 4 f) : Row ((((w.setCell ⟨g, 0, Option.none⟩ x0).setCell ⟨g, 1, Option.none⟩ x1).setCell ⟨g, 2, Option.none⟩ x2).setCell ⟨g, 3, Option.none⟩ x3) g 4 (rwl [x0, x1, x2, x3]) := by
  refine ((((h.set 0 _).set 1 _).set 2 _).set 3 _).mono fun j u hj => ?_
  match j with
  | 0 => simpa [rwl] using hj
  | 1 => simpa [rwl] using hj
  | 2 => simpa [rwl] using hj
  | 3 => simpa [rwl] using hj
  | j + 4 => simp [rwl] at hj
theorem stC_set4 {lo i g : Nat} {ss : List Nat} {w : World} {x0 x1 x2 x3 : Value} (h : lo ≤ g) (hi : i ∈ ss) : stC lo ss i w ((((w.setCell ⟨g, 0, Option.none⟩ x0).setCell ⟨g, 1, Option.none⟩ x1).setCell ⟨g, 2, Option.none⟩ x2).setCell ⟨g, 3, Option.none⟩ x3) := by
  unfold stC; rw [if_pos hi]
  exact ⟨(((((Below.refl _ _).setCell (p := ⟨g, 0, Option.none⟩) h _).setCell (p := ⟨g, 1, Option.none⟩) h _).setCell (p := ⟨g, 2, Option.none⟩) h _).setCell (p := ⟨g, 3, Option.none⟩) h _), fun q k hr => (row_any (row_any (row_any (row_any hr _ _ rfl) _ _ rfl) _ _ rfl) _ _ rfl)⟩
theorem below_set4 {lo g : Nat} {w0 w : World} {x0 x1 x2 x3 : Value} (hb : Below lo w0 w) (h : lo ≤ g) : Below lo w0 ((((w.setCell ⟨g, 0, Option.none⟩ x0).setCell ⟨g, 1, Option.none⟩ x1).setCell ⟨g, 2, Option.none⟩ x2).setCell ⟨g, 3, Option.none⟩ x3) :=
  ((((hb.setCell (p := ⟨g, 0, Option.none⟩) h _).setCell (p := ⟨g, 1, Option.none⟩) h _).setCell (p := ⟨g, 2, Option.none⟩) h _).setCell (p := ⟨g, 3, Option.none⟩) h _)
theorem rwl_set5 {w : World} {g : Nat} {f : Nat → Option Value} {x0 x1 x2 x3 x4 : Value} (h : Row w g 5 f) : Row (((((w.setCell ⟨g, 0, Option.none⟩ x0).setCell ⟨g, 1, Option.none⟩ x1).setCell ⟨g, 2, Option.none⟩ x2).setCell ⟨g, 3, Option.none⟩ x3).setCell ⟨g, 4, Option.none⟩ x4) g 5 (rwl [x0, x1, x2, x3, x4]) := by
  refine (((((h.set 0 _).set 1 _).set 2 _).set 3 _).set 4 _).mono fun j u hj => ?_
  match j with
  | 0 => simpa [rwl] using hj
  | 1 => simpa [rwl] using hj
  | 2 => simpa [rwl] using hj
  | 3 => simpa [rwl] using hj
  | 4 => simpa [rwl] using hj
  | j + 5 => simp [rwl] at hj
theorem stC_set5 {lo i g : Nat} {ss : List Nat} {w : World} {x0 x1 x2 x3 x4 : Value} (h : lo ≤ g) (hi : i ∈ ss) : stC lo ss i w (((((w.setCell ⟨g, 0, Option.none⟩ x0).setCell ⟨g, 1, Option.none⟩ x1).setCell ⟨g, 2, Option.none⟩ x2).setCell ⟨g, 3, Option.none⟩ x3).setCell ⟨g, 4, Option.none⟩ x4) := by
  unfold stC; rw [if_pos hi]
  exact ⟨((((((Below.refl _ _).setCell (p := ⟨g, 0, Option.none⟩) h _).setCell (p := ⟨g, 1, Option.none⟩) h _).setCell (p := ⟨g, 2, Option.none⟩) h _).setCell (p := ⟨g, 3, Option.none⟩) h _).setCell (p := ⟨g, 4, Option.none⟩) h _), fun q k hr => (row_any (row_any (row_any (row_any (row_any hr _ _ rfl) _ _ rfl) _ _ rfl) _ _ rfl) _ _ rfl)⟩
theorem below_set5 {lo g : Nat} {w0 w : World} {x0 x1 x2 x3 x4 : Value} (hb : Below lo w0 w) (h : lo ≤ g) : Below lo w0 (((((w.setCell ⟨g, 0, Option.none⟩ x0).setCell ⟨g, 1, Option.none⟩ x1).setCell ⟨g, 2, Option.none⟩ x2).setCell ⟨g, 3, Option.none⟩ x3).setCell ⟨g, 4, Option.none⟩ x4) :=
  (((((hb.setCell (p := ⟨g, 0, Option.none⟩) h _).setCell (p := ⟨g, 1, Option.none⟩) h _).setCell (p := ⟨g, 2, Option.none⟩) h _).setCell (p := ⟨g, 3, Option.none⟩) h _).setCell (p := ⟨g, 4, Option.none⟩) h _)
theorem rwl_set8 {w : World} {g : Nat} {f : Nat → Option Value} {x0 x1 x2 x3 x4 x5 x6 x7 : Value} (h : Row w g 8 f) : Row ((((((((w.setCell ⟨g, 0, Option.none⟩ x0).setCell ⟨g, 1, Option.none⟩ x1).setCell ⟨g, 2, Option.none⟩ x2).setCell ⟨g, 3, Option.none⟩ x3).setCell ⟨g, 4, Option.none⟩ x4).setCell ⟨g, 5, Option.none⟩ x5).setCell ⟨g, 6, Option.none⟩ x6).setCell ⟨g, 7, Option.none⟩ x7) g 8 (rwl [x0, x1, x2, x3, x4, x5, x6, x7]) := by
  refine ((((((((h.set 0 _).set 1 _).set 2 _).set 3 _).set 4 _).set 5 _).set 6 _).set 7 _).mono fun j u hj => ?_
  match j with
  | 0 => simpa [rwl] using hj
  | 1 => simpa [rwl] using hj
  | 2 => simpa [rwl] using hj
  | 3 => simpa [rwl] using hj
  | 4 => simpa [rwl] using hj
  | 5 => simpa [rwl] using hj
  | 6 => simpa [rwl] using hj
  | 7 => simpa [rwl] using hj
  | j + 8 => simp [rwl] at hj
theorem stC_set8 {lo i g : Nat} {ss : List Nat} {w : World} {x0 x1 x2 x3 x4 x5 x6 x7 : Value} (h : lo ≤ g) (hi : i ∈ ss) : stC lo ss i w ((((((((w.setCell ⟨g, 0, Option.none⟩ x0).setCell ⟨g, 1, Option.none⟩ x1).setCell ⟨g, 2, Option.none⟩ x2).setCell ⟨g, 3, Option.none⟩ x3).setCell ⟨g, 4, Option.none⟩ x4).setCell ⟨g, 5, Option.none⟩ x5).setCell ⟨g, 6, Option.none⟩ x6).setCell ⟨g, 7, Option.none⟩ x7) := by
  unfold stC; rw [if_pos hi]
  exact ⟨(((((((((Below.refl _ _).setCell (p := ⟨g, 0, Option.none⟩) h _).setCell (p := ⟨g, 1, Option.none⟩) h _).setCell (p := ⟨g, 2, Option.none⟩) h _).setCell (p := ⟨g, 3, Option.none⟩) h _).setCell (p := ⟨g, 4, Option.none⟩) h _).setCell (p := ⟨g, 5, Option.none⟩) h _).setCell (p := ⟨g, 6, Option.none⟩) h _).setCell (p := ⟨g, 7, Option.none⟩) h _), fun q k hr => (row_any (row_any (row_any (row_any (row_any (row_any (row_any (row_any hr _ _ rfl) _ _ rfl) _ _ rfl) _ _ rfl) _ _ rfl) _ _ rfl) _ _ rfl) _ _ rfl)⟩
theorem below_set8 {lo g : Nat} {w0 w : World} {x0 x1 x2 x3 x4 x5 x6 x7 : Value} (hb : Below lo w0 w) (h : lo ≤ g) : Below lo w0 ((((((((w.setCell ⟨g, 0, Option.none⟩ x0).setCell ⟨g, 1, Option.none⟩ x1).setCell ⟨g, 2, Option.none⟩ x2).setCell ⟨g, 3, Option.none⟩ x3).setCell ⟨g, 4, Option.none⟩ x4).setCell ⟨g, 5, Option.none⟩ x5).setCell ⟨g, 6, Option.none⟩ x6).setCell ⟨g, 7, Option.none⟩ x7) :=
  ((((((((hb.setCell (p := ⟨g, 0, Option.none⟩) h _).setCell (p := ⟨g, 1, Option.none⟩) h _).setCell (p := ⟨g, 2, Option.none⟩) h _).setCell (p := ⟨g, 3, Option.none⟩) h _).setCell (p := ⟨g, 4, Option.none⟩) h _).setCell (p := ⟨g, 5, Option.none⟩) h _).setCell (p := ⟨g, 6, Option.none⟩) h _).setCell (p := ⟨g, 7, Option.none⟩) h _)
end Go.Proofs.YtncjghmjlcohjaaDoor
