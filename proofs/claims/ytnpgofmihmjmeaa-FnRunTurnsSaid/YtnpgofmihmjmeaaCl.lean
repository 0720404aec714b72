/-
  Cells of a block that was made, and what a value is. No condition.
-/
import Derived.Test.YtnpgofmihmjmeaaDraw
namespace Go.Proofs.Ytnpgofmihmjmeaa
open Go.RowKit
set_option linter.unusedSimpArgs false
set_option linter.unusedVariables false

/-- n cells of block g are there, may be written, and each is as p says. -/
def Cl (W : World) (g n : Nat) (p : Nat → Value → Prop) : Prop := g < W.heap.size ∧ ∀ j, j < n → ∃ u, W.cell? ⟨g, j, none⟩ = some u ∧ p j u ∧ W.frozen? ⟨g, j, none⟩ = false
theorem Cl.keep {W W' : World} {g n r : Nat} {p : Nat → Value → Prop} (h : Cl W g n p) (ha : Aside r W W') (hg : g ≠ r) : Cl W' g n p :=
  ⟨Nat.lt_of_lt_of_le h.1 ha.1.size, fun j hj => by
    obtain ⟨u, h1, h2, h3⟩ := h.2 j hj
    exact ⟨u, (ha.cell h.1 hg j).trans h1, h2, (ha.frozen h.1 hg j).trans h3⟩⟩
theorem Cl.made (W : World) (a : Array Value) (T : TypeId) (n : Nat) (p : Nat → Value → Prop) (h : ∀ j, j < n → ∃ u, a[j]? = some u ∧ p j u) : Cl (W.alloc (.cells a T)) W.heap.size n p := by
  have hr := Row.made W T a (fun j => a[j]?) (fun _ _ h => h)
  refine ⟨hr.lt, fun j hj => ?_⟩
  obtain ⟨u, h1, h2⟩ := h j hj
  exact ⟨u, hr.cell h1, h2, hr.frozen j⟩
def IsStr (m : Nat) (v : Value) : Prop := ∃ s : ByteArray, v = .string s ∧ s.size ≤ m
def IsNum (lo hi : Int) (v : Value) : Prop := ∃ x : Int, v = .int .i64 x ∧ lo ≤ x ∧ x ≤ hi
end Go.Proofs.Ytnpgofmihmjmeaa
