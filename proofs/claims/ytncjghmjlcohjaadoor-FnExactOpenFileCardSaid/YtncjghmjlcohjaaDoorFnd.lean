/-
  FindNode: what it finds; of the program. No condition.
-/
import Derived.Test.YtncjghmjlcohjaaDoorProg
import Derived.Test.YtncjghmjlcohjaaDoorMad
import Derived.Test.YtncjghmjlcohjaaDoorKid
import Derived.Test.YtncjghmjlcohjaaDoorTvi
import Derived.Test.YtncjghmjlcohjaaDoorPpw
namespace Go.Proofs.YtncjghmjlcohjaaDoor
open Go.RowKit
set_option linter.unusedSimpArgs false
set_option linter.unusedVariables false

open Classical in
noncomputable def ppOf (s : ByteArray) : List ByteArray := if h : ∃ l, IsPP s l then Classical.choose h else []
theorem ppOf_eq {s : ByteArray} {l : List ByteArray} (h : IsPP s l) : ppOf s = l := by
  have h' : ∃ l, IsPP s l := ⟨l, h⟩
  unfold ppOf
  rw [dif_pos h']
  exact pp_uniq (Classical.choose_spec h') h
theorem ppOf_is {s : ByteArray} (h : pathB s = true) : IsPP s (ppOf s) := by
  obtain ⟨l, hl⟩ := pathB_iff.1 h
  rw [ppOf_eq hl]; exact hl
/-- From a node on along a path: the node and 0, or -1 and what is wrong. -/
def fnF (l : List Node) (a g : Int) : List ByteArray → Int → Int × Int
  | [], i => (i, 0)
  | p :: ps, i => match l[i.toNat]? with
    | none => (-1, 2)
    | some t => bif !t.dir then (-1, 4) else bif !mayN a g t 1 then (-1, 3) else bif decide (kidF t.names t.kids p < 0) then (-1, 2) else fnF l a g ps (kidF t.names t.kids p)
noncomputable def fnR (l : List Node) (n : Nat) (r a s g : Int) (path : ByteArray) : Int × Int := bif pathB path && (treeB l n && credB r a s g) then fnF l a g (ppOf path) 0 else (-1, 1)
theorem kidF_in (n : Int) (h1 : 1 ≤ n) : ∀ (ns : List ByteArray) (ks : List Int) (x : ByteArray), (∀ k ∈ ks, 1 ≤ k ∧ k < n) → kidF ns ks x = -1 ∨ (1 ≤ kidF ns ks x ∧ kidF ns ks x < n)
  | [], ks, x, _ => .inl (by cases ks <;> rfl)
  | m :: ns, [], x, _ => .inl rfl
  | m :: ns, k :: ks, x, h => by
    rw [kidF]
    split
    · exact .inr (h k (by simp))
    · exact kidF_in n h1 ns ks x fun k' hk => h k' (by simp [hk])
end Go.Proofs.YtncjghmjlcohjaaDoor
