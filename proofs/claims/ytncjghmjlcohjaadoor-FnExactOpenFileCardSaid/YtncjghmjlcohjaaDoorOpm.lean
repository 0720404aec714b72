/-
  A slice of nodes that came in, whole. No condition.
-/
import Derived.Test.YtncjghmjlcohjaaDoorProg
import Derived.Test.YtncjghmjlcohjaaDoorOpn
namespace Go.Proofs.YtncjghmjlcohjaaDoor
open Go.RowKit
set_option linter.unusedSimpArgs false
set_option linter.unusedVariables false

open Go.ChangeShapes Go.WideShapes Go.Deep in
theorem trod_at {H : Type} {enc : TypeId × Value → H} {P : Program} {w : World} {base : Nat} {spare : Nat → Bool} {held : Bool} {n : Nat} {fs : Array Field} {cs : List Value} {ys : List (DataW H × List MemPlace)}
    (hf : ∀ (j : Nat) (f : Field), fs[j]? = some f → DataW.trod enc P w base spare held n f.type ((cs.drop f.offset).take (P.cellsOf f.type)) = ys[j]?) (j : Nat) (f : Field) (hj : fs[j]? = some f) (T : TypeId) (o k : Nat) (hT : f.type = T) (ho : f.offset = o) (hk : P.cellsOf T = k) :
    DataW.trod enc P w base spare held n T ((cs.drop o).take k) = ys[j]? := by
  have := hf j f hj
  rw [hT, ho, hk] at this
  exact this
open Go.ChangeShapes Go.WideShapes Go.Deep in
theorem open_recs41 {H : Type} {enc : TypeId × Value → H} {w : World} {base : Nat} {spare : Nat → Bool} {held : Bool} {a : Option Addr} {len cap : Nat} {d : DataW H} {p : List MemPlace}
    (h : DataW.Trod enc Tryd.prog w base spare held 22 (.slice a len cap) d p) : ∃ l, InsNode w a len cap l := by
  obtain ⟨h1, h2, h3⟩ := open_rows (K := 7) Tryd.underlying22 (by kernel_rfl) (by omega) h
  rcases Nat.eq_zero_or_pos len with h0 | h0
  · subst h0
    exact ⟨[], ⟨rfl, fun h => absurd h (by omega)⟩, by omega, h1, fun t ht => absurd ht (by simp)⟩
  · obtain ⟨b, off, rfl, hb, hi⟩ := h3 h0
    obtain ⟨l, hl, hq⟩ := choose_list (Q := fun k (t : Node) => (∃ S K, NodeAt w b (off + k * 7) t S K ∧ SlS w S t.names ∧ SlK w K t.kids) ∧ NodeZ t) len (fun i hil => by
      obtain ⟨n, cs, y, hcl, hat, ht⟩ := hi i hil
      match cs, hcl with
      | [c0, c1, c2, c3, c4, c5, c6], _ =>
        obtain ⟨ys, n', hn', hy, hlen, hyl, hf⟩ := DataW.trod_struct Tryd.underlying41 ht
        have t0 := trod_at hf 0 _ rfl 4 0 1 rfl rfl (by kernel_rfl)
        have t1 := trod_at hf 1 _ rfl 3 1 1 rfl rfl (by kernel_rfl)
        have t2 := trod_at hf 2 _ rfl 3 2 1 rfl rfl (by kernel_rfl)
        have t3 := trod_at hf 3 _ rfl 3 3 1 rfl rfl (by kernel_rfl)
        have t4 := trod_at hf 4 _ rfl 9 4 1 rfl rfl (by kernel_rfl)
        have t5 := trod_at hf 5 _ rfl 38 5 1 rfl rfl (by kernel_rfl)
        have t6 := trod_at hf 6 _ rfl 39 6 1 rfl rfl (by kernel_rfl)
        simp only [List.drop_zero, List.drop_succ_cons, List.take_succ_cons, List.take_zero] at t0 t1 t2 t3 t4 t5 t6
        obtain ⟨z0, g0⟩ : ∃ z, ys[0]? = some z := ⟨_, List.getElem?_eq_getElem (by rw [hyl]; simp)⟩
        rw [g0] at t0
        obtain ⟨z1, g1⟩ : ∃ z, ys[1]? = some z := ⟨_, List.getElem?_eq_getElem (by rw [hyl]; simp)⟩
        rw [g1] at t1
        obtain ⟨z2, g2⟩ : ∃ z, ys[2]? = some z := ⟨_, List.getElem?_eq_getElem (by rw [hyl]; simp)⟩
        rw [g2] at t2
        obtain ⟨z3, g3⟩ : ∃ z, ys[3]? = some z := ⟨_, List.getElem?_eq_getElem (by rw [hyl]; simp)⟩
        rw [g3] at t3
        obtain ⟨z4, g4⟩ : ∃ z, ys[4]? = some z := ⟨_, List.getElem?_eq_getElem (by rw [hyl]; simp)⟩
        rw [g4] at t4
        obtain ⟨z5, g5⟩ : ∃ z, ys[5]? = some z := ⟨_, List.getElem?_eq_getElem (by rw [hyl]; simp)⟩
        rw [g5] at t5
        obtain ⟨z6, g6⟩ : ∃ z, ys[6]? = some z := ⟨_, List.getElem?_eq_getElem (by rw [hyl]; simp)⟩
        rw [g6] at t6
        obtain ⟨a0, e0, _⟩ := DataW.trod_bool Tryd.underlying4 t0
        obtain ⟨a1, e1, _, _⟩ := DataW.trod_int Tryd.underlying3 t1
        obtain ⟨a2, e2, _, _⟩ := DataW.trod_int Tryd.underlying3 t2
        obtain ⟨a3, e3, _, _⟩ := DataW.trod_int Tryd.underlying3 t3
        obtain ⟨a4, e4, _, w4⟩ := DataW.trod_string Tryd.underlying9 t4
        obtain ⟨A5, n5, k5, l5, e5, u5, v5, i5, s5⟩ := open_String t5
        obtain ⟨A6, n6, k6, l6, e6, u6, v6, i6, _⟩ := open_Int t6
        simp only [List.cons.injEq, and_true] at e0 e1 e2 e3 e4
        subst e0 e1 e2 e3 e4 e5 e6
        exact ⟨⟨a0, a1, a2, a3, a4, l5, l6⟩, ⟨_, _, ⟨hat 0 _ rfl, hat 1 _ rfl, hat 2 _ rfl, hat 3 _ rfl, hat 4 _ rfl, hat 5 _ rfl, hat 6 _ rfl⟩, ⟨A5, n5, k5, rfl, u5, i5⟩, ⟨A6, n6, k6, rfl, u6, i6⟩⟩, w4, (by rw [i5.1]; exact v5), (by rw [i6.1]; exact v6), s5⟩)
    exact ⟨l, ⟨hl, fun _ => ⟨b, off, rfl, hb, fun k t ht => (hq k t ht).1⟩⟩, by omega, h1, fun t ht => by
      obtain ⟨k, hk, rfl⟩ := List.getElem_of_mem ht
      exact (hq k _ (List.getElem?_eq_getElem hk)).2⟩
end Go.Proofs.YtncjghmjlcohjaaDoor
