/-
  A slice of nodes that came in. No condition.
-/
import Derived.Test.YtncjghmjlcohjaaDoorProg
import Derived.Test.YtncjghmjlcohjaaDoorNod
namespace Go.Proofs.YtncjghmjlcohjaaDoor
open Go.RowKit
set_option linter.unusedSimpArgs false
set_option linter.unusedVariables false

open Go.ChangeShapes Go.WideShapes Go.Deep in
theorem open_rows {H : Type} {enc : TypeId × Value → H} {P : Program} {w : World} {base : Nat} {spare : Nat → Bool} {held : Bool} {t e : TypeId} {K : Nat} {a : Option Addr} {len cap : Nat} {d : DataW H} {p : List MemPlace} (ht : P.underlying t = some (.slice e)) (hC : P.cellsOf e = K) (hK : 0 < K)
    (h : DataW.Trod enc P w base spare held t (.slice a len cap) d p) :
    len ≤ cap ∧ cap ≤ maxLen ∧ (0 < len → ∃ b off, a = some ⟨b, off, none⟩ ∧ b < w.heap.size ∧ ∀ i, i < len → ∃ (n : Nat) (cs : List Value) (y : DataW H × List MemPlace), cs.length = K ∧ (∀ (j : Nat) (v : Value), cs[j]? = some v → w.cell? ⟨b, off + i * K + j, none⟩ = some v) ∧ DataW.trod enc P w base spare held n e cs = some y) := by
  obtain ⟨fuel, hf⟩ := h
  rcases open_slice ht hf with ⟨hcs, _⟩ | ⟨x, l, c, m, n, D, Pl, hcs, hb, hl, hm, hmm, hx, hi⟩
  · simp [Value.cells] at hcs
    obtain ⟨rfl, rfl, rfl⟩ := hcs
    exact ⟨Nat.le_refl _, Nat.zero_le _, fun h => absurd h (by omega)⟩
  · simp [Value.cells] at hcs
    obtain ⟨rfl, rfl, rfl⟩ := hcs
    have hlm : len ≤ m := by rw [hmm]; split <;> omega
    refine ⟨hl, hm, fun h0 => ?_⟩
    obtain ⟨b, off, spot⟩ := x
    have key : ∀ i, i < len → ∃ (n : Nat) (cs : List Value) (y : DataW H × List MemPlace), cs.length = K ∧ (∀ (j : Nat) (v : Value), cs[j]? = some v → w.cell? ((⟨b, off, spot⟩ : Addr).add (i * K + j)) = some v) ∧ DataW.trod enc P w base spare held n e cs = some y := by
      intro i hil
      obtain ⟨cs', hc, ht'⟩ := hi i (by omega)
      rw [hC] at hc
      obtain ⟨_, hcl, hat⟩ := World.cells?_some hc
      refine ⟨n, cs', _, hcl, fun j v hv => ?_, ht'⟩
      have hj : j < K := by rw [← hcl]; exact (List.getElem?_eq_some_iff.1 hv).1
      rw [← Go.Deep.add_add, hat j hj, hv]
    obtain ⟨n0, cs0, y0, hl0, hc0, _⟩ := key 0 h0
    have hc00 := hc0 0 _ (List.getElem?_eq_getElem (by omega))
    have hspot : spot = none := by simpa [Addr.add] using World.cell?_spot hc00
    subst hspot
    refine ⟨b, off, rfl, ?_, fun i hil => ?_⟩
    · have := World.block_lt_of_cell? w _ hc00
      simpa [Addr.add] using this
    · obtain ⟨n1, cs1, y1, hl1, hc1, ht1⟩ := key i hil
      refine ⟨n1, cs1, y1, hl1, fun j v hv => ?_, ht1⟩
      rw [← hc1 j v hv]
      have : (⟨b, off, none⟩ : Addr).add (i * K + j) = ⟨b, off + i * K + j, none⟩ := by
        unfold Addr.add
        split
        · rename_i h; rw [show off + i * K + j = off by omega]
        · simp [Nat.add_assoc]
      rw [this]
open Go.ChangeShapes Go.WideShapes Go.Deep in
theorem open_String {H : Type} {enc : TypeId × Value → H} {w : World} {base : Nat} {spare : Nat → Bool} {held : Bool} {fuel : Nat} {v : Value} {y : DataW H × List MemPlace}
    (h : DataW.trod enc Tryd.prog w base spare held fuel 38 [v] = some y) : ∃ (a : Option Addr) (len cap : Nat) (l : List ByteArray), v = .slice a len cap ∧ len ≤ cap ∧ len ≤ maxLen ∧ InString w a len l ∧ ∀ x ∈ l, x.size ≤ maxLen := by
  have hs : ∃ (a : Option Addr) (len cap : Nat), v = .slice a len cap := by
    rcases open_slice Tryd.underlying38 h with ⟨hcs, _⟩ | ⟨x, l, c, m, n, D, Pl, hcs, _⟩
    · simp at hcs; exact ⟨_, _, _, hcs⟩
    · simp at hcs; exact ⟨_, _, _, hcs⟩
  obtain ⟨a, len, cap, rfl⟩ := hs
  obtain ⟨h1, h2, h3⟩ := open_rows (K := 1) (d := y.1) (p := y.2) Tryd.underlying38 (by kernel_rfl) (by omega) ⟨fuel, by simpa [Value.cells] using h⟩
  rcases Nat.eq_zero_or_pos len with h0 | h0
  · subst h0
    exact ⟨a, 0, cap, [], rfl, h1, by omega, ⟨rfl, fun h => absurd h (by omega)⟩, fun x hx => absurd hx (by simp)⟩
  · obtain ⟨b, off, rfl, hb, hi⟩ := h3 h0
    obtain ⟨l, hl, hq⟩ := choose_list (Q := fun k (x : ByteArray) => w.cell? ⟨b, off + k, none⟩ = some (.string x) ∧ x.size ≤ maxLen) len (fun i hil => by
      obtain ⟨n, cs, y, hcl, hat, ht⟩ := hi i hil
      match cs, hcl with
      | [c0], _ =>
        obtain ⟨s, e, _, hw⟩ := DataW.trod_string Tryd.underlying9 ht
        simp only [List.cons.injEq, and_true] at e
        subst e
        exact ⟨s, by have := hat 0 _ rfl; simpa using this, hw⟩)
    exact ⟨_, len, cap, l, rfl, h1, by omega, ⟨hl, fun _ => ⟨b, off, rfl, hb, fun k x hx => (hq k x hx).1⟩⟩, fun x hx => by
      obtain ⟨k, hk, rfl⟩ := List.getElem_of_mem hx
      exact (hq k _ (List.getElem?_eq_getElem hk)).2⟩
open Go.ChangeShapes Go.WideShapes Go.Deep in
theorem open_Int {H : Type} {enc : TypeId × Value → H} {w : World} {base : Nat} {spare : Nat → Bool} {held : Bool} {fuel : Nat} {v : Value} {y : DataW H × List MemPlace}
    (h : DataW.trod enc Tryd.prog w base spare held fuel 39 [v] = some y) : ∃ (a : Option Addr) (len cap : Nat) (l : List Int), v = .slice a len cap ∧ len ≤ cap ∧ len ≤ maxLen ∧ InInt w a len l ∧ ∀ x ∈ l, True := by
  have hs : ∃ (a : Option Addr) (len cap : Nat), v = .slice a len cap := by
    rcases open_slice Tryd.underlying39 h with ⟨hcs, _⟩ | ⟨x, l, c, m, n, D, Pl, hcs, _⟩
    · simp at hcs; exact ⟨_, _, _, hcs⟩
    · simp at hcs; exact ⟨_, _, _, hcs⟩
  obtain ⟨a, len, cap, rfl⟩ := hs
  obtain ⟨h1, h2, h3⟩ := open_rows (K := 1) (d := y.1) (p := y.2) Tryd.underlying39 (by kernel_rfl) (by omega) ⟨fuel, by simpa [Value.cells] using h⟩
  rcases Nat.eq_zero_or_pos len with h0 | h0
  · subst h0
    exact ⟨a, 0, cap, [], rfl, h1, by omega, ⟨rfl, fun h => absurd h (by omega)⟩, fun x hx => absurd hx (by simp)⟩
  · obtain ⟨b, off, rfl, hb, hi⟩ := h3 h0
    obtain ⟨l, hl, hq⟩ := choose_list (Q := fun k (x : Int) => w.cell? ⟨b, off + k, none⟩ = some (.int .i64 x) ∧ True) len (fun i hil => by
      obtain ⟨n, cs, y, hcl, hat, ht⟩ := hi i hil
      match cs, hcl with
      | [c0], _ =>
        obtain ⟨s, e, _⟩ := DataW.trod_int Tryd.underlying3 ht
        simp only [List.cons.injEq, and_true] at e
        subst e
        exact ⟨s, by have := hat 0 _ rfl; simpa using this, trivial⟩)
    exact ⟨_, len, cap, l, rfl, h1, by omega, ⟨hl, fun _ => ⟨b, off, rfl, hb, fun k x hx => (hq k x hx).1⟩⟩, fun x hx => by
      obtain ⟨k, hk, rfl⟩ := List.getElem_of_mem hx
      exact (hq k _ (List.getElem?_eq_getElem hk)).2⟩
end Go.Proofs.YtncjghmjlcohjaaDoor
