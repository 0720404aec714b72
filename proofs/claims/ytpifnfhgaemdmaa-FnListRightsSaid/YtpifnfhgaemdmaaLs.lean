/-
  Lists held in memory as structs: what calls, marks and stores leave of them. No condition.
-/
import Derived.Test.YtpifnfhgaemdmaaProg
import Derived.Test.YtpifnfhgaemdmaaSg
namespace Go.Proofs.Ytpifnfhgaemdmaa
open Go.RowKit
set_option linter.unusedSimpArgs false
set_option linter.unusedVariables false

theorem TyG.not_list {w : World} {g q : Nat} (h : TyG w g) (hq : LBlk w q) : g ≠ q := by
  intro e
  subst e
  obtain ⟨C, h⟩ := h
  obtain ⟨D, hq, _⟩ := hq
  rw [h] at hq
  simp at hq
theorem OwnSG.ty {w : World} {B n c : Nat} {A : Option Addr} {l : List Grant} (h : OwnSG w B n c A l) : ∀ a, A = some a → TyG w a.block := by
  rintro a rfl
  rcases h with ⟨h, _⟩ | ⟨g, m, h, _, _, _, _, _, hy⟩
  · cases h
  · cases h; exact hy
/-- A block that holds a List. -/
def LRow (w : World) (q : Nat) (x y z : Value) : Prop := Row w q 3 (rwl [x, y, z]) ∧ LBlk w q
section
variable {w w' : World} {q : Nat} {x y z : Value}
theorem LRow.lt (h : LRow w q x y z) : q < w.heap.size := h.1.lt
theorem LRow.keep (h : LRow w q x y z) (hb : w'.heap[q]? = w.heap[q]?) : LRow w' q x y z := ⟨h.1.keep hb, h.2.keep hb⟩
theorem LRow.below (h : LRow w q x y z) (hb : Below w.heap.size w w') : LRow w' q x y z := h.keep (hb.block q h.lt)
theorem LRow.c0 (h : LRow w q x y z) : w.cell? ⟨q, 0, none⟩ = some x := h.1.cell (j := 0) rfl
theorem LRow.c1 (h : LRow w q x y z) : w.cell? ⟨q, 1, none⟩ = some y := h.1.cell (j := 1) rfl
theorem LRow.c2 (h : LRow w q x y z) : w.cell? ⟨q, 2, none⟩ = some z := h.1.cell (j := 2) rfl
theorem LRow.made (w : World) (x y z : Value) : LRow (w.alloc (.cells #[x, y, z] 24)) w.heap.size x y z :=
  ⟨Row.madeL w 24 [x, y, z], _, Below.heap_alloc_self w _, rfl⟩
theorem LRow.offs {A : Option Addr} (h : LRow w q x y z) (ho : Offs A w w') (hA : ∀ a, A = some a → TyG w a.block) : LRow w' q x y z :=
  h.keep (ho.2 q h.lt fun a ha e => (hA a ha).not_list h.2 e.symm)
end
theorem Offs.trans {A : Option Addr} {w w1 w2 : World} (h : Offs A w w1) (h' : Offs A w1 w2) : Offs A w w2 :=
  ⟨h.1.trans h'.1, fun b hb ha => (h'.2 b (Nat.lt_of_lt_of_le hb h.1.size) ha).trans (h.2 b hb ha)⟩
/-- What the operations of a statement leave that lays a list into a struct; s: the store. -/
def xgC (lo s i : Nat) (W W' : World) : Prop :=
  if i = s then Below lo W W' ∧ ∀ (b : Nat) (C : Array Value) (T : TypeId), W.heap[b]? = some (.cells C T (0, 0)) → T ≠ 24 → W'.heap[b]? = W.heap[b]? else Below W.heap.size W W'
section
variable {lo s i : Nat} {W W' : World}
theorem xgC.own {B n c : Nat} {A : Option Addr} {l : List Grant} (hc : xgC lo s i W W') (h : OwnSG W B n c A l) : OwnSG W' B n c A l := by
  unfold xgC at hc
  split at hc
  · rcases h with h | ⟨g, m, h1, h2, h3, h4, h5, h6, h7⟩
    · exact .inl h
    · obtain ⟨C, hC⟩ := h7
      have hk := hc.2 g C _ hC (by decide)
      exact .inr ⟨g, m, h1, h2, h3, h4, h5, h6.keep hk, ⟨C, hk.trans hC⟩⟩
  · exact h.below hc
theorem xgC.below (hc : xgC lo s i W W') (h : i ≠ s) : Below W.heap.size W W' := by
  unfold xgC at hc; rw [if_neg h] at hc; exact hc
theorem xgC.of (hb : Below W.heap.size W W') (hl : lo ≤ W.heap.size) : xgC lo s i W W' := by
  unfold xgC
  split
  · refine ⟨hb.mono hl, fun b C T h _ => hb.block b ?_⟩
    rcases Nat.lt_or_ge b W.heap.size with hlt | hge
    · exact hlt
    · rw [Array.getElem?_eq_none hge] at h; cases h
  · exact hb
theorem xgC.store {q : Nat} {x y z : Value} (hq : LBlk W q) (hl : lo ≤ q) : xgC lo s s W (((W.setCell ⟨q, 0, none⟩ x).setCell ⟨q, 1, none⟩ y).setCell ⟨q, 2, none⟩ z) := by
  unfold xgC
  rw [if_pos rfl]
  refine ⟨below_set3 (Below.refl _ _) hl, fun b C T h hT => ?_⟩
  have hne : b ≠ q := by
    rintro rfl
    obtain ⟨D, hD, _⟩ := hq
    rw [h] at hD
    simp at hD
    exact hT hD.2
  exact ((Below.heap_setCell _ ⟨q, 2, none⟩ _ b hne).trans (Below.heap_setCell _ ⟨q, 1, none⟩ _ b hne)).trans (Below.heap_setCell _ ⟨q, 0, none⟩ _ b hne)
end
theorem LRow.stored {W : World} {q : Nat} {x y z : Value} (hq : LBlk W q) : LRow (((W.setCell ⟨q, 0, none⟩ x).setCell ⟨q, 1, none⟩ y).setCell ⟨q, 2, none⟩ z) q x y z :=
  ⟨rwl_set3 hq.row, ((hq.set 0 _).set 1 _).set 2 _⟩
theorem sgL_len (m k : Int) (l : List Grant) (t : Grant) : (sgL m l k t).length ≤ 6 := by
  unfold sgL
  split
  · rename_i h
    split
    · rename_i h2; exact (listB_iff.1 h2).2.2.2
    · exact (listB_iff.1 h).2.2.2
  · simp
/-- SetGrant's result in letters. -/
def SgO (w : World) (M K : Int) (ok : Bool) (L : List Grant) (nL : Nat) (e : Ending) (w' : World) : Prop :=
  ∃ (A : Option Addr) (c : Nat), e = .returned (.tuple #[.agg #[.int .i64 M, .slice A nL c, .int .i64 K], .bool ok]) ∧ OwnSG w' w.heap.size nL c A L ∧ Below w.heap.size w w'
theorem SgOut.toO {w w' : World} {m k M K : Int} {l L : List Grant} {t : Grant} {ok : Bool} {nL : Nat} {e : Ending} (hM : sgN m l k m = M) (hK : sgN m l k k = K) (hok : sgOk m l k t = ok) (hL : sgL m l k t = L) (hn : L.length = nL) (h : SgOut w m l k t e w') : SgO w M K ok L nL e w' := by
  obtain ⟨A, n, c, he, hl, ho, hb⟩ := h
  rw [hM, hK, hok] at he
  rw [hL] at hl ho
  obtain rfl : n = nL := hl.symm.trans hn
  exact ⟨A, c, he, ho, hb⟩
theorem eqListI_c (m k : Int) (A A' : Option Addr) (n c c' : Nat) (l : List Grant) (hn : n ≤ 1048576) (w : World) (hR : InGrant w A n l) (hR' : InGrant w A' n l) :
    Calls Try.prog 13 #[.agg #[.int .i64 m, .slice A n c, .int .i64 k], .agg #[.int .i64 m, .slice A' n c', .int .i64 k]] w fun e w' => e = .returned (.bool true) ∧ Below w.heap.size w w' := by
  have HR := hide hR
  have HR' := hide hR'
  clear hR hR'
  go_enter Try.func13, Try.ntmps13
  go_wp2_with fail
  refine (eqGrantI_c _ _ _ _ _ l hn _ (HR.out.below (below_alloc0 (below_alloc0 (Below.refl _ _) _) _)) (HR'.out.below (below_alloc0 (below_alloc0 (Below.refl _ _) _) _))).mono ?_
  rintro e w1 ⟨rfl, hb1⟩
  have V0 := live hb1 w.heap.size (by first | omega | (simp <;> omega))
  have V1 := live hb1 (w.heap.size + 1) (by first | omega | (simp <;> omega))
  have B1 : Below w.heap.size w w1 := below_via0 (below_alloc0 (below_alloc0 (Below.refl _ _) _) _) hb1
  go_wp2_with fail
  go_ret
  exact ⟨rfl, B1⟩
theorem markListI_c (m k : Int) (A : Option Addr) (n c B : Nat) (l : List Grant) (hn : n ≤ 1048576) (w : World) (h : OwnSG w B n c A l) :
    Calls Try.prog 14 #[.agg #[.int .i64 m, .slice A n c, .int .i64 k], .int .i64 1] w fun e w' => e = .returned (.int .i64 (1 + 3 * n)) ∧ Offs A w w' ∧ OwnSG w' B n c A (mkLG n) := by
  have H := hide h
  clear h
  go_enter Try.func14, Try.ntmps14
  go_wp2_with fail
  have hb : Below w.heap.size w (w.alloc (.cells #[.int .i64 m, .slice A n c, .int .i64 k] 24)) := below_alloc0 (Below.refl _ _) _
  refine (markGrantI_c _ _ _ B l hn _ (H.out.below hb)).mono ?_
  rintro e w1 ⟨rfl, ho, hw⟩
  have HO := hide ((Offs.ofBelow hb).trans ho)
  have HW := hide hw
  clear ho hw hb
  go_wp2_with fail
  go_ret
  exact ⟨rfl, HO.out, HW.out⟩
theorem heldListI_c (m k : Int) (A : Option Addr) (n c : Nat) (hn : n ≤ 1048576) (w : World) (h : InGrant w A n (mkLG n)) :
    Calls Try.prog 15 #[.agg #[.int .i64 m, .slice A n c, .int .i64 k], .int .i64 1] w fun e w' => e = .returned (.int .i64 (1 + 3 * n)) ∧ Below w.heap.size w w' := by
  have H := hide h
  clear h
  have g1 : ¬ (1 + 3 * (n : Int) < 0) := by omega
  go_enter Try.func15, Try.ntmps15
  go_wp2_with fail
  have hb : Below w.heap.size w (w.alloc (.cells #[.int .i64 m, .slice A n c, .int .i64 k] 24)) := below_alloc0 (Below.refl _ _) _
  refine (heldGrantI_c _ _ _ hn _ (H.out.below hb)).mono ?_
  rintro e w1 ⟨rfl, ho⟩
  have HO := hide (below_via0 hb ho)
  clear ho hb
  go_wp2_with fail
  go_ret
  exact ⟨rfl, HO.out⟩
set_option maxHeartbeats 1000000 in
theorem toListR_c (m : Int) (A : Option Addr) (n c : Nat) (k : Int) (l : List Grant) (w : World) (hA : InGrant w A n l) (hn : n ≤ 1048576) :
    Calls Try.prog 18 #[.agg #[.int .i64 m, .slice A n c, .int .i64 k]] w fun e w' => ∃ g, e = .returned (.agg #[.int .i64 m, .slice (some ⟨g, 0, none⟩) n n, .int .i64 k]) ∧ OwnSG w' w.heap.size n n (some ⟨g, 0, none⟩) l ∧ Below w.heap.size w w' := by
  have HA := hide hA
  clear hA
  go_enter Try.func18, Try.ntmps18
  go_wp2_with fail
  have B0 : Below w.heap.size w (((w.alloc (.cells #[.int .i64 m, .slice A n c, .int .i64 k] 31)).alloc (.cells #[.int .i64 0, .slice none 0 0, .int .i64 0] 24)).alloc (.cells #[.int .i64 m, .slice none 0 0, .int .i64 0] 24)) :=
    below_alloc0 (below_alloc0 (below_alloc0 (Below.refl _ _) _) _) _
  refine (toGrantR_c _ _ _ l _ (HA.out.below B0) hn).mono ?_
  rintro e w1 ⟨g, rfl, hR, hb1⟩
  have V0 := live hb1 w.heap.size (by simp; omega)
  have V1 := live hb1 (w.heap.size + 1) (by simp)
  have V2 := live hb1 (w.heap.size + 2) (by simp)
  have B1 : Below w.heap.size w w1 := below_via0 B0 hb1
  have HR := hide hR
  clear hR B0 hb1
  go_wp2_with fail
  refine bodyPost_ret (v := .agg #[.int .i64 m, .slice (some ⟨g, 0, none⟩) n n, .int .i64 k]) (by simp [results, Try.results18, go_sem, *]) rfl ⟨g, rfl, ?_, Below.setCell (Below.setCell (Below.setCell (Below.setCell (Below.setCell B1 (by show w.heap.size ≤ w.heap.size + 1 + 1; omega) _) (by show w.heap.size ≤ w.heap.size + 1 + 1; omega) _) (by show w.heap.size ≤ w.heap.size + 1; omega) _) (by show w.heap.size ≤ w.heap.size + 1; omega) _) (by show w.heap.size ≤ w.heap.size + 1; omega) _⟩
  rcases HR.out with ⟨h, _⟩ | ⟨g', mm, h, h2, h3, h4, h5, h6, h7⟩
  · cases h
  · cases h
    have hg' : w.heap.size + 3 ≤ g := by simpa using h2
    exact .inr ⟨g, mm, rfl, by omega, h3, h4, h5, ((((h6.far (p := ⟨w.heap.size + 1 + 1, 1, none⟩) (by show g ≠ w.heap.size + 1 + 1; omega) _).far (p := ⟨w.heap.size + 1 + 1, 2, none⟩) (by show g ≠ w.heap.size + 1 + 1; omega) _).far (p := ⟨w.heap.size + 1, 0, none⟩) (by show g ≠ w.heap.size + 1; omega) _).far (p := ⟨w.heap.size + 1, 1, none⟩) (by show g ≠ w.heap.size + 1; omega) _).far (p := ⟨w.heap.size + 1, 2, none⟩) (by show g ≠ w.heap.size + 1; omega) _, ((((h7.set _).set _).set _).set _).set _⟩
end Go.Proofs.Ytpifnfhgaemdmaa
