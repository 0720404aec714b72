/-
  The law ListValid over any list. No condition.
-/
import Derived.Test.YtpifnfhgaemdmaaProg
import Derived.Test.YtpifnfhgaemdmaaLstI
namespace Go.Proofs.Ytpifnfhgaemdmaa
open Go.RowKit
set_option linter.unusedSimpArgs false
set_option linter.unusedVariables false

theorem RdGrant.keep {w w' : World} {b off : Nat} {l : List Grant} (h : RdGrant w b off l) (hs : w.heap.size ≤ w'.heap.size) (hb : w'.heap[b]? = w.heap[b]?) : RdGrant w' b off l := by
  refine ⟨Nat.lt_of_lt_of_le h.1 hs, fun k t ht => ?_⟩
  have := h.2 k t ht
  simp only [World.cell?] at this ⊢
  rw [hb]; exact this
theorem RdGrant.far {w : World} {b off : Nat} {l : List Grant} (h : RdGrant w b off l) {p : Addr} (hp : b ≠ p.block) (v : Value) : RdGrant (w.setCell p v) b off l :=
  h.keep (by simp) (Below.heap_setCell w p v b hp)
theorem szList_yes (m : Int) (A : Option Addr) (n c : Nat) (k l : Int) (h : (n : Int) ≤ l) (hl : l ≤ 1048576) (w : World) :
    Calls Try.prog 16 #[.agg #[.int .i64 m, .slice A n c, .int .i64 k], .int .i64 l] w fun e w' => e = .returned (.int .i64 (l - n)) ∧ Below w.heap.size w w' := by
  have h1 : 0 ≤ l - n := by omega
  go_enter Try.func16, Try.ntmps16
  go_wp2_with (go_at_call 39; refine (szGrant_yes _ _ _ _ h hl _).mono ?_; rintro e w' ⟨rfl, rfl⟩)
  go_ret
  exact ⟨rfl, below_alloc0 (Below.refl _ _) _⟩
theorem szList_no (m : Int) (A : Option Addr) (n c : Nat) (k l : Int) (h : l < (n : Int)) (h0 : 0 ≤ l) (hn : n ≤ maxLen) (hl : l ≤ 1048576) (w : World) :
    Calls Try.prog 16 #[.agg #[.int .i64 m, .slice A n c, .int .i64 k], .int .i64 l] w fun e w' => e = .returned (.int .i64 (-1)) ∧ Below w.heap.size w w' := by
  go_enter Try.func16, Try.ntmps16
  go_wp2_with (go_at_call 39; refine (szGrant_no _ _ _ _ h h0 hn hl _).mono ?_; rintro e w' ⟨rfl, rfl⟩)
  go_ret
  exact ⟨rfl, below_alloc0 (Below.refl _ _) _⟩
def MadeList (w : World) (m : Int) (n : Nat) (k : Int) (l : List Grant) (e : Ending) (w' : World) : Prop :=
  ∃ g, e = .returned (.agg #[.int .i64 m, .slice (some ⟨g, 0, none⟩) n n, .int .i64 k]) ∧ w.heap.size ≤ g ∧ RdGrant w' g 0 l ∧ Below w.heap.size w w'
set_option maxHeartbeats 1000000 in
theorem toList_c (m : Int) (A : Option Addr) (n c : Nat) (k : Int) (l : List Grant) (w : World) (hA : InGrant w A n l) (hn : n ≤ 1048576) :
    Calls Try.prog 18 #[.agg #[.int .i64 m, .slice A n c, .int .i64 k]] w (MadeList w m n k l) := by
  have HA := hide hA
  clear hA
  go_enter Try.func18, Try.ntmps18
  go_wp2_with fail
  have B0 : Below w.heap.size w (((w.alloc (.cells #[.int .i64 m, .slice A n c, .int .i64 k] 31)).alloc (.cells #[.int .i64 0, .slice none 0 0, .int .i64 0] 24)).alloc (.cells #[.int .i64 m, .slice none 0 0, .int .i64 0] 24)) :=
    below_alloc0 (below_alloc0 (below_alloc0 (Below.refl _ _) _) _) _
  refine (toGrantS_c _ _ _ l _ (HA.out.below B0) hn).mono ?_
  rintro e w1 ⟨g, rfl, hg, hR, hb1⟩
  have V0 := live hb1 w.heap.size (by simp; omega)
  have V1 := live hb1 (w.heap.size + 1) (by simp)
  have V2 := live hb1 (w.heap.size + 2) (by simp)
  have hg' : w.heap.size + 3 ≤ g := by simpa using hg
  have B1 : Below w.heap.size w w1 := below_via0 B0 hb1
  have HR := hide hR
  clear hR B0 hg hb1
  go_wp2_with fail
  exact bodyPost_ret (v := .agg #[.int .i64 m, .slice (some ⟨g, 0, none⟩) n n, .int .i64 k]) (by simp [results, Try.results18, go_sem, *]) rfl ⟨g, rfl, by omega, ((((HR.out.far (p := ⟨w.heap.size + 1 + 1, 1, none⟩) (by show g ≠ w.heap.size + 1 + 1; omega) _).far (p := ⟨w.heap.size + 1 + 1, 2, none⟩) (by show g ≠ w.heap.size + 1 + 1; omega) _).far (p := ⟨w.heap.size + 1, 0, none⟩) (by show g ≠ w.heap.size + 1; omega) _).far (p := ⟨w.heap.size + 1, 1, none⟩) (by show g ≠ w.heap.size + 1; omega) _).far (p := ⟨w.heap.size + 1, 2, none⟩) (by show g ≠ w.heap.size + 1; omega) _, Below.setCell (Below.setCell (Below.setCell (Below.setCell (Below.setCell B1 (by show w.heap.size ≤ w.heap.size + 1 + 1; omega) _) (by show w.heap.size ≤ w.heap.size + 1 + 1; omega) _) (by show w.heap.size ≤ w.heap.size + 1; omega) _) (by show w.heap.size ≤ w.heap.size + 1; omega) _) (by show w.heap.size ≤ w.heap.size + 1; omega) _⟩
theorem eqList_c (m k : Int) (b off c b' off' c' n : Nat) (l : List Grant) (hl : l.length = n) (hn : n ≤ 1048576) (w : World) (hR : RdGrant w b off l) (hR' : RdGrant w b' off' l) :
    Calls Try.prog 13 #[.agg #[.int .i64 m, .slice (some ⟨b, off, none⟩) n c, .int .i64 k], .agg #[.int .i64 m, .slice (some ⟨b', off', none⟩) n c', .int .i64 k]] w fun e w' => e = .returned (.bool true) ∧ Below w.heap.size w w' := by
  have HR := hide hR
  have HR' := hide hR'
  clear hR hR'
  go_enter Try.func13, Try.ntmps13
  go_wp2_with fail
  refine (eqGrantS_c _ _ _ _ _ _ _ l hl hn _ (HR.out.below (below_alloc0 (below_alloc0 (Below.refl _ _) _) _)) (HR'.out.below (below_alloc0 (below_alloc0 (Below.refl _ _) _) _))).mono ?_
  rintro e w1 ⟨rfl, hb1⟩
  have V0 := live hb1 w.heap.size (by first | omega | (simp <;> omega))
  have V1 := live hb1 (w.heap.size + 1) (by first | omega | (simp <;> omega))
  have B1 : Below w.heap.size w w1 := below_via0 (below_alloc0 (below_alloc0 (Below.refl _ _) _) _) hb1
  go_wp2_with fail
  go_ret
  exact ⟨rfl, B1⟩
set_option maxHeartbeats 2000000 in
theorem fnExactListValid_walk {w : World} (m : Int) (hm : (Lit.int .i64 m).wf = true) (A : Option Addr) (n c : Nat) (l : List Grant) (hA : InsGrant w A n c l) (k : Int) (hk : (Lit.int .i64 k).wf = true) :
    Calls Try.prog 4 #[.agg #[.int .i64 m, .slice A n c, .int .i64 k]] w fun e w' => e = .returned (.bool true) ∧ Below w.heap.size w w' := by
  clear hm hk
  obtain ⟨hIn, hm, hc⟩ := hA
  have b0 : Below w.heap.size w (w.alloc (.cells #[.int .i64 m, .slice A n c, .int .i64 k] 31)) := below_alloc0 (Below.refl _ _) _
  by_cases h : (n : Int) ≤ 1048576
  · have g1 : 0 ≤ 1048576 - (n : Int) := by omega
    have hn : n ≤ 1048576 := by omega
    have hl := hide hIn.1
    have HI := hide hIn
    have hb0 := hide b0
    clear hIn b0 hm hc
    go_enter Try.func4, Try.ntmps4
    go_wp2_with fail
    refine (szList_yes _ _ _ _ _ _ h (by omega) _).mono ?_
    rintro e w1 ⟨rfl, hb1⟩
    have L1 := live hb1 w.heap.size (by simp)
    have B1 := below_via0 hb0.out hb1
    go_wp2_with fail
    refine (toList_c _ _ _ _ _ l _ (HI.out.below B1) hn).mono ?_
    rintro e w2 ⟨g2, rfl, hg2, hR2, hb2⟩
    have L2 := live hb2 w.heap.size L1.1
    have B2 := below_via0 B1 hb2
    go_wp2_with fail
    refine (lvSpec_c _ _ _ _ _ l hn _ ⟨hl.out, fun _ => ⟨_, _, rfl, hR2⟩⟩).mono ?_
    rintro e w3 ⟨rfl, hb3⟩
    have L3 := live hb3 w.heap.size L2.1
    have B3 := below_via0 B2 hb3
    clear hR2 hg2
    go_wp2_with fail
    refine (toList_c _ _ _ _ _ l _ (HI.out.below B3) hn).mono ?_
    rintro e w4 ⟨g4, rfl, hg4, hR4, hb4⟩
    have L4 := live hb4 w.heap.size L3.1
    have B4 := below_via0 B3 hb4
    have HR4 := hide hR4
    clear hR4
    go_wp2_with fail
    have hR4 := HR4.out.below (below_alloc0 (Below.refl _ _) (.cells #[.int .i64 m, .slice (some ⟨g4, 0, none⟩) n n, .int .i64 k] 24))
    refine (lvImpl_c _ _ _ _ _ l hn (Nat.le_refl _) (by unfold maxLen; omega) _ ⟨hl.out, fun _ => ⟨_, _, rfl, hR4⟩⟩).mono ?_
    rintro e w5 ⟨rfl, hb5⟩
    have L5 := live hb5 w.heap.size (by simp; exact L4.2.1)
    have M5 := live hb5 w4.heap.size (by simp)
    have B5 := below_via0 (below_alloc0 B4 _) hb5
    have HR5 := hide (hR4.below hb5)
    have b5 := HR5.out.1
    clear hR4 hg4
    clear g1 h
    go_wp2_with fail
    go_region_with (first | (go_at_call 18; refine (toList_c _ _ _ _ _ l w5.drew (HI.out.below B5.drew) hn).mono ?_; rintro e w6 ⟨g6, rfl, hg6, hR6, hb6⟩; have L6 := live hb6 w.heap.size L5.1; have M6 := live hb6 w4.heap.size M5.1; have B6 := below_via0 B5.drew hb6; have HR6 := hide (And.intro hR6 ((show RdGrant w5.drew g4 0 l from HR5.out).below hb6)); clear hR6 hg6) | (go_at_call 13; refine (eqList_c _ _ _ _ _ _ _ _ _ l hl.out hn _ HR6.out.2 HR6.out.1).mono ?_; rintro e w7 ⟨rfl, hb7⟩; have B7 := below_via0 B6 hb7))
    all_goals
      go_wp2_with fail
      go_ret
      exact ⟨rfl, B7⟩
  · go_enter Try.func4, Try.ntmps4
    go_wp2_with fail
    refine (szList_no _ _ _ _ _ _ (by omega) (by omega) hm (by omega) _).mono ?_
    rintro e w1 ⟨rfl, hb1⟩
    have B1 := below_via0 b0 hb1
    go_wp2
    go_ret
    exact ⟨rfl, B1⟩
open Go.ChangeShapes Go.WideShapes Go.Deep in
theorem open_recsF47 {H : Type} {enc : TypeId × Value → H} {w : World} {base : Nat} {spare : Nat → Bool} {held : Bool} {fuel : Nat} {v : Value} {y : DataW H × List MemPlace}
    (h : DataW.trod enc Try.prog w base spare held fuel 29 [v] = some y) : ∃ (a : Option Addr) (len cap : Nat) (l : List Grant), v = .slice a len cap ∧ InsGrant w a len cap l := by
  have hs : ∃ (a : Option Addr) (len cap : Nat), v = .slice a len cap := by
    rcases open_slice_fields Try.underlying29 Try.underlying47 (by kernel_rfl) (by kernel_rfl) h with ⟨hcs, _⟩ | ⟨x, l, c, m, hcs, _⟩
    · simp at hcs; exact ⟨_, _, _, hcs⟩
    · simp at hcs; exact ⟨_, _, _, hcs⟩
  obtain ⟨a, len, cap, rfl⟩ := hs
  obtain ⟨l, hl⟩ := open_recs47 (d := y.1) (p := y.2) ⟨fuel, by simpa [Value.cells] using h⟩
  exact ⟨a, len, cap, l, rfl, hl⟩
end Go.Proofs.Ytpifnfhgaemdmaa
