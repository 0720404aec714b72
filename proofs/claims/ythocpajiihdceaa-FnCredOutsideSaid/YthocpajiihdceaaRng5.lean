/-
  CredOutside, the exact laws' walks, and how a slice of ranges comes in. No condition.
-/
import Derived.Test.YthocpajiihdceaaProg
import Derived.Test.YthocpajiihdceaaRng4
namespace Go.Proofs.Ythocpajiihdceaa
open Go.RowKit
set_option linter.unusedSimpArgs false
set_option linter.unusedVariables false

/-- How a slice of ranges came in, whole. -/
def InRs (w : World) (A : Option Addr) (n c : Nat) (l : List Rng) : Prop := InR w A n l ∧ n ≤ maxLen ∧ n ≤ c
open Go.ChangeShapes Go.WideShapes Go.Deep in
theorem open_recs53 {H : Type} {enc : TypeId × Value → H} {w : World} {base : Nat} {spare : Nat → Bool} {held : Bool} {a : Option Addr} {len cap : Nat} {d : DataW H} {p : List MemPlace}
    (h : DataW.Trod enc Try.prog w base spare held 22 (.slice a len cap) d p) : ∃ l, InRs w a len cap l := by
  obtain ⟨h1, h2, h3⟩ := open_recs Try.underlying22 Try.underlying53 (by kernel_rfl) (by kernel_rfl) (by simp) h
  rcases Nat.eq_zero_or_pos len with h0 | h0
  · subst h0
    exact ⟨[], ⟨rfl, fun h => absurd h (by omega)⟩, by omega, h1⟩
  · obtain ⟨b, off, rfl, hb, hi⟩ := h3 h0
    obtain ⟨l, hl, hq⟩ := choose_list (Q := fun k (t : Rng) => w.cell? ⟨b, off + k * 3, none⟩ = some (.int .i64 t.i) ∧ w.cell? ⟨b, off + k * 3 + 1, none⟩ = some (.int .i64 t.o) ∧ w.cell? ⟨b, off + k * 3 + 2, none⟩ = some (.int .i64 t.m)) len (fun i hil => by
      obtain ⟨n, hn⟩ := hi i hil
      obtain ⟨v0, y0, c0, t0⟩ := hn 0 _ rfl
      obtain ⟨v1, y1, c1, t1⟩ := hn 1 _ rfl
      obtain ⟨v2, y2, c2, t2⟩ := hn 2 _ rfl
      obtain ⟨a0, e0, _, _⟩ := DataW.trod_int Try.underlying3 t0
      obtain ⟨a1, e1, _, _⟩ := DataW.trod_int Try.underlying3 t1
      obtain ⟨a2, e2, _, _⟩ := DataW.trod_int Try.underlying3 t2
      simp only [List.cons.injEq, and_true] at e0 e1 e2
      subst e0 e1 e2
      exact ⟨⟨a0, a1, a2⟩, c0, c1, c2⟩)
    exact ⟨l, ⟨hl, fun _ => ⟨b, off, rfl, hb, hq⟩⟩, by omega, h1⟩

set_option maxHeartbeats 1000000 in
theorem fnExactRangesValid_walk {w : World} (A : Option Addr) (n c : Nat) (l : List Rng) (hA : InRs w A n c l)  :
    Calls Try.prog 3 #[.slice A n c] w fun e w' => e = .returned (.bool true) ∧ Below w.heap.size w w' := by
  obtain ⟨hIn, hm, hc⟩ := hA
  by_cases h : (n : Int) ≤ 1048576
  · have g1 : 0 ≤ 1048576 - (n : Int) := by omega
    have hn : n ≤ 1048576 := by omega
    have hl := hide hIn.1
    have HI := hide hIn
    clear hIn
    go_enter Try.func3, Try.ntmps3
    go_wp2_with fail
    refine (sz_yes _ _ _ _ h (by omega) _).mono ?_
    rintro e w' ⟨rfl, rfl⟩
    go_wp2_with fail
    refine (toS_c _ _ _ l _ HI.out hn).mono ?_
    rintro e w1 ⟨b1, rfl, hg1, hR1, hb1⟩
    go_wp2_with fail
    refine (specR_c _ _ _ _ l hl.out hn _ hR1).mono ?_
    rintro e w2 ⟨rfl, hb2⟩
    have hB2 := below_via0 hb1 hb2
    have HI2 : Hid (InR w2 A n l) := ⟨hl.out, fun h0 => by
      obtain ⟨b, off, hA, hR⟩ := HI.out.2 h0
      exact ⟨b, off, hA, hR.below hB2⟩⟩
    go_wp2_with fail
    refine (toS_c _ _ _ l _ HI2.out hn).mono ?_
    rintro e w3 ⟨b3, rfl, hg3, hR3, hb3⟩
    have hB3 := below_via0 hB2 hb3
    go_wp2_with fail
    refine (implR_c _ _ _ _ l hl.out hn (Nat.le_refl _) _ hR3).mono ?_
    rintro e w4 ⟨rfl, hb4⟩
    have hB4 := below_via0 hB3 hb4
    have HI4 : Hid (InR w4 A n l) := ⟨hl.out, fun h0 => by
      obtain ⟨b, off, hA, hR⟩ := HI.out.2 h0
      exact ⟨b, off, hA, hR.below hB4⟩⟩
    go_wp2_with fail
    refine (toS_c _ _ _ l _ HI4.out hn).mono ?_
    rintro e w5 ⟨b5, rfl, hg5, hR5, hb5⟩
    have hB5 := below_via0 hB4 hb5
    have hR3' := (hR3.below hb4).below hb5
    go_wp2_with fail
    refine (eqS_c _ _ _ _ _ _ _ l hl.out hn _ hR3' hR5).mono ?_
    rintro e w6 ⟨rfl, hb6⟩
    have hB6 := below_via0 hB5 hb6
    go_wp2
    go_ret
    exact ⟨rfl, hB6⟩
  · go_enter Try.func3, Try.ntmps3
    go_wp2_with fail
    refine (sz_no _ _ _ _ (by omega) (by omega) hm (by omega) _).mono ?_
    rintro e w' ⟨rfl, rfl⟩
    go_wp2
    go_ret
    exact ⟨rfl, Below.refl _ _⟩

set_option maxHeartbeats 1000000 in
theorem fnExactUserOutside_walk {w : World} (A : Option Addr) (n c : Nat) (l : List Rng) (hA : InRs w A n c l) (u : Int) (hu : (Lit.int .i64 u).wf = true) :
    Calls Try.prog 6 #[.slice A n c, .int .i64 u] w fun e w' => e = .returned (.bool true) ∧ Below w.heap.size w w' := by
  obtain ⟨hIn, hm, hc⟩ := hA
  by_cases h : (n : Int) ≤ 1048576
  · have g1 : 0 ≤ 1048576 - (n : Int) := by omega
    have hn : n ≤ 1048576 := by omega
    have hl := hide hIn.1
    have HI := hide hIn
    clear hIn
    go_enter Try.func6, Try.ntmps6
    go_wp2_with fail
    refine (sz_yes _ _ _ _ h (by omega) _).mono ?_
    rintro e w' ⟨rfl, rfl⟩
    go_wp2_with fail
    refine (toS_c _ _ _ l _ HI.out hn).mono ?_
    rintro e w1 ⟨b1, rfl, hg1, hR1, hb1⟩
    go_wp2_with fail
    refine (outSpec_c _ _ _ _ l u hl.out hn _ hR1).mono ?_
    rintro e w2 ⟨rfl, hb2⟩
    have hB2 := below_via0 hb1 hb2
    have HI2 : Hid (InR w2 A n l) := ⟨hl.out, fun h0 => by
      obtain ⟨b, off, hA, hR⟩ := HI.out.2 h0
      exact ⟨b, off, hA, hR.below hB2⟩⟩
    go_wp2_with fail
    refine (toS_c _ _ _ l _ HI2.out hn).mono ?_
    rintro e w3 ⟨b3, rfl, hg3, hR3, hb3⟩
    have hB3 := below_via0 hB2 hb3
    go_wp2_with fail
    refine (outImpl_c _ _ _ _ l u hl.out hn (Nat.le_refl _) _ hR3).mono ?_
    rintro e w4 ⟨rfl, hb4⟩
    have hB4 := below_via0 hB3 hb4
    have HI4 : Hid (InR w4 A n l) := ⟨hl.out, fun h0 => by
      obtain ⟨b, off, hA, hR⟩ := HI.out.2 h0
      exact ⟨b, off, hA, hR.below hB4⟩⟩
    go_wp2_with fail
    refine (toS_c _ _ _ l _ HI4.out hn).mono ?_
    rintro e w5 ⟨b5, rfl, hg5, hR5, hb5⟩
    have hB5 := below_via0 hB4 hb5
    have hR3' := (hR3.below hb4).below hb5
    go_wp2_with fail
    refine (eqS_c _ _ _ _ _ _ _ l hl.out hn _ hR3' hR5).mono ?_
    rintro e w6 ⟨rfl, hb6⟩
    have hB6 := below_via0 hB5 hb6
    go_wp2
    go_ret
    exact ⟨rfl, hB6⟩
  · go_enter Try.func6, Try.ntmps6
    go_wp2_with fail
    refine (sz_no _ _ _ _ (by omega) (by omega) hm (by omega) _).mono ?_
    rintro e w' ⟨rfl, rfl⟩
    go_wp2
    go_ret
    exact ⟨rfl, Below.refl _ _⟩

set_option maxHeartbeats 1000000 in
theorem fnExactUserInside_walk {w : World} (A : Option Addr) (n c : Nat) (l : List Rng) (hA : InRs w A n c l) (u : Int) (hu : (Lit.int .i64 u).wf = true) :
    Calls Try.prog 5 #[.slice A n c, .int .i64 u] w fun e w' => e = .returned (.bool true) ∧ Below w.heap.size w w' := by
  obtain ⟨hIn, hm, hc⟩ := hA
  by_cases h : (n : Int) ≤ 1048576
  · have g1 : 0 ≤ 1048576 - (n : Int) := by omega
    have hn : n ≤ 1048576 := by omega
    have hl := hide hIn.1
    have HI := hide hIn
    clear hIn
    go_enter Try.func5, Try.ntmps5
    go_wp2_with fail
    refine (sz_yes _ _ _ _ h (by omega) _).mono ?_
    rintro e w' ⟨rfl, rfl⟩
    go_wp2_with fail
    refine (toS_c _ _ _ l _ HI.out hn).mono ?_
    rintro e w1 ⟨b1, rfl, hg1, hR1, hb1⟩
    go_wp2_with fail
    refine (inSpec_c _ _ _ _ l u hl.out hn _ hR1).mono ?_
    rintro e w2 ⟨rfl, hb2⟩
    have hB2 := below_via0 hb1 hb2
    have HI2 : Hid (InR w2 A n l) := ⟨hl.out, fun h0 => by
      obtain ⟨b, off, hA, hR⟩ := HI.out.2 h0
      exact ⟨b, off, hA, hR.below hB2⟩⟩
    go_wp2_with fail
    refine (toS_c _ _ _ l _ HI2.out hn).mono ?_
    rintro e w3 ⟨b3, rfl, hg3, hR3, hb3⟩
    have hB3 := below_via0 hB2 hb3
    go_wp2_with fail
    refine (inImpl_c _ _ _ _ l u hl.out hn (Nat.le_refl _) _ hR3).mono ?_
    rintro e w4 ⟨rfl, hb4⟩
    have hB4 := below_via0 hB3 hb4
    have HI4 : Hid (InR w4 A n l) := ⟨hl.out, fun h0 => by
      obtain ⟨b, off, hA, hR⟩ := HI.out.2 h0
      exact ⟨b, off, hA, hR.below hB4⟩⟩
    go_wp2_with fail
    refine (toS_c _ _ _ l _ HI4.out hn).mono ?_
    rintro e w5 ⟨b5, rfl, hg5, hR5, hb5⟩
    have hB5 := below_via0 hB4 hb5
    have hR3' := (hR3.below hb4).below hb5
    go_wp2_with fail
    refine (eqS_c _ _ _ _ _ _ _ l hl.out hn _ hR3' hR5).mono ?_
    rintro e w6 ⟨rfl, hb6⟩
    have hB6 := below_via0 hB5 hb6
    go_wp2
    go_ret
    exact ⟨rfl, hB6⟩
  · go_enter Try.func5, Try.ntmps5
    go_wp2_with fail
    refine (sz_no _ _ _ _ (by omega) (by omega) hm (by omega) _).mono ?_
    rintro e w' ⟨rfl, rfl⟩
    go_wp2
    go_ret
    exact ⟨rfl, Below.refl _ _⟩
end Go.Proofs.Ythocpajiihdceaa
