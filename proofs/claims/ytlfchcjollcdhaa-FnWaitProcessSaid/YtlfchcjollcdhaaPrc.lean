/-
  A slice of Pcs: how it lies in memory, its copy (toProcessS), the equality of two (eqProcessS), how one comes in. No condition.
-/
import Derived.Test.YtlfchcjollcdhaaProg
import Derived.Test.YtlfchcjollcdhaaCv
import Derived.Test.YtlfchcjollcdhaaFlowS
namespace Go.Proofs.Ytlfchcjollcdhaa
open Go.RowKit
set_option linter.unusedSimpArgs false
set_option linter.unusedVariables false

structure Pcs where
  number : Int
  parent : Int
  real : Int
  acts : Int
  saved : Int
  groups : Int
  ended : Bool
  result : Int

def RdProcess (w : World) (b off : Nat) (l : List Pcs) : Prop :=
  b < w.heap.size ∧ ∀ (k : Nat) (t : Pcs), l[k]? = some t → w.cell? ⟨b, off + k * 8, none⟩ = some (.int .i64 t.number) ∧ w.cell? ⟨b, off + k * 8 + 1, none⟩ = some (.int .i64 t.parent) ∧ w.cell? ⟨b, off + k * 8 + 2, none⟩ = some (.int .i64 t.real) ∧ w.cell? ⟨b, off + k * 8 + 3, none⟩ = some (.int .i64 t.acts) ∧ w.cell? ⟨b, off + k * 8 + 4, none⟩ = some (.int .i64 t.saved) ∧ w.cell? ⟨b, off + k * 8 + 5, none⟩ = some (.int .i64 t.groups) ∧ w.cell? ⟨b, off + k * 8 + 6, none⟩ = some (.bool t.ended) ∧ w.cell? ⟨b, off + k * 8 + 7, none⟩ = some (.int .i64 t.result)
theorem RdProcess.below {w w' : World} {b off : Nat} {l : List Pcs} (h : RdProcess w b off l) (hb : Below w.heap.size w w') : RdProcess w' b off l := by
  refine ⟨Nat.lt_of_lt_of_le h.1 hb.size, fun k t ht => ?_⟩
  obtain ⟨h0, h1, h2, h3, h4, h5, h6, h7⟩ := h.2 k t ht
  exact ⟨(hb.cell (p := ⟨b, _, none⟩) h.1).trans h0, (hb.cell (p := ⟨b, _, none⟩) h.1).trans h1, (hb.cell (p := ⟨b, _, none⟩) h.1).trans h2, (hb.cell (p := ⟨b, _, none⟩) h.1).trans h3, (hb.cell (p := ⟨b, _, none⟩) h.1).trans h4, (hb.cell (p := ⟨b, _, none⟩) h.1).trans h5, (hb.cell (p := ⟨b, _, none⟩) h.1).trans h6, (hb.cell (p := ⟨b, _, none⟩) h.1).trans h7⟩
theorem szProcess_yes (A : Option Addr) (n c : Nat) (l : Int) (h : (n : Int) ≤ l) (hl : l ≤ 1048576) (w : World) :
    Calls Try.prog 11 #[.slice A n c, .int .i64 l] w fun e w' => e = .returned (.int .i64 (l - n)) ∧ w = w' := by
  have h1 : 0 ≤ l - n := by omega
  go_enter Try.func11, Try.ntmps11
  go_wp2
  go_ret
  exact ⟨rfl, rfl⟩
theorem szProcess_no (A : Option Addr) (n c : Nat) (l : Int) (h : l < (n : Int)) (h0 : 0 ≤ l) (hn : n ≤ maxLen) (hl : l ≤ 1048576) (w : World) :
    Calls Try.prog 11 #[.slice A n c, .int .i64 l] w fun e w' => e = .returned (.int .i64 (-1)) ∧ w = w' := by
  unfold maxLen at hn
  have h1 : l - n < 0 := by omega
  go_enter Try.func11, Try.ntmps11
  go_wp2
  go_ret
  exact ⟨rfl, rfl⟩
set_option maxHeartbeats 1000000 in
theorem toProcess_c (number : Int) (parent : Int) (real : Int) (acts : Int) (saved : Int) (groups : Int) (ended : Bool) (result : Int) (w : World) :
    Calls Try.prog 33 #[.agg #[.int .i64 number, .int .i64 parent, .int .i64 real, .int .i64 acts, .int .i64 saved, .int .i64 groups, .bool ended, .int .i64 result]] w fun e w' => e = .returned (.agg #[.int .i64 number, .int .i64 parent, .int .i64 real, .int .i64 acts, .int .i64 saved, .int .i64 groups, .bool ended, .int .i64 result]) ∧ Below w.heap.size w w' := by
  go_enter Try.func33, Try.ntmps33
  go_wp2_with fail
  have B0 : Below w.heap.size w (((w.alloc (.cells #[.int .i64 number, .int .i64 parent, .int .i64 real, .int .i64 acts, .int .i64 saved, .int .i64 groups, .bool ended, .int .i64 result] 53)).alloc (.cells #[.int .i64 0, .int .i64 0, .int .i64 0, .int .i64 0, .int .i64 0, .int .i64 0, .bool false, .int .i64 0] 39)).alloc (.cells #[.int .i64 number, .int .i64 parent, .int .i64 0, .int .i64 0, .int .i64 0, .int .i64 0, .bool false, .int .i64 0] 39)) :=
    below_alloc0 (below_alloc0 (below_alloc0 (Below.refl _ _) _) _) _
  refine (toCred_c _ _ _ _ _).mono ?_
  rintro e w1 ⟨rfl, hb1⟩
  have V0 := live hb1 w.heap.size (by simp; omega)
  have x6 : w1.cell? ⟨w.heap.size, 6, none⟩ = some (.bool ended) := by simp [go_sem, V0]
  have x7 : w1.cell? ⟨w.heap.size, 7, none⟩ = some (.int .i64 result) := by simp [go_sem, V0]
  have hx := V0.1
  clear V0
  have R1 : Row w1 (w.heap.size + 1) 8 noCell := by
    have := ((Row.madeN (w.alloc (.cells #[.int .i64 number, .int .i64 parent, .int .i64 real, .int .i64 acts, .int .i64 saved, .int .i64 groups, .bool ended, .int .i64 result] 53)) 39 #[.int .i64 0, .int .i64 0, .int .i64 0, .int .i64 0, .int .i64 0, .int .i64 0, .bool false, .int .i64 0] 8 rfl).alloc (.cells #[.int .i64 number, .int .i64 parent, .int .i64 0, .int .i64 0, .int .i64 0, .int .i64 0, .bool false, .int .i64 0] 39)).below hb1 (by simp)
    simpa using this
  have R2 : Row w1 (w.heap.size + 1 + 1) 8 (rwl [.int .i64 number, .int .i64 parent, .int .i64 0, .int .i64 0, .int .i64 0, .int .i64 0, .bool false, .int .i64 0]) := by
    have := (Row.madeL ((w.alloc (.cells #[.int .i64 number, .int .i64 parent, .int .i64 real, .int .i64 acts, .int .i64 saved, .int .i64 groups, .bool ended, .int .i64 result] 53)).alloc (.cells #[.int .i64 0, .int .i64 0, .int .i64 0, .int .i64 0, .int .i64 0, .int .i64 0, .bool false, .int .i64 0] 39)) 39 [.int .i64 number, .int .i64 parent, .int .i64 0, .int .i64 0, .int .i64 0, .int .i64 0, .bool false, .int .i64 0]).below hb1 (by simp)
    simpa using this
  obtain ⟨y0, g0⟩ := R1.some_ex (j := 0) (by omega)
  have f0 := R1.frozen 0
  have c0 := R2.cell (j := 0) rfl
  have d0 := R2.frozen 0
  obtain ⟨y1, g1⟩ := R1.some_ex (j := 1) (by omega)
  have f1 := R1.frozen 1
  have c1 := R2.cell (j := 1) rfl
  have d1 := R2.frozen 1
  obtain ⟨y2, g2⟩ := R1.some_ex (j := 2) (by omega)
  have f2 := R1.frozen 2
  have c2 := R2.cell (j := 2) rfl
  have d2 := R2.frozen 2
  obtain ⟨y3, g3⟩ := R1.some_ex (j := 3) (by omega)
  have f3 := R1.frozen 3
  have c3 := R2.cell (j := 3) rfl
  have d3 := R2.frozen 3
  obtain ⟨y4, g4⟩ := R1.some_ex (j := 4) (by omega)
  have f4 := R1.frozen 4
  have c4 := R2.cell (j := 4) rfl
  have d4 := R2.frozen 4
  obtain ⟨y5, g5⟩ := R1.some_ex (j := 5) (by omega)
  have f5 := R1.frozen 5
  have c5 := R2.cell (j := 5) rfl
  have d5 := R2.frozen 5
  obtain ⟨y6, g6⟩ := R1.some_ex (j := 6) (by omega)
  have f6 := R1.frozen 6
  have c6 := R2.cell (j := 6) rfl
  have d6 := R2.frozen 6
  obtain ⟨y7, g7⟩ := R1.some_ex (j := 7) (by omega)
  have f7 := R1.frozen 7
  have c7 := R2.cell (j := 7) rfl
  have d7 := R2.frozen 7
  have hr2 := R2.lt
  have hr1 := R1.lt
  have B1 := hide (below_via0 B0 hb1)
  have HR1 := hide R1
  clear B0 hb1 R1 R2
  go_wp2_with fail
  have B2 := B1.out
  have hK := rwl_set8 (x0 := .int .i64 number) (x1 := .int .i64 parent) (x2 := .int .i64 real) (x3 := .int .i64 acts) (x4 := .int .i64 saved) (x5 := .int .i64 groups) (x6 := .bool ended) (x7 := .int .i64 result) ((((((HR1.out.far (p := ⟨w.heap.size + 1 + 1, 2, none⟩) (by show w.heap.size + 1 ≠ w.heap.size + 1 + 1; omega) (.int .i64 real)).far (p := ⟨w.heap.size + 1 + 1, 3, none⟩) (by show w.heap.size + 1 ≠ w.heap.size + 1 + 1; omega) (.int .i64 acts)).far (p := ⟨w.heap.size + 1 + 1, 4, none⟩) (by show w.heap.size + 1 ≠ w.heap.size + 1 + 1; omega) (.int .i64 saved)).far (p := ⟨w.heap.size + 1 + 1, 5, none⟩) (by show w.heap.size + 1 ≠ w.heap.size + 1 + 1; omega) (.int .i64 groups)).far (p := ⟨w.heap.size + 1 + 1, 6, none⟩) (by show w.heap.size + 1 ≠ w.heap.size + 1 + 1; omega) (.bool ended)).far (p := ⟨w.heap.size + 1 + 1, 7, none⟩) (by show w.heap.size + 1 ≠ w.heap.size + 1 + 1; omega) (.int .i64 result))
  have hB := below_set8 (x0 := .int .i64 number) (x1 := .int .i64 parent) (x2 := .int .i64 real) (x3 := .int .i64 acts) (x4 := .int .i64 saved) (x5 := .int .i64 groups) (x6 := .bool ended) (x7 := .int .i64 result) ((((((B2.setCell (p := ⟨w.heap.size + 1 + 1, 2, none⟩) (by show w.heap.size ≤ w.heap.size + 1 + 1; omega) (.int .i64 real)).setCell (p := ⟨w.heap.size + 1 + 1, 3, none⟩) (by show w.heap.size ≤ w.heap.size + 1 + 1; omega) (.int .i64 acts)).setCell (p := ⟨w.heap.size + 1 + 1, 4, none⟩) (by show w.heap.size ≤ w.heap.size + 1 + 1; omega) (.int .i64 saved)).setCell (p := ⟨w.heap.size + 1 + 1, 5, none⟩) (by show w.heap.size ≤ w.heap.size + 1 + 1; omega) (.int .i64 groups)).setCell (p := ⟨w.heap.size + 1 + 1, 6, none⟩) (by show w.heap.size ≤ w.heap.size + 1 + 1; omega) (.bool ended)).setCell (p := ⟨w.heap.size + 1 + 1, 7, none⟩) (by show w.heap.size ≤ w.heap.size + 1 + 1; omega) (.int .i64 result)) (show w.heap.size ≤ w.heap.size + 1 by omega)
  generalize World.setCell (World.setCell (World.setCell (World.setCell (World.setCell (World.setCell (World.setCell (World.setCell _ _ _) _ _) _ _) _ _) _ _) _ _) _ _) _ _ = W9 at hK hB ⊢
  have k0 := hK.cell (j := 0) rfl
  have k1 := hK.cell (j := 1) rfl
  have k2 := hK.cell (j := 2) rfl
  have k3 := hK.cell (j := 3) rfl
  have k4 := hK.cell (j := 4) rfl
  have k5 := hK.cell (j := 5) rfl
  have k6 := hK.cell (j := 6) rfl
  have k7 := hK.cell (j := 7) rfl
  exact bodyPost_ret (v := .agg #[.int .i64 number, .int .i64 parent, .int .i64 real, .int .i64 acts, .int .i64 saved, .int .i64 groups, .bool ended, .int .i64 result]) (by simp [results, Try.results33, go_sem, k0, k1, k2, k3, k4, k5, k6, k7]) rfl ⟨rfl, hB⟩

theorem infoProcess : (Try.prog.info? 39).map (fun i => (i.zero, i.size, i.bytes)) = some (some (.agg #[.int .i64 0, .int .i64 0, .int .i64 0, .int .i64 0, .int .i64 0, .int .i64 0, .bool false, .int .i64 0]), 8, 64) := by kernel_rfl
def cellProcess (l : List Pcs) (j : Nat) : Option Value := (l[j / 8]?).map fun t => if j % 8 = 0 then .int .i64 t.number else if j % 8 = 1 then .int .i64 t.parent else if j % 8 = 2 then .int .i64 t.real else if j % 8 = 3 then .int .i64 t.acts else if j % 8 = 4 then .int .i64 t.saved else if j % 8 = 5 then .int .i64 t.groups else if j % 8 = 6 then .bool t.ended else .int .i64 t.result
def doneProcess (l : List Pcs) (k : Nat) (j : Nat) : Option Value := if j < k * 8 then cellProcess l j else none
theorem RdProcess_of_row {w : World} {g n : Nat} {l : List Pcs} (h : Row w g (n * 8) (doneProcess l n)) (hl : l.length = n) : RdProcess w g 0 l := by
  refine ⟨h.lt, fun k t ht => ?_⟩
  have hk : k < n := by rw [← hl]; exact (List.getElem?_eq_some_iff.1 ht).1
  refine ⟨h.cell ?_, h.cell ?_, h.cell ?_, h.cell ?_, h.cell ?_, h.cell ?_, h.cell ?_, h.cell ?_⟩
  · simp only [doneProcess, cellProcess]; rw [if_pos (by omega), show (0 + k * 8) / 8 = k by omega, ht]; simp
  · simp only [doneProcess, cellProcess]; rw [if_pos (by omega), show (0 + k * 8 + 1) / 8 = k by omega, ht]; simp [show (k * 8 + 1) % 8 = 1 by omega]
  · simp only [doneProcess, cellProcess]; rw [if_pos (by omega), show (0 + k * 8 + 2) / 8 = k by omega, ht]; simp [show (k * 8 + 2) % 8 = 2 by omega]
  · simp only [doneProcess, cellProcess]; rw [if_pos (by omega), show (0 + k * 8 + 3) / 8 = k by omega, ht]; simp [show (k * 8 + 3) % 8 = 3 by omega]
  · simp only [doneProcess, cellProcess]; rw [if_pos (by omega), show (0 + k * 8 + 4) / 8 = k by omega, ht]; simp [show (k * 8 + 4) % 8 = 4 by omega]
  · simp only [doneProcess, cellProcess]; rw [if_pos (by omega), show (0 + k * 8 + 5) / 8 = k by omega, ht]; simp [show (k * 8 + 5) % 8 = 5 by omega]
  · simp only [doneProcess, cellProcess]; rw [if_pos (by omega), show (0 + k * 8 + 6) / 8 = k by omega, ht]; simp [show (k * 8 + 6) % 8 = 6 by omega]
  · simp only [doneProcess, cellProcess]; rw [if_pos (by omega), show (0 + k * 8 + 7) / 8 = k by omega, ht]; simp [show (k * 8 + 7) % 8 = 7 by omega]
theorem row_nextProcess {w : World} {g n k : Nat} {l : List Pcs} {t : Pcs} (h : Row w g (n * 8) (doneProcess l k)) (hk : k < n) (ht : l[k]? = some t) :
    Row ((((((((w.setCell ⟨g, k * 8, none⟩ (.int .i64 t.number)).setCell ⟨g, k * 8 + 1, none⟩ (.int .i64 t.parent)).setCell ⟨g, k * 8 + 2, none⟩ (.int .i64 t.real)).setCell ⟨g, k * 8 + 3, none⟩ (.int .i64 t.acts)).setCell ⟨g, k * 8 + 4, none⟩ (.int .i64 t.saved)).setCell ⟨g, k * 8 + 5, none⟩ (.int .i64 t.groups)).setCell ⟨g, k * 8 + 6, none⟩ (.bool t.ended)).setCell ⟨g, k * 8 + 7, none⟩ (.int .i64 t.result)) g (n * 8) (doneProcess l (k + 1)) := by
  refine ((((((((h.set (k * 8) _).set (k * 8 + 1) _).set (k * 8 + 2) _).set (k * 8 + 3) _).set (k * 8 + 4) _).set (k * 8 + 5) _).set (k * 8 + 6) _).set (k * 8 + 7) _).mono fun j u hj => ?_
  simp only [doneProcess] at hj ⊢
  split at hj
  · rename_i hlt
    by_cases e7 : j = k * 8 + 7
    · rw [if_pos e7, if_pos (by omega)]
      subst e7
      rw [← hj, cellProcess, show (k * 8 + 7) / 8 = k by omega, ht]; simp [show (k * 8 + 7) % 8 = 7 by omega]
    rw [if_neg e7]
    by_cases e6 : j = k * 8 + 6
    · rw [if_pos e6, if_pos (by omega)]
      subst e6
      rw [← hj, cellProcess, show (k * 8 + 6) / 8 = k by omega, ht]; simp [show (k * 8 + 6) % 8 = 6 by omega]
    rw [if_neg e6]
    by_cases e5 : j = k * 8 + 5
    · rw [if_pos e5, if_pos (by omega)]
      subst e5
      rw [← hj, cellProcess, show (k * 8 + 5) / 8 = k by omega, ht]; simp [show (k * 8 + 5) % 8 = 5 by omega]
    rw [if_neg e5]
    by_cases e4 : j = k * 8 + 4
    · rw [if_pos e4, if_pos (by omega)]
      subst e4
      rw [← hj, cellProcess, show (k * 8 + 4) / 8 = k by omega, ht]; simp [show (k * 8 + 4) % 8 = 4 by omega]
    rw [if_neg e4]
    by_cases e3 : j = k * 8 + 3
    · rw [if_pos e3, if_pos (by omega)]
      subst e3
      rw [← hj, cellProcess, show (k * 8 + 3) / 8 = k by omega, ht]; simp [show (k * 8 + 3) % 8 = 3 by omega]
    rw [if_neg e3]
    by_cases e2 : j = k * 8 + 2
    · rw [if_pos e2, if_pos (by omega)]
      subst e2
      rw [← hj, cellProcess, show (k * 8 + 2) / 8 = k by omega, ht]; simp [show (k * 8 + 2) % 8 = 2 by omega]
    rw [if_neg e2]
    by_cases e1 : j = k * 8 + 1
    · rw [if_pos e1, if_pos (by omega)]
      subst e1
      rw [← hj, cellProcess, show (k * 8 + 1) / 8 = k by omega, ht]; simp [show (k * 8 + 1) % 8 = 1 by omega]
    rw [if_neg e1]
    by_cases e0 : j = k * 8
    · rw [if_pos e0, if_pos (by omega)]
      subst e0
      rw [← hj, cellProcess, show (k * 8) / 8 = k by omega, ht]; simp
    rw [if_neg e0]
    rw [if_pos (by omega)]; exact hj
  · cases hj

/-- What toProcessS gives: a slice of its own that reads as the list. -/
def MadeProcess (w : World) (n : Nat) (l : List Pcs) (e : Ending) (w' : World) : Prop :=
  ∃ g, e = .returned (.slice (some ⟨g, 0, none⟩) n n) ∧ w.heap.size ≤ g ∧ RdProcess w' g 0 l ∧ Below w.heap.size w w'
/-- How a slice came in. -/
def InProcess (w : World) (A : Option Addr) (n : Nat) (l : List Pcs) : Prop :=
  l.length = n ∧ (0 < n → ∃ b off, A = some ⟨b, off, none⟩ ∧ RdProcess w b off l)
theorem InProcess.below {w w' : World} {A : Option Addr} {n : Nat} {l : List Pcs} (h : InProcess w A n l) (hb : Below w.heap.size w w') : InProcess w' A n l :=
  ⟨h.1, fun h0 => by
    obtain ⟨b, off, hA, hR⟩ := h.2 h0
    exact ⟨b, off, hA, hR.below hb⟩⟩

set_option maxHeartbeats 1000000 in
theorem toProcessS_c (A : Option Addr) (n c : Nat) (l : List Pcs) (w : World) (hA : InProcess w A n l) (hn : n ≤ 1048576) :
    Calls Try.prog 13 #[.slice A n c] w (MadeProcess w n l) := by
  obtain ⟨i0, hi0, hz0, hz1, hz2⟩ := info_parts infoProcess
  have hmk := fun W => run_make_rowN (P := Try.prog) 25 39 i0 _ Try.underlying25 hi0 hz0 .i64 .i64 n n (Nat.le_refl _) (by rw [hz2]; omega) (by omega) W
  rw [hz1] at hmk
  have hA' := hide hA
  clear hA
  go_enter Try.func13, Try.ntmps13
  go_wp2_with fail
  clear hmk
  generalize hW : w.alloc (.cells (madeCells #[.int .i64 0, .int .i64 0, .int .i64 0, .int .i64 0, .int .i64 0, .int .i64 0, .bool false, .int .i64 0] (n * 8)) 39) = W
  have hr0 : Row W w.heap.size (n * 8) (doneProcess l 0) := by
    rw [← hW]
    have := Row.made w 39 (madeCells #[.int .i64 0, .int .i64 0, .int .i64 0, .int .i64 0, .int .i64 0, .int .i64 0, .bool false, .int .i64 0] (n * 8)) (doneProcess l 0) (fun j u hj => by simp [doneProcess] at hj)
    rwa [size_madeCells] at this
  have hb0 : Below w.heap.size w W := by rw [← hW]; exact below_alloc0 (Below.refl _ _) _
  clear hW
  go_loopw [4] (fun i wr => ∃ k : Nat, k ≤ n ∧ i = .int .i64 k ∧ Row wr w.heap.size (n * 8) (doneProcess l k) ∧ Below w.heap.size w wr) (fun i _ => n - (intOf i).toNat)
  case atStart => exact ⟨0, by omega, rfl, hr0, hb0⟩
  case round =>
    obtain ⟨k, hk, rfl, hrow, hbel⟩ := hrel
    by_cases hlt : k < n
    · obtain ⟨hl, hin⟩ := hA'.out
      obtain ⟨b, off, rfl, hR⟩ := hin (by omega)
      clear hin
      obtain ⟨t, ht⟩ : ∃ t, l[k]? = some t := ⟨_, List.getElem?_eq_getElem (by omega)⟩
      have HT := hide ht
      have hlb : b < wr.heap.size := Nat.lt_of_lt_of_le hR.1 hbel.size
      have c0 := (hR.below hbel).2 k t ht
      have HL := hide hl
      clear ht hl
      have g1 := hrow.lt
      obtain ⟨x0, gs0⟩ := hrow.some_ex (j := k * 8) (by omega)
      obtain ⟨x1, gs1⟩ := hrow.some_ex (j := k * 8 + 1) (by omega)
      obtain ⟨x2, gs2⟩ := hrow.some_ex (j := k * 8 + 2) (by omega)
      obtain ⟨x3, gs3⟩ := hrow.some_ex (j := k * 8 + 3) (by omega)
      obtain ⟨x4, gs4⟩ := hrow.some_ex (j := k * 8 + 4) (by omega)
      obtain ⟨x5, gs5⟩ := hrow.some_ex (j := k * 8 + 5) (by omega)
      obtain ⟨x6, gs6⟩ := hrow.some_ex (j := k * 8 + 6) (by omega)
      obtain ⟨x7, gs7⟩ := hrow.some_ex (j := k * 8 + 7) (by omega)
      have gf0 := hrow.frozen (k * 8)
      have gf1 := hrow.frozen (k * 8 + 1)
      have gf2 := hrow.frozen (k * 8 + 2)
      have gf3 := hrow.frozen (k * 8 + 3)
      have gf4 := hrow.frozen (k * 8 + 4)
      have gf5 := hrow.frozen (k * 8 + 5)
      have gf6 := hrow.frozen (k * 8 + 6)
      have gf7 := hrow.frozen (k * 8 + 7)
      go_wp2_with fail
      refine (toProcess_c _ _ _ _ _ _ _ _ _).mono ?_
      rintro e w1 ⟨rfl, hb1⟩
      have V1 := live hb1 w.heap.size (by omega)
      go_wp2_with fail
      refine ⟨⟨k + 1, by omega, by go_num, row_nextProcess (hrow.below hb1 g1) hlt HT.out, ((((((((hbel.trans (hb1.mono hbel.size)).setCell (p := ⟨w.heap.size, _, none⟩) (Nat.le_refl _) _).setCell (p := ⟨w.heap.size, _, none⟩) (Nat.le_refl _) _).setCell (p := ⟨w.heap.size, _, none⟩) (Nat.le_refl _) _).setCell (p := ⟨w.heap.size, _, none⟩) (Nat.le_refl _) _).setCell (p := ⟨w.heap.size, _, none⟩) (Nat.le_refl _) _).setCell (p := ⟨w.heap.size, _, none⟩) (Nat.le_refl _) _).setCell (p := ⟨w.heap.size, _, none⟩) (Nat.le_refl _) _).setCell (p := ⟨w.heap.size, _, none⟩) (Nat.le_refl _) _⟩, by simp [intOf]; omega⟩
    · obtain rfl : k = n := by omega
      go_wp2
      go_ret
      exact ⟨w.heap.size, rfl, Nat.le_refl _, RdProcess_of_row hrow hA'.out.1, hbel⟩

set_option maxHeartbeats 1000000 in
theorem eqProcess_c (number : Int) (parent : Int) (real : Int) (acts : Int) (saved : Int) (groups : Int) (ended : Bool) (result : Int) (w : World) :
    Calls Try.prog 37 #[.agg #[.int .i64 number, .int .i64 parent, .int .i64 real, .int .i64 acts, .int .i64 saved, .int .i64 groups, .bool ended, .int .i64 result], .agg #[.int .i64 number, .int .i64 parent, .int .i64 real, .int .i64 acts, .int .i64 saved, .int .i64 groups, .bool ended, .int .i64 result]] w fun e w' => e = .returned (.bool true) ∧ Below w.heap.size w w' := by
  go_enter Try.func37, Try.ntmps37
  go_wp2_with fail
  have B0 : Below w.heap.size w ((w.alloc (.cells #[.int .i64 number, .int .i64 parent, .int .i64 real, .int .i64 acts, .int .i64 saved, .int .i64 groups, .bool ended, .int .i64 result] 39)).alloc (.cells #[.int .i64 number, .int .i64 parent, .int .i64 real, .int .i64 acts, .int .i64 saved, .int .i64 groups, .bool ended, .int .i64 result] 39)) := below_alloc0 (below_alloc0 (Below.refl _ _) _) _
  refine (eqCred_c _ _ _ _ _).mono ?_
  rintro e w1 ⟨rfl, hb1⟩
  have V0 := live hb1 w.heap.size (by simp; omega)
  have V1 := live hb1 (w.heap.size + 1) (by simp)
  have B1 := hide (below_via0 B0 hb1)
  clear B0 hb1
  go_wp2_with fail
  go_ret
  exact ⟨rfl, B1.out⟩
set_option maxHeartbeats 1000000 in
/-- Two slices that read as one list are equal. -/
theorem eqProcessS_c (b off c b' off' c' n : Nat) (l : List Pcs) (hl : l.length = n) (hn : n ≤ 1048576) (w : World) (hR : RdProcess w b off l) (hR' : RdProcess w b' off' l) :
    Calls Try.prog 15 #[.slice (some ⟨b, off, none⟩) n c, .slice (some ⟨b', off', none⟩) n c'] w fun e w' => e = .returned (.bool true) ∧ Below w.heap.size w w' := by
  go_enter Try.func15, Try.ntmps15
  go_wp2_with fail
  go_loopw [5] (fun i wr => ∃ k : Nat, k ≤ n ∧ i = .int .i64 k ∧ Below w.heap.size w wr) (fun i _ => n - (intOf i).toNat)
  case atStart => exact ⟨0, by omega, rfl, Below.refl _ _⟩
  case round =>
    obtain ⟨k, hk, rfl, hbel⟩ := hrel
    by_cases hlt : k < n
    · obtain ⟨t, ht⟩ : ∃ t, l[k]? = some t := ⟨_, List.getElem?_eq_getElem (by omega)⟩
      have c0 := (hR.below hbel).2 k t ht
      have c1 := (hR'.below hbel).2 k t ht
      clear ht
      have lb : b < wr.heap.size := Nat.lt_of_lt_of_le hR.1 hbel.size
      have lb' : b' < wr.heap.size := Nat.lt_of_lt_of_le hR'.1 hbel.size
      go_wp2_with fail
      go_region_held3 (fun w' => Below w.heap.size w w' ∧ b < w'.heap.size ∧ b' < w'.heap.size ∧ w'.cell? ⟨b, off + k * 8, none⟩ = some (.int .i64 t.number) ∧ w'.cell? ⟨b, off + k * 8 + 1, none⟩ = some (.int .i64 t.parent) ∧ w'.cell? ⟨b, off + k * 8 + 2, none⟩ = some (.int .i64 t.real) ∧ w'.cell? ⟨b, off + k * 8 + 3, none⟩ = some (.int .i64 t.acts) ∧ w'.cell? ⟨b, off + k * 8 + 4, none⟩ = some (.int .i64 t.saved) ∧ w'.cell? ⟨b, off + k * 8 + 5, none⟩ = some (.int .i64 t.groups) ∧ w'.cell? ⟨b, off + k * 8 + 6, none⟩ = some (.bool t.ended) ∧ w'.cell? ⟨b, off + k * 8 + 7, none⟩ = some (.int .i64 t.result) ∧ w'.cell? ⟨b', off' + k * 8, none⟩ = some (.int .i64 t.number) ∧ w'.cell? ⟨b', off' + k * 8 + 1, none⟩ = some (.int .i64 t.parent) ∧ w'.cell? ⟨b', off' + k * 8 + 2, none⟩ = some (.int .i64 t.real) ∧ w'.cell? ⟨b', off' + k * 8 + 3, none⟩ = some (.int .i64 t.acts) ∧ w'.cell? ⟨b', off' + k * 8 + 4, none⟩ = some (.int .i64 t.saved) ∧ w'.cell? ⟨b', off' + k * 8 + 5, none⟩ = some (.int .i64 t.groups) ∧ w'.cell? ⟨b', off' + k * 8 + 6, none⟩ = some (.bool t.ended) ∧ w'.cell? ⟨b', off' + k * 8 + 7, none⟩ = some (.int .i64 t.result))
        (first | (have L1 := live hb1 b (by omega); have L2 := live hb1 b' (by omega); refine ⟨(by repeat' (first | exact Below.refl _ _ | assumption | exact And.left (by assumption) | omega | (simp; done) | (simp; omega) | (simp at *; omega) | (refine Below.setCell ?_ ?_ _) | (refine below_alloc0 ?_ _) | (refine Below.drew ?_) | (refine below_drewN ?_ _) | (refine below_via0 ?_ (by assumption)) | (refine Below.alloc ?_ ?_ _) | (refine below_via ?_ (by assumption) ?_))), ?_⟩; simp [*]; done) | (refine ⟨(by repeat' (first | exact Below.refl _ _ | assumption | exact And.left (by assumption) | omega | (simp; done) | (simp; omega) | (simp at *; omega) | (refine Below.setCell ?_ ?_ _) | (refine below_alloc0 ?_ _) | (refine Below.drew ?_) | (refine below_drewN ?_ _) | (refine below_via0 ?_ (by assumption)) | (refine Below.alloc ?_ ?_ _) | (refine below_via ?_ (by assumption) ?_))), ?_⟩; simp [go_sem]; done) | (refine ⟨(by repeat' (first | exact Below.refl _ _ | assumption | exact And.left (by assumption) | omega | (simp; done) | (simp; omega) | (simp at *; omega) | (refine Below.setCell ?_ ?_ _) | (refine below_alloc0 ?_ _) | (refine Below.drew ?_) | (refine below_drewN ?_ _) | (refine below_via0 ?_ (by assumption)) | (refine Below.alloc ?_ ?_ _) | (refine below_via ?_ (by assumption) ?_))), ?_⟩; simp [go_sem, *]; done) | assumption | go_keep)
        (first | (go_at_call 37; refine (eqProcess_c _ _ _ _ _ _ _ _ _).mono ?_; rintro e w1 ⟨rfl, hb1⟩))
      have bel1 : Below w.heap.size w w1 := And.left (by assumption)
      go_wp2
      exact ⟨⟨k + 1, by omega, by go_num, bel1⟩, by simp [intOf]; omega⟩
    · obtain rfl : k = n := by omega
      go_wp2
      go_ret
      exact ⟨rfl, (by repeat' (first | exact Below.refl _ _ | assumption | exact And.left (by assumption) | omega | (simp; done) | (simp; omega) | (simp at *; omega) | (refine Below.setCell ?_ ?_ _) | (refine below_alloc0 ?_ _) | (refine Below.drew ?_) | (refine below_drewN ?_ _) | (refine below_via0 ?_ (by assumption)) | (refine Below.alloc ?_ ?_ _) | (refine below_via ?_ (by assumption) ?_)))⟩

/-- How a slice came in, whole. -/
def InsProcess (w : World) (A : Option Addr) (n c : Nat) (l : List Pcs) : Prop := InProcess w A n l ∧ n ≤ maxLen ∧ n ≤ c
open Go.ChangeShapes Go.WideShapes Go.Deep in
theorem open_rows {H : Type} {enc : TypeId × Value → H} {P : Program} {w : World} {base : Nat} {spare : Nat → Bool} {held : Bool} {t e : TypeId} {K : Nat} {a : Option Addr} {len cap : Nat} {d : DataW H} {p : List MemPlace} (ht : P.underlying t = some (.slice e)) (hC : P.cellsOf e = K) (hK : 0 < K)
    (h : DataW.Trod enc P w base spare held t (.slice a len cap) d p) :
    len ≤ cap ∧ cap ≤ maxLen ∧ (0 < len → ∃ b off, a = some ⟨b, off, none⟩ ∧ b < w.heap.size ∧ ∀ i, i < len → ∃ (n : Nat) (cs : List Value) (y : DataW H × List MemPlace), cs.length = K ∧ (∀ (j : Nat) (v : Value), cs[j]? = some v → w.cell? ⟨b, off + i * K + j, none⟩ = some v) ∧ DataW.trod enc P w base spare held n e cs = some y) := by
  obtain ⟨fuel, hf⟩ := h
  rcases open_slice ht hf with ⟨hcs, _⟩ | ⟨x, l, c, m, n, D, Pl, hcs, hb, hl, hm, hmm, hx, hi⟩
  · simp [Value.cells] at hcs
    obtain ⟨rfl, rfl, rfl⟩ := hcs
    exact ⟨Nat.le_refl _, Nat.zero_le _, fun h => absurd h (by omega)⟩
  · simp [Value.cells] at hcs
    obtain ⟨rfl, rfl, rfl⟩ := hcs
    have hlm : len ≤ m := by rw [hmm]; split <;> omega
    refine ⟨hl, hm, fun h0 => ?_⟩
    obtain ⟨b, off, spot⟩ := x
    have key : ∀ i, i < len → ∃ (n : Nat) (cs : List Value) (y : DataW H × List MemPlace), cs.length = K ∧ (∀ (j : Nat) (v : Value), cs[j]? = some v → w.cell? ((⟨b, off, spot⟩ : Addr).add (i * K + j)) = some v) ∧ DataW.trod enc P w base spare held n e cs = some y := by
      intro i hil
      obtain ⟨cs', hc, ht'⟩ := hi i (by omega)
      rw [hC] at hc
      obtain ⟨_, hcl, hat⟩ := World.cells?_some hc
      refine ⟨n, cs', _, hcl, fun j v hv => ?_, ht'⟩
      have hj : j < K := by rw [← hcl]; exact (List.getElem?_eq_some_iff.1 hv).1
      rw [← Go.Deep.add_add, hat j hj, hv]
    obtain ⟨n0, cs0, y0, hl0, hc0, _⟩ := key 0 h0
    have hc00 := hc0 0 _ (List.getElem?_eq_getElem (by omega))
    have hspot : spot = none := by simpa [Addr.add] using World.cell?_spot hc00
    subst hspot
    refine ⟨b, off, rfl, ?_, fun i hil => ?_⟩
    · have := World.block_lt_of_cell? w _ hc00
      simpa [Addr.add] using this
    · obtain ⟨n1, cs1, y1, hl1, hc1, ht1⟩ := key i hil
      refine ⟨n1, cs1, y1, hl1, fun j v hv => ?_, ht1⟩
      rw [← hc1 j v hv]
      have : (⟨b, off, none⟩ : Addr).add (i * K + j) = ⟨b, off + i * K + j, none⟩ := by
        unfold Addr.add
        split
        · rename_i h; rw [show off + i * K + j = off by omega]
        · simp [Nat.add_assoc]
      rw [this]
open Go.ChangeShapes Go.WideShapes Go.Deep in
theorem trod_at {H : Type} {enc : TypeId × Value → H} {P : Program} {w : World} {base : Nat} {spare : Nat → Bool} {held : Bool} {n : Nat} {fs : Array Field} {cs : List Value} {ys : List (DataW H × List MemPlace)}
    (hf : ∀ (j : Nat) (f : Field), fs[j]? = some f → DataW.trod enc P w base spare held n f.type ((cs.drop f.offset).take (P.cellsOf f.type)) = ys[j]?) (j : Nat) (f : Field) (hj : fs[j]? = some f) (T : TypeId) (o k : Nat) (hT : f.type = T) (ho : f.offset = o) (hk : P.cellsOf T = k) :
    DataW.trod enc P w base spare held n T ((cs.drop o).take k) = ys[j]? := by
  have := hf j f hj
  rw [hT, ho, hk] at this
  exact this
open Go.ChangeShapes Go.WideShapes Go.Deep in
theorem open_recs53 {H : Type} {enc : TypeId × Value → H} {w : World} {base : Nat} {spare : Nat → Bool} {held : Bool} {a : Option Addr} {len cap : Nat} {d : DataW H} {p : List MemPlace}
    (h : DataW.Trod enc Try.prog w base spare held 22 (.slice a len cap) d p) : ∃ l, InsProcess w a len cap l := by
  obtain ⟨h1, h2, h3⟩ := open_rows (K := 8) Try.underlying22 (by kernel_rfl) (by omega) h
  rcases Nat.eq_zero_or_pos len with h0 | h0
  · subst h0
    exact ⟨[], ⟨rfl, fun h => absurd h (by omega)⟩, by omega, h1⟩
  · obtain ⟨b, off, rfl, hb, hi⟩ := h3 h0
    obtain ⟨l, hl, hq⟩ := choose_list (Q := fun k (t : Pcs) => w.cell? ⟨b, off + k * 8, none⟩ = some (.int .i64 t.number) ∧ w.cell? ⟨b, off + k * 8 + 1, none⟩ = some (.int .i64 t.parent) ∧ w.cell? ⟨b, off + k * 8 + 2, none⟩ = some (.int .i64 t.real) ∧ w.cell? ⟨b, off + k * 8 + 3, none⟩ = some (.int .i64 t.acts) ∧ w.cell? ⟨b, off + k * 8 + 4, none⟩ = some (.int .i64 t.saved) ∧ w.cell? ⟨b, off + k * 8 + 5, none⟩ = some (.int .i64 t.groups) ∧ w.cell? ⟨b, off + k * 8 + 6, none⟩ = some (.bool t.ended) ∧ w.cell? ⟨b, off + k * 8 + 7, none⟩ = some (.int .i64 t.result)) len (fun i hil => by
      obtain ⟨n, cs, y, hcl, hat, ht⟩ := hi i hil
      match cs, hcl with
      | [c0, c1, c2, c3, c4, c5, c6, c7], _ =>
        obtain ⟨ys, n', hn', hy, hlen, hyl, hf⟩ := DataW.trod_struct Try.underlying53 ht
        have t0 := trod_at hf 0 _ rfl 3 0 1 rfl rfl (by kernel_rfl)
        have t1 := trod_at hf 1 _ rfl 3 1 1 rfl rfl (by kernel_rfl)
        have t2 := trod_at hf 2 _ rfl 51 2 4 rfl rfl (by kernel_rfl)
        have t3 := trod_at hf 3 _ rfl 4 6 1 rfl rfl (by kernel_rfl)
        have t4 := trod_at hf 4 _ rfl 3 7 1 rfl rfl (by kernel_rfl)
        simp only [List.drop_zero, List.drop_succ_cons, List.take_succ_cons, List.take_zero] at t0 t1 t2 t3 t4
        have g0 : ∃ z, ys[0]? = some z := ⟨_, List.getElem?_eq_getElem (by rw [hyl]; simp)⟩
        have g1 : ∃ z, ys[1]? = some z := ⟨_, List.getElem?_eq_getElem (by rw [hyl]; simp)⟩
        have g2 : ∃ z, ys[2]? = some z := ⟨_, List.getElem?_eq_getElem (by rw [hyl]; simp)⟩
        have g3 : ∃ z, ys[3]? = some z := ⟨_, List.getElem?_eq_getElem (by rw [hyl]; simp)⟩
        have g4 : ∃ z, ys[4]? = some z := ⟨_, List.getElem?_eq_getElem (by rw [hyl]; simp)⟩
        obtain ⟨z0, g0⟩ := g0
        obtain ⟨z1, g1⟩ := g1
        obtain ⟨z2, g2⟩ := g2
        obtain ⟨z3, g3⟩ := g3
        obtain ⟨z4, g4⟩ := g4
        rw [g0] at t0
        rw [g1] at t1
        rw [g2] at t2
        rw [g3] at t3
        rw [g4] at t4
        obtain ⟨a0, e0, _, _⟩ := DataW.trod_int Try.underlying3 t0
        obtain ⟨a1, e1, _, _⟩ := DataW.trod_int Try.underlying3 t1
        obtain ⟨a6, e6, _⟩ := DataW.trod_bool Try.underlying4 t3
        obtain ⟨a7, e7, _, _⟩ := DataW.trod_int Try.underlying3 t4
        obtain ⟨zs, n2, hn2, hz, hlen2, hzl, hf2⟩ := DataW.trod_struct Try.underlying51 t2
        have s0 := trod_at hf2 0 _ rfl 3 0 1 rfl rfl (by kernel_rfl)
        have s1 := trod_at hf2 1 _ rfl 3 1 1 rfl rfl (by kernel_rfl)
        have s2 := trod_at hf2 2 _ rfl 3 2 1 rfl rfl (by kernel_rfl)
        have s3 := trod_at hf2 3 _ rfl 3 3 1 rfl rfl (by kernel_rfl)
        simp only [List.drop_zero, List.drop_succ_cons, List.take_succ_cons, List.take_zero] at s0 s1 s2 s3
        have k0 : ∃ z, zs[0]? = some z := ⟨_, List.getElem?_eq_getElem (by rw [hzl]; simp)⟩
        have k1 : ∃ z, zs[1]? = some z := ⟨_, List.getElem?_eq_getElem (by rw [hzl]; simp)⟩
        have k2 : ∃ z, zs[2]? = some z := ⟨_, List.getElem?_eq_getElem (by rw [hzl]; simp)⟩
        have k3 : ∃ z, zs[3]? = some z := ⟨_, List.getElem?_eq_getElem (by rw [hzl]; simp)⟩
        obtain ⟨q0, k0⟩ := k0
        obtain ⟨q1, k1⟩ := k1
        obtain ⟨q2, k2⟩ := k2
        obtain ⟨q3, k3⟩ := k3
        rw [k0] at s0
        rw [k1] at s1
        rw [k2] at s2
        rw [k3] at s3
        obtain ⟨a2, e2, _, _⟩ := DataW.trod_int Try.underlying3 s0
        obtain ⟨a3, e3, _, _⟩ := DataW.trod_int Try.underlying3 s1
        obtain ⟨a4, e4, _, _⟩ := DataW.trod_int Try.underlying3 s2
        obtain ⟨a5, e5, _, _⟩ := DataW.trod_int Try.underlying3 s3
        simp only [List.cons.injEq, and_true] at e0 e1 e2 e3 e4 e5 e6 e7
        subst e0 e1 e2 e3 e4 e5 e6 e7
        exact ⟨⟨a0, a1, a2, a3, a4, a5, a6, a7⟩, hat 0 _ rfl, hat 1 _ rfl, hat 2 _ rfl, hat 3 _ rfl, hat 4 _ rfl, hat 5 _ rfl, hat 6 _ rfl, hat 7 _ rfl⟩)
    exact ⟨l, ⟨hl, fun _ => ⟨b, off, rfl, hb, hq⟩⟩, by omega, h1⟩

end Go.Proofs.Ytlfchcjollcdhaa
