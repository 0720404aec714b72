/-
  The copy of a slice of ranges (toUserRangeS), and the equality of two (eqUserRangeS). No condition.
-/
import Derived.Test.YthocpajiihdceaaProg
import Derived.Test.YthocpajiihdceaaRng
namespace Go.Proofs.Ythocpajiihdceaa
open Go.RowKit
set_option linter.unusedSimpArgs false
set_option linter.unusedVariables false

theorem infoR : (Try.prog.info? 33).map (fun i => (i.zero, i.size, i.bytes)) = some (some (.agg #[.int .i64 0, .int .i64 0, .int .i64 0]), 3, 24) := by kernel_rfl

def cellR (l : List Rng) (j : Nat) : Option Value := (l[j / 3]?).map fun t => if j % 3 = 0 then .int .i64 t.i else if j % 3 = 1 then .int .i64 t.o else .int .i64 t.m
def doneR (l : List Rng) (k : Nat) (j : Nat) : Option Value := if j < k * 3 then cellR l j else none
theorem RR_of_row {w : World} {g n : Nat} {l : List Rng} (h : Row w g (n * 3) (doneR l n)) (hl : l.length = n) : RR w g 0 l := by
  refine ⟨h.lt, fun k t ht => ?_⟩
  have hk : k < n := by rw [← hl]; exact (List.getElem?_eq_some_iff.1 ht).1
  refine ⟨h.cell ?_, h.cell ?_, h.cell ?_⟩
  · simp only [doneR, cellR]; rw [if_pos (by omega), show (0 + k * 3) / 3 = k by omega, ht]; simp
  · simp only [doneR, cellR]; rw [if_pos (by omega), show (0 + k * 3 + 1) / 3 = k by omega, ht]; simp [show (k * 3 + 1) % 3 = 1 by omega]
  · simp only [doneR, cellR]; rw [if_pos (by omega), show (0 + k * 3 + 2) / 3 = k by omega, ht]; simp [show (k * 3 + 2) % 3 = 2 by omega]
theorem row_next {w : World} {g n k : Nat} {l : List Rng} {t : Rng} (h : Row w g (n * 3) (doneR l k)) (hk : k < n) (ht : l[k]? = some t) :
    Row (((w.setCell ⟨g, k * 3, none⟩ (.int .i64 t.i)).setCell ⟨g, k * 3 + 1, none⟩ (.int .i64 t.o)).setCell ⟨g, k * 3 + 2, none⟩ (.int .i64 t.m)) g (n * 3) (doneR l (k + 1)) := by
  refine (((h.set (k * 3) _).set (k * 3 + 1) _).set (k * 3 + 2) _).mono fun j u hj => ?_
  simp only [doneR] at hj ⊢
  split at hj
  · rename_i hlt
    by_cases e2 : j = k * 3 + 2
    · rw [if_pos e2, if_pos (by omega)]
      subst e2
      rw [← hj, cellR, show (k * 3 + 2) / 3 = k by omega, ht]; simp [show (k * 3 + 2) % 3 = 2 by omega]
    · rw [if_neg e2]
      by_cases e1 : j = k * 3 + 1
      · rw [if_pos e1, if_pos (by omega)]
        subst e1
        rw [← hj, cellR, show (k * 3 + 1) / 3 = k by omega, ht]; simp [show (k * 3 + 1) % 3 = 1 by omega]
      · rw [if_neg e1]
        by_cases e0 : j = k * 3
        · rw [if_pos e0, if_pos (by omega)]
          subst e0
          rw [← hj, cellR, show (k * 3) / 3 = k by omega, ht]; simp
        · rw [if_neg e0, if_pos (by omega)]; exact hj
  · cases hj

/-- What toUserRangeS gives: a slice of its own that reads as the list. -/
def MadeR (w : World) (n : Nat) (l : List Rng) (e : Ending) (w' : World) : Prop :=
  ∃ g, e = .returned (.slice (some ⟨g, 0, none⟩) n n) ∧ w.heap.size ≤ g ∧ RR w' g 0 l ∧ Below w.heap.size w w'
/-- How a slice of ranges came in. -/
def InR (w : World) (A : Option Addr) (n : Nat) (l : List Rng) : Prop :=
  l.length = n ∧ (0 < n → ∃ b off, A = some ⟨b, off, none⟩ ∧ RR w b off l)

set_option maxHeartbeats 1000000 in
theorem toS_c (A : Option Addr) (n c : Nat) (l : List Rng) (w : World) (hA : InR w A n l) (hn : n ≤ 1048576) :
    Calls Try.prog 13 #[.slice A n c] w (MadeR w n l) := by
  obtain ⟨i0, hi0, hz0, hz1, hz2⟩ := info_parts infoR
  have hmk := fun W => run_make_rowN (P := Try.prog) 25 33 i0 _ Try.underlying25 hi0 hz0 .i64 .i64 n n (Nat.le_refl _) (by rw [hz2]; omega) (by omega) W
  rw [hz1] at hmk
  have hA' := hide hA
  clear hA
  go_enter Try.func13, Try.ntmps13
  go_wp2_with fail
  clear hmk
  generalize hW : w.alloc (.cells (madeCells #[.int .i64 0, .int .i64 0, .int .i64 0] (n * 3)) 33) = W
  have hr0 : Row W w.heap.size (n * 3) (doneR l 0) := by
    rw [← hW]
    have := Row.made w 33 (madeCells #[.int .i64 0, .int .i64 0, .int .i64 0] (n * 3)) (doneR l 0) (fun j u hj => by simp [doneR] at hj)
    rwa [size_madeCells] at this
  have hb0 : Below w.heap.size w W := by rw [← hW]; exact below_alloc0 (Below.refl _ _) _
  clear hW
  go_loopw [4] (fun i wr => ∃ k : Nat, k ≤ n ∧ i = .int .i64 k ∧ Row wr w.heap.size (n * 3) (doneR l k) ∧ Below w.heap.size w wr) (fun i _ => n - (intOf i).toNat)
  case atStart => exact ⟨0, by omega, rfl, hr0, hb0⟩
  case round =>
    obtain ⟨k, hk, rfl, hrow, hbel⟩ := hrel
    by_cases hlt : k < n
    · obtain ⟨hl, hin⟩ := hA'.out
      obtain ⟨b, off, rfl, hR⟩ := hin (by omega)
      clear hin
      obtain ⟨t, ht⟩ : ∃ t, l[k]? = some t := ⟨_, List.getElem?_eq_getElem (by omega)⟩
      have HT := hide ht
      have hlb : b < wr.heap.size := Nat.lt_of_lt_of_le hR.1 hbel.size
      have c0 := (hR.below hbel).2 k t ht
      have HL := hide hl
      clear ht hl
      have g1 := hrow.lt
      obtain ⟨x0, gs0⟩ := hrow.some_ex (j := k * 3) (by omega)
      obtain ⟨x1, gs1⟩ := hrow.some_ex (j := k * 3 + 1) (by omega)
      obtain ⟨x2, gs2⟩ := hrow.some_ex (j := k * 3 + 2) (by omega)
      have gf0 := hrow.frozen (k * 3)
      have gf1 := hrow.frozen (k * 3 + 1)
      have gf2 := hrow.frozen (k * 3 + 2)
      go_wp2_with fail
      refine (toR_c _ _ _ _).mono ?_
      rintro e w1 ⟨rfl, hb1⟩
      have V1 := live hb1 w.heap.size (by omega)
      go_wp2_with fail
      refine ⟨⟨k + 1, by omega, by go_num, row_next (hrow.below hb1 g1) hlt HT.out, (by repeat' (first | exact Below.refl _ _ | assumption | exact And.left (by assumption) | omega | (simp; done) | (simp; omega) | (simp at *; omega) | (refine Below.setCell ?_ ?_ _) | (refine below_alloc0 ?_ _) | (refine Below.drew ?_) | (refine below_drewN ?_ _) | (refine below_via0 ?_ (by assumption)) | (refine Below.alloc ?_ ?_ _) | (refine below_via ?_ (by assumption) ?_)))⟩, by simp [intOf]; omega⟩
    · obtain rfl : k = n := by omega
      go_wp2
      go_ret
      exact ⟨w.heap.size, rfl, Nat.le_refl _, RR_of_row hrow hA'.out.1, (by repeat' (first | exact Below.refl _ _ | assumption | exact And.left (by assumption) | omega | (simp; done) | (simp; omega) | (simp at *; omega) | (refine Below.setCell ?_ ?_ _) | (refine below_alloc0 ?_ _) | (refine Below.drew ?_) | (refine below_drewN ?_ _) | (refine below_via0 ?_ (by assumption)) | (refine Below.alloc ?_ ?_ _) | (refine below_via ?_ (by assumption) ?_)))⟩

def eqR (t s : Rng) : Bool := (t.i == s.i) && ((t.o == s.o) && (t.m == s.m))
theorem eqR_c (i o m : Int) (w : World) :
    Calls Try.prog 35 #[.agg #[.int .i64 i, .int .i64 o, .int .i64 m], .agg #[.int .i64 i, .int .i64 o, .int .i64 m]] w fun e w' => e = .returned (.bool true) ∧ Below w.heap.size w w' := by
  go_enter Try.func35, Try.ntmps35
  go_wp2
  go_ret
  exact ⟨rfl, (by repeat' (first | exact Below.refl _ _ | assumption | exact And.left (by assumption) | omega | (simp; done) | (simp; omega) | (simp at *; omega) | (refine Below.setCell ?_ ?_ _) | (refine below_alloc0 ?_ _) | (refine Below.drew ?_) | (refine below_drewN ?_ _) | (refine below_via0 ?_ (by assumption)) | (refine Below.alloc ?_ ?_ _) | (refine below_via ?_ (by assumption) ?_)))⟩
set_option maxHeartbeats 1000000 in
/-- Two slices that read as one list are equal. -/
theorem eqS_c (b off c b' off' c' n : Nat) (l : List Rng) (hl : l.length = n) (hn : n ≤ 1048576) (w : World) (hR : RR w b off l) (hR' : RR w b' off' l) :
    Calls Try.prog 15 #[.slice (some ⟨b, off, none⟩) n c, .slice (some ⟨b', off', none⟩) n c'] w fun e w' => e = .returned (.bool true) ∧ Below w.heap.size w w' := by
  go_enter Try.func15, Try.ntmps15
  go_wp2_with fail
  go_loopw [5] (fun i wr => ∃ k : Nat, k ≤ n ∧ i = .int .i64 k ∧ Below w.heap.size w wr) (fun i _ => n - (intOf i).toNat)
  case atStart => exact ⟨0, by omega, rfl, Below.refl _ _⟩
  case round =>
    obtain ⟨k, hk, rfl, hbel⟩ := hrel
    by_cases hlt : k < n
    · obtain ⟨t, ht⟩ : ∃ t, l[k]? = some t := ⟨_, List.getElem?_eq_getElem (by omega)⟩
      have c0 := (hR.below hbel).2 k t ht
      have c1 := (hR'.below hbel).2 k t ht
      clear ht
      have lb : b < wr.heap.size := Nat.lt_of_lt_of_le hR.1 hbel.size
      have lb' : b' < wr.heap.size := Nat.lt_of_lt_of_le hR'.1 hbel.size
      go_wp2_with fail
      go_region_held3 (fun w' => Below w.heap.size w w' ∧ b < w'.heap.size ∧ b' < w'.heap.size ∧ w'.cell? ⟨b, off + k * 3, none⟩ = some (.int .i64 t.i) ∧ w'.cell? ⟨b, off + k * 3 + 1, none⟩ = some (.int .i64 t.o) ∧ w'.cell? ⟨b, off + k * 3 + 2, none⟩ = some (.int .i64 t.m) ∧
          w'.cell? ⟨b', off' + k * 3, none⟩ = some (.int .i64 t.i) ∧ w'.cell? ⟨b', off' + k * 3 + 1, none⟩ = some (.int .i64 t.o) ∧ w'.cell? ⟨b', off' + k * 3 + 2, none⟩ = some (.int .i64 t.m))
        (first | (have L1 := live hb1 b (by omega); have L2 := live hb1 b' (by omega); refine ⟨(by repeat' (first | exact Below.refl _ _ | assumption | exact And.left (by assumption) | omega | (simp; done) | (simp; omega) | (simp at *; omega) | (refine Below.setCell ?_ ?_ _) | (refine below_alloc0 ?_ _) | (refine Below.drew ?_) | (refine below_drewN ?_ _) | (refine below_via0 ?_ (by assumption)) | (refine Below.alloc ?_ ?_ _) | (refine below_via ?_ (by assumption) ?_))), ?_⟩; simp [*]; done) | (refine ⟨(by repeat' (first | exact Below.refl _ _ | assumption | exact And.left (by assumption) | omega | (simp; done) | (simp; omega) | (simp at *; omega) | (refine Below.setCell ?_ ?_ _) | (refine below_alloc0 ?_ _) | (refine Below.drew ?_) | (refine below_drewN ?_ _) | (refine below_via0 ?_ (by assumption)) | (refine Below.alloc ?_ ?_ _) | (refine below_via ?_ (by assumption) ?_))), ?_⟩; simp [go_sem]; done) | (refine ⟨(by repeat' (first | exact Below.refl _ _ | assumption | exact And.left (by assumption) | omega | (simp; done) | (simp; omega) | (simp at *; omega) | (refine Below.setCell ?_ ?_ _) | (refine below_alloc0 ?_ _) | (refine Below.drew ?_) | (refine below_drewN ?_ _) | (refine below_via0 ?_ (by assumption)) | (refine Below.alloc ?_ ?_ _) | (refine below_via ?_ (by assumption) ?_))), ?_⟩; simp [go_sem, *]; done) | assumption | go_keep)
        (first | (go_at_call 35; refine (eqR_c _ _ _ _).mono ?_; rintro e w1 ⟨rfl, hb1⟩))
      have bel1 : Below w.heap.size w w1 := And.left (by assumption)
      go_wp2
      exact ⟨⟨k + 1, by omega, by go_num, bel1⟩, by simp [intOf]; omega⟩
    · obtain rfl : k = n := by omega
      go_wp2
      go_ret
      exact ⟨rfl, (by repeat' (first | exact Below.refl _ _ | assumption | exact And.left (by assumption) | omega | (simp; done) | (simp; omega) | (simp at *; omega) | (refine Below.setCell ?_ ?_ _) | (refine below_alloc0 ?_ _) | (refine Below.drew ?_) | (refine below_drewN ?_ _) | (refine below_via0 ?_ (by assumption)) | (refine Below.alloc ?_ ?_ _) | (refine below_via ?_ (by assumption) ?_)))⟩
end Go.Proofs.Ythocpajiihdceaa
