/-
  markTaskS, heldTaskS: what marking a slice of one's own leaves, and that it is found again. No condition.
-/
import Derived.Test.YtnpgofmihmjmeaaProg
import Derived.Test.YtnpgofmihmjmeaaTask
namespace Go.Proofs.Ytnpgofmihmjmeaa
open Go.RowKit
set_option linter.unusedSimpArgs false
set_option linter.unusedVariables false

/-- All that lay there, but for block g, is as it was. -/
def Off (g : Nat) (w w' : World) : Prop := Below 0 w w' ∧ ∀ b, b < w.heap.size → b ≠ g → w'.heap[b]? = w.heap[b]?
theorem Off.refl (g : Nat) (w : World) : Off g w w := ⟨Below.refl _ _, fun _ _ _ => rfl⟩
theorem Off.setCell {g : Nat} {w w' : World} (h : Off g w w') (o : Nat) (v : Value) : Off g w (w'.setCell ⟨g, o, none⟩ v) :=
  ⟨h.1.setCell (p := ⟨g, o, none⟩) (Nat.zero_le _) v, fun b hb hg => (Below.heap_setCell w' ⟨g, o, none⟩ v b (by simpa using hg)).trans (h.2 b hb hg)⟩
theorem Off.below {g B : Nat} {w0 w w' : World} (h : Off g w w') (hb : Below B w0 w) (hB : B ≤ g) (hs : B ≤ w.heap.size) : Below B w0 w' :=
  hb.trans ⟨h.1.os, h.1.tape, h.1.output, h.1.size, fun b hb => h.2 b (by omega) (by omega)⟩
theorem Off.rd {g b off : Nat} {w w' : World} {l : List Task} (h : Off g w w') (hg : b ≠ g) (hR : RdTask w b off l) : RdTask w' b off l := by
  have hc : ∀ o, w'.cell? ⟨b, o, none⟩ = w.cell? ⟨b, o, none⟩ := fun o => by simp [World.cell?, h.2 b hR.1 hg]
  refine ⟨Nat.lt_of_lt_of_le hR.1 h.1.size, fun k t ht => ?_⟩
  obtain ⟨h0, h1, h2⟩ := hR.2 k t ht
  exact ⟨(hc _).trans h0, (hc _).trans h1, (hc _).trans h2⟩
/-- What marking lays. -/
def mkT (i : Nat) : Task := ⟨1 + 3 * i, 1 + 3 * i + 1, true⟩
def mkL (n : Nat) : List Task := (List.range n).map mkT
theorem mkL_get {n k : Nat} (h : k < n) : (mkL n)[k]? = some (mkT k) := by simp [mkL, h]
theorem mkL_len (n : Nat) : (mkL n).length = n := by simp [mkL]
/-- A block of one's own that holds n tasks at least. -/
def OwnT (w : World) (g n : Nat) : Prop := ∃ m, n * 3 ≤ m ∧ Row w g m (fun _ => none)
theorem rem3 (k : Nat) : (1 + 3 * (k : Int) + 1 + 1).tmod 3 = 0 := by
  rw [Int.tmod_eq_emod_of_nonneg (by omega)]; omega

theorem row_nextT {w : World} {g n k m : Nat} {l : List Task} {t : Task} (h : Row w g m (doneTask l k)) (hm : n * 3 ≤ m) (hk : k < n) (ht : l[k]? = some t) :
    Row (((w.setCell ⟨g, k * 3, none⟩ (.int .i64 t.weight)).setCell ⟨g, k * 3 + 1, none⟩ (.int .i64 t.had)).setCell ⟨g, k * 3 + 2, none⟩ (.bool t.waits)) g m (doneTask l (k + 1)) := by
  refine (((h.set (k * 3) _).set (k * 3 + 1) _).set (k * 3 + 2) _).mono fun j u hj => ?_
  simp only [doneTask] at hj ⊢
  split at hj
  · rename_i hlt
    by_cases e2 : j = k * 3 + 2
    · rw [if_pos e2, if_pos (by omega)]
      subst e2
      rw [← hj, cellTask, show (k * 3 + 2) / 3 = k by omega, ht]; simp [show (k * 3 + 2) % 3 = 2 by omega]
    rw [if_neg e2]
    by_cases e1 : j = k * 3 + 1
    · rw [if_pos e1, if_pos (by omega)]
      subst e1
      rw [← hj, cellTask, show (k * 3 + 1) / 3 = k by omega, ht]; simp [show (k * 3 + 1) % 3 = 1 by omega]
    rw [if_neg e1]
    by_cases e0 : j = k * 3
    · rw [if_pos e0, if_pos (by omega)]
      subst e0
      rw [← hj, cellTask, show (k * 3) / 3 = k by omega, ht]; simp
    rw [if_neg e0]
    rw [if_pos (by omega)]; exact hj
  · cases hj
theorem RdT_of_row {w : World} {g n m : Nat} {l : List Task} (h : Row w g m (doneTask l n)) (hl : l.length = n) : RdTask w g 0 l := by
  refine ⟨h.lt, fun k t ht => ?_⟩
  have hk : k < n := by rw [← hl]; exact (List.getElem?_eq_some_iff.1 ht).1
  refine ⟨h.cell ?_, h.cell ?_, h.cell ?_⟩
  · simp only [doneTask, cellTask]; rw [if_pos (by omega), show (0 + k * 3) / 3 = k by omega, ht]; simp
  · simp only [doneTask, cellTask]; rw [if_pos (by omega), show (0 + k * 3 + 1) / 3 = k by omega, ht]; simp [show (k * 3 + 1) % 3 = 1 by omega]
  · simp only [doneTask, cellTask]; rw [if_pos (by omega), show (0 + k * 3 + 2) / 3 = k by omega, ht]; simp [show (k * 3 + 2) % 3 = 2 by omega]

set_option maxHeartbeats 2000000 in
theorem markTask_c (g n c m : Nat) (f : Nat → Option Value) (hn : n ≤ 1048576) (w : World) (hm : n * 3 ≤ m) (hR : Row w g m (fun _ => none)) :
    Calls Try.prog 25 #[.slice (some ⟨g, 0, none⟩) n c, .int .i64 1] w fun e w' => e = .returned (.int .i64 (1 + 3 * n)) ∧ Off g w w' ∧ Row w' g m (doneTask (mkL n) n) := by
  go_enter Try.func25, Try.ntmps25
  go_wp2_with fail
  go_loopw [1, 5] (fun q i wr => ∃ k : Nat, k ≤ n ∧ q = .int .i64 (1 + 3 * (k : Int)) ∧ i = .int .i64 k ∧ Row wr g m (doneTask (mkL n) k) ∧ Off g w wr) (fun _ i _ => n - (intOf i).toNat)
  case atStart => exact ⟨0, by omega, rfl, rfl, hR.mono (fun j u hj => by simp [doneTask] at hj), Off.refl _ _⟩
  case round =>
    obtain ⟨k, hk, rfl, rfl, hrow, hoff⟩ := hrel
    by_cases hlt : k < n
    · have HT := hide (mkL_get hlt)
      have g1 := hrow.lt
      obtain ⟨x0, gs0⟩ := hrow.some_ex (j := k * 3) (by omega)
      obtain ⟨x1, gs1⟩ := hrow.some_ex (j := k * 3 + 1) (by omega)
      obtain ⟨x2, gs2⟩ := hrow.some_ex (j := k * 3 + 2) (by omega)
      have gf0 := hrow.frozen (k * 3)
      have gf1 := hrow.frozen (k * 3 + 1)
      have gf2 := hrow.frozen (k * 3 + 2)
      have hr := rem3 k
      go_wp2_with fail
      clear hr
      have hnx := row_nextT hrow hm hlt HT.out
      simp only [mkT] at hnx
      refine ⟨⟨k + 1, hlt, congrArg (Value.int .i64) (by omega), congrArg (Value.int .i64) (by omega), ?_, ?_⟩, by simp [intOf]; omega⟩
      · exact hnx
      · exact ((hoff.setCell _ _).setCell _ _).setCell _ _
    · obtain rfl : k = n := by omega
      go_wp2
      go_ret
      exact ⟨rfl, hoff, hrow⟩

set_option maxHeartbeats 2000000 in
theorem heldTask_c (b off n c : Nat) (hn : n ≤ 1048576) (w : World) (hR : RdTask w b off (mkL n)) :
    Calls Try.prog 26 #[.slice (some ⟨b, off, none⟩) n c, .int .i64 1] w fun e w' => e = .returned (.int .i64 (1 + 3 * n)) ∧ Below w.heap.size w w' := by
  go_enter Try.func26, Try.ntmps26
  go_wp2_with fail
  go_loopw [1, 5] (fun q i wr => ∃ k : Nat, k ≤ n ∧ q = .int .i64 (1 + 3 * (k : Int)) ∧ i = .int .i64 k ∧ Below w.heap.size w wr) (fun _ i _ => n - (intOf i).toNat)
  case atStart => exact ⟨0, by omega, rfl, rfl, Below.refl _ _⟩
  case round =>
    obtain ⟨k, hk, rfl, rfl, hbel⟩ := hrel
    by_cases hlt : k < n
    · have c0 := (hR.below hbel).2 k _ (mkL_get hlt)
      simp only [mkT] at c0
      have hr := rem3 k
      go_wp2_with fail
      clear hr
      exact ⟨⟨k + 1, hlt, congrArg (Value.int .i64) (by omega), congrArg (Value.int .i64) (by omega), (by repeat' (first | exact Below.refl _ _ | assumption | exact And.left (by assumption) | omega | (simp; done) | (simp; omega) | (simp at *; omega) | (refine Below.setCell ?_ ?_ _) | (refine below_alloc0 ?_ _) | (refine Below.drew ?_) | (refine below_drewN ?_ _) | (refine below_via0 ?_ (by assumption)) | (refine Below.alloc ?_ ?_ _) | (refine below_via ?_ (by assumption) ?_)))⟩, by simp [intOf]; omega⟩
    · obtain rfl : k = n := by omega
      go_wp2
      go_ret
      exact ⟨rfl, (by repeat' (first | exact Below.refl _ _ | assumption | exact And.left (by assumption) | omega | (simp; done) | (simp; omega) | (simp at *; omega) | (refine Below.setCell ?_ ?_ _) | (refine below_alloc0 ?_ _) | (refine Below.drew ?_) | (refine below_drewN ?_ _) | (refine below_via0 ?_ (by assumption)) | (refine Below.alloc ?_ ?_ _) | (refine below_via ?_ (by assumption) ?_)))⟩
end Go.Proofs.Ytnpgofmihmjmeaa
