/-
  slices.Clone of tasks: a slice of its own that reads as the list. No condition.
-/
import Derived.Test.YtnpgofmihmjmeaaProg
import Derived.Test.YtnpgofmihmjmeaaTask5
import Derived.Laws.AppendOwn
import Derived.Laws.OwnMore
import Derived.Shelf.RegionOpenPlain
import Derived.Lib.Walk
import Derived.Lib.SliceRun
namespace Go.Proofs.Ytnpgofmihmjmeaa
open Go.RowKit
set_option linter.unusedSimpArgs false
set_option linter.unusedVariables false

def flatT (l : List Task) : List Value := l.flatMap fun t => [.int .i64 t.weight, .int .i64 t.had, .bool t.waits]
theorem flatT_len (l : List Task) : (flatT l).length = l.length * 3 := by
  induction l with
  | nil => rfl
  | cons t l ih => simp only [flatT, List.flatMap_cons, List.length_append, List.length_cons, List.length_nil] at ih ⊢; omega
theorem flatT_get (l : List Task) (j : Nat) : (flatT l)[j]? = cellTask l j := by
  induction l generalizing j with
  | nil => simp [flatT, cellTask]
  | cons t l ih =>
    rcases j with _ | _ | _ | j
    · simp [flatT, cellTask]
    · simp [flatT, cellTask]
    · simp [flatT, cellTask]
    · have h1 : (flatT (t :: l))[j + 3]? = (flatT l)[j]? := by simp [flatT]
      have h2 : cellTask (t :: l) (j + 3) = cellTask l j := by
        simp only [cellTask]
        rw [show (j + 3) / 3 = j / 3 + 1 by omega, show (j + 3) % 3 = j % 3 by omega]
        simp
      exact h1.trans ((ih j).trans h2.symm)
theorem flatT_one (l : List Task) : ∀ u ∈ flatT l, u.oneCell' = true := by
  intro u hu
  simp only [flatT, List.mem_flatMap] at hu
  obtain ⟨t, _, ht⟩ := hu
  simp at ht
  rcases ht with rfl | rfl | rfl <;> rfl
theorem flatT_cells {w : World} {b off : Nat} {l : List Task} (hR : RdTask w b off l) (j : Nat) (u : Value) (hj : (flatT l)[j]? = some u) : w.cell? ⟨b, off + j, none⟩ = some u := by
  rw [flatT_get] at hj
  simp only [cellTask, Option.map_eq_some_iff] at hj
  obtain ⟨t, ht, hu⟩ := hj
  obtain ⟨h0, h1, h2⟩ := hR.2 _ _ ht
  subst hu
  have hd : j = j / 3 * 3 + j % 3 := by omega
  by_cases e0 : j % 3 = 0
  · rw [if_pos e0, show off + j = off + j / 3 * 3 by omega]; exact h0
  · rw [if_neg e0]
    by_cases e1 : j % 3 = 1
    · rw [if_pos e1, show off + j = off + j / 3 * 3 + 1 by omega]; exact h1
    · rw [if_neg e1, show off + j = off + j / 3 * 3 + 2 by omega]; exact h2

/-- A slice of one's own, made at the size B or later. -/
def OwnTask (B n : Nat) (l : List Task) (v : Value) (w' : World) : Prop :=
  ∃ g cap m, v = .slice (some ⟨g, 0, none⟩) n cap ∧ B ≤ g ∧ n ≤ cap ∧ n * 3 ≤ m ∧ Row w' g m (doneTask l n)
theorem ownT_of {w : World} {base n : Nat} {T : TypeId} {v : Value} {l : List Task} (hl : l.length = n) (h : w.ownsRow base T 3 v n (flatT l)) (hv : v ≠ .slice none 0 0) : OwnTask base n l v w := by
  rcases h.2 with ⟨h', _⟩ | ⟨g, cap, cur, rfl, hb, hg, hnc, hcm, hcs, htake⟩
  · exact absurd h' hv
  · refine ⟨g, cap, cap * 3, rfl, hb, hnc, by omega, cur, T, hg, hcs, fun j u hj => ?_⟩
    simp only [doneTask] at hj
    split at hj
    · rename_i hlt
      rw [← flatT_get, ← htake, List.getElem?_take] at hj
      rw [if_pos hlt] at hj
      simpa using hj
    · cases hj
theorem OwnTask.rd {B n : Nat} {l : List Task} {g cap m : Nat} {w : World} (h : Row w g m (doneTask l n)) (hl : l.length = n) : RdTask w g 0 l := RdT_of_row h hl

set_option maxHeartbeats 2000000 in
theorem cloneT_c (b off n c : Nat) (l : List Task) (hl : l.length = n) (hn : n ≤ 1048576) (w : World) (hR : RdTask w b off l) :
    Calls Try.prog 45 #[.slice (some ⟨b, off, none⟩) n c] w fun e w' => ∃ v, e = .returned v ∧ OwnTask w.heap.size n l v w' ∧ Below w.heap.size w w' := by
  obtain ⟨i0, hi0, hz0, hz1, hz2⟩ := info_parts infoTask
  have A := hide hR
  clear hR
  have HI := hide hi0
  have HZ0 := hide hz0
  have HZ1 := hide hz1
  have HZ2 := hide hz2
  clear hi0 hz0 hz1 hz2
  have q22 : ∀ (w : World) (a : Option Addr) (n c n' c' : Nat), (binOp .eql 25 (.slice a n c) (.slice none n' c')).run Try.prog w = .ok (.bool a.isNone) w := fun w a n c n' c' => Lib.run_eql_slice_nil w _ _ a n c n' c' Try.underlying25
  have u22 : ∀ w, Sem.run Try.prog (underlying 25) w = .ok (TypeDesc.slice 32) w := run_underlying Try.underlying25
  go_enter Try.func45, Try.ntmps45
  go_wp2_with (at_builtin; refine wpList_append_own _ rfl _ _ 25 rfl w.heap.size 32 i0 _ 3 24 Try.underlying25 HI.out HZ0.out HZ1.out HZ2.out rfl (by decide) _ _ _ rfl (World.ownsRow_made w #[] 0 (Nat.le_refl _) (Nat.zero_le _) (by simp)) ⟨b, off, none⟩ n c (flatT l) rfl ?qc1 ?qc2 ?qc3 ?qc4 ?qc5 ?qc6 ?_)
  case qc1 => rw [flatT_len, hl]
  case qc2 =>
    intro j u hj
    rw [Addr.add_lit]
    exact Lib.cell?_alloc_some _ (flatT_cells A.out j u hj)
  case qc3 => exact flatT_one l
  case qc4 => rw [Nat.zero_add]; unfold maxLen; omega
  case qc5 => rw [Nat.zero_add]; omega
  case qc6 => simp
  intro v' w1 hown hgrow hnil
  have hnil' : v' ≠ .slice none 0 0 := hnil
  go_wp2
  go_ret
  refine ⟨v', rfl, ownT_of hl (by simpa using hown) hnil', ?_⟩
  exact ((Below.refl _ w).alloc (Nat.le_refl _) _).grown hgrow (by simp) (by intro k hk; simp [Value.ownBlock] at hk; omega)
end Go.Proofs.Ytnpgofmihmjmeaa
