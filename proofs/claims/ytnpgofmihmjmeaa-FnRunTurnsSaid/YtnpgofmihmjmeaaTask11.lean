/-
  Slices of int: two that read as one list are equal; marking and finding again. No condition.
-/
import Derived.Test.YtnpgofmihmjmeaaProg
import Derived.Test.YtnpgofmihmjmeaaTask10
namespace Go.Proofs.Ytnpgofmihmjmeaa
open Go.RowKit
set_option linter.unusedSimpArgs false
set_option linter.unusedVariables false

def RdI (w : World) (b off : Nat) (l : List Int) : Prop :=
  b < w.heap.size ∧ ∀ (k : Nat) (x : Int), l[k]? = some x → w.cell? ⟨b, off + k, none⟩ = some (.int .i64 x)
theorem RdI.below {w w' : World} {b off : Nat} {l : List Int} (h : RdI w b off l) (hb : Below w.heap.size w w') : RdI w' b off l :=
  ⟨Nat.lt_of_lt_of_le h.1 hb.size, fun k x hx => (hb.cell (p := ⟨b, _, none⟩) h.1).trans (h.2 k x hx)⟩
theorem Off.rdI {g b off : Nat} {w w' : World} {l : List Int} (h : Off g w w') (hg : b ≠ g) (hR : RdI w b off l) : RdI w' b off l :=
  ⟨Nat.lt_of_lt_of_le hR.1 h.1.size, fun k x hx => by
    have hc : w'.cell? ⟨b, off + k, none⟩ = w.cell? ⟨b, off + k, none⟩ := by simp [World.cell?, h.2 b hR.1 hg]
    exact hc.trans (hR.2 k x hx)⟩
set_option maxHeartbeats 1000000 in
theorem eqI_c (b off c b' off' c' n : Nat) (l : List Int) (hl : l.length = n) (hn : n ≤ 1048576) (w : World) (hR : RdI w b off l) (hR' : RdI w b' off' l) :
    Calls Try.prog 31 #[.slice (some ⟨b, off, none⟩) n c, .slice (some ⟨b', off', none⟩) n c'] w fun e w' => e = .returned (.bool true) ∧ Below w.heap.size w w' := by
  go_enter Try.func31, Try.ntmps31
  go_wp2_with fail
  go_loopw [5] (fun i wr => ∃ k : Nat, k ≤ n ∧ i = .int .i64 k ∧ Below w.heap.size w wr) (fun i _ => n - (intOf i).toNat)
  case atStart => exact ⟨0, by omega, rfl, Below.refl _ _⟩
  case round =>
    obtain ⟨k, hk, rfl, hbel⟩ := hrel
    by_cases hlt : k < n
    · obtain ⟨t, ht⟩ : ∃ t, l[k]? = some t := ⟨_, List.getElem?_eq_getElem (by omega)⟩
      have c0 := (hR.below hbel).2 k t ht
      have c1 := (hR'.below hbel).2 k t ht
      clear ht
      go_wp2_with fail
      go_quiet (fail)
      go_wp2
      exact ⟨⟨k + 1, by omega, by go_num, (by repeat' (first | exact Below.refl _ _ | assumption | exact And.left (by assumption) | omega | (simp; done) | (simp; omega) | (simp at *; omega) | (refine Below.setCell ?_ ?_ _) | (refine below_alloc0 ?_ _) | (refine Below.drew ?_) | (refine below_drewN ?_ _) | (refine below_via0 ?_ (by assumption)) | (refine Below.alloc ?_ ?_ _) | (refine below_via ?_ (by assumption) ?_)))⟩, by simp [intOf]; omega⟩
    · obtain rfl : k = n := by omega
      go_wp2
      go_ret
      exact ⟨rfl, (by repeat' (first | exact Below.refl _ _ | assumption | exact And.left (by assumption) | omega | (simp; done) | (simp; omega) | (simp at *; omega) | (refine Below.setCell ?_ ?_ _) | (refine below_alloc0 ?_ _) | (refine Below.drew ?_) | (refine below_drewN ?_ _) | (refine below_via0 ?_ (by assumption)) | (refine Below.alloc ?_ ?_ _) | (refine below_via ?_ (by assumption) ?_)))⟩

def mkI (k0 n : Nat) : List Int := (List.range n).map fun i => ((k0 + i : Nat) : Int)
theorem mkI_get {k0 n k : Nat} (h : k < n) : (mkI k0 n)[k]? = some ((k0 + k : Nat) : Int) := by simp [mkI, h]
theorem mkI_len (k0 n : Nat) : (mkI k0 n).length = n := by simp [mkI]
def doneI (l : List Int) (k : Nat) (j : Nat) : Option Value := if j < k then (l[j]?).map (.int .i64) else none
theorem RdI_of_row {w : World} {g n m : Nat} {l : List Int} (h : Row w g m (doneI l n)) (hl : l.length = n) : RdI w g 0 l := by
  refine ⟨h.lt, fun k x hx => ?_⟩
  have hk : k < n := by rw [← hl]; exact (List.getElem?_eq_some_iff.1 hx).1
  rw [Nat.zero_add]
  exact h.cell (by simp [doneI, hk, hx])
theorem row_nextI {w : World} {g n k m : Nat} {l : List Int} {x : Int} (h : Row w g m (doneI l k)) (hm : n ≤ m) (hk : k < n) (hx : l[k]? = some x) :
    Row (w.setCell ⟨g, k, none⟩ (.int .i64 x)) g m (doneI l (k + 1)) := by
  refine (h.set k _).mono fun j u hj => ?_
  simp only [doneI] at hj ⊢
  split at hj
  · by_cases e0 : j = k
    · subst e0
      rw [if_pos rfl, if_pos (by omega), ← hj, hx]; simp
    · rw [if_neg e0, if_pos (by omega)]; exact hj
  · cases hj
set_option maxHeartbeats 1000000 in
theorem markI_c (g n c m k0 : Nat) (hn : n ≤ 1048576) (h0 : k0 ≤ 100000000) (w : World) (hm : n ≤ m) (hR : Row w g m (fun _ => none)) :
    Calls Try.prog 32 #[.slice (some ⟨g, 0, none⟩) n c, .int .i64 k0] w fun e w' => e = .returned (.int .i64 (k0 + n)) ∧ Off g w w' ∧ Row w' g m (doneI (mkI k0 n) n) := by
  go_enter Try.func32, Try.ntmps32
  go_wp2_with fail
  go_loopw [1, 5] (fun q i wr => ∃ k : Nat, k ≤ n ∧ q = .int .i64 ((k0 : Int) + k) ∧ i = .int .i64 k ∧ Row wr g m (doneI (mkI k0 n) k) ∧ Off g w wr) (fun _ i _ => n - (intOf i).toNat)
  case atStart => exact ⟨0, by omega, by simp, rfl, hR.mono (fun j u hj => by simp [doneI] at hj), Off.refl _ _⟩
  case round =>
    obtain ⟨k, hk, rfl, rfl, hrow, hoff⟩ := hrel
    by_cases hlt : k < n
    · have HT := hide (mkI_get (k0 := k0) hlt)
      have g1 := hrow.lt
      obtain ⟨x0, gs0⟩ := hrow.some_ex (j := k) (by omega)
      have gf0 := hrow.frozen k
      go_wp2_with fail
      have hnx := row_nextI hrow hm hlt HT.out
      rw [show ((k0 + k : Nat) : Int) = (k0 : Int) + k by omega] at hnx
      refine ⟨⟨k + 1, hlt, congrArg (Value.int .i64) (by omega), congrArg (Value.int .i64) (by omega), ?_, ?_⟩, by simp [intOf]; omega⟩
      · exact hnx
      · exact hoff.setCell _ _
    · obtain rfl : k = n := by omega
      go_wp2
      go_ret
      exact ⟨rfl, hoff, hrow⟩

set_option maxHeartbeats 1000000 in
theorem heldI_c (b off n c k0 : Nat) (hn : n ≤ 1048576) (h0 : k0 ≤ 100000000) (w : World) (hR : RdI w b off (mkI k0 n)) :
    Calls Try.prog 33 #[.slice (some ⟨b, off, none⟩) n c, .int .i64 k0] w fun e w' => e = .returned (.int .i64 (k0 + n)) ∧ Below w.heap.size w w' := by
  go_enter Try.func33, Try.ntmps33
  go_wp2_with fail
  go_loopw [1, 5] (fun q i wr => ∃ k : Nat, k ≤ n ∧ q = .int .i64 ((k0 : Int) + k) ∧ i = .int .i64 k ∧ Below w.heap.size w wr) (fun _ i _ => n - (intOf i).toNat)
  case atStart => exact ⟨0, by omega, by simp, rfl, Below.refl _ _⟩
  case round =>
    obtain ⟨k, hk, rfl, rfl, hbel⟩ := hrel
    by_cases hlt : k < n
    · have c0 := (hR.below hbel).2 k _ (mkI_get hlt)
      rw [show ((k0 + k : Nat) : Int) = (k0 : Int) + k by omega] at c0
      go_wp2_with fail
      exact ⟨⟨k + 1, hlt, congrArg (Value.int .i64) (by omega), congrArg (Value.int .i64) (by omega), (by repeat' (first | exact Below.refl _ _ | assumption | exact And.left (by assumption) | omega | (simp; done) | (simp; omega) | (simp at *; omega) | (refine Below.setCell ?_ ?_ _) | (refine below_alloc0 ?_ _) | (refine Below.drew ?_) | (refine below_drewN ?_ _) | (refine below_via0 ?_ (by assumption)) | (refine Below.alloc ?_ ?_ _) | (refine below_via ?_ (by assumption) ?_)))⟩, by simp [intOf]; omega⟩
    · obtain rfl : k = n := by omega
      go_wp2
      go_ret
      exact ⟨rfl, (by repeat' (first | exact Below.refl _ _ | assumption | exact And.left (by assumption) | omega | (simp; done) | (simp; omega) | (simp at *; omega) | (refine Below.setCell ?_ ?_ _) | (refine below_alloc0 ?_ _) | (refine Below.drew ?_) | (refine below_drewN ?_ _) | (refine below_via0 ?_ (by assumption)) | (refine Below.alloc ?_ ?_ _) | (refine below_via ?_ (by assumption) ?_)))⟩
end Go.Proofs.Ytnpgofmihmjmeaa
