/-
  Marking slices of strings and of ints, and finding the marks again. No condition.
-/
import Derived.Test.YtncjghmjlcohjaaProg
import Derived.Test.YtncjghmjlcohjaaMtx
namespace Go.Proofs.Ytncjghmjlcohjaa
open Go.RowKit
set_option linter.unusedSimpArgs false
set_option linter.unusedVariables false

/-- All that lay there, but for the blocks of P, is as it was. -/
def OffP (P : Nat → Prop) (w w' : World) : Prop := Below 0 w w' ∧ ∀ b, b < w.heap.size → ¬ P b → w'.heap[b]? = w.heap[b]?
theorem OffP.ofBelow {P : Nat → Prop} {w w' : World} (h : Below w.heap.size w w') : OffP P w w' := ⟨h.mono (Nat.zero_le _), fun b hb _ => h.block b hb⟩
theorem OffP.refl (P : Nat → Prop) (w : World) : OffP P w w := ⟨Below.refl _ _, fun _ _ _ => rfl⟩
theorem OffP.trans {P : Nat → Prop} {w w1 w2 : World} (h : OffP P w w1) (h' : OffP P w1 w2) : OffP P w w2 :=
  ⟨h.1.trans h'.1, fun b hb hP => (h'.2 b (Nat.lt_of_lt_of_le hb h.1.size) hP).trans (h.2 b hb hP)⟩
theorem OffP.mono {P Q : Nat → Prop} {w w' : World} (h : OffP P w w') (hPQ : ∀ b, P b → Q b) : OffP Q w w' := ⟨h.1, fun b hb hq => h.2 b hb fun hp => hq (hPQ b hp)⟩
theorem OffP.setCell {P : Nat → Prop} {g o : Nat} {w w' : World} (h : OffP P w w') (hg : P g) (v : Value) : OffP P w (w'.setCell ⟨g, o, none⟩ v) :=
  ⟨h.1.setCell (p := ⟨g, o, none⟩) (Nat.zero_le _) v, fun b hb hp => (Below.heap_setCell w' ⟨g, o, none⟩ v b (fun e => hp (show P b from (show b = g from e) ▸ hg))).trans (h.2 b hb hp)⟩
theorem OffP.below {P : Nat → Prop} {B : Nat} {w0 w w' : World} (h : OffP P w w') (hb : Below B w0 w) (hB : ∀ b, P b → B ≤ b) (hs : B ≤ w.heap.size) : Below B w0 w' :=
  hb.trans ⟨h.1.os, h.1.tape, h.1.output, h.1.size, fun b hb => h.2 b (by omega) fun ha => by have := hB b ha; omega⟩
theorem OffP.row {P : Nat → Prop} {w w' : World} {g n : Nat} {f : Nat → Option Value} (h : OffP P w w') (hg : ¬ P g) (hr : Row w g n f) : Row w' g n f := hr.keep (h.2 g hr.lt hg)
theorem OffP.cell {P : Nat → Prop} {w w' : World} {b o : Nat} (h : OffP P w w') (hg : ¬ P b) (hl : b < w.heap.size) : w'.cell? ⟨b, o, none⟩ = w.cell? ⟨b, o, none⟩ := by
  simp [World.cell?, h.2 b hl hg]
/-- The block that a slice of n cells writes to. -/
def Spot (A : Option Addr) (n : Nat) (b : Nat) : Prop := 0 < n ∧ ∃ a, A = some a ∧ a.block = b
theorem spot_some {g n c : Nat} (h : 0 < n) : Spot (some ⟨g, 0, none⟩) n g := ⟨h, _, rfl, rfl⟩
/-- It may be written. -/
def Wr (w : World) (A : Option Addr) (n : Nat) : Prop := 0 < n → ∃ g m, A = some ⟨g, 0, none⟩ ∧ n ≤ m ∧ Row w g m (fun _ => none)
def mkS (k n : Nat) : List ByteArray := (List.range n).map fun i => mtx (k + i)
def mkI (k n : Nat) : List Int := (List.range n).map fun i => ((k + i : Nat) : Int)
theorem mkS_len (k n : Nat) : (mkS k n).length = n := by simp [mkS]
theorem mkI_len (k n : Nat) : (mkI k n).length = n := by simp [mkI]
theorem mkS_get {k n i : Nat} (h : i < n) : (mkS k n)[i]? = some (mtx (k + i)) := by simp [mkS, h]
theorem mkI_get {k n i : Nat} (h : i < n) : (mkI k n)[i]? = some ((k + i : Nat) : Int) := by simp [mkI, h]
theorem row_nextSm {w : World} {g n k m : Nat} {l : List ByteArray} {x : ByteArray} (h : Row w g m (doneString l k)) (hm : n ≤ m) (hk : k < n) (hx : l[k]? = some x) : Row (w.setCell ⟨g, k, none⟩ (.string x)) g m (doneString l (k + 1)) := by
  refine (h.set k _).mono fun j u hj => ?_
  simp only [doneString] at hj ⊢
  split at hj
  · by_cases e : j = k
    · subst e
      rw [if_pos rfl, if_pos (by omega), ← hj, hx]; rfl
    · rw [if_neg e, if_pos (by omega)]; exact hj
  · cases hj
theorem row_nextIm {w : World} {g n k m : Nat} {l : List Int} {x : Int} (h : Row w g m (doneInt l k)) (hm : n ≤ m) (hk : k < n) (hx : l[k]? = some x) : Row (w.setCell ⟨g, k, none⟩ (.int .i64 x)) g m (doneInt l (k + 1)) := by
  refine (h.set k _).mono fun j u hj => ?_
  simp only [doneInt] at hj ⊢
  split at hj
  · by_cases e : j = k
    · subst e
      rw [if_pos rfl, if_pos (by omega), ← hj, hx]; rfl
    · rw [if_neg e, if_pos (by omega)]; exact hj
  · cases hj
theorem rdSm {w : World} {g n m : Nat} {l : List ByteArray} (h : Row w g m (doneString l n)) (hl : l.length = n) : RdString w g 0 l := by
  refine ⟨h.lt, fun k x hx => h.cell ?_⟩
  have hk : k < n := by rw [← hl]; exact (List.getElem?_eq_some_iff.1 hx).1
  simp only [doneString]
  rw [if_pos (by omega), Nat.zero_add, hx]
  rfl
theorem rdIm {w : World} {g n m : Nat} {l : List Int} (h : Row w g m (doneInt l n)) (hl : l.length = n) : RdInt w g 0 l := by
  refine ⟨h.lt, fun k x hx => h.cell ?_⟩
  have hk : k < n := by rw [← hl]; exact (List.getElem?_eq_some_iff.1 hx).1
  simp only [doneInt]
  rw [if_pos (by omega), Nat.zero_add, hx]
  rfl
set_option maxHeartbeats 1000000 in
theorem markString_c (A : Option Addr) (n c k0 : Nat) (hn : n ≤ 1048576) (h0 : k0 ≤ 100000000000000) (w : World) (hW : Wr w A n) :
    Calls Try.prog 44 #[.slice A n c, .int .i64 k0] w fun e w' => e = .returned (.int .i64 ((k0 + n : Nat) : Int)) ∧ OffP (Spot A n) w w' ∧ InString w' A n (mkS k0 n) := by
  rcases Nat.eq_zero_or_pos n with rfl | hp
  · clear hW
    have HE := hide (show InString w A 0 (mkS k0 0) from ⟨rfl, fun h => absurd h (by omega)⟩)
    have HO := hide (OffP.refl (Spot A 0) w)
    go_enter Try.func44, Try.ntmps44
    go_wp2_with fail
    go_loopw [1, 5] (fun q i wr => q = .int .i64 (k0 : Int) ∧ i = .int .i64 0 ∧ wr = w) (fun _ _ _ => 0)
    case atStart => exact ⟨rfl, rfl, rfl⟩
    case round =>
      obtain ⟨rfl, rfl, rfl⟩ := hrel
      go_wp2
      go_ret
      exact ⟨rfl, HO.out, HE.out⟩
  obtain ⟨g, m, rfl, hm, hR⟩ := hW hp
  have HS := hide (spot_some (g := g) (c := c) hp)
  clear hW
  go_enter Try.func44, Try.ntmps44
  go_wp2_with fail
  go_loopw [1, 5] (fun q i wr => ∃ k : Nat, k ≤ n ∧ q = .int .i64 ((k0 : Int) + k) ∧ i = .int .i64 k ∧ Row wr g m (doneString (mkS k0 n) k) ∧ Hid (OffP (Spot (some ⟨g, 0, none⟩) n) w wr)) (fun _ i _ => n - (intOf i).toNat)
  case atStart => exact ⟨0, by omega, by simp, rfl, hR.mono (fun j u hj => by simp [doneString] at hj), OffP.refl _ _⟩
  case round =>
    obtain ⟨k, hk, rfl, rfl, hrow, hoff⟩ := hrel
    by_cases hlt : k < n
    · have HT := hide (mkS_get (k := k0) hlt)
      have hkc := hide (show (k0 : Int) + k = ((k0 + k : Nat) : Int) by omega)
      go_wp2_with fail
      rw [hkc.out]
      refine (markText_c (k0 + k) (by omega) _).mono ?_
      rintro e w1 ⟨rfl, hb⟩
      have H1 := hide (hoff.out.trans (OffP.ofBelow hb))
      have R1 := hrow.below hb hrow.lt
      have g1 := R1.lt
      obtain ⟨x0, gs0⟩ := R1.some_ex (j := k) (by omega)
      have gf0 := R1.frozen k
      clear hrow hb
      go_wp2_with fail
      have hnx := row_nextSm R1 hm hlt HT.out
      refine ⟨⟨k + 1, hlt, congrArg (Value.int .i64) (by omega), congrArg (Value.int .i64) (by omega), hnx, H1.out.setCell HS.out _⟩, by simp [intOf]; omega⟩
    · obtain rfl : k = n := by omega
      have HZ := hide (show InString wr (some ⟨g, 0, none⟩) k (mkS k0 k) from ⟨mkS_len _ _, fun _ => ⟨g, 0, rfl, rdSm hrow (mkS_len _ _)⟩⟩)
      clear hrow
      go_wp2
      go_ret
      exact ⟨rfl, hoff.out, HZ.out⟩
set_option maxHeartbeats 1000000 in
theorem markInt_c (A : Option Addr) (n c k0 : Nat) (hn : n ≤ 1048576) (h0 : k0 ≤ 100000000000000) (w : World) (hW : Wr w A n) :
    Calls Try.prog 27 #[.slice A n c, .int .i64 k0] w fun e w' => e = .returned (.int .i64 ((k0 + n : Nat) : Int)) ∧ OffP (Spot A n) w w' ∧ InInt w' A n (mkI k0 n) := by
  rcases Nat.eq_zero_or_pos n with rfl | hp
  · clear hW
    have HE := hide (show InInt w A 0 (mkI k0 0) from ⟨rfl, fun h => absurd h (by omega)⟩)
    have HO := hide (OffP.refl (Spot A 0) w)
    go_enter Try.func27, Try.ntmps27
    go_wp2_with fail
    go_loopw [1, 5] (fun q i wr => q = .int .i64 (k0 : Int) ∧ i = .int .i64 0 ∧ wr = w) (fun _ _ _ => 0)
    case atStart => exact ⟨rfl, rfl, rfl⟩
    case round =>
      obtain ⟨rfl, rfl, rfl⟩ := hrel
      go_wp2
      go_ret
      exact ⟨rfl, HO.out, HE.out⟩
  obtain ⟨g, m, rfl, hm, hR⟩ := hW hp
  have HS := hide (spot_some (g := g) (c := c) hp)
  clear hW
  go_enter Try.func27, Try.ntmps27
  go_wp2_with fail
  go_loopw [1, 5] (fun q i wr => ∃ k : Nat, k ≤ n ∧ q = .int .i64 ((k0 : Int) + k) ∧ i = .int .i64 k ∧ Row wr g m (doneInt (mkI k0 n) k) ∧ Hid (OffP (Spot (some ⟨g, 0, none⟩) n) w wr)) (fun _ i _ => n - (intOf i).toNat)
  case atStart => exact ⟨0, by omega, by simp, rfl, hR.mono (fun j u hj => by simp [doneInt] at hj), OffP.refl _ _⟩
  case round =>
    obtain ⟨k, hk, rfl, rfl, hrow, hoff⟩ := hrel
    by_cases hlt : k < n
    · have HT := hide (mkI_get (k := k0) hlt)
      have g1 := hrow.lt
      obtain ⟨x0, gs0⟩ := hrow.some_ex (j := k) (by omega)
      have gf0 := hrow.frozen k
      go_wp2_with fail
      have hnx := row_nextIm hrow hm hlt HT.out
      rw [show ((k0 + k : Nat) : Int) = (k0 : Int) + k by omega] at hnx
      refine ⟨⟨k + 1, hlt, congrArg (Value.int .i64) (by omega), congrArg (Value.int .i64) (by omega), hnx, hoff.out.setCell HS.out _⟩, by simp [intOf]; omega⟩
    · obtain rfl : k = n := by omega
      have HZ := hide (show InInt wr (some ⟨g, 0, none⟩) k (mkI k0 k) from ⟨mkI_len _ _, fun _ => ⟨g, 0, rfl, rdIm hrow (mkI_len _ _)⟩⟩)
      clear hrow
      go_wp2
      go_ret
      exact ⟨rfl, hoff.out, HZ.out⟩
set_option maxHeartbeats 1000000 in
theorem heldInt_c (A : Option Addr) (n c k0 : Nat) (hn : n ≤ 1048576) (h0 : k0 ≤ 100000000000000) (w : World) (hI : InInt w A n (mkI k0 n)) :
    Calls Try.prog 28 #[.slice A n c, .int .i64 k0] w fun e w' => e = .returned (.int .i64 ((k0 + n : Nat) : Int)) ∧ Below w.heap.size w w' := by
  have HI := hide hI
  clear hI
  go_enter Try.func28, Try.ntmps28
  go_wp2_with fail
  go_loopw [1, 5] (fun q i wr => ∃ k : Nat, k ≤ n ∧ q = .int .i64 ((k0 : Int) + k) ∧ i = .int .i64 k ∧ Below w.heap.size w wr) (fun _ i _ => n - (intOf i).toNat)
  case atStart => exact ⟨0, by omega, by simp, rfl, Below.refl _ _⟩
  case round =>
    obtain ⟨k, hk, rfl, rfl, hbel⟩ := hrel
    by_cases hlt : k < n
    · obtain ⟨b, off, hA0, hR⟩ := HI.out.2 (by omega)
      subst hA0
      have c0 := (hR.below hbel).2 k _ (mkI_get hlt)
      rw [show ((k0 + k : Nat) : Int) = (k0 : Int) + k by omega] at c0
      clear hR
      go_wp2_with fail
      exact ⟨⟨k + 1, hlt, congrArg (Value.int .i64) (by omega), congrArg (Value.int .i64) (by omega), (by repeat' (first | exact Below.refl _ _ | assumption | exact And.left (by assumption) | omega | (simp; done) | (simp; omega) | (simp at *; omega) | (refine Below.setCell ?_ ?_ _) | (refine below_alloc0 ?_ _) | (refine Below.drew ?_) | (refine below_drewN ?_ _) | (refine below_via0 ?_ (by assumption)) | (refine Below.alloc ?_ ?_ _) | (refine below_via ?_ (by assumption) ?_)))⟩, by simp [intOf]; omega⟩
    · obtain rfl : k = n := by omega
      go_wp2
      go_ret
      exact ⟨rfl, (by repeat' (first | exact Below.refl _ _ | assumption | exact And.left (by assumption) | omega | (simp; done) | (simp; omega) | (simp at *; omega) | (refine Below.setCell ?_ ?_ _) | (refine below_alloc0 ?_ _) | (refine Below.drew ?_) | (refine below_drewN ?_ _) | (refine below_via0 ?_ (by assumption)) | (refine Below.alloc ?_ ?_ _) | (refine below_via ?_ (by assumption) ?_)))⟩
set_option maxHeartbeats 1000000 in
theorem heldString_c (A : Option Addr) (n c k0 : Nat) (hn : n ≤ 1048576) (h0 : k0 ≤ 100000000000000) (w : World) (hI : InString w A n (mkS k0 n)) :
    Calls Try.prog 47 #[.slice A n c, .int .i64 k0] w fun e w' => e = .returned (.int .i64 ((k0 + n : Nat) : Int)) ∧ Below w.heap.size w w' := by
  have HI := hide hI
  clear hI
  go_enter Try.func47, Try.ntmps47
  go_wp2_with fail
  go_loopw [1, 5] (fun q i wr => ∃ k : Nat, k ≤ n ∧ q = .int .i64 ((k0 + k : Nat) : Int) ∧ i = .int .i64 k ∧ Hid (Below w.heap.size w wr)) (fun _ i _ => n - (intOf i).toNat)
  case atStart => exact ⟨0, by omega, by simp, rfl, Below.refl _ _⟩
  case round =>
    obtain ⟨k, hk, rfl, rfl, hbel⟩ := hrel
    by_cases hlt : k < n
    · obtain ⟨b, off, hA0, hR⟩ := HI.out.2 (by omega)
      subst hA0
      have c0 := (hR.below hbel.out).2 k _ (mkS_get hlt)
      have hb1 := (hR.below hbel.out).1
      clear hR
      generalize hX : mtx (k0 + k) = X at c0
      have HX := hide hX
      clear hX
      go_wp2_with fail
      go_region_held3 (fun w' => Below wr.heap.size wr w' ∧ b < w'.heap.size ∧ w'.cell? ⟨b, off + k, none⟩ = some (.string X))
        (first | (have L1 := live hb1 b (by omega); refine ⟨(by repeat' (first | exact Below.refl _ _ | assumption | exact And.left (by assumption) | omega | (simp; done) | (simp; omega) | (simp at *; omega) | (refine Below.setCell ?_ ?_ _) | (refine below_alloc0 ?_ _) | (refine Below.drew ?_) | (refine below_drewN ?_ _) | (refine below_via0 ?_ (by assumption)) | (refine Below.alloc ?_ ?_ _) | (refine below_via ?_ (by assumption) ?_))), ?_⟩; simp [*]; done) | (refine ⟨(by repeat' (first | exact Below.refl _ _ | assumption | exact And.left (by assumption) | omega | (simp; done) | (simp; omega) | (simp at *; omega) | (refine Below.setCell ?_ ?_ _) | (refine below_alloc0 ?_ _) | (refine Below.drew ?_) | (refine below_drewN ?_ _) | (refine below_via0 ?_ (by assumption)) | (refine Below.alloc ?_ ?_ _) | (refine below_via ?_ (by assumption) ?_))), ?_⟩; simp [go_sem]; done) | (refine ⟨(by repeat' (first | exact Below.refl _ _ | assumption | exact And.left (by assumption) | omega | (simp; done) | (simp; omega) | (simp at *; omega) | (refine Below.setCell ?_ ?_ _) | (refine below_alloc0 ?_ _) | (refine Below.drew ?_) | (refine below_drewN ?_ _) | (refine below_via0 ?_ (by assumption)) | (refine Below.alloc ?_ ?_ _) | (refine below_via ?_ (by assumption) ?_))), ?_⟩; simp [go_sem, *]; done) | assumption | go_keep)
        (first | (go_at_call 43; refine (markText_c (k0 + k) (by omega) _).mono ?_; rintro e w1 ⟨rfl, hb1⟩; rw [HX.out]))
      have bel1 : Below wr.heap.size wr _ := And.left (by assumption)
      have bel2 := hide (below_via0 hbel.out bel1)
      go_wp2_with fail
      exact ⟨⟨k + 1, hlt, congrArg (Value.int .i64) (by omega), congrArg (Value.int .i64) (by omega), bel2⟩, by simp [intOf]; omega⟩
    · obtain rfl : k = n := by omega
      go_wp2
      go_ret
      exact ⟨rfl, hbel.out⟩
end Go.Proofs.Ytncjghmjlcohjaa
