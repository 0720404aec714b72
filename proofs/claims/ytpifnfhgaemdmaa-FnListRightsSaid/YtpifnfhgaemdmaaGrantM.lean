/-
  A slice of Grant of one's own: its copy, marking, being held; empty ones. No condition.
-/
import Derived.Test.YtpifnfhgaemdmaaProg
import Derived.Test.YtpifnfhgaemdmaaGrantO
import Derived.Test.YtpifnfhgaemdmaaLstE
namespace Go.Proofs.Ytpifnfhgaemdmaa
open Go.RowKit
set_option linter.unusedSimpArgs false
set_option linter.unusedVariables false

/-- All that lay there, but for the block of the slice, is as it was. -/
def Offs (A : Option Addr) (w w' : World) : Prop := Below 0 w w' ∧ ∀ b, b < w.heap.size → (∀ a, A = some a → b ≠ a.block) → w'.heap[b]? = w.heap[b]?
theorem Offs.ofBelow {A : Option Addr} {w w' : World} (h : Below w.heap.size w w') : Offs A w w' := ⟨h.mono (Nat.zero_le _), fun b hb _ => h.block b hb⟩
theorem Offs.refl (A : Option Addr) (w : World) : Offs A w w := ⟨Below.refl _ _, fun _ _ _ => rfl⟩
theorem Offs.setCell {g : Nat} {o : Nat} {w w' : World} (h : Offs (some ⟨g, 0, none⟩) w w') (v : Value) : Offs (some ⟨g, 0, none⟩) w (w'.setCell ⟨g, o, none⟩ v) :=
  ⟨h.1.setCell (p := ⟨g, o, none⟩) (Nat.zero_le _) v, fun b hb hg => (Below.heap_setCell w' ⟨g, o, none⟩ v b (hg ⟨g, 0, none⟩ rfl)).trans (h.2 b hb hg)⟩
theorem Offs.below {A : Option Addr} {B : Nat} {w0 w w' : World} (h : Offs A w w') (hb : Below B w0 w) (hB : ∀ a, A = some a → B ≤ a.block) (hs : B ≤ w.heap.size) : Below B w0 w' :=
  hb.trans ⟨h.1.os, h.1.tape, h.1.output, h.1.size, fun b hb => h.2 b (by omega) fun a ha => by have := hB a ha; omega⟩
/-- A slice of one's own, made at the size B or later; or nil. -/
def OwnSG (w : World) (B n c : Nat) (A : Option Addr) (l : List Grant) : Prop :=
  (A = none ∧ n = 0 ∧ c = 0) ∨ ∃ g m, A = some ⟨g, 0, none⟩ ∧ B ≤ g ∧ n ≤ c ∧ c ≤ maxLen ∧ m = c * 3 ∧ Row w g m (doneGrant l n) ∧ TyG w g
section
variable {w w' : World} {B n c : Nat} {A A' : Option Addr} {l : List Grant}
theorem OwnSG.ge (h : OwnSG w B n c A l) : ∀ a, A = some a → B ≤ a.block := by
  rintro a rfl
  rcases h with ⟨h, _⟩ | ⟨g, m, h, hB, _⟩
  · cases h
  · cases h; exact hB
theorem OwnSG.lt (h : OwnSG w B n c A l) : ∀ a, A = some a → a.block < w.heap.size := by
  rintro a rfl
  rcases h with ⟨h, _⟩ | ⟨g, m, h, hB, _, _, _, hr, _⟩
  · cases h
  · cases h; exact hr.lt
theorem OwnSG.cap (h : OwnSG w B n c A l) : n ≤ c ∧ c ≤ maxLen := by
  rcases h with ⟨_, h1, h2⟩ | ⟨g, m, _, _, h1, h2, _⟩
  · exact ⟨by omega, by omega⟩
  · exact ⟨h1, h2⟩
theorem OwnSG.mono {B' : Nat} (h : OwnSG w B n c A l) (hB : B' ≤ B) : OwnSG w B' n c A l := by
  rcases h with h | ⟨g, m, h1, h2, h3⟩
  · exact .inl h
  · exact .inr ⟨g, m, h1, Nat.le_trans hB h2, h3⟩
theorem OwnSG.offs (h : OwnSG w B n c A l) (ho : Offs A' w w') (hap : ∀ a a', A = some a → A' = some a' → a.block ≠ a'.block) : OwnSG w' B n c A l := by
  rcases h with h | ⟨g, m, rfl, h2, h3, h4, h5, h6, h7⟩
  · exact .inl h
  · exact .inr ⟨g, m, rfl, h2, h3, h4, h5, h6.keep (ho.2 g h6.lt fun a ha => hap _ a rfl ha), h7.keep (ho.2 g h6.lt fun a ha => hap _ a rfl ha)⟩
theorem OwnSG.below (h : OwnSG w B n c A l) (hb : Below w.heap.size w w') : OwnSG w' B n c A l := h.offs (Offs.ofBelow (A := none) hb) (by intro a a' _ h; cases h)
theorem OwnSG.ins (h : OwnSG w B n c A l) (hl : l.length = n) : InGrant w A n l := by
  rcases h with ⟨_, h1, _⟩ | ⟨g, m, rfl, h2, h3, h4, h5, h6, _⟩
  · exact ⟨hl, fun h => absurd h (by omega)⟩
  · exact ⟨hl, fun _ => ⟨g, 0, rfl, RdGrant_of_rowm h6 hl⟩⟩
/-- It may be appended to. -/
theorem OwnSG.own {w : World} {B n c : Nat} {A : Option Addr} {l : List Grant} (h : OwnSG w B n c A l) (hl : l.length = n) : w.ownsRow B 40 3 (.slice A n c) n (flatG l) := by
  refine ⟨by rw [flatG_len, hl], ?_⟩
  rcases h with ⟨rfl, rfl, rfl⟩ | ⟨g, m, rfl, h2, h3, h4, rfl, ⟨C, T, hC, hs, hf⟩, ⟨D, hD⟩⟩
  · obtain rfl := List.eq_nil_of_length_eq_zero hl
    exact .inl ⟨rfl, rfl⟩
  · rw [hC] at hD
    simp only [Option.some.injEq, Obj.cells.injEq, and_true] at hD
    obtain ⟨rfl, rfl⟩ := hD
    refine .inr ⟨g, c, C, rfl, h2, hC, h3, h4, hs, ?_⟩
    refine List.ext_getElem? fun j => ?_
    rw [List.getElem?_take]
    by_cases hj : j < n * 3
    · rw [if_pos hj]
      obtain ⟨t, ht⟩ : ∃ t, l[j / 3]? = some t := ⟨_, List.getElem?_eq_getElem (by rw [hl]; omega)⟩
      have hu : ∃ u, cellGrant l j = some u := ⟨_, by simp only [cellGrant, ht, Option.map_some]; rfl⟩
      obtain ⟨u, hu⟩ := hu
      have h9 := hf j u (by simp only [doneGrant]; rw [if_pos hj]; exact hu)
      rw [flatG_get, hu, Array.getElem?_toList]
      exact h9
    · rw [if_neg hj]
      refine (List.getElem?_eq_none ?_).symm
      rw [flatG_len, hl]; omega
theorem ownSG_of {w : World} {B n : Nat} {v : Value} {l : List Grant} (h : w.ownsRow B 40 3 v n (flatG l)) (hl : l.length = n) : ∃ (A : Option Addr) (c : Nat), v = .slice A n c ∧ OwnSG w B n c A l := by
  rcases h.2 with ⟨h1, h2⟩ | ⟨g, cap, cur, h1, _⟩
  · have hn : n = 0 := by
      have := h.1
      rw [h2] at this
      simp at this
      omega
    subst hn
    exact ⟨none, 0, h1, .inl ⟨rfl, rfl, rfl⟩⟩
  · subst h1
    obtain ⟨g', cap', m, hv, h2, h3, h4, h5, h6⟩ := ownG_of hl h (by simp)
    obtain ⟨rfl, rfl⟩ : g = g' ∧ cap = cap' := by simpa using hv
    exact ⟨_, _, rfl, .inr ⟨g, m, rfl, h2, h3, h4, h5, h6, ownG_ty h⟩⟩
end
set_option maxHeartbeats 1000000 in
theorem toGrantR_c (A : Option Addr) (n c : Nat) (l : List Grant) (w : World) (hA : InGrant w A n l) (hn : n ≤ 1048576) :
    Calls Try.prog 40 #[.slice A n c] w fun e w' => ∃ g, e = .returned (.slice (some ⟨g, 0, none⟩) n n) ∧ OwnSG w' w.heap.size n n (some ⟨g, 0, none⟩) l ∧ Below w.heap.size w w' := by
  obtain ⟨i0, hi0, hz0, hz1, hz2⟩ := info_parts infoGrant
  have hmk := fun W => run_make_rowN (P := Try.prog) 22 40 i0 _ Try.underlying22 hi0 hz0 .i64 .i64 n n (Nat.le_refl _) (by rw [hz2]; omega) (by omega) W
  rw [hz1] at hmk
  have hA' := hide hA
  clear hA
  go_enter Try.func40, Try.ntmps40
  go_wp2_with fail
  clear hmk
  generalize hW : w.alloc (.cells (madeCells #[.bool false, .int .i64 0, .int .i64 0] (n * 3)) 40) = W
  have hr0 : Row W w.heap.size (n * 3) (doneGrant l 0) := by
    rw [← hW]
    have := Row.made w 40 (madeCells #[.bool false, .int .i64 0, .int .i64 0] (n * 3)) (doneGrant l 0) (fun j u hj => by simp [doneGrant] at hj)
    rwa [size_madeCells] at this
  have hb0 : Below w.heap.size w W := by rw [← hW]; exact below_alloc0 (Below.refl _ _) _
  have hy0 : TyG W w.heap.size := by rw [← hW]; exact ⟨_, Below.heap_alloc_self w _⟩
  clear hW
  go_loopw [4] (fun i wr => ∃ k : Nat, k ≤ n ∧ i = .int .i64 k ∧ Row wr w.heap.size (n * 3) (doneGrant l k) ∧ Hid (TyG wr w.heap.size) ∧ Below w.heap.size w wr) (fun i _ => n - (intOf i).toNat)
  case atStart => exact ⟨0, by omega, rfl, hr0, hy0, hb0⟩
  case round =>
    obtain ⟨k, hk, rfl, hrow, hty, hbel⟩ := hrel
    by_cases hlt : k < n
    · obtain ⟨hl, hin⟩ := hA'.out
      obtain ⟨b, off, rfl, hR⟩ := hin (by omega)
      clear hin
      obtain ⟨t, ht⟩ : ∃ t, l[k]? = some t := ⟨_, List.getElem?_eq_getElem (by omega)⟩
      have HT := hide ht
      have hlb : b < wr.heap.size := Nat.lt_of_lt_of_le hR.1 hbel.size
      have c0 := (hR.below hbel).2 k t ht
      have HL := hide hl
      clear ht hl
      have g1 := hrow.lt
      obtain ⟨x0, gs0⟩ := hrow.some_ex (j := k * 3) (by omega)
      obtain ⟨x1, gs1⟩ := hrow.some_ex (j := k * 3 + 1) (by omega)
      obtain ⟨x2, gs2⟩ := hrow.some_ex (j := k * 3 + 2) (by omega)
      have gf0 := hrow.frozen (k * 3)
      have gf1 := hrow.frozen (k * 3 + 1)
      have gf2 := hrow.frozen (k * 3 + 2)
      go_wp2_with fail
      refine (toGrant_c _ _ _ _).mono ?_
      rintro e w1 ⟨rfl, hb1⟩
      have V1 := live hb1 w.heap.size (by omega)
      go_wp2_with fail
      refine ⟨⟨k + 1, by omega, by go_num, row_nextGrant (hrow.below hb1 g1) hlt HT.out, (((hty.out.below hb1).set _).set _).set _, (((hbel.trans (hb1.mono hbel.size)).setCell (p := ⟨w.heap.size, _, none⟩) (Nat.le_refl _) _).setCell (p := ⟨w.heap.size, _, none⟩) (Nat.le_refl _) _).setCell (p := ⟨w.heap.size, _, none⟩) (Nat.le_refl _) _⟩, by simp [intOf]; omega⟩
    · obtain rfl : k = n := by omega
      go_wp2
      go_ret
      exact ⟨w.heap.size, rfl, .inr ⟨_, k * 3, rfl, Nat.le_refl _, Nat.le_refl _, by unfold maxLen; omega, rfl, hrow, hty.out⟩, hbel⟩
/-- What marking lays. -/
def mkG (i : Nat) : Grant := ⟨false, 1 + 3 * (i : Int) + 1, 1 + 3 * (i : Int) + 1 + 1⟩
def mkLG (n : Nat) : List Grant := (List.range n).map mkG
theorem mkLG_get {n k : Nat} (h : k < n) : (mkLG n)[k]? = some (mkG k) := by simp [mkLG, h]
theorem mkLG_len (n : Nat) : (mkLG n).length = n := by simp [mkLG]
theorem remG (k : Nat) : (1 + 3 * (k : Int)).tmod 3 = 1 := by
  rw [Int.tmod_eq_emod_of_nonneg (by omega)]; omega
theorem row_nextGm {w : World} {g n k m : Nat} {l : List Grant} {t : Grant} (h : Row w g m (doneGrant l k)) (hm : n * 3 ≤ m) (hk : k < n) (ht : l[k]? = some t) :
    Row (((w.setCell ⟨g, k * 3, none⟩ (.bool t.ofGroup)).setCell ⟨g, k * 3 + 1, none⟩ (.int .i64 t.who)).setCell ⟨g, k * 3 + 2, none⟩ (.int .i64 t.rights)) g m (doneGrant l (k + 1)) := by
  refine (((h.set (k * 3) _).set (k * 3 + 1) _).set (k * 3 + 2) _).mono fun j u hj => ?_
  simp only [doneGrant] at hj ⊢
  split at hj
  · rename_i hlt
    by_cases e2 : j = k * 3 + 2
    · rw [if_pos e2, if_pos (by omega)]
      subst e2
      rw [← hj, cellGrant, show (k * 3 + 2) / 3 = k by omega, ht]; simp [show (k * 3 + 2) % 3 = 2 by omega]
    rw [if_neg e2]
    by_cases e1 : j = k * 3 + 1
    · rw [if_pos e1, if_pos (by omega)]
      subst e1
      rw [← hj, cellGrant, show (k * 3 + 1) / 3 = k by omega, ht]; simp [show (k * 3 + 1) % 3 = 1 by omega]
    rw [if_neg e1]
    by_cases e0 : j = k * 3
    · rw [if_pos e0, if_pos (by omega)]
      subst e0
      rw [← hj, cellGrant, show (k * 3) / 3 = k by omega, ht]; simp
    rw [if_neg e0]
    rw [if_pos (by omega)]; exact hj
  · cases hj
set_option maxRecDepth 100000 in
set_option maxHeartbeats 2000000 in
theorem markGrant_c (g n c m : Nat) (f : Nat → Option Value) (hn : n ≤ 1048576) (w : World) (hm : n * 3 ≤ m) (hR : Row w g m f) (hY : TyG w g) :
    Calls Try.prog 37 #[.slice (some ⟨g, 0, none⟩) n c, .int .i64 1] w fun e w' => e = .returned (.int .i64 (1 + 3 * n)) ∧ Offs (some ⟨g, 0, none⟩) w w' ∧ Row w' g m (doneGrant (mkLG n) n) ∧ TyG w' g := by
  go_enter Try.func37, Try.ntmps37
  go_wp2_with fail
  go_loopw [1, 5] (fun q i wr => ∃ k : Nat, k ≤ n ∧ q = .int .i64 (1 + 3 * (k : Int)) ∧ i = .int .i64 k ∧ Row wr g m (doneGrant (mkLG n) k) ∧ Hid (TyG wr g) ∧ Offs (some ⟨g, 0, none⟩) w wr) (fun _ i _ => n - (intOf i).toNat)
  case atStart => exact ⟨0, by omega, rfl, rfl, hR.mono (fun j u hj => by simp [doneGrant] at hj), hY, Offs.refl _ _⟩
  case round =>
    obtain ⟨k, hk, rfl, rfl, hrow, hty, hoff⟩ := hrel
    by_cases hlt : k < n
    · have HT := hide (mkLG_get hlt)
      have g1 := hrow.lt
      obtain ⟨x0, gs0⟩ := hrow.some_ex (j := k * 3) (by omega)
      obtain ⟨x1, gs1⟩ := hrow.some_ex (j := k * 3 + 1) (by omega)
      obtain ⟨x2, gs2⟩ := hrow.some_ex (j := k * 3 + 2) (by omega)
      have gf0 := hrow.frozen (k * 3)
      have gf1 := hrow.frozen (k * 3 + 1)
      have gf2 := hrow.frozen (k * 3 + 2)
      have hr := remG k
      go_wp2_with fail
      clear hr
      have hnx := row_nextGm hrow hm hlt HT.out
      simp only [mkG] at hnx
      refine ⟨⟨k + 1, hlt, congrArg (Value.int .i64) (by omega), congrArg (Value.int .i64) (by omega), ?_, ?_, ?_⟩, by simp [intOf]; omega⟩
      · exact hnx
      · exact ((hty.out.set _).set _).set _
      · exact ((hoff.setCell _).setCell _).setCell _
    · obtain rfl : k = n := by omega
      go_wp2
      go_ret
      exact ⟨rfl, hoff, hrow, hty.out⟩
set_option maxRecDepth 100000 in
set_option maxHeartbeats 2000000 in
theorem heldGrant_c (b off n c : Nat) (hn : n ≤ 1048576) (w : World) (hR : RdGrant w b off (mkLG n)) :
    Calls Try.prog 38 #[.slice (some ⟨b, off, none⟩) n c, .int .i64 1] w fun e w' => e = .returned (.int .i64 (1 + 3 * n)) ∧ Below w.heap.size w w' := by
  go_enter Try.func38, Try.ntmps38
  go_wp2_with fail
  go_loopw [1, 5] (fun q i wr => ∃ k : Nat, k ≤ n ∧ q = .int .i64 (1 + 3 * (k : Int)) ∧ i = .int .i64 k ∧ Below w.heap.size w wr) (fun _ i _ => n - (intOf i).toNat)
  case atStart => exact ⟨0, by omega, rfl, rfl, Below.refl _ _⟩
  case round =>
    obtain ⟨k, hk, rfl, rfl, hbel⟩ := hrel
    by_cases hlt : k < n
    · have c0 := (hR.below hbel).2 k _ (mkLG_get hlt)
      simp only [mkG] at c0
      have hr := remG k
      go_wp2_with fail
      clear hr
      exact ⟨⟨k + 1, hlt, congrArg (Value.int .i64) (by omega), congrArg (Value.int .i64) (by omega), (by repeat' (first | exact Below.refl _ _ | assumption | exact And.left (by assumption) | omega | (simp; done) | (simp; omega) | (simp at *; omega) | (refine Below.setCell ?_ ?_ _) | (refine below_alloc0 ?_ _) | (refine Below.drew ?_) | (refine below_drewN ?_ _) | (refine below_via0 ?_ (by assumption)) | (refine Below.alloc ?_ ?_ _) | (refine below_via ?_ (by assumption) ?_)))⟩, by simp [intOf]; omega⟩
    · obtain rfl : k = n := by omega
      go_wp2
      go_ret
      exact ⟨rfl, (by repeat' (first | exact Below.refl _ _ | assumption | exact And.left (by assumption) | omega | (simp; done) | (simp; omega) | (simp at *; omega) | (refine Below.setCell ?_ ?_ _) | (refine below_alloc0 ?_ _) | (refine Below.drew ?_) | (refine below_drewN ?_ _) | (refine below_via0 ?_ (by assumption)) | (refine Below.alloc ?_ ?_ _) | (refine below_via ?_ (by assumption) ?_)))⟩
theorem eqGrant_0 (A A' : Option Addr) (c c' : Nat) (w : World) :
    Calls Try.prog 36 #[.slice A (0 : Nat) c, .slice A' (0 : Nat) c'] w fun e w' => e = .returned (.bool true) ∧ Below w.heap.size w w' := by
  go_enter Try.func36, Try.ntmps36
  go_wp2_with fail
  go_loopw [5] (fun i wr => i = .int .i64 0 ∧ Below w.heap.size w wr) (fun i _ => 0)
  case atStart => exact ⟨rfl, Below.refl _ _⟩
  case round =>
    obtain ⟨rfl, hbel⟩ := hrel
    go_wp2
    go_ret
    exact ⟨rfl, (by repeat' (first | exact Below.refl _ _ | assumption | exact And.left (by assumption) | omega | (simp; done) | (simp; omega) | (simp at *; omega) | (refine Below.setCell ?_ ?_ _) | (refine below_alloc0 ?_ _) | (refine Below.drew ?_) | (refine below_drewN ?_ _) | (refine below_via0 ?_ (by assumption)) | (refine Below.alloc ?_ ?_ _) | (refine below_via ?_ (by assumption) ?_)))⟩
theorem markGrant_0 (A : Option Addr) (c : Nat) (w : World) :
    Calls Try.prog 37 #[.slice A (0 : Nat) c, .int .i64 1] w fun e w' => e = .returned (.int .i64 1) ∧ Below w.heap.size w w' := by
  go_enter Try.func37, Try.ntmps37
  go_wp2_with fail
  go_loopw [1, 5] (fun q i wr => q = .int .i64 1 ∧ i = .int .i64 0 ∧ Below w.heap.size w wr) (fun _ i _ => 0)
  case atStart => exact ⟨rfl, rfl, Below.refl _ _⟩
  case round =>
    obtain ⟨rfl, rfl, hbel⟩ := hrel
    go_wp2
    go_ret
    exact ⟨rfl, (by repeat' (first | exact Below.refl _ _ | assumption | exact And.left (by assumption) | omega | (simp; done) | (simp; omega) | (simp at *; omega) | (refine Below.setCell ?_ ?_ _) | (refine below_alloc0 ?_ _) | (refine Below.drew ?_) | (refine below_drewN ?_ _) | (refine below_via0 ?_ (by assumption)) | (refine Below.alloc ?_ ?_ _) | (refine below_via ?_ (by assumption) ?_)))⟩
theorem heldGrant_0 (A : Option Addr) (c : Nat) (w : World) :
    Calls Try.prog 38 #[.slice A (0 : Nat) c, .int .i64 1] w fun e w' => e = .returned (.int .i64 1) ∧ Below w.heap.size w w' := by
  go_enter Try.func38, Try.ntmps38
  go_wp2_with fail
  go_loopw [1, 5] (fun q i wr => q = .int .i64 1 ∧ i = .int .i64 0 ∧ Below w.heap.size w wr) (fun _ i _ => 0)
  case atStart => exact ⟨rfl, rfl, Below.refl _ _⟩
  case round =>
    obtain ⟨rfl, rfl, hbel⟩ := hrel
    go_wp2
    go_ret
    exact ⟨rfl, (by repeat' (first | exact Below.refl _ _ | assumption | exact And.left (by assumption) | omega | (simp; done) | (simp; omega) | (simp at *; omega) | (refine Below.setCell ?_ ?_ _) | (refine below_alloc0 ?_ _) | (refine Below.drew ?_) | (refine below_drewN ?_ _) | (refine below_via0 ?_ (by assumption)) | (refine Below.alloc ?_ ?_ _) | (refine below_via ?_ (by assumption) ?_)))⟩
theorem eqGrantI_c (A A' : Option Addr) (n c c' : Nat) (l : List Grant) (hn : n ≤ 1048576) (w : World) (h : InGrant w A n l) (h' : InGrant w A' n l) :
    Calls Try.prog 36 #[.slice A n c, .slice A' n c'] w fun e w' => e = .returned (.bool true) ∧ Below w.heap.size w w' := by
  rcases Nat.eq_zero_or_pos n with rfl | h0
  · exact eqGrant_0 _ _ _ _ _
  · obtain ⟨b, off, rfl, hR⟩ := h.2 h0
    obtain ⟨b', off', rfl, hR'⟩ := h'.2 h0
    exact eqGrantS_c _ _ _ _ _ _ _ l h.1 hn _ hR hR'
theorem markGrantI_c (A : Option Addr) (n c B : Nat) (l : List Grant) (hn : n ≤ 1048576) (w : World) (h : OwnSG w B n c A l) :
    Calls Try.prog 37 #[.slice A n c, .int .i64 1] w fun e w' => e = .returned (.int .i64 (1 + 3 * n)) ∧ Offs A w w' ∧ OwnSG w' B n c A (mkLG n) := by
  rcases h with ⟨rfl, rfl, rfl⟩ | ⟨g, m, rfl, h2, h3, h4, h5, h6, h7⟩
  · refine (markGrant_0 _ _ _).mono ?_
    rintro e w1 ⟨rfl, hb⟩
    exact ⟨rfl, Offs.ofBelow hb, .inl ⟨rfl, rfl, rfl⟩⟩
  · refine (markGrant_c g n c m _ hn w (by rw [h5]; exact Nat.mul_le_mul_right 3 h3) h6 h7).mono ?_
    rintro e w1 ⟨rfl, ho, hr, hy⟩
    exact ⟨rfl, ho, .inr ⟨g, m, rfl, h2, h3, h4, h5, hr, hy⟩⟩
theorem heldGrantI_c (A : Option Addr) (n c : Nat) (hn : n ≤ 1048576) (w : World) (h : InGrant w A n (mkLG n)) :
    Calls Try.prog 38 #[.slice A n c, .int .i64 1] w fun e w' => e = .returned (.int .i64 (1 + 3 * n)) ∧ Below w.heap.size w w' := by
  rcases Nat.eq_zero_or_pos n with rfl | h0
  · exact heldGrant_0 _ _ _
  · obtain ⟨b, off, rfl, hR⟩ := h.2 h0
    exact heldGrant_c _ _ _ _ hn _ hR
end Go.Proofs.Ytpifnfhgaemdmaa
