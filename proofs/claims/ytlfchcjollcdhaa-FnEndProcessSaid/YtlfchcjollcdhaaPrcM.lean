/-
  A slice of processes of one's own: its copy, marking, being held; empty ones. No condition.
-/
import Derived.Test.YtlfchcjollcdhaaProg
import Derived.Test.YtlfchcjollcdhaaPrcO
namespace Go.Proofs.Ytlfchcjollcdhaa
open Go.RowKit
set_option linter.unusedSimpArgs false
set_option linter.unusedVariables false

/-- All that lay there, but for the block of the slice, is as it was. -/
def Offs (A : Option Addr) (w w' : World) : Prop := Below 0 w w' ∧ ∀ b, b < w.heap.size → (∀ a, A = some a → b ≠ a.block) → w'.heap[b]? = w.heap[b]?
theorem Offs.ofBelow {A : Option Addr} {w w' : World} (h : Below w.heap.size w w') : Offs A w w' := ⟨h.mono (Nat.zero_le _), fun b hb _ => h.block b hb⟩
theorem Offs.refl (A : Option Addr) (w : World) : Offs A w w := ⟨Below.refl _ _, fun _ _ _ => rfl⟩
theorem Offs.setCell {g : Nat} {o : Nat} {w w' : World} (h : Offs (some ⟨g, 0, none⟩) w w') (v : Value) : Offs (some ⟨g, 0, none⟩) w (w'.setCell ⟨g, o, none⟩ v) :=
  ⟨h.1.setCell (p := ⟨g, o, none⟩) (Nat.zero_le _) v, fun b hb hg => (Below.heap_setCell w' ⟨g, o, none⟩ v b (hg ⟨g, 0, none⟩ rfl)).trans (h.2 b hb hg)⟩
theorem Offs.below {A : Option Addr} {B : Nat} {w0 w w' : World} (h : Offs A w w') (hb : Below B w0 w) (hB : ∀ a, A = some a → B ≤ a.block) (hs : B ≤ w.heap.size) : Below B w0 w' :=
  hb.trans ⟨h.1.os, h.1.tape, h.1.output, h.1.size, fun b hb => h.2 b (by omega) fun a ha => by have := hB a ha; omega⟩
/-- A slice of one's own, made at the size B or later; or nil. -/
def OwnSP (w : World) (B n c : Nat) (A : Option Addr) (l : List Pcs) : Prop :=
  (A = none ∧ n = 0 ∧ c = 0) ∨ ∃ g m, A = some ⟨g, 0, none⟩ ∧ B ≤ g ∧ n ≤ c ∧ c ≤ maxLen ∧ m = c * 8 ∧ Row w g m (doneProcess l n) ∧ TyP w g
section
variable {w w' : World} {B n c : Nat} {A A' : Option Addr} {l : List Pcs}
theorem OwnSP.ge (h : OwnSP w B n c A l) : ∀ a, A = some a → B ≤ a.block := by
  rintro a rfl
  rcases h with ⟨h, _⟩ | ⟨g, m, h, hB, _⟩
  · cases h
  · cases h; exact hB
theorem OwnSP.lt (h : OwnSP w B n c A l) : ∀ a, A = some a → a.block < w.heap.size := by
  rintro a rfl
  rcases h with ⟨h, _⟩ | ⟨g, m, h, hB, _, _, _, hr, _⟩
  · cases h
  · cases h; exact hr.lt
theorem OwnSP.cap (h : OwnSP w B n c A l) : n ≤ c ∧ c ≤ maxLen := by
  rcases h with ⟨_, h1, h2⟩ | ⟨g, m, _, _, h1, h2, _⟩
  · exact ⟨by omega, by omega⟩
  · exact ⟨h1, h2⟩
theorem OwnSP.mono {B' : Nat} (h : OwnSP w B n c A l) (hB : B' ≤ B) : OwnSP w B' n c A l := by
  rcases h with h | ⟨g, m, h1, h2, h3⟩
  · exact .inl h
  · exact .inr ⟨g, m, h1, Nat.le_trans hB h2, h3⟩
theorem OwnSP.offs (h : OwnSP w B n c A l) (ho : Offs A' w w') (hap : ∀ a a', A = some a → A' = some a' → a.block ≠ a'.block) : OwnSP w' B n c A l := by
  rcases h with h | ⟨g, m, rfl, h2, h3, h4, h5, h6, h7⟩
  · exact .inl h
  · exact .inr ⟨g, m, rfl, h2, h3, h4, h5, h6.keep (ho.2 g h6.lt fun a ha => hap _ a rfl ha), h7.keep (ho.2 g h6.lt fun a ha => hap _ a rfl ha)⟩
theorem OwnSP.below (h : OwnSP w B n c A l) (hb : Below w.heap.size w w') : OwnSP w' B n c A l := h.offs (Offs.ofBelow (A := none) hb) (by intro a a' _ h; cases h)
theorem OwnSP.ins (h : OwnSP w B n c A l) (hl : l.length = n) : InProcess w A n l := by
  rcases h with ⟨_, h1, _⟩ | ⟨g, m, rfl, h2, h3, h4, h5, h6, _⟩
  · exact ⟨hl, fun h => absurd h (by omega)⟩
  · exact ⟨hl, fun _ => ⟨g, 0, rfl, RdProcess_of_rowm h6 hl⟩⟩
/-- It may be appended to. -/
theorem OwnSP.own {w : World} {B n c : Nat} {A : Option Addr} {l : List Pcs} (h : OwnSP w B n c A l) (hl : l.length = n) : w.ownsRow B 39 8 (.slice A n c) n (flatP l) := by
  refine ⟨by rw [flatP_len, hl], ?_⟩
  rcases h with ⟨rfl, rfl, rfl⟩ | ⟨g, m, rfl, h2, h3, h4, rfl, ⟨C, T, hC, hs, hf⟩, ⟨D, hD⟩⟩
  · obtain rfl := List.eq_nil_of_length_eq_zero hl
    exact .inl ⟨rfl, rfl⟩
  · rw [hC] at hD
    simp only [Option.some.injEq, Obj.cells.injEq, and_true] at hD
    obtain ⟨rfl, rfl⟩ := hD
    refine .inr ⟨g, c, C, rfl, h2, hC, h3, h4, hs, ?_⟩
    refine List.ext_getElem? fun j => ?_
    rw [List.getElem?_take]
    by_cases hj : j < n * 8
    · rw [if_pos hj]
      obtain ⟨t, ht⟩ : ∃ t, l[j / 8]? = some t := ⟨_, List.getElem?_eq_getElem (by rw [hl]; omega)⟩
      have hu : ∃ u, cellProcess l j = some u := ⟨_, by simp only [cellProcess, ht, Option.map_some]; rfl⟩
      obtain ⟨u, hu⟩ := hu
      have h9 := hf j u (by simp only [doneProcess]; rw [if_pos hj]; exact hu)
      rw [flatP_get, hu, Array.getElem?_toList]
      exact h9
    · rw [if_neg hj]
      refine (List.getElem?_eq_none ?_).symm
      rw [flatP_len, hl]; omega
theorem ownSP_of {w : World} {B n : Nat} {v : Value} {l : List Pcs} (h : w.ownsRow B 39 8 v n (flatP l)) (hl : l.length = n) : ∃ (A : Option Addr) (c : Nat), v = .slice A n c ∧ OwnSP w B n c A l := by
  rcases h.2 with ⟨h1, h2⟩ | ⟨g, cap, cur, h1, _⟩
  · have hn : n = 0 := by
      have := h.1
      rw [h2] at this
      simp at this
      omega
    subst hn
    exact ⟨none, 0, h1, .inl ⟨rfl, rfl, rfl⟩⟩
  · subst h1
    obtain ⟨g', cap', m, hv, h2, h3, h4, h5, h6⟩ := ownP_of hl h (by simp)
    obtain ⟨rfl, rfl⟩ : g = g' ∧ cap = cap' := by simpa using hv
    exact ⟨_, _, rfl, .inr ⟨g, m, rfl, h2, h3, h4, h5, h6, ownP_ty h⟩⟩
end
set_option maxHeartbeats 1000000 in
theorem toProcessR_c (A : Option Addr) (n c : Nat) (l : List Pcs) (w : World) (hA : InProcess w A n l) (hn : n ≤ 1048576) :
    Calls Try.prog 13 #[.slice A n c] w fun e w' => ∃ g, e = .returned (.slice (some ⟨g, 0, none⟩) n n) ∧ OwnSP w' w.heap.size n n (some ⟨g, 0, none⟩) l ∧ Below w.heap.size w w' := by
  obtain ⟨i0, hi0, hz0, hz1, hz2⟩ := info_parts infoProcess
  have hmk := fun W => run_make_rowN (P := Try.prog) 25 39 i0 _ Try.underlying25 hi0 hz0 .i64 .i64 n n (Nat.le_refl _) (by rw [hz2]; omega) (by omega) W
  rw [hz1] at hmk
  have hA' := hide hA
  clear hA
  go_enter Try.func13, Try.ntmps13
  go_wp2_with fail
  clear hmk
  generalize hW : w.alloc (.cells (madeCells #[.int .i64 0, .int .i64 0, .int .i64 0, .int .i64 0, .int .i64 0, .int .i64 0, .bool false, .int .i64 0] (n * 8)) 39) = W
  have hr0 : Row W w.heap.size (n * 8) (doneProcess l 0) := by
    rw [← hW]
    have := Row.made w 39 (madeCells #[.int .i64 0, .int .i64 0, .int .i64 0, .int .i64 0, .int .i64 0, .int .i64 0, .bool false, .int .i64 0] (n * 8)) (doneProcess l 0) (fun j u hj => by simp [doneProcess] at hj)
    rwa [size_madeCells] at this
  have hb0 : Below w.heap.size w W := by rw [← hW]; exact below_alloc0 (Below.refl _ _) _
  have hy0 : TyP W w.heap.size := by rw [← hW]; exact ⟨_, Below.heap_alloc_self w _⟩
  clear hW
  go_loopw [4] (fun i wr => ∃ k : Nat, k ≤ n ∧ i = .int .i64 k ∧ Row wr w.heap.size (n * 8) (doneProcess l k) ∧ Hid (TyP wr w.heap.size) ∧ Below w.heap.size w wr) (fun i _ => n - (intOf i).toNat)
  case atStart => exact ⟨0, by omega, rfl, hr0, hy0, hb0⟩
  case round =>
    obtain ⟨k, hk, rfl, hrow, hty, hbel⟩ := hrel
    by_cases hlt : k < n
    · obtain ⟨hl, hin⟩ := hA'.out
      obtain ⟨b, off, rfl, hR⟩ := hin (by omega)
      clear hin
      obtain ⟨t, ht⟩ : ∃ t, l[k]? = some t := ⟨_, List.getElem?_eq_getElem (by omega)⟩
      have HT := hide ht
      have hlb : b < wr.heap.size := Nat.lt_of_lt_of_le hR.1 hbel.size
      have c0 := (hR.below hbel).2 k t ht
      have HL := hide hl
      clear ht hl
      have g1 := hrow.lt
      obtain ⟨x0, gs0⟩ := hrow.some_ex (j := k * 8) (by omega)
      obtain ⟨x1, gs1⟩ := hrow.some_ex (j := k * 8 + 1) (by omega)
      obtain ⟨x2, gs2⟩ := hrow.some_ex (j := k * 8 + 2) (by omega)
      obtain ⟨x3, gs3⟩ := hrow.some_ex (j := k * 8 + 3) (by omega)
      obtain ⟨x4, gs4⟩ := hrow.some_ex (j := k * 8 + 4) (by omega)
      obtain ⟨x5, gs5⟩ := hrow.some_ex (j := k * 8 + 5) (by omega)
      obtain ⟨x6, gs6⟩ := hrow.some_ex (j := k * 8 + 6) (by omega)
      obtain ⟨x7, gs7⟩ := hrow.some_ex (j := k * 8 + 7) (by omega)
      have gf0 := hrow.frozen (k * 8)
      have gf1 := hrow.frozen (k * 8 + 1)
      have gf2 := hrow.frozen (k * 8 + 2)
      have gf3 := hrow.frozen (k * 8 + 3)
      have gf4 := hrow.frozen (k * 8 + 4)
      have gf5 := hrow.frozen (k * 8 + 5)
      have gf6 := hrow.frozen (k * 8 + 6)
      have gf7 := hrow.frozen (k * 8 + 7)
      go_wp2_with fail
      refine (toProcess_c _ _ _ _ _ _ _ _ _).mono ?_
      rintro e w1 ⟨rfl, hb1⟩
      have V1 := live hb1 w.heap.size (by omega)
      go_wp2_with fail
      refine ⟨⟨k + 1, by omega, by go_num, row_nextProcess (hrow.below hb1 g1) hlt HT.out, ((((((((hty.out.below hb1).set _).set _).set _).set _).set _).set _).set _).set _, ((((((((hbel.trans (hb1.mono hbel.size)).setCell (p := ⟨w.heap.size, _, none⟩) (Nat.le_refl _) _).setCell (p := ⟨w.heap.size, _, none⟩) (Nat.le_refl _) _).setCell (p := ⟨w.heap.size, _, none⟩) (Nat.le_refl _) _).setCell (p := ⟨w.heap.size, _, none⟩) (Nat.le_refl _) _).setCell (p := ⟨w.heap.size, _, none⟩) (Nat.le_refl _) _).setCell (p := ⟨w.heap.size, _, none⟩) (Nat.le_refl _) _).setCell (p := ⟨w.heap.size, _, none⟩) (Nat.le_refl _) _).setCell (p := ⟨w.heap.size, _, none⟩) (Nat.le_refl _) _⟩, by simp [intOf]; omega⟩
    · obtain rfl : k = n := by omega
      go_wp2
      go_ret
      exact ⟨w.heap.size, rfl, .inr ⟨_, k * 8, rfl, Nat.le_refl _, Nat.le_refl _, by unfold maxLen; omega, rfl, hrow, hty.out⟩, hbel⟩
/-- What marking lays. -/
def mkP (i : Nat) : Pcs := ⟨1 + 8 * (i : Int), 1 + 8 * (i : Int) + 1, 1 + 8 * (i : Int) + 1 + 1, 1 + 8 * (i : Int) + 1 + 1 + 1, 1 + 8 * (i : Int) + 1 + 1 + 1 + 1, 1 + 8 * (i : Int) + 1 + 1 + 1 + 1 + 1, ((1 + 8 * (i : Int) + 1 + 1 + 1 + 1 + 1 + 1).tmod 3 == 0), 1 + 8 * (i : Int) + 1 + 1 + 1 + 1 + 1 + 1 + 1⟩
def mkLP (n : Nat) : List Pcs := (List.range n).map mkP
theorem mkLP_get {n k : Nat} (h : k < n) : (mkLP n)[k]? = some (mkP k) := by simp [mkLP, h]
theorem mkLP_len (n : Nat) : (mkLP n).length = n := by simp [mkLP]
theorem row_nextPm {w : World} {g n k m : Nat} {l : List Pcs} {t : Pcs} (h : Row w g m (doneProcess l k)) (hm : n * 8 ≤ m) (hk : k < n) (ht : l[k]? = some t) :
    Row ((((((((w.setCell ⟨g, k * 8, none⟩ (.int .i64 t.number)).setCell ⟨g, k * 8 + 1, none⟩ (.int .i64 t.parent)).setCell ⟨g, k * 8 + 2, none⟩ (.int .i64 t.real)).setCell ⟨g, k * 8 + 3, none⟩ (.int .i64 t.acts)).setCell ⟨g, k * 8 + 4, none⟩ (.int .i64 t.saved)).setCell ⟨g, k * 8 + 5, none⟩ (.int .i64 t.groups)).setCell ⟨g, k * 8 + 6, none⟩ (.bool t.ended)).setCell ⟨g, k * 8 + 7, none⟩ (.int .i64 t.result)) g m (doneProcess l (k + 1)) := by
  refine ((((((((h.set (k * 8) _).set (k * 8 + 1) _).set (k * 8 + 2) _).set (k * 8 + 3) _).set (k * 8 + 4) _).set (k * 8 + 5) _).set (k * 8 + 6) _).set (k * 8 + 7) _).mono fun j u hj => ?_
  simp only [doneProcess] at hj ⊢
  split at hj
  · rename_i hlt
    by_cases e7 : j = k * 8 + 7
    · rw [if_pos e7, if_pos (by omega)]
      subst e7
      rw [← hj, cellProcess, show (k * 8 + 7) / 8 = k by omega, ht]; simp [show (k * 8 + 7) % 8 = 7 by omega]
    rw [if_neg e7]
    by_cases e6 : j = k * 8 + 6
    · rw [if_pos e6, if_pos (by omega)]
      subst e6
      rw [← hj, cellProcess, show (k * 8 + 6) / 8 = k by omega, ht]; simp [show (k * 8 + 6) % 8 = 6 by omega]
    rw [if_neg e6]
    by_cases e5 : j = k * 8 + 5
    · rw [if_pos e5, if_pos (by omega)]
      subst e5
      rw [← hj, cellProcess, show (k * 8 + 5) / 8 = k by omega, ht]; simp [show (k * 8 + 5) % 8 = 5 by omega]
    rw [if_neg e5]
    by_cases e4 : j = k * 8 + 4
    · rw [if_pos e4, if_pos (by omega)]
      subst e4
      rw [← hj, cellProcess, show (k * 8 + 4) / 8 = k by omega, ht]; simp [show (k * 8 + 4) % 8 = 4 by omega]
    rw [if_neg e4]
    by_cases e3 : j = k * 8 + 3
    · rw [if_pos e3, if_pos (by omega)]
      subst e3
      rw [← hj, cellProcess, show (k * 8 + 3) / 8 = k by omega, ht]; simp [show (k * 8 + 3) % 8 = 3 by omega]
    rw [if_neg e3]
    by_cases e2 : j = k * 8 + 2
    · rw [if_pos e2, if_pos (by omega)]
      subst e2
      rw [← hj, cellProcess, show (k * 8 + 2) / 8 = k by omega, ht]; simp [show (k * 8 + 2) % 8 = 2 by omega]
    rw [if_neg e2]
    by_cases e1 : j = k * 8 + 1
    · rw [if_pos e1, if_pos (by omega)]
      subst e1
      rw [← hj, cellProcess, show (k * 8 + 1) / 8 = k by omega, ht]; simp [show (k * 8 + 1) % 8 = 1 by omega]
    rw [if_neg e1]
    by_cases e0 : j = k * 8
    · rw [if_pos e0, if_pos (by omega)]
      subst e0
      rw [← hj, cellProcess, show (k * 8) / 8 = k by omega, ht]; simp
    rw [if_neg e0]
    rw [if_pos (by omega)]; exact hj
  · cases hj
set_option maxRecDepth 100000 in
set_option maxHeartbeats 2000000 in
theorem markProcess_c (g n c m : Nat) (f : Nat → Option Value) (hn : n ≤ 1048576) (w : World) (hm : n * 8 ≤ m) (hR : Row w g m f) (hY : TyP w g) :
    Calls Try.prog 28 #[.slice (some ⟨g, 0, none⟩) n c, .int .i64 1] w fun e w' => e = .returned (.int .i64 (1 + 8 * n)) ∧ Offs (some ⟨g, 0, none⟩) w w' ∧ Row w' g m (doneProcess (mkLP n) n) ∧ TyP w' g := by
  go_enter Try.func28, Try.ntmps28
  go_wp2_with fail
  go_loopw [1, 5] (fun q i wr => ∃ k : Nat, k ≤ n ∧ q = .int .i64 (1 + 8 * (k : Int)) ∧ i = .int .i64 k ∧ Row wr g m (doneProcess (mkLP n) k) ∧ Hid (TyP wr g) ∧ Offs (some ⟨g, 0, none⟩) w wr) (fun _ i _ => n - (intOf i).toNat)
  case atStart => exact ⟨0, by omega, rfl, rfl, hR.mono (fun j u hj => by simp [doneProcess] at hj), hY, Offs.refl _ _⟩
  case round =>
    obtain ⟨k, hk, rfl, rfl, hrow, hty, hoff⟩ := hrel
    by_cases hlt : k < n
    · have HT := hide (mkLP_get hlt)
      have g1 := hrow.lt
      obtain ⟨x0, gs0⟩ := hrow.some_ex (j := k * 8) (by omega)
      obtain ⟨x1, gs1⟩ := hrow.some_ex (j := k * 8 + 1) (by omega)
      obtain ⟨x2, gs2⟩ := hrow.some_ex (j := k * 8 + 2) (by omega)
      obtain ⟨x3, gs3⟩ := hrow.some_ex (j := k * 8 + 3) (by omega)
      obtain ⟨x4, gs4⟩ := hrow.some_ex (j := k * 8 + 4) (by omega)
      obtain ⟨x5, gs5⟩ := hrow.some_ex (j := k * 8 + 5) (by omega)
      obtain ⟨x6, gs6⟩ := hrow.some_ex (j := k * 8 + 6) (by omega)
      obtain ⟨x7, gs7⟩ := hrow.some_ex (j := k * 8 + 7) (by omega)
      have gf0 := hrow.frozen (k * 8)
      have gf1 := hrow.frozen (k * 8 + 1)
      have gf2 := hrow.frozen (k * 8 + 2)
      have gf3 := hrow.frozen (k * 8 + 3)
      have gf4 := hrow.frozen (k * 8 + 4)
      have gf5 := hrow.frozen (k * 8 + 5)
      have gf6 := hrow.frozen (k * 8 + 6)
      have gf7 := hrow.frozen (k * 8 + 7)
      go_wp2_with fail
      have hnx := row_nextPm hrow hm hlt HT.out
      simp only [mkP] at hnx
      refine ⟨⟨k + 1, hlt, congrArg (Value.int .i64) (by omega), congrArg (Value.int .i64) (by omega), ?_, ?_, ?_⟩, by simp [intOf]; omega⟩
      · exact hnx
      · exact (((((((hty.out.set _).set _).set _).set _).set _).set _).set _).set _
      · exact (((((((hoff.setCell _).setCell _).setCell _).setCell _).setCell _).setCell _).setCell _).setCell _
    · obtain rfl : k = n := by omega
      go_wp2
      go_ret
      exact ⟨rfl, hoff, hrow, hty.out⟩
set_option maxRecDepth 100000 in
set_option maxHeartbeats 2000000 in
theorem heldProcess_c (b off n c : Nat) (hn : n ≤ 1048576) (w : World) (hR : RdProcess w b off (mkLP n)) :
    Calls Try.prog 29 #[.slice (some ⟨b, off, none⟩) n c, .int .i64 1] w fun e w' => e = .returned (.int .i64 (1 + 8 * n)) ∧ Below w.heap.size w w' := by
  go_enter Try.func29, Try.ntmps29
  go_wp2_with fail
  go_loopw [1, 5] (fun q i wr => ∃ k : Nat, k ≤ n ∧ q = .int .i64 (1 + 8 * (k : Int)) ∧ i = .int .i64 k ∧ Below w.heap.size w wr) (fun _ i _ => n - (intOf i).toNat)
  case atStart => exact ⟨0, by omega, rfl, rfl, Below.refl _ _⟩
  case round =>
    obtain ⟨k, hk, rfl, rfl, hbel⟩ := hrel
    by_cases hlt : k < n
    · have c0 := (hR.below hbel).2 k _ (mkLP_get hlt)
      simp only [mkP] at c0
      go_wp2_with fail
      exact ⟨⟨k + 1, hlt, congrArg (Value.int .i64) (by omega), congrArg (Value.int .i64) (by omega), (by repeat' (first | exact Below.refl _ _ | assumption | exact And.left (by assumption) | omega | (simp; done) | (simp; omega) | (simp at *; omega) | (refine Below.setCell ?_ ?_ _) | (refine below_alloc0 ?_ _) | (refine Below.drew ?_) | (refine below_drewN ?_ _) | (refine below_via0 ?_ (by assumption)) | (refine Below.alloc ?_ ?_ _) | (refine below_via ?_ (by assumption) ?_)))⟩, by simp [intOf]; omega⟩
    · obtain rfl : k = n := by omega
      go_wp2
      go_ret
      exact ⟨rfl, (by repeat' (first | exact Below.refl _ _ | assumption | exact And.left (by assumption) | omega | (simp; done) | (simp; omega) | (simp at *; omega) | (refine Below.setCell ?_ ?_ _) | (refine below_alloc0 ?_ _) | (refine Below.drew ?_) | (refine below_drewN ?_ _) | (refine below_via0 ?_ (by assumption)) | (refine Below.alloc ?_ ?_ _) | (refine below_via ?_ (by assumption) ?_)))⟩
theorem eqProcess_0 (A A' : Option Addr) (c c' : Nat) (w : World) :
    Calls Try.prog 15 #[.slice A (0 : Nat) c, .slice A' (0 : Nat) c'] w fun e w' => e = .returned (.bool true) ∧ Below w.heap.size w w' := by
  go_enter Try.func15, Try.ntmps15
  go_wp2_with fail
  go_loopw [5] (fun i wr => i = .int .i64 0 ∧ Below w.heap.size w wr) (fun i _ => 0)
  case atStart => exact ⟨rfl, Below.refl _ _⟩
  case round =>
    obtain ⟨rfl, hbel⟩ := hrel
    go_wp2
    go_ret
    exact ⟨rfl, (by repeat' (first | exact Below.refl _ _ | assumption | exact And.left (by assumption) | omega | (simp; done) | (simp; omega) | (simp at *; omega) | (refine Below.setCell ?_ ?_ _) | (refine below_alloc0 ?_ _) | (refine Below.drew ?_) | (refine below_drewN ?_ _) | (refine below_via0 ?_ (by assumption)) | (refine Below.alloc ?_ ?_ _) | (refine below_via ?_ (by assumption) ?_)))⟩
theorem markProcess_0 (A : Option Addr) (c : Nat) (w : World) :
    Calls Try.prog 28 #[.slice A (0 : Nat) c, .int .i64 1] w fun e w' => e = .returned (.int .i64 1) ∧ Below w.heap.size w w' := by
  go_enter Try.func28, Try.ntmps28
  go_wp2_with fail
  go_loopw [1, 5] (fun q i wr => q = .int .i64 1 ∧ i = .int .i64 0 ∧ Below w.heap.size w wr) (fun _ i _ => 0)
  case atStart => exact ⟨rfl, rfl, Below.refl _ _⟩
  case round =>
    obtain ⟨rfl, rfl, hbel⟩ := hrel
    go_wp2
    go_ret
    exact ⟨rfl, (by repeat' (first | exact Below.refl _ _ | assumption | exact And.left (by assumption) | omega | (simp; done) | (simp; omega) | (simp at *; omega) | (refine Below.setCell ?_ ?_ _) | (refine below_alloc0 ?_ _) | (refine Below.drew ?_) | (refine below_drewN ?_ _) | (refine below_via0 ?_ (by assumption)) | (refine Below.alloc ?_ ?_ _) | (refine below_via ?_ (by assumption) ?_)))⟩
theorem heldProcess_0 (A : Option Addr) (c : Nat) (w : World) :
    Calls Try.prog 29 #[.slice A (0 : Nat) c, .int .i64 1] w fun e w' => e = .returned (.int .i64 1) ∧ Below w.heap.size w w' := by
  go_enter Try.func29, Try.ntmps29
  go_wp2_with fail
  go_loopw [1, 5] (fun q i wr => q = .int .i64 1 ∧ i = .int .i64 0 ∧ Below w.heap.size w wr) (fun _ i _ => 0)
  case atStart => exact ⟨rfl, rfl, Below.refl _ _⟩
  case round =>
    obtain ⟨rfl, rfl, hbel⟩ := hrel
    go_wp2
    go_ret
    exact ⟨rfl, (by repeat' (first | exact Below.refl _ _ | assumption | exact And.left (by assumption) | omega | (simp; done) | (simp; omega) | (simp at *; omega) | (refine Below.setCell ?_ ?_ _) | (refine below_alloc0 ?_ _) | (refine Below.drew ?_) | (refine below_drewN ?_ _) | (refine below_via0 ?_ (by assumption)) | (refine Below.alloc ?_ ?_ _) | (refine below_via ?_ (by assumption) ?_)))⟩
theorem eqProcessI_c (A A' : Option Addr) (n c c' : Nat) (l : List Pcs) (hn : n ≤ 1048576) (w : World) (h : InProcess w A n l) (h' : InProcess w A' n l) :
    Calls Try.prog 15 #[.slice A n c, .slice A' n c'] w fun e w' => e = .returned (.bool true) ∧ Below w.heap.size w w' := by
  rcases Nat.eq_zero_or_pos n with rfl | h0
  · exact eqProcess_0 _ _ _ _ _
  · obtain ⟨b, off, rfl, hR⟩ := h.2 h0
    obtain ⟨b', off', rfl, hR'⟩ := h'.2 h0
    exact eqProcessS_c _ _ _ _ _ _ _ l h.1 hn _ hR hR'
theorem markProcessI_c (A : Option Addr) (n c B : Nat) (l : List Pcs) (hn : n ≤ 1048576) (w : World) (h : OwnSP w B n c A l) :
    Calls Try.prog 28 #[.slice A n c, .int .i64 1] w fun e w' => e = .returned (.int .i64 (1 + 8 * n)) ∧ Offs A w w' ∧ OwnSP w' B n c A (mkLP n) := by
  rcases h with ⟨rfl, rfl, rfl⟩ | ⟨g, m, rfl, h2, h3, h4, h5, h6, h7⟩
  · refine (markProcess_0 _ _ _).mono ?_
    rintro e w1 ⟨rfl, hb⟩
    exact ⟨rfl, Offs.ofBelow hb, .inl ⟨rfl, rfl, rfl⟩⟩
  · refine (markProcess_c g n c m _ hn w (by rw [h5]; exact Nat.mul_le_mul_right 8 h3) h6 h7).mono ?_
    rintro e w1 ⟨rfl, ho, hr, hy⟩
    exact ⟨rfl, ho, .inr ⟨g, m, rfl, h2, h3, h4, h5, hr, hy⟩⟩
theorem heldProcessI_c (A : Option Addr) (n c : Nat) (hn : n ≤ 1048576) (w : World) (h : InProcess w A n (mkLP n)) :
    Calls Try.prog 29 #[.slice A n c, .int .i64 1] w fun e w' => e = .returned (.int .i64 (1 + 8 * n)) ∧ Below w.heap.size w w' := by
  rcases Nat.eq_zero_or_pos n with rfl | h0
  · exact heldProcess_0 _ _ _
  · obtain ⟨b, off, rfl, hR⟩ := h.2 h0
    exact heldProcess_c _ _ _ _ hn _ hR
end Go.Proofs.Ytlfchcjollcdhaa
