/-
  A slice of Mount: how it lies in memory, its copy (toMountS), the equality of two (eqMountS), how one comes in. No condition.
-/
import Derived.Test.YtgpdblkaidllmaaDoorProg
import Derived.Test.YtgpdblkaidllmaaDoorSli
namespace Go.Proofs.YtgpdblkaidllmaaDoor
open Go.RowKit
set_option linter.unusedSimpArgs false
set_option linter.unusedVariables false

structure Mount where
  src : ByteArray
  dst : ByteArray

def RdMount (w : World) (b off : Nat) (l : List Mount) : Prop :=
  b < w.heap.size ∧ ∀ (k : Nat) (t : Mount), l[k]? = some t → w.cell? ⟨b, off + k * 2, none⟩ = some (.string t.src) ∧ w.cell? ⟨b, off + k * 2 + 1, none⟩ = some (.string t.dst)
theorem RdMount.below {w w' : World} {b off : Nat} {l : List Mount} (h : RdMount w b off l) (hb : Below w.heap.size w w') : RdMount w' b off l := by
  refine ⟨Nat.lt_of_lt_of_le h.1 hb.size, fun k t ht => ?_⟩
  obtain ⟨h0, h1⟩ := h.2 k t ht
  exact ⟨(hb.cell (p := ⟨b, _, none⟩) h.1).trans h0, (hb.cell (p := ⟨b, _, none⟩) h.1).trans h1⟩
theorem szMount1_c (a b : ByteArray) (z : Int) (hz : 0 ≤ z ∧ z ≤ 1048576) (ha : a.size ≤ maxLen) (hb : b.size ≤ maxLen) (w : World) :
    Calls Tryd.prog 25 #[.agg #[.string a, .string b], .int .i64 z] w fun e w' => ∃ y : Int, e = .returned (.int .i64 y) ∧ y ≤ z ∧ (0 ≤ y → a.size ≤ 1048576 ∧ b.size ≤ 1048576) ∧ Below w.heap.size w w' := by
  unfold maxLen at ha hb
  have B0 : Below w.heap.size w (w.alloc (.cells #[.string a, .string b] 48)) := below_alloc0 (Below.refl _ _) _
  have jw := IntWalk.i64_in (z - a.size) (by omega)
  by_cases h : z - a.size < 0
  · go_enter Tryd.func25, Tryd.ntmps25
    go_wp2_with fail
    go_ret
    exact ⟨-1, rfl, by omega, fun h => absurd h (by omega), B0⟩
  · have jw2 := IntWalk.i64_in (z - a.size - b.size) (by omega)
    by_cases h2 : z - a.size - b.size < 0
    · go_enter Tryd.func25, Tryd.ntmps25
      go_wp2_with fail
      go_ret
      exact ⟨-1, rfl, by omega, fun h => absurd h (by omega), B0⟩
    · go_enter Tryd.func25, Tryd.ntmps25
      go_wp2_with fail
      go_ret
      exact ⟨z - a.size - b.size, rfl, by omega, fun _ => ⟨by omega, by omega⟩, B0⟩
theorem toMount_c (src : ByteArray) (dst : ByteArray) (w : World) :
    Calls Tryd.prog 27 #[.agg #[.string src, .string dst]] w fun e w' => e = .returned (.agg #[.string src, .string dst]) ∧ Below w.heap.size w w' := by
  go_enter Tryd.func27, Tryd.ntmps27
  go_wp2
  exact bodyPost_ret (v := .agg #[.string src, .string dst]) (by simp [results, Tryd.results27, go_sem]) rfl ⟨rfl, (by repeat' (first | exact Below.refl _ _ | assumption | exact And.left (by assumption) | omega | (simp; done) | (simp; omega) | (simp at *; omega) | (refine Below.setCell ?_ ?_ _) | (refine below_alloc0 ?_ _) | (refine Below.drew ?_) | (refine below_drewN ?_ _) | (refine below_via0 ?_ (by assumption)) | (refine Below.alloc ?_ ?_ _) | (refine below_via ?_ (by assumption) ?_)))⟩

theorem infoMount : (Tryd.prog.info? 28).map (fun i => (i.zero, i.size, i.bytes)) = some (some (.agg #[.string ⟨#[]⟩, .string ⟨#[]⟩]), 2, 32) := by kernel_rfl
def cellMount (l : List Mount) (j : Nat) : Option Value := (l[j / 2]?).map fun t => if j % 2 = 0 then .string t.src else .string t.dst
def doneMount (l : List Mount) (k : Nat) (j : Nat) : Option Value := if j < k * 2 then cellMount l j else none
theorem RdMount_of_row {w : World} {g n : Nat} {l : List Mount} (h : Row w g (n * 2) (doneMount l n)) (hl : l.length = n) : RdMount w g 0 l := by
  refine ⟨h.lt, fun k t ht => ?_⟩
  have hk : k < n := by rw [← hl]; exact (List.getElem?_eq_some_iff.1 ht).1
  refine ⟨h.cell ?_, h.cell ?_⟩
  · simp only [doneMount, cellMount]; rw [if_pos (by omega), show (0 + k * 2) / 2 = k by omega, ht]; simp
  · simp only [doneMount, cellMount]; rw [if_pos (by omega), show (0 + k * 2 + 1) / 2 = k by omega, ht]; simp [show (k * 2 + 1) % 2 = 1 by omega]
theorem row_nextMount {w : World} {g n k : Nat} {l : List Mount} {t : Mount} (h : Row w g (n * 2) (doneMount l k)) (hk : k < n) (ht : l[k]? = some t) :
    Row ((w.setCell ⟨g, k * 2, none⟩ (.string t.src)).setCell ⟨g, k * 2 + 1, none⟩ (.string t.dst)) g (n * 2) (doneMount l (k + 1)) := by
  refine ((h.set (k * 2) _).set (k * 2 + 1) _).mono fun j u hj => ?_
  simp only [doneMount] at hj ⊢
  split at hj
  · rename_i hlt
    by_cases e1 : j = k * 2 + 1
    · rw [if_pos e1, if_pos (by omega)]
      subst e1
      rw [← hj, cellMount, show (k * 2 + 1) / 2 = k by omega, ht]; simp [show (k * 2 + 1) % 2 = 1 by omega]
    rw [if_neg e1]
    by_cases e0 : j = k * 2
    · rw [if_pos e0, if_pos (by omega)]
      subst e0
      rw [← hj, cellMount, show (k * 2) / 2 = k by omega, ht]; simp
    rw [if_neg e0]
    rw [if_pos (by omega)]; exact hj
  · cases hj

/-- What toMountS gives: a slice of its own that reads as the list. -/
def MadeMount (w : World) (n : Nat) (l : List Mount) (e : Ending) (w' : World) : Prop :=
  ∃ g, e = .returned (.slice (some ⟨g, 0, none⟩) n n) ∧ w.heap.size ≤ g ∧ RdMount w' g 0 l ∧ Below w.heap.size w w'
/-- How a slice came in. -/
def InMount (w : World) (A : Option Addr) (n : Nat) (l : List Mount) : Prop :=
  l.length = n ∧ (0 < n → ∃ b off, A = some ⟨b, off, none⟩ ∧ RdMount w b off l)
theorem InMount.below {w w' : World} {A : Option Addr} {n : Nat} {l : List Mount} (h : InMount w A n l) (hb : Below w.heap.size w w') : InMount w' A n l :=
  ⟨h.1, fun h0 => by
    obtain ⟨b, off, hA, hR⟩ := h.2 h0
    exact ⟨b, off, hA, hR.below hb⟩⟩

set_option maxHeartbeats 1000000 in
theorem toMountS_c (A : Option Addr) (n c : Nat) (l : List Mount) (w : World) (hA : InMount w A n l) (hn : n ≤ 1048576) :
    Calls Tryd.prog 13 #[.slice A n c] w (MadeMount w n l) := by
  obtain ⟨i0, hi0, hz0, hz1, hz2⟩ := info_parts infoMount
  have hmk := fun W => run_make_rowN (P := Tryd.prog) 23 28 i0 _ Tryd.underlying23 hi0 hz0 .i64 .i64 n n (Nat.le_refl _) (by rw [hz2]; omega) (by omega) W
  rw [hz1] at hmk
  have hA' := hide hA
  clear hA
  go_enter Tryd.func13, Tryd.ntmps13
  go_wp2_with fail
  clear hmk
  generalize hW : w.alloc (.cells (madeCells #[.string ⟨#[]⟩, .string ⟨#[]⟩] (n * 2)) 28) = W
  have hr0 : Row W w.heap.size (n * 2) (doneMount l 0) := by
    rw [← hW]
    have := Row.made w 28 (madeCells #[.string ⟨#[]⟩, .string ⟨#[]⟩] (n * 2)) (doneMount l 0) (fun j u hj => by simp [doneMount] at hj)
    rwa [size_madeCells] at this
  have hb0 : Below w.heap.size w W := by rw [← hW]; exact below_alloc0 (Below.refl _ _) _
  clear hW
  go_loopw [4] (fun i wr => ∃ k : Nat, k ≤ n ∧ i = .int .i64 k ∧ Row wr w.heap.size (n * 2) (doneMount l k) ∧ Below w.heap.size w wr) (fun i _ => n - (intOf i).toNat)
  case atStart => exact ⟨0, by omega, rfl, hr0, hb0⟩
  case round =>
    obtain ⟨k, hk, rfl, hrow, hbel⟩ := hrel
    by_cases hlt : k < n
    · obtain ⟨hl, hin⟩ := hA'.out
      obtain ⟨b, off, rfl, hR⟩ := hin (by omega)
      clear hin
      obtain ⟨t, ht⟩ : ∃ t, l[k]? = some t := ⟨_, List.getElem?_eq_getElem (by omega)⟩
      have HT := hide ht
      have hlb : b < wr.heap.size := Nat.lt_of_lt_of_le hR.1 hbel.size
      have c0 := (hR.below hbel).2 k t ht
      have HL := hide hl
      clear ht hl
      have g1 := hrow.lt
      obtain ⟨x0, gs0⟩ := hrow.some_ex (j := k * 2) (by omega)
      obtain ⟨x1, gs1⟩ := hrow.some_ex (j := k * 2 + 1) (by omega)
      have gf0 := hrow.frozen (k * 2)
      have gf1 := hrow.frozen (k * 2 + 1)
      go_wp2_with fail
      refine (toMount_c _ _ _).mono ?_
      rintro e w1 ⟨rfl, hb1⟩
      have V1 := live hb1 w.heap.size (by omega)
      go_wp2_with fail
      refine ⟨⟨k + 1, by omega, by go_num, row_nextMount (hrow.below hb1 g1) hlt HT.out, ((hbel.trans (hb1.mono hbel.size)).setCell (p := ⟨w.heap.size, _, none⟩) (Nat.le_refl _) _).setCell (p := ⟨w.heap.size, _, none⟩) (Nat.le_refl _) _⟩, by simp [intOf]; omega⟩
    · obtain rfl : k = n := by omega
      go_wp2
      go_ret
      exact ⟨w.heap.size, rfl, Nat.le_refl _, RdMount_of_row hrow hA'.out.1, hbel⟩

theorem eqMount_c (src : ByteArray) (dst : ByteArray) (w : World) :
    Calls Tryd.prog 30 #[.agg #[.string src, .string dst], .agg #[.string src, .string dst]] w fun e w' => e = .returned (.bool true) ∧ Below w.heap.size w w' := by
  go_enter Tryd.func30, Tryd.ntmps30
  go_wp2
  go_ret
  exact ⟨rfl, (by repeat' (first | exact Below.refl _ _ | assumption | exact And.left (by assumption) | omega | (simp; done) | (simp; omega) | (simp at *; omega) | (refine Below.setCell ?_ ?_ _) | (refine below_alloc0 ?_ _) | (refine Below.drew ?_) | (refine below_drewN ?_ _) | (refine below_via0 ?_ (by assumption)) | (refine Below.alloc ?_ ?_ _) | (refine below_via ?_ (by assumption) ?_)))⟩
set_option maxHeartbeats 1000000 in
/-- Two slices that read as one list are equal. -/
theorem eqMountS_c (b off c b' off' c' n : Nat) (l : List Mount) (hl : l.length = n) (hn : n ≤ 1048576) (w : World) (hR : RdMount w b off l) (hR' : RdMount w b' off' l) :
    Calls Tryd.prog 15 #[.slice (some ⟨b, off, none⟩) n c, .slice (some ⟨b', off', none⟩) n c'] w fun e w' => e = .returned (.bool true) ∧ Below w.heap.size w w' := by
  go_enter Tryd.func15, Tryd.ntmps15
  go_wp2_with fail
  go_loopw [5] (fun i wr => ∃ k : Nat, k ≤ n ∧ i = .int .i64 k ∧ Below w.heap.size w wr) (fun i _ => n - (intOf i).toNat)
  case atStart => exact ⟨0, by omega, rfl, Below.refl _ _⟩
  case round =>
    obtain ⟨k, hk, rfl, hbel⟩ := hrel
    by_cases hlt : k < n
    · obtain ⟨t, ht⟩ : ∃ t, l[k]? = some t := ⟨_, List.getElem?_eq_getElem (by omega)⟩
      have c0 := (hR.below hbel).2 k t ht
      have c1 := (hR'.below hbel).2 k t ht
      clear ht
      have lb : b < wr.heap.size := Nat.lt_of_lt_of_le hR.1 hbel.size
      have lb' : b' < wr.heap.size := Nat.lt_of_lt_of_le hR'.1 hbel.size
      go_wp2_with fail
      go_region_held3 (fun w' => Below w.heap.size w w' ∧ b < w'.heap.size ∧ b' < w'.heap.size ∧ w'.cell? ⟨b, off + k * 2, none⟩ = some (.string t.src) ∧ w'.cell? ⟨b, off + k * 2 + 1, none⟩ = some (.string t.dst) ∧ w'.cell? ⟨b', off' + k * 2, none⟩ = some (.string t.src) ∧ w'.cell? ⟨b', off' + k * 2 + 1, none⟩ = some (.string t.dst))
        (first | (have L1 := live hb1 b (by omega); have L2 := live hb1 b' (by omega); refine ⟨(by repeat' (first | exact Below.refl _ _ | assumption | exact And.left (by assumption) | omega | (simp; done) | (simp; omega) | (simp at *; omega) | (refine Below.setCell ?_ ?_ _) | (refine below_alloc0 ?_ _) | (refine Below.drew ?_) | (refine below_drewN ?_ _) | (refine below_via0 ?_ (by assumption)) | (refine Below.alloc ?_ ?_ _) | (refine below_via ?_ (by assumption) ?_))), ?_⟩; simp [*]; done) | (refine ⟨(by repeat' (first | exact Below.refl _ _ | assumption | exact And.left (by assumption) | omega | (simp; done) | (simp; omega) | (simp at *; omega) | (refine Below.setCell ?_ ?_ _) | (refine below_alloc0 ?_ _) | (refine Below.drew ?_) | (refine below_drewN ?_ _) | (refine below_via0 ?_ (by assumption)) | (refine Below.alloc ?_ ?_ _) | (refine below_via ?_ (by assumption) ?_))), ?_⟩; simp [go_sem]; done) | (refine ⟨(by repeat' (first | exact Below.refl _ _ | assumption | exact And.left (by assumption) | omega | (simp; done) | (simp; omega) | (simp at *; omega) | (refine Below.setCell ?_ ?_ _) | (refine below_alloc0 ?_ _) | (refine Below.drew ?_) | (refine below_drewN ?_ _) | (refine below_via0 ?_ (by assumption)) | (refine Below.alloc ?_ ?_ _) | (refine below_via ?_ (by assumption) ?_))), ?_⟩; simp [go_sem, *]; done) | assumption | go_keep)
        (first | (go_at_call 30; refine (eqMount_c _ _ _).mono ?_; rintro e w1 ⟨rfl, hb1⟩))
      have bel1 : Below w.heap.size w w1 := And.left (by assumption)
      go_wp2
      exact ⟨⟨k + 1, by omega, by go_num, bel1⟩, by simp [intOf]; omega⟩
    · obtain rfl : k = n := by omega
      go_wp2
      go_ret
      exact ⟨rfl, (by repeat' (first | exact Below.refl _ _ | assumption | exact And.left (by assumption) | omega | (simp; done) | (simp; omega) | (simp at *; omega) | (refine Below.setCell ?_ ?_ _) | (refine below_alloc0 ?_ _) | (refine Below.drew ?_) | (refine below_drewN ?_ _) | (refine below_via0 ?_ (by assumption)) | (refine Below.alloc ?_ ?_ _) | (refine below_via ?_ (by assumption) ?_)))⟩

def MntS (t : Mount) : Prop := t.src.size ≤ 1048576 ∧ t.dst.size ≤ 1048576
set_option maxHeartbeats 1000000 in
theorem szMountS_c (A : Option Addr) (n c : Nat) (l : List Mount) (hn : n ≤ maxLen) (hZ : ∀ t ∈ l, t.src.size ≤ maxLen ∧ t.dst.size ≤ maxLen) (w : World) (hI : InMount w A n l) :
    Calls Tryd.prog 11 #[.slice A n c, .int .i64 1048576] w fun e w' => ∃ y : Int, e = .returned (.int .i64 y) ∧ (0 ≤ y → n ≤ 1048576 ∧ ∀ t ∈ l, MntS t) ∧ Below w.heap.size w w' := by
  unfold maxLen at hn
  have HI := hide hI
  have HZ := hide hZ
  clear hI hZ
  have jw := IntWalk.i64_in (1048576 - n) (by omega)
  by_cases h : (1048576 : Int) - n < 0
  · go_enter Tryd.func11, Tryd.ntmps11
    go_wp2_with fail
    go_ret
    exact ⟨-1, rfl, fun h => absurd h (by omega), Below.refl _ _⟩
  · go_enter Tryd.func11, Tryd.ntmps11
    go_wp2_with fail
    go_loopw [1, 5] (fun zv i wr => ∃ (k : Nat) (y : Int), k ≤ n ∧ i = .int .i64 k ∧ zv = .int .i64 y ∧ 0 ≤ y ∧ y ≤ 1048576 ∧ Hid (∀ (q : Nat) (t : Mount), q < k → l[q]? = some t → MntS t) ∧ Hid (Below w.heap.size w wr)) (fun _ i _ => n - (intOf i).toNat)
    case atStart => exact ⟨0, _, by omega, rfl, rfl, by omega, by omega, fun q t hq => absurd hq (by omega), Below.refl _ _⟩
    case round =>
      obtain ⟨k, y, hk, rfl, rfl, y0, y1, hup, hbel⟩ := hrel
      by_cases hlt : k < n
      · obtain ⟨b, off, hA0, hR⟩ := HI.out.2 (by omega)
        subst hA0
        obtain ⟨t, ht⟩ : ∃ t, l[k]? = some t := ⟨_, List.getElem?_eq_getElem (by have := HI.out.1; omega)⟩
        obtain ⟨c0, c1⟩ := (hR.below hbel.out).2 k t ht
        have hb1 := (hR.below hbel.out).1
        have hzt := HZ.out t (List.mem_of_getElem? ht)
        have HT := hide ht
        have hkk : (k : Int) < n := by omega
        clear ht hR
        go_wp2_with fail
        refine (szMount1_c t.src t.dst y ⟨y0, y1⟩ hzt.1 hzt.2 _).mono ?_
        rintro e w1 ⟨x, rfl, x1, x2, hbx⟩
        have B1 := hide (below_via0 hbel.out hbx)
        clear hbx
        by_cases h2 : x < 0
        · go_wp2_with fail
          go_ret
          exact ⟨-1, rfl, fun h => absurd h (by omega), B1.out⟩
        · have HX := hide (x2 (by omega))
          clear x2
          go_wp2_with fail
          refine ⟨⟨k + 1, x, by omega, by go_num, rfl, by omega, by omega, fun q t' hq ht' => ?_, B1⟩, by simp [intOf] <;> omega⟩
          rcases Nat.lt_or_ge q k with hq' | hq'
          · exact hup.out q t' hq' ht'
          · obtain rfl : q = k := by omega
            obtain rfl := Option.some.inj (ht'.symm.trans HT.out)
            exact HX.out
      · obtain rfl : k = n := by omega
        have hkk : ¬ (k : Int) < k := by omega
        have HE := hide (show ∀ t ∈ l, MntS t from fun t ht => by
          obtain ⟨q, hq, rfl⟩ := List.getElem_of_mem ht
          exact hup.out q _ (by have := HI.out.1; omega) (List.getElem?_eq_getElem hq))
        go_wp2_with fail
        go_ret
        exact ⟨y, rfl, fun _ => ⟨by omega, HE.out⟩, hbel.out⟩

/-- How a slice came in, whole. -/
def InsMount (w : World) (A : Option Addr) (n c : Nat) (l : List Mount) : Prop := InMount w A n l ∧ n ≤ maxLen ∧ n ≤ c ∧ ∀ t ∈ l, t.src.size ≤ maxLen ∧ t.dst.size ≤ maxLen
open Go.ChangeShapes Go.WideShapes Go.Deep in
theorem open_recs48 {H : Type} {enc : TypeId × Value → H} {w : World} {base : Nat} {spare : Nat → Bool} {held : Bool} {a : Option Addr} {len cap : Nat} {d : DataW H} {p : List MemPlace}
    (h : DataW.Trod enc Tryd.prog w base spare held 30 (.slice a len cap) d p) : ∃ l, InsMount w a len cap l := by
  obtain ⟨h1, h2, h3⟩ := open_recs Tryd.underlying30 Tryd.underlying48 (by kernel_rfl) (by kernel_rfl) (by simp) h
  rcases Nat.eq_zero_or_pos len with h0 | h0
  · subst h0
    exact ⟨[], ⟨rfl, fun h => absurd h (by omega)⟩, by omega, h1, fun t ht => absurd ht (by simp)⟩
  · obtain ⟨b, off, rfl, hb, hi⟩ := h3 h0
    obtain ⟨l, hl, hq⟩ := choose_list (Q := fun k (t : Mount) => (w.cell? ⟨b, off + k * 2, none⟩ = some (.string t.src) ∧ w.cell? ⟨b, off + k * 2 + 1, none⟩ = some (.string t.dst)) ∧ t.src.size ≤ maxLen ∧ t.dst.size ≤ maxLen) len (fun i hil => by
      obtain ⟨n, hn⟩ := hi i hil
      obtain ⟨v0, y0, c0, t0⟩ := hn 0 _ rfl
      obtain ⟨v1, y1, c1, t1⟩ := hn 1 _ rfl
      obtain ⟨a0, e0, _, z0⟩ := DataW.trod_string Tryd.underlying9 t0
      obtain ⟨a1, e1, _, z1⟩ := DataW.trod_string Tryd.underlying9 t1
      simp only [List.cons.injEq, and_true] at e0 e1
      subst e0 e1
      exact ⟨⟨a0, a1⟩, ⟨c0, c1⟩, z0, z1⟩)
    exact ⟨l, ⟨hl, fun _ => ⟨b, off, rfl, hb, fun k t ht => (hq k t ht).1⟩⟩, by omega, h1, fun t ht => by
      obtain ⟨k, hk, rfl⟩ := List.getElem_of_mem ht
      exact (hq k _ (List.getElem?_eq_getElem hk)).2⟩

