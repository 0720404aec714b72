/-
  Slices of strings and of ints. No condition.
-/
import Derived.Test.YtncjghmjlcohjaaDoorProg
import Derived.Test.YtncjghmjlcohjaaDoorIns
namespace Go.Proofs.YtncjghmjlcohjaaDoor
open Go.RowKit
set_option linter.unusedSimpArgs false
set_option linter.unusedVariables false

/-- A slice of .strings reads as the list. -/
def RdString (w : World) (b off : Nat) (l : List ByteArray) : Prop := b < w.heap.size ∧ ∀ (k : Nat) (x : ByteArray), l[k]? = some x → w.cell? ⟨b, off + k, none⟩ = some (.string x)
theorem RdString.below {w w' : World} {b off : Nat} {l : List ByteArray} (h : RdString w b off l) (hb : Below w.heap.size w w') : RdString w' b off l :=
  ⟨Nat.lt_of_lt_of_le h.1 hb.size, fun k x hx => (hb.cell (p := ⟨b, _, none⟩) h.1).trans (h.2 k x hx)⟩
theorem RdString.keep {w w' : World} {b off : Nat} {l : List ByteArray} (h : RdString w b off l) (hs : w.heap.size ≤ w'.heap.size) (hb : w'.heap[b]? = w.heap[b]?) : RdString w' b off l :=
  ⟨Nat.lt_of_lt_of_le h.1 hs, fun k x hx => by
    have := h.2 k x hx
    rw [← this]
    unfold World.cell?
    simp only [hb]⟩
def InString (w : World) (A : Option Addr) (n : Nat) (l : List ByteArray) : Prop := l.length = n ∧ (0 < n → ∃ b off, A = some ⟨b, off, none⟩ ∧ RdString w b off l)
theorem InString.below {w w' : World} {A : Option Addr} {n : Nat} {l : List ByteArray} (h : InString w A n l) (hb : Below w.heap.size w w') : InString w' A n l :=
  ⟨h.1, fun h0 => by
    obtain ⟨b, off, hA, hR⟩ := h.2 h0
    exact ⟨b, off, hA, hR.below hb⟩⟩
def doneString (l : List ByteArray) (k : Nat) (j : Nat) : Option Value := if j < k then (l[j]?).map (.string) else none
theorem rdString_of_row {w : World} {g n : Nat} {l : List ByteArray} (h : Row w g n (doneString l n)) (hl : l.length = n) : RdString w g 0 l := by
  refine ⟨h.lt, fun k x hx => ?_⟩
  have hk : k < n := by rw [← hl]; exact (List.getElem?_eq_some_iff.1 hx).1
  refine h.cell ?_
  simp only [doneString]
  rw [if_pos (by omega), Nat.zero_add, hx]
  rfl
theorem row_nextString {w : World} {g n k : Nat} {l : List ByteArray} {x : ByteArray} (h : Row w g n (doneString l k)) (hk : k < n) (hx : l[k]? = some x) : Row (w.setCell ⟨g, k, none⟩ (.string x)) g n (doneString l (k + 1)) := by
  refine (h.set k _).mono fun j u hj => ?_
  simp only [doneString] at hj ⊢
  split at hj
  · rename_i hlt
    by_cases e : j = k
    · subst e
      rw [if_pos rfl, if_pos (by omega), ← hj, hx]; rfl
    · rw [if_neg e, if_pos (by omega)]; exact hj
  · cases hj
theorem infoString : (Tryd.prog.info? 9).map (fun i => (i.zero, i.size, i.bytes)) = some (some (.string ByteArray.empty), 1, 16) := by kernel_rfl
set_option maxHeartbeats 1000000 in
theorem toString_c (A : Option Addr) (n c : Nat) (l : List ByteArray) (w : World) (hA : InString w A n l) (hn : n ≤ 1048576) :
    Calls Tryd.prog 26 #[.slice A n c] w fun e w' => ∃ g, e = .returned (.slice (some ⟨g, 0, none⟩) n n) ∧ w.heap.size ≤ g ∧ RdString w' g 0 l ∧ Below w.heap.size w w' := by
  obtain ⟨i0, hi0, hz0, hz1, hz2⟩ := info_parts infoString
  have hmk := fun W => run_make_rowN (P := Tryd.prog) 38 9 i0 _ Tryd.underlying38 hi0 hz0 .i64 .i64 n n (Nat.le_refl _) (by rw [hz2]; omega) (by omega) W
  simp only [hz1, Nat.mul_one] at hmk
  have hA' := hide hA
  clear hA
  go_enter Tryd.func26, Tryd.ntmps26
  go_wp2_with fail
  clear hmk
  generalize hW : w.alloc (.cells (madeCells #[.string ByteArray.empty] n) 9) = W
  have hr0 : Row W w.heap.size n (doneString l 0) := by
    rw [← hW]
    have := Row.made w 9 (madeCells #[.string ByteArray.empty] n) (doneString l 0) (fun j u hj => by simp [doneString] at hj)
    rwa [size_madeCells] at this
  have hb0 : Below w.heap.size w W := by rw [← hW]; exact below_alloc0 (Below.refl _ _) _
  clear hW
  go_loopw [4] (fun i wr => ∃ k : Nat, k ≤ n ∧ i = .int .i64 k ∧ Row wr w.heap.size n (doneString l k) ∧ Below w.heap.size w wr) (fun i _ => n - (intOf i).toNat)
  case atStart => exact ⟨0, by omega, rfl, hr0, hb0⟩
  case round =>
    obtain ⟨k, hk, rfl, hrow, hbel⟩ := hrel
    by_cases hlt : k < n
    · obtain ⟨b, off, hA0, hR⟩ := hA'.out.2 (by omega)
      subst hA0
      obtain ⟨x, hx⟩ : ∃ x, l[k]? = some x := ⟨_, List.getElem?_eq_getElem (by have := hA'.out.1; omega)⟩
      have HX := hide hx
      have c0 := (hR.below hbel).2 k x hx
      have hlb : b < wr.heap.size := Nat.lt_of_lt_of_le hR.1 hbel.size
      have g1 := hrow.lt
      obtain ⟨y, gs⟩ := hrow.some_ex (j := k) (by omega)
      have gf := hrow.frozen k
      clear hx hR
      go_wp2_with fail
      exact ⟨⟨k + 1, by omega, by go_num, row_nextString hrow hlt HX.out, hbel.setCell (p := ⟨w.heap.size, _, none⟩) (Nat.le_refl _) _⟩, by simp [intOf] <;> omega⟩
    · obtain rfl : k = n := by omega
      go_wp2
      go_ret
      exact ⟨w.heap.size, rfl, Nat.le_refl _, rdString_of_row hrow hA'.out.1, hbel⟩
set_option maxHeartbeats 1000000 in
theorem eqString_c (A A' : Option Addr) (n c c' : Nat) (l : List ByteArray) (hn : n ≤ 1048576) (w : World) (h : InString w A n l) (h' : InString w A' n l) :
    Calls Tryd.prog 34 #[.slice A n c, .slice A' n c'] w fun e w' => e = .returned (.bool true) ∧ Below w.heap.size w w' := by
  have HI := hide h
  have HI' := hide h'
  clear h h'
  go_enter Tryd.func34, Tryd.ntmps34
  go_wp2_with fail
  go_loopw [5] (fun i wr => ∃ k : Nat, k ≤ n ∧ i = .int .i64 k ∧ Hid (Below w.heap.size w wr)) (fun i _ => n - (intOf i).toNat)
  case atStart => exact ⟨0, by omega, rfl, Below.refl _ _⟩
  case round =>
    obtain ⟨k, hk, rfl, hbel⟩ := hrel
    by_cases hlt : k < n
    · obtain ⟨b, off, hA0, hR⟩ := HI.out.2 (by omega)
      obtain ⟨b', off', hA1, hR'⟩ := HI'.out.2 (by omega)
      subst hA0 hA1
      obtain ⟨x, hx⟩ : ∃ x, l[k]? = some x := ⟨_, List.getElem?_eq_getElem (by have := HI.out.1; omega)⟩
      have c0 := (hR.below hbel.out).2 k x hx
      have c1 := (hR'.below hbel.out).2 k x hx
      have hb1 := (hR.below hbel.out).1
      have hb2 := (hR'.below hbel.out).1
      clear hx hR hR'
      go_wp2_with fail
      go_quiet (fail)
      go_wp2
      exact ⟨⟨k + 1, by omega, by go_num, below_drewN hbel.out _⟩, by simp [intOf] <;> omega⟩
    · obtain rfl : k = n := by omega
      go_wp2
      go_ret
      exact ⟨rfl, hbel.out⟩
/-- A slice of .int .i64s reads as the list. -/
def RdInt (w : World) (b off : Nat) (l : List Int) : Prop := b < w.heap.size ∧ ∀ (k : Nat) (x : Int), l[k]? = some x → w.cell? ⟨b, off + k, none⟩ = some (.int .i64 x)
theorem RdInt.below {w w' : World} {b off : Nat} {l : List Int} (h : RdInt w b off l) (hb : Below w.heap.size w w') : RdInt w' b off l :=
  ⟨Nat.lt_of_lt_of_le h.1 hb.size, fun k x hx => (hb.cell (p := ⟨b, _, none⟩) h.1).trans (h.2 k x hx)⟩
theorem RdInt.keep {w w' : World} {b off : Nat} {l : List Int} (h : RdInt w b off l) (hs : w.heap.size ≤ w'.heap.size) (hb : w'.heap[b]? = w.heap[b]?) : RdInt w' b off l :=
  ⟨Nat.lt_of_lt_of_le h.1 hs, fun k x hx => by
    have := h.2 k x hx
    rw [← this]
    unfold World.cell?
    simp only [hb]⟩
def InInt (w : World) (A : Option Addr) (n : Nat) (l : List Int) : Prop := l.length = n ∧ (0 < n → ∃ b off, A = some ⟨b, off, none⟩ ∧ RdInt w b off l)
theorem InInt.below {w w' : World} {A : Option Addr} {n : Nat} {l : List Int} (h : InInt w A n l) (hb : Below w.heap.size w w') : InInt w' A n l :=
  ⟨h.1, fun h0 => by
    obtain ⟨b, off, hA, hR⟩ := h.2 h0
    exact ⟨b, off, hA, hR.below hb⟩⟩
def doneInt (l : List Int) (k : Nat) (j : Nat) : Option Value := if j < k then (l[j]?).map (.int .i64) else none
theorem rdInt_of_row {w : World} {g n : Nat} {l : List Int} (h : Row w g n (doneInt l n)) (hl : l.length = n) : RdInt w g 0 l := by
  refine ⟨h.lt, fun k x hx => ?_⟩
  have hk : k < n := by rw [← hl]; exact (List.getElem?_eq_some_iff.1 hx).1
  refine h.cell ?_
  simp only [doneInt]
  rw [if_pos (by omega), Nat.zero_add, hx]
  rfl
theorem row_nextInt {w : World} {g n k : Nat} {l : List Int} {x : Int} (h : Row w g n (doneInt l k)) (hk : k < n) (hx : l[k]? = some x) : Row (w.setCell ⟨g, k, none⟩ (.int .i64 x)) g n (doneInt l (k + 1)) := by
  refine (h.set k _).mono fun j u hj => ?_
  simp only [doneInt] at hj ⊢
  split at hj
  · rename_i hlt
    by_cases e : j = k
    · subst e
      rw [if_pos rfl, if_pos (by omega), ← hj, hx]; rfl
    · rw [if_neg e, if_pos (by omega)]; exact hj
  · cases hj
theorem infoInt : (Tryd.prog.info? 3).map (fun i => (i.zero, i.size, i.bytes)) = some (some (.int .i64 0), 1, 8) := by kernel_rfl
set_option maxHeartbeats 1000000 in
theorem toInt_c (A : Option Addr) (n c : Nat) (l : List Int) (w : World) (hA : InInt w A n l) (hn : n ≤ 1048576) :
    Calls Tryd.prog 27 #[.slice A n c] w fun e w' => ∃ g, e = .returned (.slice (some ⟨g, 0, none⟩) n n) ∧ w.heap.size ≤ g ∧ RdInt w' g 0 l ∧ Below w.heap.size w w' := by
  obtain ⟨i0, hi0, hz0, hz1, hz2⟩ := info_parts infoInt
  have hmk := fun W => run_make_rowN (P := Tryd.prog) 39 3 i0 _ Tryd.underlying39 hi0 hz0 .i64 .i64 n n (Nat.le_refl _) (by rw [hz2]; omega) (by omega) W
  simp only [hz1, Nat.mul_one] at hmk
  have hA' := hide hA
  clear hA
  go_enter Tryd.func27, Tryd.ntmps27
  go_wp2_with fail
  clear hmk
  generalize hW : w.alloc (.cells (madeCells #[.int .i64 0] n) 3) = W
  have hr0 : Row W w.heap.size n (doneInt l 0) := by
    rw [← hW]
    have := Row.made w 3 (madeCells #[.int .i64 0] n) (doneInt l 0) (fun j u hj => by simp [doneInt] at hj)
    rwa [size_madeCells] at this
  have hb0 : Below w.heap.size w W := by rw [← hW]; exact below_alloc0 (Below.refl _ _) _
  clear hW
  go_loopw [4] (fun i wr => ∃ k : Nat, k ≤ n ∧ i = .int .i64 k ∧ Row wr w.heap.size n (doneInt l k) ∧ Below w.heap.size w wr) (fun i _ => n - (intOf i).toNat)
  case atStart => exact ⟨0, by omega, rfl, hr0, hb0⟩
  case round =>
    obtain ⟨k, hk, rfl, hrow, hbel⟩ := hrel
    by_cases hlt : k < n
    · obtain ⟨b, off, hA0, hR⟩ := hA'.out.2 (by omega)
      subst hA0
      obtain ⟨x, hx⟩ : ∃ x, l[k]? = some x := ⟨_, List.getElem?_eq_getElem (by have := hA'.out.1; omega)⟩
      have HX := hide hx
      have c0 := (hR.below hbel).2 k x hx
      have hlb : b < wr.heap.size := Nat.lt_of_lt_of_le hR.1 hbel.size
      have g1 := hrow.lt
      obtain ⟨y, gs⟩ := hrow.some_ex (j := k) (by omega)
      have gf := hrow.frozen k
      clear hx hR
      go_wp2_with fail
      exact ⟨⟨k + 1, by omega, by go_num, row_nextInt hrow hlt HX.out, hbel.setCell (p := ⟨w.heap.size, _, none⟩) (Nat.le_refl _) _⟩, by simp [intOf] <;> omega⟩
    · obtain rfl : k = n := by omega
      go_wp2
      go_ret
      exact ⟨w.heap.size, rfl, Nat.le_refl _, rdInt_of_row hrow hA'.out.1, hbel⟩
set_option maxHeartbeats 1000000 in
theorem eqInt_c (A A' : Option Addr) (n c c' : Nat) (l : List Int) (hn : n ≤ 1048576) (w : World) (h : InInt w A n l) (h' : InInt w A' n l) :
    Calls Tryd.prog 35 #[.slice A n c, .slice A' n c'] w fun e w' => e = .returned (.bool true) ∧ Below w.heap.size w w' := by
  have HI := hide h
  have HI' := hide h'
  clear h h'
  go_enter Tryd.func35, Tryd.ntmps35
  go_wp2_with fail
  go_loopw [5] (fun i wr => ∃ k : Nat, k ≤ n ∧ i = .int .i64 k ∧ Hid (Below w.heap.size w wr)) (fun i _ => n - (intOf i).toNat)
  case atStart => exact ⟨0, by omega, rfl, Below.refl _ _⟩
  case round =>
    obtain ⟨k, hk, rfl, hbel⟩ := hrel
    by_cases hlt : k < n
    · obtain ⟨b, off, hA0, hR⟩ := HI.out.2 (by omega)
      obtain ⟨b', off', hA1, hR'⟩ := HI'.out.2 (by omega)
      subst hA0 hA1
      obtain ⟨x, hx⟩ : ∃ x, l[k]? = some x := ⟨_, List.getElem?_eq_getElem (by have := HI.out.1; omega)⟩
      have c0 := (hR.below hbel.out).2 k x hx
      have c1 := (hR'.below hbel.out).2 k x hx
      have hb1 := (hR.below hbel.out).1
      have hb2 := (hR'.below hbel.out).1
      clear hx hR hR'
      go_wp2_with fail
      go_quiet (fail)
      go_wp2
      exact ⟨⟨k + 1, by omega, by go_num, below_drewN hbel.out _⟩, by simp [intOf] <;> omega⟩
    · obtain rfl : k = n := by omega
      go_wp2
      go_ret
      exact ⟨rfl, hbel.out⟩
theorem szInt_c (A : Option Addr) (n c : Nat) (z : Int) (hz : 0 ≤ z ∧ z ≤ 1048576) (hn : n ≤ maxLen) (w : World) :
    Calls Tryd.prog 19 #[.slice A n c, .int .i64 z] w fun e w' => ∃ y : Int, e = .returned (.int .i64 y) ∧ y ≤ z ∧ (0 ≤ y → n ≤ 1048576) ∧ w = w' := by
  unfold maxLen at hn
  have jw := IntWalk.i64_in (z - n) (by omega)
  by_cases h : z - n < 0
  · go_enter Tryd.func19, Tryd.ntmps19
    go_wp2
    go_ret
    exact ⟨-1, rfl, by omega, by omega, rfl⟩
  · go_enter Tryd.func19, Tryd.ntmps19
    go_wp2
    go_ret
    exact ⟨z - n, rfl, by omega, by omega, rfl⟩
set_option maxHeartbeats 1000000 in
theorem szString_c (A : Option Addr) (n c : Nat) (l : List ByteArray) (z : Int) (hz : 0 ≤ z ∧ z ≤ 1048576) (hn : n ≤ maxLen) (hs : ∀ x ∈ l, x.size ≤ maxLen) (w : World) (h : InString w A n l) :
    Calls Tryd.prog 18 #[.slice A n c, .int .i64 z] w fun e w' => ∃ y : Int, e = .returned (.int .i64 y) ∧ y ≤ z ∧ (0 ≤ y → n ≤ 1048576) ∧ w = w' := by
  unfold maxLen at hn
  have HS := hide hs
  have HI := hide h
  clear hs h
  have jw := IntWalk.i64_in (z - n) (by omega)
  by_cases h : z - n < 0
  · go_enter Tryd.func18, Tryd.ntmps18
    go_wp2_with fail
    go_ret
    exact ⟨-1, rfl, by omega, by omega, rfl⟩
  · go_enter Tryd.func18, Tryd.ntmps18
    go_wp2_with fail
    go_loopw [1, 5] (fun zv i wr => ∃ (k : Nat) (y : Int), k ≤ n ∧ i = .int .i64 k ∧ zv = .int .i64 y ∧ 0 ≤ y ∧ y ≤ z - n ∧ wr = w) (fun _ i _ => n - (intOf i).toNat)
    case atStart => exact ⟨0, _, by omega, rfl, rfl, by omega, by omega, rfl⟩
    case round =>
      obtain ⟨k, y, hk, rfl, rfl, y0, y1, rfl⟩ := hrel
      by_cases hlt : k < n
      · obtain ⟨b, off, hA0, hR⟩ := HI.out.2 (by omega)
        subst hA0
        obtain ⟨x, hx⟩ : ∃ x, l[k]? = some x := ⟨_, List.getElem?_eq_getElem (by have := HI.out.1; omega)⟩
        have c0 := hR.2 k x hx
        have hb1 := hR.1
        have hxs := HS.out x (List.mem_of_getElem? hx)
        unfold maxLen at hxs
        have hkk : (k : Int) < n := by omega
        have jw2 := IntWalk.i64_in (y - x.size) (by omega)
        clear hx hR
        by_cases h2 : y - x.size < 0
        · go_wp2_with fail
          go_ret
          exact ⟨-1, rfl, by omega, by omega, rfl⟩
        · go_wp2_with fail
          exact ⟨⟨k + 1, y - x.size, by omega, by go_num, rfl, by omega, by omega, by first | rfl | trivial⟩, by simp [intOf] <;> omega⟩
      · obtain rfl : k = n := by omega
        have hkk : ¬ (k : Int) < k := by omega
        go_wp2_with fail
        go_ret
        exact ⟨y, rfl, by omega, by omega, rfl⟩
end Go.Proofs.YtncjghmjlcohjaaDoor
