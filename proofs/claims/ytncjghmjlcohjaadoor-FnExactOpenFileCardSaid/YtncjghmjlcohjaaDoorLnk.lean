/-
  LinksOf: of the reference. No condition.
-/
import Derived.Test.YtncjghmjlcohjaaDoorProg
import Derived.Test.YtncjghmjlcohjaaDoorNds
namespace Go.Proofs.YtncjghmjlcohjaaDoor
open Go.RowKit
set_option linter.unusedSimpArgs false
set_option linter.unusedVariables false

/-- The kids of the first i nodes. -/
def tlK (l : List Node) (i : Nat) : List Int := (l.take i).flatMap Node.kids
theorem tlK_succ {l : List Node} {i : Nat} {t : Node} (ht : l[i]? = some t) : tlK l (i + 1) = tlK l i ++ t.kids := by
  unfold tlK
  rw [List.take_add_one, ht]
  simp
theorem takeK {ks : List Int} {j : Nat} {x : Int} (hx : ks[j]? = some x) : ks.take (j + 1) = ks.take j ++ [x] := by
  rw [List.take_add_one, hx]; simp
def LK (l : List Node) (n : Nat) : Prop := n ≤ 16 ∧ ∀ t ∈ l, ∀ x ∈ t.kids, inB x 0 ((n : Int) - 1) = true
def cfK (xs : List Int) (n : Nat) (v : Nat) : Option Value := if v < n then some (.int .i64 (xs.count (v : Int))) else none
theorem cfK_step {w : World} {g n v : Nat} {xs : List Int} (h : Row w g n (cfK xs n)) (hv : v < n) : Row (w.setCell ⟨g, v, none⟩ (.int .i64 ((xs.count (v : Int) : Int) + 1))) g n (cfK (xs ++ [(v : Int)]) n) := by
  refine (h.set v _).mono fun j u hj => ?_
  simp only [cfK] at hj ⊢
  split at hj
  · rename_i hlt
    by_cases e : j = v
    · subst e
      rw [if_pos rfl, if_pos (by omega), ← hj]
      simp [List.count_append]
    · rw [if_neg e, if_pos hlt, ← hj]
      have : ¬ ((v : Int) = (j : Int)) := by omega
      simp [List.count_append, List.count_cons, this]
  · cases hj
def LkOut (w : World) (l : List Node) (n : Nat) (e : Ending) (w' : World) : Prop :=
  ∃ (A : Option Addr) (m c : Nat), e = .returned (.slice A m c) ∧ Below w.heap.size w w' ∧ ((LK l n ∧ m = n ∧ ∃ g, A = some ⟨g, 0, none⟩ ∧ Row w' g n (cfK (tlK l n) n)) ∨ (¬ LK l n ∧ m = 0))
theorem lenK {l : List Node} (hz : ∀ t ∈ l, NodeS t) : ∀ i, (tlK l i).length ≤ i * 1048576
  | 0 => by simp [tlK]
  | i + 1 => by
    cases ht : l[i]? with
    | none =>
      have : tlK l (i + 1) = tlK l i := by unfold tlK; rw [List.take_add_one, ht]; simp
      have h := lenK hz i
      rw [this]
      exact Nat.le_trans h (Nat.mul_le_mul_right _ (Nat.le_succ i))
    | some t =>
      rw [tlK_succ ht, List.length_append]
      have := lenK hz i
      have := (hz t (List.mem_of_getElem? ht)).2
      omega
theorem lk_bad {l : List Node} {n i j : Nat} {t : Node} {x : Int} (ht : l[i]? = some t) (hx : t.kids[j]? = some x) (h : inB x 0 ((n : Int) - 1) = false) : ¬ LK l n := fun e => by
  have := e.2 t (List.mem_of_getElem? ht) x (List.mem_of_getElem? hx)
  rw [h] at this; cases this
/-- The kids seen so far are in range. -/
def UpK (l : List Node) (n i : Nat) : Prop := ∀ (q : Nat) (t : Node), q < i → l[q]? = some t → ∀ x ∈ t.kids, inB x 0 ((n : Int) - 1) = true
theorem lk_ok {l : List Node} {n : Nat} (hl : l.length = n) (h16 : n ≤ 16) (h : UpK l n n) : LK l n := ⟨h16, fun t ht x hx => by
  obtain ⟨q, hq, rfl⟩ := List.getElem_of_mem ht
  exact h q _ (by omega) (List.getElem?_eq_getElem hq) x hx⟩
set_option maxHeartbeats 4000000 in
theorem lkSpec_c (A : Option Addr) (n c : Nat) (l : List Node) (w : World) (hI : InNode w A n l) (hn : n ≤ 1048576) (hz : ∀ t ∈ l, NodeS t) :
    Calls Tryd.prog 39 #[.slice A n c] w (LkOut w l n) := by
  obtain ⟨i0, hi0, hz0, hz1, hz2⟩ := info_parts infoInt
  have hmk := fun W => run_make_rowN (P := Tryd.prog) 39 3 i0 _ Tryd.underlying39 hi0 hz0 .i64 .i64 n n (Nat.le_refl _) (by rw [hz2]; omega) (by omega) W
  simp only [hz1, Nat.mul_one] at hmk
  have HI := hide hI
  have HZ := hide hz
  have HLN := hide (lenK hz)
  clear hI hz
  by_cases h16 : 16 < n
  · have HF := hide (show ¬ LK l n from fun e => by have := e.1; omega)
    have h16' : (16 : Int) < n := by omega
    go_enter Tryd.func39, Tryd.ntmps39
    go_wp2_with fail
    clear hmk
    go_ret
    exact ⟨_, 0, 0, rfl, below_alloc0 (below_alloc0 (Below.refl _ _) _) _, .inr ⟨HF.out, rfl⟩⟩
  have h16' : ¬ (16 : Int) < n := by omega
  go_enter Tryd.func39, Tryd.ntmps39
  go_wp2_with fail
  clear hmk
  generalize hW : w.alloc (.cells (madeCells #[.int .i64 0] n) 3) = W
  have hr0 : Row W w.heap.size n (cfK (tlK l 0) n) := by
    rw [← hW]
    have := Row.made w 3 (madeCells #[.int .i64 0] n) (cfK (tlK l 0) n) (fun j u hj => by
      simp only [cfK, tlK] at hj
      split at hj
      · rename_i hlt
        rw [← hj]
        have e : (madeCells #[Value.int .i64 0] n)[j]? = some (Value.int .i64 0) := by
          have := size_madeCells #[Value.int .i64 0] n
          simp [madeCells, hlt, Nat.mod_one]
        rw [e]
        simp
      · cases hj)
    rwa [size_madeCells] at this
  have hb0 : Below w.heap.size w W := by rw [← hW]; exact below_alloc0 (Below.refl _ _) _
  clear hW
  go_loopw [4] (fun kv wr => ∃ i : Nat, i ≤ n ∧ kv = .int .i64 i ∧ Hid (UpK l n i) ∧ Hid (Row wr w.heap.size n (cfK (tlK l i) n)) ∧ Hid (Below w.heap.size w wr)) (fun kv _ => n - (intOf kv).toNat)
  case atStart => exact ⟨0, by omega, rfl, fun q t hq => absurd hq (by omega), hr0, hb0⟩
  case round =>
    obtain ⟨i, hi, rfl, hup, hrow, hbel⟩ := hrel
    by_cases hlt : i < n
    · have hii : (i : Int) < n := by omega
      obtain ⟨b, off, hA, hR⟩ := HI.out.2 (by omega)
      subst hA
      have HR := hide hR
      obtain ⟨t, ht⟩ : ∃ t, l[i]? = some t := ⟨_, List.getElem?_eq_getElem (by have := HI.out.1; omega)⟩
      have HT := hide ht
      obtain ⟨S, K, hat, _, ⟨A2, n2, c2, rfl, hnc, hK⟩⟩ := hR.2 i t ht
      have HAT := hide hat
      have HK := hide hK
      have hk2 := hK.1
      have hn2 : n2 ≤ 1048576 := by have := (HZ.out t (List.mem_of_getElem? ht)).2; omega
      clear hR ht hat hK
      go_wp2_with fail
      go_loopw [5] (fun kv wq => ∃ j : Nat, j ≤ n2 ∧ kv = .int .i64 j ∧ Hid (∀ x ∈ t.kids.take j, inB x 0 ((n : Int) - 1) = true) ∧ Hid (Row wq w.heap.size n (cfK (tlK l i ++ t.kids.take j) n)) ∧ Hid (Below w.heap.size w wq)) (fun kv _ => n2 - (intOf kv).toNat)
      case atStart => exact ⟨0, by omega, rfl, fun x hx => absurd hx (by simp), (by simpa using hrow), hbel⟩
      case round =>
        obtain ⟨j, hj, rfl, hupj, hrowj, hbj⟩ := hrel
        have c6 := (hbj.out.cell (p := ⟨b, off + i * 7 + 6, none⟩) HR.out.1).trans HAT.out.2.2.2.2.2.2
        have hbl : b < wr.heap.size := Nat.lt_of_lt_of_le HR.out.1 hbj.out.size
        by_cases hjl : j < n2
        · have hjj : (j : Int) < n2 := by omega
          obtain ⟨b2, o2, hA2, hR2⟩ := (HK.out.below hbj.out).2 (by omega)
          subst hA2
          obtain ⟨x, hx⟩ : ∃ x, t.kids[j]? = some x := ⟨_, List.getElem?_eq_getElem (by omega)⟩
          have e0 := hR2.2 j x hx
          have hb2 := hR2.1
          have HX := hide hx
          have jn := IntWalk.i64_in ((n : Int) - 1) (by omega)
          cases hin : inB x 0 ((n : Int) - 1)
          · have HF := hide (lk_bad HT.out hx hin)
            clear hx hR2
            go_wp2_with (go_at_call 20; refine (l1In_c _ _ _ _).mono ?_; rintro e w' ⟨rfl, rfl⟩; rw [hin])
            go_ret
            exact ⟨_, 0, 0, rfl, hbj.out.alloc (by have := hbj.out.size; omega) _, .inr ⟨HF.out, rfl⟩⟩
          obtain ⟨x0, x1⟩ := inB_iff.1 hin
          obtain ⟨v, rfl⟩ := Int.eq_ofNat_of_zero_le x0
          have hv : v < n := by omega
          have hvi : (v : Int) < n := by omega
          have g1 := hrowj.out.lt
          have gc := hrowj.out.cell (j := v) (show cfK _ n v = _ from if_pos hv)
          have gf := hrowj.out.frozen v
          have hcl : (List.count (v : Int) (tlK l i ++ t.kids.take j) : Int) + 1 ≤ 9223372036854775807 := by
            have h1 := List.count_le_length (a := (v : Int)) (l := tlK l i ++ t.kids.take j)
            have h2 := HLN.out i
            rw [List.length_append, List.length_take] at h1
            omega
          have jc := IntWalk.i64_in ((List.count (v : Int) (tlK l i ++ t.kids.take j) : Int) + 1) (by omega)
          have HN := hide (show Row (wr.setCell ⟨w.heap.size, v, none⟩ (.int .i64 ((List.count (v : Int) (tlK l i ++ t.kids.take j) : Int) + 1))) w.heap.size n (cfK (tlK l i ++ t.kids.take (j + 1)) n) from by
            rw [takeK hx, ← List.append_assoc]
            exact cfK_step hrowj.out hv)
          have HU := hide (show ∀ x ∈ t.kids.take (j + 1), inB x 0 ((n : Int) - 1) = true from by
            rw [takeK hx]
            intro y hy
            rcases List.mem_append.1 hy with h | h
            · exact hupj.out y h
            · simp at h; rw [h]; exact hin)
          clear hx hR2
          generalize (List.count (v : Int) (tlK l i ++ t.kids.take j) : Int) = C at *
          go_wp2_with (go_at_call 20; refine (l1In_c _ _ _ _).mono ?_; rintro e w' ⟨rfl, rfl⟩; rw [hin])
          go_region
          go_wp2
          exact ⟨⟨j + 1, by omega, by go_num, HU, HN, hide (hbj.out.setCell (p := ⟨w.heap.size, v, none⟩) (Nat.le_refl _) _).drew⟩, by simp [intOf] <;> omega⟩
        · obtain rfl : j = n2 := by omega
          have hjj : ¬ (j : Int) < j := by omega
          have HN := hide (show Row wr w.heap.size n (cfK (tlK l (i + 1)) n) from by
            have := hrowj.out
            rw [List.take_of_length_le (by omega), ← tlK_succ HT.out] at this
            exact this)
          have HU := hide (show UpK l n (i + 1) from fun q t' hq ht' x hx => by
            rcases Nat.lt_or_ge q i with hlt' | hge'
            · exact hup.out q t' hlt' ht' x hx
            · obtain rfl : q = i := by omega
              obtain rfl := Option.some.inj (ht'.symm.trans HT.out)
              exact hupj.out x (by rw [List.take_of_length_le (by omega)]; exact hx))
          go_wp2_with fail
          exact ⟨⟨i + 1, by omega, by go_num, HU, HN, hbj⟩, by simp [intOf] <;> omega⟩
    · obtain rfl : i = n := by omega
      have hii : ¬ (i : Int) < i := by omega
      have HF := hide (lk_ok HI.out.1 (by omega) hup.out)
      go_wp2_with fail
      go_ret
      exact ⟨_, i, i, rfl, hbel.out, .inl ⟨HF.out, rfl, w.heap.size, rfl, hrow.out⟩⟩
end Go.Proofs.YtncjghmjlcohjaaDoor
