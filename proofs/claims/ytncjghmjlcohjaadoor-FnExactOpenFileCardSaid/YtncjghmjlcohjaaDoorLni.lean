/-
  LinksOf: of the program. No condition.
-/
import Derived.Test.YtncjghmjlcohjaaDoorProg
import Derived.Test.YtncjghmjlcohjaaDoorLnk
namespace Go.Proofs.YtncjghmjlcohjaaDoor
open Go.RowKit
set_option linter.unusedSimpArgs false
set_option linter.unusedVariables false

set_option maxHeartbeats 4000000 in
theorem lkImpl_c (A : Option Addr) (n c : Nat) (l : List Node) (w : World) (hI : InNode w A n l) (hn : n ≤ 1048576) (hz : ∀ t ∈ l, NodeS t) :
    Calls Tryd.prog 45 #[.slice A n c] w (LkOut w l n) := by
  obtain ⟨i0, hi0, hz0, hz1, hz2⟩ := info_parts infoInt
  have hmk := fun W => run_make_rowN (P := Tryd.prog) 39 3 i0 _ Tryd.underlying39 hi0 hz0 .i64 .i64 n n (Nat.le_refl _) (by rw [hz2]; omega) (by omega) W
  simp only [hz1, Nat.mul_one] at hmk
  have HI := hide hI
  have HZ := hide hz
  have HLN := hide (lenK hz)
  clear hI hz
  by_cases h16 : 16 < n
  · have HF := hide (show ¬ LK l n from fun e => by have := e.1; omega)
    have h16' : (16 : Int) < n := by omega
    go_enter Tryd.func45, Tryd.ntmps45
    go_wp2_with fail
    clear hmk
    go_ret
    exact ⟨_, 0, 0, rfl, Below.refl _ _, .inr ⟨HF.out, rfl⟩⟩
  have h16' : ¬ (16 : Int) < n := by omega
  go_enter Tryd.func45, Tryd.ntmps45
  go_wp2_with fail
  clear hmk
  generalize hW : w.alloc (.cells (madeCells #[.int .i64 0] n) 3) = W
  have hr0 : Row W w.heap.size n (cfK (tlK l 0) n) := by
    rw [← hW]
    have := Row.made w 3 (madeCells #[.int .i64 0] n) (cfK (tlK l 0) n) (fun j u hj => by
      simp only [cfK, tlK] at hj
      split at hj
      · rename_i hlt
        rw [← hj]
        have e : (madeCells #[Value.int .i64 0] n)[j]? = some (Value.int .i64 0) := by
          have := size_madeCells #[Value.int .i64 0] n
          simp [madeCells, hlt, Nat.mod_one]
        rw [e]
        simp
      · cases hj)
    rwa [size_madeCells] at this
  have hb0 : Below w.heap.size w W := by rw [← hW]; exact below_alloc0 (Below.refl _ _) _
  clear hW
  go_loopw [16] (fun kv wr => ∃ i : Nat, i ≤ n ∧ kv = .int .i64 i ∧ Hid (UpK l n i) ∧ Hid (Row wr w.heap.size n (cfK (tlK l i) n)) ∧ Hid (Below w.heap.size w wr)) (fun kv _ => n - (intOf kv).toNat)
  case atStart => exact ⟨0, by omega, rfl, fun q t hq => absurd hq (by omega), hr0, hb0⟩
  case round =>
    obtain ⟨i, hi, rfl, hup, hrow, hbel⟩ := hrel
    by_cases hlt : i < n
    · have hii : (i : Int) < n := by omega
      obtain ⟨b, off, hA, hR⟩ := HI.out.2 (by omega)
      subst hA
      have HR := hide hR
      obtain ⟨t, ht⟩ : ∃ t, l[i]? = some t := ⟨_, List.getElem?_eq_getElem (by have := HI.out.1; omega)⟩
      have HT := hide ht
      obtain ⟨S, K, hat, hSS, ⟨A2, n2, c2, rfl, hnc, hK⟩⟩ := hR.2 i t ht
      have HAT := hide hat
      have HK := hide hK
      have hk2 := hK.1
      have hn2 : n2 ≤ 1048576 := by have := (HZ.out t (List.mem_of_getElem? ht)).2; omega
      obtain ⟨c0, c1, c2', c3, c4, c5, c6⟩ := (show NodeAt wr b (off + i * 7) t S (.slice A2 n2 c2) from by
        have hc : ∀ o, wr.cell? ⟨b, o, none⟩ = w.cell? ⟨b, o, none⟩ := fun o => hbel.out.cell (p := ⟨b, o, none⟩) HR.out.1
        obtain ⟨h0, h1, h2, h3, h4, h5, h6⟩ := hat
        exact ⟨(hc _).trans h0, (hc _).trans h1, (hc _).trans h2, (hc _).trans h3, (hc _).trans h4, (hc _).trans h5, (hc _).trans h6⟩)
      have hbl0 : b < wr.heap.size := Nat.lt_of_lt_of_le HR.out.1 hbel.out.size
      have hrA := hide (hrow.out.alloc (.cells #[.bool t.dir, .int .i64 t.owner, .int .i64 t.group, .int .i64 t.mode, .string t.text, S, .slice A2 n2 c2] 45))
      have hbA := hide (hbel.out.alloc hbel.out.size (.cells #[.bool t.dir, .int .i64 t.owner, .int .i64 t.group, .int .i64 t.mode, .string t.text, S, .slice A2 n2 c2] 45))
      obtain ⟨A5, n5, c5', hS5, _, _⟩ := hSS
      subst hS5
      clear hR ht hat hK hrow hbel
      go_wp2_with fail
      clear c0 c1 c2' c3 c4 c5 c6 hbl0
      go_loopw [23] (fun kv wq => ∃ j : Nat, j ≤ n2 ∧ kv = .int .i64 j ∧ Hid (∀ x ∈ t.kids.take j, inB x 0 ((n : Int) - 1) = true) ∧ Hid (Row wq w.heap.size n (cfK (tlK l i ++ t.kids.take j) n)) ∧ Hid (Below w.heap.size w wq)) (fun kv _ => n2 - (intOf kv).toNat)
      case atStart => exact ⟨0, by omega, rfl, fun x hx => absurd hx (by simp), (by simpa using hrA), hbA⟩
      case round =>
        obtain ⟨j, hj, rfl, hupj, hrowj, hbj⟩ := hrel
        by_cases hjl : j < n2
        · have hjj : (j : Int) < n2 := by omega
          obtain ⟨b2, o2, hA2, hR2⟩ := (HK.out.below hbj.out).2 (by omega)
          subst hA2
          obtain ⟨x, hx⟩ : ∃ x, t.kids[j]? = some x := ⟨_, List.getElem?_eq_getElem (by omega)⟩
          have e0 := hR2.2 j x hx
          have hb2 := hR2.1
          have HX := hide hx
          have jn := IntWalk.i64_in ((n : Int) - 1) (by omega)
          cases hin : inB x 0 ((n : Int) - 1)
          · have HF := hide (lk_bad HT.out hx hin)
            clear hx hR2
            go_wp2_with (go_at_call 40; refine (within_c _ _ _ _).mono ?_; rintro e w' ⟨rfl, rfl⟩; rw [hin])
            go_ret
            exact ⟨_, 0, 0, rfl, hbj.out, .inr ⟨HF.out, rfl⟩⟩
          obtain ⟨x0, x1⟩ := inB_iff.1 hin
          obtain ⟨v, rfl⟩ := Int.eq_ofNat_of_zero_le x0
          have hv : v < n := by omega
          have hvi : (v : Int) < n := by omega
          have g1 := hrowj.out.lt
          have gc := hrowj.out.cell (j := v) (show cfK _ n v = _ from if_pos hv)
          have gf := hrowj.out.frozen v
          have hcl : (List.count (v : Int) (tlK l i ++ t.kids.take j) : Int) + 1 ≤ 9223372036854775807 := by
            have h1 := List.count_le_length (a := (v : Int)) (l := tlK l i ++ t.kids.take j)
            have h2 := HLN.out i
            rw [List.length_append, List.length_take] at h1
            omega
          have jc := IntWalk.i64_in ((List.count (v : Int) (tlK l i ++ t.kids.take j) : Int) + 1) (by omega)
          have HN := hide (show Row (wr.setCell ⟨w.heap.size, v, none⟩ (.int .i64 ((List.count (v : Int) (tlK l i ++ t.kids.take j) : Int) + 1))) w.heap.size n (cfK (tlK l i ++ t.kids.take (j + 1)) n) from by
            rw [takeK hx, ← List.append_assoc]
            exact cfK_step hrowj.out hv)
          have HU := hide (show ∀ x ∈ t.kids.take (j + 1), inB x 0 ((n : Int) - 1) = true from by
            rw [takeK hx]
            intro y hy
            rcases List.mem_append.1 hy with h | h
            · exact hupj.out y h
            · simp at h; rw [h]; exact hin)
          clear hx hR2
          generalize (List.count (v : Int) (tlK l i ++ t.kids.take j) : Int) = C at *
          go_wp2_with (go_at_call 40; refine (within_c _ _ _ _).mono ?_; rintro e w' ⟨rfl, rfl⟩; rw [hin])
          exact ⟨⟨j + 1, by omega, by go_num, HU, HN, hide (hbj.out.setCell (p := ⟨w.heap.size, v, none⟩) (Nat.le_refl _) _)⟩, by simp [intOf] <;> omega⟩
        · obtain rfl : j = n2 := by omega
          have hjj : ¬ (j : Int) < j := by omega
          have HN := hide (show Row wr w.heap.size n (cfK (tlK l (i + 1)) n) from by
            have := hrowj.out
            rw [List.take_of_length_le (by omega), ← tlK_succ HT.out] at this
            exact this)
          have HU := hide (show UpK l n (i + 1) from fun q t' hq ht' x hx => by
            rcases Nat.lt_or_ge q i with hlt' | hge'
            · exact hup.out q t' hlt' ht' x hx
            · obtain rfl : q = i := by omega
              obtain rfl := Option.some.inj (ht'.symm.trans HT.out)
              exact hupj.out x (by rw [List.take_of_length_le (by omega)]; exact hx))
          go_wp2_with fail
          exact ⟨⟨i + 1, by omega, by go_num, HU, HN, hbj⟩, by simp [intOf] <;> omega⟩
    · obtain rfl : i = n := by omega
      have hii : ¬ (i : Int) < i := by omega
      have HF := hide (lk_ok HI.out.1 (by omega) hup.out)
      go_wp2_with fail
      go_ret
      exact ⟨_, i, i, rfl, hbel.out, .inl ⟨HF.out, rfl, w.heap.size, rfl, hrow.out⟩⟩
end Go.Proofs.YtncjghmjlcohjaaDoor
