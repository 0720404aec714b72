/-
  TreeValid of the program. No condition.
-/
import Derived.Test.YtncjghmjlcohjaaDoorProg
import Derived.Test.YtncjghmjlcohjaaDoorTvs
namespace Go.Proofs.YtncjghmjlcohjaaDoor
open Go.RowKit
set_option linter.unusedSimpArgs false
set_option linter.unusedVariables false

theorem mem_tlK {l : List Node} {n : Nat} {t : Node} {x : Int} (hl : l.length = n) (ht : t ∈ l) (hx : x ∈ t.kids) : x ∈ tlK l n := by
  unfold tlK
  rw [List.take_of_length_le (by omega)]
  exact List.mem_flatMap.2 ⟨t, ht, hx⟩
theorem TV.c0 {l : List Node} {n : Nat} (h : ∀ (i : Nat) (t : Node), l[i]? = some t → TVa l n i t) : (tlK l n).count 0 = 0 := by
  rw [List.count_eq_zero]
  intro hm
  unfold tlK at hm
  obtain ⟨t, ht, hx⟩ := List.mem_flatMap.1 hm
  obtain ⟨q, hq, rfl⟩ := List.getElem_of_mem (List.mem_of_mem_take ht)
  have := inB_iff.1 (kid_in (h q _ (List.getElem?_eq_getElem hq)).2.1 0 hx)
  omega
theorem kidup_of {l : List Node} {n : Nat} {t : Node} (hl : l.length = n) (hk : LK l n) (h0 : (tlK l n).count 0 = 0) (ht : t ∈ l) : KidUp t.kids n t.kids.length := by
  intro i x hi hx
  have hm := List.mem_of_getElem? hx
  have h1 := inB_iff.1 (hk.2 t ht x hm)
  have h2 : x ≠ 0 := fun e => by
    rw [List.count_eq_zero] at h0
    exact h0 (by rw [← e]; exact mem_tlK hl ht hm)
  exact inB_iff.2 ⟨by omega, h1.2⟩
/-- What the program asks of the node i. -/
def TVp (l : List Node) (n i : Nat) (t : Node) : Prop := NdOk t ∧ KidD l i t.kids ∧ (0 < i → TVb l n i t)
set_option maxRecDepth 100000 in
set_option maxHeartbeats 8000000 in
theorem tvImpl_c (A : Option Addr) (n c : Nat) (l : List Node) (w : World) (hI : InNode w A n l) (hn : n ≤ 1048576) (hz : ∀ t ∈ l, NodeS t) (hZ : ∀ t ∈ l, NodeZ t) :
    Calls Tryd.prog 31 #[.slice A n c] w fun e w' => e = .returned (.bool (treeB l n)) ∧ Below w.heap.size w w' := by
  have HI := hide hI
  have HZ := hide hZ
  have HZS := hide hz
  have hlen := hI.1
  clear hI hZ hz
  go_enter Tryd.func31, Tryd.ntmps31
  go_wp2_with fail
  refine (lkImpl_c A n c l _ HI.out hn HZS.out).mono ?_
  rintro e w1 ⟨A1, m1, c1, rfl, hb1, hout⟩
  have B1 := hide hb1
  have HI1 := hide (HI.out.below hb1)
  clear hb1
  by_cases hn0 : n = 0
  · subst hn0
    have HF := hide (show treeB l 0 = false from treeB_no fun e => by have := e.1; omega)
    go_wp2_with fail
    go_ret
    exact ⟨by rw [HF.out]; rfl, B1.out⟩
  have hn0' : ((n : Int) == 0) = false := by simp; omega
  rcases hout with ⟨hlk, rfl, g, rfl, hrow⟩ | ⟨hlk, rfl⟩
  case inr =>
    have HF := hide (show treeB l n = false from treeB_no fun e => hlk (TV.lk e.2.1 e.2.2.2.1))
    have hmn : (0 : Int) < n := by omega
    go_wp2_with fail
    go_ret
    exact ⟨by rw [HF.out]; rfl, B1.out⟩
  have HLK := hide hlk
  have RW := hide hrow
  have g1 := hrow.lt
  have gc0 := hrow.cell (j := 0) (show cfK _ m1 0 = _ from if_pos (by omega))
  obtain ⟨b, off, rfl, hR⟩ := HI1.out.2 (by omega)
  have HR := hide hR
  obtain ⟨t0, ht0⟩ : ∃ t, l[0]? = some t := ⟨_, List.getElem?_eq_getElem (by omega)⟩
  obtain ⟨S0, K0, ⟨a0, _⟩, _, _⟩ := hR.2 0 t0 ht0
  simp only [Nat.zero_mul, Nat.add_zero] at a0
  have hbw := hR.1
  have h0n : (0 : Int) < m1 := by omega
  have hd0 : dirAt l 0 = t0.dir := by simp [dirAt, ht0]
  clear hR ht0 hlk hrow
  cases hdd : t0.dir
  · have HF := hide (show treeB l m1 = false from treeB_no fun e => by have := e.2.2.1; rw [hd0, hdd] at this; cases this)
    rw [hdd] at a0
    go_wp2_with fail
    go_ret
    exact ⟨by rw [HF.out]; rfl, B1.out⟩
  rw [hdd] at a0 hd0
  obtain ⟨C0, hC0⟩ : ∃ C, List.count ((0 : Nat) : Int) (tlK l m1) = C := ⟨_, rfl⟩
  rw [hC0] at gc0
  by_cases hc0 : (0 : Int) < C0
  · have HF := hide (show treeB l m1 = false from treeB_no fun e => by
      have := TV.c0 e.2.2.2.1
      rw [show ((0 : Nat) : Int) = 0 from rfl] at hC0
      omega)
    go_wp2_with fail
    go_ret
    exact ⟨by rw [HF.out]; rfl, B1.out⟩
  have HC0 := hide (show (tlK l m1).count 0 = 0 from by rw [show ((0 : Nat) : Int) = 0 from rfl] at hC0; omega)
  go_wp2_with fail
  clear a0 gc0 hC0 hc0
  go_loopw [35] (fun kv wr => ∃ i : Nat, i ≤ m1 ∧ kv = .int .i64 i ∧ Hid (∀ (q : Nat) (t : Node), q < i → l[q]? = some t → TVp l m1 q t) ∧ Hid (Below w1.heap.size w1 wr)) (fun kv _ => m1 - (intOf kv).toNat)
  case atStart => exact ⟨0, by omega, rfl, fun q t hq => absurd hq (by omega), Below.refl _ _⟩
  case round =>
    obtain ⟨i, hi, rfl, hup, hbel⟩ := hrel
    by_cases hlt : i < m1
    · have hii : (i : Int) < m1 := by omega
      obtain ⟨t, ht⟩ : ∃ t, l[i]? = some t := ⟨_, List.getElem?_eq_getElem (by omega)⟩
      have HT := hide ht
      obtain ⟨S, K, ⟨c0, c1, c2, c3, c4, c5, c6⟩, hS, hK⟩ := (HR.out.below hbel.out).2 i t ht
      have hbl := (HR.out.below hbel.out).1
      have HZt := hide (HZ.out t (List.mem_of_getElem? ht))
      obtain ⟨A5, n5, c5', rfl, hnc5, hS5⟩ := hS
      obtain ⟨A2, m, c2', rfl, hmc, hK2⟩ := hK
      have hkm := hK2.1
      have hm : m ≤ 1048576 := by have := (HZS.out t (List.mem_of_getElem? ht)).2; omega
      have hbA : Below wr.heap.size wr (wr.alloc (.cells #[.bool t.dir, .int .i64 t.owner, .int .i64 t.group, .int .i64 t.mode, .string t.text, .slice A5 n5 c5', .slice A2 m c2'] 45)) := below_alloc0 (Below.refl _ _) _
      have HSK := hide (And.intro (SlS.below ⟨A5, n5, c5', rfl, hnc5, hS5⟩ hbA) (SlK.below ⟨A2, m, c2', rfl, hmc, hK2⟩ hbA))
      have HNB := hide hbA
      clear ht hS5 hK2 hbA
      go_wp2_with fail
      refine (ndImpl_c t _ _ HZt.out _ HSK.out.1 HSK.out.2).mono ?_
      rintro e w2 ⟨rfl, hb2⟩
      have V := live hb2 wr.heap.size (by simp)
      have B2 := hide (below_via0 hbel.out (below_via0 HNB.out hb2))
      have HK2 := hide (HSK.out.2.below hb2)
      clear hb2 c0 c1 c2 c3 c4 c5 c6 hbl
      have HRW2 := hide (RW.out.below B2.out g1)
      have gl2 := HRW2.out.lt
      have gc := HRW2.out.cell (j := i) (show cfK _ m1 i = _ from if_pos hlt)
      cases hnd : ndI t
      · have HF := hide (show treeB l m1 = false from treeB_no fun e => by
          have := e.2.2.2.1 i t HT.out
          rw [ndI_iff.2 this.1] at hnd; cases hnd)
        go_wp2_with fail
        go_ret
        exact ⟨by rw [HF.out]; rfl, below_via0 B1.out B2.out⟩
      have HND := hide (ndI_iff.1 hnd)
      clear hnd
      obtain ⟨C, hC⟩ : ∃ C, List.count (i : Int) (tlK l m1) = C := ⟨_, rfl⟩
      rw [hC] at gc
      have HB := hide (fun (h0 : 0 < i) (h : ¬ TVb l m1 i t) => (show treeB l m1 = false from treeB_no fun e => h (e.2.2.2.2 i t h0 HT.out)))
      simp only [TVb, cntN, hC] at HB
      by_cases hbad : 0 < i ∧ ¬ (1 ≤ C ∧ (t.dir = true → C ≤ 1))
      · have HF := hide (HB.out hbad.1 hbad.2)
        have hi0 : (0 : Int) < i := by have := hbad.1; omega
        by_cases hz : C = 0
        · subst hz
          go_wp2_with fail
          go_ret
          exact ⟨by rw [HF.out]; rfl, below_via0 B1.out B2.out⟩
        · have hz' : ((C : Int) == 0) = false := by simp; omega
          obtain ⟨hdi, hc1⟩ : t.dir = true ∧ 1 < C := by
            cases hdx : t.dir
            · exact absurd ⟨by omega, fun h => by rw [hdx] at h; cases h⟩ hbad.2
            · refine ⟨rfl, Nat.lt_of_not_le fun hle => hbad.2 ⟨by omega, fun _ => hle⟩⟩
          have hc1' : (1 : Int) < C := by omega
          rw [hdi] at V
          go_wp2_with fail
          go_ret
          exact ⟨by rw [HF.out]; rfl, below_via0 B1.out B2.out⟩
      have HGd := hide (show 0 < i → TVb l m1 i t from fun h0 => by
        have := Classical.not_and_iff_not_or_not.1 hbad
        simp only [TVb, cntN, hC]
        rcases this with h | h
        · exact absurd h0 h
        · exact Classical.not_not.1 h)
      have hcase : i = 0 ∨ (0 < i ∧ C ≠ 0 ∧ (t.dir = true → C ≤ 1)) := by
        rcases Nat.eq_zero_or_pos i with h | h
        · exact .inl h
        · have := HGd.out h
          simp only [TVb, cntN, hC] at this
          exact .inr ⟨h, by omega, this.2⟩
      have HKK := hide (show InInt w2 A2 m t.kids from by
        obtain ⟨A', n', c'', e, _, h⟩ := HK2.out
        cases e
        exact h)
      clear HB hbad
      rcases hcase with h0 | ⟨h0, hcz, hcd⟩
      · have hi0 : ¬ (0 : Int) < i := by omega
        go_wp2_with fail
        go_loopw [72] (fun kv wq => ∃ j : Nat, j ≤ m ∧ kv = .int .i64 j ∧ Hid (KidD l i (t.kids.take j)) ∧ wq = w2) (fun kv _ => m - (intOf kv).toNat)
        case atStart => exact ⟨0, by omega, rfl, fun x hx => absurd hx (by simp), rfl⟩
        case round =>
          obtain ⟨j, hj, rfl, hkd, rfl⟩ := hrel
          by_cases hjl : j < m
          · have hjj : (j : Int) < m := by omega
            obtain ⟨b2, o2, hA2, hR2⟩ := HKK.out.2 (by omega)
            subst hA2
            obtain ⟨x, hx⟩ : ∃ x, t.kids[j]? = some x := ⟨_, List.getElem?_eq_getElem (by omega)⟩
            have e0 := hR2.2 j x hx
            have hb2 := hR2.1
            obtain ⟨x0, x1⟩ := inB_iff.1 (HLK.out.2 t (List.mem_of_getElem? HT.out) x (List.mem_of_getElem? hx))
            obtain ⟨v, rfl⟩ := Int.eq_ofNat_of_zero_le (by omega : 0 ≤ x)
            have hvi : (v : Int) < m1 := by omega
            obtain ⟨u, hu⟩ : ∃ u, l[v]? = some u := ⟨_, List.getElem?_eq_getElem (by omega)⟩
            obtain ⟨Su, Ku, ⟨u0, _⟩, _, _⟩ := (HR.out.below B2.out).2 v u hu
            have hbl := (HR.out.below B2.out).1
            have hda : dirAt l (v : Int) = u.dir := by simp [dirAt, hu]
            have HX := hide hx
            clear hR2 hu
            have HBad := hide (fun (h : (dirAt l (v : Int) && decide ((v : Int) ≤ (i : Int))) = true) => (show treeB l m1 = false from treeB_no fun e => by
              have := (e.2.2.2.1 i t HT.out).2.2 v (List.mem_of_getElem? HX.out)
              rw [h] at this; cases this))
            have HGood := hide (fun (h : (dirAt l (v : Int) && decide ((v : Int) ≤ (i : Int))) = false) => (show KidD l i (t.kids.take (j + 1)) from by
              rw [takeK HX.out]
              intro y hy
              rcases List.mem_append.1 hy with hh | hh
              · exact hkd.out y hh
              · simp at hh; rw [hh]; exact h))
            rw [hda] at HBad HGood
            clear hx hda
            cases hud : u.dir
            · rw [hud] at u0 HGood
              have HG := hide (HGood.out (by simp))
              clear HBad HGood
              go_wp2_with fail
              exact ⟨⟨j + 1, by omega, by go_num, HG, by first | rfl | trivial⟩, by simp [intOf] <;> omega⟩
            rw [hud] at u0 HBad HGood
            by_cases hvle : (v : Int) ≤ i
            · have HF := hide (HBad.out (by simp; omega))
              clear HBad HGood
              go_wp2_with fail
              go_ret
              exact ⟨by rw [HF.out]; rfl, below_via0 B1.out B2.out⟩
            · have HG := hide (HGood.out (by simp; omega))
              clear HBad HGood
              go_wp2_with fail
              exact ⟨⟨j + 1, by omega, by go_num, HG, by first | rfl | trivial⟩, by simp [intOf] <;> omega⟩
          · obtain rfl : j = m := by omega
            have hjj : ¬ (j : Int) < j := by omega
            have HU := hide (show ∀ (q : Nat) (t : Node), q < i + 1 → l[q]? = some t → TVp l m1 q t from fun q t' hq ht' => by
              rcases Nat.lt_or_ge q i with h' | h'
              · exact hup.out q t' h' ht'
              · obtain rfl : q = i := by omega
                obtain rfl := Option.some.inj (ht'.symm.trans HT.out)
                refine ⟨HND.out, ?_, HGd.out⟩
                have := hkd.out
                rw [List.take_of_length_le (by omega)] at this
                exact this)
            go_wp2_with fail
            first | exact ⟨⟨_, _, _, _, .int .i64 ((i : Int) + 1), ⟨i + 1, by omega, by go_num, HU⟩, rfl, rfl, rfl, rfl, rfl⟩, by simp [intOf] <;> omega⟩ | exact ⟨⟨_, _, _, _, .int .i64 1, ⟨i + 1, by omega, by simp [h0], HU⟩, rfl, rfl, rfl, rfl, rfl⟩, by simp [intOf] <;> omega⟩
      have hi0 : (0 : Int) < i := by omega
      have hz' : ((C : Int) == 0) = false := by simp; omega
      cases hdx : t.dir
      · rw [hdx] at V
        go_wp2_with fail
        go_loopw [72] (fun kv wq => ∃ j : Nat, j ≤ m ∧ kv = .int .i64 j ∧ Hid (KidD l i (t.kids.take j)) ∧ wq = w2) (fun kv _ => m - (intOf kv).toNat)
        case atStart => exact ⟨0, by omega, rfl, fun x hx => absurd hx (by simp), rfl⟩
        case round =>
          obtain ⟨j, hj, rfl, hkd, rfl⟩ := hrel
          by_cases hjl : j < m
          · have hjj : (j : Int) < m := by omega
            obtain ⟨b2, o2, hA2, hR2⟩ := HKK.out.2 (by omega)
            subst hA2
            obtain ⟨x, hx⟩ : ∃ x, t.kids[j]? = some x := ⟨_, List.getElem?_eq_getElem (by omega)⟩
            have e0 := hR2.2 j x hx
            have hb2 := hR2.1
            obtain ⟨x0, x1⟩ := inB_iff.1 (HLK.out.2 t (List.mem_of_getElem? HT.out) x (List.mem_of_getElem? hx))
            obtain ⟨v, rfl⟩ := Int.eq_ofNat_of_zero_le (by omega : 0 ≤ x)
            have hvi : (v : Int) < m1 := by omega
            obtain ⟨u, hu⟩ : ∃ u, l[v]? = some u := ⟨_, List.getElem?_eq_getElem (by omega)⟩
            obtain ⟨Su, Ku, ⟨u0, _⟩, _, _⟩ := (HR.out.below B2.out).2 v u hu
            have hbl := (HR.out.below B2.out).1
            have hda : dirAt l (v : Int) = u.dir := by simp [dirAt, hu]
            have HX := hide hx
            clear hR2 hu
            have HBad := hide (fun (h : (dirAt l (v : Int) && decide ((v : Int) ≤ (i : Int))) = true) => (show treeB l m1 = false from treeB_no fun e => by
              have := (e.2.2.2.1 i t HT.out).2.2 v (List.mem_of_getElem? HX.out)
              rw [h] at this; cases this))
            have HGood := hide (fun (h : (dirAt l (v : Int) && decide ((v : Int) ≤ (i : Int))) = false) => (show KidD l i (t.kids.take (j + 1)) from by
              rw [takeK HX.out]
              intro y hy
              rcases List.mem_append.1 hy with hh | hh
              · exact hkd.out y hh
              · simp at hh; rw [hh]; exact h))
            rw [hda] at HBad HGood
            clear hx hda
            cases hud : u.dir
            · rw [hud] at u0 HGood
              have HG := hide (HGood.out (by simp))
              clear HBad HGood
              go_wp2_with fail
              exact ⟨⟨j + 1, by omega, by go_num, HG, by first | rfl | trivial⟩, by simp [intOf] <;> omega⟩
            rw [hud] at u0 HBad HGood
            by_cases hvle : (v : Int) ≤ i
            · have HF := hide (HBad.out (by simp; omega))
              clear HBad HGood
              go_wp2_with fail
              go_ret
              exact ⟨by rw [HF.out]; rfl, below_via0 B1.out B2.out⟩
            · have HG := hide (HGood.out (by simp; omega))
              clear HBad HGood
              go_wp2_with fail
              exact ⟨⟨j + 1, by omega, by go_num, HG, by first | rfl | trivial⟩, by simp [intOf] <;> omega⟩
          · obtain rfl : j = m := by omega
            have hjj : ¬ (j : Int) < j := by omega
            have HU := hide (show ∀ (q : Nat) (t : Node), q < i + 1 → l[q]? = some t → TVp l m1 q t from fun q t' hq ht' => by
              rcases Nat.lt_or_ge q i with h' | h'
              · exact hup.out q t' h' ht'
              · obtain rfl : q = i := by omega
                obtain rfl := Option.some.inj (ht'.symm.trans HT.out)
                refine ⟨HND.out, ?_, HGd.out⟩
                have := hkd.out
                rw [List.take_of_length_le (by omega)] at this
                exact this)
            go_wp2_with fail
            first | exact ⟨⟨_, _, _, _, .int .i64 ((i : Int) + 1), ⟨i + 1, by omega, by go_num, HU⟩, rfl, rfl, rfl, rfl, rfl⟩, by simp [intOf] <;> omega⟩ | exact ⟨⟨_, _, _, _, .int .i64 1, ⟨i + 1, by omega, by simp [h0], HU⟩, rfl, rfl, rfl, rfl, rfl⟩, by simp [intOf] <;> omega⟩
      · rw [hdx] at V
        have hc1 : ¬ (1 : Int) < C := by have := hcd hdx; omega
        go_wp2_with fail
        go_loopw [72] (fun kv wq => ∃ j : Nat, j ≤ m ∧ kv = .int .i64 j ∧ Hid (KidD l i (t.kids.take j)) ∧ wq = w2) (fun kv _ => m - (intOf kv).toNat)
        case atStart => exact ⟨0, by omega, rfl, fun x hx => absurd hx (by simp), rfl⟩
        case round =>
          obtain ⟨j, hj, rfl, hkd, rfl⟩ := hrel
          by_cases hjl : j < m
          · have hjj : (j : Int) < m := by omega
            obtain ⟨b2, o2, hA2, hR2⟩ := HKK.out.2 (by omega)
            subst hA2
            obtain ⟨x, hx⟩ : ∃ x, t.kids[j]? = some x := ⟨_, List.getElem?_eq_getElem (by omega)⟩
            have e0 := hR2.2 j x hx
            have hb2 := hR2.1
            obtain ⟨x0, x1⟩ := inB_iff.1 (HLK.out.2 t (List.mem_of_getElem? HT.out) x (List.mem_of_getElem? hx))
            obtain ⟨v, rfl⟩ := Int.eq_ofNat_of_zero_le (by omega : 0 ≤ x)
            have hvi : (v : Int) < m1 := by omega
            obtain ⟨u, hu⟩ : ∃ u, l[v]? = some u := ⟨_, List.getElem?_eq_getElem (by omega)⟩
            obtain ⟨Su, Ku, ⟨u0, _⟩, _, _⟩ := (HR.out.below B2.out).2 v u hu
            have hbl := (HR.out.below B2.out).1
            have hda : dirAt l (v : Int) = u.dir := by simp [dirAt, hu]
            have HX := hide hx
            clear hR2 hu
            have HBad := hide (fun (h : (dirAt l (v : Int) && decide ((v : Int) ≤ (i : Int))) = true) => (show treeB l m1 = false from treeB_no fun e => by
              have := (e.2.2.2.1 i t HT.out).2.2 v (List.mem_of_getElem? HX.out)
              rw [h] at this; cases this))
            have HGood := hide (fun (h : (dirAt l (v : Int) && decide ((v : Int) ≤ (i : Int))) = false) => (show KidD l i (t.kids.take (j + 1)) from by
              rw [takeK HX.out]
              intro y hy
              rcases List.mem_append.1 hy with hh | hh
              · exact hkd.out y hh
              · simp at hh; rw [hh]; exact h))
            rw [hda] at HBad HGood
            clear hx hda
            cases hud : u.dir
            · rw [hud] at u0 HGood
              have HG := hide (HGood.out (by simp))
              clear HBad HGood
              go_wp2_with fail
              exact ⟨⟨j + 1, by omega, by go_num, HG, by first | rfl | trivial⟩, by simp [intOf] <;> omega⟩
            rw [hud] at u0 HBad HGood
            by_cases hvle : (v : Int) ≤ i
            · have HF := hide (HBad.out (by simp; omega))
              clear HBad HGood
              go_wp2_with fail
              go_ret
              exact ⟨by rw [HF.out]; rfl, below_via0 B1.out B2.out⟩
            · have HG := hide (HGood.out (by simp; omega))
              clear HBad HGood
              go_wp2_with fail
              exact ⟨⟨j + 1, by omega, by go_num, HG, by first | rfl | trivial⟩, by simp [intOf] <;> omega⟩
          · obtain rfl : j = m := by omega
            have hjj : ¬ (j : Int) < j := by omega
            have HU := hide (show ∀ (q : Nat) (t : Node), q < i + 1 → l[q]? = some t → TVp l m1 q t from fun q t' hq ht' => by
              rcases Nat.lt_or_ge q i with h' | h'
              · exact hup.out q t' h' ht'
              · obtain rfl : q = i := by omega
                obtain rfl := Option.some.inj (ht'.symm.trans HT.out)
                refine ⟨HND.out, ?_, HGd.out⟩
                have := hkd.out
                rw [List.take_of_length_le (by omega)] at this
                exact this)
            go_wp2_with fail
            first | exact ⟨⟨_, _, _, _, .int .i64 ((i : Int) + 1), ⟨i + 1, by omega, by go_num, HU⟩, rfl, rfl, rfl, rfl, rfl⟩, by simp [intOf] <;> omega⟩ | exact ⟨⟨_, _, _, _, .int .i64 1, ⟨i + 1, by omega, by simp [h0], HU⟩, rfl, rfl, rfl, rfl, rfl⟩, by simp [intOf] <;> omega⟩
    · obtain rfl : i = m1 := by omega
      have hii : ¬ (i : Int) < i := by omega
      have HF := hide (show treeB l i = true from treeB_iff.2 ⟨by omega, HLK.out.1, hd0, fun q t ht => by
          have := hup.out q t (by have := (List.getElem?_eq_some_iff.1 ht).1; omega) ht
          exact ⟨this.1, kidup_of hlen HLK.out HC0.out (List.mem_of_getElem? ht), this.2.1⟩, fun q t h0 ht => (hup.out q t (by have := (List.getElem?_eq_some_iff.1 ht).1; omega) ht).2.2 h0⟩)
      go_wp2_with fail
      go_ret
      exact ⟨by rw [HF.out]; rfl, below_via0 B1.out hbel.out⟩
end Go.Proofs.YtncjghmjlcohjaaDoor
