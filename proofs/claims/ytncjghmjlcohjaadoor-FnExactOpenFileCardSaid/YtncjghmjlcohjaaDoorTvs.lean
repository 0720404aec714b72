/-
  TreeValid of the reference. No condition.
-/
import Derived.Test.YtncjghmjlcohjaaDoorProg
import Derived.Test.YtncjghmjlcohjaaDoorLni
namespace Go.Proofs.YtncjghmjlcohjaaDoor
open Go.RowKit
set_option linter.unusedSimpArgs false
set_option linter.unusedVariables false

def dirAt (l : List Node) (x : Int) : Bool := match l[x.toNat]? with | some u => u.dir | none => false
def KidD (l : List Node) (i : Nat) (ks : List Int) : Prop := ∀ x ∈ ks, (dirAt l x && decide (x ≤ (i : Int))) = false
def cntN (l : List Node) (n i : Nat) : Nat := (tlK l n).count (i : Int)
def TVa (l : List Node) (n i : Nat) (t : Node) : Prop := NdOk t ∧ KidUp t.kids n t.kids.length ∧ KidD l i t.kids
def TVb (l : List Node) (n i : Nat) (t : Node) : Prop := 1 ≤ cntN l n i ∧ (t.dir = true → cntN l n i ≤ 1)
/-- A valid tree. -/
def TV (l : List Node) (n : Nat) : Prop := 1 ≤ n ∧ n ≤ 16 ∧ dirAt l 0 = true ∧ (∀ (i : Nat) (t : Node), l[i]? = some t → TVa l n i t) ∧ (∀ (i : Nat) (t : Node), 0 < i → l[i]? = some t → TVb l n i t)
noncomputable def treeB (l : List Node) (n : Nat) : Bool := @decide (TV l n) (Classical.propDecidable _)
theorem treeB_iff {l : List Node} {n : Nat} : treeB l n = true ↔ TV l n := by unfold treeB; exact @decide_eq_true_iff _ (Classical.propDecidable _)
theorem treeB_no {l : List Node} {n : Nat} (h : ¬ TV l n) : treeB l n = false := by rw [← Bool.not_eq_true, treeB_iff]; exact h
theorem kid_in {ks : List Int} {N : Int} (h : KidUp ks N ks.length) : ∀ x ∈ ks, inB x 1 (N - 1) = true := fun x hx => by
  obtain ⟨q, hq, rfl⟩ := List.getElem_of_mem hx
  exact h q _ hq (List.getElem?_eq_getElem hq)
theorem TV.lk {l : List Node} {n : Nat} (h16 : n ≤ 16) (h : ∀ (i : Nat) (t : Node), l[i]? = some t → TVa l n i t) : LK l n := ⟨h16, fun t ht x hx => by
  obtain ⟨q, hq, rfl⟩ := List.getElem_of_mem ht
  have := inB_iff.1 (kid_in (h q _ (List.getElem?_eq_getElem hq)).2.1 x hx)
  exact inB_iff.2 ⟨by omega, this.2⟩⟩
set_option maxRecDepth 100000 in
set_option maxHeartbeats 8000000 in
theorem tvSpec_c (A : Option Addr) (n c : Nat) (l : List Node) (w : World) (hI : InNode w A n l) (hn : n ≤ 1048576) (hz : ∀ t ∈ l, NodeS t) (hZ : ∀ t ∈ l, NodeZ t) :
    Calls Tryd.prog 23 #[.slice A n c] w fun e w' => e = .returned (.bool (treeB l n)) ∧ Below w.heap.size w w' := by
  have HI := hide hI
  have HZ := hide hZ
  have HZS := hide hz
  have hlen := hI.1
  clear hI hZ hz
  cases hin : inB (n : Int) 1 16
  · have HF := hide (show treeB l n = false from treeB_no fun e => by
      have := inB_no.1 hin; have := e.1; have := e.2.1; omega)
    go_enter Tryd.func23, Tryd.ntmps23
    go_wp2_with (go_at_call 20; refine (l1In_c _ _ _ _).mono ?_; rintro e w' ⟨rfl, rfl⟩; rw [hin])
    go_ret
    exact ⟨by rw [HF.out]; rfl, Below.refl _ _⟩
  have hn1 := inB_iff.1 hin
  obtain ⟨b, off, rfl, hR⟩ := HI.out.2 (by omega)
  have HR := hide hR
  obtain ⟨t0, ht0⟩ : ∃ t, l[0]? = some t := ⟨_, List.getElem?_eq_getElem (by omega)⟩
  obtain ⟨S0, K0, ⟨a0, _⟩, _, _⟩ := hR.2 0 t0 ht0
  simp only [Nat.zero_mul, Nat.add_zero] at a0
  have hbw := hR.1
  have h0n : (0 : Int) < n := by omega
  have hd0 : dirAt l 0 = t0.dir := by simp [dirAt, ht0]
  clear hR ht0
  cases hdd : t0.dir
  · have HF := hide (show treeB l n = false from treeB_no fun e => by have := e.2.2.1; rw [hd0, hdd] at this; cases this)
    rw [hdd] at a0
    go_enter Tryd.func23, Tryd.ntmps23
    go_wp2_with (go_at_call 20; refine (l1In_c _ _ _ _).mono ?_; rintro e w' ⟨rfl, rfl⟩; rw [hin])
    go_ret
    exact ⟨by rw [HF.out]; rfl, Below.refl _ _⟩
  rw [hdd] at a0 hd0
  go_enter Tryd.func23, Tryd.ntmps23
  go_wp2_with (go_at_call 20; refine (l1In_c _ _ _ _).mono ?_; rintro e w' ⟨rfl, rfl⟩; rw [hin])
  clear a0
  go_loopw [3] (fun kv wr => ∃ i : Nat, i ≤ n ∧ kv = .int .i64 i ∧ Hid (∀ (q : Nat) (t : Node), q < i → l[q]? = some t → TVa l n q t) ∧ Hid (Below w.heap.size w wr)) (fun kv _ => n - (intOf kv).toNat)
  case atStart => exact ⟨0, by omega, rfl, fun q t hq => absurd hq (by omega), Below.refl _ _⟩
  case round =>
    obtain ⟨i, hi, rfl, hup, hbel⟩ := hrel
    by_cases hlt : i < n
    · have hii : (i : Int) < n := by omega
      obtain ⟨t, ht⟩ : ∃ t, l[i]? = some t := ⟨_, List.getElem?_eq_getElem (by omega)⟩
      have HT := hide ht
      obtain ⟨S, K, ⟨c0, c1, c2, c3, c4, c5, c6⟩, hS, hK⟩ := (HR.out.below hbel.out).2 i t ht
      have hbl := (HR.out.below hbel.out).1
      have HSK := hide (And.intro hS hK)
      have HZt := hide (HZ.out t (List.mem_of_getElem? ht))
      clear ht hS hK
      go_wp2_with fail
      refine (ndSpec_c t S K n (by omega) HZt.out _ HSK.out.1 HSK.out.2).mono ?_
      rintro e w1 ⟨rfl, hb1⟩
      have B1 := hide (below_via0 hbel.out hb1)
      have HK1 := hide (HSK.out.2.below hb1)
      have HC0 := hide ((hb1.cell (p := ⟨b, off + i * 7 + 6, none⟩) hbl).trans c6)
      clear hb1 c0 c1 c2 c3 c4 c5 c6 hbl
      cases hnd : ndS t n
      · have HF := hide (show treeB l n = false from treeB_no fun e => by
          have := e.2.2.2.1 i t HT.out
          rw [ndS_iff.2 ⟨this.1, this.2.1⟩] at hnd; cases hnd)
        go_wp2_with fail
        go_ret
        exact ⟨by rw [HF.out]; rfl, B1.out⟩
      have HND := hide (ndS_iff.1 hnd)
      clear hnd
      obtain ⟨A2, m, c2, hKe, hmc, hK2⟩ := HK1.out
      have HC6 := hide (HC0.out.trans (congrArg some hKe))
      have HCW := hide HC6.out
      clear HC0
      have hkm := hK2.1
      have hm : m ≤ 1048576 := by have := (HZS.out t (List.mem_of_getElem? HT.out)).2; omega
      have HKK := hide hK2
      clear hK2
      go_wp2_with fail
      go_loopw [4] (fun kv wq => ∃ j : Nat, j ≤ m ∧ kv = .int .i64 j ∧ Hid (KidD l i (t.kids.take j)) ∧ Hid (Below w1.heap.size w1 wq)) (fun kv _ => m - (intOf kv).toNat)
      case atStart => exact ⟨0, by omega, rfl, fun x hx => absurd hx (by simp), Below.refl _ _⟩
      case round =>
        obtain ⟨j, hj, rfl, hkd, hbj⟩ := hrel
        have BJ := hide (below_via0 B1.out hbj.out)
        obtain ⟨S', K', hat', _, hK'⟩ := (HR.out.below B1.out).2 i t HT.out
        have c6 : w1.cell? ⟨b, off + i * 7 + 6, none⟩ = some (.slice A2 m c2) := HC6.out
        have c6' := (hbj.out.cell (p := ⟨b, off + i * 7 + 6, none⟩) (HR.out.below B1.out).1).trans c6
        have hbl := (HR.out.below BJ.out).1
        clear hat' hK' c6
        by_cases hjl : j < m
        · have hjj : (j : Int) < m := by omega
          obtain ⟨b2, o2, hA2, hR2⟩ := (HKK.out.below hbj.out).2 (by omega)
          subst hA2
          obtain ⟨x, hx⟩ : ∃ x, t.kids[j]? = some x := ⟨_, List.getElem?_eq_getElem (by omega)⟩
          have e0 := hR2.2 j x hx
          have hb2 := hR2.1
          obtain ⟨x0, x1⟩ := inB_iff.1 (HND.out.2 j x (by omega) hx)
          obtain ⟨v, rfl⟩ := Int.eq_ofNat_of_zero_le (by omega : 0 ≤ x)
          have hvi : (v : Int) < n := by omega
          obtain ⟨u, hu⟩ : ∃ u, l[v]? = some u := ⟨_, List.getElem?_eq_getElem (by omega)⟩
          obtain ⟨Su, Ku, ⟨u0, _⟩, _, _⟩ := (HR.out.below BJ.out).2 v u hu
          have hda : dirAt l (v : Int) = u.dir := by simp [dirAt, hu]
          have HX := hide hx
          clear hR2 hu
          have HBad := hide (fun (h : (dirAt l (v : Int) && decide ((v : Int) ≤ (i : Int))) = true) => (show treeB l n = false from treeB_no fun e => by
            have := (e.2.2.2.1 i t HT.out).2.2 v (List.mem_of_getElem? HX.out)
            rw [h] at this; cases this))
          have HGood := hide (fun (h : (dirAt l (v : Int) && decide ((v : Int) ≤ (i : Int))) = false) => (show KidD l i (t.kids.take (j + 1)) from by
            rw [takeK HX.out]
            intro y hy
            rcases List.mem_append.1 hy with hh | hh
            · exact hkd.out y hh
            · simp at hh; rw [hh]; exact h))
          rw [hda] at HBad HGood
          clear hx hda
          cases hud : u.dir
          · rw [hud] at u0 HGood
            have HG := hide (HGood.out (by simp))
            clear HBad HGood
            go_wp2_with fail
            exact ⟨⟨j + 1, by omega, by go_num, HG, hbj⟩, by simp [intOf] <;> omega⟩
          rw [hud] at u0 HBad HGood
          by_cases hvle : (v : Int) ≤ i
          · have HF := hide (HBad.out (by simp; omega))
            clear HBad HGood
            go_wp2_with fail
            go_ret
            exact ⟨by rw [HF.out]; rfl, BJ.out⟩
          · have HG := hide (HGood.out (by simp; omega))
            clear HBad HGood
            go_wp2_with fail
            exact ⟨⟨j + 1, by omega, by go_num, HG, hbj⟩, by simp [intOf] <;> omega⟩
        · obtain rfl : j = m := by omega
          have hjj : ¬ (j : Int) < j := by omega
          have HU := hide (show ∀ (q : Nat) (t : Node), q < i + 1 → l[q]? = some t → TVa l n q t from fun q t' hq ht' => by
            rcases Nat.lt_or_ge q i with h' | h'
            · exact hup.out q t' h' ht'
            · obtain rfl : q = i := by omega
              obtain rfl := Option.some.inj (ht'.symm.trans HT.out)
              refine ⟨HND.out.1, HND.out.2, ?_⟩
              have := hkd.out
              rw [List.take_of_length_le (by omega)] at this
              exact this)
          go_wp2_with fail
          exact ⟨⟨i + 1, by omega, by go_num, HU, BJ⟩, by simp [intOf] <;> omega⟩
    · obtain rfl : i = n := by omega
      have hii : ¬ (i : Int) < i := by omega
      have HTA := hide (show ∀ (q : Nat) (t : Node), l[q]? = some t → TVa l i q t from fun q t ht => hup.out q t (by have := (List.getElem?_eq_some_iff.1 ht).1; omega) ht)
      have HLK := hide (TV.lk (by omega) HTA.out)
      go_wp2_with fail
      refine (lkSpec_c _ i c l _ (HI.out.below hbel.out) hn HZS.out).mono ?_
      rintro e w1 ⟨A1, m1, c1, rfl, hb1, hout⟩
      obtain ⟨_, rfl, g, rfl, hrow⟩ : LK l i ∧ m1 = i ∧ ∃ g, A1 = some ⟨g, 0, none⟩ ∧ Row w1 g i (cfK (tlK l i) i) := by
        rcases hout with h | h
        · exact h
        · exact absurd HLK.out h.1
      have B1 := hide (below_via0 hbel.out hb1)
      have RW := hide hrow
      clear hb1 hrow hout
      go_wp2_with fail
      go_loopw [6] (fun kv wq => ∃ q : Nat, 1 ≤ q ∧ q ≤ m1 ∧ kv = .int .i64 q ∧ wq = w1 ∧ Hid (∀ (p : Nat) (t : Node), 0 < p → p < q → l[p]? = some t → TVb l m1 p t)) (fun kv _ => m1 - (intOf kv).toNat)
      case atStart => exact ⟨1, by omega, by omega, rfl, rfl, fun p t h1 h2 => absurd h2 (by omega)⟩
      case round =>
        obtain ⟨q, hq1, hq, rfl, rfl, hvb⟩ := hrel
        by_cases hql : q < m1
        · have hqi : (q : Int) < m1 := by omega
          obtain ⟨t, ht⟩ : ∃ t, l[q]? = some t := ⟨_, List.getElem?_eq_getElem (by omega)⟩
          have HT := hide ht
          obtain ⟨S, K, ⟨c0, _⟩, _, _⟩ := (HR.out.below B1.out).2 q t ht
          have hbl := (HR.out.below B1.out).1
          have g1 := RW.out.lt
          have gc := RW.out.cell (j := q) (show cfK _ m1 q = _ from if_pos hql)
          have HB := hide (fun (h : ¬ TVb l m1 q t) => (show treeB l m1 = false from treeB_no fun e => h (e.2.2.2.2 q t (by omega) HT.out)))
          have HG := hide (fun (h : TVb l m1 q t) => (show ∀ (p : Nat) (t : Node), 0 < p → p < q + 1 → l[p]? = some t → TVb l m1 p t from fun p t' h1 h2 ht' => by
            rcases Nat.lt_or_ge p q with h' | h'
            · exact hvb.out p t' h1 h' ht'
            · obtain rfl : p = q := by omega
              obtain rfl := Option.some.inj (ht'.symm.trans HT.out)
              exact h))
          obtain ⟨C, hC⟩ : ∃ C, List.count (q : Int) (tlK l m1) = C := ⟨_, rfl⟩
          rw [hC] at gc
          simp only [TVb, cntN, hC] at HB HG
          clear ht hC
          by_cases hc1 : (C : Int) < 1
          · have HF := hide (HB.out (by omega))
            clear HB HG
            go_wp2_with fail
            go_ret
            exact ⟨by rw [HF.out]; rfl, B1.out⟩
          cases hdd : t.dir
          · rw [hdd] at c0 HG
            have HV := hide (HG.out ⟨by omega, fun h => by cases h⟩)
            clear HB HG
            go_wp2_with fail
            exact ⟨⟨q + 1, by omega, by omega, by go_num, by first | rfl | trivial, HV⟩, by simp [intOf] <;> omega⟩
          rw [hdd] at c0 HG HB
          by_cases hc2 : (1 : Int) < C
          · have HF := hide (HB.out (by simp; omega))
            clear HB HG
            go_wp2_with fail
            go_ret
            exact ⟨by rw [HF.out]; rfl, B1.out⟩
          · have HV := hide (HG.out ⟨by omega, fun _ => by omega⟩)
            clear HB HG
            go_wp2_with fail
            exact ⟨⟨q + 1, by omega, by omega, by go_num, by first | rfl | trivial, HV⟩, by simp [intOf] <;> omega⟩
        · obtain rfl : q = m1 := by omega
          have hqi : ¬ (q : Int) < q := by omega
          have HF := hide (show treeB l q = true from treeB_iff.2 ⟨by omega, by omega, hd0, HTA.out, fun p t h1 ht => hvb.out p t h1 (by have := (List.getElem?_eq_some_iff.1 ht).1; omega) ht⟩)
          go_wp2_with fail
          go_ret
          exact ⟨by rw [HF.out]; rfl, B1.out⟩
end Go.Proofs.YtncjghmjlcohjaaDoor
