/-
  MountsValid of the program. No condition.
-/
import Derived.Test.YtgpdblkaidllmaaDoorProg
import Derived.Test.YtgpdblkaidllmaaDoorMvs
namespace Go.Proofs.YtgpdblkaidllmaaDoor
open Go.RowKit
set_option linter.unusedSimpArgs false
set_option linter.unusedVariables false

theorem isPath_c (s : ByteArray) (hs : s.size ≤ 1048576) (w : World) (hm : MX w) :
    Calls Tryd.prog 20 #[.string s] w fun e w' => e = .returned (.bool (pathB s)) ∧ Below w.heap.size w w' := by
  have hc := ppImpl_c s hs w hm
  generalize pathB s = B at *
  go_enter Tryd.func20, Tryd.ntmps20
  go_wp2_with fail
  refine hc.mono ?_
  rintro e w1 ⟨V, rfl, hb, _⟩
  go_wp2_with fail
  go_ret
  exact ⟨rfl, hb⟩
theorem mv1_c (x y z : ByteArray) (p : Nat) (w : World) (hp : w.cell? ⟨p, 0, none⟩ = some (.string x)) :
    Calls Tryd.prog 22 #[.agg #[.string y, .string z], .pointer (some ⟨p, 0, none⟩)] w fun e w' => e = .returned (.bool (decide (y = x))) ∧ Below w.heap.size w w' := by
  have hlt := World.block_lt_of_cell? w _ hp
  have HE := hide (@eq_tl y x)
  go_enter Tryd.func22, Tryd.ntmps22
  go_wp2_with fail
  go_ret
  exact ⟨congrArg Ending.returned (congrArg Value.bool HE.out), (by repeat' (first | exact Below.refl _ _ | assumption | exact And.left (by assumption) | omega | (simp; done) | (simp; omega) | (simp at *; omega) | (refine Below.setCell ?_ ?_ _) | (refine below_alloc0 ?_ _) | (refine Below.drew ?_) | (refine below_drewN ?_ _) | (refine below_via0 ?_ (by assumption)) | (refine Below.alloc ?_ ?_ _) | (refine below_via ?_ (by assumption) ?_)))⟩
/-- One of the first i mounts is at x. -/
noncomputable def hasM (l : List Mount) (i : Nat) (x : ByteArray) : Bool := @decide (∃ (j : Nat) (u : Mount), j < i ∧ l[j]? = some u ∧ u.src = x) (Classical.propDecidable _)
theorem hasM_iff {l : List Mount} {i : Nat} {x : ByteArray} : hasM l i x = true ↔ ∃ (j : Nat) (u : Mount), j < i ∧ l[j]? = some u ∧ u.src = x := by unfold hasM; exact @decide_eq_true_iff _ (Classical.propDecidable _)
theorem hasM_no {l : List Mount} {i : Nat} {x : ByteArray} (h : ¬ ∃ (j : Nat) (u : Mount), j < i ∧ l[j]? = some u ∧ u.src = x) : hasM l i x = false := by rw [← Bool.not_eq_true, hasM_iff]; exact h
set_option maxHeartbeats 1000000 in
theorem ixM_c (b off i c : Nat) (l : List Mount) (hi : i ≤ l.length) (hn : l.length ≤ 1048576) (p : Nat) (x : ByteArray) (w : World) (hR : RdMount w b off l) (hp : w.cell? ⟨p, 0, none⟩ = some (.string x)) :
    Calls Tryd.prog 35 #[.slice (some ⟨b, off, none⟩) i c, .func (Fn.func 22) #[] #[.pointer (some ⟨p, 0, none⟩)]] w fun e w' =>
      ∃ r : Int, e = .returned (.int .i64 r) ∧ decide (0 ≤ r) = hasM l i x ∧ Below w.heap.size w w' := by
  have HR := hide hR
  have HP := hide hp
  have hpl := World.block_lt_of_cell? w _ hp
  clear hR hp
  go_enter Tryd.func35, Tryd.ntmps35
  go_wp2_with fail
  go_loopw [8] (fun kv wr => ∃ k : Nat, k ≤ i ∧ kv = .int .i64 k ∧ Hid (∀ (q : Nat) (u : Mount), q < k → l[q]? = some u → ¬ u.src = x) ∧ Hid (Below w.heap.size w wr)) (fun kv _ => i - (intOf kv).toNat)
  case atStart => exact ⟨0, by omega, rfl, fun q u hq => absurd hq (by omega), Below.refl _ _⟩
  case round =>
    obtain ⟨k, hk, rfl, hne, hbel⟩ := hrel
    by_cases hlt : k < i
    · have hkk : (k : Int) < i := by omega
      obtain ⟨t, ht⟩ : ∃ t, l[k]? = some t := ⟨_, List.getElem?_eq_getElem (by omega)⟩
      have HT := hide ht
      obtain ⟨c0, c1⟩ := (HR.out.below hbel.out).2 k t ht
      have hbl := (HR.out.below hbel.out).1
      have HPW := hide ((hbel.out.cell (p := ⟨p, 0, none⟩) hpl).trans HP.out)
      clear ht
      by_cases he : t.src = x
      · have HF := hide (hasM_iff.2 ⟨k, t, hlt, HT.out, he⟩)
        have hd := hide (decide_eq_true he)
        clear he
        go_wp2_with fail
        refine (mv1_c x t.src t.dst p _ HPW.out).mono ?_
        rintro e w1 ⟨rfl, hb1⟩
        rw [hd.out]
        have B1 := hide (below_via0 hbel.out hb1)
        clear hb1
        go_wp2_with fail
        go_ret
        exact ⟨k, rfl, by rw [HF.out]; simp, B1.out⟩
      · have HN := hide (show ∀ (q : Nat) (v : Mount), q < k + 1 → l[q]? = some v → ¬ v.src = x from fun q v hq hv => by
          rcases Nat.lt_or_ge q k with h' | h'
          · exact hne.out q v h' hv
          · obtain rfl : q = k := by omega
            obtain rfl := Option.some.inj (hv.symm.trans HT.out)
            exact he)
        have hd := decide_eq_false he
        go_wp2_with fail
        refine (mv1_c x t.src t.dst p _ HPW.out).mono ?_
        rintro e w1 ⟨rfl, hb1⟩
        rw [hd]
        have B1 := hide (below_via0 hbel.out hb1)
        clear hb1
        go_wp2_with fail
        exact ⟨⟨k + 1, by omega, by go_num, HN, B1⟩, by simp [intOf] <;> omega⟩
    · obtain rfl : k = i := by omega
      have hkk : ¬ (k : Int) < k := by omega
      have HF := hide (show hasM l k x = false from hasM_no fun ⟨j, u, hj, hu, he⟩ => hne.out j u hj hu he)
      go_wp2_with fail
      go_ret
      exact ⟨-1, rfl, by rw [HF.out]; rfl, hbel.out⟩
theorem cfM_c (b off i c : Nat) (l : List Mount) (hi : i ≤ l.length) (hn : l.length ≤ 1048576) (p : Nat) (x : ByteArray) (w : World) (hR : RdMount w b off l) (hp : w.cell? ⟨p, 0, none⟩ = some (.string x)) :
    Calls Tryd.prog 21 #[.slice (some ⟨b, off, none⟩) i c, .func (Fn.func 22) #[] #[.pointer (some ⟨p, 0, none⟩)]] w fun e w' =>
      e = .returned (.bool (hasM l i x)) ∧ Below w.heap.size w w' := by
  have hc := ixM_c b off i c l hi hn p x w hR hp
  go_enter Tryd.func21, Tryd.ntmps21
  go_wp2_with fail
  refine hc.mono ?_
  rintro e w1 ⟨r, rfl, hr, hb⟩
  have HR := hide hr
  clear hr hc
  go_wp2_with fail
  go_ret
  exact ⟨by rw [← HR.out]; rfl, hb⟩
set_option maxHeartbeats 4000000 in
theorem mvImpl_c (b off n c : Nat) (l : List Mount) (hl : l.length = n) (hn : n ≤ 1048576) (hc : n ≤ c) (hz : ∀ t ∈ l, MntS t) (w : World) (hm : MX w) (hR : RdMount w b off l) :
    Calls Tryd.prog 8 #[.slice (some ⟨b, off, none⟩) n c] w fun e w' => e = .returned (.bool (mntB l)) ∧ Below w.heap.size w w' := by
  have HR := hide hR
  have HZ := hide hz
  have HM := hide hm
  clear hR hz hm
  go_enter Tryd.func8, Tryd.ntmps8
  go_wp2_with fail
  go_loopw [7] (fun kv wr => ∃ k : Nat, k ≤ n ∧ kv = .int .i64 k ∧ Hid (MUp l k) ∧ Hid (Below w.heap.size w wr)) (fun kv _ => n - (intOf kv).toNat)
  case atStart => exact ⟨0, by omega, rfl, fun i t hi => absurd hi (by omega), Below.refl _ _⟩
  case round =>
    obtain ⟨k, hk, rfl, hup, hbel⟩ := hrel
    by_cases hlt : k < n
    · have hkk : (k : Int) < n := by omega
      obtain ⟨t, ht⟩ : ∃ t, l[k]? = some t := ⟨_, List.getElem?_eq_getElem (by omega)⟩
      have HT := hide ht
      have HZt := hide (HZ.out t (List.mem_of_getElem? ht))
      obtain ⟨c0, c1⟩ := (HR.out.below hbel.out).2 k t ht
      have hbl := (HR.out.below hbel.out).1
      have hsz := hbel.out.size
      have B0 := hide (below_alloc0 hbel.out (.cells #[.string t.src, .string t.dst] 28))
      clear ht
      cases hp1 : pathB t.src
      · have HF := hide (mntB_bad HT.out fun e => by rw [e.1] at hp1; cases hp1)
        go_wp2_with fail
        refine (isPath_c t.src HZt.out.1 _ (HM.out.below B0.out)).mono ?_
        rintro e w1 ⟨rfl, hb1⟩
        rw [hp1]
        have B1 := hide (below_via0 B0.out hb1)
        clear hb1
        go_wp2_with fail
        go_ret
        exact ⟨by rw [HF.out]; rfl, B1.out⟩
      have R0 := hide (Row.made wr 28 #[.string t.src, .string t.dst] (fun j => #[Value.string t.src, .string t.dst][j]?) (fun _ _ h => h))
      go_wp2_with fail
      refine (isPath_c t.src HZt.out.1 _ (HM.out.below B0.out)).mono ?_
      rintro e w1 ⟨rfl, hb1⟩
      rw [hp1]
      have B1 := hide (below_via0 B0.out hb1)
      have hw1 : wr.heap.size < w1.heap.size := Nat.lt_of_lt_of_le (by simp) hb1.size
      have R1 := hide (R0.out.below hb1 (by simp))
      clear hb1 c0 c1 hbl
      have g0 := R1.out.cell (j := 0) rfl
      have g1 := R1.out.cell (j := 1) rfl
      go_wp2_with fail
      refine (isPath_c t.dst HZt.out.2 _ (HM.out.below B1.out)).mono ?_
      rintro e w2 ⟨rfl, hb2⟩
      have B2 := hide (below_via0 B1.out hb2)
      have hw2 : wr.heap.size < w2.heap.size := Nat.lt_of_lt_of_le hw1 hb2.size
      have R2 := hide (R1.out.below hb2 hw1)
      clear hb2 g0 g1
      cases hp2 : pathB t.dst
      · have HF := hide (mntB_bad HT.out fun e => by rw [e.2.1] at hp2; cases hp2)
        go_wp2_with fail
        go_ret
        exact ⟨by rw [HF.out]; rfl, B2.out⟩
      have hkc : k ≤ c := by omega
      go_wp2_with fail
      refine (cfM_c b off k c l (by omega) (by omega) wr.heap.size t.src _ (HR.out.below B2.out) (R2.out.cell (j := 0) rfl)).mono ?_
      rintro e w3 ⟨rfl, hb3⟩
      have B3 := hide (below_via0 B2.out hb3)
      clear hb3
      cases hh : hasM l k t.src
      · have HU := hide (hup.out.step HT.out ⟨hp1, hp2, fun j u hj hu he => by
          rw [hasM_iff.2 ⟨j, u, hj, hu, he⟩] at hh; cases hh⟩)
        go_wp2_with fail
        exact ⟨⟨k + 1, by omega, by go_num, HU, B3⟩, by simp [intOf] <;> omega⟩
      · have HF := hide (mntB_bad HT.out fun e => by
          obtain ⟨j, u, hj, hu, he⟩ := hasM_iff.1 hh
          exact e.2.2 j u hj hu he)
        go_wp2_with fail
        go_ret
        exact ⟨by rw [HF.out]; rfl, B3.out⟩
    · obtain rfl : k = n := by omega
      have hkk : ¬ (k : Int) < k := by omega
      have HE := hide (show mntB l = decide (k ≤ 6) by rw [← hl]; exact mntB_end (by rw [hl]; exact hup.out))
      go_wp2_with fail
      go_ret
      exact ⟨by rw [HE.out]; simp; omega, hbel.out⟩
end Go.Proofs.YtgpdblkaidllmaaDoor
