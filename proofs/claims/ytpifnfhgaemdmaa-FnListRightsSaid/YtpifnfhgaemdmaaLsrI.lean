/-
  ListRights of the program. No condition.
-/
import Derived.Test.YtpifnfhgaemdmaaProg
import Derived.Test.YtpifnfhgaemdmaaLsrS
namespace Go.Proofs.Ytpifnfhgaemdmaa
open Go.RowKit
set_option linter.unusedSimpArgs false
set_option linter.unusedVariables false

set_option maxHeartbeats 4000000 in
theorem lrImpl_c (m : Int) (A : Option Addr) (n c : Nat) (k : Int) (l : List Grant) (r a s g u p : Int) (hn : n ≤ 1048576) (hc : n ≤ c) (hcm : c ≤ maxLen) (w : World) (hI : InGrant w A n l) :
    Calls Try.prog 24 #[.agg #[.int .i64 m, .slice A n c, .int .i64 k], .agg #[.int .i64 r, .int .i64 a, .int .i64 s, .int .i64 g], .int .i64 u, .int .i64 p] w fun e w' => e = .returned (.int .i64 (lrF m l k r a s g u p)) ∧ Below w.heap.size w w' := by
  have HI := hide hI
  have HL := hide hI.1
  clear hI
  have BW0 : Below w.heap.size w ((w.alloc (.cells #[.int .i64 m, .slice A n c, .int .i64 k] 24)).alloc (.cells #[.int .i64 r, .int .i64 a, .int .i64 s, .int .i64 g] 45)) := below_alloc0 (below_alloc0 (Below.refl _ _) _) _
  have HB0 := hide BW0
  clear BW0
  go_enter Try.func24, Try.ntmps24
  go_wp2_with fail
  refine (lvImpl_c _ _ _ _ _ l hn hc hcm _ (HI.out.below HB0.out)).mono ?_
  rintro e w2 ⟨rfl, hb2⟩
  have L2 := live hb2 w.heap.size (by simp; try omega)
  have M2 := live hb2 (w.heap.size + 1) (by simp)
  have B2 := hide (below_via0 HB0.out hb2)
  clear hb2
  unfold maxLen at hcm
  cases hlv : listB m l k
  · have HF := hide (lrF_lv (u := u) (p := p) (r := r) (a := a) (s := s) (g := g) hlv)
    go_wp2_with fail
    go_ret
    exact ⟨by rw [HF.out]; rfl, B2.out⟩
  · have HV := hide hlv
    have hm := (listB_iff.1 hlv).2.1
    go_wp2_with fail
    refine (classI_c r a s g u p _).mono ?_
    rintro e w3 ⟨rfl, hb3⟩
    have L3 := live hb3 w.heap.size L2.1
    have M3 := live hb3 (w.heap.size + 1) M2.1
    have B3 := hide (below_via0 B2.out hb3)
    clear hb3
    rcases classF_cases r a s g u p with h | h | h | h
    · have HF := hide (lrF_m1 (m := m) (k := k) (l := l) h)
      rw [h]
      clear h
      go_wp2_with fail
      go_ret
      exact ⟨by rw [HF.out]; rfl, B3.out⟩
    · have HC := hide h
      rw [h.1]
      clear h
      have HF := hide (lrF_0 HC.out.1 hlv)
      have hau := HC.out.2
      go_wp2_with (go_at_call 50; refine (rfImpl_c _ _ hm (by decide) _).mono ?_; rintro e w' ⟨rfl, rfl⟩)
      go_ret
      exact ⟨by rw [HF.out]; rfl, B3.out⟩
    · have HC := hide h
      rw [h.1]
      clear h
      have hau := HC.out.2.1
      have hpp := HC.out.2.2
      go_wp2_with fail
      refine (gplace_c _ _ _ l false a _ (HI.out.below B3.out) hn).mono ?_
      rintro e w4 ⟨rfl, hb4⟩
      have L4 := live hb4 w.heap.size (by omega)
      have M4 := live hb4 (w.heap.size + 1) (by omega)
      have B4 := hide (below_via0 B3.out hb4)
      have hx4 := hb4.size
      clear hb4
      have x0 : w4.cell? ⟨w.heap.size, 0, none⟩ = some (.int .i64 m) := by simp [go_sem, L4, L3, L2]
      have x1 : w4.cell? ⟨w.heap.size, 1, none⟩ = some (.slice A n c) := by simp [go_sem, L4, L3, L2]
      have x2 : w4.cell? ⟨w.heap.size, 2, none⟩ = some (.int .i64 k) := by simp [go_sem, L4, L3, L2]
      have x3 : w4.cell? ⟨w.heap.size + 1, 1, none⟩ = some (.int .i64 a) := by simp [go_sem, M4, M3, M2]
      have x4 : w4.cell? ⟨w.heap.size + 1, 3, none⟩ = some (.int .i64 g) := by simp [go_sem, M4, M3, M2]
      have hxl4 : w.heap.size < w4.heap.size := L4.1
      have hgl4 : w.heap.size + 1 < w4.heap.size := M4.1
      clear L4 M4 L3 M3 L2 M2
      cases hf : l.findIdx? (isG false a) with
      | some j =>
        have hj : idxG l false a = j := by simp only [idxG, hf]
        have hjl : j < l.length := (List.findIdx?_eq_some_iff_getElem.1 hf).1
        have hjn : j < n := by rw [← HL.out]; exact hjl
        obtain ⟨t, ht⟩ : ∃ t, l[j]? = some t := ⟨_, List.getElem?_eq_getElem hjl⟩
        have HF := hide (lrF_own (c := 1) (m := m) (k := k) (u := u) (p := p) (r := r) (s := s) (g := g) HC.out.1 (by decide) HV.out hf ht)
        obtain ⟨b, off, hA, hR⟩ := HI.out.2 (by omega)
        subst hA
        have hR4 := hR.below B4.out
        obtain ⟨c0, c1, c2⟩ := hR4.2 j t ht
        have hbl := hR4.1
        rw [hj]
        clear hf hj ht hR hR4 hau hpp hjl
        go_wp2_with fail
        go_quiet (fail)
        go_wp2_with fail
        go_ret
        exact ⟨by rw [HF.out]; rfl, below_drewN B4.out _⟩
      | none =>
        have hj : idxG l false a = -1 := by simp only [idxG, hf]
        have hfi := hide hf
        rw [hj]
        clear hf hj
        go_wp2_with (first | (go_at_call 51; refine (hasImpl_c _ _ _).mono ?_; rintro e w' ⟨rfl, rfl⟩; rw [hpp]) | (go_at_call 50; refine (rfImpl_c _ _ hm (by decide) _).mono ?_; rintro e w' ⟨rfl, rfl⟩))
        have HPP := hide (And.intro hau hpp)
        clear hau hpp
        go_loopw [10, 11, 58] (fun bv rv iv wr => ∃ i : Nat, i ≤ n ∧ bv = .bool (accM g l true i) ∧ rv = .int .i64 (accR g l (fld m 1) i) ∧ iv = .int .i64 i ∧ Hid (Below w4.heap.size w4 wr)) (fun _ _ iv _ => n - (intOf iv).toNat)
        case atStart => exact ⟨0, by omega, rfl, rfl, rfl, Below.refl _ _⟩
        case round =>
          obtain ⟨i, hi, rfl, rfl, rfl, hbel⟩ := hrel
          have hsz := hbel.out.size
          have hxl : w.heap.size < wr.heap.size := by omega
          have hgl : w.heap.size + 1 < wr.heap.size := by omega
          have y0 := (hbel.out.cell (p := ⟨w.heap.size, 0, none⟩) (by show w.heap.size < _; omega)).trans x0
          have y1 := (hbel.out.cell (p := ⟨w.heap.size, 1, none⟩) (by show w.heap.size < _; omega)).trans x1
          have y2 := (hbel.out.cell (p := ⟨w.heap.size, 2, none⟩) (by show w.heap.size < _; omega)).trans x2
          have y3 := (hbel.out.cell (p := ⟨w.heap.size + 1, 1, none⟩) (by show w.heap.size + 1 < _; omega)).trans x3
          have y4 := (hbel.out.cell (p := ⟨w.heap.size + 1, 3, none⟩) (by show w.heap.size + 1 < _; omega)).trans x4
          have BW : Hid (Below w.heap.size w wr) := hide (B4.out.trans (hbel.out.mono B4.out.size))
          clear x0 x1 x2 x3 x4
          by_cases hlt : i < n
          · obtain ⟨t, ht⟩ : ∃ t, l[i]? = some t := ⟨_, List.getElem?_eq_getElem (by rw [HL.out]; exact hlt)⟩
            have HT := hide ht
            obtain ⟨b, off, hA, hR⟩ := HI.out.2 (by omega)
            subst hA
            have hRw := hide (hR.below BW.out)
            obtain ⟨c0, c1, c2⟩ := hRw.out.2 i t ht
            have hbl := hRw.out.1
            clear ht hR
            cases hg : t.ofGroup
            · rw [hg] at c0
              have HA := hide (show accM g l true (i + 1) = accM g l true i ∧ accR g l (fld m 1) (i + 1) = accR g l (fld m 1) i by simp [accM, accR, HT.out, hg])
              go_wp2_with fail
              exact ⟨⟨i + 1, by omega, by rw [HA.out.1], by rw [HA.out.2], by go_num, below_alloc0 hbel.out _⟩, by simp [intOf]; omega⟩
            · rw [hg] at c0
              cases hh : hasG g t.who
              · have HA := hide (show accM g l true (i + 1) = accM g l true i ∧ accR g l (fld m 1) (i + 1) = accR g l (fld m 1) i by simp [accM, accR, HT.out, hg, hh])
                go_wp2_with (go_at_call 51; refine (hasImpl_c _ _ _).mono ?_; rintro e w' ⟨rfl, rfl⟩; rw [hh])
                exact ⟨⟨i + 1, by omega, by rw [HA.out.1], by rw [HA.out.2], by go_num, below_alloc0 hbel.out _⟩, by simp [intOf]; omega⟩
              · have HA := hide (show accM g l true (i + 1) = true ∧ accR g l (fld m 1) (i + 1) = bits .or .i64 (accR g l (fld m 1) i) t.rights by simp [accM, accR, HT.out, hg, hh])
                go_wp2_with (go_at_call 51; refine (hasImpl_c _ _ _).mono ?_; rintro e w' ⟨rfl, rfl⟩; rw [hh])
                go_quiet (fail)
                go_wp2_with fail
                exact ⟨⟨i + 1, by omega, by rw [HA.out.1], by rw [HA.out.2], by go_num, below_drewN (below_alloc0 hbel.out _) _⟩, by simp [intOf]; omega⟩
          · obtain rfl : i = n := by omega
            cases hM : accM g l true i
            · have HF := hide (lrF_oth (c := 1) (m := m) (k := k) (u := u) (r := r) (s := s) HC.out.1 (by decide) HV.out hfi.out HC.out.2.2 (by rw [HL.out]; exact hM))
              go_wp2_with (go_at_call 50; refine (rfImpl_c _ _ hm (by decide) _).mono ?_; rintro e w' ⟨rfl, rfl⟩)
              go_ret
              exact ⟨by rw [HF.out]; rfl, BW.out⟩
            · have HF := hide (lrF_mem (c := 1) (r0 := (fld m 1)) (m := m) (k := k) (u := u) (r := r) (s := s) HC.out.1 (by decide) HV.out hfi.out HC.out.2.2 (by simp) (by rw [HL.out]; exact hM))
              go_wp2_with fail
              go_ret
              exact ⟨by rw [HF.out, HL.out]; rfl, BW.out⟩
    · have HC := hide h
      rw [h.1]
      clear h
      have hau := HC.out.2.1
      have hpp := HC.out.2.2
      go_wp2_with fail
      refine (gplace_c _ _ _ l false a _ (HI.out.below B3.out) hn).mono ?_
      rintro e w4 ⟨rfl, hb4⟩
      have L4 := live hb4 w.heap.size (by omega)
      have M4 := live hb4 (w.heap.size + 1) (by omega)
      have B4 := hide (below_via0 B3.out hb4)
      have hx4 := hb4.size
      clear hb4
      have x0 : w4.cell? ⟨w.heap.size, 0, none⟩ = some (.int .i64 m) := by simp [go_sem, L4, L3, L2]
      have x1 : w4.cell? ⟨w.heap.size, 1, none⟩ = some (.slice A n c) := by simp [go_sem, L4, L3, L2]
      have x2 : w4.cell? ⟨w.heap.size, 2, none⟩ = some (.int .i64 k) := by simp [go_sem, L4, L3, L2]
      have x3 : w4.cell? ⟨w.heap.size + 1, 1, none⟩ = some (.int .i64 a) := by simp [go_sem, M4, M3, M2]
      have x4 : w4.cell? ⟨w.heap.size + 1, 3, none⟩ = some (.int .i64 g) := by simp [go_sem, M4, M3, M2]
      have hxl4 : w.heap.size < w4.heap.size := L4.1
      have hgl4 : w.heap.size + 1 < w4.heap.size := M4.1
      clear L4 M4 L3 M3 L2 M2
      cases hf : l.findIdx? (isG false a) with
      | some j =>
        have hj : idxG l false a = j := by simp only [idxG, hf]
        have hjl : j < l.length := (List.findIdx?_eq_some_iff_getElem.1 hf).1
        have hjn : j < n := by rw [← HL.out]; exact hjl
        obtain ⟨t, ht⟩ : ∃ t, l[j]? = some t := ⟨_, List.getElem?_eq_getElem hjl⟩
        have HF := hide (lrF_own (c := 2) (m := m) (k := k) (u := u) (p := p) (r := r) (s := s) (g := g) HC.out.1 (by decide) HV.out hf ht)
        obtain ⟨b, off, hA, hR⟩ := HI.out.2 (by omega)
        subst hA
        have hR4 := hR.below B4.out
        obtain ⟨c0, c1, c2⟩ := hR4.2 j t ht
        have hbl := hR4.1
        rw [hj]
        clear hf hj ht hR hR4 hau hpp hjl
        go_wp2_with fail
        go_quiet (fail)
        go_wp2_with fail
        go_ret
        exact ⟨by rw [HF.out]; rfl, below_drewN B4.out _⟩
      | none =>
        have hj : idxG l false a = -1 := by simp only [idxG, hf]
        have hfi := hide hf
        rw [hj]
        clear hf hj
        go_wp2_with (first | (go_at_call 51; refine (hasImpl_c _ _ _).mono ?_; rintro e w' ⟨rfl, rfl⟩; rw [hpp]) | (go_at_call 50; refine (rfImpl_c _ _ hm (by decide) _).mono ?_; rintro e w' ⟨rfl, rfl⟩))
        have HPP := hide (And.intro hau hpp)
        clear hau hpp
        go_loopw [10, 11, 58] (fun bv rv iv wr => ∃ i : Nat, i ≤ n ∧ bv = .bool (accM g l false i) ∧ rv = .int .i64 (accR g l 0 i) ∧ iv = .int .i64 i ∧ Hid (Below w4.heap.size w4 wr)) (fun _ _ iv _ => n - (intOf iv).toNat)
        case atStart => exact ⟨0, by omega, rfl, rfl, rfl, Below.refl _ _⟩
        case round =>
          obtain ⟨i, hi, rfl, rfl, rfl, hbel⟩ := hrel
          have hsz := hbel.out.size
          have hxl : w.heap.size < wr.heap.size := by omega
          have hgl : w.heap.size + 1 < wr.heap.size := by omega
          have y0 := (hbel.out.cell (p := ⟨w.heap.size, 0, none⟩) (by show w.heap.size < _; omega)).trans x0
          have y1 := (hbel.out.cell (p := ⟨w.heap.size, 1, none⟩) (by show w.heap.size < _; omega)).trans x1
          have y2 := (hbel.out.cell (p := ⟨w.heap.size, 2, none⟩) (by show w.heap.size < _; omega)).trans x2
          have y3 := (hbel.out.cell (p := ⟨w.heap.size + 1, 1, none⟩) (by show w.heap.size + 1 < _; omega)).trans x3
          have y4 := (hbel.out.cell (p := ⟨w.heap.size + 1, 3, none⟩) (by show w.heap.size + 1 < _; omega)).trans x4
          have BW : Hid (Below w.heap.size w wr) := hide (B4.out.trans (hbel.out.mono B4.out.size))
          clear x0 x1 x2 x3 x4
          by_cases hlt : i < n
          · obtain ⟨t, ht⟩ : ∃ t, l[i]? = some t := ⟨_, List.getElem?_eq_getElem (by rw [HL.out]; exact hlt)⟩
            have HT := hide ht
            obtain ⟨b, off, hA, hR⟩ := HI.out.2 (by omega)
            subst hA
            have hRw := hide (hR.below BW.out)
            obtain ⟨c0, c1, c2⟩ := hRw.out.2 i t ht
            have hbl := hRw.out.1
            clear ht hR
            cases hg : t.ofGroup
            · rw [hg] at c0
              have HA := hide (show accM g l false (i + 1) = accM g l false i ∧ accR g l 0 (i + 1) = accR g l 0 i by simp [accM, accR, HT.out, hg])
              go_wp2_with fail
              exact ⟨⟨i + 1, by omega, by rw [HA.out.1], by rw [HA.out.2], by go_num, below_alloc0 hbel.out _⟩, by simp [intOf]; omega⟩
            · rw [hg] at c0
              cases hh : hasG g t.who
              · have HA := hide (show accM g l false (i + 1) = accM g l false i ∧ accR g l 0 (i + 1) = accR g l 0 i by simp [accM, accR, HT.out, hg, hh])
                go_wp2_with (go_at_call 51; refine (hasImpl_c _ _ _).mono ?_; rintro e w' ⟨rfl, rfl⟩; rw [hh])
                exact ⟨⟨i + 1, by omega, by rw [HA.out.1], by rw [HA.out.2], by go_num, below_alloc0 hbel.out _⟩, by simp [intOf]; omega⟩
              · have HA := hide (show accM g l false (i + 1) = true ∧ accR g l 0 (i + 1) = bits .or .i64 (accR g l 0 i) t.rights by simp [accM, accR, HT.out, hg, hh])
                go_wp2_with (go_at_call 51; refine (hasImpl_c _ _ _).mono ?_; rintro e w' ⟨rfl, rfl⟩; rw [hh])
                go_quiet (fail)
                go_wp2_with fail
                exact ⟨⟨i + 1, by omega, by rw [HA.out.1], by rw [HA.out.2], by go_num, below_drewN (below_alloc0 hbel.out _) _⟩, by simp [intOf]; omega⟩
          · obtain rfl : i = n := by omega
            cases hM : accM g l false i
            · have HF := hide (lrF_oth (c := 2) (m := m) (k := k) (u := u) (r := r) (s := s) HC.out.1 (by decide) HV.out hfi.out HC.out.2.2 (by rw [HL.out]; exact hM))
              go_wp2_with (go_at_call 50; refine (rfImpl_c _ _ hm (by decide) _).mono ?_; rintro e w' ⟨rfl, rfl⟩)
              go_ret
              exact ⟨by rw [HF.out]; rfl, BW.out⟩
            · have HF := hide (lrF_mem (c := 2) (r0 := 0) (m := m) (k := k) (u := u) (r := r) (s := s) HC.out.1 (by decide) HV.out hfi.out HC.out.2.2 (by simp) (by rw [HL.out]; exact hM))
              go_wp2_with fail
              go_ret
              exact ⟨by rw [HF.out, HL.out]; rfl, BW.out⟩
end Go.Proofs.Ytpifnfhgaemdmaa
