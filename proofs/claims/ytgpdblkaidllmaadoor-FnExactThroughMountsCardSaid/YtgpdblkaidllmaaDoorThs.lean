/-
  ThroughMounts of the reference. No condition.
-/
import Derived.Test.YtgpdblkaidllmaaDoorProg
import Derived.Test.YtgpdblkaidllmaaDoorThm
namespace Go.Proofs.YtgpdblkaidllmaaDoor
open Go.RowKit
set_option linter.unusedSimpArgs false
set_option linter.unusedVariables false

set_option maxRecDepth 100000 in
set_option maxHeartbeats 8000000 in
theorem tmSpec_c (b off n c : Nat) (l : List Mount) (p : ByteArray) (hl : l.length = n) (hn : n ≤ 1048576) (hz : ∀ t ∈ l, MntS t) (hps : p.size ≤ 1048576) (w : World) (hR : RdMount w b off l) :
    Calls Tryd.prog 12 #[.slice (some ⟨b, off, none⟩) n c, .string p] w fun e w' => e = .returned (.string (thP l p)) ∧ Below w.heap.size w w' := by
  obtain ⟨i0, hi0, hz0, hz1, hz2⟩ := info_parts infoStr
  have HI := hide hi0
  have HZ0 := hide hz0
  have HZ1 := hide hz1
  have HZ2 := hide hz2
  clear hi0 hz0 hz1 hz2
  have HR := hide hR
  have HZ := hide hz
  have HPS := hide hps
  clear hR hz hps
  go_enter Tryd.func12, Tryd.ntmps12
  go_wp2_with fail
  refine (ppSpec_c p HPS.out _).mono ?_
  rintro e w1 ⟨V, rfl, hb1, hV⟩
  have B1 := hide hb1
  have HV := hide hV
  clear hb1 hV
  cases hpp : pathB p
  · have HF := hide (thP_no2 (l := l) hpp)
    go_wp2_with fail
    go_ret
    exact ⟨by rw [HF.out]; rfl, B1.out⟩
  obtain ⟨lp, hlp, hO⟩ := HV.out hpp
  obtain ⟨g, c1, rfl, hc1, hg, hRp⟩ := hO.p
  have HPO := hide (ppOf_eq hlp)
  have hl6 := hlp.1.1
  have H8 := hide (fun x hx => (hlp.1.2 x hx).2.2)
  have HRP := hide hRp
  have HPP := hide hpp
  clear hlp hO HV hRp hpp
  go_wp2_with fail
  refine (mvSpec_c b off n c l hl hn HZ.out _ (HR.out.below B1.out)).mono ?_
  rintro e w2 ⟨rfl, hb2⟩
  have B2 := hide (below_via0 B1.out hb2)
  have HRP2 := hide (HRP.out.below hb2)
  clear hb2
  cases hv : mntB l
  · have HF := hide (thP_no1 (p := p) hv)
    go_wp2_with fail
    go_ret
    exact ⟨by rw [HF.out]; rfl, B2.out⟩
  have HOK := hide (mntB_iff.1 hv).1
  have HV := hide hv
  have h6 := (mntB_iff.1 hv).2
  clear hv
  go_wp2_with fail
  go_loopw [7, 8, 9] (fun bv lv kv wr => ∃ k : Nat, k ≤ n ∧ kv = .int .i64 k ∧ bv = .int .i64 (bst l p k).1 ∧ lv = .int .i64 (bst l p k).2 ∧ Hid (Below w2.heap.size w2 wr)) (fun _ _ kv _ => n - (intOf kv).toNat)
  case atStart => exact ⟨0, by omega, rfl, rfl, rfl, Below.refl _ _⟩
  case round =>
    obtain ⟨k, hk, rfl, rfl, rfl, hbel⟩ := hrel
    have BW := hide (below_via0 B2.out hbel.out)
    by_cases hlt : k < n
    · have hkk : (k : Int) < n := by omega
      obtain ⟨t, ht⟩ : ∃ t, l[k]? = some t := ⟨_, List.getElem?_eq_getElem (by omega)⟩
      have HT := hide ht
      have HZt := hide (HZ.out t (List.mem_of_getElem? ht))
      have hok := HOK.out k t (by omega) ht
      obtain ⟨c0, cc1⟩ := (HR.out.below BW.out).2 k t ht
      have hbl := (HR.out.below BW.out).1
      clear ht
      go_wp2_with fail
      refine (ppSpec_c t.src HZt.out.1 _).mono ?_
      rintro e w3 ⟨V3, rfl, hb3, hV3⟩
      obtain ⟨la, hla, hO3⟩ := hV3 hok.1
      obtain ⟨g3, c3, rfl, hc3, hg3, hR3⟩ := hO3.p
      have hla6 := hla.1.1
      have HLA := hide (ppOf_eq hla)
      have B3 := hide (below_via0 BW.out hb3)
      have HB3 := hide (below_via0 hbel.out hb3)
      clear hb3 hV3 hO3 hla hR3 c0 cc1 hbl
      obtain ⟨c0, cc1⟩ := (HR.out.below B3.out).2 k t HT.out
      have hbl := (HR.out.below B3.out).1
      go_wp2_with fail
      refine (ibSpec_c p t.src HPS.out HZt.out.1 _).mono ?_
      rintro e w4 ⟨rfl, hb4⟩
      have HB4 := hide (below_via0 HB3.out hb4)
      clear hb4 c0 cc1 hbl
      cases hb : blB p t.src
      · have HE := hide (bst_skip HT.out hb)
        go_wp2_with fail
        exact ⟨⟨k + 1, by omega, by go_num, by rw [HE.out], by rw [HE.out], HB4⟩, by simp [intOf] <;> omega⟩
      · by_cases hlen : (bst l p k).2 < (la.length : Int)
        · have HE := hide (bst_take HT.out hb (by rw [HLA.out]; exact hlen))
          have HRT := hide (show (bst l p (k + 1)).1 = (k : Int) ∧ (bst l p (k + 1)).2 = (la.length : Int) by rw [HE.out, HLA.out]; exact ⟨rfl, rfl⟩)
          go_wp2_with fail
          exact ⟨⟨k + 1, by omega, by go_num, by rw [HRT.out.1], by rw [HRT.out.2], HB4⟩, by simp [intOf] <;> omega⟩
        · have HE := hide (bst_less HT.out (by rw [HLA.out]; exact hlen))
          go_wp2_with fail
          exact ⟨⟨k + 1, by omega, by go_num, by rw [HE.out], by rw [HE.out], HB4⟩, by simp [intOf] <;> omega⟩
    · obtain rfl : k = n := by omega
      have hkk : ¬ (k : Int) < k := by omega
      rcases bst_inv l p k with ⟨i1, i2⟩ | ⟨i, u, i1, i2, i3, i4, i5⟩
      · have HF := hide (thP_self HV.out HPP.out (by rw [hl, i1]; omega))
        rw [i1]
        go_wp2_with fail
        go_ret
        exact ⟨by rw [HF.out]; rfl, BW.out⟩
      · have HF := hide (thP_at HV.out HPP.out (by rw [hl]; exact i1) i3 (by rw [hl]; exact i4))
        obtain ⟨d0, d1⟩ := (HR.out.below BW.out).2 i u i3
        have hbl := (HR.out.below BW.out).1
        have hik : (i : Int) < k := by omega
        have HPU := hide (HOK.out i u (by omega) i3).2.1
        have HZu := hide (HZ.out u (List.mem_of_getElem? i3))
        have hni : ¬ ((i : Int) < 0) := by omega
        rw [HPO.out] at i5
        rw [i1, i4]
        clear i1 i3 i4
        generalize hmm : (ppOf u.src).length = m at *
        have HFX := hide HF.out
        clear hmm HF
        go_wp2_with fail
        refine (ppSpec_c u.dst HZu.out.2 _).mono ?_
        rintro e w3 ⟨V3, rfl, hb3, hV3⟩
        obtain ⟨ld, hld, hO3⟩ := hV3 HPU.out
        have HLD := hide (ppOf_eq hld)
        have hld6 := hld.1.1
        have HD8 := hide (fun x hx => (hld.1.2 x hx).2.2)
        have B3 := hide (below_via0 BW.out hb3)
        have HRP3 := hide ((HRP2.out.below hbel.out).below hb3)
        have HOW := hide hO3.1
        obtain ⟨g3, cap3, hV3e⟩ := hO3.form
        subst hV3e
        have HSZ3 := hide hb3.size
        clear hb3 hV3 hld hO3
        rw [HPU.out]
        have hmi : (m : Int) ≤ (lp.length : Int) := by omega
        have hmc : m ≤ c1 := by omega
        have hs3 := B3.out.size
        have hsw : wr.heap.size ≤ w3.heap.size := by have := HSZ3.out; exact this
        have hww := BW.out.size
        by_cases hcc : c1 = m
        · have hcc1 : c1 = m := hcc
          clear hcc
          go_wp2_with (at_builtin; refine wpList_append_own _ rfl _ _ 44 rfl wr.heap.size 9 i0 (.string ByteArray.empty) 1 16 Tryd.underlying44 HI.out HZ0.out HZ1.out HZ2.out rfl (by decide) _ _ _ rfl HOW.out ⟨g, 0, none⟩ (lp.length - m) 0 ((lp.drop m).map Value.string) rfl ?qc1 ?qc2 ?qc3 ?qc4 ?qc5 ?qc6 ?_)
          case qc1 => rw [List.length_map, List.length_drop, Nat.mul_one]
          case qc2 =>
            intro j u hj
            rw [List.getElem?_map] at hj
            obtain ⟨x, hx, rfl⟩ := Option.map_eq_some_iff.1 hj
            rw [Addr.add_lit]
            have h1 := (List.getElem?_eq_some_iff.1 hx).1
            rw [List.length_drop] at h1
            omega
          case qc3 =>
            intro u hu
            obtain ⟨x, _, rfl⟩ := List.mem_map.1 hu
            rfl
          case qc4 => unfold maxLen; omega
          case qc5 => omega
          case qc6 => exact hsw
          intro v' w5 hown5 hgrow hnil
          have hL : (ld ++ lp.drop m).length = ld.length + (lp.length - m) := by rw [List.length_append, List.length_drop]
          have hown6 : w5.ownsRow wr.heap.size 9 1 v' (ld ++ lp.drop m).length ((ld ++ lp.drop m).map Value.string) := by rw [hL, List.map_append, List.map_drop]; exact hown5
          obtain ⟨A5, c5, rfl, hc5, hI5⟩ := own_in hown6
          have hb5 : Below w.heap.size w w5 := B3.out.grown hgrow hs3 (by intro q hq; have := (own_block HOW.out q hq).1; omega)
          have HI5 := hide hI5
          have HB5 := hide hb5
          have HXS := hide (show ∀ x ∈ ld ++ lp.drop m, x.size ≤ maxLen from fun x hx => by
            unfold maxLen
            rcases List.mem_append.1 hx with h | h
            · have := HD8.out x h; omega
            · have := H8.out x (List.mem_of_mem_drop h); omega)
          have HG := hide (show thP l p = joinP (ld ++ lp.drop m) by rw [HFX.out, HLD.out, HPO.out])
          have hL12 : (ld ++ lp.drop m).length ≤ 12 := by omega
          clear hown5 hgrow hnil hown6 hI5 hb5 hL
          generalize ld ++ lp.drop m = LL at *
          go_wp2_with fail
          refine (jnSpec_c A5 LL.length c5 LL (by omega) HXS.out _ HI5.out).mono ?_
          rintro e w6 ⟨rfl, rfl⟩
          go_wp2_with fail
          go_ret
          exact ⟨by rw [HG.out]; rfl, HB5.out⟩
        · have hcc' : ¬ c1 = m := hcc
          go_wp2_with (at_builtin; refine wpList_append_own _ rfl _ _ 44 rfl wr.heap.size 9 i0 (.string ByteArray.empty) 1 16 Tryd.underlying44 HI.out HZ0.out HZ1.out HZ2.out rfl (by decide) _ _ _ rfl HOW.out ⟨g, m, none⟩ (lp.length - m) (c1 - m) ((lp.drop m).map Value.string) rfl ?qc1 ?qc2 ?qc3 ?qc4 ?qc5 ?qc6 ?_)
          case qc1 => rw [List.length_map, List.length_drop, Nat.mul_one]
          case qc2 =>
            intro j u hj
            rw [List.getElem?_map] at hj
            obtain ⟨x, hx, rfl⟩ := Option.map_eq_some_iff.1 hj
            rw [Addr.add_lit]
            rw [List.getElem?_drop] at hx
            have := HRP3.out.2 (m + j) x hx
            rwa [Nat.zero_add] at this
          case qc3 =>
            intro u hu
            obtain ⟨x, _, rfl⟩ := List.mem_map.1 hu
            rfl
          case qc4 => unfold maxLen; omega
          case qc5 => omega
          case qc6 => exact hsw
          intro v' w5 hown5 hgrow hnil
          have hL : (ld ++ lp.drop m).length = ld.length + (lp.length - m) := by rw [List.length_append, List.length_drop]
          have hown6 : w5.ownsRow wr.heap.size 9 1 v' (ld ++ lp.drop m).length ((ld ++ lp.drop m).map Value.string) := by rw [hL, List.map_append, List.map_drop]; exact hown5
          obtain ⟨A5, c5, rfl, hc5, hI5⟩ := own_in hown6
          have hb5 : Below w.heap.size w w5 := B3.out.grown hgrow hs3 (by intro q hq; have := (own_block HOW.out q hq).1; omega)
          have HI5 := hide hI5
          have HB5 := hide hb5
          have HXS := hide (show ∀ x ∈ ld ++ lp.drop m, x.size ≤ maxLen from fun x hx => by
            unfold maxLen
            rcases List.mem_append.1 hx with h | h
            · have := HD8.out x h; omega
            · have := H8.out x (List.mem_of_mem_drop h); omega)
          have HG := hide (show thP l p = joinP (ld ++ lp.drop m) by rw [HFX.out, HLD.out, HPO.out])
          have hL12 : (ld ++ lp.drop m).length ≤ 12 := by omega
          clear hown5 hgrow hnil hown6 hI5 hb5 hL
          generalize ld ++ lp.drop m = LL at *
          go_wp2_with fail
          refine (jnSpec_c A5 LL.length c5 LL (by omega) HXS.out _ HI5.out).mono ?_
          rintro e w6 ⟨rfl, rfl⟩
          go_wp2_with fail
          go_ret
          exact ⟨by rw [HG.out]; rfl, HB5.out⟩
end Go.Proofs.YtgpdblkaidllmaaDoor
