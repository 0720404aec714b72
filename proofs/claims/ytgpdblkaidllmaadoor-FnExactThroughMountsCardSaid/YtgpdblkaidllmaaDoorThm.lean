/-
  ThroughMounts of both. The library's own variable holds some number.
-/
import Derived.Test.YtgpdblkaidllmaaDoorProg
import Derived.Test.YtgpdblkaidllmaaDoorCon
namespace Go.Proofs.YtgpdblkaidllmaaDoor
open Go.RowKit
set_option linter.unusedSimpArgs false
set_option linter.unusedVariables false

theorem own_in {w : World} {B : Nat} {V : Value} {l : List ByteArray} (h : w.ownsRow B 9 1 V l.length (l.map Value.string)) : ∃ A c, V = .slice A l.length c ∧ l.length ≤ c ∧ InString w A l.length l := by
  rcases h.2 with ⟨rfl, hx⟩ | ⟨g, cap, cur, rfl, h2, h3, h4, h5, h6, h7⟩
  · have h0 : l = [] := by simpa using hx
    subst h0
    exact ⟨none, 0, rfl, Nat.le_refl _, rfl, fun h => absurd h (by simp)⟩
  · obtain ⟨g1, g2, g3, g4, g5⟩ := own_cell1 h
    exact ⟨_, _, rfl, g3, rfl, fun _ => ⟨g, 0, rfl, g2, fun k x hx => by rw [Nat.zero_add]; exact g4 k _ (by rw [List.getElem?_map, hx]; rfl)⟩⟩
set_option maxRecDepth 100000 in
set_option maxHeartbeats 4000000 in
theorem joined_c (s : ByteArray) (hs : s.size ≤ 1048576) (V : Value) (l : List ByteArray) (h6 : l.length ≤ 6) (h8 : ∀ x ∈ l, x.size ≤ 8) (hp : pathB s = true) (w : World) (hm : MX w) (hV : SlP w V l) :
    Calls Tryd.prog 29 #[.string s, V] w fun e w' => e = .returned (.string (joinP (ppOf s ++ l))) ∧ Below w.heap.size w w' := by
  have HM := hide hm
  have HV := hide hV
  obtain ⟨g0, o0, c0, hVe, hc0, hR0⟩ := hV
  have hlp := ppOf_short s
  have HP8 := hide (ppOf_size s)
  have HEQ := hide (fun l' (h : IsPP s l') => ppOf_eq h)
  have H8 := hide h8
  clear hm h8
  generalize ppOf s = lp at *
  subst hVe
  go_enter Tryd.func29, Tryd.ntmps29
  go_wp2_with fail
  refine (ppImpl_c s hs _ HM.out).mono ?_
  rintro e w1 ⟨V1, rfl, hb1, hV1⟩
  obtain ⟨l', hl', g, c, rfl, hc, hg, hR⟩ := hV1 hp
  obtain rfl := HEQ.out l' hl'
  have B1 := hide hb1
  have HR := hide hR
  have HR0 := hide (hR0.below hb1)
  rw [hp]
  clear hb1 hV1 hR hR0
  have RC := Row.made w1 44 #[.slice (some ⟨g, 0, none⟩) lp.length c, .slice (some ⟨g0, o0, none⟩) l.length c0] (fun j => #[Value.slice (some ⟨g, 0, none⟩) lp.length c, .slice (some ⟨g0, o0, none⟩) l.length c0][j]?) (fun _ _ h => h)
  have BC : Below w1.heap.size w1 (w1.alloc (.cells #[.slice (some ⟨g, 0, none⟩) lp.length c, .slice (some ⟨g0, o0, none⟩) l.length c0] 44)) := below_alloc0 (Below.refl _ _) _
  go_wp2_with fail
  refine (ccat_c w1.heap.size _ _ lp l hlp h6 _ RC.lt (RC.cell (j := 0) rfl) (RC.cell (j := 1) rfl) ⟨g, 0, c, rfl, hc, HR.out.below BC⟩ ⟨g0, o0, c0, rfl, hc0, HR0.out.below BC⟩).mono ?_
  rintro e w2 ⟨V2, rfl, hown, hb2⟩
  obtain ⟨A2, c2, rfl, hcc2, hI2⟩ := own_in hown
  have B2 := hide (below_via0 B1.out (below_via0 BC hb2))
  have HI2 := hide hI2
  have H88 := hide (show ∀ x ∈ lp ++ l, x.size ≤ maxLen from fun x hx => by
    unfold maxLen
    rcases List.mem_append.1 hx with h | h
    · have := HP8.out x h; omega
    · have := H8.out x h; omega)
  have hll : (lp ++ l).length ≤ 12 := by rw [List.length_append]; omega
  clear RC BC hown hb2 hI2
  generalize hLL : lp ++ l = L at *
  have HLL := hide hLL
  clear hLL
  go_wp2_with fail
  refine (jnImpl_c A2 L.length c2 L (by omega) hcc2 H88.out _ HI2.out).mono ?_
  rintro e w3 ⟨rfl, hb3⟩
  go_wp2_with fail
  go_ret
  exact ⟨by rw [HLL.out]; rfl, below_via0 B2.out hb3⟩
theorem thP_no1 {l : List Mount} {p : ByteArray} (h : mntB l = false) : thP l p = ⟨#[]⟩ := by rw [thP, h]; rfl
theorem thP_no2 {l : List Mount} {p : ByteArray} (h : pathB p = false) : thP l p = ⟨#[]⟩ := by rw [thP, h, Bool.and_false]; rfl
theorem thP_self {l : List Mount} {p : ByteArray} (h1 : mntB l = true) (h2 : pathB p = true) (h : (bst l p l.length).1 < 0) : thP l p = p := by rw [thP, h1, h2]; exact if_pos h
theorem thP_at {l : List Mount} {p : ByteArray} {i : Nat} {t : Mount} {k : Nat} (h1 : mntB l = true) (h2 : pathB p = true) (h : (bst l p l.length).1 = (i : Int)) (ht : l[i]? = some t) (hk : (bst l p l.length).2 = (k : Int)) :
    thP l p = joinP (ppOf t.dst ++ (ppOf p).drop k) := by
  rw [thP, h1, h2]
  show (if (bst l p l.length).1 < 0 then p else joinP (ppOf (dstAt l (bst l p l.length).1) ++ (ppOf p).drop (bst l p l.length).2.toNat)) = _
  rw [if_neg (by rw [h]; omega), h, hk]
  simp [dstAt, ht]
set_option maxRecDepth 100000 in
set_option maxHeartbeats 8000000 in
theorem tmImpl_c (b off n c : Nat) (l : List Mount) (p : ByteArray) (hl : l.length = n) (hn : n ≤ 1048576) (hc : n ≤ c) (hz : ∀ t ∈ l, MntS t) (hps : p.size ≤ 1048576) (w : World) (hm : MX w) (hR : RdMount w b off l) :
    Calls Tryd.prog 14 #[.slice (some ⟨b, off, none⟩) n c, .string p] w fun e w' => e = .returned (.string (thP l p)) ∧ Below w.heap.size w w' := by
  have HR := hide hR
  have HZ := hide hz
  have HM := hide hm
  have HPS := hide hps
  clear hR hz hm hps
  go_enter Tryd.func14, Tryd.ntmps14
  go_wp2_with fail
  refine (mvImpl_c b off n c l hl hn hc HZ.out _ HM.out HR.out).mono ?_
  rintro e w1 ⟨rfl, hb1⟩
  have B1 := hide hb1
  clear hb1
  cases hv : mntB l
  · have HF := hide (thP_no1 (p := p) hv)
    go_wp2_with fail
    go_ret
    exact ⟨by rw [HF.out]; rfl, B1.out⟩
  go_wp2_with fail
  refine (isPath_c p HPS.out _ (HM.out.below B1.out)).mono ?_
  rintro e w2 ⟨rfl, hb2⟩
  have B2 := hide (below_via0 B1.out hb2)
  clear hb2
  cases hpp : pathB p
  · have HF := hide (thP_no2 (l := l) hpp)
    go_wp2_with fail
    go_ret
    exact ⟨by rw [HF.out]; rfl, B2.out⟩
  have HOK := hide (mntB_iff.1 hv).1
  have HV := hide hv
  have HPP := hide hpp
  have h6 := (mntB_iff.1 hv).2
  clear hv hpp
  have hlp := ppOf_short p
  go_wp2_with fail
  go_loopw [5, 6, 22] (fun bv rv kv wr => ∃ k : Nat, k ≤ n ∧ kv = .int .i64 k ∧ bv = .int .i64 (bst l p k).1 ∧ Hid ((bst l p k).1 < 0 → ∃ g, rv = .slice (some ⟨g, 0, none⟩) 0 0) ∧ Hid (∀ q : Nat, (bst l p k).2 = (q : Int) → SlP wr rv ((ppOf p).drop q)) ∧ Hid (Below w.heap.size w wr)) (fun _ _ kv _ => n - (intOf kv).toNat)
  case atStart => exact ⟨0, by omega, rfl, rfl, fun _ => ⟨_, rfl⟩, fun q hq => by simp [bst] at hq, below_alloc0 B2.out _⟩
  case round =>
    obtain ⟨k, hk, rfl, rfl, hneg, hsl, hbel⟩ := hrel
    have hinv := bst_inv l p k
    by_cases hlt : k < n
    · have hkk : (k : Int) < n := by omega
      obtain ⟨t, ht⟩ : ∃ t, l[k]? = some t := ⟨_, List.getElem?_eq_getElem (by omega)⟩
      have HT := hide ht
      have HZt := hide (HZ.out t (List.mem_of_getElem? ht))
      have hok := HOK.out k t (by omega) ht
      obtain ⟨c0, c1⟩ := (HR.out.below hbel.out).2 k t ht
      have hbl := (HR.out.below hbel.out).1
      have B3 := hide (below_alloc0 hbel.out (.cells #[.string t.src, .string t.dst] 28))
      have hla := ppOf_short t.src
      clear ht
      go_wp2_with fail
      refine (restOf_c p t.src HPS.out HZt.out.1 _ (HM.out.below B3.out)).mono ?_
      rintro e w3 ⟨V, rfl, hb3, hV⟩
      have B4 := hide (below_via0 B3.out hb3)
      have HB3 := hide (below_via0 (below_alloc0 (Below.refl _ wr) (.cells #[.string t.src, .string t.dst] 28)) hb3)
      have HV := hide hV
      clear hb3 hV c0 c1 hbl
      cases hb : blB p t.src
      · have HE := hide (bst_skip HT.out hb)
        have HS3 := hide (fun q hq => (hsl.out q hq).below HB3.out)
        go_wp2_with fail
        exact ⟨⟨k + 1, by omega, by go_num, by rw [HE.out], by rw [HE.out]; exact hneg, by rw [HE.out]; exact HS3, B4⟩, by simp [intOf] <;> omega⟩
      · obtain ⟨g, off', c', rfl, hcV, hRV⟩ := HV.out hb
        have hlen : ((ppOf p).drop (ppOf t.src).length).length = (ppOf p).length - (ppOf t.src).length := List.length_drop
        have hble := blB_len hb
        have HRV := hide hRV
        rw [hlen] at hcV ⊢
        clear hRV HV
        rcases hinv with ⟨i1, i2⟩ | ⟨i, u, i1, i2, i3, i4, i5⟩
        · have hb0 : (bst l p k).1 < 0 := by omega
          have HE := hide (bst_take HT.out hb (by rw [i2]; omega))
          have HS3 := hide (show ∀ q : Nat, ((ppOf t.src).length : Int) = (q : Int) → SlP w3 (.slice (some ⟨g, off', none⟩) ((ppOf p).length - (ppOf t.src).length) c') ((ppOf p).drop q) from fun q hq => by
            obtain rfl : (ppOf t.src).length = q := by omega
            exact ⟨g, off', c', by rw [hlen], by rw [hlen]; exact hcV, HRV.out⟩)
          have HN := hide (show ((k : Nat) : Int) < 0 → ∃ g', (Value.slice (some ⟨g, off', none⟩) ((ppOf p).length - (ppOf t.src).length) c') = .slice (some ⟨g', 0, none⟩) 0 0 from fun h => by omega)
          have HRT := hide (show (bst l p (k + 1)).1 = (k : Int) ∧ (bst l p (k + 1)).2 = ((ppOf t.src).length : Int) by rw [HE.out]; exact ⟨rfl, rfl⟩)
          rw [i1]
          clear hb0
          go_wp2_with fail
          exact ⟨⟨k + 1, by omega, by go_num, by rw [HRT.out.1], by rw [HRT.out.1]; exact HN, by rw [HRT.out.2]; exact HS3, B4⟩, by simp [intOf] <;> omega⟩
        · obtain ⟨g2, o2, c2, hrv, hc2, hR2⟩ := hsl.out _ i4
          have hlen2 : ((ppOf p).drop (ppOf u.src).length).length = (ppOf p).length - (ppOf u.src).length := List.length_drop
          rw [hlen2] at hrv hc2
          subst hrv
          have hni : ¬ ((i : Int) < 0) := by omega
          rw [i1]
          by_cases hlen3 : (ppOf u.src).length < (ppOf t.src).length
          · have HE := hide (bst_take HT.out hb (by rw [i4]; omega))
            have HS3 := hide (show ∀ q : Nat, ((ppOf t.src).length : Int) = (q : Int) → SlP w3 (.slice (some ⟨g, off', none⟩) ((ppOf p).length - (ppOf t.src).length) c') ((ppOf p).drop q) from fun q hq => by
              obtain rfl : (ppOf t.src).length = q := by omega
              exact ⟨g, off', c', by rw [hlen], by rw [hlen]; exact hcV, HRV.out⟩)
            have HN := hide (show ((k : Nat) : Int) < 0 → ∃ g', (Value.slice (some ⟨g, off', none⟩) ((ppOf p).length - (ppOf t.src).length) c') = .slice (some ⟨g', 0, none⟩) 0 0 from fun h => by omega)
            have HRT := hide (show (bst l p (k + 1)).1 = (k : Int) ∧ (bst l p (k + 1)).2 = ((ppOf t.src).length : Int) by rw [HE.out]; exact ⟨rfl, rfl⟩)
            have hcmp : (((ppOf p).length - (ppOf t.src).length : Nat) : Int) < (((ppOf p).length - (ppOf u.src).length : Nat) : Int) := by omega
            go_wp2_with fail
            exact ⟨⟨k + 1, by omega, by go_num, by rw [HRT.out.1], by rw [HRT.out.1]; exact HN, by rw [HRT.out.2]; exact HS3, B4⟩, by simp [intOf] <;> omega⟩
          · have HE := hide (bst_less HT.out (by rw [i4]; omega))
            have HS3 := hide (fun q hq => (hsl.out q hq).below HB3.out)
            have HI1 := hide i1
            have hcmp : ¬ (((ppOf p).length - (ppOf t.src).length : Nat) : Int) < (((ppOf p).length - (ppOf u.src).length : Nat) : Int) := by omega
            clear i1
            go_wp2_with fail
            exact ⟨⟨k + 1, by omega, by go_num, by rw [HE.out, HI1.out], by rw [HE.out]; exact hneg, by rw [HE.out]; exact HS3, B4⟩, by simp [intOf] <;> omega⟩
    · obtain rfl : k = n := by omega
      have hkk : ¬ (k : Int) < k := by omega
      rcases hinv with ⟨i1, i2⟩ | ⟨i, u, i1, i2, i3, i4, i5⟩
      · have HF := hide (thP_self HV.out HPP.out (by rw [hl, i1]; omega))
        rw [i1]
        go_wp2_with fail
        go_ret
        exact ⟨by rw [HF.out]; rfl, hbel.out⟩
      · have HF := hide (thP_at HV.out HPP.out (by rw [hl]; exact i1) i3 (by rw [hl]; exact i4))
        obtain ⟨d0, d1⟩ := (HR.out.below hbel.out).2 i u i3
        have hbl := (HR.out.below hbel.out).1
        have HSL := hide (hsl.out _ i4)
        have hik : (i : Int) < k := by omega
        have HPU := hide (HOK.out i u (by omega) i3).2.1
        have HZu := hide (HZ.out u (List.mem_of_getElem? i3))
        have hni : ¬ ((i : Int) < 0) := by omega
        rw [i1]
        clear i1 i3 i4
        go_wp2_with fail
        refine (joined_c u.dst HZu.out.2 _ _ (by rw [List.length_drop]; omega) (fun x hx => ppOf_size p x (List.mem_of_mem_drop hx)) HPU.out _ (HM.out.below hbel.out) HSL.out).mono ?_
        rintro e w4 ⟨rfl, hb4⟩
        go_wp2_with fail
        go_ret
        exact ⟨by rw [HF.out]; rfl, below_via0 hbel.out hb4⟩
end Go.Proofs.YtgpdblkaidllmaaDoor
