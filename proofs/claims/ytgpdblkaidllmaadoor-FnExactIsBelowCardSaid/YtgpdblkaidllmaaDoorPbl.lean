/-
  Paths below paths: what is left of a path behind another one; IsBelow of both. The library's own variable holds some number.
-/
import Derived.Test.YtgpdblkaidllmaaDoorProg
import Derived.Test.YtgpdblkaidllmaaDoorPpw
namespace Go.Proofs.YtgpdblkaidllmaaDoor
open Go.RowKit
set_option linter.unusedSimpArgs false
set_option linter.unusedVariables false

open Classical in
/-- The names of a path. -/
noncomputable def ppOf (s : ByteArray) : List ByteArray := if h : ∃ l, IsPP s l then Classical.choose h else []
theorem ppOf_eq {s : ByteArray} {l : List ByteArray} (h : IsPP s l) : ppOf s = l := by
  have h' : ∃ l, IsPP s l := ⟨l, h⟩
  unfold ppOf
  rw [dif_pos h']
  exact pp_uniq (Classical.choose_spec h') h
theorem ppOf_is {s : ByteArray} (h : pathB s = true) : IsPP s (ppOf s) := by
  obtain ⟨l, hl⟩ := pathB_iff.1 h
  rw [ppOf_eq hl]; exact hl
/-- A path begins with all names of another one. -/
noncomputable def blB (p a : ByteArray) : Bool := pathB p && (pathB a && @decide ((ppOf p).take (ppOf a).length = ppOf a) (Classical.propDecidable _))
theorem take_short {l m : List ByteArray} (h : l.length < m.length) : ¬ l.take m.length = m := fun e => by
  have := congrArg List.length e
  rw [List.length_take] at this
  omega
theorem blB_1 {p a : ByteArray} (h : pathB p = false) : blB p a = false := by rw [blB, h]; rfl
theorem blB_2 {p a : ByteArray} (h : pathB a = false) : blB p a = false := by rw [blB, h]; simp
theorem blB_no {p a : ByteArray} {lp la : List ByteArray} (hp : IsPP p lp) (ha : IsPP a la) (h : ¬ lp.take la.length = la) : blB p a = false := by
  rw [blB, ppOf_eq hp, ppOf_eq ha, pathB_iff.2 ⟨_, hp⟩, pathB_iff.2 ⟨_, ha⟩]
  simp [h]
theorem blB_yes {p a : ByteArray} {lp la : List ByteArray} (hp : IsPP p lp) (ha : IsPP a la) (h : lp.take la.length = la) : blB p a = true := by
  rw [blB, ppOf_eq hp, ppOf_eq ha, pathB_iff.2 ⟨_, hp⟩, pathB_iff.2 ⟨_, ha⟩]
  simp [h]
/-- A slice of strings that reads as the list. -/
def SlP (w : World) (V : Value) (l : List ByteArray) : Prop := ∃ g off c, V = .slice (some ⟨g, off, none⟩) l.length c ∧ l.length ≤ c ∧ RdString w g off l
theorem SlP.below {w w' : World} {V : Value} {l : List ByteArray} (h : SlP w V l) (hb : Below w.heap.size w w') : SlP w' V l := by
  obtain ⟨g, off, c, h1, h2, h3⟩ := h
  exact ⟨g, off, c, h1, h2, h3.below hb⟩
theorem RdString.getD {w : World} {g off : Nat} {l : List ByteArray} (h : RdString w g off l) : ∀ j, j < l.length → w.cell? ⟨g, off + j, none⟩ = some (.string (l.getD j ByteArray.empty)) := fun j hj => by
  refine (h.2 j l[j] (List.getElem?_eq_getElem hj)).trans ?_
  rw [List.getD_eq_getElem?_getD, List.getElem?_eq_getElem hj]; rfl
theorem slEq_c (b1 o1 c b2 o2 d : Nat) (xs ys : List ByteArray) (w : World) (h : ys.length ≤ xs.length) (h6 : xs.length ≤ 100) (h1 : RdString w b1 o1 xs) (h2 : RdString w b2 o2 ys) :
    Calls Tryd.prog 38 #[.slice (some ⟨b1, o1, none⟩) ys.length c, .slice (some ⟨b2, o2, none⟩) ys.length d] w fun e w' => e = .returned (.bool (decide (xs.take ys.length = ys))) ∧ ∃ q, w' = w.drewN q := by
  have := Tryd.slices_Equal_string b1 o1 ys.length c b2 o2 ys.length d xs ys w h (Nat.le_refl _) (by omega) (by omega) h1.getD h2.getD
  rwa [List.take_length (l := ys)] at this
set_option maxHeartbeats 4000000 in
theorem restOf_c (p a : ByteArray) (hp : p.size ≤ 1048576) (ha : a.size ≤ 1048576) (w : World) (hm : MX w) :
    Calls Tryd.prog 28 #[.string p, .string a] w fun e w' => ∃ V, e = .returned (.tuple #[V, .bool (blB p a)]) ∧ Below w.heap.size w w' ∧ (blB p a = true → SlP w' V ((ppOf p).drop (ppOf a).length)) := by
  have HM := hide hm
  have HPS := hide hp
  have HAS := hide ha
  clear hm hp ha
  go_enter Tryd.func28, Tryd.ntmps28
  go_wp2_with fail
  refine (ppImpl_c p HPS.out _ HM.out).mono ?_
  rintro e w1 ⟨V, rfl, hb1, hV⟩
  have B1 := hide hb1
  have HV := hide hV
  clear hb1 hV
  go_wp2_with fail
  refine (ppImpl_c a HAS.out _ (HM.out.below B1.out)).mono ?_
  rintro e w2 ⟨V2, rfl, hb2, hV2⟩
  have B2 := hide (below_via0 B1.out hb2)
  have HV2 := hide hV2
  have HB2 := hide hb2
  clear hb2 hV2
  cases hp1 : pathB p
  · have HF := hide (blB_1 (a := a) hp1)
    go_wp2_with fail
    exact bodyPost_ret (v := .tuple #[.slice none 0 0, .bool false]) (by simp [results, Tryd.results28, go_sem]) rfl ⟨_, by rw [HF.out], B2.out, fun h => by rw [HF.out] at h; cases h⟩
  cases ha1 : pathB a
  · have HF := hide (blB_2 (p := p) ha1)
    go_wp2_with fail
    exact bodyPost_ret (v := .tuple #[.slice none 0 0, .bool false]) (by simp [results, Tryd.results28, go_sem]) rfl ⟨_, by rw [HF.out], B2.out, fun h => by rw [HF.out] at h; cases h⟩
  obtain ⟨lp, hlp, g, c, rfl, hc, hg, hR⟩ := HV.out hp1
  obtain ⟨la, hla, g2, c2, rfl, hc2, hg2, hR2⟩ := HV2.out ha1
  have HLP := hide hlp
  have HLA := hide hla
  have hl6 := hlp.1.1
  have ha6 := hla.1.1
  have HR := hide (hR.below HB2.out)
  have HR2 := hide hR2
  have HPO := hide (ppOf_eq hlp)
  have HAO := hide (ppOf_eq hla)
  clear hlp hla hR hR2 HV HV2 hp1 ha1
  by_cases hlt : lp.length < la.length
  · have HF := hide (blB_no HLP.out HLA.out (take_short hlt))
    have hlt' : (lp.length : Int) < la.length := by omega
    go_wp2_with fail
    exact bodyPost_ret (v := .tuple #[.slice none 0 0, .bool false]) (by simp [results, Tryd.results28, go_sem]) rfl ⟨_, by rw [HF.out], B2.out, fun h => by rw [HF.out] at h; cases h⟩
  have hlt' : ¬ (lp.length : Int) < la.length := by omega
  have hlc : la.length ≤ c := by omega
  by_cases he : lp.take la.length = la
  · have HT := hide (blB_yes HLP.out HLA.out he)
    have hd := hide (decide_eq_true he)
    clear he
    go_wp2_with fail
    refine (slEq_c g 0 c g2 0 c2 lp la _ (by omega) (by omega) HR.out HR2.out).mono ?_
    rintro e w3 ⟨rfl, nq, rfl⟩
    rw [hd.out]
    have B3 := hide (below_drewN B2.out nq)
    have HR3 := hide (show RdString (w2.drewN nq) g 0 lp from HR.out)
    have HDR := hide (show RdString (w2.drewN nq) g la.length (lp.drop la.length) from ⟨HR3.out.1, fun k x hx => by
      rw [List.getElem?_drop] at hx
      have := HR3.out.2 (la.length + k) x hx
      rwa [Nat.zero_add] at this⟩)
    have hdl : (lp.drop la.length).length = lp.length - la.length := List.length_drop
    by_cases hcc : c = la.length
    · go_wp2_with fail
      have h0 : lp.length - la.length = 0 := by omega
      have hnil : lp.drop la.length = [] := List.eq_nil_of_length_eq_zero (by omega)
      exact bodyPost_ret (v := .tuple #[.slice (some ⟨g, 0, none⟩) (lp.length - la.length) 0, .bool true]) (by simp [results, Tryd.results28, go_sem]) rfl
        ⟨_, by rw [HT.out], B3.out, fun _ => by
          rw [HPO.out, HAO.out, hnil]
          exact ⟨g, 0, 0, by rw [h0]; rfl, Nat.le_refl _, ⟨HR3.out.1, fun k x hx => by simp at hx⟩⟩⟩
    · go_wp2_with fail
      exact bodyPost_ret (v := .tuple #[.slice (some ⟨g, la.length, none⟩) (lp.length - la.length) (c - la.length), .bool true]) (by simp [results, Tryd.results28, go_sem]) rfl
        ⟨_, by rw [HT.out], B3.out, fun _ => by rw [HPO.out, HAO.out]; exact ⟨g, la.length, c - la.length, by rw [hdl], by omega, HDR.out⟩⟩
  · have HF := hide (blB_no HLP.out HLA.out he)
    have hd := hide (decide_eq_false he)
    clear he
    go_wp2_with fail
    refine (slEq_c g 0 c g2 0 c2 lp la _ (by omega) (by omega) HR.out HR2.out).mono ?_
    rintro e w3 ⟨rfl, nq, rfl⟩
    rw [hd.out]
    have B3 := hide (below_drewN B2.out nq)
    go_wp2_with fail
    exact bodyPost_ret (v := .tuple #[.slice none 0 0, .bool false]) (by simp [results, Tryd.results28, go_sem]) rfl ⟨_, by rw [HF.out], B3.out, fun h => by rw [HF.out] at h; cases h⟩
theorem ibImpl_c (p a : ByteArray) (hp : p.size ≤ 1048576) (ha : a.size ≤ 1048576) (w : World) (hm : MX w) :
    Calls Tryd.prog 17 #[.string p, .string a] w fun e w' => e = .returned (.bool (blB p a)) ∧ Below w.heap.size w w' := by
  have hc := restOf_c p a hp ha w hm
  generalize blB p a = B at *
  go_enter Tryd.func17, Tryd.ntmps17
  go_wp2_with fail
  refine hc.mono ?_
  rintro e w1 ⟨V, rfl, hb, _⟩
  go_wp2_with fail
  go_ret
  exact ⟨rfl, hb⟩
set_option maxHeartbeats 4000000 in
theorem ibSpec_c (p a : ByteArray) (hp : p.size ≤ 1048576) (ha : a.size ≤ 1048576) (w : World) :
    Calls Tryd.prog 16 #[.string p, .string a] w fun e w' => e = .returned (.bool (blB p a)) ∧ Below w.heap.size w w' := by
  have HPS := hide hp
  have HAS := hide ha
  clear hp ha
  go_enter Tryd.func16, Tryd.ntmps16
  go_wp2_with fail
  refine (ppSpec_c p HPS.out _).mono ?_
  rintro e w1 ⟨V, rfl, hb1, hV⟩
  have B1 := hide hb1
  have HV := hide hV
  clear hb1 hV
  go_wp2_with fail
  refine (ppSpec_c a HAS.out _).mono ?_
  rintro e w2 ⟨V2, rfl, hb2, hV2⟩
  have B2 := hide (below_via0 B1.out hb2)
  have HV2 := hide hV2
  have HB2 := hide hb2
  clear hb2 hV2
  cases hp1 : pathB p
  · have HF := hide (blB_1 (a := a) hp1)
    go_wp2_with fail
    go_ret
    exact ⟨by rw [HF.out]; rfl, B2.out⟩
  cases ha1 : pathB a
  · have HF := hide (blB_2 (p := p) ha1)
    go_wp2_with fail
    go_ret
    exact ⟨by rw [HF.out]; rfl, B2.out⟩
  obtain ⟨lp, hlp, hO⟩ := HV.out hp1
  obtain ⟨la, hla, hO2⟩ := HV2.out ha1
  obtain ⟨g, c, rfl, hc, hg, hR⟩ := hO.p
  obtain ⟨g2, c2, rfl, hc2, hg2, hR2⟩ := hO2.p
  have HLP := hide hlp
  have HLA := hide hla
  have hl6 := hlp.1.1
  have ha6 := hla.1.1
  have HR := hide (hR.below HB2.out)
  have HR2 := hide hR2
  clear hlp hla hR hR2 HV HV2 hp1 ha1 hO hO2
  by_cases hlt : lp.length < la.length
  · have HF := hide (blB_no HLP.out HLA.out (take_short hlt))
    have hlt' : (lp.length : Int) < la.length := by omega
    go_wp2_with fail
    go_ret
    exact ⟨by rw [HF.out]; rfl, B2.out⟩
  have hlt' : ¬ (lp.length : Int) < la.length := by omega
  go_wp2_with fail
  go_loopw [9] (fun kv wr => ∃ k : Nat, k ≤ la.length ∧ kv = .int .i64 k ∧ Hid (∀ (q : Nat) (x : ByteArray), q < k → la[q]? = some x → lp[q]? = some x) ∧ Hid (Below w2.heap.size w2 wr)) (fun kv _ => la.length - (intOf kv).toNat)
  case atStart => exact ⟨0, by omega, rfl, fun q x hq => absurd hq (by omega), Below.refl _ _⟩
  case round =>
    obtain ⟨k, hk, rfl, hup, hbel⟩ := hrel
    by_cases hkl : k < la.length
    · have hkk : (k : Int) < la.length := by omega
      have hkp : (k : Int) < lp.length := by omega
      obtain ⟨x, hx⟩ : ∃ x, la[k]? = some x := ⟨_, List.getElem?_eq_getElem hkl⟩
      obtain ⟨y, hy⟩ : ∃ y, lp[k]? = some y := ⟨_, List.getElem?_eq_getElem (by omega)⟩
      have c0 := (HR.out.below hbel.out).2 k y hy
      have c1 := (HR2.out.below hbel.out).2 k x hx
      have l0 := (HR.out.below hbel.out).1
      have l1 := (HR2.out.below hbel.out).1
      have HX := hide hx
      have HY := hide hy
      simp only [Nat.zero_add] at c0 c1
      clear hx hy
      by_cases he : y = x
      · have HN := hide (show ∀ (q : Nat) (z : ByteArray), q < k + 1 → la[q]? = some z → lp[q]? = some z from fun q z hq hz => by
          rcases Nat.lt_or_ge q k with h' | h'
          · exact hup.out q z h' hz
          · obtain rfl : q = k := by omega
            rw [HX.out] at hz
            rw [HY.out, he]; exact hz)
        rw [he] at c0
        clear he
        go_wp2_with fail
        go_quiet (fail)
        go_wp2_with fail
        exact ⟨⟨k + 1, by omega, by go_num, HN, hide (below_drewN hbel.out _)⟩, by simp [intOf] <;> omega⟩
      · have HF := hide (blB_no HLP.out HLA.out fun e => he (by
          have h1 : (lp.take la.length)[k]? = some y := by rw [List.getElem?_take, if_pos hkl]; exact HY.out
          rw [e, HX.out] at h1
          exact (Option.some.inj h1).symm))
        have hq := ne_tl he
        clear he
        go_wp2_with fail
        go_quiet (fail)
        go_wp2_with fail
        go_ret
        exact ⟨by rw [HF.out]; rfl, below_via0 B2.out (below_drewN hbel.out _)⟩
    · obtain rfl : k = la.length := by omega
      have hkk : ¬ (la.length : Int) < la.length := by omega
      have HT := hide (blB_yes HLP.out HLA.out (by
        refine List.ext_getElem? fun j => ?_
        rw [List.getElem?_take]
        split
        · rename_i hj
          have := hup.out j la[j] hj (List.getElem?_eq_getElem hj)
          rw [this, List.getElem?_eq_getElem hj]
        · rw [List.getElem?_eq_none (by omega)]))
      go_wp2_with fail
      go_ret
      exact ⟨by rw [HT.out]; rfl, below_via0 B2.out hbel.out⟩
theorem fnExactIsBelow_walk {w : World} (hm : MX w) (p : ByteArray) (hp : p.size ≤ maxLen) (a : ByteArray) (ha : a.size ≤ maxLen) :
    Calls Tryd.prog 5 #[.string p, .string a] w fun e w' => e = .returned (.bool true) ∧ Below w.heap.size w w' := by
  unfold maxLen at hp ha
  have HM := hide hm
  clear hm
  by_cases h1 : (1048576 : Int) < p.size
  · go_enter Tryd.func5, Tryd.ntmps5
    go_wp2_with fail
    go_ret
    exact ⟨rfl, Below.refl _ _⟩
  by_cases h2 : (1048576 : Int) < a.size
  · go_enter Tryd.func5, Tryd.ntmps5
    go_wp2_with fail
    go_ret
    exact ⟨rfl, Below.refl _ _⟩
  have hS := ibSpec_c p a (by omega) (by omega) w
  have hI := fun W h => ibImpl_c p a (by omega) (by omega) W h
  generalize blB p a = B at hS hI
  go_enter Tryd.func5, Tryd.ntmps5
  go_wp2_with fail
  refine hS.mono ?_
  rintro e w1 ⟨rfl, hb1⟩
  go_wp2_with fail
  refine (hI _ (HM.out.below hb1)).mono ?_
  rintro e w2 ⟨rfl, hb2⟩
  go_wp2_with fail
  go_ret
  exact ⟨rfl, below_via0 hb1 hb2⟩
end Go.Proofs.YtgpdblkaidllmaaDoor
