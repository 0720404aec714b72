/-
  The law of SetGrant over drawn lists. No condition.
-/
import Derived.Test.YtpifnfhgaemdmaaProg
import Derived.Test.YtpifnfhgaemdmaaFsd
import Derived.Test.YtpifnfhgaemdmaaSml
import Derived.Test.YtpifnfhgaemdmaaLsrI
namespace Go.Proofs.Ytpifnfhgaemdmaa
open Go.RowKit
set_option linter.unusedSimpArgs false
set_option linter.unusedVariables false

theorem isG_self (t : Grant) : isG t.ofGroup t.who t = true := by simp [isG]
theorem fi_set {l : List Grant} {t : Grant} {j : Nat} (h : l.findIdx? (isG t.ofGroup t.who) = some j) : (l.set j t).findIdx? (isG t.ofGroup t.who) = some j := by
  obtain ⟨hj, hy, hn⟩ := List.findIdx?_eq_some_iff_getElem.1 h
  refine List.findIdx?_eq_some_iff_getElem.2 ⟨by simpa using hj, by simp [isG_self], fun i hi => ?_⟩
  rw [List.getElem_set_ne (by omega)]
  exact hn i hi
theorem fi_app {l : List Grant} {t : Grant} (h : l.findIdx? (isG t.ofGroup t.who) = none) : (l ++ [t]).findIdx? (isG t.ofGroup t.who) = some l.length := by
  rw [List.findIdx?_eq_none_iff] at h
  refine List.findIdx?_eq_some_iff_getElem.2 ⟨by simp, by simp [isG_self], fun i hi => ?_⟩
  rw [List.getElem_append_left hi]
  simpa using h _ (List.getElem_mem hi)
/-- Where the grant stands after it was set. -/
theorem putG_at (l : List Grant) (t : Grant) : ∃ j, (putG l t).findIdx? (isG t.ofGroup t.who) = some j ∧ (putG l t)[j]? = some t := by
  unfold putG
  split
  · rename_i j h
    obtain ⟨hj, _⟩ := List.findIdx?_eq_some_iff_getElem.1 h
    exact ⟨j, fi_set h, List.getElem?_set_self hj⟩
  · rename_i h
    exact ⟨l.length, fi_app h, by simp⟩
theorem putG_again (l : List Grant) (t : Grant) : putG (putG l t) t = putG l t := by
  obtain ⟨j, hj, ht⟩ := putG_at l t
  have h1 : putG (putG l t) t = (putG l t).set j t := by
    conv => lhs; unfold putG
    split
    · rename_i i hi
      have : putG l t = putG l t := rfl
      change (putG l t).findIdx? _ = some i at hi
      rw [hj] at hi
      cases hi
      rfl
    · rename_i hi
      change (putG l t).findIdx? _ = none at hi
      rw [hj] at hi; cases hi
  rw [h1]
  refine List.ext_getElem? fun i => ?_
  by_cases e : j = i
  · subst e
    rw [List.getElem?_set_self (List.getElem?_eq_some_iff.1 ht).1, ht]
  · rw [List.getElem?_set_ne e]
theorem sg_ok {m k : Int} {l : List Grant} {t : Grant} (h : sgOk m l k t = true) : listB m l k = true ∧ listB m (putG l t) k = true ∧ sgL m l k t = putG l t ∧ sgN m l k m = m ∧ sgN m l k k = k := by
  simp only [sgOk, Bool.and_eq_true] at h
  exact ⟨h.1, h.2, by simp [sgL, h.1, h.2], by simp [sgN, h.1], by simp [sgN, h.1]⟩
theorem sg_again {m k : Int} {l : List Grant} {t : Grant} (h : sgOk m l k t = true) : sgOk m (putG l t) k t = true ∧ sgL m (putG l t) k t = putG l t ∧ sgN m (putG l t) k m = m ∧ sgN m (putG l t) k k = k := by
  obtain ⟨h1, h2, _⟩ := sg_ok h
  exact ⟨by simp [sgOk, h2, putG_again], by simp [sgL, h2, putG_again], by simp [sgN, h2], by simp [sgN, h2]⟩
/-- If it was not set, the list is as it was, or the zero value. -/
theorem sg_bad {m k : Int} {l : List Grant} {t : Grant} (h : sgOk m l k t = false) : (sgL m l k t = l ∧ sgN m l k m = m ∧ sgN m l k k = k) ∨ (sgL m l k t = [] ∧ sgN m l k m = 0 ∧ sgN m l k k = 0) := by
  cases h1 : listB m l k
  · exact .inr ⟨by simp [sgL, h1], by simp [sgN, h1], by simp [sgN, h1]⟩
  · refine .inl ⟨?_, by simp [sgN, h1], by simp [sgN, h1]⟩
    simp only [sgOk, h1, Bool.true_and] at h
    simp [sgL, h1, h]
theorem set_rights {m k u : Int} {l : List Grant} {t : Grant} (hl : listB m (putG l t) k = true) (hg : t.ofGroup = false) (hu : 97 ≤ u ∧ u ≤ 98) (hne : u ≠ t.who) : lrF m (putG l t) k t.who t.who t.who 0 u 0 = bits .and .i64 t.rights k := by
  obtain ⟨j, hj, ht⟩ := putG_at l t
  have hgo : GOk t := (((listB_iff.1 hl).1) j t (List.getElem?_eq_some_iff.1 ht).1 ht).1
  have hw : inB t.who 0 99 = true := by have := hgo.1; simpa [mostG, hg] using this
  have hc : classF t.who t.who t.who 0 u 0 = 2 := by
    have h1 : credB t.who t.who t.who 0 = true := by simp [credB, hw]; decide
    have h2 : (t.who == u) = false := by simp; omega
    have h3 : inB u 0 99 = true := by rw [inB_iff]; omega
    have h4 : hasG 0 0 = false := by decide
    simp only [classF, h1, h2, h3, h4]
    decide
  rw [hg] at hj
  exact lrF_own hc (by omega) hl hj ht
def fsV (M : Int) (KL : Int) (Ax : Option Addr) (Az : Option Addr) (nL : Nat) (cx : Nat) (cz : Nat) (gb : Nat) (lb : Nat) (tw : Int) (tr : Int) (ow : Int) (N : Int) (tg : Bool) (i : Nat) : Value :=
  match i with
  | 0 => .agg #[.int .i64 M, .slice Ax nL cx, .int .i64 KL]
  | 1 => .bool true
  | 2 => .bool true
  | 3 => .bool true
  | 4 => .bool true
  | 5 => .bool true
  | 6 => .agg #[.int .i64 M, .slice Az nL cz, .int .i64 KL]
  | 7 => .agg #[.int .i64 M, .slice Ax nL cx, .int .i64 KL]
  | 8 => .bool true
  | 9 => .bool true
  | 10 => .bool true
  | 11 => .pointer (some ⟨gb, 0, none⟩)
  | 12 => .bool tg
  | 13 => .bool tg
  | 14 => (bif tg then undef else .agg #[.int .i64 M, .slice Ax nL cx, .int .i64 KL])
  | 15 => (bif tg then undef else .agg #[.int .i64 tw, .int .i64 tw, .int .i64 tw, .int .i64 0])
  | 16 => (bif tg then undef else .int .i64 ow)
  | 17 => (bif tg then undef else .int .i64 N)
  | 18 => (bif tg then undef else .pointer (some ⟨gb, 2, none⟩))
  | 19 => (bif tg then undef else .int .i64 tr)
  | 20 => (bif tg then undef else .pointer (some ⟨lb, 2, none⟩))
  | 21 => (bif tg then undef else .int .i64 KL)
  | 22 => (bif tg then undef else .int .i64 N)
  | 23 => (bif tg then undef else .bool true)
  | 24 => .bool true
  | 25 => .bool true
  | _ => .bool true
set_option maxRecDepth 100000 in
set_option maxHeartbeats 8000000 in
theorem fnSetGrant_walk {w : World} (A : Option Addr) (n c : Nat) (h : InB w A n c) :
    Calls Try.prog 8 #[.slice A n c] w fun e w' => e = .returned (.bool true) ∧ Below w.heap.size w w' := by
  have hm := h.2.1
  unfold maxLen at hm
  have hc := h.1
  have H := hide h
  clear h
  by_cases h20 : 1048576 < n
  · go_enter Try.func8, Try.ntmps8
    go_wp2_with fail
    go_ret
    exact ⟨rfl, Below.refl _ _⟩
  go_enter Try.func8, Try.ntmps8
  go_wp2_with fail
  refine (gSetGrant_c A n c _ H.out).mono ?_
  rintro e w1 ⟨A, nl, cl, l, m, k2, tg, tw, tr, rfl, hl, hn7, ho, hb1⟩
  have HLL := hide hl
  obtain ⟨M, hM⟩ : ∃ M, sgN m l k2 m = M := ⟨_, rfl⟩
  obtain ⟨KL, hK⟩ : ∃ KL, sgN m l k2 k2 = KL := ⟨_, rfl⟩
  obtain ⟨ok, hok⟩ : ∃ ok, sgOk m l k2 ⟨tg, tw, tr⟩ = ok := ⟨_, rfl⟩
  obtain ⟨L, hL⟩ : ∃ L, sgL m l k2 ⟨tg, tw, tr⟩ = L := ⟨_, rfl⟩
  obtain ⟨nL, hnL⟩ : ∃ nL, L.length = nL := ⟨_, rfl⟩
  have hnL6 : nL ≤ 6 := by rw [← hnL, ← hL]; exact sgL_len _ _ _ _
  have HIM := hide (fun (W : World) (A : Option Addr) (c B : Nat) (hO : OwnSG W B nl c A l) => (sgImpl_own m A nl c B k2 l tg tw tr (by omega) W HLL.out hO).mono (fun e w' h => h.toO hM hK hok hL hnL))
  have HSP := hide (fun (W : World) (A : Option Addr) (c B : Nat) (hO : OwnSG W B nl c A l) => (sgSpec_own m A nl c B k2 l tg tw tr (by omega) W HLL.out hO).mono (fun e w' h => h.toO hM hK hok hL hnL))
  have HLN := hide hnL
  have HM := hide hM
  have HK := hide hK
  have HOK := hide hok
  have HL := hide hL
  have b2 : Below w1.heap.size w1 ((w1.alloc (.cells #[.int .i64 m, .slice A nl cl, .int .i64 k2] 24)).alloc (.cells #[.bool tg, .int .i64 tw, .int .i64 tr] 40)) := below_alloc0 (below_alloc0 (Below.refl _ _) _) _
  have B_2 := hide (hb1.trans (b2.mono hb1.size))
  have O_2 := hide (ho.below b2)
  have L_2 : Hid (LRow ((w1.alloc (.cells #[.int .i64 m, .slice A nl cl, .int .i64 k2] 24)).alloc (.cells #[.bool tg, .int .i64 tw, .int .i64 tr] 40)) w1.heap.size (.int .i64 m) (.slice A nl cl) (.int .i64 k2)) := (LRow.made w1 _ _ _).below (below_alloc0 (Below.refl _ _) _)
  have G_2 : Hid (GRow ((w1.alloc (.cells #[.int .i64 m, .slice A nl cl, .int .i64 k2] 24)).alloc (.cells #[.bool tg, .int .i64 tw, .int .i64 tr] 40)) (w1.heap.size + 1) tg tw tr) := by
    have := Row.madeL (w1.alloc (.cells #[.int .i64 m, .slice A nl cl, .int .i64 k2] 24)) 40 [.bool tg, .int .i64 tw, .int .i64 tr]
    exact hide (show GRow _ _ _ _ _ from by unfold GRow; simpa using this)
  clear hl hM hK hok hL hnL ho hb1 b2
  go_wp2_with fail
  generalize (w1.alloc (.cells #[.int .i64 m, .slice A nl cl, .int .i64 k2] 24)).alloc (.cells #[.bool tg, .int .i64 tw, .int .i64 tr] 40) = w2 at *
  obtain ⟨lb, hlb⟩ : ∃ lb, lb = w1.heap.size := ⟨_, rfl⟩
  obtain ⟨gb, hgb⟩ : ∃ gb, gb = w1.heap.size + 1 := ⟨_, rfl⟩
  rw [← hgb] at G_2 ⊢
  rw [← hlb] at L_2 ⊢
  clear hlb hgb
  have rL0 := L_2.out.c0
  have rL1 := L_2.out.c1
  have rL2 := L_2.out.c2
  have lL := L_2.out.lt
  have rG0 := G_2.out.c0
  have rG1 := G_2.out.c1
  have rG2 := G_2.out.c2
  have lG := G_2.out.lt
  refine (HIM.out _ _ _ _ O_2.out).mono ?_
  rintro e w3 ⟨Ax, cx, rfl, hox, hb3⟩
  clear rL0 rL1 rL2 lL rG0 rG1 rG2 lG
  have OX_3 := hide hox
  clear hox
  have B_3 := hide (B_2.out.trans (hb3.mono B_2.out.size))
  have O_3 := hide (O_2.out.below hb3)
  have L_3 := hide (L_2.out.below hb3)
  have G_3 := hide (G_2.out.below hb3)
  clear hb3 B_2 O_2 L_2 G_2
  have rL0 := L_3.out.c0
  have rL1 := L_3.out.c1
  have rL2 := L_3.out.c2
  have lL := L_3.out.lt
  have rG0 := G_3.out.c0
  have rG1 := G_3.out.c1
  have rG2 := G_3.out.c2
  have lG := G_3.out.lt
  have hb4 : Below w3.heap.size w3 (w3.alloc (.cells #[.int .i64 M, .slice Ax nL cx, .int .i64 KL] 24)) := below_alloc0 (Below.refl _ _) _
  have X_4 := hide (LRow.made w3 (.int .i64 M) (.slice Ax nL cx) (.int .i64 KL))
  have B_4 := hide (B_3.out.trans (hb4.mono B_3.out.size))
  have O_4 := hide (O_3.out.below hb4)
  have L_4 := hide (L_3.out.below hb4)
  have G_4 := hide (G_3.out.below hb4)
  have OX_4 := hide (OX_3.out.below hb4)
  clear hb4 B_3 O_3 L_3 G_3 OX_3
  go_wp2_with fail
  generalize w3.alloc (.cells #[.int .i64 M, .slice Ax nL cx, .int .i64 KL] 24) = w4 at *
  obtain ⟨xb, hxb⟩ : ∃ xb, xb = w3.heap.size := ⟨_, rfl⟩
  rw [← hxb] at X_4 ⊢
  clear hxb
  clear rL0 rL1 rL2 lL rG0 rG1 rG2 lG
  refine (HSP.out _ _ _ _ O_4.out).mono ?_
  rintro e w5 ⟨Ay, cy, rfl, hoy, hb5⟩
  have OY_5 := hide hoy
  clear hoy
  have B_5 := hide (B_4.out.trans (hb5.mono B_4.out.size))
  have O_5 := hide (O_4.out.below hb5)
  have L_5 := hide (L_4.out.below hb5)
  have G_5 := hide (G_4.out.below hb5)
  have OX_5 := hide (OX_4.out.below hb5)
  have X_5 := hide (X_4.out.below hb5)
  clear hb5 B_4 O_4 L_4 G_4 OX_4 X_4
  have rL0 := L_5.out.c0
  have rL1 := L_5.out.c1
  have rL2 := L_5.out.c2
  have lL := L_5.out.lt
  have rG0 := G_5.out.c0
  have rG1 := G_5.out.c1
  have rG2 := G_5.out.c2
  have lG := G_5.out.lt
  have rX0 := X_5.out.c0
  have rX1 := X_5.out.c1
  have rX2 := X_5.out.c2
  have lX := X_5.out.lt
  have hb6 : Below w5.heap.size w5 (w5.alloc (.cells #[.int .i64 M, .slice Ay nL cy, .int .i64 KL] 24)) := below_alloc0 (Below.refl _ _) _
  have Y_6 := hide (LRow.made w5 (.int .i64 M) (.slice Ay nL cy) (.int .i64 KL))
  have B_6 := hide (B_5.out.trans (hb6.mono B_5.out.size))
  have O_6 := hide (O_5.out.below hb6)
  have L_6 := hide (L_5.out.below hb6)
  have G_6 := hide (G_5.out.below hb6)
  have OX_6 := hide (OX_5.out.below hb6)
  have X_6 := hide (X_5.out.below hb6)
  have OY_6 := hide (OY_5.out.below hb6)
  clear hb6 B_5 O_5 L_5 G_5 OX_5 X_5 OY_5
  go_wp2_with fail
  generalize w5.alloc (.cells #[.int .i64 M, .slice Ay nL cy, .int .i64 KL] 24) = w6 at *
  obtain ⟨yb, hyb⟩ : ∃ yb, yb = w5.heap.size := ⟨_, rfl⟩
  rw [← hyb] at Y_6 ⊢
  clear hyb
  clear rL0 rL1 rL2 lL rG0 rG1 rG2 lG rX0 rX1 rX2 lX
  refine (sameList_c _ _ _ _ _ _ _ _ _ _ L L (by omega) (by omega) _ (OX_6.out.ins HLN.out) (OY_6.out.ins HLN.out)).mono ?_
  rintro e w7 ⟨rfl, hb7⟩
  rw [samL_refl]
  have B_7 := hide (B_6.out.trans (hb7.mono B_6.out.size))
  have O_7 := hide (O_6.out.below hb7)
  have L_7 := hide (L_6.out.below hb7)
  have G_7 := hide (G_6.out.below hb7)
  have OX_7 := hide (OX_6.out.below hb7)
  have X_7 := hide (X_6.out.below hb7)
  have OY_7 := hide (OY_6.out.below hb7)
  have Y_7 := hide (Y_6.out.below hb7)
  clear hb7 B_6 O_6 L_6 G_6 OX_6 X_6 OY_6 Y_6
  cases ok
  case false =>
    have rX0 := X_7.out.c0
    have rX1 := X_7.out.c1
    have rX2 := X_7.out.c2
    have lX := X_7.out.lt
    have rL0 := L_7.out.c0
    have rL1 := L_7.out.c1
    have rL2 := L_7.out.c2
    have lL := L_7.out.lt
    go_wp2_with fail
    refine (sameList_c _ _ _ _ _ _ _ _ _ _ L l (by omega) (by omega) _ (OX_7.out.ins HLN.out) (O_7.out.ins HLL.out)).mono ?_
    rintro e w8 ⟨rfl, hb8⟩
    clear rX0 rX1 rX2 lX rL0 rL1 rL2 lL
    have B_8 := hide (B_7.out.trans (hb8.mono B_7.out.size))
    have O_8 := hide (O_7.out.below hb8)
    have L_8 := hide (L_7.out.below hb8)
    have G_8 := hide (G_7.out.below hb8)
    have OX_8 := hide (OX_7.out.below hb8)
    have X_8 := hide (X_7.out.below hb8)
    have OY_8 := hide (OY_7.out.below hb8)
    have Y_8 := hide (Y_7.out.below hb8)
    clear hb8 B_7 O_7 L_7 G_7 OX_7 X_7 OY_7 Y_7
    have HBD := hide (sg_bad HOK.out)
    rw [HL.out, HM.out, HK.out] at HBD
    cases hsm : samL M KL L m k2 l
    case true =>
      go_wp2_with fail
      refine (alive_c _).mono ?_
      rintro e w9 ⟨rfl, hb9⟩
      have B9 := hide (B_8.out.trans (hb9.mono B_8.out.size))
      dsimp only
      go_wp2_with fail
      go_ret
      exact ⟨rfl, B9.out⟩
    have HZ := hide (show M = 0 ∧ KL = 0 ∧ L = [] from by
      rcases HBD.out with ⟨h1, h2, h3⟩ | ⟨h1, h2, h3⟩
      · rw [h1, h2, h3, samL_refl] at hsm; cases hsm
      · exact ⟨h2, h3, h1⟩)
    clear hsm
    have rX0 := X_8.out.c0
    have rX1 := X_8.out.c1
    have rX2 := X_8.out.c2
    have lX := X_8.out.lt
    go_wp2_with fail
    refine (sameList_c _ _ _ _ _ _ _ _ _ _ L [] (by omega) (by omega) _ (OX_8.out.ins HLN.out) (inG_nil _)).mono ?_
    rintro e w9 ⟨rfl, hb9⟩
    rw [show samL M KL L 0 0 [] = true by rw [HZ.out.1, HZ.out.2.1, HZ.out.2.2]; exact samL_refl _ _ _]
    have B9 := hide (B_8.out.trans (hb9.mono B_8.out.size))
    clear hb9
    dsimp only
    go_wp2_with fail
    refine (alive_c _).mono ?_
    rintro e w10 ⟨rfl, hb10⟩
    have B10 := hide (B9.out.trans (hb10.mono B9.out.size))
    dsimp only
    go_wp2_with fail
    go_ret
    exact ⟨rfl, B10.out⟩
  have HG := hide (sg_ok HOK.out)
  have HA := hide (sg_again HOK.out)
  have hLp := HG.out.2.2.1
  have hMp := HG.out.2.2.2.1
  have hKp := HG.out.2.2.2.2
  rw [HL.out] at hLp
  rw [HM.out] at hMp
  rw [HK.out] at hKp
  clear HM HK HL
  subst hMp hKp
  have HIA := hide (fun (W : World) (A : Option Addr) (c B : Nat) (hO : OwnSG W B nL c A L) => (sgImpl_own M A nL c B KL L tg tw tr (by omega) W HLN.out hO).mono (fun e w' h => h.toO (M := M) (K := KL) (ok := true) (L := L) (by rw [hLp]; exact HA.out.2.2.1) (by rw [hLp]; exact HA.out.2.2.2) (by rw [hLp]; exact HA.out.1) (by rw [hLp]; exact HA.out.2.1) HLN.out))
  have rX0 := X_7.out.c0
  have rX1 := X_7.out.c1
  have rX2 := X_7.out.c2
  have lX := X_7.out.lt
  have rG0 := G_7.out.c0
  have rG1 := G_7.out.c1
  have rG2 := G_7.out.c2
  have lG := G_7.out.lt
  go_wp2_with fail
  refine (HIA.out _ _ _ _ OX_7.out).mono ?_
  rintro e w8 ⟨Az, cz, rfl, hoz, hb8⟩
  have OZ_8 := hide hoz
  clear hoz
  clear rX0 rX1 rX2 lX rG0 rG1 rG2 lG
  have B_8 := hide (B_7.out.trans (hb8.mono B_7.out.size))
  have O_8 := hide (O_7.out.below hb8)
  have L_8 := hide (L_7.out.below hb8)
  have G_8 := hide (G_7.out.below hb8)
  have OX_8 := hide (OX_7.out.below hb8)
  have X_8 := hide (X_7.out.below hb8)
  have OY_8 := hide (OY_7.out.below hb8)
  have Y_8 := hide (Y_7.out.below hb8)
  clear hb8 B_7 O_7 L_7 G_7 OX_7 X_7 OY_7 Y_7
  have rG0 := G_8.out.c0
  have rG1 := G_8.out.c1
  have rG2 := G_8.out.c2
  have lG := G_8.out.lt
  have hb10 : Below w8.heap.size w8 ((w8.alloc (.cells #[.int .i64 M, .slice Az nL cz, .int .i64 KL] 24)).alloc (.cells #[.int .i64 tw, .int .i64 tw, .int .i64 tw, .int .i64 0] 45)) := below_alloc0 (below_alloc0 (Below.refl _ _) _) _
  have Z_10 := hide ((LRow.made w8 (.int .i64 M) (.slice Az nL cz) (.int .i64 KL)).below (below_alloc0 (Below.refl _ _) (.cells #[.int .i64 tw, .int .i64 tw, .int .i64 tw, .int .i64 0] 45)))
  have C_10 : Hid (Row ((w8.alloc (.cells #[.int .i64 M, .slice Az nL cz, .int .i64 KL] 24)).alloc (.cells #[.int .i64 tw, .int .i64 tw, .int .i64 tw, .int .i64 0] 45)) (w8.heap.size + 1) 4 (rwl [.int .i64 tw, .int .i64 tw, .int .i64 tw, .int .i64 0])) := by
    have := Row.madeL (w8.alloc (.cells #[.int .i64 M, .slice Az nL cz, .int .i64 KL] 24)) 45 [.int .i64 tw, .int .i64 tw, .int .i64 tw, .int .i64 0]
    exact hide (by simpa using this)
  have B_10 := hide (B_8.out.trans (hb10.mono B_8.out.size))
  have O_10 := hide (O_8.out.below hb10)
  have L_10 := hide (L_8.out.below hb10)
  have G_10 := hide (G_8.out.below hb10)
  have OX_10 := hide (OX_8.out.below hb10)
  have X_10 := hide (X_8.out.below hb10)
  have OY_10 := hide (OY_8.out.below hb10)
  have Y_10 := hide (Y_8.out.below hb10)
  have OZ_10 := hide (OZ_8.out.below hb10)
  clear hb10 B_8 O_8 L_8 G_8 OX_8 X_8 OY_8 Y_8 OZ_8
  obtain ⟨N, hN⟩ : ∃ N, bits .and .i64 tr KL = N := ⟨_, rfl⟩
  have HN := hide hN
  have HVL := hide HG.out.2.1
  rw [← hLp] at HVL
  have HLR := hide (fun (u : Int) (h1 : 97 ≤ u ∧ u ≤ 98) (h2 : u ≠ tw) (h3 : tg = false) => (show lrF M L KL tw tw tw 0 u 0 = N from by
    have := set_rights (m := M) (k := KL) (u := u) (l := l) (t := ⟨tg, tw, tr⟩) HG.out.2.1 h3 h1 h2
    rw [← hLp] at this
    exact this.trans hN))
  clear hN hLp HG HA HIA HIM HSP HOK
  cases h98 : (tw == 98)
  case false =>
    have HLo := hide (HLR.out 98 (by omega) (by simp at h98; omega))
    clear HLR
    go_wp2_with fail
    clear h98 rG0 rG1 rG2 lG
    generalize (w8.alloc (.cells #[.int .i64 M, .slice Az nL cz, .int .i64 KL] 24)).alloc (.cells #[.int .i64 tw, .int .i64 tw, .int .i64 tw, .int .i64 0] 45) = W0 at *
    obtain ⟨zb, hzb⟩ : ∃ zb, zb = w8.heap.size := ⟨_, rfl⟩
    obtain ⟨cb, hcb⟩ : ∃ cb, cb = w8.heap.size + 1 := ⟨_, rfl⟩
    rw [← hcb] at C_10 ⊢
    rw [← hzb] at Z_10 ⊢
    clear hzb hcb
    have HLR := HLo
    have OX := OX_10
    have OZ := OZ_10
    have BB := B_10
    have rX0 := X_10.out.c0
    have rX1 := X_10.out.c1
    have rX2 := X_10.out.c2
    have lX := X_10.out.lt
    have rZ0 := Z_10.out.c0
    have rZ1 := Z_10.out.c1
    have rZ2 := Z_10.out.c2
    have lZ := Z_10.out.lt
    have rG0 := G_10.out.c0
    have rG1 := G_10.out.c1
    have rG2 := G_10.out.c2
    have lG := G_10.out.lt
    have rL0 := L_10.out.c0
    have rL1 := L_10.out.c1
    have rL2 := L_10.out.c2
    have lL := L_10.out.lt
    have rC0 := C_10.out.cell (j := 0) rfl
    have rC1 := C_10.out.cell (j := 1) rfl
    have rC2 := C_10.out.cell (j := 2) rfl
    have rC3 := C_10.out.cell (j := 3) rfl
    have lC := C_10.out.lt
    clear B_10 O_10 L_10 G_10 OX_10 X_10 OY_10 Y_10 OZ_10 Z_10 C_10
    refine wp_flowX (os := [_, _, _, _, _, _, _, _, _, _, _, _, _, _, _, _, _, _, _, _, _, _, _, _, _, _, _]) (fun cc W => Below W0.heap.size W0 W) (fun _ _ _ => True) (fun i v _ _ => v = fsV M KL Ax Az nL cx cz gb lb tw tr 98 N tg i) 27 rfl ?_ ?_ ?_ ?_ ?_ ?_ ?_
    · kernel_rfl
    · kernel_rfl
    · kernel_rfl
    · exact (fun i j v vs w1 w2 _ _ h _ => h)
    · exact (Below.refl _ _).drew
    ·
      refine FlowStepsX.stepY 98 27 1 rfl rfl (by kernel_rfl) (by kernel_rfl) (by kernel_rfl) rfl rfl ?_ ?_
      ·
        intro cc act vs W hcc ha hvs hS hd hi K hK
        clear ha
        have u5 : act.tmps[5]? = some (.pointer (some ⟨xb, 0, none⟩)) := (hi.out 5 (by kernel_rfl)).trans rfl
        clear hd hi hvs
        refine wanted_un rfl ?_
        have e0 := (hS.cell (p := ⟨xb, 0, none⟩) lX).trans rX0
        have e1 := (hS.cell (p := ⟨xb, 1, none⟩) lX).trans rX1
        have e2 := (hS.cell (p := ⟨xb, 2, none⟩) lX).trans rX2
        go_simp
        exact hK.out _ _ rfl hS trivial
      refine FlowStepsX.stepY 98 27 2 rfl rfl (by kernel_rfl) (by kernel_rfl) (by kernel_rfl) rfl rfl ?_ ?_
      ·
        intro cc act vs W hcc ha hvs hS hd hi K hK
        clear ha
        have u72 : act.tmps[72]? = some (.agg #[.int .i64 M, .slice Ax nL cx, .int .i64 KL]) := by obtain ⟨_, u, _, h⟩ := hd.out ⟨0, .data⟩ (some 72) (by simp) rfl rfl; exact u.trans (congrArg some h)
        clear hd hi hvs
        refine wanted_un rfl ?_
        go_wp2_with fail
        refine (lvImpl_c _ _ _ _ _ L (by omega) OX.out.cap.1 OX.out.cap.2 _ ((OX.out.below hS).ins HLN.out)).mono ?_
        rintro e6 w6 ⟨rfl, hb6⟩
        exact hK.out _ w6 (congrArg Value.bool HVL.out) (hS.trans (hb6.mono hS.size)) trivial
      refine FlowStepsX.stepY 98 27 3 rfl rfl (by kernel_rfl) (by kernel_rfl) (by kernel_rfl) rfl rfl ?_ ?_
      ·
        intro cc act vs W hcc ha hvs hS hd hi K hK
        clear ha
        have u73 : act.tmps[73]? = some (.bool true) := by obtain ⟨_, u, _, h⟩ := hd.out ⟨1, .data⟩ (some 73) (by simp) rfl rfl; exact u.trans (congrArg some h)
        clear hd hi hvs
        refine wanted_un rfl ?_
        go_simp
        exact hK.out _ _ rfl hS trivial
      refine FlowStepsX.stepY 98 27 4 rfl rfl (by kernel_rfl) (by kernel_rfl) (by kernel_rfl) rfl rfl ?_ ?_
      ·
        intro cc act vs W hcc ha hvs hS hd hi K hK
        clear ha
        have u74 : act.tmps[74]? = some (.bool true) := by obtain ⟨_, u, _, h⟩ := hd.out ⟨2, .guard⟩ (some 74) (by simp) rfl rfl; exact u.trans (congrArg some h)
        have u10 : act.tmps[10]? = some (.bool true) := (hi.out 10 (by kernel_rfl)).trans rfl
        clear hd hi hvs
        refine wanted_yes rfl rfl u74 ?_
        go_simp
        exact hK.out _ _ rfl hS trivial
      refine FlowStepsX.stepY 98 27 5 rfl rfl (by kernel_rfl) (by kernel_rfl) (by kernel_rfl) rfl rfl ?_ ?_
      ·
        intro cc act vs W hcc ha hvs hS hd hi K hK
        clear ha
        have u74 : act.tmps[74]? = some (.bool true) := by obtain ⟨_, u, _, h⟩ := hd.out ⟨2, .data⟩ (some 74) (by simp) rfl rfl; exact u.trans (congrArg some h)
        have u75 : act.tmps[75]? = some (.bool true) := by obtain ⟨_, u, _, h⟩ := hd.out ⟨3, .data⟩ (some 75) (by simp) rfl rfl; exact u.trans (congrArg some h)
        clear hd hi hvs
        refine wanted_un rfl ?_
        go_simp
        exact hK.out _ _ rfl hS trivial
      refine FlowStepsX.stepY 98 27 6 rfl rfl (by kernel_rfl) (by kernel_rfl) (by kernel_rfl) rfl rfl ?_ ?_
      ·
        intro cc act vs W hcc ha hvs hS hd hi K hK
        clear ha
        have u76 : act.tmps[76]? = some (.bool true) := by obtain ⟨_, u, _, h⟩ := hd.out ⟨4, .data⟩ (some 76) (by simp) rfl rfl; exact u.trans (congrArg some h)
        clear hd hi hvs
        refine wanted_un rfl ?_
        go_simp
        exact hK.out _ _ rfl hS trivial
      refine FlowStepsX.stepY 98 27 7 rfl rfl (by kernel_rfl) (by kernel_rfl) (by kernel_rfl) rfl rfl ?_ ?_
      ·
        intro cc act vs W hcc ha hvs hS hd hi K hK
        clear ha
        have u77 : act.tmps[77]? = some (.bool true) := by obtain ⟨_, u, _, h⟩ := hd.out ⟨5, .guard⟩ (some 77) (by simp) rfl rfl; exact u.trans (congrArg some h)
        have u9 : act.tmps[9]? = some (.pointer (some ⟨zb, 0, none⟩)) := (hi.out 9 (by kernel_rfl)).trans rfl
        clear hd hi hvs
        refine wanted_yes rfl rfl u77 ?_
        have e0 := (hS.cell (p := ⟨zb, 0, none⟩) lZ).trans rZ0
        have e1 := (hS.cell (p := ⟨zb, 1, none⟩) lZ).trans rZ1
        have e2 := (hS.cell (p := ⟨zb, 2, none⟩) lZ).trans rZ2
        go_simp
        exact hK.out _ _ rfl hS trivial
      refine FlowStepsX.stepY 98 27 8 rfl rfl (by kernel_rfl) (by kernel_rfl) (by kernel_rfl) rfl rfl ?_ ?_
      ·
        intro cc act vs W hcc ha hvs hS hd hi K hK
        clear ha
        have u77 : act.tmps[77]? = some (.bool true) := by obtain ⟨_, u, _, h⟩ := hd.out ⟨5, .guard⟩ (some 77) (by simp) rfl rfl; exact u.trans (congrArg some h)
        have u5 : act.tmps[5]? = some (.pointer (some ⟨xb, 0, none⟩)) := (hi.out 5 (by kernel_rfl)).trans rfl
        clear hd hi hvs
        refine wanted_yes rfl rfl u77 ?_
        have e0 := (hS.cell (p := ⟨xb, 0, none⟩) lX).trans rX0
        have e1 := (hS.cell (p := ⟨xb, 1, none⟩) lX).trans rX1
        have e2 := (hS.cell (p := ⟨xb, 2, none⟩) lX).trans rX2
        go_simp
        exact hK.out _ _ rfl hS trivial
      refine FlowStepsX.stepY 98 27 9 rfl rfl (by kernel_rfl) (by kernel_rfl) (by kernel_rfl) rfl rfl ?_ ?_
      ·
        intro cc act vs W hcc ha hvs hS hd hi K hK
        clear ha
        have u78 : act.tmps[78]? = some (.agg #[.int .i64 M, .slice Az nL cz, .int .i64 KL]) := by obtain ⟨_, u, _, h⟩ := hd.out ⟨6, .data⟩ (some 78) (by simp) rfl rfl; exact u.trans (congrArg some h)
        have u79 : act.tmps[79]? = some (.agg #[.int .i64 M, .slice Ax nL cx, .int .i64 KL]) := by obtain ⟨_, u, _, h⟩ := hd.out ⟨7, .data⟩ (some 79) (by simp) rfl rfl; exact u.trans (congrArg some h)
        have u77 : act.tmps[77]? = some (.bool true) := by obtain ⟨_, u, _, h⟩ := hd.out ⟨5, .guard⟩ (some 77) (by simp) rfl rfl; exact u.trans (congrArg some h)
        clear hd hi hvs
        refine wanted_yes rfl rfl u77 ?_
        go_wp2_with fail
        refine (sameList_c _ _ _ _ _ _ _ _ _ _ L L (by omega) (by omega) _ ((OZ.out.below hS).ins HLN.out) ((OX.out.below hS).ins HLN.out)).mono ?_
        rintro e6 w6 ⟨rfl, hb6⟩
        exact hK.out _ w6 (congrArg Value.bool (samL_refl _ _ _)) (hS.trans (hb6.mono hS.size)) trivial
      refine FlowStepsX.stepY 98 27 10 rfl rfl (by kernel_rfl) (by kernel_rfl) (by kernel_rfl) rfl rfl ?_ ?_
      ·
        intro cc act vs W hcc ha hvs hS hd hi K hK
        clear ha
        have u77 : act.tmps[77]? = some (.bool true) := by obtain ⟨_, u, _, h⟩ := hd.out ⟨5, .data⟩ (some 77) (by simp) rfl rfl; exact u.trans (congrArg some h)
        have u80 : act.tmps[80]? = some (.bool true) := by obtain ⟨_, u, _, h⟩ := hd.out ⟨8, .data⟩ (some 80) (by simp) rfl rfl; exact u.trans (congrArg some h)
        clear hd hi hvs
        refine wanted_un rfl ?_
        go_simp
        exact hK.out _ _ rfl hS trivial
      refine FlowStepsX.stepY 98 27 11 rfl rfl (by kernel_rfl) (by kernel_rfl) (by kernel_rfl) rfl rfl ?_ ?_
      ·
        intro cc act vs W hcc ha hvs hS hd hi K hK
        clear ha
        have u81 : act.tmps[81]? = some (.bool true) := by obtain ⟨_, u, _, h⟩ := hd.out ⟨9, .data⟩ (some 81) (by simp) rfl rfl; exact u.trans (congrArg some h)
        clear hd hi hvs
        refine wanted_un rfl ?_
        go_simp
        exact hK.out _ _ rfl hS trivial
      refine FlowStepsX.stepY 98 27 12 rfl rfl (by kernel_rfl) (by kernel_rfl) (by kernel_rfl) rfl rfl ?_ ?_
      ·
        intro cc act vs W hcc ha hvs hS hd hi K hK
        clear ha
        have u82 : act.tmps[82]? = some (.bool true) := by obtain ⟨_, u, _, h⟩ := hd.out ⟨10, .guard⟩ (some 82) (by simp) rfl rfl; exact u.trans (congrArg some h)
        have u4 : act.tmps[4]? = some (.pointer (some ⟨gb, 0, none⟩)) := (hi.out 4 (by kernel_rfl)).trans rfl
        clear hd hi hvs
        refine wanted_yes rfl rfl u82 ?_
        go_simp
        exact hK.out _ _ rfl hS trivial
      refine FlowStepsX.stepY 98 27 13 rfl rfl (by kernel_rfl) (by kernel_rfl) (by kernel_rfl) rfl rfl ?_ ?_
      ·
        intro cc act vs W hcc ha hvs hS hd hi K hK
        clear ha
        have u83 : act.tmps[83]? = some (.pointer (some ⟨gb, 0, none⟩)) := by obtain ⟨_, u, _, h⟩ := hd.out ⟨11, .data⟩ (some 83) (by simp) rfl rfl; exact u.trans (congrArg some h)
        have u82 : act.tmps[82]? = some (.bool true) := by obtain ⟨_, u, _, h⟩ := hd.out ⟨10, .guard⟩ (some 82) (by simp) rfl rfl; exact u.trans (congrArg some h)
        clear hd hi hvs
        refine wanted_yes rfl rfl u82 ?_
        have e0 := (hS.cell (p := ⟨gb, 0, none⟩) lG).trans rG0
        go_simp
        exact hK.out _ _ rfl hS trivial
      refine FlowStepsX.stepY 98 27 14 rfl rfl (by kernel_rfl) (by kernel_rfl) (by kernel_rfl) rfl rfl ?_ ?_
      ·
        intro cc act vs W hcc ha hvs hS hd hi K hK
        clear ha
        have u84 : act.tmps[84]? = some (.bool tg) := by obtain ⟨_, u, _, h⟩ := hd.out ⟨12, .data⟩ (some 84) (by simp) rfl rfl; exact u.trans (congrArg some h)
        have u82 : act.tmps[82]? = some (.bool true) := by obtain ⟨_, u, _, h⟩ := hd.out ⟨10, .guard⟩ (some 82) (by simp) rfl rfl; exact u.trans (congrArg some h)
        clear hd hi hvs
        refine wanted_yes rfl rfl u82 ?_
        go_simp
        exact hK.out _ _ rfl hS trivial
      refine FlowStepsX.stepY 98 27 15 rfl rfl (by kernel_rfl) (by kernel_rfl) (by kernel_rfl) rfl rfl ?_ ?_
      ·
        intro cc act vs W hcc ha hvs hS hd hi K hK
        clear ha
        have u85 : act.tmps[85]? = some (.bool tg) := by obtain ⟨_, u, _, h⟩ := hd.out ⟨13, .guard⟩ (some 85) (by simp) rfl rfl; exact u.trans (congrArg some h)
        have u5 : act.tmps[5]? = some (.pointer (some ⟨xb, 0, none⟩)) := (hi.out 5 (by kernel_rfl)).trans rfl
        clear hd hi hvs
        cases tg
        ·
          refine wanted_yes rfl rfl u85 ?_
          have e0 := (hS.cell (p := ⟨xb, 0, none⟩) lX).trans rX0
          have e1 := (hS.cell (p := ⟨xb, 1, none⟩) lX).trans rX1
          have e2 := (hS.cell (p := ⟨xb, 2, none⟩) lX).trans rX2
          go_simp
          exact hK.out _ _ rfl hS trivial
        ·
          refine wanted_no rfl rfl u85 ?_
          exact hK.out undef W rfl hS trivial
      refine FlowStepsX.stepY 98 27 16 rfl rfl (by kernel_rfl) (by kernel_rfl) (by kernel_rfl) rfl rfl ?_ ?_
      ·
        intro cc act vs W hcc ha hvs hS hd hi K hK
        clear ha
        have u85 : act.tmps[85]? = some (.bool tg) := by obtain ⟨_, u, _, h⟩ := hd.out ⟨13, .guard⟩ (some 85) (by simp) rfl rfl; exact u.trans (congrArg some h)
        have u11 : act.tmps[11]? = some (.pointer (some ⟨cb, 0, none⟩)) := (hi.out 11 (by kernel_rfl)).trans rfl
        clear hd hi hvs
        cases tg
        ·
          refine wanted_yes rfl rfl u85 ?_
          have e0 := (hS.cell (p := ⟨cb, 0, none⟩) lC).trans rC0
          have e1 := (hS.cell (p := ⟨cb, 1, none⟩) lC).trans rC1
          have e2 := (hS.cell (p := ⟨cb, 2, none⟩) lC).trans rC2
          have e3 := (hS.cell (p := ⟨cb, 3, none⟩) lC).trans rC3
          go_simp
          exact hK.out _ _ rfl hS trivial
        ·
          refine wanted_no rfl rfl u85 ?_
          exact hK.out undef W rfl hS trivial
      refine FlowStepsX.stepY 98 27 17 rfl rfl (by kernel_rfl) (by kernel_rfl) (by kernel_rfl) rfl rfl ?_ ?_
      ·
        intro cc act vs W hcc ha hvs hS hd hi K hK
        clear ha
        have u85 : act.tmps[85]? = some (.bool tg) := by obtain ⟨_, u, _, h⟩ := hd.out ⟨13, .guard⟩ (some 85) (by simp) rfl rfl; exact u.trans (congrArg some h)
        have u12 : act.tmps[12]? = some (.int .i64 98) := (hi.out 12 (by kernel_rfl)).trans rfl
        clear hd hi hvs
        cases tg
        ·
          refine wanted_yes rfl rfl u85 ?_
          go_simp
          exact hK.out _ _ rfl hS trivial
        ·
          refine wanted_no rfl rfl u85 ?_
          exact hK.out undef W rfl hS trivial
      refine FlowStepsX.stepY 98 27 18 rfl rfl (by kernel_rfl) (by kernel_rfl) (by kernel_rfl) rfl rfl ?_ ?_
      ·
        intro cc act vs W hcc ha hvs hS hd hi K hK
        clear ha
        have u86 : act.tmps[86]? = some ((bif tg then undef else .agg #[.int .i64 M, .slice Ax nL cx, .int .i64 KL])) := by obtain ⟨_, u, _, h⟩ := hd.out ⟨14, .data⟩ (some 86) (by simp) rfl rfl; exact u.trans (congrArg some h)
        have u87 : act.tmps[87]? = some ((bif tg then undef else .agg #[.int .i64 tw, .int .i64 tw, .int .i64 tw, .int .i64 0])) := by obtain ⟨_, u, _, h⟩ := hd.out ⟨15, .data⟩ (some 87) (by simp) rfl rfl; exact u.trans (congrArg some h)
        have u88 : act.tmps[88]? = some ((bif tg then undef else .int .i64 98)) := by obtain ⟨_, u, _, h⟩ := hd.out ⟨16, .data⟩ (some 88) (by simp) rfl rfl; exact u.trans (congrArg some h)
        have u85 : act.tmps[85]? = some (.bool tg) := by obtain ⟨_, u, _, h⟩ := hd.out ⟨13, .guard⟩ (some 85) (by simp) rfl rfl; exact u.trans (congrArg some h)
        clear hd hi hvs
        cases tg
        ·
          refine wanted_yes rfl rfl u85 ?_
          try simp only [cond_true, cond_false] at u86 u87 u88
          go_wp2_with fail
          refine (lrImpl_c _ _ _ _ _ L _ _ _ _ _ _ (by omega) OX.out.cap.1 OX.out.cap.2 _ ((OX.out.below hS).ins HLN.out)).mono ?_
          rintro e6 w6 ⟨rfl, hb6⟩
          exact hK.out _ w6 (congrArg (Value.int .i64) (HLR.out (by first | rfl | trivial))) (hS.trans (hb6.mono hS.size)) trivial
        ·
          refine wanted_no rfl rfl u85 ?_
          exact hK.out undef W rfl hS trivial
      refine FlowStepsX.stepY 98 27 19 rfl rfl (by kernel_rfl) (by kernel_rfl) (by kernel_rfl) rfl rfl ?_ ?_
      ·
        intro cc act vs W hcc ha hvs hS hd hi K hK
        clear ha
        have u85 : act.tmps[85]? = some (.bool tg) := by obtain ⟨_, u, _, h⟩ := hd.out ⟨13, .guard⟩ (some 85) (by simp) rfl rfl; exact u.trans (congrArg some h)
        have u4 : act.tmps[4]? = some (.pointer (some ⟨gb, 0, none⟩)) := (hi.out 4 (by kernel_rfl)).trans rfl
        clear hd hi hvs
        cases tg
        ·
          refine wanted_yes rfl rfl u85 ?_
          go_simp
          exact hK.out _ _ rfl hS trivial
        ·
          refine wanted_no rfl rfl u85 ?_
          exact hK.out undef W rfl hS trivial
      refine FlowStepsX.stepY 98 27 20 rfl rfl (by kernel_rfl) (by kernel_rfl) (by kernel_rfl) rfl rfl ?_ ?_
      ·
        intro cc act vs W hcc ha hvs hS hd hi K hK
        clear ha
        have u90 : act.tmps[90]? = some ((bif tg then undef else .pointer (some ⟨gb, 2, none⟩))) := by obtain ⟨_, u, _, h⟩ := hd.out ⟨18, .data⟩ (some 90) (by simp) rfl rfl; exact u.trans (congrArg some h)
        have u85 : act.tmps[85]? = some (.bool tg) := by obtain ⟨_, u, _, h⟩ := hd.out ⟨13, .guard⟩ (some 85) (by simp) rfl rfl; exact u.trans (congrArg some h)
        clear hd hi hvs
        cases tg
        ·
          refine wanted_yes rfl rfl u85 ?_
          try simp only [cond_true, cond_false] at u90
          have e2 := (hS.cell (p := ⟨gb, 2, none⟩) lG).trans rG2
          go_simp
          exact hK.out _ _ rfl hS trivial
        ·
          refine wanted_no rfl rfl u85 ?_
          exact hK.out undef W rfl hS trivial
      refine FlowStepsX.stepY 98 27 21 rfl rfl (by kernel_rfl) (by kernel_rfl) (by kernel_rfl) rfl rfl ?_ ?_
      ·
        intro cc act vs W hcc ha hvs hS hd hi K hK
        clear ha
        have u85 : act.tmps[85]? = some (.bool tg) := by obtain ⟨_, u, _, h⟩ := hd.out ⟨13, .guard⟩ (some 85) (by simp) rfl rfl; exact u.trans (congrArg some h)
        have u3 : act.tmps[3]? = some (.pointer (some ⟨lb, 0, none⟩)) := (hi.out 3 (by kernel_rfl)).trans rfl
        clear hd hi hvs
        cases tg
        ·
          refine wanted_yes rfl rfl u85 ?_
          go_simp
          exact hK.out _ _ rfl hS trivial
        ·
          refine wanted_no rfl rfl u85 ?_
          exact hK.out undef W rfl hS trivial
      refine FlowStepsX.stepY 98 27 22 rfl rfl (by kernel_rfl) (by kernel_rfl) (by kernel_rfl) rfl rfl ?_ ?_
      ·
        intro cc act vs W hcc ha hvs hS hd hi K hK
        clear ha
        have u92 : act.tmps[92]? = some ((bif tg then undef else .pointer (some ⟨lb, 2, none⟩))) := by obtain ⟨_, u, _, h⟩ := hd.out ⟨20, .data⟩ (some 92) (by simp) rfl rfl; exact u.trans (congrArg some h)
        have u85 : act.tmps[85]? = some (.bool tg) := by obtain ⟨_, u, _, h⟩ := hd.out ⟨13, .guard⟩ (some 85) (by simp) rfl rfl; exact u.trans (congrArg some h)
        clear hd hi hvs
        cases tg
        ·
          refine wanted_yes rfl rfl u85 ?_
          try simp only [cond_true, cond_false] at u92
          have e2 := (hS.cell (p := ⟨lb, 2, none⟩) lL).trans rL2
          go_simp
          exact hK.out _ _ rfl hS trivial
        ·
          refine wanted_no rfl rfl u85 ?_
          exact hK.out undef W rfl hS trivial
      refine FlowStepsX.stepY 98 27 23 rfl rfl (by kernel_rfl) (by kernel_rfl) (by kernel_rfl) rfl rfl ?_ ?_
      ·
        intro cc act vs W hcc ha hvs hS hd hi K hK
        clear ha
        have u91 : act.tmps[91]? = some ((bif tg then undef else .int .i64 tr)) := by obtain ⟨_, u, _, h⟩ := hd.out ⟨19, .data⟩ (some 91) (by simp) rfl rfl; exact u.trans (congrArg some h)
        have u93 : act.tmps[93]? = some ((bif tg then undef else .int .i64 KL)) := by obtain ⟨_, u, _, h⟩ := hd.out ⟨21, .data⟩ (some 93) (by simp) rfl rfl; exact u.trans (congrArg some h)
        have u85 : act.tmps[85]? = some (.bool tg) := by obtain ⟨_, u, _, h⟩ := hd.out ⟨13, .guard⟩ (some 85) (by simp) rfl rfl; exact u.trans (congrArg some h)
        clear hd hi hvs
        cases tg
        ·
          refine wanted_yes rfl rfl u85 ?_
          try simp only [cond_true, cond_false] at u91 u93
          go_simp
          exact hK.out _ _ (congrArg (Value.int .i64) HN.out) hS trivial
        ·
          refine wanted_no rfl rfl u85 ?_
          exact hK.out undef W rfl hS trivial
      refine FlowStepsX.stepY 98 27 24 rfl rfl (by kernel_rfl) (by kernel_rfl) (by kernel_rfl) rfl rfl ?_ ?_
      ·
        intro cc act vs W hcc ha hvs hS hd hi K hK
        clear ha
        have u89 : act.tmps[89]? = some ((bif tg then undef else .int .i64 N)) := by obtain ⟨_, u, _, h⟩ := hd.out ⟨17, .data⟩ (some 89) (by simp) rfl rfl; exact u.trans (congrArg some h)
        have u94 : act.tmps[94]? = some ((bif tg then undef else .int .i64 N)) := by obtain ⟨_, u, _, h⟩ := hd.out ⟨22, .data⟩ (some 94) (by simp) rfl rfl; exact u.trans (congrArg some h)
        have u85 : act.tmps[85]? = some (.bool tg) := by obtain ⟨_, u, _, h⟩ := hd.out ⟨13, .guard⟩ (some 85) (by simp) rfl rfl; exact u.trans (congrArg some h)
        clear hd hi hvs
        cases tg
        ·
          refine wanted_yes rfl rfl u85 ?_
          try simp only [cond_true, cond_false] at u89 u94
          go_simp
          exact hK.out _ _ rfl hS trivial
        ·
          refine wanted_no rfl rfl u85 ?_
          exact hK.out undef W rfl hS trivial
      refine FlowStepsX.stepY 98 27 25 rfl rfl (by kernel_rfl) (by kernel_rfl) (by kernel_rfl) rfl rfl ?_ ?_
      ·
        intro cc act vs W hcc ha hvs hS hd hi K hK
        clear ha
        have u85 : act.tmps[85]? = some (.bool tg) := by obtain ⟨_, u, _, h⟩ := hd.out ⟨13, .data⟩ (some 85) (by simp) rfl rfl; exact u.trans (congrArg some h)
        have u95 : act.tmps[95]? = some ((bif tg then undef else .bool true)) := by obtain ⟨_, u, _, h⟩ := hd.out ⟨23, .data⟩ (some 95) (by simp) rfl rfl; exact u.trans (congrArg some h)
        have u82 : act.tmps[82]? = some (.bool true) := by obtain ⟨_, u, _, h⟩ := hd.out ⟨10, .guard⟩ (some 82) (by simp) rfl rfl; exact u.trans (congrArg some h)
        clear hd hi hvs
        refine wanted_yes rfl rfl u82 ?_
        try simp only [cond_true, cond_false] at u95
        cases tg
        ·
          go_simp
          exact hK.out _ _ rfl hS trivial
        ·
          go_simp
          exact hK.out _ _ rfl hS trivial
      refine FlowStepsX.stepY 98 27 26 rfl rfl (by kernel_rfl) (by kernel_rfl) (by kernel_rfl) rfl rfl ?_ ?_
      ·
        intro cc act vs W hcc ha hvs hS hd hi K hK
        clear ha
        have u82 : act.tmps[82]? = some (.bool true) := by obtain ⟨_, u, _, h⟩ := hd.out ⟨10, .data⟩ (some 82) (by simp) rfl rfl; exact u.trans (congrArg some h)
        have u96 : act.tmps[96]? = some (.bool true) := by obtain ⟨_, u, _, h⟩ := hd.out ⟨24, .data⟩ (some 96) (by simp) rfl rfl; exact u.trans (congrArg some h)
        clear hd hi hvs
        refine wanted_un rfl ?_
        go_simp
        exact hK.out _ _ rfl hS trivial
      refine FlowStepsX.stepY 98 27 27 rfl rfl (by kernel_rfl) (by kernel_rfl) (by kernel_rfl) rfl rfl ?_ ?_
      ·
        intro cc act vs W hcc ha hvs hS hd hi K hK
        clear ha
        have u97 : act.tmps[97]? = some (.bool true) := by obtain ⟨_, u, _, h⟩ := hd.out ⟨25, .data⟩ (some 97) (by simp) rfl rfl; exact u.trans (congrArg some h)
        clear hd hi hvs
        refine wanted_un rfl ?_
        go_simp
        exact hK.out _ _ rfl hS trivial
      exact FlowStepsX.nil
    · intro c' ρ W hc' hS hd
      simp only [putFrom, Act.put, List.setIfInBounds_toArray, List.set_cons_zero, List.set_cons_succ, Nat.reduceAdd]
      have e26 : ρ 26 = .bool true := hd.out 26 (by decide) (by kernel_rfl)
      clear hd
      generalize ρ 26 = z26 at e26 ⊢
      subst e26
      have BW := hide (BB.out.trans (hS.mono BB.out.size))
      clear hS
      go_wp2_with fail
      go_ret
      exact ⟨rfl, BW.out⟩
  case true =>
    have HLo := hide (HLR.out 97 (by omega) (by simp at h98; omega))
    clear HLR
    go_wp2_with fail
    clear h98 rG0 rG1 rG2 lG
    generalize (w8.alloc (.cells #[.int .i64 M, .slice Az nL cz, .int .i64 KL] 24)).alloc (.cells #[.int .i64 tw, .int .i64 tw, .int .i64 tw, .int .i64 0] 45) = W0 at *
    obtain ⟨zb, hzb⟩ : ∃ zb, zb = w8.heap.size := ⟨_, rfl⟩
    obtain ⟨cb, hcb⟩ : ∃ cb, cb = w8.heap.size + 1 := ⟨_, rfl⟩
    rw [← hcb] at C_10 ⊢
    rw [← hzb] at Z_10 ⊢
    clear hzb hcb
    have HLR := HLo
    have OX := OX_10
    have OZ := OZ_10
    have BB := B_10
    have rX0 := X_10.out.c0
    have rX1 := X_10.out.c1
    have rX2 := X_10.out.c2
    have lX := X_10.out.lt
    have rZ0 := Z_10.out.c0
    have rZ1 := Z_10.out.c1
    have rZ2 := Z_10.out.c2
    have lZ := Z_10.out.lt
    have rG0 := G_10.out.c0
    have rG1 := G_10.out.c1
    have rG2 := G_10.out.c2
    have lG := G_10.out.lt
    have rL0 := L_10.out.c0
    have rL1 := L_10.out.c1
    have rL2 := L_10.out.c2
    have lL := L_10.out.lt
    have rC0 := C_10.out.cell (j := 0) rfl
    have rC1 := C_10.out.cell (j := 1) rfl
    have rC2 := C_10.out.cell (j := 2) rfl
    have rC3 := C_10.out.cell (j := 3) rfl
    have lC := C_10.out.lt
    clear B_10 O_10 L_10 G_10 OX_10 X_10 OY_10 Y_10 OZ_10 Z_10 C_10
    refine wp_flowX (os := [_, _, _, _, _, _, _, _, _, _, _, _, _, _, _, _, _, _, _, _, _, _, _, _, _, _, _]) (fun cc W => Below W0.heap.size W0 W) (fun _ _ _ => True) (fun i v _ _ => v = fsV M KL Ax Az nL cx cz gb lb tw tr 97 N tg i) 27 rfl ?_ ?_ ?_ ?_ ?_ ?_ ?_
    · kernel_rfl
    · kernel_rfl
    · kernel_rfl
    · exact (fun i j v vs w1 w2 _ _ h _ => h)
    · exact (Below.refl _ _).drew
    ·
      refine FlowStepsX.stepY 98 27 1 rfl rfl (by kernel_rfl) (by kernel_rfl) (by kernel_rfl) rfl rfl ?_ ?_
      ·
        intro cc act vs W hcc ha hvs hS hd hi K hK
        clear ha
        have u5 : act.tmps[5]? = some (.pointer (some ⟨xb, 0, none⟩)) := (hi.out 5 (by kernel_rfl)).trans rfl
        clear hd hi hvs
        refine wanted_un rfl ?_
        have e0 := (hS.cell (p := ⟨xb, 0, none⟩) lX).trans rX0
        have e1 := (hS.cell (p := ⟨xb, 1, none⟩) lX).trans rX1
        have e2 := (hS.cell (p := ⟨xb, 2, none⟩) lX).trans rX2
        go_simp
        exact hK.out _ _ rfl hS trivial
      refine FlowStepsX.stepY 98 27 2 rfl rfl (by kernel_rfl) (by kernel_rfl) (by kernel_rfl) rfl rfl ?_ ?_
      ·
        intro cc act vs W hcc ha hvs hS hd hi K hK
        clear ha
        have u72 : act.tmps[72]? = some (.agg #[.int .i64 M, .slice Ax nL cx, .int .i64 KL]) := by obtain ⟨_, u, _, h⟩ := hd.out ⟨0, .data⟩ (some 72) (by simp) rfl rfl; exact u.trans (congrArg some h)
        clear hd hi hvs
        refine wanted_un rfl ?_
        go_wp2_with fail
        refine (lvImpl_c _ _ _ _ _ L (by omega) OX.out.cap.1 OX.out.cap.2 _ ((OX.out.below hS).ins HLN.out)).mono ?_
        rintro e6 w6 ⟨rfl, hb6⟩
        exact hK.out _ w6 (congrArg Value.bool HVL.out) (hS.trans (hb6.mono hS.size)) trivial
      refine FlowStepsX.stepY 98 27 3 rfl rfl (by kernel_rfl) (by kernel_rfl) (by kernel_rfl) rfl rfl ?_ ?_
      ·
        intro cc act vs W hcc ha hvs hS hd hi K hK
        clear ha
        have u73 : act.tmps[73]? = some (.bool true) := by obtain ⟨_, u, _, h⟩ := hd.out ⟨1, .data⟩ (some 73) (by simp) rfl rfl; exact u.trans (congrArg some h)
        clear hd hi hvs
        refine wanted_un rfl ?_
        go_simp
        exact hK.out _ _ rfl hS trivial
      refine FlowStepsX.stepY 98 27 4 rfl rfl (by kernel_rfl) (by kernel_rfl) (by kernel_rfl) rfl rfl ?_ ?_
      ·
        intro cc act vs W hcc ha hvs hS hd hi K hK
        clear ha
        have u74 : act.tmps[74]? = some (.bool true) := by obtain ⟨_, u, _, h⟩ := hd.out ⟨2, .guard⟩ (some 74) (by simp) rfl rfl; exact u.trans (congrArg some h)
        have u10 : act.tmps[10]? = some (.bool true) := (hi.out 10 (by kernel_rfl)).trans rfl
        clear hd hi hvs
        refine wanted_yes rfl rfl u74 ?_
        go_simp
        exact hK.out _ _ rfl hS trivial
      refine FlowStepsX.stepY 98 27 5 rfl rfl (by kernel_rfl) (by kernel_rfl) (by kernel_rfl) rfl rfl ?_ ?_
      ·
        intro cc act vs W hcc ha hvs hS hd hi K hK
        clear ha
        have u74 : act.tmps[74]? = some (.bool true) := by obtain ⟨_, u, _, h⟩ := hd.out ⟨2, .data⟩ (some 74) (by simp) rfl rfl; exact u.trans (congrArg some h)
        have u75 : act.tmps[75]? = some (.bool true) := by obtain ⟨_, u, _, h⟩ := hd.out ⟨3, .data⟩ (some 75) (by simp) rfl rfl; exact u.trans (congrArg some h)
        clear hd hi hvs
        refine wanted_un rfl ?_
        go_simp
        exact hK.out _ _ rfl hS trivial
      refine FlowStepsX.stepY 98 27 6 rfl rfl (by kernel_rfl) (by kernel_rfl) (by kernel_rfl) rfl rfl ?_ ?_
      ·
        intro cc act vs W hcc ha hvs hS hd hi K hK
        clear ha
        have u76 : act.tmps[76]? = some (.bool true) := by obtain ⟨_, u, _, h⟩ := hd.out ⟨4, .data⟩ (some 76) (by simp) rfl rfl; exact u.trans (congrArg some h)
        clear hd hi hvs
        refine wanted_un rfl ?_
        go_simp
        exact hK.out _ _ rfl hS trivial
      refine FlowStepsX.stepY 98 27 7 rfl rfl (by kernel_rfl) (by kernel_rfl) (by kernel_rfl) rfl rfl ?_ ?_
      ·
        intro cc act vs W hcc ha hvs hS hd hi K hK
        clear ha
        have u77 : act.tmps[77]? = some (.bool true) := by obtain ⟨_, u, _, h⟩ := hd.out ⟨5, .guard⟩ (some 77) (by simp) rfl rfl; exact u.trans (congrArg some h)
        have u9 : act.tmps[9]? = some (.pointer (some ⟨zb, 0, none⟩)) := (hi.out 9 (by kernel_rfl)).trans rfl
        clear hd hi hvs
        refine wanted_yes rfl rfl u77 ?_
        have e0 := (hS.cell (p := ⟨zb, 0, none⟩) lZ).trans rZ0
        have e1 := (hS.cell (p := ⟨zb, 1, none⟩) lZ).trans rZ1
        have e2 := (hS.cell (p := ⟨zb, 2, none⟩) lZ).trans rZ2
        go_simp
        exact hK.out _ _ rfl hS trivial
      refine FlowStepsX.stepY 98 27 8 rfl rfl (by kernel_rfl) (by kernel_rfl) (by kernel_rfl) rfl rfl ?_ ?_
      ·
        intro cc act vs W hcc ha hvs hS hd hi K hK
        clear ha
        have u77 : act.tmps[77]? = some (.bool true) := by obtain ⟨_, u, _, h⟩ := hd.out ⟨5, .guard⟩ (some 77) (by simp) rfl rfl; exact u.trans (congrArg some h)
        have u5 : act.tmps[5]? = some (.pointer (some ⟨xb, 0, none⟩)) := (hi.out 5 (by kernel_rfl)).trans rfl
        clear hd hi hvs
        refine wanted_yes rfl rfl u77 ?_
        have e0 := (hS.cell (p := ⟨xb, 0, none⟩) lX).trans rX0
        have e1 := (hS.cell (p := ⟨xb, 1, none⟩) lX).trans rX1
        have e2 := (hS.cell (p := ⟨xb, 2, none⟩) lX).trans rX2
        go_simp
        exact hK.out _ _ rfl hS trivial
      refine FlowStepsX.stepY 98 27 9 rfl rfl (by kernel_rfl) (by kernel_rfl) (by kernel_rfl) rfl rfl ?_ ?_
      ·
        intro cc act vs W hcc ha hvs hS hd hi K hK
        clear ha
        have u78 : act.tmps[78]? = some (.agg #[.int .i64 M, .slice Az nL cz, .int .i64 KL]) := by obtain ⟨_, u, _, h⟩ := hd.out ⟨6, .data⟩ (some 78) (by simp) rfl rfl; exact u.trans (congrArg some h)
        have u79 : act.tmps[79]? = some (.agg #[.int .i64 M, .slice Ax nL cx, .int .i64 KL]) := by obtain ⟨_, u, _, h⟩ := hd.out ⟨7, .data⟩ (some 79) (by simp) rfl rfl; exact u.trans (congrArg some h)
        have u77 : act.tmps[77]? = some (.bool true) := by obtain ⟨_, u, _, h⟩ := hd.out ⟨5, .guard⟩ (some 77) (by simp) rfl rfl; exact u.trans (congrArg some h)
        clear hd hi hvs
        refine wanted_yes rfl rfl u77 ?_
        go_wp2_with fail
        refine (sameList_c _ _ _ _ _ _ _ _ _ _ L L (by omega) (by omega) _ ((OZ.out.below hS).ins HLN.out) ((OX.out.below hS).ins HLN.out)).mono ?_
        rintro e6 w6 ⟨rfl, hb6⟩
        exact hK.out _ w6 (congrArg Value.bool (samL_refl _ _ _)) (hS.trans (hb6.mono hS.size)) trivial
      refine FlowStepsX.stepY 98 27 10 rfl rfl (by kernel_rfl) (by kernel_rfl) (by kernel_rfl) rfl rfl ?_ ?_
      ·
        intro cc act vs W hcc ha hvs hS hd hi K hK
        clear ha
        have u77 : act.tmps[77]? = some (.bool true) := by obtain ⟨_, u, _, h⟩ := hd.out ⟨5, .data⟩ (some 77) (by simp) rfl rfl; exact u.trans (congrArg some h)
        have u80 : act.tmps[80]? = some (.bool true) := by obtain ⟨_, u, _, h⟩ := hd.out ⟨8, .data⟩ (some 80) (by simp) rfl rfl; exact u.trans (congrArg some h)
        clear hd hi hvs
        refine wanted_un rfl ?_
        go_simp
        exact hK.out _ _ rfl hS trivial
      refine FlowStepsX.stepY 98 27 11 rfl rfl (by kernel_rfl) (by kernel_rfl) (by kernel_rfl) rfl rfl ?_ ?_
      ·
        intro cc act vs W hcc ha hvs hS hd hi K hK
        clear ha
        have u81 : act.tmps[81]? = some (.bool true) := by obtain ⟨_, u, _, h⟩ := hd.out ⟨9, .data⟩ (some 81) (by simp) rfl rfl; exact u.trans (congrArg some h)
        clear hd hi hvs
        refine wanted_un rfl ?_
        go_simp
        exact hK.out _ _ rfl hS trivial
      refine FlowStepsX.stepY 98 27 12 rfl rfl (by kernel_rfl) (by kernel_rfl) (by kernel_rfl) rfl rfl ?_ ?_
      ·
        intro cc act vs W hcc ha hvs hS hd hi K hK
        clear ha
        have u82 : act.tmps[82]? = some (.bool true) := by obtain ⟨_, u, _, h⟩ := hd.out ⟨10, .guard⟩ (some 82) (by simp) rfl rfl; exact u.trans (congrArg some h)
        have u4 : act.tmps[4]? = some (.pointer (some ⟨gb, 0, none⟩)) := (hi.out 4 (by kernel_rfl)).trans rfl
        clear hd hi hvs
        refine wanted_yes rfl rfl u82 ?_
        go_simp
        exact hK.out _ _ rfl hS trivial
      refine FlowStepsX.stepY 98 27 13 rfl rfl (by kernel_rfl) (by kernel_rfl) (by kernel_rfl) rfl rfl ?_ ?_
      ·
        intro cc act vs W hcc ha hvs hS hd hi K hK
        clear ha
        have u83 : act.tmps[83]? = some (.pointer (some ⟨gb, 0, none⟩)) := by obtain ⟨_, u, _, h⟩ := hd.out ⟨11, .data⟩ (some 83) (by simp) rfl rfl; exact u.trans (congrArg some h)
        have u82 : act.tmps[82]? = some (.bool true) := by obtain ⟨_, u, _, h⟩ := hd.out ⟨10, .guard⟩ (some 82) (by simp) rfl rfl; exact u.trans (congrArg some h)
        clear hd hi hvs
        refine wanted_yes rfl rfl u82 ?_
        have e0 := (hS.cell (p := ⟨gb, 0, none⟩) lG).trans rG0
        go_simp
        exact hK.out _ _ rfl hS trivial
      refine FlowStepsX.stepY 98 27 14 rfl rfl (by kernel_rfl) (by kernel_rfl) (by kernel_rfl) rfl rfl ?_ ?_
      ·
        intro cc act vs W hcc ha hvs hS hd hi K hK
        clear ha
        have u84 : act.tmps[84]? = some (.bool tg) := by obtain ⟨_, u, _, h⟩ := hd.out ⟨12, .data⟩ (some 84) (by simp) rfl rfl; exact u.trans (congrArg some h)
        have u82 : act.tmps[82]? = some (.bool true) := by obtain ⟨_, u, _, h⟩ := hd.out ⟨10, .guard⟩ (some 82) (by simp) rfl rfl; exact u.trans (congrArg some h)
        clear hd hi hvs
        refine wanted_yes rfl rfl u82 ?_
        go_simp
        exact hK.out _ _ rfl hS trivial
      refine FlowStepsX.stepY 98 27 15 rfl rfl (by kernel_rfl) (by kernel_rfl) (by kernel_rfl) rfl rfl ?_ ?_
      ·
        intro cc act vs W hcc ha hvs hS hd hi K hK
        clear ha
        have u85 : act.tmps[85]? = some (.bool tg) := by obtain ⟨_, u, _, h⟩ := hd.out ⟨13, .guard⟩ (some 85) (by simp) rfl rfl; exact u.trans (congrArg some h)
        have u5 : act.tmps[5]? = some (.pointer (some ⟨xb, 0, none⟩)) := (hi.out 5 (by kernel_rfl)).trans rfl
        clear hd hi hvs
        cases tg
        ·
          refine wanted_yes rfl rfl u85 ?_
          have e0 := (hS.cell (p := ⟨xb, 0, none⟩) lX).trans rX0
          have e1 := (hS.cell (p := ⟨xb, 1, none⟩) lX).trans rX1
          have e2 := (hS.cell (p := ⟨xb, 2, none⟩) lX).trans rX2
          go_simp
          exact hK.out _ _ rfl hS trivial
        ·
          refine wanted_no rfl rfl u85 ?_
          exact hK.out undef W rfl hS trivial
      refine FlowStepsX.stepY 98 27 16 rfl rfl (by kernel_rfl) (by kernel_rfl) (by kernel_rfl) rfl rfl ?_ ?_
      ·
        intro cc act vs W hcc ha hvs hS hd hi K hK
        clear ha
        have u85 : act.tmps[85]? = some (.bool tg) := by obtain ⟨_, u, _, h⟩ := hd.out ⟨13, .guard⟩ (some 85) (by simp) rfl rfl; exact u.trans (congrArg some h)
        have u11 : act.tmps[11]? = some (.pointer (some ⟨cb, 0, none⟩)) := (hi.out 11 (by kernel_rfl)).trans rfl
        clear hd hi hvs
        cases tg
        ·
          refine wanted_yes rfl rfl u85 ?_
          have e0 := (hS.cell (p := ⟨cb, 0, none⟩) lC).trans rC0
          have e1 := (hS.cell (p := ⟨cb, 1, none⟩) lC).trans rC1
          have e2 := (hS.cell (p := ⟨cb, 2, none⟩) lC).trans rC2
          have e3 := (hS.cell (p := ⟨cb, 3, none⟩) lC).trans rC3
          go_simp
          exact hK.out _ _ rfl hS trivial
        ·
          refine wanted_no rfl rfl u85 ?_
          exact hK.out undef W rfl hS trivial
      refine FlowStepsX.stepY 98 27 17 rfl rfl (by kernel_rfl) (by kernel_rfl) (by kernel_rfl) rfl rfl ?_ ?_
      ·
        intro cc act vs W hcc ha hvs hS hd hi K hK
        clear ha
        have u85 : act.tmps[85]? = some (.bool tg) := by obtain ⟨_, u, _, h⟩ := hd.out ⟨13, .guard⟩ (some 85) (by simp) rfl rfl; exact u.trans (congrArg some h)
        have u12 : act.tmps[12]? = some (.int .i64 97) := (hi.out 12 (by kernel_rfl)).trans rfl
        clear hd hi hvs
        cases tg
        ·
          refine wanted_yes rfl rfl u85 ?_
          go_simp
          exact hK.out _ _ rfl hS trivial
        ·
          refine wanted_no rfl rfl u85 ?_
          exact hK.out undef W rfl hS trivial
      refine FlowStepsX.stepY 98 27 18 rfl rfl (by kernel_rfl) (by kernel_rfl) (by kernel_rfl) rfl rfl ?_ ?_
      ·
        intro cc act vs W hcc ha hvs hS hd hi K hK
        clear ha
        have u86 : act.tmps[86]? = some ((bif tg then undef else .agg #[.int .i64 M, .slice Ax nL cx, .int .i64 KL])) := by obtain ⟨_, u, _, h⟩ := hd.out ⟨14, .data⟩ (some 86) (by simp) rfl rfl; exact u.trans (congrArg some h)
        have u87 : act.tmps[87]? = some ((bif tg then undef else .agg #[.int .i64 tw, .int .i64 tw, .int .i64 tw, .int .i64 0])) := by obtain ⟨_, u, _, h⟩ := hd.out ⟨15, .data⟩ (some 87) (by simp) rfl rfl; exact u.trans (congrArg some h)
        have u88 : act.tmps[88]? = some ((bif tg then undef else .int .i64 97)) := by obtain ⟨_, u, _, h⟩ := hd.out ⟨16, .data⟩ (some 88) (by simp) rfl rfl; exact u.trans (congrArg some h)
        have u85 : act.tmps[85]? = some (.bool tg) := by obtain ⟨_, u, _, h⟩ := hd.out ⟨13, .guard⟩ (some 85) (by simp) rfl rfl; exact u.trans (congrArg some h)
        clear hd hi hvs
        cases tg
        ·
          refine wanted_yes rfl rfl u85 ?_
          try simp only [cond_true, cond_false] at u86 u87 u88
          go_wp2_with fail
          refine (lrImpl_c _ _ _ _ _ L _ _ _ _ _ _ (by omega) OX.out.cap.1 OX.out.cap.2 _ ((OX.out.below hS).ins HLN.out)).mono ?_
          rintro e6 w6 ⟨rfl, hb6⟩
          exact hK.out _ w6 (congrArg (Value.int .i64) (HLR.out (by first | rfl | trivial))) (hS.trans (hb6.mono hS.size)) trivial
        ·
          refine wanted_no rfl rfl u85 ?_
          exact hK.out undef W rfl hS trivial
      refine FlowStepsX.stepY 98 27 19 rfl rfl (by kernel_rfl) (by kernel_rfl) (by kernel_rfl) rfl rfl ?_ ?_
      ·
        intro cc act vs W hcc ha hvs hS hd hi K hK
        clear ha
        have u85 : act.tmps[85]? = some (.bool tg) := by obtain ⟨_, u, _, h⟩ := hd.out ⟨13, .guard⟩ (some 85) (by simp) rfl rfl; exact u.trans (congrArg some h)
        have u4 : act.tmps[4]? = some (.pointer (some ⟨gb, 0, none⟩)) := (hi.out 4 (by kernel_rfl)).trans rfl
        clear hd hi hvs
        cases tg
        ·
          refine wanted_yes rfl rfl u85 ?_
          go_simp
          exact hK.out _ _ rfl hS trivial
        ·
          refine wanted_no rfl rfl u85 ?_
          exact hK.out undef W rfl hS trivial
      refine FlowStepsX.stepY 98 27 20 rfl rfl (by kernel_rfl) (by kernel_rfl) (by kernel_rfl) rfl rfl ?_ ?_
      ·
        intro cc act vs W hcc ha hvs hS hd hi K hK
        clear ha
        have u90 : act.tmps[90]? = some ((bif tg then undef else .pointer (some ⟨gb, 2, none⟩))) := by obtain ⟨_, u, _, h⟩ := hd.out ⟨18, .data⟩ (some 90) (by simp) rfl rfl; exact u.trans (congrArg some h)
        have u85 : act.tmps[85]? = some (.bool tg) := by obtain ⟨_, u, _, h⟩ := hd.out ⟨13, .guard⟩ (some 85) (by simp) rfl rfl; exact u.trans (congrArg some h)
        clear hd hi hvs
        cases tg
        ·
          refine wanted_yes rfl rfl u85 ?_
          try simp only [cond_true, cond_false] at u90
          have e2 := (hS.cell (p := ⟨gb, 2, none⟩) lG).trans rG2
          go_simp
          exact hK.out _ _ rfl hS trivial
        ·
          refine wanted_no rfl rfl u85 ?_
          exact hK.out undef W rfl hS trivial
      refine FlowStepsX.stepY 98 27 21 rfl rfl (by kernel_rfl) (by kernel_rfl) (by kernel_rfl) rfl rfl ?_ ?_
      ·
        intro cc act vs W hcc ha hvs hS hd hi K hK
        clear ha
        have u85 : act.tmps[85]? = some (.bool tg) := by obtain ⟨_, u, _, h⟩ := hd.out ⟨13, .guard⟩ (some 85) (by simp) rfl rfl; exact u.trans (congrArg some h)
        have u3 : act.tmps[3]? = some (.pointer (some ⟨lb, 0, none⟩)) := (hi.out 3 (by kernel_rfl)).trans rfl
        clear hd hi hvs
        cases tg
        ·
          refine wanted_yes rfl rfl u85 ?_
          go_simp
          exact hK.out _ _ rfl hS trivial
        ·
          refine wanted_no rfl rfl u85 ?_
          exact hK.out undef W rfl hS trivial
      refine FlowStepsX.stepY 98 27 22 rfl rfl (by kernel_rfl) (by kernel_rfl) (by kernel_rfl) rfl rfl ?_ ?_
      ·
        intro cc act vs W hcc ha hvs hS hd hi K hK
        clear ha
        have u92 : act.tmps[92]? = some ((bif tg then undef else .pointer (some ⟨lb, 2, none⟩))) := by obtain ⟨_, u, _, h⟩ := hd.out ⟨20, .data⟩ (some 92) (by simp) rfl rfl; exact u.trans (congrArg some h)
        have u85 : act.tmps[85]? = some (.bool tg) := by obtain ⟨_, u, _, h⟩ := hd.out ⟨13, .guard⟩ (some 85) (by simp) rfl rfl; exact u.trans (congrArg some h)
        clear hd hi hvs
        cases tg
        ·
          refine wanted_yes rfl rfl u85 ?_
          try simp only [cond_true, cond_false] at u92
          have e2 := (hS.cell (p := ⟨lb, 2, none⟩) lL).trans rL2
          go_simp
          exact hK.out _ _ rfl hS trivial
        ·
          refine wanted_no rfl rfl u85 ?_
          exact hK.out undef W rfl hS trivial
      refine FlowStepsX.stepY 98 27 23 rfl rfl (by kernel_rfl) (by kernel_rfl) (by kernel_rfl) rfl rfl ?_ ?_
      ·
        intro cc act vs W hcc ha hvs hS hd hi K hK
        clear ha
        have u91 : act.tmps[91]? = some ((bif tg then undef else .int .i64 tr)) := by obtain ⟨_, u, _, h⟩ := hd.out ⟨19, .data⟩ (some 91) (by simp) rfl rfl; exact u.trans (congrArg some h)
        have u93 : act.tmps[93]? = some ((bif tg then undef else .int .i64 KL)) := by obtain ⟨_, u, _, h⟩ := hd.out ⟨21, .data⟩ (some 93) (by simp) rfl rfl; exact u.trans (congrArg some h)
        have u85 : act.tmps[85]? = some (.bool tg) := by obtain ⟨_, u, _, h⟩ := hd.out ⟨13, .guard⟩ (some 85) (by simp) rfl rfl; exact u.trans (congrArg some h)
        clear hd hi hvs
        cases tg
        ·
          refine wanted_yes rfl rfl u85 ?_
          try simp only [cond_true, cond_false] at u91 u93
          go_simp
          exact hK.out _ _ (congrArg (Value.int .i64) HN.out) hS trivial
        ·
          refine wanted_no rfl rfl u85 ?_
          exact hK.out undef W rfl hS trivial
      refine FlowStepsX.stepY 98 27 24 rfl rfl (by kernel_rfl) (by kernel_rfl) (by kernel_rfl) rfl rfl ?_ ?_
      ·
        intro cc act vs W hcc ha hvs hS hd hi K hK
        clear ha
        have u89 : act.tmps[89]? = some ((bif tg then undef else .int .i64 N)) := by obtain ⟨_, u, _, h⟩ := hd.out ⟨17, .data⟩ (some 89) (by simp) rfl rfl; exact u.trans (congrArg some h)
        have u94 : act.tmps[94]? = some ((bif tg then undef else .int .i64 N)) := by obtain ⟨_, u, _, h⟩ := hd.out ⟨22, .data⟩ (some 94) (by simp) rfl rfl; exact u.trans (congrArg some h)
        have u85 : act.tmps[85]? = some (.bool tg) := by obtain ⟨_, u, _, h⟩ := hd.out ⟨13, .guard⟩ (some 85) (by simp) rfl rfl; exact u.trans (congrArg some h)
        clear hd hi hvs
        cases tg
        ·
          refine wanted_yes rfl rfl u85 ?_
          try simp only [cond_true, cond_false] at u89 u94
          go_simp
          exact hK.out _ _ rfl hS trivial
        ·
          refine wanted_no rfl rfl u85 ?_
          exact hK.out undef W rfl hS trivial
      refine FlowStepsX.stepY 98 27 25 rfl rfl (by kernel_rfl) (by kernel_rfl) (by kernel_rfl) rfl rfl ?_ ?_
      ·
        intro cc act vs W hcc ha hvs hS hd hi K hK
        clear ha
        have u85 : act.tmps[85]? = some (.bool tg) := by obtain ⟨_, u, _, h⟩ := hd.out ⟨13, .data⟩ (some 85) (by simp) rfl rfl; exact u.trans (congrArg some h)
        have u95 : act.tmps[95]? = some ((bif tg then undef else .bool true)) := by obtain ⟨_, u, _, h⟩ := hd.out ⟨23, .data⟩ (some 95) (by simp) rfl rfl; exact u.trans (congrArg some h)
        have u82 : act.tmps[82]? = some (.bool true) := by obtain ⟨_, u, _, h⟩ := hd.out ⟨10, .guard⟩ (some 82) (by simp) rfl rfl; exact u.trans (congrArg some h)
        clear hd hi hvs
        refine wanted_yes rfl rfl u82 ?_
        try simp only [cond_true, cond_false] at u95
        cases tg
        ·
          go_simp
          exact hK.out _ _ rfl hS trivial
        ·
          go_simp
          exact hK.out _ _ rfl hS trivial
      refine FlowStepsX.stepY 98 27 26 rfl rfl (by kernel_rfl) (by kernel_rfl) (by kernel_rfl) rfl rfl ?_ ?_
      ·
        intro cc act vs W hcc ha hvs hS hd hi K hK
        clear ha
        have u82 : act.tmps[82]? = some (.bool true) := by obtain ⟨_, u, _, h⟩ := hd.out ⟨10, .data⟩ (some 82) (by simp) rfl rfl; exact u.trans (congrArg some h)
        have u96 : act.tmps[96]? = some (.bool true) := by obtain ⟨_, u, _, h⟩ := hd.out ⟨24, .data⟩ (some 96) (by simp) rfl rfl; exact u.trans (congrArg some h)
        clear hd hi hvs
        refine wanted_un rfl ?_
        go_simp
        exact hK.out _ _ rfl hS trivial
      refine FlowStepsX.stepY 98 27 27 rfl rfl (by kernel_rfl) (by kernel_rfl) (by kernel_rfl) rfl rfl ?_ ?_
      ·
        intro cc act vs W hcc ha hvs hS hd hi K hK
        clear ha
        have u97 : act.tmps[97]? = some (.bool true) := by obtain ⟨_, u, _, h⟩ := hd.out ⟨25, .data⟩ (some 97) (by simp) rfl rfl; exact u.trans (congrArg some h)
        clear hd hi hvs
        refine wanted_un rfl ?_
        go_simp
        exact hK.out _ _ rfl hS trivial
      exact FlowStepsX.nil
    · intro c' ρ W hc' hS hd
      simp only [putFrom, Act.put, List.setIfInBounds_toArray, List.set_cons_zero, List.set_cons_succ, Nat.reduceAdd]
      have e26 : ρ 26 = .bool true := hd.out 26 (by decide) (by kernel_rfl)
      clear hd
      generalize ρ 26 = z26 at e26 ⊢
      subst e26
      have BW := hide (BB.out.trans (hS.mono BB.out.size))
      clear hS
      go_wp2_with fail
      go_ret
      exact ⟨rfl, BW.out⟩
end Go.Proofs.Ytpifnfhgaemdmaa
