/-
  The exact law of OverQuota. No condition.
-/
import Derived.Test.YtncjghmjlcohjaaProg
import Derived.Test.YtncjghmjlcohjaaOvq
import Derived.Test.YtncjghmjlcohjaaMro
import Derived.Test.YtncjghmjlcohjaaSzn
import Derived.Test.YtncjghmjlcohjaaUsl
namespace Go.Proofs.Ytncjghmjlcohjaa
open Go.RowKit
set_option linter.unusedSimpArgs false
set_option linter.unusedVariables false

theorem TreeW.below {w w' : World} {g m n : Nat} {q : Nat → Nat} {l : List Node} (h : TreeW w g m q l n) (hb : Below w.heap.size w w') : TreeW w' g m q l n := by
  obtain ⟨h1, h2, h3, f, h4, h5⟩ := h
  refine ⟨h1, h2, h3, f, h4.below hb h4.lt, fun i t ht => ?_⟩
  have hi := (List.getElem?_eq_some_iff.1 ht).1
  exact (h5 i t ht).move (P := fun _ => False) (OffP.ofBelow hb) rfl rfl rfl (fun _ _ _ _ h => h) (h3 _ _ (by omega) (by omega)) (h3 _ _ (by omega) (by omega)) (fun _ _ => rfl)
theorem TreeW.lt {w : World} {g m n : Nat} {q : Nat → Nat} {l : List Node} (h : TreeW w g m q l n) : g < w.heap.size := by
  obtain ⟨_, _, _, f, h4, _⟩ := h
  exact h4.lt
/-- A row of cells that may be written. -/
structure RwN (w : World) (g m : Nat) : Prop where
  row : Row w g m (fun _ => none)
theorem RwN.below {w w' : World} {g m : Nat} (h : RwN w g m) (hb : Below w.heap.size w w') : RwN w' g m := ⟨h.row.below hb h.row.lt⟩
theorem RwN.offP {P : Nat → Prop} {w w' : World} {g m : Nat} (h : RwN w g m) (ho : OffP P w w') (hg : ¬ P g) : RwN w' g m := ⟨ho.row hg h.row⟩
theorem OwnI.parts {w : World} {B : Nat} {V : Value} {xs : List Int} {N : Nat} (h : OwnI w B V xs) (hN : xs.length = N) : ∃ g c, V = .slice (some ⟨g, 0, none⟩) N c ∧ N ≤ c ∧ B ≤ g ∧ g < w.heap.size ∧ InInt w (some ⟨g, 0, none⟩) N xs ∧ RwN w g c := by
  subst hN
  obtain ⟨g, c, h1, h2, h3, h4, h5, h6⟩ := h.row
  exact ⟨g, c, h1, h2, h3, h4, ⟨rfl, fun _ => ⟨g, 0, rfl, h5⟩⟩, ⟨h6.mono fun j u hj => by cases hj⟩⟩
set_option maxRecDepth 100000 in
set_option maxHeartbeats 8000000 in
theorem fnExactOverQuota_walk {w : World} (A1 : Option Addr) (n1 c1 : Nat) (l1 : List Node) (hA1 : InsNode w A1 n1 c1 l1) (A3 : Option Addr) (n3 c3 : Nat) (l3 : List Quota) (hA3 : InsQuota w A3 n3 c3 l3) :
    Calls Try.prog 6 #[.slice A1 n1 c1, .slice A3 n3 c3] w fun e w' => e = .returned (.bool true) ∧ Below w.heap.size w w' := by
  obtain ⟨hI1, hm1, hc1, hZ1⟩ := hA1
  obtain ⟨hI3, hm3, hc3⟩ := hA3
  have HI1 := hide hI1
  have HZ1 := hide hZ1
  have hlen1 := hI1.1
  have HI3 := hide hI3
  have hlen3 := hI3.1
  have B := hide (Below.refl w.heap.size w)
  clear hI1 hZ1 hI3
  go_enter Try.func6, Try.ntmps6
  go_wp2_with fail
  refine (szNodeZ_c A1 n1 c1 l1 _ (by omega) hm1 HZ1.out _ (HI1.out.below B.out)).mono ?_
  rintro e w1 ⟨y1, rfl, hyz1, hy1, hb⟩
  replace B := hide (below_via0 B.out hb)
  clear hb
  by_cases hy0 : y1 < 0
  · go_wp2_with fail
    go_ret
    exact ⟨rfl, B.out⟩
  obtain ⟨hn1, hz1⟩ := hy1 (by omega)
  have HS1 := hide hz1
  clear hy1 hz1
  go_wp2_with fail
  by_cases hq3 : (n3 : Int) ≤ y1
  case neg =>
    refine (szQuota_no A3 n3 c3 y1 (by omega) (by omega) hm3 (by omega) _).mono ?_
    rintro e w1 ⟨rfl, rfl⟩
    go_wp2_with fail
    go_ret
    exact ⟨rfl, B.out⟩
  have hn3 : n3 ≤ 1048576 := by omega
  have hge3 : 0 ≤ y1 - (n3 : Int) := by omega
  refine (szQuota_yes A3 n3 c3 y1 hq3 (by omega) _).mono ?_
  rintro e w1 ⟨rfl, rfl⟩
  obtain ⟨X, hX⟩ : ∃ X, ovL l1 n1 l3 = X := ⟨_, rfl⟩
  obtain ⟨N, hN⟩ : ∃ N, X.length = N := ⟨_, rfl⟩
  have hNb : N ≤ 1048576 := by have := ovL_len l1 n1 l3; rw [hX, hN] at this; omega
  have HX := hide (And.intro hX hN)
  clear hX hN
  go_wp2_with fail
  refine (toNodeS_c A1 n1 c1 l1 _ (HI1.out.below B.out) hn1 HS1.out).mono ?_
  rintro e w2 ⟨gx, rfl, _, hr, hb⟩
  replace B := hide (below_via0 B.out hb)
  have GA := hide (inNode_of hlen1 hr)
  clear hr hb
  go_wp2_with fail
  refine (toQuotaS_c A3 n3 c3 l3 _ (HI3.out.below B.out) hn3).mono ?_
  rintro e w3 ⟨gy, rfl, _, hr, hb⟩
  replace B := hide (below_via0 B.out hb)
  replace GA := hide (GA.out.below hb)
  have GC := hide hr
  clear hr hb
  go_wp2_with fail
  refine (ovSpec_c _ n1 n1 l1 gy 0 n3 n3 l3 hlen3 hn3 _ GA.out hn1 HS1.out HZ1.out GC.out).mono ?_
  rintro e w4 ⟨V, rfl, hown, hb⟩
  rw [HX.out.1] at hown
  obtain ⟨wb, wc, rfl, _, _, hwb, hwi, _⟩ := hown.parts HX.out.2
  replace B := hide (below_via0 B.out hb)
  replace GA := hide (GA.out.below hb)
  replace GC := hide (GC.out.below hb)
  have hs4 := B.out.size
  have HW := hide hwi
  clear hown hwi hb
  clear GA GC
  go_wp2_with fail
  refine (toNodeSR_c A1 n1 c1 l1 _ (HI1.out.below B.out) hn1 HS1.out).mono ?_
  rintro e w2 ⟨xb, q, rfl, hxb, hr, htw, hq0, hq1, hb⟩
  replace B := hide (below_via0 B.out hb)
  replace HW := hide (HW.out.below hb)
  have GA := hide (inNode_of hlen1 hr)
  have TW := hide htw
  have hxl := htw.lt
  clear hr hb htw
  go_wp2_with fail
  refine (toQuotaSR_c A3 n3 c3 l3 _ (HI3.out.below B.out) hn3).mono ?_
  rintro e w3 ⟨yb, rfl, hyb, hr, hrw, hb⟩
  replace B := hide (below_via0 B.out hb)
  replace HW := hide (HW.out.below hb)
  replace GA := hide (GA.out.below hb)
  replace TW := hide (TW.out.below hb)
  have GC := hide hr
  have QW := hide (show RwN _ yb (n3 * 3) from ⟨hrw.mono fun j u hj => by cases hj⟩)
  have hyl := hrw.lt
  clear hr hb hrw
  go_wp2_with fail
  refine (ovImpl_c _ n1 n1 l1 yb 0 n3 n3 l3 hlen3 hn3 _ GA.out hn1 HS1.out HZ1.out GC.out).mono ?_
  rintro e w5 ⟨V, rfl, hown, hb⟩
  rw [HX.out.1] at hown
  obtain ⟨gb, gc, rfl, hgN, hgb, hgl, hgi, hgr⟩ := hown.parts HX.out.2
  replace B := hide (below_via0 B.out hb)
  replace HW := hide (HW.out.below hb)
  replace GA := hide (GA.out.below hb)
  replace TW := hide (TW.out.below hb)
  replace GC := hide (GC.out.below hb)
  replace QW := hide (QW.out.below hb)
  have HG := hide hgi
  have GR := hide hgr
  clear hown hgi hgr hb
  go_wp2_with fail
  refine (eqInt_c _ _ N gc wc X hNb _ HG.out HW.out).mono ?_
  rintro e w6 ⟨rfl, hb⟩
  replace B := hide (below_via0 B.out hb)
  replace HW := hide (HW.out.below hb)
  replace GA := hide (GA.out.below hb)
  replace TW := hide (TW.out.below hb)
  replace GC := hide (GC.out.below hb)
  replace QW := hide (QW.out.below hb)
  replace HG := hide (HG.out.below hb)
  replace GR := hide (GR.out.below hb)
  clear hb
  go_wp2_with fail
  refine (toNodeS_c A1 n1 c1 l1 _ (HI1.out.below B.out) hn1 HS1.out).mono ?_
  rintro e w2 ⟨gx, rfl, _, hr, hb⟩
  replace B := hide (below_via0 B.out hb)
  replace HW := hide (HW.out.below hb)
  replace GA := hide (GA.out.below hb)
  replace TW := hide (TW.out.below hb)
  replace GC := hide (GC.out.below hb)
  replace QW := hide (QW.out.below hb)
  replace HG := hide (HG.out.below hb)
  replace GR := hide (GR.out.below hb)
  have GD := hide (inNode_of hlen1 hr)
  clear hr hb
  go_wp2_with fail
  refine (eqNodeS_c _ _ n1 n1 n1 l1 hn1 HS1.out _ GA.out GD.out).mono ?_
  rintro e w7 ⟨rfl, hb⟩
  clear GA GD
  replace B := hide (below_via0 B.out hb)
  replace HW := hide (HW.out.below hb)
  replace TW := hide (TW.out.below hb)
  replace GC := hide (GC.out.below hb)
  replace QW := hide (QW.out.below hb)
  replace HG := hide (HG.out.below hb)
  replace GR := hide (GR.out.below hb)
  clear hb
  go_wp2_with fail
  refine (toQuotaS_c A3 n3 c3 l3 _ (HI3.out.below B.out) hn3).mono ?_
  rintro e w3 ⟨gy, rfl, _, hr, hb⟩
  replace B := hide (below_via0 B.out hb)
  replace HW := hide (HW.out.below hb)
  replace TW := hide (TW.out.below hb)
  replace GC := hide (GC.out.below hb)
  replace QW := hide (QW.out.below hb)
  replace HG := hide (HG.out.below hb)
  replace GR := hide (GR.out.below hb)
  have GE := hide hr
  clear hr hb
  go_wp2_with fail
  refine (eqQuotaS_c yb 0 n3 gy 0 n3 n3 l3 hlen3 hn3 _ GC.out GE.out).mono ?_
  rintro e w8 ⟨rfl, hb⟩
  clear GC GE
  replace B := hide (below_via0 B.out hb)
  replace HW := hide (HW.out.below hb)
  replace TW := hide (TW.out.below hb)
  replace QW := hide (QW.out.below hb)
  replace HG := hide (HG.out.below hb)
  replace GR := hide (GR.out.below hb)
  clear hb
  go_wp2_with fail
  refine (markNode_c xb (n1 * 7) n1 n1 1 q l1 hn1 (by omega) HS1.out _ TW.out).mono ?_
  rintro e w9 ⟨rfl, ho, _⟩
  have hgbl := HG.out.1
  replace B := hide (ho.below B.out (fun b hp => by have hp : b = xb ∨ (q 0 ≤ b ∧ b < q (2 * n1)) := hp; omega) B.out.size)
  replace HW := hide (HW.out.offP ho (fun a _ hA hp => by cases hA; have hp : wb = xb ∨ (q 0 ≤ wb ∧ wb < q (2 * n1)) := hp; omega))
  replace HG := hide (HG.out.offP ho (fun a _ hA hp => by cases hA; have hp : gb = xb ∨ (q 0 ≤ gb ∧ gb < q (2 * n1)) := hp; omega))
  replace GR := hide (GR.out.offP ho (fun hp => by have hp : gb = xb ∨ (q 0 ≤ gb ∧ gb < q (2 * n1)) := hp; omega))
  replace QW := hide (QW.out.offP ho (fun hp => by have hp : yb = xb ∨ (q 0 ≤ yb ∧ yb < q (2 * n1)) := hp; omega))
  clear TW
  clear ho
  have hkb := kS_le (l := l1) (k0 := 1) HS1.out n1
  generalize kS l1 1 n1 = kk at *
  go_wp2_with fail
  refine (markQuota_c yb (n3 * 3) n3 n3 kk hn3 (by omega) _ (Nat.le_refl _) QW.out.row).mono ?_
  rintro e wA ⟨rfl, ho⟩
  replace B := hide (ho.below B.out (fun b hp => by have hp : b = yb := hp; omega) B.out.size)
  replace HW := hide (HW.out.offP ho (fun a _ hA hp => by cases hA; have hp : wb = yb := hp; omega))
  replace HG := hide (HG.out.offP ho (fun a _ hA hp => by cases hA; have hp : gb = yb := hp; omega))
  replace GR := hide (GR.out.offP ho (fun hp => by have hp : gb = yb := hp; omega))
  clear QW
  clear ho
  go_wp2_with fail
  refine (eqInt_c _ _ N gc wc X hNb _ HG.out HW.out).mono ?_
  rintro e wB ⟨rfl, hb⟩
  replace B := hide (below_via0 B.out hb)
  replace HW := hide (HW.out.below hb)
  replace HG := hide (HG.out.below hb)
  replace GR := hide (GR.out.below hb)
  clear hb
  clear HG
  go_wp2_with fail
  refine (markInt_c (some ⟨gb, 0, none⟩) N gc 1 hNb (by omega) _ (fun _ => ⟨gb, gc, rfl, hgN, GR.out.row⟩)).mono ?_
  rintro e wC ⟨rfl, ho, hmk⟩
  replace ho := ho.mono (Q := fun b => b = gb) (fun b ⟨_, a, hA, hE⟩ => by cases hA; exact hE.symm)
  replace B := hide (ho.below B.out (fun b hp => by have hp : b = gb := hp; omega) B.out.size)
  replace HW := hide (HW.out.offP ho (fun a _ hA hp => by cases hA; have hp : wb = gb := hp; omega))
  clear GR
  have HM := hide hmk
  clear hmk ho
  go_wp2_with fail
  refine (heldInt_c (some ⟨gb, 0, none⟩) N gc 1 hNb (by omega) _ HM.out).mono ?_
  rintro e wD ⟨rfl, hb⟩
  replace B := hide (below_via0 B.out hb)
  replace HW := hide (HW.out.below hb)
  replace HM := hide (HM.out.below hb)
  clear hb
  go_wp2_with fail
  refine (toNodeS_c A1 n1 c1 l1 _ (HI1.out.below B.out) hn1 HS1.out).mono ?_
  rintro e w2 ⟨gx, rfl, _, hr, hb⟩
  replace B := hide (below_via0 B.out hb)
  replace HW := hide (HW.out.below hb)
  replace HM := hide (HM.out.below hb)
  have GA := hide (inNode_of hlen1 hr)
  clear hr hb
  go_wp2_with fail
  refine (toQuotaS_c A3 n3 c3 l3 _ (HI3.out.below B.out) hn3).mono ?_
  rintro e w3 ⟨gy, rfl, _, hr, hb⟩
  replace B := hide (below_via0 B.out hb)
  replace HW := hide (HW.out.below hb)
  replace HM := hide (HM.out.below hb)
  replace GA := hide (GA.out.below hb)
  have GC := hide hr
  clear hr hb
  go_wp2_with fail
  refine (ovImpl_c _ n1 n1 l1 gy 0 n3 n3 l3 hlen3 hn3 _ GA.out hn1 HS1.out HZ1.out GC.out).mono ?_
  rintro e wE ⟨V, rfl, hown, hb⟩
  rw [HX.out.1] at hown
  obtain ⟨hb0, hc0, rfl, _, _, _, hgi, _⟩ := hown.parts HX.out.2
  replace B := hide (below_via0 B.out hb)
  replace HW := hide (HW.out.below hb)
  replace HM := hide (HM.out.below hb)
  replace GA := hide (GA.out.below hb)
  replace GC := hide (GC.out.below hb)
  have HH := hide hgi
  clear hown hgi hb
  clear GA GC
  go_wp2_with fail
  refine (eqInt_c _ _ N hc0 wc X hNb _ HH.out HW.out).mono ?_
  rintro e wF ⟨rfl, hb⟩
  replace B := hide (below_via0 B.out hb)
  replace HW := hide (HW.out.below hb)
  replace HM := hide (HM.out.below hb)
  replace HH := hide (HH.out.below hb)
  clear hb
  clear HH HW
  go_wp2_with fail
  refine (heldInt_c (some ⟨gb, 0, none⟩) N gc 1 hNb (by omega) _ HM.out).mono ?_
  rintro e wD ⟨rfl, hb⟩
  replace B := hide (below_via0 B.out hb)
  replace HM := hide (HM.out.below hb)
  clear hb
  go_wp2_with fail
  go_ret
  exact ⟨rfl, B.out⟩
end Go.Proofs.Ytncjghmjlcohjaa
