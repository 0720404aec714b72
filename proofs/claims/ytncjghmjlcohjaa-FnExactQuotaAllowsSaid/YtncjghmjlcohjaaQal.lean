/-
  QuotaAllows. No condition.
-/
import Derived.Test.YtncjghmjlcohjaaProg
import Derived.Test.YtncjghmjlcohjaaOvq
namespace Go.Proofs.Ytncjghmjlcohjaa
open Go.RowKit
set_option linter.unusedSimpArgs false
set_option linter.unusedVariables false

/-- A user that has more than it may does not have more than before. -/
def QaOk (lb la : List Node) (nb na : Nat) (x : Int) : Prop := ¬ usN lb x nb < usN la x na ∧ ¬ usB lb x nb < usB la x na
def QA (lb la : List Node) (nb na : Nat) (qs : List Quota) : Prop := treeB lb nb = true ∧ treeB la na = true ∧ quotasB qs = true ∧ ∀ (i : Nat) (x : Int), (ovL la na qs)[i]? = some x → QaOk lb la nb na x
noncomputable def qaB (lb la : List Node) (nb na : Nat) (qs : List Quota) : Bool := @decide (QA lb la nb na qs) (Classical.propDecidable _)
theorem qaB_iff {lb la : List Node} {nb na : Nat} {qs : List Quota} : qaB lb la nb na qs = true ↔ QA lb la nb na qs := by unfold qaB; exact @decide_eq_true_iff _ (Classical.propDecidable _)
theorem qaB_no {lb la : List Node} {nb na : Nat} {qs : List Quota} (h : ¬ QA lb la nb na qs) : qaB lb la nb na qs = false := by rw [← Bool.not_eq_true, qaB_iff]; exact h
set_option maxRecDepth 100000 in
set_option maxHeartbeats 8000000 in
theorem qaSpec_c (A : Option Addr) (n c : Nat) (lb : List Node) (A2 : Option Addr) (n2 c3 : Nat) (la : List Node) (b off m c2 : Nat) (qs : List Quota) (hq : qs.length = m) (hm : m ≤ 1048576) (w : World) (hI : InNode w A n lb) (hn : n ≤ 1048576) (hz : ∀ t ∈ lb, NodeS t) (hZ : ∀ t ∈ lb, NodeZ t) (hI2 : InNode w A2 n2 la) (hn2 : n2 ≤ 1048576) (hz2 : ∀ t ∈ la, NodeS t) (hZ2 : ∀ t ∈ la, NodeZ t) (hR : RdQuota w b off qs) :
    Calls Try.prog 18 #[.slice A n c, .slice A2 n2 c3, .slice (some ⟨b, off, none⟩) m c2] w fun e w' => e = .returned (.bool (qaB lb la n n2 qs)) ∧ Below w.heap.size w w' := by
  have HI := hide hI
  have HS := hide hz
  have HZ := hide hZ
  have HI2 := hide hI2
  have HS2 := hide hz2
  have HZ2 := hide hZ2
  have HR := hide hR
  clear hI hz hZ hI2 hz2 hZ2 hR
  go_enter Try.func18, Try.ntmps18
  go_wp2_with fail
  refine (tvSpec_c A n c lb _ HI.out hn HS.out HZ.out).mono ?_
  rintro e w1 ⟨rfl, hb1⟩
  have B1 := hide hb1
  clear hb1
  cases hv : treeB lb n
  · have HF := hide (show qaB lb la n n2 qs = false from qaB_no fun e => by rw [e.1] at hv; cases hv)
    go_wp2_with fail
    go_ret
    exact ⟨by rw [HF.out]; rfl, B1.out⟩
  go_wp2_with fail
  refine (tvSpec_c A2 n2 c3 la _ (HI2.out.below B1.out) hn2 HS2.out HZ2.out).mono ?_
  rintro e w2 ⟨rfl, hb2⟩
  have B2 := hide (below_via0 B1.out hb2)
  clear hb2
  cases hv2 : treeB la n2
  · have HF := hide (show qaB lb la n n2 qs = false from qaB_no fun e => by rw [e.2.1] at hv2; cases hv2)
    go_wp2_with fail
    go_ret
    exact ⟨by rw [HF.out]; rfl, B2.out⟩
  go_wp2_with fail
  refine (quoSpec_c b off m c2 qs hq hm _ (HR.out.below B2.out)).mono ?_
  rintro e w3 ⟨rfl, hb3⟩
  have B3 := hide (below_via0 B2.out hb3)
  clear hb3
  cases hqv : quotasB qs
  · have HF := hide (show qaB lb la n n2 qs = false from qaB_no fun e => by rw [e.2.2.1] at hqv; cases hqv)
    go_wp2_with fail
    go_ret
    exact ⟨by rw [HF.out]; rfl, B3.out⟩
  have HV := hide hv
  have HV2 := hide hv2
  have HQV := hide hqv
  clear hv hv2 hqv
  go_wp2_with fail
  refine (ovSpec_c A2 n2 c3 la b off m c2 qs hq hm _ (HI2.out.below B3.out) hn2 HS2.out HZ2.out (HR.out.below B3.out)).mono ?_
  rintro e w4 ⟨V, rfl, hO, hb4⟩
  have B4 := hide (below_via0 B3.out hb4)
  obtain ⟨g, cg, rfl, hcg, hgB, hgl, hRd, _⟩ := hO.row
  have HRd := hide hRd
  have hol := ovL_len la n2 qs
  have HQA := hide (fun (h : ∀ (i : Nat) (x : Int), (ovL la n2 qs)[i]? = some x → QaOk lb la n n2 x) => qaB_iff.2 ⟨HV.out, HV2.out, HQV.out, h⟩)
  have HQN := hide (fun (i : Nat) (x : Int) (hx : (ovL la n2 qs)[i]? = some x) (h : ¬ QaOk lb la n n2 x) => qaB_no (lb := lb) (nb := n) (na := n2) fun e => h (e.2.2.2 i x hx))
  clear hb4 hO hRd
  generalize ovL la n2 qs = O at *
  go_wp2_with fail
  go_loopw [8] (fun kv wr => ∃ k : Nat, k ≤ O.length ∧ kv = .int .i64 k ∧ Hid (∀ (i : Nat) (x : Int), i < k → O[i]? = some x → QaOk lb la n n2 x) ∧ Hid (Below w4.heap.size w4 wr)) (fun kv _ => O.length - (intOf kv).toNat)
  case atStart => exact ⟨0, by omega, rfl, fun i x hi => absurd hi (by omega), Below.refl _ _⟩
  case round =>
    obtain ⟨k, hk, rfl, hup, hbel⟩ := hrel
    have BW := hide (below_via0 B4.out hbel.out)
    by_cases hlt : k < O.length
    · have hkk : (k : Int) < O.length := by omega
      obtain ⟨x, hx⟩ : ∃ x, O[k]? = some x := ⟨_, List.getElem?_eq_getElem hlt⟩
      have HX := hide hx
      have d0 := (HRd.out.below hbel.out).2 k x hx
      have dl := (HRd.out.below hbel.out).1
      simp only [Nat.zero_add] at d0
      clear hx
      go_wp2_with fail
      refine (usSpec_c A n c lb x _ (HI.out.below BW.out) hn HS.out HZ.out).mono ?_
      rintro e w5 ⟨rfl, hb5⟩
      rw [HV.out]
      have B5 := hide (below_via0 BW.out hb5)
      have HB5 := hide (below_via0 hbel.out hb5)
      clear hb5 d0 dl
      have d0 := (HRd.out.below HB5.out).2 k x HX.out
      have dl := (HRd.out.below HB5.out).1
      simp only [Nat.zero_add] at d0
      simp only [if_true]
      go_wp2_with fail
      refine (usSpec_c A2 n2 c3 la x _ (HI2.out.below B5.out) hn2 HS2.out HZ2.out).mono ?_
      rintro e w6 ⟨rfl, hb6⟩
      rw [HV2.out]
      have B6 := hide (below_via0 B5.out hb6)
      have HB6 := hide (below_via0 HB5.out hb6)
      clear hb6 d0 dl
      simp only [if_true]
      have HBAD := hide (HQN.out k x HX.out)
      have HOK := hide (fun (h : QaOk lb la n n2 x) => (show ∀ (i : Nat) (y : Int), i < k + 1 → O[i]? = some y → QaOk lb la n n2 y from fun i y hi hy => by
        rcases Nat.lt_or_ge i k with h' | h'
        · exact hup.out i y h' hy
        · obtain rfl : i = k := by omega
          obtain rfl := Option.some.inj (hy.symm.trans HX.out)
          exact h))
      unfold QaOk at HBAD HOK
      generalize usN lb x n = X1 at *
      generalize usB lb x n = Y1 at *
      generalize usN la x n2 = X2 at *
      generalize usB la x n2 = Y2 at *
      by_cases h1 : X1 < X2
      · have HF := hide (HBAD.out fun e => e.1 h1)
        go_wp2_with fail
        go_ret
        exact ⟨by rw [HF.out]; rfl, B6.out⟩
      · by_cases h2 : Y1 < Y2
        · have HF := hide (HBAD.out fun e => e.2 h2)
          go_wp2_with fail
          go_ret
          exact ⟨by rw [HF.out]; rfl, B6.out⟩
        · have HN := hide (HOK.out ⟨h1, h2⟩)
          go_wp2_with fail
          exact ⟨⟨k + 1, by omega, by go_num, HN, HB6⟩, by simp [intOf] <;> omega⟩
    · obtain rfl : k = O.length := by omega
      have hkk : ¬ (O.length : Int) < O.length := by omega
      have HT := hide (HQA.out fun i x hx => hup.out i x (List.getElem?_eq_some_iff.1 hx).1 hx)
      go_wp2_with fail
      go_ret
      exact ⟨by rw [HT.out]; rfl, BW.out⟩
set_option maxRecDepth 100000 in
set_option maxHeartbeats 8000000 in
theorem qaImpl_c (A : Option Addr) (n c : Nat) (lb : List Node) (A2 : Option Addr) (n2 c3 : Nat) (la : List Node) (b off m c2 : Nat) (qs : List Quota) (hq : qs.length = m) (hm : m ≤ 1048576) (w : World) (hI : InNode w A n lb) (hn : n ≤ 1048576) (hz : ∀ t ∈ lb, NodeS t) (hZ : ∀ t ∈ lb, NodeZ t) (hI2 : InNode w A2 n2 la) (hn2 : n2 ≤ 1048576) (hz2 : ∀ t ∈ la, NodeS t) (hZ2 : ∀ t ∈ la, NodeZ t) (hR : RdQuota w b off qs) :
    Calls Try.prog 20 #[.slice A n c, .slice A2 n2 c3, .slice (some ⟨b, off, none⟩) m c2] w fun e w' => e = .returned (.bool (qaB lb la n n2 qs)) ∧ Below w.heap.size w w' := by
  have HI := hide hI
  have HS := hide hz
  have HZ := hide hZ
  have HI2 := hide hI2
  have HS2 := hide hz2
  have HZ2 := hide hZ2
  have HR := hide hR
  clear hI hz hZ hI2 hz2 hZ2 hR
  go_enter Try.func20, Try.ntmps20
  go_wp2_with fail
  refine (tvImpl_c A n c lb _ HI.out hn HS.out HZ.out).mono ?_
  rintro e w1 ⟨rfl, hb1⟩
  have B1 := hide hb1
  clear hb1
  cases hv : treeB lb n
  · have HF := hide (show qaB lb la n n2 qs = false from qaB_no fun e => by rw [e.1] at hv; cases hv)
    go_wp2_with fail
    go_ret
    exact ⟨by rw [HF.out]; rfl, B1.out⟩
  go_wp2_with fail
  refine (tvImpl_c A2 n2 c3 la _ (HI2.out.below B1.out) hn2 HS2.out HZ2.out).mono ?_
  rintro e w2 ⟨rfl, hb2⟩
  have B2 := hide (below_via0 B1.out hb2)
  clear hb2
  cases hv2 : treeB la n2
  · have HF := hide (show qaB lb la n n2 qs = false from qaB_no fun e => by rw [e.2.1] at hv2; cases hv2)
    go_wp2_with fail
    go_ret
    exact ⟨by rw [HF.out]; rfl, B2.out⟩
  go_wp2_with fail
  refine (quoImpl_c b off m c2 qs hq hm _ (HR.out.below B2.out)).mono ?_
  rintro e w3 ⟨rfl, hb3⟩
  have B3 := hide (below_via0 B2.out hb3)
  clear hb3
  cases hqv : quotasB qs
  · have HF := hide (show qaB lb la n n2 qs = false from qaB_no fun e => by rw [e.2.2.1] at hqv; cases hqv)
    go_wp2_with fail
    go_ret
    exact ⟨by rw [HF.out]; rfl, B3.out⟩
  have HV := hide hv
  have HV2 := hide hv2
  have HQV := hide hqv
  clear hv hv2 hqv
  go_wp2_with fail
  refine (ovImpl_c A2 n2 c3 la b off m c2 qs hq hm _ (HI2.out.below B3.out) hn2 HS2.out HZ2.out (HR.out.below B3.out)).mono ?_
  rintro e w4 ⟨V, rfl, hO, hb4⟩
  have B4 := hide (below_via0 B3.out hb4)
  obtain ⟨g, cg, rfl, hcg, hgB, hgl, hRd, _⟩ := hO.row
  have HRd := hide hRd
  have hol := ovL_len la n2 qs
  have HQA := hide (fun (h : ∀ (i : Nat) (x : Int), (ovL la n2 qs)[i]? = some x → QaOk lb la n n2 x) => qaB_iff.2 ⟨HV.out, HV2.out, HQV.out, h⟩)
  have HQN := hide (fun (i : Nat) (x : Int) (hx : (ovL la n2 qs)[i]? = some x) (h : ¬ QaOk lb la n n2 x) => qaB_no (lb := lb) (nb := n) (na := n2) fun e => h (e.2.2.2 i x hx))
  clear hb4 hO hRd
  generalize ovL la n2 qs = O at *
  go_wp2_with fail
  go_loopw [30] (fun kv wr => ∃ k : Nat, k ≤ O.length ∧ kv = .int .i64 k ∧ Hid (∀ (i : Nat) (x : Int), i < k → O[i]? = some x → QaOk lb la n n2 x) ∧ Hid (Below w4.heap.size w4 wr)) (fun kv _ => O.length - (intOf kv).toNat)
  case atStart => exact ⟨0, by omega, rfl, fun i x hi => absurd hi (by omega), Below.refl _ _⟩
  case round =>
    obtain ⟨k, hk, rfl, hup, hbel⟩ := hrel
    have BW := hide (below_via0 B4.out hbel.out)
    by_cases hlt : k < O.length
    · have hkk : (k : Int) < O.length := by omega
      obtain ⟨x, hx⟩ : ∃ x, O[k]? = some x := ⟨_, List.getElem?_eq_getElem hlt⟩
      have HX := hide hx
      have d0 := (HRd.out.below hbel.out).2 k x hx
      have dl := (HRd.out.below hbel.out).1
      simp only [Nat.zero_add] at d0
      clear hx
      go_wp2_with fail
      refine (usImpl_c A n c lb x _ (HI.out.below BW.out) hn HS.out HZ.out).mono ?_
      rintro e w5 ⟨rfl, hb5⟩
      rw [HV.out]
      have B5 := hide (below_via0 BW.out hb5)
      have HB5 := hide (below_via0 hbel.out hb5)
      clear hb5 d0 dl
      have d0 := (HRd.out.below HB5.out).2 k x HX.out
      have dl := (HRd.out.below HB5.out).1
      simp only [Nat.zero_add] at d0
      simp only [if_true]
      go_wp2_with fail
      refine (usImpl_c A2 n2 c3 la x _ (HI2.out.below B5.out) hn2 HS2.out HZ2.out).mono ?_
      rintro e w6 ⟨rfl, hb6⟩
      rw [HV2.out]
      have B6 := hide (below_via0 B5.out hb6)
      have HB6 := hide (below_via0 HB5.out hb6)
      clear hb6 d0 dl
      simp only [if_true]
      have HBAD := hide (HQN.out k x HX.out)
      have HOK := hide (fun (h : QaOk lb la n n2 x) => (show ∀ (i : Nat) (y : Int), i < k + 1 → O[i]? = some y → QaOk lb la n n2 y from fun i y hi hy => by
        rcases Nat.lt_or_ge i k with h' | h'
        · exact hup.out i y h' hy
        · obtain rfl : i = k := by omega
          obtain rfl := Option.some.inj (hy.symm.trans HX.out)
          exact h))
      unfold QaOk at HBAD HOK
      generalize usN lb x n = X1 at *
      generalize usB lb x n = Y1 at *
      generalize usN la x n2 = X2 at *
      generalize usB la x n2 = Y2 at *
      by_cases h1 : X1 < X2
      · have HF := hide (HBAD.out fun e => e.1 h1)
        go_wp2_with fail
        go_ret
        exact ⟨by rw [HF.out]; rfl, B6.out⟩
      · by_cases h2 : Y1 < Y2
        · have HF := hide (HBAD.out fun e => e.2 h2)
          go_wp2_with fail
          go_ret
          exact ⟨by rw [HF.out]; rfl, B6.out⟩
        · have HN := hide (HOK.out ⟨h1, h2⟩)
          go_wp2_with fail
          exact ⟨⟨k + 1, by omega, by go_num, HN, HB6⟩, by simp [intOf] <;> omega⟩
    · obtain rfl : k = O.length := by omega
      have hkk : ¬ (O.length : Int) < O.length := by omega
      have HT := hide (HQA.out fun i x hx => hup.out i x (List.getElem?_eq_some_iff.1 hx).1 hx)
      go_wp2_with fail
      go_ret
      exact ⟨by rw [HT.out]; rfl, BW.out⟩
end Go.Proofs.Ytncjghmjlcohjaa
