/-
  The law of EndProcess over drawn lists. No condition.
-/
import Derived.Test.YtlfchcjollcdhaaProg
import Derived.Test.YtlfchcjollcdhaaPlv
import Derived.Test.YtlfchcjollcdhaaPri
namespace Go.Proofs.Ytlfchcjollcdhaa
open Go.RowKit
set_option linter.unusedSimpArgs false
set_option linter.unusedVariables false

theorem end_cases (l : List Pcs) (q x : Int) : (endO l q x = false ∧ (endL l q x = [] ∨ endL l q x = l)) ∨ (PV l ∧ endB l q x = true ∧ endL l q x = l.map (endT q x) ∧ endO l q x = true) := by
  cases hb : procsB l with
  | false => exact .inl ⟨(end_bad hb).2, .inl (end_bad hb).1⟩
  | true =>
    cases hf : endB l q x with
    | false => exact .inl ⟨(end_no hb hf).2, .inr (end_no hb hf).1⟩
    | true => exact .inr ⟨procsB_iff.1 hb, rfl, (end_yes hb hf).1, (end_yes hb hf).2⟩
theorem end_at {l : List Pcs} {q x : Int} (h : PV l) (he : endB l q x = true) {i : Nat} {v : Pcs} (hv : (l.map (endT q x))[i]? = some v) : v.parent ≠ q ∧ (v.number = q → v.ended = true ∧ v.result = x) := by
  obtain ⟨hq1, hqr, hx0, hx1⟩ := end_parts he
  rw [List.getElem?_map] at hv
  cases ht : l[i]? with
  | none => rw [ht] at hv; cases hv
  | some t =>
    rw [ht] at hv
    obtain rfl := (Option.some.inj hv)
    rw [endT_n]
    unfold endT
    by_cases hn : t.number = q
    · rw [if_pos hn]
      refine ⟨?_, fun _ => ⟨rfl, rfl⟩⟩
      rcases Nat.eq_zero_or_pos i with rfl | hi
      · have := (h.place1 ht).2 rfl
        omega
      · have := ((h.ok ht).2.2.2.2.2 hi).2
        show t.parent ≠ q
        omega
    · rw [if_neg hn]
      by_cases hp : t.parent = q
      · rw [if_pos hp]
        exact ⟨fun e => hq1 e.symm, fun e => absurd e hn⟩
      · rw [if_neg hp]
        exact ⟨hp, fun e => absurd e hn⟩
theorem end_again {l : List Pcs} {q x : Int} (h : PV l) (he : endB l q x = true) : endO (l.map (endT q x)) q x = false := by
  have hr : runsB (l.map (endT q x)) q = false := by
    cases hh : runsB (l.map (endT q x)) q with
    | false => rfl
    | true =>
      obtain ⟨k, u, hu, hun, hue⟩ := runsB_get hh
      have := ((end_at h he hu).2 hun).1
      rw [hue] at this
      cases this
  simp [endO, endB, hr]
set_option maxRecDepth 100000 in
set_option maxHeartbeats 8000000 in
theorem fnEndProcess_walk {w : World} (A : Option Addr) (n c : Nat) (h : InB w A n c) :
    Calls Try.prog 6 #[.slice A n c] w fun e w' => e = .returned (.bool true) ∧ Below w.heap.size w w' := by
  have hm := h.2.1
  unfold maxLen at hm
  have hc := h.1
  have H := hide h
  clear h
  by_cases h20 : 1048576 < n
  · go_enter Try.func6, Try.ntmps6
    go_wp2_with fail
    go_ret
    exact ⟨rfl, Below.refl _ _⟩
  go_enter Try.func6, Try.ntmps6
  go_wp2_with fail
  refine (gEnd_c A n c _ H.out).mono ?_
  rintro e w1 ⟨A, nl, cl, l, q, x, rfl, hl, hn, ho, hb1⟩
  have hcap := ho.cap
  have hcm := hcap.2
  unfold maxLen at hcm
  have P := hide (ho.ins hl)
  have B := hide hb1
  have HC := hide (end_cases l q x)
  obtain ⟨N, hN⟩ : ∃ N, endO l q x = N := ⟨_, rfl⟩
  obtain ⟨L, hL⟩ : ∃ L, endL l q x = L := ⟨_, rfl⟩
  have hnL : L.length ≤ 14 := by
    rw [← hL]
    rcases HC.out with ⟨_, h | h⟩ | ⟨_, _, h, _⟩
    · rw [h]; simp
    · rw [h]; omega
    · rw [h, List.length_map]; omega
  rw [hN, hL] at HC
  clear ho hb1
  go_wp2_with fail
  refine (endImpl_c _ _ _ l q x (by omega) hcap.1 _ P.out).mono ?_
  rintro e w2 ⟨A2, n2, c2, rfl, hl2, ho2, hb2⟩
  rw [hL] at hl2 ho2
  rw [hN]
  have hn2 : n2 ≤ 14 := by omega
  have hcap2 := ho2.cap
  have hcm2 := hcap2.2
  unfold maxLen at hcm2
  have X := hide (ho2.ins hl2)
  clear ho2
  replace P := hide (P.out.below hb2)
  replace B := hide (below_via0 B.out hb2)
  clear hb2
  go_wp2_with fail
  refine (endSpec_c _ _ _ l q x (by omega) _ P.out).mono ?_
  rintro e w3 ⟨A3, n3, c3, rfl, hl3, ho3, hb3⟩
  rw [hL] at hl3 ho3
  rw [hN]
  have Y := hide (ho3.ins hl3)
  clear ho3 hN hL
  replace P := hide (P.out.below hb3)
  replace B := hide (below_via0 B.out hb3)
  replace X := hide (X.out.below hb3)
  clear hb3
  go_wp2_with fail
  refine (samePr_eq _ _ _ _ _ _ L (by omega) _ X.out Y.out).mono ?_
  rintro e w4 ⟨rfl, hb4⟩
  replace P := hide (P.out.below hb4)
  replace B := hide (below_via0 B.out hb4)
  replace X := hide (X.out.below hb4)
  clear hb4
  clear Y hl2 hl3
  have hNN : (N != N) = false := by simp
  rcases HC.out with ⟨rfl, hcs'⟩ | ⟨hpv, hpb, rfl, rfl⟩
  · rcases hcs' with rfl | rfl
    · obtain rfl : n2 = 0 := X.out.1.symm
      by_cases hnl : nl = 0
      · subst hnl
        obtain rfl : l = [] := List.eq_nil_of_length_eq_zero P.out.1
        go_wp2_with fail
        refine (samePr_eq _ _ _ _ _ _ [] (by omega) _ X.out P.out).mono ?_
        rintro e w5 ⟨rfl, hb5⟩
        replace B := hide (below_via0 B.out hb5)
        dsimp only
        go_wp2_with fail
        refine (alive_c _).mono ?_
        rintro e w6 ⟨rfl, hb6⟩
        replace B := hide (below_via0 B.out hb6)
        dsimp only
        go_wp2_with fail
        go_ret
        exact ⟨rfl, B.out⟩
      · go_wp2_with fail
        refine (samePr_len _ _ _ _ _ _ (by omega) _).mono ?_
        rintro e w5 ⟨rfl, hb5⟩
        replace B := hide (below_via0 B.out hb5)
        dsimp only
        go_wp2_with fail
        refine (alive_c _).mono ?_
        rintro e w6 ⟨rfl, hb6⟩
        replace B := hide (below_via0 B.out hb6)
        dsimp only
        go_wp2_with fail
        go_ret
        exact ⟨rfl, B.out⟩
    · go_wp2_with fail
      refine (samePr_eq _ _ _ _ _ _ L (by omega) _ X.out P.out).mono ?_
      rintro e w5 ⟨rfl, hb5⟩
      replace B := hide (below_via0 B.out hb5)
      dsimp only
      go_wp2_with fail
      refine (alive_c _).mono ?_
      rintro e w6 ⟨rfl, hb6⟩
      replace B := hide (below_via0 B.out hb6)
      dsimp only
      go_wp2_with fail
      go_ret
      exact ⟨rfl, B.out⟩
  clear HC
  obtain rfl : n2 = nl := by have h1 := X.out.1; rw [List.length_map] at h1; omega
  have HPV := hide hpv
  have HPB := hide hpb
  have HVL := hide (procsB_iff.2 (hpv.end1 hpb))
  have HAG := hide (end_again hpv hpb)
  obtain ⟨L, hLL⟩ : ∃ L, l.map (endT q x) = L := ⟨_, rfl⟩
  have HAT := hide (fun (i : Nat) (v : Pcs) (hv : L[i]? = some v) => end_at hpv hpb (by rw [hLL]; exact hv))
  rw [hLL] at X HVL HAG
  clear hpv hpb hl hLL
  go_wp2_with fail
  go_loopw [10] (fun kv wr => ∃ i : Nat, i ≤ n2 ∧ kv = .int .i64 i ∧ Hid (Below w4.heap.size w4 wr)) (fun kv _ => n2 - (intOf kv).toNat)
  case atStart => exact ⟨0, by omega, rfl, Below.refl _ _⟩
  case round =>
    obtain ⟨i, hi, rfl, hbel⟩ := hrel
    by_cases hlt : i < n2
    · obtain ⟨s, hs⟩ : ∃ s, L[i]? = some s := ⟨_, List.getElem?_eq_getElem (by have := X.out.1; omega)⟩
      obtain ⟨b, off, hA, hR⟩ := X.out.2 (by omega)
      subst hA
      obtain ⟨c0, c1, c2, c3, c4, c5, c6, c7⟩ := (hR.below hbel.out).2 i s hs
      have hbl := (hR.below hbel.out).1
      obtain ⟨hp, hqq⟩ := HAT.out i s hs
      clear hs hR
      obtain ⟨s0, s1, s2, s3, s4, s5, s6, s7⟩ := s
      simp only at c0 c1 c2 c3 c4 c5 c6 c7 hp hqq
      have hp' : (s1 == q) = false := by simpa using hp
      have hii : (i : Int) < n2 := by omega
      clear hp
      cases hq : (s0 == q)
      · clear hqq
        go_wp2_with fail
        exact ⟨⟨i + 1, by omega, by go_num, hbel⟩, by simp [intOf] <;> omega⟩
      · obtain ⟨rfl, rfl⟩ := hqq (by simpa using hq)
        go_wp2_with fail
        exact ⟨⟨i + 1, by omega, by go_num, hbel⟩, by simp [intOf] <;> omega⟩
    · obtain rfl : i = n2 := by omega
      have hii : ¬ (i : Int) < i := by omega
      have X6 := hide (X.out.below hbel.out)
      have B6 := hide (below_via0 B.out hbel.out)
      go_wp2_with fail
      refine (endImpl_c _ _ _ L q x (by omega) hcap2.1 _ X6.out).mono ?_
      rintro e w7 ⟨A7, n7, c7, rfl, hl7, ho7, hb7⟩
      rw [HAG.out]
      replace X6 := hide (X6.out.below hb7)
      replace B6 := hide (below_via0 B6.out hb7)
      clear ho7 hb7
      go_wp2_with fail
      refine (pvImpl_c _ _ _ L (by omega) hcap2.1 _ X6.out).mono ?_
      rintro e w8 ⟨rfl, hb8⟩
      rw [HVL.out]
      replace B6 := hide (below_via0 B6.out hb8)
      dsimp only
      go_wp2_with fail
      go_ret
      exact ⟨rfl, B6.out⟩
end Go.Proofs.Ytlfchcjollcdhaa
