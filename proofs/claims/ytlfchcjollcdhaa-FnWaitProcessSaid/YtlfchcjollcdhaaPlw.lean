/-
  The law of WaitProcess over drawn lists. No condition.
-/
import Derived.Test.YtlfchcjollcdhaaProg
import Derived.Test.YtlfchcjollcdhaaPlv
import Derived.Test.YtlfchcjollcdhaaPrv
namespace Go.Proofs.Ytlfchcjollcdhaa
open Go.RowKit
set_option linter.unusedSimpArgs false
set_option linter.unusedVariables false

theorem wait_cases {l : List Pcs} (q : Int) : (waitN l q = 0 ∧ (waitL l q = [] ∨ waitL l q = l) ∧ waitR l q = -1) ∨ ∃ j t, PV l ∧ l.findIdx? (isW q) = some j ∧ l[j]? = some t ∧ t.ended = true ∧ t.parent = q ∧ waitL l q = l.eraseIdx j ∧ waitN l q = t.number ∧ waitR l q = t.result ∧ t.number ≠ 0 := by
  cases hb : procsB l with
  | false => exact .inl ⟨(wait_bad hb).2.1, .inl (wait_bad hb).1, (wait_bad hb).2.2⟩
  | true =>
    cases hf : l.findIdx? (isW q) with
    | none => exact .inl ⟨(wait_no hb hf).2.1, .inr (wait_no hb hf).1, (wait_no hb hf).2.2⟩
    | some j =>
      obtain ⟨t, ht, hte, htp⟩ := wait_get hf
      have hv := procsB_iff.1 hb
      have h3 := wait_yes hb hf ht
      have := hv.num ht
      exact .inr ⟨j, t, hv, rfl, ht, hte, htp, h3.1, h3.2.1, h3.2.2, by omega⟩
/-- One more round: none is left to be waited for, or one fewer is there. -/
theorem wait_next {M : List Pcs} {q : Int} (h : PV M) : (waitN M q = 0 ∧ ∀ (i : Nat) (s : Pcs), M[i]? = some s → isW q s = false) ∨ (waitN M q ≠ 0 ∧ PV (waitL M q) ∧ (waitL M q).length = M.length - 1 ∧ ∀ (i : Nat) (v : Pcs), (waitL M q)[i]? = some v → ∃ k : Nat, M[k]? = some v) := by
  have hb := procsB_iff.2 h
  cases hf : M.findIdx? (isW q) with
  | none =>
    refine .inl ⟨(wait_no hb hf).2.1, fun i s hs => ?_⟩
    rw [List.findIdx?_eq_none_iff] at hf
    exact hf s (List.mem_of_getElem? hs)
  | some j =>
    obtain ⟨t, ht, hte, htp⟩ := wait_get hf
    have h3 := wait_yes hb hf ht
    have hn := h.num ht
    have hj := (List.getElem?_eq_some_iff.1 ht).1
    refine .inr ⟨by rw [h3.2.1]; omega, h.wait q, by rw [h3.1, List.length_eraseIdx, if_pos hj], fun i v hv => ?_⟩
    rw [h3.1] at hv
    obtain ⟨k, hk, _⟩ := erase_get hv
    exact ⟨k, hk⟩
theorem erase_num {l : List Pcs} {j : Nat} {t : Pcs} (h : PV l) (ht : l[j]? = some t) (i : Nat) (v : Pcs) (hv : (l.eraseIdx j)[i]? = some v) : v.number ≠ t.number := by
  obtain ⟨k, hk, hkj, _⟩ := erase_get hv
  intro e
  exact hkj (h.uniq hk ht e)
set_option maxRecDepth 100000 in
set_option maxHeartbeats 8000000 in
theorem fnWaitProcess_walk {w : World} (A : Option Addr) (n c : Nat) (h : InB w A n c) :
    Calls Try.prog 7 #[.slice A n c] w fun e w' => e = .returned (.bool true) ∧ Below w.heap.size w w' := by
  have hm := h.2.1
  unfold maxLen at hm
  have hc := h.1
  have H := hide h
  clear h
  by_cases h20 : 1048576 < n
  · go_enter Try.func7, Try.ntmps7
    go_wp2_with fail
    go_ret
    exact ⟨rfl, Below.refl _ _⟩
  go_enter Try.func7, Try.ntmps7
  go_wp2_with fail
  refine (gWait_c A n c _ H.out).mono ?_
  rintro e w1 ⟨A, nl, cl, l, q, rfl, hl, hn, ho, hb1⟩
  have hcap := ho.cap
  have hcm := hcap.2
  unfold maxLen at hcm
  have P := hide (ho.ins hl)
  have B := hide hb1
  have HC := hide (wait_cases (l := l) q)
  obtain ⟨N, hN⟩ : ∃ N, waitN l q = N := ⟨_, rfl⟩
  obtain ⟨R, hR⟩ : ∃ R, waitR l q = R := ⟨_, rfl⟩
  obtain ⟨L, hL⟩ : ∃ L, waitL l q = L := ⟨_, rfl⟩
  have hnL : L.length ≤ 14 := by
    rw [← hL]
    rcases HC.out with ⟨_, h | h, _⟩ | ⟨j, t, _, _, ht, _, _, h, _⟩
    · rw [h]; simp
    · rw [h]; omega
    · rw [h, List.length_eraseIdx]; split <;> omega
  rw [hN, hL, hR] at HC
  clear ho hb1
  go_wp2_with fail
  refine (waitImpl_c _ _ _ l q (by omega) hcap.1 _ P.out).mono ?_
  rintro e w2 ⟨A2, n2, c2, rfl, hl2, ho2, hb2⟩
  rw [hL] at hl2 ho2
  rw [hN, hR]
  have hn2 : n2 ≤ 14 := by omega
  have hcap2 := ho2.cap
  have hcm2 := hcap2.2
  unfold maxLen at hcm2
  have X := hide (ho2.ins hl2)
  clear ho2
  replace P := hide (P.out.below hb2)
  replace B := hide (below_via0 B.out hb2)
  clear hb2
  go_wp2_with fail
  refine (waitSpec_c _ _ _ l q (by omega) hcap.1 _ P.out).mono ?_
  rintro e w3 ⟨A3, n3, c3, rfl, hl3, ho3, hb3⟩
  rw [hL] at hl3 ho3
  rw [hN, hR]
  have Y := hide (ho3.ins hl3)
  clear ho3 hN hL hR
  replace P := hide (P.out.below hb3)
  replace B := hide (below_via0 B.out hb3)
  replace X := hide (X.out.below hb3)
  clear hb3
  go_wp2_with fail
  refine (samePr_eq _ _ _ _ _ _ L (by omega) _ X.out Y.out).mono ?_
  rintro e w4 ⟨rfl, hb4⟩
  replace P := hide (P.out.below hb4)
  replace B := hide (below_via0 B.out hb4)
  replace X := hide (X.out.below hb4)
  clear hb4
  clear Y hl2 hl3
  rcases HC.out with ⟨rfl, hcs', rfl⟩ | ⟨j, t, hpv, hpf, ht, hte, htp, rfl, rfl, rfl, hp0⟩
  · rcases hcs' with rfl | rfl
    · obtain rfl : n2 = 0 := X.out.1.symm
      by_cases hnl : nl = 0
      · subst hnl
        obtain rfl : l = [] := List.eq_nil_of_length_eq_zero P.out.1
        go_wp2_with fail
        refine (samePr_eq _ _ _ _ _ _ [] (by omega) _ X.out P.out).mono ?_
        rintro e w5 ⟨rfl, hb5⟩
        replace B := hide (below_via0 B.out hb5)
        dsimp only
        go_wp2_with fail
        refine (alive_c _).mono ?_
        rintro e w6 ⟨rfl, hb6⟩
        replace B := hide (below_via0 B.out hb6)
        dsimp only
        go_wp2_with fail
        go_ret
        exact ⟨rfl, B.out⟩
      · go_wp2_with fail
        refine (samePr_len _ _ _ _ _ _ (by omega) _).mono ?_
        rintro e w5 ⟨rfl, hb5⟩
        replace B := hide (below_via0 B.out hb5)
        dsimp only
        go_wp2_with fail
        refine (alive_c _).mono ?_
        rintro e w6 ⟨rfl, hb6⟩
        replace B := hide (below_via0 B.out hb6)
        dsimp only
        go_wp2_with fail
        go_ret
        exact ⟨rfl, B.out⟩
    · go_wp2_with fail
      refine (samePr_eq _ _ _ _ _ _ L (by omega) _ X.out P.out).mono ?_
      rintro e w5 ⟨rfl, hb5⟩
      replace B := hide (below_via0 B.out hb5)
      dsimp only
      go_wp2_with fail
      refine (alive_c _).mono ?_
      rintro e w6 ⟨rfl, hb6⟩
      replace B := hide (below_via0 B.out hb6)
      dsimp only
      go_wp2_with fail
      go_ret
      exact ⟨rfl, B.out⟩
  clear HC
  have hp0' : (t.number == 0) = false := by simpa using hp0
  have hjl := (List.getElem?_eq_some_iff.1 ht).1
  have HPV := hide hpv
  have HT := hide ht
  have HEN := hide (erase_num hpv ht)
  have hVL := hpv.wait1 hpf
  have h9 : (l.eraseIdx j).length ≤ 9 := by have := hpv.2.2.1; rw [List.length_eraseIdx, if_pos hjl]; omega
  have HVL := hide hVL
  have hx1 := X.out.1
  have hl1 := P.out.1
  clear hpv ht hpf hVL
  generalize l.eraseIdx j = L at *
  obtain ⟨tn, tp, t2, t3, t4, t5, te, tx⟩ := t
  simp only at hte htp hp0 hp0' HEN
  subst hte htp
  go_wp2_with fail
  go_loopw [11, 12] (fun bv kv wr => ∃ i : Nat, i ≤ nl ∧ kv = .int .i64 i ∧ bv = .bool (decide (j < i)) ∧ Hid (Below w4.heap.size w4 wr)) (fun _ kv _ => nl - (intOf kv).toNat)
  case atStart => exact ⟨0, by omega, rfl, rfl, Below.refl _ _⟩
  case round =>
    obtain ⟨i, hi, rfl, rfl, hbel⟩ := hrel
    by_cases hlt : i < nl
    · obtain ⟨s, hs⟩ : ∃ s, l[i]? = some s := ⟨_, List.getElem?_eq_getElem (by omega)⟩
      obtain ⟨b, off, hA, hR⟩ := P.out.2 (by omega)
      subst hA
      obtain ⟨c0, c1, c2, c3, c4, c5, c6, c7⟩ := (hR.below hbel.out).2 i s hs
      have hbl := (hR.below hbel.out).1
      have hii : (i : Int) < nl := by omega
      rcases Nat.lt_trichotomy i j with hij | hij | hij
      · have hne : s.number ≠ tn := fun e => by have := HPV.out.uniq hs HT.out e; omega
        clear hs hR
        obtain ⟨s0, s1, s2, s3, s4, s5, s6, s7⟩ := s
        simp only at c0 c1 c2 c3 c4 c5 c6 c7 hne
        have hne' : (s0 == tn) = false := by simpa using hne
        have hd : decide (j < i) = false := by simp; omega
        rw [hd]
        go_wp2_with fail
        exact ⟨⟨i + 1, by omega, by go_num, by rw [show decide (j < i + 1) = false by simp; omega], hbel⟩, by simp [intOf] <;> omega⟩
      · subst hij
        obtain rfl := Option.some.inj (hs.symm.trans HT.out)
        simp only at c0 c1 c2 c3 c4 c5 c6 c7
        have hd : decide (i < i) = false := by simp
        rw [hd]
        clear hs hR
        go_wp2_with fail
        exact ⟨⟨i + 1, by omega, by go_num, by rw [show decide (i < i + 1) = true by simp], hbel⟩, by simp [intOf] <;> omega⟩
      · have hd : decide (j < i) = true := by simp; omega
        rw [hd]
        clear hs hR c0 c1 c2 c3 c4 c5 c6 c7
        go_wp2_with fail
        exact ⟨⟨i + 1, by omega, by go_num, by rw [show decide (j < i + 1) = true by simp; omega], hbel⟩, by simp [intOf] <;> omega⟩
    · obtain rfl : i = nl := by omega
      have hii : ¬ (i : Int) < i := by omega
      have hd : decide (j < i) = true := by simp; omega
      rw [hd]
      clear hd
      have X5 := hide (X.out.below hbel.out)
      have B5 := hide (below_via0 B.out hbel.out)
      clear X P B hbel
      go_wp2_with fail
      go_loopw [5, 13] (fun sv kv wr => ∃ (k : Nat) (A : Option Addr) (m c : Nat) (M : List Pcs), kv = .int .i64 k ∧ sv = .slice A m c ∧ m ≤ c ∧ m + k ≤ 9 ∧ Hid (PV M) ∧ Hid (∀ (i : Nat) (v : Pcs), M[i]? = some v → v.number ≠ tn) ∧ Hid (InProcess wr A m M) ∧ Hid (Below w.heap.size w wr)) (fun _ kv _ => 10 - (intOf kv).toNat)
      case atStart => exact ⟨0, A2, n2, c2, L, rfl, rfl, hcap2.1, by omega, HVL, HEN, X5, B5⟩
      case round =>
        obtain ⟨k, A, m, c, M, rfl, rfl, hmc, hmk, hM, hMN, hX, hB⟩ := hrel
        have hm1 := hX.out.1
        have hm0 : 1 ≤ m := by have := hM.out.2.1; omega
        have hk9 : (k : Int) < 10 := by omega
        go_wp2_with fail
        refine (waitImpl_c _ _ _ M tp (by omega) hmc _ hX.out).mono ?_
        rintro e w7 ⟨A7, n7, c7, rfl, hl7, ho7, hb7⟩
        have B7 := hide (below_via0 hB.out hb7)
        rcases wait_next (q := tp) hM.out with ⟨h0, hw⟩ | ⟨h0, hv, hlen, hsub⟩
        · rw [h0]
          have X7 := hide (hX.out.below hb7)
          have HW := hide hw
          have HVM := hide (procsB_iff.2 hM.out)
          clear hl7 ho7 hb7 hw h0 hX hB hM
          go_wp2_with fail
          go_loopw [17] (fun kv wr => ∃ i : Nat, i ≤ m ∧ kv = .int .i64 i ∧ Hid (Below w7.heap.size w7 wr)) (fun kv _ => m - (intOf kv).toNat)
          case atStart => exact ⟨0, by omega, rfl, Below.refl _ _⟩
          case round =>
            obtain ⟨i, hi, rfl, hbel⟩ := hrel
            by_cases hlt : i < m
            · obtain ⟨s, hs⟩ : ∃ s, M[i]? = some s := ⟨_, List.getElem?_eq_getElem (by omega)⟩
              obtain ⟨b, off, hA, hR⟩ := X7.out.2 (by omega)
              subst hA
              obtain ⟨c0, c1, c2, c3, c4, c5, c6, c7⟩ := (hR.below hbel.out).2 i s hs
              have hbl := (hR.below hbel.out).1
              have hii : (i : Int) < m := by omega
              have hne := hMN.out i s hs
              have hww := HW.out i s hs
              clear hs hR
              obtain ⟨s0, s1, s2, s3, s4, s5, s6, s7⟩ := s
              simp only [isW] at c0 c1 c2 c3 c4 c5 c6 c7 hne hww
              have hne' : (s0 == tn) = false := by simpa using hne
              clear hne
              cases s6
              · clear hww
                go_wp2_with fail
                exact ⟨⟨i + 1, by omega, by go_num, hbel⟩, by simp [intOf] <;> omega⟩
              · rw [Bool.true_and] at hww
                go_wp2_with fail
                exact ⟨⟨i + 1, by omega, by go_num, hbel⟩, by simp [intOf] <;> omega⟩
            · obtain rfl : i = m := by omega
              have hii : ¬ (i : Int) < i := by omega
              have X8 := hide (X7.out.below hbel.out)
              have B8 := hide (below_via0 B7.out hbel.out)
              go_wp2_with fail
              refine (pvImpl_c _ _ _ M (by omega) hmc _ X8.out).mono ?_
              rintro e w9 ⟨rfl, hb9⟩
              rw [HVM.out]
              replace B8 := hide (below_via0 B8.out hb9)
              dsimp only
              go_wp2_with fail
              go_ret
              exact ⟨rfl, B8.out⟩
        · have h0' : (waitN M tp == 0) = false := by simpa using h0
          have X7 := hide (ho7.ins hl7)
          have hc7 := ho7.cap.1
          have hmv : n7 + (k + 1) ≤ 9 := by omega
          have HV7 := hide hv
          have HN7 := hide (fun (i : Nat) (v : Pcs) (hv : (waitL M tp)[i]? = some v) => (hsub i v hv).elim fun k hk => hMN.out k v hk)
          clear ho7 hl7 hb7 hv hlen hsub h0
          go_wp2_with fail
          exact ⟨⟨k + 1, A7, n7, c7, _, by go_num, rfl, hc7, hmv, HV7, HN7, X7, B7⟩, by simp [intOf] <;> omega⟩
end Go.Proofs.Ytlfchcjollcdhaa
