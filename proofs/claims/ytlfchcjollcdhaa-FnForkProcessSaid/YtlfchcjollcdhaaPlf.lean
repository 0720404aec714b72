/-
  The law of ForkProcess over drawn lists. No condition.
-/
import Derived.Test.YtlfchcjollcdhaaProg
import Derived.Test.YtlfchcjollcdhaaPlv
import Derived.Test.YtlfchcjollcdhaaPrg
namespace Go.Proofs.Ytlfchcjollcdhaa
open Go.RowKit
set_option linter.unusedSimpArgs false
set_option linter.unusedVariables false

theorem fork_cases (l : List Pcs) (q : Int) : (forkN l q = 0 ∧ (forkL l q = [] ∨ forkL l q = l)) ∨ ∃ p, PV l ∧ forkF l q = some p ∧ forkL l q = l ++ [p] ∧ forkN l q = p.number ∧ p.number ≠ 0 := by
  cases hb : procsB l with
  | false => exact .inl ⟨(fork_bad hb).2, .inl (fork_bad hb).1⟩
  | true =>
    cases hf : forkF l q with
    | none => exact .inl ⟨(fork_no hb hf).2, .inr (fork_no hb hf).1⟩
    | some p =>
      have hv := procsB_iff.1 hb
      refine .inr ⟨p, hv, rfl, (fork_yes hb hf).1, (fork_yes hb hf).2, ?_⟩
      obtain ⟨s, k, t, hs, _, _, _, _, _, rfl⟩ := fork_get hf
      have := hv.num hs
      show s.number + 1 ≠ 0
      omega
theorem fork_same {l : List Pcs} {q : Int} {p : Pcs} (h : PV l) (hf : forkF l q = some p) {i : Nat} {s : Pcs} (hs : l[i]? = some s) (hn : s.number = q) : s.real = p.real ∧ s.acts = p.acts ∧ s.saved = p.saved ∧ s.groups = p.groups := by
  obtain ⟨_, k, t, _, ht, htn, _, _, _, rfl⟩ := fork_get hf
  obtain rfl := h.uniq hs ht (by omega)
  obtain rfl := Option.some.inj (hs.symm.trans ht)
  exact ⟨rfl, rfl, rfl, rfl⟩
theorem fork_par {l : List Pcs} {q : Int} {p : Pcs} (hf : forkF l q = some p) : p.parent = q ∧ p.ended = false := by
  obtain ⟨_, k, t, _, ht, htn, _, _, _, rfl⟩ := fork_get hf
  exact ⟨rfl, rfl⟩
set_option maxRecDepth 100000 in
set_option maxHeartbeats 8000000 in
theorem fnForkProcess_walk {w : World} (A : Option Addr) (n c : Nat) (h : InB w A n c) :
    Calls Try.prog 5 #[.slice A n c] w fun e w' => e = .returned (.bool true) ∧ Below w.heap.size w w' := by
  have hm := h.2.1
  unfold maxLen at hm
  have hc := h.1
  have H := hide h
  clear h
  by_cases h20 : 1048576 < n
  · go_enter Try.func5, Try.ntmps5
    go_wp2_with fail
    go_ret
    exact ⟨rfl, Below.refl _ _⟩
  go_enter Try.func5, Try.ntmps5
  go_wp2_with fail
  refine (gFork_c A n c _ H.out).mono ?_
  rintro e w1 ⟨A, nl, cl, l, q, rfl, hl, hn, ho, hb1⟩
  have hcap := ho.cap
  have hcm := hcap.2
  unfold maxLen at hcm
  have P := hide (ho.ins hl)
  have B := hide hb1
  have HC := hide (fork_cases l q)
  obtain ⟨N, hN⟩ : ∃ N, forkN l q = N := ⟨_, rfl⟩
  obtain ⟨L, hL⟩ : ∃ L, forkL l q = L := ⟨_, rfl⟩
  have hnL : L.length ≤ 14 := by
    rw [← hL]
    rcases HC.out with ⟨_, h | h⟩ | ⟨p, _, _, h, _⟩
    · rw [h]; simp
    · rw [h]; omega
    · rw [h, List.length_append, List.length_singleton]; omega
  rw [hN, hL] at HC
  clear ho hb1
  go_wp2_with fail
  refine (forkImpl_c _ _ _ l q (by omega) hcap.1 _ P.out).mono ?_
  rintro e w2 ⟨A2, n2, c2, rfl, hl2, ho2, hb2⟩
  rw [hL] at hl2 ho2
  rw [hN]
  have hn2 : n2 ≤ 14 := by omega
  have hcap2 := ho2.cap
  have hcm2 := hcap2.2
  unfold maxLen at hcm2
  have X := hide (ho2.ins hl2)
  clear ho2
  replace P := hide (P.out.below hb2)
  replace B := hide (below_via0 B.out hb2)
  clear hb2
  go_wp2_with fail
  refine (forkSpec_c _ _ _ l q (by omega) _ P.out).mono ?_
  rintro e w3 ⟨A3, n3, c3, rfl, hl3, ho3, hb3⟩
  rw [hL] at hl3 ho3
  rw [hN]
  have Y := hide (ho3.ins hl3)
  clear ho3 hN hL
  replace P := hide (P.out.below hb3)
  replace B := hide (below_via0 B.out hb3)
  replace X := hide (X.out.below hb3)
  clear hb3
  go_wp2_with fail
  refine (samePr_eq _ _ _ _ _ _ L (by omega) _ X.out Y.out).mono ?_
  rintro e w4 ⟨rfl, hb4⟩
  replace P := hide (P.out.below hb4)
  replace B := hide (below_via0 B.out hb4)
  replace X := hide (X.out.below hb4)
  clear hb4
  clear Y hl2 hl3
  rcases HC.out with ⟨rfl, hcs'⟩ | ⟨p, hpv, hpf, rfl, hpn, hp0⟩
  · rcases hcs' with rfl | rfl
    · obtain rfl : n2 = 0 := X.out.1.symm
      by_cases hnl : nl = 0
      · subst hnl
        obtain rfl : l = [] := List.eq_nil_of_length_eq_zero P.out.1
        go_wp2_with fail
        refine (samePr_eq _ _ _ _ _ _ [] (by omega) _ X.out P.out).mono ?_
        rintro e w5 ⟨rfl, hb5⟩
        replace B := hide (below_via0 B.out hb5)
        dsimp only
        go_wp2_with fail
        refine (alive_c _).mono ?_
        rintro e w6 ⟨rfl, hb6⟩
        replace B := hide (below_via0 B.out hb6)
        dsimp only
        go_wp2_with fail
        go_ret
        exact ⟨rfl, B.out⟩
      · go_wp2_with fail
        refine (samePr_len _ _ _ _ _ _ (by omega) _).mono ?_
        rintro e w5 ⟨rfl, hb5⟩
        replace B := hide (below_via0 B.out hb5)
        dsimp only
        go_wp2_with fail
        refine (alive_c _).mono ?_
        rintro e w6 ⟨rfl, hb6⟩
        replace B := hide (below_via0 B.out hb6)
        dsimp only
        go_wp2_with fail
        go_ret
        exact ⟨rfl, B.out⟩
    · go_wp2_with fail
      refine (samePr_eq _ _ _ _ _ _ L (by omega) _ X.out P.out).mono ?_
      rintro e w5 ⟨rfl, hb5⟩
      replace B := hide (below_via0 B.out hb5)
      dsimp only
      go_wp2_with fail
      refine (alive_c _).mono ?_
      rintro e w6 ⟨rfl, hb6⟩
      replace B := hide (below_via0 B.out hb6)
      dsimp only
      go_wp2_with fail
      go_ret
      exact ⟨rfl, B.out⟩
  clear HC
  subst hpn
  obtain rfl : n2 = nl + 1 := by have h1 := X.out.1; rw [List.length_append, List.length_singleton] at h1; omega
  obtain ⟨b2, o2, rfl, hR2⟩ := X.out.2 (by omega)
  have hpl : (l ++ [p])[nl]? = some p := by rw [← hl]; simp
  obtain ⟨pc0, pc1, pc2, pc3, pc4, pc5, pc6, pc7⟩ := hR2.2 nl p hpl
  have hbl := hR2.1
  have R2 := hide hR2
  have HPV := hide hpv
  have HPF := hide hpf
  have HLL := hide hl
  obtain ⟨hpp, hpe⟩ := fork_par hpf
  have HVL := hide (procsB_iff.2 (hpv.fork1 hpf))
  have hnl1 : 1 ≤ nl := by have := hpv.2.1; omega
  clear hR2 hpv hpf hpl hl
  obtain ⟨pn, pp, p2, p3, p4, p5, pe, px⟩ := p
  simp only at pc0 pc1 pc2 pc3 pc4 pc5 pc6 pc7 hpp hpe hp0
  subst hpp hpe
  have hp0' : (pn == 0) = false := by simpa using hp0
  have hls : (nl : Int) < (nl : Int) + 1 := by omega
  have hb5 : Below w4.heap.size w4 (w4.alloc (.cells #[.int .i64 pn, .int .i64 pp, .int .i64 p2, .int .i64 p3, .int .i64 p4, .int .i64 p5, .bool false, .int .i64 px] 39)) := below_alloc0 (Below.refl _ _) _
  have G := hide (Row.madeL w4 39 [.int .i64 pn, .int .i64 pp, .int .i64 p2, .int .i64 p3, .int .i64 p4, .int .i64 p5, .bool false, .int .i64 px])
  replace P := hide (P.out.below hb5)
  replace B := hide (below_via0 B.out hb5)
  replace R2 := hide (R2.out.below hb5)
  clear hb5
  go_wp2_with fail
  clear pc0 pc1 pc2 pc3 pc4 pc5 pc6 pc7
  generalize w4.alloc (.cells #[.int .i64 pn, .int .i64 pp, .int .i64 p2, .int .i64 p3, .int .i64 p4, .int .i64 p5, .bool false, .int .i64 px] 39) = w5 at *
  obtain ⟨pb, hpb⟩ : ∃ pb, pb = w4.heap.size := ⟨_, rfl⟩
  rw [← hpb] at G ⊢
  clear hpb hbl
  go_loopw [10] (fun kv wr => ∃ i : Nat, i ≤ nl ∧ kv = .int .i64 i ∧ Hid (Below w5.heap.size w5 wr)) (fun kv _ => nl - (intOf kv).toNat)
  case atStart => exact ⟨0, by omega, rfl, Below.refl _ _⟩
  case round =>
    obtain ⟨i, hi, rfl, hbel⟩ := hrel
    have gl := (G.out.below hbel.out G.out.lt).lt
    have gc0 := (G.out.below hbel.out G.out.lt).cell (j := 0) rfl
    have gc1 := (G.out.below hbel.out G.out.lt).cell (j := 1) rfl
    have gc2 := (G.out.below hbel.out G.out.lt).cell (j := 2) rfl
    have gc3 := (G.out.below hbel.out G.out.lt).cell (j := 3) rfl
    have gc4 := (G.out.below hbel.out G.out.lt).cell (j := 4) rfl
    have gc5 := (G.out.below hbel.out G.out.lt).cell (j := 5) rfl
    have gc6 := (G.out.below hbel.out G.out.lt).cell (j := 6) rfl
    have gc7 := (G.out.below hbel.out G.out.lt).cell (j := 7) rfl
    by_cases hlt : i < nl
    · obtain ⟨s, hs⟩ : ∃ s, l[i]? = some s := ⟨_, List.getElem?_eq_getElem (by have := P.out.1; omega)⟩
      obtain ⟨b, off, hA, hR⟩ := P.out.2 (by omega)
      subst hA
      obtain ⟨c0, c1, c2, c3, c4, c5, c6, c7⟩ := (hR.below hbel.out).2 i s hs
      have hbl := (hR.below hbel.out).1
      have hnew := fork_new HPV.out HPF.out i s hs
      have hsm := fork_same HPV.out HPF.out hs
      clear hs hR
      obtain ⟨s0, s1, s2, s3, s4, s5, s6, s7⟩ := s
      simp only at c0 c1 c2 c3 c4 c5 c6 c7 hnew hsm
      have hne : (s0 == pn) = false := by simp; omega
      have hii : (i : Int) < nl := by omega
      cases hq : (s0 == pp)
      · have hq' : ¬ s0 = pp := by simpa using hq
        go_wp2_with fail
        go_quiet (fail)
        go_wp2_with fail
        exact ⟨⟨i + 1, by omega, by go_num, below_drewN hbel.out _⟩, by simp [intOf] <;> omega⟩
      · obtain ⟨rfl, rfl, rfl, rfl⟩ := hsm (by simpa using hq)
        have hq' : s0 = pp := by simpa using hq
        go_wp2_with fail
        go_quiet (fail)
        go_wp2_with fail
        exact ⟨⟨i + 1, by omega, by go_num, below_drewN hbel.out _⟩, by simp [intOf] <;> omega⟩
    · obtain rfl : i = nl := by omega
      have hii : ¬ (i : Int) < i := by omega
      have R6 := hide (R2.out.below hbel.out)
      have P6 := hide (P.out.below hbel.out)
      have B6 := hide (below_via0 B.out hbel.out)
      go_wp2_with fail
      refine (pvImpl_c _ _ _ _ (by omega) hcap2.1 _ ⟨by simp [HLL.out], fun _ => ⟨_, _, rfl, R6.out⟩⟩).mono ?_
      rintro e w7 ⟨rfl, hb7⟩
      rw [HVL.out]
      replace R6 := hide (R6.out.below hb7)
      replace P6 := hide (P6.out.below hb7)
      replace B6 := hide (below_via0 B6.out hb7)
      have G7 := hide ((G.out.below hbel.out G.out.lt).below hb7 gl)
      clear hb7 gc0 gc1 gc2 gc3 gc4 gc5 gc6 gc7 gl
      dsimp only
      go_wp2_with fail
      have hT := inP_take (k := i) (by simp [HLL.out] : (l ++ [(⟨pn, pp, p2, p3, p4, p5, false, px⟩ : Pcs)]).length = i + 1) (by omega) R6.out
      rw [List.take_append_of_le_length (by rw [HLL.out]; omega), List.take_of_length_le (by rw [HLL.out]; omega)] at hT
      refine (samePr_eq _ _ _ _ _ _ l (by omega) _ hT P6.out).mono ?_
      rintro e w8 ⟨rfl, hb8⟩
      replace B6 := hide (below_via0 B6.out hb8)
      have gl := (G7.out.below hb8 G7.out.lt).lt
      have gc0 := (G7.out.below hb8 G7.out.lt).cell (j := 0) rfl
      have gc1 := (G7.out.below hb8 G7.out.lt).cell (j := 1) rfl
      have gc2 := (G7.out.below hb8 G7.out.lt).cell (j := 2) rfl
      have gc3 := (G7.out.below hb8 G7.out.lt).cell (j := 3) rfl
      have gc4 := (G7.out.below hb8 G7.out.lt).cell (j := 4) rfl
      have gc5 := (G7.out.below hb8 G7.out.lt).cell (j := 5) rfl
      have gc6 := (G7.out.below hb8 G7.out.lt).cell (j := 6) rfl
      have gc7 := (G7.out.below hb8 G7.out.lt).cell (j := 7) rfl
      dsimp only
      go_wp2_with fail
      go_ret
      exact ⟨rfl, B6.out⟩
end Go.Proofs.Ytlfchcjollcdhaa
