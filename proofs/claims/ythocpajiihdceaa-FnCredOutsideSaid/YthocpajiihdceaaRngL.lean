/-
  The laws of the maps of users over drawn arguments: RangesValid, UserOutside, UserInside. No condition.
-/
import Derived.Test.YthocpajiihdceaaProg
import Derived.Test.YthocpajiihdceaaRngD
import Derived.Test.YthocpajiihdceaaAlive
import Derived.Test.YthocpajiihdceaaRng5
import Derived.Lib.SliceRun
namespace Go.Proofs.Ythocpajiihdceaa
open Go.RowKit
set_option linter.unusedSimpArgs false
set_option linter.unusedVariables false

def GotR (w : World) (e : Ending) (w' : World) : Prop :=
  ∃ (g cap : Nat) (l : List Rng), e = .returned (.slice (some ⟨g, 0, none⟩) l.length cap) ∧ RR w' g 0 l ∧ l.length ≤ 5 ∧ l.length ≤ cap ∧ cap ≤ maxLen ∧ Below w.heap.size w w'
def GotRN (m : Int) (w : World) (e : Ending) (w' : World) : Prop :=
  ∃ (g cap : Nat) (l : List Rng) (x : Int), e = .returned (.tuple #[.slice (some ⟨g, 0, none⟩) l.length cap, .int .i64 x]) ∧ RR w' g 0 l ∧ l.length ≤ 5 ∧ l.length ≤ cap ∧ cap ≤ maxLen ∧ -100 ≤ x ∧ x ≤ m ∧ Below w.heap.size w w'
theorem gRangesValid_c (A : Option Addr) (n c : Nat) (w : World) (h : InB w A n c) : Calls Try.prog 16 #[.slice A n c] w (GotR w) := by
  have H := hide h
  clear h
  go_enter Try.func16, Try.ntmps16
  go_wp2_with fail
  refine (open_c A n c _ H.out).mono ?_
  rintro e w1 ⟨r, rfl, hr, hrd, hb1⟩
  go_wp2_with fail
  refine (drawR_c w1.heap.size r 0 2 _ (by omega) (by omega) (by omega) hrd).mono ?_
  rintro e w2 ⟨g, cap, l, rfl, hg, hR, h6, hc1, hc2, hs, ha⟩
  have hb2 : Below w.heap.size w w2 := hs.2.1.below hb1 hr hb1.size
  go_wp2_with fail
  go_ret
  exact ⟨g, cap, l, rfl, hR, h6, hc1, hc2, hb2⟩
set_option maxHeartbeats 1000000 in
theorem gUserOutside_c (A : Option Addr) (n c : Nat) (w : World) (h : InB w A n c) : Calls Try.prog 22 #[.slice A n c] w (GotRN 20 w) := by
  have H := hide h
  clear h
  go_enter Try.func22, Try.ntmps22
  go_wp2_with fail
  refine (open_c A n c _ H.out).mono ?_
  rintro e w1 ⟨r, rfl, hr, hrd, hb1⟩
  go_wp2_with fail
  refine (drawR_c w1.heap.size r 0 9 _ (by omega) (by omega) (by omega) hrd).mono ?_
  rintro e w2 ⟨g, cap, l, rfl, hg, hR, h6, hc1, hc2, hs, ha⟩
  have hz := hs.size
  go_wp2_with fail
  refine (pick_s w1 w1.heap.size r _ 20 _ (by omega) (by omega) ?_ hs).mono ?_
  · omega
  rintro e w3 ⟨x, rfl, x0, x1, hs3, ha3⟩
  go_wp2_with fail
  refine (pick_s w1 w1.heap.size r _ 14 _ (by omega) (by omega) ?_ hs3).mono ?_
  · omega
  rintro e w4 ⟨y, rfl, y0, y1, hs4, ha4⟩
  have hR4 : RR w4 g 0 l := by
    have a24 := ha3.trans ha4
    refine ⟨Nat.lt_of_lt_of_le hR.1 a24.1.size, fun k t ht => ?_⟩
    obtain ⟨c0, c1, c2⟩ := hR.2 k t ht
    exact ⟨(a24.cell hR.1 (by omega) _).trans c0, (a24.cell hR.1 (by omega) _).trans c1, (a24.cell hR.1 (by omega) _).trans c2⟩
  have hb4 : Below w.heap.size w w4 := hs4.2.1.below hb1 hr hb1.size
  go_wp2_with fail
  exact bodyPost_ret (v := .tuple #[.slice (some ⟨g, 0, none⟩) l.length cap, .int .i64 (x - y / 13)]) (by simp [results, Try.results22, go_sem]) rfl ⟨g, cap, l, _, rfl, hR4, h6, hc1, hc2, by omega, by omega, hb4⟩
theorem gUserInside_c (A : Option Addr) (n c : Nat) (w : World) (h : InB w A n c) : Calls Try.prog 23 #[.slice A n c] w (GotRN 100 w) := by
  have H := hide h
  clear h
  go_enter Try.func23, Try.ntmps23
  go_wp2_with fail
  refine (gUserOutside_c A n c _ H.out).mono ?_
  rintro e w1 ⟨g, cap, l, x, rfl, hR, h6, hc1, hc2, hx0, hx1, hb1⟩
  have hx48 : x + 48 ≤ 10000 := by omega
  go_wp2_with fail
  exact bodyPost_ret (v := .tuple #[.slice (some ⟨g, 0, none⟩) l.length cap, .int .i64 (x + 48)]) (by simp [results, Try.results23, go_sem]) rfl ⟨g, cap, l, _, rfl, hR, h6, hc1, hc2, by omega, by omega, hb1⟩

theorem rangesB_tail {t : Rng} {l : List Rng} (h : rangesB (t :: l) = true) : rangesB l = true := by
  rw [rangesB_iff] at h ⊢
  refine ⟨fun i s hi hs => ?_, by have := h.2; simp at this; omega⟩
  obtain ⟨h1, h2⟩ := h.1 (i + 1) s (by simpa using hi) (by simpa using hs)
  exact ⟨h1, fun j u hj hu => h2 (j + 1) u (by omega) (by simpa using hu)⟩
theorem rangesB_twice {t : Rng} {l : List Rng} (h : rangesB (t :: l) = true) : rangesB (t :: t :: l) = false := by
  refine rangesB_no fun hv => ?_
  have h1 := (hv.1 1 t (by simp) rfl).2 0 t (by omega) rfl
  have hm := inB_iff.1 (hv.1 0 t (by simp) rfl).1.1
  simp only [apI, Bool.or_eq_true, decide_eq_true_eq] at h1
  omega
theorem find_first {α : Type} {p : α → Bool} {l : List α} {t : α} (h : l.find? p = some t) : ∃ k, l[k]? = some t ∧ p t = true ∧ k < l.length ∧ ∀ (q : Nat) (s : α), q < k → l[q]? = some s → p s = false := by
  obtain ⟨hp, k, hk, hkt, hq⟩ := List.find?_eq_some_iff_getElem.1 h
  refine ⟨k, by rw [List.getElem?_eq_getElem hk, hkt], hp, hk, fun q s hqk hs => ?_⟩
  have := hq q hqk
  have hql : q < l.length := by omega
  rw [List.getElem?_eq_getElem hql] at hs
  cases hs
  simpa using this
/-- A user outside, where there is one, is inside the user again. -/
theorem uOut_all {l : List Rng} {u : Int} : (uOut l u = -1) ∨ (0 ≤ uOut l u ∧ uOut l u ≤ 99 ∧ uIn l (uOut l u) = u) := by
  unfold uOut
  split
  · rename_i hv
    split
    · rename_i t hf
      obtain ⟨k, hk, hp, hkl, hq⟩ := find_first hf
      have hV := (rangesB_iff.1 hv).1
      obtain ⟨⟨m1, i1, o1⟩, hap⟩ := hV k t hkl hk
      have m2 := inB_iff.1 m1; have i2 := inB_iff.1 i1; have o2 := inB_iff.1 o1
      have hp2 := inB_iff.1 hp
      have hx : inO (t.o + u - t.i) t = true := inB_iff.2 ⟨by omega, by omega⟩
      have hf2 : l.find? (inO (t.o + u - t.i)) = some t := find_at _ l k t hk hx fun q s hqk hs => by
        have ha := (hap q s hqk hs).2
        simp only [apO, Bool.or_eq_true, decide_eq_true_eq] at ha
        refine inB_no.2 fun hb => ?_
        omega
      refine .inr ⟨by omega, by omega, ?_⟩
      simp only [uIn, hv, if_true, hf2]; omega
    · exact .inl rfl
  · exact .inl rfl
theorem uIn_all {l : List Rng} {u : Int} : (uIn l u = -1) ∨ (0 ≤ uIn l u ∧ uIn l u ≤ 99 ∧ uOut l (uIn l u) = u) := by
  unfold uIn
  split
  · rename_i hv
    split
    · rename_i t hf
      obtain ⟨k, hk, hp, hkl, hq⟩ := find_first hf
      have hV := (rangesB_iff.1 hv).1
      obtain ⟨⟨m1, i1, o1⟩, hap⟩ := hV k t hkl hk
      have m2 := inB_iff.1 m1; have i2 := inB_iff.1 i1; have o2 := inB_iff.1 o1
      have hp2 := inB_iff.1 hp
      have hx : inI (t.i + u - t.o) t = true := inB_iff.2 ⟨by omega, by omega⟩
      have hf2 : l.find? (inI (t.i + u - t.o)) = some t := find_at _ l k t hk hx fun q s hqk hs => by
        have ha := (hap q s hqk hs).1
        simp only [apI, Bool.or_eq_true, decide_eq_true_eq] at ha
        refine inB_no.2 fun hb => ?_
        omega
      refine .inr ⟨by omega, by omega, ?_⟩
      simp only [uOut, hv, if_true, hf2]; omega
    · exact .inl rfl
  · exact .inl rfl
theorem uOut_back {l : List Rng} {u : Int} (h : ¬ uOut l u < 0) : uIn l (uOut l u) = u ∧ uOut l u ≤ 99 := by
  rcases uOut_all (l := l) (u := u) with h1 | h1
  · omega
  · exact ⟨h1.2.2, h1.2.1⟩
theorem uIn_back {l : List Rng} {u : Int} (h : ¬ uIn l u < 0) : uOut l (uIn l u) = u ∧ uIn l u ≤ 99 := by
  rcases uIn_all (l := l) (u := u) with h1 | h1
  · omega
  · exact ⟨h1.2.2, h1.2.1⟩
theorem uOut_neg {l : List Rng} {u : Int} (h : uOut l u < 0) : uOut l u = -1 := by
  rcases uOut_all (l := l) (u := u) with h1 | h1 <;> omega
theorem uIn_neg {l : List Rng} {u : Int} (h : uIn l u < 0) : uIn l u = -1 := by
  rcases uIn_all (l := l) (u := u) with h1 | h1 <;> omega
theorem RR_nil {w : World} {b off off' : Nat} {l : List Rng} (h : RR w b off l) : RR w b off' [] := ⟨h.1, fun k t ht => by simp at ht⟩
set_option maxHeartbeats 2000000 in
theorem fnUserOutside_walk {w : World} (A : Option Addr) (n c : Nat) (h : InB w A n c) :
    Calls Try.prog 7 #[.slice A n c] w fun e w' => e = .returned (.bool true) ∧ Below w.heap.size w w' := by
  have hm := h.2.1
  unfold maxLen at hm
  have hc := h.1
  have H := hide h
  clear h
  by_cases h20 : 1048576 < n
  · go_enter Try.func7, Try.ntmps7
    go_wp2_with fail
    go_ret
    exact ⟨rfl, Below.refl _ _⟩
  · go_enter Try.func7, Try.ntmps7
    go_wp2_with fail
    refine (gUserOutside_c A n c _ H.out).mono ?_
    rintro e w1 ⟨g, cap, l, u, rfl, hR, h6, hc1, hc2, hu0, hu1, hb1⟩
    go_wp2_with fail
    refine (outImpl_c _ _ _ _ l u rfl (by omega) hc1 _ hR).mono ?_
    rintro e w2 ⟨rfl, hb2⟩
    have B2 := below_via0 hb1 hb2
    have hR2 := hR.below hb2
    go_wp2_with fail
    refine (outSpec_c _ _ _ _ l u rfl (by omega) _ hR2).mono ?_
    rintro e w3 ⟨rfl, hb3⟩
    have B3 := below_via0 B2 hb3
    have hR3 := hR2.below hb3
    by_cases hneg : uOut l u < 0
    · have hN := uOut_neg hneg
      have HN := hide hN
      clear hneg hN
      generalize uOut l u = x at HN ⊢
      obtain rfl := HN.out
      go_wp2_with (go_at_call 17; refine (alive_c _).mono ?_; rintro e w5 ⟨rfl, hb5⟩; have B5 := below_via0 B3 hb5)
      go_ret
      exact ⟨rfl, B5⟩
    · obtain ⟨hb, h99⟩ := uOut_back hneg
      have HI := hide (inImpl_c g 0 l.length cap l (uOut l u) rfl (by omega) hc1)
      rw [hb] at HI
      clear hb
      generalize uOut l u = x at *
      go_wp2_with fail
      refine (HI.out _ hR3).mono ?_
      rintro e w4 ⟨rfl, hb4⟩
      have B4 := below_via0 B3 hb4
      go_wp2_with fail
      go_ret
      exact ⟨rfl, B4⟩
set_option maxHeartbeats 2000000 in
theorem fnUserInside_walk {w : World} (A : Option Addr) (n c : Nat) (h : InB w A n c) :
    Calls Try.prog 8 #[.slice A n c] w fun e w' => e = .returned (.bool true) ∧ Below w.heap.size w w' := by
  have hm := h.2.1
  unfold maxLen at hm
  have hc := h.1
  have H := hide h
  clear h
  by_cases h20 : 1048576 < n
  · go_enter Try.func8, Try.ntmps8
    go_wp2_with fail
    go_ret
    exact ⟨rfl, Below.refl _ _⟩
  · go_enter Try.func8, Try.ntmps8
    go_wp2_with fail
    refine (gUserInside_c A n c _ H.out).mono ?_
    rintro e w1 ⟨g, cap, l, u, rfl, hR, h6, hc1, hc2, hu0, hu1, hb1⟩
    go_wp2_with fail
    refine (inImpl_c _ _ _ _ l u rfl (by omega) hc1 _ hR).mono ?_
    rintro e w2 ⟨rfl, hb2⟩
    have B2 := below_via0 hb1 hb2
    have hR2 := hR.below hb2
    go_wp2_with fail
    refine (inSpec_c _ _ _ _ l u rfl (by omega) _ hR2).mono ?_
    rintro e w3 ⟨rfl, hb3⟩
    have B3 := below_via0 B2 hb3
    have hR3 := hR2.below hb3
    by_cases hneg : uIn l u < 0
    · have hN := uIn_neg hneg
      have HN := hide hN
      clear hneg hN
      generalize uIn l u = x at HN ⊢
      obtain rfl := HN.out
      go_wp2_with (go_at_call 17; refine (alive_c _).mono ?_; rintro e w5 ⟨rfl, hb5⟩; have B5 := below_via0 B3 hb5)
      go_ret
      exact ⟨rfl, B5⟩
    · obtain ⟨hb, h99⟩ := uIn_back hneg
      have HI := hide (outImpl_c g 0 l.length cap l (uIn l u) rfl (by omega) hc1)
      rw [hb] at HI
      clear hb
      generalize uIn l u = x at *
      go_wp2_with fail
      refine (HI.out _ hR3).mono ?_
      rintro e w4 ⟨rfl, hb4⟩
      have B4 := below_via0 B3 hb4
      go_wp2_with fail
      go_ret
      exact ⟨rfl, B4⟩
set_option maxHeartbeats 2000000 in
theorem fnRangesValid_walk {w : World} (A : Option Addr) (n c : Nat) (h : InB w A n c) :
    Calls Try.prog 4 #[.slice A n c] w fun e w' => e = .returned (.bool true) ∧ Below w.heap.size w w' := by
  have hm := h.2.1
  unfold maxLen at hm
  have hc := h.1
  have H := hide h
  clear h
  obtain ⟨i0, hi0, hz0, hz1, hz2⟩ := info_parts infoR
  have HI := hide hi0
  have HZ0 := hide hz0
  have HZ1 := hide hz1
  have HZ2 := hide hz2
  clear hi0 hz0 hz1 hz2
  by_cases h20 : 1048576 < n
  · go_enter Try.func4, Try.ntmps4
    go_wp2_with fail
    go_ret
    exact ⟨rfl, Below.refl _ _⟩
  · go_enter Try.func4, Try.ntmps4
    go_wp2_with fail
    refine (gRangesValid_c A n c _ H.out).mono ?_
    rintro e w1 ⟨g, cap, l, rfl, hR, h6, hc1, hc2, hb1⟩
    unfold maxLen at hc2
    go_wp2_with fail
    refine (implR_c _ _ _ _ l rfl (by omega) hc1 _ hR).mono ?_
    rintro e w2 ⟨rfl, hb2⟩
    have B2 := below_via0 hb1 hb2
    have hR2 := hR.below hb2
    cases hv : rangesB l with
    | false =>
      have HV := hide hv
      clear hv
      go_wp2_with fail
      refine (specR_c _ _ _ _ l rfl (by omega) _ hR2).mono ?_
      rintro e w3 ⟨rfl, hb3⟩
      rw [HV.out]
      have B3 := below_via0 B2 hb3
      go_wp2_with (go_at_call 17; refine (alive_c _).mono ?_; rintro e w5 ⟨rfl, hb5⟩; have B5 := below_via0 B3 hb5)
      go_ret
      exact ⟨rfl, B5⟩
    | true =>
      have HV := hide hv
      clear hv
      go_wp2_with fail
      refine (specR_c _ _ _ _ l rfl (by omega) _ hR2).mono ?_
      rintro e w3 ⟨rfl, hb3⟩
      rw [HV.out]
      have B3 := below_via0 B2 hb3
      have hR3 := hR2.below hb3
      cases l with
      | nil =>
        go_wp2_with (go_at_call 17; refine (alive_c _).mono ?_; rintro e w5 ⟨rfl, hb5⟩; have B5 := below_via0 B3 hb5)
        go_ret
        exact ⟨rfl, B5⟩
      | cons t l =>
        have HT := hide (rangesB_tail HV.out)
        have H2 := hide (rangesB_twice HV.out)
        simp only [List.length_cons] at h6 hc1 ⊢
        have c0 := hR3.2 0 t rfl
        have hRt := RR_tail hR3
        have HSL : Hid (∃ o, RR w3 g o l ∧ (if cap = 1 then o = 0 else o = 3)) := by
          by_cases h1 : cap = 1
          · obtain rfl : l = [] := List.eq_nil_of_length_eq_zero (by omega)
            exact ⟨0, RR_nil hR3, by rw [if_pos h1]⟩
          · exact ⟨3, hRt, by rw [if_neg h1]⟩
        by_cases h1 : cap = 1
        all_goals
          obtain ⟨o, hRo, ho⟩ := HSL.out
          first | rw [if_pos h1] at ho | rw [if_neg h1] at ho
          subst ho
          clear hRt
          have h1c : (1 : Int) ≤ cap := by omega
          go_wp2_with fail
          refine (implR_c _ _ _ _ l rfl (by omega) (by omega) _ hRo).mono ?_
          rintro e w4 ⟨rfl, hb4⟩
          rw [HT.out]
          have B4 := below_via0 B3 hb4
          have hR4 := hR3.below hb4
          have c4 := hR4.2 0 t rfl
          clear c0 hRo
          simp only [Nat.zero_mul, Nat.add_zero, Nat.zero_add] at c4
          go_wp2_with (at_builtin; refine wpList_append_ownG (by rfl) _ _ 25 rfl w4.heap.size 33 i0 _ 3 24 Try.underlying25 HI.out HZ0.out HZ1.out HZ2.out rfl (by decide) (.slice (some ⟨w4.heap.size, 0, none⟩) 1 1) 1 _ (by rfl) (own_new (n := 1) w4 #[.int .i64 t.i, .int .i64 t.o, .int .i64 t.m] (Nat.le_refl _) (by unfold maxLen; omega) rfl) ⟨g, 0, none⟩ (l.length + 1) _ (flatR (t :: l)) rfl (flatR_len _) (fun j u hj => by rw [Addr.add_lit]; exact Lib.cell?_alloc_some _ (flatR_cells hR4 j u hj)) (flatR_one _) (by unfold maxLen; omega) (by omega) (by simp) ?_)
          intro v' w5 hown hgrow hnil
          have hown' : w5.ownsRow w4.heap.size 33 3 v' (t :: t :: l).length (flatR (t :: t :: l)) := by
            have e : flatR (t :: t :: l) = [.int .i64 t.i, .int .i64 t.o, .int .i64 t.m] ++ flatR (t :: l) := by simp [flatR]
            rw [e, List.length_cons, List.length_cons, Nat.add_comm (l.length + 1) 1]; simpa using hown
          obtain ⟨g5, cap5, m5, rfl, hg5, hcap5, hcm5, hm5, hrow5⟩ := ownR_of rfl hown' (fun e => by simp [e] at hnil)
          have B5 : Below w.heap.size w w5 := (B4.alloc B4.size _).grown hgrow (by simp; have := B4.size; omega) (by intro k hk; simp [Value.ownBlock] at hk; have := B4.size; omega)
          have hA5 := RR_of_rowm hrow5 rfl
          simp only [List.length_cons] at hcap5 ⊢
          clear hown hown' hgrow hnil hrow5
          go_wp2_with fail
          refine (implR_c _ _ _ _ (t :: t :: l) (by simp) (by omega) (by omega) _ hA5).mono ?_
          rintro e w6 ⟨rfl, hb6⟩
          rw [H2.out]
          have B6 := below_via0 B5 hb6
          go_wp2_with fail
          go_ret
          exact ⟨rfl, B6⟩
end Go.Proofs.Ythocpajiihdceaa
