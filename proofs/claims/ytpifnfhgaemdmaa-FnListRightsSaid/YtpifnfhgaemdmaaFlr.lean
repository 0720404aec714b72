/-
  The law of ListRights over drawn lists. No condition.
-/
import Derived.Test.YtpifnfhgaemdmaaProg
import Derived.Test.YtpifnfhgaemdmaaFld
import Derived.Test.YtpifnfhgaemdmaaSml
import Derived.Test.YtpifnfhgaemdmaaLsrI
namespace Go.Proofs.Ytpifnfhgaemdmaa
open Go.RowKit
set_option linter.unusedSimpArgs false
set_option linter.unusedVariables false

theorem and_le {x k : Int} (h0 : 0 ≤ k) (h1 : k ≤ 7) : 0 ≤ bits .and .i64 x k ∧ bits .and .i64 x k ≤ k := by
  obtain ⟨q, rfl⟩ := Int.eq_ofNat_of_zero_le h0
  have e : (BitVec.ofInt 64 (q : Int)).toNat = q := ofInt_i64 q (by omega)
  show 0 ≤ IntKind.i64.wrap ((BitVec.ofInt 64 x &&& BitVec.ofInt 64 (q : Int)).toNat : Nat) ∧ IntKind.i64.wrap ((BitVec.ofInt 64 x &&& BitVec.ofInt 64 (q : Int)).toNat : Nat) ≤ q
  rw [BitVec.toNat_and, e, IntKind.wrap_i64]
  have := @Nat.and_le_right (BitVec.ofInt 64 x).toNat q
  omega
theorem and_0 (x : Int) : bits .and .i64 x 0 = 0 := by have := and_le (x := x) (k := 0) (by omega) (by omega); omega
theorem fld_b (m c : Int) : 0 ≤ fld m c ∧ fld m c ≤ 7 := by
  unfold fld
  have := Nat.mod_lt (m.toNat / 2 ^ (6 - 3 * c).toNat) (show 0 < 8 by decide)
  omega
theorem and_7 {x : Int} (h0 : 0 ≤ x) (h1 : x ≤ 7) : bits .and .i64 x 7 = x := by
  obtain ⟨q, rfl⟩ := Int.eq_ofNat_of_zero_le h0
  have := and_low q 3 7 rfl (by omega) (by decide)
  rw [show ((7 : Nat) : Int) = 7 from rfl] at this
  rw [this, Nat.mod_eq_of_lt (by omega)]
theorem lv_most {m k k' : Int} {l : List Grant} (h : listB m l k = true) (hk : inB k' 0 7 = true) : listB m l k' = true := by
  rw [listB_iff] at h ⊢
  exact ⟨h.1, h.2.1, hk, h.2.2.2⟩
theorem lv_nil {m k : Int} {l : List Grant} (h : listB m l k = true) : listB m [] 7 = true := by
  rw [listB_iff] at h ⊢
  exact ⟨fun i t hi => by simp at hi, h.2.1, by decide, by simp⟩
theorem accM_t (g : Int) (l : List Grant) : ∀ n, accM g l true n = true
  | 0 => rfl
  | n + 1 => by
    unfold accM
    split
    · split
      · rfl
      · exact accM_t g l n
    · exact accM_t g l n
section
variable {m k r a s g u p : Int} {l : List Grant}
theorem lr_lt (h : lrF m l k r a s g u p < 0) : lrF m l k r a s g u p = -1 := by
  cases hb : listB m l k
  · exact lrF_lv hb
  rcases classF_cases r a s g u p with hc | hc | hc | hc
  · exact lrF_m1 hc
  · rw [lrF_0 hc.1 hb] at h ⊢; have := fld_b m 0; omega
  all_goals
    obtain ⟨h0, h7⟩ := inB_iff.1 (listB_iff.1 hb).2.2.1
    unfold lrF at h ⊢
    rw [hc.1] at h ⊢
    rw [if_neg (by decide), if_neg (by rw [hb]; decide), if_neg (by decide)] at h ⊢
    split
    · rename_i j hj
      rw [hj] at h
      dsimp only at h
      split
      · rename_i t ht
        rw [ht] at h
        have := and_le (x := t.rights) h0 h7
        dsimp only at h
        omega
      · rename_i ht
        rw [ht] at h
        dsimp only at h
        omega
    · rename_i hj
      rw [hj] at h
      dsimp only at h
      split at h
      · have := and_le (x := accR g l (if hasG g p = true then fld m 1 else 0) l.length) h0 h7
        omega
      · have := fld_b m 2
        omega
theorem lr_cls (h : ¬ lrF m l k r a s g u p < 0) : listB m l k = true ∧ inB (classF r a s g u p) 0 2 = true := by
  constructor
  · cases hb : listB m l k
    · exact absurd (by rw [lrF_lv hb]; decide) h
    · rfl
  · rcases classF_cases r a s g u p with hc | hc | hc | hc
    · exact absurd (by rw [lrF_m1 hc]; decide) h
    all_goals rw [hc.1]; decide
theorem lr_le (h : listB m l k = true) : lrF m l k r a s g u p ≤ 7 := by
  obtain ⟨h0, h7⟩ := inB_iff.1 (listB_iff.1 h).2.2.1
  unfold lrF
  split
  · omega
  split
  · omega
  split
  · exact (fld_b m 0).2
  split
  · split
    · rename_i t _
      have := and_le (x := t.rights) h0 h7
      omega
    · omega
  · split
    · have := and_le (x := accR g l (if hasG g p = true then fld m 1 else 0) l.length) h0 h7
      omega
    · exact (fld_b m 2).2
theorem lr_plain (h : listB m [] 7 = true) (hc : inB (classF r a s g u p) 0 2 = true) : lrF m [] 7 r a s g u p = fld m (classF r a s g u p) := by
  rcases classF_cases r a s g u p with h1 | h1 | h1 | h1
  · rw [h1] at hc; cases hc
  · rw [lrF_0 h1.1 h, h1.1]
  · rw [lrF_mem (b0 := true) h1.1 (by decide) h rfl h1.2.2 (r0 := fld m 1) (by simp) rfl, h1.1]
    exact and_7 (fld_b m 1).1 (fld_b m 1).2
  · rw [lrF_oth (b0 := false) h1.1 (by decide) h rfl h1.2.2 rfl, h1.1]
theorem lr_mask (h : listB m l 0 = true) (hc : inB (classF r a s g u p) 0 2 = true) : lrF m l 0 r a s g u p = 0 ∨ (lrF m l 0 r a s g u p = fld m (classF r a s g u p) ∧ classF r a s g u p ≠ 1) := by
  rcases classF_cases r a s g u p with h1 | h1 | h1 | h1
  · rw [h1] at hc; cases hc
  · right; rw [lrF_0 h1.1 h, h1.1]; exact ⟨rfl, by decide⟩
  · left
    unfold lrF
    rw [h1.1, if_neg (by decide), if_neg (by rw [h]; decide), if_neg (by decide), h1.2.2, accM_t]
    split
    · split
      · exact and_0 _
      · rfl
    · exact and_0 _
  · unfold lrF
    rw [h1.1, if_neg (by decide), if_neg (by rw [h]; decide), if_neg (by decide)]
    split
    · left
      split
      · exact and_0 _
      · rfl
    · split
      · left; exact and_0 _
      · right; exact ⟨rfl, by decide⟩
end
theorem RF_c (m c : Int) (hm : inB m 0 511 = true) (h2 : inB c 0 2 = true) (w : World) : Calls Try.prog 25 #[.int .i64 m, .int .i64 c] w fun e w' => e = .returned (.int .i64 (fld m c)) ∧ w = w' := by
  have hm2 : inB m 0 1023 = true := inB_iff.2 (by have := inB_iff.1 hm; omega)
  go_enter Try.func25, Try.ntmps25
  go_wp2_with (first | (go_at_call 52; refine (isMode_c _ _).mono ?_; rintro e w' ⟨rfl, rfl⟩; rw [hm2]) | (go_at_call 53; refine (within_c _ _ _ _).mono ?_; rintro e w' ⟨rfl, rfl⟩; rw [h2]) | (go_at_call 50; refine (rfImpl_c _ _ hm h2 _).mono ?_; rintro e w' ⟨rfl, rfl⟩))
  go_ret
  exact ⟨rfl, rfl⟩
set_option maxHeartbeats 4000000 in
theorem fnListRights_walk {w : World} (A : Option Addr) (n c : Nat) (h : InB w A n c) :
    Calls Try.prog 10 #[.slice A n c] w fun e w' => e = .returned (.bool true) ∧ Below w.heap.size w w' := by
  have hm := h.2.1
  unfold maxLen at hm
  have hc := h.1
  have H := hide h
  clear h
  by_cases h20 : 1048576 < n
  · go_enter Try.func10, Try.ntmps10
    go_wp2_with fail
    go_ret
    exact ⟨rfl, Below.refl _ _⟩
  go_enter Try.func10, Try.ntmps10
  go_wp2_with fail
  refine (gListRights_c A n c _ H.out).mono ?_
  rintro e w1 ⟨A, nl, cl, l, m, k2, cr, ca, cs, cg, u, p, rfl, hl, hn7, ho, hb1⟩
  have HLL := hide hl
  have b2 : Below w1.heap.size w1 ((w1.alloc (.cells #[.int .i64 m, .slice A nl cl, .int .i64 k2] 24)).alloc (.cells #[.int .i64 cr, .int .i64 ca, .int .i64 cs, .int .i64 cg] 45)) := below_alloc0 (below_alloc0 (Below.refl _ _) _) _
  have B := hide (hb1.trans (b2.mono hb1.size))
  have O := hide (ho.below b2)
  have L : Hid (LRow ((w1.alloc (.cells #[.int .i64 m, .slice A nl cl, .int .i64 k2] 24)).alloc (.cells #[.int .i64 cr, .int .i64 ca, .int .i64 cs, .int .i64 cg] 45)) w1.heap.size (.int .i64 m) (.slice A nl cl) (.int .i64 k2)) := (LRow.made w1 _ _ _).below (below_alloc0 (Below.refl _ _) _)
  have C : Hid (Row ((w1.alloc (.cells #[.int .i64 m, .slice A nl cl, .int .i64 k2] 24)).alloc (.cells #[.int .i64 cr, .int .i64 ca, .int .i64 cs, .int .i64 cg] 45)) (w1.heap.size + 1) 4 (rwl [.int .i64 cr, .int .i64 ca, .int .i64 cs, .int .i64 cg])) := by
    have := Row.madeL (w1.alloc (.cells #[.int .i64 m, .slice A nl cl, .int .i64 k2] 24)) 45 [.int .i64 cr, .int .i64 ca, .int .i64 cs, .int .i64 cg]
    exact hide (by simpa using this)
  clear hl ho hb1 b2
  go_wp2_with fail
  generalize (w1.alloc (.cells #[.int .i64 m, .slice A nl cl, .int .i64 k2] 24)).alloc (.cells #[.int .i64 cr, .int .i64 ca, .int .i64 cs, .int .i64 cg] 45) = w2 at *
  obtain ⟨lb, hlb⟩ : ∃ lb, lb = w1.heap.size := ⟨_, rfl⟩
  obtain ⟨cb, hcb⟩ : ∃ cb, cb = w1.heap.size + 1 := ⟨_, rfl⟩
  rw [← hcb] at C ⊢
  rw [← hlb] at L ⊢
  clear hlb hcb
  have HN := hide (show lrF m l k2 cr ca cs cg u p = lrF m l k2 cr ca cs cg u p from rfl)
  obtain ⟨N, hN⟩ : ∃ N, lrF m l k2 cr ca cs cg u p = N := ⟨_, rfl⟩
  have rL0 := L.out.c0
  have rL1 := L.out.c1
  have rL2 := L.out.c2
  have lL := L.out.lt
  have rC0 := C.out.cell (j := 0) rfl
  have rC1 := C.out.cell (j := 1) rfl
  have rC2 := C.out.cell (j := 2) rfl
  have rC3 := C.out.cell (j := 3) rfl
  have lC := C.out.lt
  have hcc := O.out.cap.1
  have hmx := O.out.cap.2
  refine (lrImpl_c m A nl cl k2 l cr ca cs cg u p (by omega) hcc hmx _ (O.out.ins HLL.out)).mono ?_
  rintro e w3 ⟨rfl, hb3⟩
  rw [hN]
  clear rL0 rL1 rL2 lL rC0 rC1 rC2 rC3 lC
  replace L := hide (L.out.below hb3)
  replace C := hide (C.out.below hb3 C.out.lt)
  replace O := hide (O.out.below hb3)
  replace B := hide (B.out.trans (hb3.mono B.out.size))
  clear hb3
  have rL0 := L.out.c0
  have rL1 := L.out.c1
  have rL2 := L.out.c2
  have lL := L.out.lt
  have rC0 := C.out.cell (j := 0) rfl
  have rC1 := C.out.cell (j := 1) rfl
  have rC2 := C.out.cell (j := 2) rfl
  have rC3 := C.out.cell (j := 3) rfl
  have lC := C.out.lt
  go_wp2_with fail
  refine (lrSpec_c m A nl cl k2 l cr ca cs cg u p (by omega) _ (O.out.ins HLL.out)).mono ?_
  rintro e w4 ⟨rfl, hb4⟩
  rw [hN]
  clear rL0 rL1 rL2 lL rC0 rC1 rC2 rC3 lC
  replace L := hide (L.out.below hb4)
  replace C := hide (C.out.below hb4 C.out.lt)
  replace O := hide (O.out.below hb4)
  replace B := hide (B.out.trans (hb4.mono B.out.size))
  clear hb4
  have rL0 := L.out.c0
  have rL1 := L.out.c1
  have rL2 := L.out.c2
  have lL := L.out.lt
  have rC0 := C.out.cell (j := 0) rfl
  have rC1 := C.out.cell (j := 1) rfl
  have rC2 := C.out.cell (j := 2) rfl
  have rC3 := C.out.cell (j := 3) rfl
  have lC := C.out.lt
  by_cases h0 : N < 0
  · have e1 : N = -1 := by rw [← hN] at h0 ⊢; exact lr_lt h0
    subst e1
    clear h0
    go_wp2_with fail
    refine (alive_c _).mono ?_
    rintro e w5 ⟨rfl, hb5⟩
    have B5 := hide (B.out.trans (hb5.mono B.out.size))
    dsimp only
    go_wp2_with fail
    go_ret
    exact ⟨rfl, B5.out⟩
  have HC := hide (lr_cls (by rw [hN]; exact h0))
  have HV := hide (inB_iff.2 (inB_iff.1 (listB_iff.1 HC.out.1).2.1))
  have h7 : N ≤ 7 := by rw [← hN]; exact lr_le HC.out.1
  go_wp2_with fail
  refine (lrImpl_c m none 0 0 7 [] cr ca cs cg u p (by omega) (by omega) (by decide) _ (inG_nil _)).mono ?_
  rintro e w5 ⟨rfl, hb5⟩
  rw [lr_plain (lv_nil HC.out.1) HC.out.2]
  clear rL0 rL1 rL2 lL rC0 rC1 rC2 rC3 lC
  replace L := hide (L.out.below hb5)
  replace C := hide (C.out.below hb5 C.out.lt)
  replace O := hide (O.out.below hb5)
  replace B := hide (B.out.trans (hb5.mono B.out.size))
  clear hb5
  have rL0 := L.out.c0
  have rL1 := L.out.c1
  have rL2 := L.out.c2
  have lL := L.out.lt
  have rC0 := C.out.cell (j := 0) rfl
  have rC1 := C.out.cell (j := 1) rfl
  have rC2 := C.out.cell (j := 2) rfl
  have rC3 := C.out.cell (j := 3) rfl
  have lC := C.out.lt
  go_wp2_with fail
  refine (lrImpl_c m A nl cl 0 l cr ca cs cg u p (by omega) hcc hmx _ (O.out.ins HLL.out)).mono ?_
  rintro e w6 ⟨rfl, hb6⟩
  clear rL0 rL1 rL2 lL rC0 rC1 rC2 rC3 lC
  replace L := hide (L.out.below hb6)
  replace C := hide (C.out.below hb6 C.out.lt)
  replace O := hide (O.out.below hb6)
  replace B := hide (B.out.trans (hb6.mono B.out.size))
  clear hb6
  have rL0 := L.out.c0
  have rL1 := L.out.c1
  have rL2 := L.out.c2
  have lL := L.out.lt
  have rC0 := C.out.cell (j := 0) rfl
  have rC1 := C.out.cell (j := 1) rfl
  have rC2 := C.out.cell (j := 2) rfl
  have rC3 := C.out.cell (j := 3) rfl
  have lC := C.out.lt
  go_wp2_with fail
  refine (classI_c cr ca cs cg u p _).mono ?_
  rintro e w7 ⟨rfl, hb7⟩
  clear rL0 rL1 rL2 lL rC0 rC1 rC2 rC3 lC
  replace L := hide (L.out.below hb7)
  replace C := hide (C.out.below hb7 C.out.lt)
  replace O := hide (O.out.below hb7)
  replace B := hide (B.out.trans (hb7.mono B.out.size))
  clear hb7
  have rL0 := L.out.c0
  have rL1 := L.out.c1
  have rL2 := L.out.c2
  have lL := L.out.lt
  have rC0 := C.out.cell (j := 0) rfl
  have rC1 := C.out.cell (j := 1) rfl
  have rC2 := C.out.cell (j := 2) rfl
  have rC3 := C.out.cell (j := 3) rfl
  have lC := C.out.lt
  have HM := hide (lr_mask (u := u) (p := p) (r := cr) (a := ca) (s := cs) (g := cg) (lv_most (k' := 0) HC.out.1 (by decide)) HC.out.2)
  generalize lrF m l 0 cr ca cs cg u p = M at HM ⊢
  generalize classF cr ca cs cg u p = K at HC HM ⊢
  have HC2 := hide HC.out.2
  clear HC hN HN
  generalize hF : fld m K = F at HM ⊢
  go_wp2_with fail
  refine (RF_c m K HV.out HC2.out _).mono ?_
  rintro e w8 ⟨rfl, rfl⟩
  rw [hF]
  dsimp only
  by_cases hM : M = 0
  · subst hM
    go_wp2_with fail
    go_ret
    exact ⟨rfl, B.out⟩
  obtain ⟨hM1, hK1⟩ := HM.out.resolve_left hM
  subst hM1
  go_wp2_with fail
  refine (RF_c m K HV.out HC2.out _).mono ?_
  rintro e w8 ⟨rfl, rfl⟩
  rw [hF]
  dsimp only
  go_wp2_with fail
  rw [show (M == 0 || K != 1) = true by simp [hK1]]
  go_ret
  exact ⟨rfl, B.out⟩
end Go.Proofs.Ytpifnfhgaemdmaa
