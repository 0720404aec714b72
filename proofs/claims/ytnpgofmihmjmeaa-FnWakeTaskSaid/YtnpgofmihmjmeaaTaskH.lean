/-
  The law of WakeTask over drawn tasks. No condition.
-/
import Derived.Test.YtnpgofmihmjmeaaProg
import Derived.Test.YtnpgofmihmjmeaaTaskG
import Derived.Test.YtnpgofmihmjmeaaFlow3
namespace Go.Proofs.Ytnpgofmihmjmeaa
open Go.RowKit
set_option linter.unusedSimpArgs false
set_option linter.unusedVariables false

theorem num_bd {x y : Int} (hx0 : 0 ≤ x) (hx : x < 7) (hy0 : 0 ≤ y) (hy : y < 14) : IntKind.i64.wrap (x - IntKind.i64.wrap (y.tdiv 13)) = x - y / 13 ∧ 0 ≤ y / 13 ∧ y / 13 ≤ 1 := by
  have e : y.tdiv 13 = y / 13 := Int.tdiv_eq_ediv_of_nonneg hy0
  rw [e, IntWalk.i64_in (y / 13) (by omega), IntWalk.i64_in _ (by omega)]
  exact ⟨rfl, by omega, by omega⟩
set_option maxHeartbeats 1000000 in
theorem gWakeTask_c (A : Option Addr) (n c : Nat) (w : World) (h : InB w A n c) : Calls Try.prog 21 #[.slice A n c] w (GotTN w) := by
  have H := hide h
  clear h
  go_enter Try.func21, Try.ntmps21
  go_wp2_with fail
  refine (open_c A n c _ H.out).mono ?_
  rintro e w1 ⟨r, rfl, hr, hrd, hb1⟩
  go_wp2_with fail
  refine (drawTasks_c w1.heap.size r 0 9 _ (by omega) (by omega) (by omega) hrd).mono ?_
  rintro e w2 ⟨g, cap, l, rfl, hg, hR, h6, hc1, hc2, hs, ha⟩
  have hz := hs.size
  go_wp2_with fail
  refine (pick_s w1 w1.heap.size r _ 7 _ (by omega) (by omega) ?_ hs).mono ?_
  · omega
  rintro e w3 ⟨x, rfl, x0, x1, hs3, ha3⟩
  go_wp2_with fail
  refine (pick_s w1 w1.heap.size r _ 14 _ (by omega) (by omega) ?_ hs3).mono ?_
  · omega
  rintro e w4 ⟨y, rfl, y0, y1, hs4, ha4⟩
  have hR3 : RdTask w4 g 0 l := by
    have a24 := ha3.trans ha4
    refine ⟨Nat.lt_of_lt_of_le hR.1 a24.1.size, fun k t ht => ?_⟩
    obtain ⟨c0, c1, c2⟩ := hR.2 k t ht
    exact ⟨(a24.cell hR.1 (by omega) _).trans c0, (a24.cell hR.1 (by omega) _).trans c1, (a24.cell hR.1 (by omega) _).trans c2⟩
  have hb4 : Below w.heap.size w w4 := hs4.2.1.below hb1 hr hb1.size
  go_wp2_with fail
  exact bodyPost_ret (v := .tuple #[.slice (some ⟨g, 0, none⟩) l.length cap, .int .i64 (x - y / 13)]) (by simp [results, Try.results21, go_sem]) rfl ⟨g, cap, l, _, rfl, hR3, h6, hc1, hc2, by omega, by omega, hb4⟩

set_option maxHeartbeats 1000000 in
/-- Two slices that read as one list are the same. -/
theorem sameT_c (b off c b' off' c' n : Nat) (l : List Task) (hl : l.length = n) (hn : n ≤ 1048576) (w : World) (hR : RdTask w b off l) (hR' : RdTask w b' off' l) :
    Calls Try.prog 24 #[.slice (some ⟨b, off, none⟩) n c, .slice (some ⟨b', off', none⟩) n c'] w fun e w' => e = .returned (.bool true) ∧ Below w.heap.size w w' := by
  go_enter Try.func24, Try.ntmps24
  go_wp2_with fail
  go_loopw [5] (fun i wr => ∃ k : Nat, k ≤ n ∧ i = .int .i64 k ∧ Below w.heap.size w wr) (fun i _ => n - (intOf i).toNat)
  case atStart => exact ⟨0, by omega, rfl, Below.refl _ _⟩
  case round =>
    obtain ⟨k, hk, rfl, hbel⟩ := hrel
    by_cases hlt : k < n
    · obtain ⟨t, ht⟩ : ∃ t, l[k]? = some t := ⟨_, List.getElem?_eq_getElem (by omega)⟩
      have c0 := (hR.below hbel).2 k t ht
      have c1 := (hR'.below hbel).2 k t ht
      clear ht
      go_wp2_with fail
      go_quiet (fail)
      go_wp2
      exact ⟨⟨k + 1, by omega, by go_num, (by repeat' (first | exact Below.refl _ _ | assumption | exact And.left (by assumption) | omega | (simp; done) | (simp; omega) | (simp at *; omega) | (refine Below.setCell ?_ ?_ _) | (refine below_alloc0 ?_ _) | (refine Below.drew ?_) | (refine below_drewN ?_ _) | (refine below_via0 ?_ (by assumption)) | (refine Below.alloc ?_ ?_ _) | (refine below_via ?_ (by assumption) ?_)))⟩, by simp [intOf]; omega⟩
    · obtain rfl : k = n := by omega
      go_wp2
      go_ret
      exact ⟨rfl, (by repeat' (first | exact Below.refl _ _ | assumption | exact And.left (by assumption) | omega | (simp; done) | (simp; omega) | (simp at *; omega) | (refine Below.setCell ?_ ?_ _) | (refine below_alloc0 ?_ _) | (refine Below.drew ?_) | (refine below_drewN ?_ _) | (refine below_via0 ?_ (by assumption)) | (refine Below.alloc ?_ ?_ _) | (refine below_via ?_ (by assumption) ?_)))⟩
theorem sameT_0 (A A' : Option Addr) (c c' : Nat) (w : World) :
    Calls Try.prog 24 #[.slice A (0 : Nat) c, .slice A' (0 : Nat) c'] w fun e w' => e = .returned (.bool true) ∧ Below w.heap.size w w' := by
  go_enter Try.func24, Try.ntmps24
  go_wp2_with fail
  go_loopw [5] (fun i wr => i = .int .i64 0 ∧ Below w.heap.size w wr) (fun i _ => 0)
  case atStart => exact ⟨rfl, Below.refl _ _⟩
  case round =>
    obtain ⟨rfl, hbel⟩ := hrel
    go_wp2
    go_ret
    exact ⟨rfl, (by repeat' (first | exact Below.refl _ _ | assumption | exact And.left (by assumption) | omega | (simp; done) | (simp; omega) | (simp at *; omega) | (refine Below.setCell ?_ ?_ _) | (refine below_alloc0 ?_ _) | (refine Below.drew ?_) | (refine below_drewN ?_ _) | (refine below_via0 ?_ (by assumption)) | (refine Below.alloc ?_ ?_ _) | (refine below_via ?_ (by assumption) ?_)))⟩
/-- A list against a shorter or longer one: no panic, whatever comes out. -/
theorem sameT_ne (A A' : Option Addr) (n n' c c' : Nat) (h : n ≠ n') (w : World) :
    Calls Try.prog 24 #[.slice A n c, .slice A' n' c'] w fun e w' => e = .returned (.bool false) ∧ Below w.heap.size w w' := by
  have hd : ((n : Int) != (n' : Int)) = true := by rw [bne_iff_ne]; omega
  go_enter Try.func24, Try.ntmps24
  go_wp2
  go_ret
  exact ⟨rfl, (by repeat' (first | exact Below.refl _ _ | assumption | exact And.left (by assumption) | omega | (simp; done) | (simp; omega) | (simp at *; omega) | (refine Below.setCell ?_ ?_ _) | (refine below_alloc0 ?_ _) | (refine Below.drew ?_) | (refine below_drewN ?_ _) | (refine below_via0 ?_ (by assumption)) | (refine Below.alloc ?_ ?_ _) | (refine below_via ?_ (by assumption) ?_)))⟩

theorem wake_facts {l L : List Task} {q : Int} (hv : tasksB l = true) (h : wakeQ l q = (L, true)) :
    ∃ (p : Nat) (t : Task), q = p ∧ p < l.length ∧ l[p]? = some t ∧ L[p]? = some (wakeT l t) ∧ L.length = l.length ∧ tasksB L = true ∧ t.had ≤ (wakeT l t).had ∧ (wakeT l t).waits = false ∧
      (nextTo l l.length = -1 ∨ ∃ (k : Nat) (s : Task), nextTo l l.length = k ∧ k < l.length ∧ L[k]? = some s ∧ s.had ≤ (wakeT l t).had) := by
  unfold wakeQ at h
  split at h
  · rename_i t ht
    split at h
    · rename_i hc
      simp only [Prod.mk.injEq, and_true] at h
      subst h
      obtain ⟨p, rfl⟩ := Int.eq_ofNat_of_zero_le hc.1
      simp only [Int.toNat_natCast] at ht ⊢
      have hpl := (List.getElem?_eq_some_iff.1 ht).1
      have hL : (l.set p (wakeT l t))[p]? = some (wakeT l t) := List.getElem?_set_self hpl
      have hT := (tasksB_iff.1 hv).1 p t hpl ht
      have hT2 := inB_iff.1 hT.2
      have hh : t.had ≤ (wakeT l t).had ∧ (wakeT l t).had ≤ 1000000 ∧ (∀ (k : Nat) (s : Task), nextTo l l.length = k → l[k]? = some s → s.had ≤ (wakeT l t).had) := by
        rcases nextTo_least l l.length (Nat.le_refl _) with ⟨h1, _⟩ | ⟨k, s, h1, h2, h3, _⟩
        · have : ¬ (0 ≤ nextTo l l.length) := by omega
          refine ⟨by simp [wakeT, this], by simp [wakeT, this]; omega, fun k s hk => by omega⟩
        · have h0 : 0 ≤ nextTo l l.length := by omega
          have e : hadAt l (nextTo l l.length) = s.had := by simp [hadAt, h1, h3]
          have hS := inB_iff.1 ((tasksB_iff.1 hv).1 k s h2 h3).2
          refine ⟨by simp only [wakeT, h0, if_true, e]; omega, by simp only [wakeT, h0, if_true, e]; omega, fun k' s' hk' hs' => ?_⟩
          obtain rfl : k' = k := by omega
          obtain rfl : s' = s := by simpa using hs'.symm.trans h3
          simp only [wakeT, h0, if_true, e]; omega
      refine ⟨p, t, rfl, hpl, ht, hL, by simp, ?_, hh.1, rfl, ?_⟩
      · rw [tasksB_iff] at hv ⊢
        refine ⟨fun i s hi hs => ?_, by simpa using hv.2⟩
        by_cases e : i = p
        · subst e
          rw [hL] at hs
          cases hs
          exact ⟨hT.1, inB_iff.2 ⟨by omega, hh.2.1⟩⟩
        · rw [List.getElem?_set_ne (fun x => e x.symm)] at hs
          exact hv.1 i s (by simpa using hi) hs
      · rcases nextTo_least l l.length (Nat.le_refl _) with ⟨h1, _⟩ | ⟨k, s, h1, h2, h3, _⟩
        · exact .inl h1
        · by_cases e : k = p
          · subst e; exact .inr ⟨k, wakeT l t, h1, h2, hL, Int.le_refl _⟩
          · exact .inr ⟨k, s, h1, h2, by rw [List.getElem?_set_ne (fun x => e x.symm)]; exact h3, hh.2.2 k s h1 h3⟩
    · simp at h
  · simp at h
theorem wakeQ_no {l L : List Task} {q : Int} (h : wakeQ l q = (L, false)) : L = l := by
  unfold wakeQ at h
  split at h
  · split at h
    · simp at h
    · simp only [Prod.mk.injEq, and_true] at h; exact h.symm
  · simp only [Prod.mk.injEq, and_true] at h; exact h.symm
def wakeV (gx g n cx cap p : Nat) (uh th : Int) (i : Nat) : Value :=
  match i with
  | 0 => .slice (some ⟨gx, 0, none⟩) n cx
  | 1 => .bool true
  | 2 => .bool true
  | 3 => .slice (some ⟨gx, 0, none⟩) n cx
  | 4 => .int .i64 p
  | 5 => .pointer (some ⟨gx, p * 3, none⟩)
  | 6 => .pointer (some ⟨gx, p * 3 + 2, none⟩)
  | 7 => .bool false
  | 8 => .bool true
  | 9 => .bool true
  | 10 => .bool true
  | 11 => .slice (some ⟨gx, 0, none⟩) n cx
  | 12 => .int .i64 p
  | 13 => .pointer (some ⟨gx, p * 3, none⟩)
  | 14 => .pointer (some ⟨gx, p * 3 + 1, none⟩)
  | 15 => .int .i64 uh
  | 16 => .slice (some ⟨g, 0, none⟩) n cap
  | 17 => .int .i64 p
  | 18 => .pointer (some ⟨g, p * 3, none⟩)
  | 19 => .pointer (some ⟨g, p * 3 + 1, none⟩)
  | 20 => .int .i64 th
  | 21 => .bool true
  | 22 => .bool true
  | 23 => .bool true
  | 24 => .int .i64 (-1)
  | 25 => .bool true
  | 26 => .bool true
  | 27 => undef
  | 28 => undef
  | 29 => undef
  | 30 => undef
  | 31 => undef
  | 32 => undef
  | 33 => undef
  | 34 => undef
  | 35 => undef
  | 36 => undef
  | 37 => undef
  | 38 => .bool true
  | 39 => .bool true
  | _ => .bool true
theorem want_yes {c : Bool} {A B : Prop} (h : c = true) (a : A) : (if c = true then A else B) := by rw [if_pos h]; exact a
theorem want_no {c : Bool} {A B : Prop} (h : c = false) (b : B) : (if c = true then A else B) := by rw [h]; exact b
set_option maxRecDepth 100000 in
set_option maxHeartbeats 8000000 in
theorem fnWakeTask_walk {w : World} (A : Option Addr) (n c : Nat) (h : InB w A n c) :
    Calls Try.prog 7 #[.slice A n c] w fun e w' => e = .returned (.bool true) ∧ Below w.heap.size w w' := by
  have hm := h.2.1
  unfold maxLen at hm
  have hc := h.1
  have H := hide h
  clear h
  by_cases h20 : 1048576 < n
  · go_enter Try.func7, Try.ntmps7
    go_wp2_with fail
    go_ret
    exact ⟨rfl, Below.refl _ _⟩
  · go_enter Try.func7, Try.ntmps7
    go_wp2_with fail
    refine (gWakeTask_c A n c _ H.out).mono ?_
    rintro e w1 ⟨g, cap, l, q, rfl, hR, h6, hcl, hcm, q1, q2, hb1⟩
    unfold maxLen at hcm
    cases hv : tasksB l with
    | false =>
      have HV := hide hv
      go_wp2_with fail
      refine (wakeImpl_no _ _ _ _ l rfl (by omega) q _ hR hv).mono ?_
      clear hv
      rintro e w2 ⟨rfl, hb2⟩
      have B2 := below_via0 hb1 hb2
      have hR2 := hR.below hb2
      go_wp2_with fail
      refine (wakeSpec_no _ _ _ _ l rfl (by omega) q _ hR2 HV.out).mono ?_
      rintro e w3 ⟨⟨gw, rfl, hgw, hgw'⟩, hb3⟩
      have B3 := below_via0 B2 hb3
      have hR3 := hR2.below hb3
      go_wp2_with fail
      refine (sameT_0 _ _ _ _ _).mono ?_
      rintro e w4 ⟨rfl, hb4⟩
      have B4 := below_via0 B3 hb4
      by_cases hl0 : l.length = 0
      · go_wp2_with fail
        refine (sameT_0 _ _ _ _ _).mono ?_
        rintro e w5 ⟨rfl, hb5⟩
        have B5 := below_via0 B4 hb5
        go_wp2_with (go_at_call 17; refine (alive_c _).mono ?_; rintro e w6 ⟨rfl, hb6⟩; have B6 := below_via0 B5 hb6)
        go_ret
        exact ⟨rfl, B6⟩
      · go_wp2_with fail
        refine (sameT_ne _ _ 0 _ _ _ (fun e => hl0 e.symm) _).mono ?_
        rintro e w5 ⟨rfl, hb5⟩
        have B5 := below_via0 B4 hb5
        go_wp2_with (go_at_call 17; refine (alive_c _).mono ?_; rintro e w6 ⟨rfl, hb6⟩; have B6 := below_via0 B5 hb6)
        go_ret
        exact ⟨rfl, B6⟩
    | true =>
      have HV := hide hv
      have CI := hide (fun w hR => wakeImpl_c g 0 l.length cap l rfl (by omega) q w hR hv)
      have CS := hide (fun w hR => wakeSpec_c g 0 l.length cap l rfl (by omega) q w hR hv)
      obtain ⟨L, B, hQ⟩ : ∃ L B, wakeQ l q = (L, B) := ⟨_, _, rfl⟩
      have HLL := hide (show L.length = l.length by have := wakeQ_len l q; rw [hQ] at this; exact this)
      rw [hQ] at CI CS
      clear hv
      cases B with
      | false =>
        obtain rfl := wakeQ_no hQ
        clear hQ
        go_wp2_with fail
        refine (CI.out _ hR).mono ?_
        rintro e w2 ⟨_, rfl, ⟨gx, cx, mx, rfl, hgx, hcx, hmx, hrx⟩, hb2⟩
        have B2 := below_via0 hb1 hb2
        have hR2 := hR.below hb2
        have hX2 := RdT_of_row hrx rfl
        clear hrx
        go_wp2_with fail
        refine (CS.out _ hR2).mono ?_
        rintro e w3 ⟨_, rfl, ⟨gy, cy, my, rfl, hgy, hcy, hmy, hry⟩, hb3⟩
        have B3 := below_via0 B2 hb3
        have hR3 := hR2.below hb3
        have hX3 := hX2.below hb3
        have hY3 := RdT_of_row hry rfl
        clear hry
        go_wp2_with fail
        refine (sameT_c _ _ _ _ _ _ _ L rfl (by omega) _ hX3 hY3).mono ?_
        rintro e w4 ⟨rfl, hb4⟩
        have B4 := below_via0 B3 hb4
        have hR4 := hR3.below hb4
        have hX4 := hX3.below hb4
        go_wp2_with fail
        refine (sameT_c _ _ _ _ _ _ _ L rfl (by omega) _ hX4 hR4).mono ?_
        rintro e w5 ⟨rfl, hb5⟩
        have B5 := below_via0 B4 hb5
        go_wp2_with (go_at_call 17; refine (alive_c _).mono ?_; rintro e w6 ⟨rfl, hb6⟩; have B6 := below_via0 B5 hb6)
        go_ret
        exact ⟨rfl, B6⟩
      | true =>
        obtain ⟨p, t, rfl, hpl, ht, hLt, hLl, hvL, hhad, hwt, hleast⟩ := wake_facts HV.out hQ
        have HT := hide ht
        have HLT := hide hLt
        have HVL := hide hvL
        have IB := hide (nextB_c g 0 l.length cap l rfl (by omega))
        have hnb : nextB l = nextTo l l.length := by have := HV.out; simp [nextB, this]
        rw [hnb] at IB
        clear hnb ht hLt hLl hvL hQ
        have pp : (p : Int) < l.length := by omega
        generalize hwk : wakeT l t = u at *
        have HWK := hide hwk
        clear hwk
        go_wp2_with fail
        refine (CI.out _ hR).mono ?_
        rintro e w2 ⟨_, rfl, ⟨gx, cx, mx, rfl, hgx, hcx, hmx, hrx⟩, hb2⟩
        have B2 := below_via0 hb1 hb2
        have hR2 := hR.below hb2
        have hX2 := RdT_of_row hrx HLL.out
        clear hrx
        go_wp2_with fail
        refine (CS.out _ hR2).mono ?_
        rintro e w3 ⟨_, rfl, ⟨gy, cy, my, rfl, hgy, hcy, hmy, hry⟩, hb3⟩
        have B3 := below_via0 B2 hb3
        have hR3 := hR2.below hb3
        have hX3 := hX2.below hb3
        have hY3 := RdT_of_row hry HLL.out
        clear hry
        go_wp2_with fail
        refine (sameT_c _ _ _ _ _ _ _ L HLL.out (by omega) _ hX3 hY3).mono ?_
        rintro e w4 ⟨rfl, hb4⟩
        have B4 := below_via0 B3 hb4
        have hR4 := hR3.below hb4
        have hX4 := hX3.below hb4
        go_wp2_with fail
        refine (IB.out _ hR4).mono ?_
        rintro e w5 ⟨rfl, hb5⟩
        have B5 := below_via0 B4 hb5
        have hR5 := hR4.below hb5
        have hX5 := hX4.below hb5
        have xu := hX5.2 p u HLT.out
        have xt := hR5.2 p t HT.out
        have gx5 := hX5.1
        have gg5 := hR5.1
        simp only [Nat.zero_add, hwt] at xu xt
        obtain ⟨xu0, xu1, xu2⟩ := xu
        obtain ⟨xt0, xt1, xt2⟩ := xt
        have hge : decide (t.had ≤ u.had) = true := by simpa using hhad
        clear xu0 xt0 xt2 CI CS IB
        rcases hleast with hle | ⟨k, s, hle, hkl, hLk, hsu⟩
        · rw [hle]
          clear hle
          go_wp2_with fail
          refine wp_flowG (os := [_, _, _, _, _, _, _, _, _, _, _, _, _, _, _, _, _, _, _, _, _, _, _, _, _, _, _, _, _, _, _, _, _, _, _, _, _, _, _, _, _]) (fun c W => Below w5.heap.size w5 W) (fun _ _ => True) (fun i v _ _ => v = wakeV gx g l.length cx cap p u.had t.had i) 41 rfl ?_ ?_ ?_ (fun i v vs w1 w2 h _ => h) ?_ ?_ ?_
          · kernel_rfl
          · kernel_rfl
          · kernel_rfl
          · exact (Below.refl _ _).drew
          ·
            refine FlowStepsG.step 41 1 (by kernel_rfl) rfl ?_ ?_
            ·
              intro c ρ W hc hS hd K hK
              simp only [putFrom, vals, List.map_cons, List.map_nil, Act.put, List.setIfInBounds_toArray, List.set_cons_zero, List.set_cons_succ, Nat.reduceAdd] at hK ⊢
              clear hd
              refine want_yes rfl ?_
              go_simp
              exact hK.out _ _ rfl hS trivial
            refine FlowStepsG.step 41 2 (by kernel_rfl) rfl ?_ ?_
            ·
              intro c ρ W hc hS hd K hK
              simp only [putFrom, vals, List.map_cons, List.map_nil, Act.put, List.setIfInBounds_toArray, List.set_cons_zero, List.set_cons_succ, Nat.reduceAdd] at hK ⊢
              have d0 := hd.out ⟨0, .data⟩ (by simp) (by decide)
              simp only [wakeV] at d0
              generalize ρ 0 = x0 at d0 hK ⊢
              subst d0
              clear hd
              refine want_yes rfl ?_
              go_wp2_with (go_at_call 14; refine (implT_c _ _ _ _ L HLL.out (by omega) _ (hX5.below hS)).mono ?_; rintro e w6 ⟨rfl, hb6⟩; rw [HVL.out])
              exact hK.out (.bool true) w6 rfl (hS.trans (hb6.mono hS.size)) trivial
            refine FlowStepsG.step 41 3 (by kernel_rfl) rfl ?_ ?_
            ·
              intro c ρ W hc hS hd K hK
              simp only [putFrom, vals, List.map_cons, List.map_nil, Act.put, List.setIfInBounds_toArray, List.set_cons_zero, List.set_cons_succ, Nat.reduceAdd] at hK ⊢
              have d1 := hd.out ⟨1, .data⟩ (by simp) (by decide)
              simp only [wakeV] at d1
              generalize ρ 1 = x1 at d1 hK ⊢
              subst d1
              clear hd
              refine want_yes rfl ?_
              go_simp
              exact hK.out _ _ rfl hS trivial
            refine FlowStepsG.step 41 4 (by kernel_rfl) rfl ?_ ?_
            ·
              intro c ρ W hc hS hd K hK
              simp only [putFrom, vals, List.map_cons, List.map_nil, Act.put, List.setIfInBounds_toArray, List.set_cons_zero, List.set_cons_succ, Nat.reduceAdd] at hK ⊢
              have d2 := hd.out ⟨2, .guard⟩ (by simp) (by decide)
              simp only [wakeV] at d2
              generalize ρ 2 = x2 at d2 hK ⊢
              subst d2
              clear hd
              refine want_yes rfl ?_
              go_simp
              exact hK.out _ _ rfl hS trivial
            refine FlowStepsG.step 41 5 (by kernel_rfl) rfl ?_ ?_
            ·
              intro c ρ W hc hS hd K hK
              simp only [putFrom, vals, List.map_cons, List.map_nil, Act.put, List.setIfInBounds_toArray, List.set_cons_zero, List.set_cons_succ, Nat.reduceAdd] at hK ⊢
              have d2 := hd.out ⟨2, .guard⟩ (by simp) (by decide)
              simp only [wakeV] at d2
              generalize ρ 2 = x2 at d2 hK ⊢
              subst d2
              clear hd
              refine want_yes rfl ?_
              go_simp
              exact hK.out _ _ rfl hS trivial
            refine FlowStepsG.step 41 6 (by kernel_rfl) rfl ?_ ?_
            ·
              intro c ρ W hc hS hd K hK
              simp only [putFrom, vals, List.map_cons, List.map_nil, Act.put, List.setIfInBounds_toArray, List.set_cons_zero, List.set_cons_succ, Nat.reduceAdd] at hK ⊢
              have d3 := hd.out ⟨3, .data⟩ (by simp) (by decide)
              simp only [wakeV] at d3
              generalize ρ 3 = x3 at d3 hK ⊢
              subst d3
              have d4 := hd.out ⟨4, .data⟩ (by simp) (by decide)
              simp only [wakeV] at d4
              generalize ρ 4 = x4 at d4 hK ⊢
              subst d4
              have d2 := hd.out ⟨2, .guard⟩ (by simp) (by decide)
              simp only [wakeV] at d2
              generalize ρ 2 = x2 at d2 hK ⊢
              subst d2
              clear hd
              refine want_yes rfl ?_
              go_simp
              exact hK.out _ _ rfl hS trivial
            refine FlowStepsG.step 41 7 (by kernel_rfl) rfl ?_ ?_
            ·
              intro c ρ W hc hS hd K hK
              simp only [putFrom, vals, List.map_cons, List.map_nil, Act.put, List.setIfInBounds_toArray, List.set_cons_zero, List.set_cons_succ, Nat.reduceAdd] at hK ⊢
              have d5 := hd.out ⟨5, .data⟩ (by simp) (by decide)
              simp only [wakeV] at d5
              generalize ρ 5 = x5 at d5 hK ⊢
              subst d5
              have d2 := hd.out ⟨2, .guard⟩ (by simp) (by decide)
              simp only [wakeV] at d2
              generalize ρ 2 = x2 at d2 hK ⊢
              subst d2
              clear hd
              refine want_yes rfl ?_
              go_simp
              exact hK.out _ _ rfl hS trivial
            refine FlowStepsG.step 41 8 (by kernel_rfl) rfl ?_ ?_
            ·
              intro c ρ W hc hS hd K hK
              simp only [putFrom, vals, List.map_cons, List.map_nil, Act.put, List.setIfInBounds_toArray, List.set_cons_zero, List.set_cons_succ, Nat.reduceAdd] at hK ⊢
              have d6 := hd.out ⟨6, .data⟩ (by simp) (by decide)
              simp only [wakeV] at d6
              generalize ρ 6 = x6 at d6 hK ⊢
              subst d6
              have d2 := hd.out ⟨2, .guard⟩ (by simp) (by decide)
              simp only [wakeV] at d2
              generalize ρ 2 = x2 at d2 hK ⊢
              subst d2
              clear hd
              refine want_yes rfl ?_
              have e1 := (hS.cell (p := ⟨gx, p * 3 + 2, none⟩) gx5).trans xu2
              go_simp
              exact hK.out _ _ rfl hS trivial
            refine FlowStepsG.step 41 9 (by kernel_rfl) rfl ?_ ?_
            ·
              intro c ρ W hc hS hd K hK
              simp only [putFrom, vals, List.map_cons, List.map_nil, Act.put, List.setIfInBounds_toArray, List.set_cons_zero, List.set_cons_succ, Nat.reduceAdd] at hK ⊢
              have d7 := hd.out ⟨7, .data⟩ (by simp) (by decide)
              simp only [wakeV] at d7
              generalize ρ 7 = x7 at d7 hK ⊢
              subst d7
              have d2 := hd.out ⟨2, .guard⟩ (by simp) (by decide)
              simp only [wakeV] at d2
              generalize ρ 2 = x2 at d2 hK ⊢
              subst d2
              clear hd
              refine want_yes rfl ?_
              go_simp
              exact hK.out _ _ rfl hS trivial
            refine FlowStepsG.step 41 10 (by kernel_rfl) rfl ?_ ?_
            ·
              intro c ρ W hc hS hd K hK
              simp only [putFrom, vals, List.map_cons, List.map_nil, Act.put, List.setIfInBounds_toArray, List.set_cons_zero, List.set_cons_succ, Nat.reduceAdd] at hK ⊢
              have d2 := hd.out ⟨2, .data⟩ (by simp) (by decide)
              simp only [wakeV] at d2
              generalize ρ 2 = x2 at d2 hK ⊢
              subst d2
              have d8 := hd.out ⟨8, .data⟩ (by simp) (by decide)
              simp only [wakeV] at d8
              generalize ρ 8 = x8 at d8 hK ⊢
              subst d8
              clear hd
              refine want_yes rfl ?_
              go_simp
              exact hK.out _ _ rfl hS trivial
            refine FlowStepsG.step 41 11 (by kernel_rfl) rfl ?_ ?_
            ·
              intro c ρ W hc hS hd K hK
              simp only [putFrom, vals, List.map_cons, List.map_nil, Act.put, List.setIfInBounds_toArray, List.set_cons_zero, List.set_cons_succ, Nat.reduceAdd] at hK ⊢
              have d9 := hd.out ⟨9, .data⟩ (by simp) (by decide)
              simp only [wakeV] at d9
              generalize ρ 9 = x9 at d9 hK ⊢
              subst d9
              clear hd
              refine want_yes rfl ?_
              go_simp
              exact hK.out _ _ rfl hS trivial
            refine FlowStepsG.step 41 12 (by kernel_rfl) rfl ?_ ?_
            ·
              intro c ρ W hc hS hd K hK
              simp only [putFrom, vals, List.map_cons, List.map_nil, Act.put, List.setIfInBounds_toArray, List.set_cons_zero, List.set_cons_succ, Nat.reduceAdd] at hK ⊢
              have d10 := hd.out ⟨10, .guard⟩ (by simp) (by decide)
              simp only [wakeV] at d10
              generalize ρ 10 = x10 at d10 hK ⊢
              subst d10
              clear hd
              refine want_yes rfl ?_
              go_simp
              exact hK.out _ _ rfl hS trivial
            refine FlowStepsG.step 41 13 (by kernel_rfl) rfl ?_ ?_
            ·
              intro c ρ W hc hS hd K hK
              simp only [putFrom, vals, List.map_cons, List.map_nil, Act.put, List.setIfInBounds_toArray, List.set_cons_zero, List.set_cons_succ, Nat.reduceAdd] at hK ⊢
              have d10 := hd.out ⟨10, .guard⟩ (by simp) (by decide)
              simp only [wakeV] at d10
              generalize ρ 10 = x10 at d10 hK ⊢
              subst d10
              clear hd
              refine want_yes rfl ?_
              go_simp
              exact hK.out _ _ rfl hS trivial
            refine FlowStepsG.step 41 14 (by kernel_rfl) rfl ?_ ?_
            ·
              intro c ρ W hc hS hd K hK
              simp only [putFrom, vals, List.map_cons, List.map_nil, Act.put, List.setIfInBounds_toArray, List.set_cons_zero, List.set_cons_succ, Nat.reduceAdd] at hK ⊢
              have d11 := hd.out ⟨11, .data⟩ (by simp) (by decide)
              simp only [wakeV] at d11
              generalize ρ 11 = x11 at d11 hK ⊢
              subst d11
              have d12 := hd.out ⟨12, .data⟩ (by simp) (by decide)
              simp only [wakeV] at d12
              generalize ρ 12 = x12 at d12 hK ⊢
              subst d12
              have d10 := hd.out ⟨10, .guard⟩ (by simp) (by decide)
              simp only [wakeV] at d10
              generalize ρ 10 = x10 at d10 hK ⊢
              subst d10
              clear hd
              refine want_yes rfl ?_
              go_simp
              exact hK.out _ _ rfl hS trivial
            refine FlowStepsG.step 41 15 (by kernel_rfl) rfl ?_ ?_
            ·
              intro c ρ W hc hS hd K hK
              simp only [putFrom, vals, List.map_cons, List.map_nil, Act.put, List.setIfInBounds_toArray, List.set_cons_zero, List.set_cons_succ, Nat.reduceAdd] at hK ⊢
              have d13 := hd.out ⟨13, .data⟩ (by simp) (by decide)
              simp only [wakeV] at d13
              generalize ρ 13 = x13 at d13 hK ⊢
              subst d13
              have d10 := hd.out ⟨10, .guard⟩ (by simp) (by decide)
              simp only [wakeV] at d10
              generalize ρ 10 = x10 at d10 hK ⊢
              subst d10
              clear hd
              refine want_yes rfl ?_
              go_simp
              exact hK.out _ _ rfl hS trivial
            refine FlowStepsG.step 41 16 (by kernel_rfl) rfl ?_ ?_
            ·
              intro c ρ W hc hS hd K hK
              simp only [putFrom, vals, List.map_cons, List.map_nil, Act.put, List.setIfInBounds_toArray, List.set_cons_zero, List.set_cons_succ, Nat.reduceAdd] at hK ⊢
              have d14 := hd.out ⟨14, .data⟩ (by simp) (by decide)
              simp only [wakeV] at d14
              generalize ρ 14 = x14 at d14 hK ⊢
              subst d14
              have d10 := hd.out ⟨10, .guard⟩ (by simp) (by decide)
              simp only [wakeV] at d10
              generalize ρ 10 = x10 at d10 hK ⊢
              subst d10
              clear hd
              refine want_yes rfl ?_
              have e1 := (hS.cell (p := ⟨gx, p * 3 + 1, none⟩) gx5).trans xu1
              go_simp
              exact hK.out _ _ rfl hS trivial
            refine FlowStepsG.step 41 17 (by kernel_rfl) rfl ?_ ?_
            ·
              intro c ρ W hc hS hd K hK
              simp only [putFrom, vals, List.map_cons, List.map_nil, Act.put, List.setIfInBounds_toArray, List.set_cons_zero, List.set_cons_succ, Nat.reduceAdd] at hK ⊢
              have d10 := hd.out ⟨10, .guard⟩ (by simp) (by decide)
              simp only [wakeV] at d10
              generalize ρ 10 = x10 at d10 hK ⊢
              subst d10
              clear hd
              refine want_yes rfl ?_
              go_simp
              exact hK.out _ _ rfl hS trivial
            refine FlowStepsG.step 41 18 (by kernel_rfl) rfl ?_ ?_
            ·
              intro c ρ W hc hS hd K hK
              simp only [putFrom, vals, List.map_cons, List.map_nil, Act.put, List.setIfInBounds_toArray, List.set_cons_zero, List.set_cons_succ, Nat.reduceAdd] at hK ⊢
              have d10 := hd.out ⟨10, .guard⟩ (by simp) (by decide)
              simp only [wakeV] at d10
              generalize ρ 10 = x10 at d10 hK ⊢
              subst d10
              clear hd
              refine want_yes rfl ?_
              go_simp
              exact hK.out _ _ rfl hS trivial
            refine FlowStepsG.step 41 19 (by kernel_rfl) rfl ?_ ?_
            ·
              intro c ρ W hc hS hd K hK
              simp only [putFrom, vals, List.map_cons, List.map_nil, Act.put, List.setIfInBounds_toArray, List.set_cons_zero, List.set_cons_succ, Nat.reduceAdd] at hK ⊢
              have d16 := hd.out ⟨16, .data⟩ (by simp) (by decide)
              simp only [wakeV] at d16
              generalize ρ 16 = x16 at d16 hK ⊢
              subst d16
              have d17 := hd.out ⟨17, .data⟩ (by simp) (by decide)
              simp only [wakeV] at d17
              generalize ρ 17 = x17 at d17 hK ⊢
              subst d17
              have d10 := hd.out ⟨10, .guard⟩ (by simp) (by decide)
              simp only [wakeV] at d10
              generalize ρ 10 = x10 at d10 hK ⊢
              subst d10
              clear hd
              refine want_yes rfl ?_
              go_simp
              exact hK.out _ _ rfl hS trivial
            refine FlowStepsG.step 41 20 (by kernel_rfl) rfl ?_ ?_
            ·
              intro c ρ W hc hS hd K hK
              simp only [putFrom, vals, List.map_cons, List.map_nil, Act.put, List.setIfInBounds_toArray, List.set_cons_zero, List.set_cons_succ, Nat.reduceAdd] at hK ⊢
              have d18 := hd.out ⟨18, .data⟩ (by simp) (by decide)
              simp only [wakeV] at d18
              generalize ρ 18 = x18 at d18 hK ⊢
              subst d18
              have d10 := hd.out ⟨10, .guard⟩ (by simp) (by decide)
              simp only [wakeV] at d10
              generalize ρ 10 = x10 at d10 hK ⊢
              subst d10
              clear hd
              refine want_yes rfl ?_
              go_simp
              exact hK.out _ _ rfl hS trivial
            refine FlowStepsG.step 41 21 (by kernel_rfl) rfl ?_ ?_
            ·
              intro c ρ W hc hS hd K hK
              simp only [putFrom, vals, List.map_cons, List.map_nil, Act.put, List.setIfInBounds_toArray, List.set_cons_zero, List.set_cons_succ, Nat.reduceAdd] at hK ⊢
              have d19 := hd.out ⟨19, .data⟩ (by simp) (by decide)
              simp only [wakeV] at d19
              generalize ρ 19 = x19 at d19 hK ⊢
              subst d19
              have d10 := hd.out ⟨10, .guard⟩ (by simp) (by decide)
              simp only [wakeV] at d10
              generalize ρ 10 = x10 at d10 hK ⊢
              subst d10
              clear hd
              refine want_yes rfl ?_
              have e1 := (hS.cell (p := ⟨g, p * 3 + 1, none⟩) gg5).trans xt1
              go_simp
              exact hK.out _ _ rfl hS trivial
            refine FlowStepsG.step 41 22 (by kernel_rfl) rfl ?_ ?_
            ·
              intro c ρ W hc hS hd K hK
              simp only [putFrom, vals, List.map_cons, List.map_nil, Act.put, List.setIfInBounds_toArray, List.set_cons_zero, List.set_cons_succ, Nat.reduceAdd] at hK ⊢
              have d15 := hd.out ⟨15, .data⟩ (by simp) (by decide)
              simp only [wakeV] at d15
              generalize ρ 15 = x15 at d15 hK ⊢
              subst d15
              have d20 := hd.out ⟨20, .data⟩ (by simp) (by decide)
              simp only [wakeV] at d20
              generalize ρ 20 = x20 at d20 hK ⊢
              subst d20
              have d10 := hd.out ⟨10, .guard⟩ (by simp) (by decide)
              simp only [wakeV] at d10
              generalize ρ 10 = x10 at d10 hK ⊢
              subst d10
              clear hd
              refine want_yes rfl ?_
              go_simp
              exact hK.out _ _ rfl hS trivial
            refine FlowStepsG.step 41 23 (by kernel_rfl) rfl ?_ ?_
            ·
              intro c ρ W hc hS hd K hK
              simp only [putFrom, vals, List.map_cons, List.map_nil, Act.put, List.setIfInBounds_toArray, List.set_cons_zero, List.set_cons_succ, Nat.reduceAdd] at hK ⊢
              have d10 := hd.out ⟨10, .data⟩ (by simp) (by decide)
              simp only [wakeV] at d10
              generalize ρ 10 = x10 at d10 hK ⊢
              subst d10
              have d21 := hd.out ⟨21, .data⟩ (by simp) (by decide)
              simp only [wakeV] at d21
              generalize ρ 21 = x21 at d21 hK ⊢
              subst d21
              clear hd
              refine want_yes rfl ?_
              go_simp
              exact hK.out _ _ rfl hS trivial
            refine FlowStepsG.step 41 24 (by kernel_rfl) rfl ?_ ?_
            ·
              intro c ρ W hc hS hd K hK
              simp only [putFrom, vals, List.map_cons, List.map_nil, Act.put, List.setIfInBounds_toArray, List.set_cons_zero, List.set_cons_succ, Nat.reduceAdd] at hK ⊢
              have d22 := hd.out ⟨22, .data⟩ (by simp) (by decide)
              simp only [wakeV] at d22
              generalize ρ 22 = x22 at d22 hK ⊢
              subst d22
              clear hd
              refine want_yes rfl ?_
              go_simp
              exact hK.out _ _ rfl hS trivial
            refine FlowStepsG.step 41 25 (by kernel_rfl) rfl ?_ ?_
            ·
              intro c ρ W hc hS hd K hK
              simp only [putFrom, vals, List.map_cons, List.map_nil, Act.put, List.setIfInBounds_toArray, List.set_cons_zero, List.set_cons_succ, Nat.reduceAdd] at hK ⊢
              have d23 := hd.out ⟨23, .guard⟩ (by simp) (by decide)
              simp only [wakeV] at d23
              generalize ρ 23 = x23 at d23 hK ⊢
              subst d23
              clear hd
              refine want_yes rfl ?_
              go_simp
              exact hK.out _ _ rfl hS trivial
            refine FlowStepsG.step 41 26 (by kernel_rfl) rfl ?_ ?_
            ·
              intro c ρ W hc hS hd K hK
              simp only [putFrom, vals, List.map_cons, List.map_nil, Act.put, List.setIfInBounds_toArray, List.set_cons_zero, List.set_cons_succ, Nat.reduceAdd] at hK ⊢
              have d24 := hd.out ⟨24, .data⟩ (by simp) (by decide)
              simp only [wakeV] at d24
              generalize ρ 24 = x24 at d24 hK ⊢
              subst d24
              have d23 := hd.out ⟨23, .guard⟩ (by simp) (by decide)
              simp only [wakeV] at d23
              generalize ρ 23 = x23 at d23 hK ⊢
              subst d23
              clear hd
              refine want_yes rfl ?_
              go_simp
              exact hK.out _ _ rfl hS trivial
            refine FlowStepsG.step 41 27 (by kernel_rfl) rfl ?_ ?_
            ·
              intro c ρ W hc hS hd K hK
              simp only [putFrom, vals, List.map_cons, List.map_nil, Act.put, List.setIfInBounds_toArray, List.set_cons_zero, List.set_cons_succ, Nat.reduceAdd] at hK ⊢
              have d25 := hd.out ⟨25, .data⟩ (by simp) (by decide)
              simp only [wakeV] at d25
              generalize ρ 25 = x25 at d25 hK ⊢
              subst d25
              have d23 := hd.out ⟨23, .guard⟩ (by simp) (by decide)
              simp only [wakeV] at d23
              generalize ρ 23 = x23 at d23 hK ⊢
              subst d23
              clear hd
              refine want_yes rfl ?_
              go_simp
              exact hK.out _ _ rfl hS trivial
            refine FlowStepsG.step 41 28 (by kernel_rfl) rfl ?_ ?_
            ·
              intro c ρ W hc hS hd K hK
              simp only [putFrom, vals, List.map_cons, List.map_nil, Act.put, List.setIfInBounds_toArray, List.set_cons_zero, List.set_cons_succ, Nat.reduceAdd] at hK ⊢
              have d26 := hd.out ⟨26, .guard⟩ (by simp) (by decide)
              simp only [wakeV] at d26
              generalize ρ 26 = x26 at d26 hK ⊢
              subst d26
              clear hd
              exact want_no rfl (hK.out undef W rfl hS trivial)
            refine FlowStepsG.step 41 29 (by kernel_rfl) rfl ?_ ?_
            ·
              intro c ρ W hc hS hd K hK
              simp only [putFrom, vals, List.map_cons, List.map_nil, Act.put, List.setIfInBounds_toArray, List.set_cons_zero, List.set_cons_succ, Nat.reduceAdd] at hK ⊢
              have d26 := hd.out ⟨26, .guard⟩ (by simp) (by decide)
              simp only [wakeV] at d26
              generalize ρ 26 = x26 at d26 hK ⊢
              subst d26
              clear hd
              exact want_no rfl (hK.out undef W rfl hS trivial)
            refine FlowStepsG.step 41 30 (by kernel_rfl) rfl ?_ ?_
            ·
              intro c ρ W hc hS hd K hK
              simp only [putFrom, vals, List.map_cons, List.map_nil, Act.put, List.setIfInBounds_toArray, List.set_cons_zero, List.set_cons_succ, Nat.reduceAdd] at hK ⊢
              have d26 := hd.out ⟨26, .guard⟩ (by simp) (by decide)
              simp only [wakeV] at d26
              generalize ρ 26 = x26 at d26 hK ⊢
              subst d26
              clear hd
              exact want_no rfl (hK.out undef W rfl hS trivial)
            refine FlowStepsG.step 41 31 (by kernel_rfl) rfl ?_ ?_
            ·
              intro c ρ W hc hS hd K hK
              simp only [putFrom, vals, List.map_cons, List.map_nil, Act.put, List.setIfInBounds_toArray, List.set_cons_zero, List.set_cons_succ, Nat.reduceAdd] at hK ⊢
              have d26 := hd.out ⟨26, .guard⟩ (by simp) (by decide)
              simp only [wakeV] at d26
              generalize ρ 26 = x26 at d26 hK ⊢
              subst d26
              clear hd
              exact want_no rfl (hK.out undef W rfl hS trivial)
            refine FlowStepsG.step 41 32 (by kernel_rfl) rfl ?_ ?_
            ·
              intro c ρ W hc hS hd K hK
              simp only [putFrom, vals, List.map_cons, List.map_nil, Act.put, List.setIfInBounds_toArray, List.set_cons_zero, List.set_cons_succ, Nat.reduceAdd] at hK ⊢
              have d26 := hd.out ⟨26, .guard⟩ (by simp) (by decide)
              simp only [wakeV] at d26
              generalize ρ 26 = x26 at d26 hK ⊢
              subst d26
              clear hd
              exact want_no rfl (hK.out undef W rfl hS trivial)
            refine FlowStepsG.step 41 33 (by kernel_rfl) rfl ?_ ?_
            ·
              intro c ρ W hc hS hd K hK
              simp only [putFrom, vals, List.map_cons, List.map_nil, Act.put, List.setIfInBounds_toArray, List.set_cons_zero, List.set_cons_succ, Nat.reduceAdd] at hK ⊢
              have d26 := hd.out ⟨26, .guard⟩ (by simp) (by decide)
              simp only [wakeV] at d26
              generalize ρ 26 = x26 at d26 hK ⊢
              subst d26
              clear hd
              exact want_no rfl (hK.out undef W rfl hS trivial)
            refine FlowStepsG.step 41 34 (by kernel_rfl) rfl ?_ ?_
            ·
              intro c ρ W hc hS hd K hK
              simp only [putFrom, vals, List.map_cons, List.map_nil, Act.put, List.setIfInBounds_toArray, List.set_cons_zero, List.set_cons_succ, Nat.reduceAdd] at hK ⊢
              have d26 := hd.out ⟨26, .guard⟩ (by simp) (by decide)
              simp only [wakeV] at d26
              generalize ρ 26 = x26 at d26 hK ⊢
              subst d26
              clear hd
              exact want_no rfl (hK.out undef W rfl hS trivial)
            refine FlowStepsG.step 41 35 (by kernel_rfl) rfl ?_ ?_
            ·
              intro c ρ W hc hS hd K hK
              simp only [putFrom, vals, List.map_cons, List.map_nil, Act.put, List.setIfInBounds_toArray, List.set_cons_zero, List.set_cons_succ, Nat.reduceAdd] at hK ⊢
              have d26 := hd.out ⟨26, .guard⟩ (by simp) (by decide)
              simp only [wakeV] at d26
              generalize ρ 26 = x26 at d26 hK ⊢
              subst d26
              clear hd
              exact want_no rfl (hK.out undef W rfl hS trivial)
            refine FlowStepsG.step 41 36 (by kernel_rfl) rfl ?_ ?_
            ·
              intro c ρ W hc hS hd K hK
              simp only [putFrom, vals, List.map_cons, List.map_nil, Act.put, List.setIfInBounds_toArray, List.set_cons_zero, List.set_cons_succ, Nat.reduceAdd] at hK ⊢
              have d26 := hd.out ⟨26, .guard⟩ (by simp) (by decide)
              simp only [wakeV] at d26
              generalize ρ 26 = x26 at d26 hK ⊢
              subst d26
              clear hd
              exact want_no rfl (hK.out undef W rfl hS trivial)
            refine FlowStepsG.step 41 37 (by kernel_rfl) rfl ?_ ?_
            ·
              intro c ρ W hc hS hd K hK
              simp only [putFrom, vals, List.map_cons, List.map_nil, Act.put, List.setIfInBounds_toArray, List.set_cons_zero, List.set_cons_succ, Nat.reduceAdd] at hK ⊢
              have d26 := hd.out ⟨26, .guard⟩ (by simp) (by decide)
              simp only [wakeV] at d26
              generalize ρ 26 = x26 at d26 hK ⊢
              subst d26
              clear hd
              exact want_no rfl (hK.out undef W rfl hS trivial)
            refine FlowStepsG.step 41 38 (by kernel_rfl) rfl ?_ ?_
            ·
              intro c ρ W hc hS hd K hK
              simp only [putFrom, vals, List.map_cons, List.map_nil, Act.put, List.setIfInBounds_toArray, List.set_cons_zero, List.set_cons_succ, Nat.reduceAdd] at hK ⊢
              have d26 := hd.out ⟨26, .guard⟩ (by simp) (by decide)
              simp only [wakeV] at d26
              generalize ρ 26 = x26 at d26 hK ⊢
              subst d26
              clear hd
              exact want_no rfl (hK.out undef W rfl hS trivial)
            refine FlowStepsG.step 41 39 (by kernel_rfl) rfl ?_ ?_
            ·
              intro c ρ W hc hS hd K hK
              simp only [putFrom, vals, List.map_cons, List.map_nil, Act.put, List.setIfInBounds_toArray, List.set_cons_zero, List.set_cons_succ, Nat.reduceAdd] at hK ⊢
              have d26 := hd.out ⟨26, .data⟩ (by simp) (by decide)
              simp only [wakeV] at d26
              generalize ρ 26 = x26 at d26 hK ⊢
              subst d26
              have d37 := hd.out ⟨37, .data⟩ (by simp) (by decide)
              simp only [wakeV] at d37
              generalize ρ 37 = x37 at d37 hK ⊢
              subst d37
              have d23 := hd.out ⟨23, .guard⟩ (by simp) (by decide)
              simp only [wakeV] at d23
              generalize ρ 23 = x23 at d23 hK ⊢
              subst d23
              clear hd
              refine want_yes rfl ?_
              go_simp
              exact hK.out _ _ rfl hS trivial
            refine FlowStepsG.step 41 40 (by kernel_rfl) rfl ?_ ?_
            ·
              intro c ρ W hc hS hd K hK
              simp only [putFrom, vals, List.map_cons, List.map_nil, Act.put, List.setIfInBounds_toArray, List.set_cons_zero, List.set_cons_succ, Nat.reduceAdd] at hK ⊢
              have d23 := hd.out ⟨23, .data⟩ (by simp) (by decide)
              simp only [wakeV] at d23
              generalize ρ 23 = x23 at d23 hK ⊢
              subst d23
              have d38 := hd.out ⟨38, .data⟩ (by simp) (by decide)
              simp only [wakeV] at d38
              generalize ρ 38 = x38 at d38 hK ⊢
              subst d38
              clear hd
              refine want_yes rfl ?_
              go_simp
              exact hK.out _ _ rfl hS trivial
            refine FlowStepsG.step 41 41 (by kernel_rfl) rfl ?_ ?_
            ·
              intro c ρ W hc hS hd K hK
              simp only [putFrom, vals, List.map_cons, List.map_nil, Act.put, List.setIfInBounds_toArray, List.set_cons_zero, List.set_cons_succ, Nat.reduceAdd] at hK ⊢
              have d39 := hd.out ⟨39, .data⟩ (by simp) (by decide)
              simp only [wakeV] at d39
              generalize ρ 39 = x39 at d39 hK ⊢
              subst d39
              clear hd
              refine want_yes rfl ?_
              go_simp
              exact hK.out _ _ rfl hS trivial
            exact FlowStepsG.nil
          · intro c ρ W hc hS hd
            simp only [putFrom, Act.put, List.setIfInBounds_toArray, List.set_cons_zero, List.set_cons_succ, Nat.reduceAdd]
            have d40 := hd.out 40 (by decide)
            simp only [wakeV] at d40
            generalize ρ 40 = x40 at d40 ⊢
            subst d40
            clear hd
            have BW : Below w.heap.size w W := B5.trans (hS.mono B5.size)
            go_wp2_with fail
            go_ret
            exact ⟨rfl, BW⟩
        · rw [hle]
          have xs := hX5.2 k s hLk
          simp only [Nat.zero_add] at xs
          obtain ⟨xs0, xs1, xs2⟩ := xs
          have kk : (k : Int) < l.length := by omega
          have hge2 : decide (s.had ≤ u.had) = true := by simpa using hsu
          have hkd : decide ((k : Int) < 0) = false := by simp
          clear hle xs0 xs2 hLk
          go_wp2_with fail
          go_region_held3 (fun w' => Below w.heap.size w w' ∧ gx < w'.heap.size ∧ g < w'.heap.size ∧ w'.cell? ⟨gx, p * 3 + 1, none⟩ = some (.int .i64 u.had) ∧ w'.cell? ⟨gx, p * 3 + 2, none⟩ = some (.bool false) ∧ w'.cell? ⟨g, p * 3 + 1, none⟩ = some (.int .i64 t.had) ∧ w'.cell? ⟨gx, k * 3 + 1, none⟩ = some (.int .i64 s.had))
            (first | assumption | (refine ⟨(by repeat' (first | exact Below.refl _ _ | assumption | exact And.left (by assumption) | omega | (simp; done) | (simp; omega) | (simp at *; omega) | (refine Below.setCell ?_ ?_ _) | (refine below_alloc0 ?_ _) | (refine Below.drew ?_) | (refine below_drewN ?_ _) | (refine below_via0 ?_ (by assumption)) | (refine Below.alloc ?_ ?_ _) | (refine below_via ?_ (by assumption) ?_))), ?_⟩; simp [go_sem, *]; done) | (refine ⟨(by repeat' (first | exact Below.refl _ _ | assumption | exact And.left (by assumption) | omega | (simp; done) | (simp; omega) | (simp at *; omega) | (refine Below.setCell ?_ ?_ _) | (refine below_alloc0 ?_ _) | (refine Below.drew ?_) | (refine below_drewN ?_ _) | (refine below_via0 ?_ (by assumption)) | (refine Below.alloc ?_ ?_ _) | (refine below_via ?_ (by assumption) ?_))), ?_⟩; simp [go_sem, *]; omega))
            (first | (go_at_call 14; refine (implT_c _ _ _ _ L HLL.out (by omega) _ (by exact hX5)).mono ?_; rintro e w6 ⟨rfl, hb6⟩; rw [HVL.out]; have L6 := live hb6 gx (by first | exact gx5 | (simp; exact gx5)); have M6 := live hb6 g (by first | exact gg5 | (simp; exact gg5))))
          have B6 : Below w.heap.size w w6 := And.left (by assumption)
          go_wp2_with fail
          go_ret
          exact ⟨rfl, B6⟩
end Go.Proofs.Ytnpgofmihmjmeaa
