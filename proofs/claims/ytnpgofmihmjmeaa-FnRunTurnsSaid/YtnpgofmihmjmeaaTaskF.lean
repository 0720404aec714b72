/-
  The laws of tasks over drawn arguments: draws, TasksValid. No condition.
-/
import Derived.Test.YtnpgofmihmjmeaaProg
import Derived.Test.YtnpgofmihmjmeaaTaskD
import Derived.Test.YtnpgofmihmjmeaaAlive
import Derived.Test.YtnpgofmihmjmeaaTask14
namespace Go.Proofs.Ytnpgofmihmjmeaa
open Go.RowKit
set_option linter.unusedSimpArgs false
set_option linter.unusedVariables false

theorem InB.below {w w' : World} {A : Option Addr} {n c : Nat} (h : InB w A n c) (hb : Below w.heap.size w w') : InB w' A n c :=
  ⟨h.1, h.2.1, fun h0 => by
    obtain ⟨b, off, hA, hlt, hne, hc⟩ := h.2.2 h0
    have := hb.size
    refine ⟨b, off, hA, by omega, by omega, fun i hi => ?_⟩
    obtain ⟨x, h1, h2, h3⟩ := hc i hi
    exact ⟨x, h1, h2, (hb.cell (p := ⟨b, _, none⟩) hlt).trans h3⟩⟩
theorem own_lit {base size : Nat} {e : TypeId} (w : World) (cur : Array Value) (n : Nat) (hb : base ≤ w.heap.size) (hm : n ≤ maxLen) (hs : cur.size = n * size) :
    (w.alloc (.cells cur e)).ownsRow base e size (.slice (some ⟨w.heap.size, 0, none⟩) n n) n cur.toList :=
  ⟨by simpa using hs, .inr ⟨w.heap.size, n, cur, rfl, hb, Below.heap_alloc_self w _, Nat.le_refl _, hm, hs, by rw [← hs, ← Array.length_toList, List.take_length]⟩⟩
/-- Tasks were drawn. -/
def GotT (w : World) (e : Ending) (w' : World) : Prop := ∃ (g cap : Nat) (l : List Task), e = .returned (.slice (some ⟨g, 0, none⟩) l.length cap) ∧ RdTask w' g 0 l ∧ l.length ≤ 6 ∧ l.length ≤ cap ∧ cap ≤ maxLen ∧ Below w.heap.size w w'
def GotTN (w : World) (e : Ending) (w' : World) : Prop := ∃ (g cap : Nat) (l : List Task) (x : Int), e = .returned (.tuple #[.slice (some ⟨g, 0, none⟩) l.length cap, .int .i64 x]) ∧ RdTask w' g 0 l ∧ l.length ≤ 6 ∧ l.length ≤ cap ∧ cap ≤ maxLen ∧ -1 ≤ x ∧ x ≤ 100 ∧ Below w.heap.size w w'
theorem gTasksValid_c (A : Option Addr) (n c : Nat) (w : World) (h : InB w A n c) : Calls Try.prog 16 #[.slice A n c] w (GotT w) := by
  have H := hide h
  clear h
  go_enter Try.func16, Try.ntmps16
  go_wp2_with fail
  refine (open_c A n c _ H.out).mono ?_
  rintro e w1 ⟨r, rfl, hr, hrd, hb1⟩
  go_wp2_with fail
  refine (drawTasks_c w1.heap.size r 0 2 _ (by omega) (by omega) (by omega) hrd).mono ?_
  rintro e w2 ⟨g, cap, l, rfl, hg, hR, h6, hc1, hc2, hs, ha⟩
  go_wp2_with fail
  go_ret
  exact ⟨g, cap, l, rfl, hR, h6, hc1, hc2, ha.below hb1 hr hb1.size⟩
theorem gNextTask_c (A : Option Addr) (n c : Nat) (w : World) (h : InB w A n c) : Calls Try.prog 20 #[.slice A n c] w (GotT w) := by
  have H := hide h
  clear h
  go_enter Try.func20, Try.ntmps20
  go_wp2_with fail
  refine (open_c A n c _ H.out).mono ?_
  rintro e w1 ⟨r, rfl, hr, hrd, hb1⟩
  go_wp2_with fail
  refine (drawTasks_c w1.heap.size r 0 9 _ (by omega) (by omega) (by omega) hrd).mono ?_
  rintro e w2 ⟨g, cap, l, rfl, hg, hR, h6, hc1, hc2, hs, ha⟩
  go_wp2_with fail
  go_ret
  exact ⟨g, cap, l, rfl, hR, h6, hc1, hc2, ha.below hb1 hr hb1.size⟩

theorem tasksB_bad (l : List Task) : tasksB (⟨0, 0, false⟩ :: l) = false := tasksB_no fun h => by
  have := (h.1 0 ⟨0, 0, false⟩ (by simp) rfl).1
  simp [inB] at this
theorem tasksB_drop {l : List Task} (h : tasksB l = true) (k : Nat) : tasksB (l.drop k) = true := by
  rw [tasksB_iff] at h ⊢
  refine ⟨fun i t hi ht => ?_, by have := h.2; simp; omega⟩
  rw [List.getElem?_drop] at ht
  exact h.1 (k + i) t (List.getElem?_eq_some_iff.1 ht).1 ht
theorem RdTask.drop {w : World} {g : Nat} {l : List Task} (h : RdTask w g 0 l) (k : Nat) : RdTask w g (k * 3) (l.drop k) := by
  refine ⟨h.1, fun i t ht => ?_⟩
  rw [List.getElem?_drop] at ht
  have := h.2 (k + i) t ht
  rw [show 0 + (k + i) * 3 = k * 3 + i * 3 by omega] at this
  exact this
set_option maxHeartbeats 2000000 in
theorem fnTasksValid_walk {w : World} (A : Option Addr) (n c : Nat) (h : InB w A n c) :
    Calls Try.prog 4 #[.slice A n c] w fun e w' => e = .returned (.bool true) ∧ Below w.heap.size w w' := by
  have hm := h.2.1
  unfold maxLen at hm
  have hc := h.1
  have H := hide h
  clear h
  obtain ⟨i0, hi0, hz0, hz1, hz2⟩ := info_parts infoTask
  have HI := hide hi0
  have HZ0 := hide hz0
  have HZ1 := hide hz1
  have HZ2 := hide hz2
  clear hi0 hz0 hz1 hz2
  by_cases h20 : 1048576 < n
  · go_enter Try.func4, Try.ntmps4
    go_wp2_with fail
    go_ret
    exact ⟨rfl, Below.refl _ _⟩
  · go_enter Try.func4, Try.ntmps4
    go_wp2_with fail
    refine (gTasksValid_c A n c _ H.out).mono ?_
    rintro e w1 ⟨g, cap, l, rfl, hR, h6, hcl, hcm, hb1⟩
    unfold maxLen at hcm
    cases hv : tasksB l with
    | true =>
      have HV := hide hv
      clear hv
      go_wp2_with fail
      refine (implT_c _ _ _ _ l rfl (by omega) _ hR).mono ?_
      rintro e w2 ⟨rfl, hb2⟩
      rw [HV.out]
      have B2 := below_via0 hb1 hb2
      have hR2 := hR.below hb2
      go_wp2_with fail
      refine (specT_c _ _ _ _ l rfl (by omega) _ hR2).mono ?_
      rintro e w3 ⟨rfl, hb3⟩
      rw [HV.out]
      have B3 := below_via0 B2 hb3
      have hR3 := hR2.below hb3
      go_wp2_with (at_builtin; refine wpList_append_own _ rfl _ _ 25 rfl w3.heap.size 32 i0 _ 3 24 Try.underlying25 HI.out HZ0.out HZ1.out HZ2.out rfl (by decide) _ _ _ rfl (own_lit w3 #[.int .i64 0, .int .i64 0, .bool false] 1 (Nat.le_refl _) (by unfold maxLen; omega) (by simp)) ⟨g, 0, none⟩ l.length cap (flatT l) rfl ?qa0 ?qb0 (flatT_one _) ?qc0 ?qd0 ?qe0 ?_)
      case qa0 => rw [flatT_len]
      case qb0 =>
        intro j u hj
        rw [Addr.add_lit]
        exact Lib.cell?_alloc_some _ (flatT_cells hR3 j u hj)
      case qc0 => unfold maxLen; omega
      case qd0 => omega
      case qe0 => simp
      intro v' w4 hown hgrow hnil
      have hown' : w4.ownsRow w3.heap.size 32 3 v' ((⟨0, 0, false⟩ : Task) :: l).length (flatT ((⟨0, 0, false⟩ : Task) :: l)) := by
        have e : flatT ((⟨0, 0, false⟩ : Task) :: l) = [.int .i64 0, .int .i64 0, .bool false] ++ flatT l := by simp [flatT]
        rw [e, List.length_cons, Nat.add_comm]; simpa using hown
      obtain ⟨g4, cap4, m4, rfl, hg4, hcap4, hm4, hrow4⟩ := ownT_of rfl hown' (fun e => by simp [e] at hnil)
      have B4 : Below w.heap.size w w4 := (B3.alloc B3.size _).grown hgrow (by simp; have := B3.size; omega) (by intro k hk; simp [Value.ownBlock] at hk; have := B3.size; omega)
      have B34 : Below w3.heap.size w3 w4 := ((Below.refl _ w3).alloc (Nat.le_refl _) _).grown hgrow (by simp) (by intro k hk; simp [Value.ownBlock] at hk; omega)
      have hR4 := hR3.below B34
      have hA4 := RdT_of_row hrow4 rfl
      simp only [List.length_cons] at hA4 hcap4
      clear hown hown' hgrow hnil hrow4
      go_wp2_with fail
      refine (implT_c _ _ _ _ ((⟨0, 0, false⟩ : Task) :: l) rfl (by simp; omega) _ hA4).mono ?_
      rintro e w5 ⟨rfl, hb5⟩
      rw [tasksB_bad]
      have B5 := below_via0 B4 hb5
      have hR5 := hR4.below hb5
      have hh : (l.length : Int) / 2 ≤ l.length := by omega
      have hd : (l.drop (l.length / 2)).length = l.length - l.length / 2 := by simp
      have HD := hide (tasksB_drop HV.out (l.length / 2))
      have HDL := hide hd
      clear hd
      by_cases hce : cap = l.length / 2
      · have hl0 : l.length = 0 := by omega
        go_wp2_with fail
        refine (implT_c _ _ 0 _ l hl0 (by omega) _ hR5).mono ?_
        rintro e w6 ⟨rfl, hb6⟩
        rw [HV.out]
        have B6 := below_via0 B5 hb6
        go_wp2_with (go_at_call 17; refine (alive_c _).mono ?_; rintro e w7 ⟨rfl, hb7⟩; have B7 := below_via0 B6 hb7)
        go_ret
        exact ⟨rfl, B7⟩
      · go_wp2_with fail
        refine (implT_c _ _ _ _ (l.drop (l.length / 2)) HDL.out (by omega) _ (hR5.drop _)).mono ?_
        rintro e w6 ⟨rfl, hb6⟩
        rw [HD.out]
        have B6 := below_via0 B5 hb6
        go_wp2_with (go_at_call 17; refine (alive_c _).mono ?_; rintro e w7 ⟨rfl, hb7⟩; have B7 := below_via0 B6 hb7)
        go_ret
        exact ⟨rfl, B7⟩
    | false =>
      have HV := hide hv
      clear hv
      go_wp2_with fail
      refine (implT_c _ _ _ _ l rfl (by omega) _ hR).mono ?_
      rintro e w2 ⟨rfl, hb2⟩
      rw [HV.out]
      have B2 := below_via0 hb1 hb2
      have hR2 := hR.below hb2
      go_wp2_with fail
      refine (specT_c _ _ _ _ l rfl (by omega) _ hR2).mono ?_
      rintro e w3 ⟨rfl, hb3⟩
      rw [HV.out]
      have B3 := below_via0 B2 hb3
      have hR3 := hR2.below hb3
      go_wp2_with (at_builtin; refine wpList_append_own _ rfl _ _ 25 rfl w3.heap.size 32 i0 _ 3 24 Try.underlying25 HI.out HZ0.out HZ1.out HZ2.out rfl (by decide) _ _ _ rfl (own_lit w3 #[.int .i64 0, .int .i64 0, .bool false] 1 (Nat.le_refl _) (by unfold maxLen; omega) (by simp)) ⟨g, 0, none⟩ l.length cap (flatT l) rfl ?qa1 ?qb1 (flatT_one _) ?qc1 ?qd1 ?qe1 ?_)
      case qa1 => rw [flatT_len]
      case qb1 =>
        intro j u hj
        rw [Addr.add_lit]
        exact Lib.cell?_alloc_some _ (flatT_cells hR3 j u hj)
      case qc1 => unfold maxLen; omega
      case qd1 => omega
      case qe1 => simp
      intro v' w4 hown hgrow hnil
      have hown' : w4.ownsRow w3.heap.size 32 3 v' ((⟨0, 0, false⟩ : Task) :: l).length (flatT ((⟨0, 0, false⟩ : Task) :: l)) := by
        have e : flatT ((⟨0, 0, false⟩ : Task) :: l) = [.int .i64 0, .int .i64 0, .bool false] ++ flatT l := by simp [flatT]
        rw [e, List.length_cons, Nat.add_comm]; simpa using hown
      obtain ⟨g4, cap4, m4, rfl, hg4, hcap4, hm4, hrow4⟩ := ownT_of rfl hown' (fun e => by simp [e] at hnil)
      have B4 : Below w.heap.size w w4 := (B3.alloc B3.size _).grown hgrow (by simp; have := B3.size; omega) (by intro k hk; simp [Value.ownBlock] at hk; have := B3.size; omega)
      have B34 : Below w3.heap.size w3 w4 := ((Below.refl _ w3).alloc (Nat.le_refl _) _).grown hgrow (by simp) (by intro k hk; simp [Value.ownBlock] at hk; omega)
      have hR4 := hR3.below B34
      have hA4 := RdT_of_row hrow4 rfl
      simp only [List.length_cons] at hA4 hcap4
      clear hown hown' hgrow hnil hrow4
      go_wp2_with fail
      refine (implT_c _ _ _ _ ((⟨0, 0, false⟩ : Task) :: l) rfl (by simp; omega) _ hA4).mono ?_
      rintro e w5 ⟨rfl, hb5⟩
      rw [tasksB_bad]
      have B5 := below_via0 B4 hb5
      have hR5 := hR4.below hb5
      go_wp2_with (go_at_call 17; refine (alive_c _).mono ?_; rintro e w6 ⟨rfl, hb6⟩; have B6 := below_via0 B5 hb6)
      go_ret
      exact ⟨rfl, B6⟩
end Go.Proofs.Ytnpgofmihmjmeaa
