/-
  RunTurns over drawn tasks: the draw, the plain law. No condition.
-/
import Derived.Test.YtnpgofmihmjmeaaProg
import Derived.Test.YtnpgofmihmjmeaaTaskG
import Derived.Test.YtnpgofmihmjmeaaTask14
import Derived.Test.YtnpgofmihmjmeaaFlowS
import Derived.Test.YtnpgofmihmjmeaaAlive
namespace Go.Proofs.Ytnpgofmihmjmeaa
open Go.RowKit
set_option linter.unusedSimpArgs false
set_option linter.unusedVariables false

def runF (g n cap r : Nat) (i : Nat) (v : Value) (vs : List Value) (W : World) : Prop :=
  match i with
  | 0 => v = .slice (some ⟨g, 0, none⟩) n cap
  | 1 => v = .pointer (some ⟨r, 0, none⟩)
  | 2 => IsNum 0 11 v
  | 3 => ∃ q, v = .slice (some ⟨q, 0, none⟩) 4 4 ∧ q ≠ r ∧ Cl W q 4 (fun _ => IsNum (-1) 61)
  | 4 => ∃ q, v = .slice (some ⟨q, 0, none⟩) 7 7 ∧ q ≠ r ∧ Cl W q 7 (fun _ => IsNum 0 3)
  | 5 => v = .pointer (some ⟨r, 0, none⟩)
  | 6 => IsNum 0 6 v
  | 7 => ∃ q j, v = .pointer (some ⟨q, j, none⟩) ∧ q ≠ r ∧ j < 7 ∧ Cl W q 7 (fun _ => IsNum 0 3)
  | 8 => IsNum 0 3 v
  | 9 => ∃ q j, v = .pointer (some ⟨q, j, none⟩) ∧ q ≠ r ∧ j < 4 ∧ Cl W q 4 (fun _ => IsNum (-1) 61)
  | 10 => IsNum (-1) 61 v
  | 11 => v = .slice (some ⟨g, 0, none⟩) n cap
  | _ => IsNum (-1) 61 v
theorem runF_keep {g n cap r i : Nat} {v : Value} {vs : List Value} {W W' : World} (h : runF g n cap r i v vs W) (ha : Aside r W W') : runF g n cap r i v vs W' := by
  unfold runF at h ⊢
  split <;> simp only at h <;> try exact h
  · obtain ⟨q, h1, h2, h3⟩ := h; exact ⟨q, h1, h2, h3.keep ha h2⟩
  · obtain ⟨q, h1, h2, h3⟩ := h; exact ⟨q, h1, h2, h3.keep ha h2⟩
  · obtain ⟨q, j, h1, h2, h3, h4⟩ := h; exact ⟨q, j, h1, h2, h3, h4.keep ha h2⟩
  · obtain ⟨q, j, h1, h2, h3, h4⟩ := h; exact ⟨q, j, h1, h2, h3, h4.keep ha h2⟩
theorem InB.belowR {w w' : World} {A : Option Addr} {n c : Nat} (h : InB w A n c) (hb : Below w.heap.size w w') : InB w' A n c :=
  ⟨h.1, h.2.1, fun h0 => by
    obtain ⟨b, off, hA, hlt, hne, hc⟩ := h.2.2 h0
    have := hb.size
    refine ⟨b, off, hA, by omega, by omega, fun i hi => ?_⟩
    obtain ⟨x, h1, h2, h3⟩ := hc i hi
    exact ⟨x, h1, h2, (hb.cell (p := ⟨b, _, none⟩) hlt).trans h3⟩⟩
def GotRun (w : World) (e : Ending) (w' : World) : Prop := ∃ (g cap : Nat) (l : List Task) (x : Int), e = .returned (.tuple #[.slice (some ⟨g, 0, none⟩) l.length cap, .int .i64 x]) ∧ RdTask w' g 0 l ∧ l.length ≤ 6 ∧ l.length ≤ cap ∧ cap ≤ maxLen ∧ -1 ≤ x ∧ x ≤ 61 ∧ Below w.heap.size w w'
set_option maxHeartbeats 2000000 in
theorem gRunTurns_c (A : Option Addr) (n c : Nat) (w : World) (h : InB w A n c) : Calls Try.prog 27 #[.slice A n c] w (GotRun w) := by
  have H := hide h
  clear h
  go_enter Try.func27, Try.ntmps27
  go_wp2_with fail
  refine (open_c A n c _ H.out).mono ?_
  rintro e w1 ⟨r, rfl, hr, hrd, hb1⟩
  go_wp2_with fail
  refine (drawTasks_c w1.heap.size r 0 12 _ (by omega) (by omega) (by omega) hrd).mono ?_
  rintro e w2 ⟨g, cap, l, rfl, hg, hR, h6, hc1, hc2, hs, ha⟩
  have hz := hs.size
  go_wp2_with fail
  refine wp_flowX (os := [_, _, _, _, _, _, _, _, _, _, _, _, _]) (fun cc W => St w2 w1.heap.size r (200 + cc) W ∧ w2.heap.size ≤ W.heap.size) (fun _ => Aside r) (runF g l.length cap r) 13 rfl ?_ ?_ ?_ ?_ ?_ ?_ ?_
  · kernel_rfl
  · kernel_rfl
  · kernel_rfl
  · exact (fun i j v vs w1 w2 _ _ h ha => runF_keep h ha)
  · exact ⟨((St.start hs.1).mono (by omega)).drew, Nat.le_refl _⟩
  ·
    refine FlowStepsX.stepY 21 13 1 rfl rfl (by kernel_rfl) (by kernel_rfl) (by kernel_rfl) rfl rfl ?_ ?_
    ·
      intro cc act vs W hcc ha hvs hS hd hi K hK
      clear ha
      have u5 : act.tmps[5]? = some (.slice (some ⟨g, 0, none⟩) l.length cap) := (hi.out 5 (by kernel_rfl)).trans rfl
      clear hd hi
      clear hvs
      refine wanted_un rfl ?_
      have hst := hS.1
      have hsz := hS.2
      clear hS
      have hrz := hst.size
      go_simp
      exact hK.out _ _ rfl ⟨hst.mono (by omega), hsz⟩ (Aside.refl _ _)
    refine FlowStepsX.stepY 21 13 2 rfl rfl (by kernel_rfl) (by kernel_rfl) (by kernel_rfl) rfl rfl ?_ ?_
    ·
      intro cc act vs W hcc ha hvs hS hd hi K hK
      clear ha
      have u4 : act.tmps[4]? = some (.pointer (some ⟨r, 0, none⟩)) := (hi.out 4 (by kernel_rfl)).trans rfl
      clear hd hi
      clear hvs
      refine wanted_un rfl ?_
      have hst := hS.1
      have hsz := hS.2
      clear hS
      have hrz := hst.size
      go_simp
      exact hK.out _ _ rfl ⟨hst.mono (by omega), hsz⟩ (Aside.refl _ _)
    refine FlowStepsX.stepY 21 13 3 rfl rfl (by kernel_rfl) (by kernel_rfl) (by kernel_rfl) rfl rfl ?_ ?_
    ·
      intro cc act vs W hcc ha hvs hS hd hi K hK
      clear ha
      have u11 : act.tmps[11]? = some (.pointer (some ⟨r, 0, none⟩)) := by obtain ⟨_, u, _, h⟩ := hd.out ⟨1, .data⟩ (some 11) (by simp) rfl rfl; exact u.trans (congrArg some h)
      clear hd hi
      clear hvs
      refine wanted_un rfl ?_
      have hst := hS.1
      have hsz := hS.2
      clear hS
      have hrz := hst.size
      go_wp2_with fail
      refine (pick_s _ _ r _ 12 _ (by omega) (by omega) (by omega) hst).mono ?_
      rintro e W2 ⟨x, rfl, x0, x1, hs2, ha2⟩
      exact hK.out (.int .i64 x) W2 ⟨x, rfl, x0, by omega⟩ ⟨hs2.mono (by omega), Nat.le_trans hsz ha2.1.size⟩ ha2
    refine FlowStepsX.stepY 21 13 4 rfl rfl (by kernel_rfl) (by kernel_rfl) (by kernel_rfl) rfl rfl ?_ ?_
    ·
      intro cc act vs W hcc ha hvs hS hd hi K hK
      clear ha
      obtain ⟨_, u12, _, ⟨n2, rfl, a2, b2⟩⟩ := hd.out ⟨2, .data⟩ (some 12) (by simp) rfl rfl
      clear hd hi
      clear hvs
      refine wanted_un rfl ?_
      have hst := hS.1
      have hsz := hS.2
      clear hS
      have hrz := hst.size
      go_simp
      exact hK.out _ _ ⟨W.heap.size, rfl, by omega, Cl.made _ _ _ _ _ (fun j hj => by
        obtain rfl | rfl | rfl | rfl : j = 0 ∨ j = 1 ∨ j = 2 ∨ j = 3 := by omega
        all_goals exact ⟨_, rfl, _, rfl, by omega, by omega⟩)⟩ ⟨(hst.alloc _).mono (by omega), by simp; omega⟩ ((Aside.refl _ _).alloc _)
    refine FlowStepsX.stepY 21 13 5 rfl rfl (by kernel_rfl) (by kernel_rfl) (by kernel_rfl) rfl rfl ?_ ?_
    ·
      intro cc act vs W hcc ha hvs hS hd hi K hK
      clear ha
      clear hd hi
      clear hvs
      refine wanted_un rfl ?_
      have hst := hS.1
      have hsz := hS.2
      clear hS
      have hrz := hst.size
      go_simp
      exact hK.out _ _ ⟨W.heap.size, rfl, by omega, Cl.made _ _ _ _ _ (fun j hj => by
        obtain rfl | rfl | rfl | rfl | rfl | rfl | rfl : j = 0 ∨ j = 1 ∨ j = 2 ∨ j = 3 ∨ j = 4 ∨ j = 5 ∨ j = 6 := by omega
        all_goals exact ⟨_, rfl, _, rfl, by omega, by omega⟩)⟩ ⟨(hst.alloc _).mono (by omega), by simp; omega⟩ ((Aside.refl _ _).alloc _)
    refine FlowStepsX.stepY 21 13 6 rfl rfl (by kernel_rfl) (by kernel_rfl) (by kernel_rfl) rfl rfl ?_ ?_
    ·
      intro cc act vs W hcc ha hvs hS hd hi K hK
      clear ha
      have u4 : act.tmps[4]? = some (.pointer (some ⟨r, 0, none⟩)) := (hi.out 4 (by kernel_rfl)).trans rfl
      clear hd hi
      clear hvs
      refine wanted_un rfl ?_
      have hst := hS.1
      have hsz := hS.2
      clear hS
      have hrz := hst.size
      go_simp
      exact hK.out _ _ rfl ⟨hst.mono (by omega), hsz⟩ (Aside.refl _ _)
    refine FlowStepsX.stepY 21 13 7 rfl rfl (by kernel_rfl) (by kernel_rfl) (by kernel_rfl) rfl rfl ?_ ?_
    ·
      intro cc act vs W hcc ha hvs hS hd hi K hK
      clear ha
      have u15 : act.tmps[15]? = some (.pointer (some ⟨r, 0, none⟩)) := by obtain ⟨_, u, _, h⟩ := hd.out ⟨5, .data⟩ (some 15) (by simp) rfl rfl; exact u.trans (congrArg some h)
      clear hd hi
      clear hvs
      refine wanted_un rfl ?_
      have hst := hS.1
      have hsz := hS.2
      clear hS
      have hrz := hst.size
      go_wp2_with fail
      refine (pick_s _ _ r _ 7 _ (by omega) (by omega) (by omega) hst).mono ?_
      rintro e W2 ⟨x, rfl, x0, x1, hs2, ha2⟩
      exact hK.out (.int .i64 x) W2 ⟨x, rfl, x0, by omega⟩ ⟨hs2.mono (by omega), Nat.le_trans hsz ha2.1.size⟩ ha2
    refine FlowStepsX.stepY 21 13 8 rfl rfl (by kernel_rfl) (by kernel_rfl) (by kernel_rfl) rfl rfl ?_ ?_
    ·
      intro cc act vs W hcc ha hvs hS hd hi K hK
      clear ha
      obtain ⟨_, u14, _, ⟨q, rfl, hg, hcl⟩⟩ := hd.out ⟨4, .data⟩ (some 14) (by simp) rfl rfl
      obtain ⟨_, u16, _, ⟨x, rfl, x0, x1⟩⟩ := hd.out ⟨6, .data⟩ (some 16) (by simp) rfl rfl
      clear hd hi
      clear hvs
      refine wanted_un rfl ?_
      have hst := hS.1
      have hsz := hS.2
      clear hS
      have hrz := hst.size
      obtain ⟨x, rfl⟩ := Int.eq_ofNat_of_zero_le x0
      have hx4 : (x : Int) < 7 := by omega
      go_simp
      exact hK.out _ _ ⟨q, x, rfl, hg, by omega, hcl⟩ ⟨hst.mono (by omega), hsz⟩ (Aside.refl _ _)
    refine FlowStepsX.stepY 21 13 9 rfl rfl (by kernel_rfl) (by kernel_rfl) (by kernel_rfl) rfl rfl ?_ ?_
    ·
      intro cc act vs W hcc ha hvs hS hd hi K hK
      clear ha
      obtain ⟨_, u17, _, ⟨q, j, rfl, hg, hj, hcl⟩⟩ := hd.out ⟨7, .data⟩ (some 17) (by simp) rfl rfl
      clear hd hi
      clear hvs
      refine wanted_un rfl ?_
      have hst := hS.1
      have hsz := hS.2
      clear hS
      have hrz := hst.size
      obtain ⟨u, hu, ⟨s, rfl, sa, sb⟩, hfz⟩ := hcl.2 j hj
      go_simp
      exact hK.out _ _ ⟨s, rfl, sa, sb⟩ ⟨hst.mono (by omega), hsz⟩ (Aside.refl _ _)
    refine FlowStepsX.stepY 21 13 10 rfl rfl (by kernel_rfl) (by kernel_rfl) (by kernel_rfl) rfl rfl ?_ ?_
    ·
      intro cc act vs W hcc ha hvs hS hd hi K hK
      clear ha
      obtain ⟨_, u13, _, ⟨q, rfl, hg, hcl⟩⟩ := hd.out ⟨3, .data⟩ (some 13) (by simp) rfl rfl
      obtain ⟨_, u18, _, ⟨x, rfl, x0, x1⟩⟩ := hd.out ⟨8, .data⟩ (some 18) (by simp) rfl rfl
      clear hd hi
      clear hvs
      refine wanted_un rfl ?_
      have hst := hS.1
      have hsz := hS.2
      clear hS
      have hrz := hst.size
      obtain ⟨x, rfl⟩ := Int.eq_ofNat_of_zero_le x0
      have hx4 : (x : Int) < 4 := by omega
      go_simp
      exact hK.out _ _ ⟨q, x, rfl, hg, by omega, hcl⟩ ⟨hst.mono (by omega), hsz⟩ (Aside.refl _ _)
    refine FlowStepsX.stepY 21 13 11 rfl rfl (by kernel_rfl) (by kernel_rfl) (by kernel_rfl) rfl rfl ?_ ?_
    ·
      intro cc act vs W hcc ha hvs hS hd hi K hK
      clear ha
      obtain ⟨_, u19, _, ⟨q, j, rfl, hg, hj, hcl⟩⟩ := hd.out ⟨9, .data⟩ (some 19) (by simp) rfl rfl
      clear hd hi
      clear hvs
      refine wanted_un rfl ?_
      have hst := hS.1
      have hsz := hS.2
      clear hS
      have hrz := hst.size
      obtain ⟨u, hu, ⟨s, rfl, sa, sb⟩, hfz⟩ := hcl.2 j hj
      go_simp
      exact hK.out _ _ ⟨s, rfl, sa, sb⟩ ⟨hst.mono (by omega), hsz⟩ (Aside.refl _ _)
    refine FlowStepsX.stepY 21 13 12 rfl rfl (by kernel_rfl) (by kernel_rfl) (by kernel_rfl) rfl rfl ?_ ?_
    ·
      intro cc act vs W hcc ha hvs hS hd hi K hK
      clear ha
      have u10 : act.tmps[10]? = some (.slice (some ⟨g, 0, none⟩) l.length cap) := by obtain ⟨_, u, _, h⟩ := hd.out ⟨0, .data⟩ (some 10) (by simp) rfl rfl; exact u.trans (congrArg some h)
      clear hd hi
      clear hvs
      refine wanted_un rfl ?_
      have hst := hS.1
      have hsz := hS.2
      clear hS
      have hrz := hst.size
      go_simp
      exact hK.out _ _ rfl ⟨hst.mono (by omega), hsz⟩ (Aside.refl _ _)
    refine FlowStepsX.stepY 21 13 13 rfl rfl (by kernel_rfl) (by kernel_rfl) (by kernel_rfl) rfl rfl ?_ ?_
    ·
      intro cc act vs W hcc ha hvs hS hd hi K hK
      clear ha
      obtain ⟨_, u20, _, ⟨x, rfl, x0, x1⟩⟩ := hd.out ⟨10, .data⟩ (some 20) (by simp) rfl rfl
      clear hd hi
      clear hvs
      refine wanted_un rfl ?_
      have hst := hS.1
      have hsz := hS.2
      clear hS
      have hrz := hst.size
      go_simp
      exact hK.out _ _ ⟨x, rfl, x0, x1⟩ ⟨hst.mono (by omega), hsz⟩ (Aside.refl _ _)
    exact FlowStepsX.nil
  · intro c ρ W hc hS hd
    simp only [putFrom, Act.put, List.setIfInBounds_toArray, List.set_cons_zero, List.set_cons_succ, Nat.reduceAdd]
    have d11 : ρ 11 = .slice (some ⟨g, 0, none⟩) l.length cap := hd.out 11 (by decide) (by kernel_rfl)
    generalize ρ 11 = x11 at d11 ⊢
    subst d11
    have d12 := hd.out 12 (by decide) (by kernel_rfl)
    generalize ρ 12 = x12 at d12 ⊢
    obtain ⟨q, rfl, q0, q1⟩ := d12
    clear hd
    have hst := hS.1
    have hR3 : RdTask W g 0 l := by
      have a24 := hst.2.1
      refine ⟨Nat.lt_of_lt_of_le hR.1 a24.1.size, fun k t ht => ?_⟩
      obtain ⟨c0, c1, c2⟩ := hR.2 k t ht
      exact ⟨(a24.cell hR.1 (by omega) _).trans c0, (a24.cell hR.1 (by omega) _).trans c1, (a24.cell hR.1 (by omega) _).trans c2⟩
    have hb3 : Below w.heap.size w W := (ha.trans hst.2.1).below hb1 hr hb1.size
    go_wp2_with fail
    exact bodyPost_ret (v := .tuple #[.slice (some ⟨g, 0, none⟩) l.length cap, .int .i64 q]) (by simp [results, Try.results27, go_sem]) rfl ⟨g, cap, l, _, rfl, hR3, h6, hc1, hc2, q0, q1, hb3⟩

theorem runT_noone {l : List Task} (h0 : ¬ nextTo l l.length < 0) (h : l[(nextTo l l.length).toNat]? = none) (ps : List Int) : ∀ k, runT k l ps = some (l, ps)
  | 0 => rfl
  | k + 1 => by simp [runT, h0, h]
theorem runT_add (b : Nat) : ∀ (a : Nat) (l : List Task) (ps : List Int), runT (a + b) l ps = (runT a l ps).bind fun r => runT b r.1 r.2
  | 0, l, ps => by simp [runT]
  | a + 1, l, ps => by
    rw [show a + 1 + b = a + b + 1 by omega]
    by_cases h0 : nextTo l l.length < 0
    · rw [runT_stop h0, runT_stop h0]; exact (runT_stop h0 ps b).symm
    · cases hg : l[(nextTo l l.length).toNat]? with
      | none => rw [runT_noone h0 hg, runT_noone h0 hg]; exact (runT_noone h0 hg ps b).symm
      | some t =>
        obtain ⟨p, hp⟩ := Int.eq_ofNat_of_zero_le (show 0 ≤ nextTo l l.length by omega)
        rw [hp, Int.toNat_natCast] at hg
        by_cases ho : 1000000 < (gave t).had
        · rw [runT_over hp hg ho, runT_over hp hg ho]; rfl
        · rw [runT_step hp hg ho, runT_step hp hg ho]; exact runT_add b a _ _
theorem runT_acc : ∀ (k : Nat) (l : List Task) (ps qs : List Int), runT k l (ps ++ qs) = (runT k l qs).map fun r => (r.1, ps ++ r.2)
  | 0, l, ps, qs => by simp [runT]
  | k + 1, l, ps, qs => by
    by_cases h0 : nextTo l l.length < 0
    · rw [runT_stop h0, runT_stop h0]; rfl
    · cases hg : l[(nextTo l l.length).toNat]? with
      | none => rw [runT_noone h0 hg, runT_noone h0 hg]; rfl
      | some t =>
        obtain ⟨p, hp⟩ := Int.eq_ofNat_of_zero_le (show 0 ≤ nextTo l l.length by omega)
        rw [hp, Int.toNat_natCast] at hg
        by_cases ho : 1000000 < (gave t).had
        · rw [runT_over hp hg ho, runT_over hp hg ho]; rfl
        · rw [runT_step hp hg ho, runT_step hp hg ho, List.append_assoc]; exact runT_acc k _ _ _
theorem runT_valid : ∀ (k : Nat) (l : List Task) (ps : List Int) (L : List Task) (qs : List Int), tasksB l = true → runT k l ps = some (L, qs) → tasksB L = true
  | 0, l, ps, L, qs, hv, h => by simp only [runT, Option.some.injEq, Prod.mk.injEq] at h; obtain ⟨rfl, rfl⟩ := h; exact hv
  | k + 1, l, ps, L, qs, hv, h => by
    by_cases h0 : nextTo l l.length < 0
    · rw [runT_stop h0] at h; cases h; exact hv
    · cases hg : l[(nextTo l l.length).toNat]? with
      | none => rw [runT_noone h0 hg] at h; cases h; exact hv
      | some t =>
        obtain ⟨p, hp⟩ := Int.eq_ofNat_of_zero_le (show 0 ≤ nextTo l l.length by omega)
        rw [hp, Int.toNat_natCast] at hg
        by_cases ho : 1000000 < (gave t).had
        · rw [runT_over hp hg ho] at h; cases h
        · rw [runT_step hp hg ho] at h
          exact runT_valid k _ _ L qs (tasksB_gave hv hg ho) h
/-- A number in the tasks of one that does not wait. -/
def Ready (l : List Task) (x : Int) : Prop := ∃ (p : Nat) (t : Task), x = p ∧ l[p]? = some t ∧ t.waits = false
theorem ready_set {l : List Task} {p : Nat} {t : Task} (ht : l[p]? = some t) {x : Int} (h : Ready (l.set p (gave t)) x) : Ready l x := by
  obtain ⟨q, s, rfl, hs, hw⟩ := h
  by_cases e : p = q
  · subst e
    rw [List.getElem?_set_self (List.getElem?_eq_some_iff.1 ht).1] at hs
    cases hs
    exact ⟨p, t, rfl, ht, hw⟩
  · rw [List.getElem?_set_ne e] at hs
    exact ⟨q, s, rfl, hs, hw⟩
theorem runT_ready : ∀ (k : Nat) (l : List Task) (ps : List Int) (L : List Task) (qs : List Int), (∀ x ∈ ps, Ready l x) → runT k l ps = some (L, qs) → ∀ x ∈ qs, Ready l x
  | 0, l, ps, L, qs, hr, h => by simp only [runT, Option.some.injEq, Prod.mk.injEq] at h; obtain ⟨rfl, rfl⟩ := h; exact hr
  | k + 1, l, ps, L, qs, hr, h => by
    by_cases h0 : nextTo l l.length < 0
    · rw [runT_stop h0] at h; cases h; exact hr
    · cases hg : l[(nextTo l l.length).toNat]? with
      | none => rw [runT_noone h0 hg] at h; cases h; exact hr
      | some t =>
        obtain ⟨p, hp⟩ := Int.eq_ofNat_of_zero_le (show 0 ≤ nextTo l l.length by omega)
        rw [hp, Int.toNat_natCast] at hg
        by_cases ho : 1000000 < (gave t).had
        · rw [runT_over hp hg ho] at h; cases h
        · rw [runT_step hp hg ho] at h
          have hrd : Ready l (p : Int) := by
            rcases nextTo_least l l.length (Nat.le_refl _) with ⟨h1, _⟩ | ⟨q, s, h1, h2, h3⟩
            · omega
            · obtain rfl : q = p := by omega
              exact ⟨q, s, rfl, h3.1, h3.2.1⟩
          have hset : ∀ x, Ready l x → Ready (l.set p (gave t)) x := fun x ⟨q, s, e, hs, hw⟩ => by
            by_cases e2 : p = q
            · subst e2
              have : s = t := by have := hs.symm.trans hg; simpa using this
              subst this
              exact ⟨p, gave s, e, List.getElem?_set_self (List.getElem?_eq_some_iff.1 hg).1, hw⟩
            · exact ⟨q, s, e, by rw [List.getElem?_set_ne e2]; exact hs, hw⟩
          intro x hx
          exact ready_set hg (runT_ready k _ _ L qs (fun y hy => by
            rcases List.mem_append.1 hy with hy | hy
            · exact hset y (hr y hy)
            · simp only [List.mem_singleton] at hy; subst hy; exact hset _ hrd) h x hx)
/-- The turns in two parts. -/
theorem runQ_split {l L : List Task} {ps : List Int} {q : Int} (h : runQ l q = some (L, ps)) :
    0 ≤ q ∧ q ≤ 60 ∧ (∀ x ∈ ps, Ready l x) ∧ ∃ (L1 : List Task) (p1 p2 : List Int), runQ l (q / 2) = some (L1, p1) ∧ runQ L1 (q - q / 2) = some (L, p2) ∧ ps = p1 ++ p2 ∧ p1.length ≤ 60 ∧ p2.length ≤ 60 ∧ L1.length = l.length := by
  unfold runQ at h
  split at h
  · rename_i hv
    split at h
    · rename_i hq
      have hq' := inB_iff.1 hq
      obtain ⟨q, rfl⟩ := Int.eq_ofNat_of_zero_le hq'.1
      rw [Int.toNat_natCast] at h
      have hr := runT_ready q l [] L ps (fun x hx => by cases hx) h
      have e : q = q / 2 + (q - q / 2) := by omega
      rw [e, runT_add] at h
      cases h1 : runT (q / 2) l [] with
      | none => rw [h1] at h; cases h
      | some r =>
        obtain ⟨L1, p1⟩ := r
        rw [h1] at h
        simp only [Option.bind_some] at h
        have h2 := runT_acc (q - q / 2) L1 p1 []
        rw [List.append_nil, h] at h2
        cases h3 : runT (q - q / 2) L1 [] with
        | none => rw [h3] at h2; cases h2
        | some r =>
          obtain ⟨L2, p2⟩ := r
          rw [h3] at h2
          simp only [Option.map_some, Option.some.injEq, Prod.mk.injEq] at h2
          obtain ⟨rfl, rfl⟩ := h2
          have hv1 := runT_valid _ _ _ _ _ hv h1
          have e1 : ((q : Int) / 2).toNat = q / 2 := by omega
          have e2 : ((q : Int) - (q : Int) / 2).toNat = q - q / 2 := by omega
          have i1 : inB ((q : Int) / 2) 0 60 = true := inB_iff.2 ⟨by omega, by omega⟩
          have i2 : inB ((q : Int) - (q : Int) / 2) 0 60 = true := inB_iff.2 ⟨by omega, by omega⟩
          have l1 := runT_len _ _ _ _ _ h1
          have l2 := runT_len _ _ _ _ _ h3
          simp only [List.length_nil, Nat.zero_add] at l1 l2
          refine ⟨by omega, by omega, hr, L1, p1, p2, ?_, ?_, rfl, by omega, by omega, l1.1⟩
          · unfold runQ; rw [if_pos hv, if_pos i1, e1, h1]
          · unfold runQ; rw [if_pos hv1, if_pos i2, e2, h3]
    · cases h
  · cases h
end Go.Proofs.Ytnpgofmihmjmeaa
