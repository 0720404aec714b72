/-
  CredOutside, of the program and of the reference, and its exact law's walk. No condition.
-/
import Derived.Test.YthocpajiihdceaaProg
import Derived.Test.YthocpajiihdceaaRng5
import Derived.Test.YthocpajiihdceaaFlowS
namespace Go.Proofs.Ythocpajiihdceaa
open Go.RowKit
set_option linter.unusedSimpArgs false
set_option linter.unusedVariables false

def credB (r a s g : Int) : Bool := inB r 0 99 && (inB a 0 99 && (inB s 0 99 && inB g 0 255))
theorem isUser_c (n : Int) (w : World) : Calls Try.prog 42 #[.int .i64 n] w fun e w' => e = .returned (.bool (inB n 0 99)) ∧ w = w' := by
  go_enter Try.func42, Try.ntmps42
  go_wp2_with (go_at_call 33; refine (within_c _ _ _ _).mono ?_; rintro e w' ⟨rfl, rfl⟩)
  go_ret
  exact ⟨rfl, rfl⟩
theorem credImpl_c (r a s g : Int) (w : World) :
    Calls Try.prog 29 #[.agg #[.int .i64 r, .int .i64 a, .int .i64 s, .int .i64 g]] w fun e w' => e = .returned (.bool (credB r a s g)) ∧ Below w.heap.size w w' := by
  go_enter Try.func29, Try.ntmps29
  go_wp2_with (first | (go_at_call 33; refine (within_c _ _ _ _).mono ?_; rintro e w' ⟨rfl, rfl⟩) | (go_at_call 42; refine (isUser_c _ _).mono ?_; rintro e w' ⟨rfl, rfl⟩))
  all_goals
    go_ret
    exact ⟨by simp [credB, *], (by repeat' (first | exact Below.refl _ _ | assumption | exact And.left (by assumption) | omega | (simp; done) | (simp; omega) | (simp at *; omega) | (refine Below.setCell ?_ ?_ _) | (refine below_alloc0 ?_ _) | (refine Below.drew ?_) | (refine below_drewN ?_ _) | (refine below_via0 ?_ (by assumption)) | (refine Below.alloc ?_ ?_ _) | (refine below_via ?_ (by assumption) ?_)))⟩
theorem credSpec_c (r a s g : Int) (w : World) :
    Calls Try.prog 40 #[.agg #[.int .i64 r, .int .i64 a, .int .i64 s, .int .i64 g]] w fun e w' => e = .returned (.bool (credB r a s g)) ∧ Below w.heap.size w w' := by
  go_enter Try.func40, Try.ntmps40
  go_wp2_with (go_at_call 30; refine (l1In_c _ _ _ _).mono ?_; rintro e w' ⟨rfl, rfl⟩)
  all_goals
    go_ret
    exact ⟨by simp [credB, *], (by repeat' (first | exact Below.refl _ _ | assumption | exact And.left (by assumption) | omega | (simp; done) | (simp; omega) | (simp at *; omega) | (refine Below.setCell ?_ ?_ _) | (refine below_alloc0 ?_ _) | (refine Below.drew ?_) | (refine below_drewN ?_ _) | (refine below_via0 ?_ (by assumption)) | (refine Below.alloc ?_ ?_ _) | (refine below_via ?_ (by assumption) ?_)))⟩
theorem toCred_c (r a s g : Int) (w : World) :
    Calls Try.prog 25 #[.agg #[.int .i64 r, .int .i64 a, .int .i64 s, .int .i64 g]] w fun e w' => e = .returned (.agg #[.int .i64 r, .int .i64 a, .int .i64 s, .int .i64 g]) ∧ Below w.heap.size w w' := by
  go_enter Try.func25, Try.ntmps25
  go_wp2
  exact bodyPost_ret (v := .agg #[.int .i64 r, .int .i64 a, .int .i64 s, .int .i64 g]) (by simp [results, Try.results25, go_sem]) rfl ⟨rfl, (by repeat' (first | exact Below.refl _ _ | assumption | exact And.left (by assumption) | omega | (simp; done) | (simp; omega) | (simp at *; omega) | (refine Below.setCell ?_ ?_ _) | (refine below_alloc0 ?_ _) | (refine Below.drew ?_) | (refine below_drewN ?_ _) | (refine below_via0 ?_ (by assumption)) | (refine Below.alloc ?_ ?_ _) | (refine below_via ?_ (by assumption) ?_)))⟩
theorem eqCred_c (r a s g : Int) (w : World) :
    Calls Try.prog 27 #[.agg #[.int .i64 r, .int .i64 a, .int .i64 s, .int .i64 g], .agg #[.int .i64 r, .int .i64 a, .int .i64 s, .int .i64 g]] w fun e w' => e = .returned (.bool true) ∧ Below w.heap.size w w' := by
  go_enter Try.func27, Try.ntmps27
  go_wp2
  go_ret
  exact ⟨rfl, (by repeat' (first | exact Below.refl _ _ | assumption | exact And.left (by assumption) | omega | (simp; done) | (simp; omega) | (simp at *; omega) | (refine Below.setCell ?_ ?_ _) | (refine below_alloc0 ?_ _) | (refine Below.drew ?_) | (refine below_drewN ?_ _) | (refine below_via0 ?_ (by assumption)) | (refine Below.alloc ?_ ?_ _) | (refine below_via ?_ (by assumption) ?_)))⟩

noncomputable def coOk (l : List Rng) (r a s g : Int) : Bool := credB r a s g && credB (uOut l r) (uOut l a) (uOut l s) g
noncomputable def coF (l : List Rng) (r a s g x : Int) : Int := if coOk l r a s g = true then x else 0
def coFF (l : List Rng) (r a s g : Int) (b off n c x lo : Nat) (i : Nat) (v : Value) (vs : List Value) (W : World) : Prop :=
  match i with
  | 0 => v = .slice (some ⟨b, off, none⟩) n c
  | 1 => v = .pointer (some ⟨x, 0, none⟩)
  | 2 => v = .int .i64 r
  | 3 => v = .int .i64 (uOut l r)
  | 4 => v = .slice (some ⟨b, off, none⟩) n c
  | 5 => v = .pointer (some ⟨x, 1, none⟩)
  | 6 => v = .int .i64 a
  | 7 => v = .int .i64 (uOut l a)
  | 8 => v = .slice (some ⟨b, off, none⟩) n c
  | 9 => v = .pointer (some ⟨x, 2, none⟩)
  | 10 => v = .int .i64 s
  | 11 => v = .int .i64 (uOut l s)
  | 12 => v = .pointer (some ⟨x, 3, none⟩)
  | 13 => v = .int .i64 g
  | 14 => v = .agg #[.int .i64 (uOut l r), .int .i64 (uOut l a), .int .i64 (uOut l s), .int .i64 g]
  | 15 => ∃ q, v = .pointer (some ⟨q, 0, none⟩) ∧ lo ≤ q ∧ Row W q 4 noCell
  | 16 => ∃ q, v = .pointer (some ⟨q, 0, none⟩) ∧ vs[0]? = some v ∧ lo ≤ q ∧ Row W q 4 (rwl [.int .i64 (uOut l r), .int .i64 (uOut l a), .int .i64 (uOut l s), .int .i64 g])
  | _ => True
theorem coFF_keep {l : List Rng} {r a s g : Int} {b off n c x lo i j : Nat} {v : Value} {vs : List Value} {W W' : World} (hij : i ≠ j) (h : coFF l r a s g b off n c x lo j v vs W) (hc : stC lo [16] i W W') : coFF l r a s g b off n c x lo j v vs W' := by
  unfold coFF at h ⊢
  split <;> simp only at h <;> try exact h
  · obtain ⟨q, h1, h2, h3⟩ := h
    exact ⟨q, h1, h2, stC_row hc h3⟩
  · obtain ⟨q, h1, h2, h3, h4⟩ := h
    exact ⟨q, h1, h2, h3, stC_keep hc (by simpa using hij) h4⟩
set_option maxHeartbeats 2000000 in
theorem coSpec_c (b off n c : Nat) (l : List Rng) (r a s g : Int) (hl : l.length = n) (hn : n ≤ 1048576) (w : World) (hR : RR w b off l) :
    Calls Try.prog 24 #[.slice (some ⟨b, off, none⟩) n c, .agg #[.int .i64 r, .int .i64 a, .int .i64 s, .int .i64 g]] w fun e w' =>
      e = .returned (.tuple #[.agg #[.int .i64 (coF l r a s g (uOut l r)), .int .i64 (coF l r a s g (uOut l a)), .int .i64 (coF l r a s g (uOut l s)), .int .i64 (coF l r a s g g)], .bool (coOk l r a s g)]) ∧ Below w.heap.size w w' := by
  go_enter Try.func24, Try.ntmps24
  go_wp2_with fail
  generalize hW0 : (w.alloc (.cells #[.int .i64 r, .int .i64 a, .int .i64 s, .int .i64 g] 41)).alloc (.cells #[.int .i64 0, .int .i64 0, .int .i64 0, .int .i64 0] 41) = W0
  have hz0 : W0.heap.size = w.heap.size + 1 + 1 := by rw [← hW0]; simp
  have BW0 : Below w.heap.size w W0 := by rw [← hW0]; exact below_alloc0 (below_alloc0 (Below.refl _ _) _) _
  have cx0 : W0.cell? ⟨w.heap.size, 0, none⟩ = some (.int .i64 r) := by rw [← hW0]; simp
  have cx1 : W0.cell? ⟨w.heap.size, 1, none⟩ = some (.int .i64 a) := by rw [← hW0]; simp
  have cx2 : W0.cell? ⟨w.heap.size, 2, none⟩ = some (.int .i64 s) := by rw [← hW0]; simp
  have cx3 : W0.cell? ⟨w.heap.size, 3, none⟩ = some (.int .i64 g) := by rw [← hW0]; simp
  have RR0 : Row W0 (w.heap.size + 1) 4 noCell := by
    rw [← hW0]
    have := Row.madeN (w.alloc (.cells #[.int .i64 r, .int .i64 a, .int .i64 s, .int .i64 g] 41)) 41 #[.int .i64 0, .int .i64 0, .int .i64 0, .int .i64 0] 4 rfl
    simpa using this
  clear hW0
  refine wp_flowX (os := [_, _, _, _, _, _, _, _, _, _, _, _, _, _, _, _, _]) (fun c W => Below (w.heap.size + 1 + 1) W0 W) (stC (w.heap.size + 1 + 1) [16]) (coFF l r a s g b off n c w.heap.size (w.heap.size + 1 + 1)) 17 rfl ?_ ?_ ?_ ?_ ?_ ?_ ?_
  · kernel_rfl
  · kernel_rfl
  · kernel_rfl
  · exact (fun i j v vs w1 w2 hij _ h hc => coFF_keep hij h hc)
  · exact (Below.refl _ _).drew
  ·
    refine FlowStepsX.stepY 32 17 1 rfl rfl (by kernel_rfl) (by kernel_rfl) (by kernel_rfl) rfl rfl ?_ ?_
    ·
      intro cc act vs W hcc ha hvs hS hd hi K hK
      clear ha
      have u0 : act.tmps[0]? = some (.slice (some ⟨b, off, none⟩) n c) := (hi.out 0 (by kernel_rfl)).trans rfl
      clear hd hi
      clear hvs
      refine wanted_un rfl ?_
      go_simp
      exact hK.out _ _ rfl hS (stC_refl (by decide))
    refine FlowStepsX.stepY 32 17 2 rfl rfl (by kernel_rfl) (by kernel_rfl) (by kernel_rfl) rfl rfl ?_ ?_
    ·
      intro cc act vs W hcc ha hvs hS hd hi K hK
      clear ha
      have u3 : act.tmps[3]? = some (.pointer (some ⟨w.heap.size, 0, none⟩)) := (hi.out 3 (by kernel_rfl)).trans rfl
      clear hd hi
      clear hvs
      refine wanted_un rfl ?_
      go_simp
      exact hK.out _ _ rfl hS (stC_refl (by decide))
    refine FlowStepsX.stepY 32 17 3 rfl rfl (by kernel_rfl) (by kernel_rfl) (by kernel_rfl) rfl rfl ?_ ?_
    ·
      intro cc act vs W hcc ha hvs hS hd hi K hK
      clear ha
      have u8 : act.tmps[8]? = some (.pointer (some ⟨w.heap.size, 0, none⟩)) := by obtain ⟨_, u, _, h⟩ := hd.out ⟨1, .data⟩ (some 8) (by simp) rfl rfl; exact u.trans (congrArg some h)
      clear hd hi
      clear hvs
      refine wanted_un rfl ?_
      have e1 := (hS.cell (p := ⟨w.heap.size, 0, none⟩) (by show w.heap.size < _; omega)).trans cx0
      go_simp
      exact hK.out _ _ rfl hS (stC_refl (by decide))
    refine FlowStepsX.stepY 32 17 4 rfl rfl (by kernel_rfl) (by kernel_rfl) (by kernel_rfl) rfl rfl ?_ ?_
    ·
      intro cc act vs W hcc ha hvs hS hd hi K hK
      clear ha
      have u7 : act.tmps[7]? = some (.slice (some ⟨b, off, none⟩) n c) := by obtain ⟨_, u, _, h⟩ := hd.out ⟨0, .data⟩ (some 7) (by simp) rfl rfl; exact u.trans (congrArg some h)
      have u9 : act.tmps[9]? = some (.int .i64 r) := by obtain ⟨_, u, _, h⟩ := hd.out ⟨2, .data⟩ (some 9) (by simp) rfl rfl; exact u.trans (congrArg some h)
      clear hd hi
      clear hvs
      refine wanted_un rfl ?_
      go_wp2_with fail
      refine (outSpec_c _ _ _ _ l r hl hn _ (hR.below (BW0.trans (hS.mono (by omega))))).mono ?_
      rintro e w6 ⟨rfl, hb6⟩
      have hsz := hS.size
      exact hK.out _ w6 rfl (hS.trans (hb6.mono (by omega))) (stC_below (by decide) hb6)
    refine FlowStepsX.stepY 32 17 5 rfl rfl (by kernel_rfl) (by kernel_rfl) (by kernel_rfl) rfl rfl ?_ ?_
    ·
      intro cc act vs W hcc ha hvs hS hd hi K hK
      clear ha
      have u0 : act.tmps[0]? = some (.slice (some ⟨b, off, none⟩) n c) := (hi.out 0 (by kernel_rfl)).trans rfl
      clear hd hi
      clear hvs
      refine wanted_un rfl ?_
      go_simp
      exact hK.out _ _ rfl hS (stC_refl (by decide))
    refine FlowStepsX.stepY 32 17 6 rfl rfl (by kernel_rfl) (by kernel_rfl) (by kernel_rfl) rfl rfl ?_ ?_
    ·
      intro cc act vs W hcc ha hvs hS hd hi K hK
      clear ha
      have u3 : act.tmps[3]? = some (.pointer (some ⟨w.heap.size, 0, none⟩)) := (hi.out 3 (by kernel_rfl)).trans rfl
      clear hd hi
      clear hvs
      refine wanted_un rfl ?_
      go_simp
      exact hK.out _ _ rfl hS (stC_refl (by decide))
    refine FlowStepsX.stepY 32 17 7 rfl rfl (by kernel_rfl) (by kernel_rfl) (by kernel_rfl) rfl rfl ?_ ?_
    ·
      intro cc act vs W hcc ha hvs hS hd hi K hK
      clear ha
      have u12 : act.tmps[12]? = some (.pointer (some ⟨w.heap.size, 1, none⟩)) := by obtain ⟨_, u, _, h⟩ := hd.out ⟨5, .data⟩ (some 12) (by simp) rfl rfl; exact u.trans (congrArg some h)
      clear hd hi
      clear hvs
      refine wanted_un rfl ?_
      have e1 := (hS.cell (p := ⟨w.heap.size, 1, none⟩) (by show w.heap.size < _; omega)).trans cx1
      go_simp
      exact hK.out _ _ rfl hS (stC_refl (by decide))
    refine FlowStepsX.stepY 32 17 8 rfl rfl (by kernel_rfl) (by kernel_rfl) (by kernel_rfl) rfl rfl ?_ ?_
    ·
      intro cc act vs W hcc ha hvs hS hd hi K hK
      clear ha
      have u11 : act.tmps[11]? = some (.slice (some ⟨b, off, none⟩) n c) := by obtain ⟨_, u, _, h⟩ := hd.out ⟨4, .data⟩ (some 11) (by simp) rfl rfl; exact u.trans (congrArg some h)
      have u13 : act.tmps[13]? = some (.int .i64 a) := by obtain ⟨_, u, _, h⟩ := hd.out ⟨6, .data⟩ (some 13) (by simp) rfl rfl; exact u.trans (congrArg some h)
      clear hd hi
      clear hvs
      refine wanted_un rfl ?_
      go_wp2_with fail
      refine (outSpec_c _ _ _ _ l a hl hn _ (hR.below (BW0.trans (hS.mono (by omega))))).mono ?_
      rintro e w6 ⟨rfl, hb6⟩
      have hsz := hS.size
      exact hK.out _ w6 rfl (hS.trans (hb6.mono (by omega))) (stC_below (by decide) hb6)
    refine FlowStepsX.stepY 32 17 9 rfl rfl (by kernel_rfl) (by kernel_rfl) (by kernel_rfl) rfl rfl ?_ ?_
    ·
      intro cc act vs W hcc ha hvs hS hd hi K hK
      clear ha
      have u0 : act.tmps[0]? = some (.slice (some ⟨b, off, none⟩) n c) := (hi.out 0 (by kernel_rfl)).trans rfl
      clear hd hi
      clear hvs
      refine wanted_un rfl ?_
      go_simp
      exact hK.out _ _ rfl hS (stC_refl (by decide))
    refine FlowStepsX.stepY 32 17 10 rfl rfl (by kernel_rfl) (by kernel_rfl) (by kernel_rfl) rfl rfl ?_ ?_
    ·
      intro cc act vs W hcc ha hvs hS hd hi K hK
      clear ha
      have u3 : act.tmps[3]? = some (.pointer (some ⟨w.heap.size, 0, none⟩)) := (hi.out 3 (by kernel_rfl)).trans rfl
      clear hd hi
      clear hvs
      refine wanted_un rfl ?_
      go_simp
      exact hK.out _ _ rfl hS (stC_refl (by decide))
    refine FlowStepsX.stepY 32 17 11 rfl rfl (by kernel_rfl) (by kernel_rfl) (by kernel_rfl) rfl rfl ?_ ?_
    ·
      intro cc act vs W hcc ha hvs hS hd hi K hK
      clear ha
      have u16 : act.tmps[16]? = some (.pointer (some ⟨w.heap.size, 2, none⟩)) := by obtain ⟨_, u, _, h⟩ := hd.out ⟨9, .data⟩ (some 16) (by simp) rfl rfl; exact u.trans (congrArg some h)
      clear hd hi
      clear hvs
      refine wanted_un rfl ?_
      have e1 := (hS.cell (p := ⟨w.heap.size, 2, none⟩) (by show w.heap.size < _; omega)).trans cx2
      go_simp
      exact hK.out _ _ rfl hS (stC_refl (by decide))
    refine FlowStepsX.stepY 32 17 12 rfl rfl (by kernel_rfl) (by kernel_rfl) (by kernel_rfl) rfl rfl ?_ ?_
    ·
      intro cc act vs W hcc ha hvs hS hd hi K hK
      clear ha
      have u15 : act.tmps[15]? = some (.slice (some ⟨b, off, none⟩) n c) := by obtain ⟨_, u, _, h⟩ := hd.out ⟨8, .data⟩ (some 15) (by simp) rfl rfl; exact u.trans (congrArg some h)
      have u17 : act.tmps[17]? = some (.int .i64 s) := by obtain ⟨_, u, _, h⟩ := hd.out ⟨10, .data⟩ (some 17) (by simp) rfl rfl; exact u.trans (congrArg some h)
      clear hd hi
      clear hvs
      refine wanted_un rfl ?_
      go_wp2_with fail
      refine (outSpec_c _ _ _ _ l s hl hn _ (hR.below (BW0.trans (hS.mono (by omega))))).mono ?_
      rintro e w6 ⟨rfl, hb6⟩
      have hsz := hS.size
      exact hK.out _ w6 rfl (hS.trans (hb6.mono (by omega))) (stC_below (by decide) hb6)
    refine FlowStepsX.stepY 32 17 13 rfl rfl (by kernel_rfl) (by kernel_rfl) (by kernel_rfl) rfl rfl ?_ ?_
    ·
      intro cc act vs W hcc ha hvs hS hd hi K hK
      clear ha
      have u3 : act.tmps[3]? = some (.pointer (some ⟨w.heap.size, 0, none⟩)) := (hi.out 3 (by kernel_rfl)).trans rfl
      clear hd hi
      clear hvs
      refine wanted_un rfl ?_
      go_simp
      exact hK.out _ _ rfl hS (stC_refl (by decide))
    refine FlowStepsX.stepY 32 17 14 rfl rfl (by kernel_rfl) (by kernel_rfl) (by kernel_rfl) rfl rfl ?_ ?_
    ·
      intro cc act vs W hcc ha hvs hS hd hi K hK
      clear ha
      have u19 : act.tmps[19]? = some (.pointer (some ⟨w.heap.size, 3, none⟩)) := by obtain ⟨_, u, _, h⟩ := hd.out ⟨12, .data⟩ (some 19) (by simp) rfl rfl; exact u.trans (congrArg some h)
      clear hd hi
      clear hvs
      refine wanted_un rfl ?_
      have e1 := (hS.cell (p := ⟨w.heap.size, 3, none⟩) (by show w.heap.size < _; omega)).trans cx3
      go_simp
      exact hK.out _ _ rfl hS (stC_refl (by decide))
    refine FlowStepsX.stepY 32 17 15 rfl rfl (by kernel_rfl) (by kernel_rfl) (by kernel_rfl) rfl rfl ?_ ?_
    ·
      intro cc act vs W hcc ha hvs hS hd hi K hK
      clear ha
      have u10 : act.tmps[10]? = some (.int .i64 (uOut l r)) := by obtain ⟨_, u, _, h⟩ := hd.out ⟨3, .data⟩ (some 10) (by simp) rfl rfl; exact u.trans (congrArg some h)
      have u14 : act.tmps[14]? = some (.int .i64 (uOut l a)) := by obtain ⟨_, u, _, h⟩ := hd.out ⟨7, .data⟩ (some 14) (by simp) rfl rfl; exact u.trans (congrArg some h)
      have u18 : act.tmps[18]? = some (.int .i64 (uOut l s)) := by obtain ⟨_, u, _, h⟩ := hd.out ⟨11, .data⟩ (some 18) (by simp) rfl rfl; exact u.trans (congrArg some h)
      have u20 : act.tmps[20]? = some (.int .i64 g) := by obtain ⟨_, u, _, h⟩ := hd.out ⟨13, .data⟩ (some 20) (by simp) rfl rfl; exact u.trans (congrArg some h)
      clear hd hi
      clear hvs
      refine wanted_un rfl ?_
      go_simp
      exact hK.out _ _ rfl hS (stC_refl (by decide))
    refine FlowStepsX.stepY 32 17 16 rfl rfl (by kernel_rfl) (by kernel_rfl) (by kernel_rfl) rfl rfl ?_ ?_
    ·
      intro cc act vs W hcc ha hvs hS hd hi K hK
      clear ha
      clear hd hi
      clear hvs
      refine wanted_un rfl ?_
      go_simp
      have hsz := hS.size
      exact hK.out _ _ ⟨W.heap.size, rfl, by omega, Row.madeN W _ _ 4 rfl⟩ (hS.alloc (by omega) _) (stC_below (by decide) ((Below.refl _ _).alloc (Nat.le_refl _) _))
    refine FlowStepsX.stepY 32 17 17 rfl rfl (by kernel_rfl) (by kernel_rfl) (by kernel_rfl) rfl rfl ?_ ?_
    ·
      intro cc act vs W hcc ha hvs hS hd hi K hK
      clear ha
      obtain ⟨_, u6, _, ⟨q, rfl, hlo, hr⟩⟩ := hd.out ⟨15, .data⟩ (some 6) (by simp) rfl rfl
      have u21 : act.tmps[21]? = some (.agg #[.int .i64 (uOut l r), .int .i64 (uOut l a), .int .i64 (uOut l s), .int .i64 g]) := by obtain ⟨_, u, _, h⟩ := hd.out ⟨14, .data⟩ (some 21) (by simp) rfl rfl; exact u.trans (congrArg some h)
      clear hd hi
      refine wanted_un rfl ?_
      obtain ⟨y0, g0⟩ := hr.some_ex (j := 0) (by omega)
      have z0 := hr.frozen 0
      obtain ⟨y1, g1⟩ := hr.some_ex (j := 1) (by omega)
      have z1 := hr.frozen 1
      obtain ⟨y2, g2⟩ := hr.some_ex (j := 2) (by omega)
      have z2 := hr.frozen 2
      obtain ⟨y3, g3⟩ := hr.some_ex (j := 3) (by omega)
      have z3 := hr.frozen 3
      have hl0 := (hvs.out 0 6 rfl).trans u6
      go_simp
      exact hK.out (.pointer (some ⟨q, 0, none⟩)) _ ⟨q, rfl, hl0, hlo, rwl_set4 hr⟩ (below_set4 hS hlo) (stC_set4 hlo (by decide))
    exact FlowStepsX.nil
  · intro c' ρ W hc' hS hd
    simp only [putFrom, Act.put, List.setIfInBounds_toArray, List.set_cons_zero, List.set_cons_succ, Nat.reduceAdd]
    obtain ⟨q, h16, hl16, hlo, hrow⟩ := hd.out 16 (by decide) (by kernel_rfl)
    have e15 : ρ 15 = .pointer (some ⟨q, 0, none⟩) := by
      rw [h16] at hl16; exact Option.some.inj hl16
    clear hd hl16 h16
    generalize ρ 15 = x15 at e15 ⊢
    subst e15
    have hwW : Below w.heap.size w W := BW0.trans (hS.mono (by omega))
    have L0 := live0 hS w.heap.size (by omega)
    have RW : Row W (w.heap.size + 1) 4 noCell := RR0.below hS (by omega)
    have y0 := (L0.1 0).trans cx0
    have y1 := (L0.1 1).trans cx1
    have y2 := (L0.1 2).trans cx2
    have y3 := (L0.1 3).trans cx3
    have q0 : W.cell? ⟨q, 0, none⟩ = some (.int .i64 (uOut l r)) := hrow.cell rfl
    have q1 : W.cell? ⟨q, 1, none⟩ = some (.int .i64 (uOut l a)) := hrow.cell rfl
    have q2 : W.cell? ⟨q, 2, none⟩ = some (.int .i64 (uOut l s)) := hrow.cell rfl
    have q3 : W.cell? ⟨q, 3, none⟩ = some (.int .i64 g) := hrow.cell rfl
    have hq := hrow.lt
    have hx := RW.lt
    clear L0 cx0 cx1 cx2 cx3
    cases hv1 : credB r a s g with
    | false =>
      have HF := hide (show coOk l r a s g = false by simp [coOk, hv1])
      have HV := hide hv1
      clear hv1
      go_wp2_with fail
      refine (credSpec_c _ _ _ _ _).mono ?_
      rintro e w6 ⟨rfl, hb6⟩
      rw [HV.out]
      have RW6 := RW.below hb6 hx
      obtain ⟨x0, g0⟩ := RW6.some_ex (j := 0) (by omega)
      obtain ⟨x1, g1⟩ := RW6.some_ex (j := 1) (by omega)
      obtain ⟨x2, g2⟩ := RW6.some_ex (j := 2) (by omega)
      obtain ⟨x3, g3⟩ := RW6.some_ex (j := 3) (by omega)
      have z0 := RW6.frozen 0
      have z1 := RW6.frozen 1
      have z2 := RW6.frozen 2
      have z3 := RW6.frozen 3
      go_wp2_with fail
      exact bodyPost_ret (v := .tuple #[.agg #[.int .i64 0, .int .i64 0, .int .i64 0, .int .i64 0], .bool false]) (by simp [results, Try.results24, go_sem, *]) rfl ⟨by simp [coF, HF.out], (by repeat' (first | exact Below.refl _ _ | assumption | exact And.left (by assumption) | omega | (simp; done) | (simp; omega) | (simp at *; omega) | (refine Below.setCell ?_ ?_ _) | (refine below_alloc0 ?_ _) | (refine Below.drew ?_) | (refine below_drewN ?_ _) | (refine below_via0 ?_ (by assumption)) | (refine Below.alloc ?_ ?_ _) | (refine below_via ?_ (by assumption) ?_)))⟩
    | true =>
      cases hv2 : credB (uOut l r) (uOut l a) (uOut l s) g with
      | false =>
        have HF := hide (show coOk l r a s g = false by simp [coOk, hv1, hv2])
        have HV := hide hv1
        have HV2 := hide hv2
        clear hv1 hv2
        go_wp2_with fail
        refine (credSpec_c _ _ _ _ _).mono ?_
        rintro e w6 ⟨rfl, hb6⟩
        rw [HV.out]
        have N6 := live hb6 q hq
        go_wp2_with fail
        refine (credSpec_c _ _ _ _ _).mono ?_
        rintro e w7 ⟨rfl, hb7⟩
        rw [HV2.out]
        have RW7 := (RW.below hb6 hx).below hb7 (by omega)
        obtain ⟨x0, g0⟩ := RW7.some_ex (j := 0) (by omega)
        obtain ⟨x1, g1⟩ := RW7.some_ex (j := 1) (by omega)
        obtain ⟨x2, g2⟩ := RW7.some_ex (j := 2) (by omega)
        obtain ⟨x3, g3⟩ := RW7.some_ex (j := 3) (by omega)
        have z0 := RW7.frozen 0
        have z1 := RW7.frozen 1
        have z2 := RW7.frozen 2
        have z3 := RW7.frozen 3
        go_wp2_with fail
        exact bodyPost_ret (v := .tuple #[.agg #[.int .i64 0, .int .i64 0, .int .i64 0, .int .i64 0], .bool false]) (by simp [results, Try.results24, go_sem, *]) rfl ⟨by simp [coF, HF.out], (by repeat' (first | exact Below.refl _ _ | assumption | exact And.left (by assumption) | omega | (simp; done) | (simp; omega) | (simp at *; omega) | (refine Below.setCell ?_ ?_ _) | (refine below_alloc0 ?_ _) | (refine Below.drew ?_) | (refine below_drewN ?_ _) | (refine below_via0 ?_ (by assumption)) | (refine Below.alloc ?_ ?_ _) | (refine below_via ?_ (by assumption) ?_)))⟩
      | true =>
        have HF := hide (show coOk l r a s g = true by simp [coOk, hv1, hv2])
        have HV := hide hv1
        have HV2 := hide hv2
        clear hv1 hv2
        go_wp2_with fail
        refine (credSpec_c _ _ _ _ _).mono ?_
        rintro e w6 ⟨rfl, hb6⟩
        rw [HV.out]
        have N6 := live hb6 q hq
        go_wp2_with fail
        refine (credSpec_c _ _ _ _ _).mono ?_
        rintro e w7 ⟨rfl, hb7⟩
        rw [HV2.out]
        have N7 := live hb7 q (by omega)
        have RW7 := (RW.below hb6 hx).below hb7 (by omega)
        obtain ⟨x0, g0⟩ := RW7.some_ex (j := 0) (by omega)
        obtain ⟨x1, g1⟩ := RW7.some_ex (j := 1) (by omega)
        obtain ⟨x2, g2⟩ := RW7.some_ex (j := 2) (by omega)
        obtain ⟨x3, g3⟩ := RW7.some_ex (j := 3) (by omega)
        have z0 := RW7.frozen 0
        have z1 := RW7.frozen 1
        have z2 := RW7.frozen 2
        have z3 := RW7.frozen 3
        go_wp2_with fail
        exact bodyPost_ret (v := .tuple #[.agg #[.int .i64 (uOut l r), .int .i64 (uOut l a), .int .i64 (uOut l s), .int .i64 g], .bool true]) (by simp [results, Try.results24, go_sem, *]) rfl ⟨by simp [coF, HF.out], (by repeat' (first | exact Below.refl _ _ | assumption | exact And.left (by assumption) | omega | (simp; done) | (simp; omega) | (simp at *; omega) | (refine Below.setCell ?_ ?_ _) | (refine below_alloc0 ?_ _) | (refine Below.drew ?_) | (refine below_drewN ?_ _) | (refine below_via0 ?_ (by assumption)) | (refine Below.alloc ?_ ?_ _) | (refine below_via ?_ (by assumption) ?_)))⟩
set_option maxHeartbeats 2000000 in
theorem coImpl_c (b off n c : Nat) (l : List Rng) (r a s g : Int) (hl : l.length = n) (hn : n ≤ 1048576) (hcap : n ≤ c) (w : World) (hR : RR w b off l) :
    Calls Try.prog 26 #[.slice (some ⟨b, off, none⟩) n c, .agg #[.int .i64 r, .int .i64 a, .int .i64 s, .int .i64 g]] w fun e w' =>
      e = .returned (.tuple #[.agg #[.int .i64 (coF l r a s g (uOut l r)), .int .i64 (coF l r a s g (uOut l a)), .int .i64 (coF l r a s g (uOut l s)), .int .i64 (coF l r a s g g)], .bool (coOk l r a s g)]) ∧ Below w.heap.size w w' := by
  go_enter Try.func26, Try.ntmps26
  go_wp2_with fail
  generalize hW0 : (w.alloc (.cells #[.int .i64 r, .int .i64 a, .int .i64 s, .int .i64 g] 41)).alloc (.cells #[.int .i64 0, .int .i64 0, .int .i64 0, .int .i64 0] 41) = W0
  have hz0 : W0.heap.size = w.heap.size + 1 + 1 := by rw [← hW0]; simp
  have BW0 : Below w.heap.size w W0 := by rw [← hW0]; exact below_alloc0 (below_alloc0 (Below.refl _ _) _) _
  have cx0 : W0.cell? ⟨w.heap.size, 0, none⟩ = some (.int .i64 r) := by rw [← hW0]; simp
  have cx1 : W0.cell? ⟨w.heap.size, 1, none⟩ = some (.int .i64 a) := by rw [← hW0]; simp
  have cx2 : W0.cell? ⟨w.heap.size, 2, none⟩ = some (.int .i64 s) := by rw [← hW0]; simp
  have cx3 : W0.cell? ⟨w.heap.size, 3, none⟩ = some (.int .i64 g) := by rw [← hW0]; simp
  have RR0 : Row W0 (w.heap.size + 1) 4 noCell := by
    rw [← hW0]
    have := Row.madeN (w.alloc (.cells #[.int .i64 r, .int .i64 a, .int .i64 s, .int .i64 g] 41)) 41 #[.int .i64 0, .int .i64 0, .int .i64 0, .int .i64 0] 4 rfl
    simpa using this
  clear hW0
  refine wp_flowX (os := [_, _, _, _, _, _, _, _, _, _, _, _, _, _, _, _, _]) (fun c W => Below (w.heap.size + 1 + 1) W0 W) (stC (w.heap.size + 1 + 1) [16]) (coFF l r a s g b off n c w.heap.size (w.heap.size + 1 + 1)) 17 rfl ?_ ?_ ?_ ?_ ?_ ?_ ?_
  · kernel_rfl
  · kernel_rfl
  · kernel_rfl
  · exact (fun i j v vs w1 w2 hij _ h hc => coFF_keep hij h hc)
  · exact (Below.refl _ _).drew
  ·
    refine FlowStepsX.stepY 32 17 1 rfl rfl (by kernel_rfl) (by kernel_rfl) (by kernel_rfl) rfl rfl ?_ ?_
    ·
      intro cc act vs W hcc ha hvs hS hd hi K hK
      clear ha
      have u0 : act.tmps[0]? = some (.slice (some ⟨b, off, none⟩) n c) := (hi.out 0 (by kernel_rfl)).trans rfl
      clear hd hi
      clear hvs
      refine wanted_un rfl ?_
      go_simp
      exact hK.out _ _ rfl hS (stC_refl (by decide))
    refine FlowStepsX.stepY 32 17 2 rfl rfl (by kernel_rfl) (by kernel_rfl) (by kernel_rfl) rfl rfl ?_ ?_
    ·
      intro cc act vs W hcc ha hvs hS hd hi K hK
      clear ha
      have u3 : act.tmps[3]? = some (.pointer (some ⟨w.heap.size, 0, none⟩)) := (hi.out 3 (by kernel_rfl)).trans rfl
      clear hd hi
      clear hvs
      refine wanted_un rfl ?_
      go_simp
      exact hK.out _ _ rfl hS (stC_refl (by decide))
    refine FlowStepsX.stepY 32 17 3 rfl rfl (by kernel_rfl) (by kernel_rfl) (by kernel_rfl) rfl rfl ?_ ?_
    ·
      intro cc act vs W hcc ha hvs hS hd hi K hK
      clear ha
      have u8 : act.tmps[8]? = some (.pointer (some ⟨w.heap.size, 0, none⟩)) := by obtain ⟨_, u, _, h⟩ := hd.out ⟨1, .data⟩ (some 8) (by simp) rfl rfl; exact u.trans (congrArg some h)
      clear hd hi
      clear hvs
      refine wanted_un rfl ?_
      have e1 := (hS.cell (p := ⟨w.heap.size, 0, none⟩) (by show w.heap.size < _; omega)).trans cx0
      go_simp
      exact hK.out _ _ rfl hS (stC_refl (by decide))
    refine FlowStepsX.stepY 32 17 4 rfl rfl (by kernel_rfl) (by kernel_rfl) (by kernel_rfl) rfl rfl ?_ ?_
    ·
      intro cc act vs W hcc ha hvs hS hd hi K hK
      clear ha
      have u7 : act.tmps[7]? = some (.slice (some ⟨b, off, none⟩) n c) := by obtain ⟨_, u, _, h⟩ := hd.out ⟨0, .data⟩ (some 7) (by simp) rfl rfl; exact u.trans (congrArg some h)
      have u9 : act.tmps[9]? = some (.int .i64 r) := by obtain ⟨_, u, _, h⟩ := hd.out ⟨2, .data⟩ (some 9) (by simp) rfl rfl; exact u.trans (congrArg some h)
      clear hd hi
      clear hvs
      refine wanted_un rfl ?_
      go_wp2_with fail
      refine (outImpl_c _ _ _ _ l r hl hn hcap _ (hR.below (BW0.trans (hS.mono (by omega))))).mono ?_
      rintro e w6 ⟨rfl, hb6⟩
      have hsz := hS.size
      exact hK.out _ w6 rfl (hS.trans (hb6.mono (by omega))) (stC_below (by decide) hb6)
    refine FlowStepsX.stepY 32 17 5 rfl rfl (by kernel_rfl) (by kernel_rfl) (by kernel_rfl) rfl rfl ?_ ?_
    ·
      intro cc act vs W hcc ha hvs hS hd hi K hK
      clear ha
      have u0 : act.tmps[0]? = some (.slice (some ⟨b, off, none⟩) n c) := (hi.out 0 (by kernel_rfl)).trans rfl
      clear hd hi
      clear hvs
      refine wanted_un rfl ?_
      go_simp
      exact hK.out _ _ rfl hS (stC_refl (by decide))
    refine FlowStepsX.stepY 32 17 6 rfl rfl (by kernel_rfl) (by kernel_rfl) (by kernel_rfl) rfl rfl ?_ ?_
    ·
      intro cc act vs W hcc ha hvs hS hd hi K hK
      clear ha
      have u3 : act.tmps[3]? = some (.pointer (some ⟨w.heap.size, 0, none⟩)) := (hi.out 3 (by kernel_rfl)).trans rfl
      clear hd hi
      clear hvs
      refine wanted_un rfl ?_
      go_simp
      exact hK.out _ _ rfl hS (stC_refl (by decide))
    refine FlowStepsX.stepY 32 17 7 rfl rfl (by kernel_rfl) (by kernel_rfl) (by kernel_rfl) rfl rfl ?_ ?_
    ·
      intro cc act vs W hcc ha hvs hS hd hi K hK
      clear ha
      have u12 : act.tmps[12]? = some (.pointer (some ⟨w.heap.size, 1, none⟩)) := by obtain ⟨_, u, _, h⟩ := hd.out ⟨5, .data⟩ (some 12) (by simp) rfl rfl; exact u.trans (congrArg some h)
      clear hd hi
      clear hvs
      refine wanted_un rfl ?_
      have e1 := (hS.cell (p := ⟨w.heap.size, 1, none⟩) (by show w.heap.size < _; omega)).trans cx1
      go_simp
      exact hK.out _ _ rfl hS (stC_refl (by decide))
    refine FlowStepsX.stepY 32 17 8 rfl rfl (by kernel_rfl) (by kernel_rfl) (by kernel_rfl) rfl rfl ?_ ?_
    ·
      intro cc act vs W hcc ha hvs hS hd hi K hK
      clear ha
      have u11 : act.tmps[11]? = some (.slice (some ⟨b, off, none⟩) n c) := by obtain ⟨_, u, _, h⟩ := hd.out ⟨4, .data⟩ (some 11) (by simp) rfl rfl; exact u.trans (congrArg some h)
      have u13 : act.tmps[13]? = some (.int .i64 a) := by obtain ⟨_, u, _, h⟩ := hd.out ⟨6, .data⟩ (some 13) (by simp) rfl rfl; exact u.trans (congrArg some h)
      clear hd hi
      clear hvs
      refine wanted_un rfl ?_
      go_wp2_with fail
      refine (outImpl_c _ _ _ _ l a hl hn hcap _ (hR.below (BW0.trans (hS.mono (by omega))))).mono ?_
      rintro e w6 ⟨rfl, hb6⟩
      have hsz := hS.size
      exact hK.out _ w6 rfl (hS.trans (hb6.mono (by omega))) (stC_below (by decide) hb6)
    refine FlowStepsX.stepY 32 17 9 rfl rfl (by kernel_rfl) (by kernel_rfl) (by kernel_rfl) rfl rfl ?_ ?_
    ·
      intro cc act vs W hcc ha hvs hS hd hi K hK
      clear ha
      have u0 : act.tmps[0]? = some (.slice (some ⟨b, off, none⟩) n c) := (hi.out 0 (by kernel_rfl)).trans rfl
      clear hd hi
      clear hvs
      refine wanted_un rfl ?_
      go_simp
      exact hK.out _ _ rfl hS (stC_refl (by decide))
    refine FlowStepsX.stepY 32 17 10 rfl rfl (by kernel_rfl) (by kernel_rfl) (by kernel_rfl) rfl rfl ?_ ?_
    ·
      intro cc act vs W hcc ha hvs hS hd hi K hK
      clear ha
      have u3 : act.tmps[3]? = some (.pointer (some ⟨w.heap.size, 0, none⟩)) := (hi.out 3 (by kernel_rfl)).trans rfl
      clear hd hi
      clear hvs
      refine wanted_un rfl ?_
      go_simp
      exact hK.out _ _ rfl hS (stC_refl (by decide))
    refine FlowStepsX.stepY 32 17 11 rfl rfl (by kernel_rfl) (by kernel_rfl) (by kernel_rfl) rfl rfl ?_ ?_
    ·
      intro cc act vs W hcc ha hvs hS hd hi K hK
      clear ha
      have u16 : act.tmps[16]? = some (.pointer (some ⟨w.heap.size, 2, none⟩)) := by obtain ⟨_, u, _, h⟩ := hd.out ⟨9, .data⟩ (some 16) (by simp) rfl rfl; exact u.trans (congrArg some h)
      clear hd hi
      clear hvs
      refine wanted_un rfl ?_
      have e1 := (hS.cell (p := ⟨w.heap.size, 2, none⟩) (by show w.heap.size < _; omega)).trans cx2
      go_simp
      exact hK.out _ _ rfl hS (stC_refl (by decide))
    refine FlowStepsX.stepY 32 17 12 rfl rfl (by kernel_rfl) (by kernel_rfl) (by kernel_rfl) rfl rfl ?_ ?_
    ·
      intro cc act vs W hcc ha hvs hS hd hi K hK
      clear ha
      have u15 : act.tmps[15]? = some (.slice (some ⟨b, off, none⟩) n c) := by obtain ⟨_, u, _, h⟩ := hd.out ⟨8, .data⟩ (some 15) (by simp) rfl rfl; exact u.trans (congrArg some h)
      have u17 : act.tmps[17]? = some (.int .i64 s) := by obtain ⟨_, u, _, h⟩ := hd.out ⟨10, .data⟩ (some 17) (by simp) rfl rfl; exact u.trans (congrArg some h)
      clear hd hi
      clear hvs
      refine wanted_un rfl ?_
      go_wp2_with fail
      refine (outImpl_c _ _ _ _ l s hl hn hcap _ (hR.below (BW0.trans (hS.mono (by omega))))).mono ?_
      rintro e w6 ⟨rfl, hb6⟩
      have hsz := hS.size
      exact hK.out _ w6 rfl (hS.trans (hb6.mono (by omega))) (stC_below (by decide) hb6)
    refine FlowStepsX.stepY 32 17 13 rfl rfl (by kernel_rfl) (by kernel_rfl) (by kernel_rfl) rfl rfl ?_ ?_
    ·
      intro cc act vs W hcc ha hvs hS hd hi K hK
      clear ha
      have u3 : act.tmps[3]? = some (.pointer (some ⟨w.heap.size, 0, none⟩)) := (hi.out 3 (by kernel_rfl)).trans rfl
      clear hd hi
      clear hvs
      refine wanted_un rfl ?_
      go_simp
      exact hK.out _ _ rfl hS (stC_refl (by decide))
    refine FlowStepsX.stepY 32 17 14 rfl rfl (by kernel_rfl) (by kernel_rfl) (by kernel_rfl) rfl rfl ?_ ?_
    ·
      intro cc act vs W hcc ha hvs hS hd hi K hK
      clear ha
      have u19 : act.tmps[19]? = some (.pointer (some ⟨w.heap.size, 3, none⟩)) := by obtain ⟨_, u, _, h⟩ := hd.out ⟨12, .data⟩ (some 19) (by simp) rfl rfl; exact u.trans (congrArg some h)
      clear hd hi
      clear hvs
      refine wanted_un rfl ?_
      have e1 := (hS.cell (p := ⟨w.heap.size, 3, none⟩) (by show w.heap.size < _; omega)).trans cx3
      go_simp
      exact hK.out _ _ rfl hS (stC_refl (by decide))
    refine FlowStepsX.stepY 32 17 15 rfl rfl (by kernel_rfl) (by kernel_rfl) (by kernel_rfl) rfl rfl ?_ ?_
    ·
      intro cc act vs W hcc ha hvs hS hd hi K hK
      clear ha
      have u10 : act.tmps[10]? = some (.int .i64 (uOut l r)) := by obtain ⟨_, u, _, h⟩ := hd.out ⟨3, .data⟩ (some 10) (by simp) rfl rfl; exact u.trans (congrArg some h)
      have u14 : act.tmps[14]? = some (.int .i64 (uOut l a)) := by obtain ⟨_, u, _, h⟩ := hd.out ⟨7, .data⟩ (some 14) (by simp) rfl rfl; exact u.trans (congrArg some h)
      have u18 : act.tmps[18]? = some (.int .i64 (uOut l s)) := by obtain ⟨_, u, _, h⟩ := hd.out ⟨11, .data⟩ (some 18) (by simp) rfl rfl; exact u.trans (congrArg some h)
      have u20 : act.tmps[20]? = some (.int .i64 g) := by obtain ⟨_, u, _, h⟩ := hd.out ⟨13, .data⟩ (some 20) (by simp) rfl rfl; exact u.trans (congrArg some h)
      clear hd hi
      clear hvs
      refine wanted_un rfl ?_
      go_simp
      exact hK.out _ _ rfl hS (stC_refl (by decide))
    refine FlowStepsX.stepY 32 17 16 rfl rfl (by kernel_rfl) (by kernel_rfl) (by kernel_rfl) rfl rfl ?_ ?_
    ·
      intro cc act vs W hcc ha hvs hS hd hi K hK
      clear ha
      clear hd hi
      clear hvs
      refine wanted_un rfl ?_
      go_simp
      have hsz := hS.size
      exact hK.out _ _ ⟨W.heap.size, rfl, by omega, Row.madeN W _ _ 4 rfl⟩ (hS.alloc (by omega) _) (stC_below (by decide) ((Below.refl _ _).alloc (Nat.le_refl _) _))
    refine FlowStepsX.stepY 32 17 17 rfl rfl (by kernel_rfl) (by kernel_rfl) (by kernel_rfl) rfl rfl ?_ ?_
    ·
      intro cc act vs W hcc ha hvs hS hd hi K hK
      clear ha
      obtain ⟨_, u6, _, ⟨q, rfl, hlo, hr⟩⟩ := hd.out ⟨15, .data⟩ (some 6) (by simp) rfl rfl
      have u21 : act.tmps[21]? = some (.agg #[.int .i64 (uOut l r), .int .i64 (uOut l a), .int .i64 (uOut l s), .int .i64 g]) := by obtain ⟨_, u, _, h⟩ := hd.out ⟨14, .data⟩ (some 21) (by simp) rfl rfl; exact u.trans (congrArg some h)
      clear hd hi
      refine wanted_un rfl ?_
      obtain ⟨y0, g0⟩ := hr.some_ex (j := 0) (by omega)
      have z0 := hr.frozen 0
      obtain ⟨y1, g1⟩ := hr.some_ex (j := 1) (by omega)
      have z1 := hr.frozen 1
      obtain ⟨y2, g2⟩ := hr.some_ex (j := 2) (by omega)
      have z2 := hr.frozen 2
      obtain ⟨y3, g3⟩ := hr.some_ex (j := 3) (by omega)
      have z3 := hr.frozen 3
      have hl0 := (hvs.out 0 6 rfl).trans u6
      go_simp
      exact hK.out (.pointer (some ⟨q, 0, none⟩)) _ ⟨q, rfl, hl0, hlo, rwl_set4 hr⟩ (below_set4 hS hlo) (stC_set4 hlo (by decide))
    exact FlowStepsX.nil
  · intro c' ρ W hc' hS hd
    simp only [putFrom, Act.put, List.setIfInBounds_toArray, List.set_cons_zero, List.set_cons_succ, Nat.reduceAdd]
    obtain ⟨q, h16, hl16, hlo, hrow⟩ := hd.out 16 (by decide) (by kernel_rfl)
    have e15 : ρ 15 = .pointer (some ⟨q, 0, none⟩) := by
      rw [h16] at hl16; exact Option.some.inj hl16
    clear hd hl16 h16
    generalize ρ 15 = x15 at e15 ⊢
    subst e15
    have hwW : Below w.heap.size w W := BW0.trans (hS.mono (by omega))
    have L0 := live0 hS w.heap.size (by omega)
    have RW : Row W (w.heap.size + 1) 4 noCell := RR0.below hS (by omega)
    have y0 := (L0.1 0).trans cx0
    have y1 := (L0.1 1).trans cx1
    have y2 := (L0.1 2).trans cx2
    have y3 := (L0.1 3).trans cx3
    have q0 : W.cell? ⟨q, 0, none⟩ = some (.int .i64 (uOut l r)) := hrow.cell rfl
    have q1 : W.cell? ⟨q, 1, none⟩ = some (.int .i64 (uOut l a)) := hrow.cell rfl
    have q2 : W.cell? ⟨q, 2, none⟩ = some (.int .i64 (uOut l s)) := hrow.cell rfl
    have q3 : W.cell? ⟨q, 3, none⟩ = some (.int .i64 g) := hrow.cell rfl
    have hq := hrow.lt
    have hx := RW.lt
    clear L0 cx0 cx1 cx2 cx3
    cases hv1 : credB r a s g with
    | false =>
      have HF := hide (show coOk l r a s g = false by simp [coOk, hv1])
      have HV := hide hv1
      clear hv1
      go_wp2_with fail
      refine (credImpl_c _ _ _ _ _).mono ?_
      rintro e w6 ⟨rfl, hb6⟩
      rw [HV.out]
      have RW6 := RW.below hb6 hx
      obtain ⟨x0, g0⟩ := RW6.some_ex (j := 0) (by omega)
      obtain ⟨x1, g1⟩ := RW6.some_ex (j := 1) (by omega)
      obtain ⟨x2, g2⟩ := RW6.some_ex (j := 2) (by omega)
      obtain ⟨x3, g3⟩ := RW6.some_ex (j := 3) (by omega)
      have z0 := RW6.frozen 0
      have z1 := RW6.frozen 1
      have z2 := RW6.frozen 2
      have z3 := RW6.frozen 3
      go_wp2_with fail
      exact bodyPost_ret (v := .tuple #[.agg #[.int .i64 0, .int .i64 0, .int .i64 0, .int .i64 0], .bool false]) (by simp [results, Try.results26, go_sem, *]) rfl ⟨by simp [coF, HF.out], (by repeat' (first | exact Below.refl _ _ | assumption | exact And.left (by assumption) | omega | (simp; done) | (simp; omega) | (simp at *; omega) | (refine Below.setCell ?_ ?_ _) | (refine below_alloc0 ?_ _) | (refine Below.drew ?_) | (refine below_drewN ?_ _) | (refine below_via0 ?_ (by assumption)) | (refine Below.alloc ?_ ?_ _) | (refine below_via ?_ (by assumption) ?_)))⟩
    | true =>
      cases hv2 : credB (uOut l r) (uOut l a) (uOut l s) g with
      | false =>
        have HF := hide (show coOk l r a s g = false by simp [coOk, hv1, hv2])
        have HV := hide hv1
        have HV2 := hide hv2
        clear hv1 hv2
        go_wp2_with fail
        refine (credImpl_c _ _ _ _ _).mono ?_
        rintro e w6 ⟨rfl, hb6⟩
        rw [HV.out]
        have N6 := live hb6 q hq
        go_wp2_with fail
        refine (credImpl_c _ _ _ _ _).mono ?_
        rintro e w7 ⟨rfl, hb7⟩
        rw [HV2.out]
        have RW7 := (RW.below hb6 hx).below hb7 (by omega)
        obtain ⟨x0, g0⟩ := RW7.some_ex (j := 0) (by omega)
        obtain ⟨x1, g1⟩ := RW7.some_ex (j := 1) (by omega)
        obtain ⟨x2, g2⟩ := RW7.some_ex (j := 2) (by omega)
        obtain ⟨x3, g3⟩ := RW7.some_ex (j := 3) (by omega)
        have z0 := RW7.frozen 0
        have z1 := RW7.frozen 1
        have z2 := RW7.frozen 2
        have z3 := RW7.frozen 3
        go_wp2_with fail
        exact bodyPost_ret (v := .tuple #[.agg #[.int .i64 0, .int .i64 0, .int .i64 0, .int .i64 0], .bool false]) (by simp [results, Try.results26, go_sem, *]) rfl ⟨by simp [coF, HF.out], (by repeat' (first | exact Below.refl _ _ | assumption | exact And.left (by assumption) | omega | (simp; done) | (simp; omega) | (simp at *; omega) | (refine Below.setCell ?_ ?_ _) | (refine below_alloc0 ?_ _) | (refine Below.drew ?_) | (refine below_drewN ?_ _) | (refine below_via0 ?_ (by assumption)) | (refine Below.alloc ?_ ?_ _) | (refine below_via ?_ (by assumption) ?_)))⟩
      | true =>
        have HF := hide (show coOk l r a s g = true by simp [coOk, hv1, hv2])
        have HV := hide hv1
        have HV2 := hide hv2
        clear hv1 hv2
        go_wp2_with fail
        refine (credImpl_c _ _ _ _ _).mono ?_
        rintro e w6 ⟨rfl, hb6⟩
        rw [HV.out]
        have N6 := live hb6 q hq
        go_wp2_with fail
        refine (credImpl_c _ _ _ _ _).mono ?_
        rintro e w7 ⟨rfl, hb7⟩
        rw [HV2.out]
        have N7 := live hb7 q (by omega)
        have RW7 := (RW.below hb6 hx).below hb7 (by omega)
        obtain ⟨x0, g0⟩ := RW7.some_ex (j := 0) (by omega)
        obtain ⟨x1, g1⟩ := RW7.some_ex (j := 1) (by omega)
        obtain ⟨x2, g2⟩ := RW7.some_ex (j := 2) (by omega)
        obtain ⟨x3, g3⟩ := RW7.some_ex (j := 3) (by omega)
        have z0 := RW7.frozen 0
        have z1 := RW7.frozen 1
        have z2 := RW7.frozen 2
        have z3 := RW7.frozen 3
        go_wp2_with fail
        exact bodyPost_ret (v := .tuple #[.agg #[.int .i64 (uOut l r), .int .i64 (uOut l a), .int .i64 (uOut l s), .int .i64 g], .bool true]) (by simp [results, Try.results26, go_sem, *]) rfl ⟨by simp [coF, HF.out], (by repeat' (first | exact Below.refl _ _ | assumption | exact And.left (by assumption) | omega | (simp; done) | (simp; omega) | (simp at *; omega) | (refine Below.setCell ?_ ?_ _) | (refine below_alloc0 ?_ _) | (refine Below.drew ?_) | (refine below_drewN ?_ _) | (refine below_via0 ?_ (by assumption)) | (refine Below.alloc ?_ ?_ _) | (refine below_via ?_ (by assumption) ?_)))⟩
def exF (l : List Rng) (r a s g : Int) (A : Option Addr) (n c lo : Nat) (i : Nat) (v : Value) (vs : List Value) (W : World) : Prop :=
  match i with
  | 0 => v = .slice A n c
  | 1 => ∃ b, v = .slice (some ⟨b, 0, none⟩) n n ∧ RR W b 0 l
  | 2 => v = .agg #[.int .i64 r, .int .i64 a, .int .i64 s, .int .i64 g]
  | 3 => v = .agg #[.int .i64 r, .int .i64 a, .int .i64 s, .int .i64 g]
  | 4 => v = .tuple #[.agg #[.int .i64 (coF l r a s g (uOut l r)), .int .i64 (coF l r a s g (uOut l a)), .int .i64 (coF l r a s g (uOut l s)), .int .i64 (coF l r a s g g)], .bool (coOk l r a s g)]
  | 5 => v = .tuple #[.agg #[.int .i64 (coF l r a s g (uOut l r)), .int .i64 (coF l r a s g (uOut l a)), .int .i64 (coF l r a s g (uOut l s)), .int .i64 (coF l r a s g g)], .bool (coOk l r a s g)]
  | 6 => v = .agg #[.int .i64 (coF l r a s g (uOut l r)), .int .i64 (coF l r a s g (uOut l a)), .int .i64 (coF l r a s g (uOut l s)), .int .i64 (coF l r a s g g)]
  | 7 => v = .bool (coOk l r a s g)
  | 8 => ∃ q, v = .pointer (some ⟨q, 0, none⟩) ∧ lo ≤ q ∧ Row W q 4 noCell
  | 9 => ∃ q, v = .pointer (some ⟨q, 0, none⟩) ∧ vs[0]? = some v ∧ lo ≤ q ∧ Row W q 4 (rwl [.int .i64 (coF l r a s g (uOut l r)), .int .i64 (coF l r a s g (uOut l a)), .int .i64 (coF l r a s g (uOut l s)), .int .i64 (coF l r a s g g)])
  | _ => v = .bool (coOk l r a s g)
theorem exF_keep {l : List Rng} {r a s g : Int} {A : Option Addr} {n c lo i j : Nat} {v : Value} {vs : List Value} {W W' : World} (hij : i ≠ j) (hdd : ¬ (i = 9 ∧ j = 1)) (h : exF l r a s g A n c lo j v vs W) (hc : stC lo [9] i W W') : exF l r a s g A n c lo j v vs W' := by
  unfold exF at h ⊢
  split <;> simp only at h <;> try exact h
  · obtain ⟨b, h1, h2⟩ := h
    unfold stC at hc
    rw [if_neg (by simpa using hdd)] at hc
    exact ⟨b, h1, h2.below hc⟩
  · obtain ⟨q, h1, h2, h3⟩ := h
    exact ⟨q, h1, h2, stC_row hc h3⟩
  · obtain ⟨q, h1, h2, h3, h4⟩ := h
    exact ⟨q, h1, h2, h3, stC_keep hc (by simpa using hij) h4⟩
theorem inR_below {w w' : World} {A : Option Addr} {n : Nat} {l : List Rng} (h : InR w A n l) (hb : Below w.heap.size w w') : InR w' A n l :=
  ⟨h.1, fun h0 => by
    obtain ⟨b, off, hA, hR⟩ := h.2 h0
    exact ⟨b, off, hA, hR.below hb⟩⟩
set_option maxHeartbeats 2000000 in
theorem fnExactCredOutside_walk {w : World} (A : Option Addr) (n c : Nat) (l : List Rng) (hA : InRs w A n c l) (r : Int) (hr : (Lit.int .i64 r).wf = true) (a : Int) (ha : (Lit.int .i64 a).wf = true) (s : Int) (hs : (Lit.int .i64 s).wf = true) (g : Int) (hg : (Lit.int .i64 g).wf = true) :
    Calls Try.prog 9 #[.slice A n c, .agg #[.int .i64 r, .int .i64 a, .int .i64 s, .int .i64 g]] w fun e w' => e = .returned (.bool true) ∧ Below w.heap.size w w' := by
  clear hr ha hs hg
  obtain ⟨hIn, hm, hc⟩ := hA
  by_cases h : (n : Int) ≤ 1048576
  · have g1 : 0 ≤ 1048576 - (n : Int) := by omega
    have hn : n ≤ 1048576 := by omega
    have hl := hide hIn.1
    have HI := hide hIn
    clear hIn
    go_enter Try.func9, Try.ntmps9
    go_wp2_with fail
    refine (sz_yes _ _ _ _ h (by omega) _).mono ?_
    rintro e w' ⟨rfl, rfl⟩
    go_wp2_with fail
    have hn0 : (w.alloc (.cells #[.int .i64 r, .int .i64 a, .int .i64 s, .int .i64 g] 40)).heap.size = w.heap.size + 1 := by simp
    generalize hW0 : w.alloc (.cells #[.int .i64 r, .int .i64 a, .int .i64 s, .int .i64 g] 40) = W0 at hn0 ⊢
    have BW0 : Below w.heap.size w W0 := by rw [← hW0]; exact below_alloc0 (Below.refl _ _) _
    have cx0 : W0.cell? ⟨w.heap.size, 0, none⟩ = some (.int .i64 r) := by rw [← hW0]; simp
    have cx1 : W0.cell? ⟨w.heap.size, 1, none⟩ = some (.int .i64 a) := by rw [← hW0]; simp
    have cx2 : W0.cell? ⟨w.heap.size, 2, none⟩ = some (.int .i64 s) := by rw [← hW0]; simp
    have cx3 : W0.cell? ⟨w.heap.size, 3, none⟩ = some (.int .i64 g) := by rw [← hW0]; simp
    clear hW0
    have CX := hide (And.intro cx0 (And.intro cx1 (And.intro cx2 cx3)))
    refine wp_flowX (os := [_, _, _, _, _, _, _, _, _, _, _]) (fun cc W => Below (w.heap.size + 1) W0 W) (stC (w.heap.size + 1) [9]) (exF l r a s g A n c (w.heap.size + 1)) 11 rfl ?_ ?_ ?_ ?_ ?_ ?_ ?_
    · kernel_rfl
    · kernel_rfl
    · kernel_rfl
    · exact (fun i j v vs w1 w2 hij hdd h hc => exF_keep hij (by rintro ⟨rfl, rfl⟩; exact absurd (show dead _ 9 1 = true by kernel_rfl) (by rw [hdd]; decide)) h hc)
    · exact (Below.refl _ _).drew
    ·
      refine FlowStepsX.stepY 47 11 1 rfl rfl (by kernel_rfl) (by kernel_rfl) (by kernel_rfl) rfl rfl ?_ ?_
      ·
        intro cc act vs W hcc ha hvs hS hd hi K hK
        clear ha
        have u0 : act.tmps[0]? = some (.slice A n c) := (hi.out 0 (by kernel_rfl)).trans rfl
        clear hd hi
        clear hvs
        refine wanted_un rfl ?_
        go_simp
        exact hK.out _ _ rfl hS (stC_refl (by decide))
      refine FlowStepsX.stepY 47 11 2 rfl rfl (by kernel_rfl) (by kernel_rfl) (by kernel_rfl) rfl rfl ?_ ?_
      ·
        intro cc act vs W hcc ha hvs hS hd hi K hK
        clear ha
        have u17 : act.tmps[17]? = some (.slice A n c) := by obtain ⟨_, u, _, h⟩ := hd.out ⟨0, .data⟩ (some 17) (by simp) rfl rfl; exact u.trans (congrArg some h)
        clear hd hi
        clear hvs
        refine wanted_un rfl ?_
        have hsz := hS.size
        go_wp2_with fail
        refine (toS_c _ _ _ l _ (inR_below HI.out (BW0.trans (hS.mono (by omega)))) hn).mono ?_
        rintro e w6 ⟨b1, rfl, hg1, hR1, hb6⟩
        exact hK.out _ w6 ⟨b1, rfl, hR1⟩ (hS.trans (hb6.mono (by omega))) (stC_below (by decide) hb6)
      refine FlowStepsX.stepY 47 11 3 rfl rfl (by kernel_rfl) (by kernel_rfl) (by kernel_rfl) rfl rfl ?_ ?_
      ·
        intro cc act vs W hcc ha hvs hS hd hi K hK
        clear ha
        have u3 : act.tmps[3]? = some (.pointer (some ⟨w.heap.size, 0, none⟩)) := (hi.out 3 (by kernel_rfl)).trans rfl
        clear hd hi
        clear hvs
        refine wanted_un rfl ?_
        have e0 := (hS.cell (p := ⟨w.heap.size, 0, none⟩) (by show w.heap.size < _; omega)).trans cx0
        have e1 := (hS.cell (p := ⟨w.heap.size, 1, none⟩) (by show w.heap.size < _; omega)).trans cx1
        have e2 := (hS.cell (p := ⟨w.heap.size, 2, none⟩) (by show w.heap.size < _; omega)).trans cx2
        have e3 := (hS.cell (p := ⟨w.heap.size, 3, none⟩) (by show w.heap.size < _; omega)).trans cx3
        go_simp
        exact hK.out _ _ rfl hS (stC_refl (by decide))
      refine FlowStepsX.stepY 47 11 4 rfl rfl (by kernel_rfl) (by kernel_rfl) (by kernel_rfl) rfl rfl ?_ ?_
      ·
        intro cc act vs W hcc ha hvs hS hd hi K hK
        clear ha
        have u19 : act.tmps[19]? = some (.agg #[.int .i64 r, .int .i64 a, .int .i64 s, .int .i64 g]) := by obtain ⟨_, u, _, h⟩ := hd.out ⟨2, .data⟩ (some 19) (by simp) rfl rfl; exact u.trans (congrArg some h)
        clear hd hi
        clear hvs
        refine wanted_un rfl ?_
        have hsz := hS.size
        go_wp2_with fail
        refine (toCred_c _ _ _ _ _).mono ?_
        rintro e w6 ⟨rfl, hb6⟩
        exact hK.out _ w6 rfl (hS.trans (hb6.mono (by omega))) (stC_below (by decide) hb6)
      refine FlowStepsX.stepY 47 11 5 rfl rfl (by kernel_rfl) (by kernel_rfl) (by kernel_rfl) rfl rfl ?_ ?_
      ·
        intro cc act vs W hcc ha hvs hS hd hi K hK
        clear ha
        obtain ⟨_, u18, _, ⟨b1, rfl, hR1⟩⟩ := hd.out ⟨1, .data⟩ (some 18) (by simp) rfl rfl
        have u20 : act.tmps[20]? = some (.agg #[.int .i64 r, .int .i64 a, .int .i64 s, .int .i64 g]) := by obtain ⟨_, u, _, h⟩ := hd.out ⟨3, .data⟩ (some 20) (by simp) rfl rfl; exact u.trans (congrArg some h)
        clear hd hi
        clear hvs
        refine wanted_un rfl ?_
        have hsz := hS.size
        go_wp2_with fail
        refine (coSpec_c _ _ _ _ l r a s g hl.out hn _ hR1).mono ?_
        rintro e w6 ⟨rfl, hb6⟩
        exact hK.out _ w6 rfl (hS.trans (hb6.mono (by omega))) (stC_below (by decide) hb6)
      refine FlowStepsX.stepY 47 11 6 rfl rfl (by kernel_rfl) (by kernel_rfl) (by kernel_rfl) rfl rfl ?_ ?_
      ·
        intro cc act vs W hcc ha hvs hS hd hi K hK
        clear ha
        have u21 : act.tmps[21]? = some (.tuple #[.agg #[.int .i64 (coF l r a s g (uOut l r)), .int .i64 (coF l r a s g (uOut l a)), .int .i64 (coF l r a s g (uOut l s)), .int .i64 (coF l r a s g g)], .bool (coOk l r a s g)]) := by obtain ⟨_, u, _, h⟩ := hd.out ⟨4, .data⟩ (some 21) (by simp) rfl rfl; exact u.trans (congrArg some h)
        clear hd hi
        clear hvs
        refine wanted_un rfl ?_
        go_simp
        exact hK.out _ _ rfl hS (stC_refl (by decide))
      refine FlowStepsX.stepY 47 11 7 rfl rfl (by kernel_rfl) (by kernel_rfl) (by kernel_rfl) rfl rfl ?_ ?_
      ·
        intro cc act vs W hcc ha hvs hS hd hi K hK
        clear ha
        have u16 : act.tmps[16]? = some (.tuple #[.agg #[.int .i64 (coF l r a s g (uOut l r)), .int .i64 (coF l r a s g (uOut l a)), .int .i64 (coF l r a s g (uOut l s)), .int .i64 (coF l r a s g g)], .bool (coOk l r a s g)]) := by obtain ⟨_, u, _, h⟩ := hd.out ⟨5, .data⟩ (some 16) (by simp) rfl rfl; exact u.trans (congrArg some h)
        clear hd hi
        clear hvs
        refine wanted_un rfl ?_
        go_simp
        exact hK.out _ _ rfl hS (stC_refl (by decide))
      refine FlowStepsX.stepY 47 11 8 rfl rfl (by kernel_rfl) (by kernel_rfl) (by kernel_rfl) rfl rfl ?_ ?_
      ·
        intro cc act vs W hcc ha hvs hS hd hi K hK
        clear ha
        have u16 : act.tmps[16]? = some (.tuple #[.agg #[.int .i64 (coF l r a s g (uOut l r)), .int .i64 (coF l r a s g (uOut l a)), .int .i64 (coF l r a s g (uOut l s)), .int .i64 (coF l r a s g g)], .bool (coOk l r a s g)]) := by obtain ⟨_, u, _, h⟩ := hd.out ⟨5, .data⟩ (some 16) (by simp) rfl rfl; exact u.trans (congrArg some h)
        clear hd hi
        clear hvs
        refine wanted_un rfl ?_
        go_simp
        exact hK.out _ _ rfl hS (stC_refl (by decide))
      refine FlowStepsX.stepY 47 11 9 rfl rfl (by kernel_rfl) (by kernel_rfl) (by kernel_rfl) rfl rfl ?_ ?_
      ·
        intro cc act vs W hcc ha hvs hS hd hi K hK
        clear ha
        clear hd hi
        clear hvs
        refine wanted_un rfl ?_
        go_simp
        have hsz := hS.size
        exact hK.out _ _ ⟨W.heap.size, rfl, by omega, Row.madeN W _ _ 4 rfl⟩ (hS.alloc (by omega) _) (stC_below (by decide) ((Below.refl _ _).alloc (Nat.le_refl _) _))
      refine FlowStepsX.stepY 47 11 10 rfl rfl (by kernel_rfl) (by kernel_rfl) (by kernel_rfl) rfl rfl ?_ ?_
      ·
        intro cc act vs W hcc ha hvs hS hd hi K hK
        clear ha
        obtain ⟨_, u6, _, ⟨q, rfl, hlo, hr⟩⟩ := hd.out ⟨8, .data⟩ (some 6) (by simp) rfl rfl
        have u22 : act.tmps[22]? = some (.agg #[.int .i64 (coF l r a s g (uOut l r)), .int .i64 (coF l r a s g (uOut l a)), .int .i64 (coF l r a s g (uOut l s)), .int .i64 (coF l r a s g g)]) := by obtain ⟨_, u, _, h⟩ := hd.out ⟨6, .data⟩ (some 22) (by simp) rfl rfl; exact u.trans (congrArg some h)
        clear hd hi
        refine wanted_un rfl ?_
        obtain ⟨y0, g0⟩ := hr.some_ex (j := 0) (by omega)
        have z0 := hr.frozen 0
        obtain ⟨y1, g1⟩ := hr.some_ex (j := 1) (by omega)
        have z1 := hr.frozen 1
        obtain ⟨y2, g2⟩ := hr.some_ex (j := 2) (by omega)
        have z2 := hr.frozen 2
        obtain ⟨y3, g3⟩ := hr.some_ex (j := 3) (by omega)
        have z3 := hr.frozen 3
        have hl0 := (hvs.out 0 6 rfl).trans u6
        go_simp
        exact hK.out (.pointer (some ⟨q, 0, none⟩)) _ ⟨q, rfl, hl0, hlo, rwl_set4 hr⟩ (below_set4 hS hlo) (stC_set4 hlo (by decide))
      refine FlowStepsX.stepY 47 11 11 rfl rfl (by kernel_rfl) (by kernel_rfl) (by kernel_rfl) rfl rfl ?_ ?_
      ·
        intro cc act vs W hcc ha hvs hS hd hi K hK
        clear ha
        have u23 : act.tmps[23]? = some (.bool (coOk l r a s g)) := by obtain ⟨_, u, _, h⟩ := hd.out ⟨7, .data⟩ (some 23) (by simp) rfl rfl; exact u.trans (congrArg some h)
        clear hd hi
        clear hvs
        refine wanted_un rfl ?_
        go_simp
        exact hK.out _ _ rfl hS (stC_refl (by decide))
      exact FlowStepsX.nil
    · intro c' ρ W hc' hS hd
      simp only [putFrom, Act.put, List.setIfInBounds_toArray, List.set_cons_zero, List.set_cons_succ, Nat.reduceAdd]
      obtain ⟨q, h9, hl9, hlo, hrow⟩ := hd.out 9 (by decide) (by kernel_rfl)
      have e8 : ρ 8 = .pointer (some ⟨q, 0, none⟩) := by
        rw [h9] at hl9; exact Option.some.inj hl9
      have d10 : ρ 10 = .bool (coOk l r a s g) := hd.out 10 (by decide) (by kernel_rfl)
      clear hd hl9 h9
      generalize ρ 8 = x8 at e8 ⊢
      subst e8
      generalize ρ 10 = x10 at d10 ⊢
      subst d10
      have BW : Below w.heap.size w W := BW0.trans (hS.mono (by omega))
      have L0 := live0 hS w.heap.size (by omega)
      have y0 := (L0.1 0).trans cx0
      have y1 := (L0.1 1).trans cx1
      have y2 := (L0.1 2).trans cx2
      have y3 := (L0.1 3).trans cx3
      clear L0 cx0 cx1 cx2 cx3
      have hq := hrow.lt
      go_wp2_with fail
      refine (toS_c _ _ _ l _ (inR_below HI.out BW) hn).mono ?_
      rintro e w3 ⟨b3, rfl, hg3, hR3, hb3⟩
      have hB3 := below_via0 BW hb3
      have L3 := live hb3 w.heap.size (by omega)
      have hr3 := hrow.below hb3 hq
      go_wp2_with fail
      refine (toCred_c _ _ _ _ _).mono ?_
      rintro e w4 ⟨rfl, hb4⟩
      have hB4 : Below w.heap.size w w4 := (by repeat' (first | exact Below.refl _ _ | assumption | exact And.left (by assumption) | omega | (simp; done) | (simp; omega) | (simp at *; omega) | (refine Below.setCell ?_ ?_ _) | (refine below_alloc0 ?_ _) | (refine Below.drew ?_) | (refine below_drewN ?_ _) | (refine below_via0 ?_ (by assumption)) | (refine Below.alloc ?_ ?_ _) | (refine below_via ?_ (by assumption) ?_)))
      have hr4 := hr3.below hb4 hr3.lt
      go_wp2_with fail
      refine (coImpl_c _ _ _ _ l r a s g hl.out hn (Nat.le_refl _) _ (hR3.below hb4)).mono ?_
      rintro e w5 ⟨rfl, hb5⟩
      have hB5 : Below w.heap.size w w5 := (by repeat' (first | exact Below.refl _ _ | assumption | exact And.left (by assumption) | omega | (simp; done) | (simp; omega) | (simp at *; omega) | (refine Below.setCell ?_ ?_ _) | (refine below_alloc0 ?_ _) | (refine Below.drew ?_) | (refine below_drewN ?_ _) | (refine below_via0 ?_ (by assumption)) | (refine Below.alloc ?_ ?_ _) | (refine below_via ?_ (by assumption) ?_)))
      have hr5 := hr4.below hb5 hr4.lt
      have z0 := hr5.cell (j := 0) rfl
      have z1 := hr5.cell (j := 1) rfl
      have z2 := hr5.cell (j := 2) rfl
      have z3 := hr5.cell (j := 3) rfl
      have hq5 := hr5.lt
      go_wp2_with fail
      refine (eqCred_c _ _ _ _ _).mono ?_
      rintro e w6 ⟨rfl, hb6⟩
      have hB6 : Below w.heap.size w w6 := (by repeat' (first | exact Below.refl _ _ | assumption | exact And.left (by assumption) | omega | (simp; done) | (simp; omega) | (simp at *; omega) | (refine Below.setCell ?_ ?_ _) | (refine below_alloc0 ?_ _) | (refine Below.drew ?_) | (refine below_drewN ?_ _) | (refine below_via0 ?_ (by assumption)) | (refine Below.alloc ?_ ?_ _) | (refine below_via ?_ (by assumption) ?_)))
      have hR6 : RR w6 b3 0 l := ((hR3.below hb4).below hb5).below (by refine below_via0 ?_ hb6; exact below_alloc0 (Below.refl _ _) _)
      go_wp2_with fail
      refine (toS_c _ _ _ l _ (inR_below HI.out hB6) hn).mono ?_
      rintro e w7 ⟨b7, rfl, hg7, hR7, hb7⟩
      have hB7 := below_via0 hB6 hb7
      go_wp2_with fail
      refine (eqS_c _ _ _ _ _ _ _ l hl.out hn _ (hR6.below hb7) hR7).mono ?_
      rintro e w8 ⟨rfl, hb8⟩
      have hB8 := below_via0 hB7 hb8
      go_wp2
      go_ret
      exact ⟨rfl, hB8⟩
  · go_enter Try.func9, Try.ntmps9
    go_wp2_with fail
    refine (sz_no _ _ _ _ (by omega) (by omega) hm (by omega) _).mono ?_
    rintro e w' ⟨rfl, rfl⟩
    go_wp2
    go_ret
    exact ⟨rfl, (by repeat' (first | exact Below.refl _ _ | assumption | exact And.left (by assumption) | omega | (simp; done) | (simp; omega) | (simp at *; omega) | (refine Below.setCell ?_ ?_ _) | (refine below_alloc0 ?_ _) | (refine Below.drew ?_) | (refine below_drewN ?_ _) | (refine below_via0 ?_ (by assumption)) | (refine Below.alloc ?_ ?_ _) | (refine below_via ?_ (by assumption) ?_)))⟩
end Go.Proofs.Ythocpajiihdceaa
