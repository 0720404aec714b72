/-
  What is drawn: pipes. No condition.
-/
import Derived.Test.YtheblgfgcmkdiaaProg
import Derived.Test.YtheblgfgcmkdiaaDraw2
import Derived.Test.YtheblgfgcmkdiaaCl
namespace Go.Proofs.Ytheblgfgcmkdiaa
open Go.RowKit
set_option linter.unusedSimpArgs false
set_option linter.unusedVariables false

def pipeF (lo r : Nat) (i : Nat) (v : Value) (vs : List Value) (W : World) : Prop :=
  match i with
  | 0 => ∃ g, v = .slice (some ⟨g, 0, none⟩) 4 4 ∧ g ≠ r ∧ Cl W g 4 (fun _ => IsStr 21)
  | 1 => v = .pointer (some ⟨r, 0, none⟩)
  | 2 => IsNum 0 3 v
  | 3 => ∃ g j, v = .pointer (some ⟨g, j, none⟩) ∧ g ≠ r ∧ j < 4 ∧ Cl W g 4 (fun _ => IsStr 21)
  | 4 => IsStr 21 v
  | 5 => v = .pointer (some ⟨r, 0, none⟩)
  | 6 => IsNum 0 2 v
  | 7 => v = .pointer (some ⟨r, 0, none⟩)
  | 8 => IsNum 0 2 v
  | 9 => ∃ (s : ByteArray) (a b : Int), v = .agg #[.string s, .int .i64 a, .int .i64 b] ∧ s.size ≤ 21 ∧ 0 ≤ a ∧ a ≤ 2 ∧ 0 ≤ b ∧ b ≤ 2
  | _ => ∃ g, v = .pointer (some ⟨g, 0, none⟩) ∧ g ≠ r ∧ lo ≤ g ∧ Cl W g 3 (fun _ _ => True)
theorem pipeF_keep {lo r i : Nat} {v : Value} {vs : List Value} {W W' : World} (h : pipeF lo r i v vs W) (ha : Aside r W W') : pipeF lo r i v vs W' := by
  unfold pipeF at h ⊢
  split <;> simp only at h <;> try exact h
  · obtain ⟨g, h1, h2, h3⟩ := h; exact ⟨g, h1, h2, h3.keep ha h2⟩
  · obtain ⟨g, j, h1, h2, h3, h4⟩ := h; exact ⟨g, j, h1, h2, h3, h4.keep ha h2⟩
  · obtain ⟨g, h1, h2, h3, h4⟩ := h; exact ⟨g, h1, h2, h3, h4.keep ha h2⟩

def DrewPipe (w0 : World) (B r k : Nat) (w : World) (e : Ending) (w' : World) : Prop :=
  ∃ (s : ByteArray) (a b : Int), e = .returned (.agg #[.string s, .int .i64 a, .int .i64 b]) ∧ s.size ≤ 21 ∧ -1 ≤ a ∧ a ≤ 10 ∧ -1 ≤ b ∧ b ≤ 10 ∧ St w0 B r k w' ∧ Aside r w w'
set_option maxHeartbeats 1000000 in
theorem drawPipe_c (B r k : Nat) (n : Int) (w : World) (hn : 1 ≤ n) (hn2 : n ≤ 1000000) (hk : k ≤ 100000) (h : Rdr w B r k) :
    Calls Try.prog 46 #[.pointer (some ⟨r, 0, none⟩), .int .i64 n] w fun e w' => DrewPipe w B r (k + 15) w e w' := by
  have hs := St.start h
  obtain ⟨z1, z2, _⟩ := hs.size
  go_enter Try.func46, Try.ntmps46
  go_wp2_with fail
  refine wp_flowT (os := [_, _, _, _, _, _, _, _, _, _, _]) (last := _) (fun c W => St (w.alloc (.cells #[.string ⟨#[]⟩, .int .i64 0, .int .i64 0] 30)) B r (k + c) W ∧ w.heap.size + 1 ≤ W.heap.size) (Aside r) (pipeF (w.heap.size + 1) r) 11 rfl rfl ?_ ?_ ?_ ?_ (fun i v vs w1 w2 h ha => pipeF_keep h ha) ?_ ?_ ?_
  · kernel_rfl
  · kernel_rfl
  · kernel_rfl
  · kernel_rfl
  · exact ⟨(St.start (h.below (by repeat' (first | exact Below.refl _ _ | assumption | exact And.left (by assumption) | omega | (simp; done) | (simp; omega) | (simp at *; omega) | (refine Below.setCell ?_ ?_ _) | (refine below_alloc0 ?_ _) | (refine Below.drew ?_) | (refine below_drewN ?_ _) | (refine below_via0 ?_ (by assumption)) | (refine Below.alloc ?_ ?_ _) | (refine below_via ?_ (by assumption) ?_))))).drew, by simp⟩
  ·
    refine FlowSteps.step 11 1 (by kernel_rfl) rfl ?_ ?_
    ·
      intro c ρ W hc hS hd K hK
      have hst := hS.1
      have hsz := hS.2
      clear hS
      simp only [putFrom, vals, List.map_cons, List.map_nil, Act.put, List.setIfInBounds_toArray, List.set_cons_zero, List.set_cons_succ, Nat.reduceAdd] at hK ⊢
      clear hd
      go_simp
      exact hK.out _ _ ⟨W.heap.size, rfl, by have := hst.size; omega, Cl.made _ _ _ _ _ (fun j hj => by
        obtain rfl | rfl | rfl | rfl : j = 0 ∨ j = 1 ∨ j = 2 ∨ j = 3 := by omega
        all_goals exact ⟨_, rfl, _, rfl, by decide⟩)⟩ ⟨(hst.alloc _).mono (by omega), by simp; omega⟩ ((Aside.refl _ _).alloc _)
    refine FlowSteps.step 11 2 (by kernel_rfl) rfl ?_ ?_
    ·
      intro c ρ W hc hS hd K hK
      have hst := hS.1
      have hsz := hS.2
      clear hS
      simp only [putFrom, vals, List.map_cons, List.map_nil, Act.put, List.setIfInBounds_toArray, List.set_cons_zero, List.set_cons_succ, Nat.reduceAdd] at hK ⊢
      clear hd
      go_simp
      exact hK.out _ _ rfl ⟨hst.mono (by omega), hsz⟩ (Aside.refl _ _)
    refine FlowSteps.step 11 3 (by kernel_rfl) rfl ?_ ?_
    ·
      intro c ρ W hc hS hd K hK
      have hst := hS.1
      have hsz := hS.2
      clear hS
      simp only [putFrom, vals, List.map_cons, List.map_nil, Act.put, List.setIfInBounds_toArray, List.set_cons_zero, List.set_cons_succ, Nat.reduceAdd] at hK ⊢
      have d1 := hd.out ⟨1, .data⟩ (by simp) (by decide)
      simp only [pipeF] at d1
      generalize ρ 1 = x1 at d1 hK ⊢
      subst d1
      clear hd
      go_wp2_with (go_at_call 47; refine (pick_s _ _ r _ 4 _ (by omega) (by omega) (by omega) hst).mono ?_; rintro e W2 ⟨x, rfl, x0, x1, hs2, ha2⟩)
      exact hK.out (.int .i64 x) W2 ⟨x, rfl, x0, by omega⟩ ⟨hs2.mono (by omega), Nat.le_trans hsz ha2.1.size⟩ ha2
    refine FlowSteps.step 11 4 (by kernel_rfl) rfl ?_ ?_
    ·
      intro c ρ W hc hS hd K hK
      have hst := hS.1
      have hsz := hS.2
      clear hS
      simp only [putFrom, vals, List.map_cons, List.map_nil, Act.put, List.setIfInBounds_toArray, List.set_cons_zero, List.set_cons_succ, Nat.reduceAdd] at hK ⊢
      have d0 := hd.out ⟨0, .data⟩ (by simp) (by decide)
      simp only [pipeF] at d0
      generalize ρ 0 = x0 at d0 hK ⊢
      obtain ⟨g, rfl, hg, hcl⟩ := d0
      have d2 := hd.out ⟨2, .data⟩ (by simp) (by decide)
      simp only [pipeF] at d2
      generalize ρ 2 = x2 at d2 hK ⊢
      obtain ⟨x, rfl, h0, h1⟩ := d2
      clear hd
      obtain ⟨x, rfl⟩ := Int.eq_ofNat_of_zero_le h0
      have hx4 : (x : Int) < 4 := by omega
      go_simp
      exact hK.out _ _ ⟨g, x, rfl, hg, by omega, hcl⟩ ⟨hst.mono (by omega), hsz⟩ (Aside.refl _ _)
    refine FlowSteps.step 11 5 (by kernel_rfl) rfl ?_ ?_
    ·
      intro c ρ W hc hS hd K hK
      have hst := hS.1
      have hsz := hS.2
      clear hS
      simp only [putFrom, vals, List.map_cons, List.map_nil, Act.put, List.setIfInBounds_toArray, List.set_cons_zero, List.set_cons_succ, Nat.reduceAdd] at hK ⊢
      have d3 := hd.out ⟨3, .data⟩ (by simp) (by decide)
      simp only [pipeF] at d3
      generalize ρ 3 = x3 at d3 hK ⊢
      obtain ⟨g, j, rfl, hg, hj, hcl⟩ := d3
      clear hd
      obtain ⟨u, hu, ⟨s, rfl, hs21⟩, hfz⟩ := hcl.2 j hj
      go_simp
      exact hK.out _ _ ⟨s, rfl, hs21⟩ ⟨hst.mono (by omega), hsz⟩ (Aside.refl _ _)
    refine FlowSteps.step 11 6 (by kernel_rfl) rfl ?_ ?_
    ·
      intro c ρ W hc hS hd K hK
      have hst := hS.1
      have hsz := hS.2
      clear hS
      simp only [putFrom, vals, List.map_cons, List.map_nil, Act.put, List.setIfInBounds_toArray, List.set_cons_zero, List.set_cons_succ, Nat.reduceAdd] at hK ⊢
      clear hd
      go_simp
      exact hK.out _ _ rfl ⟨hst.mono (by omega), hsz⟩ (Aside.refl _ _)
    refine FlowSteps.step 11 7 (by kernel_rfl) rfl ?_ ?_
    ·
      intro c ρ W hc hS hd K hK
      have hst := hS.1
      have hsz := hS.2
      clear hS
      simp only [putFrom, vals, List.map_cons, List.map_nil, Act.put, List.setIfInBounds_toArray, List.set_cons_zero, List.set_cons_succ, Nat.reduceAdd] at hK ⊢
      have d5 := hd.out ⟨5, .data⟩ (by simp) (by decide)
      simp only [pipeF] at d5
      generalize ρ 5 = x5 at d5 hK ⊢
      subst d5
      clear hd
      go_wp2_with (go_at_call 47; refine (pick_s _ _ r _ 3 _ (by omega) (by omega) (by omega) hst).mono ?_; rintro e W2 ⟨x, rfl, x0, x1, hs2, ha2⟩)
      exact hK.out (.int .i64 x) W2 ⟨x, rfl, x0, by omega⟩ ⟨hs2.mono (by omega), Nat.le_trans hsz ha2.1.size⟩ ha2
    refine FlowSteps.step 11 8 (by kernel_rfl) rfl ?_ ?_
    ·
      intro c ρ W hc hS hd K hK
      have hst := hS.1
      have hsz := hS.2
      clear hS
      simp only [putFrom, vals, List.map_cons, List.map_nil, Act.put, List.setIfInBounds_toArray, List.set_cons_zero, List.set_cons_succ, Nat.reduceAdd] at hK ⊢
      clear hd
      go_simp
      exact hK.out _ _ rfl ⟨hst.mono (by omega), hsz⟩ (Aside.refl _ _)
    refine FlowSteps.step 11 9 (by kernel_rfl) rfl ?_ ?_
    ·
      intro c ρ W hc hS hd K hK
      have hst := hS.1
      have hsz := hS.2
      clear hS
      simp only [putFrom, vals, List.map_cons, List.map_nil, Act.put, List.setIfInBounds_toArray, List.set_cons_zero, List.set_cons_succ, Nat.reduceAdd] at hK ⊢
      have d7 := hd.out ⟨7, .data⟩ (by simp) (by decide)
      simp only [pipeF] at d7
      generalize ρ 7 = x7 at d7 hK ⊢
      subst d7
      clear hd
      go_wp2_with (go_at_call 47; refine (pick_s _ _ r _ 3 _ (by omega) (by omega) (by omega) hst).mono ?_; rintro e W2 ⟨x, rfl, x0, x1, hs2, ha2⟩)
      exact hK.out (.int .i64 x) W2 ⟨x, rfl, x0, by omega⟩ ⟨hs2.mono (by omega), Nat.le_trans hsz ha2.1.size⟩ ha2
    refine FlowSteps.step 11 10 (by kernel_rfl) rfl ?_ ?_
    ·
      intro c ρ W hc hS hd K hK
      have hst := hS.1
      have hsz := hS.2
      clear hS
      simp only [putFrom, vals, List.map_cons, List.map_nil, Act.put, List.setIfInBounds_toArray, List.set_cons_zero, List.set_cons_succ, Nat.reduceAdd] at hK ⊢
      have d4 := hd.out ⟨4, .data⟩ (by simp) (by decide)
      simp only [pipeF] at d4
      generalize ρ 4 = x4 at d4 hK ⊢
      obtain ⟨s, rfl, hs21⟩ := d4
      have d6 := hd.out ⟨6, .data⟩ (by simp) (by decide)
      simp only [pipeF] at d6
      generalize ρ 6 = x6 at d6 hK ⊢
      obtain ⟨y, rfl, y0, y1⟩ := d6
      have d8 := hd.out ⟨8, .data⟩ (by simp) (by decide)
      simp only [pipeF] at d8
      generalize ρ 8 = x8 at d8 hK ⊢
      obtain ⟨z, rfl, zz0, zz1⟩ := d8
      clear hd
      go_simp
      exact hK.out _ _ ⟨s, y, z, rfl, hs21, y0, y1, zz0, zz1⟩ ⟨hst.mono (by omega), hsz⟩ (Aside.refl _ _)
    refine FlowSteps.step 11 11 (by kernel_rfl) rfl ?_ ?_
    ·
      intro c ρ W hc hS hd K hK
      have hst := hS.1
      have hsz := hS.2
      clear hS
      simp only [putFrom, vals, List.map_cons, List.map_nil, Act.put, List.setIfInBounds_toArray, List.set_cons_zero, List.set_cons_succ, Nat.reduceAdd] at hK ⊢
      clear hd
      go_simp
      exact hK.out _ _ ⟨W.heap.size, rfl, by have := hst.size; omega, hsz, Cl.made _ _ _ _ _ (fun j hj => by
        obtain rfl | rfl | rfl : j = 0 ∨ j = 1 ∨ j = 2 := by omega
        all_goals exact ⟨_, rfl, trivial⟩)⟩ ⟨(hst.alloc _).mono (by omega), by simp; omega⟩ ((Aside.refl _ _).alloc _)
    exact FlowSteps.nil
  ·
      intro c ρ W hc hS hd
      have hst := hS.1
      have hsz := hS.2
      clear hS
      simp only [putFrom, Act.put, List.setIfInBounds_toArray, List.set_cons_zero, List.set_cons_succ, Nat.reduceAdd]
      have d10 := hd.out 10 (by decide)
      simp only [pipeF] at d10
      generalize ρ 10 = x10 at d10 ⊢
      obtain ⟨g, rfl, hg, hlo, hcl⟩ := d10
      have d9 := hd.out 9 (by decide)
      simp only [pipeF] at d9
      generalize ρ 9 = x9 at d9 ⊢
      obtain ⟨s, y, z, rfl, hs21, y0, y1, zz0, zz1⟩ := d9
      clear hd
      obtain ⟨u0, c0, _, f0⟩ := hcl.2 0 (by omega)
      obtain ⟨u1, c1, _, f1⟩ := hcl.2 1 (by omega)
      obtain ⟨u2, c2, _, f2⟩ := hcl.2 2 (by omega)
      have hg1 := hcl.1
      clear hcl
      go_simp
      have hz0 := hst.size
      simp at hz0
      have A0 := hst.2.1
      have L0 := liveA A0 w.heap.size (by simp) (by omega)
      have hst2 := ((hst.setNew (p := ⟨g, 0, none⟩) (by simp; omega) (.string s)).setNew (p := ⟨g, 1, none⟩) (by simp; omega) (.int .i64 y)).setNew (p := ⟨g, 2, none⟩) (by simp; omega) (.int .i64 z)
      go_wp2_with fail
      refine (odd_s _ B r (k + c) n _ hn (by omega) (by omega) hst2).mono ?_
      rintro e w1 ⟨o, rfl, hs1, ha1⟩
      have y1' := hs1.size.2.2
      simp at y1'
      have L1 := liveA ha1 w.heap.size (by first | omega | (simp; done) | (simp; omega)) (by omega)
      have M1 := liveA ha1 g (by first | omega | (simp; done) | (simp; omega)) (by omega)
      have AW : Aside r w w1 := ((Aside.refl r w).alloc _).trans hs1.2.1
      cases o with
      | true =>
        go_wp2_with fail
        refine (pick_s _ B r (k + c + 1) 3 _ (by omega) (by omega) (by omega) (hs1.alloc _)).mono ?_
        rintro e w2 ⟨x, rfl, x0, x1, hs2, ha2⟩
        have y2' := hs2.size.2.2
        simp at y2'
        have L2 := liveA ha2 w.heap.size (by first | omega | (simp; done) | (simp; omega)) (by omega)
        have M2 := liveA ha2 w1.heap.size (by simp) (by omega)
        have AW2 : Aside r w w2 := ((Aside.refl r w).alloc _).trans hs2.2.1
        obtain rfl | rfl | rfl : x = 0 ∨ x = 1 ∨ x = 2 := by omega
        all_goals
          go_wp2_with fail
          exact bodyPost_ret (v := .agg #[.string _, .int .i64 _, .int .i64 _]) (by simp [results, Try.results46, go_sem, L2, L1, L0]; exact ⟨rfl, rfl, rfl⟩) rfl ⟨_, _, _, rfl, by decide, by decide, by decide, by decide, by decide, ⟨(show Rdr _ B r (k + c + 1 + 1) from (hs2.1.below (by repeat' (first | exact Below.refl _ _ | assumption | exact And.left (by assumption) | omega | (simp; done) | (simp; omega) | (simp at *; omega) | (refine Below.setCell ?_ ?_ _) | (refine below_alloc0 ?_ _) | (refine Below.drew ?_) | (refine below_drewN ?_ _) | (refine below_via0 ?_ (by assumption)) | (refine Below.alloc ?_ ?_ _) | (refine below_via ?_ (by assumption) ?_))))).mono (Nat.le_refl _) (by simp; omega) (by omega), (by repeat' (first | assumption | exact Aside.refl _ _ | (refine Aside.setNew ?_ (by first | omega | (simp; omega)) _) | (refine Aside.alloc ?_ _) | (refine Aside.drew ?_) | (refine Aside.drewN ?_ _))), z2⟩, (by repeat' (first | assumption | exact Aside.refl _ _ | (refine Aside.setNew ?_ (by first | omega | (simp; omega)) _) | (refine Aside.alloc ?_ _) | (refine Aside.drew ?_) | (refine Aside.drewN ?_ _)))⟩
      | false =>
        go_wp2_with fail
        exact bodyPost_ret (v := .agg #[.string s, .int .i64 y, .int .i64 z]) (by simp [results, Try.results46, go_sem, L1, L0]) rfl ⟨s, y, z, rfl, hs21, by omega, by omega, by omega, by omega, ⟨(show Rdr _ B r (k + c + 1) from (hs1.1.below (by repeat' (first | exact Below.refl _ _ | assumption | exact And.left (by assumption) | omega | (simp; done) | (simp; omega) | (simp at *; omega) | (refine Below.setCell ?_ ?_ _) | (refine below_alloc0 ?_ _) | (refine Below.drew ?_) | (refine below_drewN ?_ _) | (refine below_via0 ?_ (by assumption)) | (refine Below.alloc ?_ ?_ _) | (refine below_via ?_ (by assumption) ?_))))).mono (Nat.le_refl _) (by simp; omega) (by omega), (by repeat' (first | assumption | exact Aside.refl _ _ | (refine Aside.setNew ?_ (by first | omega | (simp; omega)) _) | (refine Aside.alloc ?_ _) | (refine Aside.drew ?_) | (refine Aside.drewN ?_ _))), z2⟩, (by repeat' (first | assumption | exact Aside.refl _ _ | (refine Aside.setNew ?_ (by first | omega | (simp; omega)) _) | (refine Aside.alloc ?_ _) | (refine Aside.drew ?_) | (refine Aside.drewN ?_ _)))⟩
end Go.Proofs.Ytheblgfgcmkdiaa
