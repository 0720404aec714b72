/-
  What is drawn: tasks. No condition.
-/
import Derived.Test.YtnpgofmihmjmeaaProg
import Derived.Test.YtnpgofmihmjmeaaDraw
import Derived.Test.YtnpgofmihmjmeaaFlow2
import Derived.Test.YtnpgofmihmjmeaaCl
import Derived.Test.YtnpgofmihmjmeaaTask12
namespace Go.Proofs.Ytnpgofmihmjmeaa
open Go.RowKit
set_option linter.unusedSimpArgs false
set_option linter.unusedVariables false

def taskF (hv : Value) (lo r : Nat) (i : Nat) (v : Value) (vs : List Value) (W : World) : Prop :=
  match i with
  | 0 => v = hv
  | 1 => v = .pointer (some ⟨r, 0, none⟩)
  | 2 => IsNum 0 9 v
  | 3 => IsNum 1 10 v
  | 4 => v = .pointer (some ⟨r, 0, none⟩)
  | 5 => IsNum 0 4 v
  | 6 => IsNum 0 5040 v
  | 7 => ∃ g, v = .slice (some ⟨g, 0, none⟩) 3 3 ∧ g ≠ r ∧ lo ≤ g ∧ Cl W g 3 (fun _ => IsNum 0 999000)
  | 8 => ∃ g, v = .slice (some ⟨g, 0, none⟩) 8 8 ∧ g ≠ r ∧ lo ≤ g ∧ Cl W g 8 (fun _ => IsNum 0 2)
  | 9 => v = .pointer (some ⟨r, 0, none⟩)
  | 10 => IsNum 0 7 v
  | 11 => ∃ g j, v = .pointer (some ⟨g, j, none⟩) ∧ g ≠ r ∧ j < 8 ∧ Cl W g 8 (fun _ => IsNum 0 2)
  | 12 => IsNum 0 2 v
  | 13 => ∃ g j, v = .pointer (some ⟨g, j, none⟩) ∧ g ≠ r ∧ j < 3 ∧ Cl W g 3 (fun _ => IsNum 0 999000)
  | 14 => IsNum 0 999000 v
  | 15 => v = .pointer (some ⟨r, 0, none⟩)
  | 16 => IsNum 0 3 v
  | 17 => ∃ b : Bool, v = .bool b
  | 18 => ∃ (a b : Int) (c : Bool), v = .agg #[.int .i64 a, .int .i64 b, .bool c]
  | _ => ∃ g, ∃ t : Task, v = .slice (some ⟨g, 0, none⟩) 1 1 ∧ g ≠ r ∧ lo ≤ g ∧ g < W.heap.size ∧ W.cell? ⟨g, 0, none⟩ = some (.int .i64 t.weight) ∧ W.cell? ⟨g, 1, none⟩ = some (.int .i64 t.had) ∧ W.cell? ⟨g, 2, none⟩ = some (.bool t.waits)
theorem taskF_keep {hv : Value} {lo r i : Nat} {v : Value} {vs : List Value} {W W' : World} (h : taskF hv lo r i v vs W) (ha : Aside r W W') : taskF hv lo r i v vs W' := by
  unfold taskF at h ⊢
  split <;> simp only at h <;> try exact h
  · obtain ⟨g, h1, h2, h3, h4⟩ := h; exact ⟨g, h1, h2, h3, h4.keep ha h2⟩
  · obtain ⟨g, h1, h2, h3, h4⟩ := h; exact ⟨g, h1, h2, h3, h4.keep ha h2⟩
  · obtain ⟨g, j, h1, h2, h3, h4⟩ := h; exact ⟨g, j, h1, h2, h3, h4.keep ha h2⟩
  · obtain ⟨g, j, h1, h2, h3, h4⟩ := h; exact ⟨g, j, h1, h2, h3, h4.keep ha h2⟩
  · obtain ⟨g, t, h1, h2, h3, h4, h5, h6, h7⟩ := h
    exact ⟨g, t, h1, h2, h3, Nat.lt_of_lt_of_le h4 ha.1.size, (ha.cell h4 h2 _).trans h5, (ha.cell h4 h2 _).trans h6, (ha.cell h4 h2 _).trans h7⟩

def DrewTasks (w0 : World) (B r k : Nat) (w : World) (e : Ending) (w' : World) : Prop :=
  ∃ (g cap : Nat) (l : List Task), e = .returned (.slice (some ⟨g, 0, none⟩) l.length cap) ∧ w.heap.size ≤ g ∧ RdTask w' g 0 l ∧ l.length ≤ 6 ∧ l.length ≤ cap ∧ cap ≤ maxLen ∧ St w0 B r k w' ∧ Aside r w w'
set_option maxHeartbeats 4000000 in
theorem drawTasks_c (B r k : Nat) (n : Int) (w : World) (hn : 1 ≤ n) (hn2 : n ≤ 1000000) (hk : k ≤ 100000) (h : Rdr w B r k) :
    Calls Try.prog 40 #[.pointer (some ⟨r, 0, none⟩), .int .i64 n] w fun e w' => DrewTasks w B r (k + 200) w e w' := by
  have hs := St.start h
  obtain ⟨z1, z2, _⟩ := hs.size
  obtain ⟨i0, hi0, hz0, hz1, hz2⟩ := info_parts infoTask
  have HI := hide hi0
  have HZ0 := hide hz0
  have HZ1 := hide hz1
  have HZ2 := hide hz2
  clear hi0 hz0 hz1 hz2
  go_enter Try.func40, Try.ntmps40
  go_wp2_with fail
  refine (pick_s w B r k 6 _ (by omega) (by omega) (by omega) (hs.alloc _)).mono ?_
  rintro e w1 ⟨x, rfl, x0, x1, hs1, ha1⟩
  have own1 : Hid (w1.ownsRow w.heap.size 32 3 (.slice (some ⟨w.heap.size, 0, none⟩) 0 0) 0 []) :=
    own_keepB (World.ownsRow_made w #[] 0 (Nat.le_refl _) (Nat.zero_le _) (by simp)) fun b hb => by
      simp only [Value.ownBlock, Option.some.injEq] at hb; subst hb
      exact ha1.2 _ (by simp) (by omega)
  have y1 := hs1.size.2.2
  go_wp2_with fail
  go_loopw [5, 6] (fun hv0 kv wr => ∃ (hv : Value) (q : Nat) (l : List Task), hv = hv0 ∧ kv = .int .i64 q ∧ l.length + q ≤ 5 ∧ Hid (wr.ownsRow w.heap.size 32 3 hv l.length (flatT l)) ∧ Hid (hv ≠ .slice none 0 0) ∧ St w B r (k + 1 + 25 * l.length) wr) (fun _ kv _ => (intOf kv).toNat)
  case atStart =>
    obtain ⟨x, rfl⟩ := Int.eq_ofNat_of_zero_le x0
    exact ⟨_, x, [], rfl, rfl, by simp; omega, own1, (fun e => by cases e), by simpa using hs1⟩
  case round =>
    obtain ⟨hv, q, l, rfl, rfl, hq, hown, hne, hst0⟩ := hrel
    have y2 := hst0.size.2.2
    by_cases hlt : 0 < q
    · obtain ⟨q, rfl⟩ : ∃ p, q = p + 1 := ⟨q - 1, by omega⟩
      have hlt' : (0 : Int) < (q : Int) + 1 := by omega
      go_wp2_with fail
      refine wp_flowE (os := [_, _, _, _, _, _, _, _, _, _, _, _, _, _, _, _, _, _, _, _]) (ts := [_, _]) (fun c W => St wr B r (k + 1 + 25 * l.length + c) W ∧ wr.heap.size ≤ W.heap.size) (Aside r) (taskF hv wr.heap.size r) 20 rfl rfl rfl ?_ ?_ ?_ ?_ ?_ (fun i v vs w1 w2 h ha => taskF_keep h ha) ?_ ?_ ?_
      · kernel_rfl
      · kernel_rfl
      · kernel_rfl
      · kernel_rfl
      · kernel_rfl
      · exact ⟨(St.start hst0.1).drew, Nat.le_refl _⟩
      ·
        refine FlowSteps.step 20 1 (by kernel_rfl) rfl ?_ ?_
        ·
          intro c ρ W hc hS hd K hK
          have hst := hS.1
          have hsz := hS.2
          clear hS
          simp only [putFrom, vals, List.map_cons, List.map_nil, Act.put, List.setIfInBounds_toArray, List.set_cons_zero, List.set_cons_succ, Nat.reduceAdd] at hK ⊢
          clear hd
          go_simp
          exact hK.out _ _ rfl ⟨hst.mono (by omega), hsz⟩ (Aside.refl _ _)
        refine FlowSteps.step 20 2 (by kernel_rfl) rfl ?_ ?_
        ·
          intro c ρ W hc hS hd K hK
          have hst := hS.1
          have hsz := hS.2
          clear hS
          simp only [putFrom, vals, List.map_cons, List.map_nil, Act.put, List.setIfInBounds_toArray, List.set_cons_zero, List.set_cons_succ, Nat.reduceAdd] at hK ⊢
          clear hd
          go_simp
          exact hK.out _ _ rfl ⟨hst.mono (by omega), hsz⟩ (Aside.refl _ _)
        refine FlowSteps.step 20 3 (by kernel_rfl) rfl ?_ ?_
        ·
          intro c ρ W hc hS hd K hK
          have hst := hS.1
          have hsz := hS.2
          clear hS
          simp only [putFrom, vals, List.map_cons, List.map_nil, Act.put, List.setIfInBounds_toArray, List.set_cons_zero, List.set_cons_succ, Nat.reduceAdd] at hK ⊢
          have d1 := hd.out ⟨1, .data⟩ (by simp) (by decide)
          simp only [taskF] at d1
          generalize ρ 1 = x1 at d1 hK ⊢
          subst d1
          clear hd
          go_wp2_with (go_at_call 44; refine (pick_s _ _ r _ 10 _ (by omega) (by omega) (by omega) hst).mono ?_; rintro e W2 ⟨x, rfl, x0, x1, hs2, ha2⟩)
          exact hK.out (.int .i64 x) W2 ⟨x, rfl, x0, by omega⟩ ⟨hs2.mono (by omega), Nat.le_trans hsz ha2.1.size⟩ ha2
        refine FlowSteps.step 20 4 (by kernel_rfl) rfl ?_ ?_
        ·
          intro c ρ W hc hS hd K hK
          have hst := hS.1
          have hsz := hS.2
          clear hS
          simp only [putFrom, vals, List.map_cons, List.map_nil, Act.put, List.setIfInBounds_toArray, List.set_cons_zero, List.set_cons_succ, Nat.reduceAdd] at hK ⊢
          have d2 := hd.out ⟨2, .data⟩ (by simp) (by decide)
          simp only [taskF] at d2
          generalize ρ 2 = x2 at d2 hK ⊢
          obtain ⟨n2, rfl, a2, b2⟩ := d2
          clear hd
          go_simp
          exact hK.out _ _ ⟨_, rfl, by rw [IntWalk.i64_in _ (by omega)]; omega, by rw [IntWalk.i64_in _ (by omega)]; omega⟩ ⟨hst.mono (by omega), hsz⟩ (Aside.refl _ _)
        refine FlowSteps.step 20 5 (by kernel_rfl) rfl ?_ ?_
        ·
          intro c ρ W hc hS hd K hK
          have hst := hS.1
          have hsz := hS.2
          clear hS
          simp only [putFrom, vals, List.map_cons, List.map_nil, Act.put, List.setIfInBounds_toArray, List.set_cons_zero, List.set_cons_succ, Nat.reduceAdd] at hK ⊢
          clear hd
          go_simp
          exact hK.out _ _ rfl ⟨hst.mono (by omega), hsz⟩ (Aside.refl _ _)
        refine FlowSteps.step 20 6 (by kernel_rfl) rfl ?_ ?_
        ·
          intro c ρ W hc hS hd K hK
          have hst := hS.1
          have hsz := hS.2
          clear hS
          simp only [putFrom, vals, List.map_cons, List.map_nil, Act.put, List.setIfInBounds_toArray, List.set_cons_zero, List.set_cons_succ, Nat.reduceAdd] at hK ⊢
          have d4 := hd.out ⟨4, .data⟩ (by simp) (by decide)
          simp only [taskF] at d4
          generalize ρ 4 = x4 at d4 hK ⊢
          subst d4
          clear hd
          go_wp2_with (go_at_call 44; refine (pick_s _ _ r _ 5 _ (by omega) (by omega) (by omega) hst).mono ?_; rintro e W2 ⟨x, rfl, x0, x1, hs2, ha2⟩)
          exact hK.out (.int .i64 x) W2 ⟨x, rfl, x0, by omega⟩ ⟨hs2.mono (by omega), Nat.le_trans hsz ha2.1.size⟩ ha2
        refine FlowSteps.step 20 7 (by kernel_rfl) rfl ?_ ?_
        ·
          intro c ρ W hc hS hd K hK
          have hst := hS.1
          have hsz := hS.2
          clear hS
          simp only [putFrom, vals, List.map_cons, List.map_nil, Act.put, List.setIfInBounds_toArray, List.set_cons_zero, List.set_cons_succ, Nat.reduceAdd] at hK ⊢
          have d5 := hd.out ⟨5, .data⟩ (by simp) (by decide)
          simp only [taskF] at d5
          generalize ρ 5 = x5 at d5 hK ⊢
          obtain ⟨n5, rfl, a5, b5⟩ := d5
          clear hd
          go_simp
          exact hK.out _ _ ⟨_, rfl, by rw [IntWalk.i64_in _ (by omega)]; omega, by rw [IntWalk.i64_in _ (by omega)]; omega⟩ ⟨hst.mono (by omega), hsz⟩ (Aside.refl _ _)
        refine FlowSteps.step 20 8 (by kernel_rfl) rfl ?_ ?_
        ·
          intro c ρ W hc hS hd K hK
          have hst := hS.1
          have hsz := hS.2
          clear hS
          simp only [putFrom, vals, List.map_cons, List.map_nil, Act.put, List.setIfInBounds_toArray, List.set_cons_zero, List.set_cons_succ, Nat.reduceAdd] at hK ⊢
          have d6 := hd.out ⟨6, .data⟩ (by simp) (by decide)
          simp only [taskF] at d6
          generalize ρ 6 = x6 at d6 hK ⊢
          obtain ⟨n6, rfl, a6, b6⟩ := d6
          clear hd
          go_simp
          exact hK.out _ _ ⟨W.heap.size, rfl, by have := hst.size; omega, hsz, Cl.made _ _ _ _ _ (fun j hj => by
            obtain rfl | rfl | rfl : j = 0 ∨ j = 1 ∨ j = 2 := by omega
            all_goals exact ⟨_, rfl, _, rfl, by omega, by omega⟩)⟩ ⟨(hst.alloc _).mono (by omega), by simp; omega⟩ ((Aside.refl _ _).alloc _)
        refine FlowSteps.step 20 9 (by kernel_rfl) rfl ?_ ?_
        ·
          intro c ρ W hc hS hd K hK
          have hst := hS.1
          have hsz := hS.2
          clear hS
          simp only [putFrom, vals, List.map_cons, List.map_nil, Act.put, List.setIfInBounds_toArray, List.set_cons_zero, List.set_cons_succ, Nat.reduceAdd] at hK ⊢
          clear hd
          go_simp
          exact hK.out _ _ ⟨W.heap.size, rfl, by have := hst.size; omega, hsz, Cl.made _ _ _ _ _ (fun j hj => by
            obtain rfl | rfl | rfl | rfl | rfl | rfl | rfl | rfl : j = 0 ∨ j = 1 ∨ j = 2 ∨ j = 3 ∨ j = 4 ∨ j = 5 ∨ j = 6 ∨ j = 7 := by omega
            all_goals exact ⟨_, rfl, _, rfl, by omega, by omega⟩)⟩ ⟨(hst.alloc _).mono (by omega), by simp; omega⟩ ((Aside.refl _ _).alloc _)
        refine FlowSteps.step 20 10 (by kernel_rfl) rfl ?_ ?_
        ·
          intro c ρ W hc hS hd K hK
          have hst := hS.1
          have hsz := hS.2
          clear hS
          simp only [putFrom, vals, List.map_cons, List.map_nil, Act.put, List.setIfInBounds_toArray, List.set_cons_zero, List.set_cons_succ, Nat.reduceAdd] at hK ⊢
          clear hd
          go_simp
          exact hK.out _ _ rfl ⟨hst.mono (by omega), hsz⟩ (Aside.refl _ _)
        refine FlowSteps.step 20 11 (by kernel_rfl) rfl ?_ ?_
        ·
          intro c ρ W hc hS hd K hK
          have hst := hS.1
          have hsz := hS.2
          clear hS
          simp only [putFrom, vals, List.map_cons, List.map_nil, Act.put, List.setIfInBounds_toArray, List.set_cons_zero, List.set_cons_succ, Nat.reduceAdd] at hK ⊢
          have d9 := hd.out ⟨9, .data⟩ (by simp) (by decide)
          simp only [taskF] at d9
          generalize ρ 9 = x9 at d9 hK ⊢
          subst d9
          clear hd
          go_wp2_with (go_at_call 44; refine (pick_s _ _ r _ 8 _ (by omega) (by omega) (by omega) hst).mono ?_; rintro e W2 ⟨x, rfl, x0, x1, hs2, ha2⟩)
          exact hK.out (.int .i64 x) W2 ⟨x, rfl, x0, by omega⟩ ⟨hs2.mono (by omega), Nat.le_trans hsz ha2.1.size⟩ ha2
        refine FlowSteps.step 20 12 (by kernel_rfl) rfl ?_ ?_
        ·
          intro c ρ W hc hS hd K hK
          have hst := hS.1
          have hsz := hS.2
          clear hS
          simp only [putFrom, vals, List.map_cons, List.map_nil, Act.put, List.setIfInBounds_toArray, List.set_cons_zero, List.set_cons_succ, Nat.reduceAdd] at hK ⊢
          have d8 := hd.out ⟨8, .data⟩ (by simp) (by decide)
          simp only [taskF] at d8
          generalize ρ 8 = x8 at d8 hK ⊢
          obtain ⟨g, rfl, hg, hlo, hcl⟩ := d8
          have d10 := hd.out ⟨10, .data⟩ (by simp) (by decide)
          simp only [taskF] at d10
          generalize ρ 10 = x10 at d10 hK ⊢
          obtain ⟨n10, rfl, a10, b10⟩ := d10
          clear hd
          obtain ⟨x, rfl⟩ := Int.eq_ofNat_of_zero_le a10
          have hx4 : (x : Int) < 8 := by omega
          go_simp
          exact hK.out _ _ ⟨g, x, rfl, hg, by omega, hcl⟩ ⟨hst.mono (by omega), hsz⟩ (Aside.refl _ _)
        refine FlowSteps.step 20 13 (by kernel_rfl) rfl ?_ ?_
        ·
          intro c ρ W hc hS hd K hK
          have hst := hS.1
          have hsz := hS.2
          clear hS
          simp only [putFrom, vals, List.map_cons, List.map_nil, Act.put, List.setIfInBounds_toArray, List.set_cons_zero, List.set_cons_succ, Nat.reduceAdd] at hK ⊢
          have d11 := hd.out ⟨11, .data⟩ (by simp) (by decide)
          simp only [taskF] at d11
          generalize ρ 11 = x11 at d11 hK ⊢
          obtain ⟨g, j, rfl, hg, hj, hcl⟩ := d11
          clear hd
          obtain ⟨u, hu, ⟨s, rfl, sa, sb⟩, hfz⟩ := hcl.2 j hj
          go_simp
          exact hK.out _ _ ⟨s, rfl, sa, sb⟩ ⟨hst.mono (by omega), hsz⟩ (Aside.refl _ _)
        refine FlowSteps.step 20 14 (by kernel_rfl) rfl ?_ ?_
        ·
          intro c ρ W hc hS hd K hK
          have hst := hS.1
          have hsz := hS.2
          clear hS
          simp only [putFrom, vals, List.map_cons, List.map_nil, Act.put, List.setIfInBounds_toArray, List.set_cons_zero, List.set_cons_succ, Nat.reduceAdd] at hK ⊢
          have d7 := hd.out ⟨7, .data⟩ (by simp) (by decide)
          simp only [taskF] at d7
          generalize ρ 7 = x7 at d7 hK ⊢
          obtain ⟨g, rfl, hg, hlo, hcl⟩ := d7
          have d12 := hd.out ⟨12, .data⟩ (by simp) (by decide)
          simp only [taskF] at d12
          generalize ρ 12 = x12 at d12 hK ⊢
          obtain ⟨n12, rfl, a12, b12⟩ := d12
          clear hd
          obtain ⟨x, rfl⟩ := Int.eq_ofNat_of_zero_le a12
          have hx4 : (x : Int) < 3 := by omega
          go_simp
          exact hK.out _ _ ⟨g, x, rfl, hg, by omega, hcl⟩ ⟨hst.mono (by omega), hsz⟩ (Aside.refl _ _)
        refine FlowSteps.step 20 15 (by kernel_rfl) rfl ?_ ?_
        ·
          intro c ρ W hc hS hd K hK
          have hst := hS.1
          have hsz := hS.2
          clear hS
          simp only [putFrom, vals, List.map_cons, List.map_nil, Act.put, List.setIfInBounds_toArray, List.set_cons_zero, List.set_cons_succ, Nat.reduceAdd] at hK ⊢
          have d13 := hd.out ⟨13, .data⟩ (by simp) (by decide)
          simp only [taskF] at d13
          generalize ρ 13 = x13 at d13 hK ⊢
          obtain ⟨g, j, rfl, hg, hj, hcl⟩ := d13
          clear hd
          obtain ⟨u, hu, ⟨s, rfl, sa, sb⟩, hfz⟩ := hcl.2 j hj
          go_simp
          exact hK.out _ _ ⟨s, rfl, sa, sb⟩ ⟨hst.mono (by omega), hsz⟩ (Aside.refl _ _)
        refine FlowSteps.step 20 16 (by kernel_rfl) rfl ?_ ?_
        ·
          intro c ρ W hc hS hd K hK
          have hst := hS.1
          have hsz := hS.2
          clear hS
          simp only [putFrom, vals, List.map_cons, List.map_nil, Act.put, List.setIfInBounds_toArray, List.set_cons_zero, List.set_cons_succ, Nat.reduceAdd] at hK ⊢
          clear hd
          go_simp
          exact hK.out _ _ rfl ⟨hst.mono (by omega), hsz⟩ (Aside.refl _ _)
        refine FlowSteps.step 20 17 (by kernel_rfl) rfl ?_ ?_
        ·
          intro c ρ W hc hS hd K hK
          have hst := hS.1
          have hsz := hS.2
          clear hS
          simp only [putFrom, vals, List.map_cons, List.map_nil, Act.put, List.setIfInBounds_toArray, List.set_cons_zero, List.set_cons_succ, Nat.reduceAdd] at hK ⊢
          have d15 := hd.out ⟨15, .data⟩ (by simp) (by decide)
          simp only [taskF] at d15
          generalize ρ 15 = x15 at d15 hK ⊢
          subst d15
          clear hd
          go_wp2_with (go_at_call 44; refine (pick_s _ _ r _ 4 _ (by omega) (by omega) (by omega) hst).mono ?_; rintro e W2 ⟨x, rfl, x0, x1, hs2, ha2⟩)
          exact hK.out (.int .i64 x) W2 ⟨x, rfl, x0, by omega⟩ ⟨hs2.mono (by omega), Nat.le_trans hsz ha2.1.size⟩ ha2
        refine FlowSteps.step 20 18 (by kernel_rfl) rfl ?_ ?_
        ·
          intro c ρ W hc hS hd K hK
          have hst := hS.1
          have hsz := hS.2
          clear hS
          simp only [putFrom, vals, List.map_cons, List.map_nil, Act.put, List.setIfInBounds_toArray, List.set_cons_zero, List.set_cons_succ, Nat.reduceAdd] at hK ⊢
          have d16 := hd.out ⟨16, .data⟩ (by simp) (by decide)
          simp only [taskF] at d16
          generalize ρ 16 = x16 at d16 hK ⊢
          obtain ⟨n16, rfl, a16, b16⟩ := d16
          clear hd
          go_simp
          exact hK.out _ _ ⟨_, rfl⟩ ⟨hst.mono (by omega), hsz⟩ (Aside.refl _ _)
        refine FlowSteps.step 20 19 (by kernel_rfl) rfl ?_ ?_
        ·
          intro c ρ W hc hS hd K hK
          have hst := hS.1
          have hsz := hS.2
          clear hS
          simp only [putFrom, vals, List.map_cons, List.map_nil, Act.put, List.setIfInBounds_toArray, List.set_cons_zero, List.set_cons_succ, Nat.reduceAdd] at hK ⊢
          have d3 := hd.out ⟨3, .data⟩ (by simp) (by decide)
          simp only [taskF] at d3
          generalize ρ 3 = x3 at d3 hK ⊢
          obtain ⟨n3, rfl, a3, b3⟩ := d3
          have d14 := hd.out ⟨14, .data⟩ (by simp) (by decide)
          simp only [taskF] at d14
          generalize ρ 14 = x14 at d14 hK ⊢
          obtain ⟨n14, rfl, a14, b14⟩ := d14
          have d17 := hd.out ⟨17, .data⟩ (by simp) (by decide)
          simp only [taskF] at d17
          generalize ρ 17 = x17 at d17 hK ⊢
          obtain ⟨bb, rfl⟩ := d17
          clear hd
          go_simp
          exact hK.out _ _ ⟨_, _, _, rfl⟩ ⟨hst.mono (by omega), hsz⟩ (Aside.refl _ _)
        refine FlowSteps.step 20 20 (by kernel_rfl) rfl ?_ ?_
        ·
          intro c ρ W hc hS hd K hK
          have hst := hS.1
          have hsz := hS.2
          clear hS
          simp only [putFrom, vals, List.map_cons, List.map_nil, Act.put, List.setIfInBounds_toArray, List.set_cons_zero, List.set_cons_succ, Nat.reduceAdd] at hK ⊢
          have d18 := hd.out ⟨18, .data⟩ (by simp) (by decide)
          simp only [taskF] at d18
          generalize ρ 18 = x18 at d18 hK ⊢
          obtain ⟨ta, tb, tc, rfl⟩ := d18
          clear hd
          go_simp
          exact hK.out _ _ ⟨W.heap.size, ⟨ta, tb, tc⟩, rfl, by have := hst.size; omega, hsz, by simp, (Row.made W _ _ (fun j => #[Value.int .i64 ta, .int .i64 tb, .bool tc][j]?) (fun _ _ h => h)).cell rfl, (Row.made W _ _ (fun j => #[Value.int .i64 ta, .int .i64 tb, .bool tc][j]?) (fun _ _ h => h)).cell rfl, (Row.made W _ _ (fun j => #[Value.int .i64 ta, .int .i64 tb, .bool tc][j]?) (fun _ _ h => h)).cell rfl⟩ ⟨(hst.alloc _).mono (by omega), by simp; omega⟩ ((Aside.refl _ _).alloc _)
        exact FlowSteps.nil
      ·
          intro c ρ W hc hS hd
          have hst := hS.1
          have hsz := hS.2
          clear hS
          simp only [putFrom, Act.put, List.setIfInBounds_toArray, List.set_cons_zero, List.set_cons_succ, Nat.reduceAdd]
          have d0 := hd.out 0 (by decide)
          simp only [taskF] at d0
          generalize ρ 0 = x0 at d0 ⊢
          subst d0
          have d19 := hd.out 19 (by decide)
          simp only [taskF] at d19
          generalize ρ 19 = x19 at d19 ⊢
          obtain ⟨g, t, rfl, hg, hlo, hgs, c0, c1, c2⟩ := d19
          clear hd
          obtain ⟨hownK⟩ : Nonempty (Hid (W.ownsRow w.heap.size 32 3 x0 l.length (flatT l))) := ⟨own_keepB hown.out fun b hb => hst.2.1.2 b (own_block hown.out b hb).2 (by have := (own_block hown.out b hb).1; omega)⟩
          simp only [tailWp]
          refine wp_append_own W (.tmp 14) (.tmp 33) 25 rfl w.heap.size 32 i0 _ 3 24 Try.underlying25 HI.out HZ0.out HZ1.out HZ2.out rfl (by decide) x0 l.length (flatT l) rfl hownK.out ⟨g, 0, none⟩ 1 1 (flatT [t]) rfl rfl ?_ (flatT_one _) (by unfold maxLen; omega) (by omega) (by omega) ?_
          · intro j u hj
            rw [flatT_get] at hj
            match j with
            | 0 => simp [cellTask] at hj; subst hj; exact c0
            | 1 => simp [cellTask] at hj; subst hj; exact c1
            | 2 => simp [cellTask] at hj; subst hj; exact c2
            | j + 3 => simp only [cellTask] at hj; rw [show (j + 3) / 3 = j / 3 + 1 by omega] at hj; simp at hj
          · intro v' w' hown' hgrow hnil
            have hown2 := hide (show w'.ownsRow w.heap.size 32 3 v' (l ++ [t]).length (flatT (l ++ [t])) by
              have e : flatT (l ++ [t]) = flatT l ++ flatT [t] := by simp [flatT]
              rw [e]; simpa using hown')
            have hne2 := hide (show v' ≠ .slice none 0 0 from fun e => by have := hnil.1 e; exact absurd this.2 (by decide))
            have stW : St w B r (k + 1 + 25 * l.length + c) W := ⟨hst.1, hst0.2.1.trans hst.2.1, z2⟩
            have st' := stW.grown hgrow (fun b hb => (own_block hownK.out b hb).1)
            clear hown' hgrow hnil
            go_simp
            go_wp2_with fail
            exact ⟨⟨v', q, l ++ [t], rfl, by go_num, by simp; omega, hown2.out, hne2.out, st'.mono (by simp; omega)⟩, by simp [intOf]⟩
    · obtain rfl : q = 0 := by omega
      have hl5 : l.length ≤ 5 := by omega
      go_wp2_with fail
      refine (odd_s w B r _ n _ hn (by omega) (by omega) hst0).mono ?_
      rintro e w2 ⟨o, rfl, hs2, ha2⟩
      have own2 := own_keepB hown.out (w' := w2) fun b hb => ha2.2 b (own_block hown.out b hb).2 (by have := (own_block hown.out b hb).1; omega)
      have OWN2 := hide own2
      obtain ⟨g, cap, m, rfl, hg, hcap, hm, hrow⟩ := ownT_of rfl own2 hne.out
      have hcm : cap ≤ maxLen := by
        rcases own2.2 with ⟨h', _⟩ | ⟨g', cap', cur, h', _, _, _, hx, _⟩
        · cases h'
        · simp only [Value.slice.injEq] at h'; omega
      have hR := RdT_of_row hrow rfl
      clear own2 hrow
      cases o with
      | false =>
        go_wp2_with fail
        go_ret
        exact ⟨g, cap, l, rfl, hg, hR, by omega, hcap, hcm, hs2.mono (by omega), hs2.2.1⟩
      | true =>
        go_wp2_with fail
        refine (pick_s w B r _ 4 _ (by omega) (by omega) ?_ (hs2.alloc _)).mono ?_
        · omega
        rintro e w3 ⟨x, rfl, x0, x1, hs3, ha3⟩
        have y3 := hs3.size.2.2
        have L3 := liveA ha3 w2.heap.size (by simp) (by have := hs2.size; omega)
        have own3 := own_keepB (OWN2.out.alloc (.cells #[.int .i64 0, .int .i64 0, .bool false, .int .i64 11, .int .i64 0, .bool false, .int .i64 1, .int .i64 (-1), .bool false, .int .i64 1, .int .i64 1000001, .bool false] 32)) (w' := w3) fun b hb => ha3.2 b (by have := own_block OWN2.out b hb; simp; omega) (by have := (own_block OWN2.out b hb).1; omega)
        have OWN3 := hide own3
        clear own3
        obtain rfl | rfl | rfl | rfl : x = 0 ∨ x = 1 ∨ x = 2 ∨ x = 3 := by omega
        · go_wp2_with (at_builtin; refine wpList_append_own _ rfl _ _ 25 rfl w.heap.size 32 i0 _ 3 24 Try.underlying25 HI.out HZ0.out HZ1.out HZ2.out rfl (by decide) _ _ _ rfl (OWN3.out.alloc (.cells #[.int .i64 0, .int .i64 0, .bool false] 32)) ⟨w3.heap.size, 0, none⟩ 1 1 (flatT [(⟨0, 0, false⟩ : Task)]) rfl rfl ?qa0 (flatT_one _) ?qb0 ?qc0 ?qd0 ?_)
          case qa0 =>
            intro j u hj
            rw [flatT_get] at hj
            match j with
            | 0 => simp [cellTask] at hj; subst hj; exact (Row.made w3 32 #[.int .i64 0, .int .i64 0, .bool false] (fun j => #[.int .i64 0, .int .i64 0, .bool false][j]?) (fun _ _ h => h)).cell (j := 0) rfl
            | 1 => simp [cellTask] at hj; subst hj; exact (Row.made w3 32 #[.int .i64 0, .int .i64 0, .bool false] (fun j => #[.int .i64 0, .int .i64 0, .bool false][j]?) (fun _ _ h => h)).cell (j := 1) rfl
            | 2 => simp [cellTask] at hj; subst hj; exact (Row.made w3 32 #[.int .i64 0, .int .i64 0, .bool false] (fun j => #[.int .i64 0, .int .i64 0, .bool false][j]?) (fun _ _ h => h)).cell (j := 2) rfl
            | j + 3 => simp only [cellTask] at hj; rw [show (j + 3) / 3 = j / 3 + 1 by omega] at hj; simp at hj
          case qb0 => unfold maxLen; omega
          case qc0 => omega
          case qd0 => simp; omega
          intro v' w4 hown' hgrow hnil
          have hne2 : v' ≠ .slice none 0 0 := fun e => by simp [e] at hnil
          have own4 : w4.ownsRow w.heap.size 32 3 v' (l ++ [(⟨0, 0, false⟩ : Task)]).length (flatT (l ++ [(⟨0, 0, false⟩ : Task)])) := by
            have e : flatT (l ++ [(⟨0, 0, false⟩ : Task)]) = flatT l ++ flatT [(⟨0, 0, false⟩ : Task)] := by simp [flatT]
            rw [e]; simpa using hown'
          have st4 := (hs3.alloc (.cells #[.int .i64 0, .int .i64 0, .bool false] 32)).grown hgrow (fun b hb => (own_block (OWN3.out.alloc (.cells #[.int .i64 0, .int .i64 0, .bool false] 32)) b hb).1)
          obtain ⟨g4, cap4, m4, rfl, hg4, hcap4, hm4, hrow4⟩ := ownT_of rfl own4 hne2
          have hcm4 : cap4 ≤ maxLen := by
            rcases own4.2 with ⟨h', _⟩ | ⟨g', cap', cur, h', _, _, _, hx, _⟩
            · cases h'
            · simp only [Value.slice.injEq] at h'; omega
          have hR4 := RdT_of_row hrow4 rfl
          clear hown' hgrow hnil hne2 own4 hrow4
          go_wp2_with fail
          go_ret
          exact ⟨g4, cap4, l ++ [(⟨0, 0, false⟩ : Task)], by simp, hg4, hR4, by simp; omega, hcap4, hcm4, st4.mono (by omega), st4.2.1⟩
        · go_wp2_with (at_builtin; refine wpList_append_own _ rfl _ _ 25 rfl w.heap.size 32 i0 _ 3 24 Try.underlying25 HI.out HZ0.out HZ1.out HZ2.out rfl (by decide) _ _ _ rfl (OWN3.out.alloc (.cells #[.int .i64 11, .int .i64 0, .bool false] 32)) ⟨w3.heap.size, 0, none⟩ 1 1 (flatT [(⟨11, 0, false⟩ : Task)]) rfl rfl ?qa1 (flatT_one _) ?qb1 ?qc1 ?qd1 ?_)
          case qa1 =>
            intro j u hj
            rw [flatT_get] at hj
            match j with
            | 0 => simp [cellTask] at hj; subst hj; exact (Row.made w3 32 #[.int .i64 11, .int .i64 0, .bool false] (fun j => #[.int .i64 11, .int .i64 0, .bool false][j]?) (fun _ _ h => h)).cell (j := 0) rfl
            | 1 => simp [cellTask] at hj; subst hj; exact (Row.made w3 32 #[.int .i64 11, .int .i64 0, .bool false] (fun j => #[.int .i64 11, .int .i64 0, .bool false][j]?) (fun _ _ h => h)).cell (j := 1) rfl
            | 2 => simp [cellTask] at hj; subst hj; exact (Row.made w3 32 #[.int .i64 11, .int .i64 0, .bool false] (fun j => #[.int .i64 11, .int .i64 0, .bool false][j]?) (fun _ _ h => h)).cell (j := 2) rfl
            | j + 3 => simp only [cellTask] at hj; rw [show (j + 3) / 3 = j / 3 + 1 by omega] at hj; simp at hj
          case qb1 => unfold maxLen; omega
          case qc1 => omega
          case qd1 => simp; omega
          intro v' w4 hown' hgrow hnil
          have hne2 : v' ≠ .slice none 0 0 := fun e => by simp [e] at hnil
          have own4 : w4.ownsRow w.heap.size 32 3 v' (l ++ [(⟨11, 0, false⟩ : Task)]).length (flatT (l ++ [(⟨11, 0, false⟩ : Task)])) := by
            have e : flatT (l ++ [(⟨11, 0, false⟩ : Task)]) = flatT l ++ flatT [(⟨11, 0, false⟩ : Task)] := by simp [flatT]
            rw [e]; simpa using hown'
          have st4 := (hs3.alloc (.cells #[.int .i64 11, .int .i64 0, .bool false] 32)).grown hgrow (fun b hb => (own_block (OWN3.out.alloc (.cells #[.int .i64 11, .int .i64 0, .bool false] 32)) b hb).1)
          obtain ⟨g4, cap4, m4, rfl, hg4, hcap4, hm4, hrow4⟩ := ownT_of rfl own4 hne2
          have hcm4 : cap4 ≤ maxLen := by
            rcases own4.2 with ⟨h', _⟩ | ⟨g', cap', cur, h', _, _, _, hx, _⟩
            · cases h'
            · simp only [Value.slice.injEq] at h'; omega
          have hR4 := RdT_of_row hrow4 rfl
          clear hown' hgrow hnil hne2 own4 hrow4
          go_wp2_with fail
          go_ret
          exact ⟨g4, cap4, l ++ [(⟨11, 0, false⟩ : Task)], by simp, hg4, hR4, by simp; omega, hcap4, hcm4, st4.mono (by omega), st4.2.1⟩
        · go_wp2_with (at_builtin; refine wpList_append_own _ rfl _ _ 25 rfl w.heap.size 32 i0 _ 3 24 Try.underlying25 HI.out HZ0.out HZ1.out HZ2.out rfl (by decide) _ _ _ rfl (OWN3.out.alloc (.cells #[.int .i64 1, .int .i64 (-1), .bool false] 32)) ⟨w3.heap.size, 0, none⟩ 1 1 (flatT [(⟨1, (-1), false⟩ : Task)]) rfl rfl ?qa2 (flatT_one _) ?qb2 ?qc2 ?qd2 ?_)
          case qa2 =>
            intro j u hj
            rw [flatT_get] at hj
            match j with
            | 0 => simp [cellTask] at hj; subst hj; exact (Row.made w3 32 #[.int .i64 1, .int .i64 (-1), .bool false] (fun j => #[.int .i64 1, .int .i64 (-1), .bool false][j]?) (fun _ _ h => h)).cell (j := 0) rfl
            | 1 => simp [cellTask] at hj; subst hj; exact (Row.made w3 32 #[.int .i64 1, .int .i64 (-1), .bool false] (fun j => #[.int .i64 1, .int .i64 (-1), .bool false][j]?) (fun _ _ h => h)).cell (j := 1) rfl
            | 2 => simp [cellTask] at hj; subst hj; exact (Row.made w3 32 #[.int .i64 1, .int .i64 (-1), .bool false] (fun j => #[.int .i64 1, .int .i64 (-1), .bool false][j]?) (fun _ _ h => h)).cell (j := 2) rfl
            | j + 3 => simp only [cellTask] at hj; rw [show (j + 3) / 3 = j / 3 + 1 by omega] at hj; simp at hj
          case qb2 => unfold maxLen; omega
          case qc2 => omega
          case qd2 => simp; omega
          intro v' w4 hown' hgrow hnil
          have hne2 : v' ≠ .slice none 0 0 := fun e => by simp [e] at hnil
          have own4 : w4.ownsRow w.heap.size 32 3 v' (l ++ [(⟨1, (-1), false⟩ : Task)]).length (flatT (l ++ [(⟨1, (-1), false⟩ : Task)])) := by
            have e : flatT (l ++ [(⟨1, (-1), false⟩ : Task)]) = flatT l ++ flatT [(⟨1, (-1), false⟩ : Task)] := by simp [flatT]
            rw [e]; simpa using hown'
          have st4 := (hs3.alloc (.cells #[.int .i64 1, .int .i64 (-1), .bool false] 32)).grown hgrow (fun b hb => (own_block (OWN3.out.alloc (.cells #[.int .i64 1, .int .i64 (-1), .bool false] 32)) b hb).1)
          obtain ⟨g4, cap4, m4, rfl, hg4, hcap4, hm4, hrow4⟩ := ownT_of rfl own4 hne2
          have hcm4 : cap4 ≤ maxLen := by
            rcases own4.2 with ⟨h', _⟩ | ⟨g', cap', cur, h', _, _, _, hx, _⟩
            · cases h'
            · simp only [Value.slice.injEq] at h'; omega
          have hR4 := RdT_of_row hrow4 rfl
          clear hown' hgrow hnil hne2 own4 hrow4
          go_wp2_with fail
          go_ret
          exact ⟨g4, cap4, l ++ [(⟨1, (-1), false⟩ : Task)], by simp, hg4, hR4, by simp; omega, hcap4, hcm4, st4.mono (by omega), st4.2.1⟩
        · go_wp2_with (at_builtin; refine wpList_append_own _ rfl _ _ 25 rfl w.heap.size 32 i0 _ 3 24 Try.underlying25 HI.out HZ0.out HZ1.out HZ2.out rfl (by decide) _ _ _ rfl (OWN3.out.alloc (.cells #[.int .i64 1, .int .i64 1000001, .bool false] 32)) ⟨w3.heap.size, 0, none⟩ 1 1 (flatT [(⟨1, 1000001, false⟩ : Task)]) rfl rfl ?qa3 (flatT_one _) ?qb3 ?qc3 ?qd3 ?_)
          case qa3 =>
            intro j u hj
            rw [flatT_get] at hj
            match j with
            | 0 => simp [cellTask] at hj; subst hj; exact (Row.made w3 32 #[.int .i64 1, .int .i64 1000001, .bool false] (fun j => #[.int .i64 1, .int .i64 1000001, .bool false][j]?) (fun _ _ h => h)).cell (j := 0) rfl
            | 1 => simp [cellTask] at hj; subst hj; exact (Row.made w3 32 #[.int .i64 1, .int .i64 1000001, .bool false] (fun j => #[.int .i64 1, .int .i64 1000001, .bool false][j]?) (fun _ _ h => h)).cell (j := 1) rfl
            | 2 => simp [cellTask] at hj; subst hj; exact (Row.made w3 32 #[.int .i64 1, .int .i64 1000001, .bool false] (fun j => #[.int .i64 1, .int .i64 1000001, .bool false][j]?) (fun _ _ h => h)).cell (j := 2) rfl
            | j + 3 => simp only [cellTask] at hj; rw [show (j + 3) / 3 = j / 3 + 1 by omega] at hj; simp at hj
          case qb3 => unfold maxLen; omega
          case qc3 => omega
          case qd3 => simp; omega
          intro v' w4 hown' hgrow hnil
          have hne2 : v' ≠ .slice none 0 0 := fun e => by simp [e] at hnil
          have own4 : w4.ownsRow w.heap.size 32 3 v' (l ++ [(⟨1, 1000001, false⟩ : Task)]).length (flatT (l ++ [(⟨1, 1000001, false⟩ : Task)])) := by
            have e : flatT (l ++ [(⟨1, 1000001, false⟩ : Task)]) = flatT l ++ flatT [(⟨1, 1000001, false⟩ : Task)] := by simp [flatT]
            rw [e]; simpa using hown'
          have st4 := (hs3.alloc (.cells #[.int .i64 1, .int .i64 1000001, .bool false] 32)).grown hgrow (fun b hb => (own_block (OWN3.out.alloc (.cells #[.int .i64 1, .int .i64 1000001, .bool false] 32)) b hb).1)
          obtain ⟨g4, cap4, m4, rfl, hg4, hcap4, hm4, hrow4⟩ := ownT_of rfl own4 hne2
          have hcm4 : cap4 ≤ maxLen := by
            rcases own4.2 with ⟨h', _⟩ | ⟨g', cap', cur, h', _, _, _, hx, _⟩
            · cases h'
            · simp only [Value.slice.injEq] at h'; omega
          have hR4 := RdT_of_row hrow4 rfl
          clear hown' hgrow hnil hne2 own4 hrow4
          go_wp2_with fail
          go_ret
          exact ⟨g4, cap4, l ++ [(⟨1, 1000001, false⟩ : Task)], by simp, hg4, hR4, by simp; omega, hcap4, hcm4, st4.mono (by omega), st4.2.1⟩
end Go.Proofs.Ytnpgofmihmjmeaa
