/-
  What is drawn: quotas. No condition.
-/
import Derived.Test.YtgpdblkaidllmaaProg
import Derived.Test.YtgpdblkaidllmaaQuotaO
import Derived.Test.YtgpdblkaidllmaaDraw
import Derived.Test.YtgpdblkaidllmaaFlow2
import Derived.Test.YtgpdblkaidllmaaFlowS
namespace Go.Proofs.Ytgpdblkaidllmaa
open Go.RowKit
set_option linter.unusedSimpArgs false
set_option linter.unusedVariables false

theorem InB.below {w w' : World} {A : Option Addr} {n c : Nat} (h : InB w A n c) (hb : Below w.heap.size w w') : InB w' A n c :=
  ⟨h.1, h.2.1, fun h0 => by
    obtain ⟨b, off, hA, hlt, hne, hc⟩ := h.2.2 h0
    have := hb.size
    refine ⟨b, off, hA, by omega, by omega, fun i hi => ?_⟩
    obtain ⟨x, h1, h2, h3⟩ := hc i hi
    exact ⟨x, h1, h2, (hb.cell (p := ⟨b, _, none⟩) hlt).trans h3⟩⟩
def UObj (us : Nat) (w : World) : Prop := w.heap[us]? = some (.cells #[.int .i64 0, .int .i64 5, .int .i64 6, .int .i64 7] 3 (0, 0))
def quoF (hv : Value) (us p : Nat) (u : Int) (lo r : Nat) (i : Nat) (v : Value) (vs : List Value) (W : World) : Prop :=
  match i with
  | 0 => v = hv
  | 1 => v = .slice (some ⟨us, 0, none⟩) 4 4
  | 2 => v = .int .i64 (p : Nat)
  | 3 => v = .pointer (some ⟨us, p, none⟩)
  | 4 => v = .int .i64 u
  | 5 => v = .pointer (some ⟨r, 0, none⟩)
  | 6 => ∃ x : Int, v = .int .i64 x
  | 7 => v = .pointer (some ⟨r, 0, none⟩)
  | 8 => ∃ x : Int, v = .int .i64 x
  | 9 => ∃ x y : Int, v = .agg #[.int .i64 u, .int .i64 x, .int .i64 y]
  | _ => ∃ (g : Nat) (x y : Int), v = .slice (some ⟨g, 0, none⟩) 1 1 ∧ g ≠ r ∧ lo ≤ g ∧ Row W g 3 (rwl [.int .i64 u, .int .i64 x, .int .i64 y])
theorem quoF_keep {hv : Value} {us p : Nat} {u : Int} {lo r i : Nat} {v : Value} {vs : List Value} {W W' : World} (h : quoF hv us p u lo r i v vs W) (ha : Aside r W W') : quoF hv us p u lo r i v vs W' := by
  unfold quoF at h ⊢
  split <;> simp only at h <;> try exact h
  · obtain ⟨g, x, y, h1, h2, h3, h4⟩ := h; exact ⟨g, x, y, h1, h2, h3, ha.row h2 h4⟩
def DrewQ (w0 : World) (B r k : Nat) (w : World) (e : Ending) (w' : World) : Prop :=
  ∃ (g cap : Nat) (l : List Quota), e = .returned (.slice (some ⟨g, 0, none⟩) l.length cap) ∧ w.heap.size ≤ g ∧ RdQuota w' g 0 l ∧ l.length ≤ 6 ∧ l.length ≤ cap ∧ cap ≤ maxLen ∧ St w0 B r k w' ∧ Aside r w w'
theorem lit_quo (q : Nat) (h : q < 4) : ∃ t : Quota, ∀ j : Nat, j < 3 → (#[Value.int .i64 7, .int .i64 0, .int .i64 0, .int .i64 100, .int .i64 0, .int .i64 0, .int .i64 9, .int .i64 17, .int .i64 0, .int .i64 9, .int .i64 0, .int .i64 (-1)] : Array Value)[q * 3 + j]? = (flatQ [t])[j]? := by
  obtain rfl | rfl | rfl | rfl : q = 0 ∨ q = 1 ∨ q = 2 ∨ q = 3 := by omega
  · exact ⟨⟨7, 0, 0⟩, fun j hj => by obtain rfl | rfl | rfl : j = 0 ∨ j = 1 ∨ j = 2 := by omega
                                     all_goals rfl⟩
  · exact ⟨⟨100, 0, 0⟩, fun j hj => by obtain rfl | rfl | rfl : j = 0 ∨ j = 1 ∨ j = 2 := by omega
                                       all_goals rfl⟩
  · exact ⟨⟨9, 17, 0⟩, fun j hj => by obtain rfl | rfl | rfl : j = 0 ∨ j = 1 ∨ j = 2 := by omega
                                      all_goals rfl⟩
  · exact ⟨⟨9, 0, -1⟩, fun j hj => by obtain rfl | rfl | rfl : j = 0 ∨ j = 1 ∨ j = 2 := by omega
                                      all_goals rfl⟩
theorem own_type {w : World} {base size n us : Nat} {e : TypeId} {v : Value} {xs : List Value} {C : Array Value} {T : TypeId} (h : w.ownsRow base e size v n xs) (hu : w.heap[us]? = some (.cells C T (0, 0))) (hT : e ≠ T) : v.ownBlock ≠ some us := by
  intro hv
  rcases h.2 with ⟨rfl, _⟩ | ⟨g, cap, cur, rfl, hb, hg, _⟩
  · cases hv
  · simp only [Value.ownBlock, Option.some.injEq] at hv
    subst hv
    rw [hg] at hu
    cases hu
    exact hT rfl
set_option maxHeartbeats 4000000 in
theorem drawQ_c (B r k : Nat) (n : Int) (w : World) (hn : 1 ≤ n) (hn2 : n ≤ 1000000) (hk : k ≤ 100000) (h : Rdr w B r k) :
    Calls Try.prog 17 #[.pointer (some ⟨r, 0, none⟩), .int .i64 n] w fun e w' => DrewQ w B r (k + 100) w e w' := by
  have hs := St.start h
  obtain ⟨z1, z2, _⟩ := hs.size
  obtain ⟨i0, hi0, hz0, hz1, hz2⟩ := info_parts infoQuota
  have HI := hide hi0
  have HZ0 := hide hz0
  have HZ1 := hide hz1
  have HZ2 := hide hz2
  clear hi0 hz0 hz1 hz2
  obtain ⟨us, hus⟩ : ∃ us, us = w.heap.size + 1 := ⟨_, rfl⟩
  have HUS := hide hus
  go_enter Try.func17, Try.ntmps17
  go_wp2_with fail
  rw [← hus]
  clear hus
  go_loopw [5, 7] (fun hv0 kv wr => ∃ (hv : Value) (p : Nat) (l : List Quota), hv = hv0 ∧ kv = .int .i64 p ∧ p ≤ 4 ∧ l.length ≤ p ∧ Hid (UObj us wr) ∧ Hid (wr.ownsRow w.heap.size 33 3 hv l.length (flatQ l)) ∧ Hid (hv ≠ .slice none 0 0) ∧ St w B r (k + 20 * p) wr ∧ w.heap.size + 1 < wr.heap.size) (fun _ kv _ => 4 - (intOf kv).toNat)
  case atStart =>
    have hus := HUS.out
    subst hus
    refine ⟨_, 0, [], rfl, rfl, by omega, by simp, ?_, ?_, (fun e => by cases e), by simpa using (hs.alloc _).alloc _, by simp⟩
    · show UObj _ _
      unfold UObj
      have := Below.heap_alloc_self (w.alloc (.cells #[] 33)) (.cells #[.int .i64 0, .int .i64 5, .int .i64 6, .int .i64 7] 3)
      simpa using this
    · exact own_below (World.ownsRow_made w #[] 0 (Nat.le_refl _) (Nat.zero_le _) (by simp)) (below_alloc0 (Below.refl _ _) _)
  case round =>
    obtain ⟨hv, p, l, rfl, rfl, hp, hlp, HU0, hown, hne, hst0, hsz0⟩ := hrel
    have husw : us < wr.heap.size := by have := HUS.out; omega
    have husr : us ≠ r := by have := HUS.out; omega
    have y2 := hst0.size.2.2
    by_cases hlt : p < 4
    · go_wp2_with fail
      refine (pick_s w B r _ 2 _ (by omega) (by omega) ?_ hst0).mono ?_
      · omega
      rintro e w4 ⟨m, rfl, m0, m1, hs4, ha4⟩
      have own4 := hide (own_keepB hown.out (w' := w4) fun b hb => ha4.2 b (own_block hown.out b hb).2 (by have := (own_block hown.out b hb).1; omega))
      have HU := hide (show UObj us w4 from (ha4.2 us husw husr).trans HU0.out)
      have y4 := hs4.size.2.2
      have y5 := ha4.1.size
      obtain rfl | rfl : m = 1 ∨ m = 0 := by omega
      · go_wp2_with fail
        exact ⟨⟨hv, p + 1, l, rfl, by go_num, by omega, by omega, HU.out, own4.out, hne.out, hs4.mono (by omega), by omega⟩, by simp [intOf]; omega⟩
      · obtain ⟨u, hlu⟩ : ∃ u : Int, (#[Value.int .i64 0, .int .i64 5, .int .i64 6, .int .i64 7] : Array Value)[p]? = some (.int .i64 u) := by
          obtain rfl | rfl | rfl | rfl : p = 0 ∨ p = 1 ∨ p = 2 ∨ p = 3 := by omega
          all_goals exact ⟨_, rfl⟩
        have hp4 : (p : Int) < 4 := by omega
        unfold UObj at HU
        go_wp2_with fail
        refine wp_flowE (os := [_, _, _, _, _, _, _, _, _, _, _]) (ts := [_, _]) (fun c W => St w4 B r (k + 20 * p + 1 + c) W ∧ w4.heap.size ≤ W.heap.size) (Aside r) (quoF hv us p u w4.heap.size r) 11 rfl rfl rfl ?_ ?_ ?_ ?_ ?_ (fun i v vs w1 w2 h ha => quoF_keep h ha) ?_ ?_ ?_
        · kernel_rfl
        · kernel_rfl
        · kernel_rfl
        · kernel_rfl
        · kernel_rfl
        · exact ⟨(St.start hs4.1).drew, Nat.le_refl _⟩
        ·
          refine FlowSteps.step 11 1 (by kernel_rfl) rfl ?_ ?_
          ·
            intro c ρ W hc hS hd K hK
            have hst := hS.1
            have hsz := hS.2
            clear hS
            simp only [putFrom, vals, List.map_cons, List.map_nil, Act.put, List.setIfInBounds_toArray, List.set_cons_zero, List.set_cons_succ, Nat.reduceAdd] at hK ⊢
            clear hd
            go_simp
            exact hK.out _ _ rfl ⟨hst.mono (by omega), hsz⟩ (Aside.refl _ _)
          refine FlowSteps.step 11 2 (by kernel_rfl) rfl ?_ ?_
          ·
            intro c ρ W hc hS hd K hK
            have hst := hS.1
            have hsz := hS.2
            clear hS
            simp only [putFrom, vals, List.map_cons, List.map_nil, Act.put, List.setIfInBounds_toArray, List.set_cons_zero, List.set_cons_succ, Nat.reduceAdd] at hK ⊢
            clear hd
            go_simp
            exact hK.out _ _ rfl ⟨hst.mono (by omega), hsz⟩ (Aside.refl _ _)
          refine FlowSteps.step 11 3 (by kernel_rfl) rfl ?_ ?_
          ·
            intro c ρ W hc hS hd K hK
            have hst := hS.1
            have hsz := hS.2
            clear hS
            simp only [putFrom, vals, List.map_cons, List.map_nil, Act.put, List.setIfInBounds_toArray, List.set_cons_zero, List.set_cons_succ, Nat.reduceAdd] at hK ⊢
            clear hd
            go_simp
            exact hK.out _ _ rfl ⟨hst.mono (by omega), hsz⟩ (Aside.refl _ _)
          refine FlowSteps.step 11 4 (by kernel_rfl) rfl ?_ ?_
          ·
            intro c ρ W hc hS hd K hK
            have hst := hS.1
            have hsz := hS.2
            clear hS
            simp only [putFrom, vals, List.map_cons, List.map_nil, Act.put, List.setIfInBounds_toArray, List.set_cons_zero, List.set_cons_succ, Nat.reduceAdd] at hK ⊢
            have d1 := hd.out ⟨1, .data⟩ (by simp) (by decide)
            simp only [quoF] at d1
            generalize ρ 1 = x1 at d1 hK ⊢
            subst d1
            have d2 := hd.out ⟨2, .data⟩ (by simp) (by decide)
            simp only [quoF] at d2
            generalize ρ 2 = x2 at d2 hK ⊢
            subst d2
            clear hd
            go_simp
            exact hK.out _ _ rfl ⟨hst.mono (by omega), hsz⟩ (Aside.refl _ _)
          refine FlowSteps.step 11 5 (by kernel_rfl) rfl ?_ ?_
          ·
            intro c ρ W hc hS hd K hK
            have hst := hS.1
            have hsz := hS.2
            clear hS
            simp only [putFrom, vals, List.map_cons, List.map_nil, Act.put, List.setIfInBounds_toArray, List.set_cons_zero, List.set_cons_succ, Nat.reduceAdd] at hK ⊢
            have d3 := hd.out ⟨3, .data⟩ (by simp) (by decide)
            simp only [quoF] at d3
            generalize ρ 3 = x3 at d3 hK ⊢
            subst d3
            clear hd
            have hu := (hst.2.1.2 us (by omega) (by omega)).trans HU.out
            have e1 : W.cell? ⟨us, p, none⟩ = some (.int .i64 u) := by simpa [World.cell?, hu] using hlu
            go_simp
            exact hK.out _ _ rfl ⟨hst.mono (by omega), hsz⟩ (Aside.refl _ _)
          refine FlowSteps.step 11 6 (by kernel_rfl) rfl ?_ ?_
          ·
            intro c ρ W hc hS hd K hK
            have hst := hS.1
            have hsz := hS.2
            clear hS
            simp only [putFrom, vals, List.map_cons, List.map_nil, Act.put, List.setIfInBounds_toArray, List.set_cons_zero, List.set_cons_succ, Nat.reduceAdd] at hK ⊢
            clear hd
            go_simp
            exact hK.out _ _ rfl ⟨hst.mono (by omega), hsz⟩ (Aside.refl _ _)
          refine FlowSteps.step 11 7 (by kernel_rfl) rfl ?_ ?_
          ·
            intro c ρ W hc hS hd K hK
            have hst := hS.1
            have hsz := hS.2
            clear hS
            simp only [putFrom, vals, List.map_cons, List.map_nil, Act.put, List.setIfInBounds_toArray, List.set_cons_zero, List.set_cons_succ, Nat.reduceAdd] at hK ⊢
            have d5 := hd.out ⟨5, .data⟩ (by simp) (by decide)
            simp only [quoF] at d5
            generalize ρ 5 = x5 at d5 hK ⊢
            subst d5
            clear hd
            go_wp2_with (go_at_call 20; refine (pick_s _ _ r _ 5 _ (by omega) (by omega) (by omega) hst).mono ?_; rintro e W2 ⟨x, rfl, x0, x1, hs2, ha2⟩)
            exact hK.out (.int .i64 x) W2 ⟨x, rfl⟩ ⟨hs2.mono (by omega), Nat.le_trans hsz ha2.1.size⟩ ha2
          refine FlowSteps.step 11 8 (by kernel_rfl) rfl ?_ ?_
          ·
            intro c ρ W hc hS hd K hK
            have hst := hS.1
            have hsz := hS.2
            clear hS
            simp only [putFrom, vals, List.map_cons, List.map_nil, Act.put, List.setIfInBounds_toArray, List.set_cons_zero, List.set_cons_succ, Nat.reduceAdd] at hK ⊢
            clear hd
            go_simp
            exact hK.out _ _ rfl ⟨hst.mono (by omega), hsz⟩ (Aside.refl _ _)
          refine FlowSteps.step 11 9 (by kernel_rfl) rfl ?_ ?_
          ·
            intro c ρ W hc hS hd K hK
            have hst := hS.1
            have hsz := hS.2
            clear hS
            simp only [putFrom, vals, List.map_cons, List.map_nil, Act.put, List.setIfInBounds_toArray, List.set_cons_zero, List.set_cons_succ, Nat.reduceAdd] at hK ⊢
            have d7 := hd.out ⟨7, .data⟩ (by simp) (by decide)
            simp only [quoF] at d7
            generalize ρ 7 = x7 at d7 hK ⊢
            subst d7
            clear hd
            go_wp2_with (go_at_call 20; refine (pick_s _ _ r _ 12 _ (by omega) (by omega) (by omega) hst).mono ?_; rintro e W2 ⟨x, rfl, x0, x1, hs2, ha2⟩)
            exact hK.out (.int .i64 x) W2 ⟨x, rfl⟩ ⟨hs2.mono (by omega), Nat.le_trans hsz ha2.1.size⟩ ha2
          refine FlowSteps.step 11 10 (by kernel_rfl) rfl ?_ ?_
          ·
            intro c ρ W hc hS hd K hK
            have hst := hS.1
            have hsz := hS.2
            clear hS
            simp only [putFrom, vals, List.map_cons, List.map_nil, Act.put, List.setIfInBounds_toArray, List.set_cons_zero, List.set_cons_succ, Nat.reduceAdd] at hK ⊢
            have d4 := hd.out ⟨4, .data⟩ (by simp) (by decide)
            simp only [quoF] at d4
            generalize ρ 4 = x4 at d4 hK ⊢
            subst d4
            have d6 := hd.out ⟨6, .data⟩ (by simp) (by decide)
            simp only [quoF] at d6
            generalize ρ 6 = x6 at d6 hK ⊢
            obtain ⟨n6, rfl⟩ := d6
            have d8 := hd.out ⟨8, .data⟩ (by simp) (by decide)
            simp only [quoF] at d8
            generalize ρ 8 = x8 at d8 hK ⊢
            obtain ⟨n8, rfl⟩ := d8
            clear hd
            go_simp
            exact hK.out _ _ ⟨_, _, rfl⟩ ⟨hst.mono (by omega), hsz⟩ (Aside.refl _ _)
          refine FlowSteps.step 11 11 (by kernel_rfl) rfl ?_ ?_
          ·
            intro c ρ W hc hS hd K hK
            have hst := hS.1
            have hsz := hS.2
            clear hS
            simp only [putFrom, vals, List.map_cons, List.map_nil, Act.put, List.setIfInBounds_toArray, List.set_cons_zero, List.set_cons_succ, Nat.reduceAdd] at hK ⊢
            have d9 := hd.out ⟨9, .data⟩ (by simp) (by decide)
            simp only [quoF] at d9
            generalize ρ 9 = x9 at d9 hK ⊢
            obtain ⟨x, y, rfl⟩ := d9
            clear hd
            go_simp
            exact hK.out _ _ ⟨W.heap.size, x, y, rfl, by have := hst.size; omega, hsz, Row.madeL W _ [.int .i64 u, .int .i64 x, .int .i64 y]⟩ ⟨(hst.alloc _).mono (by omega), by simp; omega⟩ ((Aside.refl _ _).alloc _)
          exact FlowSteps.nil
        ·
          intro c ρ W hc hS hd
          have hst := hS.1
          have hsz := hS.2
          clear hS
          simp only [putFrom, Act.put, List.setIfInBounds_toArray, List.set_cons_zero, List.set_cons_succ, Nat.reduceAdd]
          have d0 := hd.out 0 (by decide)
          simp only [quoF] at d0
          generalize ρ 0 = x0 at d0 ⊢
          subst d0
          have d10 := hd.out 10 (by decide)
          simp only [quoF] at d10
          generalize ρ 10 = x10 at d10 ⊢
          obtain ⟨g, x, y, rfl, hg, hlo, hrow⟩ := d10
          clear hd
          have own7 := hide (own_keepB own4.out (w' := W) fun b hb => hst.2.1.2 b (own_block own4.out b hb).2 (by have := (own_block own4.out b hb).1; omega))
          have HU7 := hide (show W.heap[us]? = _ from (hst.2.1.2 us (by omega) husr).trans HU.out)
          simp only [tailWp]
          refine wp_append_own W (.tmp 17) (.tmp 27) 25 rfl w.heap.size 33 i0 _ 3 24 Try.underlying25 HI.out HZ0.out HZ1.out HZ2.out rfl (by decide) x0 l.length (flatQ l) rfl own7.out ⟨g, 0, none⟩ 1 1 (flatQ [⟨u, x, y⟩]) rfl rfl ?_ (flatQ_one _) (by unfold maxLen; omega) (by omega) (by omega) ?_
          · intro j v hj
            rw [Addr.add_lit, Nat.zero_add]
            exact hrow.cell (by simpa [flatQ, rwl] using hj)
          · intro v' w' hown' hgrow hnil
            have hown2 := hide (show w'.ownsRow w.heap.size 33 3 v' (l ++ [(⟨u, x, y⟩ : Quota)]).length (flatQ (l ++ [(⟨u, x, y⟩ : Quota)])) by
              rw [flatQ_app]; simpa using hown')
            have hne2 := hide (show v' ≠ .slice none 0 0 from fun e => by have := hnil.1 e; exact absurd this.2 (by decide))
            have stW : St w B r (k + 20 * p + 1 + c) W := ⟨hst.1, hs4.2.1.trans hst.2.1, z2⟩
            have st' := stW.grown hgrow (fun b hb => (own_block own7.out b hb).1)
            have HU9 := hide (show UObj us w' from (hgrow.block us (by have := hst.2.1.1.size; omega) (own_type own7.out HU7.out (by decide)).symm).trans HU7.out)
            have hz9 := st'.2.1.1.size
            have hz10 := hgrow.size
            have hz11 := hst.2.1.1.size
            clear hown' hgrow hnil
            go_simp
            go_wp2_with fail
            exact ⟨⟨v', p + 1, l ++ [(⟨u, x, y⟩ : Quota)], rfl, by go_num, by omega, by simp; omega, HU9.out, hown2.out, hne2.out, st'.mono (by omega), by omega⟩, by simp [intOf]; omega⟩
    · obtain rfl : p = 4 := by omega
      go_wp2_with fail
      refine (odd_s w B r _ n _ hn (by omega) (by omega) hst0).mono ?_
      rintro e w2 ⟨o, rfl, hs2, ha2⟩
      have own2 := hide (own_keepB hown.out (w' := w2) fun b hb => ha2.2 b (own_block hown.out b hb).2 (by have := (own_block hown.out b hb).1; omega))
      have y3 := hs2.size.2.2
      cases o with
      | false =>
        obtain ⟨g, cap, m, rfl, hg, hcap, hcm, hm, hrow⟩ := ownQ_of rfl own2.out hne.out
        have hR := RdQuota_of_rowm hrow rfl
        go_wp2_with fail
        go_ret
        exact ⟨g, cap, l, rfl, hg, hR, by omega, hcap, hcm, hs2.mono (by omega), hs2.2.1⟩
      | true =>
        go_wp2_with fail
        refine (pick_s w B r _ 4 _ (by omega) (by omega) ?_ (hs2.alloc _)).mono ?_
        · omega
        rintro e w3 ⟨x, rfl, x0, x1, hs3, ha3⟩
        obtain ⟨x, rfl⟩ := Int.eq_ofNat_of_zero_le x0
        have y4 := hs3.size.2.2
        have L3 := liveA ha3 w2.heap.size (by simp) (by omega)
        obtain ⟨t, ht⟩ := lit_quo x (by omega)
        have c0 : w3.cell? ⟨w2.heap.size, x * 3, none⟩ = some (.int .i64 t.who) := by rw [L3.2.1]; simpa [flatQ] using ht 0 (by omega)
        have c1 : w3.cell? ⟨w2.heap.size, x * 3 + 1, none⟩ = some (.int .i64 t.nodes) := by rw [L3.2.1]; simpa [flatQ] using ht 1 (by omega)
        have c2 : w3.cell? ⟨w2.heap.size, x * 3 + 2, none⟩ = some (.int .i64 t.bytes) := by rw [L3.2.1]; simpa [flatQ] using ht 2 (by omega)
        clear ht L3
        have own3 := hide (own_keepB (own2.out.alloc (.cells #[.int .i64 7, .int .i64 0, .int .i64 0, .int .i64 100, .int .i64 0, .int .i64 0, .int .i64 9, .int .i64 17, .int .i64 0, .int .i64 9, .int .i64 0, .int .i64 (-1)] 33)) (w' := w3) fun b hb => ha3.2 b (by have := own_block own2.out b hb; simp; omega) (by have := (own_block own2.out b hb).1; omega))
        have OWN3 := hide (own3.out.alloc (.cells #[.int .i64 t.who, .int .i64 t.nodes, .int .i64 t.bytes, .int .i64 7, .int .i64 0, .int .i64 0] 33))
        go_wp2_with (at_builtin; refine wpList_append_own _ rfl _ _ 25 rfl w.heap.size 33 i0 _ 3 24 Try.underlying25 HI.out HZ0.out HZ1.out HZ2.out rfl (by decide) _ _ _ rfl OWN3.out ⟨w3.heap.size, 0, none⟩ 2 2 (flatQ [t, ⟨7, 0, 0⟩]) rfl rfl ?qa1 (flatQ_one _) ?qb1 ?qc1 ?qd1 ?_)
        case qa1 =>
          intro j u hj
          have : ((⟨w3.heap.size, 0, none⟩ : Addr).add j) = ⟨w3.heap.size, j, none⟩ := by
            unfold Addr.add
            split
            · rename_i h; rw [h]
            · simp
          rw [this]
          exact (Row.made w3 33 #[.int .i64 t.who, .int .i64 t.nodes, .int .i64 t.bytes, .int .i64 7, .int .i64 0, .int .i64 0] (fun j => #[Value.int .i64 t.who, .int .i64 t.nodes, .int .i64 t.bytes, .int .i64 7, .int .i64 0, .int .i64 0][j]?) (fun _ _ h => h)).cell (by simpa [flatQ] using hj)
        case qb1 => unfold maxLen; omega
        case qc1 => omega
        case qd1 => simp; omega
        intro v' w4 hown' hgrow hnil
        have hne2 : v' ≠ .slice none 0 0 := fun e => by simp [e] at hnil
        have own4 : w4.ownsRow w.heap.size 33 3 v' (l ++ [t, (⟨7, 0, 0⟩ : Quota)]).length (flatQ (l ++ [t, (⟨7, 0, 0⟩ : Quota)])) := by
          rw [flatQ_app]; simpa using hown'
        have st4 := (hs3.alloc (.cells #[.int .i64 t.who, .int .i64 t.nodes, .int .i64 t.bytes, .int .i64 7, .int .i64 0, .int .i64 0] 33)).grown hgrow (fun b hb => (own_block OWN3.out b hb).1)
        obtain ⟨g4, cap4, m4, rfl, hg4, hcap4, hcm4, hm4, hrow4⟩ := ownQ_of rfl own4 hne2
        have hR4 := RdQuota_of_rowm hrow4 rfl
        clear hown' hgrow hnil hne2 own4 hrow4
        go_wp2_with fail
        go_ret
        exact ⟨g4, cap4, l ++ [t, (⟨7, 0, 0⟩ : Quota)], by simp, hg4, hR4, by simp; omega, hcap4, hcm4, st4.mono (by omega), st4.2.1⟩
end Go.Proofs.Ytgpdblkaidllmaa
