/-
  ListValid of the implementation. No condition.
-/
import Derived.Test.YtpifnfhgaemdmaaProg
import Derived.Test.YtpifnfhgaemdmaaLstV
import Derived.Test.YtpifnfhgaemdmaaLst2
import Derived.Test.YtpifnfhgaemdmaaGplace
import Derived.Test.YtpifnfhgaemdmaaFlowX
namespace Go.Proofs.Ytpifnfhgaemdmaa
open Go.RowKit
set_option linter.unusedSimpArgs false
set_option linter.unusedVariables false

def glV (b off n c p0 : Nat) (tg : Bool) (tw tr x : Int) (gd xd : Nat) (i : Nat) : Value :=
  match i with
  | 0 => .bool true
  | 1 => .bool false
  | 2 => .bool false
  | 3 => .pointer (some ⟨gd, 2, none⟩)
  | 4 => .int .i64 tr
  | 5 => .bool true
  | 6 => .bool false
  | 7 => .bool false
  | 8 => .bool false
  | 9 => .pointer (some ⟨xd, 1, none⟩)
  | 10 => .slice (some ⟨b, off, none⟩) n c
  | 11 => .int .i64 p0
  | 12 => .slice (some ⟨b, off, none⟩) p0 c
  | 13 => .pointer (some ⟨gd, 0, none⟩)
  | 14 => .bool tg
  | 15 => .pointer (some ⟨gd, 1, none⟩)
  | 16 => .int .i64 tw
  | 17 => .int .i64 x
  | 18 => .bool (decide (0 ≤ x))
  | _ => .bool (decide (0 ≤ x))

theorem idxG_pos {l : List Grant} {i : Nat} {g : Bool} {who : Int} (h : 0 ≤ idxG (l.take i) g who) : ∃ (q : Nat) (s : Grant), q < i ∧ l[q]? = some s ∧ isG g who s = true := by
  unfold idxG at h
  cases hf : (l.take i).findIdx? (isG g who) with
  | none => rw [hf] at h; simp at h
  | some j =>
    obtain ⟨hj, hy, _⟩ := List.findIdx?_eq_some_iff_getElem.1 hf
    rw [List.length_take] at hj
    exact ⟨j, l[j]'(by omega), by omega, List.getElem?_eq_getElem _, by rw [List.getElem_take] at hy; exact hy⟩
theorem idxG_neg {l : List Grant} {i : Nat} {g : Bool} {who : Int} (h : ¬ 0 ≤ idxG (l.take i) g who) (q : Nat) (s : Grant) (hq : q < i) (hs : l[q]? = some s) : isG g who s = false := by
  unfold idxG at h
  cases hf : (l.take i).findIdx? (isG g who) with
  | some j => rw [hf] at h; simp at h
  | none =>
    rw [List.findIdx?_eq_none_iff] at hf
    refine hf s ?_
    refine List.mem_of_getElem? (i := q) ?_
    rw [List.getElem?_take, if_pos hq]; exact hs
theorem InGrant.take {w : World} {A : Option Addr} {n : Nat} {l : List Grant} (h : InGrant w A n l) (i : Nat) (hi : i ≤ n) : InGrant w A i (l.take i) := by
  refine ⟨by rw [List.length_take, h.1]; omega, fun h0 => ?_⟩
  obtain ⟨b, off, hA, hR⟩ := h.2 (by omega)
  refine ⟨b, off, hA, hR.1, fun k t ht => hR.2 k t ?_⟩
  rw [List.getElem?_take] at ht
  split at ht
  · exact ht
  · cases ht
set_option maxRecDepth 100000 in
set_option maxHeartbeats 8000000 in
theorem lvImpl_c (m : Int) (A : Option Addr) (n c : Nat) (k : Int) (l : List Grant) (hn : n ≤ 1048576) (hc : n ≤ c) (hcm : c ≤ maxLen) (w : World) (hI : InGrant w A n l) :
    Calls Try.prog 19 #[.agg #[.int .i64 m, .slice A n c, .int .i64 k]] w fun e w' => e = .returned (.bool (listB m l k)) ∧ Below w.heap.size w w' := by
  unfold maxLen at hcm
  have HI := hide hI
  have HL := hide hI.1
  clear hI
  go_enter Try.func19, Try.ntmps19
  go_wp2_with fail
  have x0 : (w.alloc (.cells #[.int .i64 m, .slice A n c, .int .i64 k] 24)).cell? ⟨w.heap.size, 0, none⟩ = some (.int .i64 m) := by simp
  have x1 : (w.alloc (.cells #[.int .i64 m, .slice A n c, .int .i64 k] 24)).cell? ⟨w.heap.size, 1, none⟩ = some (.slice A n c) := by simp
  have x2 : (w.alloc (.cells #[.int .i64 m, .slice A n c, .int .i64 k] 24)).cell? ⟨w.heap.size, 2, none⟩ = some (.int .i64 k) := by simp
  have hz0 : (w.alloc (.cells #[.int .i64 m, .slice A n c, .int .i64 k] 24)).heap.size = w.heap.size + 1 := by simp
  have BW0 : Below w.heap.size w (w.alloc (.cells #[.int .i64 m, .slice A n c, .int .i64 k] 24)) := below_alloc0 (Below.refl _ _) _
  generalize w.alloc (.cells #[.int .i64 m, .slice A n c, .int .i64 k] 24) = W0 at *
  obtain ⟨xd, hxd⟩ : ∃ xd, xd = w.heap.size := ⟨_, rfl⟩
  rw [← hxd] at x0 x1 x2 hz0 ⊢
  have HXD := hide hxd
  clear hxd
  have HX := hide (And.intro x0 (And.intro x1 x2))
  have HB0 := hide BW0
  clear x0 x1 x2 BW0
  go_loopw [9] (fun kv wr => ∃ i : Nat, i ≤ n ∧ kv = .int .i64 i ∧ Hid (GUp l i) ∧ Hid (Below W0.heap.size W0 wr)) (fun kv _ => n - (intOf kv).toNat)
  case atStart => exact ⟨0, by omega, rfl, fun i t hi => absurd hi (by omega), Below.refl _ _⟩
  case round =>
    obtain ⟨i, hi, rfl, hup, hbel⟩ := hrel
    have hsz := hbel.out.size
    have hxl : xd < wr.heap.size := by omega
    have y0 := (hbel.out.cell (p := ⟨xd, 0, none⟩) (by show xd < _; omega)).trans HX.out.1
    have y1 := (hbel.out.cell (p := ⟨xd, 1, none⟩) (by show xd < _; omega)).trans HX.out.2.1
    have y2 := (hbel.out.cell (p := ⟨xd, 2, none⟩) (by show xd < _; omega)).trans HX.out.2.2
    have BW : Hid (Below w.heap.size w wr) := hide (HB0.out.trans (hbel.out.mono HB0.out.size))
    by_cases hlt : i < n
    · obtain ⟨t, ht⟩ : ∃ t, l[i]? = some t := ⟨_, List.getElem?_eq_getElem (by rw [HL.out]; exact hlt)⟩
      have HT := hide ht
      obtain ⟨b, off, hA, hR⟩ := HI.out.2 (by omega)
      subst hA
      have hRw := hide (hR.below BW.out)
      obtain ⟨g0, g1, g2⟩ := hRw.out.2 i t ht
      have hbl := hRw.out.1
      clear ht hR
      cases hg : t.ofGroup
      all_goals rw [hg] at g0
      · have HGT := hide hg
        cases h1 : inB t.who 0 99
        · have HF := hide (listB_no (m := m) (l := l) (k := k) fun e => absurd (e.1 i t (by rw [HL.out]; exact hlt) HT.out).1.1 (by simp [mostG, hg, h1]))
          clear hg
          go_wp2_with (first | (go_at_call 41; refine (isUser_c _ _).mono ?_; rintro e w' ⟨rfl, rfl⟩; rw [h1]) | (go_at_call 42; refine (isGroup_c _ _).mono ?_; rintro e w' ⟨rfl, rfl⟩; rw [h1]))
          go_quiet (fail)
          go_wp2_with fail
          go_ret
          exact ⟨by rw [HF.out]; rfl, below_drewN (below_alloc0 BW.out _) _⟩
        · cases h2 : inB t.rights 0 7
          · have HF := hide (listB_no (m := m) (l := l) (k := k) fun e => absurd (e.1 i t (by rw [HL.out]; exact hlt) HT.out).1.2 (by simp [h2]))
            clear hg
            have HRT := hide (isRights_c t.rights)
            rw [h2] at HRT
            go_wp2_with (first | (go_at_call 41; refine (isUser_c _ _).mono ?_; rintro e w' ⟨rfl, rfl⟩; rw [h1]) | (go_at_call 42; refine (isGroup_c _ _).mono ?_; rintro e w' ⟨rfl, rfl⟩; rw [h1]))
            go_quiet ((go_at_call 43; exact quiet_left (HRT.out _)))
            go_wp2_with fail
            go_ret
            exact ⟨by rw [HF.out]; rfl, below_drewN (below_alloc0 BW.out _) _⟩
          · have HGO := hide (show GOk t from ⟨by simp [mostG, hg, h1], h2⟩)
            have HRT := hide (isRights_c t.rights)
            rw [h2] at HRT
            clear hg h2
            go_wp2_with (first | (go_at_call 41; refine (isUser_c _ _).mono ?_; rintro e w' ⟨rfl, rfl⟩; rw [h1]) | (go_at_call 42; refine (isGroup_c _ _).mono ?_; rintro e w' ⟨rfl, rfl⟩; rw [h1]))
            have hb1 : Below wr.heap.size wr (wr.alloc (.cells #[.bool false, .int .i64 t.who, .int .i64 t.rights] 40)) := below_alloc0 (Below.refl _ _) _
            have cg0 : (wr.alloc (.cells #[.bool false, .int .i64 t.who, .int .i64 t.rights] 40)).cell? ⟨wr.heap.size, 0, none⟩ = some (.bool false) := by simp
            have cg1 : (wr.alloc (.cells #[.bool false, .int .i64 t.who, .int .i64 t.rights] 40)).cell? ⟨wr.heap.size, 1, none⟩ = some (.int .i64 t.who) := by simp
            have cg2 : (wr.alloc (.cells #[.bool false, .int .i64 t.who, .int .i64 t.rights] 40)).cell? ⟨wr.heap.size, 2, none⟩ = some (.int .i64 t.rights) := by simp
            have dz : (wr.alloc (.cells #[.bool false, .int .i64 t.who, .int .i64 t.rights] 40)).heap.size = wr.heap.size + 1 := by simp
            generalize wr.alloc (.cells #[.bool false, .int .i64 t.who, .int .i64 t.rights] 40) = W1 at *
            obtain ⟨gd, hgd⟩ : ∃ gd, gd = wr.heap.size := ⟨_, rfl⟩
            rw [← hgd] at cg0 cg1 cg2 dz ⊢
            have gg : gd < W1.heap.size := by omega
            have gx : xd < W1.heap.size := by omega
            have cx1 := (hb1.cell (p := ⟨xd, 1, none⟩) hxl).trans y1
            have HB1 := hide hb1
            have HIT := hide ((HI.out.take i hi).below (BW.out.trans (hb1.mono BW.out.size)))
            have HGP := hide (fun W hI => gplace_c (some ⟨b, off, none⟩) i c (l.take i) false t.who W hI (by omega))
            have HIC := hide (show i ≤ c by omega)
            clear hb1 y0 y1 y2 g0 g1 g2 hgd
            refine wp_flowX (os := [_, _, _, _, _, _, _, _, _, _, _, _, _, _, _, _, _, _, _, _]) (fun cc W => Below W1.heap.size W1 W) (fun _ _ _ => True) (fun j v _ _ => v = glV b off n c i false t.who t.rights (idxG (l.take i) false t.who) gd xd j) 20 rfl ?_ ?_ ?_ ?_ ?_ ?_ ?_
            · kernel_rfl
            · kernel_rfl
            · kernel_rfl
            · exact (fun i j v vs w1 w2 _ _ h _ => h)
            · exact (Below.refl _ _).drew
            ·
              refine FlowStepsX.stepY 66 20 1 rfl rfl (by kernel_rfl) (by kernel_rfl) (by kernel_rfl) rfl rfl ?_ ?_
              ·
                intro cc act vs W hcc ha hvs hS hd hi K hK
                clear ha
                have u5 : act.tmps[5]? = some (.bool true) := (hi.out 5 (by kernel_rfl)).trans rfl
                clear hd hi
                clear hvs
                refine wanted_un rfl ?_
                go_simp
                exact hK.out _ _ rfl hS trivial
              refine FlowStepsX.stepY 66 20 2 rfl rfl (by kernel_rfl) (by kernel_rfl) (by kernel_rfl) rfl rfl ?_ ?_
              ·
                intro cc act vs W hcc ha hvs hS hd hi K hK
                clear ha
                have u31 : act.tmps[31]? = some (.bool true) := by obtain ⟨_, u, _, h⟩ := hd.out ⟨0, .data⟩ (some 31) (by simp) rfl rfl; exact u.trans (congrArg some h)
                clear hd hi
                clear hvs
                refine wanted_un rfl ?_
                go_simp
                exact hK.out _ _ rfl hS trivial
              refine FlowStepsX.stepY 66 20 3 rfl rfl (by kernel_rfl) (by kernel_rfl) (by kernel_rfl) rfl rfl ?_ ?_
              ·
                intro cc act vs W hcc ha hvs hS hd hi K hK
                clear ha
                have u32 : act.tmps[32]? = some (.bool false) := by obtain ⟨_, u, _, h⟩ := hd.out ⟨1, .data⟩ (some 32) (by simp) rfl rfl; exact u.trans (congrArg some h)
                clear hd hi
                clear hvs
                refine wanted_un rfl ?_
                go_simp
                exact hK.out _ _ rfl hS trivial
              refine FlowStepsX.stepY 66 20 4 rfl rfl (by kernel_rfl) (by kernel_rfl) (by kernel_rfl) rfl rfl ?_ ?_
              ·
                intro cc act vs W hcc ha hvs hS hd hi K hK
                clear ha
                have u33 : act.tmps[33]? = some (.bool false) := by obtain ⟨_, u, _, h⟩ := hd.out ⟨2, .guard⟩ (some 33) (by simp) rfl rfl; exact u.trans (congrArg some h)
                have u4 : act.tmps[4]? = some (.pointer (some ⟨gd, 0, none⟩)) := (hi.out 4 (by kernel_rfl)).trans rfl
                clear hd hi
                clear hvs
                refine wanted_yes rfl rfl u33 ?_
                go_simp
                exact hK.out _ _ rfl hS trivial
              refine FlowStepsX.stepY 66 20 5 rfl rfl (by kernel_rfl) (by kernel_rfl) (by kernel_rfl) rfl rfl ?_ ?_
              ·
                intro cc act vs W hcc ha hvs hS hd hi K hK
                clear ha
                have u34 : act.tmps[34]? = some (.pointer (some ⟨gd, 2, none⟩)) := by obtain ⟨_, u, _, h⟩ := hd.out ⟨3, .data⟩ (some 34) (by simp) rfl rfl; exact u.trans (congrArg some h)
                have u33 : act.tmps[33]? = some (.bool false) := by obtain ⟨_, u, _, h⟩ := hd.out ⟨2, .guard⟩ (some 33) (by simp) rfl rfl; exact u.trans (congrArg some h)
                clear hd hi
                clear hvs
                refine wanted_yes rfl rfl u33 ?_
                have e0 := (hS.cell (p := ⟨gd, 2, none⟩) gg).trans cg2
                go_simp
                exact hK.out _ _ rfl hS trivial
              refine FlowStepsX.stepY 66 20 6 rfl rfl (by kernel_rfl) (by kernel_rfl) (by kernel_rfl) rfl rfl ?_ ?_
              ·
                intro cc act vs W hcc ha hvs hS hd hi K hK
                clear ha
                have u35 : act.tmps[35]? = some (.int .i64 t.rights) := by obtain ⟨_, u, _, h⟩ := hd.out ⟨4, .data⟩ (some 35) (by simp) rfl rfl; exact u.trans (congrArg some h)
                have u33 : act.tmps[33]? = some (.bool false) := by obtain ⟨_, u, _, h⟩ := hd.out ⟨2, .guard⟩ (some 33) (by simp) rfl rfl; exact u.trans (congrArg some h)
                clear hd hi
                clear hvs
                refine wanted_yes rfl rfl u33 ?_
                go_wp2_with fail
                refine (HRT.out _).mono ?_
                rintro e w6 ⟨rfl, rfl⟩
                exact hK.out _ _ rfl hS trivial
              refine FlowStepsX.stepY 66 20 7 rfl rfl (by kernel_rfl) (by kernel_rfl) (by kernel_rfl) rfl rfl ?_ ?_
              ·
                intro cc act vs W hcc ha hvs hS hd hi K hK
                clear ha
                have u36 : act.tmps[36]? = some (.bool true) := by obtain ⟨_, u, _, h⟩ := hd.out ⟨5, .data⟩ (some 36) (by simp) rfl rfl; exact u.trans (congrArg some h)
                have u33 : act.tmps[33]? = some (.bool false) := by obtain ⟨_, u, _, h⟩ := hd.out ⟨2, .guard⟩ (some 33) (by simp) rfl rfl; exact u.trans (congrArg some h)
                clear hd hi
                clear hvs
                refine wanted_yes rfl rfl u33 ?_
                go_simp
                exact hK.out _ _ rfl hS trivial
              refine FlowStepsX.stepY 66 20 8 rfl rfl (by kernel_rfl) (by kernel_rfl) (by kernel_rfl) rfl rfl ?_ ?_
              ·
                intro cc act vs W hcc ha hvs hS hd hi K hK
                clear ha
                have u33 : act.tmps[33]? = some (.bool false) := by obtain ⟨_, u, _, h⟩ := hd.out ⟨2, .data⟩ (some 33) (by simp) rfl rfl; exact u.trans (congrArg some h)
                have u37 : act.tmps[37]? = some (.bool false) := by obtain ⟨_, u, _, h⟩ := hd.out ⟨6, .data⟩ (some 37) (by simp) rfl rfl; exact u.trans (congrArg some h)
                clear hd hi
                clear hvs
                refine wanted_un rfl ?_
                go_simp
                exact hK.out _ _ rfl hS trivial
              refine FlowStepsX.stepY 66 20 9 rfl rfl (by kernel_rfl) (by kernel_rfl) (by kernel_rfl) rfl rfl ?_ ?_
              ·
                intro cc act vs W hcc ha hvs hS hd hi K hK
                clear ha
                have u38 : act.tmps[38]? = some (.bool false) := by obtain ⟨_, u, _, h⟩ := hd.out ⟨7, .data⟩ (some 38) (by simp) rfl rfl; exact u.trans (congrArg some h)
                clear hd hi
                clear hvs
                refine wanted_un rfl ?_
                go_simp
                exact hK.out _ _ rfl hS trivial
              refine FlowStepsX.stepY 66 20 10 rfl rfl (by kernel_rfl) (by kernel_rfl) (by kernel_rfl) rfl rfl ?_ ?_
              ·
                intro cc act vs W hcc ha hvs hS hd hi K hK
                clear ha
                have u39 : act.tmps[39]? = some (.bool false) := by obtain ⟨_, u, _, h⟩ := hd.out ⟨8, .guard⟩ (some 39) (by simp) rfl rfl; exact u.trans (congrArg some h)
                have u1 : act.tmps[1]? = some (.pointer (some ⟨xd, 0, none⟩)) := (hi.out 1 (by kernel_rfl)).trans rfl
                clear hd hi
                clear hvs
                refine wanted_yes rfl rfl u39 ?_
                go_simp
                exact hK.out _ _ rfl hS trivial
              refine FlowStepsX.stepY 66 20 11 rfl rfl (by kernel_rfl) (by kernel_rfl) (by kernel_rfl) rfl rfl ?_ ?_
              ·
                intro cc act vs W hcc ha hvs hS hd hi K hK
                clear ha
                have u40 : act.tmps[40]? = some (.pointer (some ⟨xd, 1, none⟩)) := by obtain ⟨_, u, _, h⟩ := hd.out ⟨9, .data⟩ (some 40) (by simp) rfl rfl; exact u.trans (congrArg some h)
                have u39 : act.tmps[39]? = some (.bool false) := by obtain ⟨_, u, _, h⟩ := hd.out ⟨8, .guard⟩ (some 39) (by simp) rfl rfl; exact u.trans (congrArg some h)
                clear hd hi
                clear hvs
                refine wanted_yes rfl rfl u39 ?_
                have e0 := (hS.cell (p := ⟨xd, 1, none⟩) gx).trans cx1
                go_simp
                exact hK.out _ _ rfl hS trivial
              refine FlowStepsX.stepY 66 20 12 rfl rfl (by kernel_rfl) (by kernel_rfl) (by kernel_rfl) rfl rfl ?_ ?_
              ·
                intro cc act vs W hcc ha hvs hS hd hi K hK
                clear ha
                have u39 : act.tmps[39]? = some (.bool false) := by obtain ⟨_, u, _, h⟩ := hd.out ⟨8, .guard⟩ (some 39) (by simp) rfl rfl; exact u.trans (congrArg some h)
                have u3 : act.tmps[3]? = some (.int .i64 i) := (hi.out 3 (by kernel_rfl)).trans rfl
                clear hd hi
                clear hvs
                refine wanted_yes rfl rfl u39 ?_
                go_simp
                exact hK.out _ _ rfl hS trivial
              refine FlowStepsX.stepY 66 20 13 rfl rfl (by kernel_rfl) (by kernel_rfl) (by kernel_rfl) rfl rfl ?_ ?_
              ·
                intro cc act vs W hcc ha hvs hS hd hi K hK
                clear ha
                have u41 : act.tmps[41]? = some (.slice (some ⟨b, off, none⟩) n c) := by obtain ⟨_, u, _, h⟩ := hd.out ⟨10, .data⟩ (some 41) (by simp) rfl rfl; exact u.trans (congrArg some h)
                have u42 : act.tmps[42]? = some (.int .i64 i) := by obtain ⟨_, u, _, h⟩ := hd.out ⟨11, .data⟩ (some 42) (by simp) rfl rfl; exact u.trans (congrArg some h)
                have u39 : act.tmps[39]? = some (.bool false) := by obtain ⟨_, u, _, h⟩ := hd.out ⟨8, .guard⟩ (some 39) (by simp) rfl rfl; exact u.trans (congrArg some h)
                clear hd hi
                clear hvs
                refine wanted_yes rfl rfl u39 ?_
                have e0 := HIC.out
                go_simp
                exact hK.out _ _ rfl hS trivial
              refine FlowStepsX.stepY 66 20 14 rfl rfl (by kernel_rfl) (by kernel_rfl) (by kernel_rfl) rfl rfl ?_ ?_
              ·
                intro cc act vs W hcc ha hvs hS hd hi K hK
                clear ha
                have u39 : act.tmps[39]? = some (.bool false) := by obtain ⟨_, u, _, h⟩ := hd.out ⟨8, .guard⟩ (some 39) (by simp) rfl rfl; exact u.trans (congrArg some h)
                have u4 : act.tmps[4]? = some (.pointer (some ⟨gd, 0, none⟩)) := (hi.out 4 (by kernel_rfl)).trans rfl
                clear hd hi
                clear hvs
                refine wanted_yes rfl rfl u39 ?_
                go_simp
                exact hK.out _ _ rfl hS trivial
              refine FlowStepsX.stepY 66 20 15 rfl rfl (by kernel_rfl) (by kernel_rfl) (by kernel_rfl) rfl rfl ?_ ?_
              ·
                intro cc act vs W hcc ha hvs hS hd hi K hK
                clear ha
                have u44 : act.tmps[44]? = some (.pointer (some ⟨gd, 0, none⟩)) := by obtain ⟨_, u, _, h⟩ := hd.out ⟨13, .data⟩ (some 44) (by simp) rfl rfl; exact u.trans (congrArg some h)
                have u39 : act.tmps[39]? = some (.bool false) := by obtain ⟨_, u, _, h⟩ := hd.out ⟨8, .guard⟩ (some 39) (by simp) rfl rfl; exact u.trans (congrArg some h)
                clear hd hi
                clear hvs
                refine wanted_yes rfl rfl u39 ?_
                have e0 := (hS.cell (p := ⟨gd, 0, none⟩) gg).trans cg0
                go_simp
                exact hK.out _ _ rfl hS trivial
              refine FlowStepsX.stepY 66 20 16 rfl rfl (by kernel_rfl) (by kernel_rfl) (by kernel_rfl) rfl rfl ?_ ?_
              ·
                intro cc act vs W hcc ha hvs hS hd hi K hK
                clear ha
                have u39 : act.tmps[39]? = some (.bool false) := by obtain ⟨_, u, _, h⟩ := hd.out ⟨8, .guard⟩ (some 39) (by simp) rfl rfl; exact u.trans (congrArg some h)
                have u4 : act.tmps[4]? = some (.pointer (some ⟨gd, 0, none⟩)) := (hi.out 4 (by kernel_rfl)).trans rfl
                clear hd hi
                clear hvs
                refine wanted_yes rfl rfl u39 ?_
                go_simp
                exact hK.out _ _ rfl hS trivial
              refine FlowStepsX.stepY 66 20 17 rfl rfl (by kernel_rfl) (by kernel_rfl) (by kernel_rfl) rfl rfl ?_ ?_
              ·
                intro cc act vs W hcc ha hvs hS hd hi K hK
                clear ha
                have u46 : act.tmps[46]? = some (.pointer (some ⟨gd, 1, none⟩)) := by obtain ⟨_, u, _, h⟩ := hd.out ⟨15, .data⟩ (some 46) (by simp) rfl rfl; exact u.trans (congrArg some h)
                have u39 : act.tmps[39]? = some (.bool false) := by obtain ⟨_, u, _, h⟩ := hd.out ⟨8, .guard⟩ (some 39) (by simp) rfl rfl; exact u.trans (congrArg some h)
                clear hd hi
                clear hvs
                refine wanted_yes rfl rfl u39 ?_
                have e0 := (hS.cell (p := ⟨gd, 1, none⟩) gg).trans cg1
                go_simp
                exact hK.out _ _ rfl hS trivial
              refine FlowStepsX.stepY 66 20 18 rfl rfl (by kernel_rfl) (by kernel_rfl) (by kernel_rfl) rfl rfl ?_ ?_
              ·
                intro cc act vs W hcc ha hvs hS hd hi K hK
                clear ha
                have u43 : act.tmps[43]? = some (.slice (some ⟨b, off, none⟩) i c) := by obtain ⟨_, u, _, h⟩ := hd.out ⟨12, .data⟩ (some 43) (by simp) rfl rfl; exact u.trans (congrArg some h)
                have u45 : act.tmps[45]? = some (.bool false) := by obtain ⟨_, u, _, h⟩ := hd.out ⟨14, .data⟩ (some 45) (by simp) rfl rfl; exact u.trans (congrArg some h)
                have u47 : act.tmps[47]? = some (.int .i64 t.who) := by obtain ⟨_, u, _, h⟩ := hd.out ⟨16, .data⟩ (some 47) (by simp) rfl rfl; exact u.trans (congrArg some h)
                have u39 : act.tmps[39]? = some (.bool false) := by obtain ⟨_, u, _, h⟩ := hd.out ⟨8, .guard⟩ (some 39) (by simp) rfl rfl; exact u.trans (congrArg some h)
                clear hd hi
                clear hvs
                refine wanted_yes rfl rfl u39 ?_
                go_wp2_with fail
                refine (HGP.out _ (HIT.out.below hS)).mono ?_
                rintro e w6 ⟨rfl, hb6⟩
                exact hK.out _ w6 rfl (hS.trans (hb6.mono hS.size)) trivial
              refine FlowStepsX.stepY 66 20 19 rfl rfl (by kernel_rfl) (by kernel_rfl) (by kernel_rfl) rfl rfl ?_ ?_
              ·
                intro cc act vs W hcc ha hvs hS hd hi K hK
                clear ha
                have u48 : act.tmps[48]? = some (.int .i64 (idxG (l.take i) false t.who)) := by obtain ⟨_, u, _, h⟩ := hd.out ⟨17, .data⟩ (some 48) (by simp) rfl rfl; exact u.trans (congrArg some h)
                have u39 : act.tmps[39]? = some (.bool false) := by obtain ⟨_, u, _, h⟩ := hd.out ⟨8, .guard⟩ (some 39) (by simp) rfl rfl; exact u.trans (congrArg some h)
                clear hd hi
                clear hvs
                refine wanted_yes rfl rfl u39 ?_
                go_simp
                exact hK.out _ _ rfl hS trivial
              refine FlowStepsX.stepY 66 20 20 rfl rfl (by kernel_rfl) (by kernel_rfl) (by kernel_rfl) rfl rfl ?_ ?_
              ·
                intro cc act vs W hcc ha hvs hS hd hi K hK
                clear ha
                have u39 : act.tmps[39]? = some (.bool false) := by obtain ⟨_, u, _, h⟩ := hd.out ⟨8, .data⟩ (some 39) (by simp) rfl rfl; exact u.trans (congrArg some h)
                have u49 : act.tmps[49]? = some (.bool (decide (0 ≤ idxG (l.take i) false t.who))) := by obtain ⟨_, u, _, h⟩ := hd.out ⟨18, .data⟩ (some 49) (by simp) rfl rfl; exact u.trans (congrArg some h)
                clear hd hi
                clear hvs
                refine wanted_un rfl ?_
                go_simp
                exact hK.out _ _ rfl hS trivial
              exact FlowStepsX.nil
            · intro c ρ W hc hS hd
              simp only [putFrom, Act.put, List.setIfInBounds_toArray, List.set_cons_zero, List.set_cons_succ, Nat.reduceAdd]
              have d19 : ρ 19 = .bool (decide (0 ≤ idxG (l.take i) false t.who)) := hd.out 19 (by decide) (by kernel_rfl)
              generalize ρ 19 = x19 at d19 ⊢
              subst d19
              clear hd
              by_cases hx : 0 ≤ idxG (l.take i) false t.who
              · have HF := hide (listB_no (m := m) (l := l) (k := k) fun e => by
                  obtain ⟨q, s, hq, hs, hsy⟩ := idxG_pos hx
                  have := (e.1 i t (by rw [HL.out]; exact hlt) HT.out).2 q s hq hs
                  simp only [sameG, HGT.out] at this
                  exact absurd (hsy.symm.trans this) (by simp))
                have hx' : decide (0 ≤ idxG (l.take i) false t.who) = true := by simpa using hx
                rw [hx']
                clear hx hx'
                go_wp2_with fail
                go_ret
                exact ⟨by rw [HF.out]; rfl, BW.out.trans ((HB1.out.trans (hS.mono HB1.out.size)).mono BW.out.size)⟩
              · have hx' : decide (0 ≤ idxG (l.take i) false t.who) = false := by simpa using hx
                have HN := hide (idxG_neg hx)
                rw [hx']
                clear hx hx'
                go_wp2_with fail
                refine ⟨⟨i + 1, by omega, by go_num, hup.out.step HT.out HGO.out (fun q s hq hs => ?_), hbel.out.trans ((HB1.out.trans (hS.mono HB1.out.size)).mono hbel.out.size)⟩, by simp [intOf]; omega⟩
                have := HN.out q s hq hs
                simp only [sameG, HGT.out]
                exact this
      · have HGT := hide hg
        cases h1 : inB t.who 0 7
        · have HF := hide (listB_no (m := m) (l := l) (k := k) fun e => absurd (e.1 i t (by rw [HL.out]; exact hlt) HT.out).1.1 (by simp [mostG, hg, h1]))
          clear hg
          go_wp2_with (first | (go_at_call 41; refine (isUser_c _ _).mono ?_; rintro e w' ⟨rfl, rfl⟩; rw [h1]) | (go_at_call 42; refine (isGroup_c _ _).mono ?_; rintro e w' ⟨rfl, rfl⟩; rw [h1]))
          go_quiet (fail)
          go_wp2_with fail
          go_ret
          exact ⟨by rw [HF.out]; rfl, below_drewN (below_alloc0 BW.out _) _⟩
        · cases h2 : inB t.rights 0 7
          · have HF := hide (listB_no (m := m) (l := l) (k := k) fun e => absurd (e.1 i t (by rw [HL.out]; exact hlt) HT.out).1.2 (by simp [h2]))
            clear hg
            have HRT := hide (isRights_c t.rights)
            rw [h2] at HRT
            go_wp2_with (first | (go_at_call 41; refine (isUser_c _ _).mono ?_; rintro e w' ⟨rfl, rfl⟩; rw [h1]) | (go_at_call 42; refine (isGroup_c _ _).mono ?_; rintro e w' ⟨rfl, rfl⟩; rw [h1]))
            go_quiet ((go_at_call 43; exact quiet_left (HRT.out _)))
            go_wp2_with fail
            go_ret
            exact ⟨by rw [HF.out]; rfl, below_drewN (below_alloc0 BW.out _) _⟩
          · have HGO := hide (show GOk t from ⟨by simp [mostG, hg, h1], h2⟩)
            have HRT := hide (isRights_c t.rights)
            rw [h2] at HRT
            clear hg h2
            go_wp2_with (first | (go_at_call 41; refine (isUser_c _ _).mono ?_; rintro e w' ⟨rfl, rfl⟩; rw [h1]) | (go_at_call 42; refine (isGroup_c _ _).mono ?_; rintro e w' ⟨rfl, rfl⟩; rw [h1]))
            have hb1 : Below wr.heap.size wr (wr.alloc (.cells #[.bool true, .int .i64 t.who, .int .i64 t.rights] 40)) := below_alloc0 (Below.refl _ _) _
            have cg0 : (wr.alloc (.cells #[.bool true, .int .i64 t.who, .int .i64 t.rights] 40)).cell? ⟨wr.heap.size, 0, none⟩ = some (.bool true) := by simp
            have cg1 : (wr.alloc (.cells #[.bool true, .int .i64 t.who, .int .i64 t.rights] 40)).cell? ⟨wr.heap.size, 1, none⟩ = some (.int .i64 t.who) := by simp
            have cg2 : (wr.alloc (.cells #[.bool true, .int .i64 t.who, .int .i64 t.rights] 40)).cell? ⟨wr.heap.size, 2, none⟩ = some (.int .i64 t.rights) := by simp
            have dz : (wr.alloc (.cells #[.bool true, .int .i64 t.who, .int .i64 t.rights] 40)).heap.size = wr.heap.size + 1 := by simp
            generalize wr.alloc (.cells #[.bool true, .int .i64 t.who, .int .i64 t.rights] 40) = W1 at *
            obtain ⟨gd, hgd⟩ : ∃ gd, gd = wr.heap.size := ⟨_, rfl⟩
            rw [← hgd] at cg0 cg1 cg2 dz ⊢
            have gg : gd < W1.heap.size := by omega
            have gx : xd < W1.heap.size := by omega
            have cx1 := (hb1.cell (p := ⟨xd, 1, none⟩) hxl).trans y1
            have HB1 := hide hb1
            have HIT := hide ((HI.out.take i hi).below (BW.out.trans (hb1.mono BW.out.size)))
            have HGP := hide (fun W hI => gplace_c (some ⟨b, off, none⟩) i c (l.take i) true t.who W hI (by omega))
            have HIC := hide (show i ≤ c by omega)
            clear hb1 y0 y1 y2 g0 g1 g2 hgd
            refine wp_flowX (os := [_, _, _, _, _, _, _, _, _, _, _, _, _, _, _, _, _, _, _, _]) (fun cc W => Below W1.heap.size W1 W) (fun _ _ _ => True) (fun j v _ _ => v = glV b off n c i true t.who t.rights (idxG (l.take i) true t.who) gd xd j) 20 rfl ?_ ?_ ?_ ?_ ?_ ?_ ?_
            · kernel_rfl
            · kernel_rfl
            · kernel_rfl
            · exact (fun i j v vs w1 w2 _ _ h _ => h)
            · exact (Below.refl _ _).drew
            ·
              refine FlowStepsX.stepY 66 20 1 rfl rfl (by kernel_rfl) (by kernel_rfl) (by kernel_rfl) rfl rfl ?_ ?_
              ·
                intro cc act vs W hcc ha hvs hS hd hi K hK
                clear ha
                have u5 : act.tmps[5]? = some (.bool true) := (hi.out 5 (by kernel_rfl)).trans rfl
                clear hd hi
                clear hvs
                refine wanted_un rfl ?_
                go_simp
                exact hK.out _ _ rfl hS trivial
              refine FlowStepsX.stepY 66 20 2 rfl rfl (by kernel_rfl) (by kernel_rfl) (by kernel_rfl) rfl rfl ?_ ?_
              ·
                intro cc act vs W hcc ha hvs hS hd hi K hK
                clear ha
                have u31 : act.tmps[31]? = some (.bool true) := by obtain ⟨_, u, _, h⟩ := hd.out ⟨0, .data⟩ (some 31) (by simp) rfl rfl; exact u.trans (congrArg some h)
                clear hd hi
                clear hvs
                refine wanted_un rfl ?_
                go_simp
                exact hK.out _ _ rfl hS trivial
              refine FlowStepsX.stepY 66 20 3 rfl rfl (by kernel_rfl) (by kernel_rfl) (by kernel_rfl) rfl rfl ?_ ?_
              ·
                intro cc act vs W hcc ha hvs hS hd hi K hK
                clear ha
                have u32 : act.tmps[32]? = some (.bool false) := by obtain ⟨_, u, _, h⟩ := hd.out ⟨1, .data⟩ (some 32) (by simp) rfl rfl; exact u.trans (congrArg some h)
                clear hd hi
                clear hvs
                refine wanted_un rfl ?_
                go_simp
                exact hK.out _ _ rfl hS trivial
              refine FlowStepsX.stepY 66 20 4 rfl rfl (by kernel_rfl) (by kernel_rfl) (by kernel_rfl) rfl rfl ?_ ?_
              ·
                intro cc act vs W hcc ha hvs hS hd hi K hK
                clear ha
                have u33 : act.tmps[33]? = some (.bool false) := by obtain ⟨_, u, _, h⟩ := hd.out ⟨2, .guard⟩ (some 33) (by simp) rfl rfl; exact u.trans (congrArg some h)
                have u4 : act.tmps[4]? = some (.pointer (some ⟨gd, 0, none⟩)) := (hi.out 4 (by kernel_rfl)).trans rfl
                clear hd hi
                clear hvs
                refine wanted_yes rfl rfl u33 ?_
                go_simp
                exact hK.out _ _ rfl hS trivial
              refine FlowStepsX.stepY 66 20 5 rfl rfl (by kernel_rfl) (by kernel_rfl) (by kernel_rfl) rfl rfl ?_ ?_
              ·
                intro cc act vs W hcc ha hvs hS hd hi K hK
                clear ha
                have u34 : act.tmps[34]? = some (.pointer (some ⟨gd, 2, none⟩)) := by obtain ⟨_, u, _, h⟩ := hd.out ⟨3, .data⟩ (some 34) (by simp) rfl rfl; exact u.trans (congrArg some h)
                have u33 : act.tmps[33]? = some (.bool false) := by obtain ⟨_, u, _, h⟩ := hd.out ⟨2, .guard⟩ (some 33) (by simp) rfl rfl; exact u.trans (congrArg some h)
                clear hd hi
                clear hvs
                refine wanted_yes rfl rfl u33 ?_
                have e0 := (hS.cell (p := ⟨gd, 2, none⟩) gg).trans cg2
                go_simp
                exact hK.out _ _ rfl hS trivial
              refine FlowStepsX.stepY 66 20 6 rfl rfl (by kernel_rfl) (by kernel_rfl) (by kernel_rfl) rfl rfl ?_ ?_
              ·
                intro cc act vs W hcc ha hvs hS hd hi K hK
                clear ha
                have u35 : act.tmps[35]? = some (.int .i64 t.rights) := by obtain ⟨_, u, _, h⟩ := hd.out ⟨4, .data⟩ (some 35) (by simp) rfl rfl; exact u.trans (congrArg some h)
                have u33 : act.tmps[33]? = some (.bool false) := by obtain ⟨_, u, _, h⟩ := hd.out ⟨2, .guard⟩ (some 33) (by simp) rfl rfl; exact u.trans (congrArg some h)
                clear hd hi
                clear hvs
                refine wanted_yes rfl rfl u33 ?_
                go_wp2_with fail
                refine (HRT.out _).mono ?_
                rintro e w6 ⟨rfl, rfl⟩
                exact hK.out _ _ rfl hS trivial
              refine FlowStepsX.stepY 66 20 7 rfl rfl (by kernel_rfl) (by kernel_rfl) (by kernel_rfl) rfl rfl ?_ ?_
              ·
                intro cc act vs W hcc ha hvs hS hd hi K hK
                clear ha
                have u36 : act.tmps[36]? = some (.bool true) := by obtain ⟨_, u, _, h⟩ := hd.out ⟨5, .data⟩ (some 36) (by simp) rfl rfl; exact u.trans (congrArg some h)
                have u33 : act.tmps[33]? = some (.bool false) := by obtain ⟨_, u, _, h⟩ := hd.out ⟨2, .guard⟩ (some 33) (by simp) rfl rfl; exact u.trans (congrArg some h)
                clear hd hi
                clear hvs
                refine wanted_yes rfl rfl u33 ?_
                go_simp
                exact hK.out _ _ rfl hS trivial
              refine FlowStepsX.stepY 66 20 8 rfl rfl (by kernel_rfl) (by kernel_rfl) (by kernel_rfl) rfl rfl ?_ ?_
              ·
                intro cc act vs W hcc ha hvs hS hd hi K hK
                clear ha
                have u33 : act.tmps[33]? = some (.bool false) := by obtain ⟨_, u, _, h⟩ := hd.out ⟨2, .data⟩ (some 33) (by simp) rfl rfl; exact u.trans (congrArg some h)
                have u37 : act.tmps[37]? = some (.bool false) := by obtain ⟨_, u, _, h⟩ := hd.out ⟨6, .data⟩ (some 37) (by simp) rfl rfl; exact u.trans (congrArg some h)
                clear hd hi
                clear hvs
                refine wanted_un rfl ?_
                go_simp
                exact hK.out _ _ rfl hS trivial
              refine FlowStepsX.stepY 66 20 9 rfl rfl (by kernel_rfl) (by kernel_rfl) (by kernel_rfl) rfl rfl ?_ ?_
              ·
                intro cc act vs W hcc ha hvs hS hd hi K hK
                clear ha
                have u38 : act.tmps[38]? = some (.bool false) := by obtain ⟨_, u, _, h⟩ := hd.out ⟨7, .data⟩ (some 38) (by simp) rfl rfl; exact u.trans (congrArg some h)
                clear hd hi
                clear hvs
                refine wanted_un rfl ?_
                go_simp
                exact hK.out _ _ rfl hS trivial
              refine FlowStepsX.stepY 66 20 10 rfl rfl (by kernel_rfl) (by kernel_rfl) (by kernel_rfl) rfl rfl ?_ ?_
              ·
                intro cc act vs W hcc ha hvs hS hd hi K hK
                clear ha
                have u39 : act.tmps[39]? = some (.bool false) := by obtain ⟨_, u, _, h⟩ := hd.out ⟨8, .guard⟩ (some 39) (by simp) rfl rfl; exact u.trans (congrArg some h)
                have u1 : act.tmps[1]? = some (.pointer (some ⟨xd, 0, none⟩)) := (hi.out 1 (by kernel_rfl)).trans rfl
                clear hd hi
                clear hvs
                refine wanted_yes rfl rfl u39 ?_
                go_simp
                exact hK.out _ _ rfl hS trivial
              refine FlowStepsX.stepY 66 20 11 rfl rfl (by kernel_rfl) (by kernel_rfl) (by kernel_rfl) rfl rfl ?_ ?_
              ·
                intro cc act vs W hcc ha hvs hS hd hi K hK
                clear ha
                have u40 : act.tmps[40]? = some (.pointer (some ⟨xd, 1, none⟩)) := by obtain ⟨_, u, _, h⟩ := hd.out ⟨9, .data⟩ (some 40) (by simp) rfl rfl; exact u.trans (congrArg some h)
                have u39 : act.tmps[39]? = some (.bool false) := by obtain ⟨_, u, _, h⟩ := hd.out ⟨8, .guard⟩ (some 39) (by simp) rfl rfl; exact u.trans (congrArg some h)
                clear hd hi
                clear hvs
                refine wanted_yes rfl rfl u39 ?_
                have e0 := (hS.cell (p := ⟨xd, 1, none⟩) gx).trans cx1
                go_simp
                exact hK.out _ _ rfl hS trivial
              refine FlowStepsX.stepY 66 20 12 rfl rfl (by kernel_rfl) (by kernel_rfl) (by kernel_rfl) rfl rfl ?_ ?_
              ·
                intro cc act vs W hcc ha hvs hS hd hi K hK
                clear ha
                have u39 : act.tmps[39]? = some (.bool false) := by obtain ⟨_, u, _, h⟩ := hd.out ⟨8, .guard⟩ (some 39) (by simp) rfl rfl; exact u.trans (congrArg some h)
                have u3 : act.tmps[3]? = some (.int .i64 i) := (hi.out 3 (by kernel_rfl)).trans rfl
                clear hd hi
                clear hvs
                refine wanted_yes rfl rfl u39 ?_
                go_simp
                exact hK.out _ _ rfl hS trivial
              refine FlowStepsX.stepY 66 20 13 rfl rfl (by kernel_rfl) (by kernel_rfl) (by kernel_rfl) rfl rfl ?_ ?_
              ·
                intro cc act vs W hcc ha hvs hS hd hi K hK
                clear ha
                have u41 : act.tmps[41]? = some (.slice (some ⟨b, off, none⟩) n c) := by obtain ⟨_, u, _, h⟩ := hd.out ⟨10, .data⟩ (some 41) (by simp) rfl rfl; exact u.trans (congrArg some h)
                have u42 : act.tmps[42]? = some (.int .i64 i) := by obtain ⟨_, u, _, h⟩ := hd.out ⟨11, .data⟩ (some 42) (by simp) rfl rfl; exact u.trans (congrArg some h)
                have u39 : act.tmps[39]? = some (.bool false) := by obtain ⟨_, u, _, h⟩ := hd.out ⟨8, .guard⟩ (some 39) (by simp) rfl rfl; exact u.trans (congrArg some h)
                clear hd hi
                clear hvs
                refine wanted_yes rfl rfl u39 ?_
                have e0 := HIC.out
                go_simp
                exact hK.out _ _ rfl hS trivial
              refine FlowStepsX.stepY 66 20 14 rfl rfl (by kernel_rfl) (by kernel_rfl) (by kernel_rfl) rfl rfl ?_ ?_
              ·
                intro cc act vs W hcc ha hvs hS hd hi K hK
                clear ha
                have u39 : act.tmps[39]? = some (.bool false) := by obtain ⟨_, u, _, h⟩ := hd.out ⟨8, .guard⟩ (some 39) (by simp) rfl rfl; exact u.trans (congrArg some h)
                have u4 : act.tmps[4]? = some (.pointer (some ⟨gd, 0, none⟩)) := (hi.out 4 (by kernel_rfl)).trans rfl
                clear hd hi
                clear hvs
                refine wanted_yes rfl rfl u39 ?_
                go_simp
                exact hK.out _ _ rfl hS trivial
              refine FlowStepsX.stepY 66 20 15 rfl rfl (by kernel_rfl) (by kernel_rfl) (by kernel_rfl) rfl rfl ?_ ?_
              ·
                intro cc act vs W hcc ha hvs hS hd hi K hK
                clear ha
                have u44 : act.tmps[44]? = some (.pointer (some ⟨gd, 0, none⟩)) := by obtain ⟨_, u, _, h⟩ := hd.out ⟨13, .data⟩ (some 44) (by simp) rfl rfl; exact u.trans (congrArg some h)
                have u39 : act.tmps[39]? = some (.bool false) := by obtain ⟨_, u, _, h⟩ := hd.out ⟨8, .guard⟩ (some 39) (by simp) rfl rfl; exact u.trans (congrArg some h)
                clear hd hi
                clear hvs
                refine wanted_yes rfl rfl u39 ?_
                have e0 := (hS.cell (p := ⟨gd, 0, none⟩) gg).trans cg0
                go_simp
                exact hK.out _ _ rfl hS trivial
              refine FlowStepsX.stepY 66 20 16 rfl rfl (by kernel_rfl) (by kernel_rfl) (by kernel_rfl) rfl rfl ?_ ?_
              ·
                intro cc act vs W hcc ha hvs hS hd hi K hK
                clear ha
                have u39 : act.tmps[39]? = some (.bool false) := by obtain ⟨_, u, _, h⟩ := hd.out ⟨8, .guard⟩ (some 39) (by simp) rfl rfl; exact u.trans (congrArg some h)
                have u4 : act.tmps[4]? = some (.pointer (some ⟨gd, 0, none⟩)) := (hi.out 4 (by kernel_rfl)).trans rfl
                clear hd hi
                clear hvs
                refine wanted_yes rfl rfl u39 ?_
                go_simp
                exact hK.out _ _ rfl hS trivial
              refine FlowStepsX.stepY 66 20 17 rfl rfl (by kernel_rfl) (by kernel_rfl) (by kernel_rfl) rfl rfl ?_ ?_
              ·
                intro cc act vs W hcc ha hvs hS hd hi K hK
                clear ha
                have u46 : act.tmps[46]? = some (.pointer (some ⟨gd, 1, none⟩)) := by obtain ⟨_, u, _, h⟩ := hd.out ⟨15, .data⟩ (some 46) (by simp) rfl rfl; exact u.trans (congrArg some h)
                have u39 : act.tmps[39]? = some (.bool false) := by obtain ⟨_, u, _, h⟩ := hd.out ⟨8, .guard⟩ (some 39) (by simp) rfl rfl; exact u.trans (congrArg some h)
                clear hd hi
                clear hvs
                refine wanted_yes rfl rfl u39 ?_
                have e0 := (hS.cell (p := ⟨gd, 1, none⟩) gg).trans cg1
                go_simp
                exact hK.out _ _ rfl hS trivial
              refine FlowStepsX.stepY 66 20 18 rfl rfl (by kernel_rfl) (by kernel_rfl) (by kernel_rfl) rfl rfl ?_ ?_
              ·
                intro cc act vs W hcc ha hvs hS hd hi K hK
                clear ha
                have u43 : act.tmps[43]? = some (.slice (some ⟨b, off, none⟩) i c) := by obtain ⟨_, u, _, h⟩ := hd.out ⟨12, .data⟩ (some 43) (by simp) rfl rfl; exact u.trans (congrArg some h)
                have u45 : act.tmps[45]? = some (.bool true) := by obtain ⟨_, u, _, h⟩ := hd.out ⟨14, .data⟩ (some 45) (by simp) rfl rfl; exact u.trans (congrArg some h)
                have u47 : act.tmps[47]? = some (.int .i64 t.who) := by obtain ⟨_, u, _, h⟩ := hd.out ⟨16, .data⟩ (some 47) (by simp) rfl rfl; exact u.trans (congrArg some h)
                have u39 : act.tmps[39]? = some (.bool false) := by obtain ⟨_, u, _, h⟩ := hd.out ⟨8, .guard⟩ (some 39) (by simp) rfl rfl; exact u.trans (congrArg some h)
                clear hd hi
                clear hvs
                refine wanted_yes rfl rfl u39 ?_
                go_wp2_with fail
                refine (HGP.out _ (HIT.out.below hS)).mono ?_
                rintro e w6 ⟨rfl, hb6⟩
                exact hK.out _ w6 rfl (hS.trans (hb6.mono hS.size)) trivial
              refine FlowStepsX.stepY 66 20 19 rfl rfl (by kernel_rfl) (by kernel_rfl) (by kernel_rfl) rfl rfl ?_ ?_
              ·
                intro cc act vs W hcc ha hvs hS hd hi K hK
                clear ha
                have u48 : act.tmps[48]? = some (.int .i64 (idxG (l.take i) true t.who)) := by obtain ⟨_, u, _, h⟩ := hd.out ⟨17, .data⟩ (some 48) (by simp) rfl rfl; exact u.trans (congrArg some h)
                have u39 : act.tmps[39]? = some (.bool false) := by obtain ⟨_, u, _, h⟩ := hd.out ⟨8, .guard⟩ (some 39) (by simp) rfl rfl; exact u.trans (congrArg some h)
                clear hd hi
                clear hvs
                refine wanted_yes rfl rfl u39 ?_
                go_simp
                exact hK.out _ _ rfl hS trivial
              refine FlowStepsX.stepY 66 20 20 rfl rfl (by kernel_rfl) (by kernel_rfl) (by kernel_rfl) rfl rfl ?_ ?_
              ·
                intro cc act vs W hcc ha hvs hS hd hi K hK
                clear ha
                have u39 : act.tmps[39]? = some (.bool false) := by obtain ⟨_, u, _, h⟩ := hd.out ⟨8, .data⟩ (some 39) (by simp) rfl rfl; exact u.trans (congrArg some h)
                have u49 : act.tmps[49]? = some (.bool (decide (0 ≤ idxG (l.take i) true t.who))) := by obtain ⟨_, u, _, h⟩ := hd.out ⟨18, .data⟩ (some 49) (by simp) rfl rfl; exact u.trans (congrArg some h)
                clear hd hi
                clear hvs
                refine wanted_un rfl ?_
                go_simp
                exact hK.out _ _ rfl hS trivial
              exact FlowStepsX.nil
            · intro c ρ W hc hS hd
              simp only [putFrom, Act.put, List.setIfInBounds_toArray, List.set_cons_zero, List.set_cons_succ, Nat.reduceAdd]
              have d19 : ρ 19 = .bool (decide (0 ≤ idxG (l.take i) true t.who)) := hd.out 19 (by decide) (by kernel_rfl)
              generalize ρ 19 = x19 at d19 ⊢
              subst d19
              clear hd
              by_cases hx : 0 ≤ idxG (l.take i) true t.who
              · have HF := hide (listB_no (m := m) (l := l) (k := k) fun e => by
                  obtain ⟨q, s, hq, hs, hsy⟩ := idxG_pos hx
                  have := (e.1 i t (by rw [HL.out]; exact hlt) HT.out).2 q s hq hs
                  simp only [sameG, HGT.out] at this
                  exact absurd (hsy.symm.trans this) (by simp))
                have hx' : decide (0 ≤ idxG (l.take i) true t.who) = true := by simpa using hx
                rw [hx']
                clear hx hx'
                go_wp2_with fail
                go_ret
                exact ⟨by rw [HF.out]; rfl, BW.out.trans ((HB1.out.trans (hS.mono HB1.out.size)).mono BW.out.size)⟩
              · have hx' : decide (0 ≤ idxG (l.take i) true t.who) = false := by simpa using hx
                have HN := hide (idxG_neg hx)
                rw [hx']
                clear hx hx'
                go_wp2_with fail
                refine ⟨⟨i + 1, by omega, by go_num, hup.out.step HT.out HGO.out (fun q s hq hs => ?_), hbel.out.trans ((HB1.out.trans (hS.mono HB1.out.size)).mono hbel.out.size)⟩, by simp [intOf]; omega⟩
                have := HN.out q s hq hs
                simp only [sameG, HGT.out]
                exact this
    · obtain rfl : i = n := by omega
      have hall : GUp l l.length := by rw [HL.out]; exact hup.out
      by_cases h6 : i ≤ 6
      · cases h1 : inB m 0 511
        · have HF := hide (listB_no (fun e => by have := e.2.1; rw [h1] at this; cases this) : listB m l k = false)
          clear hall
          go_wp2_with (go_at_call 35; refine (isPlain_c _ _).mono ?_; rintro e w' ⟨rfl, rfl⟩; rw [h1])
          go_ret
          exact ⟨by rw [HF.out]; rfl, BW.out⟩
        · cases h2 : inB k 0 7
          · have HF := hide (listB_no (fun e => by have := e.2.2.1; rw [h2] at this; cases this) : listB m l k = false)
            clear hall
            go_wp2_with (first | (go_at_call 35; refine (isPlain_c _ _).mono ?_; rintro e w' ⟨rfl, rfl⟩; rw [h1]) | (go_at_call 43; refine (isRights_c _ _).mono ?_; rintro e w' ⟨rfl, rfl⟩; rw [h2]))
            go_ret
            exact ⟨by rw [HF.out]; rfl, BW.out⟩
          · have HF := hide (listB_iff.2 ⟨hall, h1, h2, by rw [HL.out]; exact h6⟩ : listB m l k = true)
            clear hall
            go_wp2_with (first | (go_at_call 35; refine (isPlain_c _ _).mono ?_; rintro e w' ⟨rfl, rfl⟩; rw [h1]) | (go_at_call 43; refine (isRights_c _ _).mono ?_; rintro e w' ⟨rfl, rfl⟩; rw [h2]))
            go_ret
            exact ⟨by rw [HF.out]; rfl, BW.out⟩
      · have HF := hide (listB_no (fun e => h6 (by have := e.2.2.2; rw [HL.out] at this; exact this)) : listB m l k = false)
        clear hall
        go_wp2_with fail
        go_ret
        exact ⟨by rw [HF.out]; rfl, BW.out⟩
end Go.Proofs.Ytpifnfhgaemdmaa
