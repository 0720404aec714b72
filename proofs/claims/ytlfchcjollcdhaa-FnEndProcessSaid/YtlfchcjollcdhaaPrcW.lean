/-
  ProcessesValid of the program. No condition.
-/
import Derived.Test.YtlfchcjollcdhaaProg
import Derived.Test.YtlfchcjollcdhaaPrcD
import Derived.Test.YtlfchcjollcdhaaFlowS
namespace Go.Proofs.Ytlfchcjollcdhaa
open Go.RowKit
set_option linter.unusedSimpArgs false
set_option linter.unusedVariables false

def pvI0 (b : Nat) (off : Nat) (n : Nat) (c : Nat) (gd : Nat) (k : Nat) (tn : Int) (t2 : Int) (t3 : Int) (t4 : Int) (t5 : Int) (tr : Int) (sn : Int) (p : Bool) (r : Bool) (s : Bool) (x : Bool) (e : Bool) (z : Bool) (B1 : Bool) (B2 : Bool) (B3 : Bool) (B4 : Bool) (i : Nat) : Value :=
  match i with
  | 0 => .pointer (some ⟨gd, 0, none⟩)
  | 1 => .int .i64 tn
  | 2 => .bool (!p)
  | 3 => .bool p
  | 4 => .bool p
  | 5 => (bif p then undef else .int .i64 0)
  | 6 => (bif p then undef else .bool false)
  | 7 => (bif p then undef else .bool false)
  | 8 => undef
  | 9 => undef
  | 10 => undef
  | 11 => undef
  | 12 => undef
  | 13 => undef
  | 14 => undef
  | 15 => undef
  | 16 => undef
  | 17 => (bif p then undef else .bool false)
  | 18 => .bool B1
  | 19 => .bool B1
  | 20 => (bif B1 then undef else .pointer (some ⟨gd, 2, none⟩))
  | 21 => (bif B1 then undef else .agg #[.int .i64 t2, .int .i64 t3, .int .i64 t4, .int .i64 t5])
  | 22 => (bif B1 then undef else .bool (!s))
  | 23 => (bif B1 then undef else .bool s)
  | 24 => .bool B2
  | 25 => .bool B2
  | 26 => (bif B2 then undef else .pointer (some ⟨gd, 7, none⟩))
  | 27 => (bif B2 then undef else .int .i64 tr)
  | 28 => (bif B2 then undef else .bool (!x))
  | 29 => (bif B2 then undef else .bool x)
  | 30 => .bool B3
  | 31 => .bool B3
  | 32 => (bif B3 then undef else .pointer (some ⟨gd, 6, none⟩))
  | 33 => (bif B3 then undef else .bool (!e))
  | 34 => (bif B3 then undef else .bool e)
  | 35 => (bif B3 then undef else .bool e)
  | 36 => (bif B3 then undef else (bif e then .pointer (some ⟨gd, 7, none⟩) else undef))
  | 37 => (bif B3 then undef else (bif e then .int .i64 tr else undef))
  | 38 => (bif B3 then undef else (bif e then .bool z else undef))
  | 39 => (bif B3 then undef else .bool (e && z))
  | _ => .bool B4
def pvIK (b : Nat) (off : Nat) (n : Nat) (c : Nat) (gd : Nat) (k : Nat) (tn : Int) (t2 : Int) (t3 : Int) (t4 : Int) (t5 : Int) (tr : Int) (sn : Int) (p : Bool) (r : Bool) (s : Bool) (x : Bool) (e : Bool) (z : Bool) (B1 : Bool) (B2 : Bool) (B3 : Bool) (B4 : Bool) (i : Nat) : Value :=
  match i with
  | 0 => .pointer (some ⟨gd, 0, none⟩)
  | 1 => .int .i64 tn
  | 2 => .bool (!p)
  | 3 => .bool p
  | 4 => .bool p
  | 5 => (bif p then undef else .int .i64 (↑k + 1))
  | 6 => (bif p then undef else .bool true)
  | 7 => (bif p then undef else .bool true)
  | 8 => (bif p then undef else .slice (some ⟨b, off, none⟩) n c)
  | 9 => (bif p then undef else .int .i64 (↑k + 1))
  | 10 => (bif p then undef else .int .i64 k)
  | 11 => (bif p then undef else .pointer (some ⟨b, (off + k * 8), none⟩))
  | 12 => (bif p then undef else .pointer (some ⟨b, (off + k * 8), none⟩))
  | 13 => (bif p then undef else .int .i64 sn)
  | 14 => (bif p then undef else .pointer (some ⟨gd, 0, none⟩))
  | 15 => (bif p then undef else .int .i64 tn)
  | 16 => (bif p then undef else .bool r)
  | 17 => (bif p then undef else .bool r)
  | 18 => .bool B1
  | 19 => .bool B1
  | 20 => (bif B1 then undef else .pointer (some ⟨gd, 2, none⟩))
  | 21 => (bif B1 then undef else .agg #[.int .i64 t2, .int .i64 t3, .int .i64 t4, .int .i64 t5])
  | 22 => (bif B1 then undef else .bool (!s))
  | 23 => (bif B1 then undef else .bool s)
  | 24 => .bool B2
  | 25 => .bool B2
  | 26 => (bif B2 then undef else .pointer (some ⟨gd, 7, none⟩))
  | 27 => (bif B2 then undef else .int .i64 tr)
  | 28 => (bif B2 then undef else .bool (!x))
  | 29 => (bif B2 then undef else .bool x)
  | 30 => .bool B3
  | 31 => .bool B3
  | 32 => (bif B3 then undef else .pointer (some ⟨gd, 6, none⟩))
  | 33 => (bif B3 then undef else .bool (!e))
  | 34 => (bif B3 then undef else .bool e)
  | 35 => (bif B3 then undef else .bool e)
  | 36 => (bif B3 then undef else (bif e then .pointer (some ⟨gd, 7, none⟩) else undef))
  | 37 => (bif B3 then undef else (bif e then .int .i64 tr else undef))
  | 38 => (bif B3 then undef else (bif e then .bool z else undef))
  | 39 => (bif B3 then undef else .bool (e && z))
  | _ => .bool B4
set_option maxRecDepth 100000 in
set_option maxHeartbeats 8000000 in
theorem pvImpl_c (A : Option Addr) (n c : Nat) (l : List Pcs) (hn : n ≤ 1048576) (hc : n ≤ c) (w : World) (hI : InProcess w A n l) :
    Calls Try.prog 14 #[.slice A n c] w fun e w' => e = .returned (.bool (procsB l)) ∧ Below w.heap.size w w' := by
  have HI := hide hI
  have HL := hide hI.1
  clear hI
  by_cases hb : inB (n : Int) 1 10 = true
  case neg =>
    have hb2 : inB (n : Int) 1 10 = false := by simpa using hb
    have HF := hide (procsB_no (l := l) (fun e => hb (by rw [inB_iff]; have := e.2.1; have := e.2.2.1; have := HL.out; omega)))
    clear hb
    go_enter Try.func14, Try.ntmps14
    go_wp2_with (go_at_call 34; refine (within_c _ _ _ _).mono ?_; rintro e w' ⟨rfl, rfl⟩)
    go_ret
    exact ⟨by rw [HF.out]; rfl, Below.refl _ _⟩
  have hb2 := hb
  rw [inB_iff] at hb2
  have HLN := hide (show 1 ≤ l.length ∧ l.length ≤ 10 by rw [HL.out]; omega)
  go_enter Try.func14, Try.ntmps14
  go_wp2_with (go_at_call 34; refine (within_c _ _ _ _).mono ?_; rintro e w' ⟨rfl, rfl⟩)
  clear hb2 hb
  go_loopw [11] (fun kv wr => ∃ i : Nat, i ≤ n ∧ kv = .int .i64 i ∧ Hid (PUp l i) ∧ Hid (0 < i → PFst l) ∧ Hid (Below w.heap.size w wr)) (fun kv _ => n - (intOf kv).toNat)
  case atStart => exact ⟨0, by omega, rfl, fun i t hi => absurd hi (by omega), fun h => absurd h (by omega), Below.refl _ _⟩
  case round =>
    obtain ⟨i, hi, rfl, hup, hfst, hBw⟩ := hrel
    by_cases hlt : i < n
    · obtain ⟨t, ht⟩ : ∃ t, l[i]? = some t := ⟨_, List.getElem?_eq_getElem (by rw [HL.out]; exact hlt)⟩
      have HT := hide ht
      obtain ⟨b, off, hA, hR⟩ := HI.out.2 (by omega)
      subst hA
      have hRw := hide (hR.below hBw.out)
      obtain ⟨c0, c1, c2, c3, c4, c5, c6, c7⟩ := hRw.out.2 i t ht
      have hbl := hRw.out.1
      have HLT := hide hlt
      clear ht hR
      obtain ⟨tn, tp, t2, t3, t4, t5, te, tr⟩ := t
      simp only at c0 c1 c2 c3 c4 c5 c6 c7
      rcases Nat.eq_zero_or_pos i with h0 | h0
      · subst h0
        simp only [Nat.zero_mul, Nat.add_zero] at c0 c1 c2 c3 c4 c5 c6 c7
        obtain ⟨p, hp⟩ : ∃ p, inB tn 1 99 = !p := ⟨!inB tn 1 99, by simp⟩
        have HP := hide hp
        obtain ⟨s, hs⟩ : ∃ s, credB t2 t3 t4 t5 = !s := ⟨!credB t2 t3 t4 t5, by simp⟩
        have HS := hide hs
        obtain ⟨x, hx⟩ : ∃ x, inB tr 0 255 = !x := ⟨!inB tr 0 255, by simp⟩
        have HX := hide hx
        obtain ⟨e, rfl⟩ : ∃ e, te = !e := ⟨!te, by simp⟩
        obtain ⟨z, hz⟩ : ∃ z, (tr != 0) = z := ⟨_, rfl⟩
        have HZ := hide hz
        obtain ⟨r, hr⟩ : ∃ r : Bool, r = r := ⟨false, rfl⟩
        obtain ⟨sn, hsn⟩ : ∃ sn : Int, sn = 0 := ⟨_, rfl⟩
        obtain ⟨k, hk0⟩ : ∃ k : Nat, k = 0 := ⟨_, rfl⟩
        clear hsn hk0 hr
        obtain ⟨B1, hB1⟩ : ∃ B, (p || false) = B := ⟨_, rfl⟩
        obtain ⟨B2, hB2⟩ : ∃ B, (B1 || s) = B := ⟨_, rfl⟩
        obtain ⟨B3, hB3⟩ : ∃ B, (B2 || x) = B := ⟨_, rfl⟩
        obtain ⟨B4, hB4⟩ : ∃ B, (B3 || (e && z)) = B := ⟨_, rfl⟩
        have HB1 := hide hB1
        have HB2 := hide hB2
        have HB3 := hide hB3
        have HB4 := hide hB4
        have HPB := hide (PBad_no hB1 hB2 hB3 hB4)
        clear hp hs hx hz hB1 hB2 hB3 hB4
        go_wp2_with fail
        have hb1 : Below wr.heap.size wr (wr.alloc (.cells #[.int .i64 tn, .int .i64 tp, .int .i64 t2, .int .i64 t3, .int .i64 t4, .int .i64 t5, .bool !e, .int .i64 tr] 39)) := below_alloc0 (Below.refl _ _) _
        have RG := Row.madeL wr 39 [.int .i64 tn, .int .i64 tp, .int .i64 t2, .int .i64 t3, .int .i64 t4, .int .i64 t5, .bool !e, .int .i64 tr]
        change Row (wr.alloc (.cells #[.int .i64 tn, .int .i64 tp, .int .i64 t2, .int .i64 t3, .int .i64 t4, .int .i64 t5, .bool !e, .int .i64 tr] 39)) wr.heap.size 8 _ at RG
        have dz : (wr.alloc (.cells #[.int .i64 tn, .int .i64 tp, .int .i64 t2, .int .i64 t3, .int .i64 t4, .int .i64 t5, .bool !e, .int .i64 tr] 39)).heap.size = wr.heap.size + 1 := by simp
        generalize wr.alloc (.cells #[.int .i64 tn, .int .i64 tp, .int .i64 t2, .int .i64 t3, .int .i64 t4, .int .i64 t5, .bool !e, .int .i64 tr] 39) = W1 at *
        obtain ⟨gd, hgd⟩ : ∃ gd, gd = wr.heap.size := ⟨_, rfl⟩
        rw [← hgd] at RG dz ⊢
        have HGD := hide hgd
        clear hgd
        have cg0 := RG.cell (j := 0) rfl
        have cg1 := RG.cell (j := 1) rfl
        have cg2 := RG.cell (j := 2) rfl
        have cg3 := RG.cell (j := 3) rfl
        have cg4 := RG.cell (j := 4) rfl
        have cg5 := RG.cell (j := 5) rfl
        have cg6 := RG.cell (j := 6) rfl
        have cg7 := RG.cell (j := 7) rfl
        have gg := RG.lt
        have HRG := hide RG
        have HB := hide hb1
        have HBW := hide (hBw.out.trans (hb1.mono hBw.out.size))
        clear RG hb1 c0 c1 c2 c3 c4 c5 c6 c7
        refine wp_flowX (os := [_, _, _, _, _, _, _, _, _, _, _, _, _, _, _, _, _, _, _, _, _, _, _, _, _, _, _, _, _, _, _, _, _, _, _, _, _, _, _, _, _]) (fun cc W => Below W1.heap.size W1 W) (fun _ _ _ => True) (fun i v _ _ => v = pvI0 b off n c gd k tn t2 t3 t4 t5 tr sn p r s x e z B1 B2 B3 B4 i) 41 rfl ?_ ?_ ?_ ?_ ?_ ?_ ?_
        · kernel_rfl
        · kernel_rfl
        · kernel_rfl
        · exact (fun i j v vs w1 w2 _ _ h _ => h)
        · exact (Below.refl _ _).drew
        ·
          refine FlowStepsX.stepY 92 41 1 rfl rfl (by kernel_rfl) (by kernel_rfl) (by kernel_rfl) rfl rfl ?_ ?_
          ·
            intro cc act vs W hcc ha hvs hS hd hi K hK
            clear ha
            have u4 : act.tmps[4]? = some (.pointer (some ⟨gd, 0, none⟩)) := (hi.out 4 (by kernel_rfl)).trans rfl
            clear hd hi hvs
            refine wanted_un rfl ?_
            go_simp
            exact hK.out _ _ rfl hS trivial
          refine FlowStepsX.stepY 92 41 2 rfl rfl (by kernel_rfl) (by kernel_rfl) (by kernel_rfl) rfl rfl ?_ ?_
          ·
            intro cc act vs W hcc ha hvs hS hd hi K hK
            clear ha
            have u16 : act.tmps[16]? = some (.pointer (some ⟨gd, 0, none⟩)) := by obtain ⟨_, u, _, h⟩ := hd.out ⟨0, .data⟩ (some 16) (by simp) rfl rfl; exact u.trans (congrArg some h)
            clear hd hi hvs
            refine wanted_un rfl ?_
            have e0 := (hS.cell (p := ⟨gd, 0, none⟩) gg).trans cg0
            go_simp
            exact hK.out _ _ rfl hS trivial
          refine FlowStepsX.stepY 92 41 3 rfl rfl (by kernel_rfl) (by kernel_rfl) (by kernel_rfl) rfl rfl ?_ ?_
          ·
            intro cc act vs W hcc ha hvs hS hd hi K hK
            clear ha
            have u17 : act.tmps[17]? = some (.int .i64 tn) := by obtain ⟨_, u, _, h⟩ := hd.out ⟨1, .data⟩ (some 17) (by simp) rfl rfl; exact u.trans (congrArg some h)
            clear hd hi hvs
            refine wanted_un rfl ?_
            go_wp2_with fail
            refine (within_c _ _ _ _).mono ?_
            rintro e6 w6 ⟨rfl, rfl⟩
            exact hK.out _ _ (congrArg Value.bool HP.out) hS trivial
          refine FlowStepsX.stepY 92 41 4 rfl rfl (by kernel_rfl) (by kernel_rfl) (by kernel_rfl) rfl rfl ?_ ?_
          ·
            intro cc act vs W hcc ha hvs hS hd hi K hK
            clear ha
            have u18 : act.tmps[18]? = some (.bool (!p)) := by obtain ⟨_, u, _, h⟩ := hd.out ⟨2, .data⟩ (some 18) (by simp) rfl rfl; exact u.trans (congrArg some h)
            clear hd hi hvs
            refine wanted_un rfl ?_
            go_simp
            exact hK.out _ _ rfl hS trivial
          refine FlowStepsX.stepY 92 41 5 rfl rfl (by kernel_rfl) (by kernel_rfl) (by kernel_rfl) rfl rfl ?_ ?_
          ·
            intro cc act vs W hcc ha hvs hS hd hi K hK
            clear ha
            have u19 : act.tmps[19]? = some (.bool p) := by obtain ⟨_, u, _, h⟩ := hd.out ⟨3, .data⟩ (some 19) (by simp) rfl rfl; exact u.trans (congrArg some h)
            clear hd hi hvs
            refine wanted_un rfl ?_
            go_simp
            exact hK.out _ _ rfl hS trivial
          refine FlowStepsX.stepY 92 41 6 rfl rfl (by kernel_rfl) (by kernel_rfl) (by kernel_rfl) rfl rfl ?_ ?_
          ·
            intro cc act vs W hcc ha hvs hS hd hi K hK
            clear ha
            have u20 : act.tmps[20]? = some (.bool p) := by obtain ⟨_, u, _, h⟩ := hd.out ⟨4, .guard⟩ (some 20) (by simp) rfl rfl; exact u.trans (congrArg some h)
            have u3 : act.tmps[3]? = some (.int .i64 0) := (hi.out 3 (by kernel_rfl)).trans rfl
            clear hd hi hvs
            cases p
            ·
              refine wanted_yes rfl rfl u20 ?_
              go_simp
              exact hK.out _ _ rfl hS trivial
            ·
              refine wanted_no rfl rfl u20 ?_
              exact hK.out undef W rfl hS trivial
          refine FlowStepsX.stepY 92 41 7 rfl rfl (by kernel_rfl) (by kernel_rfl) (by kernel_rfl) rfl rfl ?_ ?_
          ·
            intro cc act vs W hcc ha hvs hS hd hi K hK
            clear ha
            have u21 : act.tmps[21]? = some ((bif p then undef else .int .i64 0)) := by obtain ⟨_, u, _, h⟩ := hd.out ⟨5, .data⟩ (some 21) (by simp) rfl rfl; exact u.trans (congrArg some h)
            have u20 : act.tmps[20]? = some (.bool p) := by obtain ⟨_, u, _, h⟩ := hd.out ⟨4, .guard⟩ (some 20) (by simp) rfl rfl; exact u.trans (congrArg some h)
            clear hd hi hvs
            cases p
            ·
              refine wanted_yes rfl rfl u20 ?_
              try simp only [cond_true, cond_false] at u21
              go_simp
              exact hK.out _ _ rfl hS trivial
            ·
              refine wanted_no rfl rfl u20 ?_
              exact hK.out undef W rfl hS trivial
          refine FlowStepsX.stepY 92 41 8 rfl rfl (by kernel_rfl) (by kernel_rfl) (by kernel_rfl) rfl rfl ?_ ?_
          ·
            intro cc act vs W hcc ha hvs hS hd hi K hK
            clear ha
            have u22 : act.tmps[22]? = some ((bif p then undef else .bool false)) := by obtain ⟨_, u, _, h⟩ := hd.out ⟨6, .data⟩ (some 22) (by simp) rfl rfl; exact u.trans (congrArg some h)
            have u20 : act.tmps[20]? = some (.bool p) := by obtain ⟨_, u, _, h⟩ := hd.out ⟨4, .guard⟩ (some 20) (by simp) rfl rfl; exact u.trans (congrArg some h)
            clear hd hi hvs
            cases p
            ·
              refine wanted_yes rfl rfl u20 ?_
              try simp only [cond_true, cond_false] at u22
              go_simp
              exact hK.out _ _ rfl hS trivial
            ·
              refine wanted_no rfl rfl u20 ?_
              exact hK.out undef W rfl hS trivial
          refine FlowStepsX.stepY 92 41 9 rfl rfl (by kernel_rfl) (by kernel_rfl) (by kernel_rfl) rfl rfl ?_ ?_
          ·
            intro cc act vs W hcc ha hvs hS hd hi K hK
            clear ha
            have u23 : act.tmps[23]? = some ((bif p then undef else .bool false)) := by obtain ⟨_, u, _, h⟩ := hd.out ⟨7, .guard⟩ (some 23) (by simp) rfl rfl; exact u.trans (congrArg some h)
            have u0 : act.tmps[0]? = some (.slice (some ⟨b, off, none⟩) n c) := (hi.out 0 (by kernel_rfl)).trans rfl
            clear hd hi hvs
            cases p
            ·
              refine wanted_no rfl rfl u23 ?_
              exact hK.out undef W rfl hS trivial
            ·
              refine wanted_nou rfl rfl u23 ?_
              exact hK.out undef W rfl hS trivial
          refine FlowStepsX.stepY 92 41 10 rfl rfl (by kernel_rfl) (by kernel_rfl) (by kernel_rfl) rfl rfl ?_ ?_
          ·
            intro cc act vs W hcc ha hvs hS hd hi K hK
            clear ha
            have u23 : act.tmps[23]? = some ((bif p then undef else .bool false)) := by obtain ⟨_, u, _, h⟩ := hd.out ⟨7, .guard⟩ (some 23) (by simp) rfl rfl; exact u.trans (congrArg some h)
            have u3 : act.tmps[3]? = some (.int .i64 0) := (hi.out 3 (by kernel_rfl)).trans rfl
            clear hd hi hvs
            cases p
            ·
              refine wanted_no rfl rfl u23 ?_
              exact hK.out undef W rfl hS trivial
            ·
              refine wanted_nou rfl rfl u23 ?_
              exact hK.out undef W rfl hS trivial
          refine FlowStepsX.stepY 92 41 11 rfl rfl (by kernel_rfl) (by kernel_rfl) (by kernel_rfl) rfl rfl ?_ ?_
          ·
            intro cc act vs W hcc ha hvs hS hd hi K hK
            clear ha
            have u25 : act.tmps[25]? = some (undef) := by obtain ⟨_, u, _, h⟩ := hd.out ⟨9, .data⟩ (some 25) (by simp) rfl rfl; exact u.trans (congrArg some h)
            have u23 : act.tmps[23]? = some ((bif p then undef else .bool false)) := by obtain ⟨_, u, _, h⟩ := hd.out ⟨7, .guard⟩ (some 23) (by simp) rfl rfl; exact u.trans (congrArg some h)
            clear hd hi hvs
            cases p
            ·
              refine wanted_no rfl rfl u23 ?_
              exact hK.out undef W rfl hS trivial
            ·
              refine wanted_nou rfl rfl u23 ?_
              exact hK.out undef W rfl hS trivial
          refine FlowStepsX.stepY 92 41 12 rfl rfl (by kernel_rfl) (by kernel_rfl) (by kernel_rfl) rfl rfl ?_ ?_
          ·
            intro cc act vs W hcc ha hvs hS hd hi K hK
            clear ha
            have u24 : act.tmps[24]? = some (undef) := by obtain ⟨_, u, _, h⟩ := hd.out ⟨8, .data⟩ (some 24) (by simp) rfl rfl; exact u.trans (congrArg some h)
            have u26 : act.tmps[26]? = some (undef) := by obtain ⟨_, u, _, h⟩ := hd.out ⟨10, .data⟩ (some 26) (by simp) rfl rfl; exact u.trans (congrArg some h)
            have u23 : act.tmps[23]? = some ((bif p then undef else .bool false)) := by obtain ⟨_, u, _, h⟩ := hd.out ⟨7, .guard⟩ (some 23) (by simp) rfl rfl; exact u.trans (congrArg some h)
            clear hd hi hvs
            cases p
            ·
              refine wanted_no rfl rfl u23 ?_
              exact hK.out undef W rfl hS trivial
            ·
              refine wanted_nou rfl rfl u23 ?_
              exact hK.out undef W rfl hS trivial
          refine FlowStepsX.stepY 92 41 13 rfl rfl (by kernel_rfl) (by kernel_rfl) (by kernel_rfl) rfl rfl ?_ ?_
          ·
            intro cc act vs W hcc ha hvs hS hd hi K hK
            clear ha
            have u27 : act.tmps[27]? = some (undef) := by obtain ⟨_, u, _, h⟩ := hd.out ⟨11, .data⟩ (some 27) (by simp) rfl rfl; exact u.trans (congrArg some h)
            have u23 : act.tmps[23]? = some ((bif p then undef else .bool false)) := by obtain ⟨_, u, _, h⟩ := hd.out ⟨7, .guard⟩ (some 23) (by simp) rfl rfl; exact u.trans (congrArg some h)
            clear hd hi hvs
            cases p
            ·
              refine wanted_no rfl rfl u23 ?_
              exact hK.out undef W rfl hS trivial
            ·
              refine wanted_nou rfl rfl u23 ?_
              exact hK.out undef W rfl hS trivial
          refine FlowStepsX.stepY 92 41 14 rfl rfl (by kernel_rfl) (by kernel_rfl) (by kernel_rfl) rfl rfl ?_ ?_
          ·
            intro cc act vs W hcc ha hvs hS hd hi K hK
            clear ha
            have u28 : act.tmps[28]? = some (undef) := by obtain ⟨_, u, _, h⟩ := hd.out ⟨12, .data⟩ (some 28) (by simp) rfl rfl; exact u.trans (congrArg some h)
            have u23 : act.tmps[23]? = some ((bif p then undef else .bool false)) := by obtain ⟨_, u, _, h⟩ := hd.out ⟨7, .guard⟩ (some 23) (by simp) rfl rfl; exact u.trans (congrArg some h)
            clear hd hi hvs
            cases p
            ·
              refine wanted_no rfl rfl u23 ?_
              exact hK.out undef W rfl hS trivial
            ·
              refine wanted_nou rfl rfl u23 ?_
              exact hK.out undef W rfl hS trivial
          refine FlowStepsX.stepY 92 41 15 rfl rfl (by kernel_rfl) (by kernel_rfl) (by kernel_rfl) rfl rfl ?_ ?_
          ·
            intro cc act vs W hcc ha hvs hS hd hi K hK
            clear ha
            have u23 : act.tmps[23]? = some ((bif p then undef else .bool false)) := by obtain ⟨_, u, _, h⟩ := hd.out ⟨7, .guard⟩ (some 23) (by simp) rfl rfl; exact u.trans (congrArg some h)
            have u4 : act.tmps[4]? = some (.pointer (some ⟨gd, 0, none⟩)) := (hi.out 4 (by kernel_rfl)).trans rfl
            clear hd hi hvs
            cases p
            ·
              refine wanted_no rfl rfl u23 ?_
              exact hK.out undef W rfl hS trivial
            ·
              refine wanted_nou rfl rfl u23 ?_
              exact hK.out undef W rfl hS trivial
          refine FlowStepsX.stepY 92 41 16 rfl rfl (by kernel_rfl) (by kernel_rfl) (by kernel_rfl) rfl rfl ?_ ?_
          ·
            intro cc act vs W hcc ha hvs hS hd hi K hK
            clear ha
            have u30 : act.tmps[30]? = some (undef) := by obtain ⟨_, u, _, h⟩ := hd.out ⟨14, .data⟩ (some 30) (by simp) rfl rfl; exact u.trans (congrArg some h)
            have u23 : act.tmps[23]? = some ((bif p then undef else .bool false)) := by obtain ⟨_, u, _, h⟩ := hd.out ⟨7, .guard⟩ (some 23) (by simp) rfl rfl; exact u.trans (congrArg some h)
            clear hd hi hvs
            cases p
            ·
              refine wanted_no rfl rfl u23 ?_
              exact hK.out undef W rfl hS trivial
            ·
              refine wanted_nou rfl rfl u23 ?_
              exact hK.out undef W rfl hS trivial
          refine FlowStepsX.stepY 92 41 17 rfl rfl (by kernel_rfl) (by kernel_rfl) (by kernel_rfl) rfl rfl ?_ ?_
          ·
            intro cc act vs W hcc ha hvs hS hd hi K hK
            clear ha
            have u29 : act.tmps[29]? = some (undef) := by obtain ⟨_, u, _, h⟩ := hd.out ⟨13, .data⟩ (some 29) (by simp) rfl rfl; exact u.trans (congrArg some h)
            have u31 : act.tmps[31]? = some (undef) := by obtain ⟨_, u, _, h⟩ := hd.out ⟨15, .data⟩ (some 31) (by simp) rfl rfl; exact u.trans (congrArg some h)
            have u23 : act.tmps[23]? = some ((bif p then undef else .bool false)) := by obtain ⟨_, u, _, h⟩ := hd.out ⟨7, .guard⟩ (some 23) (by simp) rfl rfl; exact u.trans (congrArg some h)
            clear hd hi hvs
            cases p
            ·
              refine wanted_no rfl rfl u23 ?_
              exact hK.out undef W rfl hS trivial
            ·
              refine wanted_nou rfl rfl u23 ?_
              exact hK.out undef W rfl hS trivial
          refine FlowStepsX.stepY 92 41 18 rfl rfl (by kernel_rfl) (by kernel_rfl) (by kernel_rfl) rfl rfl ?_ ?_
          ·
            intro cc act vs W hcc ha hvs hS hd hi K hK
            clear ha
            have u23 : act.tmps[23]? = some ((bif p then undef else .bool false)) := by obtain ⟨_, u, _, h⟩ := hd.out ⟨7, .data⟩ (some 23) (by simp) rfl rfl; exact u.trans (congrArg some h)
            have u32 : act.tmps[32]? = some (undef) := by obtain ⟨_, u, _, h⟩ := hd.out ⟨16, .data⟩ (some 32) (by simp) rfl rfl; exact u.trans (congrArg some h)
            have u20 : act.tmps[20]? = some (.bool p) := by obtain ⟨_, u, _, h⟩ := hd.out ⟨4, .guard⟩ (some 20) (by simp) rfl rfl; exact u.trans (congrArg some h)
            clear hd hi hvs
            cases p
            ·
              refine wanted_yes rfl rfl u20 ?_
              try simp only [cond_true, cond_false] at u23 u32
              go_simp
              exact hK.out _ _ rfl hS trivial
            ·
              refine wanted_no rfl rfl u20 ?_
              exact hK.out undef W rfl hS trivial
          refine FlowStepsX.stepY 92 41 19 rfl rfl (by kernel_rfl) (by kernel_rfl) (by kernel_rfl) rfl rfl ?_ ?_
          ·
            intro cc act vs W hcc ha hvs hS hd hi K hK
            clear ha
            have u20 : act.tmps[20]? = some (.bool p) := by obtain ⟨_, u, _, h⟩ := hd.out ⟨4, .data⟩ (some 20) (by simp) rfl rfl; exact u.trans (congrArg some h)
            have u33 : act.tmps[33]? = some ((bif p then undef else .bool false)) := by obtain ⟨_, u, _, h⟩ := hd.out ⟨17, .data⟩ (some 33) (by simp) rfl rfl; exact u.trans (congrArg some h)
            clear hd hi hvs
            refine wanted_un rfl ?_
            try simp only [cond_true, cond_false] at u33
            cases p
            ·
              go_simp
              exact hK.out _ _ (congrArg Value.bool HB1.out) hS trivial
            ·
              go_simp
              exact hK.out _ _ (congrArg Value.bool HB1.out) hS trivial
          refine FlowStepsX.stepY 92 41 20 rfl rfl (by kernel_rfl) (by kernel_rfl) (by kernel_rfl) rfl rfl ?_ ?_
          ·
            intro cc act vs W hcc ha hvs hS hd hi K hK
            clear ha
            have u34 : act.tmps[34]? = some (.bool B1) := by obtain ⟨_, u, _, h⟩ := hd.out ⟨18, .data⟩ (some 34) (by simp) rfl rfl; exact u.trans (congrArg some h)
            clear hd hi hvs
            refine wanted_un rfl ?_
            go_simp
            exact hK.out _ _ rfl hS trivial
          refine FlowStepsX.stepY 92 41 21 rfl rfl (by kernel_rfl) (by kernel_rfl) (by kernel_rfl) rfl rfl ?_ ?_
          ·
            intro cc act vs W hcc ha hvs hS hd hi K hK
            clear ha
            have u35 : act.tmps[35]? = some (.bool B1) := by obtain ⟨_, u, _, h⟩ := hd.out ⟨19, .guard⟩ (some 35) (by simp) rfl rfl; exact u.trans (congrArg some h)
            have u4 : act.tmps[4]? = some (.pointer (some ⟨gd, 0, none⟩)) := (hi.out 4 (by kernel_rfl)).trans rfl
            clear hd hi hvs
            cases B1
            ·
              refine wanted_yes rfl rfl u35 ?_
              go_simp
              exact hK.out _ _ rfl hS trivial
            ·
              refine wanted_no rfl rfl u35 ?_
              exact hK.out undef W rfl hS trivial
          refine FlowStepsX.stepY 92 41 22 rfl rfl (by kernel_rfl) (by kernel_rfl) (by kernel_rfl) rfl rfl ?_ ?_
          ·
            intro cc act vs W hcc ha hvs hS hd hi K hK
            clear ha
            have u36 : act.tmps[36]? = some ((bif B1 then undef else .pointer (some ⟨gd, 2, none⟩))) := by obtain ⟨_, u, _, h⟩ := hd.out ⟨20, .data⟩ (some 36) (by simp) rfl rfl; exact u.trans (congrArg some h)
            have u35 : act.tmps[35]? = some (.bool B1) := by obtain ⟨_, u, _, h⟩ := hd.out ⟨19, .guard⟩ (some 35) (by simp) rfl rfl; exact u.trans (congrArg some h)
            clear hd hi hvs
            cases B1
            ·
              refine wanted_yes rfl rfl u35 ?_
              try simp only [cond_true, cond_false] at u36
              have e2 := (hS.cell (p := ⟨gd, 2, none⟩) gg).trans cg2
              have e3 := (hS.cell (p := ⟨gd, 3, none⟩) gg).trans cg3
              have e4 := (hS.cell (p := ⟨gd, 4, none⟩) gg).trans cg4
              have e5 := (hS.cell (p := ⟨gd, 5, none⟩) gg).trans cg5
              go_simp
              exact hK.out _ _ rfl hS trivial
            ·
              refine wanted_no rfl rfl u35 ?_
              exact hK.out undef W rfl hS trivial
          refine FlowStepsX.stepY 92 41 23 rfl rfl (by kernel_rfl) (by kernel_rfl) (by kernel_rfl) rfl rfl ?_ ?_
          ·
            intro cc act vs W hcc ha hvs hS hd hi K hK
            clear ha
            have u37 : act.tmps[37]? = some ((bif B1 then undef else .agg #[.int .i64 t2, .int .i64 t3, .int .i64 t4, .int .i64 t5])) := by obtain ⟨_, u, _, h⟩ := hd.out ⟨21, .data⟩ (some 37) (by simp) rfl rfl; exact u.trans (congrArg some h)
            have u35 : act.tmps[35]? = some (.bool B1) := by obtain ⟨_, u, _, h⟩ := hd.out ⟨19, .guard⟩ (some 35) (by simp) rfl rfl; exact u.trans (congrArg some h)
            clear hd hi hvs
            cases B1
            ·
              refine wanted_yes rfl rfl u35 ?_
              try simp only [cond_true, cond_false] at u37
              go_wp2_with fail
              refine (credImpl_c _ _ _ _ _).mono ?_
              rintro e6 w6 ⟨rfl, hb6⟩
              exact hK.out _ w6 (congrArg Value.bool HS.out) (hS.trans (hb6.mono hS.size)) trivial
            ·
              refine wanted_no rfl rfl u35 ?_
              exact hK.out undef W rfl hS trivial
          refine FlowStepsX.stepY 92 41 24 rfl rfl (by kernel_rfl) (by kernel_rfl) (by kernel_rfl) rfl rfl ?_ ?_
          ·
            intro cc act vs W hcc ha hvs hS hd hi K hK
            clear ha
            have u38 : act.tmps[38]? = some ((bif B1 then undef else .bool (!s))) := by obtain ⟨_, u, _, h⟩ := hd.out ⟨22, .data⟩ (some 38) (by simp) rfl rfl; exact u.trans (congrArg some h)
            have u35 : act.tmps[35]? = some (.bool B1) := by obtain ⟨_, u, _, h⟩ := hd.out ⟨19, .guard⟩ (some 35) (by simp) rfl rfl; exact u.trans (congrArg some h)
            clear hd hi hvs
            cases B1
            ·
              refine wanted_yes rfl rfl u35 ?_
              try simp only [cond_true, cond_false] at u38
              go_simp
              exact hK.out _ _ rfl hS trivial
            ·
              refine wanted_no rfl rfl u35 ?_
              exact hK.out undef W rfl hS trivial
          refine FlowStepsX.stepY 92 41 25 rfl rfl (by kernel_rfl) (by kernel_rfl) (by kernel_rfl) rfl rfl ?_ ?_
          ·
            intro cc act vs W hcc ha hvs hS hd hi K hK
            clear ha
            have u35 : act.tmps[35]? = some (.bool B1) := by obtain ⟨_, u, _, h⟩ := hd.out ⟨19, .data⟩ (some 35) (by simp) rfl rfl; exact u.trans (congrArg some h)
            have u39 : act.tmps[39]? = some ((bif B1 then undef else .bool s)) := by obtain ⟨_, u, _, h⟩ := hd.out ⟨23, .data⟩ (some 39) (by simp) rfl rfl; exact u.trans (congrArg some h)
            clear hd hi hvs
            refine wanted_un rfl ?_
            try simp only [cond_true, cond_false] at u39
            cases B1
            ·
              go_simp
              exact hK.out _ _ (congrArg Value.bool HB2.out) hS trivial
            ·
              go_simp
              exact hK.out _ _ (congrArg Value.bool HB2.out) hS trivial
          refine FlowStepsX.stepY 92 41 26 rfl rfl (by kernel_rfl) (by kernel_rfl) (by kernel_rfl) rfl rfl ?_ ?_
          ·
            intro cc act vs W hcc ha hvs hS hd hi K hK
            clear ha
            have u40 : act.tmps[40]? = some (.bool B2) := by obtain ⟨_, u, _, h⟩ := hd.out ⟨24, .data⟩ (some 40) (by simp) rfl rfl; exact u.trans (congrArg some h)
            clear hd hi hvs
            refine wanted_un rfl ?_
            go_simp
            exact hK.out _ _ rfl hS trivial
          refine FlowStepsX.stepY 92 41 27 rfl rfl (by kernel_rfl) (by kernel_rfl) (by kernel_rfl) rfl rfl ?_ ?_
          ·
            intro cc act vs W hcc ha hvs hS hd hi K hK
            clear ha
            have u41 : act.tmps[41]? = some (.bool B2) := by obtain ⟨_, u, _, h⟩ := hd.out ⟨25, .guard⟩ (some 41) (by simp) rfl rfl; exact u.trans (congrArg some h)
            have u4 : act.tmps[4]? = some (.pointer (some ⟨gd, 0, none⟩)) := (hi.out 4 (by kernel_rfl)).trans rfl
            clear hd hi hvs
            cases B2
            ·
              refine wanted_yes rfl rfl u41 ?_
              go_simp
              exact hK.out _ _ rfl hS trivial
            ·
              refine wanted_no rfl rfl u41 ?_
              exact hK.out undef W rfl hS trivial
          refine FlowStepsX.stepY 92 41 28 rfl rfl (by kernel_rfl) (by kernel_rfl) (by kernel_rfl) rfl rfl ?_ ?_
          ·
            intro cc act vs W hcc ha hvs hS hd hi K hK
            clear ha
            have u42 : act.tmps[42]? = some ((bif B2 then undef else .pointer (some ⟨gd, 7, none⟩))) := by obtain ⟨_, u, _, h⟩ := hd.out ⟨26, .data⟩ (some 42) (by simp) rfl rfl; exact u.trans (congrArg some h)
            have u41 : act.tmps[41]? = some (.bool B2) := by obtain ⟨_, u, _, h⟩ := hd.out ⟨25, .guard⟩ (some 41) (by simp) rfl rfl; exact u.trans (congrArg some h)
            clear hd hi hvs
            cases B2
            ·
              refine wanted_yes rfl rfl u41 ?_
              try simp only [cond_true, cond_false] at u42
              have e7 := (hS.cell (p := ⟨gd, 7, none⟩) gg).trans cg7
              go_simp
              exact hK.out _ _ rfl hS trivial
            ·
              refine wanted_no rfl rfl u41 ?_
              exact hK.out undef W rfl hS trivial
          refine FlowStepsX.stepY 92 41 29 rfl rfl (by kernel_rfl) (by kernel_rfl) (by kernel_rfl) rfl rfl ?_ ?_
          ·
            intro cc act vs W hcc ha hvs hS hd hi K hK
            clear ha
            have u43 : act.tmps[43]? = some ((bif B2 then undef else .int .i64 tr)) := by obtain ⟨_, u, _, h⟩ := hd.out ⟨27, .data⟩ (some 43) (by simp) rfl rfl; exact u.trans (congrArg some h)
            have u41 : act.tmps[41]? = some (.bool B2) := by obtain ⟨_, u, _, h⟩ := hd.out ⟨25, .guard⟩ (some 41) (by simp) rfl rfl; exact u.trans (congrArg some h)
            clear hd hi hvs
            cases B2
            ·
              refine wanted_yes rfl rfl u41 ?_
              try simp only [cond_true, cond_false] at u43
              go_wp2_with fail
              refine (within_c _ _ _ _).mono ?_
              rintro e6 w6 ⟨rfl, rfl⟩
              exact hK.out _ _ (congrArg Value.bool HX.out) hS trivial
            ·
              refine wanted_no rfl rfl u41 ?_
              exact hK.out undef W rfl hS trivial
          refine FlowStepsX.stepY 92 41 30 rfl rfl (by kernel_rfl) (by kernel_rfl) (by kernel_rfl) rfl rfl ?_ ?_
          ·
            intro cc act vs W hcc ha hvs hS hd hi K hK
            clear ha
            have u44 : act.tmps[44]? = some ((bif B2 then undef else .bool (!x))) := by obtain ⟨_, u, _, h⟩ := hd.out ⟨28, .data⟩ (some 44) (by simp) rfl rfl; exact u.trans (congrArg some h)
            have u41 : act.tmps[41]? = some (.bool B2) := by obtain ⟨_, u, _, h⟩ := hd.out ⟨25, .guard⟩ (some 41) (by simp) rfl rfl; exact u.trans (congrArg some h)
            clear hd hi hvs
            cases B2
            ·
              refine wanted_yes rfl rfl u41 ?_
              try simp only [cond_true, cond_false] at u44
              go_simp
              exact hK.out _ _ rfl hS trivial
            ·
              refine wanted_no rfl rfl u41 ?_
              exact hK.out undef W rfl hS trivial
          refine FlowStepsX.stepY 92 41 31 rfl rfl (by kernel_rfl) (by kernel_rfl) (by kernel_rfl) rfl rfl ?_ ?_
          ·
            intro cc act vs W hcc ha hvs hS hd hi K hK
            clear ha
            have u41 : act.tmps[41]? = some (.bool B2) := by obtain ⟨_, u, _, h⟩ := hd.out ⟨25, .data⟩ (some 41) (by simp) rfl rfl; exact u.trans (congrArg some h)
            have u45 : act.tmps[45]? = some ((bif B2 then undef else .bool x)) := by obtain ⟨_, u, _, h⟩ := hd.out ⟨29, .data⟩ (some 45) (by simp) rfl rfl; exact u.trans (congrArg some h)
            clear hd hi hvs
            refine wanted_un rfl ?_
            try simp only [cond_true, cond_false] at u45
            cases B2
            ·
              go_simp
              exact hK.out _ _ (congrArg Value.bool HB3.out) hS trivial
            ·
              go_simp
              exact hK.out _ _ (congrArg Value.bool HB3.out) hS trivial
          refine FlowStepsX.stepY 92 41 32 rfl rfl (by kernel_rfl) (by kernel_rfl) (by kernel_rfl) rfl rfl ?_ ?_
          ·
            intro cc act vs W hcc ha hvs hS hd hi K hK
            clear ha
            have u46 : act.tmps[46]? = some (.bool B3) := by obtain ⟨_, u, _, h⟩ := hd.out ⟨30, .data⟩ (some 46) (by simp) rfl rfl; exact u.trans (congrArg some h)
            clear hd hi hvs
            refine wanted_un rfl ?_
            go_simp
            exact hK.out _ _ rfl hS trivial
          refine FlowStepsX.stepY 92 41 33 rfl rfl (by kernel_rfl) (by kernel_rfl) (by kernel_rfl) rfl rfl ?_ ?_
          ·
            intro cc act vs W hcc ha hvs hS hd hi K hK
            clear ha
            have u47 : act.tmps[47]? = some (.bool B3) := by obtain ⟨_, u, _, h⟩ := hd.out ⟨31, .guard⟩ (some 47) (by simp) rfl rfl; exact u.trans (congrArg some h)
            have u4 : act.tmps[4]? = some (.pointer (some ⟨gd, 0, none⟩)) := (hi.out 4 (by kernel_rfl)).trans rfl
            clear hd hi hvs
            cases B3
            ·
              refine wanted_yes rfl rfl u47 ?_
              go_simp
              exact hK.out _ _ rfl hS trivial
            ·
              refine wanted_no rfl rfl u47 ?_
              exact hK.out undef W rfl hS trivial
          refine FlowStepsX.stepY 92 41 34 rfl rfl (by kernel_rfl) (by kernel_rfl) (by kernel_rfl) rfl rfl ?_ ?_
          ·
            intro cc act vs W hcc ha hvs hS hd hi K hK
            clear ha
            have u48 : act.tmps[48]? = some ((bif B3 then undef else .pointer (some ⟨gd, 6, none⟩))) := by obtain ⟨_, u, _, h⟩ := hd.out ⟨32, .data⟩ (some 48) (by simp) rfl rfl; exact u.trans (congrArg some h)
            have u47 : act.tmps[47]? = some (.bool B3) := by obtain ⟨_, u, _, h⟩ := hd.out ⟨31, .guard⟩ (some 47) (by simp) rfl rfl; exact u.trans (congrArg some h)
            clear hd hi hvs
            cases B3
            ·
              refine wanted_yes rfl rfl u47 ?_
              try simp only [cond_true, cond_false] at u48
              have e6 := (hS.cell (p := ⟨gd, 6, none⟩) gg).trans cg6
              go_simp
              exact hK.out _ _ rfl hS trivial
            ·
              refine wanted_no rfl rfl u47 ?_
              exact hK.out undef W rfl hS trivial
          refine FlowStepsX.stepY 92 41 35 rfl rfl (by kernel_rfl) (by kernel_rfl) (by kernel_rfl) rfl rfl ?_ ?_
          ·
            intro cc act vs W hcc ha hvs hS hd hi K hK
            clear ha
            have u49 : act.tmps[49]? = some ((bif B3 then undef else .bool (!e))) := by obtain ⟨_, u, _, h⟩ := hd.out ⟨33, .data⟩ (some 49) (by simp) rfl rfl; exact u.trans (congrArg some h)
            have u47 : act.tmps[47]? = some (.bool B3) := by obtain ⟨_, u, _, h⟩ := hd.out ⟨31, .guard⟩ (some 47) (by simp) rfl rfl; exact u.trans (congrArg some h)
            clear hd hi hvs
            cases B3
            ·
              refine wanted_yes rfl rfl u47 ?_
              try simp only [cond_true, cond_false] at u49
              go_simp
              exact hK.out _ _ rfl hS trivial
            ·
              refine wanted_no rfl rfl u47 ?_
              exact hK.out undef W rfl hS trivial
          refine FlowStepsX.stepY 92 41 36 rfl rfl (by kernel_rfl) (by kernel_rfl) (by kernel_rfl) rfl rfl ?_ ?_
          ·
            intro cc act vs W hcc ha hvs hS hd hi K hK
            clear ha
            have u50 : act.tmps[50]? = some ((bif B3 then undef else .bool e)) := by obtain ⟨_, u, _, h⟩ := hd.out ⟨34, .data⟩ (some 50) (by simp) rfl rfl; exact u.trans (congrArg some h)
            have u47 : act.tmps[47]? = some (.bool B3) := by obtain ⟨_, u, _, h⟩ := hd.out ⟨31, .guard⟩ (some 47) (by simp) rfl rfl; exact u.trans (congrArg some h)
            clear hd hi hvs
            cases B3
            ·
              refine wanted_yes rfl rfl u47 ?_
              try simp only [cond_true, cond_false] at u50
              go_simp
              exact hK.out _ _ rfl hS trivial
            ·
              refine wanted_no rfl rfl u47 ?_
              exact hK.out undef W rfl hS trivial
          refine FlowStepsX.stepY 92 41 37 rfl rfl (by kernel_rfl) (by kernel_rfl) (by kernel_rfl) rfl rfl ?_ ?_
          ·
            intro cc act vs W hcc ha hvs hS hd hi K hK
            clear ha
            have u51 : act.tmps[51]? = some ((bif B3 then undef else .bool e)) := by obtain ⟨_, u, _, h⟩ := hd.out ⟨35, .guard⟩ (some 51) (by simp) rfl rfl; exact u.trans (congrArg some h)
            have u4 : act.tmps[4]? = some (.pointer (some ⟨gd, 0, none⟩)) := (hi.out 4 (by kernel_rfl)).trans rfl
            clear hd hi hvs
            cases B3
            ·
              cases e
              ·
                refine wanted_no rfl rfl u51 ?_
                exact hK.out undef W rfl hS trivial
              ·
                refine wanted_yes rfl rfl u51 ?_
                try simp only [cond_true, cond_false] at u51
                go_simp
                exact hK.out _ _ rfl hS trivial
            ·
              refine wanted_nou rfl rfl u51 ?_
              exact hK.out undef W rfl hS trivial
          refine FlowStepsX.stepY 92 41 38 rfl rfl (by kernel_rfl) (by kernel_rfl) (by kernel_rfl) rfl rfl ?_ ?_
          ·
            intro cc act vs W hcc ha hvs hS hd hi K hK
            clear ha
            have u52 : act.tmps[52]? = some ((bif B3 then undef else (bif e then .pointer (some ⟨gd, 7, none⟩) else undef))) := by obtain ⟨_, u, _, h⟩ := hd.out ⟨36, .data⟩ (some 52) (by simp) rfl rfl; exact u.trans (congrArg some h)
            have u51 : act.tmps[51]? = some ((bif B3 then undef else .bool e)) := by obtain ⟨_, u, _, h⟩ := hd.out ⟨35, .guard⟩ (some 51) (by simp) rfl rfl; exact u.trans (congrArg some h)
            clear hd hi hvs
            cases B3
            ·
              cases e
              ·
                refine wanted_no rfl rfl u51 ?_
                exact hK.out undef W rfl hS trivial
              ·
                refine wanted_yes rfl rfl u51 ?_
                try simp only [cond_true, cond_false] at u52 u51
                have e7 := (hS.cell (p := ⟨gd, 7, none⟩) gg).trans cg7
                go_simp
                exact hK.out _ _ rfl hS trivial
            ·
              refine wanted_nou rfl rfl u51 ?_
              exact hK.out undef W rfl hS trivial
          refine FlowStepsX.stepY 92 41 39 rfl rfl (by kernel_rfl) (by kernel_rfl) (by kernel_rfl) rfl rfl ?_ ?_
          ·
            intro cc act vs W hcc ha hvs hS hd hi K hK
            clear ha
            have u53 : act.tmps[53]? = some ((bif B3 then undef else (bif e then .int .i64 tr else undef))) := by obtain ⟨_, u, _, h⟩ := hd.out ⟨37, .data⟩ (some 53) (by simp) rfl rfl; exact u.trans (congrArg some h)
            have u51 : act.tmps[51]? = some ((bif B3 then undef else .bool e)) := by obtain ⟨_, u, _, h⟩ := hd.out ⟨35, .guard⟩ (some 51) (by simp) rfl rfl; exact u.trans (congrArg some h)
            clear hd hi hvs
            cases B3
            ·
              cases e
              ·
                refine wanted_no rfl rfl u51 ?_
                exact hK.out undef W rfl hS trivial
              ·
                refine wanted_yes rfl rfl u51 ?_
                try simp only [cond_true, cond_false] at u53 u51
                go_simp
                exact hK.out _ _ (congrArg Value.bool HZ.out) hS trivial
            ·
              refine wanted_nou rfl rfl u51 ?_
              exact hK.out undef W rfl hS trivial
          refine FlowStepsX.stepY 92 41 40 rfl rfl (by kernel_rfl) (by kernel_rfl) (by kernel_rfl) rfl rfl ?_ ?_
          ·
            intro cc act vs W hcc ha hvs hS hd hi K hK
            clear ha
            have u51 : act.tmps[51]? = some ((bif B3 then undef else .bool e)) := by obtain ⟨_, u, _, h⟩ := hd.out ⟨35, .data⟩ (some 51) (by simp) rfl rfl; exact u.trans (congrArg some h)
            have u54 : act.tmps[54]? = some ((bif B3 then undef else (bif e then .bool z else undef))) := by obtain ⟨_, u, _, h⟩ := hd.out ⟨38, .data⟩ (some 54) (by simp) rfl rfl; exact u.trans (congrArg some h)
            have u47 : act.tmps[47]? = some (.bool B3) := by obtain ⟨_, u, _, h⟩ := hd.out ⟨31, .guard⟩ (some 47) (by simp) rfl rfl; exact u.trans (congrArg some h)
            clear hd hi hvs
            cases B3
            ·
              refine wanted_yes rfl rfl u47 ?_
              try simp only [cond_true, cond_false] at u51 u54
              cases e
              ·
                go_simp
                exact hK.out _ _ rfl hS trivial
              ·
                go_simp
                exact hK.out _ _ rfl hS trivial
            ·
              refine wanted_no rfl rfl u47 ?_
              exact hK.out undef W rfl hS trivial
          refine FlowStepsX.stepY 92 41 41 rfl rfl (by kernel_rfl) (by kernel_rfl) (by kernel_rfl) rfl rfl ?_ ?_
          ·
            intro cc act vs W hcc ha hvs hS hd hi K hK
            clear ha
            have u47 : act.tmps[47]? = some (.bool B3) := by obtain ⟨_, u, _, h⟩ := hd.out ⟨31, .data⟩ (some 47) (by simp) rfl rfl; exact u.trans (congrArg some h)
            have u55 : act.tmps[55]? = some ((bif B3 then undef else .bool (e && z))) := by obtain ⟨_, u, _, h⟩ := hd.out ⟨39, .data⟩ (some 55) (by simp) rfl rfl; exact u.trans (congrArg some h)
            clear hd hi hvs
            refine wanted_un rfl ?_
            try simp only [cond_true, cond_false] at u55
            cases B3
            ·
              go_simp
              exact hK.out _ _ (congrArg Value.bool HB4.out) hS trivial
            ·
              go_simp
              exact hK.out _ _ (congrArg Value.bool HB4.out) hS trivial
          exact FlowStepsX.nil
        · intro c' ρ W hc' hS hd
          simp only [putFrom, Act.put, List.setIfInBounds_toArray, List.set_cons_zero, List.set_cons_succ, Nat.reduceAdd]
          have d40 : ρ 40 = .bool B4 := hd.out 40 (by decide) (by kernel_rfl)
          clear hd
          generalize ρ 40 = x40 at d40 ⊢
          subst d40
          have HW := hide (HBW.out.trans (hS.mono HBW.out.size))
          cases B4
          case true =>
            have HF := hide (procsB_bad HT.out (POk_bad (p := p) (r := false) (s := s) (x := x) (e := e) (z := z) HP.out (fun h => by cases h) HS.out HX.out (fun h => by have := HZ.out; rw [h] at this; simpa using this) HPB.out))
            go_wp2_with fail
            go_ret
            exact ⟨by rw [HF.out]; rfl, HW.out⟩
          have HG := hide (fun hrun => POk_good (l := l) (i := 0) (tp := tp) (p := p) (r := false) (s := s) (x := x) (e := e) (z := z) HP.out (fun _ h => absurd h (by omega)) HS.out HX.out (fun h => by have := HZ.out; rw [h] at this; simpa using this) HPB.out hrun)
          have y0 := (hS.cell (p := ⟨gd, 0, none⟩) gg).trans cg0
          have y1 := (hS.cell (p := ⟨gd, 1, none⟩) gg).trans cg1
          have y6 := (hS.cell (p := ⟨gd, 6, none⟩) gg).trans cg6
          have gw : gd < W.heap.size := Nat.lt_of_lt_of_le gg hS.size
          have HI2 := hide (HI.out.below HW.out)
          clear hS cg0 cg1 cg2 cg3 cg4 cg5 cg6 cg7
          have HFN := hide (fun (h : ¬ (tn = 1 ∧ tp = 0 ∧ (!e) = false)) => procsB_no (l := l) (fun e' => h (by
            obtain ⟨s', hs', h1, h2, h3⟩ := e'.2.2.2
            have := hs'.symm.trans HT.out
            simp at this
            subst this
            exact ⟨h1, h2, h3⟩)))
          cases h1 : (tn != 1)
          case true =>
            have HF := hide (HFN.out (fun h => by simp [h.1] at h1))
            go_wp2_with fail
            go_ret
            exact ⟨by rw [HF.out]; rfl, HW.out⟩
          cases h2 : (tp != 0)
          case true =>
            have HF := hide (HFN.out (fun h => by simp [h.2.1] at h2))
            go_wp2_with fail
            go_ret
            exact ⟨by rw [HF.out]; rfl, HW.out⟩
          cases e
          case false =>
            have HF := hide (HFN.out (fun h => by simp at h))
            go_wp2_with fail
            go_ret
            exact ⟨by rw [HF.out]; rfl, HW.out⟩
          have HFST := hide (show PFst l from ⟨_, HT.out, by simpa using h1, by simpa using h2, rfl⟩)
          go_wp2_with fail
          refine ⟨⟨1, by omega, by go_num, hup.out.step HT.out (HG.out (fun h => absurd h (by omega))), fun _ => HFST.out, HW.out⟩, by simp [intOf]; omega⟩
      · obtain ⟨k, rfl⟩ : ∃ k, i = k + 1 := ⟨i - 1, by omega⟩
        obtain ⟨sp, hsp⟩ : ∃ sp, l[k]? = some sp := ⟨_, List.getElem?_eq_getElem (by rw [HL.out]; omega)⟩
        have HSP := hide hsp
        have HJ := hide (show (k : Int) < n by omega)
        have HJW := hide (show IntKind.i64.wrap (k : Int) = k from IntWalk.i64_in _ (by omega))
        obtain ⟨s0, _⟩ := hRw.out.2 k sp hsp
        obtain ⟨sn, hsn⟩ : ∃ sn, sp.number = sn := ⟨_, rfl⟩
        rw [hsn] at s0
        have HSN := hide hsn
        clear hsp hsn h0
        obtain ⟨p, hp⟩ : ∃ p, inB tn 1 99 = !p := ⟨!inB tn 1 99, by simp⟩
        have HP := hide hp
        obtain ⟨s, hs⟩ : ∃ s, credB t2 t3 t4 t5 = !s := ⟨!credB t2 t3 t4 t5, by simp⟩
        have HS := hide hs
        obtain ⟨x, hx⟩ : ∃ x, inB tr 0 255 = !x := ⟨!inB tr 0 255, by simp⟩
        have HX := hide hx
        obtain ⟨e, rfl⟩ : ∃ e, te = !e := ⟨!te, by simp⟩
        obtain ⟨z, hz⟩ : ∃ z, (tr != 0) = z := ⟨_, rfl⟩
        have HZ := hide hz
        obtain ⟨r, hr⟩ : ∃ r, decide (tn ≤ sn) = r := ⟨_, rfl⟩
        have HR := hide hr
        clear hr
        obtain ⟨B1, hB1⟩ : ∃ B, (p || r) = B := ⟨_, rfl⟩
        obtain ⟨B2, hB2⟩ : ∃ B, (B1 || s) = B := ⟨_, rfl⟩
        obtain ⟨B3, hB3⟩ : ∃ B, (B2 || x) = B := ⟨_, rfl⟩
        obtain ⟨B4, hB4⟩ : ∃ B, (B3 || (e && z)) = B := ⟨_, rfl⟩
        have HB1 := hide hB1
        have HB2 := hide hB2
        have HB3 := hide hB3
        have HB4 := hide hB4
        have HPB := hide (PBad_no hB1 hB2 hB3 hB4)
        clear hp hs hx hz hB1 hB2 hB3 hB4
        go_wp2_with fail
        have hb1 : Below wr.heap.size wr (wr.alloc (.cells #[.int .i64 tn, .int .i64 tp, .int .i64 t2, .int .i64 t3, .int .i64 t4, .int .i64 t5, .bool !e, .int .i64 tr] 39)) := below_alloc0 (Below.refl _ _) _
        have RG := Row.madeL wr 39 [.int .i64 tn, .int .i64 tp, .int .i64 t2, .int .i64 t3, .int .i64 t4, .int .i64 t5, .bool !e, .int .i64 tr]
        change Row (wr.alloc (.cells #[.int .i64 tn, .int .i64 tp, .int .i64 t2, .int .i64 t3, .int .i64 t4, .int .i64 t5, .bool !e, .int .i64 tr] 39)) wr.heap.size 8 _ at RG
        have dz : (wr.alloc (.cells #[.int .i64 tn, .int .i64 tp, .int .i64 t2, .int .i64 t3, .int .i64 t4, .int .i64 t5, .bool !e, .int .i64 tr] 39)).heap.size = wr.heap.size + 1 := by simp
        generalize wr.alloc (.cells #[.int .i64 tn, .int .i64 tp, .int .i64 t2, .int .i64 t3, .int .i64 t4, .int .i64 t5, .bool !e, .int .i64 tr] 39) = W1 at *
        obtain ⟨gd, hgd⟩ : ∃ gd, gd = wr.heap.size := ⟨_, rfl⟩
        rw [← hgd] at RG dz ⊢
        have HGD := hide hgd
        clear hgd
        have cg0 := RG.cell (j := 0) rfl
        have cg1 := RG.cell (j := 1) rfl
        have cg2 := RG.cell (j := 2) rfl
        have cg3 := RG.cell (j := 3) rfl
        have cg4 := RG.cell (j := 4) rfl
        have cg5 := RG.cell (j := 5) rfl
        have cg6 := RG.cell (j := 6) rfl
        have cg7 := RG.cell (j := 7) rfl
        have gg := RG.lt
        have HRG := hide RG
        have HB := hide hb1
        have HBW := hide (hBw.out.trans (hb1.mono hBw.out.size))
        have gb : b < W1.heap.size := by have := hb1.size; omega
        have cs0 := (hb1.cell (p := ⟨b, _, none⟩) hbl).trans s0
        clear RG hb1 c0 c1 c2 c3 c4 c5 c6 c7 s0
        refine wp_flowX (os := [_, _, _, _, _, _, _, _, _, _, _, _, _, _, _, _, _, _, _, _, _, _, _, _, _, _, _, _, _, _, _, _, _, _, _, _, _, _, _, _, _]) (fun cc W => Below W1.heap.size W1 W) (fun _ _ _ => True) (fun i v _ _ => v = pvIK b off n c gd k tn t2 t3 t4 t5 tr sn p r s x e z B1 B2 B3 B4 i) 41 rfl ?_ ?_ ?_ ?_ ?_ ?_ ?_
        · kernel_rfl
        · kernel_rfl
        · kernel_rfl
        · exact (fun i j v vs w1 w2 _ _ h _ => h)
        · exact (Below.refl _ _).drew
        ·
          refine FlowStepsX.stepY 92 41 1 rfl rfl (by kernel_rfl) (by kernel_rfl) (by kernel_rfl) rfl rfl ?_ ?_
          ·
            intro cc act vs W hcc ha hvs hS hd hi K hK
            clear ha
            have u4 : act.tmps[4]? = some (.pointer (some ⟨gd, 0, none⟩)) := (hi.out 4 (by kernel_rfl)).trans rfl
            clear hd hi hvs
            refine wanted_un rfl ?_
            go_simp
            exact hK.out _ _ rfl hS trivial
          refine FlowStepsX.stepY 92 41 2 rfl rfl (by kernel_rfl) (by kernel_rfl) (by kernel_rfl) rfl rfl ?_ ?_
          ·
            intro cc act vs W hcc ha hvs hS hd hi K hK
            clear ha
            have u16 : act.tmps[16]? = some (.pointer (some ⟨gd, 0, none⟩)) := by obtain ⟨_, u, _, h⟩ := hd.out ⟨0, .data⟩ (some 16) (by simp) rfl rfl; exact u.trans (congrArg some h)
            clear hd hi hvs
            refine wanted_un rfl ?_
            have e0 := (hS.cell (p := ⟨gd, 0, none⟩) gg).trans cg0
            go_simp
            exact hK.out _ _ rfl hS trivial
          refine FlowStepsX.stepY 92 41 3 rfl rfl (by kernel_rfl) (by kernel_rfl) (by kernel_rfl) rfl rfl ?_ ?_
          ·
            intro cc act vs W hcc ha hvs hS hd hi K hK
            clear ha
            have u17 : act.tmps[17]? = some (.int .i64 tn) := by obtain ⟨_, u, _, h⟩ := hd.out ⟨1, .data⟩ (some 17) (by simp) rfl rfl; exact u.trans (congrArg some h)
            clear hd hi hvs
            refine wanted_un rfl ?_
            go_wp2_with fail
            refine (within_c _ _ _ _).mono ?_
            rintro e6 w6 ⟨rfl, rfl⟩
            exact hK.out _ _ (congrArg Value.bool HP.out) hS trivial
          refine FlowStepsX.stepY 92 41 4 rfl rfl (by kernel_rfl) (by kernel_rfl) (by kernel_rfl) rfl rfl ?_ ?_
          ·
            intro cc act vs W hcc ha hvs hS hd hi K hK
            clear ha
            have u18 : act.tmps[18]? = some (.bool (!p)) := by obtain ⟨_, u, _, h⟩ := hd.out ⟨2, .data⟩ (some 18) (by simp) rfl rfl; exact u.trans (congrArg some h)
            clear hd hi hvs
            refine wanted_un rfl ?_
            go_simp
            exact hK.out _ _ rfl hS trivial
          refine FlowStepsX.stepY 92 41 5 rfl rfl (by kernel_rfl) (by kernel_rfl) (by kernel_rfl) rfl rfl ?_ ?_
          ·
            intro cc act vs W hcc ha hvs hS hd hi K hK
            clear ha
            have u19 : act.tmps[19]? = some (.bool p) := by obtain ⟨_, u, _, h⟩ := hd.out ⟨3, .data⟩ (some 19) (by simp) rfl rfl; exact u.trans (congrArg some h)
            clear hd hi hvs
            refine wanted_un rfl ?_
            go_simp
            exact hK.out _ _ rfl hS trivial
          refine FlowStepsX.stepY 92 41 6 rfl rfl (by kernel_rfl) (by kernel_rfl) (by kernel_rfl) rfl rfl ?_ ?_
          ·
            intro cc act vs W hcc ha hvs hS hd hi K hK
            clear ha
            have u20 : act.tmps[20]? = some (.bool p) := by obtain ⟨_, u, _, h⟩ := hd.out ⟨4, .guard⟩ (some 20) (by simp) rfl rfl; exact u.trans (congrArg some h)
            have u3 : act.tmps[3]? = some (.int .i64 (↑k + 1)) := (hi.out 3 (by kernel_rfl)).trans rfl
            clear hd hi hvs
            cases p
            ·
              refine wanted_yes rfl rfl u20 ?_
              go_simp
              exact hK.out _ _ rfl hS trivial
            ·
              refine wanted_no rfl rfl u20 ?_
              exact hK.out undef W rfl hS trivial
          refine FlowStepsX.stepY 92 41 7 rfl rfl (by kernel_rfl) (by kernel_rfl) (by kernel_rfl) rfl rfl ?_ ?_
          ·
            intro cc act vs W hcc ha hvs hS hd hi K hK
            clear ha
            have u21 : act.tmps[21]? = some ((bif p then undef else .int .i64 (↑k + 1))) := by obtain ⟨_, u, _, h⟩ := hd.out ⟨5, .data⟩ (some 21) (by simp) rfl rfl; exact u.trans (congrArg some h)
            have u20 : act.tmps[20]? = some (.bool p) := by obtain ⟨_, u, _, h⟩ := hd.out ⟨4, .guard⟩ (some 20) (by simp) rfl rfl; exact u.trans (congrArg some h)
            clear hd hi hvs
            cases p
            ·
              refine wanted_yes rfl rfl u20 ?_
              try simp only [cond_true, cond_false] at u21
              go_simp
              exact hK.out _ _ rfl hS trivial
            ·
              refine wanted_no rfl rfl u20 ?_
              exact hK.out undef W rfl hS trivial
          refine FlowStepsX.stepY 92 41 8 rfl rfl (by kernel_rfl) (by kernel_rfl) (by kernel_rfl) rfl rfl ?_ ?_
          ·
            intro cc act vs W hcc ha hvs hS hd hi K hK
            clear ha
            have u22 : act.tmps[22]? = some ((bif p then undef else .bool true)) := by obtain ⟨_, u, _, h⟩ := hd.out ⟨6, .data⟩ (some 22) (by simp) rfl rfl; exact u.trans (congrArg some h)
            have u20 : act.tmps[20]? = some (.bool p) := by obtain ⟨_, u, _, h⟩ := hd.out ⟨4, .guard⟩ (some 20) (by simp) rfl rfl; exact u.trans (congrArg some h)
            clear hd hi hvs
            cases p
            ·
              refine wanted_yes rfl rfl u20 ?_
              try simp only [cond_true, cond_false] at u22
              go_simp
              exact hK.out _ _ rfl hS trivial
            ·
              refine wanted_no rfl rfl u20 ?_
              exact hK.out undef W rfl hS trivial
          refine FlowStepsX.stepY 92 41 9 rfl rfl (by kernel_rfl) (by kernel_rfl) (by kernel_rfl) rfl rfl ?_ ?_
          ·
            intro cc act vs W hcc ha hvs hS hd hi K hK
            clear ha
            have u23 : act.tmps[23]? = some ((bif p then undef else .bool true)) := by obtain ⟨_, u, _, h⟩ := hd.out ⟨7, .guard⟩ (some 23) (by simp) rfl rfl; exact u.trans (congrArg some h)
            have u0 : act.tmps[0]? = some (.slice (some ⟨b, off, none⟩) n c) := (hi.out 0 (by kernel_rfl)).trans rfl
            clear hd hi hvs
            cases p
            ·
              refine wanted_yes rfl rfl u23 ?_
              try simp only [cond_true, cond_false] at u23
              go_simp
              exact hK.out _ _ rfl hS trivial
            ·
              refine wanted_nou rfl rfl u23 ?_
              exact hK.out undef W rfl hS trivial
          refine FlowStepsX.stepY 92 41 10 rfl rfl (by kernel_rfl) (by kernel_rfl) (by kernel_rfl) rfl rfl ?_ ?_
          ·
            intro cc act vs W hcc ha hvs hS hd hi K hK
            clear ha
            have u23 : act.tmps[23]? = some ((bif p then undef else .bool true)) := by obtain ⟨_, u, _, h⟩ := hd.out ⟨7, .guard⟩ (some 23) (by simp) rfl rfl; exact u.trans (congrArg some h)
            have u3 : act.tmps[3]? = some (.int .i64 (↑k + 1)) := (hi.out 3 (by kernel_rfl)).trans rfl
            clear hd hi hvs
            cases p
            ·
              refine wanted_yes rfl rfl u23 ?_
              try simp only [cond_true, cond_false] at u23
              go_simp
              exact hK.out _ _ rfl hS trivial
            ·
              refine wanted_nou rfl rfl u23 ?_
              exact hK.out undef W rfl hS trivial
          refine FlowStepsX.stepY 92 41 11 rfl rfl (by kernel_rfl) (by kernel_rfl) (by kernel_rfl) rfl rfl ?_ ?_
          ·
            intro cc act vs W hcc ha hvs hS hd hi K hK
            clear ha
            have u25 : act.tmps[25]? = some ((bif p then undef else .int .i64 (↑k + 1))) := by obtain ⟨_, u, _, h⟩ := hd.out ⟨9, .data⟩ (some 25) (by simp) rfl rfl; exact u.trans (congrArg some h)
            have u23 : act.tmps[23]? = some ((bif p then undef else .bool true)) := by obtain ⟨_, u, _, h⟩ := hd.out ⟨7, .guard⟩ (some 23) (by simp) rfl rfl; exact u.trans (congrArg some h)
            clear hd hi hvs
            cases p
            ·
              refine wanted_yes rfl rfl u23 ?_
              try simp only [cond_true, cond_false] at u25 u23
              have jw := HJW.out
              go_simp
              exact hK.out _ _ rfl hS trivial
            ·
              refine wanted_nou rfl rfl u23 ?_
              exact hK.out undef W rfl hS trivial
          refine FlowStepsX.stepY 92 41 12 rfl rfl (by kernel_rfl) (by kernel_rfl) (by kernel_rfl) rfl rfl ?_ ?_
          ·
            intro cc act vs W hcc ha hvs hS hd hi K hK
            clear ha
            have u24 : act.tmps[24]? = some ((bif p then undef else .slice (some ⟨b, off, none⟩) n c)) := by obtain ⟨_, u, _, h⟩ := hd.out ⟨8, .data⟩ (some 24) (by simp) rfl rfl; exact u.trans (congrArg some h)
            have u26 : act.tmps[26]? = some ((bif p then undef else .int .i64 k)) := by obtain ⟨_, u, _, h⟩ := hd.out ⟨10, .data⟩ (some 26) (by simp) rfl rfl; exact u.trans (congrArg some h)
            have u23 : act.tmps[23]? = some ((bif p then undef else .bool true)) := by obtain ⟨_, u, _, h⟩ := hd.out ⟨7, .guard⟩ (some 23) (by simp) rfl rfl; exact u.trans (congrArg some h)
            clear hd hi hvs
            cases p
            ·
              refine wanted_yes rfl rfl u23 ?_
              try simp only [cond_true, cond_false] at u24 u26 u23
              have jj := HJ.out
              go_simp
              exact hK.out _ _ rfl hS trivial
            ·
              refine wanted_nou rfl rfl u23 ?_
              exact hK.out undef W rfl hS trivial
          refine FlowStepsX.stepY 92 41 13 rfl rfl (by kernel_rfl) (by kernel_rfl) (by kernel_rfl) rfl rfl ?_ ?_
          ·
            intro cc act vs W hcc ha hvs hS hd hi K hK
            clear ha
            have u27 : act.tmps[27]? = some ((bif p then undef else .pointer (some ⟨b, (off + k * 8), none⟩))) := by obtain ⟨_, u, _, h⟩ := hd.out ⟨11, .data⟩ (some 27) (by simp) rfl rfl; exact u.trans (congrArg some h)
            have u23 : act.tmps[23]? = some ((bif p then undef else .bool true)) := by obtain ⟨_, u, _, h⟩ := hd.out ⟨7, .guard⟩ (some 23) (by simp) rfl rfl; exact u.trans (congrArg some h)
            clear hd hi hvs
            cases p
            ·
              refine wanted_yes rfl rfl u23 ?_
              try simp only [cond_true, cond_false] at u27 u23
              go_simp
              exact hK.out _ _ rfl hS trivial
            ·
              refine wanted_nou rfl rfl u23 ?_
              exact hK.out undef W rfl hS trivial
          refine FlowStepsX.stepY 92 41 14 rfl rfl (by kernel_rfl) (by kernel_rfl) (by kernel_rfl) rfl rfl ?_ ?_
          ·
            intro cc act vs W hcc ha hvs hS hd hi K hK
            clear ha
            have u28 : act.tmps[28]? = some ((bif p then undef else .pointer (some ⟨b, (off + k * 8), none⟩))) := by obtain ⟨_, u, _, h⟩ := hd.out ⟨12, .data⟩ (some 28) (by simp) rfl rfl; exact u.trans (congrArg some h)
            have u23 : act.tmps[23]? = some ((bif p then undef else .bool true)) := by obtain ⟨_, u, _, h⟩ := hd.out ⟨7, .guard⟩ (some 23) (by simp) rfl rfl; exact u.trans (congrArg some h)
            clear hd hi hvs
            cases p
            ·
              refine wanted_yes rfl rfl u23 ?_
              try simp only [cond_true, cond_false] at u28 u23
              have e9 := (hS.cell (p := ⟨b, _, none⟩) gb).trans cs0
              go_simp
              exact hK.out _ _ rfl hS trivial
            ·
              refine wanted_nou rfl rfl u23 ?_
              exact hK.out undef W rfl hS trivial
          refine FlowStepsX.stepY 92 41 15 rfl rfl (by kernel_rfl) (by kernel_rfl) (by kernel_rfl) rfl rfl ?_ ?_
          ·
            intro cc act vs W hcc ha hvs hS hd hi K hK
            clear ha
            have u23 : act.tmps[23]? = some ((bif p then undef else .bool true)) := by obtain ⟨_, u, _, h⟩ := hd.out ⟨7, .guard⟩ (some 23) (by simp) rfl rfl; exact u.trans (congrArg some h)
            have u4 : act.tmps[4]? = some (.pointer (some ⟨gd, 0, none⟩)) := (hi.out 4 (by kernel_rfl)).trans rfl
            clear hd hi hvs
            cases p
            ·
              refine wanted_yes rfl rfl u23 ?_
              try simp only [cond_true, cond_false] at u23
              go_simp
              exact hK.out _ _ rfl hS trivial
            ·
              refine wanted_nou rfl rfl u23 ?_
              exact hK.out undef W rfl hS trivial
          refine FlowStepsX.stepY 92 41 16 rfl rfl (by kernel_rfl) (by kernel_rfl) (by kernel_rfl) rfl rfl ?_ ?_
          ·
            intro cc act vs W hcc ha hvs hS hd hi K hK
            clear ha
            have u30 : act.tmps[30]? = some ((bif p then undef else .pointer (some ⟨gd, 0, none⟩))) := by obtain ⟨_, u, _, h⟩ := hd.out ⟨14, .data⟩ (some 30) (by simp) rfl rfl; exact u.trans (congrArg some h)
            have u23 : act.tmps[23]? = some ((bif p then undef else .bool true)) := by obtain ⟨_, u, _, h⟩ := hd.out ⟨7, .guard⟩ (some 23) (by simp) rfl rfl; exact u.trans (congrArg some h)
            clear hd hi hvs
            cases p
            ·
              refine wanted_yes rfl rfl u23 ?_
              try simp only [cond_true, cond_false] at u30 u23
              have e0 := (hS.cell (p := ⟨gd, 0, none⟩) gg).trans cg0
              go_simp
              exact hK.out _ _ rfl hS trivial
            ·
              refine wanted_nou rfl rfl u23 ?_
              exact hK.out undef W rfl hS trivial
          refine FlowStepsX.stepY 92 41 17 rfl rfl (by kernel_rfl) (by kernel_rfl) (by kernel_rfl) rfl rfl ?_ ?_
          ·
            intro cc act vs W hcc ha hvs hS hd hi K hK
            clear ha
            have u29 : act.tmps[29]? = some ((bif p then undef else .int .i64 sn)) := by obtain ⟨_, u, _, h⟩ := hd.out ⟨13, .data⟩ (some 29) (by simp) rfl rfl; exact u.trans (congrArg some h)
            have u31 : act.tmps[31]? = some ((bif p then undef else .int .i64 tn)) := by obtain ⟨_, u, _, h⟩ := hd.out ⟨15, .data⟩ (some 31) (by simp) rfl rfl; exact u.trans (congrArg some h)
            have u23 : act.tmps[23]? = some ((bif p then undef else .bool true)) := by obtain ⟨_, u, _, h⟩ := hd.out ⟨7, .guard⟩ (some 23) (by simp) rfl rfl; exact u.trans (congrArg some h)
            clear hd hi hvs
            cases p
            ·
              refine wanted_yes rfl rfl u23 ?_
              try simp only [cond_true, cond_false] at u29 u31 u23
              go_simp
              exact hK.out _ _ (congrArg Value.bool HR.out) hS trivial
            ·
              refine wanted_nou rfl rfl u23 ?_
              exact hK.out undef W rfl hS trivial
          refine FlowStepsX.stepY 92 41 18 rfl rfl (by kernel_rfl) (by kernel_rfl) (by kernel_rfl) rfl rfl ?_ ?_
          ·
            intro cc act vs W hcc ha hvs hS hd hi K hK
            clear ha
            have u23 : act.tmps[23]? = some ((bif p then undef else .bool true)) := by obtain ⟨_, u, _, h⟩ := hd.out ⟨7, .data⟩ (some 23) (by simp) rfl rfl; exact u.trans (congrArg some h)
            have u32 : act.tmps[32]? = some ((bif p then undef else .bool r)) := by obtain ⟨_, u, _, h⟩ := hd.out ⟨16, .data⟩ (some 32) (by simp) rfl rfl; exact u.trans (congrArg some h)
            have u20 : act.tmps[20]? = some (.bool p) := by obtain ⟨_, u, _, h⟩ := hd.out ⟨4, .guard⟩ (some 20) (by simp) rfl rfl; exact u.trans (congrArg some h)
            clear hd hi hvs
            cases p
            ·
              refine wanted_yes rfl rfl u20 ?_
              try simp only [cond_true, cond_false] at u23 u32
              go_simp
              exact hK.out _ _ rfl hS trivial
            ·
              refine wanted_no rfl rfl u20 ?_
              exact hK.out undef W rfl hS trivial
          refine FlowStepsX.stepY 92 41 19 rfl rfl (by kernel_rfl) (by kernel_rfl) (by kernel_rfl) rfl rfl ?_ ?_
          ·
            intro cc act vs W hcc ha hvs hS hd hi K hK
            clear ha
            have u20 : act.tmps[20]? = some (.bool p) := by obtain ⟨_, u, _, h⟩ := hd.out ⟨4, .data⟩ (some 20) (by simp) rfl rfl; exact u.trans (congrArg some h)
            have u33 : act.tmps[33]? = some ((bif p then undef else .bool r)) := by obtain ⟨_, u, _, h⟩ := hd.out ⟨17, .data⟩ (some 33) (by simp) rfl rfl; exact u.trans (congrArg some h)
            clear hd hi hvs
            refine wanted_un rfl ?_
            try simp only [cond_true, cond_false] at u33
            cases p
            ·
              go_simp
              exact hK.out _ _ (congrArg Value.bool HB1.out) hS trivial
            ·
              go_simp
              exact hK.out _ _ (congrArg Value.bool HB1.out) hS trivial
          refine FlowStepsX.stepY 92 41 20 rfl rfl (by kernel_rfl) (by kernel_rfl) (by kernel_rfl) rfl rfl ?_ ?_
          ·
            intro cc act vs W hcc ha hvs hS hd hi K hK
            clear ha
            have u34 : act.tmps[34]? = some (.bool B1) := by obtain ⟨_, u, _, h⟩ := hd.out ⟨18, .data⟩ (some 34) (by simp) rfl rfl; exact u.trans (congrArg some h)
            clear hd hi hvs
            refine wanted_un rfl ?_
            go_simp
            exact hK.out _ _ rfl hS trivial
          refine FlowStepsX.stepY 92 41 21 rfl rfl (by kernel_rfl) (by kernel_rfl) (by kernel_rfl) rfl rfl ?_ ?_
          ·
            intro cc act vs W hcc ha hvs hS hd hi K hK
            clear ha
            have u35 : act.tmps[35]? = some (.bool B1) := by obtain ⟨_, u, _, h⟩ := hd.out ⟨19, .guard⟩ (some 35) (by simp) rfl rfl; exact u.trans (congrArg some h)
            have u4 : act.tmps[4]? = some (.pointer (some ⟨gd, 0, none⟩)) := (hi.out 4 (by kernel_rfl)).trans rfl
            clear hd hi hvs
            cases B1
            ·
              refine wanted_yes rfl rfl u35 ?_
              go_simp
              exact hK.out _ _ rfl hS trivial
            ·
              refine wanted_no rfl rfl u35 ?_
              exact hK.out undef W rfl hS trivial
          refine FlowStepsX.stepY 92 41 22 rfl rfl (by kernel_rfl) (by kernel_rfl) (by kernel_rfl) rfl rfl ?_ ?_
          ·
            intro cc act vs W hcc ha hvs hS hd hi K hK
            clear ha
            have u36 : act.tmps[36]? = some ((bif B1 then undef else .pointer (some ⟨gd, 2, none⟩))) := by obtain ⟨_, u, _, h⟩ := hd.out ⟨20, .data⟩ (some 36) (by simp) rfl rfl; exact u.trans (congrArg some h)
            have u35 : act.tmps[35]? = some (.bool B1) := by obtain ⟨_, u, _, h⟩ := hd.out ⟨19, .guard⟩ (some 35) (by simp) rfl rfl; exact u.trans (congrArg some h)
            clear hd hi hvs
            cases B1
            ·
              refine wanted_yes rfl rfl u35 ?_
              try simp only [cond_true, cond_false] at u36
              have e2 := (hS.cell (p := ⟨gd, 2, none⟩) gg).trans cg2
              have e3 := (hS.cell (p := ⟨gd, 3, none⟩) gg).trans cg3
              have e4 := (hS.cell (p := ⟨gd, 4, none⟩) gg).trans cg4
              have e5 := (hS.cell (p := ⟨gd, 5, none⟩) gg).trans cg5
              go_simp
              exact hK.out _ _ rfl hS trivial
            ·
              refine wanted_no rfl rfl u35 ?_
              exact hK.out undef W rfl hS trivial
          refine FlowStepsX.stepY 92 41 23 rfl rfl (by kernel_rfl) (by kernel_rfl) (by kernel_rfl) rfl rfl ?_ ?_
          ·
            intro cc act vs W hcc ha hvs hS hd hi K hK
            clear ha
            have u37 : act.tmps[37]? = some ((bif B1 then undef else .agg #[.int .i64 t2, .int .i64 t3, .int .i64 t4, .int .i64 t5])) := by obtain ⟨_, u, _, h⟩ := hd.out ⟨21, .data⟩ (some 37) (by simp) rfl rfl; exact u.trans (congrArg some h)
            have u35 : act.tmps[35]? = some (.bool B1) := by obtain ⟨_, u, _, h⟩ := hd.out ⟨19, .guard⟩ (some 35) (by simp) rfl rfl; exact u.trans (congrArg some h)
            clear hd hi hvs
            cases B1
            ·
              refine wanted_yes rfl rfl u35 ?_
              try simp only [cond_true, cond_false] at u37
              go_wp2_with fail
              refine (credImpl_c _ _ _ _ _).mono ?_
              rintro e6 w6 ⟨rfl, hb6⟩
              exact hK.out _ w6 (congrArg Value.bool HS.out) (hS.trans (hb6.mono hS.size)) trivial
            ·
              refine wanted_no rfl rfl u35 ?_
              exact hK.out undef W rfl hS trivial
          refine FlowStepsX.stepY 92 41 24 rfl rfl (by kernel_rfl) (by kernel_rfl) (by kernel_rfl) rfl rfl ?_ ?_
          ·
            intro cc act vs W hcc ha hvs hS hd hi K hK
            clear ha
            have u38 : act.tmps[38]? = some ((bif B1 then undef else .bool (!s))) := by obtain ⟨_, u, _, h⟩ := hd.out ⟨22, .data⟩ (some 38) (by simp) rfl rfl; exact u.trans (congrArg some h)
            have u35 : act.tmps[35]? = some (.bool B1) := by obtain ⟨_, u, _, h⟩ := hd.out ⟨19, .guard⟩ (some 35) (by simp) rfl rfl; exact u.trans (congrArg some h)
            clear hd hi hvs
            cases B1
            ·
              refine wanted_yes rfl rfl u35 ?_
              try simp only [cond_true, cond_false] at u38
              go_simp
              exact hK.out _ _ rfl hS trivial
            ·
              refine wanted_no rfl rfl u35 ?_
              exact hK.out undef W rfl hS trivial
          refine FlowStepsX.stepY 92 41 25 rfl rfl (by kernel_rfl) (by kernel_rfl) (by kernel_rfl) rfl rfl ?_ ?_
          ·
            intro cc act vs W hcc ha hvs hS hd hi K hK
            clear ha
            have u35 : act.tmps[35]? = some (.bool B1) := by obtain ⟨_, u, _, h⟩ := hd.out ⟨19, .data⟩ (some 35) (by simp) rfl rfl; exact u.trans (congrArg some h)
            have u39 : act.tmps[39]? = some ((bif B1 then undef else .bool s)) := by obtain ⟨_, u, _, h⟩ := hd.out ⟨23, .data⟩ (some 39) (by simp) rfl rfl; exact u.trans (congrArg some h)
            clear hd hi hvs
            refine wanted_un rfl ?_
            try simp only [cond_true, cond_false] at u39
            cases B1
            ·
              go_simp
              exact hK.out _ _ (congrArg Value.bool HB2.out) hS trivial
            ·
              go_simp
              exact hK.out _ _ (congrArg Value.bool HB2.out) hS trivial
          refine FlowStepsX.stepY 92 41 26 rfl rfl (by kernel_rfl) (by kernel_rfl) (by kernel_rfl) rfl rfl ?_ ?_
          ·
            intro cc act vs W hcc ha hvs hS hd hi K hK
            clear ha
            have u40 : act.tmps[40]? = some (.bool B2) := by obtain ⟨_, u, _, h⟩ := hd.out ⟨24, .data⟩ (some 40) (by simp) rfl rfl; exact u.trans (congrArg some h)
            clear hd hi hvs
            refine wanted_un rfl ?_
            go_simp
            exact hK.out _ _ rfl hS trivial
          refine FlowStepsX.stepY 92 41 27 rfl rfl (by kernel_rfl) (by kernel_rfl) (by kernel_rfl) rfl rfl ?_ ?_
          ·
            intro cc act vs W hcc ha hvs hS hd hi K hK
            clear ha
            have u41 : act.tmps[41]? = some (.bool B2) := by obtain ⟨_, u, _, h⟩ := hd.out ⟨25, .guard⟩ (some 41) (by simp) rfl rfl; exact u.trans (congrArg some h)
            have u4 : act.tmps[4]? = some (.pointer (some ⟨gd, 0, none⟩)) := (hi.out 4 (by kernel_rfl)).trans rfl
            clear hd hi hvs
            cases B2
            ·
              refine wanted_yes rfl rfl u41 ?_
              go_simp
              exact hK.out _ _ rfl hS trivial
            ·
              refine wanted_no rfl rfl u41 ?_
              exact hK.out undef W rfl hS trivial
          refine FlowStepsX.stepY 92 41 28 rfl rfl (by kernel_rfl) (by kernel_rfl) (by kernel_rfl) rfl rfl ?_ ?_
          ·
            intro cc act vs W hcc ha hvs hS hd hi K hK
            clear ha
            have u42 : act.tmps[42]? = some ((bif B2 then undef else .pointer (some ⟨gd, 7, none⟩))) := by obtain ⟨_, u, _, h⟩ := hd.out ⟨26, .data⟩ (some 42) (by simp) rfl rfl; exact u.trans (congrArg some h)
            have u41 : act.tmps[41]? = some (.bool B2) := by obtain ⟨_, u, _, h⟩ := hd.out ⟨25, .guard⟩ (some 41) (by simp) rfl rfl; exact u.trans (congrArg some h)
            clear hd hi hvs
            cases B2
            ·
              refine wanted_yes rfl rfl u41 ?_
              try simp only [cond_true, cond_false] at u42
              have e7 := (hS.cell (p := ⟨gd, 7, none⟩) gg).trans cg7
              go_simp
              exact hK.out _ _ rfl hS trivial
            ·
              refine wanted_no rfl rfl u41 ?_
              exact hK.out undef W rfl hS trivial
          refine FlowStepsX.stepY 92 41 29 rfl rfl (by kernel_rfl) (by kernel_rfl) (by kernel_rfl) rfl rfl ?_ ?_
          ·
            intro cc act vs W hcc ha hvs hS hd hi K hK
            clear ha
            have u43 : act.tmps[43]? = some ((bif B2 then undef else .int .i64 tr)) := by obtain ⟨_, u, _, h⟩ := hd.out ⟨27, .data⟩ (some 43) (by simp) rfl rfl; exact u.trans (congrArg some h)
            have u41 : act.tmps[41]? = some (.bool B2) := by obtain ⟨_, u, _, h⟩ := hd.out ⟨25, .guard⟩ (some 41) (by simp) rfl rfl; exact u.trans (congrArg some h)
            clear hd hi hvs
            cases B2
            ·
              refine wanted_yes rfl rfl u41 ?_
              try simp only [cond_true, cond_false] at u43
              go_wp2_with fail
              refine (within_c _ _ _ _).mono ?_
              rintro e6 w6 ⟨rfl, rfl⟩
              exact hK.out _ _ (congrArg Value.bool HX.out) hS trivial
            ·
              refine wanted_no rfl rfl u41 ?_
              exact hK.out undef W rfl hS trivial
          refine FlowStepsX.stepY 92 41 30 rfl rfl (by kernel_rfl) (by kernel_rfl) (by kernel_rfl) rfl rfl ?_ ?_
          ·
            intro cc act vs W hcc ha hvs hS hd hi K hK
            clear ha
            have u44 : act.tmps[44]? = some ((bif B2 then undef else .bool (!x))) := by obtain ⟨_, u, _, h⟩ := hd.out ⟨28, .data⟩ (some 44) (by simp) rfl rfl; exact u.trans (congrArg some h)
            have u41 : act.tmps[41]? = some (.bool B2) := by obtain ⟨_, u, _, h⟩ := hd.out ⟨25, .guard⟩ (some 41) (by simp) rfl rfl; exact u.trans (congrArg some h)
            clear hd hi hvs
            cases B2
            ·
              refine wanted_yes rfl rfl u41 ?_
              try simp only [cond_true, cond_false] at u44
              go_simp
              exact hK.out _ _ rfl hS trivial
            ·
              refine wanted_no rfl rfl u41 ?_
              exact hK.out undef W rfl hS trivial
          refine FlowStepsX.stepY 92 41 31 rfl rfl (by kernel_rfl) (by kernel_rfl) (by kernel_rfl) rfl rfl ?_ ?_
          ·
            intro cc act vs W hcc ha hvs hS hd hi K hK
            clear ha
            have u41 : act.tmps[41]? = some (.bool B2) := by obtain ⟨_, u, _, h⟩ := hd.out ⟨25, .data⟩ (some 41) (by simp) rfl rfl; exact u.trans (congrArg some h)
            have u45 : act.tmps[45]? = some ((bif B2 then undef else .bool x)) := by obtain ⟨_, u, _, h⟩ := hd.out ⟨29, .data⟩ (some 45) (by simp) rfl rfl; exact u.trans (congrArg some h)
            clear hd hi hvs
            refine wanted_un rfl ?_
            try simp only [cond_true, cond_false] at u45
            cases B2
            ·
              go_simp
              exact hK.out _ _ (congrArg Value.bool HB3.out) hS trivial
            ·
              go_simp
              exact hK.out _ _ (congrArg Value.bool HB3.out) hS trivial
          refine FlowStepsX.stepY 92 41 32 rfl rfl (by kernel_rfl) (by kernel_rfl) (by kernel_rfl) rfl rfl ?_ ?_
          ·
            intro cc act vs W hcc ha hvs hS hd hi K hK
            clear ha
            have u46 : act.tmps[46]? = some (.bool B3) := by obtain ⟨_, u, _, h⟩ := hd.out ⟨30, .data⟩ (some 46) (by simp) rfl rfl; exact u.trans (congrArg some h)
            clear hd hi hvs
            refine wanted_un rfl ?_
            go_simp
            exact hK.out _ _ rfl hS trivial
          refine FlowStepsX.stepY 92 41 33 rfl rfl (by kernel_rfl) (by kernel_rfl) (by kernel_rfl) rfl rfl ?_ ?_
          ·
            intro cc act vs W hcc ha hvs hS hd hi K hK
            clear ha
            have u47 : act.tmps[47]? = some (.bool B3) := by obtain ⟨_, u, _, h⟩ := hd.out ⟨31, .guard⟩ (some 47) (by simp) rfl rfl; exact u.trans (congrArg some h)
            have u4 : act.tmps[4]? = some (.pointer (some ⟨gd, 0, none⟩)) := (hi.out 4 (by kernel_rfl)).trans rfl
            clear hd hi hvs
            cases B3
            ·
              refine wanted_yes rfl rfl u47 ?_
              go_simp
              exact hK.out _ _ rfl hS trivial
            ·
              refine wanted_no rfl rfl u47 ?_
              exact hK.out undef W rfl hS trivial
          refine FlowStepsX.stepY 92 41 34 rfl rfl (by kernel_rfl) (by kernel_rfl) (by kernel_rfl) rfl rfl ?_ ?_
          ·
            intro cc act vs W hcc ha hvs hS hd hi K hK
            clear ha
            have u48 : act.tmps[48]? = some ((bif B3 then undef else .pointer (some ⟨gd, 6, none⟩))) := by obtain ⟨_, u, _, h⟩ := hd.out ⟨32, .data⟩ (some 48) (by simp) rfl rfl; exact u.trans (congrArg some h)
            have u47 : act.tmps[47]? = some (.bool B3) := by obtain ⟨_, u, _, h⟩ := hd.out ⟨31, .guard⟩ (some 47) (by simp) rfl rfl; exact u.trans (congrArg some h)
            clear hd hi hvs
            cases B3
            ·
              refine wanted_yes rfl rfl u47 ?_
              try simp only [cond_true, cond_false] at u48
              have e6 := (hS.cell (p := ⟨gd, 6, none⟩) gg).trans cg6
              go_simp
              exact hK.out _ _ rfl hS trivial
            ·
              refine wanted_no rfl rfl u47 ?_
              exact hK.out undef W rfl hS trivial
          refine FlowStepsX.stepY 92 41 35 rfl rfl (by kernel_rfl) (by kernel_rfl) (by kernel_rfl) rfl rfl ?_ ?_
          ·
            intro cc act vs W hcc ha hvs hS hd hi K hK
            clear ha
            have u49 : act.tmps[49]? = some ((bif B3 then undef else .bool (!e))) := by obtain ⟨_, u, _, h⟩ := hd.out ⟨33, .data⟩ (some 49) (by simp) rfl rfl; exact u.trans (congrArg some h)
            have u47 : act.tmps[47]? = some (.bool B3) := by obtain ⟨_, u, _, h⟩ := hd.out ⟨31, .guard⟩ (some 47) (by simp) rfl rfl; exact u.trans (congrArg some h)
            clear hd hi hvs
            cases B3
            ·
              refine wanted_yes rfl rfl u47 ?_
              try simp only [cond_true, cond_false] at u49
              go_simp
              exact hK.out _ _ rfl hS trivial
            ·
              refine wanted_no rfl rfl u47 ?_
              exact hK.out undef W rfl hS trivial
          refine FlowStepsX.stepY 92 41 36 rfl rfl (by kernel_rfl) (by kernel_rfl) (by kernel_rfl) rfl rfl ?_ ?_
          ·
            intro cc act vs W hcc ha hvs hS hd hi K hK
            clear ha
            have u50 : act.tmps[50]? = some ((bif B3 then undef else .bool e)) := by obtain ⟨_, u, _, h⟩ := hd.out ⟨34, .data⟩ (some 50) (by simp) rfl rfl; exact u.trans (congrArg some h)
            have u47 : act.tmps[47]? = some (.bool B3) := by obtain ⟨_, u, _, h⟩ := hd.out ⟨31, .guard⟩ (some 47) (by simp) rfl rfl; exact u.trans (congrArg some h)
            clear hd hi hvs
            cases B3
            ·
              refine wanted_yes rfl rfl u47 ?_
              try simp only [cond_true, cond_false] at u50
              go_simp
              exact hK.out _ _ rfl hS trivial
            ·
              refine wanted_no rfl rfl u47 ?_
              exact hK.out undef W rfl hS trivial
          refine FlowStepsX.stepY 92 41 37 rfl rfl (by kernel_rfl) (by kernel_rfl) (by kernel_rfl) rfl rfl ?_ ?_
          ·
            intro cc act vs W hcc ha hvs hS hd hi K hK
            clear ha
            have u51 : act.tmps[51]? = some ((bif B3 then undef else .bool e)) := by obtain ⟨_, u, _, h⟩ := hd.out ⟨35, .guard⟩ (some 51) (by simp) rfl rfl; exact u.trans (congrArg some h)
            have u4 : act.tmps[4]? = some (.pointer (some ⟨gd, 0, none⟩)) := (hi.out 4 (by kernel_rfl)).trans rfl
            clear hd hi hvs
            cases B3
            ·
              cases e
              ·
                refine wanted_no rfl rfl u51 ?_
                exact hK.out undef W rfl hS trivial
              ·
                refine wanted_yes rfl rfl u51 ?_
                try simp only [cond_true, cond_false] at u51
                go_simp
                exact hK.out _ _ rfl hS trivial
            ·
              refine wanted_nou rfl rfl u51 ?_
              exact hK.out undef W rfl hS trivial
          refine FlowStepsX.stepY 92 41 38 rfl rfl (by kernel_rfl) (by kernel_rfl) (by kernel_rfl) rfl rfl ?_ ?_
          ·
            intro cc act vs W hcc ha hvs hS hd hi K hK
            clear ha
            have u52 : act.tmps[52]? = some ((bif B3 then undef else (bif e then .pointer (some ⟨gd, 7, none⟩) else undef))) := by obtain ⟨_, u, _, h⟩ := hd.out ⟨36, .data⟩ (some 52) (by simp) rfl rfl; exact u.trans (congrArg some h)
            have u51 : act.tmps[51]? = some ((bif B3 then undef else .bool e)) := by obtain ⟨_, u, _, h⟩ := hd.out ⟨35, .guard⟩ (some 51) (by simp) rfl rfl; exact u.trans (congrArg some h)
            clear hd hi hvs
            cases B3
            ·
              cases e
              ·
                refine wanted_no rfl rfl u51 ?_
                exact hK.out undef W rfl hS trivial
              ·
                refine wanted_yes rfl rfl u51 ?_
                try simp only [cond_true, cond_false] at u52 u51
                have e7 := (hS.cell (p := ⟨gd, 7, none⟩) gg).trans cg7
                go_simp
                exact hK.out _ _ rfl hS trivial
            ·
              refine wanted_nou rfl rfl u51 ?_
              exact hK.out undef W rfl hS trivial
          refine FlowStepsX.stepY 92 41 39 rfl rfl (by kernel_rfl) (by kernel_rfl) (by kernel_rfl) rfl rfl ?_ ?_
          ·
            intro cc act vs W hcc ha hvs hS hd hi K hK
            clear ha
            have u53 : act.tmps[53]? = some ((bif B3 then undef else (bif e then .int .i64 tr else undef))) := by obtain ⟨_, u, _, h⟩ := hd.out ⟨37, .data⟩ (some 53) (by simp) rfl rfl; exact u.trans (congrArg some h)
            have u51 : act.tmps[51]? = some ((bif B3 then undef else .bool e)) := by obtain ⟨_, u, _, h⟩ := hd.out ⟨35, .guard⟩ (some 51) (by simp) rfl rfl; exact u.trans (congrArg some h)
            clear hd hi hvs
            cases B3
            ·
              cases e
              ·
                refine wanted_no rfl rfl u51 ?_
                exact hK.out undef W rfl hS trivial
              ·
                refine wanted_yes rfl rfl u51 ?_
                try simp only [cond_true, cond_false] at u53 u51
                go_simp
                exact hK.out _ _ (congrArg Value.bool HZ.out) hS trivial
            ·
              refine wanted_nou rfl rfl u51 ?_
              exact hK.out undef W rfl hS trivial
          refine FlowStepsX.stepY 92 41 40 rfl rfl (by kernel_rfl) (by kernel_rfl) (by kernel_rfl) rfl rfl ?_ ?_
          ·
            intro cc act vs W hcc ha hvs hS hd hi K hK
            clear ha
            have u51 : act.tmps[51]? = some ((bif B3 then undef else .bool e)) := by obtain ⟨_, u, _, h⟩ := hd.out ⟨35, .data⟩ (some 51) (by simp) rfl rfl; exact u.trans (congrArg some h)
            have u54 : act.tmps[54]? = some ((bif B3 then undef else (bif e then .bool z else undef))) := by obtain ⟨_, u, _, h⟩ := hd.out ⟨38, .data⟩ (some 54) (by simp) rfl rfl; exact u.trans (congrArg some h)
            have u47 : act.tmps[47]? = some (.bool B3) := by obtain ⟨_, u, _, h⟩ := hd.out ⟨31, .guard⟩ (some 47) (by simp) rfl rfl; exact u.trans (congrArg some h)
            clear hd hi hvs
            cases B3
            ·
              refine wanted_yes rfl rfl u47 ?_
              try simp only [cond_true, cond_false] at u51 u54
              cases e
              ·
                go_simp
                exact hK.out _ _ rfl hS trivial
              ·
                go_simp
                exact hK.out _ _ rfl hS trivial
            ·
              refine wanted_no rfl rfl u47 ?_
              exact hK.out undef W rfl hS trivial
          refine FlowStepsX.stepY 92 41 41 rfl rfl (by kernel_rfl) (by kernel_rfl) (by kernel_rfl) rfl rfl ?_ ?_
          ·
            intro cc act vs W hcc ha hvs hS hd hi K hK
            clear ha
            have u47 : act.tmps[47]? = some (.bool B3) := by obtain ⟨_, u, _, h⟩ := hd.out ⟨31, .data⟩ (some 47) (by simp) rfl rfl; exact u.trans (congrArg some h)
            have u55 : act.tmps[55]? = some ((bif B3 then undef else .bool (e && z))) := by obtain ⟨_, u, _, h⟩ := hd.out ⟨39, .data⟩ (some 55) (by simp) rfl rfl; exact u.trans (congrArg some h)
            clear hd hi hvs
            refine wanted_un rfl ?_
            try simp only [cond_true, cond_false] at u55
            cases B3
            ·
              go_simp
              exact hK.out _ _ (congrArg Value.bool HB4.out) hS trivial
            ·
              go_simp
              exact hK.out _ _ (congrArg Value.bool HB4.out) hS trivial
          exact FlowStepsX.nil
        · intro c' ρ W hc' hS hd
          simp only [putFrom, Act.put, List.setIfInBounds_toArray, List.set_cons_zero, List.set_cons_succ, Nat.reduceAdd]
          have d40 : ρ 40 = .bool B4 := hd.out 40 (by decide) (by kernel_rfl)
          clear hd
          generalize ρ 40 = x40 at d40 ⊢
          subst d40
          have HW := hide (HBW.out.trans (hS.mono HBW.out.size))
          cases B4
          case true =>
            have HF := hide (procsB_bad HT.out (POk_bad (p := p) (r := r) (s := s) (x := x) (e := e) (z := z) HP.out (fun h => ⟨sp, by omega, HSP.out, by have h1 := HR.out; rw [h] at h1; have h2 := HSN.out; simp at h1; omega⟩) HS.out HX.out (fun h => by have := HZ.out; rw [h] at this; simpa using this) HPB.out))
            go_wp2_with fail
            go_ret
            exact ⟨by rw [HF.out]; rfl, HW.out⟩
          have HG := hide (fun hrun => POk_good (l := l) (i := k + 1) (tp := tp) (p := p) (r := r) (s := s) (x := x) (e := e) (z := z) HP.out (fun h _ q hq => by have h1 := HR.out; rw [h] at h1; have h2 := HSN.out; have hqq := hq.symm.trans HSP.out; simp at hqq h1; subst hqq; omega) HS.out HX.out (fun h => by have := HZ.out; rw [h] at this; simpa using this) HPB.out hrun)
          have y0 := (hS.cell (p := ⟨gd, 0, none⟩) gg).trans cg0
          have y1 := (hS.cell (p := ⟨gd, 1, none⟩) gg).trans cg1
          have y6 := (hS.cell (p := ⟨gd, 6, none⟩) gg).trans cg6
          have gw : gd < W.heap.size := Nat.lt_of_lt_of_le gg hS.size
          have HI2 := hide (HI.out.below HW.out)
          clear hS cg0 cg1 cg2 cg3 cg4 cg5 cg6 cg7
          have jk : (0 : Int) < (k : Int) + 1 := by omega
          go_wp2_with fail
          refine (runs_c _ _ _ l tp _ HI2.out hn hc).mono ?_
          rintro e6 w6 ⟨rfl, hb6⟩
          have HW6 := hide (HW.out.trans (hb6.mono HW.out.size))
          have y0' := (hb6.cell (p := ⟨gd, 0, none⟩) gw).trans y0
          have y1' := (hb6.cell (p := ⟨gd, 1, none⟩) gw).trans y1
          have gw6 : gd < w6.heap.size := Nat.lt_of_lt_of_le gw hb6.size
          clear hb6 y0 y1 y6
          cases hru : runsB l tp
          · have HF := hide (procsB_bad HT.out (fun h => by have := (h.2.2.2.2.2 (by omega)).1; simp [hru] at this))
            go_wp2_with fail
            go_ret
            exact ⟨by rw [HF.out]; rfl, HW6.out⟩
          have HRU := hide hru
          clear hru
          cases hpn : (tp == tn)
          case true =>
            have HF := hide (procsB_bad HT.out (fun h => by have := (h.2.2.2.2.2 (by omega)).2; simp at hpn; exact this hpn))
            go_wp2_with fail
            go_ret
            exact ⟨by rw [HF.out]; rfl, HW6.out⟩
          have HG2 := hide (HG.out (fun _ => ⟨HRU.out, by simpa using hpn⟩))
          go_wp2_with fail
          refine ⟨⟨k + 1 + 1, by omega, by go_num, hup.out.step HT.out HG2.out, fun _ => hfst.out (by omega), HW6.out⟩, by simp [intOf]; omega⟩
    · obtain rfl : n = i := by omega
      have HF := hide (procsB_iff.2 (show PV l from ⟨by rw [HL.out]; exact hup.out, HLN.out.1, HLN.out.2, hfst.out (by have := HLN.out.1; have := HL.out; omega)⟩))
      have HW := hide hBw.out
      go_wp2
      go_ret
      exact ⟨by rw [HF.out]; rfl, HW.out⟩
end Go.Proofs.Ytlfchcjollcdhaa
