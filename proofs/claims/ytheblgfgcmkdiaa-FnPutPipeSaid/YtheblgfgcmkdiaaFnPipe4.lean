/-
  The law of PutPipe over drawn arguments. No condition.
-/
import Derived.Test.YtheblgfgcmkdiaaProg
import Derived.Test.YtheblgfgcmkdiaaFnPipe3
namespace Go.Proofs.Ytheblgfgcmkdiaa
open Go.RowKit
set_option linter.unusedSimpArgs false
set_option linter.unusedVariables false

theorem put_pipe {s t : ByteArray} {p r : Int} (hv : pipeB s p r = true) (hp : p ≠ 0) (hr : r ≠ 0) :
    ∃ m : Nat, ppN s t p r = m ∧ m ≤ t.size ∧ ppS s t p r = s ++ t.extract 0 m ∧ ppP s p r = p ∧ ppR s p r = r ∧ pipeB (s ++ t.extract 0 m) p r = true ∧ (s ++ t.extract 0 m).size ≤ 20 ∧ (m = t.size ∨ (s ++ t.extract 0 m).size = 20) ∧ tkT (s ++ t.extract 0 m) p r 20 = s ++ t.extract 0 m := by
  have hq := pipeB_yes hv
  have hp' : (p == 0) = false := by simpa using hp
  have hr' : (r == 0) = false := by simpa using hr
  have key : ∃ m : Nat, ppN s t p r = m ∧ m ≤ t.size ∧ ppS s t p r = s ++ t.extract 0 m ∧ (s ++ t.extract 0 m).size ≤ 20 ∧ (m = t.size ∨ (s ++ t.extract 0 m).size = 20) := by
    by_cases h : t.size ≤ 20 - s.size
    · refine ⟨t.size, by simp [ppN, hv, hp', hr', putM, h], Nat.le_refl _, by simp only [ppS, hv, hp', hr', putT, h, if_true, Bool.false_eq_true, if_false, ext_all], ?_, .inl rfl⟩
      rw [ext_all, ByteArray.size_append]; omega
    · refine ⟨20 - s.size, by simp [ppN, hv, hp', hr', putM, h]; omega, by omega, by simp only [ppS, hv, hp', hr', putT, h, if_true, Bool.false_eq_true, if_false], ?_, .inr ?_⟩
      · rw [ByteArray.size_append, ByteArray.size_extract]; omega
      · rw [ByteArray.size_append, ByteArray.size_extract]; omega
  obtain ⟨m, h1, h2, h3, h4, h5⟩ := key
  have hv2 : pipeB (s ++ t.extract 0 m) p r = true := by
    simp only [pipeB, Bool.and_eq_true, inB_iff, decide_eq_true_eq] at hv ⊢
    exact ⟨h4, hv.2⟩
  refine ⟨m, h1, h2, h3, by simp [ppP, hv], by simp [ppR, hv], hv2, h4, h5, ?_⟩
  simp only [tkT, hv2, if_true]
  rw [if_neg (by omega)]
  split
  · have : (20 : Int).toNat = (s ++ t.extract 0 m).size := by omega
    rw [this, ext_all]
  · rfl
def putV0 (s t : ByteArray) (a b : Int) (m gd : Nat) (i : Nat) : Value :=
  match i with
  | 0 => .int .i64 (m : Nat)
  | 1 => .string t
  | 2 => .int .i64 (t.size : Nat)
  | 3 => .bool true
  | 4 => .bool true
  | 5 => .string (s ++ t.extract 0 m)
  | 6 => .pointer (some ⟨gd, 0, none⟩)
  | 7 => .string s
  | 8 => .string t
  | 9 => .int .i64 (m : Nat)
  | 10 => .string (t.extract 0 m)
  | 11 => .string (s ++ t.extract 0 m)
  | 12 => .bool true
  | 13 => .bool true
  | 14 => .bool true
  | 15 => .agg #[.string (s ++ t.extract 0 m), .int .i64 a, .int .i64 b]
  | 16 => .bool true
  | 17 => .bool true
  | 18 => .bool true
  | 19 => .int .i64 (m : Nat)
  | 20 => .string t
  | 21 => .int .i64 (t.size : Nat)
  | 22 => .bool true
  | 23 => .bool true
  | 24 => undef
  | 25 => undef
  | 26 => undef
  | 27 => .bool true
  | 28 => .bool true
  | _ => .bool true
def putV1 (s t : ByteArray) (a b : Int) (m gd : Nat) (i : Nat) : Value :=
  match i with
  | 0 => .int .i64 (m : Nat)
  | 1 => .string t
  | 2 => .int .i64 (t.size : Nat)
  | 3 => .bool true
  | 4 => .bool true
  | 5 => .string (s ++ t.extract 0 m)
  | 6 => .pointer (some ⟨gd, 0, none⟩)
  | 7 => .string s
  | 8 => .string t
  | 9 => .int .i64 (m : Nat)
  | 10 => .string (t.extract 0 m)
  | 11 => .string (s ++ t.extract 0 m)
  | 12 => .bool true
  | 13 => .bool true
  | 14 => .bool true
  | 15 => .agg #[.string (s ++ t.extract 0 m), .int .i64 a, .int .i64 b]
  | 16 => .bool true
  | 17 => .bool true
  | 18 => .bool true
  | 19 => .int .i64 (m : Nat)
  | 20 => .string t
  | 21 => .int .i64 (t.size : Nat)
  | 22 => .bool false
  | 23 => .bool false
  | 24 => .string (s ++ t.extract 0 m)
  | 25 => .int .i64 ((s.size : Int) + (m : Int))
  | 26 => .bool true
  | 27 => .bool true
  | 28 => .bool true
  | _ => .bool true
set_option maxRecDepth 100000 in
set_option maxHeartbeats 4000000 in
theorem fnPutPipe_walk {w : World} (A : Option Addr) (n c : Nat) (h : InB w A n c) :
    Calls Try.prog 10 #[.slice A n c] w fun e w' => e = .returned (.bool true) ∧ Below w.heap.size w w' := by
  have hm := h.2.1
  unfold maxLen at hm
  have hc := h.1
  have H := hide h
  clear h
  by_cases h20 : 1048576 < n
  · go_enter Try.func10, Try.ntmps10
    go_wp2_with fail
    go_ret
    exact ⟨rfl, Below.refl _ _⟩
  · go_enter Try.func10, Try.ntmps10
    go_wp2_with fail
    refine (gPutPipe_c A n c _ (H.out.below (Below.refl _ _))).mono ?_
    rintro e w1 ⟨s, t, a, b, rfl, hs21, q1, q2, q3, q4, ht12, hb1⟩
    have HS := hide (show s.size ≤ maxLen by unfold maxLen; omega)
    have HT := hide (show t.size ≤ maxLen by unfold maxLen; omega)
    have PS := hide (putSpec_p s t a b HS.out HT.out)
    go_wp2_with fail
    refine (putImpl_p s t a b HS.out HT.out _).mono ?_
    by_cases hok : pipeB s a b = true ∧ a ≠ 0 ∧ b ≠ 0
    · obtain ⟨hv, ha0, hb0⟩ := hok
      obtain ⟨m, f1, f2, f3, f4, f5, f6, f7, f8, f9⟩ := put_pipe (t := t) hv ha0 hb0
      rw [f1, f3, f4, f5] at PS ⊢
      have HX := hide (show (s ++ t.extract 0 m).size ≤ maxLen by unfold maxLen; omega)
      have PI := hide (takeImpl_p (s ++ t.extract 0 m) a b 20 HX.out)
      have PV := hide (pipeImpl_c (s ++ t.extract 0 m) a b HX.out)
      rw [f6] at PV
      rw [f9] at PI
      generalize tkP (s ++ t.extract 0 m) a b 20 = u1 at PI
      generalize tkQ (s ++ t.extract 0 m) a b 20 = u2 at PI
      generalize tkR (s ++ t.extract 0 m) a b 20 = u3 at PI
      generalize tkE (s ++ t.extract 0 m) a b 20 = u5 at PI
      have H8 := hide f8
      have HLE := hide (show ((m : Nat) : Int) ≤ (t.size : Nat) by omega)
      clear f1 f3 f4 f5 f6 f8 f9 hv ha0 hb0
      rintro e w2 ⟨rfl, hb2⟩
      have L2 := live hb2 w1.heap.size (by first | omega | (simp; done) | (simp; omega))
      have B2 : Below w.heap.size w w2 := (by repeat' (first | exact Below.refl _ _ | assumption | exact And.left (by assumption) | omega | (simp; done) | (simp; omega) | (simp at *; omega) | (refine Below.setCell ?_ ?_ _) | (refine below_alloc0 ?_ _) | (refine Below.drew ?_) | (refine below_drewN ?_ _) | (refine below_via0 ?_ (by assumption)) | (refine Below.alloc ?_ ?_ _) | (refine below_via ?_ (by assumption) ?_)))
      go_wp2_with fail
      refine (PS.out _).mono ?_
      rintro e w3 ⟨rfl, hb3⟩
      have L3 := live hb3 w1.heap.size (by first | omega | (simp; done) | (simp; omega))
      have M3 := live hb3 w2.heap.size (by first | omega | (simp; done) | (simp; omega))
      have B3 : Below w.heap.size w w3 := (by repeat' (first | exact Below.refl _ _ | assumption | exact And.left (by assumption) | omega | (simp; done) | (simp; omega) | (simp at *; omega) | (refine Below.setCell ?_ ?_ _) | (refine below_alloc0 ?_ _) | (refine Below.drew ?_) | (refine below_drewN ?_ _) | (refine below_via0 ?_ (by assumption)) | (refine Below.alloc ?_ ?_ _) | (refine below_via ?_ (by assumption) ?_)))
      go_wp2_with fail
      refine (PI.out _).mono ?_
      rintro e w4 ⟨rfl, hb4⟩
      have L4 := live hb4 w1.heap.size (by first | omega | (simp; done) | (simp; omega))
      have M4 := live hb4 w2.heap.size (by first | omega | (simp; done) | (simp; omega))
      have B4 : Below w.heap.size w w4 := (by repeat' (first | exact Below.refl _ _ | assumption | exact And.left (by assumption) | omega | (simp; done) | (simp; omega) | (simp at *; omega) | (refine Below.setCell ?_ ?_ _) | (refine below_alloc0 ?_ _) | (refine Below.drew ?_) | (refine below_drewN ?_ _) | (refine below_via0 ?_ (by assumption)) | (refine Below.alloc ?_ ?_ _) | (refine below_via ?_ (by assumption) ?_)))
      have gg : w1.heap.size < w4.heap.size := L4.1
      have gx : w2.heap.size < w4.heap.size := M4.1
      have ca : w4.cell? ⟨w1.heap.size, 0, none⟩ = some (.string s) := by simp [go_sem, L4, L3, L2]
      have cy : w4.cell? ⟨w2.heap.size, 0, none⟩ = some (.string (s ++ t.extract 0 m)) := by simp [go_sem, M4, M3]
      have cy1 : w4.cell? ⟨w2.heap.size, 1, none⟩ = some (.int .i64 a) := by simp [go_sem, M4, M3]
      have cy2 : w4.cell? ⟨w2.heap.size, 2, none⟩ = some (.int .i64 b) := by simp [go_sem, M4, M3]
      go_wp2_with fail
      obtain ⟨gd, hgd⟩ : ∃ gd, gd = w1.heap.size := ⟨_, rfl⟩
      obtain ⟨xd, hxd⟩ : ∃ xd, xd = w2.heap.size := ⟨_, rfl⟩
      rw [← hgd] at ca gg ⊢
      rw [← hxd] at cy cy1 cy2 gx ⊢
      clear hgd hxd L2 L3 M3 L4 M4
      by_cases h7 : m = t.size
      · have HM := hide (show ((m : Nat) : Int) = (t.size : Nat) by omega)
        clear h7
        refine wp_flowX (os := [_, _, _, _, _, _, _, _, _, _, _, _, _, _, _, _, _, _, _, _, _, _, _, _, _, _, _, _, _, _]) (fun c W => Below w4.heap.size w4 W) (fun _ _ _ => True) (fun i v _ => v = putV0 s t a b m gd i) 30 rfl ?_ ?_ ?_ (fun i j v w1 w2 _ h _ => h) ?_ ?_ ?_
        · kernel_rfl
        · kernel_rfl
        · kernel_rfl
        · exact (by repeat' (first | exact Below.refl _ _ | assumption | exact And.left (by assumption) | omega | (simp; done) | (simp; omega) | (simp at *; omega) | (refine Below.setCell ?_ ?_ _) | (refine below_alloc0 ?_ _) | (refine Below.drew ?_) | (refine below_drewN ?_ _) | (refine below_via0 ?_ (by assumption)) | (refine Below.alloc ?_ ?_ _) | (refine below_via ?_ (by assumption) ?_)))
        ·
          refine FlowStepsX.stepY 92 30 1 rfl rfl (by kernel_rfl) (by kernel_rfl) (by kernel_rfl) rfl rfl ?_ ?_
          ·
            intro c act W hc ha hS hd hi K hK
            clear ha
            have u6 : act.tmps[6]? = some (.int .i64 (m : Nat)) := (hi.out 6 (by kernel_rfl)).trans rfl
            clear hd hi
            refine wanted_un rfl ?_
            go_simp
            exact hK.out _ _ rfl hS trivial
          refine FlowStepsX.stepY 92 30 2 rfl rfl (by kernel_rfl) (by kernel_rfl) (by kernel_rfl) rfl rfl ?_ ?_
          ·
            intro c act W hc ha hS hd hi K hK
            clear ha
            have u4 : act.tmps[4]? = some (.string t) := (hi.out 4 (by kernel_rfl)).trans rfl
            clear hd hi
            refine wanted_un rfl ?_
            go_simp
            exact hK.out _ _ rfl hS trivial
          refine FlowStepsX.stepY 92 30 3 rfl rfl (by kernel_rfl) (by kernel_rfl) (by kernel_rfl) rfl rfl ?_ ?_
          ·
            intro c act W hc ha hS hd hi K hK
            clear ha
            have u64 : act.tmps[64]? = some (.string t) := by obtain ⟨_, u, h⟩ := hd.out ⟨1, .data⟩ (some 64) (by simp) rfl rfl; exact u.trans (congrArg some h)
            clear hd hi
            refine wanted_un rfl ?_
            go_simp
            exact hK.out _ _ rfl hS trivial
          refine FlowStepsX.stepY 92 30 4 rfl rfl (by kernel_rfl) (by kernel_rfl) (by kernel_rfl) rfl rfl ?_ ?_
          ·
            intro c act W hc ha hS hd hi K hK
            clear ha
            have u63 : act.tmps[63]? = some (.int .i64 (m : Nat)) := by obtain ⟨_, u, h⟩ := hd.out ⟨0, .data⟩ (some 63) (by simp) rfl rfl; exact u.trans (congrArg some h)
            have u65 : act.tmps[65]? = some (.int .i64 (t.size : Nat)) := by obtain ⟨_, u, h⟩ := hd.out ⟨2, .data⟩ (some 65) (by simp) rfl rfl; exact u.trans (congrArg some h)
            clear hd hi
            refine wanted_un rfl ?_
            have e1 := HLE.out
            go_simp
            exact hK.out _ _ rfl hS trivial
          refine FlowStepsX.stepY 92 30 5 rfl rfl (by kernel_rfl) (by kernel_rfl) (by kernel_rfl) rfl rfl ?_ ?_
          ·
            intro c act W hc ha hS hd hi K hK
            clear ha
            have u66 : act.tmps[66]? = some (.bool true) := by obtain ⟨_, u, h⟩ := hd.out ⟨3, .data⟩ (some 66) (by simp) rfl rfl; exact u.trans (congrArg some h)
            clear hd hi
            refine wanted_un rfl ?_
            go_simp
            exact hK.out _ _ rfl hS trivial
          refine FlowStepsX.stepY 92 30 6 rfl rfl (by kernel_rfl) (by kernel_rfl) (by kernel_rfl) rfl rfl ?_ ?_
          ·
            intro c act W hc ha hS hd hi K hK
            clear ha
            have u67 : act.tmps[67]? = some (.bool true) := by obtain ⟨_, u, h⟩ := hd.out ⟨4, .guard⟩ (some 67) (by simp) rfl rfl; exact u.trans (congrArg some h)
            have u10 : act.tmps[10]? = some (.string (s ++ t.extract 0 m)) := (hi.out 10 (by kernel_rfl)).trans rfl
            clear hd hi
            refine wanted_yes rfl rfl u67 ?_
            go_simp
            exact hK.out _ _ rfl hS trivial
          refine FlowStepsX.stepY 92 30 7 rfl rfl (by kernel_rfl) (by kernel_rfl) (by kernel_rfl) rfl rfl ?_ ?_
          ·
            intro c act W hc ha hS hd hi K hK
            clear ha
            have u67 : act.tmps[67]? = some (.bool true) := by obtain ⟨_, u, h⟩ := hd.out ⟨4, .guard⟩ (some 67) (by simp) rfl rfl; exact u.trans (congrArg some h)
            have u3 : act.tmps[3]? = some (.pointer (some ⟨gd, 0, none⟩)) := (hi.out 3 (by kernel_rfl)).trans rfl
            clear hd hi
            refine wanted_yes rfl rfl u67 ?_
            go_simp
            exact hK.out _ _ rfl hS trivial
          refine FlowStepsX.stepY 92 30 8 rfl rfl (by kernel_rfl) (by kernel_rfl) (by kernel_rfl) rfl rfl ?_ ?_
          ·
            intro c act W hc ha hS hd hi K hK
            clear ha
            have u69 : act.tmps[69]? = some (.pointer (some ⟨gd, 0, none⟩)) := by obtain ⟨_, u, h⟩ := hd.out ⟨6, .data⟩ (some 69) (by simp) rfl rfl; exact u.trans (congrArg some h)
            have u67 : act.tmps[67]? = some (.bool true) := by obtain ⟨_, u, h⟩ := hd.out ⟨4, .guard⟩ (some 67) (by simp) rfl rfl; exact u.trans (congrArg some h)
            clear hd hi
            refine wanted_yes rfl rfl u67 ?_
            have e1 := (hS.cell (p := ⟨gd, 0, none⟩) gg).trans ca
            go_simp
            exact hK.out _ _ rfl hS trivial
          refine FlowStepsX.stepY 92 30 9 rfl rfl (by kernel_rfl) (by kernel_rfl) (by kernel_rfl) rfl rfl ?_ ?_
          ·
            intro c act W hc ha hS hd hi K hK
            clear ha
            have u67 : act.tmps[67]? = some (.bool true) := by obtain ⟨_, u, h⟩ := hd.out ⟨4, .guard⟩ (some 67) (by simp) rfl rfl; exact u.trans (congrArg some h)
            have u4 : act.tmps[4]? = some (.string t) := (hi.out 4 (by kernel_rfl)).trans rfl
            clear hd hi
            refine wanted_yes rfl rfl u67 ?_
            go_simp
            exact hK.out _ _ rfl hS trivial
          refine FlowStepsX.stepY 92 30 10 rfl rfl (by kernel_rfl) (by kernel_rfl) (by kernel_rfl) rfl rfl ?_ ?_
          ·
            intro c act W hc ha hS hd hi K hK
            clear ha
            have u67 : act.tmps[67]? = some (.bool true) := by obtain ⟨_, u, h⟩ := hd.out ⟨4, .guard⟩ (some 67) (by simp) rfl rfl; exact u.trans (congrArg some h)
            have u6 : act.tmps[6]? = some (.int .i64 (m : Nat)) := (hi.out 6 (by kernel_rfl)).trans rfl
            clear hd hi
            refine wanted_yes rfl rfl u67 ?_
            go_simp
            exact hK.out _ _ rfl hS trivial
          refine FlowStepsX.stepY 92 30 11 rfl rfl (by kernel_rfl) (by kernel_rfl) (by kernel_rfl) rfl rfl ?_ ?_
          ·
            intro c act W hc ha hS hd hi K hK
            clear ha
            have u71 : act.tmps[71]? = some (.string t) := by obtain ⟨_, u, h⟩ := hd.out ⟨8, .data⟩ (some 71) (by simp) rfl rfl; exact u.trans (congrArg some h)
            have u72 : act.tmps[72]? = some (.int .i64 (m : Nat)) := by obtain ⟨_, u, h⟩ := hd.out ⟨9, .data⟩ (some 72) (by simp) rfl rfl; exact u.trans (congrArg some h)
            have u67 : act.tmps[67]? = some (.bool true) := by obtain ⟨_, u, h⟩ := hd.out ⟨4, .guard⟩ (some 67) (by simp) rfl rfl; exact u.trans (congrArg some h)
            clear hd hi
            refine wanted_yes rfl rfl u67 ?_
            have e1 := HLE.out
            go_simp
            exact hK.out _ _ rfl hS trivial
          refine FlowStepsX.stepY 92 30 12 rfl rfl (by kernel_rfl) (by kernel_rfl) (by kernel_rfl) rfl rfl ?_ ?_
          ·
            intro c act W hc ha hS hd hi K hK
            clear ha
            have u70 : act.tmps[70]? = some (.string s) := by obtain ⟨_, u, h⟩ := hd.out ⟨7, .data⟩ (some 70) (by simp) rfl rfl; exact u.trans (congrArg some h)
            have u73 : act.tmps[73]? = some (.string (t.extract 0 m)) := by obtain ⟨_, u, h⟩ := hd.out ⟨10, .data⟩ (some 73) (by simp) rfl rfl; exact u.trans (congrArg some h)
            have u67 : act.tmps[67]? = some (.bool true) := by obtain ⟨_, u, h⟩ := hd.out ⟨4, .guard⟩ (some 67) (by simp) rfl rfl; exact u.trans (congrArg some h)
            clear hd hi
            refine wanted_yes rfl rfl u67 ?_
            have e1 : ¬ 9223372036854775807 < s.size + m := by omega
            go_simp
            exact hK.out _ _ rfl hS trivial
          refine FlowStepsX.stepY 92 30 13 rfl rfl (by kernel_rfl) (by kernel_rfl) (by kernel_rfl) rfl rfl ?_ ?_
          ·
            intro c act W hc ha hS hd hi K hK
            clear ha
            have u68 : act.tmps[68]? = some (.string (s ++ t.extract 0 m)) := by obtain ⟨_, u, h⟩ := hd.out ⟨5, .data⟩ (some 68) (by simp) rfl rfl; exact u.trans (congrArg some h)
            have u74 : act.tmps[74]? = some (.string (s ++ t.extract 0 m)) := by obtain ⟨_, u, h⟩ := hd.out ⟨11, .data⟩ (some 74) (by simp) rfl rfl; exact u.trans (congrArg some h)
            have u67 : act.tmps[67]? = some (.bool true) := by obtain ⟨_, u, h⟩ := hd.out ⟨4, .guard⟩ (some 67) (by simp) rfl rfl; exact u.trans (congrArg some h)
            clear hd hi
            refine wanted_yes rfl rfl u67 ?_
            go_simp
            exact hK.out _ _ rfl hS trivial
          refine FlowStepsX.stepY 92 30 14 rfl rfl (by kernel_rfl) (by kernel_rfl) (by kernel_rfl) rfl rfl ?_ ?_
          ·
            intro c act W hc ha hS hd hi K hK
            clear ha
            have u67 : act.tmps[67]? = some (.bool true) := by obtain ⟨_, u, h⟩ := hd.out ⟨4, .data⟩ (some 67) (by simp) rfl rfl; exact u.trans (congrArg some h)
            have u75 : act.tmps[75]? = some (.bool true) := by obtain ⟨_, u, h⟩ := hd.out ⟨12, .data⟩ (some 75) (by simp) rfl rfl; exact u.trans (congrArg some h)
            clear hd hi
            refine wanted_un rfl ?_
            go_simp
            exact hK.out _ _ rfl hS trivial
          refine FlowStepsX.stepY 92 30 15 rfl rfl (by kernel_rfl) (by kernel_rfl) (by kernel_rfl) rfl rfl ?_ ?_
          ·
            intro c act W hc ha hS hd hi K hK
            clear ha
            have u76 : act.tmps[76]? = some (.bool true) := by obtain ⟨_, u, h⟩ := hd.out ⟨13, .data⟩ (some 76) (by simp) rfl rfl; exact u.trans (congrArg some h)
            clear hd hi
            refine wanted_un rfl ?_
            go_simp
            exact hK.out _ _ rfl hS trivial
          refine FlowStepsX.stepY 92 30 16 rfl rfl (by kernel_rfl) (by kernel_rfl) (by kernel_rfl) rfl rfl ?_ ?_
          ·
            intro c act W hc ha hS hd hi K hK
            clear ha
            have u77 : act.tmps[77]? = some (.bool true) := by obtain ⟨_, u, h⟩ := hd.out ⟨14, .guard⟩ (some 77) (by simp) rfl rfl; exact u.trans (congrArg some h)
            have u5 : act.tmps[5]? = some (.pointer (some ⟨xd, 0, none⟩)) := (hi.out 5 (by kernel_rfl)).trans rfl
            clear hd hi
            refine wanted_yes rfl rfl u77 ?_
            have e1 := (hS.cell (p := ⟨xd, 0, none⟩) gx).trans cy
            have e2 := (hS.cell (p := ⟨xd, 1, none⟩) gx).trans cy1
            have e3 := (hS.cell (p := ⟨xd, 2, none⟩) gx).trans cy2
            go_simp
            exact hK.out _ _ rfl hS trivial
          refine FlowStepsX.stepY 92 30 17 rfl rfl (by kernel_rfl) (by kernel_rfl) (by kernel_rfl) rfl rfl ?_ ?_
          ·
            intro c act W hc ha hS hd hi K hK
            clear ha
            have u78 : act.tmps[78]? = some (.agg #[.string (s ++ t.extract 0 m), .int .i64 a, .int .i64 b]) := by obtain ⟨_, u, h⟩ := hd.out ⟨15, .data⟩ (some 78) (by simp) rfl rfl; exact u.trans (congrArg some h)
            have u77 : act.tmps[77]? = some (.bool true) := by obtain ⟨_, u, h⟩ := hd.out ⟨14, .chain⟩ (some 77) (by simp) rfl rfl; exact u.trans (congrArg some h)
            clear hd hi
            refine wanted_yes rfl rfl u77 ?_
            go_wp2_with (go_at_call 17; refine (PV.out _).mono ?_; rintro e w6 ⟨rfl, hb6⟩)
            exact hK.out _ w6 rfl (hS.trans (hb6.mono hS.size)) trivial
          refine FlowStepsX.stepY 92 30 18 rfl rfl (by kernel_rfl) (by kernel_rfl) (by kernel_rfl) rfl rfl ?_ ?_
          ·
            intro c act W hc ha hS hd hi K hK
            clear ha
            have u77 : act.tmps[77]? = some (.bool true) := by obtain ⟨_, u, h⟩ := hd.out ⟨14, .data⟩ (some 77) (by simp) rfl rfl; exact u.trans (congrArg some h)
            have u79 : act.tmps[79]? = some (.bool true) := by obtain ⟨_, u, h⟩ := hd.out ⟨16, .data⟩ (some 79) (by simp) rfl rfl; exact u.trans (congrArg some h)
            clear hd hi
            refine wanted_un rfl ?_
            go_simp
            exact hK.out _ _ rfl hS trivial
          refine FlowStepsX.stepY 92 30 19 rfl rfl (by kernel_rfl) (by kernel_rfl) (by kernel_rfl) rfl rfl ?_ ?_
          ·
            intro c act W hc ha hS hd hi K hK
            clear ha
            have u80 : act.tmps[80]? = some (.bool true) := by obtain ⟨_, u, h⟩ := hd.out ⟨17, .data⟩ (some 80) (by simp) rfl rfl; exact u.trans (congrArg some h)
            clear hd hi
            refine wanted_un rfl ?_
            go_simp
            exact hK.out _ _ rfl hS trivial
          refine FlowStepsX.stepY 92 30 20 rfl rfl (by kernel_rfl) (by kernel_rfl) (by kernel_rfl) rfl rfl ?_ ?_
          ·
            intro c act W hc ha hS hd hi K hK
            clear ha
            have u81 : act.tmps[81]? = some (.bool true) := by obtain ⟨_, u, h⟩ := hd.out ⟨18, .guard⟩ (some 81) (by simp) rfl rfl; exact u.trans (congrArg some h)
            have u6 : act.tmps[6]? = some (.int .i64 (m : Nat)) := (hi.out 6 (by kernel_rfl)).trans rfl
            clear hd hi
            refine wanted_yes rfl rfl u81 ?_
            go_simp
            exact hK.out _ _ rfl hS trivial
          refine FlowStepsX.stepY 92 30 21 rfl rfl (by kernel_rfl) (by kernel_rfl) (by kernel_rfl) rfl rfl ?_ ?_
          ·
            intro c act W hc ha hS hd hi K hK
            clear ha
            have u81 : act.tmps[81]? = some (.bool true) := by obtain ⟨_, u, h⟩ := hd.out ⟨18, .guard⟩ (some 81) (by simp) rfl rfl; exact u.trans (congrArg some h)
            have u4 : act.tmps[4]? = some (.string t) := (hi.out 4 (by kernel_rfl)).trans rfl
            clear hd hi
            refine wanted_yes rfl rfl u81 ?_
            go_simp
            exact hK.out _ _ rfl hS trivial
          refine FlowStepsX.stepY 92 30 22 rfl rfl (by kernel_rfl) (by kernel_rfl) (by kernel_rfl) rfl rfl ?_ ?_
          ·
            intro c act W hc ha hS hd hi K hK
            clear ha
            have u83 : act.tmps[83]? = some (.string t) := by obtain ⟨_, u, h⟩ := hd.out ⟨20, .data⟩ (some 83) (by simp) rfl rfl; exact u.trans (congrArg some h)
            have u81 : act.tmps[81]? = some (.bool true) := by obtain ⟨_, u, h⟩ := hd.out ⟨18, .guard⟩ (some 81) (by simp) rfl rfl; exact u.trans (congrArg some h)
            clear hd hi
            refine wanted_yes rfl rfl u81 ?_
            go_simp
            exact hK.out _ _ rfl hS trivial
          refine FlowStepsX.stepY 92 30 23 rfl rfl (by kernel_rfl) (by kernel_rfl) (by kernel_rfl) rfl rfl ?_ ?_
          ·
            intro c act W hc ha hS hd hi K hK
            clear ha
            have u82 : act.tmps[82]? = some (.int .i64 (m : Nat)) := by obtain ⟨_, u, h⟩ := hd.out ⟨19, .data⟩ (some 82) (by simp) rfl rfl; exact u.trans (congrArg some h)
            have u84 : act.tmps[84]? = some (.int .i64 (t.size : Nat)) := by obtain ⟨_, u, h⟩ := hd.out ⟨21, .data⟩ (some 84) (by simp) rfl rfl; exact u.trans (congrArg some h)
            have u81 : act.tmps[81]? = some (.bool true) := by obtain ⟨_, u, h⟩ := hd.out ⟨18, .guard⟩ (some 81) (by simp) rfl rfl; exact u.trans (congrArg some h)
            clear hd hi
            refine wanted_yes rfl rfl u81 ?_
            have e1 := HM.out
            go_simp
            exact hK.out _ _ rfl hS trivial
          refine FlowStepsX.stepY 92 30 24 rfl rfl (by kernel_rfl) (by kernel_rfl) (by kernel_rfl) rfl rfl ?_ ?_
          ·
            intro c act W hc ha hS hd hi K hK
            clear ha
            have u85 : act.tmps[85]? = some (.bool true) := by obtain ⟨_, u, h⟩ := hd.out ⟨22, .data⟩ (some 85) (by simp) rfl rfl; exact u.trans (congrArg some h)
            have u81 : act.tmps[81]? = some (.bool true) := by obtain ⟨_, u, h⟩ := hd.out ⟨18, .chain⟩ (some 81) (by simp) rfl rfl; exact u.trans (congrArg some h)
            clear hd hi
            refine wanted_yes rfl rfl u81 ?_
            go_simp
            exact hK.out _ _ rfl hS trivial
          refine FlowStepsX.stepY 92 30 25 rfl rfl (by kernel_rfl) (by kernel_rfl) (by kernel_rfl) rfl rfl ?_ ?_
          ·
            intro c act W hc ha hS hd hi K hK
            clear ha
            have u86 : act.tmps[86]? = some (.bool true) := by obtain ⟨_, u, h⟩ := hd.out ⟨23, .guard⟩ (some 86) (by simp) rfl rfl; exact u.trans (congrArg some h)
            have u10 : act.tmps[10]? = some (.string (s ++ t.extract 0 m)) := (hi.out 10 (by kernel_rfl)).trans rfl
            clear hd hi
            refine wanted_no rfl rfl u86 ?_
            exact hK.out undef W rfl hS trivial
          refine FlowStepsX.stepY 92 30 26 rfl rfl (by kernel_rfl) (by kernel_rfl) (by kernel_rfl) rfl rfl ?_ ?_
          ·
            intro c act W hc ha hS hd hi K hK
            clear ha
            have u86 : act.tmps[86]? = some (.bool true) := by obtain ⟨_, u, h⟩ := hd.out ⟨23, .guard⟩ (some 86) (by simp) rfl rfl; exact u.trans (congrArg some h)
            clear hd hi
            refine wanted_no rfl rfl u86 ?_
            exact hK.out undef W rfl hS trivial
          refine FlowStepsX.stepY 92 30 27 rfl rfl (by kernel_rfl) (by kernel_rfl) (by kernel_rfl) rfl rfl ?_ ?_
          ·
            intro c act W hc ha hS hd hi K hK
            clear ha
            have u86 : act.tmps[86]? = some (.bool true) := by obtain ⟨_, u, h⟩ := hd.out ⟨23, .guard⟩ (some 86) (by simp) rfl rfl; exact u.trans (congrArg some h)
            clear hd hi
            refine wanted_no rfl rfl u86 ?_
            exact hK.out undef W rfl hS trivial
          refine FlowStepsX.stepY 92 30 28 rfl rfl (by kernel_rfl) (by kernel_rfl) (by kernel_rfl) rfl rfl ?_ ?_
          ·
            intro c act W hc ha hS hd hi K hK
            clear ha
            have u86 : act.tmps[86]? = some (.bool true) := by obtain ⟨_, u, h⟩ := hd.out ⟨23, .data⟩ (some 86) (by simp) rfl rfl; exact u.trans (congrArg some h)
            have u89 : act.tmps[89]? = some (undef) := by obtain ⟨_, u, h⟩ := hd.out ⟨26, .data⟩ (some 89) (by simp) rfl rfl; exact u.trans (congrArg some h)
            have u81 : act.tmps[81]? = some (.bool true) := by obtain ⟨_, u, h⟩ := hd.out ⟨18, .guard⟩ (some 81) (by simp) rfl rfl; exact u.trans (congrArg some h)
            clear hd hi
            refine wanted_yes rfl rfl u81 ?_
            go_simp
            exact hK.out _ _ rfl hS trivial
          refine FlowStepsX.stepY 92 30 29 rfl rfl (by kernel_rfl) (by kernel_rfl) (by kernel_rfl) rfl rfl ?_ ?_
          ·
            intro c act W hc ha hS hd hi K hK
            clear ha
            have u81 : act.tmps[81]? = some (.bool true) := by obtain ⟨_, u, h⟩ := hd.out ⟨18, .data⟩ (some 81) (by simp) rfl rfl; exact u.trans (congrArg some h)
            have u90 : act.tmps[90]? = some (.bool true) := by obtain ⟨_, u, h⟩ := hd.out ⟨27, .data⟩ (some 90) (by simp) rfl rfl; exact u.trans (congrArg some h)
            clear hd hi
            refine wanted_un rfl ?_
            go_simp
            exact hK.out _ _ rfl hS trivial
          refine FlowStepsX.stepY 92 30 30 rfl rfl (by kernel_rfl) (by kernel_rfl) (by kernel_rfl) rfl rfl ?_ ?_
          ·
            intro c act W hc ha hS hd hi K hK
            clear ha
            have u91 : act.tmps[91]? = some (.bool true) := by obtain ⟨_, u, h⟩ := hd.out ⟨28, .data⟩ (some 91) (by simp) rfl rfl; exact u.trans (congrArg some h)
            clear hd hi
            refine wanted_un rfl ?_
            go_simp
            exact hK.out _ _ rfl hS trivial
          exact FlowStepsX.nil
        · intro c ρ W hc hS hd
          simp only [putFrom, Act.put, List.setIfInBounds_toArray, List.set_cons_zero, List.set_cons_succ, Nat.reduceAdd]
          have d29 : ρ 29 = .bool true := hd.out 29 (by decide)
          generalize ρ 29 = x29 at d29 ⊢
          subst d29
          clear hd
          have BW : Below w.heap.size w W := B4.trans (hS.mono B4.size)
          go_wp2_with fail
          go_ret
          exact ⟨rfl, BW⟩
      · have HM := hide (show (((m : Nat) : Int) == (t.size : Nat)) = false ∧ (((s.size : Nat) : Int) + (m : Nat) == 20) = true from ⟨by simp; omega, by
          have h2 := H8.out
          rw [ByteArray.size_append, ByteArray.size_extract] at h2
          simp; omega⟩)
        clear h7
        refine wp_flowX (os := [_, _, _, _, _, _, _, _, _, _, _, _, _, _, _, _, _, _, _, _, _, _, _, _, _, _, _, _, _, _]) (fun c W => Below w4.heap.size w4 W) (fun _ _ _ => True) (fun i v _ => v = putV1 s t a b m gd i) 30 rfl ?_ ?_ ?_ (fun i j v w1 w2 _ h _ => h) ?_ ?_ ?_
        · kernel_rfl
        · kernel_rfl
        · kernel_rfl
        · exact (by repeat' (first | exact Below.refl _ _ | assumption | exact And.left (by assumption) | omega | (simp; done) | (simp; omega) | (simp at *; omega) | (refine Below.setCell ?_ ?_ _) | (refine below_alloc0 ?_ _) | (refine Below.drew ?_) | (refine below_drewN ?_ _) | (refine below_via0 ?_ (by assumption)) | (refine Below.alloc ?_ ?_ _) | (refine below_via ?_ (by assumption) ?_)))
        ·
          refine FlowStepsX.stepY 92 30 1 rfl rfl (by kernel_rfl) (by kernel_rfl) (by kernel_rfl) rfl rfl ?_ ?_
          ·
            intro c act W hc ha hS hd hi K hK
            clear ha
            have u6 : act.tmps[6]? = some (.int .i64 (m : Nat)) := (hi.out 6 (by kernel_rfl)).trans rfl
            clear hd hi
            refine wanted_un rfl ?_
            go_simp
            exact hK.out _ _ rfl hS trivial
          refine FlowStepsX.stepY 92 30 2 rfl rfl (by kernel_rfl) (by kernel_rfl) (by kernel_rfl) rfl rfl ?_ ?_
          ·
            intro c act W hc ha hS hd hi K hK
            clear ha
            have u4 : act.tmps[4]? = some (.string t) := (hi.out 4 (by kernel_rfl)).trans rfl
            clear hd hi
            refine wanted_un rfl ?_
            go_simp
            exact hK.out _ _ rfl hS trivial
          refine FlowStepsX.stepY 92 30 3 rfl rfl (by kernel_rfl) (by kernel_rfl) (by kernel_rfl) rfl rfl ?_ ?_
          ·
            intro c act W hc ha hS hd hi K hK
            clear ha
            have u64 : act.tmps[64]? = some (.string t) := by obtain ⟨_, u, h⟩ := hd.out ⟨1, .data⟩ (some 64) (by simp) rfl rfl; exact u.trans (congrArg some h)
            clear hd hi
            refine wanted_un rfl ?_
            go_simp
            exact hK.out _ _ rfl hS trivial
          refine FlowStepsX.stepY 92 30 4 rfl rfl (by kernel_rfl) (by kernel_rfl) (by kernel_rfl) rfl rfl ?_ ?_
          ·
            intro c act W hc ha hS hd hi K hK
            clear ha
            have u63 : act.tmps[63]? = some (.int .i64 (m : Nat)) := by obtain ⟨_, u, h⟩ := hd.out ⟨0, .data⟩ (some 63) (by simp) rfl rfl; exact u.trans (congrArg some h)
            have u65 : act.tmps[65]? = some (.int .i64 (t.size : Nat)) := by obtain ⟨_, u, h⟩ := hd.out ⟨2, .data⟩ (some 65) (by simp) rfl rfl; exact u.trans (congrArg some h)
            clear hd hi
            refine wanted_un rfl ?_
            have e1 := HLE.out
            go_simp
            exact hK.out _ _ rfl hS trivial
          refine FlowStepsX.stepY 92 30 5 rfl rfl (by kernel_rfl) (by kernel_rfl) (by kernel_rfl) rfl rfl ?_ ?_
          ·
            intro c act W hc ha hS hd hi K hK
            clear ha
            have u66 : act.tmps[66]? = some (.bool true) := by obtain ⟨_, u, h⟩ := hd.out ⟨3, .data⟩ (some 66) (by simp) rfl rfl; exact u.trans (congrArg some h)
            clear hd hi
            refine wanted_un rfl ?_
            go_simp
            exact hK.out _ _ rfl hS trivial
          refine FlowStepsX.stepY 92 30 6 rfl rfl (by kernel_rfl) (by kernel_rfl) (by kernel_rfl) rfl rfl ?_ ?_
          ·
            intro c act W hc ha hS hd hi K hK
            clear ha
            have u67 : act.tmps[67]? = some (.bool true) := by obtain ⟨_, u, h⟩ := hd.out ⟨4, .guard⟩ (some 67) (by simp) rfl rfl; exact u.trans (congrArg some h)
            have u10 : act.tmps[10]? = some (.string (s ++ t.extract 0 m)) := (hi.out 10 (by kernel_rfl)).trans rfl
            clear hd hi
            refine wanted_yes rfl rfl u67 ?_
            go_simp
            exact hK.out _ _ rfl hS trivial
          refine FlowStepsX.stepY 92 30 7 rfl rfl (by kernel_rfl) (by kernel_rfl) (by kernel_rfl) rfl rfl ?_ ?_
          ·
            intro c act W hc ha hS hd hi K hK
            clear ha
            have u67 : act.tmps[67]? = some (.bool true) := by obtain ⟨_, u, h⟩ := hd.out ⟨4, .guard⟩ (some 67) (by simp) rfl rfl; exact u.trans (congrArg some h)
            have u3 : act.tmps[3]? = some (.pointer (some ⟨gd, 0, none⟩)) := (hi.out 3 (by kernel_rfl)).trans rfl
            clear hd hi
            refine wanted_yes rfl rfl u67 ?_
            go_simp
            exact hK.out _ _ rfl hS trivial
          refine FlowStepsX.stepY 92 30 8 rfl rfl (by kernel_rfl) (by kernel_rfl) (by kernel_rfl) rfl rfl ?_ ?_
          ·
            intro c act W hc ha hS hd hi K hK
            clear ha
            have u69 : act.tmps[69]? = some (.pointer (some ⟨gd, 0, none⟩)) := by obtain ⟨_, u, h⟩ := hd.out ⟨6, .data⟩ (some 69) (by simp) rfl rfl; exact u.trans (congrArg some h)
            have u67 : act.tmps[67]? = some (.bool true) := by obtain ⟨_, u, h⟩ := hd.out ⟨4, .guard⟩ (some 67) (by simp) rfl rfl; exact u.trans (congrArg some h)
            clear hd hi
            refine wanted_yes rfl rfl u67 ?_
            have e1 := (hS.cell (p := ⟨gd, 0, none⟩) gg).trans ca
            go_simp
            exact hK.out _ _ rfl hS trivial
          refine FlowStepsX.stepY 92 30 9 rfl rfl (by kernel_rfl) (by kernel_rfl) (by kernel_rfl) rfl rfl ?_ ?_
          ·
            intro c act W hc ha hS hd hi K hK
            clear ha
            have u67 : act.tmps[67]? = some (.bool true) := by obtain ⟨_, u, h⟩ := hd.out ⟨4, .guard⟩ (some 67) (by simp) rfl rfl; exact u.trans (congrArg some h)
            have u4 : act.tmps[4]? = some (.string t) := (hi.out 4 (by kernel_rfl)).trans rfl
            clear hd hi
            refine wanted_yes rfl rfl u67 ?_
            go_simp
            exact hK.out _ _ rfl hS trivial
          refine FlowStepsX.stepY 92 30 10 rfl rfl (by kernel_rfl) (by kernel_rfl) (by kernel_rfl) rfl rfl ?_ ?_
          ·
            intro c act W hc ha hS hd hi K hK
            clear ha
            have u67 : act.tmps[67]? = some (.bool true) := by obtain ⟨_, u, h⟩ := hd.out ⟨4, .guard⟩ (some 67) (by simp) rfl rfl; exact u.trans (congrArg some h)
            have u6 : act.tmps[6]? = some (.int .i64 (m : Nat)) := (hi.out 6 (by kernel_rfl)).trans rfl
            clear hd hi
            refine wanted_yes rfl rfl u67 ?_
            go_simp
            exact hK.out _ _ rfl hS trivial
          refine FlowStepsX.stepY 92 30 11 rfl rfl (by kernel_rfl) (by kernel_rfl) (by kernel_rfl) rfl rfl ?_ ?_
          ·
            intro c act W hc ha hS hd hi K hK
            clear ha
            have u71 : act.tmps[71]? = some (.string t) := by obtain ⟨_, u, h⟩ := hd.out ⟨8, .data⟩ (some 71) (by simp) rfl rfl; exact u.trans (congrArg some h)
            have u72 : act.tmps[72]? = some (.int .i64 (m : Nat)) := by obtain ⟨_, u, h⟩ := hd.out ⟨9, .data⟩ (some 72) (by simp) rfl rfl; exact u.trans (congrArg some h)
            have u67 : act.tmps[67]? = some (.bool true) := by obtain ⟨_, u, h⟩ := hd.out ⟨4, .guard⟩ (some 67) (by simp) rfl rfl; exact u.trans (congrArg some h)
            clear hd hi
            refine wanted_yes rfl rfl u67 ?_
            have e1 := HLE.out
            go_simp
            exact hK.out _ _ rfl hS trivial
          refine FlowStepsX.stepY 92 30 12 rfl rfl (by kernel_rfl) (by kernel_rfl) (by kernel_rfl) rfl rfl ?_ ?_
          ·
            intro c act W hc ha hS hd hi K hK
            clear ha
            have u70 : act.tmps[70]? = some (.string s) := by obtain ⟨_, u, h⟩ := hd.out ⟨7, .data⟩ (some 70) (by simp) rfl rfl; exact u.trans (congrArg some h)
            have u73 : act.tmps[73]? = some (.string (t.extract 0 m)) := by obtain ⟨_, u, h⟩ := hd.out ⟨10, .data⟩ (some 73) (by simp) rfl rfl; exact u.trans (congrArg some h)
            have u67 : act.tmps[67]? = some (.bool true) := by obtain ⟨_, u, h⟩ := hd.out ⟨4, .guard⟩ (some 67) (by simp) rfl rfl; exact u.trans (congrArg some h)
            clear hd hi
            refine wanted_yes rfl rfl u67 ?_
            have e1 : ¬ 9223372036854775807 < s.size + m := by omega
            go_simp
            exact hK.out _ _ rfl hS trivial
          refine FlowStepsX.stepY 92 30 13 rfl rfl (by kernel_rfl) (by kernel_rfl) (by kernel_rfl) rfl rfl ?_ ?_
          ·
            intro c act W hc ha hS hd hi K hK
            clear ha
            have u68 : act.tmps[68]? = some (.string (s ++ t.extract 0 m)) := by obtain ⟨_, u, h⟩ := hd.out ⟨5, .data⟩ (some 68) (by simp) rfl rfl; exact u.trans (congrArg some h)
            have u74 : act.tmps[74]? = some (.string (s ++ t.extract 0 m)) := by obtain ⟨_, u, h⟩ := hd.out ⟨11, .data⟩ (some 74) (by simp) rfl rfl; exact u.trans (congrArg some h)
            have u67 : act.tmps[67]? = some (.bool true) := by obtain ⟨_, u, h⟩ := hd.out ⟨4, .guard⟩ (some 67) (by simp) rfl rfl; exact u.trans (congrArg some h)
            clear hd hi
            refine wanted_yes rfl rfl u67 ?_
            go_simp
            exact hK.out _ _ rfl hS trivial
          refine FlowStepsX.stepY 92 30 14 rfl rfl (by kernel_rfl) (by kernel_rfl) (by kernel_rfl) rfl rfl ?_ ?_
          ·
            intro c act W hc ha hS hd hi K hK
            clear ha
            have u67 : act.tmps[67]? = some (.bool true) := by obtain ⟨_, u, h⟩ := hd.out ⟨4, .data⟩ (some 67) (by simp) rfl rfl; exact u.trans (congrArg some h)
            have u75 : act.tmps[75]? = some (.bool true) := by obtain ⟨_, u, h⟩ := hd.out ⟨12, .data⟩ (some 75) (by simp) rfl rfl; exact u.trans (congrArg some h)
            clear hd hi
            refine wanted_un rfl ?_
            go_simp
            exact hK.out _ _ rfl hS trivial
          refine FlowStepsX.stepY 92 30 15 rfl rfl (by kernel_rfl) (by kernel_rfl) (by kernel_rfl) rfl rfl ?_ ?_
          ·
            intro c act W hc ha hS hd hi K hK
            clear ha
            have u76 : act.tmps[76]? = some (.bool true) := by obtain ⟨_, u, h⟩ := hd.out ⟨13, .data⟩ (some 76) (by simp) rfl rfl; exact u.trans (congrArg some h)
            clear hd hi
            refine wanted_un rfl ?_
            go_simp
            exact hK.out _ _ rfl hS trivial
          refine FlowStepsX.stepY 92 30 16 rfl rfl (by kernel_rfl) (by kernel_rfl) (by kernel_rfl) rfl rfl ?_ ?_
          ·
            intro c act W hc ha hS hd hi K hK
            clear ha
            have u77 : act.tmps[77]? = some (.bool true) := by obtain ⟨_, u, h⟩ := hd.out ⟨14, .guard⟩ (some 77) (by simp) rfl rfl; exact u.trans (congrArg some h)
            have u5 : act.tmps[5]? = some (.pointer (some ⟨xd, 0, none⟩)) := (hi.out 5 (by kernel_rfl)).trans rfl
            clear hd hi
            refine wanted_yes rfl rfl u77 ?_
            have e1 := (hS.cell (p := ⟨xd, 0, none⟩) gx).trans cy
            have e2 := (hS.cell (p := ⟨xd, 1, none⟩) gx).trans cy1
            have e3 := (hS.cell (p := ⟨xd, 2, none⟩) gx).trans cy2
            go_simp
            exact hK.out _ _ rfl hS trivial
          refine FlowStepsX.stepY 92 30 17 rfl rfl (by kernel_rfl) (by kernel_rfl) (by kernel_rfl) rfl rfl ?_ ?_
          ·
            intro c act W hc ha hS hd hi K hK
            clear ha
            have u78 : act.tmps[78]? = some (.agg #[.string (s ++ t.extract 0 m), .int .i64 a, .int .i64 b]) := by obtain ⟨_, u, h⟩ := hd.out ⟨15, .data⟩ (some 78) (by simp) rfl rfl; exact u.trans (congrArg some h)
            have u77 : act.tmps[77]? = some (.bool true) := by obtain ⟨_, u, h⟩ := hd.out ⟨14, .chain⟩ (some 77) (by simp) rfl rfl; exact u.trans (congrArg some h)
            clear hd hi
            refine wanted_yes rfl rfl u77 ?_
            go_wp2_with (go_at_call 17; refine (PV.out _).mono ?_; rintro e w6 ⟨rfl, hb6⟩)
            exact hK.out _ w6 rfl (hS.trans (hb6.mono hS.size)) trivial
          refine FlowStepsX.stepY 92 30 18 rfl rfl (by kernel_rfl) (by kernel_rfl) (by kernel_rfl) rfl rfl ?_ ?_
          ·
            intro c act W hc ha hS hd hi K hK
            clear ha
            have u77 : act.tmps[77]? = some (.bool true) := by obtain ⟨_, u, h⟩ := hd.out ⟨14, .data⟩ (some 77) (by simp) rfl rfl; exact u.trans (congrArg some h)
            have u79 : act.tmps[79]? = some (.bool true) := by obtain ⟨_, u, h⟩ := hd.out ⟨16, .data⟩ (some 79) (by simp) rfl rfl; exact u.trans (congrArg some h)
            clear hd hi
            refine wanted_un rfl ?_
            go_simp
            exact hK.out _ _ rfl hS trivial
          refine FlowStepsX.stepY 92 30 19 rfl rfl (by kernel_rfl) (by kernel_rfl) (by kernel_rfl) rfl rfl ?_ ?_
          ·
            intro c act W hc ha hS hd hi K hK
            clear ha
            have u80 : act.tmps[80]? = some (.bool true) := by obtain ⟨_, u, h⟩ := hd.out ⟨17, .data⟩ (some 80) (by simp) rfl rfl; exact u.trans (congrArg some h)
            clear hd hi
            refine wanted_un rfl ?_
            go_simp
            exact hK.out _ _ rfl hS trivial
          refine FlowStepsX.stepY 92 30 20 rfl rfl (by kernel_rfl) (by kernel_rfl) (by kernel_rfl) rfl rfl ?_ ?_
          ·
            intro c act W hc ha hS hd hi K hK
            clear ha
            have u81 : act.tmps[81]? = some (.bool true) := by obtain ⟨_, u, h⟩ := hd.out ⟨18, .guard⟩ (some 81) (by simp) rfl rfl; exact u.trans (congrArg some h)
            have u6 : act.tmps[6]? = some (.int .i64 (m : Nat)) := (hi.out 6 (by kernel_rfl)).trans rfl
            clear hd hi
            refine wanted_yes rfl rfl u81 ?_
            go_simp
            exact hK.out _ _ rfl hS trivial
          refine FlowStepsX.stepY 92 30 21 rfl rfl (by kernel_rfl) (by kernel_rfl) (by kernel_rfl) rfl rfl ?_ ?_
          ·
            intro c act W hc ha hS hd hi K hK
            clear ha
            have u81 : act.tmps[81]? = some (.bool true) := by obtain ⟨_, u, h⟩ := hd.out ⟨18, .guard⟩ (some 81) (by simp) rfl rfl; exact u.trans (congrArg some h)
            have u4 : act.tmps[4]? = some (.string t) := (hi.out 4 (by kernel_rfl)).trans rfl
            clear hd hi
            refine wanted_yes rfl rfl u81 ?_
            go_simp
            exact hK.out _ _ rfl hS trivial
          refine FlowStepsX.stepY 92 30 22 rfl rfl (by kernel_rfl) (by kernel_rfl) (by kernel_rfl) rfl rfl ?_ ?_
          ·
            intro c act W hc ha hS hd hi K hK
            clear ha
            have u83 : act.tmps[83]? = some (.string t) := by obtain ⟨_, u, h⟩ := hd.out ⟨20, .data⟩ (some 83) (by simp) rfl rfl; exact u.trans (congrArg some h)
            have u81 : act.tmps[81]? = some (.bool true) := by obtain ⟨_, u, h⟩ := hd.out ⟨18, .guard⟩ (some 81) (by simp) rfl rfl; exact u.trans (congrArg some h)
            clear hd hi
            refine wanted_yes rfl rfl u81 ?_
            go_simp
            exact hK.out _ _ rfl hS trivial
          refine FlowStepsX.stepY 92 30 23 rfl rfl (by kernel_rfl) (by kernel_rfl) (by kernel_rfl) rfl rfl ?_ ?_
          ·
            intro c act W hc ha hS hd hi K hK
            clear ha
            have u82 : act.tmps[82]? = some (.int .i64 (m : Nat)) := by obtain ⟨_, u, h⟩ := hd.out ⟨19, .data⟩ (some 82) (by simp) rfl rfl; exact u.trans (congrArg some h)
            have u84 : act.tmps[84]? = some (.int .i64 (t.size : Nat)) := by obtain ⟨_, u, h⟩ := hd.out ⟨21, .data⟩ (some 84) (by simp) rfl rfl; exact u.trans (congrArg some h)
            have u81 : act.tmps[81]? = some (.bool true) := by obtain ⟨_, u, h⟩ := hd.out ⟨18, .guard⟩ (some 81) (by simp) rfl rfl; exact u.trans (congrArg some h)
            clear hd hi
            refine wanted_yes rfl rfl u81 ?_
            have e1 := HM.out.1
            go_simp
            exact hK.out _ _ rfl hS trivial
          refine FlowStepsX.stepY 92 30 24 rfl rfl (by kernel_rfl) (by kernel_rfl) (by kernel_rfl) rfl rfl ?_ ?_
          ·
            intro c act W hc ha hS hd hi K hK
            clear ha
            have u85 : act.tmps[85]? = some (.bool false) := by obtain ⟨_, u, h⟩ := hd.out ⟨22, .data⟩ (some 85) (by simp) rfl rfl; exact u.trans (congrArg some h)
            have u81 : act.tmps[81]? = some (.bool true) := by obtain ⟨_, u, h⟩ := hd.out ⟨18, .chain⟩ (some 81) (by simp) rfl rfl; exact u.trans (congrArg some h)
            clear hd hi
            refine wanted_yes rfl rfl u81 ?_
            go_simp
            exact hK.out _ _ rfl hS trivial
          refine FlowStepsX.stepY 92 30 25 rfl rfl (by kernel_rfl) (by kernel_rfl) (by kernel_rfl) rfl rfl ?_ ?_
          ·
            intro c act W hc ha hS hd hi K hK
            clear ha
            have u86 : act.tmps[86]? = some (.bool false) := by obtain ⟨_, u, h⟩ := hd.out ⟨23, .guard⟩ (some 86) (by simp) rfl rfl; exact u.trans (congrArg some h)
            have u10 : act.tmps[10]? = some (.string (s ++ t.extract 0 m)) := (hi.out 10 (by kernel_rfl)).trans rfl
            clear hd hi
            refine wanted_yes rfl rfl u86 ?_
            go_simp
            exact hK.out _ _ rfl hS trivial
          refine FlowStepsX.stepY 92 30 26 rfl rfl (by kernel_rfl) (by kernel_rfl) (by kernel_rfl) rfl rfl ?_ ?_
          ·
            intro c act W hc ha hS hd hi K hK
            clear ha
            have u87 : act.tmps[87]? = some (.string (s ++ t.extract 0 m)) := by obtain ⟨_, u, h⟩ := hd.out ⟨24, .data⟩ (some 87) (by simp) rfl rfl; exact u.trans (congrArg some h)
            have u86 : act.tmps[86]? = some (.bool false) := by obtain ⟨_, u, h⟩ := hd.out ⟨23, .guard⟩ (some 86) (by simp) rfl rfl; exact u.trans (congrArg some h)
            clear hd hi
            refine wanted_yes rfl rfl u86 ?_
            go_simp
            exact hK.out _ _ rfl hS trivial
          refine FlowStepsX.stepY 92 30 27 rfl rfl (by kernel_rfl) (by kernel_rfl) (by kernel_rfl) rfl rfl ?_ ?_
          ·
            intro c act W hc ha hS hd hi K hK
            clear ha
            have u88 : act.tmps[88]? = some (.int .i64 ((s.size : Int) + (m : Int))) := by obtain ⟨_, u, h⟩ := hd.out ⟨25, .data⟩ (some 88) (by simp) rfl rfl; exact u.trans (congrArg some h)
            have u86 : act.tmps[86]? = some (.bool false) := by obtain ⟨_, u, h⟩ := hd.out ⟨23, .guard⟩ (some 86) (by simp) rfl rfl; exact u.trans (congrArg some h)
            clear hd hi
            refine wanted_yes rfl rfl u86 ?_
            have e1 := HM.out.2
            go_simp
            exact hK.out _ _ rfl hS trivial
          refine FlowStepsX.stepY 92 30 28 rfl rfl (by kernel_rfl) (by kernel_rfl) (by kernel_rfl) rfl rfl ?_ ?_
          ·
            intro c act W hc ha hS hd hi K hK
            clear ha
            have u86 : act.tmps[86]? = some (.bool false) := by obtain ⟨_, u, h⟩ := hd.out ⟨23, .data⟩ (some 86) (by simp) rfl rfl; exact u.trans (congrArg some h)
            have u89 : act.tmps[89]? = some (.bool true) := by obtain ⟨_, u, h⟩ := hd.out ⟨26, .data⟩ (some 89) (by simp) rfl rfl; exact u.trans (congrArg some h)
            have u81 : act.tmps[81]? = some (.bool true) := by obtain ⟨_, u, h⟩ := hd.out ⟨18, .guard⟩ (some 81) (by simp) rfl rfl; exact u.trans (congrArg some h)
            clear hd hi
            refine wanted_yes rfl rfl u81 ?_
            go_simp
            exact hK.out _ _ rfl hS trivial
          refine FlowStepsX.stepY 92 30 29 rfl rfl (by kernel_rfl) (by kernel_rfl) (by kernel_rfl) rfl rfl ?_ ?_
          ·
            intro c act W hc ha hS hd hi K hK
            clear ha
            have u81 : act.tmps[81]? = some (.bool true) := by obtain ⟨_, u, h⟩ := hd.out ⟨18, .data⟩ (some 81) (by simp) rfl rfl; exact u.trans (congrArg some h)
            have u90 : act.tmps[90]? = some (.bool true) := by obtain ⟨_, u, h⟩ := hd.out ⟨27, .data⟩ (some 90) (by simp) rfl rfl; exact u.trans (congrArg some h)
            clear hd hi
            refine wanted_un rfl ?_
            go_simp
            exact hK.out _ _ rfl hS trivial
          refine FlowStepsX.stepY 92 30 30 rfl rfl (by kernel_rfl) (by kernel_rfl) (by kernel_rfl) rfl rfl ?_ ?_
          ·
            intro c act W hc ha hS hd hi K hK
            clear ha
            have u91 : act.tmps[91]? = some (.bool true) := by obtain ⟨_, u, h⟩ := hd.out ⟨28, .data⟩ (some 91) (by simp) rfl rfl; exact u.trans (congrArg some h)
            clear hd hi
            refine wanted_un rfl ?_
            go_simp
            exact hK.out _ _ rfl hS trivial
          exact FlowStepsX.nil
        · intro c ρ W hc hS hd
          simp only [putFrom, Act.put, List.setIfInBounds_toArray, List.set_cons_zero, List.set_cons_succ, Nat.reduceAdd]
          have d29 : ρ 29 = .bool true := hd.out 29 (by decide)
          generalize ρ 29 = x29 at d29 ⊢
          subst d29
          clear hd
          have BW : Below w.heap.size w W := B4.trans (hS.mono B4.size)
          go_wp2_with fail
          go_ret
          exact ⟨rfl, BW⟩
    · have HZ : (ppN s t a b = -1 ∧ ppS s t a b = s ∧ ppP s a b = a ∧ ppR s a b = b) ∨ (ppN s t a b = -1 ∧ ppS s t a b = ⟨#[]⟩ ∧ ppP s a b = 0 ∧ ppR s a b = 0) := by
        cases hv : pipeB s a b with
        | false => right; simp [ppN, ppS, ppP, ppR, emptyS, hv]
        | true =>
          left
          by_cases ha : a = 0
          · subst ha; simp [ppN, ppS, ppP, ppR, hv]
          · have hb : b = 0 := by
              by_cases hb : b = 0
              · exact hb
              · exact absurd ⟨hv, ha, hb⟩ hok
            subst hb; simp [ppN, ppS, ppP, ppR, hv]
      clear hok
      rcases HZ with ⟨f1, f2, f3, f4⟩ | ⟨f1, f2, f3, f4⟩
      all_goals
        rw [f1, f2, f3, f4] at PS ⊢
        clear f1 f2 f3 f4
        rintro e w2 ⟨rfl, hb2⟩
        have L2 := live hb2 w1.heap.size (by first | omega | (simp; done) | (simp; omega))
        have B2 : Below w.heap.size w w2 := (by repeat' (first | exact Below.refl _ _ | assumption | exact And.left (by assumption) | omega | (simp; done) | (simp; omega) | (simp at *; omega) | (refine Below.setCell ?_ ?_ _) | (refine below_alloc0 ?_ _) | (refine Below.drew ?_) | (refine below_drewN ?_ _) | (refine below_via0 ?_ (by assumption)) | (refine Below.alloc ?_ ?_ _) | (refine below_via ?_ (by assumption) ?_)))
        go_wp2_with fail
        refine (PS.out _).mono ?_
        rintro e w3 ⟨rfl, hb3⟩
        have L3 := live hb3 w1.heap.size (by first | omega | (simp; done) | (simp; omega))
        have M3 := live hb3 w2.heap.size (by first | omega | (simp; done) | (simp; omega))
        have B3 : Below w.heap.size w w3 := (by repeat' (first | exact Below.refl _ _ | assumption | exact And.left (by assumption) | omega | (simp; done) | (simp; omega) | (simp at *; omega) | (refine Below.setCell ?_ ?_ _) | (refine below_alloc0 ?_ _) | (refine Below.drew ?_) | (refine below_drewN ?_ _) | (refine below_via0 ?_ (by assumption)) | (refine Below.alloc ?_ ?_ _) | (refine below_via ?_ (by assumption) ?_)))
        go_wp2_with (go_at_call 15; refine (alive_c _).mono ?_; rintro e w5 ⟨rfl, hb5⟩; have B5 : Below w.heap.size w w5 := (by repeat' (first | exact Below.refl _ _ | assumption | exact And.left (by assumption) | omega | (simp; done) | (simp; omega) | (simp at *; omega) | (refine Below.setCell ?_ ?_ _) | (refine below_alloc0 ?_ _) | (refine Below.drew ?_) | (refine below_drewN ?_ _) | (refine below_via0 ?_ (by assumption)) | (refine Below.alloc ?_ ?_ _) | (refine below_via ?_ (by assumption) ?_))))
        all_goals
          go_ret
          exact ⟨rfl, (by repeat' (first | exact Below.refl _ _ | assumption | exact And.left (by assumption) | omega | (simp; done) | (simp; omega) | (simp at *; omega) | (refine Below.setCell ?_ ?_ _) | (refine below_alloc0 ?_ _) | (refine Below.drew ?_) | (refine below_drewN ?_ _) | (refine below_via0 ?_ (by assumption)) | (refine Below.alloc ?_ ?_ _) | (refine below_via ?_ (by assumption) ?_)))⟩
end Go.Proofs.Ytheblgfgcmkdiaa
