/-
  The law of TakeSignal over drawn arguments. No condition.
-/
import Derived.Test.YtheblgfgcmkdiaaProg
import Derived.Test.YtheblgfgcmkdiaaFnSig3
import Derived.Test.YtheblgfgcmkdiaaFlowX
namespace Go.Proofs.Ytheblgfgcmkdiaa
open Go.RowKit
set_option linter.unusedSimpArgs false
set_option linter.unusedVariables false

theorem bit_nat (a n : Nat) : a / 2 ^ n % 2 = 1 ↔ a.testBit n = true := by
  rw [Nat.testBit_eq_decide_div_mod_eq]; simp
theorem and_bit (a b n : Nat) (hb : b < 2 ^ 64) (hn : n < 64) (h : (a &&& (18446744073709551615 - b)) / 2 ^ n % 2 = 1) : a / 2 ^ n % 2 = 1 ∧ b / 2 ^ n % 2 = 0 := by
  have e : 18446744073709551615 - b = 2 ^ 64 - (b + 1) := by omega
  rw [bit_nat, e, Nat.testBit_and, Nat.testBit_two_pow_sub_succ hb] at h
  simp only [Bool.and_eq_true, decide_eq_true_eq, Bool.not_eq_true'] at h
  refine ⟨(bit_nat _ _).2 h.1, ?_⟩
  have h2 : ¬ b / 2 ^ n % 2 = 1 := fun hh => by rw [(bit_nat _ _).1 hh] at h; simp at h
  omega
theorem low_bit (f : Int) (h0 : 0 < f) (h1 : f ≤ 255) : ∃ k : Nat, k ≤ 7 ∧ low f = k ∧ f / 2 ^ k % 2 = 1 := by
  unfold low
  split
  · exact ⟨0, by omega, rfl, by simpa⟩
  split
  · exact ⟨1, by omega, rfl, by simpa⟩
  split
  · exact ⟨2, by omega, rfl, by simpa⟩
  split
  · exact ⟨3, by omega, rfl, by simpa⟩
  split
  · exact ⟨4, by omega, rfl, by simpa⟩
  split
  · exact ⟨5, by omega, rfl, by simpa⟩
  split
  · exact ⟨6, by omega, rfl, by simpa⟩
  · exact ⟨7, by omega, rfl, by simp; omega⟩
theorem take_nat : ∀ a : Fin 256, ∀ s : Fin 8, a.val / 2 ^ s.val % 2 = 1 → (a.val &&& (18446744073709551615 - 2 ^ s.val)) ||| 2 ^ s.val = a.val ∧ (a.val &&& (18446744073709551615 - 2 ^ s.val)) ≤ 255 := by decide +kernel
/-- What TakeSignal gives where one is taken. -/
theorem take_facts {a b : Int} (hv : sigB a b = true) (hz : fr a b ≠ 0) :
    ∃ n : Nat, n ≤ 7 ∧ takeN a b = n ∧ a / 2 ^ n % 2 = 1 ∧ b / 2 ^ n % 2 = 0 ∧ takeH a b = b ∧ putW (takeW a b) b n = a ∧ putH (takeW a b) b n = b ∧ (a / 128 % 2 = 0 ∨ n = 7) := by
  obtain ⟨q1, q2, q3, q4⟩ := sigB_yes hv
  obtain ⟨f0, f1⟩ := fr_bd a b hv
  obtain ⟨a, rfl⟩ := Int.eq_ofNat_of_zero_le q1
  obtain ⟨b, rfl⟩ := Int.eq_ofNat_of_zero_le q3
  have ef : fr (a : Int) (b : Int) = ((a &&& (18446744073709551615 - b) : Nat) : Int) := by
    unfold fr; rw [i64_andNot _ _ (by omega) (by omega) (by omega) (by omega)]; rfl
  have main : ∀ n : Nat, n ≤ 7 → takeN (a : Int) (b : Int) = n → fr (a : Int) (b : Int) / 2 ^ n % 2 = 1 → (a / 128 % 2 = 0 ∨ n = 7) → ∃ n : Nat, n ≤ 7 ∧ takeN (a : Int) (b : Int) = n ∧ (a : Int) / 2 ^ n % 2 = 1 ∧ (b : Int) / 2 ^ n % 2 = 0 ∧ takeH (a : Int) (b : Int) = b ∧ putW (takeW (a : Int) (b : Int)) b n = a ∧ putH (takeW (a : Int) (b : Int)) b n = b ∧ ((a : Int) / 128 % 2 = 0 ∨ n = 7) := by
    intro n hn hN hbit h7
    have hp : ((2 : Int) ^ n) = ((2 ^ n : Nat) : Int) := by simp
    rw [ef, hp, ← Int.natCast_ediv] at hbit
    obtain ⟨ha, hb⟩ := and_bit a b n (by omega) (by omega) (by omega)
    have ht := take_nat ⟨a, by omega⟩ ⟨n, by omega⟩
    simp only at ht
    obtain ⟨t1, t2⟩ := ht ha
    have hw : takeW (a : Int) (b : Int) = ((a &&& (18446744073709551615 - 2 ^ n) : Nat) : Int) := by
      have hpw := pow_i hn
      simp only [takeW, hv, if_true, if_neg hz, hN, Int.toNat_natCast]
      rw [i64_andNot _ _ (by omega) (by omega) hpw.1 hpw.2]
      simp only [Int.toNat_natCast]
      congr 3
    have hn7 : inB (n : Int) 0 7 = true := inB_iff.2 ⟨by omega, by omega⟩
    have hs2 : sigB (takeW (a : Int) (b : Int)) b = true := by
      rw [hw]; simp only [sigB, Bool.and_eq_true, inB_iff]; omega
    refine ⟨n, hn, hN, by rw [hp, ← Int.natCast_ediv]; omega, by rw [hp, ← Int.natCast_ediv]; omega, by simp [takeH, hv], ?_, by simp [putH, putOk, hs2, hn7], by omega⟩
    simp only [putW, putOk, hs2, hn7, Bool.and_self, if_true]
    rw [hw, orI_nat _ _ t2 hn, t1]
  by_cases h7 : fr (a : Int) (b : Int) / 128 % 2 = 1
  · exact main 7 (by omega) (by simp [takeN, hv, hz, h7]) (by simpa using h7) (.inr rfl)
  · obtain ⟨k, hk, hl, hb⟩ := low_bit (fr (a : Int) (b : Int)) (by omega) f1
    refine main k hk (by simp [takeN, hv, hz, h7, hl]) hb ?_
    left
    rw [ef] at h7
    have hb7 : b / 128 % 2 = 0 := by omega
    have hh : ¬ a.testBit 7 = true := fun ha => by
      have : (a &&& (18446744073709551615 - b)) / 2 ^ 7 % 2 = 1 := by
        have e : 18446744073709551615 - b = 2 ^ 64 - (b + 1) := by omega
        rw [bit_nat, e, Nat.testBit_and, Nat.testBit_two_pow_sub_succ (by omega), ha]
        have : b.testBit 7 = false := by rw [← Bool.not_eq_true, ← bit_nat]; omega
        simp [this]
      omega
    rw [← bit_nat] at hh
    omega
theorem take_none {a b : Int} (h : ¬ (sigB a b = true ∧ fr a b ≠ 0)) : takeN a b = -1 := by
  unfold takeN
  split
  · rename_i hv
    rw [if_pos]
    by_cases hz : fr a b = 0
    · exact hz
    · exact absurd ⟨hv, hz⟩ h
  · rfl

-- walk
def takeV0 (a b y : Int) (n gd : Nat) (i : Nat) : Value :=
  match i with
  | 0 => .pointer (some ⟨gd, 0, none⟩)
  | 1 => .int .i64 a
  | 2 => .int .i64 (n : Nat)
  | 3 => .int .i64 (a / 2 ^ n)
  | 4 => .int .i64 ((a / 2 ^ n).tmod 2)
  | 5 => .bool true
  | 6 => .bool true
  | 7 => .pointer (some ⟨gd, 1, none⟩)
  | 8 => .int .i64 b
  | 9 => .int .i64 (n : Nat)
  | 10 => .int .i64 (b / 2 ^ n)
  | 11 => .int .i64 ((b / 2 ^ n).tmod 2)
  | 12 => .bool true
  | 13 => .bool true
  | 14 => .bool true
  | 15 => .agg #[.int .i64 y, .int .i64 b]
  | 16 => .int .i64 (n : Nat)
  | 17 => .agg #[.int .i64 a, .int .i64 b]
  | 18 => .agg #[.int .i64 a, .int .i64 b]
  | 19 => .bool true
  | 20 => .bool true
  | 21 => .bool true
  | 22 => .pointer (some ⟨gd, 0, none⟩)
  | 23 => .int .i64 a
  | 24 => .int .i64 (a / 128)
  | 25 => .int .i64 0
  | 26 => .bool true
  | 27 => .bool true
  | 28 => undef
  | 29 => undef
  | 30 => .bool true
  | 31 => .bool true
  | _ => .bool true
def takeV1 (a b y : Int) (n gd : Nat) (i : Nat) : Value :=
  match i with
  | 0 => .pointer (some ⟨gd, 0, none⟩)
  | 1 => .int .i64 a
  | 2 => .int .i64 (n : Nat)
  | 3 => .int .i64 (a / 2 ^ n)
  | 4 => .int .i64 ((a / 2 ^ n).tmod 2)
  | 5 => .bool true
  | 6 => .bool true
  | 7 => .pointer (some ⟨gd, 1, none⟩)
  | 8 => .int .i64 b
  | 9 => .int .i64 (n : Nat)
  | 10 => .int .i64 (b / 2 ^ n)
  | 11 => .int .i64 ((b / 2 ^ n).tmod 2)
  | 12 => .bool true
  | 13 => .bool true
  | 14 => .bool true
  | 15 => .agg #[.int .i64 y, .int .i64 b]
  | 16 => .int .i64 (n : Nat)
  | 17 => .agg #[.int .i64 a, .int .i64 b]
  | 18 => .agg #[.int .i64 a, .int .i64 b]
  | 19 => .bool true
  | 20 => .bool true
  | 21 => .bool true
  | 22 => .pointer (some ⟨gd, 0, none⟩)
  | 23 => .int .i64 a
  | 24 => .int .i64 (a / 128)
  | 25 => .int .i64 1
  | 26 => .bool false
  | 27 => .bool false
  | 28 => .int .i64 (n : Nat)
  | 29 => .bool true
  | 30 => .bool true
  | 31 => .bool true
  | _ => .bool true
set_option maxRecDepth 100000 in
set_option maxHeartbeats 4000000 in
theorem fnTakeSignal_walk {w : World} (A : Option Addr) (n c : Nat) (h : InB w A n c) :
    Calls Try.prog 11 #[.slice A n c] w fun e w' => e = .returned (.bool true) ∧ Below w.heap.size w w' := by
  have hm := h.2.1
  unfold maxLen at hm
  have hc := h.1
  have H := hide h
  clear h
  by_cases h20 : 1048576 < n
  · go_enter Try.func11, Try.ntmps11
    go_wp2_with fail
    go_ret
    exact ⟨rfl, Below.refl _ _⟩
  · go_enter Try.func11, Try.ntmps11
    go_wp2_with fail
    refine (gTakeSignal_c A n c _ (H.out.below (Below.refl _ _))).mono ?_
    rintro e w1 ⟨a, b, rfl, hb1⟩
    go_wp2_with fail
    refine (takeImpl_c _ _ _).mono ?_
    have PS := hide (takeSpec_c a b)
    by_cases hok : sigB a b = true ∧ fr a b ≠ 0
    · obtain ⟨hv, hz⟩ := hok
      obtain ⟨n, hn, f1, f2, f3, f4, f5, f6, f7⟩ := take_facts hv hz
      have hq := sigB_yes hv
      have PI := hide (putImpl_c (takeW a b) b n)
      rw [f1, f4] at PS ⊢
      rw [f5, f6] at PI
      clear f1 f4 f5 f6 hz hv
      generalize takeW a b = y at *
      have F7 := hide f7
      have s1 : (a / 2 ^ n).tmod 2 = 1 := by
        rw [Int.tmod_eq_emod_of_nonneg (Int.ediv_nonneg hq.1 (Int.le_of_lt (Int.pow_pos (by decide)))), f2]
      have s2 : (b / 2 ^ n).tmod 2 = 0 := by
        rw [Int.tmod_eq_emod_of_nonneg (Int.ediv_nonneg hq.2.2.1 (Int.le_of_lt (Int.pow_pos (by decide)))), f3]
      clear f7
      rintro e w2 ⟨rfl, hb2⟩
      have L2 := live hb2 w1.heap.size (by first | omega | (simp; done) | (simp; omega))
      have B2 : Below w.heap.size w w2 := (by repeat' (first | exact Below.refl _ _ | assumption | exact And.left (by assumption) | omega | (simp; done) | (simp; omega) | (simp at *; omega) | (refine Below.setCell ?_ ?_ _) | (refine below_alloc0 ?_ _) | (refine Below.drew ?_) | (refine below_drewN ?_ _) | (refine below_via0 ?_ (by assumption)) | (refine Below.alloc ?_ ?_ _) | (refine below_via ?_ (by assumption) ?_)))
      have S12 := hide (And.intro s1 s2)
      have S34 := hide (And.intro f2 f3)
      clear s1 s2 f2 f3
      go_wp2_with fail
      refine (PS.out _).mono ?_
      rintro e w3 ⟨rfl, hb3⟩
      have L3 := live hb3 w1.heap.size (by first | omega | (simp; done) | (simp; omega))
      have M3 := live hb3 w2.heap.size (by first | omega | (simp; done) | (simp; omega))
      have B3 : Below w.heap.size w w3 := (by repeat' (first | exact Below.refl _ _ | assumption | exact And.left (by assumption) | omega | (simp; done) | (simp; omega) | (simp at *; omega) | (refine Below.setCell ?_ ?_ _) | (refine below_alloc0 ?_ _) | (refine Below.drew ?_) | (refine below_drewN ?_ _) | (refine below_via0 ?_ (by assumption)) | (refine Below.alloc ?_ ?_ _) | (refine below_via ?_ (by assumption) ?_)))
      have gg : w1.heap.size < w3.heap.size := L3.1
      have gx : w2.heap.size < w3.heap.size := M3.1
      have ca : w3.cell? ⟨w1.heap.size, 0, none⟩ = some (.int .i64 a) := by simp [go_sem, L3, L2]
      have cb : w3.cell? ⟨w1.heap.size, 1, none⟩ = some (.int .i64 b) := by simp [go_sem, L3, L2]
      have cy : w3.cell? ⟨w2.heap.size, 0, none⟩ = some (.int .i64 y) := by simp [M3]
      have cb2 : w3.cell? ⟨w2.heap.size, 1, none⟩ = some (.int .i64 b) := by simp [M3]
      go_wp2_with fail
      obtain ⟨gd, hgd⟩ : ∃ gd, gd = w1.heap.size := ⟨_, rfl⟩
      obtain ⟨xd, hxd⟩ : ∃ xd, xd = w2.heap.size := ⟨_, rfl⟩
      rw [← hgd] at ca cb gg ⊢
      rw [← hxd] at cy cb2 gx ⊢
      clear hgd hxd L2 L3 M3
      by_cases h7 : a / 128 % 2 = 0
      · have h7' : (a / 128).tmod 2 = 0 := by
          rw [Int.tmod_eq_emod_of_nonneg (by omega), h7]
        clear h7
        refine wp_flowX (os := [_, _, _, _, _, _, _, _, _, _, _, _, _, _, _, _, _, _, _, _, _, _, _, _, _, _, _, _, _, _, _, _, _]) (fun c W => Below w3.heap.size w3 W) (fun _ _ _ => True) (fun i v _ => v = takeV0 a b y n gd i) 33 rfl ?_ ?_ ?_ (fun i j v w1 w2 _ h _ => h) ?_ ?_ ?_
        · kernel_rfl
        · kernel_rfl
        · kernel_rfl
        · exact (by repeat' (first | exact Below.refl _ _ | assumption | exact And.left (by assumption) | omega | (simp; done) | (simp; omega) | (simp at *; omega) | (refine Below.setCell ?_ ?_ _) | (refine below_alloc0 ?_ _) | (refine Below.drew ?_) | (refine below_drewN ?_ _) | (refine below_via0 ?_ (by assumption)) | (refine Below.alloc ?_ ?_ _) | (refine below_via ?_ (by assumption) ?_)))
        ·
          refine FlowStepsX.stepY 88 33 1 rfl rfl (by kernel_rfl) (by kernel_rfl) (by kernel_rfl) rfl rfl ?_ ?_
          ·
            intro c act W hc ha hS hd hi K hK
            clear ha
            have u3 : act.tmps[3]? = some (.pointer (some ⟨gd, 0, none⟩)) := (hi.out 3 (by kernel_rfl)).trans rfl
            clear hd hi
            refine wanted_un rfl ?_
            go_simp
            exact hK.out _ _ rfl hS trivial
          refine FlowStepsX.stepY 88 33 2 rfl rfl (by kernel_rfl) (by kernel_rfl) (by kernel_rfl) rfl rfl ?_ ?_
          ·
            intro c act W hc ha hS hd hi K hK
            clear ha
            have u56 : act.tmps[56]? = some (.pointer (some ⟨gd, 0, none⟩)) := by obtain ⟨_, u, h⟩ := hd.out ⟨0, .data⟩ (some 56) (by simp) rfl rfl; exact u.trans (congrArg some h)
            clear hd hi
            refine wanted_un rfl ?_
            have e1 := (hS.cell (p := ⟨gd, 0, none⟩) gg).trans ca
            go_simp
            exact hK.out _ _ rfl hS trivial
          refine FlowStepsX.stepY 88 33 3 rfl rfl (by kernel_rfl) (by kernel_rfl) (by kernel_rfl) rfl rfl ?_ ?_
          ·
            intro c act W hc ha hS hd hi K hK
            clear ha
            have u5 : act.tmps[5]? = some (.int .i64 (n : Nat)) := (hi.out 5 (by kernel_rfl)).trans rfl
            clear hd hi
            refine wanted_un rfl ?_
            go_simp
            exact hK.out _ _ rfl hS trivial
          refine FlowStepsX.stepY 88 33 4 rfl rfl (by kernel_rfl) (by kernel_rfl) (by kernel_rfl) rfl rfl ?_ ?_
          ·
            intro c act W hc ha hS hd hi K hK
            clear ha
            have u57 : act.tmps[57]? = some (.int .i64 a) := by obtain ⟨_, u, h⟩ := hd.out ⟨1, .data⟩ (some 57) (by simp) rfl rfl; exact u.trans (congrArg some h)
            have u58 : act.tmps[58]? = some (.int .i64 (n : Nat)) := by obtain ⟨_, u, h⟩ := hd.out ⟨2, .data⟩ (some 58) (by simp) rfl rfl; exact u.trans (congrArg some h)
            clear hd hi
            refine wanted_un rfl ?_
            go_simp
            exact hK.out _ _ rfl hS trivial
          refine FlowStepsX.stepY 88 33 5 rfl rfl (by kernel_rfl) (by kernel_rfl) (by kernel_rfl) rfl rfl ?_ ?_
          ·
            intro c act W hc ha hS hd hi K hK
            clear ha
            have u59 : act.tmps[59]? = some (.int .i64 (a / 2 ^ n)) := by obtain ⟨_, u, h⟩ := hd.out ⟨3, .data⟩ (some 59) (by simp) rfl rfl; exact u.trans (congrArg some h)
            clear hd hi
            refine wanted_un rfl ?_
            go_simp
            exact hK.out _ _ rfl hS trivial
          refine FlowStepsX.stepY 88 33 6 rfl rfl (by kernel_rfl) (by kernel_rfl) (by kernel_rfl) rfl rfl ?_ ?_
          ·
            intro c act W hc ha hS hd hi K hK
            clear ha
            have u60 : act.tmps[60]? = some (.int .i64 ((a / 2 ^ n).tmod 2)) := by obtain ⟨_, u, h⟩ := hd.out ⟨4, .data⟩ (some 60) (by simp) rfl rfl; exact u.trans (congrArg some h)
            clear hd hi
            refine wanted_un rfl ?_
            have s1 := S12.out.1
            go_simp
            exact hK.out _ _ rfl hS trivial
          refine FlowStepsX.stepY 88 33 7 rfl rfl (by kernel_rfl) (by kernel_rfl) (by kernel_rfl) rfl rfl ?_ ?_
          ·
            intro c act W hc ha hS hd hi K hK
            clear ha
            have u61 : act.tmps[61]? = some (.bool true) := by obtain ⟨_, u, h⟩ := hd.out ⟨5, .data⟩ (some 61) (by simp) rfl rfl; exact u.trans (congrArg some h)
            clear hd hi
            refine wanted_un rfl ?_
            go_simp
            exact hK.out _ _ rfl hS trivial
          refine FlowStepsX.stepY 88 33 8 rfl rfl (by kernel_rfl) (by kernel_rfl) (by kernel_rfl) rfl rfl ?_ ?_
          ·
            intro c act W hc ha hS hd hi K hK
            clear ha
            have u62 : act.tmps[62]? = some (.bool true) := by obtain ⟨_, u, h⟩ := hd.out ⟨6, .guard⟩ (some 62) (by simp) rfl rfl; exact u.trans (congrArg some h)
            have u3 : act.tmps[3]? = some (.pointer (some ⟨gd, 0, none⟩)) := (hi.out 3 (by kernel_rfl)).trans rfl
            clear hd hi
            refine wanted_yes rfl rfl u62 ?_
            go_simp
            exact hK.out _ _ rfl hS trivial
          refine FlowStepsX.stepY 88 33 9 rfl rfl (by kernel_rfl) (by kernel_rfl) (by kernel_rfl) rfl rfl ?_ ?_
          ·
            intro c act W hc ha hS hd hi K hK
            clear ha
            have u63 : act.tmps[63]? = some (.pointer (some ⟨gd, 1, none⟩)) := by obtain ⟨_, u, h⟩ := hd.out ⟨7, .data⟩ (some 63) (by simp) rfl rfl; exact u.trans (congrArg some h)
            have u62 : act.tmps[62]? = some (.bool true) := by obtain ⟨_, u, h⟩ := hd.out ⟨6, .guard⟩ (some 62) (by simp) rfl rfl; exact u.trans (congrArg some h)
            clear hd hi
            refine wanted_yes rfl rfl u62 ?_
            have e1 := (hS.cell (p := ⟨gd, 1, none⟩) gg).trans cb
            go_simp
            exact hK.out _ _ rfl hS trivial
          refine FlowStepsX.stepY 88 33 10 rfl rfl (by kernel_rfl) (by kernel_rfl) (by kernel_rfl) rfl rfl ?_ ?_
          ·
            intro c act W hc ha hS hd hi K hK
            clear ha
            have u62 : act.tmps[62]? = some (.bool true) := by obtain ⟨_, u, h⟩ := hd.out ⟨6, .guard⟩ (some 62) (by simp) rfl rfl; exact u.trans (congrArg some h)
            have u5 : act.tmps[5]? = some (.int .i64 (n : Nat)) := (hi.out 5 (by kernel_rfl)).trans rfl
            clear hd hi
            refine wanted_yes rfl rfl u62 ?_
            go_simp
            exact hK.out _ _ rfl hS trivial
          refine FlowStepsX.stepY 88 33 11 rfl rfl (by kernel_rfl) (by kernel_rfl) (by kernel_rfl) rfl rfl ?_ ?_
          ·
            intro c act W hc ha hS hd hi K hK
            clear ha
            have u64 : act.tmps[64]? = some (.int .i64 b) := by obtain ⟨_, u, h⟩ := hd.out ⟨8, .data⟩ (some 64) (by simp) rfl rfl; exact u.trans (congrArg some h)
            have u65 : act.tmps[65]? = some (.int .i64 (n : Nat)) := by obtain ⟨_, u, h⟩ := hd.out ⟨9, .data⟩ (some 65) (by simp) rfl rfl; exact u.trans (congrArg some h)
            have u62 : act.tmps[62]? = some (.bool true) := by obtain ⟨_, u, h⟩ := hd.out ⟨6, .guard⟩ (some 62) (by simp) rfl rfl; exact u.trans (congrArg some h)
            clear hd hi
            refine wanted_yes rfl rfl u62 ?_
            go_simp
            exact hK.out _ _ rfl hS trivial
          refine FlowStepsX.stepY 88 33 12 rfl rfl (by kernel_rfl) (by kernel_rfl) (by kernel_rfl) rfl rfl ?_ ?_
          ·
            intro c act W hc ha hS hd hi K hK
            clear ha
            have u66 : act.tmps[66]? = some (.int .i64 (b / 2 ^ n)) := by obtain ⟨_, u, h⟩ := hd.out ⟨10, .data⟩ (some 66) (by simp) rfl rfl; exact u.trans (congrArg some h)
            have u62 : act.tmps[62]? = some (.bool true) := by obtain ⟨_, u, h⟩ := hd.out ⟨6, .guard⟩ (some 62) (by simp) rfl rfl; exact u.trans (congrArg some h)
            clear hd hi
            refine wanted_yes rfl rfl u62 ?_
            go_simp
            exact hK.out _ _ rfl hS trivial
          refine FlowStepsX.stepY 88 33 13 rfl rfl (by kernel_rfl) (by kernel_rfl) (by kernel_rfl) rfl rfl ?_ ?_
          ·
            intro c act W hc ha hS hd hi K hK
            clear ha
            have u67 : act.tmps[67]? = some (.int .i64 ((b / 2 ^ n).tmod 2)) := by obtain ⟨_, u, h⟩ := hd.out ⟨11, .data⟩ (some 67) (by simp) rfl rfl; exact u.trans (congrArg some h)
            have u62 : act.tmps[62]? = some (.bool true) := by obtain ⟨_, u, h⟩ := hd.out ⟨6, .guard⟩ (some 62) (by simp) rfl rfl; exact u.trans (congrArg some h)
            clear hd hi
            refine wanted_yes rfl rfl u62 ?_
            have s2 := S12.out.2
            go_simp
            exact hK.out _ _ rfl hS trivial
          refine FlowStepsX.stepY 88 33 14 rfl rfl (by kernel_rfl) (by kernel_rfl) (by kernel_rfl) rfl rfl ?_ ?_
          ·
            intro c act W hc ha hS hd hi K hK
            clear ha
            have u62 : act.tmps[62]? = some (.bool true) := by obtain ⟨_, u, h⟩ := hd.out ⟨6, .data⟩ (some 62) (by simp) rfl rfl; exact u.trans (congrArg some h)
            have u68 : act.tmps[68]? = some (.bool true) := by obtain ⟨_, u, h⟩ := hd.out ⟨12, .data⟩ (some 68) (by simp) rfl rfl; exact u.trans (congrArg some h)
            clear hd hi
            refine wanted_un rfl ?_
            go_simp
            exact hK.out _ _ rfl hS trivial
          refine FlowStepsX.stepY 88 33 15 rfl rfl (by kernel_rfl) (by kernel_rfl) (by kernel_rfl) rfl rfl ?_ ?_
          ·
            intro c act W hc ha hS hd hi K hK
            clear ha
            have u69 : act.tmps[69]? = some (.bool true) := by obtain ⟨_, u, h⟩ := hd.out ⟨13, .data⟩ (some 69) (by simp) rfl rfl; exact u.trans (congrArg some h)
            clear hd hi
            refine wanted_un rfl ?_
            go_simp
            exact hK.out _ _ rfl hS trivial
          refine FlowStepsX.stepY 88 33 16 rfl rfl (by kernel_rfl) (by kernel_rfl) (by kernel_rfl) rfl rfl ?_ ?_
          ·
            intro c act W hc ha hS hd hi K hK
            clear ha
            have u70 : act.tmps[70]? = some (.bool true) := by obtain ⟨_, u, h⟩ := hd.out ⟨14, .guard⟩ (some 70) (by simp) rfl rfl; exact u.trans (congrArg some h)
            have u4 : act.tmps[4]? = some (.pointer (some ⟨xd, 0, none⟩)) := (hi.out 4 (by kernel_rfl)).trans rfl
            clear hd hi
            refine wanted_yes rfl rfl u70 ?_
            have e1 := (hS.cell (p := ⟨xd, 0, none⟩) gx).trans cy
            have e2 := (hS.cell (p := ⟨xd, 1, none⟩) gx).trans cb2
            go_simp
            exact hK.out _ _ rfl hS trivial
          refine FlowStepsX.stepY 88 33 17 rfl rfl (by kernel_rfl) (by kernel_rfl) (by kernel_rfl) rfl rfl ?_ ?_
          ·
            intro c act W hc ha hS hd hi K hK
            clear ha
            have u70 : act.tmps[70]? = some (.bool true) := by obtain ⟨_, u, h⟩ := hd.out ⟨14, .guard⟩ (some 70) (by simp) rfl rfl; exact u.trans (congrArg some h)
            have u5 : act.tmps[5]? = some (.int .i64 (n : Nat)) := (hi.out 5 (by kernel_rfl)).trans rfl
            clear hd hi
            refine wanted_yes rfl rfl u70 ?_
            go_simp
            exact hK.out _ _ rfl hS trivial
          refine FlowStepsX.stepY 88 33 18 rfl rfl (by kernel_rfl) (by kernel_rfl) (by kernel_rfl) rfl rfl ?_ ?_
          ·
            intro c act W hc ha hS hd hi K hK
            clear ha
            have u71 : act.tmps[71]? = some (.agg #[.int .i64 y, .int .i64 b]) := by obtain ⟨_, u, h⟩ := hd.out ⟨15, .data⟩ (some 71) (by simp) rfl rfl; exact u.trans (congrArg some h)
            have u72 : act.tmps[72]? = some (.int .i64 (n : Nat)) := by obtain ⟨_, u, h⟩ := hd.out ⟨16, .data⟩ (some 72) (by simp) rfl rfl; exact u.trans (congrArg some h)
            have u70 : act.tmps[70]? = some (.bool true) := by obtain ⟨_, u, h⟩ := hd.out ⟨14, .chain⟩ (some 70) (by simp) rfl rfl; exact u.trans (congrArg some h)
            clear hd hi
            refine wanted_yes rfl rfl u70 ?_
            go_wp2_with (go_at_call 20; refine (PI.out _).mono ?_; rintro e w6 ⟨rfl, hb6⟩)
            exact hK.out _ w6 rfl (hS.trans (hb6.mono hS.size)) trivial
          refine FlowStepsX.stepY 88 33 19 rfl rfl (by kernel_rfl) (by kernel_rfl) (by kernel_rfl) rfl rfl ?_ ?_
          ·
            intro c act W hc ha hS hd hi K hK
            clear ha
            have u70 : act.tmps[70]? = some (.bool true) := by obtain ⟨_, u, h⟩ := hd.out ⟨14, .guard⟩ (some 70) (by simp) rfl rfl; exact u.trans (congrArg some h)
            have u3 : act.tmps[3]? = some (.pointer (some ⟨gd, 0, none⟩)) := (hi.out 3 (by kernel_rfl)).trans rfl
            clear hd hi
            refine wanted_yes rfl rfl u70 ?_
            have e1 := (hS.cell (p := ⟨gd, 0, none⟩) gg).trans ca
            have e2 := (hS.cell (p := ⟨gd, 1, none⟩) gg).trans cb
            go_simp
            exact hK.out _ _ rfl hS trivial
          refine FlowStepsX.stepY 88 33 20 rfl rfl (by kernel_rfl) (by kernel_rfl) (by kernel_rfl) rfl rfl ?_ ?_
          ·
            intro c act W hc ha hS hd hi K hK
            clear ha
            have u73 : act.tmps[73]? = some (.agg #[.int .i64 a, .int .i64 b]) := by obtain ⟨_, u, h⟩ := hd.out ⟨17, .data⟩ (some 73) (by simp) rfl rfl; exact u.trans (congrArg some h)
            have u74 : act.tmps[74]? = some (.agg #[.int .i64 a, .int .i64 b]) := by obtain ⟨_, u, h⟩ := hd.out ⟨18, .data⟩ (some 74) (by simp) rfl rfl; exact u.trans (congrArg some h)
            have u70 : act.tmps[70]? = some (.bool true) := by obtain ⟨_, u, h⟩ := hd.out ⟨14, .guard⟩ (some 70) (by simp) rfl rfl; exact u.trans (congrArg some h)
            clear hd hi
            refine wanted_yes rfl rfl u70 ?_
            go_simp
            exact hK.out _ _ rfl hS trivial
          refine FlowStepsX.stepY 88 33 21 rfl rfl (by kernel_rfl) (by kernel_rfl) (by kernel_rfl) rfl rfl ?_ ?_
          ·
            intro c act W hc ha hS hd hi K hK
            clear ha
            have u70 : act.tmps[70]? = some (.bool true) := by obtain ⟨_, u, h⟩ := hd.out ⟨14, .data⟩ (some 70) (by simp) rfl rfl; exact u.trans (congrArg some h)
            have u75 : act.tmps[75]? = some (.bool true) := by obtain ⟨_, u, h⟩ := hd.out ⟨19, .data⟩ (some 75) (by simp) rfl rfl; exact u.trans (congrArg some h)
            clear hd hi
            refine wanted_un rfl ?_
            go_simp
            exact hK.out _ _ rfl hS trivial
          refine FlowStepsX.stepY 88 33 22 rfl rfl (by kernel_rfl) (by kernel_rfl) (by kernel_rfl) rfl rfl ?_ ?_
          ·
            intro c act W hc ha hS hd hi K hK
            clear ha
            have u76 : act.tmps[76]? = some (.bool true) := by obtain ⟨_, u, h⟩ := hd.out ⟨20, .data⟩ (some 76) (by simp) rfl rfl; exact u.trans (congrArg some h)
            clear hd hi
            refine wanted_un rfl ?_
            go_simp
            exact hK.out _ _ rfl hS trivial
          refine FlowStepsX.stepY 88 33 23 rfl rfl (by kernel_rfl) (by kernel_rfl) (by kernel_rfl) rfl rfl ?_ ?_
          ·
            intro c act W hc ha hS hd hi K hK
            clear ha
            have u77 : act.tmps[77]? = some (.bool true) := by obtain ⟨_, u, h⟩ := hd.out ⟨21, .guard⟩ (some 77) (by simp) rfl rfl; exact u.trans (congrArg some h)
            have u3 : act.tmps[3]? = some (.pointer (some ⟨gd, 0, none⟩)) := (hi.out 3 (by kernel_rfl)).trans rfl
            clear hd hi
            refine wanted_yes rfl rfl u77 ?_
            go_simp
            exact hK.out _ _ rfl hS trivial
          refine FlowStepsX.stepY 88 33 24 rfl rfl (by kernel_rfl) (by kernel_rfl) (by kernel_rfl) rfl rfl ?_ ?_
          ·
            intro c act W hc ha hS hd hi K hK
            clear ha
            have u78 : act.tmps[78]? = some (.pointer (some ⟨gd, 0, none⟩)) := by obtain ⟨_, u, h⟩ := hd.out ⟨22, .data⟩ (some 78) (by simp) rfl rfl; exact u.trans (congrArg some h)
            have u77 : act.tmps[77]? = some (.bool true) := by obtain ⟨_, u, h⟩ := hd.out ⟨21, .guard⟩ (some 77) (by simp) rfl rfl; exact u.trans (congrArg some h)
            clear hd hi
            refine wanted_yes rfl rfl u77 ?_
            have e1 := (hS.cell (p := ⟨gd, 0, none⟩) gg).trans ca
            go_simp
            exact hK.out _ _ rfl hS trivial
          refine FlowStepsX.stepY 88 33 25 rfl rfl (by kernel_rfl) (by kernel_rfl) (by kernel_rfl) rfl rfl ?_ ?_
          ·
            intro c act W hc ha hS hd hi K hK
            clear ha
            have u79 : act.tmps[79]? = some (.int .i64 a) := by obtain ⟨_, u, h⟩ := hd.out ⟨23, .data⟩ (some 79) (by simp) rfl rfl; exact u.trans (congrArg some h)
            have u77 : act.tmps[77]? = some (.bool true) := by obtain ⟨_, u, h⟩ := hd.out ⟨21, .guard⟩ (some 77) (by simp) rfl rfl; exact u.trans (congrArg some h)
            clear hd hi
            refine wanted_yes rfl rfl u77 ?_
            go_simp
            exact hK.out _ _ rfl hS trivial
          refine FlowStepsX.stepY 88 33 26 rfl rfl (by kernel_rfl) (by kernel_rfl) (by kernel_rfl) rfl rfl ?_ ?_
          ·
            intro c act W hc ha hS hd hi K hK
            clear ha
            have u80 : act.tmps[80]? = some (.int .i64 (a / 128)) := by obtain ⟨_, u, h⟩ := hd.out ⟨24, .data⟩ (some 80) (by simp) rfl rfl; exact u.trans (congrArg some h)
            have u77 : act.tmps[77]? = some (.bool true) := by obtain ⟨_, u, h⟩ := hd.out ⟨21, .guard⟩ (some 77) (by simp) rfl rfl; exact u.trans (congrArg some h)
            clear hd hi
            refine wanted_yes rfl rfl u77 ?_
            go_simp
            exact hK.out _ _ rfl hS trivial
          refine FlowStepsX.stepY 88 33 27 rfl rfl (by kernel_rfl) (by kernel_rfl) (by kernel_rfl) rfl rfl ?_ ?_
          ·
            intro c act W hc ha hS hd hi K hK
            clear ha
            have u81 : act.tmps[81]? = some (.int .i64 0) := by obtain ⟨_, u, h⟩ := hd.out ⟨25, .data⟩ (some 81) (by simp) rfl rfl; exact u.trans (congrArg some h)
            have u77 : act.tmps[77]? = some (.bool true) := by obtain ⟨_, u, h⟩ := hd.out ⟨21, .guard⟩ (some 77) (by simp) rfl rfl; exact u.trans (congrArg some h)
            clear hd hi
            refine wanted_yes rfl rfl u77 ?_
            go_simp
            exact hK.out _ _ rfl hS trivial
          refine FlowStepsX.stepY 88 33 28 rfl rfl (by kernel_rfl) (by kernel_rfl) (by kernel_rfl) rfl rfl ?_ ?_
          ·
            intro c act W hc ha hS hd hi K hK
            clear ha
            have u82 : act.tmps[82]? = some (.bool true) := by obtain ⟨_, u, h⟩ := hd.out ⟨26, .data⟩ (some 82) (by simp) rfl rfl; exact u.trans (congrArg some h)
            have u77 : act.tmps[77]? = some (.bool true) := by obtain ⟨_, u, h⟩ := hd.out ⟨21, .chain⟩ (some 77) (by simp) rfl rfl; exact u.trans (congrArg some h)
            clear hd hi
            refine wanted_yes rfl rfl u77 ?_
            go_simp
            exact hK.out _ _ rfl hS trivial
          refine FlowStepsX.stepY 88 33 29 rfl rfl (by kernel_rfl) (by kernel_rfl) (by kernel_rfl) rfl rfl ?_ ?_
          ·
            intro c act W hc ha hS hd hi K hK
            clear ha
            have u83 : act.tmps[83]? = some (.bool true) := by obtain ⟨_, u, h⟩ := hd.out ⟨27, .guard⟩ (some 83) (by simp) rfl rfl; exact u.trans (congrArg some h)
            have u5 : act.tmps[5]? = some (.int .i64 (n : Nat)) := (hi.out 5 (by kernel_rfl)).trans rfl
            clear hd hi
            refine wanted_no rfl rfl u83 ?_
            exact hK.out undef W rfl hS trivial
          refine FlowStepsX.stepY 88 33 30 rfl rfl (by kernel_rfl) (by kernel_rfl) (by kernel_rfl) rfl rfl ?_ ?_
          ·
            intro c act W hc ha hS hd hi K hK
            clear ha
            have u83 : act.tmps[83]? = some (.bool true) := by obtain ⟨_, u, h⟩ := hd.out ⟨27, .guard⟩ (some 83) (by simp) rfl rfl; exact u.trans (congrArg some h)
            clear hd hi
            refine wanted_no rfl rfl u83 ?_
            exact hK.out undef W rfl hS trivial
          refine FlowStepsX.stepY 88 33 31 rfl rfl (by kernel_rfl) (by kernel_rfl) (by kernel_rfl) rfl rfl ?_ ?_
          ·
            intro c act W hc ha hS hd hi K hK
            clear ha
            have u83 : act.tmps[83]? = some (.bool true) := by obtain ⟨_, u, h⟩ := hd.out ⟨27, .data⟩ (some 83) (by simp) rfl rfl; exact u.trans (congrArg some h)
            have u85 : act.tmps[85]? = some (undef) := by obtain ⟨_, u, h⟩ := hd.out ⟨29, .data⟩ (some 85) (by simp) rfl rfl; exact u.trans (congrArg some h)
            have u77 : act.tmps[77]? = some (.bool true) := by obtain ⟨_, u, h⟩ := hd.out ⟨21, .guard⟩ (some 77) (by simp) rfl rfl; exact u.trans (congrArg some h)
            clear hd hi
            refine wanted_yes rfl rfl u77 ?_
            go_simp
            exact hK.out _ _ rfl hS trivial
          refine FlowStepsX.stepY 88 33 32 rfl rfl (by kernel_rfl) (by kernel_rfl) (by kernel_rfl) rfl rfl ?_ ?_
          ·
            intro c act W hc ha hS hd hi K hK
            clear ha
            have u77 : act.tmps[77]? = some (.bool true) := by obtain ⟨_, u, h⟩ := hd.out ⟨21, .data⟩ (some 77) (by simp) rfl rfl; exact u.trans (congrArg some h)
            have u86 : act.tmps[86]? = some (.bool true) := by obtain ⟨_, u, h⟩ := hd.out ⟨30, .data⟩ (some 86) (by simp) rfl rfl; exact u.trans (congrArg some h)
            clear hd hi
            refine wanted_un rfl ?_
            go_simp
            exact hK.out _ _ rfl hS trivial
          refine FlowStepsX.stepY 88 33 33 rfl rfl (by kernel_rfl) (by kernel_rfl) (by kernel_rfl) rfl rfl ?_ ?_
          ·
            intro c act W hc ha hS hd hi K hK
            clear ha
            have u87 : act.tmps[87]? = some (.bool true) := by obtain ⟨_, u, h⟩ := hd.out ⟨31, .data⟩ (some 87) (by simp) rfl rfl; exact u.trans (congrArg some h)
            clear hd hi
            refine wanted_un rfl ?_
            go_simp
            exact hK.out _ _ rfl hS trivial
          exact FlowStepsX.nil
        · intro c ρ W hc hS hd
          simp only [putFrom, Act.put, List.setIfInBounds_toArray, List.set_cons_zero, List.set_cons_succ, Nat.reduceAdd]
          have d32 := hd.out 32 (by decide)
          simp only [takeV0] at d32
          generalize ρ 32 = x32 at d32 ⊢
          subst d32
          clear hd
          have BW : Below w.heap.size w W := B3.trans (hS.mono B3.size)
          go_wp2_with fail
          go_ret
          exact ⟨rfl, BW⟩
      · have h77 : (a / 128).tmod 2 = 1 := by
          rw [Int.tmod_eq_emod_of_nonneg (by omega)]; omega
        have H77 := hide (show ((n : Int) == 7) = true by
          have : n = 7 := by rcases F7.out with h | h; exact absurd h h7; exact h
          simp [this])
        clear h7
        refine wp_flowX (os := [_, _, _, _, _, _, _, _, _, _, _, _, _, _, _, _, _, _, _, _, _, _, _, _, _, _, _, _, _, _, _, _, _]) (fun c W => Below w3.heap.size w3 W) (fun _ _ _ => True) (fun i v _ => v = takeV1 a b y n gd i) 33 rfl ?_ ?_ ?_ (fun i j v w1 w2 _ h _ => h) ?_ ?_ ?_
        · kernel_rfl
        · kernel_rfl
        · kernel_rfl
        · exact (by repeat' (first | exact Below.refl _ _ | assumption | exact And.left (by assumption) | omega | (simp; done) | (simp; omega) | (simp at *; omega) | (refine Below.setCell ?_ ?_ _) | (refine below_alloc0 ?_ _) | (refine Below.drew ?_) | (refine below_drewN ?_ _) | (refine below_via0 ?_ (by assumption)) | (refine Below.alloc ?_ ?_ _) | (refine below_via ?_ (by assumption) ?_)))
        ·
          refine FlowStepsX.stepY 88 33 1 rfl rfl (by kernel_rfl) (by kernel_rfl) (by kernel_rfl) rfl rfl ?_ ?_
          ·
            intro c act W hc ha hS hd hi K hK
            clear ha
            have u3 : act.tmps[3]? = some (.pointer (some ⟨gd, 0, none⟩)) := (hi.out 3 (by kernel_rfl)).trans rfl
            clear hd hi
            refine wanted_un rfl ?_
            go_simp
            exact hK.out _ _ rfl hS trivial
          refine FlowStepsX.stepY 88 33 2 rfl rfl (by kernel_rfl) (by kernel_rfl) (by kernel_rfl) rfl rfl ?_ ?_
          ·
            intro c act W hc ha hS hd hi K hK
            clear ha
            have u56 : act.tmps[56]? = some (.pointer (some ⟨gd, 0, none⟩)) := by obtain ⟨_, u, h⟩ := hd.out ⟨0, .data⟩ (some 56) (by simp) rfl rfl; exact u.trans (congrArg some h)
            clear hd hi
            refine wanted_un rfl ?_
            have e1 := (hS.cell (p := ⟨gd, 0, none⟩) gg).trans ca
            go_simp
            exact hK.out _ _ rfl hS trivial
          refine FlowStepsX.stepY 88 33 3 rfl rfl (by kernel_rfl) (by kernel_rfl) (by kernel_rfl) rfl rfl ?_ ?_
          ·
            intro c act W hc ha hS hd hi K hK
            clear ha
            have u5 : act.tmps[5]? = some (.int .i64 (n : Nat)) := (hi.out 5 (by kernel_rfl)).trans rfl
            clear hd hi
            refine wanted_un rfl ?_
            go_simp
            exact hK.out _ _ rfl hS trivial
          refine FlowStepsX.stepY 88 33 4 rfl rfl (by kernel_rfl) (by kernel_rfl) (by kernel_rfl) rfl rfl ?_ ?_
          ·
            intro c act W hc ha hS hd hi K hK
            clear ha
            have u57 : act.tmps[57]? = some (.int .i64 a) := by obtain ⟨_, u, h⟩ := hd.out ⟨1, .data⟩ (some 57) (by simp) rfl rfl; exact u.trans (congrArg some h)
            have u58 : act.tmps[58]? = some (.int .i64 (n : Nat)) := by obtain ⟨_, u, h⟩ := hd.out ⟨2, .data⟩ (some 58) (by simp) rfl rfl; exact u.trans (congrArg some h)
            clear hd hi
            refine wanted_un rfl ?_
            go_simp
            exact hK.out _ _ rfl hS trivial
          refine FlowStepsX.stepY 88 33 5 rfl rfl (by kernel_rfl) (by kernel_rfl) (by kernel_rfl) rfl rfl ?_ ?_
          ·
            intro c act W hc ha hS hd hi K hK
            clear ha
            have u59 : act.tmps[59]? = some (.int .i64 (a / 2 ^ n)) := by obtain ⟨_, u, h⟩ := hd.out ⟨3, .data⟩ (some 59) (by simp) rfl rfl; exact u.trans (congrArg some h)
            clear hd hi
            refine wanted_un rfl ?_
            go_simp
            exact hK.out _ _ rfl hS trivial
          refine FlowStepsX.stepY 88 33 6 rfl rfl (by kernel_rfl) (by kernel_rfl) (by kernel_rfl) rfl rfl ?_ ?_
          ·
            intro c act W hc ha hS hd hi K hK
            clear ha
            have u60 : act.tmps[60]? = some (.int .i64 ((a / 2 ^ n).tmod 2)) := by obtain ⟨_, u, h⟩ := hd.out ⟨4, .data⟩ (some 60) (by simp) rfl rfl; exact u.trans (congrArg some h)
            clear hd hi
            refine wanted_un rfl ?_
            have s1 := S12.out.1
            go_simp
            exact hK.out _ _ rfl hS trivial
          refine FlowStepsX.stepY 88 33 7 rfl rfl (by kernel_rfl) (by kernel_rfl) (by kernel_rfl) rfl rfl ?_ ?_
          ·
            intro c act W hc ha hS hd hi K hK
            clear ha
            have u61 : act.tmps[61]? = some (.bool true) := by obtain ⟨_, u, h⟩ := hd.out ⟨5, .data⟩ (some 61) (by simp) rfl rfl; exact u.trans (congrArg some h)
            clear hd hi
            refine wanted_un rfl ?_
            go_simp
            exact hK.out _ _ rfl hS trivial
          refine FlowStepsX.stepY 88 33 8 rfl rfl (by kernel_rfl) (by kernel_rfl) (by kernel_rfl) rfl rfl ?_ ?_
          ·
            intro c act W hc ha hS hd hi K hK
            clear ha
            have u62 : act.tmps[62]? = some (.bool true) := by obtain ⟨_, u, h⟩ := hd.out ⟨6, .guard⟩ (some 62) (by simp) rfl rfl; exact u.trans (congrArg some h)
            have u3 : act.tmps[3]? = some (.pointer (some ⟨gd, 0, none⟩)) := (hi.out 3 (by kernel_rfl)).trans rfl
            clear hd hi
            refine wanted_yes rfl rfl u62 ?_
            go_simp
            exact hK.out _ _ rfl hS trivial
          refine FlowStepsX.stepY 88 33 9 rfl rfl (by kernel_rfl) (by kernel_rfl) (by kernel_rfl) rfl rfl ?_ ?_
          ·
            intro c act W hc ha hS hd hi K hK
            clear ha
            have u63 : act.tmps[63]? = some (.pointer (some ⟨gd, 1, none⟩)) := by obtain ⟨_, u, h⟩ := hd.out ⟨7, .data⟩ (some 63) (by simp) rfl rfl; exact u.trans (congrArg some h)
            have u62 : act.tmps[62]? = some (.bool true) := by obtain ⟨_, u, h⟩ := hd.out ⟨6, .guard⟩ (some 62) (by simp) rfl rfl; exact u.trans (congrArg some h)
            clear hd hi
            refine wanted_yes rfl rfl u62 ?_
            have e1 := (hS.cell (p := ⟨gd, 1, none⟩) gg).trans cb
            go_simp
            exact hK.out _ _ rfl hS trivial
          refine FlowStepsX.stepY 88 33 10 rfl rfl (by kernel_rfl) (by kernel_rfl) (by kernel_rfl) rfl rfl ?_ ?_
          ·
            intro c act W hc ha hS hd hi K hK
            clear ha
            have u62 : act.tmps[62]? = some (.bool true) := by obtain ⟨_, u, h⟩ := hd.out ⟨6, .guard⟩ (some 62) (by simp) rfl rfl; exact u.trans (congrArg some h)
            have u5 : act.tmps[5]? = some (.int .i64 (n : Nat)) := (hi.out 5 (by kernel_rfl)).trans rfl
            clear hd hi
            refine wanted_yes rfl rfl u62 ?_
            go_simp
            exact hK.out _ _ rfl hS trivial
          refine FlowStepsX.stepY 88 33 11 rfl rfl (by kernel_rfl) (by kernel_rfl) (by kernel_rfl) rfl rfl ?_ ?_
          ·
            intro c act W hc ha hS hd hi K hK
            clear ha
            have u64 : act.tmps[64]? = some (.int .i64 b) := by obtain ⟨_, u, h⟩ := hd.out ⟨8, .data⟩ (some 64) (by simp) rfl rfl; exact u.trans (congrArg some h)
            have u65 : act.tmps[65]? = some (.int .i64 (n : Nat)) := by obtain ⟨_, u, h⟩ := hd.out ⟨9, .data⟩ (some 65) (by simp) rfl rfl; exact u.trans (congrArg some h)
            have u62 : act.tmps[62]? = some (.bool true) := by obtain ⟨_, u, h⟩ := hd.out ⟨6, .guard⟩ (some 62) (by simp) rfl rfl; exact u.trans (congrArg some h)
            clear hd hi
            refine wanted_yes rfl rfl u62 ?_
            go_simp
            exact hK.out _ _ rfl hS trivial
          refine FlowStepsX.stepY 88 33 12 rfl rfl (by kernel_rfl) (by kernel_rfl) (by kernel_rfl) rfl rfl ?_ ?_
          ·
            intro c act W hc ha hS hd hi K hK
            clear ha
            have u66 : act.tmps[66]? = some (.int .i64 (b / 2 ^ n)) := by obtain ⟨_, u, h⟩ := hd.out ⟨10, .data⟩ (some 66) (by simp) rfl rfl; exact u.trans (congrArg some h)
            have u62 : act.tmps[62]? = some (.bool true) := by obtain ⟨_, u, h⟩ := hd.out ⟨6, .guard⟩ (some 62) (by simp) rfl rfl; exact u.trans (congrArg some h)
            clear hd hi
            refine wanted_yes rfl rfl u62 ?_
            go_simp
            exact hK.out _ _ rfl hS trivial
          refine FlowStepsX.stepY 88 33 13 rfl rfl (by kernel_rfl) (by kernel_rfl) (by kernel_rfl) rfl rfl ?_ ?_
          ·
            intro c act W hc ha hS hd hi K hK
            clear ha
            have u67 : act.tmps[67]? = some (.int .i64 ((b / 2 ^ n).tmod 2)) := by obtain ⟨_, u, h⟩ := hd.out ⟨11, .data⟩ (some 67) (by simp) rfl rfl; exact u.trans (congrArg some h)
            have u62 : act.tmps[62]? = some (.bool true) := by obtain ⟨_, u, h⟩ := hd.out ⟨6, .guard⟩ (some 62) (by simp) rfl rfl; exact u.trans (congrArg some h)
            clear hd hi
            refine wanted_yes rfl rfl u62 ?_
            have s2 := S12.out.2
            go_simp
            exact hK.out _ _ rfl hS trivial
          refine FlowStepsX.stepY 88 33 14 rfl rfl (by kernel_rfl) (by kernel_rfl) (by kernel_rfl) rfl rfl ?_ ?_
          ·
            intro c act W hc ha hS hd hi K hK
            clear ha
            have u62 : act.tmps[62]? = some (.bool true) := by obtain ⟨_, u, h⟩ := hd.out ⟨6, .data⟩ (some 62) (by simp) rfl rfl; exact u.trans (congrArg some h)
            have u68 : act.tmps[68]? = some (.bool true) := by obtain ⟨_, u, h⟩ := hd.out ⟨12, .data⟩ (some 68) (by simp) rfl rfl; exact u.trans (congrArg some h)
            clear hd hi
            refine wanted_un rfl ?_
            go_simp
            exact hK.out _ _ rfl hS trivial
          refine FlowStepsX.stepY 88 33 15 rfl rfl (by kernel_rfl) (by kernel_rfl) (by kernel_rfl) rfl rfl ?_ ?_
          ·
            intro c act W hc ha hS hd hi K hK
            clear ha
            have u69 : act.tmps[69]? = some (.bool true) := by obtain ⟨_, u, h⟩ := hd.out ⟨13, .data⟩ (some 69) (by simp) rfl rfl; exact u.trans (congrArg some h)
            clear hd hi
            refine wanted_un rfl ?_
            go_simp
            exact hK.out _ _ rfl hS trivial
          refine FlowStepsX.stepY 88 33 16 rfl rfl (by kernel_rfl) (by kernel_rfl) (by kernel_rfl) rfl rfl ?_ ?_
          ·
            intro c act W hc ha hS hd hi K hK
            clear ha
            have u70 : act.tmps[70]? = some (.bool true) := by obtain ⟨_, u, h⟩ := hd.out ⟨14, .guard⟩ (some 70) (by simp) rfl rfl; exact u.trans (congrArg some h)
            have u4 : act.tmps[4]? = some (.pointer (some ⟨xd, 0, none⟩)) := (hi.out 4 (by kernel_rfl)).trans rfl
            clear hd hi
            refine wanted_yes rfl rfl u70 ?_
            have e1 := (hS.cell (p := ⟨xd, 0, none⟩) gx).trans cy
            have e2 := (hS.cell (p := ⟨xd, 1, none⟩) gx).trans cb2
            go_simp
            exact hK.out _ _ rfl hS trivial
          refine FlowStepsX.stepY 88 33 17 rfl rfl (by kernel_rfl) (by kernel_rfl) (by kernel_rfl) rfl rfl ?_ ?_
          ·
            intro c act W hc ha hS hd hi K hK
            clear ha
            have u70 : act.tmps[70]? = some (.bool true) := by obtain ⟨_, u, h⟩ := hd.out ⟨14, .guard⟩ (some 70) (by simp) rfl rfl; exact u.trans (congrArg some h)
            have u5 : act.tmps[5]? = some (.int .i64 (n : Nat)) := (hi.out 5 (by kernel_rfl)).trans rfl
            clear hd hi
            refine wanted_yes rfl rfl u70 ?_
            go_simp
            exact hK.out _ _ rfl hS trivial
          refine FlowStepsX.stepY 88 33 18 rfl rfl (by kernel_rfl) (by kernel_rfl) (by kernel_rfl) rfl rfl ?_ ?_
          ·
            intro c act W hc ha hS hd hi K hK
            clear ha
            have u71 : act.tmps[71]? = some (.agg #[.int .i64 y, .int .i64 b]) := by obtain ⟨_, u, h⟩ := hd.out ⟨15, .data⟩ (some 71) (by simp) rfl rfl; exact u.trans (congrArg some h)
            have u72 : act.tmps[72]? = some (.int .i64 (n : Nat)) := by obtain ⟨_, u, h⟩ := hd.out ⟨16, .data⟩ (some 72) (by simp) rfl rfl; exact u.trans (congrArg some h)
            have u70 : act.tmps[70]? = some (.bool true) := by obtain ⟨_, u, h⟩ := hd.out ⟨14, .chain⟩ (some 70) (by simp) rfl rfl; exact u.trans (congrArg some h)
            clear hd hi
            refine wanted_yes rfl rfl u70 ?_
            go_wp2_with (go_at_call 20; refine (PI.out _).mono ?_; rintro e w6 ⟨rfl, hb6⟩)
            exact hK.out _ w6 rfl (hS.trans (hb6.mono hS.size)) trivial
          refine FlowStepsX.stepY 88 33 19 rfl rfl (by kernel_rfl) (by kernel_rfl) (by kernel_rfl) rfl rfl ?_ ?_
          ·
            intro c act W hc ha hS hd hi K hK
            clear ha
            have u70 : act.tmps[70]? = some (.bool true) := by obtain ⟨_, u, h⟩ := hd.out ⟨14, .guard⟩ (some 70) (by simp) rfl rfl; exact u.trans (congrArg some h)
            have u3 : act.tmps[3]? = some (.pointer (some ⟨gd, 0, none⟩)) := (hi.out 3 (by kernel_rfl)).trans rfl
            clear hd hi
            refine wanted_yes rfl rfl u70 ?_
            have e1 := (hS.cell (p := ⟨gd, 0, none⟩) gg).trans ca
            have e2 := (hS.cell (p := ⟨gd, 1, none⟩) gg).trans cb
            go_simp
            exact hK.out _ _ rfl hS trivial
          refine FlowStepsX.stepY 88 33 20 rfl rfl (by kernel_rfl) (by kernel_rfl) (by kernel_rfl) rfl rfl ?_ ?_
          ·
            intro c act W hc ha hS hd hi K hK
            clear ha
            have u73 : act.tmps[73]? = some (.agg #[.int .i64 a, .int .i64 b]) := by obtain ⟨_, u, h⟩ := hd.out ⟨17, .data⟩ (some 73) (by simp) rfl rfl; exact u.trans (congrArg some h)
            have u74 : act.tmps[74]? = some (.agg #[.int .i64 a, .int .i64 b]) := by obtain ⟨_, u, h⟩ := hd.out ⟨18, .data⟩ (some 74) (by simp) rfl rfl; exact u.trans (congrArg some h)
            have u70 : act.tmps[70]? = some (.bool true) := by obtain ⟨_, u, h⟩ := hd.out ⟨14, .guard⟩ (some 70) (by simp) rfl rfl; exact u.trans (congrArg some h)
            clear hd hi
            refine wanted_yes rfl rfl u70 ?_
            go_simp
            exact hK.out _ _ rfl hS trivial
          refine FlowStepsX.stepY 88 33 21 rfl rfl (by kernel_rfl) (by kernel_rfl) (by kernel_rfl) rfl rfl ?_ ?_
          ·
            intro c act W hc ha hS hd hi K hK
            clear ha
            have u70 : act.tmps[70]? = some (.bool true) := by obtain ⟨_, u, h⟩ := hd.out ⟨14, .data⟩ (some 70) (by simp) rfl rfl; exact u.trans (congrArg some h)
            have u75 : act.tmps[75]? = some (.bool true) := by obtain ⟨_, u, h⟩ := hd.out ⟨19, .data⟩ (some 75) (by simp) rfl rfl; exact u.trans (congrArg some h)
            clear hd hi
            refine wanted_un rfl ?_
            go_simp
            exact hK.out _ _ rfl hS trivial
          refine FlowStepsX.stepY 88 33 22 rfl rfl (by kernel_rfl) (by kernel_rfl) (by kernel_rfl) rfl rfl ?_ ?_
          ·
            intro c act W hc ha hS hd hi K hK
            clear ha
            have u76 : act.tmps[76]? = some (.bool true) := by obtain ⟨_, u, h⟩ := hd.out ⟨20, .data⟩ (some 76) (by simp) rfl rfl; exact u.trans (congrArg some h)
            clear hd hi
            refine wanted_un rfl ?_
            go_simp
            exact hK.out _ _ rfl hS trivial
          refine FlowStepsX.stepY 88 33 23 rfl rfl (by kernel_rfl) (by kernel_rfl) (by kernel_rfl) rfl rfl ?_ ?_
          ·
            intro c act W hc ha hS hd hi K hK
            clear ha
            have u77 : act.tmps[77]? = some (.bool true) := by obtain ⟨_, u, h⟩ := hd.out ⟨21, .guard⟩ (some 77) (by simp) rfl rfl; exact u.trans (congrArg some h)
            have u3 : act.tmps[3]? = some (.pointer (some ⟨gd, 0, none⟩)) := (hi.out 3 (by kernel_rfl)).trans rfl
            clear hd hi
            refine wanted_yes rfl rfl u77 ?_
            go_simp
            exact hK.out _ _ rfl hS trivial
          refine FlowStepsX.stepY 88 33 24 rfl rfl (by kernel_rfl) (by kernel_rfl) (by kernel_rfl) rfl rfl ?_ ?_
          ·
            intro c act W hc ha hS hd hi K hK
            clear ha
            have u78 : act.tmps[78]? = some (.pointer (some ⟨gd, 0, none⟩)) := by obtain ⟨_, u, h⟩ := hd.out ⟨22, .data⟩ (some 78) (by simp) rfl rfl; exact u.trans (congrArg some h)
            have u77 : act.tmps[77]? = some (.bool true) := by obtain ⟨_, u, h⟩ := hd.out ⟨21, .guard⟩ (some 77) (by simp) rfl rfl; exact u.trans (congrArg some h)
            clear hd hi
            refine wanted_yes rfl rfl u77 ?_
            have e1 := (hS.cell (p := ⟨gd, 0, none⟩) gg).trans ca
            go_simp
            exact hK.out _ _ rfl hS trivial
          refine FlowStepsX.stepY 88 33 25 rfl rfl (by kernel_rfl) (by kernel_rfl) (by kernel_rfl) rfl rfl ?_ ?_
          ·
            intro c act W hc ha hS hd hi K hK
            clear ha
            have u79 : act.tmps[79]? = some (.int .i64 a) := by obtain ⟨_, u, h⟩ := hd.out ⟨23, .data⟩ (some 79) (by simp) rfl rfl; exact u.trans (congrArg some h)
            have u77 : act.tmps[77]? = some (.bool true) := by obtain ⟨_, u, h⟩ := hd.out ⟨21, .guard⟩ (some 77) (by simp) rfl rfl; exact u.trans (congrArg some h)
            clear hd hi
            refine wanted_yes rfl rfl u77 ?_
            go_simp
            exact hK.out _ _ rfl hS trivial
          refine FlowStepsX.stepY 88 33 26 rfl rfl (by kernel_rfl) (by kernel_rfl) (by kernel_rfl) rfl rfl ?_ ?_
          ·
            intro c act W hc ha hS hd hi K hK
            clear ha
            have u80 : act.tmps[80]? = some (.int .i64 (a / 128)) := by obtain ⟨_, u, h⟩ := hd.out ⟨24, .data⟩ (some 80) (by simp) rfl rfl; exact u.trans (congrArg some h)
            have u77 : act.tmps[77]? = some (.bool true) := by obtain ⟨_, u, h⟩ := hd.out ⟨21, .guard⟩ (some 77) (by simp) rfl rfl; exact u.trans (congrArg some h)
            clear hd hi
            refine wanted_yes rfl rfl u77 ?_
            go_simp
            exact hK.out _ _ rfl hS trivial
          refine FlowStepsX.stepY 88 33 27 rfl rfl (by kernel_rfl) (by kernel_rfl) (by kernel_rfl) rfl rfl ?_ ?_
          ·
            intro c act W hc ha hS hd hi K hK
            clear ha
            have u81 : act.tmps[81]? = some (.int .i64 1) := by obtain ⟨_, u, h⟩ := hd.out ⟨25, .data⟩ (some 81) (by simp) rfl rfl; exact u.trans (congrArg some h)
            have u77 : act.tmps[77]? = some (.bool true) := by obtain ⟨_, u, h⟩ := hd.out ⟨21, .guard⟩ (some 77) (by simp) rfl rfl; exact u.trans (congrArg some h)
            clear hd hi
            refine wanted_yes rfl rfl u77 ?_
            go_simp
            exact hK.out _ _ rfl hS trivial
          refine FlowStepsX.stepY 88 33 28 rfl rfl (by kernel_rfl) (by kernel_rfl) (by kernel_rfl) rfl rfl ?_ ?_
          ·
            intro c act W hc ha hS hd hi K hK
            clear ha
            have u82 : act.tmps[82]? = some (.bool false) := by obtain ⟨_, u, h⟩ := hd.out ⟨26, .data⟩ (some 82) (by simp) rfl rfl; exact u.trans (congrArg some h)
            have u77 : act.tmps[77]? = some (.bool true) := by obtain ⟨_, u, h⟩ := hd.out ⟨21, .chain⟩ (some 77) (by simp) rfl rfl; exact u.trans (congrArg some h)
            clear hd hi
            refine wanted_yes rfl rfl u77 ?_
            go_simp
            exact hK.out _ _ rfl hS trivial
          refine FlowStepsX.stepY 88 33 29 rfl rfl (by kernel_rfl) (by kernel_rfl) (by kernel_rfl) rfl rfl ?_ ?_
          ·
            intro c act W hc ha hS hd hi K hK
            clear ha
            have u83 : act.tmps[83]? = some (.bool false) := by obtain ⟨_, u, h⟩ := hd.out ⟨27, .guard⟩ (some 83) (by simp) rfl rfl; exact u.trans (congrArg some h)
            have u5 : act.tmps[5]? = some (.int .i64 (n : Nat)) := (hi.out 5 (by kernel_rfl)).trans rfl
            clear hd hi
            refine wanted_yes rfl rfl u83 ?_
            go_simp
            exact hK.out _ _ rfl hS trivial
          refine FlowStepsX.stepY 88 33 30 rfl rfl (by kernel_rfl) (by kernel_rfl) (by kernel_rfl) rfl rfl ?_ ?_
          ·
            intro c act W hc ha hS hd hi K hK
            clear ha
            have u84 : act.tmps[84]? = some (.int .i64 (n : Nat)) := by obtain ⟨_, u, h⟩ := hd.out ⟨28, .data⟩ (some 84) (by simp) rfl rfl; exact u.trans (congrArg some h)
            have u83 : act.tmps[83]? = some (.bool false) := by obtain ⟨_, u, h⟩ := hd.out ⟨27, .guard⟩ (some 83) (by simp) rfl rfl; exact u.trans (congrArg some h)
            clear hd hi
            refine wanted_yes rfl rfl u83 ?_
            have s7 := H77.out
            go_simp
            exact hK.out _ _ rfl hS trivial
          refine FlowStepsX.stepY 88 33 31 rfl rfl (by kernel_rfl) (by kernel_rfl) (by kernel_rfl) rfl rfl ?_ ?_
          ·
            intro c act W hc ha hS hd hi K hK
            clear ha
            have u83 : act.tmps[83]? = some (.bool false) := by obtain ⟨_, u, h⟩ := hd.out ⟨27, .data⟩ (some 83) (by simp) rfl rfl; exact u.trans (congrArg some h)
            have u85 : act.tmps[85]? = some (.bool true) := by obtain ⟨_, u, h⟩ := hd.out ⟨29, .data⟩ (some 85) (by simp) rfl rfl; exact u.trans (congrArg some h)
            have u77 : act.tmps[77]? = some (.bool true) := by obtain ⟨_, u, h⟩ := hd.out ⟨21, .guard⟩ (some 77) (by simp) rfl rfl; exact u.trans (congrArg some h)
            clear hd hi
            refine wanted_yes rfl rfl u77 ?_
            go_simp
            exact hK.out _ _ rfl hS trivial
          refine FlowStepsX.stepY 88 33 32 rfl rfl (by kernel_rfl) (by kernel_rfl) (by kernel_rfl) rfl rfl ?_ ?_
          ·
            intro c act W hc ha hS hd hi K hK
            clear ha
            have u77 : act.tmps[77]? = some (.bool true) := by obtain ⟨_, u, h⟩ := hd.out ⟨21, .data⟩ (some 77) (by simp) rfl rfl; exact u.trans (congrArg some h)
            have u86 : act.tmps[86]? = some (.bool true) := by obtain ⟨_, u, h⟩ := hd.out ⟨30, .data⟩ (some 86) (by simp) rfl rfl; exact u.trans (congrArg some h)
            clear hd hi
            refine wanted_un rfl ?_
            go_simp
            exact hK.out _ _ rfl hS trivial
          refine FlowStepsX.stepY 88 33 33 rfl rfl (by kernel_rfl) (by kernel_rfl) (by kernel_rfl) rfl rfl ?_ ?_
          ·
            intro c act W hc ha hS hd hi K hK
            clear ha
            have u87 : act.tmps[87]? = some (.bool true) := by obtain ⟨_, u, h⟩ := hd.out ⟨31, .data⟩ (some 87) (by simp) rfl rfl; exact u.trans (congrArg some h)
            clear hd hi
            refine wanted_un rfl ?_
            go_simp
            exact hK.out _ _ rfl hS trivial
          exact FlowStepsX.nil
        · intro c ρ W hc hS hd
          simp only [putFrom, Act.put, List.setIfInBounds_toArray, List.set_cons_zero, List.set_cons_succ, Nat.reduceAdd]
          have d32 := hd.out 32 (by decide)
          simp only [takeV1] at d32
          generalize ρ 32 = x32 at d32 ⊢
          subst d32
          clear hd
          have BW : Below w.heap.size w W := B3.trans (hS.mono B3.size)
          go_wp2_with fail
          go_ret
          exact ⟨rfl, BW⟩
    · have HN := take_none hok
      rw [HN] at PS ⊢
      clear HN
      cases hv : sigB a b with
      | true =>
        have hz : fr a b = 0 := by
          by_cases hz : fr a b = 0
          · exact hz
          · exact absurd ⟨hv, hz⟩ hok
        have e1 : takeW a b = a := by simp [takeW, hv, hz]
        have e2 : takeH a b = b := by simp [takeH, hv]
        rw [e1, e2] at PS ⊢
        have HF := hide (show bits .andNot .i64 a b = 0 from hz)
        have HV := hide hv
        clear e1 e2 hz hv hok
        rintro e w2 ⟨rfl, hb2⟩
        have L2 := live hb2 w1.heap.size (by first | omega | (simp; done) | (simp; omega))
        have B2 : Below w.heap.size w w2 := (by repeat' (first | exact Below.refl _ _ | assumption | exact And.left (by assumption) | omega | (simp; done) | (simp; omega) | (simp at *; omega) | (refine Below.setCell ?_ ?_ _) | (refine below_alloc0 ?_ _) | (refine Below.drew ?_) | (refine below_drewN ?_ _) | (refine below_via0 ?_ (by assumption)) | (refine Below.alloc ?_ ?_ _) | (refine below_via ?_ (by assumption) ?_)))
        go_wp2_with fail
        refine (PS.out _).mono ?_
        rintro e w3 ⟨rfl, hb3⟩
        have L3 := live hb3 w1.heap.size (by first | omega | (simp; done) | (simp; omega))
        have M3 := live hb3 w2.heap.size (by first | omega | (simp; done) | (simp; omega))
        have B3 : Below w.heap.size w w3 := (by repeat' (first | exact Below.refl _ _ | assumption | exact And.left (by assumption) | omega | (simp; done) | (simp; omega) | (simp at *; omega) | (refine Below.setCell ?_ ?_ _) | (refine below_alloc0 ?_ _) | (refine Below.drew ?_) | (refine below_drewN ?_ _) | (refine below_via0 ?_ (by assumption)) | (refine Below.alloc ?_ ?_ _) | (refine below_via ?_ (by assumption) ?_)))
        go_wp2_with fail
        refine (sigImpl_c _ _ _).mono ?_
        rintro e w4 ⟨rfl, hb4⟩
        rw [HV.out]
        have L4 := live hb4 w1.heap.size (by first | omega | (simp; done) | (simp; omega))
        have M4 := live hb4 w2.heap.size (by first | omega | (simp; done) | (simp; omega))
        have B4 : Below w.heap.size w w4 := (by repeat' (first | exact Below.refl _ _ | assumption | exact And.left (by assumption) | omega | (simp; done) | (simp; omega) | (simp at *; omega) | (refine Below.setCell ?_ ?_ _) | (refine below_alloc0 ?_ _) | (refine Below.drew ?_) | (refine below_drewN ?_ _) | (refine below_via0 ?_ (by assumption)) | (refine Below.alloc ?_ ?_ _) | (refine below_via ?_ (by assumption) ?_)))
        have hf := HF.out
        go_wp2_with (go_at_call 15; refine (alive_c _).mono ?_; rintro e w5 ⟨rfl, hb5⟩; have B5 := below_via0 B4 hb5)
        go_ret
        exact ⟨rfl, (by repeat' (first | exact Below.refl _ _ | assumption | exact And.left (by assumption) | omega | (simp; done) | (simp; omega) | (simp at *; omega) | (refine Below.setCell ?_ ?_ _) | (refine below_alloc0 ?_ _) | (refine Below.drew ?_) | (refine below_drewN ?_ _) | (refine below_via0 ?_ (by assumption)) | (refine Below.alloc ?_ ?_ _) | (refine below_via ?_ (by assumption) ?_)))⟩
      | false =>
        have e1 : takeW a b = 0 := by simp [takeW, hv]
        have e2 : takeH a b = 0 := by simp [takeH, hv]
        rw [e1, e2] at PS ⊢
        have HV := hide hv
        clear e1 e2 hv hok
        rintro e w2 ⟨rfl, hb2⟩
        have L2 := live hb2 w1.heap.size (by first | omega | (simp; done) | (simp; omega))
        have B2 : Below w.heap.size w w2 := (by repeat' (first | exact Below.refl _ _ | assumption | exact And.left (by assumption) | omega | (simp; done) | (simp; omega) | (simp at *; omega) | (refine Below.setCell ?_ ?_ _) | (refine below_alloc0 ?_ _) | (refine Below.drew ?_) | (refine below_drewN ?_ _) | (refine below_via0 ?_ (by assumption)) | (refine Below.alloc ?_ ?_ _) | (refine below_via ?_ (by assumption) ?_)))
        go_wp2_with fail
        refine (PS.out _).mono ?_
        rintro e w3 ⟨rfl, hb3⟩
        have L3 := live hb3 w1.heap.size (by first | omega | (simp; done) | (simp; omega))
        have M3 := live hb3 w2.heap.size (by first | omega | (simp; done) | (simp; omega))
        have B3 : Below w.heap.size w w3 := (by repeat' (first | exact Below.refl _ _ | assumption | exact And.left (by assumption) | omega | (simp; done) | (simp; omega) | (simp at *; omega) | (refine Below.setCell ?_ ?_ _) | (refine below_alloc0 ?_ _) | (refine Below.drew ?_) | (refine below_drewN ?_ _) | (refine below_via0 ?_ (by assumption)) | (refine Below.alloc ?_ ?_ _) | (refine below_via ?_ (by assumption) ?_)))
        go_wp2_with fail
        refine (sigImpl_c _ _ _).mono ?_
        rintro e w4 ⟨rfl, hb4⟩
        rw [HV.out]
        have M4 := live hb4 w2.heap.size (by first | omega | (simp; done) | (simp; omega))
        have B4 : Below w.heap.size w w4 := (by repeat' (first | exact Below.refl _ _ | assumption | exact And.left (by assumption) | omega | (simp; done) | (simp; omega) | (simp at *; omega) | (refine Below.setCell ?_ ?_ _) | (refine below_alloc0 ?_ _) | (refine Below.drew ?_) | (refine below_drewN ?_ _) | (refine below_via0 ?_ (by assumption)) | (refine Below.alloc ?_ ?_ _) | (refine below_via ?_ (by assumption) ?_)))
        go_wp2_with (go_at_call 15; refine (alive_c _).mono ?_; rintro e w5 ⟨rfl, hb5⟩; have B5 := below_via0 B4 hb5)
        go_ret
        exact ⟨rfl, (by repeat' (first | exact Below.refl _ _ | assumption | exact And.left (by assumption) | omega | (simp; done) | (simp; omega) | (simp at *; omega) | (refine Below.setCell ?_ ?_ _) | (refine below_alloc0 ?_ _) | (refine Below.drew ?_) | (refine below_drewN ?_ _) | (refine below_via0 ?_ (by assumption)) | (refine Below.alloc ?_ ?_ _) | (refine below_via ?_ (by assumption) ?_)))⟩
end Go.Proofs.Ytheblgfgcmkdiaa
