/-
  The exact law of ForkProcess. No condition.
-/
import Derived.Test.YtlfchcjollcdhaaProg
import Derived.Test.YtlfchcjollcdhaaPrg
namespace Go.Proofs.Ytlfchcjollcdhaa
open Go.RowKit
set_option linter.unusedSimpArgs false
set_option linter.unusedVariables false

theorem forkL_len (l : List Pcs) (q : Int) : (forkL l q).length ≤ 1048576 := by
  unfold forkL
  split
  · rename_i h
    have := (procsB_iff.1 h).2.2.1
    split <;> simp <;> omega
  · simp
set_option maxRecDepth 100000 in
set_option maxHeartbeats 4000000 in
theorem fnExactForkProcess_walk {w : World} (A : Option Addr) (n c : Nat) (l : List Pcs) (hA : InsProcess w A n c l) (q : Int) (hq : (Lit.int .i64 q).wf = true) :
    Calls Try.prog 8 #[.slice A n c, .int .i64 q] w fun e w' => e = .returned (.bool true) ∧ Below w.heap.size w w' := by
  clear hq
  obtain ⟨hIn, hm, hc⟩ := hA
  by_cases h : (n : Int) ≤ 1048576
  case neg =>
    go_enter Try.func8, Try.ntmps8
    go_wp2_with fail
    refine (szProcess_no _ _ _ _ (by omega) (by omega) hm (by omega) _).mono ?_
    rintro e w' ⟨rfl, rfl⟩
    go_wp2
    go_ret
    exact ⟨rfl, Below.refl _ _⟩
  have g1 : 0 ≤ 1048576 - (n : Int) := by omega
  have hn : n ≤ 1048576 := by omega
  have hl := hide hIn.1
  have HI := hide hIn
  have gk1 : ¬ (1 + 8 * (n : Int) < 0) := by omega
  clear hIn
  go_enter Try.func8, Try.ntmps8
  go_wp2_with fail
  refine (szProcess_yes _ _ _ _ h (by omega) _).mono ?_
  rintro e w' ⟨rfl, rfl⟩
  go_wp2_with fail
  refine (toProcessR_c _ _ _ l _ HI.out hn).mono ?_
  rintro e w1 ⟨b1, rfl, o1, hb1⟩
  have S_1 := hide hb1
  have O1 := hide o1
  clear hb1 o1
  go_wp2_with fail
  refine (forkSpec_c _ _ _ l q hn _ (O1.out.ins hl.out)).mono ?_
  rintro e w2 ⟨A0, nL, c0, rfl, hl0, o0, hb2⟩
  have HLL := hide hl0
  have hLb : nL ≤ 1048576 := by rw [← hl0]; exact forkL_len _ _
  have gk2 : ¬ (1 + 8 * (nL : Int) < 0) := by omega
  have S_2 := hide (S_1.out.trans (hb2.mono S_1.out.size))
  have O0_2 := hide o0
  clear hl0 hb2 o0 O1 S_1
  go_wp2_with fail
  refine (toProcessR_c _ _ _ l _ (HI.out.below S_2.out) hn).mono ?_
  rintro e w3 ⟨bx, rfl, ox, hb3⟩
  have P0x := hide (show ∀ a a' : Addr, A0 = some a → some (⟨bx, 0, none⟩ : Addr) = some a' → a.block ≠ a'.block from fun a a' h1 h2 => by have := O0_2.out.lt a h1; have := ox.ge a' h2; omega)
  have Tx := hide (show ∀ a, some (⟨bx, 0, none⟩ : Addr) = some a → w.heap.size ≤ a.block from fun a ha => Nat.le_trans S_2.out.size (ox.ge a ha))
  have S_3 := hide (S_2.out.trans (hb3.mono S_2.out.size))
  have O0_3 := hide (O0_2.out.below hb3)
  clear hb3 S_2 O0_2
  have Ox_3 := hide ox
  clear ox
  go_wp2_with fail
  refine (forkImpl_c _ _ _ l q hn Ox_3.out.cap.1 _ (Ox_3.out.ins hl.out)).mono ?_
  rintro e w4 ⟨Ag, nL', cg, rfl, hlg, og, hb4⟩
  obtain rfl : nL = nL' := HLL.out.symm.trans hlg
  have P0g := hide (show ∀ a a' : Addr, A0 = some a → Ag = some a' → a.block ≠ a'.block from fun a a' h1 h2 => by have := O0_3.out.lt a h1; have := og.ge a' h2; omega)
  have Pxg := hide (show ∀ a a' : Addr, Ag = some a → some (⟨bx, 0, none⟩ : Addr) = some a' → a.block ≠ a'.block from fun a a' h1 h2 => by have := Ox_3.out.lt a' h2; have := og.ge a h1; omega)
  have Tg := hide (show ∀ a, Ag = some a → w.heap.size ≤ a.block from fun a ha => Nat.le_trans S_3.out.size (og.ge a ha))
  have S_4 := hide (S_3.out.trans (hb4.mono S_3.out.size))
  have O0_4 := hide (O0_3.out.below hb4)
  have Ox_4 := hide (Ox_3.out.below hb4)
  clear hb4 S_3 O0_3 Ox_3
  have Og_4 := hide og
  clear og hlg
  go_wp2_with fail
  refine (eqProcessI_c _ _ _ _ _ (forkL l q) hLb _ (Og_4.out.ins HLL.out) (O0_4.out.ins HLL.out)).mono ?_
  rintro e w5 ⟨rfl, hb5⟩
  have S_5 := hide (S_4.out.trans (hb5.mono S_4.out.size))
  have O0_5 := hide (O0_4.out.below hb5)
  have Ox_5 := hide (Ox_4.out.below hb5)
  have Og_5 := hide (Og_4.out.below hb5)
  clear hb5 S_4 O0_4 Ox_4 Og_4
  go_wp2_with fail
  refine (toProcessR_c _ _ _ l _ (HI.out.below S_5.out) hn).mono ?_
  rintro e w6 ⟨by_, rfl, oy, hb6⟩
  have S_6 := hide (S_5.out.trans (hb6.mono S_5.out.size))
  have O0_6 := hide (O0_5.out.below hb6)
  have Ox_6 := hide (Ox_5.out.below hb6)
  have Og_6 := hide (Og_5.out.below hb6)
  clear hb6 S_5 O0_5 Ox_5 Og_5
  have Oy_6 := hide oy
  clear oy
  go_wp2_with fail
  refine (eqProcessI_c _ _ _ _ _ l hn _ (Ox_6.out.ins hl.out) (Oy_6.out.ins hl.out)).mono ?_
  rintro e w7 ⟨rfl, hb7⟩
  have S_7 := hide (S_6.out.trans (hb7.mono S_6.out.size))
  have O0_7 := hide (O0_6.out.below hb7)
  have Ox_7 := hide (Ox_6.out.below hb7)
  have Og_7 := hide (Og_6.out.below hb7)
  have Oy_7 := hide (Oy_6.out.below hb7)
  clear hb7 S_6 O0_6 Ox_6 Og_6 Oy_6
  clear Oy_7
  go_wp2_with fail
  refine (markProcessI_c _ _ _ _ l hn _ Ox_7.out).mono ?_
  rintro e w8 ⟨rfl, hoff, hown⟩
  have hss := S_7.out.size
  have S_8 := hide (hoff.below S_7.out Tx.out hss)
  have O0_8 := hide (O0_7.out.offs hoff P0x.out)
  have Og_8 := hide (Og_7.out.offs hoff Pxg.out)
  clear hss hoff hown S_7 O0_7 Ox_7 Og_7
  go_wp2_with fail
  refine (eqProcessI_c _ _ _ _ _ (forkL l q) hLb _ (Og_8.out.ins HLL.out) (O0_8.out.ins HLL.out)).mono ?_
  rintro e w9 ⟨rfl, hb9⟩
  have S_9 := hide (S_8.out.trans (hb9.mono S_8.out.size))
  have O0_9 := hide (O0_8.out.below hb9)
  have Og_9 := hide (Og_8.out.below hb9)
  clear hb9 S_8 O0_8 Og_8
  go_wp2_with fail
  refine (markProcessI_c _ _ _ _ (forkL l q) hLb _ Og_9.out).mono ?_
  rintro e w10 ⟨rfl, hoff, hown⟩
  have hss := S_9.out.size
  have S_10 := hide (hoff.below S_9.out Tg.out hss)
  have O0_10 := hide (O0_9.out.offs hoff P0g.out)
  have Og_10 := hide hown
  clear hss hoff hown S_9 O0_9 Og_9
  go_wp2_with fail
  refine (heldProcessI_c _ _ _ hLb _ (Og_10.out.ins (mkLP_len _))).mono ?_
  rintro e w11 ⟨rfl, hb11⟩
  have S_11 := hide (S_10.out.trans (hb11.mono S_10.out.size))
  have O0_11 := hide (O0_10.out.below hb11)
  have Og_11 := hide (Og_10.out.below hb11)
  clear hb11 S_10 O0_10 Og_10
  go_wp2_with fail
  refine (toProcessR_c _ _ _ l _ (HI.out.below S_11.out) hn).mono ?_
  rintro e w12 ⟨bz, rfl, oz, hb12⟩
  have S_12 := hide (S_11.out.trans (hb12.mono S_11.out.size))
  have O0_12 := hide (O0_11.out.below hb12)
  have Og_12 := hide (Og_11.out.below hb12)
  clear hb12 S_11 O0_11 Og_11
  have Oz_12 := hide oz
  clear oz
  go_wp2_with fail
  refine (forkImpl_c _ _ _ l q hn Oz_12.out.cap.1 _ (Oz_12.out.ins hl.out)).mono ?_
  rintro e w13 ⟨Ah, nL', ch, rfl, hlh, oh, hb13⟩
  obtain rfl : nL = nL' := HLL.out.symm.trans hlh
  have S_13 := hide (S_12.out.trans (hb13.mono S_12.out.size))
  have O0_13 := hide (O0_12.out.below hb13)
  have Og_13 := hide (Og_12.out.below hb13)
  have Oz_13 := hide (Oz_12.out.below hb13)
  clear hb13 S_12 O0_12 Og_12 Oz_12
  have Oh_13 := hide oh
  clear oh hlh
  go_wp2_with fail
  refine (eqProcessI_c _ _ _ _ _ (forkL l q) hLb _ (Oh_13.out.ins HLL.out) (O0_13.out.ins HLL.out)).mono ?_
  rintro e w14 ⟨rfl, hb14⟩
  have S_14 := hide (S_13.out.trans (hb14.mono S_13.out.size))
  have O0_14 := hide (O0_13.out.below hb14)
  have Og_14 := hide (Og_13.out.below hb14)
  have Oz_14 := hide (Oz_13.out.below hb14)
  have Oh_14 := hide (Oh_13.out.below hb14)
  clear hb14 S_13 O0_13 Og_13 Oz_13 Oh_13
  go_wp2_with fail
  refine (heldProcessI_c _ _ _ hLb _ (Og_14.out.ins (mkLP_len _))).mono ?_
  rintro e w15 ⟨rfl, hb15⟩
  have S_15 := hide (S_14.out.trans (hb15.mono S_14.out.size))
  have O0_15 := hide (O0_14.out.below hb15)
  have Og_15 := hide (Og_14.out.below hb15)
  have Oz_15 := hide (Oz_14.out.below hb15)
  have Oh_15 := hide (Oh_14.out.below hb15)
  clear hb15 S_14 O0_14 Og_14 Oz_14 Oh_14
  go_wp2
  go_ret
  exact ⟨rfl, S_15.out⟩
end Go.Proofs.Ytlfchcjollcdhaa
