/-
  mayDo of the program, MayDo of the reference; allows, l7May. No condition.
-/
import Derived.Test.YtncjghmjlcohjaaDoorProg
import Derived.Test.YtncjghmjlcohjaaDoorMay
namespace Go.Proofs.YtncjghmjlcohjaaDoor
open Go.RowKit
set_option linter.unusedSimpArgs false
set_option linter.unusedVariables false

/-- The class of a user for what u owns in the group p. -/
def cls (a g u p : Int) : Int := if (a == u) then 0 else if hasG g p then 1 else 2
theorem cls_in (a g u p : Int) : inB (cls a g u p) 0 2 = true := by
  unfold cls
  cases (a == u) <;> cases hasG g p <;> rfl
theorem classF_ok {r a s g u p : Int} (hv : credB r a s g = true) (hu : inB u 0 99 = true) (hp : inB p 0 7 = true) : classF r a s g u p = cls a g u p := by
  unfold classF cls
  rw [hv, hu, hp]; rfl
set_option maxRecDepth 100000 in
set_option maxHeartbeats 4000000 in
theorem mayDo_c (r a s g u p m x : Int) (hm : inB m 0 1023 = true) (hx : inB x 0 7 = true) (w : World) :
    Calls Tryd.prog 41 #[.agg #[.int .i64 r, .int .i64 a, .int .i64 s, .int .i64 g], .int .i64 u, .int .i64 p, .int .i64 m, .int .i64 x] w fun e w' => e = .returned (.bool (mayV a m x (cls a g u p))) ∧ Below w.heap.size w w' := by
  have hc := cls_in a g u p
  have HCL := hide (class1_c r a s g u p)
  obtain ⟨c, hcc⟩ : ∃ c, cls a g u p = c := ⟨_, rfl⟩
  rw [hcc] at hc ⊢
  have HCC := hide (show (if (a == u) then (0 : Int) else if hasG g p then 1 else 2) = c from hcc)
  clear hcc
  have HRF := hide (fun (k : Int) (hk : inB k 0 2 = true) => rfImpl_c m k hm hk)
  have HC := hide hc
  cases hA : (bits .andNot .i64 x (fld m c) == 0)
  · cases hz : (a == 0)
    ·
      have HF := hide (show mayV a m x c = false by rw [mayV_impl a m x c hx hc, hA, hz]; rfl)
      go_enter Tryd.func41, Tryd.ntmps41
      go_wp2_with fail
      refine (HCL.out _).mono ?_
      rintro e w1 ⟨rfl, hb1⟩
      rw [HCC.out]
      have L1 := live hb1 w.heap.size (by first | omega | (simp <;> omega))
      have B1 := hide (below_via0 (below_alloc0 (Below.refl w.heap.size w) _) hb1)
      go_wp2_with fail
      refine (HRF.out c HC.out _).mono ?_
      rintro e w' ⟨rfl, rfl⟩
      go_wp2_with fail
      refine (HRF.out 0 rfl _).mono ?_
      rintro e w' ⟨rfl, rfl⟩
      go_wp2_with fail
      refine (HRF.out 1 rfl _).mono ?_
      rintro e w' ⟨rfl, rfl⟩
      go_wp2_with fail
      refine (HRF.out 2 rfl _).mono ?_
      rintro e w' ⟨rfl, rfl⟩
      go_wp2_with fail
      go_ret
      exact ⟨by rw [HF.out]; try rfl, B1.out⟩
    · cases h2 : (bits .and .i64 x 1 == 0)
      · cases h3 : (bits .and .i64 (bits .or .i64 (bits .or .i64 (fld m 0) (fld m 1)) (fld m 2)) 1 == 0)
        ·
          have HF := hide (show mayV a m x c = true by rw [mayV_impl a m x c hx hc, hA, hz, h2, h3]; rfl)
          have H3 := hide h3
          go_enter Tryd.func41, Tryd.ntmps41
          go_wp2_with fail
          refine (HCL.out _).mono ?_
          rintro e w1 ⟨rfl, hb1⟩
          rw [HCC.out]
          have L1 := live hb1 w.heap.size (by first | omega | (simp <;> omega))
          have B1 := hide (below_via0 (below_alloc0 (Below.refl w.heap.size w) _) hb1)
          go_wp2_with fail
          refine (HRF.out c HC.out _).mono ?_
          rintro e w' ⟨rfl, rfl⟩
          go_wp2_with fail
          refine (HRF.out 0 rfl _).mono ?_
          rintro e w' ⟨rfl, rfl⟩
          go_wp2_with fail
          refine (HRF.out 1 rfl _).mono ?_
          rintro e w' ⟨rfl, rfl⟩
          go_wp2_with fail
          refine (HRF.out 2 rfl _).mono ?_
          rintro e w' ⟨rfl, rfl⟩
          go_wp2_with fail
          go_ret
          exact ⟨by rw [HF.out]; first | rfl | (simp [bne, H3.out]; done), B1.out⟩
        ·
          have HF := hide (show mayV a m x c = false by rw [mayV_impl a m x c hx hc, hA, hz, h2, h3]; rfl)
          have H3 := hide h3
          go_enter Tryd.func41, Tryd.ntmps41
          go_wp2_with fail
          refine (HCL.out _).mono ?_
          rintro e w1 ⟨rfl, hb1⟩
          rw [HCC.out]
          have L1 := live hb1 w.heap.size (by first | omega | (simp <;> omega))
          have B1 := hide (below_via0 (below_alloc0 (Below.refl w.heap.size w) _) hb1)
          go_wp2_with fail
          refine (HRF.out c HC.out _).mono ?_
          rintro e w' ⟨rfl, rfl⟩
          go_wp2_with fail
          refine (HRF.out 0 rfl _).mono ?_
          rintro e w' ⟨rfl, rfl⟩
          go_wp2_with fail
          refine (HRF.out 1 rfl _).mono ?_
          rintro e w' ⟨rfl, rfl⟩
          go_wp2_with fail
          refine (HRF.out 2 rfl _).mono ?_
          rintro e w' ⟨rfl, rfl⟩
          go_wp2_with fail
          go_ret
          exact ⟨by rw [HF.out]; first | rfl | (simp [bne, H3.out]; done), B1.out⟩
      ·
        have HF := hide (show mayV a m x c = true by rw [mayV_impl a m x c hx hc, hA, hz, h2]; rfl)
        go_enter Tryd.func41, Tryd.ntmps41
        go_wp2_with fail
        refine (HCL.out _).mono ?_
        rintro e w1 ⟨rfl, hb1⟩
        rw [HCC.out]
        have L1 := live hb1 w.heap.size (by first | omega | (simp <;> omega))
        have B1 := hide (below_via0 (below_alloc0 (Below.refl w.heap.size w) _) hb1)
        go_wp2_with fail
        refine (HRF.out c HC.out _).mono ?_
        rintro e w' ⟨rfl, rfl⟩
        go_wp2_with fail
        refine (HRF.out 0 rfl _).mono ?_
        rintro e w' ⟨rfl, rfl⟩
        go_wp2_with fail
        refine (HRF.out 1 rfl _).mono ?_
        rintro e w' ⟨rfl, rfl⟩
        go_wp2_with fail
        refine (HRF.out 2 rfl _).mono ?_
        rintro e w' ⟨rfl, rfl⟩
        go_wp2_with fail
        go_ret
        exact ⟨by rw [HF.out]; try rfl, B1.out⟩
  ·
    have HF := hide (show mayV a m x c = true by rw [mayV_impl a m x c hx hc, hA]; rfl)
    go_enter Tryd.func41, Tryd.ntmps41
    go_wp2_with fail
    refine (HCL.out _).mono ?_
    rintro e w1 ⟨rfl, hb1⟩
    rw [HCC.out]
    have L1 := live hb1 w.heap.size (by first | omega | (simp <;> omega))
    have B1 := hide (below_via0 (below_alloc0 (Below.refl w.heap.size w) _) hb1)
    go_wp2_with fail
    refine (HRF.out c HC.out _).mono ?_
    rintro e w' ⟨rfl, rfl⟩
    go_wp2_with fail
    go_ret
    exact ⟨by rw [HF.out]; try rfl, B1.out⟩
set_option maxRecDepth 100000 in
set_option maxHeartbeats 4000000 in
theorem MayDo_c (r a s g u p m x : Int) (hv : credB r a s g = true) (hu : inB u 0 99 = true) (hp : inB p 0 7 = true) (hm : inB m 0 1023 = true) (hx : inB x 0 7 = true) (w : World) :
    Calls Tryd.prog 36 #[.agg #[.int .i64 r, .int .i64 a, .int .i64 s, .int .i64 g], .int .i64 u, .int .i64 p, .int .i64 m, .int .i64 x] w fun e w' => e = .returned (.bool (mayV a m x (cls a g u p))) ∧ Below w.heap.size w w' := by
  have hc := cls_in a g u p
  have HCL := hide (classS_c r a s g u p)
  have HCK := hide (classF_ok hv hu hp)
  obtain ⟨c, hcc⟩ : ∃ c, cls a g u p = c := ⟨_, rfl⟩
  rw [hcc] at hc ⊢
  have HCC := hide hcc
  clear hcc
  have HRF := hide (fun (k : Int) (hk : inB k 0 2 = true) => rfSpec_c m k hm hk)
  have HC := hide hc
  have hc0 : ¬ c < 0 := by have := inB_iff.1 hc; omega
  have HM := hide hm
  have HX := hide hx
  clear hm hx hv hu hp hc
  cases hz : (a == 0)
  · cases h4 : (bits .and .i64 (fld m c) x == x)
    ·
      have HF := hide (show mayV a m x c = false by rw [mayV, hz, h4]; rfl)
      go_enter Tryd.func36, Tryd.ntmps36
      go_wp2_with fail
      refine (HCL.out _).mono ?_
      rintro e w1 ⟨rfl, hb1⟩
      rw [HCK.out, HCC.out]
      have L1 := live hb1 w.heap.size (by first | omega | (simp <;> omega))
      have B1 := hide (below_via0 (below_alloc0 (Below.refl w.heap.size w) _) hb1)
      go_wp2_with (go_at_call 20; refine (l1In_c _ _ _ _).mono ?_; rintro e w' ⟨rfl, rfl⟩; (first | rw [HM.out] | rw [HX.out]))
      refine (HRF.out c HC.out _).mono ?_
      rintro e w' ⟨rfl, rfl⟩
      go_wp2_with fail
      go_ret
      exact ⟨by rw [HF.out]; try rfl, B1.out⟩
    ·
      have HF := hide (show mayV a m x c = true by rw [mayV, hz, h4]; rfl)
      go_enter Tryd.func36, Tryd.ntmps36
      go_wp2_with fail
      refine (HCL.out _).mono ?_
      rintro e w1 ⟨rfl, hb1⟩
      rw [HCK.out, HCC.out]
      have L1 := live hb1 w.heap.size (by first | omega | (simp <;> omega))
      have B1 := hide (below_via0 (below_alloc0 (Below.refl w.heap.size w) _) hb1)
      go_wp2_with (go_at_call 20; refine (l1In_c _ _ _ _).mono ?_; rintro e w' ⟨rfl, rfl⟩; (first | rw [HM.out] | rw [HX.out]))
      refine (HRF.out c HC.out _).mono ?_
      rintro e w' ⟨rfl, rfl⟩
      go_wp2_with fail
      go_ret
      exact ⟨by rw [HF.out]; try rfl, B1.out⟩
  · cases h2 : (x.tmod 2 == 0)
    · cases h3 : ((bits .or .i64 (bits .or .i64 (fld m 0) (fld m 1)) (fld m 2)).tmod 2 == 1)
      ·
        have HF := hide (show mayV a m x c = false by rw [mayV, hz, h2, h3]; rfl)
        have H3 := hide h3
        go_enter Tryd.func36, Tryd.ntmps36
        go_wp2_with fail
        refine (HCL.out _).mono ?_
        rintro e w1 ⟨rfl, hb1⟩
        rw [HCK.out, HCC.out]
        have L1 := live hb1 w.heap.size (by first | omega | (simp <;> omega))
        have B1 := hide (below_via0 (below_alloc0 (Below.refl w.heap.size w) _) hb1)
        go_wp2_with (go_at_call 20; refine (l1In_c _ _ _ _).mono ?_; rintro e w' ⟨rfl, rfl⟩; (first | rw [HM.out] | rw [HX.out]))
        refine (HRF.out 0 rfl _).mono ?_
        rintro e w' ⟨rfl, rfl⟩
        go_wp2_with fail
        refine (HRF.out 1 rfl _).mono ?_
        rintro e w' ⟨rfl, rfl⟩
        go_wp2_with fail
        refine (HRF.out 2 rfl _).mono ?_
        rintro e w' ⟨rfl, rfl⟩
        go_wp2_with fail
        go_ret
        exact ⟨by rw [HF.out]; first | rfl | (simp [bne, H3.out]; done), B1.out⟩
      ·
        have HF := hide (show mayV a m x c = true by rw [mayV, hz, h2, h3]; rfl)
        have H3 := hide h3
        go_enter Tryd.func36, Tryd.ntmps36
        go_wp2_with fail
        refine (HCL.out _).mono ?_
        rintro e w1 ⟨rfl, hb1⟩
        rw [HCK.out, HCC.out]
        have L1 := live hb1 w.heap.size (by first | omega | (simp <;> omega))
        have B1 := hide (below_via0 (below_alloc0 (Below.refl w.heap.size w) _) hb1)
        go_wp2_with (go_at_call 20; refine (l1In_c _ _ _ _).mono ?_; rintro e w' ⟨rfl, rfl⟩; (first | rw [HM.out] | rw [HX.out]))
        refine (HRF.out 0 rfl _).mono ?_
        rintro e w' ⟨rfl, rfl⟩
        go_wp2_with fail
        refine (HRF.out 1 rfl _).mono ?_
        rintro e w' ⟨rfl, rfl⟩
        go_wp2_with fail
        refine (HRF.out 2 rfl _).mono ?_
        rintro e w' ⟨rfl, rfl⟩
        go_wp2_with fail
        go_ret
        exact ⟨by rw [HF.out]; first | rfl | (simp [bne, H3.out]; done), B1.out⟩
    ·
      have HF := hide (show mayV a m x c = true by rw [mayV, hz, h2]; rfl)
      go_enter Tryd.func36, Tryd.ntmps36
      go_wp2_with fail
      refine (HCL.out _).mono ?_
      rintro e w1 ⟨rfl, hb1⟩
      rw [HCK.out, HCC.out]
      have L1 := live hb1 w.heap.size (by first | omega | (simp <;> omega))
      have B1 := hide (below_via0 (below_alloc0 (Below.refl w.heap.size w) _) hb1)
      go_wp2_with (go_at_call 20; refine (l1In_c _ _ _ _).mono ?_; rintro e w' ⟨rfl, rfl⟩; (first | rw [HM.out] | rw [HX.out]))
      refine (HRF.out 0 rfl _).mono ?_
      rintro e w' ⟨rfl, rfl⟩
      go_wp2_with fail
      refine (HRF.out 1 rfl _).mono ?_
      rintro e w' ⟨rfl, rfl⟩
      go_wp2_with fail
      refine (HRF.out 2 rfl _).mono ?_
      rintro e w' ⟨rfl, rfl⟩
      go_wp2_with fail
      go_ret
      exact ⟨by rw [HF.out]; try rfl, B1.out⟩
/-- What a node asks to be valid for its rights. -/
def NdR (t : Node) : Prop := inB t.owner 0 99 = true ∧ inB t.group 0 7 = true ∧ inB t.mode 0 1023 = true
def mayN (a g : Int) (t : Node) (x : Int) : Bool := mayV a t.mode x (cls a g t.owner t.group)
theorem allows_c (r a s g x : Int) (t : Node) (S K : Value) (ht : NdR t) (hx : inB x 0 7 = true) (w : World) :
    Calls Tryd.prog 29 #[.agg #[.bool t.dir, .int .i64 t.owner, .int .i64 t.group, .int .i64 t.mode, .string t.text, S, K], .agg #[.int .i64 r, .int .i64 a, .int .i64 s, .int .i64 g], .int .i64 x] w fun e w' => e = .returned (.bool (mayN a g t x)) ∧ Below w.heap.size w w' := by
  go_enter Tryd.func29, Tryd.ntmps29
  go_wp2_with fail
  refine (mayDo_c r a s g t.owner t.group t.mode x ht.2.2 hx _).mono ?_
  rintro e w1 ⟨rfl, hb1⟩
  have B1 := hide (below_via0 (below_alloc0 (below_alloc0 (Below.refl w.heap.size w) _) _) hb1)
  go_wp2_with fail
  go_ret
  exact ⟨rfl, B1.out⟩
theorem l7May_c (r a s g x : Int) (t : Node) (S K : Value) (ht : NdR t) (hv : credB r a s g = true) (hx : inB x 0 7 = true) (w : World) :
    Calls Tryd.prog 21 #[.agg #[.int .i64 r, .int .i64 a, .int .i64 s, .int .i64 g], .agg #[.bool t.dir, .int .i64 t.owner, .int .i64 t.group, .int .i64 t.mode, .string t.text, S, K], .int .i64 x] w fun e w' => e = .returned (.bool (mayN a g t x)) ∧ Below w.heap.size w w' := by
  go_enter Tryd.func21, Tryd.ntmps21
  go_wp2_with fail
  refine (MayDo_c r a s g t.owner t.group t.mode x hv ht.1 ht.2.1 ht.2.2 hx _).mono ?_
  rintro e w1 ⟨rfl, hb1⟩
  have B1 := hide (below_via0 (below_alloc0 (below_alloc0 (Below.refl w.heap.size w) _) _) hb1)
  go_wp2_with fail
  go_ret
  exact ⟨rfl, B1.out⟩
end Go.Proofs.YtncjghmjlcohjaaDoor
