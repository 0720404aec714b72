/-
  ReadHandle. No condition.
-/
import Derived.Test.YtncjghmjlcohjaaProg
import Derived.Test.YtncjghmjlcohjaaHas
import Derived.Test.YtncjghmjlcohjaaFlowX
import Derived.Test.YtncjghmjlcohjaaFlowS
namespace Go.Proofs.Ytncjghmjlcohjaa
open Go.RowKit
set_option linter.unusedSimpArgs false
set_option linter.unusedVariables false

theorem ext_all (s : ByteArray) : s.extract 0 s.size = s := by
  apply ByteArray.ext
  simp [ByteArray.data_extract]
theorem ext_sz (t : ByteArray) (m : Nat) : (t.extract m t.size).size = t.size - m := by rw [ByteArray.size_extract]; omega
/-- ReadHandle gives bytes. -/
noncomputable def rdOk (l : List Node) (n : Nat) (f a r q : Int) : Bool := hanB l n f a r && (!decide (q < 0) && (!(bits .and .i64 r 4 == 0) && decide (a ≤ (txAt l f).size)))
def rdC (t : ByteArray) (a q : Int) : ByteArray := (t.extract a.toNat t.size).extract 0 (min q.toNat (t.size - a.toNat))
theorem rdC_lt {t : ByteArray} {m p : Nat} (h : p < t.size - m) (hm : m ≤ t.size) : rdC t (m : Int) (p : Int) = (t.extract m t.size).extract 0 p ∧ (rdC t (m : Int) (p : Int)).size = min p (t.size - m) := by
  have e : rdC t (m : Int) (p : Int) = (t.extract m t.size).extract 0 p := by
    unfold rdC
    rw [Int.toNat_natCast, Int.toNat_natCast, Nat.min_eq_left (by omega)]
  refine ⟨e, ?_⟩
  rw [e, ByteArray.size_extract, ext_sz]
  omega
theorem rdC_ge {t : ByteArray} {m p : Nat} (h : ¬ p < t.size - m) (hm : m ≤ t.size) : rdC t (m : Int) (p : Int) = t.extract m t.size ∧ (rdC t (m : Int) (p : Int)).size = t.size - m := by
  have e : rdC t (m : Int) (p : Int) = t.extract m t.size := by
    unfold rdC
    rw [Int.toNat_natCast, Int.toNat_natCast, Nat.min_eq_right (by omega), ← ext_sz t m, ext_all]
  exact ⟨e, by rw [e, ext_sz]⟩
noncomputable def rdT (l : List Node) (n : Nat) (f a r q : Int) : ByteArray := bif rdOk l n f a r q then rdC (txAt l f) a q else ⟨#[]⟩
noncomputable def rdA (l : List Node) (n : Nat) (f a r q : Int) : Int := bif rdOk l n f a r q then a + (rdC (txAt l f) a q).size else a
def rdVa (A : Option Addr) (n c : Nat) (f a r q : Int) (pb : Nat) (i : Nat) : Value :=
  match i with
  | 0 => .slice A n c
  | 1 => .agg #[.int .i64 f, .int .i64 a, .int .i64 r]
  | 2 => .bool false
  | 3 => .bool true
  | 4 => .bool true
  | 5 => undef
  | 6 => undef
  | 7 => .bool true
  | 8 => .bool true
  | 9 => undef
  | 10 => undef
  | 11 => undef
  | 12 => undef
  | 13 => .bool true
  | 14 => .bool true
  | 15 => undef
  | 16 => undef
  | 17 => undef
  | 18 => undef
  | 19 => undef
  | 20 => undef
  | 21 => undef
  | 22 => undef
  | 23 => undef
  | 24 => undef
  | _ => .bool true
def rdVb (A : Option Addr) (n c : Nat) (f a r q : Int) (pb : Nat) (i : Nat) : Value :=
  match i with
  | 0 => .slice A n c
  | 1 => .agg #[.int .i64 f, .int .i64 a, .int .i64 r]
  | 2 => .bool true
  | 3 => .bool false
  | 4 => .bool false
  | 5 => .int .i64 q
  | 6 => .bool true
  | 7 => .bool true
  | 8 => .bool true
  | 9 => undef
  | 10 => undef
  | 11 => undef
  | 12 => undef
  | 13 => .bool true
  | 14 => .bool true
  | 15 => undef
  | 16 => undef
  | 17 => undef
  | 18 => undef
  | 19 => undef
  | 20 => undef
  | 21 => undef
  | 22 => undef
  | 23 => undef
  | 24 => undef
  | _ => .bool true
def rdVc (A : Option Addr) (n c : Nat) (f a r q : Int) (pb : Nat) (i : Nat) : Value :=
  match i with
  | 0 => .slice A n c
  | 1 => .agg #[.int .i64 f, .int .i64 a, .int .i64 r]
  | 2 => .bool true
  | 3 => .bool false
  | 4 => .bool false
  | 5 => .int .i64 q
  | 6 => .bool false
  | 7 => .bool false
  | 8 => .bool false
  | 9 => .pointer (some ⟨pb, 2, none⟩)
  | 10 => .int .i64 r
  | 11 => .int .i64 (bits .and .i64 r 4)
  | 12 => .bool true
  | 13 => .bool true
  | 14 => .bool true
  | 15 => undef
  | 16 => undef
  | 17 => undef
  | 18 => undef
  | 19 => undef
  | 20 => undef
  | 21 => undef
  | 22 => undef
  | 23 => undef
  | 24 => undef
  | _ => .bool true
def rdVd (b off n c k : Nat) (a r q : Int) (pb : Nat) (t : Node) (i : Nat) : Value :=
  match i with
  | 0 => .slice (some ⟨b, off, none⟩) n c
  | 1 => .agg #[.int .i64 (k : Int), .int .i64 a, .int .i64 r]
  | 2 => .bool true
  | 3 => .bool false
  | 4 => .bool false
  | 5 => .int .i64 q
  | 6 => .bool false
  | 7 => .bool false
  | 8 => .bool false
  | 9 => .pointer (some ⟨pb, 2, none⟩)
  | 10 => .int .i64 r
  | 11 => .int .i64 (bits .and .i64 r 4)
  | 12 => .bool false
  | 13 => .bool false
  | 14 => .bool false
  | 15 => .pointer (some ⟨pb, 1, none⟩)
  | 16 => .int .i64 a
  | 17 => .slice (some ⟨b, off, none⟩) n c
  | 18 => .pointer (some ⟨pb, 0, none⟩)
  | 19 => .int .i64 (k : Int)
  | 20 => .pointer (some ⟨b, off + k * 7, none⟩)
  | 21 => .pointer (some ⟨b, off + k * 7 + 4, none⟩)
  | 22 => .string t.text
  | 23 => .int .i64 t.text.size
  | 24 => .bool true
  | _ => .bool true
def rdVe (b off n c k : Nat) (a r q : Int) (pb : Nat) (t : Node) (i : Nat) : Value :=
  match i with
  | 0 => .slice (some ⟨b, off, none⟩) n c
  | 1 => .agg #[.int .i64 (k : Int), .int .i64 a, .int .i64 r]
  | 2 => .bool true
  | 3 => .bool false
  | 4 => .bool false
  | 5 => .int .i64 q
  | 6 => .bool false
  | 7 => .bool false
  | 8 => .bool false
  | 9 => .pointer (some ⟨pb, 2, none⟩)
  | 10 => .int .i64 r
  | 11 => .int .i64 (bits .and .i64 r 4)
  | 12 => .bool false
  | 13 => .bool false
  | 14 => .bool false
  | 15 => .pointer (some ⟨pb, 1, none⟩)
  | 16 => .int .i64 a
  | 17 => .slice (some ⟨b, off, none⟩) n c
  | 18 => .pointer (some ⟨pb, 0, none⟩)
  | 19 => .int .i64 (k : Int)
  | 20 => .pointer (some ⟨b, off + k * 7, none⟩)
  | 21 => .pointer (some ⟨b, off + k * 7 + 4, none⟩)
  | 22 => .string t.text
  | 23 => .int .i64 t.text.size
  | 24 => .bool false
  | _ => .bool false
set_option maxRecDepth 100000 in
set_option maxHeartbeats 8000000 in
theorem rdSpec_c (A : Option Addr) (n c : Nat) (l : List Node) (f a r q : Int) (w : World) (hI : InNode w A n l) (hn : n ≤ 1048576) (hz : ∀ t ∈ l, NodeS t) (hZ : ∀ t ∈ l, NodeZ t) :
    Calls Try.prog 13 #[.slice A n c, .agg #[.int .i64 f, .int .i64 a, .int .i64 r], .int .i64 q] w fun e w' => e = .returned (.tuple #[.string (rdT l n f a r q), .agg #[.int .i64 f, .int .i64 (rdA l n f a r q), .int .i64 r]]) ∧ Below w.heap.size w w' := by
  have HI := hide hI
  have HZS := hide hz
  have HZZ := hide hZ
  have hlen := hI.1
  have BW : Below w.heap.size w ((w.alloc (.cells #[.int .i64 f, .int .i64 a, .int .i64 r] 32)).alloc (.cells #[.int .i64 0, .int .i64 0, .int .i64 0] 32)) := below_alloc0 (below_alloc0 (Below.refl _ _) _) _
  have R0 := (Row.made w 32 #[.int .i64 f, .int .i64 a, .int .i64 r] (fun j => #[Value.int .i64 f, .int .i64 a, .int .i64 r][j]?) (fun _ _ h => h)).alloc (.cells #[.int .i64 0, .int .i64 0, .int .i64 0] 32)
  have R1 := Row.made (w.alloc (.cells #[.int .i64 f, .int .i64 a, .int .i64 r] 32)) 32 #[.int .i64 0, .int .i64 0, .int .i64 0] (fun j => #[Value.int .i64 0, .int .i64 0, .int .i64 0][j]?) (fun _ _ h => h)
  rw [show (w.alloc (.cells #[.int .i64 f, .int .i64 a, .int .i64 r] 32)).heap.size = w.heap.size + 1 by simp] at R1
  have c0 := R0.cell (j := 0) rfl
  have c1 := R0.cell (j := 1) rfl
  have c2 := R0.cell (j := 2) rfl
  have hh := R0.lt
  have v3 := R0.frozen 1
  have z0 := R1.cell (j := 0) rfl
  have z1 := R1.cell (j := 1) rfl
  have z2 := R1.cell (j := 2) rfl
  have v0 := R1.frozen 0
  have v1 := R1.frozen 1
  have v2 := R1.frozen 2
  have hg := R1.lt
  clear R0 R1 hI hz hZ
  go_enter Try.func13, Try.ntmps13
  go_wp2_with fail
  generalize ((w.alloc (.cells #[.int .i64 f, .int .i64 a, .int .i64 r] 32)).alloc (.cells #[.int .i64 0, .int .i64 0, .int .i64 0] 32)) = W0 at *
  obtain ⟨pb, hhh⟩ : ∃ h, h = w.heap.size := ⟨_, rfl⟩
  rw [← hhh] at c0 c1 c2 hh z0 z1 z2 v0 v1 v2 v3 hg ⊢
  have HHH := hide hhh
  clear hhh
  replace c0 : W0.cell? ⟨pb, 0, none⟩ = some (.int .i64 f) := c0
  replace c1 : W0.cell? ⟨pb, 1, none⟩ = some (.int .i64 a) := c1
  replace c2 : W0.cell? ⟨pb, 2, none⟩ = some (.int .i64 r) := c2
  replace z0 : W0.cell? ⟨pb + 1, 0, none⟩ = some (.int .i64 0) := z0
  replace z1 : W0.cell? ⟨pb + 1, 1, none⟩ = some (.int .i64 0) := z1
  replace z2 : W0.cell? ⟨pb + 1, 2, none⟩ = some (.int .i64 0) := z2
  cases hv : hanB l n f a r
  · have HN := hide (show rdOk l n f a r q = false by rw [rdOk, hv]; rfl)
    have HR1 := hide (show rdT l n f a r q = ⟨#[]⟩ by rw [rdT, HN.out]; rfl)
    have HR2 := hide (show rdA l n f a r q = a by rw [rdA, HN.out]; rfl)
    clear HN
    refine wp_flowX (os := [_, _, _, _, _, _, _, _, _, _, _, _, _, _, _, _, _, _, _, _, _, _, _, _, _, _]) (fun c W => Below W0.heap.size W0 W) (fun _ _ _ => True) (fun i v _ _ => v = rdVa A n c f a r q pb i) 26 rfl ?_ ?_ ?_ ?_ ?_ ?_ ?_
    · kernel_rfl
    · kernel_rfl
    · kernel_rfl
    · exact (fun i j v vs w1 w2 _ _ h _ => h)
    · exact ((Below.refl _ _).drew)
    ·
      refine FlowStepsX.stepY 62 26 1 rfl rfl (by kernel_rfl) (by kernel_rfl) (by kernel_rfl) rfl rfl ?_ ?_
      ·
        intro cc act vs W hcc ha hvs hS hd hi K hK
        clear ha
        have u0 : act.tmps[0]? = some (.slice A n c) := (hi.out 0 (by kernel_rfl)).trans rfl
        clear hd hi
        clear hvs
        refine wanted_un rfl ?_
        go_simp
        exact hK.out _ _ rfl hS trivial
      refine FlowStepsX.stepY 62 26 2 rfl rfl (by kernel_rfl) (by kernel_rfl) (by kernel_rfl) rfl rfl ?_ ?_
      ·
        intro cc act vs W hcc ha hvs hS hd hi K hK
        clear ha
        have u4 : act.tmps[4]? = some (.pointer (some ⟨pb, 0, none⟩)) := (hi.out 4 (by kernel_rfl)).trans rfl
        clear hd hi
        clear hvs
        refine wanted_un rfl ?_
        have e0 := (hS.cell (p := ⟨pb, 0, none⟩) hh).trans c0
        have e1 := (hS.cell (p := ⟨pb, 1, none⟩) hh).trans c1
        have e2 := (hS.cell (p := ⟨pb, 2, none⟩) hh).trans c2
        go_simp
        exact hK.out _ _ rfl hS trivial
      refine FlowStepsX.stepY 62 26 3 rfl rfl (by kernel_rfl) (by kernel_rfl) (by kernel_rfl) rfl rfl ?_ ?_
      ·
        intro cc act vs W hcc ha hvs hS hd hi K hK
        clear ha
        have u10 : act.tmps[10]? = some (.slice A n c) := by obtain ⟨_, u, _, h⟩ := hd.out ⟨0, .data⟩ (some 10) (by simp) rfl rfl; exact u.trans (congrArg some h)
        have u11 : act.tmps[11]? = some (.agg #[.int .i64 f, .int .i64 a, .int .i64 r]) := by obtain ⟨_, u, _, h⟩ := hd.out ⟨1, .data⟩ (some 11) (by simp) rfl rfl; exact u.trans (congrArg some h)
        clear hd hi
        clear hvs
        refine wanted_un rfl ?_
        go_wp2_with (go_at_call 37; refine (hanSpec_c _ n c l _ _ r _ (HI.out.below (BW.trans (hS.mono BW.size))) hn HZS.out HZZ.out).mono ?_; rintro e w6 ⟨rfl, hb6⟩)
        try rw [hv]
        exact hK.out _ w6 rfl (hS.trans (hb6.mono hS.size)) trivial
      refine FlowStepsX.stepY 62 26 4 rfl rfl (by kernel_rfl) (by kernel_rfl) (by kernel_rfl) rfl rfl ?_ ?_
      ·
        intro cc act vs W hcc ha hvs hS hd hi K hK
        clear ha
        have u12 : act.tmps[12]? = some (.bool false) := by obtain ⟨_, u, _, h⟩ := hd.out ⟨2, .data⟩ (some 12) (by simp) rfl rfl; exact u.trans (congrArg some h)
        clear hd hi
        clear hvs
        refine wanted_un rfl ?_
        go_simp
        exact hK.out _ _ rfl hS trivial
      refine FlowStepsX.stepY 62 26 5 rfl rfl (by kernel_rfl) (by kernel_rfl) (by kernel_rfl) rfl rfl ?_ ?_
      ·
        intro cc act vs W hcc ha hvs hS hd hi K hK
        clear ha
        have u13 : act.tmps[13]? = some (.bool true) := by obtain ⟨_, u, _, h⟩ := hd.out ⟨3, .data⟩ (some 13) (by simp) rfl rfl; exact u.trans (congrArg some h)
        clear hd hi
        clear hvs
        refine wanted_un rfl ?_
        go_simp
        exact hK.out _ _ rfl hS trivial
      refine FlowStepsX.stepY 62 26 6 rfl rfl (by kernel_rfl) (by kernel_rfl) (by kernel_rfl) rfl rfl ?_ ?_
      ·
        intro cc act vs W hcc ha hvs hS hd hi K hK
        clear ha
        have u14 : act.tmps[14]? = some (.bool true) := by obtain ⟨_, u, _, h⟩ := hd.out ⟨4, .guard⟩ (some 14) (by simp) rfl rfl; exact u.trans (congrArg some h)
        have u2 : act.tmps[2]? = some (.int .i64 q) := (hi.out 2 (by kernel_rfl)).trans rfl
        clear hd hi
        clear hvs
        refine wanted_no rfl rfl u14 ?_
        exact hK.out undef W rfl hS trivial
      refine FlowStepsX.stepY 62 26 7 rfl rfl (by kernel_rfl) (by kernel_rfl) (by kernel_rfl) rfl rfl ?_ ?_
      ·
        intro cc act vs W hcc ha hvs hS hd hi K hK
        clear ha
        have u14 : act.tmps[14]? = some (.bool true) := by obtain ⟨_, u, _, h⟩ := hd.out ⟨4, .guard⟩ (some 14) (by simp) rfl rfl; exact u.trans (congrArg some h)
        clear hd hi
        clear hvs
        refine wanted_no rfl rfl u14 ?_
        exact hK.out undef W rfl hS trivial
      refine FlowStepsX.stepY 62 26 8 rfl rfl (by kernel_rfl) (by kernel_rfl) (by kernel_rfl) rfl rfl ?_ ?_
      ·
        intro cc act vs W hcc ha hvs hS hd hi K hK
        clear ha
        have u14 : act.tmps[14]? = some (.bool true) := by obtain ⟨_, u, _, h⟩ := hd.out ⟨4, .data⟩ (some 14) (by simp) rfl rfl; exact u.trans (congrArg some h)
        have u16 : act.tmps[16]? = some (undef) := by obtain ⟨_, u, _, h⟩ := hd.out ⟨6, .data⟩ (some 16) (by simp) rfl rfl; exact u.trans (congrArg some h)
        clear hd hi
        clear hvs
        refine wanted_un rfl ?_
        go_simp
        exact hK.out _ _ rfl hS trivial
      refine FlowStepsX.stepY 62 26 9 rfl rfl (by kernel_rfl) (by kernel_rfl) (by kernel_rfl) rfl rfl ?_ ?_
      ·
        intro cc act vs W hcc ha hvs hS hd hi K hK
        clear ha
        have u17 : act.tmps[17]? = some (.bool true) := by obtain ⟨_, u, _, h⟩ := hd.out ⟨7, .data⟩ (some 17) (by simp) rfl rfl; exact u.trans (congrArg some h)
        clear hd hi
        clear hvs
        refine wanted_un rfl ?_
        go_simp
        exact hK.out _ _ rfl hS trivial
      refine FlowStepsX.stepY 62 26 10 rfl rfl (by kernel_rfl) (by kernel_rfl) (by kernel_rfl) rfl rfl ?_ ?_
      ·
        intro cc act vs W hcc ha hvs hS hd hi K hK
        clear ha
        have u18 : act.tmps[18]? = some (.bool true) := by obtain ⟨_, u, _, h⟩ := hd.out ⟨8, .guard⟩ (some 18) (by simp) rfl rfl; exact u.trans (congrArg some h)
        have u4 : act.tmps[4]? = some (.pointer (some ⟨pb, 0, none⟩)) := (hi.out 4 (by kernel_rfl)).trans rfl
        clear hd hi
        clear hvs
        refine wanted_no rfl rfl u18 ?_
        exact hK.out undef W rfl hS trivial
      refine FlowStepsX.stepY 62 26 11 rfl rfl (by kernel_rfl) (by kernel_rfl) (by kernel_rfl) rfl rfl ?_ ?_
      ·
        intro cc act vs W hcc ha hvs hS hd hi K hK
        clear ha
        have u18 : act.tmps[18]? = some (.bool true) := by obtain ⟨_, u, _, h⟩ := hd.out ⟨8, .guard⟩ (some 18) (by simp) rfl rfl; exact u.trans (congrArg some h)
        clear hd hi
        clear hvs
        refine wanted_no rfl rfl u18 ?_
        exact hK.out undef W rfl hS trivial
      refine FlowStepsX.stepY 62 26 12 rfl rfl (by kernel_rfl) (by kernel_rfl) (by kernel_rfl) rfl rfl ?_ ?_
      ·
        intro cc act vs W hcc ha hvs hS hd hi K hK
        clear ha
        have u18 : act.tmps[18]? = some (.bool true) := by obtain ⟨_, u, _, h⟩ := hd.out ⟨8, .guard⟩ (some 18) (by simp) rfl rfl; exact u.trans (congrArg some h)
        clear hd hi
        clear hvs
        refine wanted_no rfl rfl u18 ?_
        exact hK.out undef W rfl hS trivial
      refine FlowStepsX.stepY 62 26 13 rfl rfl (by kernel_rfl) (by kernel_rfl) (by kernel_rfl) rfl rfl ?_ ?_
      ·
        intro cc act vs W hcc ha hvs hS hd hi K hK
        clear ha
        have u18 : act.tmps[18]? = some (.bool true) := by obtain ⟨_, u, _, h⟩ := hd.out ⟨8, .guard⟩ (some 18) (by simp) rfl rfl; exact u.trans (congrArg some h)
        clear hd hi
        clear hvs
        refine wanted_no rfl rfl u18 ?_
        exact hK.out undef W rfl hS trivial
      refine FlowStepsX.stepY 62 26 14 rfl rfl (by kernel_rfl) (by kernel_rfl) (by kernel_rfl) rfl rfl ?_ ?_
      ·
        intro cc act vs W hcc ha hvs hS hd hi K hK
        clear ha
        have u18 : act.tmps[18]? = some (.bool true) := by obtain ⟨_, u, _, h⟩ := hd.out ⟨8, .data⟩ (some 18) (by simp) rfl rfl; exact u.trans (congrArg some h)
        have u22 : act.tmps[22]? = some (undef) := by obtain ⟨_, u, _, h⟩ := hd.out ⟨12, .data⟩ (some 22) (by simp) rfl rfl; exact u.trans (congrArg some h)
        clear hd hi
        clear hvs
        refine wanted_un rfl ?_
        go_simp
        exact hK.out _ _ rfl hS trivial
      refine FlowStepsX.stepY 62 26 15 rfl rfl (by kernel_rfl) (by kernel_rfl) (by kernel_rfl) rfl rfl ?_ ?_
      ·
        intro cc act vs W hcc ha hvs hS hd hi K hK
        clear ha
        have u23 : act.tmps[23]? = some (.bool true) := by obtain ⟨_, u, _, h⟩ := hd.out ⟨13, .data⟩ (some 23) (by simp) rfl rfl; exact u.trans (congrArg some h)
        clear hd hi
        clear hvs
        refine wanted_un rfl ?_
        go_simp
        exact hK.out _ _ rfl hS trivial
      refine FlowStepsX.stepY 62 26 16 rfl rfl (by kernel_rfl) (by kernel_rfl) (by kernel_rfl) rfl rfl ?_ ?_
      ·
        intro cc act vs W hcc ha hvs hS hd hi K hK
        clear ha
        have u24 : act.tmps[24]? = some (.bool true) := by obtain ⟨_, u, _, h⟩ := hd.out ⟨14, .guard⟩ (some 24) (by simp) rfl rfl; exact u.trans (congrArg some h)
        have u4 : act.tmps[4]? = some (.pointer (some ⟨pb, 0, none⟩)) := (hi.out 4 (by kernel_rfl)).trans rfl
        clear hd hi
        clear hvs
        refine wanted_no rfl rfl u24 ?_
        exact hK.out undef W rfl hS trivial
      refine FlowStepsX.stepY 62 26 17 rfl rfl (by kernel_rfl) (by kernel_rfl) (by kernel_rfl) rfl rfl ?_ ?_
      ·
        intro cc act vs W hcc ha hvs hS hd hi K hK
        clear ha
        have u24 : act.tmps[24]? = some (.bool true) := by obtain ⟨_, u, _, h⟩ := hd.out ⟨14, .guard⟩ (some 24) (by simp) rfl rfl; exact u.trans (congrArg some h)
        clear hd hi
        clear hvs
        refine wanted_no rfl rfl u24 ?_
        exact hK.out undef W rfl hS trivial
      refine FlowStepsX.stepY 62 26 18 rfl rfl (by kernel_rfl) (by kernel_rfl) (by kernel_rfl) rfl rfl ?_ ?_
      ·
        intro cc act vs W hcc ha hvs hS hd hi K hK
        clear ha
        have u24 : act.tmps[24]? = some (.bool true) := by obtain ⟨_, u, _, h⟩ := hd.out ⟨14, .guard⟩ (some 24) (by simp) rfl rfl; exact u.trans (congrArg some h)
        have u0 : act.tmps[0]? = some (.slice A n c) := (hi.out 0 (by kernel_rfl)).trans rfl
        clear hd hi
        clear hvs
        refine wanted_no rfl rfl u24 ?_
        exact hK.out undef W rfl hS trivial
      refine FlowStepsX.stepY 62 26 19 rfl rfl (by kernel_rfl) (by kernel_rfl) (by kernel_rfl) rfl rfl ?_ ?_
      ·
        intro cc act vs W hcc ha hvs hS hd hi K hK
        clear ha
        have u24 : act.tmps[24]? = some (.bool true) := by obtain ⟨_, u, _, h⟩ := hd.out ⟨14, .guard⟩ (some 24) (by simp) rfl rfl; exact u.trans (congrArg some h)
        have u4 : act.tmps[4]? = some (.pointer (some ⟨pb, 0, none⟩)) := (hi.out 4 (by kernel_rfl)).trans rfl
        clear hd hi
        clear hvs
        refine wanted_no rfl rfl u24 ?_
        exact hK.out undef W rfl hS trivial
      refine FlowStepsX.stepY 62 26 20 rfl rfl (by kernel_rfl) (by kernel_rfl) (by kernel_rfl) rfl rfl ?_ ?_
      ·
        intro cc act vs W hcc ha hvs hS hd hi K hK
        clear ha
        have u24 : act.tmps[24]? = some (.bool true) := by obtain ⟨_, u, _, h⟩ := hd.out ⟨14, .guard⟩ (some 24) (by simp) rfl rfl; exact u.trans (congrArg some h)
        clear hd hi
        clear hvs
        refine wanted_no rfl rfl u24 ?_
        exact hK.out undef W rfl hS trivial
      refine FlowStepsX.stepY 62 26 21 rfl rfl (by kernel_rfl) (by kernel_rfl) (by kernel_rfl) rfl rfl ?_ ?_
      ·
        intro cc act vs W hcc ha hvs hS hd hi K hK
        clear ha
        have u24 : act.tmps[24]? = some (.bool true) := by obtain ⟨_, u, _, h⟩ := hd.out ⟨14, .guard⟩ (some 24) (by simp) rfl rfl; exact u.trans (congrArg some h)
        clear hd hi
        clear hvs
        refine wanted_no rfl rfl u24 ?_
        exact hK.out undef W rfl hS trivial
      refine FlowStepsX.stepY 62 26 22 rfl rfl (by kernel_rfl) (by kernel_rfl) (by kernel_rfl) rfl rfl ?_ ?_
      ·
        intro cc act vs W hcc ha hvs hS hd hi K hK
        clear ha
        have u24 : act.tmps[24]? = some (.bool true) := by obtain ⟨_, u, _, h⟩ := hd.out ⟨14, .guard⟩ (some 24) (by simp) rfl rfl; exact u.trans (congrArg some h)
        clear hd hi
        clear hvs
        refine wanted_no rfl rfl u24 ?_
        exact hK.out undef W rfl hS trivial
      refine FlowStepsX.stepY 62 26 23 rfl rfl (by kernel_rfl) (by kernel_rfl) (by kernel_rfl) rfl rfl ?_ ?_
      ·
        intro cc act vs W hcc ha hvs hS hd hi K hK
        clear ha
        have u24 : act.tmps[24]? = some (.bool true) := by obtain ⟨_, u, _, h⟩ := hd.out ⟨14, .guard⟩ (some 24) (by simp) rfl rfl; exact u.trans (congrArg some h)
        clear hd hi
        clear hvs
        refine wanted_no rfl rfl u24 ?_
        exact hK.out undef W rfl hS trivial
      refine FlowStepsX.stepY 62 26 24 rfl rfl (by kernel_rfl) (by kernel_rfl) (by kernel_rfl) rfl rfl ?_ ?_
      ·
        intro cc act vs W hcc ha hvs hS hd hi K hK
        clear ha
        have u24 : act.tmps[24]? = some (.bool true) := by obtain ⟨_, u, _, h⟩ := hd.out ⟨14, .guard⟩ (some 24) (by simp) rfl rfl; exact u.trans (congrArg some h)
        clear hd hi
        clear hvs
        refine wanted_no rfl rfl u24 ?_
        exact hK.out undef W rfl hS trivial
      refine FlowStepsX.stepY 62 26 25 rfl rfl (by kernel_rfl) (by kernel_rfl) (by kernel_rfl) rfl rfl ?_ ?_
      ·
        intro cc act vs W hcc ha hvs hS hd hi K hK
        clear ha
        have u24 : act.tmps[24]? = some (.bool true) := by obtain ⟨_, u, _, h⟩ := hd.out ⟨14, .guard⟩ (some 24) (by simp) rfl rfl; exact u.trans (congrArg some h)
        clear hd hi
        clear hvs
        refine wanted_no rfl rfl u24 ?_
        exact hK.out undef W rfl hS trivial
      refine FlowStepsX.stepY 62 26 26 rfl rfl (by kernel_rfl) (by kernel_rfl) (by kernel_rfl) rfl rfl ?_ ?_
      ·
        intro cc act vs W hcc ha hvs hS hd hi K hK
        clear ha
        have u24 : act.tmps[24]? = some (.bool true) := by obtain ⟨_, u, _, h⟩ := hd.out ⟨14, .data⟩ (some 24) (by simp) rfl rfl; exact u.trans (congrArg some h)
        have u34 : act.tmps[34]? = some (undef) := by obtain ⟨_, u, _, h⟩ := hd.out ⟨24, .data⟩ (some 34) (by simp) rfl rfl; exact u.trans (congrArg some h)
        clear hd hi
        clear hvs
        refine wanted_un rfl ?_
        go_simp
        exact hK.out _ _ rfl hS trivial
      exact FlowStepsX.nil
    · intro cc ρ W hc hS hd
      simp only [putFrom, Act.put, List.setIfInBounds_toArray, List.set_cons_zero, List.set_cons_succ, Nat.reduceAdd]
      have d25 : ρ 25 = .bool true := hd.out 25 (by decide) (by kernel_rfl)
      generalize ρ 25 = x25 at d25 ⊢
      subst d25
      clear hd
      have BF := hide (below_via BW hS BW.size)
      have hsz := hS.size
      have hhw := Nat.lt_of_lt_of_le hh hS.size
      have hgw := Nat.lt_of_lt_of_le hg hS.size
      have e0 := (hS.cell (p := ⟨pb, 0, none⟩) hh).trans c0
      have e1 := (hS.cell (p := ⟨pb, 1, none⟩) hh).trans c1
      have e2 := (hS.cell (p := ⟨pb, 2, none⟩) hh).trans c2
      have g0 := (hS.cell (p := ⟨pb + 1, 0, none⟩) hg).trans z0
      have g1 := (hS.cell (p := ⟨pb + 1, 1, none⟩) hg).trans z1
      have g2 := (hS.cell (p := ⟨pb + 1, 2, none⟩) hg).trans z2
      have y0 := (hS.frozen (p := ⟨pb + 1, 0, none⟩) hg).trans v0
      have y1 := (hS.frozen (p := ⟨pb + 1, 1, none⟩) hg).trans v1
      have y3 := (hS.frozen (p := ⟨pb, 1, none⟩) hh).trans v3
      have y2 := (hS.frozen (p := ⟨pb + 1, 2, none⟩) hg).trans v2
      clear hS c0 c1 c2 z0 z1 z2 v0 v1 v2 v3
      go_wp2_with fail
      go_region
      go_wp2_with fail
      exact bodyPost_ret (v := .tuple #[.string ⟨#[]⟩, .agg #[.int .i64 f, .int .i64 a, .int .i64 r]]) (by simp [results, Try.results13, go_sem, g0, g1, g2, e0, e1, e2]) rfl ⟨by rw [HR1.out, HR2.out], (((BF.out.setCell (p := ⟨pb + 1, 0, none⟩) (by show w.heap.size ≤ pb + 1; have := HHH.out; omega) _).setCell (p := ⟨pb + 1, 1, none⟩) (by show w.heap.size ≤ pb + 1; have := HHH.out; omega) _).setCell (p := ⟨pb + 1, 2, none⟩) (by show w.heap.size ≤ pb + 1; have := HHH.out; omega) _).drew⟩
  by_cases hq : q < 0
  · have HN := hide (show rdOk l n f a r q = false by rw [rdOk, hv, decide_eq_true hq]; rfl)
    have HQ := hide hq
    have HR1 := hide (show rdT l n f a r q = ⟨#[]⟩ by rw [rdT, HN.out]; rfl)
    have HR2 := hide (show rdA l n f a r q = a by rw [rdA, HN.out]; rfl)
    clear HN
    refine wp_flowX (os := [_, _, _, _, _, _, _, _, _, _, _, _, _, _, _, _, _, _, _, _, _, _, _, _, _, _]) (fun c W => Below W0.heap.size W0 W) (fun _ _ _ => True) (fun i v _ _ => v = rdVb A n c f a r q pb i) 26 rfl ?_ ?_ ?_ ?_ ?_ ?_ ?_
    · kernel_rfl
    · kernel_rfl
    · kernel_rfl
    · exact (fun i j v vs w1 w2 _ _ h _ => h)
    · exact ((Below.refl _ _).drew)
    ·
      refine FlowStepsX.stepY 62 26 1 rfl rfl (by kernel_rfl) (by kernel_rfl) (by kernel_rfl) rfl rfl ?_ ?_
      ·
        intro cc act vs W hcc ha hvs hS hd hi K hK
        clear ha
        have u0 : act.tmps[0]? = some (.slice A n c) := (hi.out 0 (by kernel_rfl)).trans rfl
        clear hd hi
        clear hvs
        refine wanted_un rfl ?_
        go_simp
        exact hK.out _ _ rfl hS trivial
      refine FlowStepsX.stepY 62 26 2 rfl rfl (by kernel_rfl) (by kernel_rfl) (by kernel_rfl) rfl rfl ?_ ?_
      ·
        intro cc act vs W hcc ha hvs hS hd hi K hK
        clear ha
        have u4 : act.tmps[4]? = some (.pointer (some ⟨pb, 0, none⟩)) := (hi.out 4 (by kernel_rfl)).trans rfl
        clear hd hi
        clear hvs
        refine wanted_un rfl ?_
        have e0 := (hS.cell (p := ⟨pb, 0, none⟩) hh).trans c0
        have e1 := (hS.cell (p := ⟨pb, 1, none⟩) hh).trans c1
        have e2 := (hS.cell (p := ⟨pb, 2, none⟩) hh).trans c2
        go_simp
        exact hK.out _ _ rfl hS trivial
      refine FlowStepsX.stepY 62 26 3 rfl rfl (by kernel_rfl) (by kernel_rfl) (by kernel_rfl) rfl rfl ?_ ?_
      ·
        intro cc act vs W hcc ha hvs hS hd hi K hK
        clear ha
        have u10 : act.tmps[10]? = some (.slice A n c) := by obtain ⟨_, u, _, h⟩ := hd.out ⟨0, .data⟩ (some 10) (by simp) rfl rfl; exact u.trans (congrArg some h)
        have u11 : act.tmps[11]? = some (.agg #[.int .i64 f, .int .i64 a, .int .i64 r]) := by obtain ⟨_, u, _, h⟩ := hd.out ⟨1, .data⟩ (some 11) (by simp) rfl rfl; exact u.trans (congrArg some h)
        clear hd hi
        clear hvs
        refine wanted_un rfl ?_
        go_wp2_with (go_at_call 37; refine (hanSpec_c _ n c l _ _ r _ (HI.out.below (BW.trans (hS.mono BW.size))) hn HZS.out HZZ.out).mono ?_; rintro e w6 ⟨rfl, hb6⟩)
        try rw [hv]
        exact hK.out _ w6 rfl (hS.trans (hb6.mono hS.size)) trivial
      refine FlowStepsX.stepY 62 26 4 rfl rfl (by kernel_rfl) (by kernel_rfl) (by kernel_rfl) rfl rfl ?_ ?_
      ·
        intro cc act vs W hcc ha hvs hS hd hi K hK
        clear ha
        have u12 : act.tmps[12]? = some (.bool true) := by obtain ⟨_, u, _, h⟩ := hd.out ⟨2, .data⟩ (some 12) (by simp) rfl rfl; exact u.trans (congrArg some h)
        clear hd hi
        clear hvs
        refine wanted_un rfl ?_
        go_simp
        exact hK.out _ _ rfl hS trivial
      refine FlowStepsX.stepY 62 26 5 rfl rfl (by kernel_rfl) (by kernel_rfl) (by kernel_rfl) rfl rfl ?_ ?_
      ·
        intro cc act vs W hcc ha hvs hS hd hi K hK
        clear ha
        have u13 : act.tmps[13]? = some (.bool false) := by obtain ⟨_, u, _, h⟩ := hd.out ⟨3, .data⟩ (some 13) (by simp) rfl rfl; exact u.trans (congrArg some h)
        clear hd hi
        clear hvs
        refine wanted_un rfl ?_
        go_simp
        exact hK.out _ _ rfl hS trivial
      refine FlowStepsX.stepY 62 26 6 rfl rfl (by kernel_rfl) (by kernel_rfl) (by kernel_rfl) rfl rfl ?_ ?_
      ·
        intro cc act vs W hcc ha hvs hS hd hi K hK
        clear ha
        have u14 : act.tmps[14]? = some (.bool false) := by obtain ⟨_, u, _, h⟩ := hd.out ⟨4, .guard⟩ (some 14) (by simp) rfl rfl; exact u.trans (congrArg some h)
        have u2 : act.tmps[2]? = some (.int .i64 q) := (hi.out 2 (by kernel_rfl)).trans rfl
        clear hd hi
        clear hvs
        refine wanted_yes rfl rfl u14 ?_
        go_simp
        exact hK.out _ _ rfl hS trivial
      refine FlowStepsX.stepY 62 26 7 rfl rfl (by kernel_rfl) (by kernel_rfl) (by kernel_rfl) rfl rfl ?_ ?_
      ·
        intro cc act vs W hcc ha hvs hS hd hi K hK
        clear ha
        have u15 : act.tmps[15]? = some (.int .i64 q) := by obtain ⟨_, u, _, h⟩ := hd.out ⟨5, .data⟩ (some 15) (by simp) rfl rfl; exact u.trans (congrArg some h)
        have u14 : act.tmps[14]? = some (.bool false) := by obtain ⟨_, u, _, h⟩ := hd.out ⟨4, .guard⟩ (some 14) (by simp) rfl rfl; exact u.trans (congrArg some h)
        clear hd hi
        clear hvs
        refine wanted_yes rfl rfl u14 ?_
        have e1 := HQ.out
        go_simp
        exact hK.out _ _ rfl hS trivial
      refine FlowStepsX.stepY 62 26 8 rfl rfl (by kernel_rfl) (by kernel_rfl) (by kernel_rfl) rfl rfl ?_ ?_
      ·
        intro cc act vs W hcc ha hvs hS hd hi K hK
        clear ha
        have u14 : act.tmps[14]? = some (.bool false) := by obtain ⟨_, u, _, h⟩ := hd.out ⟨4, .data⟩ (some 14) (by simp) rfl rfl; exact u.trans (congrArg some h)
        have u16 : act.tmps[16]? = some (.bool true) := by obtain ⟨_, u, _, h⟩ := hd.out ⟨6, .data⟩ (some 16) (by simp) rfl rfl; exact u.trans (congrArg some h)
        clear hd hi
        clear hvs
        refine wanted_un rfl ?_
        go_simp
        exact hK.out _ _ rfl hS trivial
      refine FlowStepsX.stepY 62 26 9 rfl rfl (by kernel_rfl) (by kernel_rfl) (by kernel_rfl) rfl rfl ?_ ?_
      ·
        intro cc act vs W hcc ha hvs hS hd hi K hK
        clear ha
        have u17 : act.tmps[17]? = some (.bool true) := by obtain ⟨_, u, _, h⟩ := hd.out ⟨7, .data⟩ (some 17) (by simp) rfl rfl; exact u.trans (congrArg some h)
        clear hd hi
        clear hvs
        refine wanted_un rfl ?_
        go_simp
        exact hK.out _ _ rfl hS trivial
      refine FlowStepsX.stepY 62 26 10 rfl rfl (by kernel_rfl) (by kernel_rfl) (by kernel_rfl) rfl rfl ?_ ?_
      ·
        intro cc act vs W hcc ha hvs hS hd hi K hK
        clear ha
        have u18 : act.tmps[18]? = some (.bool true) := by obtain ⟨_, u, _, h⟩ := hd.out ⟨8, .guard⟩ (some 18) (by simp) rfl rfl; exact u.trans (congrArg some h)
        have u4 : act.tmps[4]? = some (.pointer (some ⟨pb, 0, none⟩)) := (hi.out 4 (by kernel_rfl)).trans rfl
        clear hd hi
        clear hvs
        refine wanted_no rfl rfl u18 ?_
        exact hK.out undef W rfl hS trivial
      refine FlowStepsX.stepY 62 26 11 rfl rfl (by kernel_rfl) (by kernel_rfl) (by kernel_rfl) rfl rfl ?_ ?_
      ·
        intro cc act vs W hcc ha hvs hS hd hi K hK
        clear ha
        have u18 : act.tmps[18]? = some (.bool true) := by obtain ⟨_, u, _, h⟩ := hd.out ⟨8, .guard⟩ (some 18) (by simp) rfl rfl; exact u.trans (congrArg some h)
        clear hd hi
        clear hvs
        refine wanted_no rfl rfl u18 ?_
        exact hK.out undef W rfl hS trivial
      refine FlowStepsX.stepY 62 26 12 rfl rfl (by kernel_rfl) (by kernel_rfl) (by kernel_rfl) rfl rfl ?_ ?_
      ·
        intro cc act vs W hcc ha hvs hS hd hi K hK
        clear ha
        have u18 : act.tmps[18]? = some (.bool true) := by obtain ⟨_, u, _, h⟩ := hd.out ⟨8, .guard⟩ (some 18) (by simp) rfl rfl; exact u.trans (congrArg some h)
        clear hd hi
        clear hvs
        refine wanted_no rfl rfl u18 ?_
        exact hK.out undef W rfl hS trivial
      refine FlowStepsX.stepY 62 26 13 rfl rfl (by kernel_rfl) (by kernel_rfl) (by kernel_rfl) rfl rfl ?_ ?_
      ·
        intro cc act vs W hcc ha hvs hS hd hi K hK
        clear ha
        have u18 : act.tmps[18]? = some (.bool true) := by obtain ⟨_, u, _, h⟩ := hd.out ⟨8, .guard⟩ (some 18) (by simp) rfl rfl; exact u.trans (congrArg some h)
        clear hd hi
        clear hvs
        refine wanted_no rfl rfl u18 ?_
        exact hK.out undef W rfl hS trivial
      refine FlowStepsX.stepY 62 26 14 rfl rfl (by kernel_rfl) (by kernel_rfl) (by kernel_rfl) rfl rfl ?_ ?_
      ·
        intro cc act vs W hcc ha hvs hS hd hi K hK
        clear ha
        have u18 : act.tmps[18]? = some (.bool true) := by obtain ⟨_, u, _, h⟩ := hd.out ⟨8, .data⟩ (some 18) (by simp) rfl rfl; exact u.trans (congrArg some h)
        have u22 : act.tmps[22]? = some (undef) := by obtain ⟨_, u, _, h⟩ := hd.out ⟨12, .data⟩ (some 22) (by simp) rfl rfl; exact u.trans (congrArg some h)
        clear hd hi
        clear hvs
        refine wanted_un rfl ?_
        go_simp
        exact hK.out _ _ rfl hS trivial
      refine FlowStepsX.stepY 62 26 15 rfl rfl (by kernel_rfl) (by kernel_rfl) (by kernel_rfl) rfl rfl ?_ ?_
      ·
        intro cc act vs W hcc ha hvs hS hd hi K hK
        clear ha
        have u23 : act.tmps[23]? = some (.bool true) := by obtain ⟨_, u, _, h⟩ := hd.out ⟨13, .data⟩ (some 23) (by simp) rfl rfl; exact u.trans (congrArg some h)
        clear hd hi
        clear hvs
        refine wanted_un rfl ?_
        go_simp
        exact hK.out _ _ rfl hS trivial
      refine FlowStepsX.stepY 62 26 16 rfl rfl (by kernel_rfl) (by kernel_rfl) (by kernel_rfl) rfl rfl ?_ ?_
      ·
        intro cc act vs W hcc ha hvs hS hd hi K hK
        clear ha
        have u24 : act.tmps[24]? = some (.bool true) := by obtain ⟨_, u, _, h⟩ := hd.out ⟨14, .guard⟩ (some 24) (by simp) rfl rfl; exact u.trans (congrArg some h)
        have u4 : act.tmps[4]? = some (.pointer (some ⟨pb, 0, none⟩)) := (hi.out 4 (by kernel_rfl)).trans rfl
        clear hd hi
        clear hvs
        refine wanted_no rfl rfl u24 ?_
        exact hK.out undef W rfl hS trivial
      refine FlowStepsX.stepY 62 26 17 rfl rfl (by kernel_rfl) (by kernel_rfl) (by kernel_rfl) rfl rfl ?_ ?_
      ·
        intro cc act vs W hcc ha hvs hS hd hi K hK
        clear ha
        have u24 : act.tmps[24]? = some (.bool true) := by obtain ⟨_, u, _, h⟩ := hd.out ⟨14, .guard⟩ (some 24) (by simp) rfl rfl; exact u.trans (congrArg some h)
        clear hd hi
        clear hvs
        refine wanted_no rfl rfl u24 ?_
        exact hK.out undef W rfl hS trivial
      refine FlowStepsX.stepY 62 26 18 rfl rfl (by kernel_rfl) (by kernel_rfl) (by kernel_rfl) rfl rfl ?_ ?_
      ·
        intro cc act vs W hcc ha hvs hS hd hi K hK
        clear ha
        have u24 : act.tmps[24]? = some (.bool true) := by obtain ⟨_, u, _, h⟩ := hd.out ⟨14, .guard⟩ (some 24) (by simp) rfl rfl; exact u.trans (congrArg some h)
        have u0 : act.tmps[0]? = some (.slice A n c) := (hi.out 0 (by kernel_rfl)).trans rfl
        clear hd hi
        clear hvs
        refine wanted_no rfl rfl u24 ?_
        exact hK.out undef W rfl hS trivial
      refine FlowStepsX.stepY 62 26 19 rfl rfl (by kernel_rfl) (by kernel_rfl) (by kernel_rfl) rfl rfl ?_ ?_
      ·
        intro cc act vs W hcc ha hvs hS hd hi K hK
        clear ha
        have u24 : act.tmps[24]? = some (.bool true) := by obtain ⟨_, u, _, h⟩ := hd.out ⟨14, .guard⟩ (some 24) (by simp) rfl rfl; exact u.trans (congrArg some h)
        have u4 : act.tmps[4]? = some (.pointer (some ⟨pb, 0, none⟩)) := (hi.out 4 (by kernel_rfl)).trans rfl
        clear hd hi
        clear hvs
        refine wanted_no rfl rfl u24 ?_
        exact hK.out undef W rfl hS trivial
      refine FlowStepsX.stepY 62 26 20 rfl rfl (by kernel_rfl) (by kernel_rfl) (by kernel_rfl) rfl rfl ?_ ?_
      ·
        intro cc act vs W hcc ha hvs hS hd hi K hK
        clear ha
        have u24 : act.tmps[24]? = some (.bool true) := by obtain ⟨_, u, _, h⟩ := hd.out ⟨14, .guard⟩ (some 24) (by simp) rfl rfl; exact u.trans (congrArg some h)
        clear hd hi
        clear hvs
        refine wanted_no rfl rfl u24 ?_
        exact hK.out undef W rfl hS trivial
      refine FlowStepsX.stepY 62 26 21 rfl rfl (by kernel_rfl) (by kernel_rfl) (by kernel_rfl) rfl rfl ?_ ?_
      ·
        intro cc act vs W hcc ha hvs hS hd hi K hK
        clear ha
        have u24 : act.tmps[24]? = some (.bool true) := by obtain ⟨_, u, _, h⟩ := hd.out ⟨14, .guard⟩ (some 24) (by simp) rfl rfl; exact u.trans (congrArg some h)
        clear hd hi
        clear hvs
        refine wanted_no rfl rfl u24 ?_
        exact hK.out undef W rfl hS trivial
      refine FlowStepsX.stepY 62 26 22 rfl rfl (by kernel_rfl) (by kernel_rfl) (by kernel_rfl) rfl rfl ?_ ?_
      ·
        intro cc act vs W hcc ha hvs hS hd hi K hK
        clear ha
        have u24 : act.tmps[24]? = some (.bool true) := by obtain ⟨_, u, _, h⟩ := hd.out ⟨14, .guard⟩ (some 24) (by simp) rfl rfl; exact u.trans (congrArg some h)
        clear hd hi
        clear hvs
        refine wanted_no rfl rfl u24 ?_
        exact hK.out undef W rfl hS trivial
      refine FlowStepsX.stepY 62 26 23 rfl rfl (by kernel_rfl) (by kernel_rfl) (by kernel_rfl) rfl rfl ?_ ?_
      ·
        intro cc act vs W hcc ha hvs hS hd hi K hK
        clear ha
        have u24 : act.tmps[24]? = some (.bool true) := by obtain ⟨_, u, _, h⟩ := hd.out ⟨14, .guard⟩ (some 24) (by simp) rfl rfl; exact u.trans (congrArg some h)
        clear hd hi
        clear hvs
        refine wanted_no rfl rfl u24 ?_
        exact hK.out undef W rfl hS trivial
      refine FlowStepsX.stepY 62 26 24 rfl rfl (by kernel_rfl) (by kernel_rfl) (by kernel_rfl) rfl rfl ?_ ?_
      ·
        intro cc act vs W hcc ha hvs hS hd hi K hK
        clear ha
        have u24 : act.tmps[24]? = some (.bool true) := by obtain ⟨_, u, _, h⟩ := hd.out ⟨14, .guard⟩ (some 24) (by simp) rfl rfl; exact u.trans (congrArg some h)
        clear hd hi
        clear hvs
        refine wanted_no rfl rfl u24 ?_
        exact hK.out undef W rfl hS trivial
      refine FlowStepsX.stepY 62 26 25 rfl rfl (by kernel_rfl) (by kernel_rfl) (by kernel_rfl) rfl rfl ?_ ?_
      ·
        intro cc act vs W hcc ha hvs hS hd hi K hK
        clear ha
        have u24 : act.tmps[24]? = some (.bool true) := by obtain ⟨_, u, _, h⟩ := hd.out ⟨14, .guard⟩ (some 24) (by simp) rfl rfl; exact u.trans (congrArg some h)
        clear hd hi
        clear hvs
        refine wanted_no rfl rfl u24 ?_
        exact hK.out undef W rfl hS trivial
      refine FlowStepsX.stepY 62 26 26 rfl rfl (by kernel_rfl) (by kernel_rfl) (by kernel_rfl) rfl rfl ?_ ?_
      ·
        intro cc act vs W hcc ha hvs hS hd hi K hK
        clear ha
        have u24 : act.tmps[24]? = some (.bool true) := by obtain ⟨_, u, _, h⟩ := hd.out ⟨14, .data⟩ (some 24) (by simp) rfl rfl; exact u.trans (congrArg some h)
        have u34 : act.tmps[34]? = some (undef) := by obtain ⟨_, u, _, h⟩ := hd.out ⟨24, .data⟩ (some 34) (by simp) rfl rfl; exact u.trans (congrArg some h)
        clear hd hi
        clear hvs
        refine wanted_un rfl ?_
        go_simp
        exact hK.out _ _ rfl hS trivial
      exact FlowStepsX.nil
    · intro cc ρ W hc hS hd
      simp only [putFrom, Act.put, List.setIfInBounds_toArray, List.set_cons_zero, List.set_cons_succ, Nat.reduceAdd]
      have d25 : ρ 25 = .bool true := hd.out 25 (by decide) (by kernel_rfl)
      generalize ρ 25 = x25 at d25 ⊢
      subst d25
      clear hd
      have BF := hide (below_via BW hS BW.size)
      have hsz := hS.size
      have hhw := Nat.lt_of_lt_of_le hh hS.size
      have hgw := Nat.lt_of_lt_of_le hg hS.size
      have e0 := (hS.cell (p := ⟨pb, 0, none⟩) hh).trans c0
      have e1 := (hS.cell (p := ⟨pb, 1, none⟩) hh).trans c1
      have e2 := (hS.cell (p := ⟨pb, 2, none⟩) hh).trans c2
      have g0 := (hS.cell (p := ⟨pb + 1, 0, none⟩) hg).trans z0
      have g1 := (hS.cell (p := ⟨pb + 1, 1, none⟩) hg).trans z1
      have g2 := (hS.cell (p := ⟨pb + 1, 2, none⟩) hg).trans z2
      have y0 := (hS.frozen (p := ⟨pb + 1, 0, none⟩) hg).trans v0
      have y1 := (hS.frozen (p := ⟨pb + 1, 1, none⟩) hg).trans v1
      have y3 := (hS.frozen (p := ⟨pb, 1, none⟩) hh).trans v3
      have y2 := (hS.frozen (p := ⟨pb + 1, 2, none⟩) hg).trans v2
      clear hS c0 c1 c2 z0 z1 z2 v0 v1 v2 v3
      go_wp2_with fail
      go_region
      go_wp2_with fail
      exact bodyPost_ret (v := .tuple #[.string ⟨#[]⟩, .agg #[.int .i64 f, .int .i64 a, .int .i64 r]]) (by simp [results, Try.results13, go_sem, g0, g1, g2, e0, e1, e2]) rfl ⟨by rw [HR1.out, HR2.out], (((BF.out.setCell (p := ⟨pb + 1, 0, none⟩) (by show w.heap.size ≤ pb + 1; have := HHH.out; omega) _).setCell (p := ⟨pb + 1, 1, none⟩) (by show w.heap.size ≤ pb + 1; have := HHH.out; omega) _).setCell (p := ⟨pb + 1, 2, none⟩) (by show w.heap.size ≤ pb + 1; have := HHH.out; omega) _).drew⟩
  have HQ := hide (show ¬ q < 0 from hq)
  cases hb : (bits .and .i64 r 4 == 0) with
  | true =>
    have HN := hide (show rdOk l n f a r q = false by rw [rdOk, hv, hb]; simp)
    have HB := hide hb
    have HR1 := hide (show rdT l n f a r q = ⟨#[]⟩ by rw [rdT, HN.out]; rfl)
    have HR2 := hide (show rdA l n f a r q = a by rw [rdA, HN.out]; rfl)
    clear HN
    refine wp_flowX (os := [_, _, _, _, _, _, _, _, _, _, _, _, _, _, _, _, _, _, _, _, _, _, _, _, _, _]) (fun c W => Below W0.heap.size W0 W) (fun _ _ _ => True) (fun i v _ _ => v = rdVc A n c f a r q pb i) 26 rfl ?_ ?_ ?_ ?_ ?_ ?_ ?_
    · kernel_rfl
    · kernel_rfl
    · kernel_rfl
    · exact (fun i j v vs w1 w2 _ _ h _ => h)
    · exact ((Below.refl _ _).drew)
    ·
      refine FlowStepsX.stepY 62 26 1 rfl rfl (by kernel_rfl) (by kernel_rfl) (by kernel_rfl) rfl rfl ?_ ?_
      ·
        intro cc act vs W hcc ha hvs hS hd hi K hK
        clear ha
        have u0 : act.tmps[0]? = some (.slice A n c) := (hi.out 0 (by kernel_rfl)).trans rfl
        clear hd hi
        clear hvs
        refine wanted_un rfl ?_
        go_simp
        exact hK.out _ _ rfl hS trivial
      refine FlowStepsX.stepY 62 26 2 rfl rfl (by kernel_rfl) (by kernel_rfl) (by kernel_rfl) rfl rfl ?_ ?_
      ·
        intro cc act vs W hcc ha hvs hS hd hi K hK
        clear ha
        have u4 : act.tmps[4]? = some (.pointer (some ⟨pb, 0, none⟩)) := (hi.out 4 (by kernel_rfl)).trans rfl
        clear hd hi
        clear hvs
        refine wanted_un rfl ?_
        have e0 := (hS.cell (p := ⟨pb, 0, none⟩) hh).trans c0
        have e1 := (hS.cell (p := ⟨pb, 1, none⟩) hh).trans c1
        have e2 := (hS.cell (p := ⟨pb, 2, none⟩) hh).trans c2
        go_simp
        exact hK.out _ _ rfl hS trivial
      refine FlowStepsX.stepY 62 26 3 rfl rfl (by kernel_rfl) (by kernel_rfl) (by kernel_rfl) rfl rfl ?_ ?_
      ·
        intro cc act vs W hcc ha hvs hS hd hi K hK
        clear ha
        have u10 : act.tmps[10]? = some (.slice A n c) := by obtain ⟨_, u, _, h⟩ := hd.out ⟨0, .data⟩ (some 10) (by simp) rfl rfl; exact u.trans (congrArg some h)
        have u11 : act.tmps[11]? = some (.agg #[.int .i64 f, .int .i64 a, .int .i64 r]) := by obtain ⟨_, u, _, h⟩ := hd.out ⟨1, .data⟩ (some 11) (by simp) rfl rfl; exact u.trans (congrArg some h)
        clear hd hi
        clear hvs
        refine wanted_un rfl ?_
        go_wp2_with (go_at_call 37; refine (hanSpec_c _ n c l _ _ r _ (HI.out.below (BW.trans (hS.mono BW.size))) hn HZS.out HZZ.out).mono ?_; rintro e w6 ⟨rfl, hb6⟩)
        try rw [hv]
        exact hK.out _ w6 rfl (hS.trans (hb6.mono hS.size)) trivial
      refine FlowStepsX.stepY 62 26 4 rfl rfl (by kernel_rfl) (by kernel_rfl) (by kernel_rfl) rfl rfl ?_ ?_
      ·
        intro cc act vs W hcc ha hvs hS hd hi K hK
        clear ha
        have u12 : act.tmps[12]? = some (.bool true) := by obtain ⟨_, u, _, h⟩ := hd.out ⟨2, .data⟩ (some 12) (by simp) rfl rfl; exact u.trans (congrArg some h)
        clear hd hi
        clear hvs
        refine wanted_un rfl ?_
        go_simp
        exact hK.out _ _ rfl hS trivial
      refine FlowStepsX.stepY 62 26 5 rfl rfl (by kernel_rfl) (by kernel_rfl) (by kernel_rfl) rfl rfl ?_ ?_
      ·
        intro cc act vs W hcc ha hvs hS hd hi K hK
        clear ha
        have u13 : act.tmps[13]? = some (.bool false) := by obtain ⟨_, u, _, h⟩ := hd.out ⟨3, .data⟩ (some 13) (by simp) rfl rfl; exact u.trans (congrArg some h)
        clear hd hi
        clear hvs
        refine wanted_un rfl ?_
        go_simp
        exact hK.out _ _ rfl hS trivial
      refine FlowStepsX.stepY 62 26 6 rfl rfl (by kernel_rfl) (by kernel_rfl) (by kernel_rfl) rfl rfl ?_ ?_
      ·
        intro cc act vs W hcc ha hvs hS hd hi K hK
        clear ha
        have u14 : act.tmps[14]? = some (.bool false) := by obtain ⟨_, u, _, h⟩ := hd.out ⟨4, .guard⟩ (some 14) (by simp) rfl rfl; exact u.trans (congrArg some h)
        have u2 : act.tmps[2]? = some (.int .i64 q) := (hi.out 2 (by kernel_rfl)).trans rfl
        clear hd hi
        clear hvs
        refine wanted_yes rfl rfl u14 ?_
        go_simp
        exact hK.out _ _ rfl hS trivial
      refine FlowStepsX.stepY 62 26 7 rfl rfl (by kernel_rfl) (by kernel_rfl) (by kernel_rfl) rfl rfl ?_ ?_
      ·
        intro cc act vs W hcc ha hvs hS hd hi K hK
        clear ha
        have u15 : act.tmps[15]? = some (.int .i64 q) := by obtain ⟨_, u, _, h⟩ := hd.out ⟨5, .data⟩ (some 15) (by simp) rfl rfl; exact u.trans (congrArg some h)
        have u14 : act.tmps[14]? = some (.bool false) := by obtain ⟨_, u, _, h⟩ := hd.out ⟨4, .guard⟩ (some 14) (by simp) rfl rfl; exact u.trans (congrArg some h)
        clear hd hi
        clear hvs
        refine wanted_yes rfl rfl u14 ?_
        have e1 := HQ.out
        go_simp
        exact hK.out _ _ rfl hS trivial
      refine FlowStepsX.stepY 62 26 8 rfl rfl (by kernel_rfl) (by kernel_rfl) (by kernel_rfl) rfl rfl ?_ ?_
      ·
        intro cc act vs W hcc ha hvs hS hd hi K hK
        clear ha
        have u14 : act.tmps[14]? = some (.bool false) := by obtain ⟨_, u, _, h⟩ := hd.out ⟨4, .data⟩ (some 14) (by simp) rfl rfl; exact u.trans (congrArg some h)
        have u16 : act.tmps[16]? = some (.bool false) := by obtain ⟨_, u, _, h⟩ := hd.out ⟨6, .data⟩ (some 16) (by simp) rfl rfl; exact u.trans (congrArg some h)
        clear hd hi
        clear hvs
        refine wanted_un rfl ?_
        go_simp
        exact hK.out _ _ rfl hS trivial
      refine FlowStepsX.stepY 62 26 9 rfl rfl (by kernel_rfl) (by kernel_rfl) (by kernel_rfl) rfl rfl ?_ ?_
      ·
        intro cc act vs W hcc ha hvs hS hd hi K hK
        clear ha
        have u17 : act.tmps[17]? = some (.bool false) := by obtain ⟨_, u, _, h⟩ := hd.out ⟨7, .data⟩ (some 17) (by simp) rfl rfl; exact u.trans (congrArg some h)
        clear hd hi
        clear hvs
        refine wanted_un rfl ?_
        go_simp
        exact hK.out _ _ rfl hS trivial
      refine FlowStepsX.stepY 62 26 10 rfl rfl (by kernel_rfl) (by kernel_rfl) (by kernel_rfl) rfl rfl ?_ ?_
      ·
        intro cc act vs W hcc ha hvs hS hd hi K hK
        clear ha
        have u18 : act.tmps[18]? = some (.bool false) := by obtain ⟨_, u, _, h⟩ := hd.out ⟨8, .guard⟩ (some 18) (by simp) rfl rfl; exact u.trans (congrArg some h)
        have u4 : act.tmps[4]? = some (.pointer (some ⟨pb, 0, none⟩)) := (hi.out 4 (by kernel_rfl)).trans rfl
        clear hd hi
        clear hvs
        refine wanted_yes rfl rfl u18 ?_
        go_simp
        exact hK.out _ _ rfl hS trivial
      refine FlowStepsX.stepY 62 26 11 rfl rfl (by kernel_rfl) (by kernel_rfl) (by kernel_rfl) rfl rfl ?_ ?_
      ·
        intro cc act vs W hcc ha hvs hS hd hi K hK
        clear ha
        have u19 : act.tmps[19]? = some (.pointer (some ⟨pb, 2, none⟩)) := by obtain ⟨_, u, _, h⟩ := hd.out ⟨9, .data⟩ (some 19) (by simp) rfl rfl; exact u.trans (congrArg some h)
        have u18 : act.tmps[18]? = some (.bool false) := by obtain ⟨_, u, _, h⟩ := hd.out ⟨8, .guard⟩ (some 18) (by simp) rfl rfl; exact u.trans (congrArg some h)
        clear hd hi
        clear hvs
        refine wanted_yes rfl rfl u18 ?_
        have e2 := (hS.cell (p := ⟨pb, 2, none⟩) hh).trans c2
        go_simp
        exact hK.out _ _ rfl hS trivial
      refine FlowStepsX.stepY 62 26 12 rfl rfl (by kernel_rfl) (by kernel_rfl) (by kernel_rfl) rfl rfl ?_ ?_
      ·
        intro cc act vs W hcc ha hvs hS hd hi K hK
        clear ha
        have u20 : act.tmps[20]? = some (.int .i64 r) := by obtain ⟨_, u, _, h⟩ := hd.out ⟨10, .data⟩ (some 20) (by simp) rfl rfl; exact u.trans (congrArg some h)
        have u18 : act.tmps[18]? = some (.bool false) := by obtain ⟨_, u, _, h⟩ := hd.out ⟨8, .guard⟩ (some 18) (by simp) rfl rfl; exact u.trans (congrArg some h)
        clear hd hi
        clear hvs
        refine wanted_yes rfl rfl u18 ?_
        go_simp
        exact hK.out _ _ rfl hS trivial
      refine FlowStepsX.stepY 62 26 13 rfl rfl (by kernel_rfl) (by kernel_rfl) (by kernel_rfl) rfl rfl ?_ ?_
      ·
        intro cc act vs W hcc ha hvs hS hd hi K hK
        clear ha
        have u21 : act.tmps[21]? = some (.int .i64 (bits .and .i64 r 4)) := by obtain ⟨_, u, _, h⟩ := hd.out ⟨11, .data⟩ (some 21) (by simp) rfl rfl; exact u.trans (congrArg some h)
        have u18 : act.tmps[18]? = some (.bool false) := by obtain ⟨_, u, _, h⟩ := hd.out ⟨8, .guard⟩ (some 18) (by simp) rfl rfl; exact u.trans (congrArg some h)
        clear hd hi
        clear hvs
        refine wanted_yes rfl rfl u18 ?_
        have e1 := HB.out
        go_simp
        exact hK.out _ _ rfl hS trivial
      refine FlowStepsX.stepY 62 26 14 rfl rfl (by kernel_rfl) (by kernel_rfl) (by kernel_rfl) rfl rfl ?_ ?_
      ·
        intro cc act vs W hcc ha hvs hS hd hi K hK
        clear ha
        have u18 : act.tmps[18]? = some (.bool false) := by obtain ⟨_, u, _, h⟩ := hd.out ⟨8, .data⟩ (some 18) (by simp) rfl rfl; exact u.trans (congrArg some h)
        have u22 : act.tmps[22]? = some (.bool true) := by obtain ⟨_, u, _, h⟩ := hd.out ⟨12, .data⟩ (some 22) (by simp) rfl rfl; exact u.trans (congrArg some h)
        clear hd hi
        clear hvs
        refine wanted_un rfl ?_
        go_simp
        exact hK.out _ _ rfl hS trivial
      refine FlowStepsX.stepY 62 26 15 rfl rfl (by kernel_rfl) (by kernel_rfl) (by kernel_rfl) rfl rfl ?_ ?_
      ·
        intro cc act vs W hcc ha hvs hS hd hi K hK
        clear ha
        have u23 : act.tmps[23]? = some (.bool true) := by obtain ⟨_, u, _, h⟩ := hd.out ⟨13, .data⟩ (some 23) (by simp) rfl rfl; exact u.trans (congrArg some h)
        clear hd hi
        clear hvs
        refine wanted_un rfl ?_
        go_simp
        exact hK.out _ _ rfl hS trivial
      refine FlowStepsX.stepY 62 26 16 rfl rfl (by kernel_rfl) (by kernel_rfl) (by kernel_rfl) rfl rfl ?_ ?_
      ·
        intro cc act vs W hcc ha hvs hS hd hi K hK
        clear ha
        have u24 : act.tmps[24]? = some (.bool true) := by obtain ⟨_, u, _, h⟩ := hd.out ⟨14, .guard⟩ (some 24) (by simp) rfl rfl; exact u.trans (congrArg some h)
        have u4 : act.tmps[4]? = some (.pointer (some ⟨pb, 0, none⟩)) := (hi.out 4 (by kernel_rfl)).trans rfl
        clear hd hi
        clear hvs
        refine wanted_no rfl rfl u24 ?_
        exact hK.out undef W rfl hS trivial
      refine FlowStepsX.stepY 62 26 17 rfl rfl (by kernel_rfl) (by kernel_rfl) (by kernel_rfl) rfl rfl ?_ ?_
      ·
        intro cc act vs W hcc ha hvs hS hd hi K hK
        clear ha
        have u24 : act.tmps[24]? = some (.bool true) := by obtain ⟨_, u, _, h⟩ := hd.out ⟨14, .guard⟩ (some 24) (by simp) rfl rfl; exact u.trans (congrArg some h)
        clear hd hi
        clear hvs
        refine wanted_no rfl rfl u24 ?_
        exact hK.out undef W rfl hS trivial
      refine FlowStepsX.stepY 62 26 18 rfl rfl (by kernel_rfl) (by kernel_rfl) (by kernel_rfl) rfl rfl ?_ ?_
      ·
        intro cc act vs W hcc ha hvs hS hd hi K hK
        clear ha
        have u24 : act.tmps[24]? = some (.bool true) := by obtain ⟨_, u, _, h⟩ := hd.out ⟨14, .guard⟩ (some 24) (by simp) rfl rfl; exact u.trans (congrArg some h)
        have u0 : act.tmps[0]? = some (.slice A n c) := (hi.out 0 (by kernel_rfl)).trans rfl
        clear hd hi
        clear hvs
        refine wanted_no rfl rfl u24 ?_
        exact hK.out undef W rfl hS trivial
      refine FlowStepsX.stepY 62 26 19 rfl rfl (by kernel_rfl) (by kernel_rfl) (by kernel_rfl) rfl rfl ?_ ?_
      ·
        intro cc act vs W hcc ha hvs hS hd hi K hK
        clear ha
        have u24 : act.tmps[24]? = some (.bool true) := by obtain ⟨_, u, _, h⟩ := hd.out ⟨14, .guard⟩ (some 24) (by simp) rfl rfl; exact u.trans (congrArg some h)
        have u4 : act.tmps[4]? = some (.pointer (some ⟨pb, 0, none⟩)) := (hi.out 4 (by kernel_rfl)).trans rfl
        clear hd hi
        clear hvs
        refine wanted_no rfl rfl u24 ?_
        exact hK.out undef W rfl hS trivial
      refine FlowStepsX.stepY 62 26 20 rfl rfl (by kernel_rfl) (by kernel_rfl) (by kernel_rfl) rfl rfl ?_ ?_
      ·
        intro cc act vs W hcc ha hvs hS hd hi K hK
        clear ha
        have u24 : act.tmps[24]? = some (.bool true) := by obtain ⟨_, u, _, h⟩ := hd.out ⟨14, .guard⟩ (some 24) (by simp) rfl rfl; exact u.trans (congrArg some h)
        clear hd hi
        clear hvs
        refine wanted_no rfl rfl u24 ?_
        exact hK.out undef W rfl hS trivial
      refine FlowStepsX.stepY 62 26 21 rfl rfl (by kernel_rfl) (by kernel_rfl) (by kernel_rfl) rfl rfl ?_ ?_
      ·
        intro cc act vs W hcc ha hvs hS hd hi K hK
        clear ha
        have u24 : act.tmps[24]? = some (.bool true) := by obtain ⟨_, u, _, h⟩ := hd.out ⟨14, .guard⟩ (some 24) (by simp) rfl rfl; exact u.trans (congrArg some h)
        clear hd hi
        clear hvs
        refine wanted_no rfl rfl u24 ?_
        exact hK.out undef W rfl hS trivial
      refine FlowStepsX.stepY 62 26 22 rfl rfl (by kernel_rfl) (by kernel_rfl) (by kernel_rfl) rfl rfl ?_ ?_
      ·
        intro cc act vs W hcc ha hvs hS hd hi K hK
        clear ha
        have u24 : act.tmps[24]? = some (.bool true) := by obtain ⟨_, u, _, h⟩ := hd.out ⟨14, .guard⟩ (some 24) (by simp) rfl rfl; exact u.trans (congrArg some h)
        clear hd hi
        clear hvs
        refine wanted_no rfl rfl u24 ?_
        exact hK.out undef W rfl hS trivial
      refine FlowStepsX.stepY 62 26 23 rfl rfl (by kernel_rfl) (by kernel_rfl) (by kernel_rfl) rfl rfl ?_ ?_
      ·
        intro cc act vs W hcc ha hvs hS hd hi K hK
        clear ha
        have u24 : act.tmps[24]? = some (.bool true) := by obtain ⟨_, u, _, h⟩ := hd.out ⟨14, .guard⟩ (some 24) (by simp) rfl rfl; exact u.trans (congrArg some h)
        clear hd hi
        clear hvs
        refine wanted_no rfl rfl u24 ?_
        exact hK.out undef W rfl hS trivial
      refine FlowStepsX.stepY 62 26 24 rfl rfl (by kernel_rfl) (by kernel_rfl) (by kernel_rfl) rfl rfl ?_ ?_
      ·
        intro cc act vs W hcc ha hvs hS hd hi K hK
        clear ha
        have u24 : act.tmps[24]? = some (.bool true) := by obtain ⟨_, u, _, h⟩ := hd.out ⟨14, .guard⟩ (some 24) (by simp) rfl rfl; exact u.trans (congrArg some h)
        clear hd hi
        clear hvs
        refine wanted_no rfl rfl u24 ?_
        exact hK.out undef W rfl hS trivial
      refine FlowStepsX.stepY 62 26 25 rfl rfl (by kernel_rfl) (by kernel_rfl) (by kernel_rfl) rfl rfl ?_ ?_
      ·
        intro cc act vs W hcc ha hvs hS hd hi K hK
        clear ha
        have u24 : act.tmps[24]? = some (.bool true) := by obtain ⟨_, u, _, h⟩ := hd.out ⟨14, .guard⟩ (some 24) (by simp) rfl rfl; exact u.trans (congrArg some h)
        clear hd hi
        clear hvs
        refine wanted_no rfl rfl u24 ?_
        exact hK.out undef W rfl hS trivial
      refine FlowStepsX.stepY 62 26 26 rfl rfl (by kernel_rfl) (by kernel_rfl) (by kernel_rfl) rfl rfl ?_ ?_
      ·
        intro cc act vs W hcc ha hvs hS hd hi K hK
        clear ha
        have u24 : act.tmps[24]? = some (.bool true) := by obtain ⟨_, u, _, h⟩ := hd.out ⟨14, .data⟩ (some 24) (by simp) rfl rfl; exact u.trans (congrArg some h)
        have u34 : act.tmps[34]? = some (undef) := by obtain ⟨_, u, _, h⟩ := hd.out ⟨24, .data⟩ (some 34) (by simp) rfl rfl; exact u.trans (congrArg some h)
        clear hd hi
        clear hvs
        refine wanted_un rfl ?_
        go_simp
        exact hK.out _ _ rfl hS trivial
      exact FlowStepsX.nil
    · intro cc ρ W hc hS hd
      simp only [putFrom, Act.put, List.setIfInBounds_toArray, List.set_cons_zero, List.set_cons_succ, Nat.reduceAdd]
      have d25 : ρ 25 = .bool true := hd.out 25 (by decide) (by kernel_rfl)
      generalize ρ 25 = x25 at d25 ⊢
      subst d25
      clear hd
      have BF := hide (below_via BW hS BW.size)
      have hsz := hS.size
      have hhw := Nat.lt_of_lt_of_le hh hS.size
      have hgw := Nat.lt_of_lt_of_le hg hS.size
      have e0 := (hS.cell (p := ⟨pb, 0, none⟩) hh).trans c0
      have e1 := (hS.cell (p := ⟨pb, 1, none⟩) hh).trans c1
      have e2 := (hS.cell (p := ⟨pb, 2, none⟩) hh).trans c2
      have g0 := (hS.cell (p := ⟨pb + 1, 0, none⟩) hg).trans z0
      have g1 := (hS.cell (p := ⟨pb + 1, 1, none⟩) hg).trans z1
      have g2 := (hS.cell (p := ⟨pb + 1, 2, none⟩) hg).trans z2
      have y0 := (hS.frozen (p := ⟨pb + 1, 0, none⟩) hg).trans v0
      have y1 := (hS.frozen (p := ⟨pb + 1, 1, none⟩) hg).trans v1
      have y3 := (hS.frozen (p := ⟨pb, 1, none⟩) hh).trans v3
      have y2 := (hS.frozen (p := ⟨pb + 1, 2, none⟩) hg).trans v2
      clear hS c0 c1 c2 z0 z1 z2 v0 v1 v2 v3
      go_wp2_with fail
      go_region
      go_wp2_with fail
      exact bodyPost_ret (v := .tuple #[.string ⟨#[]⟩, .agg #[.int .i64 f, .int .i64 a, .int .i64 r]]) (by simp [results, Try.results13, go_sem, g0, g1, g2, e0, e1, e2]) rfl ⟨by rw [HR1.out, HR2.out], (((BF.out.setCell (p := ⟨pb + 1, 0, none⟩) (by show w.heap.size ≤ pb + 1; have := HHH.out; omega) _).setCell (p := ⟨pb + 1, 1, none⟩) (by show w.heap.size ≤ pb + 1; have := HHH.out; omega) _).setCell (p := ⟨pb + 1, 2, none⟩) (by show w.heap.size ≤ pb + 1; have := HHH.out; omega) _).drew⟩
  | false =>
    have HB := hide hb
    have hv' := hv
    simp only [hanB, Bool.and_eq_true] at hv'
    obtain ⟨hvt, hf, hdr, ha, hrr⟩ := hv'
    obtain ⟨a0, a40⟩ := inB_iff.1 ha
    obtain ⟨f0, f1⟩ := inB_iff.1 hf
    obtain ⟨k, rfl⟩ := Int.eq_ofNat_of_zero_le f0
    obtain ⟨b, off, rfl, hR⟩ := HI.out.2 (by omega)
    have hk : k < n := by omega
    have hkn : (k : Int) < n := by omega
    obtain ⟨t, ht⟩ : ∃ t, l[k]? = some t := ⟨_, List.getElem?_eq_getElem (by omega)⟩
    have htx : txAt l (k : Int) = t.text := by simp [txAt, ht]
    have HTV := treeB_iff.1 hvt
    have ht40 : t.text.size ≤ 40 := (HTV.2.2.2.1 k t ht).1.2.1
    obtain ⟨S, K, ⟨_, _, _, _, d4, _⟩, _, _⟩ := (hR.below BW).2 k t ht
    have hbl := (hR.below BW).1
    have HR := hide hR
    have HK := hide hkn
    have HT := hide ht
    have HOK := hide (show rdOk l n (k : Int) a r q = decide (a ≤ (t.text.size : Int)) by rw [rdOk, hv, hb, htx, decide_eq_false hq]; rfl)
    have HTX := hide htx
    clear hR ht htx HTV hf hvt hdr ha hrr hq hb
    by_cases hsz : a ≤ (t.text.size : Int)
    · have HA := hide (show ¬ (t.text.size : Int) < a by omega)
      have HN := hide (show rdOk l n (k : Int) a r q = true by rw [HOK.out, decide_eq_true hsz])
      obtain ⟨m, rfl⟩ := Int.eq_ofNat_of_zero_le a0
      obtain ⟨p, rfl⟩ := Int.eq_ofNat_of_zero_le (show 0 ≤ q by have := HQ.out; omega)
      have hmt : m ≤ t.text.size := by omega
      have hmi : (m : Int) ≤ t.text.size := by omega
      refine wp_flowX (os := [_, _, _, _, _, _, _, _, _, _, _, _, _, _, _, _, _, _, _, _, _, _, _, _, _, _]) (fun c W => Below W0.heap.size W0 W) (fun _ _ _ => True) (fun i v _ _ => v = rdVe b off n c k (m : Int) r (p : Int) pb t i) 26 rfl ?_ ?_ ?_ ?_ ?_ ?_ ?_
      · kernel_rfl
      · kernel_rfl
      · kernel_rfl
      · exact (fun i j v vs w1 w2 _ _ h _ => h)
      · exact ((Below.refl _ _).drew)
      ·
        refine FlowStepsX.stepY 62 26 1 rfl rfl (by kernel_rfl) (by kernel_rfl) (by kernel_rfl) rfl rfl ?_ ?_
        ·
          intro cc act vs W hcc ha hvs hS hd hi K hK
          clear ha
          have u0 : act.tmps[0]? = some (.slice (some ⟨b, off, none⟩) n c) := (hi.out 0 (by kernel_rfl)).trans rfl
          clear hd hi
          clear hvs
          refine wanted_un rfl ?_
          go_simp
          exact hK.out _ _ rfl hS trivial
        refine FlowStepsX.stepY 62 26 2 rfl rfl (by kernel_rfl) (by kernel_rfl) (by kernel_rfl) rfl rfl ?_ ?_
        ·
          intro cc act vs W hcc ha hvs hS hd hi K hK
          clear ha
          have u4 : act.tmps[4]? = some (.pointer (some ⟨pb, 0, none⟩)) := (hi.out 4 (by kernel_rfl)).trans rfl
          clear hd hi
          clear hvs
          refine wanted_un rfl ?_
          have e0 := (hS.cell (p := ⟨pb, 0, none⟩) hh).trans c0
          have e1 := (hS.cell (p := ⟨pb, 1, none⟩) hh).trans c1
          have e2 := (hS.cell (p := ⟨pb, 2, none⟩) hh).trans c2
          go_simp
          exact hK.out _ _ rfl hS trivial
        refine FlowStepsX.stepY 62 26 3 rfl rfl (by kernel_rfl) (by kernel_rfl) (by kernel_rfl) rfl rfl ?_ ?_
        ·
          intro cc act vs W hcc ha hvs hS hd hi K hK
          clear ha
          have u10 : act.tmps[10]? = some (.slice (some ⟨b, off, none⟩) n c) := by obtain ⟨_, u, _, h⟩ := hd.out ⟨0, .data⟩ (some 10) (by simp) rfl rfl; exact u.trans (congrArg some h)
          have u11 : act.tmps[11]? = some (.agg #[.int .i64 (k : Int), .int .i64 (m : Int), .int .i64 r]) := by obtain ⟨_, u, _, h⟩ := hd.out ⟨1, .data⟩ (some 11) (by simp) rfl rfl; exact u.trans (congrArg some h)
          clear hd hi
          clear hvs
          refine wanted_un rfl ?_
          go_wp2_with (go_at_call 37; refine (hanSpec_c _ n c l _ _ r _ (HI.out.below (BW.trans (hS.mono BW.size))) hn HZS.out HZZ.out).mono ?_; rintro e w6 ⟨rfl, hb6⟩)
          try rw [hv]
          exact hK.out _ w6 rfl (hS.trans (hb6.mono hS.size)) trivial
        refine FlowStepsX.stepY 62 26 4 rfl rfl (by kernel_rfl) (by kernel_rfl) (by kernel_rfl) rfl rfl ?_ ?_
        ·
          intro cc act vs W hcc ha hvs hS hd hi K hK
          clear ha
          have u12 : act.tmps[12]? = some (.bool true) := by obtain ⟨_, u, _, h⟩ := hd.out ⟨2, .data⟩ (some 12) (by simp) rfl rfl; exact u.trans (congrArg some h)
          clear hd hi
          clear hvs
          refine wanted_un rfl ?_
          go_simp
          exact hK.out _ _ rfl hS trivial
        refine FlowStepsX.stepY 62 26 5 rfl rfl (by kernel_rfl) (by kernel_rfl) (by kernel_rfl) rfl rfl ?_ ?_
        ·
          intro cc act vs W hcc ha hvs hS hd hi K hK
          clear ha
          have u13 : act.tmps[13]? = some (.bool false) := by obtain ⟨_, u, _, h⟩ := hd.out ⟨3, .data⟩ (some 13) (by simp) rfl rfl; exact u.trans (congrArg some h)
          clear hd hi
          clear hvs
          refine wanted_un rfl ?_
          go_simp
          exact hK.out _ _ rfl hS trivial
        refine FlowStepsX.stepY 62 26 6 rfl rfl (by kernel_rfl) (by kernel_rfl) (by kernel_rfl) rfl rfl ?_ ?_
        ·
          intro cc act vs W hcc ha hvs hS hd hi K hK
          clear ha
          have u14 : act.tmps[14]? = some (.bool false) := by obtain ⟨_, u, _, h⟩ := hd.out ⟨4, .guard⟩ (some 14) (by simp) rfl rfl; exact u.trans (congrArg some h)
          have u2 : act.tmps[2]? = some (.int .i64 (p : Int)) := (hi.out 2 (by kernel_rfl)).trans rfl
          clear hd hi
          clear hvs
          refine wanted_yes rfl rfl u14 ?_
          go_simp
          exact hK.out _ _ rfl hS trivial
        refine FlowStepsX.stepY 62 26 7 rfl rfl (by kernel_rfl) (by kernel_rfl) (by kernel_rfl) rfl rfl ?_ ?_
        ·
          intro cc act vs W hcc ha hvs hS hd hi K hK
          clear ha
          have u15 : act.tmps[15]? = some (.int .i64 (p : Int)) := by obtain ⟨_, u, _, h⟩ := hd.out ⟨5, .data⟩ (some 15) (by simp) rfl rfl; exact u.trans (congrArg some h)
          have u14 : act.tmps[14]? = some (.bool false) := by obtain ⟨_, u, _, h⟩ := hd.out ⟨4, .guard⟩ (some 14) (by simp) rfl rfl; exact u.trans (congrArg some h)
          clear hd hi
          clear hvs
          refine wanted_yes rfl rfl u14 ?_
          have e1 := HQ.out
          go_simp
          exact hK.out _ _ rfl hS trivial
        refine FlowStepsX.stepY 62 26 8 rfl rfl (by kernel_rfl) (by kernel_rfl) (by kernel_rfl) rfl rfl ?_ ?_
        ·
          intro cc act vs W hcc ha hvs hS hd hi K hK
          clear ha
          have u14 : act.tmps[14]? = some (.bool false) := by obtain ⟨_, u, _, h⟩ := hd.out ⟨4, .data⟩ (some 14) (by simp) rfl rfl; exact u.trans (congrArg some h)
          have u16 : act.tmps[16]? = some (.bool false) := by obtain ⟨_, u, _, h⟩ := hd.out ⟨6, .data⟩ (some 16) (by simp) rfl rfl; exact u.trans (congrArg some h)
          clear hd hi
          clear hvs
          refine wanted_un rfl ?_
          go_simp
          exact hK.out _ _ rfl hS trivial
        refine FlowStepsX.stepY 62 26 9 rfl rfl (by kernel_rfl) (by kernel_rfl) (by kernel_rfl) rfl rfl ?_ ?_
        ·
          intro cc act vs W hcc ha hvs hS hd hi K hK
          clear ha
          have u17 : act.tmps[17]? = some (.bool false) := by obtain ⟨_, u, _, h⟩ := hd.out ⟨7, .data⟩ (some 17) (by simp) rfl rfl; exact u.trans (congrArg some h)
          clear hd hi
          clear hvs
          refine wanted_un rfl ?_
          go_simp
          exact hK.out _ _ rfl hS trivial
        refine FlowStepsX.stepY 62 26 10 rfl rfl (by kernel_rfl) (by kernel_rfl) (by kernel_rfl) rfl rfl ?_ ?_
        ·
          intro cc act vs W hcc ha hvs hS hd hi K hK
          clear ha
          have u18 : act.tmps[18]? = some (.bool false) := by obtain ⟨_, u, _, h⟩ := hd.out ⟨8, .guard⟩ (some 18) (by simp) rfl rfl; exact u.trans (congrArg some h)
          have u4 : act.tmps[4]? = some (.pointer (some ⟨pb, 0, none⟩)) := (hi.out 4 (by kernel_rfl)).trans rfl
          clear hd hi
          clear hvs
          refine wanted_yes rfl rfl u18 ?_
          go_simp
          exact hK.out _ _ rfl hS trivial
        refine FlowStepsX.stepY 62 26 11 rfl rfl (by kernel_rfl) (by kernel_rfl) (by kernel_rfl) rfl rfl ?_ ?_
        ·
          intro cc act vs W hcc ha hvs hS hd hi K hK
          clear ha
          have u19 : act.tmps[19]? = some (.pointer (some ⟨pb, 2, none⟩)) := by obtain ⟨_, u, _, h⟩ := hd.out ⟨9, .data⟩ (some 19) (by simp) rfl rfl; exact u.trans (congrArg some h)
          have u18 : act.tmps[18]? = some (.bool false) := by obtain ⟨_, u, _, h⟩ := hd.out ⟨8, .guard⟩ (some 18) (by simp) rfl rfl; exact u.trans (congrArg some h)
          clear hd hi
          clear hvs
          refine wanted_yes rfl rfl u18 ?_
          have e2 := (hS.cell (p := ⟨pb, 2, none⟩) hh).trans c2
          go_simp
          exact hK.out _ _ rfl hS trivial
        refine FlowStepsX.stepY 62 26 12 rfl rfl (by kernel_rfl) (by kernel_rfl) (by kernel_rfl) rfl rfl ?_ ?_
        ·
          intro cc act vs W hcc ha hvs hS hd hi K hK
          clear ha
          have u20 : act.tmps[20]? = some (.int .i64 r) := by obtain ⟨_, u, _, h⟩ := hd.out ⟨10, .data⟩ (some 20) (by simp) rfl rfl; exact u.trans (congrArg some h)
          have u18 : act.tmps[18]? = some (.bool false) := by obtain ⟨_, u, _, h⟩ := hd.out ⟨8, .guard⟩ (some 18) (by simp) rfl rfl; exact u.trans (congrArg some h)
          clear hd hi
          clear hvs
          refine wanted_yes rfl rfl u18 ?_
          go_simp
          exact hK.out _ _ rfl hS trivial
        refine FlowStepsX.stepY 62 26 13 rfl rfl (by kernel_rfl) (by kernel_rfl) (by kernel_rfl) rfl rfl ?_ ?_
        ·
          intro cc act vs W hcc ha hvs hS hd hi K hK
          clear ha
          have u21 : act.tmps[21]? = some (.int .i64 (bits .and .i64 r 4)) := by obtain ⟨_, u, _, h⟩ := hd.out ⟨11, .data⟩ (some 21) (by simp) rfl rfl; exact u.trans (congrArg some h)
          have u18 : act.tmps[18]? = some (.bool false) := by obtain ⟨_, u, _, h⟩ := hd.out ⟨8, .guard⟩ (some 18) (by simp) rfl rfl; exact u.trans (congrArg some h)
          clear hd hi
          clear hvs
          refine wanted_yes rfl rfl u18 ?_
          have e1 := HB.out
          go_simp
          exact hK.out _ _ rfl hS trivial
        refine FlowStepsX.stepY 62 26 14 rfl rfl (by kernel_rfl) (by kernel_rfl) (by kernel_rfl) rfl rfl ?_ ?_
        ·
          intro cc act vs W hcc ha hvs hS hd hi K hK
          clear ha
          have u18 : act.tmps[18]? = some (.bool false) := by obtain ⟨_, u, _, h⟩ := hd.out ⟨8, .data⟩ (some 18) (by simp) rfl rfl; exact u.trans (congrArg some h)
          have u22 : act.tmps[22]? = some (.bool false) := by obtain ⟨_, u, _, h⟩ := hd.out ⟨12, .data⟩ (some 22) (by simp) rfl rfl; exact u.trans (congrArg some h)
          clear hd hi
          clear hvs
          refine wanted_un rfl ?_
          go_simp
          exact hK.out _ _ rfl hS trivial
        refine FlowStepsX.stepY 62 26 15 rfl rfl (by kernel_rfl) (by kernel_rfl) (by kernel_rfl) rfl rfl ?_ ?_
        ·
          intro cc act vs W hcc ha hvs hS hd hi K hK
          clear ha
          have u23 : act.tmps[23]? = some (.bool false) := by obtain ⟨_, u, _, h⟩ := hd.out ⟨13, .data⟩ (some 23) (by simp) rfl rfl; exact u.trans (congrArg some h)
          clear hd hi
          clear hvs
          refine wanted_un rfl ?_
          go_simp
          exact hK.out _ _ rfl hS trivial
        refine FlowStepsX.stepY 62 26 16 rfl rfl (by kernel_rfl) (by kernel_rfl) (by kernel_rfl) rfl rfl ?_ ?_
        ·
          intro cc act vs W hcc ha hvs hS hd hi K hK
          clear ha
          have u24 : act.tmps[24]? = some (.bool false) := by obtain ⟨_, u, _, h⟩ := hd.out ⟨14, .guard⟩ (some 24) (by simp) rfl rfl; exact u.trans (congrArg some h)
          have u4 : act.tmps[4]? = some (.pointer (some ⟨pb, 0, none⟩)) := (hi.out 4 (by kernel_rfl)).trans rfl
          clear hd hi
          clear hvs
          refine wanted_yes rfl rfl u24 ?_
          go_simp
          exact hK.out _ _ rfl hS trivial
        refine FlowStepsX.stepY 62 26 17 rfl rfl (by kernel_rfl) (by kernel_rfl) (by kernel_rfl) rfl rfl ?_ ?_
        ·
          intro cc act vs W hcc ha hvs hS hd hi K hK
          clear ha
          have u25 : act.tmps[25]? = some (.pointer (some ⟨pb, 1, none⟩)) := by obtain ⟨_, u, _, h⟩ := hd.out ⟨15, .data⟩ (some 25) (by simp) rfl rfl; exact u.trans (congrArg some h)
          have u24 : act.tmps[24]? = some (.bool false) := by obtain ⟨_, u, _, h⟩ := hd.out ⟨14, .guard⟩ (some 24) (by simp) rfl rfl; exact u.trans (congrArg some h)
          clear hd hi
          clear hvs
          refine wanted_yes rfl rfl u24 ?_
          have e1 := (hS.cell (p := ⟨pb, 1, none⟩) hh).trans c1
          go_simp
          exact hK.out _ _ rfl hS trivial
        refine FlowStepsX.stepY 62 26 18 rfl rfl (by kernel_rfl) (by kernel_rfl) (by kernel_rfl) rfl rfl ?_ ?_
        ·
          intro cc act vs W hcc ha hvs hS hd hi K hK
          clear ha
          have u24 : act.tmps[24]? = some (.bool false) := by obtain ⟨_, u, _, h⟩ := hd.out ⟨14, .guard⟩ (some 24) (by simp) rfl rfl; exact u.trans (congrArg some h)
          have u0 : act.tmps[0]? = some (.slice (some ⟨b, off, none⟩) n c) := (hi.out 0 (by kernel_rfl)).trans rfl
          clear hd hi
          clear hvs
          refine wanted_yes rfl rfl u24 ?_
          go_simp
          exact hK.out _ _ rfl hS trivial
        refine FlowStepsX.stepY 62 26 19 rfl rfl (by kernel_rfl) (by kernel_rfl) (by kernel_rfl) rfl rfl ?_ ?_
        ·
          intro cc act vs W hcc ha hvs hS hd hi K hK
          clear ha
          have u24 : act.tmps[24]? = some (.bool false) := by obtain ⟨_, u, _, h⟩ := hd.out ⟨14, .guard⟩ (some 24) (by simp) rfl rfl; exact u.trans (congrArg some h)
          have u4 : act.tmps[4]? = some (.pointer (some ⟨pb, 0, none⟩)) := (hi.out 4 (by kernel_rfl)).trans rfl
          clear hd hi
          clear hvs
          refine wanted_yes rfl rfl u24 ?_
          go_simp
          exact hK.out _ _ rfl hS trivial
        refine FlowStepsX.stepY 62 26 20 rfl rfl (by kernel_rfl) (by kernel_rfl) (by kernel_rfl) rfl rfl ?_ ?_
        ·
          intro cc act vs W hcc ha hvs hS hd hi K hK
          clear ha
          have u28 : act.tmps[28]? = some (.pointer (some ⟨pb, 0, none⟩)) := by obtain ⟨_, u, _, h⟩ := hd.out ⟨18, .data⟩ (some 28) (by simp) rfl rfl; exact u.trans (congrArg some h)
          have u24 : act.tmps[24]? = some (.bool false) := by obtain ⟨_, u, _, h⟩ := hd.out ⟨14, .guard⟩ (some 24) (by simp) rfl rfl; exact u.trans (congrArg some h)
          clear hd hi
          clear hvs
          refine wanted_yes rfl rfl u24 ?_
          have e0 := (hS.cell (p := ⟨pb, 0, none⟩) hh).trans c0
          go_simp
          exact hK.out _ _ rfl hS trivial
        refine FlowStepsX.stepY 62 26 21 rfl rfl (by kernel_rfl) (by kernel_rfl) (by kernel_rfl) rfl rfl ?_ ?_
        ·
          intro cc act vs W hcc ha hvs hS hd hi K hK
          clear ha
          have u27 : act.tmps[27]? = some (.slice (some ⟨b, off, none⟩) n c) := by obtain ⟨_, u, _, h⟩ := hd.out ⟨17, .data⟩ (some 27) (by simp) rfl rfl; exact u.trans (congrArg some h)
          have u29 : act.tmps[29]? = some (.int .i64 (k : Int)) := by obtain ⟨_, u, _, h⟩ := hd.out ⟨19, .data⟩ (some 29) (by simp) rfl rfl; exact u.trans (congrArg some h)
          have u24 : act.tmps[24]? = some (.bool false) := by obtain ⟨_, u, _, h⟩ := hd.out ⟨14, .guard⟩ (some 24) (by simp) rfl rfl; exact u.trans (congrArg some h)
          clear hd hi
          clear hvs
          refine wanted_yes rfl rfl u24 ?_
          have e1 := HK.out
          go_simp
          exact hK.out _ _ rfl hS trivial
        refine FlowStepsX.stepY 62 26 22 rfl rfl (by kernel_rfl) (by kernel_rfl) (by kernel_rfl) rfl rfl ?_ ?_
        ·
          intro cc act vs W hcc ha hvs hS hd hi K hK
          clear ha
          have u30 : act.tmps[30]? = some (.pointer (some ⟨b, off + k * 7, none⟩)) := by obtain ⟨_, u, _, h⟩ := hd.out ⟨20, .data⟩ (some 30) (by simp) rfl rfl; exact u.trans (congrArg some h)
          have u24 : act.tmps[24]? = some (.bool false) := by obtain ⟨_, u, _, h⟩ := hd.out ⟨14, .guard⟩ (some 24) (by simp) rfl rfl; exact u.trans (congrArg some h)
          clear hd hi
          clear hvs
          refine wanted_yes rfl rfl u24 ?_
          go_simp
          exact hK.out _ _ rfl hS trivial
        refine FlowStepsX.stepY 62 26 23 rfl rfl (by kernel_rfl) (by kernel_rfl) (by kernel_rfl) rfl rfl ?_ ?_
        ·
          intro cc act vs W hcc ha hvs hS hd hi K hK
          clear ha
          have u31 : act.tmps[31]? = some (.pointer (some ⟨b, off + k * 7 + 4, none⟩)) := by obtain ⟨_, u, _, h⟩ := hd.out ⟨21, .data⟩ (some 31) (by simp) rfl rfl; exact u.trans (congrArg some h)
          have u24 : act.tmps[24]? = some (.bool false) := by obtain ⟨_, u, _, h⟩ := hd.out ⟨14, .guard⟩ (some 24) (by simp) rfl rfl; exact u.trans (congrArg some h)
          clear hd hi
          clear hvs
          refine wanted_yes rfl rfl u24 ?_
          have e1 := (hS.cell (p := ⟨b, off + k * 7 + 4, none⟩) hbl).trans d4
          go_simp
          exact hK.out _ _ rfl hS trivial
        refine FlowStepsX.stepY 62 26 24 rfl rfl (by kernel_rfl) (by kernel_rfl) (by kernel_rfl) rfl rfl ?_ ?_
        ·
          intro cc act vs W hcc ha hvs hS hd hi K hK
          clear ha
          have u32 : act.tmps[32]? = some (.string t.text) := by obtain ⟨_, u, _, h⟩ := hd.out ⟨22, .data⟩ (some 32) (by simp) rfl rfl; exact u.trans (congrArg some h)
          have u24 : act.tmps[24]? = some (.bool false) := by obtain ⟨_, u, _, h⟩ := hd.out ⟨14, .guard⟩ (some 24) (by simp) rfl rfl; exact u.trans (congrArg some h)
          clear hd hi
          clear hvs
          refine wanted_yes rfl rfl u24 ?_
          go_simp
          exact hK.out _ _ rfl hS trivial
        refine FlowStepsX.stepY 62 26 25 rfl rfl (by kernel_rfl) (by kernel_rfl) (by kernel_rfl) rfl rfl ?_ ?_
        ·
          intro cc act vs W hcc ha hvs hS hd hi K hK
          clear ha
          have u26 : act.tmps[26]? = some (.int .i64 (m : Int)) := by obtain ⟨_, u, _, h⟩ := hd.out ⟨16, .data⟩ (some 26) (by simp) rfl rfl; exact u.trans (congrArg some h)
          have u33 : act.tmps[33]? = some (.int .i64 t.text.size) := by obtain ⟨_, u, _, h⟩ := hd.out ⟨23, .data⟩ (some 33) (by simp) rfl rfl; exact u.trans (congrArg some h)
          have u24 : act.tmps[24]? = some (.bool false) := by obtain ⟨_, u, _, h⟩ := hd.out ⟨14, .guard⟩ (some 24) (by simp) rfl rfl; exact u.trans (congrArg some h)
          clear hd hi
          clear hvs
          refine wanted_yes rfl rfl u24 ?_
          have e1 := HA.out
          go_simp
          exact hK.out _ _ rfl hS trivial
        refine FlowStepsX.stepY 62 26 26 rfl rfl (by kernel_rfl) (by kernel_rfl) (by kernel_rfl) rfl rfl ?_ ?_
        ·
          intro cc act vs W hcc ha hvs hS hd hi K hK
          clear ha
          have u24 : act.tmps[24]? = some (.bool false) := by obtain ⟨_, u, _, h⟩ := hd.out ⟨14, .data⟩ (some 24) (by simp) rfl rfl; exact u.trans (congrArg some h)
          have u34 : act.tmps[34]? = some (.bool false) := by obtain ⟨_, u, _, h⟩ := hd.out ⟨24, .data⟩ (some 34) (by simp) rfl rfl; exact u.trans (congrArg some h)
          clear hd hi
          clear hvs
          refine wanted_un rfl ?_
          go_simp
          exact hK.out _ _ rfl hS trivial
        exact FlowStepsX.nil
      · intro cc ρ W hc hS hd
        simp only [putFrom, Act.put, List.setIfInBounds_toArray, List.set_cons_zero, List.set_cons_succ, Nat.reduceAdd]
        have d25 : ρ 25 = .bool false := hd.out 25 (by decide) (by kernel_rfl)
        generalize ρ 25 = x25 at d25 ⊢
        subst d25
        clear hd
        have BF := hide (below_via BW hS BW.size)
        have hszW := hS.size
        have hhw := Nat.lt_of_lt_of_le hh hS.size
        have hgw := Nat.lt_of_lt_of_le hg hS.size
        have e0 := (hS.cell (p := ⟨pb, 0, none⟩) hh).trans c0
        have e1 := (hS.cell (p := ⟨pb, 1, none⟩) hh).trans c1
        have e2 := (hS.cell (p := ⟨pb, 2, none⟩) hh).trans c2
        have g0 := (hS.cell (p := ⟨pb + 1, 0, none⟩) hg).trans z0
        have g1 := (hS.cell (p := ⟨pb + 1, 1, none⟩) hg).trans z1
        have g2 := (hS.cell (p := ⟨pb + 1, 2, none⟩) hg).trans z2
        have y0 := (hS.frozen (p := ⟨pb + 1, 0, none⟩) hg).trans v0
        have y1 := (hS.frozen (p := ⟨pb + 1, 1, none⟩) hg).trans v1
        have y3 := (hS.frozen (p := ⟨pb, 1, none⟩) hh).trans v3
        have y2 := (hS.frozen (p := ⟨pb + 1, 2, none⟩) hg).trans v2
        clear hS c0 c1 c2 z0 z1 z2 v0 v1 v2 v3
        obtain ⟨S, K, ⟨_, _, _, _, x4, _⟩, _, _⟩ := (HR.out.below BF.out).2 k t HT.out
        have hbw := (HR.out.below BF.out).1
        have hkn := HK.out
        clear d4 hbl
        go_wp2_with fail
        go_region
        by_cases hpm : p < t.text.size - m
        ·
          have hpm' : (p : Int) < ((t.text.size - m : Nat) : Int) := by omega
          have HX := hide (rdC_lt (t := t.text) hpm hmt)
          have HT1 := hide (show rdT l n (k : Int) (m : Int) r (p : Int) = (t.text.extract m t.text.size).extract 0 p by rw [rdT, HN.out, HTX.out]; exact HX.out.1)
          have HT2 := hide (show rdA l n (k : Int) (m : Int) r (p : Int) = (m : Int) + ((min p (t.text.size - m) : Nat) : Int) by rw [rdA, HN.out, HTX.out, HX.out.2]; rfl)
          go_wp2_with fail
          go_region
          go_wp2_with fail
          exact bodyPost_ret (v := .tuple #[.string ((t.text.extract m t.text.size).extract 0 p), .agg #[.int .i64 (k : Int), .int .i64 ((m : Int) + ((min p (t.text.size - m) : Nat) : Int)), .int .i64 r]]) (by simp [results, Try.results13, go_sem, g0, g1, g2, e0, e1, e2, hgw]) rfl ⟨by rw [HT1.out, HT2.out], (below_alloc0 (((BF.out.setCell (p := ⟨pb + 1, 0, none⟩) (by show w.heap.size ≤ pb + 1; have := HHH.out; omega) _).setCell (p := ⟨pb + 1, 1, none⟩) (by show w.heap.size ≤ pb + 1; have := HHH.out; omega) _).setCell (p := ⟨pb + 1, 2, none⟩) (by show w.heap.size ≤ pb + 1; have := HHH.out; omega) _) _).drew.drew⟩
        ·
          have hpm' : ¬ (p : Int) < ((t.text.size - m : Nat) : Int) := by omega
          have HX := hide (rdC_ge (t := t.text) hpm hmt)
          have HT1 := hide (show rdT l n (k : Int) (m : Int) r (p : Int) = t.text.extract m t.text.size by rw [rdT, HN.out, HTX.out]; exact HX.out.1)
          have HT2 := hide (show rdA l n (k : Int) (m : Int) r (p : Int) = (m : Int) + ((t.text.size - m : Nat) : Int) by rw [rdA, HN.out, HTX.out, HX.out.2]; rfl)
          go_wp2_with fail
          go_region
          go_wp2_with fail
          exact bodyPost_ret (v := .tuple #[.string (t.text.extract m t.text.size), .agg #[.int .i64 (k : Int), .int .i64 ((m : Int) + ((t.text.size - m : Nat) : Int)), .int .i64 r]]) (by simp [results, Try.results13, go_sem, g0, g1, g2, e0, e1, e2, hgw]) rfl ⟨by rw [HT1.out, HT2.out], (below_alloc0 (((BF.out.setCell (p := ⟨pb + 1, 0, none⟩) (by show w.heap.size ≤ pb + 1; have := HHH.out; omega) _).setCell (p := ⟨pb + 1, 1, none⟩) (by show w.heap.size ≤ pb + 1; have := HHH.out; omega) _).setCell (p := ⟨pb + 1, 2, none⟩) (by show w.heap.size ≤ pb + 1; have := HHH.out; omega) _) _).drew.drew⟩
    · have HA := hide (show (t.text.size : Int) < a by omega)
      have HN := hide (show rdOk l n (k : Int) a r q = false by rw [HOK.out, decide_eq_false hsz])
      have HR1 := hide (show rdT l n (k : Int) a r q = ⟨#[]⟩ by rw [rdT, HN.out]; rfl)
      have HR2 := hide (show rdA l n (k : Int) a r q = a by rw [rdA, HN.out]; rfl)
      clear HN
      refine wp_flowX (os := [_, _, _, _, _, _, _, _, _, _, _, _, _, _, _, _, _, _, _, _, _, _, _, _, _, _]) (fun c W => Below W0.heap.size W0 W) (fun _ _ _ => True) (fun i v _ _ => v = rdVd b off n c k a r q pb t i) 26 rfl ?_ ?_ ?_ ?_ ?_ ?_ ?_
      · kernel_rfl
      · kernel_rfl
      · kernel_rfl
      · exact (fun i j v vs w1 w2 _ _ h _ => h)
      · exact ((Below.refl _ _).drew)
      ·
        refine FlowStepsX.stepY 62 26 1 rfl rfl (by kernel_rfl) (by kernel_rfl) (by kernel_rfl) rfl rfl ?_ ?_
        ·
          intro cc act vs W hcc ha hvs hS hd hi K hK
          clear ha
          have u0 : act.tmps[0]? = some (.slice (some ⟨b, off, none⟩) n c) := (hi.out 0 (by kernel_rfl)).trans rfl
          clear hd hi
          clear hvs
          refine wanted_un rfl ?_
          go_simp
          exact hK.out _ _ rfl hS trivial
        refine FlowStepsX.stepY 62 26 2 rfl rfl (by kernel_rfl) (by kernel_rfl) (by kernel_rfl) rfl rfl ?_ ?_
        ·
          intro cc act vs W hcc ha hvs hS hd hi K hK
          clear ha
          have u4 : act.tmps[4]? = some (.pointer (some ⟨pb, 0, none⟩)) := (hi.out 4 (by kernel_rfl)).trans rfl
          clear hd hi
          clear hvs
          refine wanted_un rfl ?_
          have e0 := (hS.cell (p := ⟨pb, 0, none⟩) hh).trans c0
          have e1 := (hS.cell (p := ⟨pb, 1, none⟩) hh).trans c1
          have e2 := (hS.cell (p := ⟨pb, 2, none⟩) hh).trans c2
          go_simp
          exact hK.out _ _ rfl hS trivial
        refine FlowStepsX.stepY 62 26 3 rfl rfl (by kernel_rfl) (by kernel_rfl) (by kernel_rfl) rfl rfl ?_ ?_
        ·
          intro cc act vs W hcc ha hvs hS hd hi K hK
          clear ha
          have u10 : act.tmps[10]? = some (.slice (some ⟨b, off, none⟩) n c) := by obtain ⟨_, u, _, h⟩ := hd.out ⟨0, .data⟩ (some 10) (by simp) rfl rfl; exact u.trans (congrArg some h)
          have u11 : act.tmps[11]? = some (.agg #[.int .i64 (k : Int), .int .i64 a, .int .i64 r]) := by obtain ⟨_, u, _, h⟩ := hd.out ⟨1, .data⟩ (some 11) (by simp) rfl rfl; exact u.trans (congrArg some h)
          clear hd hi
          clear hvs
          refine wanted_un rfl ?_
          go_wp2_with (go_at_call 37; refine (hanSpec_c _ n c l _ _ r _ (HI.out.below (BW.trans (hS.mono BW.size))) hn HZS.out HZZ.out).mono ?_; rintro e w6 ⟨rfl, hb6⟩)
          try rw [hv]
          exact hK.out _ w6 rfl (hS.trans (hb6.mono hS.size)) trivial
        refine FlowStepsX.stepY 62 26 4 rfl rfl (by kernel_rfl) (by kernel_rfl) (by kernel_rfl) rfl rfl ?_ ?_
        ·
          intro cc act vs W hcc ha hvs hS hd hi K hK
          clear ha
          have u12 : act.tmps[12]? = some (.bool true) := by obtain ⟨_, u, _, h⟩ := hd.out ⟨2, .data⟩ (some 12) (by simp) rfl rfl; exact u.trans (congrArg some h)
          clear hd hi
          clear hvs
          refine wanted_un rfl ?_
          go_simp
          exact hK.out _ _ rfl hS trivial
        refine FlowStepsX.stepY 62 26 5 rfl rfl (by kernel_rfl) (by kernel_rfl) (by kernel_rfl) rfl rfl ?_ ?_
        ·
          intro cc act vs W hcc ha hvs hS hd hi K hK
          clear ha
          have u13 : act.tmps[13]? = some (.bool false) := by obtain ⟨_, u, _, h⟩ := hd.out ⟨3, .data⟩ (some 13) (by simp) rfl rfl; exact u.trans (congrArg some h)
          clear hd hi
          clear hvs
          refine wanted_un rfl ?_
          go_simp
          exact hK.out _ _ rfl hS trivial
        refine FlowStepsX.stepY 62 26 6 rfl rfl (by kernel_rfl) (by kernel_rfl) (by kernel_rfl) rfl rfl ?_ ?_
        ·
          intro cc act vs W hcc ha hvs hS hd hi K hK
          clear ha
          have u14 : act.tmps[14]? = some (.bool false) := by obtain ⟨_, u, _, h⟩ := hd.out ⟨4, .guard⟩ (some 14) (by simp) rfl rfl; exact u.trans (congrArg some h)
          have u2 : act.tmps[2]? = some (.int .i64 q) := (hi.out 2 (by kernel_rfl)).trans rfl
          clear hd hi
          clear hvs
          refine wanted_yes rfl rfl u14 ?_
          go_simp
          exact hK.out _ _ rfl hS trivial
        refine FlowStepsX.stepY 62 26 7 rfl rfl (by kernel_rfl) (by kernel_rfl) (by kernel_rfl) rfl rfl ?_ ?_
        ·
          intro cc act vs W hcc ha hvs hS hd hi K hK
          clear ha
          have u15 : act.tmps[15]? = some (.int .i64 q) := by obtain ⟨_, u, _, h⟩ := hd.out ⟨5, .data⟩ (some 15) (by simp) rfl rfl; exact u.trans (congrArg some h)
          have u14 : act.tmps[14]? = some (.bool false) := by obtain ⟨_, u, _, h⟩ := hd.out ⟨4, .guard⟩ (some 14) (by simp) rfl rfl; exact u.trans (congrArg some h)
          clear hd hi
          clear hvs
          refine wanted_yes rfl rfl u14 ?_
          have e1 := HQ.out
          go_simp
          exact hK.out _ _ rfl hS trivial
        refine FlowStepsX.stepY 62 26 8 rfl rfl (by kernel_rfl) (by kernel_rfl) (by kernel_rfl) rfl rfl ?_ ?_
        ·
          intro cc act vs W hcc ha hvs hS hd hi K hK
          clear ha
          have u14 : act.tmps[14]? = some (.bool false) := by obtain ⟨_, u, _, h⟩ := hd.out ⟨4, .data⟩ (some 14) (by simp) rfl rfl; exact u.trans (congrArg some h)
          have u16 : act.tmps[16]? = some (.bool false) := by obtain ⟨_, u, _, h⟩ := hd.out ⟨6, .data⟩ (some 16) (by simp) rfl rfl; exact u.trans (congrArg some h)
          clear hd hi
          clear hvs
          refine wanted_un rfl ?_
          go_simp
          exact hK.out _ _ rfl hS trivial
        refine FlowStepsX.stepY 62 26 9 rfl rfl (by kernel_rfl) (by kernel_rfl) (by kernel_rfl) rfl rfl ?_ ?_
        ·
          intro cc act vs W hcc ha hvs hS hd hi K hK
          clear ha
          have u17 : act.tmps[17]? = some (.bool false) := by obtain ⟨_, u, _, h⟩ := hd.out ⟨7, .data⟩ (some 17) (by simp) rfl rfl; exact u.trans (congrArg some h)
          clear hd hi
          clear hvs
          refine wanted_un rfl ?_
          go_simp
          exact hK.out _ _ rfl hS trivial
        refine FlowStepsX.stepY 62 26 10 rfl rfl (by kernel_rfl) (by kernel_rfl) (by kernel_rfl) rfl rfl ?_ ?_
        ·
          intro cc act vs W hcc ha hvs hS hd hi K hK
          clear ha
          have u18 : act.tmps[18]? = some (.bool false) := by obtain ⟨_, u, _, h⟩ := hd.out ⟨8, .guard⟩ (some 18) (by simp) rfl rfl; exact u.trans (congrArg some h)
          have u4 : act.tmps[4]? = some (.pointer (some ⟨pb, 0, none⟩)) := (hi.out 4 (by kernel_rfl)).trans rfl
          clear hd hi
          clear hvs
          refine wanted_yes rfl rfl u18 ?_
          go_simp
          exact hK.out _ _ rfl hS trivial
        refine FlowStepsX.stepY 62 26 11 rfl rfl (by kernel_rfl) (by kernel_rfl) (by kernel_rfl) rfl rfl ?_ ?_
        ·
          intro cc act vs W hcc ha hvs hS hd hi K hK
          clear ha
          have u19 : act.tmps[19]? = some (.pointer (some ⟨pb, 2, none⟩)) := by obtain ⟨_, u, _, h⟩ := hd.out ⟨9, .data⟩ (some 19) (by simp) rfl rfl; exact u.trans (congrArg some h)
          have u18 : act.tmps[18]? = some (.bool false) := by obtain ⟨_, u, _, h⟩ := hd.out ⟨8, .guard⟩ (some 18) (by simp) rfl rfl; exact u.trans (congrArg some h)
          clear hd hi
          clear hvs
          refine wanted_yes rfl rfl u18 ?_
          have e2 := (hS.cell (p := ⟨pb, 2, none⟩) hh).trans c2
          go_simp
          exact hK.out _ _ rfl hS trivial
        refine FlowStepsX.stepY 62 26 12 rfl rfl (by kernel_rfl) (by kernel_rfl) (by kernel_rfl) rfl rfl ?_ ?_
        ·
          intro cc act vs W hcc ha hvs hS hd hi K hK
          clear ha
          have u20 : act.tmps[20]? = some (.int .i64 r) := by obtain ⟨_, u, _, h⟩ := hd.out ⟨10, .data⟩ (some 20) (by simp) rfl rfl; exact u.trans (congrArg some h)
          have u18 : act.tmps[18]? = some (.bool false) := by obtain ⟨_, u, _, h⟩ := hd.out ⟨8, .guard⟩ (some 18) (by simp) rfl rfl; exact u.trans (congrArg some h)
          clear hd hi
          clear hvs
          refine wanted_yes rfl rfl u18 ?_
          go_simp
          exact hK.out _ _ rfl hS trivial
        refine FlowStepsX.stepY 62 26 13 rfl rfl (by kernel_rfl) (by kernel_rfl) (by kernel_rfl) rfl rfl ?_ ?_
        ·
          intro cc act vs W hcc ha hvs hS hd hi K hK
          clear ha
          have u21 : act.tmps[21]? = some (.int .i64 (bits .and .i64 r 4)) := by obtain ⟨_, u, _, h⟩ := hd.out ⟨11, .data⟩ (some 21) (by simp) rfl rfl; exact u.trans (congrArg some h)
          have u18 : act.tmps[18]? = some (.bool false) := by obtain ⟨_, u, _, h⟩ := hd.out ⟨8, .guard⟩ (some 18) (by simp) rfl rfl; exact u.trans (congrArg some h)
          clear hd hi
          clear hvs
          refine wanted_yes rfl rfl u18 ?_
          have e1 := HB.out
          go_simp
          exact hK.out _ _ rfl hS trivial
        refine FlowStepsX.stepY 62 26 14 rfl rfl (by kernel_rfl) (by kernel_rfl) (by kernel_rfl) rfl rfl ?_ ?_
        ·
          intro cc act vs W hcc ha hvs hS hd hi K hK
          clear ha
          have u18 : act.tmps[18]? = some (.bool false) := by obtain ⟨_, u, _, h⟩ := hd.out ⟨8, .data⟩ (some 18) (by simp) rfl rfl; exact u.trans (congrArg some h)
          have u22 : act.tmps[22]? = some (.bool false) := by obtain ⟨_, u, _, h⟩ := hd.out ⟨12, .data⟩ (some 22) (by simp) rfl rfl; exact u.trans (congrArg some h)
          clear hd hi
          clear hvs
          refine wanted_un rfl ?_
          go_simp
          exact hK.out _ _ rfl hS trivial
        refine FlowStepsX.stepY 62 26 15 rfl rfl (by kernel_rfl) (by kernel_rfl) (by kernel_rfl) rfl rfl ?_ ?_
        ·
          intro cc act vs W hcc ha hvs hS hd hi K hK
          clear ha
          have u23 : act.tmps[23]? = some (.bool false) := by obtain ⟨_, u, _, h⟩ := hd.out ⟨13, .data⟩ (some 23) (by simp) rfl rfl; exact u.trans (congrArg some h)
          clear hd hi
          clear hvs
          refine wanted_un rfl ?_
          go_simp
          exact hK.out _ _ rfl hS trivial
        refine FlowStepsX.stepY 62 26 16 rfl rfl (by kernel_rfl) (by kernel_rfl) (by kernel_rfl) rfl rfl ?_ ?_
        ·
          intro cc act vs W hcc ha hvs hS hd hi K hK
          clear ha
          have u24 : act.tmps[24]? = some (.bool false) := by obtain ⟨_, u, _, h⟩ := hd.out ⟨14, .guard⟩ (some 24) (by simp) rfl rfl; exact u.trans (congrArg some h)
          have u4 : act.tmps[4]? = some (.pointer (some ⟨pb, 0, none⟩)) := (hi.out 4 (by kernel_rfl)).trans rfl
          clear hd hi
          clear hvs
          refine wanted_yes rfl rfl u24 ?_
          go_simp
          exact hK.out _ _ rfl hS trivial
        refine FlowStepsX.stepY 62 26 17 rfl rfl (by kernel_rfl) (by kernel_rfl) (by kernel_rfl) rfl rfl ?_ ?_
        ·
          intro cc act vs W hcc ha hvs hS hd hi K hK
          clear ha
          have u25 : act.tmps[25]? = some (.pointer (some ⟨pb, 1, none⟩)) := by obtain ⟨_, u, _, h⟩ := hd.out ⟨15, .data⟩ (some 25) (by simp) rfl rfl; exact u.trans (congrArg some h)
          have u24 : act.tmps[24]? = some (.bool false) := by obtain ⟨_, u, _, h⟩ := hd.out ⟨14, .guard⟩ (some 24) (by simp) rfl rfl; exact u.trans (congrArg some h)
          clear hd hi
          clear hvs
          refine wanted_yes rfl rfl u24 ?_
          have e1 := (hS.cell (p := ⟨pb, 1, none⟩) hh).trans c1
          go_simp
          exact hK.out _ _ rfl hS trivial
        refine FlowStepsX.stepY 62 26 18 rfl rfl (by kernel_rfl) (by kernel_rfl) (by kernel_rfl) rfl rfl ?_ ?_
        ·
          intro cc act vs W hcc ha hvs hS hd hi K hK
          clear ha
          have u24 : act.tmps[24]? = some (.bool false) := by obtain ⟨_, u, _, h⟩ := hd.out ⟨14, .guard⟩ (some 24) (by simp) rfl rfl; exact u.trans (congrArg some h)
          have u0 : act.tmps[0]? = some (.slice (some ⟨b, off, none⟩) n c) := (hi.out 0 (by kernel_rfl)).trans rfl
          clear hd hi
          clear hvs
          refine wanted_yes rfl rfl u24 ?_
          go_simp
          exact hK.out _ _ rfl hS trivial
        refine FlowStepsX.stepY 62 26 19 rfl rfl (by kernel_rfl) (by kernel_rfl) (by kernel_rfl) rfl rfl ?_ ?_
        ·
          intro cc act vs W hcc ha hvs hS hd hi K hK
          clear ha
          have u24 : act.tmps[24]? = some (.bool false) := by obtain ⟨_, u, _, h⟩ := hd.out ⟨14, .guard⟩ (some 24) (by simp) rfl rfl; exact u.trans (congrArg some h)
          have u4 : act.tmps[4]? = some (.pointer (some ⟨pb, 0, none⟩)) := (hi.out 4 (by kernel_rfl)).trans rfl
          clear hd hi
          clear hvs
          refine wanted_yes rfl rfl u24 ?_
          go_simp
          exact hK.out _ _ rfl hS trivial
        refine FlowStepsX.stepY 62 26 20 rfl rfl (by kernel_rfl) (by kernel_rfl) (by kernel_rfl) rfl rfl ?_ ?_
        ·
          intro cc act vs W hcc ha hvs hS hd hi K hK
          clear ha
          have u28 : act.tmps[28]? = some (.pointer (some ⟨pb, 0, none⟩)) := by obtain ⟨_, u, _, h⟩ := hd.out ⟨18, .data⟩ (some 28) (by simp) rfl rfl; exact u.trans (congrArg some h)
          have u24 : act.tmps[24]? = some (.bool false) := by obtain ⟨_, u, _, h⟩ := hd.out ⟨14, .guard⟩ (some 24) (by simp) rfl rfl; exact u.trans (congrArg some h)
          clear hd hi
          clear hvs
          refine wanted_yes rfl rfl u24 ?_
          have e0 := (hS.cell (p := ⟨pb, 0, none⟩) hh).trans c0
          go_simp
          exact hK.out _ _ rfl hS trivial
        refine FlowStepsX.stepY 62 26 21 rfl rfl (by kernel_rfl) (by kernel_rfl) (by kernel_rfl) rfl rfl ?_ ?_
        ·
          intro cc act vs W hcc ha hvs hS hd hi K hK
          clear ha
          have u27 : act.tmps[27]? = some (.slice (some ⟨b, off, none⟩) n c) := by obtain ⟨_, u, _, h⟩ := hd.out ⟨17, .data⟩ (some 27) (by simp) rfl rfl; exact u.trans (congrArg some h)
          have u29 : act.tmps[29]? = some (.int .i64 (k : Int)) := by obtain ⟨_, u, _, h⟩ := hd.out ⟨19, .data⟩ (some 29) (by simp) rfl rfl; exact u.trans (congrArg some h)
          have u24 : act.tmps[24]? = some (.bool false) := by obtain ⟨_, u, _, h⟩ := hd.out ⟨14, .guard⟩ (some 24) (by simp) rfl rfl; exact u.trans (congrArg some h)
          clear hd hi
          clear hvs
          refine wanted_yes rfl rfl u24 ?_
          have e1 := HK.out
          go_simp
          exact hK.out _ _ rfl hS trivial
        refine FlowStepsX.stepY 62 26 22 rfl rfl (by kernel_rfl) (by kernel_rfl) (by kernel_rfl) rfl rfl ?_ ?_
        ·
          intro cc act vs W hcc ha hvs hS hd hi K hK
          clear ha
          have u30 : act.tmps[30]? = some (.pointer (some ⟨b, off + k * 7, none⟩)) := by obtain ⟨_, u, _, h⟩ := hd.out ⟨20, .data⟩ (some 30) (by simp) rfl rfl; exact u.trans (congrArg some h)
          have u24 : act.tmps[24]? = some (.bool false) := by obtain ⟨_, u, _, h⟩ := hd.out ⟨14, .guard⟩ (some 24) (by simp) rfl rfl; exact u.trans (congrArg some h)
          clear hd hi
          clear hvs
          refine wanted_yes rfl rfl u24 ?_
          go_simp
          exact hK.out _ _ rfl hS trivial
        refine FlowStepsX.stepY 62 26 23 rfl rfl (by kernel_rfl) (by kernel_rfl) (by kernel_rfl) rfl rfl ?_ ?_
        ·
          intro cc act vs W hcc ha hvs hS hd hi K hK
          clear ha
          have u31 : act.tmps[31]? = some (.pointer (some ⟨b, off + k * 7 + 4, none⟩)) := by obtain ⟨_, u, _, h⟩ := hd.out ⟨21, .data⟩ (some 31) (by simp) rfl rfl; exact u.trans (congrArg some h)
          have u24 : act.tmps[24]? = some (.bool false) := by obtain ⟨_, u, _, h⟩ := hd.out ⟨14, .guard⟩ (some 24) (by simp) rfl rfl; exact u.trans (congrArg some h)
          clear hd hi
          clear hvs
          refine wanted_yes rfl rfl u24 ?_
          have e1 := (hS.cell (p := ⟨b, off + k * 7 + 4, none⟩) hbl).trans d4
          go_simp
          exact hK.out _ _ rfl hS trivial
        refine FlowStepsX.stepY 62 26 24 rfl rfl (by kernel_rfl) (by kernel_rfl) (by kernel_rfl) rfl rfl ?_ ?_
        ·
          intro cc act vs W hcc ha hvs hS hd hi K hK
          clear ha
          have u32 : act.tmps[32]? = some (.string t.text) := by obtain ⟨_, u, _, h⟩ := hd.out ⟨22, .data⟩ (some 32) (by simp) rfl rfl; exact u.trans (congrArg some h)
          have u24 : act.tmps[24]? = some (.bool false) := by obtain ⟨_, u, _, h⟩ := hd.out ⟨14, .guard⟩ (some 24) (by simp) rfl rfl; exact u.trans (congrArg some h)
          clear hd hi
          clear hvs
          refine wanted_yes rfl rfl u24 ?_
          go_simp
          exact hK.out _ _ rfl hS trivial
        refine FlowStepsX.stepY 62 26 25 rfl rfl (by kernel_rfl) (by kernel_rfl) (by kernel_rfl) rfl rfl ?_ ?_
        ·
          intro cc act vs W hcc ha hvs hS hd hi K hK
          clear ha
          have u26 : act.tmps[26]? = some (.int .i64 a) := by obtain ⟨_, u, _, h⟩ := hd.out ⟨16, .data⟩ (some 26) (by simp) rfl rfl; exact u.trans (congrArg some h)
          have u33 : act.tmps[33]? = some (.int .i64 t.text.size) := by obtain ⟨_, u, _, h⟩ := hd.out ⟨23, .data⟩ (some 33) (by simp) rfl rfl; exact u.trans (congrArg some h)
          have u24 : act.tmps[24]? = some (.bool false) := by obtain ⟨_, u, _, h⟩ := hd.out ⟨14, .guard⟩ (some 24) (by simp) rfl rfl; exact u.trans (congrArg some h)
          clear hd hi
          clear hvs
          refine wanted_yes rfl rfl u24 ?_
          have e1 := HA.out
          go_simp
          exact hK.out _ _ rfl hS trivial
        refine FlowStepsX.stepY 62 26 26 rfl rfl (by kernel_rfl) (by kernel_rfl) (by kernel_rfl) rfl rfl ?_ ?_
        ·
          intro cc act vs W hcc ha hvs hS hd hi K hK
          clear ha
          have u24 : act.tmps[24]? = some (.bool false) := by obtain ⟨_, u, _, h⟩ := hd.out ⟨14, .data⟩ (some 24) (by simp) rfl rfl; exact u.trans (congrArg some h)
          have u34 : act.tmps[34]? = some (.bool true) := by obtain ⟨_, u, _, h⟩ := hd.out ⟨24, .data⟩ (some 34) (by simp) rfl rfl; exact u.trans (congrArg some h)
          clear hd hi
          clear hvs
          refine wanted_un rfl ?_
          go_simp
          exact hK.out _ _ rfl hS trivial
        exact FlowStepsX.nil
      · intro cc ρ W hc hS hd
        simp only [putFrom, Act.put, List.setIfInBounds_toArray, List.set_cons_zero, List.set_cons_succ, Nat.reduceAdd]
        have d25 : ρ 25 = .bool true := hd.out 25 (by decide) (by kernel_rfl)
        generalize ρ 25 = x25 at d25 ⊢
        subst d25
        clear hd
        have BF := hide (below_via BW hS BW.size)
        have hszW := hS.size
        have hhw := Nat.lt_of_lt_of_le hh hS.size
        have hgw := Nat.lt_of_lt_of_le hg hS.size
        have e0 := (hS.cell (p := ⟨pb, 0, none⟩) hh).trans c0
        have e1 := (hS.cell (p := ⟨pb, 1, none⟩) hh).trans c1
        have e2 := (hS.cell (p := ⟨pb, 2, none⟩) hh).trans c2
        have g0 := (hS.cell (p := ⟨pb + 1, 0, none⟩) hg).trans z0
        have g1 := (hS.cell (p := ⟨pb + 1, 1, none⟩) hg).trans z1
        have g2 := (hS.cell (p := ⟨pb + 1, 2, none⟩) hg).trans z2
        have y0 := (hS.frozen (p := ⟨pb + 1, 0, none⟩) hg).trans v0
        have y1 := (hS.frozen (p := ⟨pb + 1, 1, none⟩) hg).trans v1
        have y3 := (hS.frozen (p := ⟨pb, 1, none⟩) hh).trans v3
        have y2 := (hS.frozen (p := ⟨pb + 1, 2, none⟩) hg).trans v2
        clear hS c0 c1 c2 z0 z1 z2 v0 v1 v2 v3
        go_wp2_with fail
        go_region
        go_wp2_with fail
        exact bodyPost_ret (v := .tuple #[.string ⟨#[]⟩, .agg #[.int .i64 (k : Int), .int .i64 a, .int .i64 r]]) (by simp [results, Try.results13, go_sem, g0, g1, g2, e0, e1, e2]) rfl ⟨by rw [HR1.out, HR2.out], (((BF.out.setCell (p := ⟨pb + 1, 0, none⟩) (by show w.heap.size ≤ pb + 1; have := HHH.out; omega) _).setCell (p := ⟨pb + 1, 1, none⟩) (by show w.heap.size ≤ pb + 1; have := HHH.out; omega) _).setCell (p := ⟨pb + 1, 2, none⟩) (by show w.heap.size ≤ pb + 1; have := HHH.out; omega) _).drew⟩
end Go.Proofs.Ytncjghmjlcohjaa
