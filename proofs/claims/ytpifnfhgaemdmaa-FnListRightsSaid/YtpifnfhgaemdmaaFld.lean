/-
  What is drawn for ListRights. No condition.
-/
import Derived.Test.YtpifnfhgaemdmaaProg
import Derived.Test.YtpifnfhgaemdmaaFlv
import Derived.Test.YtpifnfhgaemdmaaFlowT
namespace Go.Proofs.Ytpifnfhgaemdmaa
open Go.RowKit
set_option linter.unusedSimpArgs false
set_option linter.unusedVariables false

def GotLC (w : World) (e : Ending) (w' : World) : Prop :=
  ∃ (A : Option Addr) (n c : Nat) (l : List Grant) (m k2 cr ca cs cg u p : Int), e = .returned (.tuple #[.agg #[.int .i64 m, .slice A n c, .int .i64 k2], .agg #[.int .i64 cr, .int .i64 ca, .int .i64 cs, .int .i64 cg], .int .i64 u, .int .i64 p]) ∧ l.length = n ∧ n ≤ 7 ∧ OwnSG w' w.heap.size n c A l ∧ Below w.heap.size w w'
theorem grp9 (z : Nat) (h : z < 9) : ∃ q : Nat, q < 4 ∧ ([.int .i64 0, .int .i64 0, .int .i64 0, .int .i64 0, .int .i64 0, .int .i64 0, .int .i64 1, .int .i64 2, .int .i64 3] : List Value)[z]? = some (.int .i64 q) := by
  obtain rfl | rfl | rfl | rfl | rfl | rfl | rfl | rfl | rfl : z = 0 ∨ z = 1 ∨ z = 2 ∨ z = 3 ∨ z = 4 ∨ z = 5 ∨ z = 6 ∨ z = 7 ∨ z = 8 := by omega
  all_goals first | exact ⟨0, by omega, rfl⟩ | exact ⟨1, by omega, rfl⟩ | exact ⟨2, by omega, rfl⟩ | exact ⟨3, by omega, rfl⟩
set_option maxHeartbeats 1000000 in
theorem drawGroup_s (w0 : World) (B r k : Nat) (w : World) (hk : k ≤ 100000) (h : St w0 B r k w) :
    Calls Try.prog 61 #[.pointer (some ⟨r, 0, none⟩)] w fun e w' => ∃ x : Int, e = .returned (.int .i64 x) ∧ St w0 B r (k + 2) w' ∧ Aside r w w' := by
  obtain ⟨z1, z2, z3⟩ := h.size
  go_enter Try.func61, Try.ntmps61
  go_wp2_with fail
  refine (pick_s w0 B r k 3 _ (by omega) (by omega) (by omega) h).mono ?_
  rintro e w1 ⟨x, rfl, x0, x1, hs1, ha1⟩
  have y1 := hs1.size.2.2
  have y2 := ha1.1.size
  go_wp2_with fail
  have b2 : Below w1.heap.size w1 ((w1.alloc (.cells #[.int .i64 x, .int .i64 7, .int .i64 8, .int .i64 (-1)] 3)).alloc (.cells #[.int .i64 0, .int .i64 0, .int .i64 0, .int .i64 0, .int .i64 0, .int .i64 0, .int .i64 1, .int .i64 2, .int .i64 3] 3)) := below_alloc0 (below_alloc0 (Below.refl _ _) _) _
  refine (pick_s w0 B r (k + 1) 9 _ (by omega) (by omega) (by omega) ((hs1.alloc _).alloc _)).mono ?_
  rintro e w2 ⟨z, rfl, zz0, zz1, hs2, ha2⟩
  obtain ⟨z, rfl⟩ := Int.eq_ofNat_of_zero_le zz0
  obtain ⟨q, hq, hzq⟩ := grp9 z (by omega)
  have r5 := ha2.row (by omega) ((Row.madeL w1 3 [.int .i64 x, .int .i64 7, .int .i64 8, .int .i64 (-1)]).alloc (.cells #[.int .i64 0, .int .i64 0, .int .i64 0, .int .i64 0, .int .i64 0, .int .i64 0, .int .i64 1, .int .i64 2, .int .i64 3] 3))
  have r6 := ha2.row (b := (w1.alloc (.cells #[.int .i64 x, .int .i64 7, .int .i64 8, .int .i64 (-1)] 3)).heap.size) (by simp; omega) (Row.madeL (w1.alloc (.cells #[.int .i64 x, .int .i64 7, .int .i64 8, .int .i64 (-1)] 3)) 3 [.int .i64 0, .int .i64 0, .int .i64 0, .int .i64 0, .int .i64 0, .int .i64 0, .int .i64 1, .int .i64 2, .int .i64 3])
  have c6 := r6.cell hzq
  obtain ⟨y, c5⟩ : ∃ y : Int, w2.cell? ⟨w1.heap.size, q, none⟩ = some (.int .i64 y) := by
    obtain rfl | rfl | rfl | rfl : q = 0 ∨ q = 1 ∨ q = 2 ∨ q = 3 := by omega
    · exact ⟨_, r5.cell rfl⟩
    · exact ⟨_, r5.cell rfl⟩
    · exact ⟨_, r5.cell rfl⟩
    · exact ⟨_, r5.cell rfl⟩
  have l5 := r5.lt
  have l6 := r6.lt
  simp only [World.size_alloc] at c6 l6
  have HA := hide ((ha1.then_below b2).trans ha2)
  have HS := hide hs2
  have z9 : (z : Int) < 9 := by omega
  have q4 : (q : Int) < 4 := by omega
  clear r5 r6 ha1 ha2 hs1 hs2 b2
  go_wp2_with fail
  go_ret
  exact ⟨y, rfl, HS.out, HA.out⟩
/-- What is known of each operation of the last drawing statement. -/
def fcF (z r nl cl : Nat) (A : Option Addr) (m k2 cr ca cs cg u : Int) (i : Nat) (v : Value) (vs : List Value) (W : World) : Prop :=
  match i with
  | 0 => v = .agg #[.int .i64 m, .slice A nl cl, .int .i64 k2]
  | 1 => v = .agg #[.int .i64 cr, .int .i64 ca, .int .i64 cs, .int .i64 cg]
  | 2 => v = .int .i64 u
  | 3 => v = .pointer (some ⟨r, 0, none⟩)
  | 4 => ∃ x : Int, v = .int .i64 x
  | 5 => LRow W z (.int .i64 m) (.slice A nl cl) (.int .i64 k2)
  | 6 => Row W (z + 1) 4 (rwl [.int .i64 cr, .int .i64 ca, .int .i64 cs, .int .i64 cg])
  | 7 => v = .int .i64 u
  | 8 => ∃ x : Int, v = .int .i64 x
  | _ => True
def fcC (z r i : Nat) (W W' : World) : Prop := if i = 5 then ∀ b, b ≠ z → W'.heap[b]? = W.heap[b]? else if i = 6 then ∀ b, b ≠ z + 1 → W'.heap[b]? = W.heap[b]? else Aside r W W'
theorem fcC.of {z r i : Nat} {W W' : World} (h1 : i ≠ 5) (h2 : i ≠ 6) (h : Aside r W W') : fcC z r i W W' := by unfold fcC; rw [if_neg h1, if_neg h2]; exact h
theorem fcF_keep {z r nl cl i j : Nat} {A : Option Addr} {m k2 cr ca cs cg u : Int} {v : Value} {vs : List Value} {W W' : World} (hr : z + 1 < r) (hij : i ≠ j) (h : fcF z r nl cl A m k2 cr ca cs cg u j v vs W) (hc : fcC z r i W W') : fcF z r nl cl A m k2 cr ca cs cg u j v vs W' := by
  unfold fcF at h ⊢
  split <;> simp only at h <;> try exact h
  · refine h.keep ?_
    unfold fcC at hc
    rw [if_neg hij] at hc
    split at hc
    · exact hc z (by omega)
    · exact hc.2 z h.lt (by omega)
  · refine Row.keep h ?_
    unfold fcC at hc
    split at hc
    · exact hc (z + 1) (by omega)
    · first
        | exact hc.2 (z + 1) h.lt (by omega)
        | (rw [if_neg hij] at hc; exact hc.2 (z + 1) h.lt (by omega))
def fcS (w w1 : World) (r lb cb nl cl : Nat) (A : Option Addr) (l : List Grant) (m k2 cr ca cs cg : Int) (d : Nat → Bool) (W : World) : Prop :=
  (d 4 = false → d 5 = false → d 6 = false → St w1 w1.heap.size r 200 W) ∧ Below w.heap.size w W ∧ LBlk W w.heap.size ∧ Row W (w.heap.size + 1) 4 noCell ∧ LRow W lb (.int .i64 m) (.slice A nl cl) (.int .i64 k2) ∧ Row W cb 4 (rwl [.int .i64 cr, .int .i64 ca, .int .i64 cs, .int .i64 cg]) ∧ OwnSG W w1.heap.size nl cl A l
set_option maxHeartbeats 4000000 in
theorem gListRights_c (A : Option Addr) (n c : Nat) (w : World) (h : InB w A n c) : Calls Try.prog 32 #[.slice A n c] w (GotLC w) := by
  have H := hide h
  clear h
  go_enter Try.func32, Try.ntmps32
  go_wp2_with fail
  have b0 : Below w.heap.size w ((w.alloc (.cells #[.int .i64 0, .slice none 0 0, .int .i64 0] 24)).alloc (.cells #[.int .i64 0, .int .i64 0, .int .i64 0, .int .i64 0] 45)) := below_alloc0 (below_alloc0 (Below.refl _ _) _) _
  refine (open_c A n c _ (H.out.below b0)).mono ?_
  rintro e w1 ⟨r, rfl, hr, hrd, hb1⟩
  have Z1 : LBlk w1 w.heap.size := LBlk.below (W := (w.alloc (.cells #[.int .i64 0, .slice none 0 0, .int .i64 0] 24)).alloc (.cells #[.int .i64 0, .int .i64 0, .int .i64 0, .int .i64 0] 45)) (LBlk.below (W := w.alloc (.cells #[.int .i64 0, .slice none 0 0, .int .i64 0] 24)) ⟨_, Below.heap_alloc_self w _, rfl⟩ (below_alloc0 (Below.refl _ _) _)) hb1
  have G1 : Row w1 (w.heap.size + 1) 4 noCell := by
    have := (Row.madeN (w.alloc (.cells #[.int .i64 0, .slice none 0 0, .int .i64 0] 24)) 45 #[.int .i64 0, .int .i64 0, .int .i64 0, .int .i64 0] 4 rfl).below hb1 (by simp)
    simpa using this
  have hr2 : w.heap.size + 1 < r := by simp at hr; omega
  have hs1 := Z1.row.lt
  have hg1 := G1.lt
  have hrz := hrd.1
  have B1 : Below w.heap.size w w1 := below_via0 b0 hb1
  clear b0 hr hb1
  go_wp2_with fail
  refine (drawList_c w1.heap.size r 0 12 _ (by omega) (by omega) (by omega) hrd).mono ?_
  rintro e w2 ⟨A, nl, cl, l, m, k2, rfl, hl, hn', ho, hs, ha⟩
  have HLL := hide hl
  have hz2 := hs.size
  have Z2 := (Z1.keep (ha.2 _ hs1 (by omega))).below (below_alloc0 (Below.refl _ _) (.cells #[.int .i64 m, .slice A nl cl, .int .i64 k2] 24))
  have G2 := (ha.row (by omega) G1).alloc (.cells #[.int .i64 m, .slice A nl cl, .int .i64 k2] 24)
  have L2 := LRow.made w2 (.int .i64 m) (.slice A nl cl) (.int .i64 k2)
  have O2 := ho.below (below_alloc0 (Below.refl _ _) (.cells #[.int .i64 m, .slice A nl cl, .int .i64 k2] 24))
  have S2 := hs.alloc (.cells #[.int .i64 m, .slice A nl cl, .int .i64 k2] 24)
  have B2 := (ha.below B1 (by omega) (by omega)).alloc (by have := B1.size; omega) (.cells #[.int .i64 m, .slice A nl cl, .int .i64 k2] 24)
  clear hl ho hs ha hrd Z1 G1 B1
  go_wp2_with fail
  generalize w2.alloc (.cells #[.int .i64 m, .slice A nl cl, .int .i64 k2] 24) = w3 at *
  obtain ⟨lb, hlb⟩ : ∃ lb, lb = w2.heap.size := ⟨_, rfl⟩
  rw [← hlb] at L2 ⊢
  have hrl : r < lb := by omega
  have hl3 := L2.lt
  refine (drawCred_c w1.heap.size r _ 12 _ (by omega) (by omega) ?_ S2.1).mono ?_
  · omega
  rintro e w4 ⟨cr, ca, cs, cg, rfl, hs4, ha4⟩
  have S4 : St w1 w1.heap.size r 190 w4 := ⟨hs4.1.mono (Nat.le_refl _) (by have := S2.size; have := ha4.1.size; omega) (by omega), S2.2.1.trans ha4, Nat.le_refl _⟩
  have hcl := ha4.1.size
  have Z4 := (Z2.keep (ha4.2 _ Z2.row.lt (by omega))).below (below_alloc0 (Below.refl _ _) (.cells #[.int .i64 cr, .int .i64 ca, .int .i64 cs, .int .i64 cg] 45))
  have G4 := (ha4.row (by omega) G2).alloc (.cells #[.int .i64 cr, .int .i64 ca, .int .i64 cs, .int .i64 cg] 45)
  have L4 := (L2.aside ha4 (by omega)).below (below_alloc0 (Below.refl _ _) (.cells #[.int .i64 cr, .int .i64 ca, .int .i64 cs, .int .i64 cg] 45))
  have O4 := (O2.aside ha4 (by omega)).below (below_alloc0 (Below.refl _ _) (.cells #[.int .i64 cr, .int .i64 ca, .int .i64 cs, .int .i64 cg] 45))
  have C4 := Row.madeL w4 45 [.int .i64 cr, .int .i64 ca, .int .i64 cs, .int .i64 cg]
  have SS := S4.alloc (.cells #[.int .i64 cr, .int .i64 ca, .int .i64 cs, .int .i64 cg] 45)
  have B4 := (ha4.below B2 (by omega) B2.size).alloc (by have := (ha4.below B2 (by omega) B2.size).size; omega) (.cells #[.int .i64 cr, .int .i64 ca, .int .i64 cs, .int .i64 cg] 45)
  clear Z2 G2 L2 O2 S2 B2 hs4 ha4 S4
  go_wp2_with fail
  generalize w4.alloc (.cells #[.int .i64 cr, .int .i64 ca, .int .i64 cs, .int .i64 cg] 45) = w5 at *
  obtain ⟨cb, hcb⟩ : ∃ cb, cb = w4.heap.size := ⟨_, rfl⟩
  rw [← hcb] at C4 ⊢
  have hrc : r < cb := by omega
  have hlc : lb < cb := by omega
  have hc5 := C4.lt
  refine (drawUser_c w1 w1.heap.size r _ _ ?_ SS).mono ?_
  · omega
  rintro e w6 ⟨u, rfl, u0, u1, hs6, ha6⟩
  have h6 : fcS w w1 r lb cb nl cl A l m k2 cr ca cs cg (fun j => decide (9 ≤ j)) w6 :=
    ⟨fun _ _ _ => hs6.mono (by omega), ha6.below B4 (by omega) B4.size, Z4.keep (ha6.2 _ Z4.row.lt (by omega)), ha6.row (by omega) G4, L4.aside ha6 (by omega), ha6.row (by omega) C4, O4.aside ha6 (by omega)⟩
  have HS0 := hide (show fcS w w1 r lb cb nl cl A l m k2 cr ca cs cg (fun j => decide (9 ≤ j)) w6.drew from
    ⟨fun a b c => (h6.1 a b c).drew, h6.2.1.drew, h6.2.2.1, h6.2.2.2.1, h6.2.2.2.2.1, h6.2.2.2.2.2.1, h6.2.2.2.2.2.2⟩)
  clear h6
  clear Z4 G4 L4 O4 C4 SS B4 hs6 ha6
  go_wp2_with fail
  try rw [← hlb]
  try rw [← hcb]
  clear hlb hcb
  refine wp_flowT' (os := [_, _, _, _, _, _, _, _, _]) (fcS w w1 r lb cb nl cl A l m k2 cr ca cs cg) ((fcC w.heap.size r)) (fcF w.heap.size r nl cl A m k2 cr ca cs cg u) 9 rfl ?_ ?_ ?_ ?_ ?_ ?_ ?_
  · kernel_rfl
  · kernel_rfl
  · kernel_rfl
  · exact (fun i j v vs w1 w2 hij hdd hbf h hc => fcF_keep hr2 hij h hc)
  · exact HS0.out
  ·
    refine FlowStepsT.stepY 23 9 1 rfl rfl (by kernel_rfl) (by kernel_rfl) (by kernel_rfl) rfl rfl ?_ ?_
    ·
      intro cc act vs W hcc ha hvs hS hd hi K hK
      clear ha
      have u7 : act.tmps[7]? = some (.pointer (some ⟨lb, 0, none⟩)) := (hi.out 7 (by kernel_rfl)).trans rfl
      clear hd hi
      clear hvs
      refine wanted_un rfl ?_
      have e0 := hS.2.2.2.2.1.c0
      have e1 := hS.2.2.2.2.1.c1
      have e2 := hS.2.2.2.2.1.c2
      have el := hS.2.2.2.2.1.lt
      go_simp
      exact hK.out _ _ rfl hS (fcC.of (by decide) (by decide) (Aside.refl _ _))
    refine FlowStepsT.stepY 23 9 2 rfl rfl (by kernel_rfl) (by kernel_rfl) (by kernel_rfl) rfl rfl ?_ ?_
    ·
      intro cc act vs W hcc ha hvs hS hd hi K hK
      clear ha
      have u8 : act.tmps[8]? = some (.pointer (some ⟨cb, 0, none⟩)) := (hi.out 8 (by kernel_rfl)).trans rfl
      clear hd hi
      clear hvs
      refine wanted_un rfl ?_
      have e0 := hS.2.2.2.2.2.1.cell (j := 0) rfl
      have e1 := hS.2.2.2.2.2.1.cell (j := 1) rfl
      have e2 := hS.2.2.2.2.2.1.cell (j := 2) rfl
      have e3 := hS.2.2.2.2.2.1.cell (j := 3) rfl
      have el := hS.2.2.2.2.2.1.lt
      go_simp
      exact hK.out _ _ rfl hS (fcC.of (by decide) (by decide) (Aside.refl _ _))
    refine FlowStepsT.stepY 23 9 3 rfl rfl (by kernel_rfl) (by kernel_rfl) (by kernel_rfl) rfl rfl ?_ ?_
    ·
      intro cc act vs W hcc ha hvs hS hd hi K hK
      clear ha
      have u9 : act.tmps[9]? = some (.int .i64 u) := (hi.out 9 (by kernel_rfl)).trans rfl
      clear hd hi
      clear hvs
      refine wanted_un rfl ?_
      go_simp
      exact hK.out _ _ rfl hS (fcC.of (by decide) (by decide) (Aside.refl _ _))
    refine FlowStepsT.stepY 23 9 4 rfl rfl (by kernel_rfl) (by kernel_rfl) (by kernel_rfl) rfl rfl ?_ ?_
    ·
      intro cc act vs W hcc ha hvs hS hd hi K hK
      clear ha
      have u6 : act.tmps[6]? = some (.pointer (some ⟨r, 0, none⟩)) := (hi.out 6 (by kernel_rfl)).trans rfl
      clear hd hi
      clear hvs
      refine wanted_un rfl ?_
      go_simp
      exact hK.out _ _ rfl hS (fcC.of (by decide) (by decide) (Aside.refl _ _))
    refine FlowStepsT.stepY 23 9 5 rfl rfl (by kernel_rfl) (by kernel_rfl) (by kernel_rfl) rfl rfl ?_ ?_
    ·
      intro cc act vs W hcc ha hvs hS hd hi K hK
      have nd5 : cc 5 = false := hcc.out.2 5 (by kernel_rfl)
      have nd6 : cc 6 = false := hcc.out.2 6 (by kernel_rfl)
      clear ha
      have u21 : act.tmps[21]? = some (.pointer (some ⟨r, 0, none⟩)) := by obtain ⟨_, u, _, h⟩ := hd.out ⟨3, .data⟩ (some 21) (by simp) rfl rfl; exact u.trans (congrArg some h)
      clear hd hi
      clear hvs
      refine wanted_un rfl ?_
      have hst := hS.1 hcc.out.1 nd5 nd6
      have hz := hst.size
      go_wp2_with fail
      refine (drawGroup_s w1 w1.heap.size r _ _ (by omega) hst).mono ?_
      rintro e w6 ⟨x, rfl, hs6, ha6⟩
      obtain ⟨s1, s2, s3, s4, s5, s6, s7⟩ := hS
      exact hK.out _ w6 ⟨x, rfl⟩ ⟨(fun e => by cases e), ha6.below s2 (by omega) s2.size, s3.keep (ha6.2 _ s3.row.lt (by omega)), ha6.row (by omega) s4, s5.aside ha6 (by omega), ha6.row (by omega) s6, s7.aside ha6 (by omega)⟩ (fcC.of (by decide) (by decide) ha6)
    refine FlowStepsT.stepY 23 9 6 rfl rfl (by kernel_rfl) (by kernel_rfl) (by kernel_rfl) rfl rfl ?_ ?_
    ·
      intro cc act vs W hcc ha hvs hS hd hi K hK
      clear ha
      have u18 : act.tmps[18]? = some (.agg #[.int .i64 m, .slice A nl cl, .int .i64 k2]) := by obtain ⟨_, u, _, h⟩ := hd.out ⟨0, .data⟩ (some 18) (by simp) rfl rfl; exact u.trans (congrArg some h)
      have u2 : act.tmps[2]? = some (.pointer (some ⟨w.heap.size, 0, none⟩)) := (hi.out 2 (by kernel_rfl)).trans rfl
      clear hd hi
      clear hvs
      refine wanted_un rfl ?_
      have hr := hS.2.2.1.row
      have hrlt := hr.lt
      obtain ⟨y0, g0⟩ := hr.some_ex (j := 0) (by omega)
      have z0 := hr.frozen 0
      obtain ⟨y1, g1⟩ := hr.some_ex (j := 1) (by omega)
      have z1 := hr.frozen 1
      obtain ⟨y2, g2⟩ := hr.some_ex (j := 2) (by omega)
      have z2 := hr.frozen 2
      obtain ⟨s1, s2, s3, s4, s5, s6, s7⟩ := hS
      have hA : ∀ a, A = some a → a.block ≠ w.heap.size := fun a ha => (s7.ty a ha).not_list s3
      have hlz : lb ≠ w.heap.size := by omega
      go_simp
      exact hK.out (.bool true) _ (LRow.stored s3) ⟨(fun _ e => by cases e), below_set3 s2 (Nat.le_refl _), ((s3.set 0 _).set 1 _).set 2 _, (((s4.far (p := ⟨w.heap.size, 0, none⟩) (by show w.heap.size + 1 ≠ w.heap.size; omega) _).far (p := ⟨w.heap.size, 1, none⟩) (by show w.heap.size + 1 ≠ w.heap.size; omega) _).far (p := ⟨w.heap.size, 2, none⟩) (by show w.heap.size + 1 ≠ w.heap.size; omega) _), s5.keep (((Below.heap_setCell _ ⟨w.heap.size, 2, none⟩ _ lb hlz).trans (Below.heap_setCell _ ⟨w.heap.size, 1, none⟩ _ lb hlz)).trans (Below.heap_setCell _ ⟨w.heap.size, 0, none⟩ _ lb hlz)), (((s6.far (p := ⟨w.heap.size, 0, none⟩) (by show cb ≠ w.heap.size; omega) _).far (p := ⟨w.heap.size, 1, none⟩) (by show cb ≠ w.heap.size; omega) _).far (p := ⟨w.heap.size, 2, none⟩) (by show cb ≠ w.heap.size; omega) _), (((s7.farB hA _).farB hA _).farB hA _)⟩ (by
        unfold fcC; rw [if_pos rfl]
        intro b hb
        exact (((Below.heap_setCell _ ⟨w.heap.size, 2, none⟩ _ b hb).trans (Below.heap_setCell _ ⟨w.heap.size, 1, none⟩ _ b hb)).trans (Below.heap_setCell _ ⟨w.heap.size, 0, none⟩ _ b hb)))
    refine FlowStepsT.stepY 23 9 7 rfl rfl (by kernel_rfl) (by kernel_rfl) (by kernel_rfl) rfl rfl ?_ ?_
    ·
      intro cc act vs W hcc ha hvs hS hd hi K hK
      clear ha
      have u19 : act.tmps[19]? = some (.agg #[.int .i64 cr, .int .i64 ca, .int .i64 cs, .int .i64 cg]) := by obtain ⟨_, u, _, h⟩ := hd.out ⟨1, .data⟩ (some 19) (by simp) rfl rfl; exact u.trans (congrArg some h)
      have u3 : act.tmps[3]? = some (.pointer (some ⟨(w.heap.size + 1), 0, none⟩)) := (hi.out 3 (by kernel_rfl)).trans rfl
      clear hd hi
      clear hvs
      refine wanted_un rfl ?_
      have hr := hS.2.2.2.1
      have hrlt := hr.lt
      obtain ⟨y0, g0⟩ := hr.some_ex (j := 0) (by omega)
      have z0 := hr.frozen 0
      obtain ⟨y1, g1⟩ := hr.some_ex (j := 1) (by omega)
      have z1 := hr.frozen 1
      obtain ⟨y2, g2⟩ := hr.some_ex (j := 2) (by omega)
      have z2 := hr.frozen 2
      obtain ⟨y3, g3⟩ := hr.some_ex (j := 3) (by omega)
      have z3 := hr.frozen 3
      obtain ⟨s1, s2, s3, s4, s5, s6, s7⟩ := hS
      have hA : ∀ a, A = some a → a.block ≠ w.heap.size + 1 := fun a ha => by have := s7.ge a ha; omega
      have hlz : lb ≠ w.heap.size + 1 := by omega
      go_simp
      exact hK.out (.bool true) _ (rwl_set4 s4) ⟨(fun _ _ e => by cases e), below_set4 s2 (Nat.le_succ _), (((s3.set' _).set' _).set' _).set' _, (rwl_set4 s4).none, s5.keep ((((Below.heap_setCell _ ⟨w.heap.size + 1, 3, none⟩ _ lb hlz).trans (Below.heap_setCell _ ⟨w.heap.size + 1, 2, none⟩ _ lb hlz)).trans (Below.heap_setCell _ ⟨w.heap.size + 1, 1, none⟩ _ lb hlz)).trans (Below.heap_setCell _ ⟨w.heap.size + 1, 0, none⟩ _ lb hlz)), ((((s6.far (p := ⟨w.heap.size + 1, 0, none⟩) (by show cb ≠ w.heap.size + 1; omega) _).far (p := ⟨w.heap.size + 1, 1, none⟩) (by show cb ≠ w.heap.size + 1; omega) _).far (p := ⟨w.heap.size + 1, 2, none⟩) (by show cb ≠ w.heap.size + 1; omega) _).far (p := ⟨w.heap.size + 1, 3, none⟩) (by show cb ≠ w.heap.size + 1; omega) _), ((((s7.farB hA _).farB hA _).farB hA _).farB hA _)⟩ (by
        unfold fcC; rw [if_neg (by decide), if_pos rfl]
        intro b hb
        exact ((((Below.heap_setCell _ ⟨w.heap.size + 1, 3, none⟩ _ b hb).trans (Below.heap_setCell _ ⟨w.heap.size + 1, 2, none⟩ _ b hb)).trans (Below.heap_setCell _ ⟨w.heap.size + 1, 1, none⟩ _ b hb)).trans (Below.heap_setCell _ ⟨w.heap.size + 1, 0, none⟩ _ b hb)))
    refine FlowStepsT.stepY 23 9 8 rfl rfl (by kernel_rfl) (by kernel_rfl) (by kernel_rfl) rfl rfl ?_ ?_
    ·
      intro cc act vs W hcc ha hvs hS hd hi K hK
      clear ha
      have u20 : act.tmps[20]? = some (.int .i64 u) := by obtain ⟨_, u, _, h⟩ := hd.out ⟨2, .data⟩ (some 20) (by simp) rfl rfl; exact u.trans (congrArg some h)
      clear hd hi
      clear hvs
      refine wanted_un rfl ?_
      go_simp
      exact hK.out _ _ rfl hS (fcC.of (by decide) (by decide) (Aside.refl _ _))
    refine FlowStepsT.stepY 23 9 9 rfl rfl (by kernel_rfl) (by kernel_rfl) (by kernel_rfl) rfl rfl ?_ ?_
    ·
      intro cc act vs W hcc ha hvs hS hd hi K hK
      clear ha
      obtain ⟨_, u22, _, ⟨x, rfl⟩⟩ := hd.out ⟨4, .data⟩ (some 22) (by simp) rfl rfl
      clear hd hi
      clear hvs
      refine wanted_un rfl ?_
      go_simp
      exact hK.out _ _ ⟨_, rfl⟩ hS (fcC.of (by decide) (by decide) (Aside.refl _ _))
    exact FlowStepsT.nil
  · intro d ρ W hdd hS hd
    simp only [putFrom, Act.put, List.setIfInBounds_toArray, List.set_cons_zero, List.set_cons_succ, Nat.reduceAdd]
    have hrow : LRow W w.heap.size (.int .i64 m) (.slice A nl cl) (.int .i64 k2) := hd.out 5 (by decide) (by kernel_rfl)
    have hcr : Row W (w.heap.size + 1) 4 (rwl [.int .i64 cr, .int .i64 ca, .int .i64 cs, .int .i64 cg]) := hd.out 6 (by decide) (by kernel_rfl)
    have e7 : ρ 7 = .int .i64 u := hd.out 7 (by decide) (by kernel_rfl)
    obtain ⟨p, e8⟩ : ∃ x : Int, ρ 8 = .int .i64 x := hd.out 8 (by decide) (by kernel_rfl)
    clear hd
    generalize ρ 7 = z7 at e7 ⊢
    generalize ρ 8 = z8 at e8 ⊢
    subst e7 e8
    have c0 := hrow.c0
    have c1 := hrow.c1
    have c2 := hrow.c2
    have d0 := hcr.cell (j := 0) rfl
    have d1 := hcr.cell (j := 1) rfl
    have d2 := hcr.cell (j := 2) rfl
    have d3 := hcr.cell (j := 3) rfl
    have BW := hide hS.2.1
    have OW := hide (hS.2.2.2.2.2.2.mono (show w.heap.size ≤ w1.heap.size by omega))
    clear hS hrow hcr
    go_wp2_with fail
    exact bodyPost_ret (v := .tuple #[.agg #[.int .i64 m, .slice A nl cl, .int .i64 k2], .agg #[.int .i64 cr, .int .i64 ca, .int .i64 cs, .int .i64 cg], .int .i64 u, .int .i64 p]) (by simp [results, Try.results32, go_sem, *]) rfl ⟨A, nl, cl, l, m, k2, cr, ca, cs, cg, u, p, rfl, HLL.out, hn', OW.out, BW.out⟩
end Go.Proofs.Ytpifnfhgaemdmaa
