/-
  What is drawn for SetGrant. No condition.
-/
import Derived.Test.YtpifnfhgaemdmaaProg
import Derived.Test.YtpifnfhgaemdmaaFlv
namespace Go.Proofs.Ytpifnfhgaemdmaa
open Go.RowKit
set_option linter.unusedSimpArgs false
set_option linter.unusedVariables false

/-- A block that holds a Grant. -/
def GRow (w : World) (q : Nat) (tg : Bool) (tw tr : Int) : Prop := Row w q 3 (rwl [.bool tg, .int .i64 tw, .int .i64 tr])
section
variable {w w' : World} {q : Nat} {tg : Bool} {tw tr : Int}
theorem GRow.lt (h : GRow w q tg tw tr) : q < w.heap.size := Row.lt h
theorem GRow.below (h : GRow w q tg tw tr) (hb : Below w.heap.size w w') : GRow w' q tg tw tr := Row.below h hb h.lt
theorem GRow.c0 (h : GRow w q tg tw tr) : w.cell? ⟨q, 0, none⟩ = some (.bool tg) := Row.cell h (j := 0) rfl
theorem GRow.c1 (h : GRow w q tg tw tr) : w.cell? ⟨q, 1, none⟩ = some (.int .i64 tw) := Row.cell h (j := 1) rfl
theorem GRow.c2 (h : GRow w q tg tw tr) : w.cell? ⟨q, 2, none⟩ = some (.int .i64 tr) := Row.cell h (j := 2) rfl
end
def GotLG (w : World) (e : Ending) (w' : World) : Prop :=
  ∃ (A : Option Addr) (n c : Nat) (l : List Grant) (m k2 : Int) (tg : Bool) (tw tr : Int), e = .returned (.tuple #[.agg #[.int .i64 m, .slice A n c, .int .i64 k2], .agg #[.bool tg, .int .i64 tw, .int .i64 tr]]) ∧ l.length = n ∧ n ≤ 7 ∧ OwnSG w' w.heap.size n c A l ∧ Below w.heap.size w w'
/-- How many of the picks were carried out. -/
def cntD (d : Nat → Bool) (ps : List Nat) : Nat := (ps.filter d).length
theorem cntD_set {d : Nat → Bool} {i : Nat} (hd : d i = false) : ∀ ps : List Nat, ps.Nodup → i ∈ ps → cntD (setD d i) ps = cntD d ps + 1
  | [], _, h => by cases h
  | p :: ps, hn, h => by
    obtain ⟨hp, hn⟩ := List.nodup_cons.1 hn
    by_cases e : p = i
    · subst e
      have : cntD (setD d p) ps = cntD d ps := by
        unfold cntD
        congr 1
        refine List.filter_congr fun x hx => ?_
        have : x ≠ p := fun e => hp (e ▸ hx)
        simp [setD, this]
      simp only [cntD, List.filter_cons, hd] at this ⊢
      simp [setD] at this ⊢
      exact this
    · have := cntD_set hd ps hn (by rcases List.mem_cons.1 h with e' | e'; exact absurd e'.symm e; exact e')
      simp only [cntD, List.filter_cons] at this ⊢
      have e2 : setD d i p = d p := by simp [setD, e]
      rw [e2]
      cases d p <;> simp [this]
theorem cntD_keep {d : Nat → Bool} {i : Nat} : ∀ ps : List Nat, i ∉ ps → cntD (setD d i) ps = cntD d ps := fun ps h => by
  unfold cntD
  congr 1
  refine List.filter_congr fun x hx => ?_
  have : x ≠ i := fun e => h (e ▸ hx)
  simp [setD, this]
theorem cntD_le (d : Nat → Bool) (ps : List Nat) : cntD d ps ≤ ps.length := List.length_filter_le _ _
def psD : List Nat := [2, 5, 7, 12, 14]
def IB (lo hi : Int) (v : Value) : Prop := ∃ x : Int, v = .int .i64 x ∧ lo ≤ x ∧ x ≤ hi
/-- What is known of each operation of the statement that draws the grant. -/
def fdF (z lb r nl cl : Nat) (A : Option Addr) (m k2 : Int) (i : Nat) (v : Value) (vs : List Value) (W : World) : Prop :=
  match i with
  | 0 => v = .agg #[.int .i64 m, .slice A nl cl, .int .i64 k2]
  | 1 => v = .pointer (some ⟨r, 0, none⟩)
  | 2 => IB 0 1 v
  | 3 => ∃ b, v = .bool b
  | 4 => v = .pointer (some ⟨r, 0, none⟩)
  | 5 => IB 0 7 v
  | 6 => v = .pointer (some ⟨r, 0, none⟩)
  | 7 => IB 0 13 v
  | 8 => IB 0 1 v
  | 9 => IB 0 99 v
  | 10 => IB 0 106 v
  | 11 => v = .pointer (some ⟨r, 0, none⟩)
  | 12 => IB 0 8 v
  | 13 => v = .pointer (some ⟨r, 0, none⟩)
  | 14 => IB 0 13 v
  | 15 => IB 0 1 v
  | 16 => IB (-1) 8 v
  | 17 => ∃ (tg : Bool) (tw tr : Int), v = .agg #[.bool tg, .int .i64 tw, .int .i64 tr]
  | 18 => LRow W z (.int .i64 m) (.slice A nl cl) (.int .i64 k2)
  | 19 => ∃ tg tw tr, GRow W (z + 1) tg tw tr
  | _ => True
def fdC (z r i : Nat) (W W' : World) : Prop := if i = 18 then ∀ b, b ≠ z → W'.heap[b]? = W.heap[b]? else if i = 19 then ∀ b, b ≠ z + 1 → W'.heap[b]? = W.heap[b]? else Aside r W W'
theorem fdC.of {z r i : Nat} {W W' : World} (h1 : i ≠ 18) (h2 : i ≠ 19) (h : Aside r W W') : fdC z r i W W' := by unfold fdC; rw [if_neg h1, if_neg h2]; exact h
theorem fdF_keep {z lb r nl cl i j : Nat} {A : Option Addr} {m k2 : Int} {v : Value} {vs : List Value} {W W' : World} (hr : z + 1 < r) (hij : i ≠ j) (h : fdF z lb r nl cl A m k2 j v vs W) (hc : fdC z r i W W') : fdF z lb r nl cl A m k2 j v vs W' := by
  unfold fdF at h ⊢
  split <;> simp only at h <;> try exact h
  · refine h.keep ?_
    unfold fdC at hc
    rw [if_neg hij] at hc
    split at hc
    · exact hc z (by omega)
    · exact hc.2 z h.lt (by omega)
  · obtain ⟨tg, tw, tr, h⟩ := h
    refine ⟨tg, tw, tr, Row.keep h ?_⟩
    unfold fdC at hc
    split at hc
    · exact hc (z + 1) (by omega)
    · first
        | exact hc.2 (z + 1) h.lt (by omega)
        | (rw [if_neg hij] at hc; exact hc.2 (z + 1) h.lt (by omega))
/-- What lies in memory meanwhile. -/
def fdS (w w1 : World) (r lb nl cl : Nat) (A : Option Addr) (l : List Grant) (m k2 : Int) (d : Nat → Bool) (W : World) : Prop :=
  (d 18 = false → d 19 = false → St w1 w1.heap.size r (100 + cntD d psD) W) ∧ Below w.heap.size w W ∧ LBlk W w.heap.size ∧ Row W (w.heap.size + 1) 3 noCell ∧ LRow W lb (.int .i64 m) (.slice A nl cl) (.int .i64 k2) ∧ OwnSG W w1.heap.size nl cl A l
theorem fdS.same {w w1 : World} {r lb nl cl : Nat} {A : Option Addr} {l : List Grant} {m k2 : Int} {d d' : Nat → Bool} {W : World} (h : fdS w w1 r lb nl cl A l m k2 d W) (h18 : d' 18 = false → d 18 = false) (h19 : d' 19 = false → d 19 = false) (hc : cntD d' psD = cntD d psD) : fdS w w1 r lb nl cl A l m k2 d' W :=
  ⟨fun e1 e2 => by rw [hc]; exact h.1 (h18 e1) (h19 e2), h.2⟩
theorem fdS.aside {w w1 : World} {r lb nl cl : Nat} {A : Option Addr} {l : List Grant} {m k2 : Int} {d d' : Nat → Bool} {W W' : World} (hr : w.heap.size + 1 < r) (hrl : r < lb) (hr1 : r < w1.heap.size) (h : fdS w w1 r lb nl cl A l m k2 d W) (ha : Aside r W W') (hs : St w1 w1.heap.size r (100 + cntD d' psD) W') : fdS w w1 r lb nl cl A l m k2 d' W' := by
  obtain ⟨s1, s2, s3, s4, s5, s6⟩ := h
  exact ⟨fun _ _ => hs, ha.below s2 (by omega) s2.size, s3.keep (ha.2 _ s3.row.lt (by omega)), ha.row (by omega) s4, s5.aside ha (by omega), s6.aside ha (by omega)⟩
theorem drawUser_s (w0 : World) (B r k : Nat) (w : World) (hk : k ≤ 100000) (h : St w0 B r k w) :
    Calls Try.prog 56 #[.pointer (some ⟨r, 0, none⟩)] w fun e w' => ∃ x : Int, e = .returned (.int .i64 x) ∧ 0 ≤ x ∧ x ≤ 7 ∧ St w0 B r (k + 1) w' ∧ Aside r w w' := drawUser_c w0 B r k w hk h
set_option maxHeartbeats 4000000 in
theorem gSetGrant_c (A : Option Addr) (n c : Nat) (w : World) (h : InB w A n c) : Calls Try.prog 29 #[.slice A n c] w (GotLG w) := by
  have H := hide h
  clear h
  go_enter Try.func29, Try.ntmps29
  go_wp2_with fail
  have b0 : Below w.heap.size w ((w.alloc (.cells #[.int .i64 0, .slice none 0 0, .int .i64 0] 24)).alloc (.cells #[.bool false, .int .i64 0, .int .i64 0] 40)) := below_alloc0 (below_alloc0 (Below.refl _ _) _) _
  refine (open_c A n c _ (H.out.below b0)).mono ?_
  rintro e w1 ⟨r, rfl, hr, hrd, hb1⟩
  have Z1 : LBlk w1 w.heap.size := LBlk.below (W := (w.alloc (.cells #[.int .i64 0, .slice none 0 0, .int .i64 0] 24)).alloc (.cells #[.bool false, .int .i64 0, .int .i64 0] 40)) (LBlk.below (W := w.alloc (.cells #[.int .i64 0, .slice none 0 0, .int .i64 0] 24)) ⟨_, Below.heap_alloc_self w _, rfl⟩ (below_alloc0 (Below.refl _ _) _)) hb1
  have G1 : Row w1 (w.heap.size + 1) 3 noCell := by
    have := (Row.madeN (w.alloc (.cells #[.int .i64 0, .slice none 0 0, .int .i64 0] 24)) 40 #[.bool false, .int .i64 0, .int .i64 0] 3 rfl).below hb1 (by simp)
    simpa using this
  have hr2 : w.heap.size + 1 < r := by simp at hr; omega
  have hs1 := Z1.row.lt
  have hg1 := G1.lt
  have hrz := hrd.1
  have B1 : Below w.heap.size w w1 := below_via0 b0 hb1
  clear b0 hr hb1
  go_wp2_with fail
  refine (drawList_c w1.heap.size r 0 9 _ (by omega) (by omega) (by omega) hrd).mono ?_
  rintro e w2 ⟨A, nl, cl, l, m, k2, rfl, hl, hn', ho, hs, ha⟩
  have HLL := hide hl
  have hz2 := hs.size
  have HSS : Hid (fdS w w1 r w2.heap.size nl cl A l m k2 (fun j => decide (20 ≤ j)) (w2.alloc (.cells #[.int .i64 m, .slice A nl cl, .int .i64 k2] 24))) :=
    ⟨fun _ _ => (hs.alloc _).mono (by omega), (ha.below B1 (by omega) (by omega)).alloc (by have := B1.size; omega) _, (Z1.keep (ha.2 _ hs1 (by omega))).below (below_alloc0 (Below.refl _ _) _), (ha.row (by omega) G1).alloc _, LRow.made w2 _ _ _, ho.below (below_alloc0 (Below.refl _ _) _)⟩
  obtain ⟨lb, hlb⟩ : ∃ lb, lb = w2.heap.size := ⟨_, rfl⟩
  clear hl ho hs ha hrd Z1 G1 B1
  go_wp2_with fail
  rw [← hlb] at HSS ⊢
  have hrl : r < lb := by omega
  have HS0 := hide (show fdS w w1 r lb nl cl A l m k2 (fun j => decide (20 ≤ j)) (w2.alloc (.cells #[.int .i64 m, .slice A nl cl, .int .i64 k2] 24)).drew from ⟨fun e1 e2 => (HSS.out.1 e1 e2).drew, HSS.out.2.1.drew, HSS.out.2.2.1, HSS.out.2.2.2.1, HSS.out.2.2.2.2.1, HSS.out.2.2.2.2.2⟩)
  clear HSS hlb
  refine wp_flowT' (os := [_, _, _, _, _, _, _, _, _, _, _, _, _, _, _, _, _, _, _, _]) (fdS w w1 r lb nl cl A l m k2) ((fdC w.heap.size r)) (fdF w.heap.size lb r nl cl A m k2) 20 rfl ?_ ?_ ?_ ?_ ?_ ?_ ?_
  · kernel_rfl
  · kernel_rfl
  · kernel_rfl
  · exact (fun i j v vs w1 w2 hij hdd hbf h hc => fdF_keep hr2 hij h hc)
  · exact HS0.out
  ·
    refine FlowStepsT.stepY 28 20 1 rfl rfl (by kernel_rfl) (by kernel_rfl) (by kernel_rfl) rfl rfl ?_ ?_
    ·
      intro cc act vs W hcc ha hvs hS hd hi K hK
      clear ha
      have u5 : act.tmps[5]? = some (.pointer (some ⟨lb, 0, none⟩)) := (hi.out 5 (by kernel_rfl)).trans rfl
      clear hd hi
      clear hvs
      refine wanted_un rfl ?_
      have e0 := hS.2.2.2.2.1.c0
      have e1 := hS.2.2.2.2.1.c1
      have e2 := hS.2.2.2.2.1.c2
      have el := hS.2.2.2.2.1.lt
      go_simp
      exact hK.out _ _ rfl (hS.same id id (cntD_keep _ (by decide))) (fdC.of (by decide) (by decide) (Aside.refl _ _))
    refine FlowStepsT.stepY 28 20 2 rfl rfl (by kernel_rfl) (by kernel_rfl) (by kernel_rfl) rfl rfl ?_ ?_
    ·
      intro cc act vs W hcc ha hvs hS hd hi K hK
      clear ha
      have u4 : act.tmps[4]? = some (.pointer (some ⟨r, 0, none⟩)) := (hi.out 4 (by kernel_rfl)).trans rfl
      clear hd hi
      clear hvs
      refine wanted_un rfl ?_
      go_simp
      exact hK.out _ _ rfl (hS.same id id (cntD_keep _ (by decide))) (fdC.of (by decide) (by decide) (Aside.refl _ _))
    refine FlowStepsT.stepY 28 20 3 rfl rfl (by kernel_rfl) (by kernel_rfl) (by kernel_rfl) rfl rfl ?_ ?_
    ·
      intro cc act vs W hcc ha hvs hS hd hi K hK
      have nd18 : cc 18 = false := hcc.out.2 18 (by kernel_rfl)
      have nd19 : cc 19 = false := hcc.out.2 19 (by kernel_rfl)
      clear ha
      have u11 : act.tmps[11]? = some (.pointer (some ⟨r, 0, none⟩)) := by obtain ⟨_, u, _, h⟩ := hd.out ⟨1, .data⟩ (some 11) (by simp) rfl rfl; exact u.trans (congrArg some h)
      clear hd hi
      clear hvs
      refine wanted_un rfl ?_
      have hc0 := hcc.out.1
      have hst := hS.1 nd18 nd19
      have hcl := cntD_le cc psD
      have hz := hst.size
      simp only [psD, List.length_cons, List.length_nil] at hcl
      go_wp2_with fail
      refine (pick_s w1 w1.heap.size r _ 2 _ (by omega) (by omega) (by simp only [psD]; omega) hst).mono ?_
      rintro e w6 ⟨x, rfl, x0, x1, hs6, ha6⟩
      exact hK.out _ w6 ⟨x, rfl, by omega, by omega⟩ (hS.aside hr2 hrl (by omega) ha6 (by rw [cntD_set hc0 psD (by decide) (by decide)]; exact hs6)) (fdC.of (by decide) (by decide) ha6)
    refine FlowStepsT.stepY 28 20 4 rfl rfl (by kernel_rfl) (by kernel_rfl) (by kernel_rfl) rfl rfl ?_ ?_
    ·
      intro cc act vs W hcc ha hvs hS hd hi K hK
      clear ha
      obtain ⟨_, u12, _, ⟨x, rfl, x0, x1⟩⟩ := hd.out ⟨2, .data⟩ (some 12) (by simp) rfl rfl
      clear hd hi
      clear hvs
      refine wanted_un rfl ?_
      go_simp
      exact hK.out _ _ ⟨_, rfl⟩ (hS.same id id (cntD_keep _ (by decide))) (fdC.of (by decide) (by decide) (Aside.refl _ _))
    refine FlowStepsT.stepY 28 20 5 rfl rfl (by kernel_rfl) (by kernel_rfl) (by kernel_rfl) rfl rfl ?_ ?_
    ·
      intro cc act vs W hcc ha hvs hS hd hi K hK
      clear ha
      have u4 : act.tmps[4]? = some (.pointer (some ⟨r, 0, none⟩)) := (hi.out 4 (by kernel_rfl)).trans rfl
      clear hd hi
      clear hvs
      refine wanted_un rfl ?_
      go_simp
      exact hK.out _ _ rfl (hS.same id id (cntD_keep _ (by decide))) (fdC.of (by decide) (by decide) (Aside.refl _ _))
    refine FlowStepsT.stepY 28 20 6 rfl rfl (by kernel_rfl) (by kernel_rfl) (by kernel_rfl) rfl rfl ?_ ?_
    ·
      intro cc act vs W hcc ha hvs hS hd hi K hK
      have nd18 : cc 18 = false := hcc.out.2 18 (by kernel_rfl)
      have nd19 : cc 19 = false := hcc.out.2 19 (by kernel_rfl)
      clear ha
      have u14 : act.tmps[14]? = some (.pointer (some ⟨r, 0, none⟩)) := by obtain ⟨_, u, _, h⟩ := hd.out ⟨4, .data⟩ (some 14) (by simp) rfl rfl; exact u.trans (congrArg some h)
      clear hd hi
      clear hvs
      refine wanted_un rfl ?_
      have hc0 := hcc.out.1
      have hst := hS.1 nd18 nd19
      have hcl := cntD_le cc psD
      have hz := hst.size
      simp only [psD, List.length_cons, List.length_nil] at hcl
      go_wp2_with fail
      refine (drawUser_s w1 w1.heap.size r _ _ (by simp only [psD]; omega) hst).mono ?_
      rintro e w6 ⟨x, rfl, x0, x1, hs6, ha6⟩
      exact hK.out _ w6 ⟨x, rfl, by omega, by omega⟩ (hS.aside hr2 hrl (by omega) ha6 (by rw [cntD_set hc0 psD (by decide) (by decide)]; exact hs6)) (fdC.of (by decide) (by decide) ha6)
    refine FlowStepsT.stepY 28 20 7 rfl rfl (by kernel_rfl) (by kernel_rfl) (by kernel_rfl) rfl rfl ?_ ?_
    ·
      intro cc act vs W hcc ha hvs hS hd hi K hK
      clear ha
      have u4 : act.tmps[4]? = some (.pointer (some ⟨r, 0, none⟩)) := (hi.out 4 (by kernel_rfl)).trans rfl
      clear hd hi
      clear hvs
      refine wanted_un rfl ?_
      go_simp
      exact hK.out _ _ rfl (hS.same id id (cntD_keep _ (by decide))) (fdC.of (by decide) (by decide) (Aside.refl _ _))
    refine FlowStepsT.stepY 28 20 8 rfl rfl (by kernel_rfl) (by kernel_rfl) (by kernel_rfl) rfl rfl ?_ ?_
    ·
      intro cc act vs W hcc ha hvs hS hd hi K hK
      have nd18 : cc 18 = false := hcc.out.2 18 (by kernel_rfl)
      have nd19 : cc 19 = false := hcc.out.2 19 (by kernel_rfl)
      clear ha
      have u16 : act.tmps[16]? = some (.pointer (some ⟨r, 0, none⟩)) := by obtain ⟨_, u, _, h⟩ := hd.out ⟨6, .data⟩ (some 16) (by simp) rfl rfl; exact u.trans (congrArg some h)
      clear hd hi
      clear hvs
      refine wanted_un rfl ?_
      have hc0 := hcc.out.1
      have hst := hS.1 nd18 nd19
      have hcl := cntD_le cc psD
      have hz := hst.size
      simp only [psD, List.length_cons, List.length_nil] at hcl
      go_wp2_with fail
      refine (pick_s w1 w1.heap.size r _ 14 _ (by omega) (by omega) (by simp only [psD]; omega) hst).mono ?_
      rintro e w6 ⟨x, rfl, x0, x1, hs6, ha6⟩
      exact hK.out _ w6 ⟨x, rfl, by omega, by omega⟩ (hS.aside hr2 hrl (by omega) ha6 (by rw [cntD_set hc0 psD (by decide) (by decide)]; exact hs6)) (fdC.of (by decide) (by decide) ha6)
    refine FlowStepsT.stepY 28 20 9 rfl rfl (by kernel_rfl) (by kernel_rfl) (by kernel_rfl) rfl rfl ?_ ?_
    ·
      intro cc act vs W hcc ha hvs hS hd hi K hK
      clear ha
      obtain ⟨_, u17, _, ⟨x, rfl, x0, x1⟩⟩ := hd.out ⟨7, .data⟩ (some 17) (by simp) rfl rfl
      clear hd hi
      clear hvs
      refine wanted_un rfl ?_
      have jq : 0 ≤ x.tdiv 13 ∧ x.tdiv 13 ≤ 1 := by rw [Int.tdiv_eq_ediv_of_nonneg x0]; omega
      have jw := IntWalk.i64_in (x.tdiv 13) (by omega)
      go_simp
      exact hK.out _ _ ⟨_, rfl, jq.1, jq.2⟩ (hS.same id id (cntD_keep _ (by decide))) (fdC.of (by decide) (by decide) (Aside.refl _ _))
    refine FlowStepsT.stepY 28 20 10 rfl rfl (by kernel_rfl) (by kernel_rfl) (by kernel_rfl) rfl rfl ?_ ?_
    ·
      intro cc act vs W hcc ha hvs hS hd hi K hK
      clear ha
      obtain ⟨_, u18, _, ⟨x, rfl, x0, x1⟩⟩ := hd.out ⟨8, .data⟩ (some 18) (by simp) rfl rfl
      clear hd hi
      clear hvs
      refine wanted_un rfl ?_
      have jw := IntWalk.i64_in (x * 99) (by omega)
      go_simp
      exact hK.out _ _ ⟨_, rfl, by omega, by omega⟩ (hS.same id id (cntD_keep _ (by decide))) (fdC.of (by decide) (by decide) (Aside.refl _ _))
    refine FlowStepsT.stepY 28 20 11 rfl rfl (by kernel_rfl) (by kernel_rfl) (by kernel_rfl) rfl rfl ?_ ?_
    ·
      intro cc act vs W hcc ha hvs hS hd hi K hK
      clear ha
      obtain ⟨_, u15, _, ⟨x, rfl, x0, x1⟩⟩ := hd.out ⟨5, .data⟩ (some 15) (by simp) rfl rfl
      obtain ⟨_, u19, _, ⟨y, rfl, y0, y1⟩⟩ := hd.out ⟨9, .data⟩ (some 19) (by simp) rfl rfl
      clear hd hi
      clear hvs
      refine wanted_un rfl ?_
      have jw := IntWalk.i64_in (x + y) (by omega)
      go_simp
      exact hK.out _ _ ⟨_, rfl, by omega, by omega⟩ (hS.same id id (cntD_keep _ (by decide))) (fdC.of (by decide) (by decide) (Aside.refl _ _))
    refine FlowStepsT.stepY 28 20 12 rfl rfl (by kernel_rfl) (by kernel_rfl) (by kernel_rfl) rfl rfl ?_ ?_
    ·
      intro cc act vs W hcc ha hvs hS hd hi K hK
      clear ha
      have u4 : act.tmps[4]? = some (.pointer (some ⟨r, 0, none⟩)) := (hi.out 4 (by kernel_rfl)).trans rfl
      clear hd hi
      clear hvs
      refine wanted_un rfl ?_
      go_simp
      exact hK.out _ _ rfl (hS.same id id (cntD_keep _ (by decide))) (fdC.of (by decide) (by decide) (Aside.refl _ _))
    refine FlowStepsT.stepY 28 20 13 rfl rfl (by kernel_rfl) (by kernel_rfl) (by kernel_rfl) rfl rfl ?_ ?_
    ·
      intro cc act vs W hcc ha hvs hS hd hi K hK
      have nd18 : cc 18 = false := hcc.out.2 18 (by kernel_rfl)
      have nd19 : cc 19 = false := hcc.out.2 19 (by kernel_rfl)
      clear ha
      have u21 : act.tmps[21]? = some (.pointer (some ⟨r, 0, none⟩)) := by obtain ⟨_, u, _, h⟩ := hd.out ⟨11, .data⟩ (some 21) (by simp) rfl rfl; exact u.trans (congrArg some h)
      clear hd hi
      clear hvs
      refine wanted_un rfl ?_
      have hc0 := hcc.out.1
      have hst := hS.1 nd18 nd19
      have hcl := cntD_le cc psD
      have hz := hst.size
      simp only [psD, List.length_cons, List.length_nil] at hcl
      go_wp2_with fail
      refine (pick_s w1 w1.heap.size r _ 9 _ (by omega) (by omega) (by simp only [psD]; omega) hst).mono ?_
      rintro e w6 ⟨x, rfl, x0, x1, hs6, ha6⟩
      exact hK.out _ w6 ⟨x, rfl, by omega, by omega⟩ (hS.aside hr2 hrl (by omega) ha6 (by rw [cntD_set hc0 psD (by decide) (by decide)]; exact hs6)) (fdC.of (by decide) (by decide) ha6)
    refine FlowStepsT.stepY 28 20 14 rfl rfl (by kernel_rfl) (by kernel_rfl) (by kernel_rfl) rfl rfl ?_ ?_
    ·
      intro cc act vs W hcc ha hvs hS hd hi K hK
      clear ha
      have u4 : act.tmps[4]? = some (.pointer (some ⟨r, 0, none⟩)) := (hi.out 4 (by kernel_rfl)).trans rfl
      clear hd hi
      clear hvs
      refine wanted_un rfl ?_
      go_simp
      exact hK.out _ _ rfl (hS.same id id (cntD_keep _ (by decide))) (fdC.of (by decide) (by decide) (Aside.refl _ _))
    refine FlowStepsT.stepY 28 20 15 rfl rfl (by kernel_rfl) (by kernel_rfl) (by kernel_rfl) rfl rfl ?_ ?_
    ·
      intro cc act vs W hcc ha hvs hS hd hi K hK
      have nd18 : cc 18 = false := hcc.out.2 18 (by kernel_rfl)
      have nd19 : cc 19 = false := hcc.out.2 19 (by kernel_rfl)
      clear ha
      have u23 : act.tmps[23]? = some (.pointer (some ⟨r, 0, none⟩)) := by obtain ⟨_, u, _, h⟩ := hd.out ⟨13, .data⟩ (some 23) (by simp) rfl rfl; exact u.trans (congrArg some h)
      clear hd hi
      clear hvs
      refine wanted_un rfl ?_
      have hc0 := hcc.out.1
      have hst := hS.1 nd18 nd19
      have hcl := cntD_le cc psD
      have hz := hst.size
      simp only [psD, List.length_cons, List.length_nil] at hcl
      go_wp2_with fail
      refine (pick_s w1 w1.heap.size r _ 14 _ (by omega) (by omega) (by simp only [psD]; omega) hst).mono ?_
      rintro e w6 ⟨x, rfl, x0, x1, hs6, ha6⟩
      exact hK.out _ w6 ⟨x, rfl, by omega, by omega⟩ (hS.aside hr2 hrl (by omega) ha6 (by rw [cntD_set hc0 psD (by decide) (by decide)]; exact hs6)) (fdC.of (by decide) (by decide) ha6)
    refine FlowStepsT.stepY 28 20 16 rfl rfl (by kernel_rfl) (by kernel_rfl) (by kernel_rfl) rfl rfl ?_ ?_
    ·
      intro cc act vs W hcc ha hvs hS hd hi K hK
      clear ha
      obtain ⟨_, u24, _, ⟨x, rfl, x0, x1⟩⟩ := hd.out ⟨14, .data⟩ (some 24) (by simp) rfl rfl
      clear hd hi
      clear hvs
      refine wanted_un rfl ?_
      have jq : 0 ≤ x.tdiv 13 ∧ x.tdiv 13 ≤ 1 := by rw [Int.tdiv_eq_ediv_of_nonneg x0]; omega
      have jw := IntWalk.i64_in (x.tdiv 13) (by omega)
      go_simp
      exact hK.out _ _ ⟨_, rfl, jq.1, jq.2⟩ (hS.same id id (cntD_keep _ (by decide))) (fdC.of (by decide) (by decide) (Aside.refl _ _))
    refine FlowStepsT.stepY 28 20 17 rfl rfl (by kernel_rfl) (by kernel_rfl) (by kernel_rfl) rfl rfl ?_ ?_
    ·
      intro cc act vs W hcc ha hvs hS hd hi K hK
      clear ha
      obtain ⟨_, u22, _, ⟨x, rfl, x0, x1⟩⟩ := hd.out ⟨12, .data⟩ (some 22) (by simp) rfl rfl
      obtain ⟨_, u25, _, ⟨y, rfl, y0, y1⟩⟩ := hd.out ⟨15, .data⟩ (some 25) (by simp) rfl rfl
      clear hd hi
      clear hvs
      refine wanted_un rfl ?_
      have jw := IntWalk.i64_in (x - y) (by omega)
      go_simp
      exact hK.out _ _ ⟨_, rfl, by omega, by omega⟩ (hS.same id id (cntD_keep _ (by decide))) (fdC.of (by decide) (by decide) (Aside.refl _ _))
    refine FlowStepsT.stepY 28 20 18 rfl rfl (by kernel_rfl) (by kernel_rfl) (by kernel_rfl) rfl rfl ?_ ?_
    ·
      intro cc act vs W hcc ha hvs hS hd hi K hK
      clear ha
      obtain ⟨_, u13, _, ⟨b, rfl⟩⟩ := hd.out ⟨3, .data⟩ (some 13) (by simp) rfl rfl
      obtain ⟨_, u20, _, ⟨x, rfl, x0, x1⟩⟩ := hd.out ⟨10, .data⟩ (some 20) (by simp) rfl rfl
      obtain ⟨_, u26, _, ⟨y, rfl, y0, y1⟩⟩ := hd.out ⟨16, .data⟩ (some 26) (by simp) rfl rfl
      clear hd hi
      clear hvs
      refine wanted_un rfl ?_
      go_simp
      exact hK.out _ _ ⟨_, _, _, rfl⟩ (hS.same id id (cntD_keep _ (by decide))) (fdC.of (by decide) (by decide) (Aside.refl _ _))
    refine FlowStepsT.stepY 28 20 19 rfl rfl (by kernel_rfl) (by kernel_rfl) (by kernel_rfl) rfl rfl ?_ ?_
    ·
      intro cc act vs W hcc ha hvs hS hd hi K hK
      clear ha
      have u10 : act.tmps[10]? = some (.agg #[.int .i64 m, .slice A nl cl, .int .i64 k2]) := by obtain ⟨_, u, _, h⟩ := hd.out ⟨0, .data⟩ (some 10) (by simp) rfl rfl; exact u.trans (congrArg some h)
      have u2 : act.tmps[2]? = some (.pointer (some ⟨w.heap.size, 0, none⟩)) := (hi.out 2 (by kernel_rfl)).trans rfl
      clear hd hi
      clear hvs
      refine wanted_un rfl ?_
      have hr := hS.2.2.1.row
      have hrlt := hr.lt
      obtain ⟨y0, g0⟩ := hr.some_ex (j := 0) (by omega)
      have z0 := hr.frozen 0
      obtain ⟨y1, g1⟩ := hr.some_ex (j := 1) (by omega)
      have z1 := hr.frozen 1
      obtain ⟨y2, g2⟩ := hr.some_ex (j := 2) (by omega)
      have z2 := hr.frozen 2
      obtain ⟨s1, s2, s3, s4, s5, s6⟩ := hS
      have hA : ∀ a, A = some a → a.block ≠ w.heap.size := fun a ha => (s6.ty a ha).not_list s3
      have hlz : lb ≠ w.heap.size := by omega
      go_simp
      exact hK.out (.bool true) _ (LRow.stored s3) ⟨(fun e => by cases e), below_set3 s2 (Nat.le_refl _), ((s3.set 0 _).set 1 _).set 2 _, ((s4.far (p := ⟨w.heap.size, 0, none⟩) (by show w.heap.size + 1 ≠ w.heap.size; omega) _).far (p := ⟨w.heap.size, 1, none⟩) (by show w.heap.size + 1 ≠ w.heap.size; omega) _).far (p := ⟨w.heap.size, 2, none⟩) (by show w.heap.size + 1 ≠ w.heap.size; omega) _, s5.keep (((Below.heap_setCell _ ⟨w.heap.size, 2, none⟩ _ lb hlz).trans (Below.heap_setCell _ ⟨w.heap.size, 1, none⟩ _ lb hlz)).trans (Below.heap_setCell _ ⟨w.heap.size, 0, none⟩ _ lb hlz)), ((s6.farB hA _).farB hA _).farB hA _⟩ (by
        unfold fdC; rw [if_pos rfl]
        intro b hb
        exact ((Below.heap_setCell _ ⟨w.heap.size, 2, none⟩ _ b hb).trans (Below.heap_setCell _ ⟨w.heap.size, 1, none⟩ _ b hb)).trans (Below.heap_setCell _ ⟨w.heap.size, 0, none⟩ _ b hb))
    refine FlowStepsT.stepY 28 20 20 rfl rfl (by kernel_rfl) (by kernel_rfl) (by kernel_rfl) rfl rfl ?_ ?_
    ·
      intro cc act vs W hcc ha hvs hS hd hi K hK
      clear ha
      obtain ⟨_, u27, _, ⟨tg, tw, tr, rfl⟩⟩ := hd.out ⟨17, .data⟩ (some 27) (by simp) rfl rfl
      have u3 : act.tmps[3]? = some (.pointer (some ⟨(w.heap.size + 1), 0, none⟩)) := (hi.out 3 (by kernel_rfl)).trans rfl
      clear hd hi
      clear hvs
      refine wanted_un rfl ?_
      have hr := hS.2.2.2.1
      have hrlt := hr.lt
      obtain ⟨y0, g0⟩ := hr.some_ex (j := 0) (by omega)
      have z0 := hr.frozen 0
      obtain ⟨y1, g1⟩ := hr.some_ex (j := 1) (by omega)
      have z1 := hr.frozen 1
      obtain ⟨y2, g2⟩ := hr.some_ex (j := 2) (by omega)
      have z2 := hr.frozen 2
      obtain ⟨s1, s2, s3, s4, s5, s6⟩ := hS
      have hA : ∀ a, A = some a → a.block ≠ w.heap.size + 1 := fun a ha => by have := s6.ge a ha; omega
      have hlz : lb ≠ w.heap.size + 1 := by omega
      go_simp
      exact hK.out (.bool true) _ ⟨tg, tw, tr, rwl_set3 s4⟩ ⟨(fun _ e => by cases e), below_set3 s2 (Nat.le_succ _), ((s3.set' _).set' _).set' _, (rwl_set3 s4).none, s5.keep (((Below.heap_setCell _ ⟨w.heap.size + 1, 2, none⟩ _ lb hlz).trans (Below.heap_setCell _ ⟨w.heap.size + 1, 1, none⟩ _ lb hlz)).trans (Below.heap_setCell _ ⟨w.heap.size + 1, 0, none⟩ _ lb hlz)), ((s6.farB hA _).farB hA _).farB hA _⟩ (by
        unfold fdC; rw [if_neg (by decide), if_pos rfl]
        intro b hb
        exact ((Below.heap_setCell _ ⟨w.heap.size + 1, 2, none⟩ _ b hb).trans (Below.heap_setCell _ ⟨w.heap.size + 1, 1, none⟩ _ b hb)).trans (Below.heap_setCell _ ⟨w.heap.size + 1, 0, none⟩ _ b hb))
    exact FlowStepsT.nil
  · intro d ρ W hdd hS hd
    simp only [putFrom, Act.put, List.setIfInBounds_toArray, List.set_cons_zero, List.set_cons_succ, Nat.reduceAdd]
    have hrow : LRow W w.heap.size (.int .i64 m) (.slice A nl cl) (.int .i64 k2) := hd.out 18 (by decide) (by kernel_rfl)
    obtain ⟨tg, tw, tr, hg⟩ : ∃ tg tw tr, GRow W (w.heap.size + 1) tg tw tr := hd.out 19 (by decide) (by kernel_rfl)
    clear hd
    have c0 := hrow.c0
    have c1 := hrow.c1
    have c2 := hrow.c2
    have d0 := hg.c0
    have d1 := hg.c1
    have d2 := hg.c2
    have BW := hide hS.2.1
    have OW := hide (hS.2.2.2.2.2.mono (show w.heap.size ≤ w1.heap.size by omega))
    clear hS hrow hg
    go_wp2_with fail
    exact bodyPost_ret (v := .tuple #[.agg #[.int .i64 m, .slice A nl cl, .int .i64 k2], .agg #[.bool tg, .int .i64 tw, .int .i64 tr]]) (by simp [results, Try.results29, go_sem, *]) rfl ⟨A, nl, cl, l, m, k2, tg, tw, tr, rfl, HLL.out, hn', OW.out, BW.out⟩
end Go.Proofs.Ytpifnfhgaemdmaa
