/-
  What is drawn for the laws of processes. No condition.
-/
import Derived.Test.YtlfchcjollcdhaaProg
import Derived.Test.YtlfchcjollcdhaaPld
namespace Go.Proofs.Ytlfchcjollcdhaa
open Go.RowKit
set_option linter.unusedSimpArgs false
set_option linter.unusedVariables false

/-- How many of the picks were carried out. -/
def cntD (d : Nat → Bool) (ps : List Nat) : Nat := (ps.filter d).length
theorem cntD_set {d : Nat → Bool} {i : Nat} (hd : d i = false) : ∀ ps : List Nat, ps.Nodup → i ∈ ps → cntD (setD d i) ps = cntD d ps + 1
  | [], _, h => by cases h
  | p :: ps, hn, h => by
    obtain ⟨hp, hn⟩ := List.nodup_cons.1 hn
    by_cases e : p = i
    · subst e
      have : cntD (setD d p) ps = cntD d ps := by
        unfold cntD
        congr 1
        refine List.filter_congr fun x hx => ?_
        have : x ≠ p := fun e => hp (e ▸ hx)
        simp [setD, this]
      simp only [cntD, List.filter_cons, hd] at this ⊢
      simp [setD] at this ⊢
      exact this
    · have := cntD_set hd ps hn (by rcases List.mem_cons.1 h with e' | e'; exact absurd e'.symm e; exact e')
      simp only [cntD, List.filter_cons] at this ⊢
      have e2 : setD d i p = d p := by simp [setD, e]
      rw [e2]
      cases d p <;> simp [this]
theorem cntD_keep {d : Nat → Bool} {i : Nat} : ∀ ps : List Nat, i ∉ ps → cntD (setD d i) ps = cntD d ps := fun ps h => by
  unfold cntD
  congr 1
  refine List.filter_congr fun x hx => ?_
  have : x ≠ i := fun e => h (e ▸ hx)
  simp [setD, this]
theorem cntD_le (d : Nat → Bool) (ps : List Nat) : cntD d ps ≤ ps.length := List.length_filter_le _ _
def IB (lo hi : Int) (v : Value) : Prop := ∃ x : Int, v = .int .i64 x ∧ lo ≤ x ∧ x ≤ hi
theorem InB.below {w w' : World} {A : Option Addr} {n c : Nat} (h : InB w A n c) (hb : Below w.heap.size w w') : InB w' A n c :=
  ⟨h.1, h.2.1, fun h0 => by
    obtain ⟨b, off, hA, hlt, hne, hc⟩ := h.2.2 h0
    have := hb.size
    refine ⟨b, off, hA, by omega, by omega, fun i hi => ?_⟩
    obtain ⟨x, h1, h2, h3⟩ := hc i hi
    exact ⟨x, h1, h2, (hb.cell (p := ⟨b, _, none⟩) hlt).trans h3⟩⟩
/-- A list that was drawn. -/
def GotP (w : World) (A : Option Addr) (n c : Nat) (l : List Pcs) (w' : World) : Prop := l.length = n ∧ n ≤ 13 ∧ OwnSP w' w.heap.size n c A l ∧ Below w.heap.size w w'
theorem gProcs_c (A : Option Addr) (n c : Nat) (w : World) (h : InB w A n c) : Calls Try.prog 16 #[.slice A n c] w fun e w' => ∃ A n c l, e = .returned (.slice A n c) ∧ GotP w A n c l w' := by
  have H := hide h
  clear h
  go_enter Try.func16, Try.ntmps16
  go_wp2_with fail
  refine (open_c A n c _ H.out).mono ?_
  rintro e w1 ⟨r, rfl, hr, hrd, hb1⟩
  have hz := hb1.size
  go_wp2_with fail
  refine (drawProcs_c w1.heap.size r 0 2 _ (by omega) (by omega) (by omega) hrd).mono ?_
  rintro e w2 ⟨A', n', c', l, rfl, hn', ⟨hs, ho, hl⟩, ha⟩
  have HB := hide (ha.below hb1 hr hz)
  have HO := hide (ho.mono hz)
  clear hs ho ha hb1 hrd
  go_wp2_with fail
  go_ret
  exact ⟨A', n', c', l, rfl, hl, by omega, HO.out, HB.out⟩
set_option maxHeartbeats 1000000 in
theorem gWait_c (A : Option Addr) (n c : Nat) (w : World) (h : InB w A n c) : Calls Try.prog 25 #[.slice A n c] w fun e w' => ∃ A n c l q, e = .returned (.tuple #[.slice A n c, .int .i64 q]) ∧ GotP w A n c l w' := by
  have H := hide h
  clear h
  go_enter Try.func25, Try.ntmps25
  go_wp2_with fail
  refine (open_c A n c _ H.out).mono ?_
  rintro e w1 ⟨r, rfl, hr, hrd, hb1⟩
  have hz := hb1.size
  go_wp2_with fail
  refine (drawProcs_c w1.heap.size r 0 9 _ (by omega) (by omega) (by omega) hrd).mono ?_
  rintro e w2 ⟨A', n', c', l, rfl, hn', ⟨hs, ho, hl⟩, ha⟩
  have hrz := hs.size
  go_wp2_with fail
  refine (pick_s w1 w1.heap.size r _ 4 _ (by omega) (by omega) ?_ hs).mono ?_
  · omega
  rintro e w3 ⟨x, rfl, x0, x1, hs3, ha3⟩
  have HB := hide ((ha.trans ha3).below hb1 hr hz)
  have HO := hide ((ho.aside ha3 (by omega)).mono hz)
  have jw := IntWalk.i64_in (1 + x) (by omega)
  clear hs hs3 ho ha ha3 hb1 hrd
  go_wp2_with fail
  exact bodyPost_ret (v := .tuple #[.slice A' n' c', .int .i64 (1 + x)]) (by simp [results, Try.results25, go_sem, *]) rfl ⟨A', n', c', l, _, rfl, hl, by omega, HO.out, HB.out⟩
set_option maxHeartbeats 2000000 in
theorem gFork_c (A : Option Addr) (n c : Nat) (w : World) (h : InB w A n c) : Calls Try.prog 18 #[.slice A n c] w fun e w' => ∃ A n c l q, e = .returned (.tuple #[.slice A n c, .int .i64 q]) ∧ GotP w A n c l w' := by
  obtain ⟨i0, hi0, hz0, hz1, hz2⟩ := info_parts infoProcess
  have HI := hide hi0
  have HZ0 := hide hz0
  have HZ1 := hide hz1
  have HZ2 := hide hz2
  clear hi0 hz0 hz1 hz2
  have H := hide h
  clear h
  go_enter Try.func18, Try.ntmps18
  go_wp2_with fail
  refine (open_c A n c _ H.out).mono ?_
  rintro e w1 ⟨r, rfl, hr, hrd, hb1⟩
  have hz := hb1.size
  go_wp2_with fail
  refine (drawProcs_c w1.heap.size r 0 9 _ (by omega) (by omega) (by omega) hrd).mono ?_
  rintro e w2 ⟨A', n', c', l, rfl, hn', ⟨hs, ho, hl⟩, ha⟩
  have hrz := hs.size
  go_wp2_with fail
  refine (odd_s w1 w1.heap.size r _ 12 _ (by omega) (by omega) ?_ hs).mono ?_
  · omega
  rintro e w3 ⟨o, rfl, hs3, ha3⟩
  have HO := hide (ho.aside ha3 (by omega))
  have HL := hide hl
  clear hs ho ha hrd
  have AS := hs3.2.1
  by_cases hno : o = true ∧ 0 < n'
  · obtain ⟨rfl, hn0⟩ := hno
    have OW := hide ((HO.out.own HL.out).alloc (.cells #[.int .i64 99, .int .i64 1, .int .i64 0, .int .i64 0, .int .i64 0, .int .i64 0, .bool false, .int .i64 0] 39))
    have h0n : ((n' : Int) > 0) = True := by simp; omega
    go_wp2_with (at_builtin; refine wpList_append_own _ rfl _ _ 25 rfl w1.heap.size 39 i0 _ 8 64 Try.underlying25 HI.out HZ0.out HZ1.out HZ2.out rfl (by decide) _ _ _ rfl OW.out ⟨w3.heap.size, 0, none⟩ 1 1 (flatP [⟨99, 1, 0, 0, 0, 0, false, 0⟩]) rfl rfl ?qa0 (flatP_one _) ?qb0 ?qd0 ?qe0 ?_)
    case qa0 => exact flatP_newL w3 _ [⟨99, 1, 0, 0, 0, 0, false, 0⟩] _ rfl
    case qb0 => unfold maxLen; omega
    case qd0 => omega
    case qe0 => simp; have := hs3.size; omega
    intro v' w4 hown hgrow hnil
    rw [← flatP_app] at hown
    obtain ⟨A4, c4, rfl, ho4⟩ := ownSP_of hown (by simp [HL.out])
    have S4 := (hs3.alloc (.cells #[.int .i64 99, .int .i64 1, .int .i64 0, .int .i64 0, .int .i64 0, .int .i64 0, .bool false, .int .i64 0] 39)).grown hgrow (fun q hq => (OW.out.lt q hq).1)
    have O4 := hide ho4
    clear hown hgrow hnil ho4 OW
    go_wp2_with fail
    refine (pick_s w1 w1.heap.size r _ 7 _ (by omega) (by omega) ?_ S4).mono ?_
    · omega
    rintro e w5 ⟨x, rfl, x0, x1, hs5, ha5⟩
    have HB := hide (hs5.2.1.below hb1 hr hz)
    have HO5 := hide ((O4.out.aside ha5 (by omega)).mono hz)
    have jw := IntWalk.i64_in (1 + x) (by omega)
    clear hs3 hs5 S4 ha5 ha3 hb1
    go_wp2_with fail
    exact bodyPost_ret (v := .tuple #[.slice A4 (n' + 1) c4, .int .i64 (1 + x)]) (by simp [results, Try.results18, go_sem, *]) rfl ⟨A4, n' + 1, c4, _, _, rfl, by simp [HL.out], by omega, HO5.out, HB.out⟩
  · have hb : (o && decide ((n' : Int) > 0)) = false := by
      cases o
      · rfl
      · simp; simp at hno; omega
    have HG := hide hno
    clear hno
    cases o with
    | false =>
      go_wp2_with fail
      refine (pick_s w1 w1.heap.size r _ 7 _ (by omega) (by omega) ?_ hs3).mono ?_
      · omega
      rintro e w5 ⟨x, rfl, x0, x1, hs5, ha5⟩
      have HB := hide (hs5.2.1.below hb1 hr hz)
      have HO5 := hide ((HO.out.aside ha5 (by omega)).mono hz)
      have jw := IntWalk.i64_in (1 + x) (by omega)
      clear hs3 hs5 ha5 ha3 hb1
      go_wp2_with fail
      exact bodyPost_ret (v := .tuple #[.slice A' _ c', .int .i64 (1 + x)]) (by simp [results, Try.results18, go_sem, *]) rfl ⟨A', _, c', l, _, rfl, HL.out, by omega, HO5.out, HB.out⟩
    | true =>
      obtain rfl : n' = 0 := by have := HG.out; simp at this; omega
      go_wp2_with fail
      refine (pick_s w1 w1.heap.size r _ 7 _ (by omega) (by omega) ?_ hs3).mono ?_
      · omega
      rintro e w5 ⟨x, rfl, x0, x1, hs5, ha5⟩
      have HB := hide (hs5.2.1.below hb1 hr hz)
      have HO5 := hide ((HO.out.aside ha5 (by omega)).mono hz)
      have jw := IntWalk.i64_in (1 + x) (by omega)
      clear hs3 hs5 ha5 ha3 hb1
      go_wp2_with fail
      exact bodyPost_ret (v := .tuple #[.slice A' _ c', .int .i64 (1 + x)]) (by simp [results, Try.results18, go_sem, *]) rfl ⟨A', _, c', l, _, rfl, HL.out, by omega, HO5.out, HB.out⟩
def psE : List Nat := [2, 5, 9]
/-- What is known of each operation of the last drawing statement. -/
def feF (lo r nl cl : Nat) (A : Option Addr) (i : Nat) (v : Value) (vs : List Value) (W : World) : Prop :=
  match i with
  | 0 => v = .slice A nl cl
  | 1 => v = .pointer (some ⟨r, 0, none⟩)
  | 2 => IB 0 6 v
  | 3 => ∃ x : Int, v = .int .i64 x
  | 4 => v = .pointer (some ⟨r, 0, none⟩)
  | 5 => ∃ x : Int, v = .int .i64 x
  | 6 => ∃ (g : Nat) (x : Int), v = .slice (some ⟨g, 0, none⟩) 3 3 ∧ lo ≤ g ∧ Row W g 3 (rwl [.int .i64 x, .int .i64 (-1), .int .i64 256])
  | 7 => ∃ g : Nat, v = .slice (some ⟨g, 0, none⟩) 6 6 ∧ lo ≤ g ∧ Row W g 6 (rwl [.int .i64 0, .int .i64 0, .int .i64 0, .int .i64 0, .int .i64 1, .int .i64 2])
  | 8 => v = .pointer (some ⟨r, 0, none⟩)
  | 9 => IB 0 5 v
  | 10 => ∃ g z : Nat, v = .pointer (some ⟨g, z, none⟩) ∧ z < 6 ∧ lo ≤ g ∧ Row W g 6 (rwl [.int .i64 0, .int .i64 0, .int .i64 0, .int .i64 0, .int .i64 1, .int .i64 2])
  | 11 => IB 0 2 v
  | 12 => ∃ (g z : Nat) (x : Int), v = .pointer (some ⟨g, z, none⟩) ∧ z < 3 ∧ lo ≤ g ∧ Row W g 3 (rwl [.int .i64 x, .int .i64 (-1), .int .i64 256])
  | 13 => ∃ x : Int, v = .int .i64 x
  | 14 => v = .slice A nl cl
  | 15 => ∃ x : Int, v = .int .i64 x
  | 16 => ∃ x : Int, v = .int .i64 x
  | _ => True
theorem feF_keep {lo r nl cl j : Nat} {A : Option Addr} {v : Value} {vs : List Value} {W W' : World} (hr : r < lo) (h : feF lo r nl cl A j v vs W) (hc : Aside r W W') : feF lo r nl cl A j v vs W' := by
  unfold feF at h ⊢
  split <;> simp only at h <;> try exact h
  · obtain ⟨g, x, rfl, hg, hR⟩ := h
    exact ⟨g, x, rfl, hg, hc.row (by omega) hR⟩
  · obtain ⟨g, rfl, hg, hR⟩ := h
    exact ⟨g, rfl, hg, hc.row (by omega) hR⟩
  · obtain ⟨g, z, rfl, hz, hg, hR⟩ := h
    exact ⟨g, z, rfl, hz, hg, hc.row (by omega) hR⟩
  · obtain ⟨g, z, x, rfl, hz, hg, hR⟩ := h
    exact ⟨g, z, x, rfl, hz, hg, hc.row (by omega) hR⟩
def feS (w w1 : World) (r nl cl : Nat) (A : Option Addr) (l : List Pcs) (d : Nat → Bool) (W : World) : Prop :=
  St w1 w1.heap.size r (110 + cntD d psE) W ∧ Below w.heap.size w W ∧ OwnSP W w1.heap.size nl cl A l
theorem feS.same {w w1 : World} {r nl cl : Nat} {A : Option Addr} {l : List Pcs} {d d' : Nat → Bool} {W W' : World} (h : feS w w1 r nl cl A l d W) (hb : Below W.heap.size W W') (hz : w.heap.size ≤ w1.heap.size) (hc : cntD d' psE = cntD d psE) : feS w w1 r nl cl A l d' W' := by
  obtain ⟨s1, s2, s3⟩ := h
  have hs := s1.size
  exact ⟨by rw [hc]; exact s1.below (s1.2.1.then_below hb) (hb.mono (by omega)), s2.trans (hb.mono (by omega)), s3.below hb⟩
theorem feS.aside {w w1 : World} {r nl cl : Nat} {A : Option Addr} {l : List Pcs} {d d' : Nat → Bool} {W W' : World} (hr : w.heap.size ≤ r) (hr1 : r < w1.heap.size) (h : feS w w1 r nl cl A l d W) (ha : Aside r W W') (hs : St w1 w1.heap.size r (110 + cntD d' psE) W') : feS w w1 r nl cl A l d' W' :=
  ⟨hs, ha.below h.2.1 hr h.2.1.size, h.2.2.aside ha hr1⟩
set_option maxHeartbeats 4000000 in
theorem gEnd_c (A : Option Addr) (n c : Nat) (w : World) (h : InB w A n c) : Calls Try.prog 22 #[.slice A n c] w fun e w' => ∃ A n c l q x, e = .returned (.tuple #[.slice A n c, .int .i64 q, .int .i64 x]) ∧ GotP w A n c l w' := by
  have H := hide h
  clear h
  go_enter Try.func22, Try.ntmps22
  go_wp2_with fail
  refine (open_c A n c _ H.out).mono ?_
  rintro e w1 ⟨r, rfl, hr, hrd, hb1⟩
  have hz := hb1.size
  have hrw := hrd.1
  go_wp2_with fail
  refine (drawProcs_c w1.heap.size r 0 9 _ (by omega) (by omega) (by omega) hrd).mono ?_
  rintro e w2 ⟨A, nl, cl, l, rfl, hn', ⟨hs, ho, hl⟩, ha⟩
  have HS0 := hide (show feS w w1 r nl cl A l (fun j => decide (17 ≤ j)) w2.drew from ⟨(hs.mono (by omega)).drew, (ha.below hb1 hr hz).drew, ho⟩)
  clear hs ho ha hrd hb1
  go_wp2_with fail
  refine wp_flowT' (os := [_, _, _, _, _, _, _, _, _, _, _, _, _, _, _, _, _]) (feS w w1 r nl cl A l) ((fun _ => Aside r)) (feF w1.heap.size r nl cl A) 17 rfl ?_ ?_ ?_ ?_ ?_ ?_ ?_
  · kernel_rfl
  · kernel_rfl
  · kernel_rfl
  · exact (fun i j v vs w1 w2 hij hdd hbf h hc => feF_keep hrw h hc)
  · exact HS0.out
  ·
    refine FlowStepsT.stepY 25 17 1 rfl rfl (by kernel_rfl) (by kernel_rfl) (by kernel_rfl) rfl rfl ?_ ?_
    ·
      intro cc act vs W hcc ha hvs hS hd hi K hK
      clear ha
      have u6 : act.tmps[6]? = some (.slice A nl cl) := (hi.out 6 (by kernel_rfl)).trans rfl
      clear hd hi
      clear hvs
      refine wanted_un rfl ?_
      go_simp
      exact hK.out _ _ rfl (hS.same (Below.refl _ _) hz (cntD_keep _ (by decide))) (Aside.refl _ _)
    refine FlowStepsT.stepY 25 17 2 rfl rfl (by kernel_rfl) (by kernel_rfl) (by kernel_rfl) rfl rfl ?_ ?_
    ·
      intro cc act vs W hcc ha hvs hS hd hi K hK
      clear ha
      have u5 : act.tmps[5]? = some (.pointer (some ⟨r, 0, none⟩)) := (hi.out 5 (by kernel_rfl)).trans rfl
      clear hd hi
      clear hvs
      refine wanted_un rfl ?_
      go_simp
      exact hK.out _ _ rfl (hS.same (Below.refl _ _) hz (cntD_keep _ (by decide))) (Aside.refl _ _)
    refine FlowStepsT.stepY 25 17 3 rfl rfl (by kernel_rfl) (by kernel_rfl) (by kernel_rfl) rfl rfl ?_ ?_
    ·
      intro cc act vs W hcc ha hvs hS hd hi K hK
      clear ha
      have u12 : act.tmps[12]? = some (.pointer (some ⟨r, 0, none⟩)) := by obtain ⟨_, u, _, h⟩ := hd.out ⟨1, .data⟩ (some 12) (by simp) rfl rfl; exact u.trans (congrArg some h)
      clear hd hi
      clear hvs
      refine wanted_un rfl ?_
      have hc0 := hcc.out.1
      have hst := hS.1
      have hcl := cntD_le cc psE
      have hzz := hst.size
      simp only [psE, List.length_cons, List.length_nil] at hcl
      go_wp2_with fail
      refine (pick_s w1 w1.heap.size r _ 7 _ (by omega) (by omega) (by simp only [psE]; omega) hst).mono ?_
      rintro e w6 ⟨x, rfl, x0, x1, hs6, ha6⟩
      exact hK.out _ w6 ⟨x, rfl, by omega, by omega⟩ (hS.aside hr hrw ha6 (by rw [cntD_set hc0 psE (by decide) (by decide)]; exact hs6)) ha6
    refine FlowStepsT.stepY 25 17 4 rfl rfl (by kernel_rfl) (by kernel_rfl) (by kernel_rfl) rfl rfl ?_ ?_
    ·
      intro cc act vs W hcc ha hvs hS hd hi K hK
      clear ha
      obtain ⟨_, u13, _, ⟨x, rfl, x0, x1⟩⟩ := hd.out ⟨2, .data⟩ (some 13) (by simp) rfl rfl
      clear hd hi
      clear hvs
      refine wanted_un rfl ?_
      have jw := IntWalk.i64_in (1 + x) (by omega)
      go_simp
      exact hK.out _ _ ⟨_, rfl⟩ (hS.same (Below.refl _ _) hz (cntD_keep _ (by decide))) (Aside.refl _ _)
    refine FlowStepsT.stepY 25 17 5 rfl rfl (by kernel_rfl) (by kernel_rfl) (by kernel_rfl) rfl rfl ?_ ?_
    ·
      intro cc act vs W hcc ha hvs hS hd hi K hK
      clear ha
      have u5 : act.tmps[5]? = some (.pointer (some ⟨r, 0, none⟩)) := (hi.out 5 (by kernel_rfl)).trans rfl
      clear hd hi
      clear hvs
      refine wanted_un rfl ?_
      go_simp
      exact hK.out _ _ rfl (hS.same (Below.refl _ _) hz (cntD_keep _ (by decide))) (Aside.refl _ _)
    refine FlowStepsT.stepY 25 17 6 rfl rfl (by kernel_rfl) (by kernel_rfl) (by kernel_rfl) rfl rfl ?_ ?_
    ·
      intro cc act vs W hcc ha hvs hS hd hi K hK
      clear ha
      have u15 : act.tmps[15]? = some (.pointer (some ⟨r, 0, none⟩)) := by obtain ⟨_, u, _, h⟩ := hd.out ⟨4, .data⟩ (some 15) (by simp) rfl rfl; exact u.trans (congrArg some h)
      clear hd hi
      clear hvs
      refine wanted_un rfl ?_
      have hc0 := hcc.out.1
      have hst := hS.1
      have hcl := cntD_le cc psE
      have hzz := hst.size
      simp only [psE, List.length_cons, List.length_nil] at hcl
      go_wp2_with fail
      refine (pick_s w1 w1.heap.size r _ 256 _ (by omega) (by omega) (by simp only [psE]; omega) hst).mono ?_
      rintro e w6 ⟨x, rfl, x0, x1, hs6, ha6⟩
      exact hK.out _ w6 ⟨x, rfl⟩ (hS.aside hr hrw ha6 (by rw [cntD_set hc0 psE (by decide) (by decide)]; exact hs6)) ha6
    refine FlowStepsT.stepY 25 17 7 rfl rfl (by kernel_rfl) (by kernel_rfl) (by kernel_rfl) rfl rfl ?_ ?_
    ·
      intro cc act vs W hcc ha hvs hS hd hi K hK
      clear ha
      obtain ⟨_, u16, _, ⟨x, rfl⟩⟩ := hd.out ⟨5, .data⟩ (some 16) (by simp) rfl rfl
      clear hd hi
      clear hvs
      refine wanted_un rfl ?_
      go_wp2_with fail
      exact hK.out _ (W.alloc (.cells #[.int .i64 x, .int .i64 (-1), .int .i64 256] 3)) ⟨W.heap.size, x, rfl, hS.1.size.2.2, Row.madeL W 3 [.int .i64 x, .int .i64 (-1), .int .i64 256]⟩ (hS.same (below_alloc0 (Below.refl _ _) _) hz (cntD_keep _ (by decide))) ((Aside.refl r W).alloc _)
    refine FlowStepsT.stepY 25 17 8 rfl rfl (by kernel_rfl) (by kernel_rfl) (by kernel_rfl) rfl rfl ?_ ?_
    ·
      intro cc act vs W hcc ha hvs hS hd hi K hK
      clear ha
      clear hd hi
      clear hvs
      refine wanted_un rfl ?_
      go_wp2_with fail
      exact hK.out _ (W.alloc (.cells #[.int .i64 0, .int .i64 0, .int .i64 0, .int .i64 0, .int .i64 1, .int .i64 2] 3)) ⟨W.heap.size, rfl, hS.1.size.2.2, Row.madeL W 3 [.int .i64 0, .int .i64 0, .int .i64 0, .int .i64 0, .int .i64 1, .int .i64 2]⟩ (hS.same (below_alloc0 (Below.refl _ _) _) hz (cntD_keep _ (by decide))) ((Aside.refl r W).alloc _)
    refine FlowStepsT.stepY 25 17 9 rfl rfl (by kernel_rfl) (by kernel_rfl) (by kernel_rfl) rfl rfl ?_ ?_
    ·
      intro cc act vs W hcc ha hvs hS hd hi K hK
      clear ha
      have u5 : act.tmps[5]? = some (.pointer (some ⟨r, 0, none⟩)) := (hi.out 5 (by kernel_rfl)).trans rfl
      clear hd hi
      clear hvs
      refine wanted_un rfl ?_
      go_simp
      exact hK.out _ _ rfl (hS.same (Below.refl _ _) hz (cntD_keep _ (by decide))) (Aside.refl _ _)
    refine FlowStepsT.stepY 25 17 10 rfl rfl (by kernel_rfl) (by kernel_rfl) (by kernel_rfl) rfl rfl ?_ ?_
    ·
      intro cc act vs W hcc ha hvs hS hd hi K hK
      clear ha
      have u19 : act.tmps[19]? = some (.pointer (some ⟨r, 0, none⟩)) := by obtain ⟨_, u, _, h⟩ := hd.out ⟨8, .data⟩ (some 19) (by simp) rfl rfl; exact u.trans (congrArg some h)
      clear hd hi
      clear hvs
      refine wanted_un rfl ?_
      have hc0 := hcc.out.1
      have hst := hS.1
      have hcl := cntD_le cc psE
      have hzz := hst.size
      simp only [psE, List.length_cons, List.length_nil] at hcl
      go_wp2_with fail
      refine (pick_s w1 w1.heap.size r _ 6 _ (by omega) (by omega) (by simp only [psE]; omega) hst).mono ?_
      rintro e w6 ⟨x, rfl, x0, x1, hs6, ha6⟩
      exact hK.out _ w6 ⟨x, rfl, by omega, by omega⟩ (hS.aside hr hrw ha6 (by rw [cntD_set hc0 psE (by decide) (by decide)]; exact hs6)) ha6
    refine FlowStepsT.stepY 25 17 11 rfl rfl (by kernel_rfl) (by kernel_rfl) (by kernel_rfl) rfl rfl ?_ ?_
    ·
      intro cc act vs W hcc ha hvs hS hd hi K hK
      clear ha
      obtain ⟨_, u18, _, ⟨g, rfl, hg, hR⟩⟩ := hd.out ⟨7, .data⟩ (some 18) (by simp) rfl rfl
      obtain ⟨_, u20, _, ⟨x, rfl, x0, x1⟩⟩ := hd.out ⟨9, .data⟩ (some 20) (by simp) rfl rfl
      clear hd hi
      clear hvs
      refine wanted_un rfl ?_
      obtain ⟨x, rfl⟩ := Int.eq_ofNat_of_zero_le x0
      have x6 : (x : Int) < 6 := by omega
      go_simp
      exact hK.out _ _ ⟨g, x, rfl, by omega, hg, hR⟩ (hS.same (Below.refl _ _) hz (cntD_keep _ (by decide))) (Aside.refl _ _)
    refine FlowStepsT.stepY 25 17 12 rfl rfl (by kernel_rfl) (by kernel_rfl) (by kernel_rfl) rfl rfl ?_ ?_
    ·
      intro cc act vs W hcc ha hvs hS hd hi K hK
      clear ha
      obtain ⟨_, u21, _, ⟨g, z, rfl, hz6, hg, hR⟩⟩ := hd.out ⟨10, .data⟩ (some 21) (by simp) rfl rfl
      clear hd hi
      clear hvs
      refine wanted_un rfl ?_
      have hgl := hR.lt
      obtain rfl | rfl | rfl | rfl | rfl | rfl : z = 0 ∨ z = 1 ∨ z = 2 ∨ z = 3 ∨ z = 4 ∨ z = 5 := by omega
      · have hc := hR.cell (j := 0) rfl
        go_simp
        exact hK.out _ _ ⟨_, rfl, by decide, by decide⟩ (hS.same (Below.refl _ _) hz (cntD_keep _ (by decide))) (Aside.refl _ _)
      · have hc := hR.cell (j := 1) rfl
        go_simp
        exact hK.out _ _ ⟨_, rfl, by decide, by decide⟩ (hS.same (Below.refl _ _) hz (cntD_keep _ (by decide))) (Aside.refl _ _)
      · have hc := hR.cell (j := 2) rfl
        go_simp
        exact hK.out _ _ ⟨_, rfl, by decide, by decide⟩ (hS.same (Below.refl _ _) hz (cntD_keep _ (by decide))) (Aside.refl _ _)
      · have hc := hR.cell (j := 3) rfl
        go_simp
        exact hK.out _ _ ⟨_, rfl, by decide, by decide⟩ (hS.same (Below.refl _ _) hz (cntD_keep _ (by decide))) (Aside.refl _ _)
      · have hc := hR.cell (j := 4) rfl
        go_simp
        exact hK.out _ _ ⟨_, rfl, by decide, by decide⟩ (hS.same (Below.refl _ _) hz (cntD_keep _ (by decide))) (Aside.refl _ _)
      · have hc := hR.cell (j := 5) rfl
        go_simp
        exact hK.out _ _ ⟨_, rfl, by decide, by decide⟩ (hS.same (Below.refl _ _) hz (cntD_keep _ (by decide))) (Aside.refl _ _)
    refine FlowStepsT.stepY 25 17 13 rfl rfl (by kernel_rfl) (by kernel_rfl) (by kernel_rfl) rfl rfl ?_ ?_
    ·
      intro cc act vs W hcc ha hvs hS hd hi K hK
      clear ha
      obtain ⟨_, u17, _, ⟨g, y, rfl, hg, hR⟩⟩ := hd.out ⟨6, .data⟩ (some 17) (by simp) rfl rfl
      obtain ⟨_, u22, _, ⟨x, rfl, x0, x1⟩⟩ := hd.out ⟨11, .data⟩ (some 22) (by simp) rfl rfl
      clear hd hi
      clear hvs
      refine wanted_un rfl ?_
      obtain ⟨x, rfl⟩ := Int.eq_ofNat_of_zero_le x0
      have x3 : (x : Int) < 3 := by omega
      go_simp
      exact hK.out _ _ ⟨g, x, y, rfl, by omega, hg, hR⟩ (hS.same (Below.refl _ _) hz (cntD_keep _ (by decide))) (Aside.refl _ _)
    refine FlowStepsT.stepY 25 17 14 rfl rfl (by kernel_rfl) (by kernel_rfl) (by kernel_rfl) rfl rfl ?_ ?_
    ·
      intro cc act vs W hcc ha hvs hS hd hi K hK
      clear ha
      obtain ⟨_, u23, _, ⟨g, z, y, rfl, hz3, hg, hR⟩⟩ := hd.out ⟨12, .data⟩ (some 23) (by simp) rfl rfl
      clear hd hi
      clear hvs
      refine wanted_un rfl ?_
      have hgl := hR.lt
      obtain rfl | rfl | rfl : z = 0 ∨ z = 1 ∨ z = 2 := by omega
      · have hc := hR.cell (j := 0) rfl
        go_simp
        exact hK.out _ _ ⟨_, rfl⟩ (hS.same (Below.refl _ _) hz (cntD_keep _ (by decide))) (Aside.refl _ _)
      · have hc := hR.cell (j := 1) rfl
        go_simp
        exact hK.out _ _ ⟨_, rfl⟩ (hS.same (Below.refl _ _) hz (cntD_keep _ (by decide))) (Aside.refl _ _)
      · have hc := hR.cell (j := 2) rfl
        go_simp
        exact hK.out _ _ ⟨_, rfl⟩ (hS.same (Below.refl _ _) hz (cntD_keep _ (by decide))) (Aside.refl _ _)
    refine FlowStepsT.stepY 25 17 15 rfl rfl (by kernel_rfl) (by kernel_rfl) (by kernel_rfl) rfl rfl ?_ ?_
    ·
      intro cc act vs W hcc ha hvs hS hd hi K hK
      clear ha
      have u11 : act.tmps[11]? = some (.slice A nl cl) := by obtain ⟨_, u, _, h⟩ := hd.out ⟨0, .data⟩ (some 11) (by simp) rfl rfl; exact u.trans (congrArg some h)
      clear hd hi
      clear hvs
      refine wanted_un rfl ?_
      go_simp
      exact hK.out _ _ rfl (hS.same (Below.refl _ _) hz (cntD_keep _ (by decide))) (Aside.refl _ _)
    refine FlowStepsT.stepY 25 17 16 rfl rfl (by kernel_rfl) (by kernel_rfl) (by kernel_rfl) rfl rfl ?_ ?_
    ·
      intro cc act vs W hcc ha hvs hS hd hi K hK
      clear ha
      obtain ⟨_, u14, _, ⟨x, rfl⟩⟩ := hd.out ⟨3, .data⟩ (some 14) (by simp) rfl rfl
      clear hd hi
      clear hvs
      refine wanted_un rfl ?_
      go_simp
      exact hK.out _ _ ⟨_, rfl⟩ (hS.same (Below.refl _ _) hz (cntD_keep _ (by decide))) (Aside.refl _ _)
    refine FlowStepsT.stepY 25 17 17 rfl rfl (by kernel_rfl) (by kernel_rfl) (by kernel_rfl) rfl rfl ?_ ?_
    ·
      intro cc act vs W hcc ha hvs hS hd hi K hK
      clear ha
      obtain ⟨_, u24, _, ⟨x, rfl⟩⟩ := hd.out ⟨13, .data⟩ (some 24) (by simp) rfl rfl
      clear hd hi
      clear hvs
      refine wanted_un rfl ?_
      go_simp
      exact hK.out _ _ ⟨_, rfl⟩ (hS.same (Below.refl _ _) hz (cntD_keep _ (by decide))) (Aside.refl _ _)
    exact FlowStepsT.nil
  · intro d ρ W hdd hS hd
    simp only [putFrom, Act.put, List.setIfInBounds_toArray, List.set_cons_zero, List.set_cons_succ, Nat.reduceAdd]
    have e0 : ρ 14 = .slice A nl cl := hd.out 14 (by decide) (by kernel_rfl)
    obtain ⟨q, e3⟩ : ∃ x : Int, ρ 15 = .int .i64 x := hd.out 15 (by decide) (by kernel_rfl)
    obtain ⟨x, e13⟩ : ∃ x : Int, ρ 16 = .int .i64 x := hd.out 16 (by decide) (by kernel_rfl)
    clear hd
    generalize ρ 14 = z0 at e0 ⊢
    generalize ρ 15 = z3 at e3 ⊢
    generalize ρ 16 = z13 at e13 ⊢
    subst e0 e3 e13
    have BW := hide hS.2.1
    have OW := hide (hS.2.2.mono hz)
    clear hS
    go_wp2_with fail
    exact bodyPost_ret (v := .tuple #[.slice A nl cl, .int .i64 q, .int .i64 x]) (by simp [results, Try.results22, go_sem, *]) rfl ⟨A, nl, cl, l, q, x, rfl, hl, by omega, OW.out, BW.out⟩
end Go.Proofs.Ytlfchcjollcdhaa
