/-
  EndProcess of the program. No condition.
-/
import Derived.Test.YtlfchcjollcdhaaProg
import Derived.Test.YtlfchcjollcdhaaPrs
namespace Go.Proofs.Ytlfchcjollcdhaa
open Go.RowKit
set_option linter.unusedSimpArgs false
set_option linter.unusedVariables false

set_option maxRecDepth 100000 in
set_option maxHeartbeats 4000000 in
theorem endImpl_c (A : Option Addr) (n c : Nat) (l : List Pcs) (q x : Int) (hn : n ≤ 1048576) (hc : n ≤ c) (w : World) (hI : InProcess w A n l) :
    Calls Try.prog 23 #[.slice A n c, .int .i64 q, .int .i64 x] w (EdOut w l q x) := by
  obtain ⟨i0, hi0, hz0, hz1, hz2⟩ := info_parts infoProcess
  have HII := hide hi0
  have HZ0 := hide hz0
  have HZ1 := hide hz1
  have HZ2 := hide hz2
  clear hi0 hz0 hz1 hz2
  have HI := hide hI
  have HL := hide hI.1
  clear hI
  go_enter Try.func23, Try.ntmps23
  go_wp2_with fail
  refine (pvImpl_c _ _ _ l hn hc _ HI.out).mono ?_
  rintro e w1 ⟨rfl, hb1⟩
  have B1 := hide hb1
  clear hb1
  cases hv : procsB l
  · have HF := hide (end_bad (q := q) (x := x) hv)
    clear hv
    go_wp2_with fail
    exact bodyPost_ret (v := .tuple #[.slice none 0 0, .bool false]) (by simp [results, Try.results23, go_sem]) rfl (EdOut.of HF.out.1 HF.out.2 rfl (.inl ⟨rfl, rfl, rfl⟩) B1.out)
  have HV := hide hv
  have HPV := hide (procsB_iff.1 hv)
  have hn1 : 1 ≤ n := by have := HPV.out.2.1; have := HL.out; omega
  have hn10 : n ≤ 10 := by have := HPV.out.2.2.1; rw [HL.out] at this; exact this
  obtain ⟨b, off, hA, hR⟩ := HI.out.2 (by omega)
  subst hA
  have hR1 := hide (hR.below B1.out)
  clear hv hR
  go_wp2_with fail
  refine (cloneP_c b off n c l HL.out hn _ hR1.out).mono ?_
  rintro e w2 ⟨gz, cz, rfl, ho, hb2⟩
  rcases ho with ⟨h, _⟩ | ⟨gz', mz, hgg, hgl, hnc, hcm, hmz, hrow, hty⟩
  · cases h
  obtain rfl : gz = gz' := by simpa using hgg
  have hgl := Nat.le_trans B1.out.size hgl
  have HROW := hide hrow
  have HTY := hide hty
  have B2 := hide (B1.out.trans (hb2.mono B1.out.size))
  have hR2 := hide (hR1.out.below hb2)
  have O2 : Hid (OwnSP w2 w.heap.size n cz (some ⟨gz, 0, none⟩) l) := .inr ⟨gz, mz, rfl, hgl, hnc, hcm, hmz, hrow, hty⟩
  clear hb2 hrow hty hgg
  cases hq1 : (q == 1)
  case true =>
    have HF := hide (end_no (q := q) (x := x) HV.out (by simp [endB, hq1]))
    go_wp2_with fail
    exact bodyPost_ret (v := .tuple #[.slice (some ⟨gz, 0, none⟩) n cz, .bool false]) (by simp [results, Try.results23, go_sem]) rfl (EdOut.of HF.out.1 HF.out.2 HL.out O2.out B2.out)
  go_wp2_with fail
  refine (runs_c _ _ _ l q _ ⟨HL.out, fun _ => ⟨_, _, rfl, hR2.out⟩⟩ (by omega) hc).mono ?_
  rintro e w3 ⟨rfl, hb3⟩
  have B3 := hide (B2.out.trans (hb3.mono B2.out.size))
  have O3 := hide (O2.out.below hb3)
  have R3 := hide (HROW.out.below hb3 HROW.out.lt)
  have TY3 := hide (HTY.out.below hb3)
  clear hb3
  cases hru : runsB l q
  · have HF := hide (end_no (q := q) (x := x) HV.out (by simp [endB, hru]))
    dsimp only
    go_wp2_with fail
    exact bodyPost_ret (v := .tuple #[.slice (some ⟨gz, 0, none⟩) n cz, .bool false]) (by simp [results, Try.results23, go_sem]) rfl (EdOut.of HF.out.1 HF.out.2 HL.out O3.out B3.out)
  cases hxx : inB x 0 255
  · have HF := hide (end_no (q := q) (x := x) HV.out (by simp [endB, hxx]))
    dsimp only
    go_wp2_with (go_at_call 34; refine (within_c _ _ _ _).mono ?_; rintro e w' ⟨rfl, rfl⟩; rw [hxx])
    exact bodyPost_ret (v := .tuple #[.slice (some ⟨gz, 0, none⟩) n cz, .bool false]) (by simp [results, Try.results23, go_sem]) rfl (EdOut.of HF.out.1 HF.out.2 HL.out O3.out B3.out)
  have HF := hide (end_yes (q := q) (x := x) HV.out (by simp [endB, hru, hxx, hq1]))
  have hnk : n * 8 ≤ mz := by omega
  dsimp only
  go_wp2_with (go_at_call 34; refine (within_c _ _ _ _).mono ?_; rintro e w' ⟨rfl, rfl⟩; rw [hxx])
  clear hru hxx hq1
  go_loopw [32] (fun kv wr => ∃ k : Nat, k ≤ n ∧ kv = .int .i64 k ∧ Hid (Row wr gz mz (doneProcess (endU q x l k) n)) ∧ Hid (TyP wr gz) ∧ Hid (Below w.heap.size w wr)) (fun kv _ => n - (intOf kv).toNat)
  case atStart => exact ⟨0, by omega, rfl, by rw [endU_zero]; exact R3.out, TY3.out, B3.out⟩
  case round =>
    obtain ⟨k, hk, rfl, hrow, hty, hbel⟩ := hrel
    have hgr := hrow.out.lt
    by_cases hlt : k < n
    · have hkc : k < cz := by omega
      have hkn : (k : Int) < (n : Int) := by omega
      obtain ⟨s, hs⟩ : ∃ s, l[k]? = some s := ⟨_, List.getElem?_eq_getElem (by rw [HL.out]; exact hlt)⟩
      have hRz := RdProcess_of_rowm hrow.out (by rw [endU_len, HL.out])
      have hsk : (endU q x l k)[k]? = some s := by rw [endU_get (Nat.le_refl _)]; exact hs
      obtain ⟨c0, c1, c2, c3, c4, c5, c6, c7⟩ := hRz.2 k _ hsk
      simp only [Nat.zero_add] at c0 c1 c2 c3 c4 c5 c6 c7
      have z1 := hrow.out.frozen (k * 8 + 1)
      have z6 := hrow.out.frozen (k * 8 + 6)
      have z7 := hrow.out.frozen (k * 8 + 7)
      have HSK := hide hsk
      have HSW := hide (endU_step (q := q) (x := x) hs)
      have hbw : Below w.heap.size w (wr.alloc (.cells #[.int .i64 s.number, .int .i64 s.parent, .int .i64 s.real, .int .i64 s.acts, .int .i64 s.saved, .int .i64 s.groups, .bool s.ended, .int .i64 s.result] 39)) := hbel.out.alloc hbel.out.size _
      have ra := hide (hrow.out.alloc (.cells #[.int .i64 s.number, .int .i64 s.parent, .int .i64 s.real, .int .i64 s.acts, .int .i64 s.saved, .int .i64 s.groups, .bool s.ended, .int .i64 s.result] 39))
      have ta := hide (hty.out.below (below_alloc0 (Below.refl _ _) (.cells #[.int .i64 s.number, .int .i64 s.parent, .int .i64 s.real, .int .i64 s.acts, .int .i64 s.saved, .int .i64 s.groups, .bool s.ended, .int .i64 s.result] 39)))
      have HBW := hide hbw
      have hgn : gz ≠ wr.heap.size := by omega
      clear hRz hs hsk hbw
      cases hqn : (s.number == q)
      · have hsn : s.number ≠ q := by simpa using hqn
        cases hpn : (s.parent == q)
        · have HE := hide (show endT q x s = s by simp at hpn; simp [endT, hsn, hpn])
          have HU := hide (show endU q x l (k + 1) = endU q x l k by rw [← HSW.out, HE.out]; exact set_same HSK.out)
          clear hsn
          go_wp2_with fail
          exact ⟨⟨k + 1, by omega, by go_num, by rw [HU.out]; exact ra.out, ta.out, HBW.out⟩, by simp [intOf]; omega⟩
        · have HE := hide (show endT q x s = ⟨s.number, 1, s.real, s.acts, s.saved, s.groups, s.ended, s.result⟩ by simp at hpn; simp [endT, hsn, hpn])
          have hnx := row_par hrow.out hnk hlt HSK.out 1
          rw [← HE.out, HSW.out] at hnx
          have HNX := hide hnx
          clear hsn hnx
          go_wp2_with fail
          refine ⟨⟨k + 1, by omega, by go_num, HNX.out.alloc _, (hty.out.set _).below (below_alloc0 (Below.refl _ _) _), (hbel.out.setCell (p := ⟨gz, k * 8 + 1, none⟩) hgl _).alloc (by simp; exact hbel.out.size) _⟩, by simp [intOf]; omega⟩
      · have hsn : s.number = q := by simpa using hqn
        have HE := hide (show endT q x s = ⟨s.number, s.parent, s.real, s.acts, s.saved, s.groups, true, x⟩ by simp [endT, hsn])
        have hnx := row_res (row_end hrow.out hnk hlt HSK.out true) hnk hlt (List.getElem?_set_self (by rw [endU_len, HL.out]; exact hlt)) x
        rw [List.set_set] at hnx
        simp only at hnx
        rw [← HE.out, HSW.out] at hnx
        have HNX := hide hnx
        clear hsn hnx
        go_wp2_with fail
        refine ⟨⟨k + 1, by omega, by go_num, HNX.out.alloc _, ((hty.out.set _).set _).below (below_alloc0 (Below.refl _ _) _), ((hbel.out.setCell (p := ⟨gz, k * 8 + 6, none⟩) hgl _).setCell (p := ⟨gz, k * 8 + 7, none⟩) hgl _).alloc (by simp; exact hbel.out.size) _⟩, by simp [intOf]; omega⟩
    · obtain rfl : n = k := by omega
      have HU := hide (show endU q x l n = l.map (endT q x) by rw [← HL.out, endU_all])
      rw [HU.out] at hrow
      have HR := hrow
      go_wp2
      exact bodyPost_ret (v := .tuple #[.slice (some ⟨gz, 0, none⟩) n cz, .bool true]) (by simp [results, Try.results23, go_sem]) rfl (EdOut.of HF.out.1 HF.out.2 (by simp [HL.out]) (.inr ⟨gz, mz, rfl, hgl, hnc, hcm, hmz, HR.out, hty.out⟩) hbel.out)
end Go.Proofs.Ytlfchcjollcdhaa
