/-
  EndProcess of the reference. No condition.
-/
import Derived.Test.YtlfchcjollcdhaaProg
import Derived.Test.YtlfchcjollcdhaaPre
namespace Go.Proofs.Ytlfchcjollcdhaa
open Go.RowKit
set_option linter.unusedSimpArgs false
set_option linter.unusedVariables false

theorem set_same {l : List Pcs} {k : Nat} {t : Pcs} (h : l[k]? = some t) : l.set k t = l := by
  obtain ⟨hk, rfl⟩ := List.getElem?_eq_some_iff.1 h
  exact List.set_getElem_self hk
def endS (q x : Int) (l : List Pcs) (a : Nat) (t : Pcs) (k : Nat) : List Pcs := (endU q x l k).set a (endT q x t)
theorem endS_len (q x : Int) (l : List Pcs) (a : Nat) (t : Pcs) (k : Nat) : (endS q x l a t k).length = l.length := by simp [endS, endU_len]
set_option maxRecDepth 100000 in
set_option maxHeartbeats 4000000 in
theorem endSpec_c (A : Option Addr) (n c : Nat) (l : List Pcs) (q x : Int) (hn : n ≤ 1048576) (w : World) (hI : InProcess w A n l) :
    Calls Try.prog 24 #[.slice A n c, .int .i64 q, .int .i64 x] w (EdOut w l q x) := by
  obtain ⟨i0, hi0, hz0, hz1, hz2⟩ := info_parts infoProcess
  have HII := hide hi0
  have HZ0 := hide hz0
  have HZ1 := hide hz1
  have HZ2 := hide hz2
  clear hi0 hz0 hz1 hz2
  have HI := hide hI
  have HL := hide hI.1
  clear hI
  go_enter Try.func24, Try.ntmps24
  go_wp2_with fail
  refine (pvSpec_c _ _ _ l hn _ HI.out).mono ?_
  rintro e w1 ⟨rfl, hb1⟩
  have B1 := hide hb1
  clear hb1
  cases hv : procsB l
  · have HF := hide (end_bad (q := q) (x := x) hv)
    clear hv
    go_wp2_with fail
    exact bodyPost_ret (v := .tuple #[.slice (some ⟨w1.heap.size, 0, none⟩) 0 0, .bool false]) (by simp [results, Try.results24, go_sem]) rfl (EdOut.of HF.out.1 HF.out.2 rfl (ownSP_empty B1.out.size) (B1.out.alloc B1.out.size _))
  have HV := hide hv
  have HPV := hide (procsB_iff.1 hv)
  have hn1 : 1 ≤ n := by have := HPV.out.2.1; have := HL.out; omega
  have hn10 : n ≤ 10 := by have := HPV.out.2.2.1; rw [HL.out] at this; exact this
  obtain ⟨b, off, hA, hR⟩ := HI.out.2 (by omega)
  subst hA
  have hR1 := hide (hR.below B1.out)
  clear hv hR
  go_wp2_with (at_builtin; refine wpList_append_own _ rfl _ _ 25 rfl w.heap.size 39 i0 _ 8 64 Try.underlying25 HII.out HZ0.out HZ1.out HZ2.out rfl (by decide) _ _ _ rfl (World.ownsRow_made w1 #[] 0 B1.out.size (Nat.zero_le _) (by simp)) ⟨b, off, none⟩ n c (flatP l) rfl ?qc1 ?qc2 ?qc3 ?qc4 ?qc5 ?qc6 ?_)
  case qc1 => rw [flatP_len, HL.out]
  case qc2 =>
    intro j u hj
    rw [Addr.add_lit]
    exact Lib.cell?_alloc_some _ (flatP_cells hR1.out j u hj)
  case qc3 => exact flatP_one l
  case qc4 => rw [Nat.zero_add]; unfold maxLen; omega
  case qc5 => rw [Nat.zero_add]; omega
  case qc6 => simp; have := B1.out.size; omega
  intro v' w2 hown hgrow hnil
  have hnil' : v' ≠ .slice none 0 0 := hnil
  obtain ⟨A', cz, rfl, ho⟩ := ownSP_of hown HL.out
  have hb2 : Below w1.heap.size w1 w2 := ((Below.refl _ w1).alloc (Nat.le_refl _) _).grown hgrow (by simp) (by intro k hk; simp [Value.ownBlock] at hk; omega)
  rcases ho with ⟨rfl, rfl, rfl⟩ | ⟨gz, mz, rfl, hgl, hnc, hcm, hmz, hrow, hty⟩
  · exact absurd rfl hnil'
  have HROW := hide hrow
  have HTY := hide hty
  have B2 := hide (B1.out.trans (hb2.mono B1.out.size))
  have hR2 := hide (hR1.out.below hb2)
  have hbl := hR2.out.1
  have O2 : Hid (OwnSP w2 w.heap.size n cz (some ⟨gz, 0, none⟩) l) := .inr ⟨gz, mz, rfl, hgl, hnc, hcm, hmz, hrow, hty⟩
  have hgz := hrow.lt
  clear hown hgrow hnil hnil' hb2 hrow hty
  go_wp2_with fail
  refine (l15Place_c _ _ _ l q _ ⟨HL.out, fun _ => ⟨_, _, rfl, hR2.out⟩⟩ (by omega)).mono ?_
  rintro e w3 ⟨rfl, rfl⟩
  rcases place_cases l q with ⟨hf, hx, hr⟩ | ⟨j, t, hf, hx, ht, hj, hy, hr⟩
  · rw [hx]
    have HF := hide (end_no (q := q) (x := x) HV.out (by simp [endB, hr]))
    clear hf hx hr
    go_wp2_with fail
    exact bodyPost_ret (v := .tuple #[.slice (some ⟨gz, 0, none⟩) n cz, .bool false]) (by simp [results, Try.results24, go_sem]) rfl (EdOut.of HF.out.1 HF.out.2 HL.out O2.out B2.out)
  rw [hx]
  have hjn : j < n := by rw [← HL.out]; exact hj
  obtain ⟨t0, t1, t2, t3, t4, t5, t6, t7⟩ := hR2.out.2 j t ht
  have HT := hide ht
  have hqn : t.number = q := by simpa [isN] using hy
  have HQN := hide hqn
  have hj0 := HPV.out.place1 ht
  clear t0 t1 t2 t3 t4 t5 t7
  rcases Nat.eq_zero_or_pos j with h0 | h0
  · have HF := hide (end_no (q := q) (x := x) HV.out (by have := hj0.2 h0; simp [endB, ← hqn, this]))
    subst h0
    clear hx hr hf ht hj hy hj0 hqn
    go_wp2_with fail
    exact bodyPost_ret (v := .tuple #[.slice (some ⟨gz, 0, none⟩) n cz, .bool false]) (by simp [results, Try.results24, go_sem]) rfl (EdOut.of HF.out.1 HF.out.2 HL.out O2.out B2.out)
  have hq1 : (q == 1) = false := by simp; intro e; have := hj0.1 (by omega); omega
  have j0 : ¬ ((j : Int) < 1) := by omega
  have j1 : decide ((j : Int) < 1) = false := by simp; omega
  cases hte : t.ended
  case true =>
    rw [hte] at t6
    have HF := hide (end_no (q := q) (x := x) HV.out (by simp [endB, hr, hte]))
    clear hx hr hf ht hj hy hj0 hqn
    go_wp2_with fail
    exact bodyPost_ret (v := .tuple #[.slice (some ⟨gz, 0, none⟩) n cz, .bool false]) (by simp [results, Try.results24, go_sem]) rfl (EdOut.of HF.out.1 HF.out.2 HL.out O2.out B2.out)
  rw [hte] at t6
  cases hxx : inB x 0 255
  · have HF := hide (end_no (q := q) (x := x) HV.out (by simp [endB, hxx]))
    clear hx hr hf ht hj hy hj0 hqn
    go_wp2_with (go_at_call 30; refine (l1In_c _ _ _ _).mono ?_; rintro e w' ⟨rfl, rfl⟩; rw [hxx])
    exact bodyPost_ret (v := .tuple #[.slice (some ⟨gz, 0, none⟩) n cz, .bool false]) (by simp [results, Try.results24, go_sem]) rfl (EdOut.of HF.out.1 HF.out.2 HL.out O2.out B2.out)
  have HF := hide (end_yes (q := q) (x := x) HV.out (by simp [endB, hr, hte, hxx, hq1]))
  have HTE := hide hte
  have hnk : n * 8 ≤ mz := by omega
  obtain ⟨y6, g6⟩ := HROW.out.some_ex (j := j * 8 + 6) (by omega)
  obtain ⟨y7, g7⟩ := HROW.out.some_ex (j := j * 8 + 7) (by omega)
  have z6 := HROW.out.frozen (j * 8 + 6)
  have z7 := HROW.out.frozen (j * 8 + 7)
  have hjc : j < cz := by omega
  have R0 := hide (row_res (row_end HROW.out hnk hjn HT.out true) hnk hjn (List.getElem?_set_self (by rw [HL.out]; exact hjn)) x)
  have TY0 := hide ((HTY.out.set (b := gz) (o := j * 8 + 6) (.bool true)).set (b := gz) (o := j * 8 + 7) (.int .i64 x))
  have B0 := hide ((B2.out.setCell (p := ⟨gz, j * 8 + 6, none⟩) hgl (.bool true)).setCell (p := ⟨gz, j * 8 + 7, none⟩) hgl (.int .i64 x))
  have hjnn : (j : Int) < (n : Int) := by omega
  clear hx hr hf ht hj hy hj0 hqn hte
  go_wp2_with (go_at_call 30; refine (l1In_c _ _ _ _).mono ?_; rintro e w' ⟨rfl, rfl⟩; rw [hxx])
  have R1 : Hid (Row ((w2.setCell ⟨gz, j * 8 + 6, none⟩ (.bool true)).setCell ⟨gz, j * 8 + 7, none⟩ (.int .i64 x)) gz mz (doneProcess (endS q x l j t 0) n)) := by
    have h1 := R0.out
    rw [List.set_set] at h1
    have h2 : endT q x t = ⟨t.number, t.parent, t.real, t.acts, t.saved, t.groups, true, x⟩ := by simp [endT, HQN.out]
    exact hide (by unfold endS; rw [endU_zero, h2]; exact h1)
  clear R0 g6 g7 z6 z7 t6
  generalize (w2.setCell ⟨gz, j * 8 + 6, none⟩ (.bool true)).setCell ⟨gz, j * 8 + 7, none⟩ (.int .i64 x) = w4 at *
  go_loopw [10] (fun kv wr => ∃ k : Nat, k ≤ n ∧ kv = .int .i64 k ∧ Hid (Row wr gz mz (doneProcess (endS q x l j t k) n)) ∧ Hid (TyP wr gz) ∧ Hid (Below w.heap.size w wr)) (fun kv _ => n - (intOf kv).toNat)
  case atStart => exact ⟨0, by omega, rfl, R1.out, TY0.out, B0.out⟩
  case round =>
    obtain ⟨k, hk, rfl, hrow, hty, hbel⟩ := hrel
    have hgr := hrow.out.lt
    by_cases hlt : k < n
    · have hkc : k < cz := by omega
      obtain ⟨s, hs⟩ : ∃ s, l[k]? = some s := ⟨_, List.getElem?_eq_getElem (by rw [HL.out]; exact hlt)⟩
      have hRz := RdProcess_of_rowm hrow.out (by rw [endS_len, HL.out])
      obtain ⟨y1, g1⟩ := hrow.out.some_ex (j := k * 8 + 1) (by omega)
      have z1 := hrow.out.frozen (k * 8 + 1)
      by_cases hkj : k = j
      · subst hkj
        obtain rfl := Option.some.inj (hs.symm.trans HT.out)
        have hpn : (s.parent == q) = false := by
          have := (HPV.out.1 k s (by rw [HL.out]; exact hlt) hs).2.2.2.2.2 h0
          simp; intro e; exact this.2 (by rw [e]; exact HQN.out.symm)
        have hsk : (endS q x l k s k)[k]? = some (endT q x s) := by unfold endS; rw [List.getElem?_set_self (by rw [endU_len, HL.out]; exact hlt)]
        have c1 := (hRz.2 k _ hsk).2.1
        have hep : (endT q x s).parent = s.parent := by simp [endT, HQN.out]
        rw [hep] at c1
        simp only [Nat.zero_add] at c1
        have HU := hide (show endS q x l k s (k + 1) = endS q x l k s k by unfold endS; rw [← endU_step hs, List.set_set])
        clear hRz hs hsk hep g1
        go_wp2_with fail
        exact ⟨⟨k + 1, by omega, by go_num, by rw [HU.out]; exact hrow.out, hty.out, hbel.out⟩, by simp [intOf]; omega⟩
      · have hsk : (endS q x l j t k)[k]? = some s := by unfold endS; rw [List.getElem?_set_ne (fun e => hkj e.symm), endU_get (Nat.le_refl _)]; exact hs
        have c1 := (hRz.2 k _ hsk).2.1
        simp only [Nat.zero_add] at c1
        have hsn : s.number ≠ q := fun e => hkj (HPV.out.uniq hs HT.out (by rw [e]; exact HQN.out.symm))
        have HSW := hide (show (endS q x l j t k).set k (endT q x s) = endS q x l j t (k + 1) by unfold endS; rw [← endU_step hs, List.set_comm _ _ (fun e => hkj e)])
        cases hpn : (s.parent == q)
        · have HE := hide (show endT q x s = s by simp at hpn; simp [endT, hsn, hpn])
          have HU := hide (show endS q x l j t (k + 1) = endS q x l j t k by rw [← HSW.out, HE.out]; exact set_same hsk)
          clear hRz hs hsk hsn g1
          go_wp2_with fail
          exact ⟨⟨k + 1, by omega, by go_num, by rw [HU.out]; exact hrow.out, hty.out, hbel.out⟩, by simp [intOf]; omega⟩
        · have HE := hide (show endT q x s = ⟨s.number, 1, s.real, s.acts, s.saved, s.groups, s.ended, s.result⟩ by simp at hpn; simp [endT, hsn, hpn])
          have hnx := row_par hrow.out hnk hlt hsk 1
          rw [← HE.out, HSW.out] at hnx
          have HNX := hide hnx
          clear hRz hs hsk hsn hnx g1
          obtain ⟨y1, g1⟩ := hrow.out.some_ex (j := k * 8 + 1) (by omega)
          have hkn : (k : Int) < (n : Int) := by omega
          go_wp2_with fail
          exact ⟨⟨k + 1, by omega, by go_num, HNX.out, hty.out.set _, hbel.out.setCell (p := ⟨gz, k * 8 + 1, none⟩) hgl _⟩, by simp [intOf]; omega⟩
    · obtain rfl : n = k := by omega
      have HU := hide (show endS q x l j t n = l.map (endT q x) by
        unfold endS
        rw [← HL.out, endU_all]
        exact set_same (by rw [List.getElem?_map, HT.out]; rfl))
      rw [HU.out] at hrow
      have HR := hrow
      go_wp2
      exact bodyPost_ret (v := .tuple #[.slice (some ⟨gz, 0, none⟩) n cz, .bool true]) (by simp [results, Try.results24, go_sem]) rfl (EdOut.of HF.out.1 HF.out.2 (by simp [HL.out]) (.inr ⟨gz, mz, rfl, hgl, hnc, hcm, hmz, HR.out, hty.out⟩) hbel.out)
end Go.Proofs.Ytlfchcjollcdhaa
