/-
  WriteHandle of the reference. No condition.
-/
import Derived.Test.YtncjghmjlcohjaaProg
import Derived.Test.YtncjghmjlcohjaaWri
namespace Go.Proofs.Ytncjghmjlcohjaa
open Go.RowKit
set_option linter.unusedSimpArgs false
set_option linter.unusedVariables false

set_option maxRecDepth 100000 in
set_option maxHeartbeats 8000000 in
theorem wrSpec_c (A : Option Addr) (n c : Nat) (l : List Node) (f a r : Int) (x : ByteArray) (hx : x.size ≤ 1048576) (w : World) (hI : InNode w A n l) (hJ : InJ w A n l) (hn : n ≤ 1048576) (hz : ∀ t ∈ l, NodeS t) (hZ : ∀ t ∈ l, NodeZ t) :
    Calls Try.prog 29 #[.slice A n c, .agg #[.int .i64 f, .int .i64 a, .int .i64 r], .string x] w fun e w' => ∃ V, e = .returned (.tuple #[V, .agg #[.int .i64 f, .int .i64 (wrR l n f a r x).2.1, .int .i64 r], .int .i64 (wrR l n f a r x).2.2]) ∧ WrV w' w.heap.size V (wrR l n f a r x).1 ∧ Below w.heap.size w w' := by
  have HI := hide hI
  have HJ := hide hJ
  have HZS := hide hz
  have HZZ := hide hZ
  have hlen := hI.1
  have BW : Below w.heap.size w ((w.alloc (.cells #[.int .i64 f, .int .i64 a, .int .i64 r] 32)).alloc (.cells #[.int .i64 0, .int .i64 0, .int .i64 0] 32)) := below_alloc0 (below_alloc0 (Below.refl _ _) _) _
  have R0 := (Row.made w 32 #[.int .i64 f, .int .i64 a, .int .i64 r] (fun j => #[Value.int .i64 f, .int .i64 a, .int .i64 r][j]?) (fun _ _ h => h)).alloc (.cells #[.int .i64 0, .int .i64 0, .int .i64 0] 32)
  have R1 := Row.made (w.alloc (.cells #[.int .i64 f, .int .i64 a, .int .i64 r] 32)) 32 #[.int .i64 0, .int .i64 0, .int .i64 0] (fun j => #[Value.int .i64 0, .int .i64 0, .int .i64 0][j]?) (fun _ _ h => h)
  rw [show (w.alloc (.cells #[.int .i64 f, .int .i64 a, .int .i64 r] 32)).heap.size = w.heap.size + 1 by simp] at R1
  clear hI hz hZ hJ
  go_enter Try.func29, Try.ntmps29
  go_wp2_with fail
  generalize ((w.alloc (.cells #[.int .i64 f, .int .i64 a, .int .i64 r] 32)).alloc (.cells #[.int .i64 0, .int .i64 0, .int .i64 0] 32)) = W0 at *
  obtain ⟨pb, hhh⟩ : ∃ h, h = w.heap.size := ⟨_, rfl⟩
  rw [← hhh] at R0 R1 ⊢
  have HHH := hide hhh
  clear hhh
  have HR0 := hide R0
  have HR1 := hide R1
  have hh0 := R0.lt
  have c0 : W0.cell? ⟨pb, 0, none⟩ = some (.int .i64 f) := R0.cell (j := 0) rfl
  have c1 : W0.cell? ⟨pb, 1, none⟩ = some (.int .i64 a) := R0.cell (j := 1) rfl
  have c2 : W0.cell? ⟨pb, 2, none⟩ = some (.int .i64 r) := R0.cell (j := 2) rfl
  clear R0 R1
  go_wp2_with fail
  refine (hanSpec_c A n c l f a r _ (HI.out.below BW) hn HZS.out HZZ.out).mono ?_
  rintro e w1 ⟨rfl, hb1⟩
  clear c0 c1 c2 hh0
  have R0 := HR0.out.below hb1 HR0.out.lt
  have R1 := HR1.out.below hb1 HR1.out.lt
  have B1 := hide (below_via0 BW hb1)
  clear hb1
  have hh := R0.lt
  have hg := R1.lt
  have c0 : w1.cell? ⟨pb, 0, none⟩ = some (.int .i64 f) := R0.cell (j := 0) rfl
  have c1 : w1.cell? ⟨pb, 1, none⟩ = some (.int .i64 a) := R0.cell (j := 1) rfl
  have c2 : w1.cell? ⟨pb, 2, none⟩ = some (.int .i64 r) := R0.cell (j := 2) rfl
  have v3 := R0.frozen 1
  have z0 : w1.cell? ⟨pb + 1, 0, none⟩ = some (.int .i64 0) := R1.cell (j := 0) rfl
  have z1 : w1.cell? ⟨pb + 1, 1, none⟩ = some (.int .i64 0) := R1.cell (j := 1) rfl
  have z2 : w1.cell? ⟨pb + 1, 2, none⟩ = some (.int .i64 0) := R1.cell (j := 2) rfl
  have v0 := R1.frozen 0
  have v1 := R1.frozen 1
  have v2 := R1.frozen 2
  have HR0B := hide R0
  have HR1B := hide R1
  clear R0 R1 BW
  cases hv : hanB l n f a r
  · have HN := hide (wrR_1 (x := x) hv)
    go_wp2_with fail
    go_region
    have hww := HHH.out
    have hB1 := B1.out
    all_goals
      go_wp2_with fail
      exact bodyPost_ret (v := .tuple #[.slice (some ⟨w1.heap.size, 0, none⟩) 0 0, .agg #[.int .i64 f, .int .i64 a, .int .i64 r], .int .i64 1]) (by simp [results, Try.results29, go_sem, z0, z1, z2, c0, c1, c2, hg]) rfl ⟨_, by rw [HN.out], by rw [HN.out]; exact .inl ⟨rfl, _, _, rfl⟩, (by repeat' (first | exact Below.refl _ _ | assumption | exact And.left (by assumption) | omega | (simp; done) | (simp; omega) | (simp at *; omega) | (refine Below.setCell ?_ ?_ _) | (refine below_alloc0 ?_ _) | (refine Below.drew ?_) | (refine below_drewN ?_ _) | (refine below_via0 ?_ (by assumption)) | (refine Below.alloc ?_ ?_ _) | (refine below_via ?_ (by assumption) ?_)))⟩
  cases hb : (bits .and .i64 r 2 == 0) with
  | true =>
    have HN := hide (wrR_3 (x := x) hv hb)
    go_wp2_with fail
    go_region
    have hww := HHH.out
    have hB1 := B1.out
    all_goals
      go_wp2_with fail
      exact bodyPost_ret (v := .tuple #[.slice (some ⟨w1.heap.size, 0, none⟩) 0 0, .agg #[.int .i64 f, .int .i64 a, .int .i64 r], .int .i64 3]) (by simp [results, Try.results29, go_sem, z0, z1, z2, c0, c1, c2, hg]) rfl ⟨_, by rw [HN.out], by rw [HN.out]; exact .inl ⟨rfl, _, _, rfl⟩, (by repeat' (first | exact Below.refl _ _ | assumption | exact And.left (by assumption) | omega | (simp; done) | (simp; omega) | (simp at *; omega) | (refine Below.setCell ?_ ?_ _) | (refine below_alloc0 ?_ _) | (refine Below.drew ?_) | (refine below_drewN ?_ _) | (refine below_via0 ?_ (by assumption)) | (refine Below.alloc ?_ ?_ _) | (refine below_via ?_ (by assumption) ?_)))⟩
  | false =>
    have HB := hide hb
    have HV := hide hv
    have hv' := hv
    simp only [hanB, Bool.and_eq_true] at hv'
    obtain ⟨hvt, hf, hdr, ha, hrr⟩ := hv'
    obtain ⟨a0, a40⟩ := inB_iff.1 ha
    obtain ⟨f0, f1⟩ := inB_iff.1 hf
    obtain ⟨k, rfl⟩ := Int.eq_ofNat_of_zero_le f0
    obtain ⟨m, rfl⟩ := Int.eq_ofNat_of_zero_le a0
    obtain ⟨b, off, rfl, hR⟩ := HI.out.2 (by omega)
    have hk : k < n := by omega
    have hkn : (k : Int) < n := by omega
    obtain ⟨t, ht⟩ : ∃ t, l[k]? = some t := ⟨_, List.getElem?_eq_getElem (by omega)⟩
    have htx : txAt l (k : Int) = t.text := by simp [txAt, ht]
    have HTV := treeB_iff.1 hvt
    have ht40 : t.text.size ≤ 40 := (HTV.2.2.2.1 k t ht).1.2.1
    obtain ⟨S, K, ⟨_, _, _, _, d4, _⟩, _, _⟩ := (hR.below B1.out).2 k t ht
    have hbl := (hR.below B1.out).1
    have HR := hide hR
    have HT := hide ht
    have HTX := hide htx
    clear hR ht htx HTV hf hvt hdr ha hrr hv f0 f1
    by_cases hsz : (t.text.size : Int) < m
    · have HN := hide (wrR_6 (x := x) HV.out hb (.inl (by rw [HTX.out]; omega)))
      go_wp2_with fail
      go_quiet (fail)
      go_wp2_with fail
      have hd0 := below_drewN (Below.refl w1.heap.size w1) nq
      have Q0 := HR0B.out.below hd0 hh
      have Q1 := HR1B.out.below hd0 hg
      have BD := hide (below_via0 B1.out hd0)
      clear c0 c1 c2 z0 z1 z2 v0 v1 v2 v3 hh hg d4 hbl hd0
      generalize w1.drewN nq = Wd at *
      have hh := Q0.lt
      have hg := Q1.lt
      have c0 : Wd.cell? ⟨pb, 0, none⟩ = some (.int .i64 (k : Int)) := Q0.cell (j := 0) rfl
      have c1 : Wd.cell? ⟨pb, 1, none⟩ = some (.int .i64 (m : Int)) := Q0.cell (j := 1) rfl
      have c2 : Wd.cell? ⟨pb, 2, none⟩ = some (.int .i64 r) := Q0.cell (j := 2) rfl
      have z0 : Wd.cell? ⟨pb + 1, 0, none⟩ = some (.int .i64 0) := Q1.cell (j := 0) rfl
      have z1 : Wd.cell? ⟨pb + 1, 1, none⟩ = some (.int .i64 0) := Q1.cell (j := 1) rfl
      have z2 : Wd.cell? ⟨pb + 1, 2, none⟩ = some (.int .i64 0) := Q1.cell (j := 2) rfl
      have v0 := Q1.frozen 0
      have v1 := Q1.frozen 1
      have v2 := Q1.frozen 2
      clear Q0 Q1
      go_region
      have hww := HHH.out
      have hB1 := BD.out
      all_goals
        go_wp2_with fail
        exact bodyPost_ret (v := .tuple #[.slice (some ⟨Wd.heap.size, 0, none⟩) 0 0, .agg #[.int .i64 (k : Int), .int .i64 (m : Int), .int .i64 r], .int .i64 6]) (by simp [results, Try.results29, go_sem, z0, z1, z2, c0, c1, c2, hg]) rfl ⟨_, by rw [HN.out], by rw [HN.out]; exact .inl ⟨rfl, _, _, rfl⟩, (by repeat' (first | exact Below.refl _ _ | assumption | exact And.left (by assumption) | omega | (simp; done) | (simp; omega) | (simp at *; omega) | (refine Below.setCell ?_ ?_ _) | (refine below_alloc0 ?_ _) | (refine Below.drew ?_) | (refine below_drewN ?_ _) | (refine below_via0 ?_ (by assumption)) | (refine Below.alloc ?_ ?_ _) | (refine below_via ?_ (by assumption) ?_)))⟩
    have HSZ := hide hsz
    clear hsz
    by_cases h40 : (40 : Int) < m + x.size
    · have HN := hide (wrR_6 (x := x) HV.out hb (.inr (by omega)))
      go_wp2_with fail
      have hszN : ¬ t.text.size < m := by have := HSZ.out; omega
      have jw := IntWalk.i64_in ((m : Int) + x.size) (by omega)
      have h40N : 40 < m + x.size := by omega
      go_quiet (fail)
      clear hszN jw
      go_wp2_with fail
      have hd0 := below_drewN (Below.refl w1.heap.size w1) nq
      have Q0 := HR0B.out.below hd0 hh
      have Q1 := HR1B.out.below hd0 hg
      have BD := hide (below_via0 B1.out hd0)
      clear c0 c1 c2 z0 z1 z2 v0 v1 v2 v3 hh hg d4 hbl hd0
      generalize w1.drewN nq = Wd at *
      have hh := Q0.lt
      have hg := Q1.lt
      have c0 : Wd.cell? ⟨pb, 0, none⟩ = some (.int .i64 (k : Int)) := Q0.cell (j := 0) rfl
      have c1 : Wd.cell? ⟨pb, 1, none⟩ = some (.int .i64 (m : Int)) := Q0.cell (j := 1) rfl
      have c2 : Wd.cell? ⟨pb, 2, none⟩ = some (.int .i64 r) := Q0.cell (j := 2) rfl
      have z0 : Wd.cell? ⟨pb + 1, 0, none⟩ = some (.int .i64 0) := Q1.cell (j := 0) rfl
      have z1 : Wd.cell? ⟨pb + 1, 1, none⟩ = some (.int .i64 0) := Q1.cell (j := 1) rfl
      have z2 : Wd.cell? ⟨pb + 1, 2, none⟩ = some (.int .i64 0) := Q1.cell (j := 2) rfl
      have v0 := Q1.frozen 0
      have v1 := Q1.frozen 1
      have v2 := Q1.frozen 2
      clear Q0 Q1
      go_region
      have hww := HHH.out
      have hB1 := BD.out
      all_goals
        go_wp2_with fail
        exact bodyPost_ret (v := .tuple #[.slice (some ⟨Wd.heap.size, 0, none⟩) 0 0, .agg #[.int .i64 (k : Int), .int .i64 (m : Int), .int .i64 r], .int .i64 6]) (by simp [results, Try.results29, go_sem, z0, z1, z2, c0, c1, c2, hg]) rfl ⟨_, by rw [HN.out], by rw [HN.out]; exact .inl ⟨rfl, _, _, rfl⟩, (by repeat' (first | exact Below.refl _ _ | assumption | exact And.left (by assumption) | omega | (simp; done) | (simp; omega) | (simp at *; omega) | (refine Below.setCell ?_ ?_ _) | (refine below_alloc0 ?_ _) | (refine Below.drew ?_) | (refine below_drewN ?_ _) | (refine below_via0 ?_ (by assumption)) | (refine Below.alloc ?_ ?_ _) | (refine below_via ?_ (by assumption) ?_)))⟩
    have H40 := hide h40
    have HN := hide (wrR_0 (t := t) (x := x) HV.out hb (by have := HSZ.out; omega) (by omega) HT.out)
    clear h40
    go_wp2_with fail
    have hszN : ¬ t.text.size < m := by have := HSZ.out; omega
    have jw := IntWalk.i64_in ((m : Int) + x.size) (by omega)
    have h40N : ¬ 40 < m + x.size := by have := H40.out; omega
    go_quiet (fail)
    clear hszN jw h40N
    have h40I := H40.out
    go_wp2_with fail
    have hd0 := below_drewN (Below.refl w1.heap.size w1) nq
    have B2 := hide (below_via0 B1.out hd0)
    have HRa := hide ((HR0B.out).below hd0 hh)
    have HRb := hide ((HR1B.out).below hd0 hg)
    have x4 := (hd0.cell (p := ⟨b, off + k * 7 + 4, none⟩) hbl).trans d4
    have hb2 := Nat.lt_of_lt_of_le hbl hd0.size
    clear c0 c1 c2 z0 z1 z2 v0 v1 v2 v3 hh hg d4 hbl hd0
    generalize w1.drewN nq = W2 at *
    have p0 : W2.cell? ⟨pb, 0, none⟩ = some (.int .i64 (k : Int)) := HRa.out.cell (j := 0) rfl
    have ph := HRa.out.lt
    refine (l6Copy_c _ n c l hn HZS.out _ (HJ.out.below B2.out)).mono ?_
    rintro e w3 ⟨V, rfl, hcp, hb23⟩
    have x5 := (hb23.cell (p := ⟨b, off + k * 7 + 4, none⟩) hb2).trans x4
    have hb5 := Nat.lt_of_lt_of_le hb2 hb23.size
    have B3 := hide (below_via0 B2.out hb23)
    have hB23 := B2.out.size
    have R0 := HRa.out.below hb23 ph
    have R1 := HRb.out.below hb23 HRb.out.lt
    have hh := R0.lt
    have hg := R1.lt
    have c0 : w3.cell? ⟨pb, 0, none⟩ = some (.int .i64 (k : Int)) := R0.cell (j := 0) rfl
    have c1 : w3.cell? ⟨pb, 1, none⟩ = some (.int .i64 (m : Int)) := R0.cell (j := 1) rfl
    have c2 : w3.cell? ⟨pb, 2, none⟩ = some (.int .i64 r) := R0.cell (j := 2) rfl
    have v3 := R0.frozen 1
    have z0 : w3.cell? ⟨pb + 1, 0, none⟩ = some (.int .i64 0) := R1.cell (j := 0) rfl
    have z1 : w3.cell? ⟨pb + 1, 1, none⟩ = some (.int .i64 0) := R1.cell (j := 1) rfl
    have z2 : w3.cell? ⟨pb + 1, 2, none⟩ = some (.int .i64 0) := R1.cell (j := 2) rfl
    have v0 := R1.frozen 0
    have v1 := R1.frozen 1
    have v2 := R1.frozen 2
    have HR01 := hide (And.intro R0.lt R1.lt)
    have hgV := hcp.inN
    obtain ⟨g, cc, rfl, hcc, _⟩ := hgV
    obtain ⟨⟨k4, kf, kl, kB⟩, HCP⟩ := hcp.text HT.out (t.text.extract 0 m ++ x)
    have hpg : pb + 1 < g := by have := HRb.out.lt; omega
    have HCP2 := hide HCP
    have HBB2 := hide hB23
    have HRa3 := hide R0
    have HRb3 := hide R1
    have HpW := hide (show pb + 1 < W2.heap.size from HRb.out.lt)
    have HS3 := hide hb23.size
    clear R0 R1 hcp HCP hb23 hB23 x4 p0 ph hb2
    have hmS : m ≤ t.text.size := by have := HSZ.out; omega
    have hmI : (m : Int) ≤ t.text.size := by have := HSZ.out; omega
    have jw := IntWalk.i64_in ((m : Int) + x.size) (by omega)
    have hs1 : (t.text.extract 0 m).size = m := by rw [ByteArray.size_extract]; omega
    go_wp2_with fail
    go_region
    have Q0 : Row (w3.setCell ⟨g, k * 7 + 4, none⟩ (.string (t.text.extract 0 m ++ x))).drew pb 3 (fun j => #[Value.int .i64 (k : Int), .int .i64 (m : Int), .int .i64 r][j]?) := HRa3.out.keep (Below.heap_setCell w3 ⟨g, k * 7 + 4, none⟩ _ pb (by show pb ≠ g; omega))
    have Q1 : Row (w3.setCell ⟨g, k * 7 + 4, none⟩ (.string (t.text.extract 0 m ++ x))).drew (pb + 1) 3 (fun j => #[Value.int .i64 0, .int .i64 0, .int .i64 0][j]?) := HRb3.out.keep (Below.heap_setCell w3 ⟨g, k * 7 + 4, none⟩ _ (pb + 1) (by show pb + 1 ≠ g; omega))
    have HCW5 := hide (HCP2.out.below ((Below.refl _ _).drew))
    have BW5 := hide ((B3.out.setCell (p := ⟨g, k * 7 + 4, none⟩) (by show w.heap.size ≤ g; have := HBB2.out; omega) (.string (t.text.extract 0 m ++ x))).drew)
    clear HCP2 c0 c1 c2 z0 z1 z2 v0 v1 v2 v3 hh hg k4 kf kl
    generalize (w3.setCell ⟨g, k * 7 + 4, none⟩ (.string (t.text.extract 0 m ++ x))).drew = W5 at *
    have hh := Q0.lt
    have hg := Q1.lt
    have c0 : W5.cell? ⟨pb, 0, none⟩ = some (.int .i64 (k : Int)) := Q0.cell (j := 0) rfl
    have c1 : W5.cell? ⟨pb, 1, none⟩ = some (.int .i64 (m : Int)) := Q0.cell (j := 1) rfl
    have c2 : W5.cell? ⟨pb, 2, none⟩ = some (.int .i64 r) := Q0.cell (j := 2) rfl
    have v3 := Q0.frozen 1
    have z0 : W5.cell? ⟨pb + 1, 0, none⟩ = some (.int .i64 0) := Q1.cell (j := 0) rfl
    have z1 : W5.cell? ⟨pb + 1, 1, none⟩ = some (.int .i64 0) := Q1.cell (j := 1) rfl
    have z2 : W5.cell? ⟨pb + 1, 2, none⟩ = some (.int .i64 0) := Q1.cell (j := 2) rfl
    have v0 := Q1.frozen 0
    have v1 := Q1.frozen 1
    have v2 := Q1.frozen 2
    have HQaW5 := hide Q0
    have HQbW5 := hide Q1
    clear Q0 Q1
    have HHA := hide h40I
    rcases Nat.lt_or_ge (m + x.size) t.text.size with hlt | hge
    · have hlti : (m : Int) + x.size < t.text.size := by omega
      have hs2 : (t.text.extract (m + x.size) t.text.size).size = t.text.size - (m + x.size) := by rw [ByteArray.size_extract]; omega
      have hget : (l.set k (t.re (t.text.extract 0 m ++ x)))[k]? = some (t.re (t.text.extract 0 m ++ x)) := List.getElem?_set_self (by omega)
      obtain ⟨⟨k4, kf, kl, _⟩, HCP⟩ := HCW5.out.text hget (wrX t.text m x)
      rw [List.set_set] at HCP
      have HCP3 := hide (show CpN _ _ _ _ (l.set k (t.re (wrX t.text m x))) n from HCP)
      clear HCP hget
      go_wp2_with fail
      go_region
      rw [wrX_lt t.text x hlt]
      have Q0 : Row (W5.setCell ⟨g, k * 7 + 4, none⟩ (.string (wrX t.text m x))).drew pb 3 (fun j => #[Value.int .i64 (k : Int), .int .i64 (m : Int), .int .i64 r][j]?) := HQaW5.out.keep (Below.heap_setCell W5 ⟨g, k * 7 + 4, none⟩ _ pb (by show pb ≠ g; omega))
      have Q1 : Row (W5.setCell ⟨g, k * 7 + 4, none⟩ (.string (wrX t.text m x))).drew (pb + 1) 3 (fun j => #[Value.int .i64 0, .int .i64 0, .int .i64 0][j]?) := HQbW5.out.keep (Below.heap_setCell W5 ⟨g, k * 7 + 4, none⟩ _ (pb + 1) (by show pb + 1 ≠ g; omega))
      have HCW6 := hide (HCP3.out.below ((Below.refl _ _).drew))
      have BW6 := hide ((BW5.out.setCell (p := ⟨g, k * 7 + 4, none⟩) (by show w.heap.size ≤ g; have := HBB2.out; omega) (.string (wrX t.text m x))).drew)
      clear HCP3 c0 c1 c2 z0 z1 z2 v0 v1 v2 v3 hh hg k4 kf kl
      generalize (W5.setCell ⟨g, k * 7 + 4, none⟩ (.string (wrX t.text m x))).drew = W6 at *
      have hh := Q0.lt
      have hg := Q1.lt
      have c0 : W6.cell? ⟨pb, 0, none⟩ = some (.int .i64 (k : Int)) := Q0.cell (j := 0) rfl
      have c1 : W6.cell? ⟨pb, 1, none⟩ = some (.int .i64 (m : Int)) := Q0.cell (j := 1) rfl
      have c2 : W6.cell? ⟨pb, 2, none⟩ = some (.int .i64 r) := Q0.cell (j := 2) rfl
      have v3 := Q0.frozen 1
      have z0 : W6.cell? ⟨pb + 1, 0, none⟩ = some (.int .i64 0) := Q1.cell (j := 0) rfl
      have z1 : W6.cell? ⟨pb + 1, 1, none⟩ = some (.int .i64 0) := Q1.cell (j := 1) rfl
      have z2 : W6.cell? ⟨pb + 1, 2, none⟩ = some (.int .i64 0) := Q1.cell (j := 2) rfl
      have v0 := Q1.frozen 0
      have v1 := Q1.frozen 1
      have v2 := Q1.frozen 2
      have HQaW6 := hide Q0
      have HQbW6 := hide Q1
      clear Q0 Q1
      go_wp2_with fail
      go_region
      go_wp2_with fail
      have HO := hide ((((OffP.refl (fun b => b = pb + 1) W6).setCell (o := 0) rfl (.int .i64 (k : Int))).setCell (o := 1) rfl (.int .i64 ((m : Int) + x.size))).setCell (o := 2) rfl (.int .i64 r))
      have HC2 := hide (((HCW6.out.offP HO.out (fun b hb hl => by have := HpW.out; omega)).mono HBB2.out).below ((below_alloc0 (Below.refl _ _) (.cells #[.int .i64 (k : Int), .int .i64 ((m : Int) + x.size), .int .i64 r] 32)).drew))
      have hww := HHH.out
      exact bodyPost_ret (v := .tuple #[.slice (some ⟨g, 0, none⟩) n cc, .agg #[.int .i64 (k : Int), .int .i64 ((m : Int) + x.size), .int .i64 r], .int .i64 0]) (by simp [results, Try.results29, go_sem, z0, z1, z2, c0, c1, c2, hg]) rfl ⟨_, by rw [HN.out], by rw [HN.out]; exact .inr (by show CpN _ _ _ _ (l.set k _) (l.set k _).length; rw [List.length_set, hlen]; exact HC2.out), (below_alloc0 (((BW6.out.setCell (p := ⟨pb + 1, 0, none⟩) (by show w.heap.size ≤ pb + 1; omega) _).setCell (p := ⟨pb + 1, 1, none⟩) (by show w.heap.size ≤ pb + 1; omega) _).setCell (p := ⟨pb + 1, 2, none⟩) (by show w.heap.size ≤ pb + 1; omega) _) _).drew⟩
    · have hlti : (t.text.size : Int) ≤ (m : Int) + x.size := by omega
      have HCG := hide (show CpN true W5 W2.heap.size (.slice (some ⟨g, 0, none⟩) n cc) (l.set k (t.re (wrX t.text m x))) n by have := HCW5.out; rwa [show t.text.extract 0 m ++ x = wrX t.text m x by rw [wrX, if_neg (by omega)]] at this)
      go_wp2_with fail
      go_region
      go_wp2_with fail
      have HO := hide ((((OffP.refl (fun b => b = pb + 1) W5).setCell (o := 0) rfl (.int .i64 (k : Int))).setCell (o := 1) rfl (.int .i64 ((m : Int) + x.size))).setCell (o := 2) rfl (.int .i64 r))
      have HC2 := hide (((HCG.out.offP HO.out (fun b hb hl => by have := HpW.out; omega)).mono HBB2.out).below ((below_alloc0 (Below.refl _ _) (.cells #[.int .i64 (k : Int), .int .i64 ((m : Int) + x.size), .int .i64 r] 32)).drew))
      have hww := HHH.out
      exact bodyPost_ret (v := .tuple #[.slice (some ⟨g, 0, none⟩) n cc, .agg #[.int .i64 (k : Int), .int .i64 ((m : Int) + x.size), .int .i64 r], .int .i64 0]) (by simp [results, Try.results29, go_sem, z0, z1, z2, c0, c1, c2, hg]) rfl ⟨_, by rw [HN.out], by rw [HN.out]; exact .inr (by show CpN _ _ _ _ (l.set k _) (l.set k _).length; rw [List.length_set, hlen]; exact HC2.out), (below_alloc0 (((BW5.out.setCell (p := ⟨pb + 1, 0, none⟩) (by show w.heap.size ≤ pb + 1; omega) _).setCell (p := ⟨pb + 1, 1, none⟩) (by show w.heap.size ≤ pb + 1; omega) _).setCell (p := ⟨pb + 1, 2, none⟩) (by show w.heap.size ≤ pb + 1; omega) _) _).drew⟩
end Go.Proofs.Ytncjghmjlcohjaa
