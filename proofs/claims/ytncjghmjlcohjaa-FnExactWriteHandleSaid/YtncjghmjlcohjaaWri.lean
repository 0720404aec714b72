/-
  WriteHandle of the program. No condition.
-/
import Derived.Test.YtncjghmjlcohjaaProg
import Derived.Test.YtncjghmjlcohjaaCpx
import Derived.Test.YtncjghmjlcohjaaCpz
import Derived.Test.YtncjghmjlcohjaaHas
namespace Go.Proofs.Ytncjghmjlcohjaa
open Go.RowKit
set_option linter.unusedSimpArgs false
set_option linter.unusedVariables false

/-- The text of a file in which x is written from a on. -/
def wrX (t : ByteArray) (a : Nat) (x : ByteArray) : ByteArray := if a + x.size < t.size then t.extract 0 a ++ x ++ t.extract (a + x.size) t.size else t.extract 0 a ++ x
/-- What WriteHandle gives: the tree, the place, the code. -/
noncomputable def wrR (l : List Node) (n : Nat) (f a r : Int) (x : ByteArray) : List Node × Int × Int :=
  bif hanB l n f a r then bif bits .and .i64 r 2 == 0 then ([], a, 3) else bif decide ((txAt l f).size < a) || decide (40 < a + x.size) then ([], a, 6) else
    (match l[f.toNat]? with | some t => l.set f.toNat (t.re (wrX t.text a.toNat x)) | none => [], a + x.size, 0)
  else ([], a, 1)
/-- A tree of one's own, or none. -/
def WrV (w : World) (B : Nat) (V : Value) (L : List Node) : Prop := (L = [] ∧ ∃ A c, V = .slice A 0 c) ∨ CpN true w B V L L.length
theorem wrX_le (t x : ByteArray) {m : Nat} (h : m ≤ t.size) : (wrX t m x).size ≤ t.size + x.size := by
  unfold wrX
  split
  · simp only [ByteArray.size_append, ByteArray.size_extract]; omega
  · simp only [ByteArray.size_append, ByteArray.size_extract]; omega
theorem wrX_lt (t x : ByteArray) {m : Nat} (h : m + x.size < t.size) : t.extract 0 m ++ x ++ t.extract (m + x.size) t.size = wrX t m x := by rw [wrX, if_pos h]
theorem wrX_ge (t x : ByteArray) {m : Nat} (h : t.size ≤ m + x.size) : t.extract 0 m ++ x ++ t.extract (if (t.size : Int) < (m : Int) + (x.size : Int) then (t.size : Int) else (m : Int) + (x.size : Int)).toNat t.size = wrX t m x := by
  have e : (if (t.size : Int) < (m : Int) + (x.size : Int) then (t.size : Int) else (m : Int) + (x.size : Int)).toNat = t.size := by split <;> omega
  have e2 : t.extract t.size t.size = ByteArray.empty := by
    apply ByteArray.ext
    simp [ByteArray.data_extract]
  rw [e, wrX, if_neg (by omega), e2]
  exact ByteArray.append_empty
theorem wrR_1 {l : List Node} {n : Nat} {f a r : Int} {x : ByteArray} (h : hanB l n f a r = false) : wrR l n f a r x = ([], a, 1) := by rw [wrR, h]; rfl
theorem wrR_3 {l : List Node} {n : Nat} {f a r : Int} {x : ByteArray} (h : hanB l n f a r = true) (h2 : (bits .and .i64 r 2 == 0) = true) : wrR l n f a r x = ([], a, 3) := by rw [wrR, h, h2]; rfl
theorem wrR_6 {l : List Node} {n : Nat} {f a r : Int} {x : ByteArray} (h : hanB l n f a r = true) (h2 : (bits .and .i64 r 2 == 0) = false) (h3 : (txAt l f).size < a ∨ 40 < a + x.size) : wrR l n f a r x = ([], a, 6) := by
  have : (decide (((txAt l f).size : Int) < a) || decide (40 < a + (x.size : Int))) = true := by
    rcases h3 with h | h
    · rw [decide_eq_true h]; rfl
    · rw [decide_eq_true h, Bool.or_true]
  rw [wrR, h, h2, this]; rfl
theorem wrR_0 {l : List Node} {n k : Nat} {a : Nat} {r : Int} {x : ByteArray} {t : Node} (h : hanB l n (k : Int) (a : Int) r = true) (h2 : (bits .and .i64 r 2 == 0) = false) (h3 : a ≤ t.text.size) (h4 : a + x.size ≤ 40) (ht : l[k]? = some t) : wrR l n (k : Int) (a : Int) r x = (l.set k (t.re (wrX t.text a x)), ((a : Int) + x.size), 0) := by
  have e1 : txAt l (k : Int) = t.text := by simp [txAt, ht]
  have : (decide (((txAt l (k : Int)).size : Int) < (a : Int)) || decide (40 < (a : Int) + (x.size : Int))) = false := by
    rw [e1, decide_eq_false (by omega), decide_eq_false (by omega)]; rfl
  rw [wrR, h, h2, this]
  simp [ht]
set_option maxRecDepth 100000 in
set_option maxHeartbeats 8000000 in
theorem wrImpl_c (A : Option Addr) (n c : Nat) (l : List Node) (f a r : Int) (x : ByteArray) (hx : x.size ≤ 1048576) (w : World) (hI : InNode w A n l) (hJ : InJ w A n l) (hn : n ≤ 1048576) (hz : ∀ t ∈ l, NodeS t) (hZ : ∀ t ∈ l, NodeZ t) :
    Calls Try.prog 30 #[.slice A n c, .agg #[.int .i64 f, .int .i64 a, .int .i64 r], .string x] w fun e w' => ∃ V, e = .returned (.tuple #[V, .agg #[.int .i64 f, .int .i64 (wrR l n f a r x).2.1, .int .i64 r], .int .i64 (wrR l n f a r x).2.2]) ∧ WrV w' w.heap.size V (wrR l n f a r x).1 ∧ Below w.heap.size w w' := by
  have HI := hide hI
  have HJ := hide hJ
  have HZS := hide hz
  have HZZ := hide hZ
  have hlen := hI.1
  have BW : Below w.heap.size w ((w.alloc (.cells #[.int .i64 f, .int .i64 a, .int .i64 r] 32)).alloc (.cells #[.int .i64 0, .int .i64 0, .int .i64 0] 32)) := below_alloc0 (below_alloc0 (Below.refl _ _) _) _
  have R0 := (Row.made w 32 #[.int .i64 f, .int .i64 a, .int .i64 r] (fun j => #[Value.int .i64 f, .int .i64 a, .int .i64 r][j]?) (fun _ _ h => h)).alloc (.cells #[.int .i64 0, .int .i64 0, .int .i64 0] 32)
  have R1 := Row.made (w.alloc (.cells #[.int .i64 f, .int .i64 a, .int .i64 r] 32)) 32 #[.int .i64 0, .int .i64 0, .int .i64 0] (fun j => #[Value.int .i64 0, .int .i64 0, .int .i64 0][j]?) (fun _ _ h => h)
  rw [show (w.alloc (.cells #[.int .i64 f, .int .i64 a, .int .i64 r] 32)).heap.size = w.heap.size + 1 by simp] at R1
  clear hI hz hZ hJ
  go_enter Try.func30, Try.ntmps30
  go_wp2_with fail
  generalize ((w.alloc (.cells #[.int .i64 f, .int .i64 a, .int .i64 r] 32)).alloc (.cells #[.int .i64 0, .int .i64 0, .int .i64 0] 32)) = W0 at *
  obtain ⟨pb, hhh⟩ : ∃ h, h = w.heap.size := ⟨_, rfl⟩
  rw [← hhh] at R0 R1 ⊢
  have HHH := hide hhh
  clear hhh
  have HR0 := hide R0
  have HR1 := hide R1
  have hh0 := R0.lt
  have c0 : W0.cell? ⟨pb, 0, none⟩ = some (.int .i64 f) := R0.cell (j := 0) rfl
  have c1 : W0.cell? ⟨pb, 1, none⟩ = some (.int .i64 a) := R0.cell (j := 1) rfl
  have c2 : W0.cell? ⟨pb, 2, none⟩ = some (.int .i64 r) := R0.cell (j := 2) rfl
  clear R0 R1
  go_wp2_with fail
  refine (hanImpl_c A n c l f a r _ (HI.out.below BW) hn HZS.out HZZ.out).mono ?_
  rintro e w1 ⟨rfl, hb1⟩
  clear c0 c1 c2 hh0
  have R0 := HR0.out.below hb1 HR0.out.lt
  have R1 := HR1.out.below hb1 HR1.out.lt
  have B1 := hide (below_via0 BW hb1)
  clear hb1
  have hh := R0.lt
  have hg := R1.lt
  have c0 : w1.cell? ⟨pb, 0, none⟩ = some (.int .i64 f) := R0.cell (j := 0) rfl
  have c1 : w1.cell? ⟨pb, 1, none⟩ = some (.int .i64 a) := R0.cell (j := 1) rfl
  have c2 : w1.cell? ⟨pb, 2, none⟩ = some (.int .i64 r) := R0.cell (j := 2) rfl
  have v3 := R0.frozen 1
  have z0 : w1.cell? ⟨pb + 1, 0, none⟩ = some (.int .i64 0) := R1.cell (j := 0) rfl
  have z1 : w1.cell? ⟨pb + 1, 1, none⟩ = some (.int .i64 0) := R1.cell (j := 1) rfl
  have z2 : w1.cell? ⟨pb + 1, 2, none⟩ = some (.int .i64 0) := R1.cell (j := 2) rfl
  have v0 := R1.frozen 0
  have v1 := R1.frozen 1
  have v2 := R1.frozen 2
  have HR0B := hide R0
  have HR1B := hide R1
  clear R0 R1 BW
  cases hv : hanB l n f a r
  · have HN := hide (wrR_1 (x := x) hv)
    go_wp2_with fail
    go_region
    all_goals
      go_wp2_with fail
      exact bodyPost_ret (v := .tuple #[.slice none 0 0, .agg #[.int .i64 f, .int .i64 a, .int .i64 r], .int .i64 1]) (by simp [results, Try.results30, go_sem, z0, z1, z2, c0, c1, c2, hg]) rfl ⟨_, by rw [HN.out], by rw [HN.out]; exact .inl ⟨rfl, _, _, rfl⟩, (((B1.out.setCell (p := ⟨pb + 1, 0, none⟩) (by show w.heap.size ≤ pb + 1; have := HHH.out; omega) _).setCell (p := ⟨pb + 1, 1, none⟩) (by show w.heap.size ≤ pb + 1; have := HHH.out; omega) _).setCell (p := ⟨pb + 1, 2, none⟩) (by show w.heap.size ≤ pb + 1; have := HHH.out; omega) _).drew⟩
  cases hb : (bits .and .i64 r 2 == 0) with
  | true =>
    have HN := hide (wrR_3 (x := x) hv hb)
    go_wp2_with fail
    go_region
    all_goals
      go_wp2_with fail
      exact bodyPost_ret (v := .tuple #[.slice none 0 0, .agg #[.int .i64 f, .int .i64 a, .int .i64 r], .int .i64 3]) (by simp [results, Try.results30, go_sem, z0, z1, z2, c0, c1, c2, hg]) rfl ⟨_, by rw [HN.out], by rw [HN.out]; exact .inl ⟨rfl, _, _, rfl⟩, (((B1.out.setCell (p := ⟨pb + 1, 0, none⟩) (by show w.heap.size ≤ pb + 1; have := HHH.out; omega) _).setCell (p := ⟨pb + 1, 1, none⟩) (by show w.heap.size ≤ pb + 1; have := HHH.out; omega) _).setCell (p := ⟨pb + 1, 2, none⟩) (by show w.heap.size ≤ pb + 1; have := HHH.out; omega) _).drew⟩
  | false =>
    have HB := hide hb
    have HV := hide hv
    have hv' := hv
    simp only [hanB, Bool.and_eq_true] at hv'
    obtain ⟨hvt, hf, hdr, ha, hrr⟩ := hv'
    obtain ⟨a0, a40⟩ := inB_iff.1 ha
    obtain ⟨f0, f1⟩ := inB_iff.1 hf
    obtain ⟨k, rfl⟩ := Int.eq_ofNat_of_zero_le f0
    obtain ⟨m, rfl⟩ := Int.eq_ofNat_of_zero_le a0
    obtain ⟨b, off, rfl, hR⟩ := HI.out.2 (by omega)
    have hk : k < n := by omega
    have hkn : (k : Int) < n := by omega
    obtain ⟨t, ht⟩ : ∃ t, l[k]? = some t := ⟨_, List.getElem?_eq_getElem (by omega)⟩
    have htx : txAt l (k : Int) = t.text := by simp [txAt, ht]
    have HTV := treeB_iff.1 hvt
    have ht40 : t.text.size ≤ 40 := (HTV.2.2.2.1 k t ht).1.2.1
    obtain ⟨S, K, ⟨_, _, _, _, d4, _⟩, _, _⟩ := (hR.below B1.out).2 k t ht
    have hbl := (hR.below B1.out).1
    have HR := hide hR
    have HT := hide ht
    have HTX := hide htx
    clear hR ht htx HTV hf hvt hdr ha hrr hv f0 f1
    by_cases hsz : (t.text.size : Int) < m
    · have HN := hide (wrR_6 (x := x) HV.out hb (.inl (by rw [HTX.out]; omega)))
      go_wp2_with fail
      go_quiet (fail)
      go_wp2_with fail
      go_region
      all_goals
        go_wp2_with fail
        exact bodyPost_ret (v := .tuple #[.slice none 0 0, .agg #[.int .i64 (k : Int), .int .i64 (m : Int), .int .i64 r], .int .i64 6]) (by simp [results, Try.results30, go_sem, z0, z1, z2, c0, c1, c2, hg]) rfl ⟨_, by rw [HN.out], by rw [HN.out]; exact .inl ⟨rfl, _, _, rfl⟩, ((((below_drewN B1.out _).setCell (p := ⟨pb + 1, 0, none⟩) (by show w.heap.size ≤ pb + 1; have := HHH.out; omega) _).setCell (p := ⟨pb + 1, 1, none⟩) (by show w.heap.size ≤ pb + 1; have := HHH.out; omega) _).setCell (p := ⟨pb + 1, 2, none⟩) (by show w.heap.size ≤ pb + 1; have := HHH.out; omega) _)⟩
    have HSZ := hide hsz
    clear hsz
    by_cases h40 : (40 : Int) < m + x.size
    · have HN := hide (wrR_6 (x := x) HV.out hb (.inr (by omega)))
      go_wp2_with fail
      have hszN : ¬ t.text.size < m := by have := HSZ.out; omega
      have jw := IntWalk.i64_in ((m : Int) + x.size) (by omega)
      have h40N : 40 < m + x.size := by omega
      go_quiet (fail)
      clear hszN jw
      go_wp2_with fail
      go_region
      all_goals
        go_wp2_with fail
        exact bodyPost_ret (v := .tuple #[.slice none 0 0, .agg #[.int .i64 (k : Int), .int .i64 (m : Int), .int .i64 r], .int .i64 6]) (by simp [results, Try.results30, go_sem, z0, z1, z2, c0, c1, c2, hg]) rfl ⟨_, by rw [HN.out], by rw [HN.out]; exact .inl ⟨rfl, _, _, rfl⟩, ((((below_drewN B1.out _).setCell (p := ⟨pb + 1, 0, none⟩) (by show w.heap.size ≤ pb + 1; have := HHH.out; omega) _).setCell (p := ⟨pb + 1, 1, none⟩) (by show w.heap.size ≤ pb + 1; have := HHH.out; omega) _).setCell (p := ⟨pb + 1, 2, none⟩) (by show w.heap.size ≤ pb + 1; have := HHH.out; omega) _)⟩
    have H40 := hide h40
    have HN := hide (wrR_0 (t := t) (x := x) HV.out hb (by have := HSZ.out; omega) (by omega) HT.out)
    clear h40
    go_wp2_with fail
    have hszN : ¬ t.text.size < m := by have := HSZ.out; omega
    have jw := IntWalk.i64_in ((m : Int) + x.size) (by omega)
    have h40N : ¬ 40 < m + x.size := by have := H40.out; omega
    go_quiet (fail)
    clear hszN jw h40N
    have h40I := H40.out
    go_wp2_with fail
    have hd0 := below_drewN (Below.refl w1.heap.size w1) nq
    have B2 := hide (below_via0 B1.out hd0)
    have HRa := hide ((HR0B.out).below hd0 hh)
    have HRb := hide ((HR1B.out).below hd0 hg)
    have x4 := (hd0.cell (p := ⟨b, off + k * 7 + 4, none⟩) hbl).trans d4
    have hb2 := Nat.lt_of_lt_of_le hbl hd0.size
    clear c0 c1 c2 z0 z1 z2 v0 v1 v2 v3 hh hg d4 hbl hd0
    generalize w1.drewN nq = W2 at *
    have p0 : W2.cell? ⟨pb, 0, none⟩ = some (.int .i64 (k : Int)) := HRa.out.cell (j := 0) rfl
    have ph := HRa.out.lt
    go_region_held3 (fun w' => Below W2.heap.size W2 w' ∧ pb < w'.heap.size ∧ b < w'.heap.size ∧ w'.cell? ⟨pb, 0, none⟩ = some (.int .i64 (k : Int)) ∧ w'.cell? ⟨b, off + k * 7 + 4, none⟩ = some (.string t.text))
      (first | (have L1 := live hb3 b (by omega); have L2 := live hb3 pb (by omega); refine ⟨(by repeat' (first | exact Below.refl _ _ | assumption | exact And.left (by assumption) | omega | (simp; done) | (simp; omega) | (simp at *; omega) | (refine Below.setCell ?_ ?_ _) | (refine below_alloc0 ?_ _) | (refine Below.drew ?_) | (refine below_drewN ?_ _) | (refine below_via0 ?_ (by assumption)) | (refine Below.alloc ?_ ?_ _) | (refine below_via ?_ (by assumption) ?_))), ?_⟩; simp [*]; done) | (refine ⟨(by repeat' (first | exact Below.refl _ _ | assumption | exact And.left (by assumption) | omega | (simp; done) | (simp; omega) | (simp at *; omega) | (refine Below.setCell ?_ ?_ _) | (refine below_alloc0 ?_ _) | (refine Below.drew ?_) | (refine below_drewN ?_ _) | (refine below_via0 ?_ (by assumption)) | (refine Below.alloc ?_ ?_ _) | (refine below_via ?_ (by assumption) ?_))), ?_⟩; simp [go_sem]; done) | (refine ⟨(by repeat' (first | exact Below.refl _ _ | assumption | exact And.left (by assumption) | omega | (simp; done) | (simp; omega) | (simp at *; omega) | (refine Below.setCell ?_ ?_ _) | (refine below_alloc0 ?_ _) | (refine Below.drew ?_) | (refine below_drewN ?_ _) | (refine below_via0 ?_ (by assumption)) | (refine Below.alloc ?_ ?_ _) | (refine below_via ?_ (by assumption) ?_))), ?_⟩; simp [go_sem, *]; done) | assumption | go_keep)
      (first | (go_at_call 46; refine (copyTree_c _ n c l hn HZS.out _ (HJ.out.below (below_via0 B2.out (And.left (by assumption))))).mono ?_; rintro e w3 ⟨V, rfl, hcp, hb3⟩))
    have hb23 : Below W2.heap.size W2 w3 := And.left (by assumption)
    have B3 := hide (below_via0 B2.out hb23)
    have hB23 := B2.out.size
    have R0 := HRa.out.below hb23 ph
    have R1 := HRb.out.below hb23 HRb.out.lt
    have hh := R0.lt
    have hg := R1.lt
    have c0 : w3.cell? ⟨pb, 0, none⟩ = some (.int .i64 (k : Int)) := R0.cell (j := 0) rfl
    have c1 : w3.cell? ⟨pb, 1, none⟩ = some (.int .i64 (m : Int)) := R0.cell (j := 1) rfl
    have c2 : w3.cell? ⟨pb, 2, none⟩ = some (.int .i64 r) := R0.cell (j := 2) rfl
    have v3 := R0.frozen 1
    have z0 : w3.cell? ⟨pb + 1, 0, none⟩ = some (.int .i64 0) := R1.cell (j := 0) rfl
    have z1 : w3.cell? ⟨pb + 1, 1, none⟩ = some (.int .i64 0) := R1.cell (j := 1) rfl
    have z2 : w3.cell? ⟨pb + 1, 2, none⟩ = some (.int .i64 0) := R1.cell (j := 2) rfl
    have v0 := R1.frozen 0
    have v1 := R1.frozen 1
    have v2 := R1.frozen 2
    have HR01 := hide (And.intro R0.lt R1.lt)
    have hgV := hcp.inN
    obtain ⟨g, cc, rfl, hcc, _⟩ := hgV
    obtain ⟨⟨k4, kf, kl, kB⟩, HCP⟩ := hcp.text HT.out (wrX t.text m x)
    have hdz : W2.drew.heap.size = W2.heap.size := by simp
    rw [hdz] at kB HCP
    have hpg : pb + 1 < g := by have := HRb.out.lt; omega
    have HCP2 := hide HCP
    have HBB2 := hide hB23
    have HRa3 := hide R0
    have HRb3 := hide R1
    have HpW := hide (show pb + 1 < W2.heap.size from HRb.out.lt)
    have HS3 := hide hb23.size
    clear R0 R1 hcp HCP hb23 hdz hB23 x4 p0 ph hb2
    have hmS : m ≤ t.text.size := by have := HSZ.out; omega
    have hmI : (m : Int) ≤ t.text.size := by have := HSZ.out; omega
    have jw := IntWalk.i64_in ((m : Int) + x.size) (by omega)
    have hwx := wrX_le t.text x hmS
    go_wp2_with fail
    have hs1 : (t.text.extract 0 m).size = m := by rw [ByteArray.size_extract]; omega
    have HHA := hide h40I
    rcases Nat.lt_or_ge (m + x.size) t.text.size with hlt | hge
    · have hlti : (m : Int) + x.size < t.text.size := by omega
      have hs2 : (t.text.extract (m + x.size) t.text.size).size = t.text.size - (m + x.size) := by rw [ByteArray.size_extract]; omega
      go_region
      rw [wrX_lt t.text x hlt]
      have Q0 : Row (w3.setCell ⟨g, k * 7 + 4, none⟩ (.string (wrX t.text m x))).drew pb 3 (fun j => #[Value.int .i64 (k : Int), .int .i64 (m : Int), .int .i64 r][j]?) := HRa3.out.keep (Below.heap_setCell w3 ⟨g, k * 7 + 4, none⟩ _ pb (by show pb ≠ g; omega))
      have Q1 : Row (w3.setCell ⟨g, k * 7 + 4, none⟩ (.string (wrX t.text m x))).drew (pb + 1) 3 (fun j => #[Value.int .i64 0, .int .i64 0, .int .i64 0][j]?) := HRb3.out.keep (Below.heap_setCell w3 ⟨g, k * 7 + 4, none⟩ _ (pb + 1) (by show pb + 1 ≠ g; omega))
      have HC := hide (HCP2.out.below ((Below.refl _ _).drew))
      have B4 := hide ((B3.out.setCell (p := ⟨g, k * 7 + 4, none⟩) (by show w.heap.size ≤ g; have := HBB2.out; omega) (.string (wrX t.text m x))).drew)
      clear HCP2 c0 c1 c2 z0 z1 z2 v0 v1 v2 v3 hh hg k4 kf kl
      generalize (w3.setCell ⟨g, k * 7 + 4, none⟩ (.string (wrX t.text m x))).drew = W5 at *
      have hh := Q0.lt
      have hg := Q1.lt
      have c0 : W5.cell? ⟨pb, 0, none⟩ = some (.int .i64 (k : Int)) := Q0.cell (j := 0) rfl
      have c1 : W5.cell? ⟨pb, 1, none⟩ = some (.int .i64 (m : Int)) := Q0.cell (j := 1) rfl
      have c2 : W5.cell? ⟨pb, 2, none⟩ = some (.int .i64 r) := Q0.cell (j := 2) rfl
      have v3 := Q0.frozen 1
      have z0 : W5.cell? ⟨pb + 1, 0, none⟩ = some (.int .i64 0) := Q1.cell (j := 0) rfl
      have z1 : W5.cell? ⟨pb + 1, 1, none⟩ = some (.int .i64 0) := Q1.cell (j := 1) rfl
      have z2 : W5.cell? ⟨pb + 1, 2, none⟩ = some (.int .i64 0) := Q1.cell (j := 2) rfl
      have v0 := Q1.frozen 0
      have v1 := Q1.frozen 1
      have v2 := Q1.frozen 2
      clear Q0 Q1
      go_wp2_with fail
      go_region
      go_wp2_with fail
      have HO := hide (((((OffP.refl (fun b => b = pb ∨ b = pb + 1) W5).setCell (o := 1) (.inl rfl) (.int .i64 ((m : Int) + x.size))).setCell (o := 0) (.inr rfl) (.int .i64 (k : Int))).setCell (o := 1) (.inr rfl) (.int .i64 ((m : Int) + x.size))).setCell (o := 2) (.inr rfl) (.int .i64 r))
      have HC2 := hide (((HC.out.offP HO.out (fun b hb hl => by have := HpW.out; rcases hb with rfl | rfl <;> omega)).mono HBB2.out).below ((Below.refl _ _).drew))
      have hww := HHH.out
      exact bodyPost_ret (v := .tuple #[.slice (some ⟨g, 0, none⟩) n cc, .agg #[.int .i64 (k : Int), .int .i64 ((m : Int) + x.size), .int .i64 r], .int .i64 0]) (by simp [results, Try.results30, go_sem, z0, z1, z2, c0, c1, c2, hg]) rfl ⟨_, by rw [HN.out], by rw [HN.out]; exact .inr (by show CpN _ _ _ _ (l.set k _) (l.set k _).length; rw [List.length_set, hlen]; exact HC2.out), ((((B4.out.setCell (p := ⟨pb, 1, none⟩) (by show w.heap.size ≤ pb; omega) _).setCell (p := ⟨pb + 1, 0, none⟩) (by show w.heap.size ≤ pb + 1; omega) _).setCell (p := ⟨pb + 1, 1, none⟩) (by show w.heap.size ≤ pb + 1; omega) _).setCell (p := ⟨pb + 1, 2, none⟩) (by show w.heap.size ≤ pb + 1; omega) _).drew⟩
    · have hlti : (t.text.size : Int) ≤ (m : Int) + x.size := by omega
      have hs2 : (t.text.extract t.text.size t.text.size).size = 0 := by rw [ByteArray.size_extract]; omega
      go_region
      rw [wrX_ge t.text x hge]
      generalize (if (t.text.size : Int) < (m : Int) + (x.size : Int) then (t.text.size : Int) else (m : Int) + (x.size : Int)) = IFV at *
      have Q0 : Row (w3.setCell ⟨g, k * 7 + 4, none⟩ (.string (wrX t.text m x))).drew pb 3 (fun j => #[Value.int .i64 (k : Int), .int .i64 (m : Int), .int .i64 r][j]?) := HRa3.out.keep (Below.heap_setCell w3 ⟨g, k * 7 + 4, none⟩ _ pb (by show pb ≠ g; omega))
      have Q1 : Row (w3.setCell ⟨g, k * 7 + 4, none⟩ (.string (wrX t.text m x))).drew (pb + 1) 3 (fun j => #[Value.int .i64 0, .int .i64 0, .int .i64 0][j]?) := HRb3.out.keep (Below.heap_setCell w3 ⟨g, k * 7 + 4, none⟩ _ (pb + 1) (by show pb + 1 ≠ g; omega))
      have HC := hide (HCP2.out.below ((Below.refl _ _).drew))
      have B4 := hide ((B3.out.setCell (p := ⟨g, k * 7 + 4, none⟩) (by show w.heap.size ≤ g; have := HBB2.out; omega) (.string (wrX t.text m x))).drew)
      clear HCP2 c0 c1 c2 z0 z1 z2 v0 v1 v2 v3 hh hg k4 kf kl
      generalize (w3.setCell ⟨g, k * 7 + 4, none⟩ (.string (wrX t.text m x))).drew = W5 at *
      have hh := Q0.lt
      have hg := Q1.lt
      have c0 : W5.cell? ⟨pb, 0, none⟩ = some (.int .i64 (k : Int)) := Q0.cell (j := 0) rfl
      have c1 : W5.cell? ⟨pb, 1, none⟩ = some (.int .i64 (m : Int)) := Q0.cell (j := 1) rfl
      have c2 : W5.cell? ⟨pb, 2, none⟩ = some (.int .i64 r) := Q0.cell (j := 2) rfl
      have v3 := Q0.frozen 1
      have z0 : W5.cell? ⟨pb + 1, 0, none⟩ = some (.int .i64 0) := Q1.cell (j := 0) rfl
      have z1 : W5.cell? ⟨pb + 1, 1, none⟩ = some (.int .i64 0) := Q1.cell (j := 1) rfl
      have z2 : W5.cell? ⟨pb + 1, 2, none⟩ = some (.int .i64 0) := Q1.cell (j := 2) rfl
      have v0 := Q1.frozen 0
      have v1 := Q1.frozen 1
      have v2 := Q1.frozen 2
      clear Q0 Q1
      go_wp2_with fail
      go_region
      go_wp2_with fail
      have HO := hide (((((OffP.refl (fun b => b = pb ∨ b = pb + 1) W5).setCell (o := 1) (.inl rfl) (.int .i64 ((m : Int) + x.size))).setCell (o := 0) (.inr rfl) (.int .i64 (k : Int))).setCell (o := 1) (.inr rfl) (.int .i64 ((m : Int) + x.size))).setCell (o := 2) (.inr rfl) (.int .i64 r))
      have HC2 := hide (((HC.out.offP HO.out (fun b hb hl => by have := HpW.out; rcases hb with rfl | rfl <;> omega)).mono HBB2.out).below ((Below.refl _ _).drew))
      have hww := HHH.out
      exact bodyPost_ret (v := .tuple #[.slice (some ⟨g, 0, none⟩) n cc, .agg #[.int .i64 (k : Int), .int .i64 ((m : Int) + x.size), .int .i64 r], .int .i64 0]) (by simp [results, Try.results30, go_sem, z0, z1, z2, c0, c1, c2, hg]) rfl ⟨_, by rw [HN.out], by rw [HN.out]; exact .inr (by show CpN _ _ _ _ (l.set k _) (l.set k _).length; rw [List.length_set, hlen]; exact HC2.out), ((((B4.out.setCell (p := ⟨pb, 1, none⟩) (by show w.heap.size ≤ pb; omega) _).setCell (p := ⟨pb + 1, 0, none⟩) (by show w.heap.size ≤ pb + 1; omega) _).setCell (p := ⟨pb + 1, 1, none⟩) (by show w.heap.size ≤ pb + 1; omega) _).setCell (p := ⟨pb + 1, 2, none⟩) (by show w.heap.size ≤ pb + 1; omega) _).drew⟩
end Go.Proofs.Ytncjghmjlcohjaa
