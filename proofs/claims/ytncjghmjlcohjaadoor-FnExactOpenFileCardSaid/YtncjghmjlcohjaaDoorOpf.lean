/-
  OpenFile of both. The program's wants the library's own variable to hold some number.
-/
import Derived.Test.YtncjghmjlcohjaaDoorProg
import Derived.Test.YtncjghmjlcohjaaDoorMat
namespace Go.Proofs.YtncjghmjlcohjaaDoor
open Go.RowKit
set_option linter.unusedSimpArgs false
set_option linter.unusedVariables false

/-- What OpenFile gives: the file, the rights, the code. -/
noncomputable def opR (l : List Node) (n : Nat) (r a s g : Int) (path : ByteArray) (x : Int) : Int × Int × Int := bif !(maR l n r a s g path x == 0) then (0, 0, maR l n r a s g path x) else match l[(fnR l n r a s g path).1.toNat]? with | some t => if t.dir = true then (0, 0, 4) else ((fnR l n r a s g path).1, x, 0) | none => (0, 0, 4)
theorem maR_ok {l : List Node} {n : Nat} {r a s g x : Int} {path : ByteArray} (hl : l.length = n) : maR l n r a s g path x = 0 → ∃ (i : Nat) (t : Node), (fnR l n r a s g path).1 = i ∧ l[i]? = some t := by
  intro h
  cases hx : inB x 0 7
  · rw [maR, hx] at h; simp at h
  by_cases hq : (fnR l n r a s g path).2 = 0
  · obtain ⟨i, t, h1, h2, _⟩ := fnR_ok hl hq
    exact ⟨i, t, h1, h2⟩
  · have hq' : ((fnR l n r a s g path).2 == 0) = false := by simpa using hq
    rw [maR, hx, hq'] at h
    exact absurd h hq
set_option maxRecDepth 100000 in
set_option maxHeartbeats 4000000 in
theorem opI_c (A : Option Addr) (n c : Nat) (l : List Node) (r a s g x : Int) (path : ByteArray) (hp : path.size ≤ 1048576) (w : World) (hm : MX w) (hI : InNode w A n l) (hn : n ≤ 1048576) (hz : ∀ t ∈ l, NodeS t) (hZ : ∀ t ∈ l, NodeZ t) :
    Calls Tryd.prog 8 #[.slice A n c, .agg #[.int .i64 r, .int .i64 a, .int .i64 s, .int .i64 g], .string path, .int .i64 x] w fun e w' => e = .returned (.tuple #[.agg #[.int .i64 (opR l n r a s g path x).1, .int .i64 0, .int .i64 (opR l n r a s g path x).2.1], .int .i64 (opR l n r a s g path x).2.2]) ∧ Below w.heap.size w w' := by
  have HI := hide hI
  have hlen := hI.1
  have B0 := hide (below_alloc0 (below_alloc0 (Below.refl w.heap.size w) (.cells #[.int .i64 r, .int .i64 a, .int .i64 s, .int .i64 g] 32)) (.cells #[.int .i64 0, .int .i64 0, .int .i64 0] 27))
  have HCR := hide ((Row.made w 32 #[.int .i64 r, .int .i64 a, .int .i64 s, .int .i64 g] (fun j => (#[Value.int .i64 r, .int .i64 a, .int .i64 s, .int .i64 g] : Array Value)[j]?) (fun _ _ h => h)).alloc (.cells #[.int .i64 0, .int .i64 0, .int .i64 0] 27))
  have hR1 := Row.made (w.alloc (.cells #[.int .i64 r, .int .i64 a, .int .i64 s, .int .i64 g] 32)) 27 #[.int .i64 0, .int .i64 0, .int .i64 0] (fun j => (#[Value.int .i64 0, .int .i64 0, .int .i64 0] : Array Value)[j]?) (fun _ _ h => h)
  rw [show (w.alloc (.cells #[.int .i64 r, .int .i64 a, .int .i64 s, .int .i64 g] 32)).heap.size = w.heap.size + 1 by simp] at hR1
  have HH := hide hR1
  have HM := hide hm
  have HFN := hide (fun (W : World) (hm : MX W) (h : InNode W A n l) => fnImpl_c A n c l r a s g path hp W hm h hn hz hZ)
  have HMA := hide (fun (W : World) (hm : MX W) (h : InNode W A n l) => maI_c A n c l r a s g x path hp W hm h hn hz hZ)
  have HOK := hide (maR_ok (r := r) (s := s) (l := l) (n := n) (a := a) (g := g) (path := path) (x := x) hlen)
  obtain ⟨q, hq⟩ : ∃ q, maR l n r a s g path x = q := ⟨_, rfl⟩
  rw [hq] at HMA HOK
  have HQ := hide hq
  clear hI hz hZ hR1 hq hm
  go_enter Tryd.func8, Tryd.ntmps8
  go_wp2_with fail
  refine (HMA.out _ (HM.out.below B0.out) (HI.out.below B0.out)).mono ?_
  rintro e w1 ⟨rfl, hb1⟩
  have B1 := hide (below_via0 B0.out hb1)
  replace HCR := hide (HCR.out.below hb1 HCR.out.lt)
  replace HH := hide (HH.out.below hb1 HH.out.lt)
  clear hb1
  have hcr := HCR.out
  have hh := HH.out
  have y0 : w1.cell? ⟨w.heap.size, 0, none⟩ = some (.int .i64 r) := hcr.cell (j := 0) rfl
  have y1 : w1.cell? ⟨w.heap.size, 1, none⟩ = some (.int .i64 a) := hcr.cell (j := 1) rfl
  have y2 : w1.cell? ⟨w.heap.size, 2, none⟩ = some (.int .i64 s) := hcr.cell (j := 2) rfl
  have y3 : w1.cell? ⟨w.heap.size, 3, none⟩ = some (.int .i64 g) := hcr.cell (j := 3) rfl
  have z0 : w1.cell? ⟨w.heap.size + 1, 0, none⟩ = some (.int .i64 0) := hh.cell (j := 0) rfl
  have z1 : w1.cell? ⟨w.heap.size + 1, 1, none⟩ = some (.int .i64 0) := hh.cell (j := 1) rfl
  have z2 : w1.cell? ⟨w.heap.size + 1, 2, none⟩ = some (.int .i64 0) := hh.cell (j := 2) rfl
  have v0 := hh.frozen 0
  have v1 := hh.frozen 1
  have v2 := hh.frozen 2
  have hwl := hcr.lt
  have hhl := hh.lt
  clear hcr hh
  by_cases hq : q = 0
  case neg =>
    have HF := hide (show opR l n r a s g path x = (0, 0, q) by
      have hq' : (q == 0) = false := by simpa using hq
      rw [opR, HQ.out, hq']; rfl)
    go_wp2_with fail
    exact bodyPost_ret (v := .tuple #[.agg #[.int .i64 0, .int .i64 0, .int .i64 0], .int .i64 q]) (by simp [results, Tryd.results8, go_sem, *]) rfl ⟨by rw [HF.out], (((B1.out.setCell (p := ⟨w.heap.size + 1, 0, none⟩) (by show w.heap.size ≤ w.heap.size + 1; omega) _).setCell (p := ⟨w.heap.size + 1, 1, none⟩) (by show w.heap.size ≤ w.heap.size + 1; omega) _).setCell (p := ⟨w.heap.size + 1, 2, none⟩) (by show w.heap.size ≤ w.heap.size + 1; omega) _)⟩
  subst hq
  obtain ⟨i, t, hvi, ht⟩ := HOK.out rfl
  have HT := hide ht
  go_wp2_with fail
  refine (HFN.out _ (HM.out.below B1.out) (HI.out.below B1.out)).mono ?_
  rintro e w2 ⟨rfl, hb2⟩
  rw [hvi]
  have B2 := hide (below_via0 B1.out hb2)
  have hh := HH.out.below hb2 HH.out.lt
  clear y0 y1 y2 y3 z0 z1 z2 v0 v1 v2 hwl hhl hb2
  have z0 : w2.cell? ⟨w.heap.size + 1, 0, none⟩ = some (.int .i64 0) := hh.cell (j := 0) rfl
  have z1 : w2.cell? ⟨w.heap.size + 1, 1, none⟩ = some (.int .i64 0) := hh.cell (j := 1) rfl
  have z2 : w2.cell? ⟨w.heap.size + 1, 2, none⟩ = some (.int .i64 0) := hh.cell (j := 2) rfl
  have v0 := hh.frozen 0
  have v1 := hh.frozen 1
  have v2 := hh.frozen 2
  have hhl := hh.lt
  have hin : i < n := by have := (List.getElem?_eq_some_iff.1 ht).1; omega
  have hii : (i : Int) < n := by omega
  obtain ⟨b, off, hA, hR2⟩ := (HI.out.below B2.out).2 (by omega)
  subst hA
  obtain ⟨S, K, ⟨c0, _⟩, _, _⟩ := hR2.2 i t ht
  have hbl := hR2.1
  have HVI := hide hvi
  clear hh hR2 ht hvi
  cases hd : t.dir
  · have HF := hide (show opR l n r a s g path x = ((i : Int), x, 0) by rw [opR, HQ.out, HVI.out, Int.toNat_natCast, HT.out]; simp [hd])
    rw [hd] at c0
    go_wp2_with fail
    exact bodyPost_ret (v := .tuple #[.agg #[.int .i64 (i : Int), .int .i64 0, .int .i64 x], .int .i64 0]) (by simp [results, Tryd.results8, go_sem, *]) rfl ⟨by rw [HF.out], (((B2.out.setCell (p := ⟨w.heap.size + 1, 0, none⟩) (by show w.heap.size ≤ w.heap.size + 1; omega) _).setCell (p := ⟨w.heap.size + 1, 1, none⟩) (by show w.heap.size ≤ w.heap.size + 1; omega) _).setCell (p := ⟨w.heap.size + 1, 2, none⟩) (by show w.heap.size ≤ w.heap.size + 1; omega) _)⟩
  · have HF := hide (show opR l n r a s g path x = (0, 0, 4) by rw [opR, HQ.out, HVI.out, Int.toNat_natCast, HT.out]; simp [hd])
    rw [hd] at c0
    go_wp2_with fail
    exact bodyPost_ret (v := .tuple #[.agg #[.int .i64 0, .int .i64 0, .int .i64 0], .int .i64 4]) (by simp [results, Tryd.results8, go_sem, *]) rfl ⟨by rw [HF.out], (((B2.out.setCell (p := ⟨w.heap.size + 1, 0, none⟩) (by show w.heap.size ≤ w.heap.size + 1; omega) _).setCell (p := ⟨w.heap.size + 1, 1, none⟩) (by show w.heap.size ≤ w.heap.size + 1; omega) _).setCell (p := ⟨w.heap.size + 1, 2, none⟩) (by show w.heap.size ≤ w.heap.size + 1; omega) _)⟩
set_option maxRecDepth 100000 in
set_option maxHeartbeats 4000000 in
theorem opS_c (A : Option Addr) (n c : Nat) (l : List Node) (r a s g x : Int) (path : ByteArray) (hp : path.size ≤ 1048576) (w : World) (hI : InNode w A n l) (hn : n ≤ 1048576) (hz : ∀ t ∈ l, NodeS t) (hZ : ∀ t ∈ l, NodeZ t) :
    Calls Tryd.prog 5 #[.slice A n c, .agg #[.int .i64 r, .int .i64 a, .int .i64 s, .int .i64 g], .string path, .int .i64 x] w fun e w' => e = .returned (.tuple #[.agg #[.int .i64 (opR l n r a s g path x).1, .int .i64 0, .int .i64 (opR l n r a s g path x).2.1], .int .i64 (opR l n r a s g path x).2.2]) ∧ Below w.heap.size w w' := by
  have HI := hide hI
  have hlen := hI.1
  have B0 := hide (below_alloc0 (below_alloc0 (Below.refl w.heap.size w) (.cells #[.int .i64 r, .int .i64 a, .int .i64 s, .int .i64 g] 32)) (.cells #[.int .i64 0, .int .i64 0, .int .i64 0] 27))
  have HCR := hide ((Row.made w 32 #[.int .i64 r, .int .i64 a, .int .i64 s, .int .i64 g] (fun j => (#[Value.int .i64 r, .int .i64 a, .int .i64 s, .int .i64 g] : Array Value)[j]?) (fun _ _ h => h)).alloc (.cells #[.int .i64 0, .int .i64 0, .int .i64 0] 27))
  have hR1 := Row.made (w.alloc (.cells #[.int .i64 r, .int .i64 a, .int .i64 s, .int .i64 g] 32)) 27 #[.int .i64 0, .int .i64 0, .int .i64 0] (fun j => (#[Value.int .i64 0, .int .i64 0, .int .i64 0] : Array Value)[j]?) (fun _ _ h => h)
  rw [show (w.alloc (.cells #[.int .i64 r, .int .i64 a, .int .i64 s, .int .i64 g] 32)).heap.size = w.heap.size + 1 by simp] at hR1
  have HH := hide hR1
  have HFN := hide (fun (W : World) (h : InNode W A n l) => fnSpec_c A n c l r a s g path hp W h hn hz hZ)
  have HMA := hide (fun (W : World) (h : InNode W A n l) => maS_c A n c l r a s g x path hp W h hn hz hZ)
  have HOK := hide (maR_ok (r := r) (s := s) (l := l) (n := n) (a := a) (g := g) (path := path) (x := x) hlen)
  obtain ⟨q, hq⟩ : ∃ q, maR l n r a s g path x = q := ⟨_, rfl⟩
  rw [hq] at HMA HOK
  have HQ := hide hq
  clear hI hz hZ hR1 hq
  go_enter Tryd.func5, Tryd.ntmps5
  go_wp2_with fail
  refine (HMA.out _ (HI.out.below B0.out)).mono ?_
  rintro e w1 ⟨rfl, hb1⟩
  have B1 := hide (below_via0 B0.out hb1)
  replace HCR := hide (HCR.out.below hb1 HCR.out.lt)
  replace HH := hide (HH.out.below hb1 HH.out.lt)
  clear hb1
  have hcr := HCR.out
  have hh := HH.out
  have y0 : w1.cell? ⟨w.heap.size, 0, none⟩ = some (.int .i64 r) := hcr.cell (j := 0) rfl
  have y1 : w1.cell? ⟨w.heap.size, 1, none⟩ = some (.int .i64 a) := hcr.cell (j := 1) rfl
  have y2 : w1.cell? ⟨w.heap.size, 2, none⟩ = some (.int .i64 s) := hcr.cell (j := 2) rfl
  have y3 : w1.cell? ⟨w.heap.size, 3, none⟩ = some (.int .i64 g) := hcr.cell (j := 3) rfl
  have z0 : w1.cell? ⟨w.heap.size + 1, 0, none⟩ = some (.int .i64 0) := hh.cell (j := 0) rfl
  have z1 : w1.cell? ⟨w.heap.size + 1, 1, none⟩ = some (.int .i64 0) := hh.cell (j := 1) rfl
  have z2 : w1.cell? ⟨w.heap.size + 1, 2, none⟩ = some (.int .i64 0) := hh.cell (j := 2) rfl
  have v0 := hh.frozen 0
  have v1 := hh.frozen 1
  have v2 := hh.frozen 2
  have hwl := hcr.lt
  have hhl := hh.lt
  clear hcr hh
  by_cases hq : q = 0
  case neg =>
    have HF := hide (show opR l n r a s g path x = (0, 0, q) by
      have hq' : (q == 0) = false := by simpa using hq
      rw [opR, HQ.out, hq']; rfl)
    go_wp2_with fail
    exact bodyPost_ret (v := .tuple #[.agg #[.int .i64 0, .int .i64 0, .int .i64 0], .int .i64 q]) (by simp [results, Tryd.results5, go_sem, *]) rfl ⟨by rw [HF.out], (((B1.out.setCell (p := ⟨w.heap.size + 1, 0, none⟩) (by show w.heap.size ≤ w.heap.size + 1; omega) _).setCell (p := ⟨w.heap.size + 1, 1, none⟩) (by show w.heap.size ≤ w.heap.size + 1; omega) _).setCell (p := ⟨w.heap.size + 1, 2, none⟩) (by show w.heap.size ≤ w.heap.size + 1; omega) _)⟩
  subst hq
  obtain ⟨i, t, hvi, ht⟩ := HOK.out rfl
  have HT := hide ht
  go_wp2_with fail
  refine (HFN.out _ (HI.out.below B1.out)).mono ?_
  rintro e w2 ⟨rfl, hb2⟩
  rw [hvi]
  have B2 := hide (below_via0 B1.out hb2)
  have hh := HH.out.below hb2 HH.out.lt
  clear y0 y1 y2 y3 z0 z1 z2 v0 v1 v2 hwl hhl hb2
  have z0 : w2.cell? ⟨w.heap.size + 1, 0, none⟩ = some (.int .i64 0) := hh.cell (j := 0) rfl
  have z1 : w2.cell? ⟨w.heap.size + 1, 1, none⟩ = some (.int .i64 0) := hh.cell (j := 1) rfl
  have z2 : w2.cell? ⟨w.heap.size + 1, 2, none⟩ = some (.int .i64 0) := hh.cell (j := 2) rfl
  have v0 := hh.frozen 0
  have v1 := hh.frozen 1
  have v2 := hh.frozen 2
  have hhl := hh.lt
  have hin : i < n := by have := (List.getElem?_eq_some_iff.1 ht).1; omega
  have hii : (i : Int) < n := by omega
  obtain ⟨b, off, hA, hR2⟩ := (HI.out.below B2.out).2 (by omega)
  subst hA
  obtain ⟨S, K, ⟨c0, _⟩, _, _⟩ := hR2.2 i t ht
  have hbl := hR2.1
  have HVI := hide hvi
  clear hh hR2 ht hvi
  cases hd : t.dir
  · have HF := hide (show opR l n r a s g path x = ((i : Int), x, 0) by rw [opR, HQ.out, HVI.out, Int.toNat_natCast, HT.out]; simp [hd])
    rw [hd] at c0
    go_wp2_with fail
    exact bodyPost_ret (v := .tuple #[.agg #[.int .i64 (i : Int), .int .i64 0, .int .i64 x], .int .i64 0]) (by simp [results, Tryd.results5, go_sem, *]) rfl ⟨by rw [HF.out], (((B2.out.setCell (p := ⟨w.heap.size + 1, 0, none⟩) (by show w.heap.size ≤ w.heap.size + 1; omega) _).setCell (p := ⟨w.heap.size + 1, 1, none⟩) (by show w.heap.size ≤ w.heap.size + 1; omega) _).setCell (p := ⟨w.heap.size + 1, 2, none⟩) (by show w.heap.size ≤ w.heap.size + 1; omega) _)⟩
  · have HF := hide (show opR l n r a s g path x = (0, 0, 4) by rw [opR, HQ.out, HVI.out, Int.toNat_natCast, HT.out]; simp [hd])
    rw [hd] at c0
    go_wp2_with fail
    exact bodyPost_ret (v := .tuple #[.agg #[.int .i64 0, .int .i64 0, .int .i64 0], .int .i64 4]) (by simp [results, Tryd.results5, go_sem, *]) rfl ⟨by rw [HF.out], (((B2.out.setCell (p := ⟨w.heap.size + 1, 0, none⟩) (by show w.heap.size ≤ w.heap.size + 1; omega) _).setCell (p := ⟨w.heap.size + 1, 1, none⟩) (by show w.heap.size ≤ w.heap.size + 1; omega) _).setCell (p := ⟨w.heap.size + 1, 2, none⟩) (by show w.heap.size ≤ w.heap.size + 1; omega) _)⟩
end Go.Proofs.YtncjghmjlcohjaaDoor
