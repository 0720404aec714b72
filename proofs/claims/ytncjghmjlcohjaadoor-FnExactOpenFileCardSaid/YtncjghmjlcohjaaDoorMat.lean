/-
  MayAt of both. The program's wants the library's own variable to hold some number.
-/
import Derived.Test.YtncjghmjlcohjaaDoorProg
import Derived.Test.YtncjghmjlcohjaaDoorFns
namespace Go.Proofs.YtncjghmjlcohjaaDoor
open Go.RowKit
set_option linter.unusedSimpArgs false
set_option linter.unusedVariables false

noncomputable def maR (l : List Node) (n : Nat) (r a s g : Int) (path : ByteArray) (x : Int) : Int := bif !inB x 0 7 then 1 else bif !((fnR l n r a s g path).2 == 0) then (fnR l n r a s g path).2 else match l[(fnR l n r a s g path).1.toNat]? with | some t => if mayN a g t x = true then 0 else 3 | none => 3
theorem fnF_ok {l : List Node} {n : Nat} {a g : Int} (hl : l.length = n) (h : TV l n) : ∀ (pl : List ByteArray) (i : Nat), i < n → (fnF l a g pl i).2 = 0 → ∃ j : Nat, j < n ∧ (fnF l a g pl i).1 = j
  | [], i, hi, _ => ⟨i, hi, rfl⟩
  | p :: ps, i, hi, he => by
    obtain ⟨t, ht⟩ : ∃ t, l[i]? = some t := ⟨_, List.getElem?_eq_getElem (by omega)⟩
    have hNd := h.2.2.2.1 i t ht
    have hkd := kidF_in n (by have := h.1; omega) t.names t.kids p (fun x hx => by have := kid_in hNd.2.1 x hx; have := inB_iff.1 this; omega)
    rw [fnF, Int.toNat_natCast, ht] at he ⊢
    simp only at he ⊢
    cases hd : t.dir
    · rw [hd] at he; simp at he
    cases hm : mayN a g t 1
    · rw [hd, hm] at he; simp at he
    by_cases hk : kidF t.names t.kids p < 0
    · rw [hd, hm, decide_eq_true hk] at he; simp at he
    rw [hd, hm, decide_eq_false hk] at he
    rw [decide_eq_false hk]
    obtain ⟨v, hv⟩ := Int.eq_ofNat_of_zero_le (show 0 ≤ kidF t.names t.kids p by omega)
    rw [hv] at he ⊢
    exact fnF_ok hl h ps v (by omega) he
theorem fnR_ok {l : List Node} {n : Nat} {r a s g : Int} {path : ByteArray} (hl : l.length = n) : (fnR l n r a s g path).2 = 0 → ∃ (i : Nat) (t : Node), (fnR l n r a s g path).1 = i ∧ l[i]? = some t ∧ NdR t ∧ credB r a s g = true := by
  intro h
  cases hb : (pathB path && (treeB l n && credB r a s g))
  · rw [fnR_no hb] at h; simp at h
  · simp only [Bool.and_eq_true] at hb
    rw [fnR_yes hb.1 hb.2.1 hb.2.2] at h ⊢
    have hT := treeB_iff.1 hb.2.1
    obtain ⟨j, hj, he⟩ := fnF_ok hl hT (ppOf path) 0 (by have := hT.1; omega) (by simpa using h)
    obtain ⟨t, ht⟩ : ∃ t, l[j]? = some t := ⟨_, List.getElem?_eq_getElem (by omega)⟩
    have hh := (hT.2.2.2.1 j t ht).1.1
    simp only [HeadB, Bool.and_eq_true] at hh
    exact ⟨j, t, by simpa using he, ht, ⟨hh.1, hh.2.1, hh.2.2⟩, hb.2.2⟩
theorem isRights_c (n : Int) (w : World) : Calls Tryd.prog 28 #[.int .i64 n] w fun e w' => e = .returned (.bool (inB n 0 7)) ∧ w = w' := by
  go_enter Tryd.func28, Tryd.ntmps28
  go_wp2_with (go_at_call 40; refine (within_c _ _ _ _).mono ?_; rintro e w' ⟨rfl, rfl⟩)
  go_ret
  exact ⟨rfl, rfl⟩
set_option maxRecDepth 100000 in
set_option maxHeartbeats 4000000 in
theorem maI_c (A : Option Addr) (n c : Nat) (l : List Node) (r a s g x : Int) (path : ByteArray) (hp : path.size ≤ 1048576) (w : World) (hm : MX w) (hI : InNode w A n l) (hn : n ≤ 1048576) (hz : ∀ t ∈ l, NodeS t) (hZ : ∀ t ∈ l, NodeZ t) :
    Calls Tryd.prog 15 #[.slice A n c, .agg #[.int .i64 r, .int .i64 a, .int .i64 s, .int .i64 g], .string path, .int .i64 x] w fun e w' => e = .returned (.int .i64 (maR l n r a s g path x)) ∧ Below w.heap.size w w' := by
  have HI := hide hI
  have HS := hide hz
  have HZ := hide hZ
  have hlen := hI.1
  have B0 := hide (below_alloc0 (Below.refl w.heap.size w) (.cells #[.int .i64 r, .int .i64 a, .int .i64 s, .int .i64 g] 32))
  have HM := hide (show MX (w.alloc (.cells #[.int .i64 r, .int .i64 a, .int .i64 s, .int .i64 g] 32)) from hm.below B0.out)
  have HCR := hide (Row.made w 32 #[.int .i64 r, .int .i64 a, .int .i64 s, .int .i64 g] (fun j => (#[Value.int .i64 r, .int .i64 a, .int .i64 s, .int .i64 g] : Array Value)[j]?) (fun _ _ h => h))
  have HFN := hide (fun (W : World) (hm : MX W) (h : InNode W A n l) => fnImpl_c A n c l r a s g path hp W hm h hn HS.out HZ.out)
  have HOK := hide (fnR_ok (r := r) (s := s) (l := l) (n := n) (a := a) (g := g) (path := path) hlen)
  obtain ⟨⟨v, q⟩, hvq⟩ : ∃ z, fnR l n r a s g path = z := ⟨_, rfl⟩
  rw [hvq] at HFN HOK
  have HVQ := hide hvq
  clear hI hz hZ hm hvq
  cases hxi : inB x 0 7
  · have HXI := hide hxi
    have HF := hide (show maR l n r a s g path x = 1 by rw [maR, hxi]; rfl)
    go_enter Tryd.func15, Tryd.ntmps15
    go_wp2_with fail
    refine (HFN.out _ HM.out (HI.out.below B0.out)).mono ?_
    rintro e w1 ⟨rfl, hb1⟩
    have B1 := hide (below_via0 B0.out hb1)
    clear hb1
    go_wp2_with (go_at_call 28; refine (isRights_c _ _).mono ?_; rintro e w' ⟨rfl, rfl⟩; rw [HXI.out])
    go_ret
    exact ⟨by rw [HF.out]; try rfl, B1.out⟩
  have HXI := hide hxi
  go_enter Tryd.func15, Tryd.ntmps15
  go_wp2_with fail
  refine (HFN.out _ HM.out (HI.out.below B0.out)).mono ?_
  rintro e w1 ⟨rfl, hb1⟩
  have B1 := hide (below_via0 B0.out hb1)
  replace HCR := hide (HCR.out.below hb1 HCR.out.lt)
  clear hb1
  by_cases hq : q = 0
  case neg =>
    have HF := hide (show maR l n r a s g path x = q by
      have hq' : (q == 0) = false := by simpa using hq
      rw [maR, hxi, HVQ.out]; simp only [hq']; rfl)
    go_wp2_with (go_at_call 28; refine (isRights_c _ _).mono ?_; rintro e w' ⟨rfl, rfl⟩; rw [HXI.out])
    go_ret
    exact ⟨by rw [HF.out]; try rfl, B1.out⟩
  subst hq
  obtain ⟨i, t, hvi, ht, hndr, hcb⟩ := HOK.out rfl
  have hvi : v = (i : Int) := hvi
  subst hvi
  have HNR := hide hndr
  have HCB := hide hcb
  have hin : i < n := by have := (List.getElem?_eq_some_iff.1 ht).1; omega
  obtain ⟨b, off, hA, hR2⟩ := (HI.out.below B1.out).2 (by omega)
  subst hA
  obtain ⟨S, K, ⟨c0, c1, c2, c3, c4, c5, c6⟩, _, _⟩ := hR2.2 i t ht
  have hbl := hR2.1
  have hcr := HCR.out
  have y0 : w1.cell? ⟨w.heap.size, 0, none⟩ = some (.int .i64 r) := hcr.cell (j := 0) rfl
  have y1 : w1.cell? ⟨w.heap.size, 1, none⟩ = some (.int .i64 a) := hcr.cell (j := 1) rfl
  have y2 : w1.cell? ⟨w.heap.size, 2, none⟩ = some (.int .i64 s) := hcr.cell (j := 2) rfl
  have y3 : w1.cell? ⟨w.heap.size, 3, none⟩ = some (.int .i64 g) := hcr.cell (j := 3) rfl
  have hwl := hcr.lt
  have hii : (i : Int) < n := by omega
  have HAL := hide (fun W => allows_c r a s g x t S K HNR.out HXI.out W : ∀ W, Calls Tryd.prog 29 #[.agg #[.bool t.dir, .int .i64 t.owner, .int .i64 t.group, .int .i64 t.mode, .string t.text, S, K], .agg #[.int .i64 r, .int .i64 a, .int .i64 s, .int .i64 g], .int .i64 x] W fun e w' => e = .returned (.bool (mayN a g t x)) ∧ Below W.heap.size W w')
  have HF := hide (show maR l n r a s g path x = if mayN a g t x = true then 0 else 3 by rw [maR, hxi, HVQ.out]; simp [ht])
  clear hR2 hcr ht hndr hcb hxi
  go_wp2_with (go_at_call 28; refine (isRights_c _ _).mono ?_; rintro e w' ⟨rfl, rfl⟩; rw [HXI.out])
  go_region_held3 (fun w' => Below w1.heap.size w1 w' ∧ b < w'.heap.size ∧ w.heap.size < w'.heap.size ∧ w'.cell? ⟨b, off + i * 7, none⟩ = some (.bool t.dir) ∧ w'.cell? ⟨b, off + i * 7 + 1, none⟩ = some (.int .i64 t.owner) ∧ w'.cell? ⟨b, off + i * 7 + 2, none⟩ = some (.int .i64 t.group) ∧ w'.cell? ⟨b, off + i * 7 + 3, none⟩ = some (.int .i64 t.mode) ∧ w'.cell? ⟨b, off + i * 7 + 4, none⟩ = some (.string t.text) ∧ w'.cell? ⟨b, off + i * 7 + 5, none⟩ = some (S) ∧ w'.cell? ⟨b, off + i * 7 + 6, none⟩ = some (K) ∧ w'.cell? ⟨w.heap.size, 0, none⟩ = some (.int .i64 r) ∧ w'.cell? ⟨w.heap.size, 1, none⟩ = some (.int .i64 a) ∧ w'.cell? ⟨w.heap.size, 2, none⟩ = some (.int .i64 s) ∧ w'.cell? ⟨w.heap.size, 3, none⟩ = some (.int .i64 g))
    (first | (have L5 := live hb5 b (by omega); have L6 := live hb5 w.heap.size (by omega); refine ⟨(by repeat' (first | exact Below.refl _ _ | assumption | exact And.left (by assumption) | omega | (simp; done) | (simp; omega) | (simp at *; omega) | (refine Below.setCell ?_ ?_ _) | (refine below_alloc0 ?_ _) | (refine Below.drew ?_) | (refine below_drewN ?_ _) | (refine below_via0 ?_ (by assumption)) | (refine Below.alloc ?_ ?_ _) | (refine below_via ?_ (by assumption) ?_))), ?_⟩; simp [*]; done) | (refine ⟨(by repeat' (first | exact Below.refl _ _ | assumption | exact And.left (by assumption) | omega | (simp; done) | (simp; omega) | (simp at *; omega) | (refine Below.setCell ?_ ?_ _) | (refine below_alloc0 ?_ _) | (refine Below.drew ?_) | (refine below_drewN ?_ _) | (refine below_via0 ?_ (by assumption)) | (refine Below.alloc ?_ ?_ _) | (refine below_via ?_ (by assumption) ?_))), ?_⟩; simp [go_sem]; done) | (refine ⟨(by repeat' (first | exact Below.refl _ _ | assumption | exact And.left (by assumption) | omega | (simp; done) | (simp; omega) | (simp at *; omega) | (refine Below.setCell ?_ ?_ _) | (refine below_alloc0 ?_ _) | (refine Below.drew ?_) | (refine below_drewN ?_ _) | (refine below_via0 ?_ (by assumption)) | (refine Below.alloc ?_ ?_ _) | (refine below_via ?_ (by assumption) ?_))), ?_⟩; simp [go_sem, *]; done) | assumption | go_keep)
    (first | (go_at_call 29; refine (HAL.out _).mono ?_; rintro e w5 ⟨rfl, hb5⟩))
  have hb15 : Below w1.heap.size w1 w5 := And.left (by assumption)
  have B5 := hide (below_via0 B1.out hb15)
  clear hb15
  cases hma : mayN a g t x
  · have HF2 := hide (HF.out.trans (by rw [hma]; rfl : _ = (3 : Int)))
    go_wp2_with fail
    go_ret
    exact ⟨by rw [HF2.out]; try rfl, B5.out⟩
  · have HF2 := hide (HF.out.trans (by rw [hma]; rfl : _ = (0 : Int)))
    go_wp2_with fail
    go_ret
    exact ⟨by rw [HF2.out]; try rfl, B5.out⟩
set_option maxRecDepth 100000 in
set_option maxHeartbeats 4000000 in
theorem maS_c (A : Option Addr) (n c : Nat) (l : List Node) (r a s g x : Int) (path : ByteArray) (hp : path.size ≤ 1048576) (w : World) (hI : InNode w A n l) (hn : n ≤ 1048576) (hz : ∀ t ∈ l, NodeS t) (hZ : ∀ t ∈ l, NodeZ t) :
    Calls Tryd.prog 12 #[.slice A n c, .agg #[.int .i64 r, .int .i64 a, .int .i64 s, .int .i64 g], .string path, .int .i64 x] w fun e w' => e = .returned (.int .i64 (maR l n r a s g path x)) ∧ Below w.heap.size w w' := by
  have HI := hide hI
  have HS := hide hz
  have HZ := hide hZ
  have hlen := hI.1
  have B0 := hide (below_alloc0 (Below.refl w.heap.size w) (.cells #[.int .i64 r, .int .i64 a, .int .i64 s, .int .i64 g] 32))
  have HCR := hide (Row.made w 32 #[.int .i64 r, .int .i64 a, .int .i64 s, .int .i64 g] (fun j => (#[Value.int .i64 r, .int .i64 a, .int .i64 s, .int .i64 g] : Array Value)[j]?) (fun _ _ h => h))
  have HFN := hide (fun (W : World) (_ : True) (h : InNode W A n l) => fnSpec_c A n c l r a s g path hp W h hn HS.out HZ.out)
  have HOK := hide (fnR_ok (r := r) (s := s) (l := l) (n := n) (a := a) (g := g) (path := path) hlen)
  obtain ⟨⟨v, q⟩, hvq⟩ : ∃ z, fnR l n r a s g path = z := ⟨_, rfl⟩
  rw [hvq] at HFN HOK
  have HVQ := hide hvq
  clear hI hz hZ hvq
  cases hxi : inB x 0 7
  · have HXI := hide hxi
    have HF := hide (show maR l n r a s g path x = 1 by rw [maR, hxi]; rfl)
    go_enter Tryd.func12, Tryd.ntmps12
    go_wp2_with fail
    refine (HFN.out _ trivial (HI.out.below B0.out)).mono ?_
    rintro e w1 ⟨rfl, hb1⟩
    have B1 := hide (below_via0 B0.out hb1)
    clear hb1
    go_wp2_with (go_at_call 20; refine (l1In_c _ _ _ _).mono ?_; rintro e w' ⟨rfl, rfl⟩; rw [HXI.out])
    go_ret
    exact ⟨by rw [HF.out]; try rfl, B1.out⟩
  have HXI := hide hxi
  go_enter Tryd.func12, Tryd.ntmps12
  go_wp2_with fail
  refine (HFN.out _ trivial (HI.out.below B0.out)).mono ?_
  rintro e w1 ⟨rfl, hb1⟩
  have B1 := hide (below_via0 B0.out hb1)
  replace HCR := hide (HCR.out.below hb1 HCR.out.lt)
  clear hb1
  by_cases hq : q = 0
  case neg =>
    have HF := hide (show maR l n r a s g path x = q by
      have hq' : (q == 0) = false := by simpa using hq
      rw [maR, hxi, HVQ.out]; simp only [hq']; rfl)
    go_wp2_with (go_at_call 20; refine (l1In_c _ _ _ _).mono ?_; rintro e w' ⟨rfl, rfl⟩; rw [HXI.out])
    go_ret
    exact ⟨by rw [HF.out]; try rfl, B1.out⟩
  subst hq
  obtain ⟨i, t, hvi, ht, hndr, hcb⟩ := HOK.out rfl
  have hvi : v = (i : Int) := hvi
  subst hvi
  have HNR := hide hndr
  have HCB := hide hcb
  have hin : i < n := by have := (List.getElem?_eq_some_iff.1 ht).1; omega
  obtain ⟨b, off, hA, hR2⟩ := (HI.out.below B1.out).2 (by omega)
  subst hA
  obtain ⟨S, K, ⟨c0, c1, c2, c3, c4, c5, c6⟩, _, _⟩ := hR2.2 i t ht
  have hbl := hR2.1
  have hcr := HCR.out
  have y0 : w1.cell? ⟨w.heap.size, 0, none⟩ = some (.int .i64 r) := hcr.cell (j := 0) rfl
  have y1 : w1.cell? ⟨w.heap.size, 1, none⟩ = some (.int .i64 a) := hcr.cell (j := 1) rfl
  have y2 : w1.cell? ⟨w.heap.size, 2, none⟩ = some (.int .i64 s) := hcr.cell (j := 2) rfl
  have y3 : w1.cell? ⟨w.heap.size, 3, none⟩ = some (.int .i64 g) := hcr.cell (j := 3) rfl
  have hwl := hcr.lt
  have hii : (i : Int) < n := by omega
  have HAL := hide (fun W => l7May_c r a s g x t S K HNR.out HCB.out HXI.out W : ∀ W, Calls Tryd.prog 21 #[.agg #[.int .i64 r, .int .i64 a, .int .i64 s, .int .i64 g], .agg #[.bool t.dir, .int .i64 t.owner, .int .i64 t.group, .int .i64 t.mode, .string t.text, S, K], .int .i64 x] W fun e w' => e = .returned (.bool (mayN a g t x)) ∧ Below W.heap.size W w')
  have HF := hide (show maR l n r a s g path x = if mayN a g t x = true then 0 else 3 by rw [maR, hxi, HVQ.out]; simp [ht])
  clear hR2 hcr ht hndr hcb hxi
  go_wp2_with (go_at_call 20; refine (l1In_c _ _ _ _).mono ?_; rintro e w' ⟨rfl, rfl⟩; rw [HXI.out])
  go_region_held3 (fun w' => Below w1.heap.size w1 w' ∧ b < w'.heap.size ∧ w.heap.size < w'.heap.size ∧ w'.cell? ⟨b, off + i * 7, none⟩ = some (.bool t.dir) ∧ w'.cell? ⟨b, off + i * 7 + 1, none⟩ = some (.int .i64 t.owner) ∧ w'.cell? ⟨b, off + i * 7 + 2, none⟩ = some (.int .i64 t.group) ∧ w'.cell? ⟨b, off + i * 7 + 3, none⟩ = some (.int .i64 t.mode) ∧ w'.cell? ⟨b, off + i * 7 + 4, none⟩ = some (.string t.text) ∧ w'.cell? ⟨b, off + i * 7 + 5, none⟩ = some (S) ∧ w'.cell? ⟨b, off + i * 7 + 6, none⟩ = some (K) ∧ w'.cell? ⟨w.heap.size, 0, none⟩ = some (.int .i64 r) ∧ w'.cell? ⟨w.heap.size, 1, none⟩ = some (.int .i64 a) ∧ w'.cell? ⟨w.heap.size, 2, none⟩ = some (.int .i64 s) ∧ w'.cell? ⟨w.heap.size, 3, none⟩ = some (.int .i64 g))
    (first | (have L5 := live hb5 b (by omega); have L6 := live hb5 w.heap.size (by omega); refine ⟨(by repeat' (first | exact Below.refl _ _ | assumption | exact And.left (by assumption) | omega | (simp; done) | (simp; omega) | (simp at *; omega) | (refine Below.setCell ?_ ?_ _) | (refine below_alloc0 ?_ _) | (refine Below.drew ?_) | (refine below_drewN ?_ _) | (refine below_via0 ?_ (by assumption)) | (refine Below.alloc ?_ ?_ _) | (refine below_via ?_ (by assumption) ?_))), ?_⟩; simp [*]; done) | (refine ⟨(by repeat' (first | exact Below.refl _ _ | assumption | exact And.left (by assumption) | omega | (simp; done) | (simp; omega) | (simp at *; omega) | (refine Below.setCell ?_ ?_ _) | (refine below_alloc0 ?_ _) | (refine Below.drew ?_) | (refine below_drewN ?_ _) | (refine below_via0 ?_ (by assumption)) | (refine Below.alloc ?_ ?_ _) | (refine below_via ?_ (by assumption) ?_))), ?_⟩; simp [go_sem]; done) | (refine ⟨(by repeat' (first | exact Below.refl _ _ | assumption | exact And.left (by assumption) | omega | (simp; done) | (simp; omega) | (simp at *; omega) | (refine Below.setCell ?_ ?_ _) | (refine below_alloc0 ?_ _) | (refine Below.drew ?_) | (refine below_drewN ?_ _) | (refine below_via0 ?_ (by assumption)) | (refine Below.alloc ?_ ?_ _) | (refine below_via ?_ (by assumption) ?_))), ?_⟩; simp [go_sem, *]; done) | assumption | go_keep)
    (first | (go_at_call 21; refine (HAL.out _).mono ?_; rintro e w5 ⟨rfl, hb5⟩))
  have hb15 : Below w1.heap.size w1 w5 := And.left (by assumption)
  have B5 := hide (below_via0 B1.out hb15)
  clear hb15
  cases hma : mayN a g t x
  · have HF2 := hide (HF.out.trans (by rw [hma]; rfl : _ = (3 : Int)))
    go_wp2_with fail
    go_ret
    exact ⟨by rw [HF2.out]; try rfl, B5.out⟩
  · have HF2 := hide (HF.out.trans (by rw [hma]; rfl : _ = (0 : Int)))
    go_wp2_with fail
    go_ret
    exact ⟨by rw [HF2.out]; try rfl, B5.out⟩
end Go.Proofs.YtncjghmjlcohjaaDoor
