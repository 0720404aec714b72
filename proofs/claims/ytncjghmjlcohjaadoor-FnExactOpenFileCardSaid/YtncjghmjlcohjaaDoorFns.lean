/-
  FindNode of the reference. No condition.
-/
import Derived.Test.YtncjghmjlcohjaaDoorProg
import Derived.Test.YtncjghmjlcohjaaDoorFni
namespace Go.Proofs.YtncjghmjlcohjaaDoor
open Go.RowKit
set_option linter.unusedSimpArgs false
set_option linter.unusedVariables false

set_option maxRecDepth 100000 in
set_option maxHeartbeats 4000000 in
theorem fnSpec_c (A : Option Addr) (n c : Nat) (l : List Node) (r a s g : Int) (path : ByteArray) (hp : path.size ≤ 1048576) (w : World) (hI : InNode w A n l) (hn : n ≤ 1048576) (hz : ∀ t ∈ l, NodeS t) (hZ : ∀ t ∈ l, NodeZ t) :
    Calls Tryd.prog 13 #[.slice A n c, .agg #[.int .i64 r, .int .i64 a, .int .i64 s, .int .i64 g], .string path] w fun e w' => e = .returned (.tuple #[.int .i64 (fnR l n r a s g path).1, .int .i64 (fnR l n r a s g path).2]) ∧ Below w.heap.size w w' := by
  have HI := hide hI
  have HS := hide hz
  have HZ := hide hZ
  have hlen := hI.1
  have B0 := hide (below_alloc0 (Below.refl w.heap.size w) (.cells #[.int .i64 r, .int .i64 a, .int .i64 s, .int .i64 g] 32))
  have HCR := hide (Row.made w 32 #[.int .i64 r, .int .i64 a, .int .i64 s, .int .i64 g] (fun j => (#[Value.int .i64 r, .int .i64 a, .int .i64 s, .int .i64 g] : Array Value)[j]?) (fun _ _ h => h))
  clear hI hz hZ
  go_enter Tryd.func13, Tryd.ntmps13
  go_wp2_with fail
  refine (ppSpec_c path hp _).mono ?_
  rintro e w1 ⟨V, rfl, hb1, hpp⟩
  have L1 := live hb1 w.heap.size (by first | omega | (simp <;> omega))
  have B1 := hide (below_via0 B0.out hb1)
  have HPP := hide hpp
  replace HCR := hide (HCR.out.below hb1 HCR.out.lt)
  clear hb1 hpp
  cases hpb : pathB path
  · have HF := hide (fnR_no (l := l) (n := n) (r := r) (a := a) (s := s) (g := g) (by rw [hpb]; rfl : (pathB path && (treeB l n && credB r a s g)) = false))
    go_wp2_with fail
    exact bodyPost_ret (v := .tuple #[.int .i64 (-1), .int .i64 1]) (by simp [results, Tryd.results13, go_sem]) rfl ⟨by rw [HF.out], B1.out⟩
  go_wp2_with fail
  refine (tvSpec_c A n c l _ (HI.out.below B1.out) hn HS.out HZ.out).mono ?_
  rintro e w2 ⟨rfl, hb2⟩
  have L2 := live hb2 w.heap.size L1.1
  have B2 := hide (below_via0 B1.out hb2)
  have HB12 := hide hb2
  replace HCR := hide (HCR.out.below hb2 HCR.out.lt)
  clear hb2
  cases hv : treeB l n
  · have HF := hide (fnR_no (l := l) (n := n) (r := r) (a := a) (s := s) (g := g) (by rw [hpb, hv]; rfl : (pathB path && (treeB l n && credB r a s g)) = false))
    go_wp2_with fail
    exact bodyPost_ret (v := .tuple #[.int .i64 (-1), .int .i64 1]) (by simp [results, Tryd.results13, go_sem]) rfl ⟨by rw [HF.out], B2.out⟩
  go_wp2_with fail
  refine (credSpec_c r a s g _).mono ?_
  rintro e w3 ⟨rfl, hb3⟩
  have L3 := live hb3 w.heap.size L2.1
  have B3 := hide (below_via0 B2.out hb3)
  have HB13 := hide (below_via0 HB12.out hb3)
  replace HCR := hide (HCR.out.below hb3 HCR.out.lt)
  clear hb3
  cases hcb : credB r a s g
  · have HF := hide (fnR_no (l := l) (n := n) (r := r) (a := a) (s := s) (g := g) (by rw [hpb, hv, hcb]; rfl : (pathB path && (treeB l n && credB r a s g)) = false))
    go_wp2_with fail
    exact bodyPost_ret (v := .tuple #[.int .i64 (-1), .int .i64 1]) (by simp [results, Tryd.results13, go_sem]) rfl ⟨by rw [HF.out], B3.out⟩
  have HF := hide (fnR_yes hpb hv hcb : fnR l n r a s g path = _)
  obtain ⟨pl, hpl, hown⟩ := HPP.out hpb
  rw [ppOf_eq hpl] at HF
  obtain ⟨gp, cp, rfl, _, _, hrd⟩ := hown.p
  have HRD := hide (hrd.below HB13.out)
  have hplen : pl.length ≤ 7 := by have := hpl.1.1; omega
  have HTV := hide (treeB_iff.1 hv)
  have hn1 : 1 ≤ n := HTV.out.1
  have hn16 : n ≤ 16 := HTV.out.2.1
  have HCB := hide hcb
  clear hrd hpl hpb hv hcb HPP HB12 HB13
  obtain ⟨R, hR⟩ : ∃ R, fnF l a g pl 0 = R := ⟨_, rfl⟩
  have HR := hide hR
  clear hR
  go_wp2_with fail
  go_loopw [10, 11] (fun av kv wr => ∃ (i k : Nat), k ≤ pl.length ∧ av = .int .i64 i ∧ kv = .int .i64 k ∧ i < n ∧ Hid (fnF l a g (pl.drop k) i = R) ∧ Hid (Below w3.heap.size w3 wr)) (fun _ kv _ => pl.length - (intOf kv).toNat)
  case atStart => exact ⟨0, 0, by omega, rfl, rfl, by omega, HR, Below.refl _ _⟩
  case round =>
    obtain ⟨i, k, hk, rfl, rfl, hin, hF, hbel⟩ := hrel
    by_cases hlt : k < pl.length
    · have hkk : (k : Int) < pl.length := by omega
      obtain ⟨p, hp'⟩ : ∃ p, pl[k]? = some p := ⟨_, List.getElem?_eq_getElem hlt⟩
      have c9 := (HRD.out.below hbel.out).2 k p hp'
      rw [Nat.zero_add] at c9
      have hgl := (HRD.out.below hbel.out).1
      obtain ⟨b, off, hA, hR2⟩ := (HI.out.below (below_via0 B3.out hbel.out)).2 (by omega)
      subst hA
      obtain ⟨t, ht⟩ : ∃ t, l[i]? = some t := ⟨_, List.getElem?_eq_getElem (by omega)⟩
      obtain ⟨S, K, ⟨c0, c1, c2, c3, c4, c5, c6⟩, hS, hK⟩ := hR2.2 i t ht
      have hbl := hR2.1
      have HT := hide ht
      have HP := hide hp'
      have HSK := hide (And.intro hS hK)
      have hii : (i : Int) < n := by omega
      have HNd := hide (HTV.out.2.2.2.1 i t ht)
      clear ht hp' hS hK hR2
      have hdr := HNd.out.1
      have hcr := HCR.out.below hbel.out HCR.out.lt
      have y0 : wr.cell? ⟨w.heap.size, 0, none⟩ = some (.int .i64 r) := hcr.cell (j := 0) rfl
      have y1 : wr.cell? ⟨w.heap.size, 1, none⟩ = some (.int .i64 a) := hcr.cell (j := 1) rfl
      have y2 : wr.cell? ⟨w.heap.size, 2, none⟩ = some (.int .i64 s) := hcr.cell (j := 2) rfl
      have y3 : wr.cell? ⟨w.heap.size, 3, none⟩ = some (.int .i64 g) := hcr.cell (j := 3) rfl
      have hwl := hcr.lt
      have hdrop : pl.drop k = p :: pl.drop (k + 1) := List.drop_eq_getElem?_toList_append.trans (by rw [HP.out]; rfl)
      have HD := hide hdrop
      clear hcr hdrop hdr
      have hstep : fnF l a g (pl.drop k) i = bif !t.dir then (-1, 4) else bif !mayN a g t 1 then (-1, 3) else bif decide (kidF t.names t.kids p < 0) then (-1, 2) else fnF l a g (pl.drop (k + 1)) (kidF t.names t.kids p) := by
        rw [HD.out, fnF, Int.toNat_natCast, HT.out]
      have HST := hide (hstep.symm.trans (hF.out.trans rfl))
      have HB4 := hide (below_via0 B3.out hbel.out)
      clear hstep
      cases hd : t.dir
      · have HRR := hide (show R = (-1, 4) by have := HST.out; rw [hd] at this; exact this.symm)
        rw [hd] at c0
        go_wp2_with fail
        exact bodyPost_ret (v := .tuple #[.int .i64 (-1), .int .i64 4]) (by simp [results, Tryd.results13, go_sem]) rfl ⟨by have := HF.out.trans HR.out; rw [this, HRR.out], HB4.out⟩
      have hhd := HNd.out.1.1
      simp only [HeadB, Bool.and_eq_true] at hhd
      have HNR := hide (show NdR t from ⟨hhd.1, hhd.2.1, hhd.2.2⟩)
      have hin1 : inB 1 0 7 = true := rfl
      have HD1 := hide hd
      rw [hd] at c0
      clear hhd
      have HAL := hide (fun W => by have := l7May_c r a s g 1 t S K HNR.out HCB.out hin1 W; rwa [hd] at this : ∀ W, Calls Tryd.prog 21 #[.agg #[.int .i64 r, .int .i64 a, .int .i64 s, .int .i64 g], .agg #[.bool true, .int .i64 t.owner, .int .i64 t.group, .int .i64 t.mode, .string t.text, S, K], .int .i64 1] W fun e w' => e = .returned (.bool (mayN a g t 1)) ∧ Below W.heap.size W w')
      go_wp2_with fail
      go_region_held3 (fun w' => Below wr.heap.size wr w' ∧ b < w'.heap.size ∧ w.heap.size < w'.heap.size ∧ w'.cell? ⟨b, off + i * 7, none⟩ = some (.bool true) ∧ w'.cell? ⟨b, off + i * 7 + 1, none⟩ = some (.int .i64 t.owner) ∧ w'.cell? ⟨b, off + i * 7 + 2, none⟩ = some (.int .i64 t.group) ∧ w'.cell? ⟨b, off + i * 7 + 3, none⟩ = some (.int .i64 t.mode) ∧ w'.cell? ⟨b, off + i * 7 + 4, none⟩ = some (.string t.text) ∧ w'.cell? ⟨b, off + i * 7 + 5, none⟩ = some (S) ∧ w'.cell? ⟨b, off + i * 7 + 6, none⟩ = some (K) ∧ w'.cell? ⟨w.heap.size, 0, none⟩ = some (.int .i64 r) ∧ w'.cell? ⟨w.heap.size, 1, none⟩ = some (.int .i64 a) ∧ w'.cell? ⟨w.heap.size, 2, none⟩ = some (.int .i64 s) ∧ w'.cell? ⟨w.heap.size, 3, none⟩ = some (.int .i64 g))
        (first | (have L5 := live hb5 b (by omega); have L6 := live hb5 w.heap.size (by omega); refine ⟨(by repeat' (first | exact Below.refl _ _ | assumption | exact And.left (by assumption) | omega | (simp; done) | (simp; omega) | (simp at *; omega) | (refine Below.setCell ?_ ?_ _) | (refine below_alloc0 ?_ _) | (refine Below.drew ?_) | (refine below_drewN ?_ _) | (refine below_via0 ?_ (by assumption)) | (refine Below.alloc ?_ ?_ _) | (refine below_via ?_ (by assumption) ?_))), ?_⟩; simp [*]; done) | (refine ⟨(by repeat' (first | exact Below.refl _ _ | assumption | exact And.left (by assumption) | omega | (simp; done) | (simp; omega) | (simp at *; omega) | (refine Below.setCell ?_ ?_ _) | (refine below_alloc0 ?_ _) | (refine Below.drew ?_) | (refine below_drewN ?_ _) | (refine below_via0 ?_ (by assumption)) | (refine Below.alloc ?_ ?_ _) | (refine below_via ?_ (by assumption) ?_))), ?_⟩; simp [go_sem]; done) | (refine ⟨(by repeat' (first | exact Below.refl _ _ | assumption | exact And.left (by assumption) | omega | (simp; done) | (simp; omega) | (simp at *; omega) | (refine Below.setCell ?_ ?_ _) | (refine below_alloc0 ?_ _) | (refine Below.drew ?_) | (refine below_drewN ?_ _) | (refine below_via0 ?_ (by assumption)) | (refine Below.alloc ?_ ?_ _) | (refine below_via ?_ (by assumption) ?_))), ?_⟩; simp [go_sem, *]; done) | assumption | go_keep)
        (first | (go_at_call 21; refine (HAL.out _).mono ?_; rintro e w5 ⟨rfl, hb5⟩))
      have hb45 : Below wr.heap.size wr w5 := And.left (by assumption)
      have B5 := hide (hbel.out.trans (hb45.mono hbel.out.size))
      have HB5 := hide (below_via0 B3.out B5.out)
      cases hma : mayN a g t 1
      · have HRR := hide (show R = (-1, 3) by have := HST.out; rw [HD1.out, hma] at this; exact this.symm)
        go_wp2_with fail
        exact bodyPost_ret (v := .tuple #[.int .i64 (-1), .int .i64 3]) (by simp [results, Tryd.results13, go_sem]) rfl ⟨by have := HF.out.trans HR.out; rw [this, HRR.out], HB5.out⟩
      have HMA := hide hma
      have hkd := kidF_in n (by omega) t.names t.kids p (fun x hx => by have := kid_in HNd.out.2.1 x hx; have := inB_iff.1 this; omega)
      obtain ⟨v, hv⟩ : ∃ v, kidF t.names t.kids p = v := ⟨_, rfl⟩
      rw [hv] at hkd
      have HV := hide hv
      have m0 := (hb45.cell (p := ⟨b, off + i * 7, none⟩) hbl).trans c0
      have m1 := (hb45.cell (p := ⟨b, off + i * 7 + 1, none⟩) hbl).trans c1
      have m2 := (hb45.cell (p := ⟨b, off + i * 7 + 2, none⟩) hbl).trans c2
      have m3 := (hb45.cell (p := ⟨b, off + i * 7 + 3, none⟩) hbl).trans c3
      have m4 := (hb45.cell (p := ⟨b, off + i * 7 + 4, none⟩) hbl).trans c4
      have m5 := (hb45.cell (p := ⟨b, off + i * 7 + 5, none⟩) hbl).trans c5
      have m6 := (hb45.cell (p := ⟨b, off + i * 7 + 6, none⟩) hbl).trans c6
      have m9 := (hb45.cell (p := ⟨gp, k, none⟩) hgl).trans c9
      have hbl5 := Nat.lt_of_lt_of_le hbl hb45.size
      have hgl5 := Nat.lt_of_lt_of_le hgl hb45.size
      have hdd := HNd.out.1
      have HSK5 := hide (And.intro (HSK.out.1.below hb45) (HSK.out.2.below hb45))
      have HLK := hide (fun W h1 h2 => by have := l6Kid_c t S K p (HS.out t (List.mem_of_getElem? HT.out)) hdd.2.2.2.2.1 W h1 h2; rwa [hd, HV.out] at this : ∀ W, SlS W S t.names → SlK W K t.kids → Calls Tryd.prog 25 #[.agg #[.bool true, .int .i64 t.owner, .int .i64 t.group, .int .i64 t.mode, .string t.text, S, K], .string p] W fun e w' => e = .returned (.int .i64 v) ∧ Below W.heap.size W w')
      clear hv hb45 hdd c0 c1 c2 c3 c4 c5 c6 c9 hbl hgl y0 y1 y2 y3 hwl
      go_wp2_with fail
      go_region_held3 (fun w' => Below w5.heap.size w5 w' ∧ b < w'.heap.size ∧ gp < w'.heap.size ∧ w'.cell? ⟨b, off + i * 7, none⟩ = some (.bool true) ∧ w'.cell? ⟨b, off + i * 7 + 1, none⟩ = some (.int .i64 t.owner) ∧ w'.cell? ⟨b, off + i * 7 + 2, none⟩ = some (.int .i64 t.group) ∧ w'.cell? ⟨b, off + i * 7 + 3, none⟩ = some (.int .i64 t.mode) ∧ w'.cell? ⟨b, off + i * 7 + 4, none⟩ = some (.string t.text) ∧ w'.cell? ⟨b, off + i * 7 + 5, none⟩ = some (S) ∧ w'.cell? ⟨b, off + i * 7 + 6, none⟩ = some (K) ∧ w'.cell? ⟨gp, k, none⟩ = some (.string p))
        (first | (have L5 := live hb7 b (by omega); have L6 := live hb7 gp (by omega); refine ⟨(by repeat' (first | exact Below.refl _ _ | assumption | exact And.left (by assumption) | omega | (simp; done) | (simp; omega) | (simp at *; omega) | (refine Below.setCell ?_ ?_ _) | (refine below_alloc0 ?_ _) | (refine Below.drew ?_) | (refine below_drewN ?_ _) | (refine below_via0 ?_ (by assumption)) | (refine Below.alloc ?_ ?_ _) | (refine below_via ?_ (by assumption) ?_))), ?_⟩; simp [*]; done) | (refine ⟨(by repeat' (first | exact Below.refl _ _ | assumption | exact And.left (by assumption) | omega | (simp; done) | (simp; omega) | (simp at *; omega) | (refine Below.setCell ?_ ?_ _) | (refine below_alloc0 ?_ _) | (refine Below.drew ?_) | (refine below_drewN ?_ _) | (refine below_via0 ?_ (by assumption)) | (refine Below.alloc ?_ ?_ _) | (refine below_via ?_ (by assumption) ?_))), ?_⟩; simp [go_sem]; done) | (refine ⟨(by repeat' (first | exact Below.refl _ _ | assumption | exact And.left (by assumption) | omega | (simp; done) | (simp; omega) | (simp at *; omega) | (refine Below.setCell ?_ ?_ _) | (refine below_alloc0 ?_ _) | (refine Below.drew ?_) | (refine below_drewN ?_ _) | (refine below_via0 ?_ (by assumption)) | (refine Below.alloc ?_ ?_ _) | (refine below_via ?_ (by assumption) ?_))), ?_⟩; simp [go_sem, *]; done) | assumption | go_keep)
        (first | (go_at_call 25; refine (HLK.out _ (HSK5.out.1.below (And.left (by assumption))) (HSK5.out.2.below (And.left (by assumption)))).mono ?_; rintro e w7 ⟨rfl, hb7⟩))
      have hb57 : Below w5.heap.size w5 w7 := And.left (by assumption)
      have B7 := hide (B5.out.trans (hb57.mono B5.out.size))
      have HB7 := hide (below_via0 B3.out B7.out)
      clear hb57
      by_cases hneg : v < 0
      · have HRR := hide (show R = (-1, 2) by have := HST.out; rw [HD1.out, HMA.out, HV.out, decide_eq_true hneg] at this; exact this.symm)
        go_wp2_with fail
        exact bodyPost_ret (v := .tuple #[.int .i64 (-1), .int .i64 2]) (by simp [results, Tryd.results13, go_sem]) rfl ⟨by have := HF.out.trans HR.out; rw [this, HRR.out], HB7.out⟩
      obtain ⟨v, rfl⟩ := Int.eq_ofNat_of_zero_le (show 0 ≤ v by omega)
      have HNX := hide (show fnF l a g (pl.drop (k + 1)) (v : Int) = R by have := HST.out; rw [HD1.out, HMA.out, HV.out, decide_eq_false hneg] at this; exact this)
      go_wp2_with fail
      exact ⟨⟨v, k + 1, by omega, rfl, by go_num, by omega, HNX, B7⟩, by simp [intOf] <;> omega⟩
    · obtain rfl : k = pl.length := by omega
      have hkk : ¬ (pl.length : Int) < pl.length := by omega
      have HE := hide (show R = ((i : Int), 0) by have := hF.out; rw [List.drop_length] at this; exact this.symm)
      have HB := hide (below_via0 B3.out hbel.out)
      have HFR := hide (HF.out.trans HR.out)
      go_wp2_with fail
      exact bodyPost_ret (v := .tuple #[.int .i64 i, .int .i64 0]) (by simp [results, Tryd.results13, go_sem]) rfl ⟨by rw [HFR.out, HE.out], HB.out⟩
end Go.Proofs.YtncjghmjlcohjaaDoor
