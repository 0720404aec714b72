/-
  copyTree of the program. No condition.
-/
import Derived.Test.YtncjghmjlcohjaaProg
import Derived.Test.YtncjghmjlcohjaaCpw
import Derived.Deep.RegionWith
namespace Go.Proofs.Ytncjghmjlcohjaa
open Go.RowKit
set_option linter.unusedSimpArgs false
set_option linter.unusedVariables false

set_option maxRecDepth 100000 in
set_option maxHeartbeats 8000000 in
theorem copyTree_c (A : Option Addr) (n c : Nat) (l : List Node) (hn : n ≤ 1048576) (hz : ∀ t ∈ l, NodeS t) (w : World) (hI : InJ w A n l) :
    Calls Try.prog 46 #[.slice A n c] w fun e w' => ∃ V, e = .returned V ∧ CpN true w' w.heap.size V l n ∧ Below w.heap.size w w' := by
  obtain ⟨iN, hiN, hN0, hN1, hN2⟩ := info_parts infoNode
  obtain ⟨iS, hiS, hS0, hS1, hS2⟩ := info_parts infoString
  obtain ⟨iI, hiI, hI0, hI1, hI2⟩ := info_parts infoInt
  have HIN := hide hiN
  have HN0 := hide hN0
  have HN1 := hide hN1
  have HN2 := hide hN2
  have HIS := hide hiS
  have HS0 := hide hS0
  have HS1 := hide hS1
  have HS2 := hide hS2
  have HII := hide hiI
  have HI0 := hide hI0
  have HI1 := hide hI1
  have HI2 := hide hI2
  have HJ := hide hI
  have HZ := hide hz
  have hlen := hI.1
  clear hiN hN0 hN1 hN2 hiS hS0 hS1 hS2 hiI hI0 hI1 hI2 hI hz
  have B0 := hide (below_alloc0 (Below.refl w.heap.size w) (.cells #[] 60))
  have C0 := hide (show CpT (w.alloc (.cells #[] 60)) w.heap.size (.slice (some ⟨w.heap.size, 0, none⟩) 0 0) [] (fun _ => w.heap.size) l 0 from ⟨World.ownsRow_made w #[] 0 (Nat.le_refl _) (Nat.zero_le _) (by rfl), (fun e => by cases e), fun i t hi => absurd hi (by omega), fun _ _ _ _ => Nat.le_refl _, Nat.le_refl _, by simp⟩)
  go_enter Try.func46, Try.ntmps46
  go_wp2_with fail
  go_loopw [3, 9] (fun vv kv wr => ∃ (k : Nat) (vs : List Value) (q : Nat → Nat), k ≤ n ∧ kv = .int .i64 k ∧ Hid (CpT wr w.heap.size vv vs q l k) ∧ Hid (Below w.heap.size w wr)) (fun _ kv _ => n - (intOf kv).toNat)
  case atStart => exact ⟨0, [], _, by omega, rfl, C0, B0⟩
  case round =>
    obtain ⟨k, vs, q, hk, rfl, hcp, hbel⟩ := hrel
    by_cases hlt : k < n
    · have hkk : (k : Int) < n := by omega
      obtain ⟨b, off, hA, hbl, hR⟩ := (HJ.out.below hbel.out).2 (by omega)
      subst hA
      obtain ⟨t, ht⟩ : ∃ t, l[k]? = some t := ⟨_, List.getElem?_eq_getElem (by omega)⟩
      obtain ⟨a1, e1, a2, e2, ⟨c0, c1, c2, c3, c4, c5, c6⟩, hS, hK⟩ := hR k t ht
      have hzt := HZ.out t (List.mem_of_getElem? ht)
      have hz1 := hzt.1
      have hz2 := hzt.2
      have HT := hide ht
      have HSI := hide hS
      have HKI := hide hK
      generalize hN1 : t.names.length = n1 at *
      generalize hN2 : t.kids.length = n2 at *
      have HNN := hide (And.intro hN1 hN2)
      clear ht hS hK hR hzt hN1 hN2
      go_wp2_with fail
      have R0 := Row.made wr 60 #[.bool t.dir, .int .i64 t.owner, .int .i64 t.group, .int .i64 t.mode, .string t.text, .slice (some a1) n1 e1, .slice (some a2) n2 e2] (fun j => #[.bool t.dir, .int .i64 t.owner, .int .i64 t.group, .int .i64 t.mode, .string t.text, .slice (some a1) n1 e1, .slice (some a2) n2 e2][j]?) (fun _ _ h => h)
      have hb0 := below_alloc0 (Below.refl wr.heap.size wr) (.cells #[.bool t.dir, .int .i64 t.owner, .int .i64 t.group, .int .i64 t.mode, .string t.text, .slice (some a1) n1 e1, .slice (some a2) n2 e2] 60)
      generalize wr.alloc (.cells #[.bool t.dir, .int .i64 t.owner, .int .i64 t.group, .int .i64 t.mode, .string t.text, .slice (some a1) n1 e1, .slice (some a2) n2 e2] 60) = W0 at *
      obtain ⟨r, hr⟩ : ∃ r, r = wr.heap.size := ⟨_, rfl⟩
      rw [← hr] at R0 ⊢
      have HB0 := hide hb0
      have HR0 := hide R0
      have r0 := R0.lt
      have z5 : W0.cell? ⟨r, 5, none⟩ = some (.slice (some a1) n1 e1) := R0.cell (j := 5) rfl
      have z6 : W0.cell? ⟨r, 6, none⟩ = some (.slice (some a2) n2 e2) := R0.cell (j := 6) rfl
      have f5 := R0.frozen 5
      have f6 := R0.frozen 6
      have HRR := hide hr
      clear hb0 R0 hr c0 c1 c2 c3 c4 c5 c6
      go_region_with (first | (go_at_call 61; refine (cloneS_c a1 n1 e1 t.names HNN.out.1 hz1 _ ((HSI.out.below HB0.out).below (by repeat' (first | exact Below.refl _ _ | assumption | exact And.left (by assumption) | omega | (simp; done) | (simp; omega) | (simp at *; omega) | (refine Below.setCell ?_ ?_ _) | (refine below_alloc0 ?_ _) | (refine Below.drew ?_) | (refine below_drewN ?_ _) | (refine below_via0 ?_ (by assumption)) | (refine Below.alloc ?_ ?_ _) | (refine below_via ?_ (by assumption) ?_))))).mono ?_; rintro e w1 ⟨s1, d1, rfl, hd1, hlo1, hsb, hb1⟩; have L1 := live hb1 r (by first | omega | (simp <;> omega))) | (go_at_call 62; refine (cloneK_c a2 n2 e2 t.kids HNN.out.2 hz2 _ ((HKI.out.below HB0.out).below (by repeat' (first | exact Below.refl _ _ | assumption | exact And.left (by assumption) | omega | (simp; done) | (simp; omega) | (simp at *; omega) | (refine Below.setCell ?_ ?_ _) | (refine below_alloc0 ?_ _) | (refine Below.drew ?_) | (refine below_drewN ?_ _) | (refine below_via0 ?_ (by assumption)) | (refine Below.alloc ?_ ?_ _) | (refine below_via ?_ (by assumption) ?_))))).mono ?_; rintro e w3 ⟨s2, d2, rfl, hd2, hlo2, hkb, hb3⟩; have L3 := live hb3 r (by first | omega | (simp <;> omega))))
      all_goals
        have hb13 : Below w1.heap.size w1 w3 := (by repeat' (first | exact Below.refl _ _ | assumption | exact And.left (by assumption) | omega | (simp; done) | (simp; omega) | (simp at *; omega) | (refine Below.setCell ?_ ?_ _) | (refine below_alloc0 ?_ _) | (refine Below.drew ?_) | (refine below_drewN ?_ _) | (refine below_via0 ?_ (by assumption)) | (refine Below.alloc ?_ ?_ _) | (refine below_via ?_ (by assumption) ?_)))
        have hbW : Below W0.heap.size W0 w3 := (by repeat' (first | exact Below.refl _ _ | assumption | exact And.left (by assumption) | omega | (simp; done) | (simp; omega) | (simp at *; omega) | (refine Below.setCell ?_ ?_ _) | (refine below_alloc0 ?_ _) | (refine Below.drew ?_) | (refine below_drewN ?_ _) | (refine below_via0 ?_ (by assumption)) | (refine Below.alloc ?_ ?_ _) | (refine below_via ?_ (by assumption) ?_)))
        have hrr := HRR.out
        have hs1 := hsb.1.1
        have hs2 := hkb.1.1
        have hlo1' : W0.heap.size ≤ s1 := by simpa using hlo1
        have hlo2' : w1.heap.size ≤ s2 := by simpa using hlo2
        have HW0 := hide HB0.out.size
        have HSB3 := hide (((hsb.below hb13).keep (w' := w3.setCell ⟨r, 5, none⟩ (.slice (some ⟨s1, 0, none⟩) n1 d1)) (by simp) (Below.heap_setCell _ ⟨r, 5, none⟩ _ s1 (by show s1 ≠ r; omega))).keep (w' := (w3.setCell ⟨r, 5, none⟩ (.slice (some ⟨s1, 0, none⟩) n1 d1)).setCell ⟨r, 6, none⟩ (.slice (some ⟨s2, 0, none⟩) n2 d2)) (by simp) (Below.heap_setCell _ ⟨r, 6, none⟩ _ s1 (by show s1 ≠ r; omega)))
        have HKB3 := hide ((hkb.keep (w' := w3.setCell ⟨r, 5, none⟩ (.slice (some ⟨s1, 0, none⟩) n1 d1)) (by simp) (Below.heap_setCell _ ⟨r, 5, none⟩ _ s2 (by have := hsb.1.1; show s2 ≠ r; omega))).keep (w' := (w3.setCell ⟨r, 5, none⟩ (.slice (some ⟨s1, 0, none⟩) n1 d1)).setCell ⟨r, 6, none⟩ (.slice (some ⟨s2, 0, none⟩) n2 d2)) (by simp) (Below.heap_setCell _ ⟨r, 6, none⟩ _ s2 (by show s2 ≠ r; omega)))
        have R3 := HR0.out.below hbW r0
        have r3 := R3.lt
        have x0 : w3.cell? ⟨r, 0, none⟩ = some (.bool t.dir) := R3.cell (j := 0) rfl
        have y0 := R3.frozen 0
        have x1 : w3.cell? ⟨r, 1, none⟩ = some (.int .i64 t.owner) := R3.cell (j := 1) rfl
        have y1 := R3.frozen 1
        have x2 : w3.cell? ⟨r, 2, none⟩ = some (.int .i64 t.group) := R3.cell (j := 2) rfl
        have y2 := R3.frozen 2
        have x3 : w3.cell? ⟨r, 3, none⟩ = some (.int .i64 t.mode) := R3.cell (j := 3) rfl
        have y3 := R3.frozen 3
        have x4 : w3.cell? ⟨r, 4, none⟩ = some (.string t.text) := R3.cell (j := 4) rfl
        have y4 := R3.frozen 4
        have x5 : w3.cell? ⟨r, 5, none⟩ = some (.slice (some a1) n1 e1) := R3.cell (j := 5) rfl
        have y5 := R3.frozen 5
        have x6 : w3.cell? ⟨r, 6, none⟩ = some (.slice (some a2) n2 e2) := R3.cell (j := 6) rfl
        have y6 := R3.frozen 6
        have HB4 := hide (((below_via0 HB0.out hbW).setCell (p := ⟨r, 5, none⟩) (by show wr.heap.size ≤ r; omega) (.slice (some ⟨s1, 0, none⟩) n1 d1)).setCell (p := ⟨r, 6, none⟩) (by show wr.heap.size ≤ r; omega) (.slice (some ⟨s2, 0, none⟩) n2 d2))
        have HB5 := hide (below_alloc0 HB4.out (.cells #[.bool t.dir, .int .i64 t.owner, .int .i64 t.group, .int .i64 t.mode, .string t.text, .slice (some ⟨s1, 0, none⟩) n1 d1, .slice (some ⟨s2, 0, none⟩) n2 d2] 60))
        have HC5 := hide (hcp.out.below HB5.out)
        clear R3 hb13 hbW hb1 hb3 L1 L3 z5 z6 f5 f6 hsb hkb hrr
        go_wp2_with (at_builtin; refine wpList_append_own _ rfl _ _ 26 rfl w.heap.size 60 iN _ 7 96 Try.underlying26 HIN.out HN0.out HN1.out HN2.out rfl (by decide) _ _ _ rfl HC5.out.own ⟨_, 0, none⟩ 1 1 [.bool t.dir, .int .i64 t.owner, .int .i64 t.group, .int .i64 t.mode, .string t.text, .slice (some ⟨s1, 0, none⟩) n1 d1, .slice (some ⟨s2, 0, none⟩) n2 d2] rfl rfl ?qc2 ?qc3 ?qc4 ?qc5 ?qc6 ?_)
        case qc2 => exact cells_new _ _ _ (by simp)
        case qc3 =>
          intro u hu
          simp only [List.mem_cons, List.not_mem_nil, or_false] at hu
          rcases hu with rfl | rfl | rfl | rfl | rfl | rfl | rfl <;> rfl
        case qc4 => unfold maxLen; omega
        case qc5 => omega
        case qc6 => have := (below_via0 hbel.out HB5.out).size; simpa using this
        intro v' w6 hown6 hgrow6 hnil6
        have hb6 := hide ((below_via0 hbel.out HB5.out).grown hgrow6 (below_via0 hbel.out HB5.out).size (fun q hq => (own_block HC5.out.own q hq).1))
        obtain ⟨hh1, hh2⟩ := HNN.out
        subst hh1 hh2
        have HC6 := hide (CpT.add HC5.out HT.out (HSB3.out.below (below_alloc0 (Below.refl _ _) _)) (HKB3.out.below (below_alloc0 (Below.refl _ _) _)) (by have := hcp.out.hi; have := HW0.out; omega) (by omega) hd1 hd2 hown6 hgrow6 hnil6)
        clear hown6 hgrow6 hnil6 x0 x1 x2 x3 x4 x5 x6
        go_wp2_with fail
        exact ⟨⟨k + 1, _, _, by omega, by go_num, HC6, hb6⟩, by simp [intOf] <;> omega⟩
    · obtain rfl : k = n := by omega
      have hkk : ¬ (k : Int) < k := by omega
      go_wp2_with fail
      go_ret
      exact ⟨_, rfl, hcp.out.fin hlen, hbel.out⟩
end Go.Proofs.Ytncjghmjlcohjaa
