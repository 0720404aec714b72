/-
  slices.Concat of two slices of strings; the path of a path and names behind it. The library's own variable holds some number.
-/
import Derived.Test.YtgpdblkaidllmaaDoorProg
import Derived.Test.YtgpdblkaidllmaaDoorThp
namespace Go.Proofs.YtgpdblkaidllmaaDoor
open Go.RowKit
set_option linter.unusedSimpArgs false
set_option linter.unusedVariables false

theorem grow_c (n : Nat) (hn : n ≤ 1000) (w : World) :
    Calls Tryd.prog 48 #[.slice none 0 0, .int .i64 n] w fun e w' => ∃ V, e = .returned V ∧ w'.ownsRow w.heap.size 9 1 V 0 [] ∧ Below w.heap.size w w' := by
  obtain ⟨i0, hi0, hz0, hz1, hz2⟩ := info_parts infoStr
  by_cases h0 : n = 0
  · subst h0
    refine (Any8.slices_Grow_room Tryd.growS none 0 0 0 w (by omega) (by omega) (by omega) (by omega)).mono ?_
    rintro e w' ⟨rfl, rfl⟩
    exact ⟨_, rfl, ⟨rfl, .inl ⟨rfl, rfl⟩⟩, Below.refl _ _⟩
  · refine (Any8.slices_Grow_grow Tryd.growS i0 _ hi0 hz0 (by rw [hz1]; omega) none 0 0 n [] w (by omega) (by omega) (by rw [hz2]; omega) (by omega) (by rw [hz1]; rfl) (fun _ => rfl) (fun a h => by cases h)).mono ?_
    rintro e w' ⟨rfl, rfl⟩
    refine ⟨_, rfl, ?_, below_alloc0 ((Below.refl _ _).drew) _⟩
    have hcap := grownCap_ge w (0 + n) 0 9
    refine ⟨rfl, .inr ⟨w.heap.size, _, _, rfl, Nat.le_refl _, Below.heap_alloc_self w.drew _, Nat.zero_le _, grownCap_le_maxLen w _ _ _ (by unfold maxLen; omega), ?_, by simp⟩⟩
    have e1 : (Value.string ByteArray.empty).cells.size = 1 := rfl
    simp only [Array.size_append, size_zeroCells, e1, List.size_toArray, List.length_nil]
    have e2 : Tryd.growS_ren.t 25 = 9 := rfl
    rw [e2]
    omega
def totC (l1 l2 : List ByteArray) (k : Nat) : Nat := if k = 0 then 0 else if k = 1 then l1.length else l1.length + l2.length
def catC (l1 l2 : List ByteArray) (k : Nat) : List ByteArray := if k = 0 then [] else if k = 1 then l1 else l1 ++ l2
set_option maxRecDepth 100000 in
set_option maxHeartbeats 4000000 in
theorem ccat_c (p : Nat) (V1 V2 : Value) (l1 l2 : List ByteArray) (h1 : l1.length ≤ 6) (h2 : l2.length ≤ 6) (w : World) (hp : p < w.heap.size) (hc1 : w.cell? ⟨p, 0, none⟩ = some V1) (hc2 : w.cell? ⟨p, 1, none⟩ = some V2) (hS1 : SlP w V1 l1) (hS2 : SlP w V2 l2) :
    Calls Tryd.prog 40 #[.slice (some ⟨p, 0, none⟩) 2 2] w fun e w' => ∃ V, e = .returned V ∧ w'.ownsRow w.heap.size 9 1 V (l1 ++ l2).length ((l1 ++ l2).map Value.string) ∧ Below w.heap.size w w' := by
  obtain ⟨i0, hi0, hz0, hz1, hz2⟩ := info_parts infoStr
  have HI := hide hi0
  have HZ0 := hide hz0
  have HZ1 := hide hz1
  have HZ2 := hide hz2
  clear hi0 hz0 hz1 hz2
  obtain ⟨g1, o1, c1, rfl, hc1', hR1⟩ := hS1
  obtain ⟨g2, o2, c2, rfl, hc2', hR2⟩ := hS2
  have HR1 := hide hR1
  have HR2 := hide hR2
  clear hR1 hR2
  go_enter Tryd.func40, Tryd.ntmps40
  go_wp2_with fail
  go_loopw [3, 11] (fun sv kv wr => ∃ k : Nat, k ≤ 2 ∧ kv = .int .i64 k ∧ sv = .int .i64 (totC l1 l2 k) ∧ wr = w) (fun _ kv _ => 2 - (intOf kv).toNat)
  case atStart => exact ⟨0, by omega, rfl, rfl, rfl⟩
  case round =>
    obtain ⟨k, hk, rfl, rfl, hw⟩ := hrel
    have hw' := hw.symm
    subst hw'
    clear hw
    have hcase : k = 0 ∨ k = 1 ∨ k = 2 := by omega
    rcases hcase with rfl | rfl | rfl
    · have e1 : totC l1 l2 0 = 0 := rfl
      rw [e1]
      have j1 := IntWalk.i64_in ((0 : Int) + l1.length) (by omega)
      go_wp2_with fail
      exact ⟨⟨1, by omega, rfl, by first | rfl | (show Value.int .i64 _ = Value.int .i64 (l1.length : Nat); simp), by first | rfl | trivial⟩, by simp [intOf] <;> omega⟩
    · have e1 : totC l1 l2 1 = l1.length := rfl
      rw [e1]
      have j1 := IntWalk.i64_in ((l1.length : Int) + l2.length) (by omega)
      go_wp2_with fail
      exact ⟨⟨2, by omega, rfl, by first | rfl | (show Value.int .i64 _ = Value.int .i64 ((l1.length + l2.length : Nat) : Int); simp), by first | rfl | trivial⟩, by simp [intOf] <;> omega⟩
    · have e1 : totC l1 l2 2 = l1.length + l2.length := rfl
      rw [e1]
      go_wp2_with fail
      refine (grow_c (l1.length + l2.length) (by omega) _).mono ?_
      rintro e w1 ⟨V, rfl, hown, hb1⟩
      have HO := hide hown
      have HB := hide hb1
      have cc1 := (hb1.cell (p := ⟨p, 0, none⟩) hp).trans hc1
      have cc2 := (hb1.cell (p := ⟨p, 1, none⟩) hp).trans hc2
      have hp1 : p < w1.heap.size := Nat.lt_of_lt_of_le hp hb1.size
      have hcc1 := hc1
      have hcc2 := hc2
      clear hown hb1 hc1 hc2
      go_wp2_with fail
      go_loopw [6, 27] (fun nv kv wq => ∃ k : Nat, k ≤ 2 ∧ kv = .int .i64 k ∧ Hid (wq.ownsRow w.heap.size 9 1 nv (catC l1 l2 k).length ((catC l1 l2 k).map Value.string)) ∧ Hid (Below w.heap.size w wq) ∧ wq.cell? ⟨p, 0, none⟩ = some (.slice (some ⟨g1, o1, none⟩) l1.length c1) ∧ wq.cell? ⟨p, 1, none⟩ = some (.slice (some ⟨g2, o2, none⟩) l2.length c2) ∧ p < wq.heap.size) (fun _ kv _ => 2 - (intOf kv).toNat)
      case atStart => exact ⟨0, by omega, rfl, HO.out, HB.out, cc1, cc2, hp1⟩
      case round =>
        obtain ⟨k, hk, rfl, hown, hbel, d1, d2, hpq⟩ := hrel
        have hcase : k = 0 ∨ k = 1 ∨ k = 2 := by omega
        have hsz := hbel.out.size
        clear cc1 cc2
        rcases hcase with rfl | rfl | rfl
        · go_wp2_with (at_builtin; refine wpList_append_own _ rfl _ _ 44 rfl w.heap.size 9 i0 (.string ByteArray.empty) 1 16 Tryd.underlying44 HI.out HZ0.out HZ1.out HZ2.out rfl (by decide) _ _ _ rfl hown.out ⟨g1, o1, none⟩ l1.length c1 (l1.map Value.string) rfl ?qc1 ?qc2 ?qc3 ?qc4 ?qc5 ?qc6 ?_)
          case qc1 => rw [List.length_map, Nat.mul_one]
          case qc2 =>
            intro j u hj
            rw [List.getElem?_map] at hj
            obtain ⟨x, hx, rfl⟩ := Option.map_eq_some_iff.1 hj
            rw [Addr.add_lit]
            exact (HR1.out.below hbel.out).2 j x hx
          case qc3 =>
            intro u hu
            obtain ⟨x, _, rfl⟩ := List.mem_map.1 hu
            rfl
          case qc4 => simp [catC]; unfold maxLen; omega
          case qc5 => simp [catC]; omega
          case qc6 => omega
          intro v' w5 hown5 hgrow hnil
          have HO5 := hide (show w5.ownsRow w.heap.size 9 1 v' (catC l1 l2 1).length ((catC l1 l2 1).map Value.string) by simpa [catC] using hown5)
          have hb5 := hide (hbel.out.grown hgrow hsz (by intro q hq; exact ((own_block hown.out) q hq).1))
          have f1 := hb5.out.cell (p := ⟨p, 0, none⟩) hp
          have f2 := hb5.out.cell (p := ⟨p, 1, none⟩) hp
          have f3 : p < w5.heap.size := Nat.lt_of_lt_of_le hp hb5.out.size
          have HC1 := hide (f1.trans hcc1)
          have HC2 := hide (f2.trans hcc2)
          clear hown5 hgrow hnil f1 f2 d1 d2
          go_wp2_with fail
          exact ⟨⟨1, by omega, rfl, HO5, hb5, HC1.out, HC2.out, f3⟩, by simp [intOf] <;> omega⟩
        · go_wp2_with (at_builtin; refine wpList_append_own _ rfl _ _ 44 rfl w.heap.size 9 i0 (.string ByteArray.empty) 1 16 Tryd.underlying44 HI.out HZ0.out HZ1.out HZ2.out rfl (by decide) _ _ _ rfl hown.out ⟨g2, o2, none⟩ l2.length c2 (l2.map Value.string) rfl ?qc1 ?qc2 ?qc3 ?qc4 ?qc5 ?qc6 ?_)
          case qc1 => rw [List.length_map, Nat.mul_one]
          case qc2 =>
            intro j u hj
            rw [List.getElem?_map] at hj
            obtain ⟨x, hx, rfl⟩ := Option.map_eq_some_iff.1 hj
            rw [Addr.add_lit]
            exact (HR2.out.below hbel.out).2 j x hx
          case qc3 =>
            intro u hu
            obtain ⟨x, _, rfl⟩ := List.mem_map.1 hu
            rfl
          case qc4 => simp [catC]; unfold maxLen; omega
          case qc5 => simp [catC]; omega
          case qc6 => omega
          intro v' w5 hown5 hgrow hnil
          have HO5 := hide (show w5.ownsRow w.heap.size 9 1 v' (catC l1 l2 2).length ((catC l1 l2 2).map Value.string) by simpa [catC] using hown5)
          have hb5 := hide (hbel.out.grown hgrow hsz (by intro q hq; exact ((own_block hown.out) q hq).1))
          have f1 := hb5.out.cell (p := ⟨p, 0, none⟩) hp
          have f2 := hb5.out.cell (p := ⟨p, 1, none⟩) hp
          have f3 : p < w5.heap.size := Nat.lt_of_lt_of_le hp hb5.out.size
          have HC1 := hide (f1.trans hcc1)
          have HC2 := hide (f2.trans hcc2)
          clear hown5 hgrow hnil f1 f2 d1 d2
          go_wp2_with fail
          exact ⟨⟨2, by omega, rfl, HO5, hb5, HC1.out, HC2.out, f3⟩, by simp [intOf] <;> omega⟩
        · go_wp2_with fail
          go_ret
          exact ⟨_, rfl, hown.out, hbel.out⟩
end Go.Proofs.YtgpdblkaidllmaaDoor
