/-
  copyTree of the program, l6Copy of the reference. No condition.
-/
import Derived.Test.YtncjghmjlcohjaaProg
import Derived.Test.YtncjghmjlcohjaaCpy
namespace Go.Proofs.Ytncjghmjlcohjaa
open Go.RowKit
set_option linter.unusedSimpArgs false
set_option linter.unusedVariables false

/-- A node whose slices are not nil. -/
def NodeJ (w : World) (b off : Nat) (t : Node) : Prop :=
  ∃ A c A2 c2, NodeAt w b off t (.slice (some A) t.names.length c) (.slice (some A2) t.kids.length c2) ∧ InString w (some A) t.names.length t.names ∧ InInt w (some A2) t.kids.length t.kids
theorem NodeJ.below {w w' : World} {b off : Nat} {t : Node} (h : NodeJ w b off t) (hl : b < w.heap.size) (hb : Below w.heap.size w w') : NodeJ w' b off t := by
  obtain ⟨A, c, A2, c2, ⟨h0, h1, h2, h3, h4, h5, h6⟩, hS, hK⟩ := h
  have hc : ∀ o, w'.cell? ⟨b, o, none⟩ = w.cell? ⟨b, o, none⟩ := fun o => hb.cell (p := ⟨b, o, none⟩) hl
  exact ⟨A, c, A2, c2, ⟨(hc _).trans h0, (hc _).trans h1, (hc _).trans h2, (hc _).trans h3, (hc _).trans h4, (hc _).trans h5, (hc _).trans h6⟩, hS.below hb, hK.below hb⟩
/-- A slice of such nodes. -/
def InJ (w : World) (A : Option Addr) (n : Nat) (l : List Node) : Prop :=
  l.length = n ∧ (0 < n → ∃ b off, A = some ⟨b, off, none⟩ ∧ b < w.heap.size ∧ ∀ (k : Nat) (t : Node), l[k]? = some t → NodeJ w b (off + k * 7) t)
theorem InJ.below {w w' : World} {A : Option Addr} {n : Nat} {l : List Node} (h : InJ w A n l) (hb : Below w.heap.size w w') : InJ w' A n l :=
  ⟨h.1, fun h0 => by
    obtain ⟨b, off, hA, hl, hR⟩ := h.2 h0
    exact ⟨b, off, hA, Nat.lt_of_lt_of_le hl hb.size, fun k t ht => (hR k t ht).below hl hb⟩⟩
set_option maxRecDepth 100000 in
set_option maxHeartbeats 8000000 in
theorem l6Copy_c (A : Option Addr) (n c : Nat) (l : List Node) (hn : n ≤ 1048576) (hz : ∀ t ∈ l, NodeS t) (w : World) (hI : InJ w A n l) :
    Calls Try.prog 45 #[.slice A n c] w fun e w' => ∃ V, e = .returned V ∧ CpN true w' w.heap.size V l n ∧ Below w.heap.size w w' := by
  obtain ⟨iN, hiN, hN0, hN1, hN2⟩ := info_parts infoNode
  obtain ⟨iS, hiS, hS0, hS1, hS2⟩ := info_parts infoString
  obtain ⟨iI, hiI, hI0, hI1, hI2⟩ := info_parts infoInt
  have HIN := hide hiN
  have HN0 := hide hN0
  have HN1 := hide hN1
  have HN2 := hide hN2
  have HIS := hide hiS
  have HS0 := hide hS0
  have HS1 := hide hS1
  have HS2 := hide hS2
  have HII := hide hiI
  have HI0 := hide hI0
  have HI1 := hide hI1
  have HI2 := hide hI2
  have HJ := hide hI
  have HZ := hide hz
  have hlen := hI.1
  clear hiN hN0 hN1 hN2 hiS hS0 hS1 hS2 hiI hI0 hI1 hI2 hI hz
  have B0 := hide (below_alloc0 (Below.refl w.heap.size w) (.cells #[] 60))
  have C0 := hide (show CpT (w.alloc (.cells #[] 60)) w.heap.size (.slice (some ⟨w.heap.size, 0, none⟩) 0 0) [] (fun _ => w.heap.size) l 0 from ⟨World.ownsRow_made w #[] 0 (Nat.le_refl _) (Nat.zero_le _) (by rfl), (fun e => by cases e), fun i t hi => absurd hi (by omega), fun _ _ _ _ => Nat.le_refl _, Nat.le_refl _, by simp⟩)
  go_enter Try.func45, Try.ntmps45
  go_wp2_with fail
  go_loopw [3, 4] (fun vv kv wr => ∃ (k : Nat) (vs : List Value) (q : Nat → Nat), k ≤ n ∧ kv = .int .i64 k ∧ Hid (CpT wr w.heap.size vv vs q l k) ∧ Hid (Below w.heap.size w wr)) (fun _ kv _ => n - (intOf kv).toNat)
  case atStart => exact ⟨0, [], _, by omega, rfl, C0, B0⟩
  case round =>
    obtain ⟨k, vs, q, hk, rfl, hcp, hbel⟩ := hrel
    by_cases hlt : k < n
    · have hkk : (k : Int) < n := by omega
      obtain ⟨b, off, hA, hbl, hR⟩ := (HJ.out.below hbel.out).2 (by omega)
      subst hA
      obtain ⟨t, ht⟩ : ∃ t, l[k]? = some t := ⟨_, List.getElem?_eq_getElem (by omega)⟩
      obtain ⟨a1, e1, a2, e2, ⟨c0, c1, c2, c3, c4, c5, c6⟩, hS, hK⟩ := hR k t ht
      have hzt := HZ.out t (List.mem_of_getElem? ht)
      have hz1 := hzt.1
      have hz2 := hzt.2
      have HT := hide ht
      have HSI := hide hS
      have HKI := hide hK
      generalize hN1 : t.names.length = n1 at *
      generalize hN2 : t.kids.length = n2 at *
      have HNN := hide (And.intro hN1 hN2)
      clear ht hS hK hR hzt hN1 hN2
      have hrs : (wr.alloc (.cells #[.bool t.dir, .int .i64 t.owner, .int .i64 t.group, .int .i64 t.mode, .string t.text, .slice (some a1) n1 e1, .slice (some a2) n2 e2] 60)).heap.size = wr.heap.size + 1 := by simp
      have hBa : Below wr.heap.size wr (wr.alloc (.cells #[.bool t.dir, .int .i64 t.owner, .int .i64 t.group, .int .i64 t.mode, .string t.text, .slice (some a1) n1 e1, .slice (some a2) n2 e2] 60)) := below_alloc0 (Below.refl _ _) _
      have HRS := hide hrs
      have HBA := hide hBa
      clear hrs hBa
      go_wp2_with (at_builtin; refine wpList_append_own _ rfl _ _ 56 rfl (wr.heap.size + 1) 9 iS _ 1 16 Try.underlying56 HIS.out HS0.out HS1.out HS2.out rfl (by decide) _ _ _ rfl (by rw [← HRS.out]; exact World.ownsRow_made _ #[] 0 (Nat.le_refl _) (Nat.zero_le _) (by rfl)) a1 n1 e1 (t.names.map Value.string) rfl ?qc1 ?qc2 ?qc3 ?qc4 ?qc5 ?qc6 ?_)
      case qc1 => rw [List.length_map, HNN.out.1, Nat.mul_one]
      case qc2 => exact str_cells ((HSI.out.below HBA.out).below (below_alloc0 (Below.refl _ _) _))
      case qc3 => exact one_str _
      case qc4 => rw [Nat.zero_add]; unfold maxLen; omega
      case qc5 => rw [Nat.zero_add]; omega
      case qc6 => simp
      intro v1 w1 hown1 hgrow1 hnil1
      obtain ⟨s1, d1, rfl, hd1, hlo1, hsb⟩ := sb_of HNN.out.1 (by simpa using hown1) hnil1
      have hb1 : Below wr.heap.size wr w1 := (below_alloc0 HBA.out (.cells #[] 9)).grown hgrow1 (by simp; omega) (by intro q hq; simp [Value.ownBlock] at hq; omega)
      have R1 := ((Row.made wr 60 #[.bool t.dir, .int .i64 t.owner, .int .i64 t.group, .int .i64 t.mode, .string t.text, .slice (some a1) n1 e1, .slice (some a2) n2 e2] (fun j => #[.bool t.dir, .int .i64 t.owner, .int .i64 t.group, .int .i64 t.mode, .string t.text, .slice (some a1) n1 e1, .slice (some a2) n2 e2][j]?) (fun _ _ h => h)).alloc (.cells #[] 9)).grown hgrow1 (by simp [Value.ownBlock])
      have hsz1 := hgrow1.size
      simp at hsz1
      have r1 := R1.lt
      obtain ⟨y5, g5⟩ := R1.some_ex (j := 5) (by simp)
      have f5 := R1.frozen 5
      have HR1 := hide R1
      have HB1 := hide hb1
      have HSB := hide hsb
      have hs1 := hsb.1.1
      have z6 := R1.cell (j := 6) rfl
      have HO1 := hide hown1
      clear hown1 hgrow1 hnil1 hsb R1 hb1 c0 c1 c2 c3 c4 c5 c6
      have HW2 := hide (show (w1.setCell ⟨wr.heap.size, 5, none⟩ (.slice (some ⟨s1, 0, none⟩) n1 d1)).heap.size = w1.heap.size by simp)
      have HB2 := hide (HB1.out.setCell (p := ⟨wr.heap.size, 5, none⟩) (Nat.le_refl _) (.slice (some ⟨s1, 0, none⟩) n1 d1))
      go_wp2_with (at_builtin; refine wpList_append_own _ rfl _ _ 45 rfl w1.heap.size 3 iI _ 1 8 Try.underlying45 HII.out HI0.out HI1.out HI2.out rfl (by decide) _ _ _ rfl (by rw [← HW2.out]; exact World.ownsRow_made _ #[] 0 (Nat.le_refl _) (Nat.zero_le _) (by rfl)) a2 n2 e2 (t.kids.map (Value.int .i64)) rfl ?qc1 ?qc2 ?qc3 ?qc4 ?qc5 ?qc6 ?_)
      case qc1 => rw [List.length_map, HNN.out.2, Nat.mul_one]
      case qc2 => exact int_cells ((HKI.out.below HB2.out).below (below_alloc0 (Below.refl _ _) _))
      case qc3 => exact one_int _
      case qc4 => rw [Nat.zero_add]; unfold maxLen; omega
      case qc5 => rw [Nat.zero_add]; omega
      case qc6 => simp
      intro v3 w3 hown3 hgrow3 hnil3
      obtain ⟨s2, d2, rfl, hd2, hlo2, hkb⟩ := kb_of HNN.out.2 (by simpa using hown3) hnil3
      have hb23 := (below_alloc0 (Below.refl (w1.setCell ⟨wr.heap.size, 5, none⟩ (.slice (some ⟨s1, 0, none⟩) n1 d1)).heap.size _) (.cells #[] 3)).grown hgrow3 (by simp) (by intro q hq; simp [Value.ownBlock] at hq; simp; omega)
      have hb3 : Below wr.heap.size wr w3 := below_via0 HB2.out hb23
      have R3 := (HR1.out.set 5 (.slice (some ⟨s1, 0, none⟩) n1 d1)).below hb23 (by simp; omega)
      have HSB3 := hide ((HSB.out.keep (w' := w1.setCell ⟨wr.heap.size, 5, none⟩ (.slice (some ⟨s1, 0, none⟩) n1 d1)) (by simp) (Below.heap_setCell _ ⟨wr.heap.size, 5, none⟩ _ s1 (by show s1 ≠ wr.heap.size; omega))).below hb23)
      have HKB := hide hkb
      have r3 := R3.lt
      have x0 := R3.cell (j := 0) rfl
      have x1 := R3.cell (j := 1) rfl
      have x2 := R3.cell (j := 2) rfl
      have x3 := R3.cell (j := 3) rfl
      have x4 := R3.cell (j := 4) rfl
      have x5 := R3.cell (j := 5) rfl
      obtain ⟨y6, x6⟩ := R3.some_ex (j := 6) (by simp)
      have f6 := R3.frozen 6
      have HB3 := hide hb3
      clear hown3 hgrow3 hnil3 hkb R3 hb23 hb3 g5 f5 z6 HO1
      have hks := HKB.out.1.1
      have HB4 := hide (HB3.out.setCell (p := ⟨wr.heap.size, 6, none⟩) (Nat.le_refl _) (.slice (some ⟨s2, 0, none⟩) n2 d2))
      have HB5 := hide (below_alloc0 HB4.out (.cells #[.bool t.dir, .int .i64 t.owner, .int .i64 t.group, .int .i64 t.mode, .string t.text, .slice (some ⟨s1, 0, none⟩) n1 d1, .slice (some ⟨s2, 0, none⟩) n2 d2] 60))
      have HC5 := hide (hcp.out.below HB5.out)
      go_wp2_with (at_builtin; refine wpList_append_own _ rfl _ _ 26 rfl w.heap.size 60 iN _ 7 96 Try.underlying26 HIN.out HN0.out HN1.out HN2.out rfl (by decide) _ _ _ rfl HC5.out.own ⟨_, 0, none⟩ 1 1 [.bool t.dir, .int .i64 t.owner, .int .i64 t.group, .int .i64 t.mode, .string t.text, .slice (some ⟨s1, 0, none⟩) n1 d1, .slice (some ⟨s2, 0, none⟩) n2 d2] rfl rfl ?qc2 ?qc3 ?qc4 ?qc5 ?qc6 ?_)
      case qc2 => exact cells_new _ _ _ (by simp)
      case qc3 =>
        intro u hu
        simp only [List.mem_cons, List.not_mem_nil, or_false] at hu
        rcases hu with rfl | rfl | rfl | rfl | rfl | rfl | rfl <;> rfl
      case qc4 => unfold maxLen; omega
      case qc5 => omega
      case qc6 => have := (below_via0 hbel.out HB5.out).size; simpa using this
      intro v' w6 hown6 hgrow6 hnil6
      have hb6 := hide ((below_via0 hbel.out HB5.out).grown hgrow6 (below_via0 hbel.out HB5.out).size (fun q hq => (own_block HC5.out.own q hq).1))
      obtain ⟨hh1, hh2⟩ := HNN.out
      subst hh1 hh2
      have HC6 := hide (CpT.add HC5.out HT.out ((HSB3.out.keep (w' := w3.setCell ⟨wr.heap.size, 6, none⟩ (.slice (some ⟨s2, 0, none⟩) t.kids.length d2)) (by simp) (Below.heap_setCell _ ⟨wr.heap.size, 6, none⟩ _ s1 (by show s1 ≠ wr.heap.size; omega))).below (below_alloc0 (Below.refl _ _) _)) ((HKB.out.keep (w' := w3.setCell ⟨wr.heap.size, 6, none⟩ (.slice (some ⟨s2, 0, none⟩) t.kids.length d2)) (by simp) (Below.heap_setCell _ ⟨wr.heap.size, 6, none⟩ _ s2 (by show s2 ≠ wr.heap.size; omega))).below (below_alloc0 (Below.refl _ _) _)) (by have := hcp.out.hi; omega) (by omega) hd1 hd2 hown6 hgrow6 hnil6)
      clear hown6 hgrow6 hnil6 x0 x1 x2 x3 x4 x5 x6 f6
      go_wp2_with fail
      exact ⟨⟨k + 1, _, _, by omega, by go_num, HC6, hb6⟩, by simp [intOf] <;> omega⟩
    · obtain rfl : k = n := by omega
      have hkk : ¬ (k : Int) < k := by omega
      go_wp2_with fail
      go_ret
      exact ⟨_, rfl, hcp.out.fin hlen, hbel.out⟩
end Go.Proofs.Ytncjghmjlcohjaa
