/-
  Slices of nodes: how they lie in memory, their sizes, the copy of one. No condition.
-/
import Derived.Test.YtncjghmjlcohjaaDoorProg
import Derived.Test.YtncjghmjlcohjaaDoorSli
namespace Go.Proofs.YtncjghmjlcohjaaDoor
open Go.RowKit
set_option linter.unusedSimpArgs false
set_option linter.unusedVariables false

theorem RdString.far {w : World} {b off : Nat} {l : List ByteArray} (h : RdString w b off l) {p : Addr} (hp : b ≠ p.block) (v : Value) : RdString (w.setCell p v) b off l := h.keep (by simp) (Below.heap_setCell w p v b hp)
theorem RdInt.far {w : World} {b off : Nat} {l : List Int} (h : RdInt w b off l) {p : Addr} (hp : b ≠ p.block) (v : Value) : RdInt (w.setCell p v) b off l := h.keep (by simp) (Below.heap_setCell w p v b hp)
structure Node where
  dir : Bool
  owner : Int
  group : Int
  mode : Int
  text : ByteArray
  names : List ByteArray
  kids : List Int
/-- What every node that comes in keeps to. -/
def NodeZ (t : Node) : Prop := t.text.size ≤ maxLen ∧ t.names.length ≤ maxLen ∧ t.kids.length ≤ maxLen ∧ ∀ x ∈ t.names, x.size ≤ maxLen
def SlS (w : World) (S : Value) (l : List ByteArray) : Prop := ∃ (A : Option Addr) (n c : Nat), S = .slice A n c ∧ n ≤ c ∧ InString w A n l
def SlK (w : World) (S : Value) (l : List Int) : Prop := ∃ (A : Option Addr) (n c : Nat), S = .slice A n c ∧ n ≤ c ∧ InInt w A n l
theorem SlS.below {w w' : World} {S : Value} {l : List ByteArray} (h : SlS w S l) (hb : Below w.heap.size w w') : SlS w' S l := by
  obtain ⟨A, n, c, h1, h2, h3⟩ := h
  exact ⟨A, n, c, h1, h2, h3.below hb⟩
theorem SlK.below {w w' : World} {S : Value} {l : List Int} (h : SlK w S l) (hb : Below w.heap.size w w') : SlK w' S l := by
  obtain ⟨A, n, c, h1, h2, h3⟩ := h
  exact ⟨A, n, c, h1, h2, h3.below hb⟩
/-- A node's seven cells. -/
def NodeAt (w : World) (b off : Nat) (t : Node) (S K : Value) : Prop :=
  w.cell? ⟨b, off, none⟩ = some (.bool t.dir) ∧ w.cell? ⟨b, off + 1, none⟩ = some (.int .i64 t.owner) ∧ w.cell? ⟨b, off + 2, none⟩ = some (.int .i64 t.group) ∧ w.cell? ⟨b, off + 3, none⟩ = some (.int .i64 t.mode) ∧ w.cell? ⟨b, off + 4, none⟩ = some (.string t.text) ∧ w.cell? ⟨b, off + 5, none⟩ = some S ∧ w.cell? ⟨b, off + 6, none⟩ = some K
def RdNode (w : World) (b off : Nat) (l : List Node) : Prop :=
  b < w.heap.size ∧ ∀ (k : Nat) (t : Node), l[k]? = some t → ∃ S K, NodeAt w b (off + k * 7) t S K ∧ SlS w S t.names ∧ SlK w K t.kids
theorem RdNode.below {w w' : World} {b off : Nat} {l : List Node} (h : RdNode w b off l) (hb : Below w.heap.size w w') : RdNode w' b off l := by
  refine ⟨Nat.lt_of_lt_of_le h.1 hb.size, fun k t ht => ?_⟩
  obtain ⟨S, K, ⟨h0, h1, h2, h3, h4, h5, h6⟩, hS, hK⟩ := h.2 k t ht
  have hc : ∀ o, w'.cell? ⟨b, o, none⟩ = w.cell? ⟨b, o, none⟩ := fun o => hb.cell (p := ⟨b, o, none⟩) h.1
  exact ⟨S, K, ⟨(hc _).trans h0, (hc _).trans h1, (hc _).trans h2, (hc _).trans h3, (hc _).trans h4, (hc _).trans h5, (hc _).trans h6⟩, hS.below hb, hK.below hb⟩
def InNode (w : World) (A : Option Addr) (n : Nat) (l : List Node) : Prop :=
  l.length = n ∧ (0 < n → ∃ b off, A = some ⟨b, off, none⟩ ∧ RdNode w b off l)
theorem InNode.below {w w' : World} {A : Option Addr} {n : Nat} {l : List Node} (h : InNode w A n l) (hb : Below w.heap.size w w') : InNode w' A n l :=
  ⟨h.1, fun h0 => by
    obtain ⟨b, off, hA, hR⟩ := h.2 h0
    exact ⟨b, off, hA, hR.below hb⟩⟩
def InsNode (w : World) (A : Option Addr) (n c : Nat) (l : List Node) : Prop := InNode w A n l ∧ n ≤ maxLen ∧ n ≤ c ∧ ∀ t ∈ l, NodeZ t
/-- Small enough. -/
def NodeS (t : Node) : Prop := t.names.length ≤ 1048576 ∧ t.kids.length ≤ 1048576
set_option maxHeartbeats 1000000 in
theorem szNode_c (t : Node) (S K : Value) (z : Int) (hz : 0 ≤ z ∧ z ≤ 1048576) (hZ : NodeZ t) (w : World) (hS : SlS w S t.names) (hK : SlK w K t.kids) :
    Calls Tryd.prog 11 #[.agg #[.bool t.dir, .int .i64 t.owner, .int .i64 t.group, .int .i64 t.mode, .string t.text, S, K], .int .i64 z] w fun e w' => ∃ y : Int, e = .returned (.int .i64 y) ∧ y ≤ z ∧ (0 ≤ y → NodeS t) ∧ Below w.heap.size w w' := by
  obtain ⟨A, n, c, rfl, hnc, hS⟩ := hS
  obtain ⟨A2, n2, c2, rfl, hnc2, hK⟩ := hK
  obtain ⟨z1, z2, z3, z4⟩ := hZ
  have HS := hide hS
  have H4 := hide z4
  have hl1 := hS.1
  have hl2 := hK.1
  have HN := hide (show n ≤ 1048576 → n2 ≤ 1048576 → NodeS t from fun a b => ⟨by omega, by omega⟩)
  unfold maxLen at z1
  rw [hl1] at z2
  rw [hl2] at z3
  have B0 : Below w.heap.size w (w.alloc (.cells #[.bool t.dir, .int .i64 t.owner, .int .i64 t.group, .int .i64 t.mode, .string t.text, .slice A n c, .slice A2 n2 c2] 41)) := below_alloc0 (Below.refl _ _) _
  have jw := IntWalk.i64_in (z - t.text.size) (by omega)
  clear hS hK z4 hl1 hl2
  by_cases h : z - t.text.size < 0
  · go_enter Tryd.func11, Tryd.ntmps11
    go_wp2_with fail
    go_ret
    exact ⟨-1, rfl, by omega, fun h => absurd h (by omega), B0⟩
  · go_enter Tryd.func11, Tryd.ntmps11
    go_wp2_with fail
    refine (szString_c A n c t.names (z - t.text.size) (by omega) z2 H4.out _ (HS.out.below B0)).mono ?_
    rintro e w1 ⟨y, rfl, y1, y2, rfl⟩
    by_cases hy : y < 0
    · go_wp2_with fail
      go_ret
      exact ⟨-1, rfl, by omega, fun h => absurd h (by omega), B0⟩
    have hn2 := y2 (by omega)
    go_wp2_with fail
    refine (szInt_c A2 n2 c2 y (by omega) z3 _).mono ?_
    rintro e w2 ⟨x, rfl, x1, x2, rfl⟩
    by_cases hx : x < 0
    · go_wp2_with fail
      go_ret
      exact ⟨-1, rfl, by omega, fun h => absurd h (by omega), B0⟩
    have hx2 := x2 (by omega)
    go_wp2_with fail
    go_ret
    exact ⟨x, rfl, by omega, fun _ => HN.out hn2 hx2, B0⟩
set_option maxHeartbeats 1000000 in
theorem szNodeS_c (A : Option Addr) (n c : Nat) (l : List Node) (hn : n ≤ maxLen) (hZ : ∀ t ∈ l, NodeZ t) (w : World) (hI : InNode w A n l) :
    Calls Tryd.prog 4 #[.slice A n c, .int .i64 1048576] w fun e w' => ∃ y : Int, e = .returned (.int .i64 y) ∧ (0 ≤ y → n ≤ 1048576 ∧ ∀ t ∈ l, NodeS t) ∧ Below w.heap.size w w' := by
  unfold maxLen at hn
  have HI := hide hI
  have HZ := hide hZ
  clear hI hZ
  have jw := IntWalk.i64_in (1048576 - n) (by omega)
  by_cases h : (1048576 : Int) - n < 0
  · go_enter Tryd.func4, Tryd.ntmps4
    go_wp2_with fail
    go_ret
    exact ⟨-1, rfl, fun h => absurd h (by omega), Below.refl _ _⟩
  · go_enter Tryd.func4, Tryd.ntmps4
    go_wp2_with fail
    go_loopw [1, 5] (fun zv i wr => ∃ (k : Nat) (y : Int), k ≤ n ∧ i = .int .i64 k ∧ zv = .int .i64 y ∧ 0 ≤ y ∧ y ≤ 1048576 ∧ Hid (∀ (q : Nat) (t : Node), q < k → l[q]? = some t → NodeS t) ∧ Hid (Below w.heap.size w wr)) (fun _ i _ => n - (intOf i).toNat)
    case atStart => exact ⟨0, _, by omega, rfl, rfl, by omega, by omega, fun q t hq => absurd hq (by omega), Below.refl _ _⟩
    case round =>
      obtain ⟨k, y, hk, rfl, rfl, y0, y1, hup, hbel⟩ := hrel
      by_cases hlt : k < n
      · obtain ⟨b, off, hA0, hR⟩ := HI.out.2 (by omega)
        subst hA0
        obtain ⟨t, ht⟩ : ∃ t, l[k]? = some t := ⟨_, List.getElem?_eq_getElem (by have := HI.out.1; omega)⟩
        obtain ⟨S, K, ⟨c0, c1, c2, c3, c4, c5, c6⟩, hS, hK⟩ := (hR.below hbel.out).2 k t ht
        have hb1 := (hR.below hbel.out).1
        have hzt := HZ.out t (List.mem_of_getElem? ht)
        have HT := hide ht
        have hkk : (k : Int) < n := by omega
        have HSK := hide (And.intro hS hK)
        clear ht hR hS hK
        go_wp2_with fail
        refine (szNode_c t S K y ⟨y0, y1⟩ hzt _ HSK.out.1 HSK.out.2).mono ?_
        rintro e w1 ⟨x, rfl, x1, x2, hbx⟩
        have B1 := hide (below_via0 hbel.out hbx)
        clear hbx
        by_cases h2 : x < 0
        · go_wp2_with fail
          go_ret
          exact ⟨-1, rfl, fun h => absurd h (by omega), B1.out⟩
        · have HX := hide (x2 (by omega))
          clear x2
          go_wp2_with fail
          refine ⟨⟨k + 1, x, by omega, by go_num, rfl, by omega, by omega, fun q t' hq ht' => ?_, B1⟩, by simp [intOf] <;> omega⟩
          rcases Nat.lt_or_ge q k with hq' | hq'
          · exact hup.out q t' hq' ht'
          · obtain rfl : q = k := by omega
            obtain rfl := Option.some.inj (ht'.symm.trans HT.out)
            exact HX.out
      · obtain rfl : k = n := by omega
        have hkk : ¬ (k : Int) < k := by omega
        have HE := hide (show ∀ t ∈ l, NodeS t from fun t ht => by
          obtain ⟨q, hq, rfl⟩ := List.getElem_of_mem ht
          exact hup.out q _ (by have := HI.out.1; omega) (List.getElem?_eq_getElem hq))
        go_wp2_with fail
        go_ret
        exact ⟨y, rfl, fun _ => ⟨by omega, HE.out⟩, hbel.out⟩
set_option maxHeartbeats 2000000 in
theorem toNode_c (t : Node) (S K : Value) (hz : NodeS t) (w : World) (hS : SlS w S t.names) (hK : SlK w K t.kids) :
    Calls Tryd.prog 14 #[.agg #[.bool t.dir, .int .i64 t.owner, .int .i64 t.group, .int .i64 t.mode, .string t.text, S, K]] w fun e w' => ∃ (g h n m : Nat), e = .returned (.agg #[.bool t.dir, .int .i64 t.owner, .int .i64 t.group, .int .i64 t.mode, .string t.text, .slice (some ⟨g, 0, none⟩) n n, .slice (some ⟨h, 0, none⟩) m m]) ∧ w.heap.size ≤ g ∧ w.heap.size ≤ h ∧ t.names.length = n ∧ t.kids.length = m ∧ RdString w' g 0 t.names ∧ RdInt w' h 0 t.kids ∧ Below w.heap.size w w' := by
  obtain ⟨A, n, c, rfl, hnc, hS⟩ := hS
  obtain ⟨A2, n2, c2, rfl, hnc2, hK⟩ := hK
  have HS := hide hS
  have HK := hide hK
  have hl1 := hS.1
  have hl2 := hK.1
  have hn : n ≤ 1048576 := by have := hz.1; omega
  have hn2 : n2 ≤ 1048576 := by have := hz.2; omega
  clear hS hK hz
  have B0 : Below w.heap.size w (((w.alloc (.cells #[.bool t.dir, .int .i64 t.owner, .int .i64 t.group, .int .i64 t.mode, .string t.text, .slice A n c, .slice A2 n2 c2] 41)).alloc (.cells #[.bool false, .int .i64 0, .int .i64 0, .int .i64 0, .string ByteArray.empty, .slice none 0 0, .slice none 0 0] 45)).alloc (.cells #[.bool t.dir, .int .i64 t.owner, .int .i64 t.group, .int .i64 t.mode, .string t.text, .slice none 0 0, .slice none 0 0] 45)) :=
    below_alloc0 (below_alloc0 (below_alloc0 (Below.refl _ _) _) _) _
  go_enter Tryd.func14, Tryd.ntmps14
  go_wp2_with fail
  refine (toString_c A n c t.names _ (HS.out.below B0) hn).mono ?_
  rintro e w1 ⟨g, rfl, hg, hR, hb1⟩
  have V0 := live hb1 w.heap.size (by simp; omega)
  have V1 := live hb1 (w.heap.size + 1) (by simp)
  have V2 := live hb1 (w.heap.size + 2) (by simp)
  have hg' : w.heap.size + 3 ≤ g := by simpa using hg
  have B1 : Below w.heap.size w w1 := below_via0 B0 hb1
  have HR := hide hR
  have hgl := hR.1
  clear hR B0 hg hb1
  go_wp2_with fail
  have B2 : Below w.heap.size w (w1.setCell ⟨w.heap.size + 1 + 1, 5, none⟩ (.slice (some ⟨g, 0, none⟩) n n)) := B1.setCell (p := ⟨w.heap.size + 1 + 1, 5, none⟩) (by show w.heap.size ≤ w.heap.size + 1 + 1; omega) _
  have HR2 := hide (HR.out.far (p := ⟨w.heap.size + 1 + 1, 5, none⟩) (by show g ≠ w.heap.size + 1 + 1; omega) (.slice (some ⟨g, 0, none⟩) n n))
  refine (toInt_c A2 n2 c2 t.kids _ (HK.out.below B2) hn2).mono ?_
  rintro e w2 ⟨h, rfl, hh, hR3, hb2⟩
  have hz1 := B1.size
  have hh' : w1.heap.size ≤ h := by simpa using hh
  have U0 := live hb2 w.heap.size (by simp; omega)
  have U1 := live hb2 (w.heap.size + 1) (by simp; omega)
  have U2 := live hb2 (w.heap.size + 2) (by simp; omega)
  have B3 : Below w.heap.size w w2 := below_via0 B2 hb2
  have HR4 := hide (HR2.out.below hb2)
  have HK4 := hide hR3
  clear hR3 B1 B2 hb2 HR HR2 hh
  go_wp2_with fail
  have hgg : ∀ (W : World) (o : Nat) (v : Value), RdString W g 0 t.names → RdString (W.setCell ⟨w.heap.size + 1, o, none⟩ v) g 0 t.names := fun W o v hr => hr.far (p := ⟨w.heap.size + 1, o, none⟩) (by show g ≠ w.heap.size + 1; omega) v
  have hkk : ∀ (W : World) (o : Nat) (v : Value), RdInt W h 0 t.kids → RdInt (W.setCell ⟨w.heap.size + 1, o, none⟩ v) h 0 t.kids := fun W o v hr => hr.far (p := ⟨w.heap.size + 1, o, none⟩) (by show h ≠ w.heap.size + 1; omega) v
  have hbb : ∀ (W : World) (o : Nat) (v : Value), Below w.heap.size w W → Below w.heap.size w (W.setCell ⟨w.heap.size + 1, o, none⟩ v) := fun W o v hr => hr.setCell (p := ⟨w.heap.size + 1, o, none⟩) (by show w.heap.size ≤ w.heap.size + 1; omega) v
  exact bodyPost_ret (v := .agg #[.bool t.dir, .int .i64 t.owner, .int .i64 t.group, .int .i64 t.mode, .string t.text, .slice (some ⟨g, 0, none⟩) n n, .slice (some ⟨h, 0, none⟩) n2 n2]) (by simp [results, Tryd.results14, go_sem, *]) rfl ⟨g, h, n, n2, rfl, by omega, by omega, hl1, hl2,
    hgg _ _ _ (hgg _ _ _ (hgg _ _ _ (hgg _ _ _ (hgg _ _ _ (hgg _ _ _ (hgg _ _ _ (HR4.out.far (p := ⟨w.heap.size + 1 + 1, 6, none⟩) (by show g ≠ w.heap.size + 1 + 1; omega) _))))))),
    hkk _ _ _ (hkk _ _ _ (hkk _ _ _ (hkk _ _ _ (hkk _ _ _ (hkk _ _ _ (hkk _ _ _ (HK4.out.far (p := ⟨w.heap.size + 1 + 1, 6, none⟩) (by show h ≠ w.heap.size + 1 + 1; omega) _))))))),
    hbb _ _ _ (hbb _ _ _ (hbb _ _ _ (hbb _ _ _ (hbb _ _ _ (hbb _ _ _ (hbb _ _ _ (B3.setCell (p := ⟨w.heap.size + 1 + 1, 6, none⟩) (by show w.heap.size ≤ w.heap.size + 1 + 1; omega) _)))))))⟩
end Go.Proofs.YtncjghmjlcohjaaDoor
