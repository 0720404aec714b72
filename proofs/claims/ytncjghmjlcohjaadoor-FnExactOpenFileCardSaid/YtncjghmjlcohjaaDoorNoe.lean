/-
  Copies of slices of nodes, their equality. No condition.
-/
import Derived.Test.YtncjghmjlcohjaaDoorProg
import Derived.Test.YtncjghmjlcohjaaDoorNod
namespace Go.Proofs.YtncjghmjlcohjaaDoor
open Go.RowKit
set_option linter.unusedSimpArgs false
set_option linter.unusedVariables false

theorem row_add7 {w : World} {g m k : Nat} {vs : List Value} {t : Node} {S K : Value} (h : Row w g m (fun j => vs[j]?)) (hl : vs.length = k * 7) (hm : k * 7 + 7 ≤ m) : Row (((((((w.setCell ⟨g, k * 7, none⟩ (.bool t.dir)).setCell ⟨g, k * 7 + 1, none⟩ (.int .i64 t.owner)).setCell ⟨g, k * 7 + 2, none⟩ (.int .i64 t.group)).setCell ⟨g, k * 7 + 3, none⟩ (.int .i64 t.mode)).setCell ⟨g, k * 7 + 4, none⟩ (.string t.text)).setCell ⟨g, k * 7 + 5, none⟩ (S)).setCell ⟨g, k * 7 + 6, none⟩ (K)) g m (fun j => (vs ++ [.bool t.dir, .int .i64 t.owner, .int .i64 t.group, .int .i64 t.mode, .string t.text, S, K])[j]?) := by
  refine (((((((h.set (k * 7) _).set (k * 7 + 1) _).set (k * 7 + 2) _).set (k * 7 + 3) _).set (k * 7 + 4) _).set (k * 7 + 5) _).set (k * 7 + 6) _).mono fun j u hj => ?_
  rcases Nat.lt_or_ge j vs.length with hlt | hge
  · rw [List.getElem?_append_left hlt] at hj
    rw [if_neg (by omega), if_neg (by omega), if_neg (by omega), if_neg (by omega), if_neg (by omega), if_neg (by omega), if_neg (by omega)]
    exact hj
  · rw [List.getElem?_append_right hge] at hj
    have hj7 : j - vs.length < 7 := by have := (List.getElem?_eq_some_iff.1 hj).1; simpa using this
    obtain e | e | e | e | e | e | e : j = k * 7 ∨ j = k * 7 + 1 ∨ j = k * 7 + 2 ∨ j = k * 7 + 3 ∨ j = k * 7 + 4 ∨ j = k * 7 + 5 ∨ j = k * 7 + 6 := by omega
    · rw [show j - vs.length = 0 by omega] at hj
      rw [if_neg (by omega), if_neg (by omega), if_neg (by omega), if_neg (by omega), if_neg (by omega), if_neg (by omega), if_pos e, if_pos (by omega)]; exact hj
    · rw [show j - vs.length = 1 by omega] at hj
      rw [if_neg (by omega), if_neg (by omega), if_neg (by omega), if_neg (by omega), if_neg (by omega), if_pos e, if_pos (by omega)]; exact hj
    · rw [show j - vs.length = 2 by omega] at hj
      rw [if_neg (by omega), if_neg (by omega), if_neg (by omega), if_neg (by omega), if_pos e, if_pos (by omega)]; exact hj
    · rw [show j - vs.length = 3 by omega] at hj
      rw [if_neg (by omega), if_neg (by omega), if_neg (by omega), if_pos e, if_pos (by omega)]; exact hj
    · rw [show j - vs.length = 4 by omega] at hj
      rw [if_neg (by omega), if_neg (by omega), if_pos e, if_pos (by omega)]; exact hj
    · rw [show j - vs.length = 5 by omega] at hj
      rw [if_neg (by omega), if_pos e, if_pos (by omega)]; exact hj
    · rw [show j - vs.length = 6 by omega] at hj
      rw [if_pos e, if_pos (by omega)]; exact hj
/-- Slices of one's own that lie at B or later. -/
def OwS (w : World) (B : Nat) (S : Value) (l : List ByteArray) : Prop := ∃ g n, S = .slice (some ⟨g, 0, none⟩) n n ∧ B ≤ g ∧ l.length = n ∧ RdString w g 0 l
def OwK (w : World) (B : Nat) (S : Value) (l : List Int) : Prop := ∃ g n, S = .slice (some ⟨g, 0, none⟩) n n ∧ B ≤ g ∧ l.length = n ∧ RdInt w g 0 l
/-- The first k nodes were written. -/
def NodesOk (w : World) (B : Nat) (vs : List Value) (l : List Node) (k : Nat) : Prop :=
  ∀ (i : Nat) (t : Node), i < k → l[i]? = some t → ∃ S K, (∀ j, j < 7 → vs[i * 7 + j]? = ([.bool t.dir, .int .i64 t.owner, .int .i64 t.group, .int .i64 t.mode, .string t.text, S, K])[j]?) ∧ OwS w B S t.names ∧ OwK w B K t.kids
theorem NodesOk.below {w w' : World} {B k : Nat} {vs : List Value} {l : List Node} (h : NodesOk w B vs l k) (hb : Below w.heap.size w w') : NodesOk w' B vs l k := by
  intro i t hi ht
  obtain ⟨S, K, h1, ⟨g, n, e1, e2, e3, e4⟩, ⟨g', n', f1, f2, f3, f4⟩⟩ := h i t hi ht
  exact ⟨S, K, h1, ⟨g, n, e1, e2, e3, e4.below hb⟩, ⟨g', n', f1, f2, f3, f4.below hb⟩⟩
theorem NodesOk.far {w : World} {B k q o : Nat} {vs : List Value} {l : List Node} (h : NodesOk w B vs l k) (hq : q < B) (v : Value) : NodesOk (w.setCell ⟨q, o, none⟩ v) B vs l k := by
  intro i t hi ht
  obtain ⟨S, K, h1, ⟨g, n, e1, e2, e3, e4⟩, ⟨g', n', f1, f2, f3, f4⟩⟩ := h i t hi ht
  exact ⟨S, K, h1, ⟨g, n, e1, e2, e3, e4.far (p := ⟨q, o, none⟩) (by show g ≠ q; omega) v⟩, ⟨g', n', f1, f2, f3, f4.far (p := ⟨q, o, none⟩) (by show g' ≠ q; omega) v⟩⟩
theorem NodesOk.next {w : World} {B k : Nat} {vs : List Value} {l : List Node} {t : Node} {S K : Value} (h : NodesOk w B vs l k) (hl : vs.length = k * 7) (ht : l[k]? = some t) (hS : OwS w B S t.names) (hK : OwK w B K t.kids) : NodesOk w B (vs ++ [.bool t.dir, .int .i64 t.owner, .int .i64 t.group, .int .i64 t.mode, .string t.text, S, K]) l (k + 1) := by
  intro i t' hi ht'
  rcases Nat.lt_or_ge i k with hlt | hge
  · obtain ⟨S', K', h1, h2, h3⟩ := h i t' hlt ht'
    exact ⟨S', K', fun j hj => by rw [List.getElem?_append_left (by omega)]; exact h1 j hj, h2, h3⟩
  · obtain rfl : i = k := by omega
    obtain rfl := Option.some.inj (ht'.symm.trans ht)
    exact ⟨S, K, fun j hj => by rw [List.getElem?_append_right (by omega), show i * 7 + j - vs.length = j by omega], hS, hK⟩
theorem rdNode_of {w : World} {g n B : Nat} {vs : List Value} {l : List Node} (h : Row w g (n * 7) (fun j => vs[j]?)) (hl : l.length = n) (ho : NodesOk w B vs l n) : RdNode w g 0 l := by
  refine ⟨h.lt, fun k t ht => ?_⟩
  have hk : k < n := by rw [← hl]; exact (List.getElem?_eq_some_iff.1 ht).1
  obtain ⟨S, K, h1, ⟨a, x, e1, e2, e3, e4⟩, ⟨a', x', f1, f2, f3, f4⟩⟩ := ho k t hk ht
  have hc : ∀ j v, j < 7 → ([.bool t.dir, .int .i64 t.owner, .int .i64 t.group, .int .i64 t.mode, .string t.text, S, K])[j]? = some v → w.cell? ⟨g, 0 + k * 7 + j, none⟩ = some v := fun j v hj hv => by
    rw [Nat.zero_add]
    exact h.cell ((h1 j hj).trans hv)
  exact ⟨S, K, ⟨hc 0 _ (by omega) rfl, hc 1 _ (by omega) rfl, hc 2 _ (by omega) rfl, hc 3 _ (by omega) rfl, hc 4 _ (by omega) rfl, hc 5 _ (by omega) rfl, hc 6 _ (by omega) rfl⟩,
    ⟨some ⟨a, 0, none⟩, x, x, e1, Nat.le_refl _, e3, fun _ => ⟨a, 0, rfl, e4⟩⟩, ⟨some ⟨a', 0, none⟩, x', x', f1, Nat.le_refl _, f3, fun _ => ⟨a', 0, rfl, f4⟩⟩⟩
theorem infoNode : (Tryd.prog.info? 45).map (fun i => (i.zero, i.size, i.bytes)) = some (some (.agg #[.bool false, .int .i64 0, .int .i64 0, .int .i64 0, .string ByteArray.empty, .slice none 0 0, .slice none 0 0]), 7, 96) := by kernel_rfl
set_option maxHeartbeats 2000000 in
theorem toNodeS_c (A : Option Addr) (n c : Nat) (l : List Node) (w : World) (hA : InNode w A n l) (hn : n ≤ 1048576) (hz : ∀ t ∈ l, NodeS t) :
    Calls Tryd.prog 6 #[.slice A n c] w fun e w' => ∃ g, e = .returned (.slice (some ⟨g, 0, none⟩) n n) ∧ w.heap.size ≤ g ∧ RdNode w' g 0 l ∧ Below w.heap.size w w' := by
  obtain ⟨i0, hi0, hz0, hz1, hz2⟩ := info_parts infoNode
  have hmk := fun W => run_make_rowN (P := Tryd.prog) 30 45 i0 _ Tryd.underlying30 hi0 hz0 .i64 .i64 n n (Nat.le_refl _) (by rw [hz2]; omega) (by omega) W
  rw [hz1] at hmk
  have hA' := hide hA
  have HZ := hide hz
  clear hA hz
  go_enter Tryd.func6, Tryd.ntmps6
  go_wp2_with fail
  clear hmk
  generalize hW : w.alloc (.cells (madeCells #[.bool false, .int .i64 0, .int .i64 0, .int .i64 0, .string ByteArray.empty, .slice none 0 0, .slice none 0 0] (n * 7)) 45) = W
  have hr0 : Row W w.heap.size (n * 7) (fun j => ([] : List Value)[j]?) := by
    rw [← hW]
    have := Row.made w 45 (madeCells #[.bool false, .int .i64 0, .int .i64 0, .int .i64 0, .string ByteArray.empty, .slice none 0 0, .slice none 0 0] (n * 7)) (fun j => ([] : List Value)[j]?) (fun j u hj => by simp at hj)
    rwa [size_madeCells] at this
  have hb0 : Below w.heap.size w W := by rw [← hW]; exact below_alloc0 (Below.refl _ _) _
  clear hW
  go_loopw [4] (fun i wr => ∃ (k : Nat) (vs : List Value), k ≤ n ∧ i = .int .i64 k ∧ vs.length = k * 7 ∧ Hid (Row wr w.heap.size (n * 7) (fun j => vs[j]?)) ∧ Hid (NodesOk wr (w.heap.size + 1) vs l k) ∧ Hid (Below w.heap.size w wr)) (fun i _ => n - (intOf i).toNat)
  case atStart => exact ⟨0, [], by omega, rfl, rfl, hr0, fun i t hi => absurd hi (by omega), hb0⟩
  case round =>
    obtain ⟨k, vs, hk, rfl, hvl, hrow, hok, hbel⟩ := hrel
    by_cases hlt : k < n
    · obtain ⟨b, off, hA0, hR⟩ := hA'.out.2 (by omega)
      subst hA0
      obtain ⟨t, ht⟩ : ∃ t, l[k]? = some t := ⟨_, List.getElem?_eq_getElem (by have := hA'.out.1; omega)⟩
      obtain ⟨S, K, ⟨c0, c1, c2, c3, c4, c5, c6⟩, hS, hK⟩ := (hR.below hbel.out).2 k t ht
      have hlb := (hR.below hbel.out).1
      have HT := hide ht
      have HZt := hide (HZ.out t (List.mem_of_getElem? ht))
      have HSK := hide (And.intro hS hK)
      have hkk : (k : Int) < n := by omega
      have hgl := hrow.out.lt
      clear ht hR hS hK
      go_wp2_with fail
      refine (toNode_c t S K HZt.out _ HSK.out.1 HSK.out.2).mono ?_
      rintro e w1 ⟨g, h, n1, m1, rfl, hg, hh, hn1, hm1, hRs, hRk, hbx⟩
      have R1 := hide (hrow.out.below hbx hgl)
      have K1 := hide (hok.out.below hbx)
      have B1 := hide (below_via0 hbel.out hbx)
      have hg1 := R1.out.lt
      obtain ⟨x0, gs0⟩ := R1.out.some_ex (j := k * 7) (by omega)
      obtain ⟨x1, gs1⟩ := R1.out.some_ex (j := k * 7 + 1) (by omega)
      obtain ⟨x2, gs2⟩ := R1.out.some_ex (j := k * 7 + 2) (by omega)
      obtain ⟨x3, gs3⟩ := R1.out.some_ex (j := k * 7 + 3) (by omega)
      obtain ⟨x4, gs4⟩ := R1.out.some_ex (j := k * 7 + 4) (by omega)
      obtain ⟨x5, gs5⟩ := R1.out.some_ex (j := k * 7 + 5) (by omega)
      obtain ⟨x6, gs6⟩ := R1.out.some_ex (j := k * 7 + 6) (by omega)
      have gf0 := R1.out.frozen (k * 7)
      have gf1 := R1.out.frozen (k * 7 + 1)
      have gf2 := R1.out.frozen (k * 7 + 2)
      have gf3 := R1.out.frozen (k * 7 + 3)
      have gf4 := R1.out.frozen (k * 7 + 4)
      have gf5 := R1.out.frozen (k * 7 + 5)
      have gf6 := R1.out.frozen (k * 7 + 6)
      have HRS := hide (show OwS w1 (w.heap.size + 1) (.slice (some ⟨g, 0, none⟩) n1 n1) t.names from ⟨g, n1, rfl, by omega, hn1, hRs⟩)
      have HRK := hide (show OwK w1 (w.heap.size + 1) (.slice (some ⟨h, 0, none⟩) m1 m1) t.kids from ⟨h, m1, rfl, by omega, hm1, hRk⟩)
      clear hrow hok hbel hbx hRs hRk c0 c1 c2 c3 c4 c5 c6
      go_wp2_with fail
      refine ⟨⟨k + 1, vs ++ [.bool t.dir, .int .i64 t.owner, .int .i64 t.group, .int .i64 t.mode, .string t.text, .slice (some ⟨g, 0, none⟩) n1 n1, .slice (some ⟨h, 0, none⟩) m1 m1], by omega, by go_num, by simp [hvl]; omega, hide (row_add7 (t := t) R1.out hvl (by omega)), ?_, hide (((((((B1.out.setCell (p := ⟨w.heap.size, _, none⟩) (Nat.le_refl _) _).setCell (p := ⟨w.heap.size, _, none⟩) (Nat.le_refl _) _).setCell (p := ⟨w.heap.size, _, none⟩) (Nat.le_refl _) _).setCell (p := ⟨w.heap.size, _, none⟩) (Nat.le_refl _) _).setCell (p := ⟨w.heap.size, _, none⟩) (Nat.le_refl _) _).setCell (p := ⟨w.heap.size, _, none⟩) (Nat.le_refl _) _).setCell (p := ⟨w.heap.size, _, none⟩) (Nat.le_refl _) _)⟩, by simp [intOf] <;> omega⟩
      have hz : w.heap.size < w.heap.size + 1 := by omega
      exact hide (((((((((K1.out.next hvl HT.out HRS.out HRK.out).far hz _).far hz _).far hz _).far hz _).far hz _).far hz _).far hz _))
    · obtain rfl : k = n := by omega
      go_wp2_with fail
      go_ret
      exact ⟨w.heap.size, rfl, Nat.le_refl _, rdNode_of hrow.out hA'.out.1 hok.out, hbel.out⟩
set_option maxHeartbeats 1000000 in
theorem eqNode_c (t : Node) (S K S' K' : Value) (hz : NodeS t) (w : World) (hS : SlS w S t.names) (hK : SlK w K t.kids) (hS' : SlS w S' t.names) (hK' : SlK w K' t.kids) :
    Calls Tryd.prog 17 #[.agg #[.bool t.dir, .int .i64 t.owner, .int .i64 t.group, .int .i64 t.mode, .string t.text, S, K], .agg #[.bool t.dir, .int .i64 t.owner, .int .i64 t.group, .int .i64 t.mode, .string t.text, S', K']] w fun e w' => e = .returned (.bool true) ∧ Below w.heap.size w w' := by
  obtain ⟨A, n, c, rfl, _, hS⟩ := hS
  obtain ⟨A2, n2, c2, rfl, _, hK⟩ := hK
  obtain ⟨A3, n3, c3, rfl, _, hS'⟩ := hS'
  obtain ⟨A4, n4, c4, rfl, _, hK'⟩ := hK'
  obtain rfl : n = n3 := hS.1.symm.trans hS'.1
  obtain rfl : n2 = n4 := hK.1.symm.trans hK'.1
  have hn : n ≤ 1048576 := by have := hz.1; have := hS.1; omega
  have hn2 : n2 ≤ 1048576 := by have := hz.2; have := hK.1; omega
  have HS := hide (And.intro hS hS')
  have HK := hide (And.intro hK hK')
  clear hS hS' hK hK' hz
  have B0 : Below w.heap.size w ((w.alloc (.cells #[.bool t.dir, .int .i64 t.owner, .int .i64 t.group, .int .i64 t.mode, .string t.text, .slice A n c, .slice A2 n2 c2] 45)).alloc (.cells #[.bool t.dir, .int .i64 t.owner, .int .i64 t.group, .int .i64 t.mode, .string t.text, .slice A3 n c3, .slice A4 n2 c4] 45)) := below_alloc0 (below_alloc0 (Below.refl _ _) _) _
  cases hd : t.dir
  all_goals
    rw [hd] at B0
    go_enter Tryd.func17, Tryd.ntmps17
    go_wp2_with fail
    refine (eqString_c A A3 n c c3 t.names hn _ (HS.out.1.below B0) (HS.out.2.below B0)).mono ?_
    rintro e w1 ⟨rfl, hb1⟩
    have V0 := live hb1 w.heap.size (by simp; omega)
    have V1 := live hb1 (w.heap.size + 1) (by simp)
    have B1 := below_via0 B0 hb1
    have HK1 := hide (And.intro (HK.out.1.below B1) (HK.out.2.below B1))
    have HB := hide B1
    clear B1 hb1
    go_wp2_with fail
    refine (eqInt_c A2 A4 n2 c2 c4 t.kids hn2 _ HK1.out.1 HK1.out.2).mono ?_
    rintro e w2 ⟨rfl, hb2⟩
    have B2 := hide (below_via0 HB.out hb2)
    go_wp2_with fail
    go_ret
    exact ⟨rfl, B2.out⟩
set_option maxHeartbeats 1000000 in
theorem eqNodeS_c (A A' : Option Addr) (n c c' : Nat) (l : List Node) (hn : n ≤ 1048576) (hz : ∀ t ∈ l, NodeS t) (w : World) (h : InNode w A n l) (h' : InNode w A' n l) :
    Calls Tryd.prog 10 #[.slice A n c, .slice A' n c'] w fun e w' => e = .returned (.bool true) ∧ Below w.heap.size w w' := by
  have HI := hide h
  have HI' := hide h'
  have HZ := hide hz
  clear h h' hz
  go_enter Tryd.func10, Tryd.ntmps10
  go_wp2_with fail
  go_loopw [5] (fun i wr => ∃ k : Nat, k ≤ n ∧ i = .int .i64 k ∧ Hid (Below w.heap.size w wr)) (fun i _ => n - (intOf i).toNat)
  case atStart => exact ⟨0, by omega, rfl, Below.refl _ _⟩
  case round =>
    obtain ⟨k, hk, rfl, hbel⟩ := hrel
    by_cases hlt : k < n
    · obtain ⟨b, off, hA0, hR⟩ := HI.out.2 (by omega)
      obtain ⟨b', off', hA1, hR'⟩ := HI'.out.2 (by omega)
      subst hA0 hA1
      obtain ⟨t, ht⟩ : ∃ t, l[k]? = some t := ⟨_, List.getElem?_eq_getElem (by have := HI.out.1; omega)⟩
      obtain ⟨S, K, ⟨c0, c1, c2, c3, c4, c5, c6⟩, hS, hK⟩ := (hR.below hbel.out).2 k t ht
      obtain ⟨S', K', ⟨d0, d1, d2, d3, d4, d5, d6⟩, hS', hK'⟩ := (hR'.below hbel.out).2 k t ht
      have hb1 := (hR.below hbel.out).1
      have hb2 := (hR'.below hbel.out).1
      have HZt := hide (HZ.out t (List.mem_of_getElem? ht))
      have HSK := hide (And.intro (And.intro hS hK) (And.intro hS' hK'))
      clear ht hR hR' hS hK hS' hK'
      go_wp2_with fail
      go_region_held3 (fun w' => Below wr.heap.size wr w' ∧ b < w'.heap.size ∧ b' < w'.heap.size ∧ w'.cell? ⟨b, off + k * 7, none⟩ = some (.bool t.dir) ∧ w'.cell? ⟨b, off + k * 7 + 1, none⟩ = some (.int .i64 t.owner) ∧ w'.cell? ⟨b, off + k * 7 + 2, none⟩ = some (.int .i64 t.group) ∧ w'.cell? ⟨b, off + k * 7 + 3, none⟩ = some (.int .i64 t.mode) ∧ w'.cell? ⟨b, off + k * 7 + 4, none⟩ = some (.string t.text) ∧ w'.cell? ⟨b, off + k * 7 + 5, none⟩ = some (S) ∧ w'.cell? ⟨b, off + k * 7 + 6, none⟩ = some (K) ∧ w'.cell? ⟨b', off' + k * 7, none⟩ = some (.bool t.dir) ∧ w'.cell? ⟨b', off' + k * 7 + 1, none⟩ = some (.int .i64 t.owner) ∧ w'.cell? ⟨b', off' + k * 7 + 2, none⟩ = some (.int .i64 t.group) ∧ w'.cell? ⟨b', off' + k * 7 + 3, none⟩ = some (.int .i64 t.mode) ∧ w'.cell? ⟨b', off' + k * 7 + 4, none⟩ = some (.string t.text) ∧ w'.cell? ⟨b', off' + k * 7 + 5, none⟩ = some (S') ∧ w'.cell? ⟨b', off' + k * 7 + 6, none⟩ = some (K'))
        (first | (have L1 := live hb1 b (by omega); have L2 := live hb1 b' (by omega); refine ⟨(by repeat' (first | exact Below.refl _ _ | assumption | exact And.left (by assumption) | omega | (simp; done) | (simp; omega) | (simp at *; omega) | (refine Below.setCell ?_ ?_ _) | (refine below_alloc0 ?_ _) | (refine Below.drew ?_) | (refine below_drewN ?_ _) | (refine below_via0 ?_ (by assumption)) | (refine Below.alloc ?_ ?_ _) | (refine below_via ?_ (by assumption) ?_))), ?_⟩; simp [*]; done) | (refine ⟨(by repeat' (first | exact Below.refl _ _ | assumption | exact And.left (by assumption) | omega | (simp; done) | (simp; omega) | (simp at *; omega) | (refine Below.setCell ?_ ?_ _) | (refine below_alloc0 ?_ _) | (refine Below.drew ?_) | (refine below_drewN ?_ _) | (refine below_via0 ?_ (by assumption)) | (refine Below.alloc ?_ ?_ _) | (refine below_via ?_ (by assumption) ?_))), ?_⟩; simp [go_sem]; done) | (refine ⟨(by repeat' (first | exact Below.refl _ _ | assumption | exact And.left (by assumption) | omega | (simp; done) | (simp; omega) | (simp at *; omega) | (refine Below.setCell ?_ ?_ _) | (refine below_alloc0 ?_ _) | (refine Below.drew ?_) | (refine below_drewN ?_ _) | (refine below_via0 ?_ (by assumption)) | (refine Below.alloc ?_ ?_ _) | (refine below_via ?_ (by assumption) ?_))), ?_⟩; simp [go_sem, *]; done) | assumption | go_keep)
        (first | (go_at_call 17; refine (eqNode_c t S K S' K' HZt.out _ (HSK.out.1.1.below (And.left (by assumption))) (HSK.out.1.2.below (And.left (by assumption))) (HSK.out.2.1.below (And.left (by assumption))) (HSK.out.2.2.below (And.left (by assumption)))).mono ?_; rintro e w1 ⟨rfl, hb1⟩))
      have bel1 : Below wr.heap.size wr w1 := And.left (by assumption)
      have bel2 := hide (below_via0 hbel.out bel1)
      go_wp2
      exact ⟨⟨k + 1, by omega, by go_num, bel2⟩, by simp [intOf] <;> omega⟩
    · obtain rfl : k = n := by omega
      go_wp2
      go_ret
      exact ⟨rfl, hbel.out⟩
end Go.Proofs.YtncjghmjlcohjaaDoor
