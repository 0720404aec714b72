/-
  What is drawn: lists of processes. No condition.
-/
import Derived.Test.YtlfchcjollcdhaaProg
import Derived.Test.YtlfchcjollcdhaaPrl
import Derived.Test.YtlfchcjollcdhaaCred0
import Derived.Test.YtlfchcjollcdhaaFlowT
import Derived.Test.YtlfchcjollcdhaaPrs
namespace Go.Proofs.Ytlfchcjollcdhaa
open Go.RowKit
set_option linter.unusedSimpArgs false
set_option linter.unusedVariables false

theorem OwnSP.aside {w w' : World} {B n c r : Nat} {A : Option Addr} {l : List Pcs} (h : OwnSP w B n c A l) (ha : Aside r w w') (hr : r < B) : OwnSP w' B n c A l := by
  rcases h with h | ⟨g, m, rfl, h2, h3, h4, h5, h6, h7⟩
  · exact .inl h
  · exact .inr ⟨g, m, rfl, h2, h3, h4, h5, ha.row (by omega) h6, h7.keep (ha.2 g h7.lt (by omega))⟩
/-- How far the drawing of a list has come. -/
def PdS (w0 : World) (B r k : Nat) (A : Option Addr) (n c : Nat) (l : List Pcs) (w : World) : Prop :=
  St w0 B r k w ∧ OwnSP w w0.heap.size n c A l ∧ l.length = n
section
variable {w0 w w' : World} {B r k n c : Nat} {A : Option Addr} {l : List Pcs}
theorem PdS.aside {k' : Nat} (h : PdS w0 B r k A n c l w) (hs : St w0 B r k' w') (ha : Aside r w w') : PdS w0 B r k' A n c l w' := by
  obtain ⟨h1, h2, h3⟩ := h
  obtain ⟨z1, z2, _⟩ := h1.size
  exact ⟨hs, h2.aside ha (by omega), h3⟩
theorem PdS.below (h : PdS w0 B r k A n c l w) (hb : Below w.heap.size w w') : PdS w0 B r k A n c l w' := by
  obtain ⟨h1, h2, h3⟩ := h
  exact ⟨h1.below (h1.2.1.trans (Aside.of_below hb)) (hb.mono h1.1.2.1), h2.below hb, h3⟩
theorem PdS.alloc (h : PdS w0 B r k A n c l w) (o : Obj) : PdS w0 B r k A n c l (w.alloc o) := h.below (below_alloc0 (Below.refl _ _) o)
theorem PdS.mono {k' : Nat} (h : PdS w0 B r k A n c l w) (hk : k ≤ k') : PdS w0 B r k' A n c l w := ⟨h.1.mono hk, h.2⟩
theorem PdS.newl {A' : Option Addr} {n' c' : Nat} {l' : List Pcs} (h : PdS w0 B r k A n c l w) (hb : Below w.heap.size w w') (ho : OwnSP w' w.heap.size n' c' A' l') (hl : l'.length = n') : PdS w0 B r k A' n' c' l' w' :=
  ⟨(h.below hb).1, ho.mono h.1.size.2.2, hl⟩
end
def DrewProcs (w0 : World) (B r k : Nat) (w : World) (e : Ending) (w' : World) : Prop :=
  ∃ (A : Option Addr) (n c : Nat) (l : List Pcs), e = .returned (.slice A n c) ∧ n ≤ 12 ∧ PdS w0 B r k A n c l w' ∧ Aside r w w'
theorem flatP_cell1 {l : List Pcs} {j : Nat} {u : Value} (h : cellProcess l j = some u) : (flatP l)[j]? = some u := (flatP_get l j).trans h
theorem flatP_newL (w : World) (T : TypeId) (l : List Pcs) (C : Array Value) (hC : C = (flatP l).toArray) (j : Nat) (u : Value) (hj : (flatP l)[j]? = some u) : (w.alloc (.cells C T)).cell? ((⟨w.heap.size, 0, none⟩ : Addr).add j) = some u := by
  have : ((⟨w.heap.size, 0, none⟩ : Addr).add j) = ⟨w.heap.size, j, none⟩ := by
    unfold Addr.add
    split
    · rename_i h; rw [h]
    · simp
  rw [this]
  refine (Row.made w T C (fun j => C[j]?) (fun _ _ h => h)).cell ?_
  subst hC
  simpa using hj
set_option maxHeartbeats 4000000 in
theorem drawProcs_c (B r k : Nat) (n : Int) (w : World) (hn : 1 ≤ n) (hn2 : n ≤ 1000000) (hk : k ≤ 80000) (h : Rdr w B r k) :
    Calls Try.prog 38 #[.pointer (some ⟨r, 0, none⟩), .int .i64 n] w fun e w' => DrewProcs w B r (k + 100) w e w' := by
  have hs := St.start h
  obtain ⟨z1, z2, _⟩ := hs.size
  obtain ⟨i0, hi0, hz0, hz1, hz2⟩ := info_parts infoProcess
  have HI := hide hi0
  have HZ0 := hide hz0
  have HZ1 := hide hz1
  have HZ2 := hide hz2
  clear hi0 hz0 hz1 hz2
  go_enter Try.func38, Try.ntmps38
  go_wp2_with fail
  refine (drawCred0_c B r k _ (by omega) h).mono ?_
  rintro e w1 ⟨x, a, s, g, rfl, hcr, hs1, ha1⟩
  have y1 := hs1.size.2.2
  have V1 := hide (PV.cred hcr)
  have L1 : PdS w B r (k + 20) (some ⟨w1.heap.size, 0, none⟩) 1 1 [⟨1, 0, x, a, s, g, false, 0⟩] (w1.alloc (.cells #[.int .i64 1, .int .i64 0, .int .i64 x, .int .i64 a, .int .i64 s, .int .i64 g, .bool false, .int .i64 0] 39)) :=
    ⟨hs1.alloc _, .inr ⟨w1.heap.size, 8, rfl, y1, Nat.le_refl _, by decide, rfl, (Row.made w1 39 #[.int .i64 1, .int .i64 0, .int .i64 x, .int .i64 a, .int .i64 s, .int .i64 g, .bool false, .int .i64 0] _ (fun j u h => by
      simp only [doneProcess] at h
      split at h
      · simpa [flatP] using flatP_cell1 h
      · cases h)), ⟨_, Below.heap_alloc_self w1 _⟩⟩, rfl⟩
  have L1h := hide L1
  clear L1 hs1 ha1 hs hcr h
  go_wp2_with fail
  refine (pick_s w B r (k + 20) 9 _ (by omega) (by omega) (by omega) L1h.out.1).mono ?_
  rintro e w2 ⟨z, rfl, zz0, zz1, hs2, ha2⟩
  have L2 := hide (L1h.out.aside hs2 ha2)
  clear L1h hs2 ha2
  go_wp2_with fail
  go_loopw [5, 6] (fun sv kv wr => ∃ (q : Nat) (A : Option Addr) (nl cl : Nat) (l : List Pcs), q ≤ 8 ∧ kv = .int .i64 q ∧ sv = .slice A nl cl ∧ Hid (PV l) ∧ Hid (PdS w B r (k + 60 - 4 * q) A nl cl l wr)) (fun _ kv _ => (intOf kv).toNat)
  case atStart =>
    obtain ⟨z, rfl⟩ := Int.eq_ofNat_of_zero_le zz0
    exact ⟨z, _, 1, 1, _, by omega, rfl, rfl, V1, L2.out.mono (by omega)⟩
  case round =>
    obtain ⟨q, A, nl, cl, l, hq, rfl, rfl, hV, hL⟩ := hrel
    have hl10 : 1 ≤ nl ∧ nl ≤ 10 := by have := hV.out.2.1; have := hV.out.2.2.1; have := hL.out.2.2; omega
    by_cases hlt : 0 < q
    · obtain ⟨q, rfl⟩ : ∃ p, q = p + 1 := ⟨q - 1, by omega⟩
      have hlt' : (0 : Int) < (q : Int) + 1 := by omega
      have hS0 := hL.out.1
      go_wp2_with fail
      refine (pick_s w B r _ (nl : Int) _ (by omega) (by omega) ?_ hS0).mono ?_
      · omega
      rintro e w4 ⟨u, rfl, u0, u1, hs4, ha4⟩
      have L4 := hide (hL.out.aside hs4 ha4)
      clear hs4 ha4 hS0
      obtain ⟨u, rfl⟩ := Int.eq_ofNat_of_zero_le u0
      have hu : u < nl := by omega
      obtain ⟨t, ht⟩ : ∃ t, l[u]? = some t := ⟨_, List.getElem?_eq_getElem (by have := L4.out.2.2; omega)⟩
      obtain ⟨b, off, hA, hR⟩ := (L4.out.2.1.ins L4.out.2.2).2 (by omega)
      subst hA
      obtain ⟨c0, _⟩ := hR.2 u t ht
      have hbl := hR.1
      have hS0 := L4.out.1
      clear hR ht
      go_wp2_with fail
      refine (pick_s w B r _ 4 _ (by omega) (by omega) ?_ hS0).mono ?_
      · omega
      rintro e w5 ⟨y, rfl, yy0, yy1, hs5, ha5⟩
      have L5 := hide (L4.out.aside hs5 ha5)
      clear hs5 ha5 hS0 L4
      by_cases hy0 : y = 0
      · subst hy0
        have hS0 := L5.out.1
        go_wp2_with fail
        refine (pick_s w B r _ 256 _ (by omega) (by omega) ?_ hS0).mono ?_
        · omega
        rintro e w6 ⟨v, rfl, v0, v1, hs6, ha6⟩
        have L6 := hide (L5.out.aside hs6 ha6)
        clear hs6 ha6 hS0 L5
        go_wp2_with fail
        refine (endSpec_c _ _ _ l t.number v (by omega) _ (L6.out.2.1.ins L6.out.2.2)).mono ?_
        rintro e w7 ⟨A', n', c', rfl, hl', ho', hb'⟩
        have L7 := hide (L6.out.newl hb' ho' hl')
        have V7 := hide (hV.out.endl t.number v)
        clear hl' ho' hb' L6
        go_wp2_with fail
        exact ⟨⟨q, A', n', c', _, by omega, by go_num, rfl, V7, L7.out.mono (by omega)⟩, by simp [intOf] <;> omega⟩
      have hy0' : (y == 0) = false := by simpa using hy0
      by_cases hy1 : y = 1
      · subst hy1
        go_wp2_with fail
        refine (waitSpec_c _ _ _ l t.number (by omega) L5.out.2.1.cap.1 _ (L5.out.2.1.ins L5.out.2.2)).mono ?_
        rintro e w7 ⟨A', n', c', rfl, hl', ho', hb'⟩
        have L7 := hide (L5.out.newl hb' ho' hl')
        have V7 := hide (hV.out.wait t.number)
        clear hl' ho' hb' L5
        go_wp2_with fail
        exact ⟨⟨q, A', n', c', _, by omega, by go_num, rfl, V7, L7.out.mono (by omega)⟩, by simp [intOf] <;> omega⟩
      have hy1' : (y == 1) = false := by simpa using hy1
      clear hy0 hy1
      go_wp2_with fail
      refine (forkSpec_c _ _ _ l t.number (by omega) _ (L5.out.2.1.ins L5.out.2.2)).mono ?_
      rintro e w7 ⟨A', n', c', rfl, hl', ho', hb'⟩
      have L7 := hide (L5.out.newl hb' ho' hl')
      have V7 := hide (hV.out.fork t.number)
      clear hl' ho' hb' L5
      go_wp2_with fail
      exact ⟨⟨q, A', n', c', _, by omega, by go_num, rfl, V7, L7.out.mono (by omega)⟩, by simp [intOf] <;> omega⟩
    · obtain rfl : q = 0 := by omega
      have hS0 := hL.out.1
      go_wp2_with fail
      refine (odd_s w B r _ n _ hn (by omega) ?_ hS0).mono ?_
      · omega
      rintro e w4 ⟨o, rfl, hs4, ha4⟩
      have L4 := hide (hL.out.aside hs4 ha4)
      clear hs4 ha4 hS0
      cases o with
      | false =>
        go_wp2_with fail
        go_ret
        exact ⟨A, nl, cl, l, rfl, by omega, L4.out.mono (by omega), L4.out.1.2.1⟩
      | true =>
        have hS0 := L4.out.1
        go_wp2_with fail
        refine (pick_s w B r _ 4 _ (by omega) (by omega) ?_ hS0).mono ?_
        · omega
        rintro e w5 ⟨y, rfl, yy0, yy1, hs5, ha5⟩
        have L5 := hide (L4.out.aside hs5 ha5)
        clear hs5 ha5 hS0 L4
        by_cases hy0 : y = 0
        · subst hy0
          have OW := hide ((L5.out.2.1.own L5.out.2.2).alloc (.cells #[.int .i64 98, .int .i64 1, .int .i64 0, .int .i64 0, .int .i64 0, .int .i64 0, .bool true, .int .i64 0, .int .i64 99, .int .i64 98, .int .i64 0, .int .i64 0, .int .i64 0, .int .i64 0, .bool false, .int .i64 0] 39))
          have H5 := hide (L5.out.1.size)
          go_wp2_with (at_builtin; refine wpList_append_own _ rfl _ _ 25 rfl w.heap.size 39 i0 _ 8 64 Try.underlying25 HI.out HZ0.out HZ1.out HZ2.out rfl (by decide) _ _ _ rfl OW.out ⟨w5.heap.size, 0, none⟩ 2 2 (flatP [⟨98, 1, 0, 0, 0, 0, true, 0⟩, ⟨99, 98, 0, 0, 0, 0, false, 0⟩]) rfl rfl ?qa0 (flatP_one _) ?qb0 ?qd0 ?qe0 ?_)
          case qa0 => exact flatP_newL w5 _ [⟨98, 1, 0, 0, 0, 0, true, 0⟩, ⟨99, 98, 0, 0, 0, 0, false, 0⟩] _ rfl
          case qb0 => unfold maxLen; omega
          case qd0 => omega
          case qe0 => simp; have := H5.out; omega
          intro v' w6 hown hgrow hnil
          rw [← flatP_app] at hown
          obtain ⟨A6, c6, rfl, ho6⟩ := ownSP_of hown (by simp [L5.out.2.2])
          have S6 := (L5.out.1.alloc (.cells #[.int .i64 98, .int .i64 1, .int .i64 0, .int .i64 0, .int .i64 0, .int .i64 0, .bool true, .int .i64 0, .int .i64 99, .int .i64 98, .int .i64 0, .int .i64 0, .int .i64 0, .int .i64 0, .bool false, .int .i64 0] 39)).grown hgrow (fun q hq => (OW.out.lt q hq).1)
          have O6 := hide ho6
          have hlen := L5.out.2.2
          clear hown hgrow hnil ho6
          go_wp2_with fail
          go_ret
          exact ⟨A6, nl + 2, c6, _, rfl, by omega, ⟨S6.mono (by omega), O6.out, by simp [hlen]⟩, S6.2.1⟩
        have hy0' : (y == 0) = false := by simpa using hy0
        clear hy0
        have hS0 := (L5.out.alloc (.cells #[.int .i64 1, .int .i64 0, .int .i64 0, .int .i64 0, .int .i64 0, .int .i64 0, .bool false, .int .i64 0, .int .i64 100, .int .i64 1, .int .i64 0, .int .i64 0, .int .i64 0, .int .i64 0, .bool false, .int .i64 0, .int .i64 99, .int .i64 97, .int .i64 0, .int .i64 0, .int .i64 0, .int .i64 0, .bool false, .int .i64 0, .int .i64 99, .int .i64 1, .int .i64 0, .int .i64 0, .int .i64 0, .int .i64 0, .bool false, .int .i64 5, .int .i64 99, .int .i64 1, .int .i64 (-1), .int .i64 0, .int .i64 0, .int .i64 0, .bool false, .int .i64 0] 39)).1
        go_wp2_with fail
        refine (pick_s w B r _ 5 _ (by omega) (by omega) ?_ hS0).mono ?_
        · omega
        rintro e w6 ⟨y, rfl, yy0, yy1, hs6, ha6⟩
        have L6 := hide ((L5.out.alloc (.cells #[.int .i64 1, .int .i64 0, .int .i64 0, .int .i64 0, .int .i64 0, .int .i64 0, .bool false, .int .i64 0, .int .i64 100, .int .i64 1, .int .i64 0, .int .i64 0, .int .i64 0, .int .i64 0, .bool false, .int .i64 0, .int .i64 99, .int .i64 97, .int .i64 0, .int .i64 0, .int .i64 0, .int .i64 0, .bool false, .int .i64 0, .int .i64 99, .int .i64 1, .int .i64 0, .int .i64 0, .int .i64 0, .int .i64 0, .bool false, .int .i64 5, .int .i64 99, .int .i64 1, .int .i64 (-1), .int .i64 0, .int .i64 0, .int .i64 0, .bool false, .int .i64 0] 39)).aside hs6 ha6)
        have H5 := hide (L5.out.1.size)
        have y5 := L5.out.1.size
        have G6 := ha6.row (b := w5.heap.size) (by omega) (Row.madeL w5 39 [.int .i64 1, .int .i64 0, .int .i64 0, .int .i64 0, .int .i64 0, .int .i64 0, .bool false, .int .i64 0, .int .i64 100, .int .i64 1, .int .i64 0, .int .i64 0, .int .i64 0, .int .i64 0, .bool false, .int .i64 0, .int .i64 99, .int .i64 97, .int .i64 0, .int .i64 0, .int .i64 0, .int .i64 0, .bool false, .int .i64 0, .int .i64 99, .int .i64 1, .int .i64 0, .int .i64 0, .int .i64 0, .int .i64 0, .bool false, .int .i64 5, .int .i64 99, .int .i64 1, .int .i64 (-1), .int .i64 0, .int .i64 0, .int .i64 0, .bool false, .int .i64 0])
        have g6 := G6.lt
        clear hs6 ha6 hS0 L5
        obtain rfl | rfl | rfl | rfl | rfl : y = 0 ∨ y = 1 ∨ y = 2 ∨ y = 3 ∨ y = 4 := by omega
        · have c0 := G6.cell (j := 0) rfl
          have c1 := G6.cell (j := 1) rfl
          have c2 := G6.cell (j := 2) rfl
          have c3 := G6.cell (j := 3) rfl
          have c4 := G6.cell (j := 4) rfl
          have c5 := G6.cell (j := 5) rfl
          have c6 := G6.cell (j := 6) rfl
          have c7 := G6.cell (j := 7) rfl
          have OW := hide ((L6.out.2.1.own L6.out.2.2).alloc (.cells #[.int .i64 1, .int .i64 0, .int .i64 0, .int .i64 0, .int .i64 0, .int .i64 0, .bool false, .int .i64 0] 39))
          clear G6
          go_wp2_with (at_builtin; refine wpList_append_own _ rfl _ _ 25 rfl w.heap.size 39 i0 _ 8 64 Try.underlying25 HI.out HZ0.out HZ1.out HZ2.out rfl (by decide) _ _ _ rfl OW.out ⟨w6.heap.size, 0, none⟩ 1 1 (flatP [⟨1, 0, 0, 0, 0, 0, false, 0⟩]) rfl rfl ?qa0 (flatP_one _) ?qb0 ?qd0 ?qe0 ?_)
          case qa0 => exact flatP_newL w6 _ [⟨1, 0, 0, 0, 0, 0, false, 0⟩] _ rfl
          case qb0 => unfold maxLen; omega
          case qd0 => omega
          case qe0 => simp; have := L6.out.1.size; omega
          intro v' w7 hown hgrow hnil
          rw [← flatP_app] at hown
          obtain ⟨A7, c7, rfl, ho7⟩ := ownSP_of hown (by simp [L6.out.2.2])
          have S7 := (L6.out.1.alloc (.cells #[.int .i64 1, .int .i64 0, .int .i64 0, .int .i64 0, .int .i64 0, .int .i64 0, .bool false, .int .i64 0] 39)).grown hgrow (fun q hq => (OW.out.lt q hq).1)
          have O7 := hide ho7
          have hlen := L6.out.2.2
          clear hown hgrow hnil ho7
          go_wp2_with fail
          go_ret
          exact ⟨A7, nl + 1, c7, _, rfl, by omega, ⟨S7.mono (by omega), O7.out, by simp [hlen]⟩, S7.2.1⟩
        · have c0 := G6.cell (j := 8) rfl
          have c1 := G6.cell (j := 9) rfl
          have c2 := G6.cell (j := 10) rfl
          have c3 := G6.cell (j := 11) rfl
          have c4 := G6.cell (j := 12) rfl
          have c5 := G6.cell (j := 13) rfl
          have c6 := G6.cell (j := 14) rfl
          have c7 := G6.cell (j := 15) rfl
          have OW := hide ((L6.out.2.1.own L6.out.2.2).alloc (.cells #[.int .i64 100, .int .i64 1, .int .i64 0, .int .i64 0, .int .i64 0, .int .i64 0, .bool false, .int .i64 0] 39))
          clear G6
          go_wp2_with (at_builtin; refine wpList_append_own _ rfl _ _ 25 rfl w.heap.size 39 i0 _ 8 64 Try.underlying25 HI.out HZ0.out HZ1.out HZ2.out rfl (by decide) _ _ _ rfl OW.out ⟨w6.heap.size, 0, none⟩ 1 1 (flatP [⟨100, 1, 0, 0, 0, 0, false, 0⟩]) rfl rfl ?qa0 (flatP_one _) ?qb0 ?qd0 ?qe0 ?_)
          case qa0 => exact flatP_newL w6 _ [⟨100, 1, 0, 0, 0, 0, false, 0⟩] _ rfl
          case qb0 => unfold maxLen; omega
          case qd0 => omega
          case qe0 => simp; have := L6.out.1.size; omega
          intro v' w7 hown hgrow hnil
          rw [← flatP_app] at hown
          obtain ⟨A7, c7, rfl, ho7⟩ := ownSP_of hown (by simp [L6.out.2.2])
          have S7 := (L6.out.1.alloc (.cells #[.int .i64 100, .int .i64 1, .int .i64 0, .int .i64 0, .int .i64 0, .int .i64 0, .bool false, .int .i64 0] 39)).grown hgrow (fun q hq => (OW.out.lt q hq).1)
          have O7 := hide ho7
          have hlen := L6.out.2.2
          clear hown hgrow hnil ho7
          go_wp2_with fail
          go_ret
          exact ⟨A7, nl + 1, c7, _, rfl, by omega, ⟨S7.mono (by omega), O7.out, by simp [hlen]⟩, S7.2.1⟩
        · have c0 := G6.cell (j := 16) rfl
          have c1 := G6.cell (j := 17) rfl
          have c2 := G6.cell (j := 18) rfl
          have c3 := G6.cell (j := 19) rfl
          have c4 := G6.cell (j := 20) rfl
          have c5 := G6.cell (j := 21) rfl
          have c6 := G6.cell (j := 22) rfl
          have c7 := G6.cell (j := 23) rfl
          have OW := hide ((L6.out.2.1.own L6.out.2.2).alloc (.cells #[.int .i64 99, .int .i64 97, .int .i64 0, .int .i64 0, .int .i64 0, .int .i64 0, .bool false, .int .i64 0] 39))
          clear G6
          go_wp2_with (at_builtin; refine wpList_append_own _ rfl _ _ 25 rfl w.heap.size 39 i0 _ 8 64 Try.underlying25 HI.out HZ0.out HZ1.out HZ2.out rfl (by decide) _ _ _ rfl OW.out ⟨w6.heap.size, 0, none⟩ 1 1 (flatP [⟨99, 97, 0, 0, 0, 0, false, 0⟩]) rfl rfl ?qa0 (flatP_one _) ?qb0 ?qd0 ?qe0 ?_)
          case qa0 => exact flatP_newL w6 _ [⟨99, 97, 0, 0, 0, 0, false, 0⟩] _ rfl
          case qb0 => unfold maxLen; omega
          case qd0 => omega
          case qe0 => simp; have := L6.out.1.size; omega
          intro v' w7 hown hgrow hnil
          rw [← flatP_app] at hown
          obtain ⟨A7, c7, rfl, ho7⟩ := ownSP_of hown (by simp [L6.out.2.2])
          have S7 := (L6.out.1.alloc (.cells #[.int .i64 99, .int .i64 97, .int .i64 0, .int .i64 0, .int .i64 0, .int .i64 0, .bool false, .int .i64 0] 39)).grown hgrow (fun q hq => (OW.out.lt q hq).1)
          have O7 := hide ho7
          have hlen := L6.out.2.2
          clear hown hgrow hnil ho7
          go_wp2_with fail
          go_ret
          exact ⟨A7, nl + 1, c7, _, rfl, by omega, ⟨S7.mono (by omega), O7.out, by simp [hlen]⟩, S7.2.1⟩
        · have c0 := G6.cell (j := 24) rfl
          have c1 := G6.cell (j := 25) rfl
          have c2 := G6.cell (j := 26) rfl
          have c3 := G6.cell (j := 27) rfl
          have c4 := G6.cell (j := 28) rfl
          have c5 := G6.cell (j := 29) rfl
          have c6 := G6.cell (j := 30) rfl
          have c7 := G6.cell (j := 31) rfl
          have OW := hide ((L6.out.2.1.own L6.out.2.2).alloc (.cells #[.int .i64 99, .int .i64 1, .int .i64 0, .int .i64 0, .int .i64 0, .int .i64 0, .bool false, .int .i64 5] 39))
          clear G6
          go_wp2_with (at_builtin; refine wpList_append_own _ rfl _ _ 25 rfl w.heap.size 39 i0 _ 8 64 Try.underlying25 HI.out HZ0.out HZ1.out HZ2.out rfl (by decide) _ _ _ rfl OW.out ⟨w6.heap.size, 0, none⟩ 1 1 (flatP [⟨99, 1, 0, 0, 0, 0, false, 5⟩]) rfl rfl ?qa0 (flatP_one _) ?qb0 ?qd0 ?qe0 ?_)
          case qa0 => exact flatP_newL w6 _ [⟨99, 1, 0, 0, 0, 0, false, 5⟩] _ rfl
          case qb0 => unfold maxLen; omega
          case qd0 => omega
          case qe0 => simp; have := L6.out.1.size; omega
          intro v' w7 hown hgrow hnil
          rw [← flatP_app] at hown
          obtain ⟨A7, c7, rfl, ho7⟩ := ownSP_of hown (by simp [L6.out.2.2])
          have S7 := (L6.out.1.alloc (.cells #[.int .i64 99, .int .i64 1, .int .i64 0, .int .i64 0, .int .i64 0, .int .i64 0, .bool false, .int .i64 5] 39)).grown hgrow (fun q hq => (OW.out.lt q hq).1)
          have O7 := hide ho7
          have hlen := L6.out.2.2
          clear hown hgrow hnil ho7
          go_wp2_with fail
          go_ret
          exact ⟨A7, nl + 1, c7, _, rfl, by omega, ⟨S7.mono (by omega), O7.out, by simp [hlen]⟩, S7.2.1⟩
        · have c0 := G6.cell (j := 32) rfl
          have c1 := G6.cell (j := 33) rfl
          have c2 := G6.cell (j := 34) rfl
          have c3 := G6.cell (j := 35) rfl
          have c4 := G6.cell (j := 36) rfl
          have c5 := G6.cell (j := 37) rfl
          have c6 := G6.cell (j := 38) rfl
          have c7 := G6.cell (j := 39) rfl
          have OW := hide ((L6.out.2.1.own L6.out.2.2).alloc (.cells #[.int .i64 99, .int .i64 1, .int .i64 (-1), .int .i64 0, .int .i64 0, .int .i64 0, .bool false, .int .i64 0] 39))
          clear G6
          go_wp2_with (at_builtin; refine wpList_append_own _ rfl _ _ 25 rfl w.heap.size 39 i0 _ 8 64 Try.underlying25 HI.out HZ0.out HZ1.out HZ2.out rfl (by decide) _ _ _ rfl OW.out ⟨w6.heap.size, 0, none⟩ 1 1 (flatP [⟨99, 1, (-1), 0, 0, 0, false, 0⟩]) rfl rfl ?qa0 (flatP_one _) ?qb0 ?qd0 ?qe0 ?_)
          case qa0 => exact flatP_newL w6 _ [⟨99, 1, (-1), 0, 0, 0, false, 0⟩] _ rfl
          case qb0 => unfold maxLen; omega
          case qd0 => omega
          case qe0 => simp; have := L6.out.1.size; omega
          intro v' w7 hown hgrow hnil
          rw [← flatP_app] at hown
          obtain ⟨A7, c7, rfl, ho7⟩ := ownSP_of hown (by simp [L6.out.2.2])
          have S7 := (L6.out.1.alloc (.cells #[.int .i64 99, .int .i64 1, .int .i64 (-1), .int .i64 0, .int .i64 0, .int .i64 0, .bool false, .int .i64 0] 39)).grown hgrow (fun q hq => (OW.out.lt q hq).1)
          have O7 := hide ho7
          have hlen := L6.out.2.2
          clear hown hgrow hnil ho7
          go_wp2_with fail
          go_ret
          exact ⟨A7, nl + 1, c7, _, rfl, by omega, ⟨S7.mono (by omega), O7.out, by simp [hlen]⟩, S7.2.1⟩
end Go.Proofs.Ytlfchcjollcdhaa
