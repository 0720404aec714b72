/-
  Copies of trees whose blocks may be written; marking quotas. No condition.
-/
import Derived.Test.YtncjghmjlcohjaaProg
import Derived.Test.YtncjghmjlcohjaaMrn
namespace Go.Proofs.Ytncjghmjlcohjaa
open Go.RowKit
set_option linter.unusedSimpArgs false
set_option linter.unusedVariables false

/-- A row of strings of one's own. -/
def RwS (w : World) (b off : Nat) (l : List ByteArray) : Prop := Row w b l.length (doneString l l.length)
def RwK (w : World) (b off : Nat) (l : List Int) : Prop := Row w b l.length (doneInt l l.length)
theorem RwS.far {w : World} {b off : Nat} {l : List ByteArray} (h : RwS w b off l) {p : Addr} (hp : b ≠ p.block) (v : Value) : RwS (w.setCell p v) b off l := Row.keep h (Below.heap_setCell w p v b hp)
theorem RwK.far {w : World} {b off : Nat} {l : List Int} (h : RwK w b off l) {p : Addr} (hp : b ≠ p.block) (v : Value) : RwK (w.setCell p v) b off l := Row.keep h (Below.heap_setCell w p v b hp)
theorem RwS.below {w w' : World} {b off : Nat} {l : List ByteArray} (h : RwS w b off l) (hb : Below w.heap.size w w') : RwS w' b off l := Row.below h hb (Row.lt h)
theorem RwK.below {w w' : World} {b off : Nat} {l : List Int} (h : RwK w b off l) (hb : Below w.heap.size w w') : RwK w' b off l := Row.below h hb (Row.lt h)
theorem RwS.lt {w : World} {b off : Nat} {l : List ByteArray} (h : RwS w b off l) : b < w.heap.size := Row.lt h
theorem RwK.lt {w : World} {b off : Nat} {l : List Int} (h : RwK w b off l) : b < w.heap.size := Row.lt h
theorem RwS.rd {w : World} {b off : Nat} {l : List ByteArray} (h : RwS w b off l) : RdString w b 0 l := rdString_of_row h rfl
theorem RwK.rd {w : World} {b off : Nat} {l : List Int} (h : RwK w b off l) : RdInt w b 0 l := rdInt_of_row h rfl
theorem RwS.wr {w : World} {b off n : Nat} {l : List ByteArray} (h : RwS w b off l) (hl : l.length = n) : Wr w (some ⟨b, 0, none⟩) n := fun _ => ⟨b, l.length, rfl, by omega, Row.mono h fun j u hj => by cases hj⟩
theorem RwK.wr {w : World} {b off n : Nat} {l : List Int} (h : RwK w b off l) (hl : l.length = n) : Wr w (some ⟨b, 0, none⟩) n := fun _ => ⟨b, l.length, rfl, by omega, Row.mono h fun j u hj => by cases hj⟩
set_option maxHeartbeats 1000000 in
theorem toStringR_c (A : Option Addr) (n c : Nat) (l : List ByteArray) (w : World) (hA : InString w A n l) (hn : n ≤ 1048576) :
    Calls Try.prog 53 #[.slice A n c] w fun e w' => ∃ g, e = .returned (.slice (some ⟨g, 0, none⟩) n n) ∧ w.heap.size ≤ g ∧ RwS w' g 0 l ∧ Below w.heap.size w w' := by
  obtain ⟨i0, hi0, hz0, hz1, hz2⟩ := info_parts infoString
  have hmk := fun W => run_make_rowN (P := Try.prog) 56 9 i0 _ Try.underlying56 hi0 hz0 .i64 .i64 n n (Nat.le_refl _) (by rw [hz2]; omega) (by omega) W
  simp only [hz1, Nat.mul_one] at hmk
  have hA' := hide hA
  clear hA
  go_enter Try.func53, Try.ntmps53
  go_wp2_with fail
  clear hmk
  generalize hW : w.alloc (.cells (madeCells #[.string ByteArray.empty] n) 9) = W
  have hr0 : Row W w.heap.size n (doneString l 0) := by
    rw [← hW]
    have := Row.made w 9 (madeCells #[.string ByteArray.empty] n) (doneString l 0) (fun j u hj => by simp [doneString] at hj)
    rwa [size_madeCells] at this
  have hb0 : Below w.heap.size w W := by rw [← hW]; exact below_alloc0 (Below.refl _ _) _
  clear hW
  go_loopw [4] (fun i wr => ∃ k : Nat, k ≤ n ∧ i = .int .i64 k ∧ Row wr w.heap.size n (doneString l k) ∧ Below w.heap.size w wr) (fun i _ => n - (intOf i).toNat)
  case atStart => exact ⟨0, by omega, rfl, hr0, hb0⟩
  case round =>
    obtain ⟨k, hk, rfl, hrow, hbel⟩ := hrel
    by_cases hlt : k < n
    · obtain ⟨b, off, hA0, hR⟩ := hA'.out.2 (by omega)
      subst hA0
      obtain ⟨x, hx⟩ : ∃ x, l[k]? = some x := ⟨_, List.getElem?_eq_getElem (by have := hA'.out.1; omega)⟩
      have HX := hide hx
      have c0 := (hR.below hbel).2 k x hx
      have hlb : b < wr.heap.size := Nat.lt_of_lt_of_le hR.1 hbel.size
      have g1 := hrow.lt
      obtain ⟨y, gs⟩ := hrow.some_ex (j := k) (by omega)
      have gf := hrow.frozen k
      clear hx hR
      go_wp2_with fail
      exact ⟨⟨k + 1, by omega, by go_num, row_nextString hrow hlt HX.out, hbel.setCell (p := ⟨w.heap.size, _, none⟩) (Nat.le_refl _) _⟩, by simp [intOf] <;> omega⟩
    · obtain rfl : k = n := by omega
      go_wp2
      go_ret
      exact ⟨w.heap.size, rfl, Nat.le_refl _, (show RwS _ _ 0 l by unfold RwS; rw [hA'.out.1]; exact hrow), hbel⟩
set_option maxHeartbeats 1000000 in
theorem toIntR_c (A : Option Addr) (n c : Nat) (l : List Int) (w : World) (hA : InInt w A n l) (hn : n ≤ 1048576) :
    Calls Try.prog 54 #[.slice A n c] w fun e w' => ∃ g, e = .returned (.slice (some ⟨g, 0, none⟩) n n) ∧ w.heap.size ≤ g ∧ RwK w' g 0 l ∧ Below w.heap.size w w' := by
  obtain ⟨i0, hi0, hz0, hz1, hz2⟩ := info_parts infoInt
  have hmk := fun W => run_make_rowN (P := Try.prog) 45 3 i0 _ Try.underlying45 hi0 hz0 .i64 .i64 n n (Nat.le_refl _) (by rw [hz2]; omega) (by omega) W
  simp only [hz1, Nat.mul_one] at hmk
  have hA' := hide hA
  clear hA
  go_enter Try.func54, Try.ntmps54
  go_wp2_with fail
  clear hmk
  generalize hW : w.alloc (.cells (madeCells #[.int .i64 0] n) 3) = W
  have hr0 : Row W w.heap.size n (doneInt l 0) := by
    rw [← hW]
    have := Row.made w 3 (madeCells #[.int .i64 0] n) (doneInt l 0) (fun j u hj => by simp [doneInt] at hj)
    rwa [size_madeCells] at this
  have hb0 : Below w.heap.size w W := by rw [← hW]; exact below_alloc0 (Below.refl _ _) _
  clear hW
  go_loopw [4] (fun i wr => ∃ k : Nat, k ≤ n ∧ i = .int .i64 k ∧ Row wr w.heap.size n (doneInt l k) ∧ Below w.heap.size w wr) (fun i _ => n - (intOf i).toNat)
  case atStart => exact ⟨0, by omega, rfl, hr0, hb0⟩
  case round =>
    obtain ⟨k, hk, rfl, hrow, hbel⟩ := hrel
    by_cases hlt : k < n
    · obtain ⟨b, off, hA0, hR⟩ := hA'.out.2 (by omega)
      subst hA0
      obtain ⟨x, hx⟩ : ∃ x, l[k]? = some x := ⟨_, List.getElem?_eq_getElem (by have := hA'.out.1; omega)⟩
      have HX := hide hx
      have c0 := (hR.below hbel).2 k x hx
      have hlb : b < wr.heap.size := Nat.lt_of_lt_of_le hR.1 hbel.size
      have g1 := hrow.lt
      obtain ⟨y, gs⟩ := hrow.some_ex (j := k) (by omega)
      have gf := hrow.frozen k
      clear hx hR
      go_wp2_with fail
      exact ⟨⟨k + 1, by omega, by go_num, row_nextInt hrow hlt HX.out, hbel.setCell (p := ⟨w.heap.size, _, none⟩) (Nat.le_refl _) _⟩, by simp [intOf] <;> omega⟩
    · obtain rfl : k = n := by omega
      go_wp2
      go_ret
      exact ⟨w.heap.size, rfl, Nat.le_refl _, (show RwK _ _ 0 l by unfold RwK; rw [hA'.out.1]; exact hrow), hbel⟩
set_option maxHeartbeats 2000000 in
theorem toNodeR_c (t : Node) (S K : Value) (hz : NodeS t) (w : World) (hS : SlS w S t.names) (hK : SlK w K t.kids) :
    Calls Try.prog 34 #[.agg #[.bool t.dir, .int .i64 t.owner, .int .i64 t.group, .int .i64 t.mode, .string t.text, S, K]] w fun e w' => ∃ (g h n m : Nat), e = .returned (.agg #[.bool t.dir, .int .i64 t.owner, .int .i64 t.group, .int .i64 t.mode, .string t.text, .slice (some ⟨g, 0, none⟩) n n, .slice (some ⟨h, 0, none⟩) m m]) ∧ w.heap.size ≤ g ∧ w.heap.size ≤ h ∧ g < h ∧ t.names.length = n ∧ t.kids.length = m ∧ RwS w' g 0 t.names ∧ RwK w' h 0 t.kids ∧ Below w.heap.size w w' := by
  obtain ⟨A, n, c, rfl, hnc, hS⟩ := hS
  obtain ⟨A2, n2, c2, rfl, hnc2, hK⟩ := hK
  have HS := hide hS
  have HK := hide hK
  have hl1 := hS.1
  have hl2 := hK.1
  have hn : n ≤ 1048576 := by have := hz.1; omega
  have hn2 : n2 ≤ 1048576 := by have := hz.2; omega
  clear hS hK hz
  have B0 : Below w.heap.size w (((w.alloc (.cells #[.bool t.dir, .int .i64 t.owner, .int .i64 t.group, .int .i64 t.mode, .string t.text, .slice A n c, .slice A2 n2 c2] 58)).alloc (.cells #[.bool false, .int .i64 0, .int .i64 0, .int .i64 0, .string ByteArray.empty, .slice none 0 0, .slice none 0 0] 60)).alloc (.cells #[.bool t.dir, .int .i64 t.owner, .int .i64 t.group, .int .i64 t.mode, .string t.text, .slice none 0 0, .slice none 0 0] 60)) :=
    below_alloc0 (below_alloc0 (below_alloc0 (Below.refl _ _) _) _) _
  go_enter Try.func34, Try.ntmps34
  go_wp2_with fail
  refine (toStringR_c A n c t.names _ (HS.out.below B0) hn).mono ?_
  rintro e w1 ⟨g, rfl, hg, hR, hb1⟩
  have V0 := live hb1 w.heap.size (by simp; omega)
  have V1 := live hb1 (w.heap.size + 1) (by simp)
  have V2 := live hb1 (w.heap.size + 2) (by simp)
  have hg' : w.heap.size + 3 ≤ g := by simpa using hg
  have B1 : Below w.heap.size w w1 := below_via0 B0 hb1
  have HR := hide hR
  have hgl := hR.lt
  clear hR B0 hg hb1
  go_wp2_with fail
  have B2 : Below w.heap.size w (w1.setCell ⟨w.heap.size + 1 + 1, 5, none⟩ (.slice (some ⟨g, 0, none⟩) n n)) := B1.setCell (p := ⟨w.heap.size + 1 + 1, 5, none⟩) (by show w.heap.size ≤ w.heap.size + 1 + 1; omega) _
  have HR2 := hide (HR.out.far (p := ⟨w.heap.size + 1 + 1, 5, none⟩) (by show g ≠ w.heap.size + 1 + 1; omega) (.slice (some ⟨g, 0, none⟩) n n))
  refine (toIntR_c A2 n2 c2 t.kids _ (HK.out.below B2) hn2).mono ?_
  rintro e w2 ⟨h, rfl, hh, hR3, hb2⟩
  have hz1 := B1.size
  have hh' : w1.heap.size ≤ h := by simpa using hh
  have U0 := live hb2 w.heap.size (by simp; omega)
  have U1 := live hb2 (w.heap.size + 1) (by simp; omega)
  have U2 := live hb2 (w.heap.size + 2) (by simp; omega)
  have B3 : Below w.heap.size w w2 := below_via0 B2 hb2
  have HR4 := hide (HR2.out.below hb2)
  have HK4 := hide hR3
  clear hR3 B1 B2 hb2 HR HR2 hh
  go_wp2_with fail
  have hgg : ∀ (W : World) (o : Nat) (v : Value), RwS W g 0 t.names → RwS (W.setCell ⟨w.heap.size + 1, o, none⟩ v) g 0 t.names := fun W o v hr => hr.far (p := ⟨w.heap.size + 1, o, none⟩) (by show g ≠ w.heap.size + 1; omega) v
  have hkk : ∀ (W : World) (o : Nat) (v : Value), RwK W h 0 t.kids → RwK (W.setCell ⟨w.heap.size + 1, o, none⟩ v) h 0 t.kids := fun W o v hr => hr.far (p := ⟨w.heap.size + 1, o, none⟩) (by show h ≠ w.heap.size + 1; omega) v
  have hbb : ∀ (W : World) (o : Nat) (v : Value), Below w.heap.size w W → Below w.heap.size w (W.setCell ⟨w.heap.size + 1, o, none⟩ v) := fun W o v hr => hr.setCell (p := ⟨w.heap.size + 1, o, none⟩) (by show w.heap.size ≤ w.heap.size + 1; omega) v
  exact bodyPost_ret (v := .agg #[.bool t.dir, .int .i64 t.owner, .int .i64 t.group, .int .i64 t.mode, .string t.text, .slice (some ⟨g, 0, none⟩) n n, .slice (some ⟨h, 0, none⟩) n2 n2]) (by simp [results, Try.results34, go_sem, *]) rfl ⟨g, h, n, n2, rfl, by omega, by omega, by omega, hl1, hl2,
    hgg _ _ _ (hgg _ _ _ (hgg _ _ _ (hgg _ _ _ (hgg _ _ _ (hgg _ _ _ (hgg _ _ _ (HR4.out.far (p := ⟨w.heap.size + 1 + 1, 6, none⟩) (by show g ≠ w.heap.size + 1 + 1; omega) _))))))),
    hkk _ _ _ (hkk _ _ _ (hkk _ _ _ (hkk _ _ _ (hkk _ _ _ (hkk _ _ _ (hkk _ _ _ (HK4.out.far (p := ⟨w.heap.size + 1 + 1, 6, none⟩) (by show h ≠ w.heap.size + 1 + 1; omega) _))))))),
    hbb _ _ _ (hbb _ _ _ (hbb _ _ _ (hbb _ _ _ (hbb _ _ _ (hbb _ _ _ (hbb _ _ _ (B3.setCell (p := ⟨w.heap.size + 1 + 1, 6, none⟩) (by show w.heap.size ≤ w.heap.size + 1 + 1; omega) _)))))))⟩
theorem NodeOwn.move {P : Nat → Prop} {w w' : World} {g i : Nat} {q q' : Nat → Nat} {f f' : Nat → Option Value} {t : Node} (h : NodeOwn w g q f i t) (ho : OffP P w w') (h1 : q' (2 * i) = q (2 * i)) (h2 : q' (2 * i + 1) = q (2 * i + 1)) (h3 : q' (2 * i + 2) = q (2 * i + 2)) (hP : ∀ b, b ≠ g → q (2 * i) ≤ b → b < q (2 * i + 2) → ¬ P b) (hq1 : q (2 * i) ≤ q (2 * i + 1)) (hq2 : q (2 * i + 1) ≤ q (2 * i + 2)) (hf : ∀ j, j < 7 → f' (i * 7 + j) = f (i * 7 + j)) : NodeOwn w' g q' f' i t := by
  obtain ⟨A, c, A2, c2, e1, e2, e3, e4, e5, e6, e7, e8⟩ := h
  refine ⟨A, c, A2, c2, (hf 5 (by omega)).trans e1, (hf 6 (by omega)).trans e2, e3, e4, by rw [h1, h2]; exact e5, by rw [h2, h3]; exact e6, e7.offP ho fun a h0 hA => ?_, e8.offP ho fun a h0 hA => ?_⟩
  · have := e5 a h0 hA
    exact hP _ this.2.2 (by omega) (by omega)
  · have := e6 a h0 hA
    exact hP _ this.2.2 (by omega) (by omega)
/-- The first k nodes lie in blocks of one's own. -/
def OwnT (w : World) (g0 : Nat) (q : Nat → Nat) (vs : List Value) (l : List Node) (k : Nat) : Prop :=
  (∀ i t, i < k → l[i]? = some t → NodeOwn w g0 q (fun j => vs[j]?) i t) ∧ (∀ i j, i ≤ j → j ≤ 2 * k → q i ≤ q j) ∧ g0 < q 0 ∧ q (2 * k) ≤ w.heap.size
theorem OwnT.far {w : World} {g0 k o : Nat} {q : Nat → Nat} {vs : List Value} {l : List Node} (h : OwnT w g0 q vs l k) (v : Value) : OwnT (w.setCell ⟨g0, o, none⟩ v) g0 q vs l k := by
  refine ⟨fun i t hi ht => ?_, h.2.1, h.2.2.1, by rw [World.size_setCell]; exact h.2.2.2⟩
  exact (h.1 i t hi ht).move (P := fun b => b = g0) ((OffP.refl (fun b => b = g0) w).setCell rfl v) rfl rfl rfl (fun b hb _ _ => hb) (h.2.1 _ _ (by omega) (by omega)) (h.2.1 _ _ (by omega) (by omega)) (fun _ _ => rfl)
theorem OwnT.next {w w1 : World} {g0 k g h n1 m1 : Nat} {q : Nat → Nat} {vs : List Value} {l : List Node} {t : Node} (H : OwnT w g0 q vs l k) (hl : vs.length = k * 7) (ht : l[k]? = some t) (hb : Below w.heap.size w w1) (hS : RwS w1 g 0 t.names) (hK : RwK w1 h 0 t.kids) (hn1 : t.names.length = n1) (hm1 : t.kids.length = m1) (hg0 : g0 < w.heap.size) (hg : w.heap.size ≤ g) (hgh : g < h) :
    OwnT w1 g0 (fun i => if i ≤ 2 * k then q i else if i = 2 * k + 1 then h else w1.heap.size) (vs ++ [.bool t.dir, .int .i64 t.owner, .int .i64 t.group, .int .i64 t.mode, .string t.text, .slice (some ⟨g, 0, none⟩) n1 n1, .slice (some ⟨h, 0, none⟩) m1 m1]) l (k + 1) := by
  have hh := hK.lt
  have hw := hb.size
  obtain ⟨h1, h2, h3, h4⟩ := H
  refine ⟨fun i u hi hu => ?_, fun i j hij hj => ?_, ?_, ?_⟩
  · rcases Nat.lt_or_ge i k with hlt | hge
    · refine (h1 i u hlt hu).move (P := fun _ => False) (OffP.ofBelow hb) ?_ ?_ ?_ (fun _ _ _ _ h => h) (h2 _ _ (by omega) (by omega)) (h2 _ _ (by omega) (by omega)) (fun j hj => ?_)
      · exact if_pos (by omega)
      · exact if_pos (by omega)
      · exact if_pos (by omega)
      · exact List.getElem?_append_left (by omega)
    · obtain rfl : i = k := by omega
      obtain rfl := Option.some.inj (hu.symm.trans ht)
      have e0 : (fun j => if j ≤ 2 * i then q j else if j = 2 * i + 1 then h else w1.heap.size) (2 * i) = q (2 * i) := if_pos (Nat.le_refl _)
      have e1 : (fun j => if j ≤ 2 * i then q j else if j = 2 * i + 1 then h else w1.heap.size) (2 * i + 1) = h := by show (if _ then _ else _) = _; rw [if_neg (by omega), if_pos rfl]
      have e2 : (fun j => if j ≤ 2 * i then q j else if j = 2 * i + 1 then h else w1.heap.size) (2 * i + 2) = w1.heap.size := by show (if _ then _ else _) = _; rw [if_neg (by omega), if_neg (by omega)]
      refine ⟨some ⟨g, 0, none⟩, n1, some ⟨h, 0, none⟩, m1, ?_, ?_, by omega, by omega, ?_, ?_, hS.wr rfl, hK.wr rfl⟩
      · show (vs ++ _)[i * 7 + 5]? = _
        rw [List.getElem?_append_right (by omega), show i * 7 + 5 - vs.length = 5 by omega, hn1]; rfl
      · show (vs ++ _)[i * 7 + 6]? = _
        rw [List.getElem?_append_right (by omega), show i * 7 + 6 - vs.length = 6 by omega, hm1]; rfl
      · intro a h0 hA
        cases hA
        rw [e0, e1]
        exact ⟨by show q (2 * i) ≤ g; omega, by show g < h; omega, by show g ≠ g0; omega⟩
      · intro a h0 hA
        cases hA
        rw [e1, e2]
        exact ⟨by show h ≤ h; omega, by show h < w1.heap.size; omega, by show h ≠ g0; omega⟩
  · dsimp only
    have hm := h2 i (2 * k)
    repeat' split
    all_goals first | omega | exact h2 _ _ hij (by omega) | (have := hm (by omega) (by omega); omega)
  · show g0 < if _ then _ else _
    rw [if_pos (by omega)]; exact h3
  · show (if _ then _ else _) ≤ _
    rw [if_neg (by omega), if_neg (by omega)]; exact Nat.le_refl _
set_option maxHeartbeats 2000000 in
theorem toNodeSR_c (A : Option Addr) (n c : Nat) (l : List Node) (w : World) (hA : InNode w A n l) (hn : n ≤ 1048576) (hz : ∀ t ∈ l, NodeS t) :
    Calls Try.prog 10 #[.slice A n c] w fun e w' => ∃ g q, e = .returned (.slice (some ⟨g, 0, none⟩) n n) ∧ w.heap.size ≤ g ∧ RdNode w' g 0 l ∧ TreeW w' g (n * 7) q l n ∧ w.heap.size ≤ q 0 ∧ q (2 * n) ≤ w'.heap.size ∧ Below w.heap.size w w' := by
  obtain ⟨i0, hi0, hz0, hz1, hz2⟩ := info_parts infoNode
  have hmk := fun W => run_make_rowN (P := Try.prog) 26 60 i0 _ Try.underlying26 hi0 hz0 .i64 .i64 n n (Nat.le_refl _) (by rw [hz2]; omega) (by omega) W
  rw [hz1] at hmk
  have hA' := hide hA
  have HZ := hide hz
  clear hA hz
  go_enter Try.func10, Try.ntmps10
  go_wp2_with fail
  clear hmk
  generalize hW : w.alloc (.cells (madeCells #[.bool false, .int .i64 0, .int .i64 0, .int .i64 0, .string ByteArray.empty, .slice none 0 0, .slice none 0 0] (n * 7)) 60) = W
  have hr0 : Row W w.heap.size (n * 7) (fun j => ([] : List Value)[j]?) := by
    rw [← hW]
    have := Row.made w 60 (madeCells #[.bool false, .int .i64 0, .int .i64 0, .int .i64 0, .string ByteArray.empty, .slice none 0 0, .slice none 0 0] (n * 7)) (fun j => ([] : List Value)[j]?) (fun j u hj => by simp at hj)
    rwa [size_madeCells] at this
  have hb0 : Below w.heap.size w W := by rw [← hW]; exact below_alloc0 (Below.refl _ _) _
  clear hW
  go_loopw [4] (fun i wr => ∃ (k : Nat) (vs : List Value) (q : Nat → Nat), k ≤ n ∧ i = .int .i64 k ∧ vs.length = k * 7 ∧ Hid (Row wr w.heap.size (n * 7) (fun j => vs[j]?)) ∧ Hid (NodesOk wr (w.heap.size + 1) vs l k) ∧ Hid (OwnT wr w.heap.size q vs l k) ∧ Hid (Below w.heap.size w wr)) (fun i _ => n - (intOf i).toNat)
  case atStart => exact ⟨0, [], fun _ => w.heap.size + 1, by omega, rfl, rfl, hr0, fun i t hi => absurd hi (by omega), ⟨fun i t hi => absurd hi (by omega), fun i j _ _ => Nat.le_refl _, Nat.lt_succ_self _, by have := hr0.lt; show w.heap.size + 1 ≤ W.heap.size; omega⟩, hb0⟩
  case round =>
    obtain ⟨k, vs, q, hk, rfl, hvl, hrow, hok, hot, hbel⟩ := hrel
    by_cases hlt : k < n
    · obtain ⟨b, off, hA0, hR⟩ := hA'.out.2 (by omega)
      subst hA0
      obtain ⟨t, ht⟩ : ∃ t, l[k]? = some t := ⟨_, List.getElem?_eq_getElem (by have := hA'.out.1; omega)⟩
      obtain ⟨S, K, ⟨c0, c1, c2, c3, c4, c5, c6⟩, hS, hK⟩ := (hR.below hbel.out).2 k t ht
      have hlb := (hR.below hbel.out).1
      have HT := hide ht
      have HZt := hide (HZ.out t (List.mem_of_getElem? ht))
      have HSK := hide (And.intro hS hK)
      have hkk : (k : Int) < n := by omega
      have hgl := hrow.out.lt
      clear ht hR hS hK
      go_wp2_with fail
      refine (toNodeR_c t S K HZt.out _ HSK.out.1 HSK.out.2).mono ?_
      rintro e w1 ⟨g, h, n1, m1, rfl, hg, hh, hgh, hn1, hm1, hRs, hRk, hbx⟩
      have R1 := hide (hrow.out.below hbx hgl)
      have K1 := hide (hok.out.below hbx)
      have B1 := hide (below_via0 hbel.out hbx)
      have hg1 := R1.out.lt
      obtain ⟨x0, gs0⟩ := R1.out.some_ex (j := k * 7) (by omega)
      obtain ⟨x1, gs1⟩ := R1.out.some_ex (j := k * 7 + 1) (by omega)
      obtain ⟨x2, gs2⟩ := R1.out.some_ex (j := k * 7 + 2) (by omega)
      obtain ⟨x3, gs3⟩ := R1.out.some_ex (j := k * 7 + 3) (by omega)
      obtain ⟨x4, gs4⟩ := R1.out.some_ex (j := k * 7 + 4) (by omega)
      obtain ⟨x5, gs5⟩ := R1.out.some_ex (j := k * 7 + 5) (by omega)
      obtain ⟨x6, gs6⟩ := R1.out.some_ex (j := k * 7 + 6) (by omega)
      have gf0 := R1.out.frozen (k * 7)
      have gf1 := R1.out.frozen (k * 7 + 1)
      have gf2 := R1.out.frozen (k * 7 + 2)
      have gf3 := R1.out.frozen (k * 7 + 3)
      have gf4 := R1.out.frozen (k * 7 + 4)
      have gf5 := R1.out.frozen (k * 7 + 5)
      have gf6 := R1.out.frozen (k * 7 + 6)
      have HRS := hide (show OwS w1 (w.heap.size + 1) (.slice (some ⟨g, 0, none⟩) n1 n1) t.names from ⟨g, n1, rfl, by omega, hn1, hRs.rd⟩)
      have HRK := hide (show OwK w1 (w.heap.size + 1) (.slice (some ⟨h, 0, none⟩) m1 m1) t.kids from ⟨h, m1, rfl, by omega, hm1, hRk.rd⟩)
      have HWW := hide (And.intro (hRs.wr hn1) (hRk.wr hm1))
      have hbs := hbel.out.size
      have HOT := hide (OwnT.next (g := g) (h := h) (n1 := n1) (m1 := m1) hot.out hvl HT.out hbx hRs hRk hn1 hm1 (by omega) hg hgh)
      clear hrow hok hbel hbx hRs hRk hot HWW hbs c0 c1 c2 c3 c4 c5 c6
      go_wp2_with fail
      refine ⟨⟨k + 1, vs ++ [.bool t.dir, .int .i64 t.owner, .int .i64 t.group, .int .i64 t.mode, .string t.text, .slice (some ⟨g, 0, none⟩) n1 n1, .slice (some ⟨h, 0, none⟩) m1 m1], fun i => if i ≤ 2 * k then q i else if i = 2 * k + 1 then h else w1.heap.size, by omega, by go_num, by simp [hvl]; omega, hide (row_add7 (t := t) R1.out hvl (by omega)), ?_, hide ((((((((HOT.out).far _).far _).far _).far _).far _).far _).far _), hide (((((((B1.out.setCell (p := ⟨w.heap.size, _, none⟩) (Nat.le_refl _) _).setCell (p := ⟨w.heap.size, _, none⟩) (Nat.le_refl _) _).setCell (p := ⟨w.heap.size, _, none⟩) (Nat.le_refl _) _).setCell (p := ⟨w.heap.size, _, none⟩) (Nat.le_refl _) _).setCell (p := ⟨w.heap.size, _, none⟩) (Nat.le_refl _) _).setCell (p := ⟨w.heap.size, _, none⟩) (Nat.le_refl _) _).setCell (p := ⟨w.heap.size, _, none⟩) (Nat.le_refl _) _)⟩, by simp [intOf] <;> omega⟩
      have hz : w.heap.size < w.heap.size + 1 := by omega
      exact hide (((((((((K1.out.next hvl HT.out HRS.out HRK.out).far hz _).far hz _).far hz _).far hz _).far hz _).far hz _).far hz _))
    · obtain rfl : k = n := by omega
      go_wp2_with fail
      go_ret
      exact ⟨w.heap.size, q, rfl, Nat.le_refl _, rdNode_of hrow.out hA'.out.1 hok.out, ⟨hA'.out.1, Nat.le_refl _, hot.out.2.1, _, hrow.out, fun i t ht => hot.out.1 i t (by have := (List.getElem?_eq_some_iff.1 ht).1; have := hA'.out.1; omega) ht⟩, by have := hot.out.2.2.1; omega, hot.out.2.2.2, hbel.out⟩
set_option maxHeartbeats 1000000 in
theorem toQuotaSR_c (A : Option Addr) (n c : Nat) (l : List Quota) (w : World) (hA : InQuota w A n l) (hn : n ≤ 1048576) :
    Calls Try.prog 19 #[.slice A n c] w (fun e w' => ∃ g, e = .returned (.slice (some ⟨g, 0, none⟩) n n) ∧ w.heap.size ≤ g ∧ RdQuota w' g 0 l ∧ Row w' g (n * 3) (doneQuota l n) ∧ Below w.heap.size w w') := by
  obtain ⟨i0, hi0, hz0, hz1, hz2⟩ := info_parts infoQuota
  have hmk := fun W => run_make_rowN (P := Try.prog) 41 66 i0 _ Try.underlying41 hi0 hz0 .i64 .i64 n n (Nat.le_refl _) (by rw [hz2]; omega) (by omega) W
  rw [hz1] at hmk
  have hA' := hide hA
  clear hA
  go_enter Try.func19, Try.ntmps19
  go_wp2_with fail
  clear hmk
  generalize hW : w.alloc (.cells (madeCells #[.int .i64 0, .int .i64 0, .int .i64 0] (n * 3)) 66) = W
  have hr0 : Row W w.heap.size (n * 3) (doneQuota l 0) := by
    rw [← hW]
    have := Row.made w 66 (madeCells #[.int .i64 0, .int .i64 0, .int .i64 0] (n * 3)) (doneQuota l 0) (fun j u hj => by simp [doneQuota] at hj)
    rwa [size_madeCells] at this
  have hb0 : Below w.heap.size w W := by rw [← hW]; exact below_alloc0 (Below.refl _ _) _
  clear hW
  go_loopw [4] (fun i wr => ∃ k : Nat, k ≤ n ∧ i = .int .i64 k ∧ Row wr w.heap.size (n * 3) (doneQuota l k) ∧ Below w.heap.size w wr) (fun i _ => n - (intOf i).toNat)
  case atStart => exact ⟨0, by omega, rfl, hr0, hb0⟩
  case round =>
    obtain ⟨k, hk, rfl, hrow, hbel⟩ := hrel
    by_cases hlt : k < n
    · obtain ⟨hl, hin⟩ := hA'.out
      obtain ⟨b, off, rfl, hR⟩ := hin (by omega)
      clear hin
      obtain ⟨t, ht⟩ : ∃ t, l[k]? = some t := ⟨_, List.getElem?_eq_getElem (by omega)⟩
      have HT := hide ht
      have hlb : b < wr.heap.size := Nat.lt_of_lt_of_le hR.1 hbel.size
      have c0 := (hR.below hbel).2 k t ht
      have HL := hide hl
      clear ht hl
      have g1 := hrow.lt
      obtain ⟨x0, gs0⟩ := hrow.some_ex (j := k * 3) (by omega)
      obtain ⟨x1, gs1⟩ := hrow.some_ex (j := k * 3 + 1) (by omega)
      obtain ⟨x2, gs2⟩ := hrow.some_ex (j := k * 3 + 2) (by omega)
      have gf0 := hrow.frozen (k * 3)
      have gf1 := hrow.frozen (k * 3 + 1)
      have gf2 := hrow.frozen (k * 3 + 2)
      go_wp2_with fail
      refine (toQuota_c _ _ _ _).mono ?_
      rintro e w1 ⟨rfl, hb1⟩
      have V1 := live hb1 w.heap.size (by omega)
      go_wp2_with fail
      refine ⟨⟨k + 1, by omega, by go_num, row_nextQuota (hrow.below hb1 g1) hlt HT.out, (by repeat' (first | exact Below.refl _ _ | assumption | exact And.left (by assumption) | omega | (simp; done) | (simp; omega) | (simp at *; omega) | (refine Below.setCell ?_ ?_ _) | (refine below_alloc0 ?_ _) | (refine Below.drew ?_) | (refine below_drewN ?_ _) | (refine below_via0 ?_ (by assumption)) | (refine Below.alloc ?_ ?_ _) | (refine below_via ?_ (by assumption) ?_)))⟩, by simp [intOf]; omega⟩
    · obtain rfl : k = n := by omega
      go_wp2
      go_ret
      exact ⟨w.heap.size, rfl, Nat.le_refl _, RdQuota_of_row hrow hA'.out.1, hrow, (by repeat' (first | exact Below.refl _ _ | assumption | exact And.left (by assumption) | omega | (simp; done) | (simp; omega) | (simp at *; omega) | (refine Below.setCell ?_ ?_ _) | (refine below_alloc0 ?_ _) | (refine Below.drew ?_) | (refine below_drewN ?_ _) | (refine below_via0 ?_ (by assumption)) | (refine Below.alloc ?_ ?_ _) | (refine below_via ?_ (by assumption) ?_)))⟩

set_option maxHeartbeats 2000000 in
theorem markQuota_c (g m n c k0 : Nat) (hn : n ≤ 1048576) (h0 : k0 ≤ 100000000000000) (w : World) (hm : n * 3 ≤ m) (hR : Row w g m (fun _ => none)) :
    Calls Try.prog 26 #[.slice (some ⟨g, 0, none⟩) n c, .int .i64 k0] w fun e w' => e = .returned (.int .i64 ((k0 + n * 3 : Nat) : Int)) ∧ OffP (fun b => b = g) w w' := by
  go_enter Try.func26, Try.ntmps26
  go_wp2_with fail
  go_loopw [1, 5] (fun q i wr => ∃ k : Nat, k ≤ n ∧ q = .int .i64 ((k0 : Int) + k * 3) ∧ i = .int .i64 k ∧ Row wr g m (fun _ => none) ∧ Hid (OffP (fun b => b = g) w wr)) (fun _ i _ => n - (intOf i).toNat)
  case atStart => exact ⟨0, by omega, by simp, rfl, hR, OffP.refl _ _⟩
  case round =>
    obtain ⟨k, hk, rfl, rfl, hrow, hoff⟩ := hrel
    by_cases hlt : k < n
    · have hkk : (k : Int) < n := by omega
      have g1 := hrow.lt
      obtain ⟨x0, gs0⟩ := hrow.some_ex (j := k * 3) (by omega)
      obtain ⟨x1, gs1⟩ := hrow.some_ex (j := k * 3 + 1) (by omega)
      obtain ⟨x2, gs2⟩ := hrow.some_ex (j := k * 3 + 2) (by omega)
      have gf0 := hrow.frozen (k * 3)
      have gf1 := hrow.frozen (k * 3 + 1)
      have gf2 := hrow.frozen (k * 3 + 2)
      go_wp2_with fail
      refine ⟨⟨k + 1, hlt, congrArg (Value.int .i64) (by omega), congrArg (Value.int .i64) (by omega), (((hrow.set _ _).set _ _).set _ _).mono (fun j u hj => by cases hj), ((hoff.out.setCell rfl _).setCell rfl _).setCell rfl _⟩, by simp [intOf]; omega⟩
    · obtain rfl : k = n := by omega
      have hkk : ¬ (k : Int) < k := by omega
      go_wp2_with fail
      go_ret
      exact ⟨congrArg (fun z => Ending.returned (.int .i64 z)) (by omega), hoff.out⟩
end Go.Proofs.Ytncjghmjlcohjaa
