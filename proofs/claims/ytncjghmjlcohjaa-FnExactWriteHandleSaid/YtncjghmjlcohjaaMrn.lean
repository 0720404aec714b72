/-
  Marking slices of nodes, and finding the marks again. No condition.
-/
import Derived.Test.YtncjghmjlcohjaaProg
import Derived.Test.YtncjghmjlcohjaaMrs
namespace Go.Proofs.Ytncjghmjlcohjaa
open Go.RowKit
set_option linter.unusedSimpArgs false
set_option linter.unusedVariables false

theorem Wr.offP {P : Nat → Prop} {w w' : World} {A : Option Addr} {n : Nat} (h : Wr w A n) (ho : OffP P w w') (hd : ∀ a, 0 < n → A = some a → ¬ P a.block) : Wr w' A n := fun h0 => by
  obtain ⟨g, m, h1, h2, h3⟩ := h h0
  exact ⟨g, m, h1, h2, ho.row (hd _ h0 h1) h3⟩
theorem Wr.below {w w' : World} {A : Option Addr} {n : Nat} (h : Wr w A n) (hb : Below w.heap.size w w') : Wr w' A n := fun h0 => by
  obtain ⟨g, m, h1, h2, h3⟩ := h h0
  exact ⟨g, m, h1, h2, h3.below hb h3.lt⟩
theorem InString.offP {P : Nat → Prop} {w w' : World} {A : Option Addr} {n : Nat} {l : List ByteArray} (h : InString w A n l) (ho : OffP P w w') (hd : ∀ a, 0 < n → A = some a → ¬ P a.block) : InString w' A n l :=
  ⟨h.1, fun h0 => by
    obtain ⟨b, off, hA, hR⟩ := h.2 h0
    exact ⟨b, off, hA, hR.keep ho.1.size (ho.2 b hR.1 (hd _ h0 hA))⟩⟩
theorem InInt.offP {P : Nat → Prop} {w w' : World} {A : Option Addr} {n : Nat} {l : List Int} (h : InInt w A n l) (ho : OffP P w w') (hd : ∀ a, 0 < n → A = some a → ¬ P a.block) : InInt w' A n l :=
  ⟨h.1, fun h0 => by
    obtain ⟨b, off, hA, hR⟩ := h.2 h0
    exact ⟨b, off, hA, hR.keep ho.1.size (ho.2 b hR.1 (hd _ h0 hA))⟩⟩
/-- A slice's block lies between a and b, and is not g. -/
def Loc (a b g : Nat) (A : Option Addr) (n : Nat) : Prop := ∀ x, 0 < n → A = some x → a ≤ x.block ∧ x.block < b ∧ x.block ≠ g
/-- The counter at the node i. -/
def kS (l : List Node) (k0 : Nat) : Nat → Nat
  | 0 => k0
  | i + 1 => match l[i]? with
    | some t => kS l k0 i + 5 + t.names.length + t.kids.length
    | none => kS l k0 i
theorem kS_next {l : List Node} {k0 i : Nat} {t : Node} (h : l[i]? = some t) : kS l k0 (i + 1) = kS l k0 i + 5 + t.names.length + t.kids.length := by
  rw [kS, h]
theorem kS_le {l : List Node} {k0 : Nat} (hz : ∀ t ∈ l, NodeS t) (i : Nat) : kS l k0 i ≤ k0 + i * 2097160 := by
  induction i with
  | zero => exact Nat.le_add_right _ _
  | succ i ih =>
    cases h : l[i]? with
    | none => rw [show kS l k0 (i + 1) = kS l k0 i by rw [kS, h]]; exact Nat.le_trans ih (Nat.add_le_add_left (Nat.mul_le_mul_right _ (Nat.le_succ _)) _)
    | some t =>
      have h2 := hz t (List.mem_of_getElem? h)
      have h3 := h2.1
      have h4 := h2.2
      rw [kS_next h]
      omega
/-- A node that is marked from k. -/
def mkNode (k : Nat) (t : Node) : Node := ⟨((k : Int) % 3 == 0), (k : Int) + 1, (k : Int) + 1 + 1, (k : Int) + 1 + 1 + 1, mtx (k + 4), mkS (k + 5) t.names.length, mkI (k + 5 + t.names.length) t.kids.length⟩
def mkT (l : List Node) (k0 : Nat) : List Node := l.mapIdx fun i t => mkNode (kS l k0 i) t
theorem mkT_len (l : List Node) (k0 : Nat) : (mkT l k0).length = l.length := by simp [mkT]
theorem mkT_get (l : List Node) (k0 i : Nat) : (mkT l k0)[i]? = l[i]?.map (mkNode (kS l k0 i)) := by simp [mkT, List.getElem?_mapIdx]
/-- A node of a slice of one's own: f tells the cells. -/
def NodeOwn (w : World) (g : Nat) (q : Nat → Nat) (f : Nat → Option Value) (i : Nat) (t : Node) : Prop :=
  ∃ A c A2 c2, f (i * 7 + 5) = some (.slice A t.names.length c) ∧ f (i * 7 + 6) = some (.slice A2 t.kids.length c2) ∧ t.names.length ≤ c ∧ t.kids.length ≤ c2 ∧ Loc (q (2 * i)) (q (2 * i + 1)) g A t.names.length ∧ Loc (q (2 * i + 1)) (q (2 * i + 2)) g A2 t.kids.length ∧ Wr w A t.names.length ∧ Wr w A2 t.kids.length
/-- A node that was marked. -/
def NodeMk (w : World) (g : Nat) (q : Nat → Nat) (f : Nat → Option Value) (i k : Nat) (t : Node) : Prop :=
  ∃ A c A2 c2, f (i * 7 + 5) = some (.slice A t.names.length c) ∧ f (i * 7 + 6) = some (.slice A2 t.kids.length c2) ∧ t.names.length ≤ c ∧ t.kids.length ≤ c2 ∧ Loc (q (2 * i)) (q (2 * i + 1)) g A t.names.length ∧ Loc (q (2 * i + 1)) (q (2 * i + 2)) g A2 t.kids.length ∧
    InString w A t.names.length (mkNode k t).names ∧ InInt w A2 t.kids.length (mkNode k t).kids ∧ f (i * 7) = some (.bool (mkNode k t).dir) ∧ f (i * 7 + 1) = some (.int .i64 (mkNode k t).owner) ∧ f (i * 7 + 2) = some (.int .i64 (mkNode k t).group) ∧ f (i * 7 + 3) = some (.int .i64 (mkNode k t).mode) ∧ f (i * 7 + 4) = some (.string (mkNode k t).text)
/-- A slice of nodes of one's own, each slice in its own block. -/
def TreeW (w : World) (g m : Nat) (q : Nat → Nat) (l : List Node) (n : Nat) : Prop :=
  l.length = n ∧ n * 7 ≤ m ∧ (∀ i j, i ≤ j → j ≤ 2 * n → q i ≤ q j) ∧ ∃ f, Row w g m f ∧ ∀ i t, l[i]? = some t → NodeOwn w g q f i t
/-- Its blocks. -/
def TP (g : Nat) (q : Nat → Nat) (n : Nat) (b : Nat) : Prop := b = g ∨ (q 0 ≤ b ∧ b < q (2 * n))
def TPk (g : Nat) (q : Nat → Nat) (k : Nat) (b : Nat) : Prop := b = g ∨ (q (2 * k) ≤ b ∧ b < q (2 * k + 2))
theorem NodeOwn.step {w w' : World} {g k i n : Nat} {q : Nat → Nat} {f f' : Nat → Option Value} {t : Node} (h : NodeOwn w g q f i t) (ho : OffP (TPk g q k) w w') (hq : ∀ i j, i ≤ j → j ≤ 2 * n → q i ≤ q j) (hk : k < n) (hi : i < n) (hne : i ≠ k) (hf : ∀ j, j < 7 → f' (i * 7 + j) = f (i * 7 + j)) : NodeOwn w' g q f' i t := by
  obtain ⟨A, c, A2, c2, h1, h2, h3, h4, h5, h6, h7, h8⟩ := h
  refine ⟨A, c, A2, c2, (hf 5 (by omega)).trans h1, (hf 6 (by omega)).trans h2, h3, h4, h5, h6, h7.offP ho fun a h0 hA hp => ?_, h8.offP ho fun a h0 hA hp => ?_⟩
  · obtain ⟨e1, e2, e3⟩ := h5 a h0 hA
    rcases hp with hp | ⟨p1, p2⟩
    · exact e3 hp
    · rcases Nat.lt_or_gt_of_ne hne with hlt | hgt
      · have := hq (2 * i + 1) (2 * k) (by omega) (by omega); omega
      · have := hq (2 * k + 2) (2 * i) (by omega) (by omega); omega
  · obtain ⟨e1, e2, e3⟩ := h6 a h0 hA
    rcases hp with hp | ⟨p1, p2⟩
    · exact e3 hp
    · rcases Nat.lt_or_gt_of_ne hne with hlt | hgt
      · have := hq (2 * i + 2) (2 * k) (by omega) (by omega); omega
      · have := hq (2 * k + 2) (2 * i + 1) (by omega) (by omega); omega
theorem NodeMk.step {w w' : World} {g k i n kk : Nat} {q : Nat → Nat} {f f' : Nat → Option Value} {t : Node} (h : NodeMk w g q f i kk t) (ho : OffP (TPk g q k) w w') (hq : ∀ i j, i ≤ j → j ≤ 2 * n → q i ≤ q j) (hk : k < n) (hi : i < n) (hne : i ≠ k) (hf : ∀ j, j < 7 → f' (i * 7 + j) = f (i * 7 + j)) : NodeMk w' g q f' i kk t := by
  obtain ⟨A, c, A2, c2, h1, h2, h3, h4, h5, h6, h7, h8, h9, h10, h11, h12, h13⟩ := h
  refine ⟨A, c, A2, c2, (hf 5 (by omega)).trans h1, (hf 6 (by omega)).trans h2, h3, h4, h5, h6, h7.offP ho fun a h0 hA hp => ?_, h8.offP ho fun a h0 hA hp => ?_, (hf 0 (by omega)).trans h9, (hf 1 (by omega)).trans h10, (hf 2 (by omega)).trans h11, (hf 3 (by omega)).trans h12, (hf 4 (by omega)).trans h13⟩
  · obtain ⟨e1, e2, e3⟩ := h5 a h0 hA
    rcases hp with hp | ⟨p1, p2⟩
    · exact e3 hp
    · rcases Nat.lt_or_gt_of_ne hne with hlt | hgt
      · have := hq (2 * i + 1) (2 * k) (by omega) (by omega); omega
      · have := hq (2 * k + 2) (2 * i) (by omega) (by omega); omega
  · obtain ⟨e1, e2, e3⟩ := h6 a h0 hA
    rcases hp with hp | ⟨p1, p2⟩
    · exact e3 hp
    · rcases Nat.lt_or_gt_of_ne hne with hlt | hgt
      · have := hq (2 * i + 2) (2 * k) (by omega) (by omega); omega
      · have := hq (2 * k + 2) (2 * i + 1) (by omega) (by omega); omega
theorem rdNode_mk {w : World} {g m n k0 : Nat} {q : Nat → Nat} {f : Nat → Option Value} {l : List Node} (hr : Row w g m f) (h : ∀ i t, l[i]? = some t → NodeMk w g q f i (kS l k0 i) t) : RdNode w g 0 (mkT l k0) := by
  refine ⟨hr.lt, fun i t' ht' => ?_⟩
  rw [mkT_get] at ht'
  cases ht : l[i]? with
  | none => rw [ht] at ht'; cases ht'
  | some t =>
    rw [ht] at ht'
    obtain rfl := Option.some.inj ht'
    obtain ⟨A, c, A2, c2, h1, h2, h3, h4, h5, h6, h7, h8, h9, h10, h11, h12, h13⟩ := h i t ht
    rw [Nat.zero_add]
    exact ⟨_, _, ⟨hr.cell h9, hr.cell h10, hr.cell h11, hr.cell h12, hr.cell h13, hr.cell h1, hr.cell h2⟩, ⟨A, _, c, rfl, h3, h7⟩, ⟨A2, _, c2, rfl, h4, h8⟩⟩
theorem TPk.tp {g n k : Nat} {q : Nat → Nat} (hq : ∀ i j, i ≤ j → j ≤ 2 * n → q i ≤ q j) (hk : k < n) : ∀ b, TPk g q k b → TP g q n b := by
  rintro b (h | ⟨h1, h2⟩)
  · exact .inl h
  · have := hq 0 (2 * k) (by omega) (by omega)
    have := hq (2 * k + 2) (2 * n) (by omega) (by omega)
    exact .inr ⟨by omega, by omega⟩
/-- Five cells of the node k are set. -/
def set5 (m k : Nat) (f : Nat → Option Value) (v0 v1 v2 v3 v4 : Value) : Nat → Option Value := fun j =>
  if j = k * 7 + 4 then if k * 7 + 4 < m then some v4 else none else if j = k * 7 + 3 then if k * 7 + 3 < m then some v3 else none else if j = k * 7 + 2 then if k * 7 + 2 < m then some v2 else none else if j = k * 7 + 1 then if k * 7 + 1 < m then some v1 else none else if j = k * 7 then if k * 7 < m then some v0 else none else f j
theorem set5_at {m k : Nat} (f : Nat → Option Value) (v0 v1 v2 v3 v4 : Value) (h : k * 7 + 7 ≤ m) : set5 m k f v0 v1 v2 v3 v4 (k * 7) = some v0 ∧ set5 m k f v0 v1 v2 v3 v4 (k * 7 + 1) = some v1 ∧ set5 m k f v0 v1 v2 v3 v4 (k * 7 + 2) = some v2 ∧ set5 m k f v0 v1 v2 v3 v4 (k * 7 + 3) = some v3 ∧ set5 m k f v0 v1 v2 v3 v4 (k * 7 + 4) = some v4 ∧ set5 m k f v0 v1 v2 v3 v4 (k * 7 + 5) = f (k * 7 + 5) ∧ set5 m k f v0 v1 v2 v3 v4 (k * 7 + 6) = f (k * 7 + 6) := by
  unfold set5
  refine ⟨?_, ?_, ?_, ?_, ?_, ?_, ?_⟩
  · rw [if_neg (by omega), if_neg (by omega), if_neg (by omega), if_neg (by omega), if_pos rfl, if_pos (by omega)]
  · rw [if_neg (by omega), if_neg (by omega), if_neg (by omega), if_pos rfl, if_pos (by omega)]
  · rw [if_neg (by omega), if_neg (by omega), if_pos rfl, if_pos (by omega)]
  · rw [if_neg (by omega), if_pos rfl, if_pos (by omega)]
  · rw [if_pos rfl, if_pos (by omega)]
  · rw [if_neg (by omega), if_neg (by omega), if_neg (by omega), if_neg (by omega), if_neg (by omega)]
  · rw [if_neg (by omega), if_neg (by omega), if_neg (by omega), if_neg (by omega), if_neg (by omega)]
theorem set5_off {m k : Nat} (f : Nat → Option Value) (v0 v1 v2 v3 v4 : Value) (i : Nat) (h : i ≠ k) : ∀ j, j < 7 → set5 m k f v0 v1 v2 v3 v4 (i * 7 + j) = f (i * 7 + j) := fun j hj => by
  unfold set5
  rw [if_neg (by omega), if_neg (by omega), if_neg (by omega), if_neg (by omega), if_neg (by omega)]
set_option maxRecDepth 100000 in
set_option maxHeartbeats 8000000 in
theorem markNode_c (g m n c k0 : Nat) (q : Nat → Nat) (l : List Node) (hn : n ≤ 1048576) (h0 : k0 ≤ 1000000) (hz : ∀ t ∈ l, NodeS t) (w : World) (hT : TreeW w g m q l n) :
    Calls Try.prog 25 #[.slice (some ⟨g, 0, none⟩) n c, .int .i64 k0] w fun e w' => e = .returned (.int .i64 ((kS l k0 n : Nat) : Int)) ∧ OffP (TP g q n) w w' ∧ RdNode w' g 0 (mkT l k0) := by
  obtain ⟨hl, hm, hq, f0, hr0, ho0⟩ := hT
  have HQ := hide hq
  have HO := hide ho0
  have HR := hide hr0
  have HZ := hide hz
  clear hq ho0 hr0 hz
  go_enter Try.func25, Try.ntmps25
  go_wp2_with fail
  go_loopw [1, 5] (fun qv iv wr => ∃ (k : Nat) (f : Nat → Option Value), k ≤ n ∧ qv = .int .i64 ((kS l k0 k : Nat) : Int) ∧ iv = .int .i64 k ∧ Hid (Row wr g m f) ∧ Hid (∀ i t, l[i]? = some t → k ≤ i → NodeOwn wr g q f i t) ∧ Hid (∀ i t, l[i]? = some t → i < k → NodeMk wr g q f i (kS l k0 i) t) ∧ Hid (OffP (TP g q n) w wr)) (fun _ i _ => n - (intOf i).toNat)
  case atStart => exact ⟨0, f0, by omega, rfl, rfl, HR, fun i t ht _ => HO.out i t ht, fun i t _ hi => absurd hi (by omega), OffP.refl _ _⟩
  case round =>
    obtain ⟨k, f, hk, rfl, rfl, hrow, hown, hmk, hoff⟩ := hrel
    have hkb := kS_le (k0 := k0) HZ.out k
    by_cases hlt : k < n
    · have hkk : (k : Int) < n := by omega
      obtain ⟨t, ht⟩ : ∃ t, l[k]? = some t := ⟨_, List.getElem?_eq_getElem (by omega)⟩
      have hks := kS_next (k0 := k0) ht
      have hzt := HZ.out t (List.mem_of_getElem? ht)
      have hz1 := hzt.1
      have hz2 := hzt.2
      obtain ⟨A, c1, A2, c2, f5, f6, hc1, hc2, hL1, hL2, hW1, hW2⟩ := hown.out k t ht (Nat.le_refl _)
      have HT := hide ht
      have HF5 := hide f5
      have HF6 := hide f6
      have HL1 := hide hL1
      have HL2 := hide hL2
      have HW1 := hide hW1
      have HW2 := hide hW2
      have HC := hide (And.intro hc1 hc2)
      have HKS := hide hks
      generalize hKK : kS l k0 k = kk at *
      have HKK := hide hKK
      generalize hN1 : t.names.length = n1 at *
      generalize hN2 : t.kids.length = n2 at *
      have HN := hide (And.intro hN1 hN2)
      have g1 := hrow.out.lt
      obtain ⟨x0, gs0⟩ := hrow.out.some_ex (j := k * 7) (by omega)
      obtain ⟨x1, gs1⟩ := hrow.out.some_ex (j := k * 7 + 1) (by omega)
      obtain ⟨x2, gs2⟩ := hrow.out.some_ex (j := k * 7 + 2) (by omega)
      obtain ⟨x3, gs3⟩ := hrow.out.some_ex (j := k * 7 + 3) (by omega)
      have gf0 := hrow.out.frozen (k * 7)
      have gf1 := hrow.out.frozen (k * 7 + 1)
      have gf2 := hrow.out.frozen (k * 7 + 2)
      have gf3 := hrow.out.frozen (k * 7 + 3)
      clear ht f5 f6 hL1 hL2 hW1 hW2 hks hKK hN1 hN2 hzt hc1 hc2
      go_wp2_with fail
      rw [show (kk : Int) + 1 + 1 + 1 + 1 = ((kk + 4 : Nat) : Int) by omega]
      refine (markText_c (kk + 4) (by omega) _).mono ?_
      rintro e w1 ⟨rfl, hb⟩
      have R0 := (((hrow.out.set (k * 7) (.bool ((kk : Int) % 3 == 0))).set (k * 7 + 1) (.int .i64 ((kk : Int) + 1))).set (k * 7 + 2) (.int .i64 ((kk : Int) + 1 + 1))).set (k * 7 + 3) (.int .i64 ((kk : Int) + 1 + 1 + 1))
      have R1 := hide (R0.below hb R0.lt)
      have O1 := hide ((((((OffP.refl (fun b => b = g) wr).setCell (o := k * 7) rfl (.bool ((kk : Int) % 3 == 0))).setCell (o := k * 7 + 1) rfl (.int .i64 ((kk : Int) + 1))).setCell (o := k * 7 + 2) rfl (.int .i64 ((kk : Int) + 1 + 1))).setCell (o := k * 7 + 3) rfl (.int .i64 ((kk : Int) + 1 + 1 + 1))).trans (OffP.ofBelow hb))
      have g2 := R1.out.lt
      obtain ⟨x4, gs4⟩ := R1.out.some_ex (j := k * 7 + 4) (by omega)
      have gf4 := R1.out.frozen (k * 7 + 4)
      have c5 : w1.cell? ⟨g, k * 7 + 5, none⟩ = some (.slice A n1 c1) := R1.out.cell (by rw [if_neg (by omega), if_neg (by omega), if_neg (by omega), if_neg (by omega)]; exact HF5.out)
      clear hb R0 gs0 gs1 gs2 gs3 gf0 gf1 gf2 gf3 x0 x1 x2 x3
      go_wp2_with fail
      rw [show (kk : Int) + 4 + 1 = ((kk + 5 : Nat) : Int) by omega]
      have R2 := hide (R1.out.set (k * 7 + 4) (.string (mtx (kk + 4))))
      have O2 := hide (O1.out.setCell (o := k * 7 + 4) rfl (.string (mtx (kk + 4))))
      refine (markString_c A n1 c1 (kk + 5) hz1 (by omega) _ (HW1.out.offP O2.out fun a h0 hA hp => (HL1.out a h0 hA).2.2 hp)).mono ?_
      rintro e w2 ⟨rfl, hb, hin⟩
      have hng : ¬ Spot A n1 g := fun ⟨h0, a, hA, hE⟩ => (HL1.out a h0 hA).2.2 hE
      have R3 := hide (hb.row hng R2.out)
      have O3 := hide ((O2.out.mono (Q := fun b => b = g ∨ (q (2 * k) ≤ b ∧ b < q (2 * k + 1))) fun b hp => .inl hp).trans (hb.mono fun b ⟨h0, a, hA, hE⟩ => .inr (by have := HL1.out a h0 hA; omega)))
      have IS := hide hin
      have g3 := R3.out.lt
      have c6 : w2.cell? ⟨g, k * 7 + 6, none⟩ = some (.slice A2 n2 c2) := R3.out.cell (by rw [if_neg (by omega), if_neg (by omega), if_neg (by omega), if_neg (by omega), if_neg (by omega)]; exact HF6.out)
      clear hb hin c5 gs4 gf4 x4
      go_wp2_with fail
      rw [show (kk : Int) + 5 + (n1 : Int) = ((kk + 5 + n1 : Nat) : Int) by omega]
      refine (markInt_c A2 n2 c2 (kk + 5 + n1) hz2 (by omega) _ (HW2.out.offP O3.out fun a h0 hA hp => ?_)).mono ?_
      · have := HL2.out a h0 hA
        rcases hp with hp | hp
        · exact this.2.2 hp
        · omega
      rintro e w3 ⟨rfl, hb, hin⟩
      have hng2 : ¬ Spot A2 n2 g := fun ⟨h0, a, hA, hE⟩ => (HL2.out a h0 hA).2.2 hE
      have R4 := hide (hb.row hng2 R3.out)
      have IS2 := hide (IS.out.offP hb fun a h0 hA ⟨h0', a', hA', hE⟩ => by
        have := HL1.out a h0 hA
        have := HL2.out a' h0' hA'
        omega)
      have II := hide hin
      have hq1 := HQ.out (2 * k) (2 * k + 1) (by omega) (by omega)
      have hq2 := HQ.out (2 * k + 1) (2 * k + 2) (by omega) (by omega)
      have O4 := hide ((O3.out.mono (Q := TPk g q k) fun b hp => hp.imp id fun hp => by omega).trans (hb.mono fun b ⟨h0, a, hA, hE⟩ => .inr (by have := HL2.out a h0 hA; omega)))
      have O5 := hide (hoff.out.trans (O4.out.mono (TPk.tp HQ.out hlt)))
      have HM := hide (show NodeMk w3 g q (set5 m k f (.bool ((kk : Int) % 3 == 0)) (.int .i64 ((kk : Int) + 1)) (.int .i64 ((kk : Int) + 1 + 1)) (.int .i64 ((kk : Int) + 1 + 1 + 1)) (.string (mtx (kk + 4)))) k kk t by
        obtain ⟨s0, s1, s2, s3, s4, s5, s6⟩ := set5_at (m := m) (k := k) f (.bool ((kk : Int) % 3 == 0)) (.int .i64 ((kk : Int) + 1)) (.int .i64 ((kk : Int) + 1 + 1)) (.int .i64 ((kk : Int) + 1 + 1 + 1)) (.string (mtx (kk + 4))) (by omega)
        refine ⟨A, c1, A2, c2, ?_, ?_, ?_, ?_, ?_, ?_, ?_, ?_, s0, s1, s2, s3, s4⟩
        · rw [HN.out.1, s5]; exact HF5.out
        · rw [HN.out.2, s6]; exact HF6.out
        · rw [HN.out.1]; exact HC.out.1
        · rw [HN.out.2]; exact HC.out.2
        · rw [HN.out.1]; exact HL1.out
        · rw [HN.out.2]; exact HL2.out
        · rw [HN.out.1]; show InString _ _ _ (mkS (kk + 5) t.names.length); rw [HN.out.1]; exact IS2.out
        · rw [HN.out.2]; show InInt _ _ _ (mkI (kk + 5 + t.names.length) t.kids.length); rw [HN.out.1, HN.out.2]; exact II.out)
      have R5 := hide (show Row w3 g m (set5 m k f (.bool ((kk : Int) % 3 == 0)) (.int .i64 ((kk : Int) + 1)) (.int .i64 ((kk : Int) + 1 + 1)) (.int .i64 ((kk : Int) + 1 + 1 + 1)) (.string (mtx (kk + 4)))) from R4.out)
      have HFF := hide (set5_off (m := m) (k := k) f (.bool ((kk : Int) % 3 == 0)) (.int .i64 ((kk : Int) + 1)) (.int .i64 ((kk : Int) + 1 + 1)) (.int .i64 ((kk : Int) + 1 + 1 + 1)) (.string (mtx (kk + 4))))
      generalize set5 m k f (.bool ((kk : Int) % 3 == 0)) (.int .i64 ((kk : Int) + 1)) (.int .i64 ((kk : Int) + 1 + 1)) (.int .i64 ((kk : Int) + 1 + 1 + 1)) (.string (mtx (kk + 4))) = F at *
      clear hb hin c6 hq1 hq2
      go_wp2_with fail
      refine ⟨⟨k + 1, F, by omega, congrArg (Value.int .i64) (by rw [HKS.out]; omega), by go_num, R5, hide fun i u hu hi => ?_, hide fun i u hu hi => ?_, O5⟩, by simp [intOf] <;> omega⟩
      · exact (hown.out i u hu (by omega)).step O4.out HQ.out hlt (by have := (List.getElem?_eq_some_iff.1 hu).1; omega) (by omega) (HFF.out i (by omega))
      · rcases Nat.lt_or_ge i k with hik | hik
        · exact (hmk.out i u hu hik).step O4.out HQ.out hlt (by omega) (by omega) (HFF.out i (by omega))
        · obtain rfl : i = k := by omega
          obtain rfl := Option.some.inj (hu.symm.trans HT.out)
          rw [HKK.out]
          exact HM.out
    · obtain rfl : k = n := by omega
      have HE := hide (rdNode_mk (n := k) hrow.out fun i t ht => hmk.out i t ht (by have := (List.getElem?_eq_some_iff.1 ht).1; omega))
      have hkk : ¬ (k : Int) < k := by omega
      go_wp2_with fail
      go_ret
      exact ⟨rfl, hoff.out, HE.out⟩
end Go.Proofs.Ytncjghmjlcohjaa
