/-
  Copies of trees by append: what grows, slices.Clone. No condition.
-/
import Derived.Test.YtncjghmjlcohjaaProg
import Derived.Test.YtncjghmjlcohjaaHel
import Derived.Lib.SliceRun
namespace Go.Proofs.Ytncjghmjlcohjaa
open Go.RowKit
set_option linter.unusedSimpArgs false
set_option linter.unusedVariables false

/-- A block of strings of one's own; a block of ints. -/
def SB (w : World) (s : Nat) (l : List ByteArray) : Prop := RdString w s 0 l ∧ Wr w (some ⟨s, 0, none⟩) l.length ∧ ∃ C, w.heap[s]? = some (.cells C 9 (0, 0))
def KB (w : World) (s : Nat) (l : List Int) : Prop := RdInt w s 0 l ∧ Wr w (some ⟨s, 0, none⟩) l.length ∧ ∃ C, w.heap[s]? = some (.cells C 3 (0, 0))
theorem SB.keep {w w' : World} {s : Nat} {l : List ByteArray} (h : SB w s l) (hs : w.heap.size ≤ w'.heap.size) (hb : w'.heap[s]? = w.heap[s]?) : SB w' s l := by
  obtain ⟨h1, h2, C, h3⟩ := h
  refine ⟨h1.keep hs hb, fun h0 => ?_, C, hb.trans h3⟩
  obtain ⟨g, m, e1, e2, e3⟩ := h2 h0
  obtain ⟨rfl⟩ : s = g := by simpa using e1
  exact ⟨s, m, rfl, e2, e3.keep hb⟩
theorem KB.keep {w w' : World} {s : Nat} {l : List Int} (h : KB w s l) (hs : w.heap.size ≤ w'.heap.size) (hb : w'.heap[s]? = w.heap[s]?) : KB w' s l := by
  obtain ⟨h1, h2, C, h3⟩ := h
  refine ⟨h1.keep hs hb, fun h0 => ?_, C, hb.trans h3⟩
  obtain ⟨g, m, e1, e2, e3⟩ := h2 h0
  obtain ⟨rfl⟩ : s = g := by simpa using e1
  exact ⟨s, m, rfl, e2, e3.keep hb⟩
theorem SB.below {w w' : World} {s : Nat} {l : List ByteArray} (h : SB w s l) (hb : Below w.heap.size w w') : SB w' s l := h.keep hb.size (hb.block s h.1.1)
theorem KB.below {w w' : World} {s : Nat} {l : List Int} (h : KB w s l) (hb : Below w.heap.size w w') : KB w' s l := h.keep hb.size (hb.block s h.1.1)
theorem sb_of {w : World} {B n : Nat} {V : Value} {l : List ByteArray} (hl : l.length = n) (h : w.ownsRow B 9 1 V n (l.map Value.string)) (hv : V ≠ .slice none 0 0) : ∃ s c, V = .slice (some ⟨s, 0, none⟩) n c ∧ n ≤ c ∧ B ≤ s ∧ SB w s l := by
  rcases h.2 with ⟨h', _⟩ | ⟨g, cap, cur, rfl, h4, h5, h6, h7, h8, h9⟩
  · exact absurd h' hv
  · have hr : Row w g cap (fun j => (l.map Value.string)[j]?) := ⟨cur, _, h5, by omega, fun j u hj => by
      dsimp only at hj
      rw [← h9, List.getElem?_take] at hj
      split at hj
      · simpa using hj
      · cases hj⟩
    refine ⟨g, cap, rfl, h6, h4, ⟨hr.lt, fun k x hx => ?_⟩, fun _ => ⟨g, cap, rfl, by omega, hr.mono fun j u hj => by cases hj⟩, cur, h5⟩
    rw [Nat.zero_add]
    exact hr.cell (by rw [List.getElem?_map, hx]; rfl)
theorem kb_of {w : World} {B n : Nat} {V : Value} {l : List Int} (hl : l.length = n) (h : w.ownsRow B 3 1 V n (l.map (Value.int .i64))) (hv : V ≠ .slice none 0 0) : ∃ s c, V = .slice (some ⟨s, 0, none⟩) n c ∧ n ≤ c ∧ B ≤ s ∧ KB w s l := by
  rcases h.2 with ⟨h', _⟩ | ⟨g, cap, cur, rfl, h4, h5, h6, h7, h8, h9⟩
  · exact absurd h' hv
  · have hr : Row w g cap (fun j => (l.map (Value.int .i64))[j]?) := ⟨cur, _, h5, by omega, fun j u hj => by
      dsimp only at hj
      rw [← h9, List.getElem?_take] at hj
      split at hj
      · simpa using hj
      · cases hj⟩
    refine ⟨g, cap, rfl, h6, h4, ⟨hr.lt, fun k x hx => ?_⟩, fun _ => ⟨g, cap, rfl, by omega, hr.mono fun j u hj => by cases hj⟩, cur, h5⟩
    rw [Nat.zero_add]
    exact hr.cell (by rw [List.getElem?_map, hx]; rfl)
theorem str_cells {w : World} {A : Addr} {n : Nat} {l : List ByteArray} (h : InString w (some A) n l) (j : Nat) (u : Value) (hj : (l.map Value.string)[j]? = some u) : w.cell? (A.add j) = some u := by
  rw [List.getElem?_map, Option.map_eq_some_iff] at hj
  obtain ⟨x, hx, rfl⟩ := hj
  obtain ⟨b, off, hA, hR⟩ := h.2 (by have := (List.getElem?_eq_some_iff.1 hx).1; have := h.1; omega)
  cases hA
  rw [Addr.add_lit]
  exact hR.2 j x hx
theorem int_cells {w : World} {A : Addr} {n : Nat} {l : List Int} (h : InInt w (some A) n l) (j : Nat) (u : Value) (hj : (l.map (Value.int .i64))[j]? = some u) : w.cell? (A.add j) = some u := by
  rw [List.getElem?_map, Option.map_eq_some_iff] at hj
  obtain ⟨x, hx, rfl⟩ := hj
  obtain ⟨b, off, hA, hR⟩ := h.2 (by have := (List.getElem?_eq_some_iff.1 hx).1; have := h.1; omega)
  cases hA
  rw [Addr.add_lit]
  exact hR.2 j x hx
theorem one_str (l : List ByteArray) : ∀ u ∈ l.map Value.string, u.oneCell' = true := by
  intro u hu; obtain ⟨x, _, rfl⟩ := List.mem_map.1 hu; rfl
theorem one_int (l : List Int) : ∀ u ∈ l.map (Value.int .i64), u.oneCell' = true := by
  intro u hu; obtain ⟨x, _, rfl⟩ := List.mem_map.1 hu; rfl
theorem cells_new (w : World) (cur : Array Value) (T : TypeId) {n : Nat} (hn : w.heap.size = n) : ∀ j u, cur.toList[j]? = some u → (w.alloc (.cells cur T)).cell? ((⟨n, 0, none⟩ : Addr).add j) = some u := by
  subst hn
  intro j u hj
  rw [Addr.add_lit, Nat.zero_add]
  exact (Row.made w T cur (fun j => cur[j]?) (fun _ _ h => h)).cell (by simpa using hj)
set_option maxHeartbeats 2000000 in
theorem cloneS_c (A : Addr) (n c : Nat) (l : List ByteArray) (hl : l.length = n) (hn : n ≤ 1048576) (w : World) (hI : InString w (some A) n l) :
    Calls Try.prog 61 #[.slice (some A) n c] w fun e w' => ∃ s c', e = .returned (.slice (some ⟨s, 0, none⟩) n c') ∧ n ≤ c' ∧ w.heap.size ≤ s ∧ SB w' s l ∧ Below w.heap.size w w' := by
  obtain ⟨i0, hi0, hz0, hz1, hz2⟩ := info_parts infoString
  have A' := hide hI
  have HI := hide hi0
  have HZ0 := hide hz0
  have HZ1 := hide hz1
  have HZ2 := hide hz2
  clear hI hi0 hz0 hz1 hz2
  have q22 : ∀ (w : World) (a : Option Addr) (n c n' c' : Nat), (binOp .eql 56 (.slice a n c) (.slice none n' c')).run Try.prog w = .ok (.bool a.isNone) w := fun w a n c n' c' => Lib.run_eql_slice_nil w _ _ a n c n' c' Try.underlying56
  go_enter Try.func61, Try.ntmps61
  go_wp2_with (at_builtin; refine wpList_append_own _ rfl _ _ 56 rfl w.heap.size 9 i0 _ 1 16 Try.underlying56 HI.out HZ0.out HZ1.out HZ2.out rfl (by decide) _ _ _ rfl (World.ownsRow_made w #[] 0 (Nat.le_refl _) (Nat.zero_le _) (by simp)) A n c (l.map Value.string) rfl ?qc1 ?qc2 ?qc3 ?qc4 ?qc5 ?qc6 ?_)
  case qc1 => rw [List.length_map, hl, Nat.mul_one]
  case qc2 => exact str_cells (A'.out.below (below_alloc0 (Below.refl _ _) _))
  case qc3 => exact one_str l
  case qc4 => rw [Nat.zero_add]; unfold maxLen; omega
  case qc5 => rw [Nat.zero_add]; omega
  case qc6 => simp
  intro v' w1 hown hgrow hnil
  have hnil' : v' ≠ .slice none 0 0 := hnil
  obtain ⟨s, c', rfl, h1, h2, h3⟩ := sb_of hl (by simpa using hown) hnil'
  go_wp2
  go_ret
  exact ⟨s, c', rfl, h1, h2, h3, ((Below.refl _ w).alloc (Nat.le_refl _) _).grown hgrow (by simp) (by intro k hk; simp [Value.ownBlock] at hk; omega)⟩
set_option maxHeartbeats 2000000 in
theorem cloneK_c (A : Addr) (n c : Nat) (l : List Int) (hl : l.length = n) (hn : n ≤ 1048576) (w : World) (hI : InInt w (some A) n l) :
    Calls Try.prog 62 #[.slice (some A) n c] w fun e w' => ∃ s c', e = .returned (.slice (some ⟨s, 0, none⟩) n c') ∧ n ≤ c' ∧ w.heap.size ≤ s ∧ KB w' s l ∧ Below w.heap.size w w' := by
  obtain ⟨i0, hi0, hz0, hz1, hz2⟩ := info_parts infoInt
  have A' := hide hI
  have HI := hide hi0
  have HZ0 := hide hz0
  have HZ1 := hide hz1
  have HZ2 := hide hz2
  clear hI hi0 hz0 hz1 hz2
  have q22 : ∀ (w : World) (a : Option Addr) (n c n' c' : Nat), (binOp .eql 45 (.slice a n c) (.slice none n' c')).run Try.prog w = .ok (.bool a.isNone) w := fun w a n c n' c' => Lib.run_eql_slice_nil w _ _ a n c n' c' Try.underlying45
  go_enter Try.func62, Try.ntmps62
  go_wp2_with (at_builtin; refine wpList_append_own _ rfl _ _ 45 rfl w.heap.size 3 i0 _ 1 8 Try.underlying45 HI.out HZ0.out HZ1.out HZ2.out rfl (by decide) _ _ _ rfl (World.ownsRow_made w #[] 0 (Nat.le_refl _) (Nat.zero_le _) (by simp)) A n c (l.map (Value.int .i64)) rfl ?qc1 ?qc2 ?qc3 ?qc4 ?qc5 ?qc6 ?_)
  case qc1 => rw [List.length_map, hl, Nat.mul_one]
  case qc2 => exact int_cells (A'.out.below (below_alloc0 (Below.refl _ _) _))
  case qc3 => exact one_int l
  case qc4 => rw [Nat.zero_add]; unfold maxLen; omega
  case qc5 => rw [Nat.zero_add]; omega
  case qc6 => simp
  intro v' w1 hown hgrow hnil
  have hnil' : v' ≠ .slice none 0 0 := hnil
  obtain ⟨s, c', rfl, h1, h2, h3⟩ := kb_of hl (by simpa using hown) hnil'
  go_wp2
  go_ret
  exact ⟨s, c', rfl, h1, h2, h3, ((Below.refl _ w).alloc (Nat.le_refl _) _).grown hgrow (by simp) (by intro k hk; simp [Value.ownBlock] at hk; omega)⟩
/-- A node that was copied: vs the cells. -/
def NodeCp (w : World) (q : Nat → Nat) (vs : List Value) (i : Nat) (t : Node) : Prop :=
  ∃ s c s2 c2, (∀ j, j < 7 → vs[i * 7 + j]? = ([.bool t.dir, .int .i64 t.owner, .int .i64 t.group, .int .i64 t.mode, .string t.text, .slice (some ⟨s, 0, none⟩) t.names.length c, .slice (some ⟨s2, 0, none⟩) t.kids.length c2] : List Value)[j]?) ∧ t.names.length ≤ c ∧ t.kids.length ≤ c2 ∧ q (2 * i) ≤ s ∧ s < q (2 * i + 1) ∧ q (2 * i + 1) ≤ s2 ∧ s2 < q (2 * i + 2) ∧ SB w s t.names ∧ KB w s2 t.kids
/-- The first k nodes were copied into the slice V of one's own. -/
structure CpT (w : World) (B : Nat) (V : Value) (vs : List Value) (q : Nat → Nat) (l : List Node) (k : Nat) : Prop where
  own : w.ownsRow B 60 7 V k vs
  nn : V ≠ .slice none 0 0
  nodes : ∀ i t, i < k → l[i]? = some t → NodeCp w q vs i t
  mono : ∀ i j, i ≤ j → j ≤ 2 * k → q i ≤ q j
  lo : B ≤ q 0
  hi : q (2 * k) ≤ w.heap.size
theorem CpT.below {w w' : World} {B k : Nat} {V : Value} {vs : List Value} {q : Nat → Nat} {l : List Node} (h : CpT w B V vs q l k) (hb : Below w.heap.size w w') : CpT w' B V vs q l k := by
  refine ⟨own_below h.own hb, h.nn, fun i t hi ht => ?_, h.mono, h.lo, Nat.le_trans h.hi hb.size⟩
  obtain ⟨s, c, s2, c2, h1, h2, h3, h4, h5, h6, h7, h8, h9⟩ := h.nodes i t hi ht
  exact ⟨s, c, s2, c2, h1, h2, h3, h4, h5, h6, h7, h8.below hb, h9.below hb⟩
theorem CpT.len {w : World} {B k : Nat} {V : Value} {vs : List Value} {q : Nat → Nat} {l : List Node} (h : CpT w B V vs q l k) : vs.length = k * 7 := h.own.1
theorem not_own {w : World} {B k s : Nat} {V : Value} {vs : List Value} {T : TypeId} {C : Array Value} (h : w.ownsRow B 60 7 V k vs) (hT : T ≠ 60) (hs : w.heap[s]? = some (.cells C T (0, 0))) : some s ≠ V.ownBlock := by
  rcases h.2 with ⟨h', _⟩ | ⟨g, cap, cur, h', h4, h5, _⟩
  · subst h'; intro e; cases e
  · subst h'
    intro e
    obtain rfl : s = g := by simpa [Value.ownBlock] using e
    rw [h5] at hs
    simp only [Option.some.injEq, Obj.cells.injEq, and_true] at hs
    exact hT hs.2.symm
theorem CpT.add {w w' : World} {B k s c s2 c2 : Nat} {V V' : Value} {vs : List Value} {q : Nat → Nat} {l : List Node} {t : Node} (h : CpT w B V vs q l k) (ht : l[k]? = some t) (hS : SB w s t.names) (hK : KB w s2 t.kids) (hq : q (2 * k) ≤ s) (h12 : s < s2) (hc : t.names.length ≤ c) (hc2 : t.kids.length ≤ c2)
    (hown : w'.ownsRow B 60 7 V' (k + 1) (vs ++ [.bool t.dir, .int .i64 t.owner, .int .i64 t.group, .int .i64 t.mode, .string t.text, .slice (some ⟨s, 0, none⟩) t.names.length c, .slice (some ⟨s2, 0, none⟩) t.kids.length c2])) (hg : w.grownBy w' V.ownBlock) (hn : V' ≠ .slice none 0 0) :
    CpT w' B V' (vs ++ [.bool t.dir, .int .i64 t.owner, .int .i64 t.group, .int .i64 t.mode, .string t.text, .slice (some ⟨s, 0, none⟩) t.names.length c, .slice (some ⟨s2, 0, none⟩) t.kids.length c2]) (fun i => if i ≤ 2 * k then q i else if i = 2 * k + 1 then s2 else w.heap.size) l (k + 1) := by
  have hlen := h.len
  have hl2 := hK.1.1
  have hSk : ∀ a x, SB w a x → SB w' a x := fun a x hx => hx.keep hg.size (hg.block a hx.1.1 (by obtain ⟨C, hC⟩ := hx.2.2; exact not_own h.own (by decide) hC))
  have hKk : ∀ a x, KB w a x → KB w' a x := fun a x hx => hx.keep hg.size (hg.block a hx.1.1 (by obtain ⟨C, hC⟩ := hx.2.2; exact not_own h.own (by decide) hC))
  refine ⟨hown, hn, fun i u hi hu => ?_, fun i j hij hj => ?_, ?_, ?_⟩
  · rcases Nat.lt_or_ge i k with hlt | hge
    · obtain ⟨a, x, a2, x2, h1, h2, h3, h4, h5, h6, h7, h8, h9⟩ := h.nodes i u hlt hu
      refine ⟨a, x, a2, x2, fun j hj => by rw [List.getElem?_append_left (by omega)]; exact h1 j hj, h2, h3, ?_, ?_, ?_, ?_, hSk _ _ h8, hKk _ _ h9⟩
      · (try dsimp only); rw [if_pos (by omega)]; exact h4
      · (try dsimp only); rw [if_pos (by omega)]; exact h5
      · (try dsimp only); rw [if_pos (by omega)]; exact h6
      · (try dsimp only); rw [if_pos (by omega)]; exact h7
    · obtain rfl : i = k := by omega
      obtain rfl := Option.some.inj (hu.symm.trans ht)
      refine ⟨s, c, s2, c2, fun j hj => by rw [List.getElem?_append_right (by omega), show i * 7 + j - vs.length = j by omega], hc, hc2, ?_, ?_, ?_, ?_, hSk _ _ hS, hKk _ _ hK⟩
      · (try dsimp only); rw [if_pos (by omega)]; exact hq
      · (try dsimp only); rw [if_neg (by omega), if_pos rfl]; exact h12
      · (try dsimp only); rw [if_neg (by omega), if_pos rfl]; exact Nat.le_refl _
      · (try dsimp only); rw [if_neg (by omega), if_neg (by omega)]; exact hl2
  · try dsimp only
    have hm := h.mono i (2 * k)
    have hx := h.mono
    repeat' split
    all_goals first | omega | exact hx _ _ hij (by omega) | (have := hm (by omega) (by omega); omega)
  · (try dsimp only); rw [if_pos (by omega)]; exact h.lo
  · (try dsimp only); rw [if_neg (by omega), if_neg (by omega)]; exact hg.size
/-- A block that holds no handle. -/
def NHb (w : World) (b : Nat) : Prop := ∃ C T, w.heap[b]? = some (.cells C T (0, 0)) ∧ T ≠ 32
def NH (w : World) (A : Option Addr) (n : Nat) : Prop := 0 < n → ∀ a, A = some a → NHb w a.block
theorem NH.offP {P : Nat → Prop} {w w' : World} {A : Option Addr} {n : Nat} (h : NH w A n) (ho : OffP P w w') (hd : ∀ a, 0 < n → A = some a → ¬ P a.block) : NH w' A n := fun h0 a hA => by
  obtain ⟨C, T, e, hT⟩ := h h0 a hA
  have hl : a.block < w.heap.size := by
    rcases Nat.lt_or_ge a.block w.heap.size with hl | hl
    · exact hl
    · rw [Array.getElem?_eq_none hl] at e; cases e
  exact ⟨C, T, (ho.2 _ hl (hd a h0 hA)).trans e, hT⟩
/-- A node of a slice of one's own, with all that it holds: f tells the cells; h: no block holds a handle. -/
def NodeC (h : Bool) (w : World) (g : Nat) (q : Nat → Nat) (f : Nat → Option Value) (i : Nat) (t : Node) : Prop :=
  ∃ A c A2 c2, (∀ j, j < 7 → f (i * 7 + j) = ([.bool t.dir, .int .i64 t.owner, .int .i64 t.group, .int .i64 t.mode, .string t.text, .slice A t.names.length c, .slice A2 t.kids.length c2] : List Value)[j]?) ∧ t.names.length ≤ c ∧ t.kids.length ≤ c2 ∧ Loc (q (2 * i)) (q (2 * i + 1)) g A t.names.length ∧ Loc (q (2 * i + 1)) (q (2 * i + 2)) g A2 t.kids.length ∧ Wr w A t.names.length ∧ Wr w A2 t.kids.length ∧ InString w A t.names.length t.names ∧ InInt w A2 t.kids.length t.kids ∧ (h = true → NH w A t.names.length ∧ NH w A2 t.kids.length)
/-- A slice of nodes of one's own that reads as the list: all its blocks lie at B or behind. -/
def CpN (h : Bool) (w : World) (B : Nat) (V : Value) (l : List Node) (n : Nat) : Prop := ∃ g c m q f, V = .slice (some ⟨g, 0, none⟩) n c ∧ n ≤ c ∧ B ≤ g ∧ l.length = n ∧ n * 7 ≤ m ∧ (∀ i j, i ≤ j → j ≤ 2 * n → q i ≤ q j) ∧ Row w g m f ∧ (∀ i t, l[i]? = some t → NodeC h w g q f i t) ∧ B ≤ q 0 ∧ q (2 * n) ≤ w.heap.size ∧ (h = true → NHb w g)
theorem NHb.setCell {w : World} {g : Nat} (h : NHb w g) (b o : Nat) (v : Value) : NHb (w.setCell ⟨b, o, none⟩ v) g := by
  obtain ⟨C, T, e, hT⟩ := h
  by_cases hb : g = b
  · subst hb
    exact ⟨C.setIfInBounds o v, T, by simp [World.setCell, Array.getElem?_modify, e], hT⟩
  · exact ⟨C, T, (Below.heap_setCell w ⟨b, o, none⟩ v g hb).trans e, hT⟩
theorem NodeC.own {h' : Bool} {w : World} {g i : Nat} {q : Nat → Nat} {f : Nat → Option Value} {t : Node} (h : NodeC h' w g q f i t) : NodeOwn w g q f i t := by
  obtain ⟨A, c, A2, c2, h1, h2, h3, h4, h5, h6, h7, _, _, _⟩ := h
  exact ⟨A, c, A2, c2, h1 5 (by omega), h1 6 (by omega), h2, h3, h4, h5, h6, h7⟩
theorem NodeC.at {h' : Bool} {w : World} {g m i : Nat} {q : Nat → Nat} {f : Nat → Option Value} {t : Node} (h : NodeC h' w g q f i t) (hr : Row w g m f) : ∃ S K, NodeAt w g (i * 7) t S K ∧ SlS w S t.names ∧ SlK w K t.kids := by
  obtain ⟨A, c, A2, c2, h1, h2, h3, _, _, _, _, h8, h9, _⟩ := h
  have hc : ∀ j v, j < 7 → ([.bool t.dir, .int .i64 t.owner, .int .i64 t.group, .int .i64 t.mode, .string t.text, .slice A t.names.length c, .slice A2 t.kids.length c2] : List Value)[j]? = some v → w.cell? ⟨g, i * 7 + j, none⟩ = some v := fun j v hj hv => hr.cell ((h1 j hj).trans hv)
  exact ⟨_, _, ⟨hc 0 _ (by omega) rfl, hc 1 _ (by omega) rfl, hc 2 _ (by omega) rfl, hc 3 _ (by omega) rfl, hc 4 _ (by omega) rfl, hc 5 _ (by omega) rfl, hc 6 _ (by omega) rfl⟩, ⟨A, _, c, rfl, h2, h8⟩, ⟨A2, _, c2, rfl, h3, h9⟩⟩
theorem CpN.inN {h' : Bool} {w : World} {B n : Nat} {V : Value} {l : List Node} (h : CpN h' w B V l n) : ∃ g c, V = .slice (some ⟨g, 0, none⟩) n c ∧ n ≤ c ∧ InNode w (some ⟨g, 0, none⟩) n l := by
  obtain ⟨g, c, m, q, f, h1, h2, h3, h4, h5, h6, h7, h8, h9, h10, h11⟩ := h
  exact ⟨g, c, h1, h2, h4, fun _ => ⟨g, 0, rfl, h7.lt, fun k t ht => by rw [Nat.zero_add]; exact (h8 k t ht).at h7⟩⟩
theorem NodeC.move {h' : Bool} {P : Nat → Prop} {w w' : World} {g i : Nat} {q : Nat → Nat} {f : Nat → Option Value} {t : Node} (h : NodeC h' w g q f i t) (ho : OffP P w w') (hP : ∀ b, b ≠ g → q (2 * i) ≤ b → b < q (2 * i + 2) → ¬ P b) (hq1 : q (2 * i) ≤ q (2 * i + 1)) (hq2 : q (2 * i + 1) ≤ q (2 * i + 2)) : NodeC h' w' g q f i t := by
  obtain ⟨A, c, A2, c2, e1, e2, e3, e4, e5, e6, e7, e8, e9, e10⟩ := h
  have k1 : ∀ a, 0 < t.names.length → A = some a → ¬ P a.block := fun a h0 hA => by
    have := e4 a h0 hA
    exact hP _ this.2.2 (by omega) (by omega)
  have k2 : ∀ a, 0 < t.kids.length → A2 = some a → ¬ P a.block := fun a h0 hA => by
    have := e5 a h0 hA
    exact hP _ this.2.2 (by omega) (by omega)
  exact ⟨A, c, A2, c2, e1, e2, e3, e4, e5, e6.offP ho k1, e7.offP ho k2, e8.offP ho k1, e9.offP ho k2, fun hh => ⟨(e10 hh).1.offP ho k1, (e10 hh).2.offP ho k2⟩⟩
theorem CpN.offP {h' : Bool} {P : Nat → Prop} {w w' : World} {B n : Nat} {V : Value} {l : List Node} (h : CpN h' w B V l n) (ho : OffP P w w') (hP : ∀ b, P b → b < w.heap.size → b < B) : CpN h' w' B V l n := by
  obtain ⟨g, c, m, q, f, h1, h2, h3, h4, h5, h6, h7, h8, h9, h10, h11⟩ := h
  refine ⟨g, c, m, q, f, h1, h2, h3, h4, h5, h6, ho.row (fun hp => by have := hP g hp h7.lt; omega) h7, fun i t ht => ?_, h9, Nat.le_trans h10 ho.1.size, fun hh => by
    obtain ⟨C, T, e, hT⟩ := h11 hh
    exact ⟨C, T, (ho.2 g h7.lt (fun hp => by have := hP g hp h7.lt; omega)).trans e, hT⟩⟩
  have hi := (List.getElem?_eq_some_iff.1 ht).1
  have q0 := h6 0 (2 * i) (by omega) (by omega)
  have q1 := h6 (2 * i + 2) (2 * n) (by omega) (by omega)
  exact (h8 i t ht).move ho (fun b _ hb1 hb2 hp => by have := hP b hp (by omega); omega) (h6 _ _ (by omega) (by omega)) (h6 _ _ (by omega) (by omega))
theorem CpN.below {h' : Bool} {w w' : World} {B n : Nat} {V : Value} {l : List Node} (h : CpN h' w B V l n) (hb : Below w.heap.size w w') : CpN h' w' B V l n := h.offP (P := fun _ => False) (OffP.ofBelow hb) (fun _ h => h.elim)
theorem CpN.mono {h' : Bool} {w : World} {B B' n : Nat} {V : Value} {l : List Node} (h : CpN h' w B V l n) (hB : B' ≤ B) : CpN h' w B' V l n := by
  obtain ⟨g, c, m, q, f, h1, h2, h3, h4, h5, h6, h7, h8, h9, h10, h11⟩ := h
  exact ⟨g, c, m, q, f, h1, h2, Nat.le_trans hB h3, h4, h5, h6, h7, h8, Nat.le_trans hB h9, h10, h11⟩
theorem CpT.fin {w : World} {B n : Nat} {V : Value} {vs : List Value} {q : Nat → Nat} {l : List Node} (h : CpT w B V vs q l n) (hl : l.length = n) : CpN true w B V l n := by
  rcases h.own.2 with ⟨h', _⟩ | ⟨g, cap, cur, hV, h4, h5, h6, h7, h8, h9⟩
  · exact absurd h' h.nn
  · have hr : Row w g (cap * 7) (fun j => vs[j]?) := ⟨cur, _, h5, by omega, fun j u hj => by
      dsimp only at hj
      rw [← h9, List.getElem?_take] at hj
      split at hj
      · simpa using hj
      · cases hj⟩
    have hgne : ∀ {s : Nat} {C : Array Value} {T : TypeId}, T ≠ 60 → w.heap[s]? = some (.cells C T (0, 0)) → s ≠ g := fun hT hs e => not_own h.own hT hs (by rw [e, hV]; rfl)
    refine ⟨g, cap, cap * 7, q, _, hV, h6, h4, hl, Nat.mul_le_mul_right _ h6, h.mono, hr, fun i t ht => ?_, h.lo, h.hi, fun _ => ⟨cur, _, h5, by decide⟩⟩
    have hk : i < n := by rw [← hl]; exact (List.getElem?_eq_some_iff.1 ht).1
    obtain ⟨s, c, s2, c2, e1, e2, e3, e4, e5, e6, e7, e8, e9⟩ := h.nodes i t hk ht
    refine ⟨_, c, _, c2, e1, e2, e3, fun a h0 hA => ?_, fun a h0 hA => ?_, e8.2.1, e9.2.1, ⟨rfl, fun _ => ⟨s, 0, rfl, e8.1⟩⟩, ⟨rfl, fun _ => ⟨s2, 0, rfl, e9.1⟩⟩, fun _ => ⟨fun _ a hA => ?_, fun _ a hA => ?_⟩⟩
    · cases hA
      obtain ⟨C, hC⟩ := e8.2.2
      exact ⟨e4, e5, hgne (by decide) hC⟩
    · cases hA
      obtain ⟨C, hC⟩ := e9.2.2
      exact ⟨e6, e7, hgne (by decide) hC⟩
    · cases hA
      obtain ⟨C, hC⟩ := e8.2.2
      exact ⟨C, _, hC, by decide⟩
    · cases hA
      obtain ⟨C, hC⟩ := e9.2.2
      exact ⟨C, _, hC, by decide⟩
/-- The node with another text. -/
def Node.re (t : Node) (T : ByteArray) : Node := { t with text := T }
theorem CpN.text {h' : Bool} {w : World} {B n k g c : Nat} {l : List Node} {t : Node} (h : CpN h' w B (.slice (some ⟨g, 0, none⟩) n c) l n) (ht : l[k]? = some t) (T : ByteArray) :
    (w.cell? ⟨g, k * 7 + 4, none⟩ = some (.string t.text) ∧ w.frozen? ⟨g, k * 7 + 4, none⟩ = false ∧ g < w.heap.size ∧ B ≤ g) ∧ CpN h' (w.setCell ⟨g, k * 7 + 4, none⟩ (.string T)) B (.slice (some ⟨g, 0, none⟩) n c) (l.set k (t.re T)) n := by
  obtain ⟨g', c', m, q, f, h1, h2, h3, h4, h5, h6, h7, h8, h9, h10, h11⟩ := h
  simp only [Value.slice.injEq, Option.some.injEq, Addr.mk.injEq, and_true, true_and] at h1
  obtain ⟨rfl, rfl⟩ := h1
  have hk := (List.getElem?_eq_some_iff.1 ht).1
  have hc : f (k * 7 + 4) = some (.string t.text) := by
    obtain ⟨A, x, A2, x2, e1, _⟩ := h8 k t ht
    exact e1 4 (by omega)
  refine ⟨⟨h7.cell hc, h7.frozen _, h7.lt, h3⟩, g, c, m, q, _, rfl, h2, h3, by simp [h4], h5, h6, h7.set (k * 7 + 4) (.string T), fun i u hu => ?_, h9, by simpa using h10, fun hh => (h11 hh).setCell _ _ _⟩
  have hi : i < n := by have := (List.getElem?_eq_some_iff.1 hu).1; simpa [h4] using this
  have hmv := fun u' hu' => (h8 i u' hu').move (P := fun b => b = g) ((OffP.refl (fun b => b = g) w).setCell (o := k * 7 + 4) rfl (.string T)) (fun b hb _ _ => hb) (h6 _ _ (by omega) (by omega)) (h6 _ _ (by omega) (by omega))
  by_cases hik : i = k
  · subst hik
    obtain rfl : u = t.re T := by
      rw [List.getElem?_set_self (by omega)] at hu
      exact (Option.some.inj hu).symm
    obtain ⟨A, x, A2, x2, e1, e2, e3, e4, e5, e6, e7, e8, e9, e10⟩ := hmv t ht
    refine ⟨A, x, A2, x2, fun j hj => ?_, e2, e3, e4, e5, e6, e7, e8, e9, e10⟩
    by_cases h4' : j = 4
    · subst h4'
      dsimp only
      rw [if_pos rfl, if_pos (by omega)]
      rfl
    · dsimp only
      rw [if_neg (by omega), e1 j hj]
      obtain e | e | e | e | e | e : j = 0 ∨ j = 1 ∨ j = 2 ∨ j = 3 ∨ j = 5 ∨ j = 6 := by omega
      all_goals subst e; rfl
  · rw [List.getElem?_set_ne (by omega)] at hu
    obtain ⟨A, x, A2, x2, e1, e2⟩ := hmv u hu
    exact ⟨A, x, A2, x2, fun j hj => by dsimp only; rw [if_neg (by omega)]; exact e1 j hj, e2⟩
end Go.Proofs.Ytncjghmjlcohjaa
