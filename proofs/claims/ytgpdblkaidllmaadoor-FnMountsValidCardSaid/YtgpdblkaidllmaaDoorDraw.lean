/-
  The drawing words of the reference: a code that came in, its reader, pick and odd. No condition.
-/
import Derived.Test.YtgpdblkaidllmaaDoorProg
import Derived.Test.YtgpdblkaidllmaaDoorBase
namespace Go.Proofs.YtgpdblkaidllmaaDoor
open Go.RowKit
set_option linter.unusedSimpArgs false
set_option linter.unusedVariables false

/-- All that lay there, but for block g, is as it was. -/
def Aside (g : Nat) (w w' : World) : Prop := Below 0 w w' ∧ ∀ b, b < w.heap.size → b ≠ g → w'.heap[b]? = w.heap[b]?
section
variable {g B : Nat} {w0 w w' w'' : World}
theorem Aside.refl (g : Nat) (w : World) : Aside g w w := ⟨Below.refl _ _, fun _ _ _ => rfl⟩
theorem Aside.trans (h : Aside g w w') (k : Aside g w' w'') : Aside g w w'' :=
  ⟨h.1.trans k.1, fun b hb hg => (k.2 b (Nat.lt_of_lt_of_le hb h.1.size) hg).trans (h.2 b hb hg)⟩
theorem Aside.setCell (h : Aside g w w') (o : Nat) (v : Value) : Aside g w (w'.setCell ⟨g, o, none⟩ v) :=
  ⟨h.1.setCell (p := ⟨g, o, none⟩) (Nat.zero_le _) v, fun b hb hg => (Below.heap_setCell w' ⟨g, o, none⟩ v b (by simpa using hg)).trans (h.2 b hb hg)⟩
theorem Aside.of_below (h : Below w.heap.size w w') : Aside g w w' := ⟨h.mono (Nat.zero_le _), fun b hb _ => h.block b hb⟩
theorem Aside.then_below (h : Aside g w w') (k : Below w'.heap.size w' w'') : Aside g w w'' := h.trans (Aside.of_below k)
theorem Aside.drew (h : Aside g w w') : Aside g w w'.drew := ⟨h.1.drew, h.2⟩
theorem Aside.drewN (h : Aside g w w') (n : Nat) : Aside g w (w'.drewN n) := ⟨below_drewN h.1 n, h.2⟩
theorem Aside.alloc (h : Aside g w w') (o : Obj) : Aside g w (w'.alloc o) :=
  ⟨h.1.alloc (Nat.zero_le _) o, fun b hb hg => (Below.heap_alloc w' o b (Nat.lt_of_lt_of_le hb h.1.size)).trans (h.2 b hb hg)⟩
theorem Aside.below (h : Aside g w w') (hb : Below B w0 w) (hB : B ≤ g) (hs : B ≤ w.heap.size) : Below B w0 w' :=
  hb.trans ⟨h.1.os, h.1.tape, h.1.output, h.1.size, fun b hb => h.2 b (by omega) (by omega)⟩
theorem Aside.row {b k : Nat} {f : Nat → Option Value} (h : Aside g w w') (hg : b ≠ g) (hR : Row w b k f) : Row w' b k f := hR.keep (h.2 b hR.lt hg)
theorem Aside.cell (h : Aside g w w') {b : Nat} (hb : b < w.heap.size) (hg : b ≠ g) (o : Nat) : w'.cell? ⟨b, o, none⟩ = w.cell? ⟨b, o, none⟩ := by
  simp [World.cell?, h.2 b hb hg]
theorem Aside.frozen (h : Aside g w w') {b : Nat} (hb : b < w.heap.size) (hg : b ≠ g) (o : Nat) : w'.frozen? ⟨b, o, none⟩ = w.frozen? ⟨b, o, none⟩ := by
  simp [World.frozen?, h.2 b hb hg]
end

/-- A slice of bytes that came in. -/
def Bts (w : World) (A : Option Addr) (n B r : Nat) : Prop :=
  0 < n → ∃ b off, A = some ⟨b, off, none⟩ ∧ b < B ∧ b ≠ r ∧ ∀ i, i < n → ∃ x : Int, 0 ≤ x ∧ x ≤ 255 ∧ w.cell? ⟨b, off + i, none⟩ = some (.int .u8 x)
def InB (w : World) (A : Option Addr) (n c : Nat) : Prop := n ≤ c ∧ c ≤ maxLen ∧ Bts w A n w.heap.size w.heap.size
open Go.ChangeShapes Go.WideShapes Go.Deep in
theorem open_bytes {H : Type} {enc : TypeId × Value → H} {w : World} {base : Nat} {spare : Nat → Bool} {held : Bool} {a : Option Addr} {len cap : Nat} {d : DataW H} {p : List MemPlace}
    (h : DataW.Trod enc Tryd.prog w base spare held 22 (.slice a len cap) d p) : InB w a len cap := by
  obtain ⟨fuel, hf⟩ := h
  rcases open_ints Tryd.underlying22 Tryd.underlying5 (by kernel_rfl) hf with ⟨hcs, _⟩ | ⟨x, l, c, zs, hcs, _, hl, hm, hz, _, hcell, hwz⟩
  · simp [Value.cells] at hcs
    obtain ⟨rfl, rfl, rfl⟩ := hcs
    exact ⟨Nat.le_refl _, Nat.zero_le _, fun h => absurd h (by omega)⟩
  · simp [Value.cells] at hcs
    obtain ⟨rfl, rfl, rfl⟩ := hcs
    have hlz : len ≤ zs.length := by rw [hz]; split <;> omega
    refine ⟨hl, hm, fun h0 => ?_⟩
    obtain ⟨b, off, spot⟩ := x
    have h00 := hcell 0 (by omega)
    have hspot : spot = none := by simpa [Addr.add] using World.cell?_spot h00
    subst hspot
    have hb : b < w.heap.size := by
      have := World.block_lt_of_cell? w _ h00
      simpa [Addr.add] using this
    refine ⟨b, off, rfl, hb, by omega, fun i hi => ?_⟩
    have hz' : zs[i]? = some (zs[i]'(by omega)) := List.getElem?_eq_getElem (by omega)
    have hmem : zs.getD i 0 ∈ zs := by rw [List.getD_eq_getElem?_getD, hz']; exact List.getElem_mem _
    have hb := bounds_u8 (hwz _ hmem)
    refine ⟨_, hb.1, hb.2, ?_⟩
    rw [← hcell i (by omega)]
    have : (⟨b, off, none⟩ : Addr).add i = ⟨b, off + i, none⟩ := by
      unfold Addr.add
      split
      · rename_i h; rw [show off + i = off by omega]
      · rfl
    rw [this]

/-- A reader of a code, at block r, that has read k bytes at most; all that it reads lies below B. -/
def Rdr (w : World) (B r k : Nat) : Prop :=
  r < B ∧ B ≤ w.heap.size ∧ ∃ (A : Option Addr) (n c p : Nat), p ≤ k ∧ n ≤ 2000 ∧ n ≤ c ∧ Bts w A n B r ∧
    Row w r 2 (fun j => if j = 0 then some (.slice A n c) else if j = 1 then some (.int .i64 p) else none)
theorem Bts.keep {w w' : World} {A : Option Addr} {n B r : Nat} (h : Bts w A n B r) (hb : ∀ b, b < B → b ≠ r → w'.heap[b]? = w.heap[b]?) : Bts w' A n B r := by
  intro h0
  obtain ⟨b, off, hA, hlt, hne, hc⟩ := h h0
  refine ⟨b, off, hA, hlt, hne, fun i hi => ?_⟩
  obtain ⟨x, h1, h2, h3⟩ := hc i hi
  exact ⟨x, h1, h2, by rw [← h3]; simp [World.cell?, hb b hlt hne]⟩
theorem Rdr.below {w w' : World} {B r k : Nat} (h : Rdr w B r k) (hb : Below B w w') : Rdr w' B r k := by
  obtain ⟨hr, hB, A, n, c, p, hp, hn, hc, hbt, hrow⟩ := h
  exact ⟨hr, Nat.le_trans hB hb.size, A, n, c, p, hp, hn, hc, hbt.keep (fun b hlt _ => hb.block b hlt), hrow.below hb hr⟩
theorem Rdr.mono {w : World} {B B' r k k' : Nat} (h : Rdr w B r k) (hB : B ≤ B') (hs : B' ≤ w.heap.size) (hk : k ≤ k') : Rdr w B' r k' := by
  obtain ⟨hr, _, A, n, c, p, hp, hn, hc, hbt, hrow⟩ := h
  exact ⟨by omega, hs, A, n, c, p, by omega, hn, hc, fun h0 => by
    obtain ⟨b, off, hA, hlt, hne, hc⟩ := hbt h0
    exact ⟨b, off, hA, by omega, hne, hc⟩, hrow⟩
theorem Rdr.lt {w : World} {B r k : Nat} (h : Rdr w B r k) : r < B := h.1
theorem Rdr.size {w : World} {B r k : Nat} (h : Rdr w B r k) : B ≤ w.heap.size := h.2.1
theorem Rdr.far {w w' : World} {B r k g : Nat} (h : Rdr w B r k) (ha : Aside g w w') (hg : B ≤ g) : Rdr w' B r k :=
  h.below ⟨ha.1.os, ha.1.tape, ha.1.output, ha.1.size, fun b hb => ha.2 b (Nat.lt_of_lt_of_le hb h.2.1) (by omega)⟩

theorem mix_bd (a n : Int) (h0 : 0 ≤ a) (h1 : a < 9223372036854775808) (hn : 1 ≤ n) : 0 ≤ (bits BinOp.xor .i64 a (a / 64)).tmod n ∧ (bits BinOp.xor .i64 a (a / 64)).tmod n < n := by
  have hx : 0 ≤ bits BinOp.xor .i64 a (a / 64) := by
    rw [i64_xor a (a / 64) h0 h1 (by omega) (by omega)]
    exact Int.natCast_nonneg _
  exact ⟨Int.tmod_nonneg _ hx, Int.tmod_lt_of_pos _ (by omega)⟩
def Picked (B r k : Nat) (n : Int) (w : World) (e : Ending) (w' : World) : Prop :=
  ∃ x : Int, e = .returned (.int .i64 x) ∧ 0 ≤ x ∧ x < n ∧ Rdr w' B r (k + 1) ∧ Aside r w w'
set_option maxHeartbeats 1000000 in
theorem pick_c (B r k : Nat) (n : Int) (w : World) (hn : 1 ≤ n) (hn2 : n ≤ 1000000000) (hk : k ≤ 1000000) (h : Rdr w B r k) :
    Calls Tryd.prog 31 #[.pointer (some ⟨r, 0, none⟩), .int .i64 n] w (Picked B r k n w) := by
  obtain ⟨hr, hB, A, m, c, p, hp, hm, hc, hbt, hrow⟩ := h
  have HB := hide hbt
  have HR := hide hrow
  have c0 : w.cell? ⟨r, 0, none⟩ = some (.slice A m c) := hrow.cell (by simp)
  have c1 : w.cell? ⟨r, 1, none⟩ = some (.int .i64 p) := hrow.cell (by simp)
  have f0 := hrow.frozen 0
  have f1 := hrow.frozen 1
  have g1 : r < w.heap.size := hrow.lt
  clear hbt hrow
  have hd1 : decide (n < 1) = false := by simp; omega
  have fin : ∀ w', Row w' r 2 (fun j => if j = 0 then some (.slice A m c) else if j = 1 then some (.int .i64 ((p + 1 : Nat) : Int)) else none) → Aside r w w' → Rdr w' B r (k + 1) ∧ Aside r w w' := fun w' h1 h2 =>
    ⟨⟨hr, Nat.le_trans hB h2.1.size, A, m, c, p + 1, by omega, hm, hc, HB.out.keep (fun b hb hg => h2.2 b (Nat.lt_of_lt_of_le hb hB) hg), h1⟩, h2⟩
  have hset : Row (w.setCell ⟨r, 1, none⟩ (.int .i64 ((p + 1 : Nat) : Int))) r 2 (fun j => if j = 0 then some (.slice A m c) else if j = 1 then some (.int .i64 ((p + 1 : Nat) : Int)) else none) := by
    refine (HR.out.set 1 _).mono fun j u hj => ?_
    by_cases e1 : j = 1
    · subst e1; simpa using hj
    · simp only [e1, if_false] at hj ⊢; exact hj
  have FIN := hide (fin _ hset ((Aside.refl r w).setCell 1 _))
  have FIN' := hide (fun nq => fin _ (hset.drewN nq) (((Aside.refl r w).setCell 1 _).drewN nq))
  clear fin hset
  by_cases h0 : 0 < m
  · obtain ⟨b, off, rfl, hlt, hne, hcells⟩ := HB.out h0
    have hd2 : ((m : Int) == 0) = false := by simp; omega
    have hbw : b < w.heap.size := by omega
    by_cases hpm : p < m
    · obtain ⟨x, x0, x1, hx⟩ := hcells p hpm
      have hq : 0 ≤ x % n ∧ x % n < n := ⟨Int.emod_nonneg _ (by omega), Int.emod_lt_of_pos _ (by omega)⟩
      clear hcells
      go_enter Tryd.func31, Tryd.ntmps31
      go_wp2_with fail
      go_ret
      exact ⟨_, rfl, hq.1, hq.2, FIN.out⟩
    · obtain ⟨x, x0, x1, hx⟩ := hcells (p % m) (Nat.mod_lt _ h0)
      obtain ⟨y, y0, y1, hy⟩ := hcells ((p * 7 + 3) % m) (Nat.mod_lt _ h0)
      clear hcells
      have q1 : ((p : Int) % (m : Int)) < m := Int.emod_lt_of_pos _ (by omega)
      have q2 : 0 ≤ ((p : Int) % (m : Int)) := Int.emod_nonneg _ (by omega)
      have q3 : (((p : Int) * 7 + 3) % (m : Int)) < m := Int.emod_lt_of_pos _ (by omega)
      have q4 : 0 ≤ (((p : Int) * 7 + 3) % (m : Int)) := Int.emod_nonneg _ (by omega)
      have q5 : 0 ≤ (p : Int) / (m : Int) := Int.ediv_nonneg (by omega) (by omega)
      have q6 : (p : Int) / (m : Int) ≤ p := Int.ediv_le_self _ (by omega)
      go_enter Tryd.func31, Tryd.ntmps31
      go_wp2_with fail
      go_quiet (fail)
      go_wp2_with fail
      go_ret
      have hx := mix_bd _ n (show 0 ≤ x * 131 + y * 1117 + (p : Int) * 29 + (p : Int) / (m : Int) * 53 by omega) (by omega) hn
      exact ⟨_, rfl, hx.1, hx.2, FIN'.out _⟩
  · obtain rfl : m = 0 := by omega
    have hd2 : (((0 : Nat) : Int) == 0) = true := by simp
    go_enter Tryd.func31, Tryd.ntmps31
    go_wp2_with fail
    go_ret
    exact ⟨0, rfl, by omega, by omega, FIN.out⟩

def Odd (B r k : Nat) (w : World) (e : Ending) (w' : World) : Prop :=
  ∃ b : Bool, e = .returned (.bool b) ∧ Rdr w' B r (k + 1) ∧ Aside r w w'
theorem odd_c (B r k : Nat) (n : Int) (w : World) (hn : 1 ≤ n) (hn2 : n ≤ 1000000000) (hk : k ≤ 1000000) (h : Rdr w B r k) :
    Calls Tryd.prog 33 #[.pointer (some ⟨r, 0, none⟩), .int .i64 n] w (Odd B r k w) := by
  have hd1 : decide (0 < n) = true := by simp; omega
  have H := hide h
  clear h
  go_enter Tryd.func33, Tryd.ntmps33
  go_wp2_with fail
  refine (pick_c B r k n _ hn hn2 hk H.out).mono ?_
  rintro e w' ⟨x, rfl, h0, h1, hr, ha⟩
  go_wp2_with fail
  go_ret
  exact ⟨_, rfl, hr, ha⟩
theorem odd_0 (r : Nat) (w : World) :
    Calls Tryd.prog 33 #[.pointer (some ⟨r, 0, none⟩), .int .i64 0] w fun e w' => e = .returned (.bool false) ∧ w = w' := by
  go_enter Tryd.func33, Tryd.ntmps33
  go_wp2_with fail
  go_ret
  exact ⟨rfl, rfl⟩

/-- A reader that was made behind w. -/
def Opened (w : World) (e : Ending) (w' : World) : Prop :=
  ∃ r, e = .returned (.pointer (some ⟨r, 0, none⟩)) ∧ w.heap.size ≤ r ∧ Rdr w' w'.heap.size r 0 ∧ Below w.heap.size w w'
theorem rdr_made (w : World) (A : Option Addr) (n c : Nat) (T : TypeId) (hn : n ≤ 2000) (hc : n ≤ c) (hb : Bts w A n w.heap.size w.heap.size) :
    Rdr (w.alloc (.cells #[.slice A n c, .int .i64 0] T)) (w.heap.size + 1) w.heap.size 0 := by
  refine ⟨by omega, by simp, A, n, c, 0, by omega, hn, hc, fun h0 => ?_, (Row.made w T _ _ (fun j u hj => ?_))⟩
  · obtain ⟨b, off, hA, hlt, hne, hc⟩ := hb h0
    refine ⟨b, off, hA, by omega, hne, fun i hi => ?_⟩
    obtain ⟨x, h1, h2, h3⟩ := hc i hi
    exact ⟨x, h1, h2, by rw [← h3]; simp [World.cell?, Below.heap_alloc w _ b hlt]⟩
  · match j with
    | 0 => simpa using hj
    | 1 => simpa using hj
    | j + 2 => simp at hj
theorem open_c (A : Option Addr) (n c : Nat) (w : World) (h : InB w A n c) :
    Calls Tryd.prog 19 #[.slice A n c] w (Opened w) := by
  obtain ⟨hc, hm, hb⟩ := h
  unfold maxLen at hm
  have HB := hide hb
  clear hb
  by_cases h2 : 2000 < n
  · obtain ⟨b, off, rfl, hb⟩ := HB.out (by omega)
    have HB' := hide (show Bts w (some ⟨b, off, none⟩) 2000 w.heap.size w.heap.size from fun _ => by
      obtain ⟨b', off', h1, h2, h3, h4⟩ := HB.out (by omega)
      exact ⟨b', off', h1, h2, h3, fun i hi => h4 i (by omega)⟩)
    clear hb
    go_enter Tryd.func19, Tryd.ntmps19
    go_wp2_with fail
    go_ret
    exact ⟨_, rfl, Nat.le_refl _, by simpa using rdr_made w _ _ _ _ (by omega) (by omega) HB'.out, (by repeat' (first | exact Below.refl _ _ | assumption | exact And.left (by assumption) | omega | (simp; done) | (simp; omega) | (simp at *; omega) | (refine Below.setCell ?_ ?_ _) | (refine below_alloc0 ?_ _) | (refine Below.drew ?_) | (refine below_drewN ?_ _) | (refine below_via0 ?_ (by assumption)) | (refine Below.alloc ?_ ?_ _) | (refine below_via ?_ (by assumption) ?_)))⟩
  · go_enter Tryd.func19, Tryd.ntmps19
    go_wp2_with fail
    go_ret
    exact ⟨_, rfl, Nat.le_refl _, by simpa using rdr_made w _ _ _ _ (by omega) (by omega) HB.out, (by repeat' (first | exact Below.refl _ _ | assumption | exact And.left (by assumption) | omega | (simp; done) | (simp; omega) | (simp at *; omega) | (refine Below.setCell ?_ ?_ _) | (refine below_alloc0 ?_ _) | (refine Below.drew ?_) | (refine below_drewN ?_ _) | (refine below_via0 ?_ (by assumption)) | (refine Below.alloc ?_ ?_ _) | (refine below_via ?_ (by assumption) ?_)))⟩

/-- How far a drawing has come: what was there at w0 is as it was, but for the reader. -/
def St (w0 : World) (B r k : Nat) (w : World) : Prop := Rdr w B r k ∧ Aside r w0 w ∧ B ≤ w0.heap.size
section
variable {w0 w w' : World} {B r k : Nat}
theorem Aside.setNew {g : Nat} (h : Aside g w w') {p : Addr} (hp : w.heap.size ≤ p.block) (v : Value) : Aside g w (w'.setCell p v) :=
  ⟨h.1.setCell (Nat.zero_le _) v, fun b hb hg => (Below.heap_setCell w' p v b (by omega)).trans (h.2 b hb hg)⟩
theorem Aside.grown {g : Nat} {row : Option Nat} (h : Aside g w w') {w'' : World} (hg : w'.grownBy w'' row) (hr : ∀ k, row = some k → w.heap.size ≤ k) : Aside g w w'' :=
  ⟨h.1.trans ⟨hg.os, hg.tape, hg.output, hg.size, fun k hk => absurd hk (Nat.not_lt_zero _)⟩, fun b hb hn => (hg.block b (Nat.lt_of_lt_of_le hb h.1.size) (fun e => by have := hr b e.symm; omega)).trans (h.2 b hb hn)⟩
theorem St.start (h : Rdr w B r k) : St w B r k w := ⟨h, Aside.refl _ _, h.2.1⟩
theorem St.below (h : St w0 B r k w) (ha : Aside r w0 w') (hb : Below B w w') : St w0 B r k w' := ⟨h.1.below hb, ha, h.2.2⟩
theorem St.alloc (h : St w0 B r k w) (o : Obj) : St w0 B r k (w.alloc o) := h.below (h.2.1.alloc o) ((Below.refl _ _).alloc h.1.2.1 o)
theorem St.setNew (h : St w0 B r k w) {p : Addr} (hp : w0.heap.size ≤ p.block) (v : Value) : St w0 B r k (w.setCell p v) :=
  h.below (h.2.1.setNew hp v) ((Below.refl _ _).setCell (Nat.le_trans h.2.2 hp) v)
theorem St.drew (h : St w0 B r k w) : St w0 B r k w.drew := h.below h.2.1.drew (Below.refl _ _).drew
theorem St.drewN (h : St w0 B r k w) (n : Nat) : St w0 B r k (w.drewN n) := h.below (h.2.1.drewN n) (below_drewN (Below.refl _ _) n)
theorem St.mono {k' : Nat} (h : St w0 B r k w) (hk : k ≤ k') : St w0 B r k' w := ⟨h.1.mono (Nat.le_refl _) h.1.2.1 hk, h.2.1, h.2.2⟩
theorem St.grown (h : St w0 B r k w) {row : Option Nat} (hg : w.grownBy w' row) (hr : ∀ k, row = some k → w0.heap.size ≤ k) : St w0 B r k w' :=
  h.below (h.2.1.grown hg hr) ((Below.refl _ _).grown hg h.1.2.1 fun q hq => Nat.le_trans h.2.2 (hr q hq))
theorem St.size (h : St w0 B r k w) : r < B ∧ B ≤ w0.heap.size ∧ w0.heap.size ≤ w.heap.size := ⟨h.1.1, h.2.2, h.2.1.1.size⟩
theorem liveA {W : World} {g : Nat} (h : Aside g W w') (n : Nat) (hn : n < W.heap.size) (hg : n ≠ g) :
    n < w'.heap.size ∧ (∀ o, w'.cell? ⟨n, o, none⟩ = W.cell? ⟨n, o, none⟩) ∧ (∀ o, w'.frozen? ⟨n, o, none⟩ = W.frozen? ⟨n, o, none⟩) :=
  ⟨Nat.lt_of_lt_of_le hn h.1.size, fun o => h.cell hn hg o, fun o => h.frozen hn hg o⟩
def Went (w0 : World) (B r k : Nat) (Q : Value → Prop) (w : World) (e : Ending) (w' : World) : Prop :=
  ∃ v, e = .returned v ∧ Q v ∧ St w0 B r k w' ∧ Aside r w w'
def PickQ (n : Int) (v : Value) : Prop := ∃ x : Int, v = .int .i64 x ∧ 0 ≤ x ∧ x < n
theorem pick_s (w0 : World) (B r k : Nat) (n : Int) (w : World) (hn : 1 ≤ n) (hn2 : n ≤ 1000000000) (hk : k ≤ 1000000) (h : St w0 B r k w) :
    Calls Tryd.prog 31 #[.pointer (some ⟨r, 0, none⟩), .int .i64 n] w fun e w' => ∃ x : Int, e = .returned (.int .i64 x) ∧ 0 ≤ x ∧ x < n ∧ St w0 B r (k + 1) w' ∧ Aside r w w' :=
  (pick_c B r k n w hn hn2 hk h.1).mono fun _ _ ⟨x, he, h0, h1, hr, ha⟩ => ⟨x, he, h0, h1, ⟨hr, h.2.1.trans ha, h.2.2⟩, ha⟩
theorem odd_s (w0 : World) (B r k : Nat) (n : Int) (w : World) (hn : 1 ≤ n) (hn2 : n ≤ 1000000000) (hk : k ≤ 1000000) (h : St w0 B r k w) :
    Calls Tryd.prog 33 #[.pointer (some ⟨r, 0, none⟩), .int .i64 n] w fun e w' => ∃ b : Bool, e = .returned (.bool b) ∧ St w0 B r (k + 1) w' ∧ Aside r w w' :=
  (odd_c B r k n w hn hn2 hk h.1).mono fun _ _ ⟨b, he, hr, ha⟩ => ⟨b, he, ⟨hr, h.2.1.trans ha, h.2.2⟩, ha⟩
end
end Go.Proofs.YtgpdblkaidllmaaDoor
