/-
  What is drawn: lists of rights. No condition.
-/
import Derived.Test.YtpifnfhgaemdmaaProg
import Derived.Test.YtpifnfhgaemdmaaSj
import Derived.Test.YtpifnfhgaemdmaaLst2
import Derived.Test.YtpifnfhgaemdmaaCred
import Derived.Test.YtpifnfhgaemdmaaFlowT
namespace Go.Proofs.Ytpifnfhgaemdmaa
open Go.RowKit
set_option linter.unusedSimpArgs false
set_option linter.unusedVariables false

theorem OwnSG.aside {w w' : World} {B n c r : Nat} {A : Option Addr} {l : List Grant} (h : OwnSG w B n c A l) (ha : Aside r w w') (hr : r < B) : OwnSG w' B n c A l := by
  rcases h with h | ⟨g, m, rfl, h2, h3, h4, h5, h6, h7⟩
  · exact .inl h
  · exact .inr ⟨g, m, rfl, h2, h3, h4, h5, ha.row (by omega) h6, h7.keep (ha.2 g h7.lt (by omega))⟩
theorem LRow.aside {w w' : World} {q r : Nat} {x y z : Value} (h : LRow w q x y z) (ha : Aside r w w') (hr : q ≠ r) : LRow w' q x y z := h.keep (ha.2 q h.lt hr)
/-- How far the drawing of a list has come: the list lies at lb, the result's block is the first one. -/
def LdS (w0 : World) (B r k lb : Nat) (m k2 : Int) (A : Option Addr) (n c : Nat) (l : List Grant) (w : World) : Prop :=
  St w0 B r k w ∧ LBlk w w0.heap.size ∧ w0.heap.size < lb ∧ LRow w lb (.int .i64 m) (.slice A n c) (.int .i64 k2) ∧ OwnSG w w0.heap.size n c A l ∧ l.length = n
section
variable {w0 w w' : World} {B r k lb n c : Nat} {m k2 : Int} {A : Option Addr} {l : List Grant}
theorem LdS.aside {k' : Nat} (h : LdS w0 B r k lb m k2 A n c l w) (hs : St w0 B r k' w') (ha : Aside r w w') : LdS w0 B r k' lb m k2 A n c l w' := by
  obtain ⟨h1, h2, h3, h4, h5, h6⟩ := h
  obtain ⟨z1, z2, _⟩ := h1.size
  exact ⟨hs, h2.keep (ha.2 _ h2.row.lt (by omega)), h3, h4.aside ha (by omega), h5.aside ha (by omega), h6⟩
theorem LdS.below (h : LdS w0 B r k lb m k2 A n c l w) (hb : Below w.heap.size w w') : LdS w0 B r k lb m k2 A n c l w' := by
  obtain ⟨h1, h2, h3, h4, h5, h6⟩ := h
  exact ⟨h1.below (h1.2.1.trans (Aside.of_below hb)) (hb.mono h1.1.2.1), h2.below hb, h3, h4.below hb, h5.below hb, h6⟩
theorem LdS.alloc (h : LdS w0 B r k lb m k2 A n c l w) (o : Obj) : LdS w0 B r k lb m k2 A n c l (w.alloc o) := h.below (below_alloc0 (Below.refl _ _) o)
theorem OwnSG.farB {w : World} {B n c g o : Nat} {A : Option Addr} {l : List Grant} (h : OwnSG w B n c A l) (hA : ∀ a, A = some a → a.block ≠ g) (v : Value) : OwnSG (w.setCell ⟨g, o, none⟩ v) B n c A l := by
  rcases h with h | ⟨g', m, rfl, h2, h3, h4, h5, h6, h7⟩
  · exact .inl h
  · exact .inr ⟨g', m, rfl, h2, h3, h4, h5, h6.far (p := ⟨g, o, none⟩) (hA _ rfl) v, h7.set v⟩
theorem LBlk.set' {W : World} {q g o : Nat} (h : LBlk W q) (v : Value) : LBlk (W.setCell ⟨g, o, none⟩ v) q := by
  by_cases e : q = g
  · subst e; exact h.set o v
  · exact h.keep (Below.heap_setCell W ⟨g, o, none⟩ v q e)
theorem LdS.far {g o : Nat} (h : LdS w0 B r k lb m k2 A n c l w) (hg : w0.heap.size ≤ g) (hne : lb ≠ g) (hA : ∀ a, A = some a → a.block ≠ g) (v : Value) : LdS w0 B r k lb m k2 A n c l (w.setCell ⟨g, o, none⟩ v) := by
  obtain ⟨h1, h2, h3, h4, h5, h6⟩ := h
  exact ⟨h1.setNew (p := ⟨g, o, none⟩) hg v, h2.set' v, h3, h4.keep (Below.heap_setCell w ⟨g, o, none⟩ v lb hne), h5.farB hA v, h6⟩
theorem LdS.store {A' : Option Addr} {n' c' : Nat} {l' : List Grant} (h : LdS w0 B r k lb m k2 A n c l w) (ho : OwnSG w w0.heap.size n' c' A' l') (hl : l'.length = n') (m' k2' : Int) :
    LdS w0 B r k lb m' k2' A' n' c' l' (((w.setCell ⟨lb, 0, none⟩ (.int .i64 m')).setCell ⟨lb, 1, none⟩ (.slice A' n' c')).setCell ⟨lb, 2, none⟩ (.int .i64 k2')) := by
  obtain ⟨h1, h2, h3, h4, h5, h6⟩ := h
  have hz : w0.heap.size ≤ lb := Nat.le_of_lt h3
  have hA : ∀ a, A' = some a → a.block ≠ lb := fun a ha => (ho.ty a ha).not_list h4.2
  exact ⟨((h1.setNew (p := ⟨lb, 0, none⟩) hz _).setNew (p := ⟨lb, 1, none⟩) hz _).setNew (p := ⟨lb, 2, none⟩) hz _, ((h2.set' _).set' _).set' _, h3, LRow.stored h4.2, ((ho.farB hA _).farB hA _).farB hA _, hl⟩
theorem LdS.mono {k' : Nat} (h : LdS w0 B r k lb m k2 A n c l w) (hk : k ≤ k') : LdS w0 B r k' lb m k2 A n c l w := ⟨h.1.mono hk, h.2⟩
end
set_option maxHeartbeats 1000000 in
theorem drawMode0_c (w0 : World) (B r k : Nat) (w : World) (hk : k ≤ 90000) (hs : St w0 B r k w) :
    Calls Try.prog 48 #[.pointer (some ⟨r, 0, none⟩), .int .i64 0] w fun e w' => ∃ x : Int, e = .returned (.int .i64 x) ∧ 0 ≤ x ∧ x ≤ 1024 ∧ St w0 B r (k + 10) w' ∧ Aside r w w' := by
  obtain ⟨z1, z2, z3⟩ := hs.size
  go_enter Try.func48, Try.ntmps48
  go_wp2_with fail
  refine (odd_0 r _).mono ?_
  rintro e w1 ⟨rfl, rfl⟩
  go_wp2_with fail
  refine (pick_s w0 B r k 256 _ (by omega) (by omega) (by omega) hs).mono ?_
  rintro e w2 ⟨x, rfl, x0, x1, hs2, ha2⟩
  go_wp2_with fail
  refine (pick_s w0 B r (k + 1) 256 _ (by omega) (by omega) (by omega) hs2).mono ?_
  rintro e w3 ⟨y, rfl, yy0, yy1, hs3, ha3⟩
  go_wp2_with fail
  refine (pick_s w0 B r (k + 1 + 1) 7 _ (by omega) (by omega) (by omega) (hs3.alloc _)).mono ?_
  rintro e w4 ⟨z, rfl, zz0, zz1, hs4, ha4⟩
  have y3 := hs3.size
  have L4 := liveA ha4 w3.heap.size (by simp) (by omega)
  obtain ⟨z, rfl⟩ := Int.eq_ofNat_of_zero_le zz0
  obtain ⟨v, hv, v0, v1⟩ := mode_lit7 (x * 4) y z (by omega) (by omega) (by omega) (by omega) (by omega)
  have c0 : w4.cell? ⟨w3.heap.size, z, none⟩ = some (.int .i64 v) := by rw [L4.2.1]; simpa using hv
  go_wp2_with fail
  go_ret
  exact ⟨v, rfl, by omega, by omega, hs4.mono (by omega), (ha2.trans ha3).trans ((Aside.refl r w3 |>.alloc _).trans ha4)⟩
def DrewList (w0 : World) (B r k : Nat) (w : World) (e : Ending) (w' : World) : Prop :=
  ∃ (A : Option Addr) (n c : Nat) (l : List Grant) (m k2 : Int), e = .returned (.agg #[.int .i64 m, .slice A n c, .int .i64 k2]) ∧ l.length = n ∧ n ≤ 7 ∧ OwnSG w' w.heap.size n c A l ∧ St w0 B r k w' ∧ Aside r w w'
def ld9 : List Value := [.bool false, .int .i64 100, .int .i64 0, .bool true, .int .i64 8, .int .i64 0, .bool false, .int .i64 0, .int .i64 8]
theorem ld9_lit (x : Nat) (h : x < 3) : ∃ t : Grant, ld9[x * 3]? = some (.bool t.ofGroup) ∧ ld9[x * 3 + 1]? = some (.int .i64 t.who) ∧ ld9[x * 3 + 2]? = some (.int .i64 t.rights) := by
  obtain rfl | rfl | rfl : x = 0 ∨ x = 1 ∨ x = 2 := by omega
  · exact ⟨⟨false, 100, 0⟩, rfl, rfl, rfl⟩
  · exact ⟨⟨true, 8, 0⟩, rfl, rfl, rfl⟩
  · exact ⟨⟨false, 0, 8⟩, rfl, rfl, rfl⟩
/-- What is known of each operation of the statement that appends a grant to the list. -/
def ldF (lo lb r n c : Nat) (A : Option Addr) (l : List Grant) (m k2 : Int) (i : Nat) (v : Value) (vs : List Value) (W : World) : Prop :=
  match i with
  | 0 => v = .pointer (some ⟨lb, 1, none⟩)
  | 1 => v = .slice A n c
  | 2 => v = .agg #[.bool false, .int .i64 100, .int .i64 0]
  | 3 => v = .agg #[.bool true, .int .i64 8, .int .i64 0]
  | 4 => v = .agg #[.bool false, .int .i64 0, .int .i64 8]
  | 5 => ∃ g, v = .slice (some ⟨g, 0, none⟩) 3 3 ∧ g ≠ r ∧ Row W g 9 (rwl ld9)
  | 6 => v = .pointer (some ⟨r, 0, none⟩)
  | 7 => ∃ x : Nat, x < 3 ∧ v = .int .i64 x
  | 8 => ∃ g x : Nat, x < 3 ∧ v = .pointer (some ⟨g, x * 3, none⟩) ∧ g ≠ r ∧ Row W g 9 (rwl ld9)
  | 9 => ∃ t : Grant, v = .agg #[.bool t.ofGroup, .int .i64 t.who, .int .i64 t.rights]
  | 10 => ∃ (g : Nat) (t : Grant), v = .slice (some ⟨g, 0, none⟩) 1 1 ∧ g ≠ r ∧ Row W g 3 (rwl (flatG [t]))
  | 11 => ∃ A' c' t, v = .slice A' (n + 1) c' ∧ OwnSG W lo (n + 1) c' A' (l ++ [t])
  | 12 => v = .pointer (some ⟨lb, 1, none⟩)
  | 13 => ∃ A' c' t, OwnSG W lo (n + 1) c' A' (l ++ [t]) ∧ LRow W lb (.int .i64 m) (.slice A' (n + 1) c') (.int .i64 k2)
  | _ => True
theorem ldF_keep {lo lb r n c i j : Nat} {A : Option Addr} {l : List Grant} {m k2 : Int} {v : Value} {vs : List Value} {W W' : World} (hlo : r < lo) (hlb : lb ≠ r) (h11 : i = 11 → j ≠ 5 ∧ j ≠ 8 ∧ j ≠ 10 ∧ j ≠ 11 ∧ j ≠ 13) (h13 : i = 13 → j ≠ 5 ∧ j ≠ 8 ∧ j ≠ 10 ∧ j ≠ 11 ∧ j ≠ 13)
    (h : ldF lo lb r n c A l m k2 j v vs W) (hc : i ≠ 11 → i ≠ 13 → Aside r W W') : ldF lo lb r n c A l m k2 j v vs W' := by
  unfold ldF at h ⊢
  split <;> simp only at h <;> try exact h
  · have ha := hc (fun e => (h11 e).1 rfl) (fun e => (h13 e).1 rfl)
    obtain ⟨g, h1, h2, h3⟩ := h
    exact ⟨g, h1, h2, ha.row h2 h3⟩
  · have ha := hc (fun e => (h11 e).2.1 rfl) (fun e => (h13 e).2.1 rfl)
    obtain ⟨g, x, h0, h1, h2, h3⟩ := h
    exact ⟨g, x, h0, h1, h2, ha.row h2 h3⟩
  · have ha := hc (fun e => (h11 e).2.2.1 rfl) (fun e => (h13 e).2.2.1 rfl)
    obtain ⟨g, t, h1, h2, h3⟩ := h
    exact ⟨g, t, h1, h2, ha.row h2 h3⟩
  · have ha := hc (fun e => (h11 e).2.2.2.1 rfl) (fun e => (h13 e).2.2.2.1 rfl)
    obtain ⟨A', c', t, h1, h2⟩ := h
    exact ⟨A', c', t, h1, h2.aside ha hlo⟩
  · have ha := hc (fun e => (h11 e).2.2.2.2 rfl) (fun e => (h13 e).2.2.2.2 rfl)
    obtain ⟨A', c', t, h1, h2⟩ := h
    exact ⟨A', c', t, h1.aside ha hlo, h2.aside ha hlb⟩
theorem LdS.store0 {w0 w : World} {B r k lb n c : Nat} {m k2 : Int} {A : Option Addr} {l : List Grant} (h : LdS w0 B r k lb m k2 A n c l w) (m' : Int) : LdS w0 B r k lb m' k2 A n c l (w.setCell ⟨lb, 0, none⟩ (.int .i64 m')) := by
  obtain ⟨h1, h2, h3, h4, h5, h6⟩ := h
  exact ⟨h1.setNew (p := ⟨lb, 0, none⟩) (Nat.le_of_lt h3) _, h2.set' _, h3, ⟨(h4.1.set 0 _).mono fun j u hj => by match j with | 0 => simpa [rwl] using hj | 1 => simpa [rwl] using hj | 2 => simpa [rwl] using hj | j + 3 => simp [rwl] at hj, h4.2.set 0 _⟩, h5.farB (fun a ha => (h5.ty a ha).not_list h4.2) _, h6⟩
theorem LdS.store2 {w0 w : World} {B r k lb n c : Nat} {m k2 : Int} {A : Option Addr} {l : List Grant} (h : LdS w0 B r k lb m k2 A n c l w) (k' : Int) : LdS w0 B r k lb m k' A n c l (w.setCell ⟨lb, 2, none⟩ (.int .i64 k')) := by
  obtain ⟨h1, h2, h3, h4, h5, h6⟩ := h
  exact ⟨h1.setNew (p := ⟨lb, 2, none⟩) (Nat.le_of_lt h3) _, h2.set' _, h3, ⟨(h4.1.set 2 _).mono fun j u hj => by match j with | 0 => simpa [rwl] using hj | 1 => simpa [rwl] using hj | 2 => simpa [rwl] using hj | j + 3 => simp [rwl] at hj, h4.2.set 2 _⟩, h5.farB (fun a ha => (h5.ty a ha).not_list h4.2) _, h6⟩
theorem drewList_end {w0 w : World} {B r k k' lb n c : Nat} {m k2 : Int} {A : Option Addr} {l : List Grant} (h : LdS w0 B r k lb m k2 A n c l w) (hk : k ≤ k') (hn : n ≤ 7) :
    DrewList w0 B r k' w0 (.returned (.agg #[.int .i64 m, .slice A n c, .int .i64 k2])) (((w.setCell ⟨w0.heap.size, 0, none⟩ (.int .i64 m)).setCell ⟨w0.heap.size, 1, none⟩ (.slice A n c)).setCell ⟨w0.heap.size, 2, none⟩ (.int .i64 k2)) := by
  obtain ⟨h1, h2, h3, h4, h5, h6⟩ := h
  have hA : ∀ a, A = some a → a.block ≠ w0.heap.size := fun a ha => (h5.ty a ha).not_list h2
  have hs := ((h1.setNew (p := ⟨w0.heap.size, 0, none⟩) (Nat.le_refl _) (.int .i64 m)).setNew (p := ⟨w0.heap.size, 1, none⟩) (Nat.le_refl _) (.slice A n c)).setNew (p := ⟨w0.heap.size, 2, none⟩) (Nat.le_refl _) (.int .i64 k2)
  exact ⟨A, n, c, l, m, k2, rfl, h6, hn, ((h5.farB hA _).farB hA _).farB hA _, hs.mono hk, hs.2.1⟩
def lp (m k2 : Int) (j : Nat) : Option Value := if j = 0 then some (.int .i64 m) else if j = 2 then some (.int .i64 k2) else none
/-- What lies in memory while that statement runs; d: what was carried out. -/
def ldS (w0 : World) (B r k lb n c : Nat) (A : Option Addr) (l : List Grant) (m k2 : Int) (d : Nat → Bool) (W : World) : Prop :=
  St w0 B r (k + 1) W ∧ (d 7 = false → St w0 B r k W) ∧ LBlk W w0.heap.size ∧ (Row W lb 3 (lp m k2) ∧ LBlk W lb) ∧ (d 13 = false → W.cell? ⟨lb, 1, none⟩ = some (.slice A n c)) ∧ (d 11 = false → d 13 = false → OwnSG W w0.heap.size n c A l)
theorem ldS.below {w0 : World} {B r k lb n c : Nat} {A : Option Addr} {l : List Grant} {m k2 : Int} {d d' : Nat → Bool} {W W' : World} (h : ldS w0 B r k lb n c A l m k2 d W) (hb : Below W.heap.size W W') (h7 : d' 7 = false → d 7 = false) (h13 : d' 13 = false → d 13 = false) (h11 : d' 11 = false → d 11 = false) : ldS w0 B r k lb n c A l m k2 d' W' := by
  obtain ⟨s1, s2, s3, ⟨s4, s6⟩, s7, s8⟩ := h
  have hlt := s6.row.lt
  have sb := fun (q : Nat) (s : St w0 B r q W) => s.below (s.2.1.trans (Aside.of_below hb)) (hb.mono s.1.2.1)
  exact ⟨sb _ s1, fun e => sb _ (s2 (h7 e)), s3.below hb, ⟨s4.below hb hlt, s6.below hb⟩, fun e => (hb.cell (p := ⟨lb, 1, none⟩) hlt).trans (s7 (h13 e)), fun e e2 => (s8 (h11 e) (h13 e2)).below hb⟩
set_option maxHeartbeats 4000000 in
theorem drawList_c (B r k : Nat) (n : Int) (w : World) (hn : 1 ≤ n) (hn2 : n ≤ 1000000) (hk : k ≤ 80000) (h : Rdr w B r k) :
    Calls Try.prog 45 #[.pointer (some ⟨r, 0, none⟩), .int .i64 n] w fun e w' => DrewList w B r (k + 100) w e w' := by
  have hs := St.start h
  obtain ⟨z1, z2, _⟩ := hs.size
  obtain ⟨i0, hi0, hz0, hz1, hz2⟩ := info_parts infoGrant
  have HI := hide hi0
  have HZ0 := hide hz0
  have HZ1 := hide hz1
  have HZ2 := hide hz2
  clear hi0 hz0 hz1 hz2
  go_enter Try.func45, Try.ntmps45
  go_wp2_with fail
  refine (drawMode0_c w B r k _ (by omega) (hs.alloc _)).mono ?_
  rintro e w1 ⟨x, rfl, x0, x1, hs1, ha1⟩
  have R1 : LBlk w1 w.heap.size := LBlk.keep (W := w.alloc (.cells #[.int .i64 0, .slice none 0 0, .int .i64 0] 24)) ⟨_, Below.heap_alloc_self w _, rfl⟩ (ha1.2 _ (by simp) (by omega))
  have y1 := R1.row.lt
  go_wp2_with fail
  refine (pick_s w B r (k + 10) 8 _ (by omega) (by omega) (by omega) hs1).mono ?_
  rintro e w2 ⟨y, rfl, yy0, yy1, hs2, ha2⟩
  have R2 : LBlk w2 w.heap.size := R1.keep (ha2.2 _ y1 (by omega))
  have y2 := R2.row.lt
  go_wp2_with fail
  have L2 : LdS w B r (k + 11) w2.heap.size (x % 512) y none 0 0 [] (w2.alloc (.cells #[.int .i64 (x % 512), .slice none 0 0, .int .i64 y] 24)) :=
    ⟨hs2.alloc _, R2.below (below_alloc0 (Below.refl _ _) _), y2, LRow.made w2 _ _ _, .inl ⟨rfl, rfl, rfl⟩, rfl⟩
  refine (pick_s w B r (k + 11) 4 _ (by omega) (by omega) (by omega) L2.1).mono ?_
  rintro e w3 ⟨z, rfl, zz0, zz1, hs3, ha3⟩
  have L3 := hide (L2.aside hs3 ha3)
  obtain ⟨lb, hlb⟩ : ∃ lb, lb = w2.heap.size := ⟨_, rfl⟩
  rw [← hlb] at L3 ⊢
  clear hlb L2 R1 R2 hs1 hs2 ha1 ha2 hs3 ha3 y1 y2
  go_wp2_with fail
  go_loopw [6] (fun kv wr => ∃ (q : Nat) (A : Option Addr) (nl cl : Nat) (l : List Grant) (m k2 : Int), q ≤ 3 ∧ kv = .int .i64 q ∧ nl ≤ 6 ∧ Hid (LdS w B r (k + 60 - 10 * q) lb m k2 A nl cl l wr)) (fun kv _ => (intOf kv).toNat)
  case atStart =>
    obtain ⟨z, rfl⟩ := Int.eq_ofNat_of_zero_le zz0
    exact ⟨z, none, 0, 0, [], _, _, by omega, rfl, by omega, L3.out.mono (by omega)⟩
  case round =>
    obtain ⟨q, A, nl, cl, l, m, k2, hq, rfl, hn6, hL⟩ := hrel
    have hzl := hL.out.2.2.1
    have hlr := hL.out.2.2.2.1.lt
    by_cases hlt : 0 < q
    · obtain ⟨q, rfl⟩ : ∃ p, q = p + 1 := ⟨q - 1, by omega⟩
      have hlt' : (0 : Int) < (q : Int) + 1 := by omega
      have hS0 := hL.out.1
      go_wp2_with fail
      refine (pick_s w B r _ 2 _ (by omega) (by omega) ?_ hS0).mono ?_
      · omega
      rintro e w4 ⟨u, rfl, u0, u1, hs4, ha4⟩
      have L4 := hide (hL.out.aside hs4 ha4)
      clear hs4 ha4 hS0
      have hS0 := L4.out.1
      go_wp2_with fail
      refine (pick_s w B r _ 8 _ (by omega) (by omega) ?_ hS0).mono ?_
      · omega
      rintro e w5 ⟨p, rfl, p0, p1, hs5, ha5⟩
      have L5 := hide (L4.out.aside hs5 ha5)
      clear hs5 ha5 hS0
      go_wp2_with fail
      have L5a := hide (L5.out.alloc (.cells #[.bool (u == 0), .int .i64 0, .int .i64 p] 40))
      have G5 := Row.madeL w5 40 [.bool (u == 0), .int .i64 0, .int .i64 p]
      refine (drawUser_c w B r _ _ ?_ L5a.out.1).mono ?_
      · omega
      rintro e w6 ⟨v1, rfl, v10, v11, hs6, ha6⟩
      have L6 := hide (L5a.out.aside hs6 ha6)
      have hr5 := L5.out.1.size
      have hl5 := L5.out.2.2.2.1.lt
      have OLT := hide L5.out.2.2.2.2.1.lt
      have G6 := ha6.row (by omega) G5
      clear hs6 ha6 G5 L5a L5 L4
      have hS0 := L6.out.1
      go_wp2_with fail
      refine (pick_s w B r _ 3 _ (by omega) (by omega) ?_ hS0).mono ?_
      · omega
      rintro e w7 ⟨v2, rfl, v20, v21, hs7, ha7⟩
      have L7 := hide (L6.out.aside hs7 ha7)
      have G7 := ha7.row (by omega) G6
      clear hs7 ha7 hS0 G6
      go_wp2_with fail
      have L7a := hide (L7.out.alloc (.cells #[.int .i64 v1, .int .i64 v2] 3))
      have G7a := G7.alloc (.cells #[.int .i64 v1, .int .i64 v2] 3)
      have H7 := Row.madeL w7 3 [.int .i64 v1, .int .i64 v2]
      refine (pick_s w B r _ 2 _ (by omega) (by omega) ?_ L7a.out.1).mono ?_
      · omega
      rintro e w8 ⟨v3, rfl, v30, v31, hs8, ha8⟩
      have hr7 := L7.out.1.size
      have L8 := hide (L7a.out.aside hs8 ha8)
      have G8 := ha8.row (by omega) G7a
      have H8 := ha8.row (by omega) H7
      clear hs8 ha8 G7a G7 H7 L7a L7 L6
      obtain ⟨v3, rfl⟩ := Int.eq_ofNat_of_zero_le v30
      obtain ⟨v4, c0⟩ : ∃ v4 : Int, w8.cell? ⟨w7.heap.size, v3, none⟩ = some (.int .i64 v4) := by
        obtain rfl | rfl : v3 = 0 ∨ v3 = 1 := by omega
        · exact ⟨v1, H8.cell rfl⟩
        · exact ⟨v2, H8.cell rfl⟩
      have hv32 : (v3 : Int) < 2 := by omega
      have h8l := H8.lt
      have g8l := G8.lt
      obtain ⟨y1, g1⟩ := G8.some_ex (j := 1) (by simp)
      have g1f := G8.frozen 1
      have g0 := G8.cell (j := 0) rfl
      have g2 := G8.cell (j := 2) rfl
      have a0 := L8.out.2.2.2.1.c0
      have a1 := L8.out.2.2.2.1.c1
      have a2 := L8.out.2.2.2.1.c2
      have l8l := L8.out.2.2.2.1.lt
      have hne : lb ≠ w5.heap.size := by omega
      have L8s := hide (L8.out.far (g := w5.heap.size) (o := 1) (by omega) hne (fun a ha => by have := OLT.out a ha; omega) (.int .i64 v4))
      clear H8 G8
      go_wp2_with fail
      refine (sgSpec_own m A nl cl w.heap.size k2 l (u == 0) v4 p (by omega) _ L8s.out.2.2.2.2.2 L8s.out.2.2.2.2.1).mono ?_
      rintro e w9 ⟨A', n', c', rfl, hl', ho', hb9⟩
      obtain ⟨m', hm'⟩ : ∃ m', sgN m l k2 m = m' := ⟨_, rfl⟩
      obtain ⟨k', hk'⟩ : ∃ k', sgN m l k2 k2 = k' := ⟨_, rfl⟩
      obtain ⟨ok, hok⟩ : ∃ ok, sgOk m l k2 ⟨u == 0, v4, p⟩ = ok := ⟨_, rfl⟩
      obtain ⟨l', hL'⟩ : ∃ l', sgL m l k2 ⟨u == 0, v4, p⟩ = l' := ⟨_, rfl⟩
      have hn6' : n' ≤ 6 := by rw [← hl']; exact sgL_len _ _ _ _
      rw [hL'] at hl' ho'
      rw [hm', hk', hok]
      have L9 := hide (L8s.out.below hb9)
      have O9 := hide (ho'.mono L8s.out.1.size.2.2)
      have HL9 := hide hl'
      clear hm' hk' hok hL' hl' ho' hb9 c0 g0 g1 g2 g1f a0 a1 a2 L8 L8s
      have L9a := hide (L9.out.alloc (.cells #[.int .i64 m', .slice A' n' c', .int .i64 k'] 24))
      have O9a := hide (O9.out.below (below_alloc0 (Below.refl _ _) (.cells #[.int .i64 m', .slice A' n' c', .int .i64 k'] 24)))
      have a0 := L9.out.2.2.2.1.c0
      have a1 := L9.out.2.2.2.1.c1
      have a2 := L9.out.2.2.2.1.c2
      have f0 := L9.out.2.2.2.1.1.frozen 0
      have f1 := L9.out.2.2.2.1.1.frozen 1
      have f2 := L9.out.2.2.2.1.1.frozen 2
      have l9l := L9.out.2.2.2.1.lt
      have hne9 : lb ≠ w9.heap.size := by omega
      go_wp2_with fail
      exact ⟨⟨q, A', n', c', l', m', k', by omega, by go_num, hn6', ((L9.out.store O9.out HL9.out m' k').alloc _).mono (show k + 60 - 10 * (q + 1) + 1 + 1 + 1 + 1 + 1 ≤ k + 60 - 10 * q by omega)⟩, by simp [intOf]⟩
    · obtain rfl : q = 0 := by omega
      have hS0 := hL.out.1
      go_wp2_with fail
      refine (odd_s w B r _ n _ hn (by omega) ?_ hS0).mono ?_
      · omega
      rintro e w4 ⟨o, rfl, hs4, ha4⟩
      have L4 := hide (hL.out.aside hs4 ha4)
      clear hs4 ha4 hS0 hL
      cases o with
      | false =>
        have a0 := L4.out.2.2.2.1.c0
        have a1 := L4.out.2.2.2.1.c1
        have a2 := L4.out.2.2.2.1.c2
        have l4l := L4.out.2.2.2.1.lt
        have hz := L4.out.2.1.row
        have hzl9 := hz.lt
        obtain ⟨y0, g0⟩ := hz.some_ex (j := 0) (by omega)
        obtain ⟨y1, g1⟩ := hz.some_ex (j := 1) (by omega)
        obtain ⟨y2, g2⟩ := hz.some_ex (j := 2) (by omega)
        have f0 := hz.frozen 0
        have f1 := hz.frozen 1
        have f2 := hz.frozen 2
        clear hz
        go_wp2_with fail
        exact bodyPost_ret (v := .agg #[.int .i64 m, .slice A nl cl, .int .i64 k2]) (by simp [results, Try.results45, go_sem, *]) rfl (drewList_end L4.out (by omega) (by omega))
      | true =>
        have hS0 := L4.out.1
        go_wp2_with fail
        refine (pick_s w B r _ 3 _ (by omega) (by omega) ?_ hS0).mono ?_
        · omega
        rintro e w5 ⟨o, rfl, o0, o1, hs5, ha5⟩
        have L5 := hide (L4.out.aside hs5 ha5)
        clear hs5 ha5 hS0 L4
        obtain rfl | rfl | rfl : o = 0 ∨ o = 1 ∨ o = 2 := by omega
        · go_wp2_with fail
          have L5a := hide (L5.out.alloc (.cells #[.int .i64 (-1), .int .i64 512] 3))
          have H5 := Row.madeL w5 3 [.int .i64 (-1), .int .i64 512]
          refine (pick_s w B r _ 2 _ (by omega) (by omega) ?_ L5a.out.1).mono ?_
          · omega
          rintro e w6 ⟨v3, rfl, v30, v31, hs6, ha6⟩
          have hr7 := L5.out.1.size
          have L6 := hide (L5a.out.aside hs6 ha6)
          have H6 := ha6.row (by omega) H5
          clear hs6 ha6 H5 L5a L5
          obtain ⟨v3, rfl⟩ := Int.eq_ofNat_of_zero_le v30
          obtain ⟨v4, c0⟩ : ∃ v4 : Int, w6.cell? ⟨w5.heap.size, v3, none⟩ = some (.int .i64 v4) := by
            obtain rfl | rfl : v3 = 0 ∨ v3 = 1 := by omega
            · exact ⟨-1, H6.cell rfl⟩
            · exact ⟨512, H6.cell rfl⟩
          have hv32 : (v3 : Int) < 2 := by omega
          have h6l := H6.lt
          clear H6
          have a0 := L6.out.2.2.2.1.c0
          have a1 := L6.out.2.2.2.1.c1
          have a2 := L6.out.2.2.2.1.c2
          have l4l := L6.out.2.2.2.1.lt
          have ff := L6.out.2.2.2.1.1.frozen 0
          have hz := L6.out.2.1.row
          have hzl9 := hz.lt
          obtain ⟨y0, g0⟩ := hz.some_ex (j := 0) (by omega)
          obtain ⟨y1, g1⟩ := hz.some_ex (j := 1) (by omega)
          obtain ⟨y2, g2⟩ := hz.some_ex (j := 2) (by omega)
          have f0 := hz.frozen 0
          have f1 := hz.frozen 1
          have f2 := hz.frozen 2
          have LX := hide (L6.out.store0 (v4))
          have hnz : w.heap.size ≠ lb := by omega
          clear hz
          go_wp2_with fail
          exact bodyPost_ret (v := .agg #[.int .i64 (v4), .slice A nl cl, .int .i64 (k2)]) (by simp [results, Try.results45, go_sem, *]) rfl (drewList_end LX.out (by omega) (by omega))
        · have a0 := L5.out.2.2.2.1.c0
          have a1 := L5.out.2.2.2.1.c1
          have a2 := L5.out.2.2.2.1.c2
          have l4l := L5.out.2.2.2.1.lt
          have ff := L5.out.2.2.2.1.1.frozen 2
          have hz := L5.out.2.1.row
          have hzl9 := hz.lt
          obtain ⟨y0, g0⟩ := hz.some_ex (j := 0) (by omega)
          obtain ⟨y1, g1⟩ := hz.some_ex (j := 1) (by omega)
          obtain ⟨y2, g2⟩ := hz.some_ex (j := 2) (by omega)
          have f0 := hz.frozen 0
          have f1 := hz.frozen 1
          have f2 := hz.frozen 2
          have LX := hide (L5.out.store2 (8))
          have hnz : w.heap.size ≠ lb := by omega
          clear hz
          go_wp2_with fail
          exact bodyPost_ret (v := .agg #[.int .i64 (m), .slice A nl cl, .int .i64 (8)]) (by simp [results, Try.results45, go_sem, *]) rfl (drewList_end LX.out (by omega) (by omega))
        · have HLS : Hid (ldS w B r (k + 62) lb nl cl A l m k2 (fun j => decide (14 ≤ j)) w5) := ⟨L5.out.1.mono (by omega), fun _ => L5.out.1.mono (by omega), L5.out.2.1, ⟨L5.out.2.2.2.1.1.mono (fun j u hj => by match j with | 0 => simpa [rwl, lp] using hj | 1 => simp [lp] at hj | 2 => simpa [rwl, lp] using hj | j + 3 => simp [lp] at hj), L5.out.2.2.2.1.2⟩, fun _ => L5.out.2.2.2.1.c1, fun _ _ => L5.out.2.2.2.2.1⟩
          have HLL := hide L5.out.2.2.2.2.2
          have hzz := L5.out.1.size
          clear L5
          go_wp2_with fail
          refine wp_flowT' (os := [_, _, _, _, _, _, _, _, _, _, _, _, _, _]) (ldS w B r (k + 62) lb nl cl A l m k2) ((fun i W W' => i ≠ 11 → i ≠ 13 → Aside r W W')) (ldF w.heap.size lb r nl cl A l m k2) 14 rfl ?_ ?_ ?_ ?_ ?_ ?_ ?_
          · kernel_rfl
          · kernel_rfl
          · kernel_rfl
          · exact (fun i j v vs w1 w2 hij hdd hbf h hc => ldF_keep (by omega) (by omega) (by rintro rfl; exact ⟨fun e => by subst e; exact absurd (show dead _ 11 5 = true by kernel_rfl) (by rw [hdd]; decide), fun e => by subst e; exact absurd (show dead _ 11 8 = true by kernel_rfl) (by rw [hdd]; decide), fun e => by subst e; exact absurd (show dead _ 11 10 = true by kernel_rfl) (by rw [hdd]; decide), Ne.symm hij, fun e => by subst e; exact absurd (show beforeX _ 11 13 = true by kernel_rfl) (by rw [hbf]; decide)⟩) (by rintro rfl; exact ⟨fun e => by subst e; exact absurd (show dead _ 13 5 = true by kernel_rfl) (by rw [hdd]; decide), fun e => by subst e; exact absurd (show dead _ 13 8 = true by kernel_rfl) (by rw [hdd]; decide), fun e => by subst e; exact absurd (show dead _ 13 10 = true by kernel_rfl) (by rw [hdd]; decide), fun e => by subst e; exact absurd (show dead _ 13 11 = true by kernel_rfl) (by rw [hdd]; decide), Ne.symm hij⟩) h hc)
          · exact (HLS.out.below ((Below.refl _ _).drew) id id id)
          ·
            refine FlowStepsT.stepY 75 14 1 rfl rfl (by kernel_rfl) (by kernel_rfl) (by kernel_rfl) rfl rfl ?_ ?_
            ·
              intro cc act vs W hcc ha hvs hS hd hi K hK
              clear ha
              have u5 : act.tmps[5]? = some (.pointer (some ⟨lb, 0, none⟩)) := (hi.out 5 (by kernel_rfl)).trans rfl
              clear hd hi
              clear hvs
              refine wanted_un rfl ?_
              go_simp
              exact hK.out _ _ rfl (hS.below (Below.refl _ _) id id id) (fun _ _ => Aside.refl _ _)
            refine FlowStepsT.stepY 75 14 2 rfl rfl (by kernel_rfl) (by kernel_rfl) (by kernel_rfl) rfl rfl ?_ ?_
            ·
              intro cc act vs W hcc ha hvs hS hd hi K hK
              have nd13 : cc 13 = false := hcc.out.2 13 (by kernel_rfl)
              clear ha
              have u50 : act.tmps[50]? = some (.pointer (some ⟨lb, 1, none⟩)) := by obtain ⟨_, u, _, h⟩ := hd.out ⟨0, .data⟩ (some 50) (by simp) rfl rfl; exact u.trans (congrArg some h)
              clear hd hi
              clear hvs
              refine wanted_un rfl ?_
              have e1 := hS.2.2.2.2.1 nd13
              go_simp
              exact hK.out _ _ rfl (hS.below (Below.refl _ _) id id id) (fun _ _ => Aside.refl _ _)
            refine FlowStepsT.stepY 75 14 3 rfl rfl (by kernel_rfl) (by kernel_rfl) (by kernel_rfl) rfl rfl ?_ ?_
            ·
              intro cc act vs W hcc ha hvs hS hd hi K hK
              clear ha
              clear hd hi
              clear hvs
              refine wanted_un rfl ?_
              go_simp
              exact hK.out _ _ rfl (hS.below (Below.refl _ _) id id id) (fun _ _ => Aside.refl _ _)
            refine FlowStepsT.stepY 75 14 4 rfl rfl (by kernel_rfl) (by kernel_rfl) (by kernel_rfl) rfl rfl ?_ ?_
            ·
              intro cc act vs W hcc ha hvs hS hd hi K hK
              clear ha
              clear hd hi
              clear hvs
              refine wanted_un rfl ?_
              go_simp
              exact hK.out _ _ rfl (hS.below (Below.refl _ _) id id id) (fun _ _ => Aside.refl _ _)
            refine FlowStepsT.stepY 75 14 5 rfl rfl (by kernel_rfl) (by kernel_rfl) (by kernel_rfl) rfl rfl ?_ ?_
            ·
              intro cc act vs W hcc ha hvs hS hd hi K hK
              clear ha
              clear hd hi
              clear hvs
              refine wanted_un rfl ?_
              go_simp
              exact hK.out _ _ rfl (hS.below (Below.refl _ _) id id id) (fun _ _ => Aside.refl _ _)
            refine FlowStepsT.stepY 75 14 6 rfl rfl (by kernel_rfl) (by kernel_rfl) (by kernel_rfl) rfl rfl ?_ ?_
            ·
              intro cc act vs W hcc ha hvs hS hd hi K hK
              clear ha
              have u52 : act.tmps[52]? = some (.agg #[.bool false, .int .i64 100, .int .i64 0]) := by obtain ⟨_, u, _, h⟩ := hd.out ⟨2, .data⟩ (some 52) (by simp) rfl rfl; exact u.trans (congrArg some h)
              have u53 : act.tmps[53]? = some (.agg #[.bool true, .int .i64 8, .int .i64 0]) := by obtain ⟨_, u, _, h⟩ := hd.out ⟨3, .data⟩ (some 53) (by simp) rfl rfl; exact u.trans (congrArg some h)
              have u54 : act.tmps[54]? = some (.agg #[.bool false, .int .i64 0, .int .i64 8]) := by obtain ⟨_, u, _, h⟩ := hd.out ⟨4, .data⟩ (some 54) (by simp) rfl rfl; exact u.trans (congrArg some h)
              clear hd hi
              clear hvs
              refine wanted_un rfl ?_
              go_simp
              have hsz := hS.1.size
              exact hK.out _ _ ⟨W.heap.size, rfl, by omega, Row.madeL W _ ld9⟩ (hS.below (below_alloc0 (Below.refl _ _) _) id id id) (fun _ _ => Aside.of_below (below_alloc0 (Below.refl _ _) _))
            refine FlowStepsT.stepY 75 14 7 rfl rfl (by kernel_rfl) (by kernel_rfl) (by kernel_rfl) rfl rfl ?_ ?_
            ·
              intro cc act vs W hcc ha hvs hS hd hi K hK
              clear ha
              have u0 : act.tmps[0]? = some (.pointer (some ⟨r, 0, none⟩)) := (hi.out 0 (by kernel_rfl)).trans rfl
              clear hd hi
              clear hvs
              refine wanted_un rfl ?_
              go_simp
              exact hK.out _ _ rfl (hS.below (Below.refl _ _) id id id) (fun _ _ => Aside.refl _ _)
            refine FlowStepsT.stepY 75 14 8 rfl rfl (by kernel_rfl) (by kernel_rfl) (by kernel_rfl) rfl rfl ?_ ?_
            ·
              intro cc act vs W hcc ha hvs hS hd hi K hK
              clear ha
              have u56 : act.tmps[56]? = some (.pointer (some ⟨r, 0, none⟩)) := by obtain ⟨_, u, _, h⟩ := hd.out ⟨6, .data⟩ (some 56) (by simp) rfl rfl; exact u.trans (congrArg some h)
              clear hd hi
              clear hvs
              refine wanted_un rfl ?_
              have h7 := hcc.out.1
              have hsz := hS.1.size
              go_wp2_with fail
              refine (pick_s w B r (k + 62) 3 _ (by omega) (by omega) (by omega) (hS.2.1 h7)).mono ?_
              rintro e w6 ⟨x, rfl, x0, x1, hs6, ha6⟩
              obtain ⟨x, rfl⟩ := Int.eq_ofNat_of_zero_le x0
              obtain ⟨s1, s2, s3, ⟨s4, s6⟩, s7, s8⟩ := hS
              have hlb9 := s6.row.lt
              exact hK.out _ w6 ⟨x, by omega, rfl⟩ ⟨hs6, (fun e => by cases e), s3.keep (ha6.2 _ s3.row.lt (by omega)), ⟨ha6.row (by omega) s4, s6.keep (ha6.2 _ hlb9 (by omega))⟩, fun e => (ha6.cell hlb9 (by omega) 1).trans (s7 e), fun e e2 => (s8 e e2).aside ha6 (by omega)⟩ (fun _ _ => ha6)
            refine FlowStepsT.stepY 75 14 9 rfl rfl (by kernel_rfl) (by kernel_rfl) (by kernel_rfl) rfl rfl ?_ ?_
            ·
              intro cc act vs W hcc ha hvs hS hd hi K hK
              clear ha
              obtain ⟨_, u55, _, ⟨g, rfl, hgr, hrow⟩⟩ := hd.out ⟨5, .data⟩ (some 55) (by simp) rfl rfl
              obtain ⟨_, u57, _, ⟨x, hx, rfl⟩⟩ := hd.out ⟨7, .data⟩ (some 57) (by simp) rfl rfl
              clear hd hi
              clear hvs
              refine wanted_un rfl ?_
              have hxx : (x : Int) < 3 := by omega
              go_simp
              exact hK.out _ _ ⟨g, x, hx, rfl, hgr, hrow⟩ (hS.below (Below.refl _ _) id id id) (fun _ _ => Aside.refl _ _)
            refine FlowStepsT.stepY 75 14 10 rfl rfl (by kernel_rfl) (by kernel_rfl) (by kernel_rfl) rfl rfl ?_ ?_
            ·
              intro cc act vs W hcc ha hvs hS hd hi K hK
              clear ha
              obtain ⟨_, u58, _, ⟨g, x, hx, rfl, hgr, hrow⟩⟩ := hd.out ⟨8, .data⟩ (some 58) (by simp) rfl rfl
              clear hd hi
              clear hvs
              refine wanted_un rfl ?_
              obtain ⟨t, t0, t1, t2⟩ := ld9_lit x hx
              have e0 := hrow.cell t0
              have e1 := hrow.cell t1
              have e2 := hrow.cell t2
              go_simp
              exact hK.out _ _ ⟨t, rfl⟩ (hS.below (Below.refl _ _) id id id) (fun _ _ => Aside.refl _ _)
            refine FlowStepsT.stepY 75 14 11 rfl rfl (by kernel_rfl) (by kernel_rfl) (by kernel_rfl) rfl rfl ?_ ?_
            ·
              intro cc act vs W hcc ha hvs hS hd hi K hK
              clear ha
              obtain ⟨_, u59, _, ⟨t, rfl⟩⟩ := hd.out ⟨9, .data⟩ (some 59) (by simp) rfl rfl
              clear hd hi
              clear hvs
              refine wanted_un rfl ?_
              go_simp
              have hsz := hS.1.size
              exact hK.out _ _ ⟨W.heap.size, t, rfl, by omega, Row.madeL W _ (flatG [t])⟩ (hS.below (below_alloc0 (Below.refl _ _) _) id id id) (fun _ _ => Aside.of_below (below_alloc0 (Below.refl _ _) _))
            refine FlowStepsT.stepY 75 14 12 rfl rfl (by kernel_rfl) (by kernel_rfl) (by kernel_rfl) rfl rfl ?_ ?_
            ·
              intro cc act vs W hcc ha hvs hS hd hi K hK
              have nd13 : cc 13 = false := hcc.out.2 13 (by kernel_rfl)
              clear ha
              have u51 : act.tmps[51]? = some (.slice A nl cl) := by obtain ⟨_, u, _, h⟩ := hd.out ⟨1, .data⟩ (some 51) (by simp) rfl rfl; exact u.trans (congrArg some h)
              obtain ⟨_, u60, _, ⟨g, t, rfl, hgr, hrow⟩⟩ := hd.out ⟨10, .data⟩ (some 60) (by simp) rfl rfl
              clear hd hi
              clear hvs
              refine wanted_un rfl ?_
              have h11 := hcc.out.1
              obtain ⟨s1, s2, s3, ⟨s4, s6⟩, s7, s8⟩ := hS
              have hO := s8 h11 nd13
              have hsz := s1.size
              refine wp_append_own W (.tmp 51) (.tmp 60) 22 rfl w.heap.size 40 i0 _ 3 24 Try.underlying22 HI.out HZ0.out HZ1.out HZ2.out rfl (by decide) _ nl (flatG l) (by simp [Act.eval, u51]) (hO.own HLL.out) ⟨g, 0, none⟩ 1 1 (flatG [t]) (by simp [Act.eval, u60]) rfl (fun j u hj => by rw [Addr.add_lit]; rw [Nat.zero_add]; exact hrow.cell hj) (flatG_one _) (by unfold maxLen; omega) (by omega) (by omega) ?_
              intro v' w' ho hgb hnil
              rw [← flatG_app] at ho
              obtain ⟨A', c', rfl, ho'⟩ := ownSG_of ho (by simp [HLL.out])
              have hne : ∀ q, LBlk W q → w'.heap[q]? = W.heap[q]? := fun q hq => hgb.block q hq.row.lt (fun e => by
                rcases hO with ⟨rfl, _⟩ | ⟨g', mm, rfl, _, _, _, _, _, hy⟩
                · simp [Value.ownBlock] at e
                · simp only [Value.ownBlock, Option.some.injEq] at e
                  exact hy.not_list hq e.symm)
              have hc : ∀ o, w'.cell? ⟨lb, o, none⟩ = W.cell? ⟨lb, o, none⟩ := fun o => by simp [World.cell?, hne lb s6]
              have hro : ∀ q, (Value.slice A nl cl).ownBlock = some q → w.heap.size ≤ q := fun q hq => ((hO.own HLL.out).lt q hq).1
              exact hK.out _ w' ⟨A', c', t, rfl, ho'⟩ ⟨s1.grown hgb hro, fun e => (s2 e).grown hgb hro, s3.keep (hne _ s3), ⟨s4.keep (hne _ s6), s6.keep (hne _ s6)⟩, fun e => (hc 1).trans (s7 e), (fun e => by cases e)⟩ (fun e => absurd rfl e)
            refine FlowStepsT.stepY 75 14 13 rfl rfl (by kernel_rfl) (by kernel_rfl) (by kernel_rfl) rfl rfl ?_ ?_
            ·
              intro cc act vs W hcc ha hvs hS hd hi K hK
              clear ha
              have u5 : act.tmps[5]? = some (.pointer (some ⟨lb, 0, none⟩)) := (hi.out 5 (by kernel_rfl)).trans rfl
              clear hd hi
              clear hvs
              refine wanted_un rfl ?_
              go_simp
              exact hK.out _ _ rfl (hS.below (Below.refl _ _) id id id) (fun _ _ => Aside.refl _ _)
            refine FlowStepsT.stepY 75 14 14 rfl rfl (by kernel_rfl) (by kernel_rfl) (by kernel_rfl) rfl rfl ?_ ?_
            ·
              intro cc act vs W hcc ha hvs hS hd hi K hK
              clear ha
              have u62 : act.tmps[62]? = some (.pointer (some ⟨lb, 1, none⟩)) := by obtain ⟨_, u, _, h⟩ := hd.out ⟨12, .data⟩ (some 62) (by simp) rfl rfl; exact u.trans (congrArg some h)
              obtain ⟨_, u61, _, ⟨A', c', t, rfl, ho⟩⟩ := hd.out ⟨11, .data⟩ (some 61) (by simp) rfl rfl
              clear hd hi
              clear hvs
              refine wanted_un rfl ?_
              obtain ⟨s1, s2, s3, ⟨s4, s6⟩, s7, s8⟩ := hS
              have hr := s6.row
              have hlt := hr.lt
              have hsz := s1.size
              obtain ⟨y1, g1⟩ := hr.some_ex (j := 1) (by omega)
              have z1 := hr.frozen 1
              have hap : ∀ a, A' = some a → a.block ≠ lb := fun a ha => (ho.ty a ha).not_list s6
              go_simp
              exact hK.out (.bool true) _ ⟨A', c', t, (by
                rcases ho with h | ⟨g', mm, rfl, h2, h3, h4, h5, h6, h7⟩
                · exact .inl h
                · exact .inr ⟨g', mm, rfl, h2, h3, h4, h5, h6.far (p := ⟨lb, 1, none⟩) (hap _ rfl) _, h7.set _⟩), ⟨(s4.set 1 (.slice A' (nl + 1) c')).mono (fun j u hj => by match j with | 0 => simpa [rwl, lp] using hj | 1 => simpa [rwl] using hj | 2 => simpa [rwl, lp] using hj | j + 3 => simp [rwl] at hj), s6.set 1 _⟩⟩ ⟨s1.setNew (p := ⟨lb, 1, none⟩) (by show w.heap.size ≤ lb; omega) _, fun e => (s2 e).setNew (p := ⟨lb, 1, none⟩) (by show w.heap.size ≤ lb; omega) _, s3.keep (Below.heap_setCell _ ⟨lb, 1, none⟩ _ _ (by show w.heap.size ≠ lb; omega)), ⟨(s4.set 1 _).mono (fun j u hj => by by_cases e : j = 1; (subst e; simp [lp] at hj); (simpa [e] using hj)), s6.set 1 _⟩, (fun e => by cases e), (fun _ e => by cases e)⟩ (fun _ e => absurd rfl e)
            exact FlowStepsT.nil
          · intro d ρ W hdd hS hd
            simp only [putFrom, Act.put, List.setIfInBounds_toArray, List.set_cons_zero, List.set_cons_succ, Nat.reduceAdd]
            obtain ⟨A', c', t, ho, hr⟩ := hd.out 13 (by decide) (by kernel_rfl)
            clear hd
            have LX : Hid (LdS w B r (k + 62 + 1) lb m k2 A' (nl + 1) c' (l ++ [t]) W) := ⟨hS.1, hS.2.2.1, hzl, hr, ho, by simp [HLL.out]⟩
            have a0 := hr.c0
            have a1 := hr.c1
            have a2 := hr.c2
            have l4l := hr.lt
            have hz := hS.2.2.1.row
            have hzl9 := hz.lt
            obtain ⟨y0, g0⟩ := hz.some_ex (j := 0) (by omega)
            obtain ⟨y1, g1⟩ := hz.some_ex (j := 1) (by omega)
            obtain ⟨y2, g2⟩ := hz.some_ex (j := 2) (by omega)
            have f0 := hz.frozen 0
            have f1 := hz.frozen 1
            have f2 := hz.frozen 2
            have hnz : w.heap.size ≠ lb := by omega
            clear hz hS ho hr
            go_wp2_with fail
            exact bodyPost_ret (v := .agg #[.int .i64 m, .slice A' (nl + 1) c', .int .i64 k2]) (by simp [results, Try.results45, go_sem, *]) rfl (drewList_end LX.out (by omega) (by omega))

end Go.Proofs.Ytpifnfhgaemdmaa
