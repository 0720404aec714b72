/-
  SetGrant of the reference. No condition.
-/
import Derived.Test.YtpifnfhgaemdmaaProg
import Derived.Test.YtpifnfhgaemdmaaLstE
import Derived.Test.YtpifnfhgaemdmaaGrantO
import Derived.Test.YtpifnfhgaemdmaaGrantM
import Derived.Test.YtpifnfhgaemdmaaFlowZ
import Derived.Laws.AppendOwnNone
namespace Go.Proofs.Ytpifnfhgaemdmaa
open Go.RowKit
set_option linter.unusedSimpArgs false
set_option linter.unusedVariables false

theorem wp_append_none {P : Program} {o : Oper} {a : Act} {K : Act → World → Prop} {Q : Exit → Act → World → Prop} (w : World) (s x : Operand) (t : TypeId)
    (ho : o.op = .call { callee := .builtin .append, args := #[s, x], argTypes := #[t, t] })
    (base : Nat) (e : TypeId) (i : TypeInfo) (size : Nat) (ht : P.underlying t = some (.slice e)) (hi : P.info? e = some i)
    (v : Value) (n : Nat) (xs : List Value) (hs : a.eval s = v) (hown : w.ownsRow base e size v n xs) (hx : a.eval x = .slice none 0 0)
    (h : K (a.put o.dst v) w) : o.wp P a w K Q := by
  have hrun := run_append_owned_none (P := P) (w := w) base t o.type e i size ht hi v n xs hown
  unfold Oper.wp
  simp [execOp, ho, resolve, invoke, builtin, hs, hx, hrun, Result.andThen]
  exact h
def putG (l : List Grant) (t : Grant) : List Grant := match l.findIdx? (isG t.ofGroup t.who) with | some j => l.set j t | none => l ++ [t]
noncomputable def sgOk (m : Int) (l : List Grant) (k : Int) (t : Grant) : Bool := listB m l k && listB m (putG l t) k
noncomputable def sgL (m : Int) (l : List Grant) (k : Int) (t : Grant) : List Grant := if listB m l k = true then (if listB m (putG l t) k = true then putG l t else l) else []
noncomputable def sgN (m : Int) (l : List Grant) (k x : Int) : Int := if listB m l k = true then x else 0
/-- What SetGrant gives: a slice of its own that reads as the list, or nil. -/
def SgOut (w : World) (m : Int) (l : List Grant) (k : Int) (t : Grant) (e : Ending) (w' : World) : Prop :=
  ∃ (A : Option Addr) (n c : Nat), e = .returned (.tuple #[.agg #[.int .i64 (sgN m l k m), .slice A n c, .int .i64 (sgN m l k k)], .bool (sgOk m l k t)]) ∧ (sgL m l k t).length = n ∧
    OwnSG w' w.heap.size n c A (sgL m l k t) ∧ Below w.heap.size w w'
theorem SgOut.bad {w w' : World} {m k : Int} {l : List Grant} {t : Grant} (h : listB m l k = false) (hb : Below w.heap.size w w') : SgOut w m l k t (.returned (.tuple #[.agg #[.int .i64 0, .slice none 0 0, .int .i64 0], .bool false])) w' :=
  ⟨none, 0, 0, by simp [sgN, sgOk, h], by simp [sgL, h], .inl ⟨rfl, rfl, rfl⟩, hb⟩
theorem SgOut.goodS {w w' : World} {m k : Int} {l ln : List Grant} {t : Grant} {A : Option Addr} {n c : Nat} (h : listB m l k = true) (hp : putG l t = ln) (h2 : listB m ln k = true) (hl : ln.length = n) (ho : OwnSG w' w.heap.size n c A ln) (hb : Below w.heap.size w w') :
    SgOut w m l k t (.returned (.tuple #[.agg #[.int .i64 m, .slice A n c, .int .i64 k], .bool true])) w' := by
  subst hp
  have e : sgL m l k t = putG l t := by simp [sgL, h, h2]
  exact ⟨A, n, c, by simp [sgN, sgOk, h, h2], by rw [e]; exact hl, by rw [e]; exact ho, hb⟩
theorem SgOut.keptS {w w' : World} {m k : Int} {l ln : List Grant} {t : Grant} {A : Option Addr} {n c : Nat} (h : listB m l k = true) (hp : putG l t = ln) (h2 : listB m ln k = false) (hl : l.length = n) (ho : OwnSG w' w.heap.size n c A l) (hb : Below w.heap.size w w') :
    SgOut w m l k t (.returned (.tuple #[.agg #[.int .i64 m, .slice A n c, .int .i64 k], .bool false])) w' := by
  subst hp
  have e : sgL m l k t = l := by simp [sgL, h, h2]
  exact ⟨A, n, c, by simp [sgN, sgOk, h, h2], by rw [e]; exact hl, by rw [e]; exact ho, hb⟩
theorem SgOut.good {w w' : World} {m k : Int} {l ln : List Grant} {t : Grant} {gz n c mm : Nat} (h : listB m l k = true) (hp : putG l t = ln) (h2 : listB m ln k = true) (hl : ln.length = n) (hg : w.heap.size ≤ gz) (hnc : n ≤ c) (hc : c ≤ maxLen) (hm : mm = c * 3) (hr : Row w' gz mm (doneGrant ln n)) (hy : TyG w' gz) (hb : Below w.heap.size w w') :
    SgOut w m l k t (.returned (.tuple #[.agg #[.int .i64 m, .slice (some ⟨gz, 0, none⟩) n c, .int .i64 k], .bool true])) w' :=
  .goodS h hp h2 hl (.inr ⟨gz, mm, rfl, hg, hnc, hc, hm, hr, hy⟩) hb
theorem SgOut.kept {w w' : World} {m k : Int} {l ln : List Grant} {t : Grant} {gz n c mm : Nat} (h : listB m l k = true) (hp : putG l t = ln) (h2 : listB m ln k = false) (hl : l.length = n) (hg : w.heap.size ≤ gz) (hnc : n ≤ c) (hc : c ≤ maxLen) (hm : mm = c * 3) (hr : Row w' gz mm (doneGrant l n)) (hy : TyG w' gz) (hb : Below w.heap.size w w') :
    SgOut w m l k t (.returned (.tuple #[.agg #[.int .i64 m, .slice (some ⟨gz, 0, none⟩) n c, .int .i64 k], .bool false])) w' :=
  .keptS h hp h2 hl (.inr ⟨gz, mm, rfl, hg, hnc, hc, hm, hr, hy⟩) hb
theorem row_setGrant {w : World} {g m n j : Nat} {l : List Grant} {t : Grant} (h : Row w g m (doneGrant l n)) (hm : n * 3 ≤ m) (hj : j < n) (hl : l.length = n) :
    Row (((w.setCell ⟨g, j * 3, none⟩ (.bool t.ofGroup)).setCell ⟨g, j * 3 + 1, none⟩ (.int .i64 t.who)).setCell ⟨g, j * 3 + 2, none⟩ (.int .i64 t.rights)) g m (doneGrant (l.set j t) n) := by
  refine (((h.set (j * 3) _).set (j * 3 + 1) _).set (j * 3 + 2) _).mono fun p u hp => ?_
  simp only [doneGrant] at hp ⊢
  split at hp
  · rename_i hlt
    simp only [cellGrant] at hp ⊢
    by_cases e2 : p = j * 3 + 2
    · rw [if_pos e2, if_pos (by omega)]
      subst e2
      rw [← hp, show (j * 3 + 2) / 3 = j by omega, List.getElem?_set_self (by omega)]; simp [show (j * 3 + 2) % 3 = 2 by omega]
    rw [if_neg e2]
    by_cases e1 : p = j * 3 + 1
    · rw [if_pos e1, if_pos (by omega)]
      subst e1
      rw [← hp, show (j * 3 + 1) / 3 = j by omega, List.getElem?_set_self (by omega)]; simp [show (j * 3 + 1) % 3 = 1 by omega]
    rw [if_neg e1]
    by_cases e0 : p = j * 3
    · rw [if_pos e0, if_pos (by omega)]
      subst e0
      rw [← hp, show (j * 3) / 3 = j by omega, List.getElem?_set_self (by omega)]; simp
    rw [if_neg e0, if_pos hlt]
    rw [List.getElem?_set_ne (by omega)] at hp; exact hp
  · cases hp
def LBlk (W : World) (q : Nat) : Prop := ∃ C : Array Value, W.heap[q]? = some (.cells C 24 (0, 0)) ∧ C.size = 3
theorem LBlk.row {W : World} {q : Nat} (h : LBlk W q) : Row W q 3 noCell := by
  obtain ⟨C, h1, h2⟩ := h
  exact ⟨C, _, h1, h2, fun j u h => by cases h⟩
theorem LBlk.below {W W' : World} {q : Nat} (h : LBlk W q) (hb : Below W.heap.size W W') : LBlk W' q := by
  obtain ⟨C, h1, h2⟩ := h
  have : q < W.heap.size := by
    rcases Nat.lt_or_ge q W.heap.size with hlt | hge
    · exact hlt
    · rw [Array.getElem?_eq_none hge] at h1; cases h1
  exact ⟨C, (hb.block q this).trans h1, h2⟩
theorem LBlk.keep {W W' : World} {q : Nat} (h : LBlk W q) (hb : W'.heap[q]? = W.heap[q]?) : LBlk W' q := by
  obtain ⟨C, h1, h2⟩ := h
  exact ⟨C, hb.trans h1, h2⟩
theorem LBlk.set {W : World} {q : Nat} (h : LBlk W q) (i : Nat) (u : Value) : LBlk (W.setCell ⟨q, i, none⟩ u) q := by
  obtain ⟨C, h1, h2⟩ := h
  exact ⟨C.setIfInBounds i u, by simp [World.setCell, Array.getElem?_modify, h1], by simpa using h2⟩
theorem own_apart {W : World} {lo n gz cz : Nat} {xs : List Value} {q : Nat} (h : W.ownsRow lo 40 3 (.slice (some ⟨gz, 0, none⟩) n cz) n xs) (hq : LBlk W q) : gz ≠ q := by
  intro e
  obtain ⟨C, h1, _⟩ := hq
  rcases h.2 with ⟨h0, _⟩ | ⟨g, cap, cur, h0, _, hg, _⟩
  · cases h0
  · cases h0
    subst e
    rw [hg] at h1
    simp at h1
theorem own_far3 {W : World} {lo n gz cz q : Nat} {x y z : Value} {xs : List Value} (h : W.ownsRow lo 40 3 (.slice (some ⟨gz, 0, none⟩) n cz) n xs) (hne : gz ≠ q) :
    (((W.setCell ⟨q, 0, none⟩ x).setCell ⟨q, 1, none⟩ y).setCell ⟨q, 2, none⟩ z).ownsRow lo 40 3 (.slice (some ⟨gz, 0, none⟩) n cz) n xs := by
  refine own_keepB h fun k hk => ?_
  simp only [Value.ownBlock, Option.some.injEq] at hk
  subst hk
  exact ((Below.heap_setCell _ ⟨q, 2, none⟩ _ gz hne).trans (Below.heap_setCell _ ⟨q, 1, none⟩ _ gz hne)).trans (Below.heap_setCell _ ⟨q, 0, none⟩ _ gz hne)
theorem own_slice {W : World} {lo n : Nat} {z : Value} {xs : List Value} (h : W.ownsRow lo 40 3 z n xs) (hz : z ≠ .slice none 0 0) : ∃ gz cz, z = .slice (some ⟨gz, 0, none⟩) n cz := by
  rcases h.2 with ⟨h0, _⟩ | ⟨g, cap, cur, h0, _⟩
  · exact absurd h0 hz
  · exact ⟨g, cap, h0⟩
/-- What the operations of the copying statement keep; s: the store. -/
def sgC (lo s : Nat) (i : Nat) (W W' : World) : Prop :=
  if i = s then Below lo W W' else if i = 5 then Below lo W W' ∧ ∀ (b : Nat) (C : Array Value), W.heap[b]? = some (.cells C 24 (0, 0)) → W'.heap[b]? = W.heap[b]? else Below W.heap.size W W'
theorem sgC_below {lo s i : Nat} {W W' : World} (h1 : i ≠ s) (h2 : i ≠ 5) (hb : Below W.heap.size W W') : sgC lo s i W W' := by unfold sgC; rw [if_neg h1, if_neg h2]; exact hb
def sgF (m : Int) (A : Option Addr) (n c : Nat) (k : Int) (l : List Grant) (xd lo : Nat) (i : Nat) (v : Value) (vs : List Value) (W : World) : Prop :=
  match i with
  | 0 => v = .pointer (some ⟨xd, 0, none⟩)
  | 1 => v = .int .i64 m
  | 2 => v ≠ .slice none 0 0 ∧ W.ownsRow lo 40 3 v 0 []
  | 3 => v = .pointer (some ⟨xd, 1, none⟩)
  | 4 => v = .slice A n c
  | 5 => ∃ gz cz, v = .slice (some ⟨gz, 0, none⟩) n cz ∧ W.ownsRow lo 40 3 (.slice (some ⟨gz, 0, none⟩) n cz) n (flatG l)
  | 6 => v = .pointer (some ⟨xd, 2, none⟩)
  | 7 => v = .int .i64 k
  | 8 => ∃ gz cz, v = .agg #[.int .i64 m, .slice (some ⟨gz, 0, none⟩) n cz, .int .i64 k] ∧ W.ownsRow lo 40 3 (.slice (some ⟨gz, 0, none⟩) n cz) n (flatG l)
  | 9 => ∃ q, v = .pointer (some ⟨q, 0, none⟩) ∧ lo ≤ q ∧ LBlk W q
  | 10 => ∃ q gz cz, v = .pointer (some ⟨q, 0, none⟩) ∧ vs[0]? = some v ∧ lo ≤ q ∧ Row W q 3 (rwl [.int .i64 m, .slice (some ⟨gz, 0, none⟩) n cz, .int .i64 k]) ∧ W.ownsRow lo 40 3 (.slice (some ⟨gz, 0, none⟩) n cz) n (flatG l) ∧ gz ≠ q ∧ LBlk W q
  | _ => True
theorem sgF_keep {m : Int} {A : Option Addr} {n c : Nat} {k : Int} {l : List Grant} {xd lo i j : Nat} {v : Value} {vs : List Value} {W W' : World} (h5 : i = 5 → j ≠ 2 ∧ j ≠ 5 ∧ j ≠ 8 ∧ j ≠ 10) (h10 : i = 10 → j ≠ 2 ∧ j ≠ 5 ∧ j ≠ 8 ∧ j ≠ 9 ∧ j ≠ 10)
    (h : sgF m A n c k l xd lo j v vs W) (hc : sgC lo 10 i W W') : sgF m A n c k l xd lo j v vs W' := by
  have hbelow : ∀ (z : Value) (n : Nat) (xs : List Value), i ≠ 10 → i ≠ 5 → W.ownsRow lo 40 3 z n xs → W'.ownsRow lo 40 3 z n xs := fun z n xs h1 h2 ho => by
    unfold sgC at hc; rw [if_neg h1, if_neg h2] at hc; exact own_below ho hc
  unfold sgF at h ⊢
  split <;> simp only at h <;> try exact h
  · exact ⟨h.1, hbelow _ _ _ (fun e => (h10 e).1 rfl) (fun e => (h5 e).1 rfl) h.2⟩
  · obtain ⟨gz, cz, h1, h3⟩ := h
    exact ⟨gz, cz, h1, hbelow _ _ _ (fun e => (h10 e).2.1 rfl) (fun e => (h5 e).2.1 rfl) h3⟩
  · obtain ⟨gz, cz, h1, h3⟩ := h
    exact ⟨gz, cz, h1, hbelow _ _ _ (fun e => (h10 e).2.2.1 rfl) (fun e => (h5 e).2.2.1 rfl) h3⟩
  · obtain ⟨q, h1, h2, h3⟩ := h
    refine ⟨q, h1, h2, ?_⟩
    unfold sgC at hc
    rw [if_neg (fun e => (h10 e).2.2.2.1 rfl)] at hc
    split at hc
    · obtain ⟨C, c1, c2⟩ := h3
      exact ⟨C, (hc.2 q C c1).trans c1, c2⟩
    · exact h3.below hc
  · have i10 : i ≠ 10 := fun e => (h10 e).2.2.2.2 rfl
    have i5 : i ≠ 5 := fun e => (h5 e).2.2.2 rfl
    obtain ⟨q, gz, cz, h1, h2, h3, h4, h6, h7, h8⟩ := h
    unfold sgC at hc; rw [if_neg i10, if_neg i5] at hc
    exact ⟨q, gz, cz, h1, h2, h3, h4.below hc h4.lt, own_below h6 hc, h7, h8.below hc⟩
def sgF2 (m : Int) (A : Option Addr) (n c : Nat) (k : Int) (l : List Grant) (xd lo : Nat) (i : Nat) (v : Value) (vs : List Value) (W : World) : Prop :=
  match i with
  | 9 => ∃ gz cz, Row W (xd + 1 + 1) 3 (rwl [.int .i64 m, .slice (some ⟨gz, 0, none⟩) n cz, .int .i64 k]) ∧ W.ownsRow lo 40 3 (.slice (some ⟨gz, 0, none⟩) n cz) n (flatG l)
  | 10 => v = .bool false
  | _ => sgF m A n c k l xd lo i v vs W
theorem sgF2_keep {m : Int} {A : Option Addr} {n c : Nat} {k : Int} {l : List Grant} {xd lo lo' i j : Nat} {v : Value} {vs : List Value} {W W' : World} (h5 : i = 5 → j ≠ 2 ∧ j ≠ 5 ∧ j ≠ 8 ∧ j ≠ 9) (h9 : i = 9 → j ≠ 2 ∧ j ≠ 5 ∧ j ≠ 8 ∧ j ≠ 9)
    (h : sgF2 m A n c k l xd lo j v vs W) (hc : sgC lo' 9 i W W') : sgF2 m A n c k l xd lo j v vs W' := by
  have hbelow : i ≠ 9 → i ≠ 5 → Below W.heap.size W W' := fun h1 h2 => by
    unfold sgC at hc; rw [if_neg h1, if_neg h2] at hc; exact hc
  unfold sgF2 at h ⊢
  split <;> simp only at h <;> try exact h
  · obtain ⟨gz, cz, h1, h3⟩ := h
    have hb := hbelow (fun e => (h9 e).2.2.2 rfl) (fun e => (h5 e).2.2.2 rfl)
    exact ⟨gz, cz, h1.below hb h1.lt, own_below h3 hb⟩
  · rename_i hj9 hj10
    unfold sgF at h ⊢
    split <;> simp only at h <;> try exact h
    · exact ⟨h.1, own_below h.2 (hbelow (fun e => (h9 e).1 rfl) (fun e => (h5 e).1 rfl))⟩
    · obtain ⟨gz, cz, h1, h3⟩ := h
      exact ⟨gz, cz, h1, own_below h3 (hbelow (fun e => (h9 e).2.1 rfl) (fun e => (h5 e).2.1 rfl))⟩
    · obtain ⟨gz, cz, h1, h3⟩ := h
      exact ⟨gz, cz, h1, own_below h3 (hbelow (fun e => (h9 e).2.2.1 rfl) (fun e => (h5 e).2.2.1 rfl))⟩
    · exact absurd rfl hj9
    · exact absurd rfl hj10
set_option maxHeartbeats 4000000 in
theorem sgSpec_c (m : Int) (A : Option Addr) (n c : Nat) (k : Int) (l : List Grant) (tg : Bool) (tw tr : Int) (hn : n ≤ 1048576) (w : World) (hR : InGrant w A n l) (h0 : A = none → c = 0) :
    Calls Try.prog 26 #[.agg #[.int .i64 m, .slice A n c, .int .i64 k], .agg #[.bool tg, .int .i64 tw, .int .i64 tr]] w (SgOut w m l k ⟨tg, tw, tr⟩) := by
  obtain ⟨i0, hi0, hz0, hz1, hz2⟩ := info_parts infoGrant
  have HII := hide hi0
  have HZ0 := hide hz0
  have HZ1 := hide hz1
  have HZ2 := hide hz2
  clear hi0 hz0 hz1 hz2
  have HL := hide hR.1
  have HR := hide hR
  have H0 := hide h0
  clear hR h0
  go_enter Try.func26, Try.ntmps26
  go_wp2_with fail
  have BW0 : Below w.heap.size w (((w.alloc (.cells #[.int .i64 m, .slice A n c, .int .i64 k] 24)).alloc (.cells #[.bool tg, .int .i64 tw, .int .i64 tr] 40)).alloc (.cells #[.int .i64 0, .slice none 0 0, .int .i64 0] 24)) := below_alloc0 (below_alloc0 (below_alloc0 (Below.refl _ _) _) _) _
  refine (lvSpec_c _ _ _ _ _ l hn _ (HR.out.below BW0)).mono ?_
  rintro e W0 ⟨rfl, hb1⟩
  have L1 := live hb1 w.heap.size (by simp; try omega)
  have M1 := live hb1 (w.heap.size + 1) (by simp; try omega)
  have N1 := live hb1 (w.heap.size + 2) (by simp; try omega)
  have B1 := hide (below_via0 BW0 hb1)
  have hR0 := hide (HR.out.below B1.out)
  have RR0 : Row W0 (w.heap.size + 1 + 1) 3 noCell := by
    have := (Row.madeN ((w.alloc (.cells #[.int .i64 m, .slice A n c, .int .i64 k] 24)).alloc (.cells #[.bool tg, .int .i64 tw, .int .i64 tr] 40)) 24 #[.int .i64 0, .slice none 0 0, .int .i64 0] 3 rfl).below hb1 (by simp)
    simpa using this
  have HRR0 := hide RR0
  clear hb1 RR0
  cases hlv : listB m l k
  · have HF := hide hlv
    obtain ⟨u0, v0⟩ := HRR0.out.some_ex (j := 0) (by omega)
    obtain ⟨u1, v1⟩ := HRR0.out.some_ex (j := 1) (by omega)
    obtain ⟨u2, v2⟩ := HRR0.out.some_ex (j := 2) (by omega)
    have vz0 := HRR0.out.frozen 0
    have vz1 := HRR0.out.frozen 1
    have vz2 := HRR0.out.frozen 2
    have hrl := HRR0.out.lt
    clear L1 M1 N1 hlv
    go_wp2_with fail
    exact bodyPost_ret (v := .tuple #[.agg #[.int .i64 0, .slice none 0 0, .int .i64 0], .bool false]) (by simp [results, Try.results26, go_sem, *]) rfl (SgOut.bad HF.out (below_set3 B1.out (by omega)))
  · have HV := hide hlv
    have hn6 : n ≤ 6 := by rw [← HL.out]; exact (listB_iff.1 hlv).2.2.2
    have x0 : W0.cell? ⟨w.heap.size, 0, none⟩ = some (.int .i64 m) := by simp [go_sem, L1]
    have x1 : W0.cell? ⟨w.heap.size, 1, none⟩ = some (.slice A n c) := by simp [go_sem, L1]
    have x2 : W0.cell? ⟨w.heap.size, 2, none⟩ = some (.int .i64 k) := by simp [go_sem, L1]
    have y0 : W0.cell? ⟨w.heap.size + 1, 0, none⟩ = some (.bool tg) := by simp [go_sem, M1]
    have y1 : W0.cell? ⟨w.heap.size + 1, 1, none⟩ = some (.int .i64 tw) := by simp [go_sem, M1]
    have y2 : W0.cell? ⟨w.heap.size + 1, 2, none⟩ = some (.int .i64 tr) := by simp [go_sem, M1]
    have hxl := L1.1
    have hxl1 := M1.1
    have hxl2 := N1.1
    clear hlv L1 M1 N1
    go_wp2_with fail
    obtain ⟨xd, hxd⟩ : ∃ xd, xd = w.heap.size := ⟨_, rfl⟩
    have hrr0 := HRR0.out
    rw [← hxd] at x0 x1 x2 y0 y1 y2 hxl hxl1 hxl2 hrr0 ⊢
    have HX := hide (And.intro x0 (And.intro x1 x2))
    have HRR := hide hrr0
    clear hrr0
    have HXD := hide hxd
    clear hxd
    refine wp_flowZ (os := [_, _, _, _, _, _, _, _, _, _, _]) (fun cc W => Below W0.heap.size W0 W) (sgC W0.heap.size 10) (sgF m A n c k l xd W0.heap.size) 11 rfl ?_ ?_ ?_ ?_ ?_ ?_ ?_
    · kernel_rfl
    · kernel_rfl
    · kernel_rfl
    · exact (fun i j v vs w1 w2 hij hdd hbf h hc => sgF_keep (by rintro rfl; refine ⟨?_, Ne.symm hij, ?_, ?_⟩; (rintro rfl; exact absurd (show dead _ 5 2 = true by kernel_rfl) (by rw [hdd]; decide)); (rintro rfl; exact absurd (show beforeX _ 5 8 = true by kernel_rfl) (by rw [hbf]; decide)); (rintro rfl; exact absurd (show beforeX _ 5 10 = true by kernel_rfl) (by rw [hbf]; decide))) (by rintro rfl; refine ⟨?_, ?_, ?_, ?_, Ne.symm hij⟩; (rintro rfl; exact absurd (show dead _ 10 2 = true by kernel_rfl) (by rw [hdd]; decide)); (rintro rfl; exact absurd (show dead _ 10 5 = true by kernel_rfl) (by rw [hdd]; decide)); (rintro rfl; exact absurd (show dead _ 10 8 = true by kernel_rfl) (by rw [hdd]; decide)); (rintro rfl; exact absurd (show dead _ 10 9 = true by kernel_rfl) (by rw [hdd]; decide))) h hc)
    · exact (Below.refl _ _).drew
    ·
      refine FlowStepsX.stepY 75 11 1 rfl rfl (by kernel_rfl) (by kernel_rfl) (by kernel_rfl) rfl rfl ?_ ?_
      ·
        intro cc act vs W hcc ha hvs hS hd hi K hK
        clear ha
        have u2 : act.tmps[2]? = some (.pointer (some ⟨xd, 0, none⟩)) := (hi.out 2 (by kernel_rfl)).trans rfl
        clear hd hi
        clear hvs
        refine wanted_un rfl ?_
        go_simp
        exact hK.out _ _ rfl hS (sgC_below (by decide) (by decide) (Below.refl _ _))
      refine FlowStepsX.stepY 75 11 2 rfl rfl (by kernel_rfl) (by kernel_rfl) (by kernel_rfl) rfl rfl ?_ ?_
      ·
        intro cc act vs W hcc ha hvs hS hd hi K hK
        clear ha
        have u13 : act.tmps[13]? = some (.pointer (some ⟨xd, 0, none⟩)) := by obtain ⟨_, u, _, h⟩ := hd.out ⟨0, .data⟩ (some 13) (by simp) rfl rfl; exact u.trans (congrArg some h)
        clear hd hi
        clear hvs
        refine wanted_un rfl ?_
        have e0 := (hS.cell (p := ⟨xd, 0, none⟩) hxl).trans x0
        go_simp
        exact hK.out _ _ rfl hS (sgC_below (by decide) (by decide) (Below.refl _ _))
      refine FlowStepsX.stepY 75 11 3 rfl rfl (by kernel_rfl) (by kernel_rfl) (by kernel_rfl) rfl rfl ?_ ?_
      ·
        intro cc act vs W hcc ha hvs hS hd hi K hK
        clear ha
        clear hd hi
        clear hvs
        refine wanted_un rfl ?_
        go_simp
        have hsz := hS.size
        exact hK.out _ _ ⟨by simp, own_new (n := 0) W #[] hsz (Nat.zero_le _) rfl⟩ (hS.alloc hsz _) (sgC_below (by decide) (by decide) ((Below.refl _ _).alloc (Nat.le_refl _) _))
      refine FlowStepsX.stepY 75 11 4 rfl rfl (by kernel_rfl) (by kernel_rfl) (by kernel_rfl) rfl rfl ?_ ?_
      ·
        intro cc act vs W hcc ha hvs hS hd hi K hK
        clear ha
        have u2 : act.tmps[2]? = some (.pointer (some ⟨xd, 0, none⟩)) := (hi.out 2 (by kernel_rfl)).trans rfl
        clear hd hi
        clear hvs
        refine wanted_un rfl ?_
        go_simp
        exact hK.out _ _ rfl hS (sgC_below (by decide) (by decide) (Below.refl _ _))
      refine FlowStepsX.stepY 75 11 5 rfl rfl (by kernel_rfl) (by kernel_rfl) (by kernel_rfl) rfl rfl ?_ ?_
      ·
        intro cc act vs W hcc ha hvs hS hd hi K hK
        clear ha
        have u16 : act.tmps[16]? = some (.pointer (some ⟨xd, 1, none⟩)) := by obtain ⟨_, u, _, h⟩ := hd.out ⟨3, .data⟩ (some 16) (by simp) rfl rfl; exact u.trans (congrArg some h)
        clear hd hi
        clear hvs
        refine wanted_un rfl ?_
        have e1 := (hS.cell (p := ⟨xd, 1, none⟩) hxl).trans x1
        go_simp
        exact hK.out _ _ rfl hS (sgC_below (by decide) (by decide) (Below.refl _ _))
      refine FlowStepsX.stepY 75 11 6 rfl rfl (by kernel_rfl) (by kernel_rfl) (by kernel_rfl) rfl rfl ?_ ?_
      ·
        intro cc act vs W hcc ha hvs hS hd hi K hK
        clear ha
        obtain ⟨_, u15, _, ⟨hv2, hown⟩⟩ := hd.out ⟨2, .data⟩ (some 15) (by simp) rfl rfl
        have u17 : act.tmps[17]? = some (.slice A n c) := by obtain ⟨_, u, _, h⟩ := hd.out ⟨4, .data⟩ (some 17) (by simp) rfl rfl; exact u.trans (congrArg some h)
        clear hd hi
        clear hvs
        refine wanted_un rfl ?_
        have hsz := hS.size
        have hRW := hR0.out.below hS
        cases A with
        | none =>
          have hc0 := H0.out rfl
          have hn0 : n = 0 := by
            rcases Nat.eq_zero_or_pos n with h | h
            · exact h
            · obtain ⟨_, _, h', _⟩ := hRW.2 h
              cases h'
          have hl0 : l = [] := List.eq_nil_of_length_eq_zero (HL.out.trans hn0)
          obtain ⟨gz, cz, rfl⟩ := own_slice hown hv2
          refine wp_append_none W (.tmp 15) (.tmp 17) 22 rfl W0.heap.size 40 i0 3 Try.underlying22 HII.out _ 0 [] (by simp [Act.eval, u15]) hown (by simp [Act.eval, u17, hc0, hn0]) ?_
          exact hK.out _ _ ⟨gz, cz, by rw [hn0], by rw [hn0, hl0]; exact hown⟩ (hS.trans (Below.refl W.heap.size W |>.mono hsz)) (by
            unfold sgC; rw [if_neg (by decide), if_pos rfl]
            exact ⟨(Below.refl W0.heap.size W), fun b' C hb' => rfl⟩)
        | some ad =>
          refine wp_append_own W (.tmp 15) (.tmp 17) 22 rfl W0.heap.size 40 i0 _ 3 24 Try.underlying22 HII.out HZ0.out HZ1.out HZ2.out rfl (by decide) _ 0 [] (by simp [Act.eval, u15]) hown ad n c (flatG l) (by simp [Act.eval, u17]) (by rw [flatG_len, HL.out]) (fun j u hj => by
            have h0 : 0 < n := by
              have := (List.getElem?_eq_some_iff.1 hj).1
              rw [flatG_len, HL.out] at this
              omega
            obtain ⟨b, off, hA, hRr⟩ := hRW.2 h0
            obtain rfl : ad = ⟨b, off, none⟩ := by simpa using hA
            rw [Addr.add_lit]; exact flatG_cells hRr j u hj) (flatG_one l) (by unfold maxLen; omega) (by omega) hsz ?_
          intro v' w' ho hgr hnil
          have hnil' : v' ≠ .slice none 0 0 := fun e => hv2 (hnil.1 e).1
          rw [Nat.zero_add, List.nil_append] at ho
          obtain ⟨gz, cz, rfl⟩ := own_slice ho hnil'
          have hgb : Below W0.heap.size W w' := (Below.refl W0.heap.size W).grown hgr hsz (fun k hk => (hown.lt k hk).1)
          exact hK.out _ _ ⟨gz, cz, rfl, ho⟩ (hS.trans hgb) (by
            unfold sgC; rw [if_neg (by decide), if_pos rfl]
            refine ⟨hgb, fun b' C hb' => hgr.block b' ?_ ?_⟩
            · rcases Nat.lt_or_ge b' W.heap.size with hlt | hge
              · exact hlt
              · rw [Array.getElem?_eq_none hge] at hb'; cases hb'
            · intro e
              rcases hown.2 with ⟨h0, _⟩ | ⟨g2, cap2, cur2, h0, _, h2, _⟩
              · exact hv2 h0
              · rw [h0] at e
                simp only [Value.ownBlock, Option.some.injEq] at e
                subst e
                rw [h2] at hb'
                simp at hb')
      refine FlowStepsX.stepY 75 11 7 rfl rfl (by kernel_rfl) (by kernel_rfl) (by kernel_rfl) rfl rfl ?_ ?_
      ·
        intro cc act vs W hcc ha hvs hS hd hi K hK
        clear ha
        have u2 : act.tmps[2]? = some (.pointer (some ⟨xd, 0, none⟩)) := (hi.out 2 (by kernel_rfl)).trans rfl
        clear hd hi
        clear hvs
        refine wanted_un rfl ?_
        go_simp
        exact hK.out _ _ rfl hS (sgC_below (by decide) (by decide) (Below.refl _ _))
      refine FlowStepsX.stepY 75 11 8 rfl rfl (by kernel_rfl) (by kernel_rfl) (by kernel_rfl) rfl rfl ?_ ?_
      ·
        intro cc act vs W hcc ha hvs hS hd hi K hK
        clear ha
        have u19 : act.tmps[19]? = some (.pointer (some ⟨xd, 2, none⟩)) := by obtain ⟨_, u, _, h⟩ := hd.out ⟨6, .data⟩ (some 19) (by simp) rfl rfl; exact u.trans (congrArg some h)
        clear hd hi
        clear hvs
        refine wanted_un rfl ?_
        have e2 := (hS.cell (p := ⟨xd, 2, none⟩) hxl).trans x2
        go_simp
        exact hK.out _ _ rfl hS (sgC_below (by decide) (by decide) (Below.refl _ _))
      refine FlowStepsX.stepY 75 11 9 rfl rfl (by kernel_rfl) (by kernel_rfl) (by kernel_rfl) rfl rfl ?_ ?_
      ·
        intro cc act vs W hcc ha hvs hS hd hi K hK
        clear ha
        have u14 : act.tmps[14]? = some (.int .i64 m) := by obtain ⟨_, u, _, h⟩ := hd.out ⟨1, .data⟩ (some 14) (by simp) rfl rfl; exact u.trans (congrArg some h)
        obtain ⟨_, u18, _, ⟨gz, cz, rfl, hown⟩⟩ := hd.out ⟨5, .data⟩ (some 18) (by simp) rfl rfl
        have u20 : act.tmps[20]? = some (.int .i64 k) := by obtain ⟨_, u, _, h⟩ := hd.out ⟨7, .data⟩ (some 20) (by simp) rfl rfl; exact u.trans (congrArg some h)
        clear hd hi
        clear hvs
        refine wanted_un rfl ?_
        go_simp
        exact hK.out _ _ ⟨_, _, rfl, hown⟩ hS (sgC_below (by decide) (by decide) (Below.refl _ _))
      refine FlowStepsX.stepY 75 11 10 rfl rfl (by kernel_rfl) (by kernel_rfl) (by kernel_rfl) rfl rfl ?_ ?_
      ·
        intro cc act vs W hcc ha hvs hS hd hi K hK
        clear ha
        clear hd hi
        clear hvs
        refine wanted_un rfl ?_
        go_simp
        have hsz := hS.size
        exact hK.out _ _ ⟨W.heap.size, rfl, hsz, _, Below.heap_alloc_self W _, rfl⟩ (hS.alloc hsz _) (sgC_below (by decide) (by decide) ((Below.refl _ _).alloc (Nat.le_refl _) _))
      refine FlowStepsX.stepY 75 11 11 rfl rfl (by kernel_rfl) (by kernel_rfl) (by kernel_rfl) rfl rfl ?_ ?_
      ·
        intro cc act vs W hcc ha hvs hS hd hi K hK
        clear ha
        obtain ⟨_, u6, _, ⟨q, rfl, hlo, hLB⟩⟩ := hd.out ⟨9, .data⟩ (some 6) (by simp) rfl rfl
        obtain ⟨_, u21, _, ⟨gz, cz, rfl, hz2⟩⟩ := hd.out ⟨8, .data⟩ (some 21) (by simp) rfl rfl
        clear hd hi
        refine wanted_un rfl ?_
        have hr := hLB.row
        obtain ⟨y0, g0⟩ := hr.some_ex (j := 0) (by omega)
        have z0 := hr.frozen 0
        obtain ⟨y1, g1⟩ := hr.some_ex (j := 1) (by omega)
        have z1 := hr.frozen 1
        obtain ⟨y2, g2⟩ := hr.some_ex (j := 2) (by omega)
        have z2 := hr.frozen 2
        have hl0 := (hvs.out 0 6 rfl).trans u6
        go_simp
        exact hK.out (.pointer (some ⟨q, 0, none⟩)) _ ⟨q, gz, cz, rfl, hl0, hlo, rwl_set3 hr, own_far3 hz2 (own_apart hz2 hLB), own_apart hz2 hLB, ((hLB.set 0 _).set 1 _).set 2 _⟩ (below_set3 hS hlo) (by unfold sgC; rw [if_pos rfl]; exact below_set3 (Below.refl _ _) hlo)
      exact FlowStepsX.nil

    · intro c' ρ W hc' hS hd
      simp only [putFrom, Act.put, List.setIfInBounds_toArray, List.set_cons_zero, List.set_cons_succ, Nat.reduceAdd]
      obtain ⟨q, gz, cz, h10, hl10, hlo, hrow, hown, hne, hlb⟩ := hd.out 10 (by decide) (by kernel_rfl)
      have e9 : ρ 9 = .pointer (some ⟨q, 0, none⟩) := by
        rw [h10] at hl10; exact Option.some.inj hl10
      clear hd hl10 h10
      generalize ρ 9 = x9 at e9 ⊢
      subst e9
      have hsz := hS.size
      obtain ⟨gz', cz', mz, hv, hglo, hnc, hcm', hmz, hrz⟩ := ownG_of HL.out hown (by simp)
      obtain ⟨rfl, rfl⟩ : gz = gz' ∧ cz = cz' := by simpa using hv
      clear hv
      have hRz := hide (RdGrant_of_rowm hrz HL.out)
      have hs1 := hide (hS.cell (p := ⟨xd + 1, 0, none⟩) hxl1 |>.trans y0)
      have hs2 := hide (hS.cell (p := ⟨xd + 1, 1, none⟩) hxl1 |>.trans y1)
      have hs3 := hide (hS.cell (p := ⟨xd + 1, 2, none⟩) hxl1 |>.trans y2)
      have hq1 := hide (hrow.cell (j := 1) rfl)
      have HRO := hide hrow
      have HLB := hide hlb
      have HRZ := hide hrz
      have HOW := hide hown
      have BW := hide (B1.out.trans (hS.mono B1.out.size))
      have hql := hrow.lt
      have hgl := hrz.lt
      have HS0 := hide hS
      clear hlb hrow hrz hown x0 x1 x2 hS
      by_cases hex : ∃ (j : Nat) (t : Grant), l[j]? = some t ∧ isG tg tw t = true
      · obtain ⟨j, t, ht, hy⟩ := hex
        obtain ⟨hjl, hjt⟩ := List.getElem?_eq_some_iff.1 ht
        have hjn : j < n := by rw [← HL.out]; exact hjl
        have hup := (listB_iff.1 HV.out).1
        have HNO := hide (show ∀ (i : Nat) (s : Grant), i ≠ j → l[i]? = some s → isG tg tw s = false from fun i s hij hs => by
          cases h : isG tg tw s with
          | false => rfl
          | true =>
            simp only [isG, Bool.and_eq_true, beq_iff_eq] at h hy
            rcases Nat.lt_or_ge i j with hlt | hge
            · have := (hup j t hjl ht).2 i s hlt hs
              simp [sameG, h, hy] at this
            · have := (hup i s (List.getElem?_eq_some_iff.1 hs).1 hs).2 j t (by omega) ht
              simp [sameG, h, hy] at this)
        have HP := hide (show putG l ⟨tg, tw, tr⟩ = l.set j ⟨tg, tw, tr⟩ from by
          have : l.findIdx? (isG tg tw) = some j := by
            rw [List.findIdx?_eq_some_iff_getElem]
            exact ⟨hjl, by rw [hjt]; exact hy, fun i hi => by simpa using HNO.out i _ (by omega) (List.getElem?_eq_getElem (by omega))⟩
          simp only [putG, this])
        have HY := hide hy
        have HT := hide ht
        clear ht hy hup hjl hjt
        go_wp2_with fail
        go_loopw [7, 8] (fun dv iv wr => ∃ i : Nat, i ≤ n ∧ dv = .bool (decide (j < i)) ∧ iv = .int .i64 i ∧ Hid (Row wr gz mz (doneGrant (if j < i then l.set j ⟨tg, tw, tr⟩ else l) n)) ∧ Hid (TyG wr gz) ∧ Hid (Row wr q 3 (rwl [.int .i64 m, .slice (some ⟨gz, 0, none⟩) n cz, .int .i64 k])) ∧ Hid (Below W0.heap.size W0 wr)) (fun _ iv _ => n - (intOf iv).toNat)
        case atStart => exact ⟨0, by omega, by simp, rfl, by rw [if_neg (by omega)]; exact HRZ.out, ownG_ty HOW.out, HRO.out, HS0.out⟩
        case round =>
          obtain ⟨i, hi, rfl, rfl, hrz, hty, hrq, hbel⟩ := hrel
          have hwz := hbel.out.size
          have e1 := hrq.out.cell (j := 1) rfl
          have hqr := hrq.out.lt
          have hgr := hrz.out.lt
          have f0 := (hbel.out.cell (p := ⟨xd + 1, 0, none⟩) (by show xd + 1 < _; omega)).trans y0
          have f1 := (hbel.out.cell (p := ⟨xd + 1, 1, none⟩) (by show xd + 1 < _; omega)).trans y1
          have f2 := (hbel.out.cell (p := ⟨xd + 1, 2, none⟩) (by show xd + 1 < _; omega)).trans y2
          have hxr : xd + 1 < wr.heap.size := by omega
          by_cases hlt : i < n
          · by_cases hij : i = j
            · subst hij
              rw [if_neg (by omega)] at hrz
              obtain ⟨c0, c1, c2⟩ := (RdGrant_of_rowm hrz.out HL.out).2 i t HT.out
              obtain ⟨h1, h2⟩ : t.ofGroup = tg ∧ t.who = tw := by have := HY.out; simpa [isG] using this
              rw [h1] at c0
              rw [h2] at c1
              simp only [Nat.zero_add] at c0 c1 c2
              have z0 := hrz.out.frozen (i * 3)
              have z1 := hrz.out.frozen (i * 3 + 1)
              have z2 := hrz.out.frozen (i * 3 + 2)
              clear h1 h2
              have hlo2 := hglo
              go_wp2_with fail
              cases tg
              all_goals
                go_quiet (fail)
                go_wp2_with fail
                refine ⟨⟨i + 1, by omega, by simp, by go_num, ?_, ((hty.out.set _).set _).set _, ((hrq.out.drewN _).far (p := ⟨gz, i * 3, none⟩) (Ne.symm hne) _ |>.far (p := ⟨gz, i * 3 + 1, none⟩) (Ne.symm hne) _ |>.far (p := ⟨gz, i * 3 + 2, none⟩) (Ne.symm hne) _), (((below_drewN hbel.out _).setCell (p := ⟨gz, i * 3, none⟩) hlo2 _).setCell (p := ⟨gz, i * 3 + 1, none⟩) hlo2 _).setCell (p := ⟨gz, i * 3 + 2, none⟩) hlo2 _⟩, by simp [intOf]; omega⟩
                rw [if_pos (by omega)]
                exact row_setGrant (t := ⟨_, tw, tr⟩) (hrz.out.drewN _) (by omega) hlt HL.out
            · obtain ⟨s, hs⟩ : ∃ s, l[i]? = some s := ⟨_, List.getElem?_eq_getElem (by rw [HL.out]; exact hlt)⟩
              have hno := HNO.out i s hij hs
              have hs' : (if j < i then l.set j ⟨tg, tw, tr⟩ else l)[i]? = some s := by
                split
                · rw [List.getElem?_set_ne (by omega)]; exact hs
                · exact hs
              obtain ⟨c0, c1, c2⟩ := (RdGrant_of_rowm hrz.out (by split <;> simp [HL.out])).2 i s hs'
              have hii : (if j < i + 1 then l.set j ⟨tg, tw, tr⟩ else l) = (if j < i then l.set j ⟨tg, tw, tr⟩ else l) := by
                by_cases h : j < i
                · rw [if_pos h, if_pos (by omega)]
                · rw [if_neg h, if_neg (by omega)]
              have hdd : decide (j < i + 1) = decide (j < i) := by
                by_cases h : j < i
                · simp [h]; omega
                · simp [h]; omega
              have HH := hide (And.intro hii hdd)
              clear hs hs' hii hdd
              obtain ⟨og, tw', tr'⟩ := s
              simp only [Nat.zero_add] at c0 c1 c2
              cases og <;> cases tg
              all_goals
                first
                  | (have hw : (tw' == tw) = false := by simpa [isG] using hno
                     clear hno
                     go_wp2_with fail
                     go_quiet (fail)
                     go_wp2_with fail
                     exact ⟨⟨i + 1, by omega, by rw [HH.out.2], by go_num, by rw [HH.out.1]; exact hrz.out.drewN _, hty.out, hrq.out.drewN _, below_drewN hbel.out _⟩, by simp [intOf]; omega⟩)
                  | (clear hno
                     go_wp2_with fail
                     go_quiet (fail)
                     go_wp2_with fail
                     exact ⟨⟨i + 1, by omega, by rw [HH.out.2], by go_num, by rw [HH.out.1]; exact hrz.out.drewN _, hty.out, hrq.out.drewN _, below_drewN hbel.out _⟩, by simp [intOf]; omega⟩)
          · obtain rfl : n = i := by omega
            have hd : decide (j < n) = true := by simp; omega
            rw [if_pos hjn] at hrz
            rw [hd]
            have g0 := hrq.out.cell (j := 0) rfl
            have g2 := hrq.out.cell (j := 2) rfl
            have HRn := hrz
            have HTn := hty
            have HRQ := hrq
            have B05 := hbel
            have hncz := hnc
            have hcmn := hcm'
            have hmn := hmz
            clear hd
            go_wp2_with fail
            refine (lvSpec_c _ _ _ _ _ (l.set j (⟨tg, tw, tr⟩ : Grant)) (by omega) _ ⟨by simp [HL.out], fun _ => ⟨_, _, rfl, RdGrant_of_rowm HRn.out (by simp [HL.out])⟩⟩).mono ?_
            rintro e w6 ⟨rfl, hb6⟩
            have B06 := hide (B05.out.trans (hb6.mono B05.out.size))
            have hz6 := B06.out.size
            have hrq6 := HRQ.out.below hb6 HRQ.out.lt
            have HRN6 := hide (HRn.out.below hb6 HRn.out.lt)
            have HTN6 := hide (HTn.out.below hb6)
            have hrr6 := HRR.out.below B06.out hxl2
            have x0 := (B06.out.cell (p := ⟨xd, 0, none⟩) hxl).trans HX.out.1
            have x1 := (B06.out.cell (p := ⟨xd, 1, none⟩) hxl).trans HX.out.2.1
            have x2 := (B06.out.cell (p := ⟨xd, 2, none⟩) hxl).trans HX.out.2.2
            have hq0 := hrq6.cell (j := 0) rfl
            have hq1' := hrq6.cell (j := 1) rfl
            have hq2 := hrq6.cell (j := 2) rfl
            have hql6 := hrq6.lt
            obtain ⟨u0, v0⟩ := hrr6.some_ex (j := 0) (by omega)
            obtain ⟨u1, v1⟩ := hrr6.some_ex (j := 1) (by omega)
            obtain ⟨u2, v2⟩ := hrr6.some_ex (j := 2) (by omega)
            have vz0 := hrr6.frozen 0
            have vz1 := hrr6.frozen 1
            have vz2 := hrr6.frozen 2
            have hrl6 := hrr6.lt
            clear hb6
            cases hlv2 : listB m (l.set j (⟨tg, tw, tr⟩ : Grant)) k
            · go_wp2_with fail
              clear v0 v1 v2 vz0 vz1 vz2 hq0 hq1' hq2
              refine wp_flowZ (os := [_, _, _, _, _, _, _, _, _, _, _]) (fun cc W => Below (xd + 1 + 1) w6 W ∧ w6.heap.size ≤ W.heap.size ∧ Row W (xd + 1 + 1) 3 noCell) (sgC (xd + 1 + 1) 9) (sgF2 m A n c k l xd w6.heap.size) 11 rfl ?_ ?_ ?_ ?_ ?_ ?_ ?_
              · kernel_rfl
              · kernel_rfl
              · kernel_rfl
              · exact (fun i j v vs w1 w2 hij hdd hbf h hc => sgF2_keep (by rintro rfl; refine ⟨?_, Ne.symm hij, ?_, ?_⟩; (rintro rfl; exact absurd (show dead _ 5 2 = true by kernel_rfl) (by rw [hdd]; decide)); (rintro rfl; exact absurd (show beforeX _ 5 8 = true by kernel_rfl) (by rw [hbf]; decide)); (rintro rfl; exact absurd (show beforeX _ 5 9 = true by kernel_rfl) (by rw [hbf]; decide))) (by rintro rfl; refine ⟨?_, ?_, ?_, Ne.symm hij⟩; (rintro rfl; exact absurd (show dead _ 9 2 = true by kernel_rfl) (by rw [hdd]; decide)); (rintro rfl; exact absurd (show dead _ 9 5 = true by kernel_rfl) (by rw [hdd]; decide)); (rintro rfl; exact absurd (show dead _ 9 8 = true by kernel_rfl) (by rw [hdd]; decide))) h hc)
              · exact ⟨(Below.refl _ _).drew, Nat.le_refl _, hrr6⟩
              ·
                refine FlowStepsX.stepY 75 11 1 rfl rfl (by kernel_rfl) (by kernel_rfl) (by kernel_rfl) rfl rfl ?_ ?_
                ·
                  intro cc act vs W hcc ha hvs hS hd hi K hK
                  clear ha
                  have u2 : act.tmps[2]? = some (.pointer (some ⟨xd, 0, none⟩)) := (hi.out 2 (by kernel_rfl)).trans rfl
                  clear hd hi
                  clear hvs
                  refine wanted_un rfl ?_
                  go_simp
                  exact hK.out _ _ rfl hS (sgC_below (by decide) (by decide) (Below.refl _ _))
                refine FlowStepsX.stepY 75 11 2 rfl rfl (by kernel_rfl) (by kernel_rfl) (by kernel_rfl) rfl rfl ?_ ?_
                ·
                  intro cc act vs W hcc ha hvs hS hd hi K hK
                  clear ha
                  have u65 : act.tmps[65]? = some (.pointer (some ⟨xd, 0, none⟩)) := by obtain ⟨_, u, _, h⟩ := hd.out ⟨0, .data⟩ (some 65) (by simp) rfl rfl; exact u.trans (congrArg some h)
                  clear hd hi
                  clear hvs
                  refine wanted_un rfl ?_
                  have e0 := (hS.1.cell (p := ⟨xd, 0, none⟩) (by show xd < _; omega)).trans x0
                  go_simp
                  exact hK.out _ _ rfl hS (sgC_below (by decide) (by decide) (Below.refl _ _))
                refine FlowStepsX.stepY 75 11 3 rfl rfl (by kernel_rfl) (by kernel_rfl) (by kernel_rfl) rfl rfl ?_ ?_
                ·
                  intro cc act vs W hcc ha hvs hS hd hi K hK
                  clear ha
                  clear hd hi
                  clear hvs
                  refine wanted_un rfl ?_
                  go_simp
                  exact hK.out _ _ ⟨by simp, own_new (n := 0) W #[] hS.2.1 (Nat.zero_le _) rfl⟩ ⟨hS.1.alloc (by have := hS.2.2.lt; omega) _, by simp; have := hS.2.1; omega, hS.2.2.alloc _⟩ (sgC_below (by decide) (by decide) ((Below.refl _ _).alloc (Nat.le_refl _) _))
                refine FlowStepsX.stepY 75 11 4 rfl rfl (by kernel_rfl) (by kernel_rfl) (by kernel_rfl) rfl rfl ?_ ?_
                ·
                  intro cc act vs W hcc ha hvs hS hd hi K hK
                  clear ha
                  have u2 : act.tmps[2]? = some (.pointer (some ⟨xd, 0, none⟩)) := (hi.out 2 (by kernel_rfl)).trans rfl
                  clear hd hi
                  clear hvs
                  refine wanted_un rfl ?_
                  go_simp
                  exact hK.out _ _ rfl hS (sgC_below (by decide) (by decide) (Below.refl _ _))
                refine FlowStepsX.stepY 75 11 5 rfl rfl (by kernel_rfl) (by kernel_rfl) (by kernel_rfl) rfl rfl ?_ ?_
                ·
                  intro cc act vs W hcc ha hvs hS hd hi K hK
                  clear ha
                  have u68 : act.tmps[68]? = some (.pointer (some ⟨xd, 1, none⟩)) := by obtain ⟨_, u, _, h⟩ := hd.out ⟨3, .data⟩ (some 68) (by simp) rfl rfl; exact u.trans (congrArg some h)
                  clear hd hi
                  clear hvs
                  refine wanted_un rfl ?_
                  have e1 := (hS.1.cell (p := ⟨xd, 1, none⟩) (by show xd < _; omega)).trans x1
                  go_simp
                  exact hK.out _ _ rfl hS (sgC_below (by decide) (by decide) (Below.refl _ _))
                refine FlowStepsX.stepY 75 11 6 rfl rfl (by kernel_rfl) (by kernel_rfl) (by kernel_rfl) rfl rfl ?_ ?_
                ·
                  intro cc act vs W hcc ha hvs hS hd hi K hK
                  clear ha
                  obtain ⟨_, u67, _, ⟨hv2, hown⟩⟩ := hd.out ⟨2, .data⟩ (some 67) (by simp) rfl rfl
                  have u69 : act.tmps[69]? = some (.slice A n c) := by obtain ⟨_, u, _, h⟩ := hd.out ⟨4, .data⟩ (some 69) (by simp) rfl rfl; exact u.trans (congrArg some h)
                  clear hd hi
                  clear hvs
                  refine wanted_un rfl ?_
                  have hsz := hS.2.1
                  have hRW := HR.out.below (B1.out.trans ((B06.out.mono B1.out.size).trans (hS.1.mono (by have := HXD.out; omega))))
                  cases A with
                  | none =>
                    have hc0 := H0.out rfl
                    have hn0 : n = 0 := by
                      rcases Nat.eq_zero_or_pos n with h | h
                      · exact h
                      · obtain ⟨_, _, h', _⟩ := hRW.2 h
                        cases h'
                    have hl0 : l = [] := List.eq_nil_of_length_eq_zero (HL.out.trans hn0)
                    obtain ⟨gz, cz, rfl⟩ := own_slice hown hv2
                    refine wp_append_none W (.tmp 67) (.tmp 69) 22 rfl w6.heap.size 40 i0 3 Try.underlying22 HII.out _ 0 [] (by simp [Act.eval, u67]) hown (by simp [Act.eval, u69, hc0, hn0]) ?_
                    exact hK.out _ _ ⟨gz, cz, by rw [hn0], by rw [hn0, hl0]; exact hown⟩ (⟨hS.1.trans ((Below.refl W.heap.size W |>.mono hsz).mono (by omega)), by have := (Below.refl W.heap.size W |>.mono hsz).size; omega, hS.2.2.below (Below.refl W.heap.size W |>.mono hsz) (by omega)⟩) (by
                      unfold sgC; rw [if_neg (by decide), if_pos rfl]
                      exact ⟨(Below.refl w6.heap.size W).mono (by omega), fun b' C hb' => rfl⟩)
                  | some ad =>
                    refine wp_append_own W (.tmp 67) (.tmp 69) 22 rfl w6.heap.size 40 i0 _ 3 24 Try.underlying22 HII.out HZ0.out HZ1.out HZ2.out rfl (by decide) _ 0 [] (by simp [Act.eval, u67]) hown ad n c (flatG l) (by simp [Act.eval, u69]) (by rw [flatG_len, HL.out]) (fun j u hj => by
                      have h0 : 0 < n := by
                        have := (List.getElem?_eq_some_iff.1 hj).1
                        rw [flatG_len, HL.out] at this
                        omega
                      obtain ⟨b, off, hA, hRr⟩ := hRW.2 h0
                      obtain rfl : ad = ⟨b, off, none⟩ := by simpa using hA
                      rw [Addr.add_lit]; exact flatG_cells hRr j u hj) (flatG_one l) (by unfold maxLen; omega) (by omega) hsz ?_
                    intro v' w' ho hgr hnil
                    have hnil' : v' ≠ .slice none 0 0 := fun e => hv2 (hnil.1 e).1
                    rw [Nat.zero_add, List.nil_append] at ho
                    obtain ⟨gz, cz, rfl⟩ := own_slice ho hnil'
                    have hgb : Below w6.heap.size W w' := (Below.refl w6.heap.size W).grown hgr hsz (fun k hk => (hown.lt k hk).1)
                    exact hK.out _ _ ⟨gz, cz, rfl, ho⟩ (⟨hS.1.trans (hgb.mono (by omega)), by have := hgb.size; omega, hS.2.2.below hgb (by omega)⟩) (by
                      unfold sgC; rw [if_neg (by decide), if_pos rfl]
                      refine ⟨hgb.mono (by omega), fun b' C hb' => hgr.block b' ?_ ?_⟩
                      · rcases Nat.lt_or_ge b' W.heap.size with hlt | hge
                        · exact hlt
                        · rw [Array.getElem?_eq_none hge] at hb'; cases hb'
                      · intro e
                        rcases hown.2 with ⟨h0, _⟩ | ⟨g2, cap2, cur2, h0, _, h2, _⟩
                        · exact hv2 h0
                        · rw [h0] at e
                          simp only [Value.ownBlock, Option.some.injEq] at e
                          subst e
                          rw [h2] at hb'
                          simp at hb')
                refine FlowStepsX.stepY 75 11 7 rfl rfl (by kernel_rfl) (by kernel_rfl) (by kernel_rfl) rfl rfl ?_ ?_
                ·
                  intro cc act vs W hcc ha hvs hS hd hi K hK
                  clear ha
                  have u2 : act.tmps[2]? = some (.pointer (some ⟨xd, 0, none⟩)) := (hi.out 2 (by kernel_rfl)).trans rfl
                  clear hd hi
                  clear hvs
                  refine wanted_un rfl ?_
                  go_simp
                  exact hK.out _ _ rfl hS (sgC_below (by decide) (by decide) (Below.refl _ _))
                refine FlowStepsX.stepY 75 11 8 rfl rfl (by kernel_rfl) (by kernel_rfl) (by kernel_rfl) rfl rfl ?_ ?_
                ·
                  intro cc act vs W hcc ha hvs hS hd hi K hK
                  clear ha
                  have u71 : act.tmps[71]? = some (.pointer (some ⟨xd, 2, none⟩)) := by obtain ⟨_, u, _, h⟩ := hd.out ⟨6, .data⟩ (some 71) (by simp) rfl rfl; exact u.trans (congrArg some h)
                  clear hd hi
                  clear hvs
                  refine wanted_un rfl ?_
                  have e2 := (hS.1.cell (p := ⟨xd, 2, none⟩) (by show xd < _; omega)).trans x2
                  go_simp
                  exact hK.out _ _ rfl hS (sgC_below (by decide) (by decide) (Below.refl _ _))
                refine FlowStepsX.stepY 75 11 9 rfl rfl (by kernel_rfl) (by kernel_rfl) (by kernel_rfl) rfl rfl ?_ ?_
                ·
                  intro cc act vs W hcc ha hvs hS hd hi K hK
                  clear ha
                  have u66 : act.tmps[66]? = some (.int .i64 m) := by obtain ⟨_, u, _, h⟩ := hd.out ⟨1, .data⟩ (some 66) (by simp) rfl rfl; exact u.trans (congrArg some h)
                  obtain ⟨_, u70, _, ⟨gz, cz, rfl, hown⟩⟩ := hd.out ⟨5, .data⟩ (some 70) (by simp) rfl rfl
                  have u72 : act.tmps[72]? = some (.int .i64 k) := by obtain ⟨_, u, _, h⟩ := hd.out ⟨7, .data⟩ (some 72) (by simp) rfl rfl; exact u.trans (congrArg some h)
                  clear hd hi
                  clear hvs
                  refine wanted_un rfl ?_
                  go_simp
                  exact hK.out _ _ ⟨_, _, rfl, hown⟩ hS (sgC_below (by decide) (by decide) (Below.refl _ _))
                refine FlowStepsX.stepY 75 11 10 rfl rfl (by kernel_rfl) (by kernel_rfl) (by kernel_rfl) rfl rfl ?_ ?_
                ·
                  intro cc act vs W hcc ha hvs hS hd hi K hK
                  clear ha
                  obtain ⟨_, u73, _, ⟨gz, cz, rfl, hz2⟩⟩ := hd.out ⟨8, .data⟩ (some 73) (by simp) rfl rfl
                  have u4 : act.tmps[4]? = some (.pointer (some ⟨xd + 1 + 1, 0, none⟩)) := (hi.out 4 (by kernel_rfl)).trans rfl
                  clear hd hi
                  clear hvs
                  refine wanted_un rfl ?_
                  have hr := hS.2.2
                  have hrl := hr.lt
                  obtain ⟨y0, g0⟩ := hr.some_ex (j := 0) (by omega)
                  have z0 := hr.frozen 0
                  obtain ⟨y1, g1⟩ := hr.some_ex (j := 1) (by omega)
                  have z1 := hr.frozen 1
                  obtain ⟨y2, g2⟩ := hr.some_ex (j := 2) (by omega)
                  have z2 := hr.frozen 2
                  have hgze : gz ≠ xd + 1 + 1 := by have := (hz2.lt gz rfl).1; omega
                  go_simp
                  exact hK.out (.bool true) _ ⟨gz, cz, rwl_set3 hr, own_far3 hz2 hgze⟩ ⟨below_set3 hS.1 (Nat.le_refl _), by simp; exact hS.2.1, (rwl_set3 hr).none⟩ (by unfold sgC; rw [if_pos rfl]; exact below_set3 (Below.refl _ _) (Nat.le_refl _))
                refine FlowStepsX.stepY 75 11 11 rfl rfl (by kernel_rfl) (by kernel_rfl) (by kernel_rfl) rfl rfl ?_ ?_
                ·
                  intro cc act vs W hcc ha hvs hS hd hi K hK
                  clear ha
                  clear hd hi
                  clear hvs
                  refine wanted_un rfl ?_
                  go_simp
                  exact hK.out _ _ rfl hS (sgC_below (by decide) (by decide) (Below.refl _ _))
                exact FlowStepsX.nil
              · intro c' ρ W9 hc' hS hd
                simp only [putFrom, Act.put, List.setIfInBounds_toArray, List.set_cons_zero, List.set_cons_succ, Nat.reduceAdd]
                obtain ⟨gy, cy, hrow9, hown9⟩ := hd.out 9 (by decide) (by kernel_rfl)
                have d10 : ρ 10 = .bool false := hd.out 10 (by decide) (by kernel_rfl)
                generalize ρ 10 = x10 at d10 ⊢
                subst d10
                clear hd
                obtain ⟨gy', cy', my, hvy, hgylo, hncy, hcmy, hmy, hry⟩ := ownG_of HL.out hown9 (by simp)
                obtain ⟨rfl, rfl⟩ : gy = gy' ∧ cy = cy' := by simpa using hvy
                have r0 := hrow9.cell (j := 0) rfl
                have r1 := hrow9.cell (j := 1) rfl
                have r2 := hrow9.cell (j := 2) rfl
                have hr9 := hrow9.lt
                have hxw := HXD.out
                have BXX : Below w.heap.size w W9 := B1.out.trans ((B06.out.mono (show w.heap.size ≤ W0.heap.size by omega)).trans (hS.1.mono (show w.heap.size ≤ xd + 1 + 1 by omega)))
                clear hxw
                clear hvy
                go_wp2_with fail
                exact bodyPost_ret (v := .tuple #[.agg #[.int .i64 m, .slice (some ⟨gy, 0, none⟩) n cy, .int .i64 k], .bool false]) (by simp [results, Try.results26, go_sem, *]) rfl (SgOut.kept HV.out HP.out hlv2 HL.out (by have := HXD.out; omega) hncy hcmy hmy hry (ownG_ty hown9) BXX)
            · have HV2 := hide hlv2
              clear hlv2
              go_wp2_with fail
              exact bodyPost_ret (v := .tuple #[.agg #[.int .i64 m, .slice (some ⟨gz, 0, none⟩) (n) cz, .int .i64 k], .bool true]) (by simp [results, Try.results26, go_sem, *]) rfl (SgOut.good HV.out HP.out HV2.out (by simp [HL.out]) (by have := HXD.out; omega) hncz hcmn hmn (((HRN6.out.far (by show gz ≠ xd + 1 + 1; omega) _).far (by show gz ≠ xd + 1 + 1; omega) _).far (by show gz ≠ xd + 1 + 1; omega) _) (((HTN6.out.set _).set _).set _) (below_set3 (B1.out.trans (B06.out.mono (show w.heap.size ≤ W0.heap.size by have := HXD.out; omega))) (by have := HXD.out; omega)))
      · have HNO := hide (show ∀ (j : Nat) (t : Grant), l[j]? = some t → isG tg tw t = false from fun j t ht => by cases h : isG tg tw t with | false => rfl | true => exact absurd ⟨j, t, ht, h⟩ hex)
        have HP := hide (show putG l ⟨tg, tw, tr⟩ = l ++ [⟨tg, tw, tr⟩] from by
          have : l.findIdx? (isG tg tw) = none := by
            rw [List.findIdx?_eq_none_iff]
            intro x hx
            obtain ⟨q', hq', rfl⟩ := List.getElem_of_mem hx
            exact HNO.out q' _ (List.getElem?_eq_getElem hq')
          simp only [putG, this])
        clear hex
        go_wp2_with fail
        go_loopw [7, 8] (fun dv iv wr => ∃ i : Nat, i ≤ n ∧ dv = .bool false ∧ iv = .int .i64 i ∧ Hid (Below W.heap.size W wr)) (fun _ iv _ => n - (intOf iv).toNat)
        case atStart => exact ⟨0, by omega, rfl, rfl, Below.refl _ _⟩
        case round =>
          obtain ⟨i, hi, rfl, rfl, hbel⟩ := hrel
          have hwz := hbel.out.size
          have e1 := (hbel.out.cell (p := ⟨q, 1, none⟩) hql).trans hq1.out
          have hqr : q < wr.heap.size := by omega
          by_cases hlt : i < n
          · obtain ⟨t, ht⟩ : ∃ t, l[i]? = some t := ⟨_, List.getElem?_eq_getElem (by rw [HL.out]; exact hlt)⟩
            have hno := HNO.out i t ht
            obtain ⟨c0, c1, c2⟩ := (hRz.out.below hbel.out).2 i t ht
            have f0 := (hbel.out.cell (p := ⟨xd + 1, 0, none⟩) (by show xd + 1 < _; omega)).trans hs1.out
            have f1 := (hbel.out.cell (p := ⟨xd + 1, 1, none⟩) (by show xd + 1 < _; omega)).trans hs2.out
            have hgr : gz < wr.heap.size := by omega
            have hxr : xd + 1 < wr.heap.size := by omega
            clear ht
            obtain ⟨og, tw', tr'⟩ := t
            simp only [Nat.zero_add] at c0 c1 c2
            cases og <;> cases tg
            all_goals
              first
                | (have hw : (tw' == tw) = false := by simpa [isG] using hno
                   clear hno
                   go_wp2_with fail
                   go_quiet (fail)
                   go_wp2_with fail
                   exact ⟨⟨i + 1, by omega, rfl, by go_num, below_drewN hbel.out _⟩, by simp [intOf]; omega⟩)
                | (clear hno
                   go_wp2_with fail
                   go_quiet (fail)
                   go_wp2_with fail
                   exact ⟨⟨i + 1, by omega, rfl, by go_num, below_drewN hbel.out _⟩, by simp [intOf]; omega⟩)
          · obtain rfl : n = i := by omega
            have f0 := (hbel.out.cell (p := ⟨xd + 1, 0, none⟩) (by show xd + 1 < _; omega)).trans hs1.out
            have f1 := (hbel.out.cell (p := ⟨xd + 1, 1, none⟩) (by show xd + 1 < _; omega)).trans hs2.out
            have f2 := (hbel.out.cell (p := ⟨xd + 1, 2, none⟩) (by show xd + 1 < _; omega)).trans hs3.out
            have hxr : xd + 1 < wr.heap.size := by omega
            have OWN4 := hide ((own_below HOW.out (hbel.out.mono (by omega))).alloc (.cells #[.bool tg, .int .i64 tw, .int .i64 tr] 40))
            have HRq := hide (HRO.out.below hbel.out hql)
            go_wp2_with (at_builtin; refine wpList_append_own _ rfl _ _ 22 rfl W0.heap.size 40 i0 _ 3 24 Try.underlying22 HII.out HZ0.out HZ1.out HZ2.out rfl (by decide) _ _ _ rfl OWN4.out ⟨wr.heap.size, 0, none⟩ 1 1 (flatG [⟨tg, tw, tr⟩]) rfl rfl ?qa0 (flatG_one _) ?qb0 ?qc0 ?qd0 ?_)
            case qa0 => exact flatG_new wr ⟨tg, tw, tr⟩ _ _ rfl
            case qb0 => unfold maxLen; omega
            case qc0 => omega
            case qd0 => simp; omega
            intro v' w5 hown' hgrow hnil
            obtain ⟨gn, cn, rfl⟩ := own_slice hown' (fun e => by simp [e] at hnil)
            have own5 := hide (show w5.ownsRow W0.heap.size 40 3 (.slice (some ⟨gn, 0, none⟩) (n + 1) cn) (n + 1) (flatG (l ++ [(⟨tg, tw, tr⟩ : Grant)])) by
              rw [flatG_app]; simpa using hown')
            have B5 : Hid (Below w.heap.size w w5) := hide (((BW.out.trans (hbel.out.mono BW.out.size)).alloc (by have := BW.out.size; omega) _).grown hgrow (by simp; have := BW.out.size; omega) (fun k hk => by have := (OWN4.out.lt k hk).1; have := B1.out.size; omega))
            have HRq5 := hide ((HRq.out.alloc (.cells #[.bool tg, .int .i64 tw, .int .i64 tr] 40)).grown hgrow (by simpa [Value.ownBlock] using hne))
            have g0 := HRq5.out.cell (j := 0) rfl
            have g2 := HRq5.out.cell (j := 2) rfl
            have HLB5 := hide (((HLB.out.below hbel.out).below (below_alloc0 (Below.refl _ _) (.cells #[.bool tg, .int .i64 tw, .int .i64 tr] 40))).keep (hgrow.block q (by simp; omega) (by simpa [Value.ownBlock] using Ne.symm hne)))
            have hneq := own_apart own5.out HLB5.out
            obtain ⟨z1, g1⟩ := HRq5.out.some_ex (j := 1) (by omega)
            have z1f := HRq5.out.frozen 1
            have hq5 := HRq5.out.lt
            have B05 := hide ((((HS0.out.trans (hbel.out.mono (by omega))).alloc (by omega) (.cells #[.bool tg, .int .i64 tw, .int .i64 tr] 40)).grown hgrow (by simp; omega) (fun k hk => (OWN4.out.lt k hk).1)).setCell (p := ⟨q, 1, none⟩) hlo (.slice (some ⟨gn, 0, none⟩) (n + 1) cn))
            clear hown' hgrow hnil
            obtain ⟨gn', cn', mn, hvn, hgnlo, hncn, hcmn, hmn, hrn⟩ := ownG_of (by simp [HL.out]) own5.out (by simp)
            obtain ⟨rfl, rfl⟩ : gn = gn' ∧ cn = cn' := by simpa using hvn
            clear hvn
            go_wp2_with fail
            have HRn := hide (hrn.far (p := ⟨q, 1, none⟩) hneq (.slice (some ⟨gn, 0, none⟩) (n + 1) cn))
            have HTn := hide ((ownG_ty own5.out).set (b := q) (o := 1) (.slice (some ⟨gn, 0, none⟩) (n + 1) cn))
            refine (lvSpec_c _ _ _ _ _ (l ++ [(⟨tg, tw, tr⟩ : Grant)]) (by omega) _ ⟨by simp [HL.out], fun _ => ⟨_, _, rfl, RdGrant_of_rowm HRn.out (by simp [HL.out])⟩⟩).mono ?_
            have HRQ := hide (((HRq5.out.set 1 (.slice (some ⟨gn, 0, none⟩) (n + 1) cn))).mono (f' := rwl [.int .i64 m, .slice (some ⟨gn, 0, none⟩) (n + 1) cn, .int .i64 k]) (fun j u hj => by match j with | 0 => simpa [rwl] using hj | 1 => simpa [rwl] using hj | 2 => simpa [rwl] using hj | j + 3 => simp [rwl] at hj))
            rintro e w6 ⟨rfl, hb6⟩
            have B06 := hide (B05.out.trans (hb6.mono B05.out.size))
            have hz6 := B06.out.size
            have hrq6 := HRQ.out.below hb6 HRQ.out.lt
            have HRN6 := hide (HRn.out.below hb6 HRn.out.lt)
            have HTN6 := hide (HTn.out.below hb6)
            have hrr6 := HRR.out.below B06.out hxl2
            have x0 := (B06.out.cell (p := ⟨xd, 0, none⟩) hxl).trans HX.out.1
            have x1 := (B06.out.cell (p := ⟨xd, 1, none⟩) hxl).trans HX.out.2.1
            have x2 := (B06.out.cell (p := ⟨xd, 2, none⟩) hxl).trans HX.out.2.2
            have hq0 := hrq6.cell (j := 0) rfl
            have hq1' := hrq6.cell (j := 1) rfl
            have hq2 := hrq6.cell (j := 2) rfl
            have hql6 := hrq6.lt
            obtain ⟨u0, v0⟩ := hrr6.some_ex (j := 0) (by omega)
            obtain ⟨u1, v1⟩ := hrr6.some_ex (j := 1) (by omega)
            obtain ⟨u2, v2⟩ := hrr6.some_ex (j := 2) (by omega)
            have vz0 := hrr6.frozen 0
            have vz1 := hrr6.frozen 1
            have vz2 := hrr6.frozen 2
            have hrl6 := hrr6.lt
            clear hb6
            cases hlv2 : listB m (l ++ [(⟨tg, tw, tr⟩ : Grant)]) k
            · go_wp2_with fail
              clear v0 v1 v2 vz0 vz1 vz2 hq0 hq1' hq2
              refine wp_flowZ (os := [_, _, _, _, _, _, _, _, _, _, _]) (fun cc W => Below (xd + 1 + 1) w6 W ∧ w6.heap.size ≤ W.heap.size ∧ Row W (xd + 1 + 1) 3 noCell) (sgC (xd + 1 + 1) 9) (sgF2 m A n c k l xd w6.heap.size) 11 rfl ?_ ?_ ?_ ?_ ?_ ?_ ?_
              · kernel_rfl
              · kernel_rfl
              · kernel_rfl
              · exact (fun i j v vs w1 w2 hij hdd hbf h hc => sgF2_keep (by rintro rfl; refine ⟨?_, Ne.symm hij, ?_, ?_⟩; (rintro rfl; exact absurd (show dead _ 5 2 = true by kernel_rfl) (by rw [hdd]; decide)); (rintro rfl; exact absurd (show beforeX _ 5 8 = true by kernel_rfl) (by rw [hbf]; decide)); (rintro rfl; exact absurd (show beforeX _ 5 9 = true by kernel_rfl) (by rw [hbf]; decide))) (by rintro rfl; refine ⟨?_, ?_, ?_, Ne.symm hij⟩; (rintro rfl; exact absurd (show dead _ 9 2 = true by kernel_rfl) (by rw [hdd]; decide)); (rintro rfl; exact absurd (show dead _ 9 5 = true by kernel_rfl) (by rw [hdd]; decide)); (rintro rfl; exact absurd (show dead _ 9 8 = true by kernel_rfl) (by rw [hdd]; decide))) h hc)
              · exact ⟨(Below.refl _ _).drew, Nat.le_refl _, hrr6⟩
              ·
                refine FlowStepsX.stepY 75 11 1 rfl rfl (by kernel_rfl) (by kernel_rfl) (by kernel_rfl) rfl rfl ?_ ?_
                ·
                  intro cc act vs W hcc ha hvs hS hd hi K hK
                  clear ha
                  have u2 : act.tmps[2]? = some (.pointer (some ⟨xd, 0, none⟩)) := (hi.out 2 (by kernel_rfl)).trans rfl
                  clear hd hi
                  clear hvs
                  refine wanted_un rfl ?_
                  go_simp
                  exact hK.out _ _ rfl hS (sgC_below (by decide) (by decide) (Below.refl _ _))
                refine FlowStepsX.stepY 75 11 2 rfl rfl (by kernel_rfl) (by kernel_rfl) (by kernel_rfl) rfl rfl ?_ ?_
                ·
                  intro cc act vs W hcc ha hvs hS hd hi K hK
                  clear ha
                  have u65 : act.tmps[65]? = some (.pointer (some ⟨xd, 0, none⟩)) := by obtain ⟨_, u, _, h⟩ := hd.out ⟨0, .data⟩ (some 65) (by simp) rfl rfl; exact u.trans (congrArg some h)
                  clear hd hi
                  clear hvs
                  refine wanted_un rfl ?_
                  have e0 := (hS.1.cell (p := ⟨xd, 0, none⟩) (by show xd < _; omega)).trans x0
                  go_simp
                  exact hK.out _ _ rfl hS (sgC_below (by decide) (by decide) (Below.refl _ _))
                refine FlowStepsX.stepY 75 11 3 rfl rfl (by kernel_rfl) (by kernel_rfl) (by kernel_rfl) rfl rfl ?_ ?_
                ·
                  intro cc act vs W hcc ha hvs hS hd hi K hK
                  clear ha
                  clear hd hi
                  clear hvs
                  refine wanted_un rfl ?_
                  go_simp
                  exact hK.out _ _ ⟨by simp, own_new (n := 0) W #[] hS.2.1 (Nat.zero_le _) rfl⟩ ⟨hS.1.alloc (by have := hS.2.2.lt; omega) _, by simp; have := hS.2.1; omega, hS.2.2.alloc _⟩ (sgC_below (by decide) (by decide) ((Below.refl _ _).alloc (Nat.le_refl _) _))
                refine FlowStepsX.stepY 75 11 4 rfl rfl (by kernel_rfl) (by kernel_rfl) (by kernel_rfl) rfl rfl ?_ ?_
                ·
                  intro cc act vs W hcc ha hvs hS hd hi K hK
                  clear ha
                  have u2 : act.tmps[2]? = some (.pointer (some ⟨xd, 0, none⟩)) := (hi.out 2 (by kernel_rfl)).trans rfl
                  clear hd hi
                  clear hvs
                  refine wanted_un rfl ?_
                  go_simp
                  exact hK.out _ _ rfl hS (sgC_below (by decide) (by decide) (Below.refl _ _))
                refine FlowStepsX.stepY 75 11 5 rfl rfl (by kernel_rfl) (by kernel_rfl) (by kernel_rfl) rfl rfl ?_ ?_
                ·
                  intro cc act vs W hcc ha hvs hS hd hi K hK
                  clear ha
                  have u68 : act.tmps[68]? = some (.pointer (some ⟨xd, 1, none⟩)) := by obtain ⟨_, u, _, h⟩ := hd.out ⟨3, .data⟩ (some 68) (by simp) rfl rfl; exact u.trans (congrArg some h)
                  clear hd hi
                  clear hvs
                  refine wanted_un rfl ?_
                  have e1 := (hS.1.cell (p := ⟨xd, 1, none⟩) (by show xd < _; omega)).trans x1
                  go_simp
                  exact hK.out _ _ rfl hS (sgC_below (by decide) (by decide) (Below.refl _ _))
                refine FlowStepsX.stepY 75 11 6 rfl rfl (by kernel_rfl) (by kernel_rfl) (by kernel_rfl) rfl rfl ?_ ?_
                ·
                  intro cc act vs W hcc ha hvs hS hd hi K hK
                  clear ha
                  obtain ⟨_, u67, _, ⟨hv2, hown⟩⟩ := hd.out ⟨2, .data⟩ (some 67) (by simp) rfl rfl
                  have u69 : act.tmps[69]? = some (.slice A n c) := by obtain ⟨_, u, _, h⟩ := hd.out ⟨4, .data⟩ (some 69) (by simp) rfl rfl; exact u.trans (congrArg some h)
                  clear hd hi
                  clear hvs
                  refine wanted_un rfl ?_
                  have hsz := hS.2.1
                  have hRW := HR.out.below (B1.out.trans ((B06.out.mono B1.out.size).trans (hS.1.mono (by have := HXD.out; omega))))
                  cases A with
                  | none =>
                    have hc0 := H0.out rfl
                    have hn0 : n = 0 := by
                      rcases Nat.eq_zero_or_pos n with h | h
                      · exact h
                      · obtain ⟨_, _, h', _⟩ := hRW.2 h
                        cases h'
                    have hl0 : l = [] := List.eq_nil_of_length_eq_zero (HL.out.trans hn0)
                    obtain ⟨gz, cz, rfl⟩ := own_slice hown hv2
                    refine wp_append_none W (.tmp 67) (.tmp 69) 22 rfl w6.heap.size 40 i0 3 Try.underlying22 HII.out _ 0 [] (by simp [Act.eval, u67]) hown (by simp [Act.eval, u69, hc0, hn0]) ?_
                    exact hK.out _ _ ⟨gz, cz, by rw [hn0], by rw [hn0, hl0]; exact hown⟩ (⟨hS.1.trans ((Below.refl W.heap.size W |>.mono hsz).mono (by omega)), by have := (Below.refl W.heap.size W |>.mono hsz).size; omega, hS.2.2.below (Below.refl W.heap.size W |>.mono hsz) (by omega)⟩) (by
                      unfold sgC; rw [if_neg (by decide), if_pos rfl]
                      exact ⟨(Below.refl w6.heap.size W).mono (by omega), fun b' C hb' => rfl⟩)
                  | some ad =>
                    refine wp_append_own W (.tmp 67) (.tmp 69) 22 rfl w6.heap.size 40 i0 _ 3 24 Try.underlying22 HII.out HZ0.out HZ1.out HZ2.out rfl (by decide) _ 0 [] (by simp [Act.eval, u67]) hown ad n c (flatG l) (by simp [Act.eval, u69]) (by rw [flatG_len, HL.out]) (fun j u hj => by
                      have h0 : 0 < n := by
                        have := (List.getElem?_eq_some_iff.1 hj).1
                        rw [flatG_len, HL.out] at this
                        omega
                      obtain ⟨b, off, hA, hRr⟩ := hRW.2 h0
                      obtain rfl : ad = ⟨b, off, none⟩ := by simpa using hA
                      rw [Addr.add_lit]; exact flatG_cells hRr j u hj) (flatG_one l) (by unfold maxLen; omega) (by omega) hsz ?_
                    intro v' w' ho hgr hnil
                    have hnil' : v' ≠ .slice none 0 0 := fun e => hv2 (hnil.1 e).1
                    rw [Nat.zero_add, List.nil_append] at ho
                    obtain ⟨gz, cz, rfl⟩ := own_slice ho hnil'
                    have hgb : Below w6.heap.size W w' := (Below.refl w6.heap.size W).grown hgr hsz (fun k hk => (hown.lt k hk).1)
                    exact hK.out _ _ ⟨gz, cz, rfl, ho⟩ (⟨hS.1.trans (hgb.mono (by omega)), by have := hgb.size; omega, hS.2.2.below hgb (by omega)⟩) (by
                      unfold sgC; rw [if_neg (by decide), if_pos rfl]
                      refine ⟨hgb.mono (by omega), fun b' C hb' => hgr.block b' ?_ ?_⟩
                      · rcases Nat.lt_or_ge b' W.heap.size with hlt | hge
                        · exact hlt
                        · rw [Array.getElem?_eq_none hge] at hb'; cases hb'
                      · intro e
                        rcases hown.2 with ⟨h0, _⟩ | ⟨g2, cap2, cur2, h0, _, h2, _⟩
                        · exact hv2 h0
                        · rw [h0] at e
                          simp only [Value.ownBlock, Option.some.injEq] at e
                          subst e
                          rw [h2] at hb'
                          simp at hb')
                refine FlowStepsX.stepY 75 11 7 rfl rfl (by kernel_rfl) (by kernel_rfl) (by kernel_rfl) rfl rfl ?_ ?_
                ·
                  intro cc act vs W hcc ha hvs hS hd hi K hK
                  clear ha
                  have u2 : act.tmps[2]? = some (.pointer (some ⟨xd, 0, none⟩)) := (hi.out 2 (by kernel_rfl)).trans rfl
                  clear hd hi
                  clear hvs
                  refine wanted_un rfl ?_
                  go_simp
                  exact hK.out _ _ rfl hS (sgC_below (by decide) (by decide) (Below.refl _ _))
                refine FlowStepsX.stepY 75 11 8 rfl rfl (by kernel_rfl) (by kernel_rfl) (by kernel_rfl) rfl rfl ?_ ?_
                ·
                  intro cc act vs W hcc ha hvs hS hd hi K hK
                  clear ha
                  have u71 : act.tmps[71]? = some (.pointer (some ⟨xd, 2, none⟩)) := by obtain ⟨_, u, _, h⟩ := hd.out ⟨6, .data⟩ (some 71) (by simp) rfl rfl; exact u.trans (congrArg some h)
                  clear hd hi
                  clear hvs
                  refine wanted_un rfl ?_
                  have e2 := (hS.1.cell (p := ⟨xd, 2, none⟩) (by show xd < _; omega)).trans x2
                  go_simp
                  exact hK.out _ _ rfl hS (sgC_below (by decide) (by decide) (Below.refl _ _))
                refine FlowStepsX.stepY 75 11 9 rfl rfl (by kernel_rfl) (by kernel_rfl) (by kernel_rfl) rfl rfl ?_ ?_
                ·
                  intro cc act vs W hcc ha hvs hS hd hi K hK
                  clear ha
                  have u66 : act.tmps[66]? = some (.int .i64 m) := by obtain ⟨_, u, _, h⟩ := hd.out ⟨1, .data⟩ (some 66) (by simp) rfl rfl; exact u.trans (congrArg some h)
                  obtain ⟨_, u70, _, ⟨gz, cz, rfl, hown⟩⟩ := hd.out ⟨5, .data⟩ (some 70) (by simp) rfl rfl
                  have u72 : act.tmps[72]? = some (.int .i64 k) := by obtain ⟨_, u, _, h⟩ := hd.out ⟨7, .data⟩ (some 72) (by simp) rfl rfl; exact u.trans (congrArg some h)
                  clear hd hi
                  clear hvs
                  refine wanted_un rfl ?_
                  go_simp
                  exact hK.out _ _ ⟨_, _, rfl, hown⟩ hS (sgC_below (by decide) (by decide) (Below.refl _ _))
                refine FlowStepsX.stepY 75 11 10 rfl rfl (by kernel_rfl) (by kernel_rfl) (by kernel_rfl) rfl rfl ?_ ?_
                ·
                  intro cc act vs W hcc ha hvs hS hd hi K hK
                  clear ha
                  obtain ⟨_, u73, _, ⟨gz, cz, rfl, hz2⟩⟩ := hd.out ⟨8, .data⟩ (some 73) (by simp) rfl rfl
                  have u4 : act.tmps[4]? = some (.pointer (some ⟨xd + 1 + 1, 0, none⟩)) := (hi.out 4 (by kernel_rfl)).trans rfl
                  clear hd hi
                  clear hvs
                  refine wanted_un rfl ?_
                  have hr := hS.2.2
                  have hrl := hr.lt
                  obtain ⟨y0, g0⟩ := hr.some_ex (j := 0) (by omega)
                  have z0 := hr.frozen 0
                  obtain ⟨y1, g1⟩ := hr.some_ex (j := 1) (by omega)
                  have z1 := hr.frozen 1
                  obtain ⟨y2, g2⟩ := hr.some_ex (j := 2) (by omega)
                  have z2 := hr.frozen 2
                  have hgne : gz ≠ xd + 1 + 1 := by have := (hz2.lt gz rfl).1; omega
                  go_simp
                  exact hK.out (.bool true) _ ⟨gz, cz, rwl_set3 hr, own_far3 hz2 hgne⟩ ⟨below_set3 hS.1 (Nat.le_refl _), by simp; exact hS.2.1, (rwl_set3 hr).none⟩ (by unfold sgC; rw [if_pos rfl]; exact below_set3 (Below.refl _ _) (Nat.le_refl _))
                refine FlowStepsX.stepY 75 11 11 rfl rfl (by kernel_rfl) (by kernel_rfl) (by kernel_rfl) rfl rfl ?_ ?_
                ·
                  intro cc act vs W hcc ha hvs hS hd hi K hK
                  clear ha
                  clear hd hi
                  clear hvs
                  refine wanted_un rfl ?_
                  go_simp
                  exact hK.out _ _ rfl hS (sgC_below (by decide) (by decide) (Below.refl _ _))
                exact FlowStepsX.nil
              · intro c' ρ W9 hc' hS hd
                simp only [putFrom, Act.put, List.setIfInBounds_toArray, List.set_cons_zero, List.set_cons_succ, Nat.reduceAdd]
                obtain ⟨gy, cy, hrow9, hown9⟩ := hd.out 9 (by decide) (by kernel_rfl)
                have d10 : ρ 10 = .bool false := hd.out 10 (by decide) (by kernel_rfl)
                generalize ρ 10 = x10 at d10 ⊢
                subst d10
                clear hd
                obtain ⟨gy', cy', my, hvy, hgylo, hncy, hcmy, hmy, hry⟩ := ownG_of HL.out hown9 (by simp)
                obtain ⟨rfl, rfl⟩ : gy = gy' ∧ cy = cy' := by simpa using hvy
                have r0 := hrow9.cell (j := 0) rfl
                have r1 := hrow9.cell (j := 1) rfl
                have r2 := hrow9.cell (j := 2) rfl
                have hr9 := hrow9.lt
                have hxw := HXD.out
                have BXX : Below w.heap.size w W9 := B1.out.trans ((B06.out.mono (show w.heap.size ≤ W0.heap.size by omega)).trans (hS.1.mono (show w.heap.size ≤ xd + 1 + 1 by omega)))
                clear hxw
                clear hvy
                go_wp2_with fail
                exact bodyPost_ret (v := .tuple #[.agg #[.int .i64 m, .slice (some ⟨gy, 0, none⟩) n cy, .int .i64 k], .bool false]) (by simp [results, Try.results26, go_sem, *]) rfl (SgOut.kept HV.out HP.out hlv2 HL.out (by have := HXD.out; omega) hncy hcmy hmy hry (ownG_ty hown9) BXX)
            · have HV2 := hide hlv2
              clear hlv2
              go_wp2_with fail
              exact bodyPost_ret (v := .tuple #[.agg #[.int .i64 m, .slice (some ⟨gn, 0, none⟩) (n + 1) cn, .int .i64 k], .bool true]) (by simp [results, Try.results26, go_sem, *]) rfl (SgOut.good HV.out HP.out HV2.out (by simp [HL.out]) (by have := HXD.out; omega) hncn hcmn hmn (((HRN6.out.far (by show gn ≠ xd + 1 + 1; omega) _).far (by show gn ≠ xd + 1 + 1; omega) _).far (by show gn ≠ xd + 1 + 1; omega) _) (((HTN6.out.set _).set _).set _) (below_set3 (B1.out.trans (B06.out.mono (show w.heap.size ≤ W0.heap.size by have := HXD.out; omega))) (by have := HXD.out; omega)))
theorem sgSpec_some (m : Int) (b off n c : Nat) (k : Int) (l : List Grant) (tg : Bool) (tw tr : Int) (hn : n ≤ 1048576) (hc : n ≤ c) (hcm : c ≤ maxLen) (w : World) (hl : l.length = n) (hR : RdGrant w b off l) :
    Calls Try.prog 26 #[.agg #[.int .i64 m, .slice (some ⟨b, off, none⟩) n c, .int .i64 k], .agg #[.bool tg, .int .i64 tw, .int .i64 tr]] w (SgOut w m l k ⟨tg, tw, tr⟩) :=
  sgSpec_c m _ n c k l tg tw tr hn w ⟨hl, fun _ => ⟨b, off, rfl, hR⟩⟩ (fun h => by cases h)
end Go.Proofs.Ytpifnfhgaemdmaa
