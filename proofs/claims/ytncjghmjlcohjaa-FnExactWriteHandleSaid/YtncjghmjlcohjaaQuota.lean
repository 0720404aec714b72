/-
  A slice of Quota: how it lies in memory, its copy (toQuotaS), the equality of two (eqQuotaS), how one comes in. No condition.
-/
import Derived.Test.YtncjghmjlcohjaaProg
import Derived.Test.YtncjghmjlcohjaaIns
namespace Go.Proofs.Ytncjghmjlcohjaa
open Go.RowKit
set_option linter.unusedSimpArgs false
set_option linter.unusedVariables false

structure Quota where
  who : Int
  nodes : Int
  bytes : Int

def RdQuota (w : World) (b off : Nat) (l : List Quota) : Prop :=
  b < w.heap.size ∧ ∀ (k : Nat) (t : Quota), l[k]? = some t → w.cell? ⟨b, off + k * 3, none⟩ = some (.int .i64 t.who) ∧ w.cell? ⟨b, off + k * 3 + 1, none⟩ = some (.int .i64 t.nodes) ∧ w.cell? ⟨b, off + k * 3 + 2, none⟩ = some (.int .i64 t.bytes)
theorem RdQuota.below {w w' : World} {b off : Nat} {l : List Quota} (h : RdQuota w b off l) (hb : Below w.heap.size w w') : RdQuota w' b off l := by
  refine ⟨Nat.lt_of_lt_of_le h.1 hb.size, fun k t ht => ?_⟩
  obtain ⟨h0, h1, h2⟩ := h.2 k t ht
  exact ⟨(hb.cell (p := ⟨b, _, none⟩) h.1).trans h0, (hb.cell (p := ⟨b, _, none⟩) h.1).trans h1, (hb.cell (p := ⟨b, _, none⟩) h.1).trans h2⟩
theorem szQuota_yes (A : Option Addr) (n c : Nat) (l : Int) (h : (n : Int) ≤ l) (hl : l ≤ 1048576) (w : World) :
    Calls Try.prog 17 #[.slice A n c, .int .i64 l] w fun e w' => e = .returned (.int .i64 (l - n)) ∧ w = w' := by
  have h1 : 0 ≤ l - n := by omega
  go_enter Try.func17, Try.ntmps17
  go_wp2
  go_ret
  exact ⟨rfl, rfl⟩
theorem szQuota_no (A : Option Addr) (n c : Nat) (l : Int) (h : l < (n : Int)) (h0 : 0 ≤ l) (hn : n ≤ maxLen) (hl : l ≤ 1048576) (w : World) :
    Calls Try.prog 17 #[.slice A n c, .int .i64 l] w fun e w' => e = .returned (.int .i64 (-1)) ∧ w = w' := by
  unfold maxLen at hn
  have h1 : l - n < 0 := by omega
  go_enter Try.func17, Try.ntmps17
  go_wp2
  go_ret
  exact ⟨rfl, rfl⟩
theorem toQuota_c (who : Int) (nodes : Int) (bytes : Int) (w : World) :
    Calls Try.prog 40 #[.agg #[.int .i64 who, .int .i64 nodes, .int .i64 bytes]] w fun e w' => e = .returned (.agg #[.int .i64 who, .int .i64 nodes, .int .i64 bytes]) ∧ Below w.heap.size w w' := by
  go_enter Try.func40, Try.ntmps40
  go_wp2
  exact bodyPost_ret (v := .agg #[.int .i64 who, .int .i64 nodes, .int .i64 bytes]) (by simp [results, Try.results40, go_sem]) rfl ⟨rfl, (by repeat' (first | exact Below.refl _ _ | assumption | exact And.left (by assumption) | omega | (simp; done) | (simp; omega) | (simp at *; omega) | (refine Below.setCell ?_ ?_ _) | (refine below_alloc0 ?_ _) | (refine Below.drew ?_) | (refine below_drewN ?_ _) | (refine below_via0 ?_ (by assumption)) | (refine Below.alloc ?_ ?_ _) | (refine below_via ?_ (by assumption) ?_)))⟩

theorem infoQuota : (Try.prog.info? 66).map (fun i => (i.zero, i.size, i.bytes)) = some (some (.agg #[.int .i64 0, .int .i64 0, .int .i64 0]), 3, 24) := by kernel_rfl
def cellQuota (l : List Quota) (j : Nat) : Option Value := (l[j / 3]?).map fun t => if j % 3 = 0 then .int .i64 t.who else if j % 3 = 1 then .int .i64 t.nodes else .int .i64 t.bytes
def doneQuota (l : List Quota) (k : Nat) (j : Nat) : Option Value := if j < k * 3 then cellQuota l j else none
theorem RdQuota_of_row {w : World} {g n : Nat} {l : List Quota} (h : Row w g (n * 3) (doneQuota l n)) (hl : l.length = n) : RdQuota w g 0 l := by
  refine ⟨h.lt, fun k t ht => ?_⟩
  have hk : k < n := by rw [← hl]; exact (List.getElem?_eq_some_iff.1 ht).1
  refine ⟨h.cell ?_, h.cell ?_, h.cell ?_⟩
  · simp only [doneQuota, cellQuota]; rw [if_pos (by omega), show (0 + k * 3) / 3 = k by omega, ht]; simp
  · simp only [doneQuota, cellQuota]; rw [if_pos (by omega), show (0 + k * 3 + 1) / 3 = k by omega, ht]; simp [show (k * 3 + 1) % 3 = 1 by omega]
  · simp only [doneQuota, cellQuota]; rw [if_pos (by omega), show (0 + k * 3 + 2) / 3 = k by omega, ht]; simp [show (k * 3 + 2) % 3 = 2 by omega]
theorem row_nextQuota {w : World} {g n k : Nat} {l : List Quota} {t : Quota} (h : Row w g (n * 3) (doneQuota l k)) (hk : k < n) (ht : l[k]? = some t) :
    Row (((w.setCell ⟨g, k * 3, none⟩ (.int .i64 t.who)).setCell ⟨g, k * 3 + 1, none⟩ (.int .i64 t.nodes)).setCell ⟨g, k * 3 + 2, none⟩ (.int .i64 t.bytes)) g (n * 3) (doneQuota l (k + 1)) := by
  refine (((h.set (k * 3) _).set (k * 3 + 1) _).set (k * 3 + 2) _).mono fun j u hj => ?_
  simp only [doneQuota] at hj ⊢
  split at hj
  · rename_i hlt
    by_cases e2 : j = k * 3 + 2
    · rw [if_pos e2, if_pos (by omega)]
      subst e2
      rw [← hj, cellQuota, show (k * 3 + 2) / 3 = k by omega, ht]; simp [show (k * 3 + 2) % 3 = 2 by omega]
    rw [if_neg e2]
    by_cases e1 : j = k * 3 + 1
    · rw [if_pos e1, if_pos (by omega)]
      subst e1
      rw [← hj, cellQuota, show (k * 3 + 1) / 3 = k by omega, ht]; simp [show (k * 3 + 1) % 3 = 1 by omega]
    rw [if_neg e1]
    by_cases e0 : j = k * 3
    · rw [if_pos e0, if_pos (by omega)]
      subst e0
      rw [← hj, cellQuota, show (k * 3) / 3 = k by omega, ht]; simp
    rw [if_neg e0]
    rw [if_pos (by omega)]; exact hj
  · cases hj

/-- What toQuotaS gives: a slice of its own that reads as the list. -/
def MadeQuota (w : World) (n : Nat) (l : List Quota) (e : Ending) (w' : World) : Prop :=
  ∃ g, e = .returned (.slice (some ⟨g, 0, none⟩) n n) ∧ w.heap.size ≤ g ∧ RdQuota w' g 0 l ∧ Below w.heap.size w w'
/-- How a slice came in. -/
def InQuota (w : World) (A : Option Addr) (n : Nat) (l : List Quota) : Prop :=
  l.length = n ∧ (0 < n → ∃ b off, A = some ⟨b, off, none⟩ ∧ RdQuota w b off l)
theorem InQuota.below {w w' : World} {A : Option Addr} {n : Nat} {l : List Quota} (h : InQuota w A n l) (hb : Below w.heap.size w w') : InQuota w' A n l :=
  ⟨h.1, fun h0 => by
    obtain ⟨b, off, hA, hR⟩ := h.2 h0
    exact ⟨b, off, hA, hR.below hb⟩⟩

set_option maxHeartbeats 1000000 in
theorem toQuotaS_c (A : Option Addr) (n c : Nat) (l : List Quota) (w : World) (hA : InQuota w A n l) (hn : n ≤ 1048576) :
    Calls Try.prog 19 #[.slice A n c] w (MadeQuota w n l) := by
  obtain ⟨i0, hi0, hz0, hz1, hz2⟩ := info_parts infoQuota
  have hmk := fun W => run_make_rowN (P := Try.prog) 41 66 i0 _ Try.underlying41 hi0 hz0 .i64 .i64 n n (Nat.le_refl _) (by rw [hz2]; omega) (by omega) W
  rw [hz1] at hmk
  have hA' := hide hA
  clear hA
  go_enter Try.func19, Try.ntmps19
  go_wp2_with fail
  clear hmk
  generalize hW : w.alloc (.cells (madeCells #[.int .i64 0, .int .i64 0, .int .i64 0] (n * 3)) 66) = W
  have hr0 : Row W w.heap.size (n * 3) (doneQuota l 0) := by
    rw [← hW]
    have := Row.made w 66 (madeCells #[.int .i64 0, .int .i64 0, .int .i64 0] (n * 3)) (doneQuota l 0) (fun j u hj => by simp [doneQuota] at hj)
    rwa [size_madeCells] at this
  have hb0 : Below w.heap.size w W := by rw [← hW]; exact below_alloc0 (Below.refl _ _) _
  clear hW
  go_loopw [4] (fun i wr => ∃ k : Nat, k ≤ n ∧ i = .int .i64 k ∧ Row wr w.heap.size (n * 3) (doneQuota l k) ∧ Below w.heap.size w wr) (fun i _ => n - (intOf i).toNat)
  case atStart => exact ⟨0, by omega, rfl, hr0, hb0⟩
  case round =>
    obtain ⟨k, hk, rfl, hrow, hbel⟩ := hrel
    by_cases hlt : k < n
    · obtain ⟨hl, hin⟩ := hA'.out
      obtain ⟨b, off, rfl, hR⟩ := hin (by omega)
      clear hin
      obtain ⟨t, ht⟩ : ∃ t, l[k]? = some t := ⟨_, List.getElem?_eq_getElem (by omega)⟩
      have HT := hide ht
      have hlb : b < wr.heap.size := Nat.lt_of_lt_of_le hR.1 hbel.size
      have c0 := (hR.below hbel).2 k t ht
      have HL := hide hl
      clear ht hl
      have g1 := hrow.lt
      obtain ⟨x0, gs0⟩ := hrow.some_ex (j := k * 3) (by omega)
      obtain ⟨x1, gs1⟩ := hrow.some_ex (j := k * 3 + 1) (by omega)
      obtain ⟨x2, gs2⟩ := hrow.some_ex (j := k * 3 + 2) (by omega)
      have gf0 := hrow.frozen (k * 3)
      have gf1 := hrow.frozen (k * 3 + 1)
      have gf2 := hrow.frozen (k * 3 + 2)
      go_wp2_with fail
      refine (toQuota_c _ _ _ _).mono ?_
      rintro e w1 ⟨rfl, hb1⟩
      have V1 := live hb1 w.heap.size (by omega)
      go_wp2_with fail
      refine ⟨⟨k + 1, by omega, by go_num, row_nextQuota (hrow.below hb1 g1) hlt HT.out, (by repeat' (first | exact Below.refl _ _ | assumption | exact And.left (by assumption) | omega | (simp; done) | (simp; omega) | (simp at *; omega) | (refine Below.setCell ?_ ?_ _) | (refine below_alloc0 ?_ _) | (refine Below.drew ?_) | (refine below_drewN ?_ _) | (refine below_via0 ?_ (by assumption)) | (refine Below.alloc ?_ ?_ _) | (refine below_via ?_ (by assumption) ?_)))⟩, by simp [intOf]; omega⟩
    · obtain rfl : k = n := by omega
      go_wp2
      go_ret
      exact ⟨w.heap.size, rfl, Nat.le_refl _, RdQuota_of_row hrow hA'.out.1, (by repeat' (first | exact Below.refl _ _ | assumption | exact And.left (by assumption) | omega | (simp; done) | (simp; omega) | (simp at *; omega) | (refine Below.setCell ?_ ?_ _) | (refine below_alloc0 ?_ _) | (refine Below.drew ?_) | (refine below_drewN ?_ _) | (refine below_via0 ?_ (by assumption)) | (refine Below.alloc ?_ ?_ _) | (refine below_via ?_ (by assumption) ?_)))⟩

theorem eqQuota_c (who : Int) (nodes : Int) (bytes : Int) (w : World) :
    Calls Try.prog 42 #[.agg #[.int .i64 who, .int .i64 nodes, .int .i64 bytes], .agg #[.int .i64 who, .int .i64 nodes, .int .i64 bytes]] w fun e w' => e = .returned (.bool true) ∧ Below w.heap.size w w' := by
  go_enter Try.func42, Try.ntmps42
  go_wp2
  go_ret
  exact ⟨rfl, (by repeat' (first | exact Below.refl _ _ | assumption | exact And.left (by assumption) | omega | (simp; done) | (simp; omega) | (simp at *; omega) | (refine Below.setCell ?_ ?_ _) | (refine below_alloc0 ?_ _) | (refine Below.drew ?_) | (refine below_drewN ?_ _) | (refine below_via0 ?_ (by assumption)) | (refine Below.alloc ?_ ?_ _) | (refine below_via ?_ (by assumption) ?_)))⟩
set_option maxHeartbeats 1000000 in
/-- Two slices that read as one list are equal. -/
theorem eqQuotaS_c (b off c b' off' c' n : Nat) (l : List Quota) (hl : l.length = n) (hn : n ≤ 1048576) (w : World) (hR : RdQuota w b off l) (hR' : RdQuota w b' off' l) :
    Calls Try.prog 21 #[.slice (some ⟨b, off, none⟩) n c, .slice (some ⟨b', off', none⟩) n c'] w fun e w' => e = .returned (.bool true) ∧ Below w.heap.size w w' := by
  go_enter Try.func21, Try.ntmps21
  go_wp2_with fail
  go_loopw [5] (fun i wr => ∃ k : Nat, k ≤ n ∧ i = .int .i64 k ∧ Below w.heap.size w wr) (fun i _ => n - (intOf i).toNat)
  case atStart => exact ⟨0, by omega, rfl, Below.refl _ _⟩
  case round =>
    obtain ⟨k, hk, rfl, hbel⟩ := hrel
    by_cases hlt : k < n
    · obtain ⟨t, ht⟩ : ∃ t, l[k]? = some t := ⟨_, List.getElem?_eq_getElem (by omega)⟩
      have c0 := (hR.below hbel).2 k t ht
      have c1 := (hR'.below hbel).2 k t ht
      clear ht
      have lb : b < wr.heap.size := Nat.lt_of_lt_of_le hR.1 hbel.size
      have lb' : b' < wr.heap.size := Nat.lt_of_lt_of_le hR'.1 hbel.size
      go_wp2_with fail
      go_region_held3 (fun w' => Below w.heap.size w w' ∧ b < w'.heap.size ∧ b' < w'.heap.size ∧ w'.cell? ⟨b, off + k * 3, none⟩ = some (.int .i64 t.who) ∧ w'.cell? ⟨b, off + k * 3 + 1, none⟩ = some (.int .i64 t.nodes) ∧ w'.cell? ⟨b, off + k * 3 + 2, none⟩ = some (.int .i64 t.bytes) ∧ w'.cell? ⟨b', off' + k * 3, none⟩ = some (.int .i64 t.who) ∧ w'.cell? ⟨b', off' + k * 3 + 1, none⟩ = some (.int .i64 t.nodes) ∧ w'.cell? ⟨b', off' + k * 3 + 2, none⟩ = some (.int .i64 t.bytes))
        (first | (have L1 := live hb1 b (by omega); have L2 := live hb1 b' (by omega); refine ⟨(by repeat' (first | exact Below.refl _ _ | assumption | exact And.left (by assumption) | omega | (simp; done) | (simp; omega) | (simp at *; omega) | (refine Below.setCell ?_ ?_ _) | (refine below_alloc0 ?_ _) | (refine Below.drew ?_) | (refine below_drewN ?_ _) | (refine below_via0 ?_ (by assumption)) | (refine Below.alloc ?_ ?_ _) | (refine below_via ?_ (by assumption) ?_))), ?_⟩; simp [*]; done) | (refine ⟨(by repeat' (first | exact Below.refl _ _ | assumption | exact And.left (by assumption) | omega | (simp; done) | (simp; omega) | (simp at *; omega) | (refine Below.setCell ?_ ?_ _) | (refine below_alloc0 ?_ _) | (refine Below.drew ?_) | (refine below_drewN ?_ _) | (refine below_via0 ?_ (by assumption)) | (refine Below.alloc ?_ ?_ _) | (refine below_via ?_ (by assumption) ?_))), ?_⟩; simp [go_sem]; done) | (refine ⟨(by repeat' (first | exact Below.refl _ _ | assumption | exact And.left (by assumption) | omega | (simp; done) | (simp; omega) | (simp at *; omega) | (refine Below.setCell ?_ ?_ _) | (refine below_alloc0 ?_ _) | (refine Below.drew ?_) | (refine below_drewN ?_ _) | (refine below_via0 ?_ (by assumption)) | (refine Below.alloc ?_ ?_ _) | (refine below_via ?_ (by assumption) ?_))), ?_⟩; simp [go_sem, *]; done) | assumption | go_keep)
        (first | (go_at_call 42; refine (eqQuota_c _ _ _ _).mono ?_; rintro e w1 ⟨rfl, hb1⟩))
      have bel1 : Below w.heap.size w w1 := And.left (by assumption)
      go_wp2
      exact ⟨⟨k + 1, by omega, by go_num, bel1⟩, by simp [intOf]; omega⟩
    · obtain rfl : k = n := by omega
      go_wp2
      go_ret
      exact ⟨rfl, (by repeat' (first | exact Below.refl _ _ | assumption | exact And.left (by assumption) | omega | (simp; done) | (simp; omega) | (simp at *; omega) | (refine Below.setCell ?_ ?_ _) | (refine below_alloc0 ?_ _) | (refine Below.drew ?_) | (refine below_drewN ?_ _) | (refine below_via0 ?_ (by assumption)) | (refine Below.alloc ?_ ?_ _) | (refine below_via ?_ (by assumption) ?_)))⟩

/-- How a slice came in, whole. -/
def InsQuota (w : World) (A : Option Addr) (n c : Nat) (l : List Quota) : Prop := InQuota w A n l ∧ n ≤ maxLen ∧ n ≤ c
open Go.ChangeShapes Go.WideShapes Go.Deep in
theorem open_recs68 {H : Type} {enc : TypeId × Value → H} {w : World} {base : Nat} {spare : Nat → Bool} {held : Bool} {a : Option Addr} {len cap : Nat} {d : DataW H} {p : List MemPlace}
    (h : DataW.Trod enc Try.prog w base spare held 38 (.slice a len cap) d p) : ∃ l, InsQuota w a len cap l := by
  obtain ⟨h1, h2, h3⟩ := open_recs Try.underlying38 Try.underlying68 (by kernel_rfl) (by kernel_rfl) (by simp) h
  rcases Nat.eq_zero_or_pos len with h0 | h0
  · subst h0
    exact ⟨[], ⟨rfl, fun h => absurd h (by omega)⟩, by omega, h1⟩
  · obtain ⟨b, off, rfl, hb, hi⟩ := h3 h0
    obtain ⟨l, hl, hq⟩ := choose_list (Q := fun k (t : Quota) => w.cell? ⟨b, off + k * 3, none⟩ = some (.int .i64 t.who) ∧ w.cell? ⟨b, off + k * 3 + 1, none⟩ = some (.int .i64 t.nodes) ∧ w.cell? ⟨b, off + k * 3 + 2, none⟩ = some (.int .i64 t.bytes)) len (fun i hil => by
      obtain ⟨n, hn⟩ := hi i hil
      obtain ⟨v0, y0, c0, t0⟩ := hn 0 _ rfl
      obtain ⟨v1, y1, c1, t1⟩ := hn 1 _ rfl
      obtain ⟨v2, y2, c2, t2⟩ := hn 2 _ rfl
      obtain ⟨a0, e0, _, _⟩ := DataW.trod_int Try.underlying3 t0
      obtain ⟨a1, e1, _, _⟩ := DataW.trod_int Try.underlying3 t1
      obtain ⟨a2, e2, _, _⟩ := DataW.trod_int Try.underlying3 t2
      simp only [List.cons.injEq, and_true] at e0 e1 e2
      subst e0 e1 e2
      exact ⟨⟨a0, a1, a2⟩, c0, c1, c2⟩)
    exact ⟨l, ⟨hl, fun _ => ⟨b, off, rfl, hb, hq⟩⟩, by omega, h1⟩

end Go.Proofs.Ytncjghmjlcohjaa
