/-
  Where a process stands: l15Place, processPlace, runs. No condition.
-/
import Derived.Test.YtlfchcjollcdhaaProg
import Derived.Test.YtlfchcjollcdhaaPrcM
namespace Go.Proofs.Ytlfchcjollcdhaa
open Go.RowKit
set_option linter.unusedSimpArgs false
set_option linter.unusedVariables false

def isN (q : Int) (t : Pcs) : Bool := t.number == q
def idxP (l : List Pcs) (q : Int) : Int := match l.findIdx? (isN q) with | some j => (j : Int) | none => -1
def runsB (l : List Pcs) (q : Int) : Bool := match l.find? (isN q) with | some t => !t.ended | none => false
theorem fiP_none {l : List Pcs} {q : Int} (h : ∀ (i : Nat) (s : Pcs), i < l.length → l[i]? = some s → isN q s = false) : l.findIdx? (isN q) = none := by
  rw [List.findIdx?_eq_none_iff]
  intro x hx
  obtain ⟨i, hi, rfl⟩ := List.getElem_of_mem hx
  exact h i _ hi (List.getElem?_eq_getElem hi)
theorem fiP_some {l : List Pcs} {q : Int} {k : Nat} {t : Pcs} (ht : l[k]? = some t) (hy : isN q t = true) (h : ∀ (i : Nat) (s : Pcs), i < k → l[i]? = some s → isN q s = false) : l.findIdx? (isN q) = some k := by
  obtain ⟨hk, rfl⟩ := List.getElem?_eq_some_iff.1 ht
  rw [List.findIdx?_eq_some_iff_getElem]
  exact ⟨hk, hy, fun j hj => by simpa using h j _ hj (List.getElem?_eq_getElem (by omega))⟩
theorem idxP_none {l : List Pcs} {q : Int} (h : ∀ (i : Nat) (s : Pcs), i < l.length → l[i]? = some s → isN q s = false) : idxP l q = -1 := by
  unfold idxP; rw [fiP_none h]
theorem idxP_some {l : List Pcs} {q : Int} {k : Nat} {t : Pcs} (ht : l[k]? = some t) (hy : isN q t = true) (h : ∀ (i : Nat) (s : Pcs), i < k → l[i]? = some s → isN q s = false) : idxP l q = k := by
  unfold idxP; rw [fiP_some ht hy h]
/-- The place, or that there is none. -/
theorem place_cases (l : List Pcs) (q : Int) : (l.findIdx? (isN q) = none ∧ idxP l q = -1 ∧ runsB l q = false) ∨ ∃ (j : Nat) (t : Pcs), l.findIdx? (isN q) = some j ∧ idxP l q = j ∧ l[j]? = some t ∧ j < l.length ∧ isN q t = true ∧ runsB l q = !t.ended := by
  cases h : l.findIdx? (isN q) with
  | none =>
    refine .inl ⟨rfl, by simp only [idxP, h], ?_⟩
    have : l.find? (isN q) = none := by
      rw [List.find?_eq_none]
      intro x hx
      rw [List.findIdx?_eq_none_iff] at h
      simpa using h x hx
    simp only [runsB, this]
  | some j =>
    obtain ⟨hj, hy, hn⟩ := List.findIdx?_eq_some_iff_getElem.1 h
    refine .inr ⟨j, l[j], rfl, by simp only [idxP, h], List.getElem?_eq_getElem hj, hj, hy, ?_⟩
    have : l.find? (isN q) = some l[j] := by
      rw [List.find?_eq_some_iff_getElem]
      exact ⟨hy, j, hj, rfl, fun i hi => by simpa using hn i hi⟩
    simp only [runsB, this]
set_option maxHeartbeats 1000000 in
theorem l15Place_c (A : Option Addr) (n c : Nat) (l : List Pcs) (q : Int) (w : World) (hI : InProcess w A n l) (hn : n ≤ 1048576) :
    Calls Try.prog 32 #[.slice A n c, .int .i64 q] w fun e w' => e = .returned (.int .i64 (idxP l q)) ∧ w = w' := by
  have HI := hide hI
  have HL := hide hI.1
  clear hI
  go_enter Try.func32, Try.ntmps32
  go_wp2_with fail
  go_loopw [5] (fun kv wr => ∃ i : Nat, i ≤ n ∧ kv = .int .i64 i ∧ Hid (∀ (j : Nat) (s : Pcs), j < i → l[j]? = some s → isN q s = false) ∧ w = wr) (fun kv _ => n - (intOf kv).toNat)
  case atStart => exact ⟨0, by omega, rfl, fun j s hj => absurd hj (by omega), rfl⟩
  case round =>
    obtain ⟨i, hi, rfl, hin, rfl⟩ := hrel
    by_cases hlt : i < n
    · obtain ⟨t, ht⟩ : ∃ t, l[i]? = some t := ⟨_, List.getElem?_eq_getElem (by rw [HL.out]; exact hlt)⟩
      have HT := hide ht
      obtain ⟨b, off, hA, hR⟩ := HI.out.2 (by omega)
      subst hA
      obtain ⟨c0, _⟩ := hR.2 i t ht
      clear ht hR
      cases hg : isN q t
      · have hq : (t.number == q) = false := hg
        go_wp2_with fail
        refine ⟨⟨i + 1, by omega, by go_num, fun j s hj hs => ?_, trivial⟩, by simp [intOf]; omega⟩
        rcases Nat.lt_or_ge j i with h | h
        · exact hin.out j s h hs
        · obtain rfl : j = i := by omega
          obtain rfl : s = t := by have := hs.symm.trans HT.out; simpa using this
          exact hg
      · have hq : (t.number == q) = true := hg
        go_wp2_with fail
        go_ret
        exact ⟨by rw [idxP_some HT.out hg hin.out]; rfl, rfl⟩
    · obtain rfl : i = n := by omega
      go_wp2
      go_ret
      exact ⟨by rw [idxP_none (fun j s hj => hin.out j s (by rw [← HL.out]; exact hj))]; rfl, rfl⟩
theorem pp1_c (t : Pcs) (q : Int) (p : Nat) (w : World) (hp : w.cell? ⟨p, 0, none⟩ = some (.int .i64 q)) (hpl : p < w.heap.size) :
    Calls Try.prog 52 #[.agg #[.int .i64 t.number, .int .i64 t.parent, .int .i64 t.real, .int .i64 t.acts, .int .i64 t.saved, .int .i64 t.groups, .bool t.ended, .int .i64 t.result], .pointer (some ⟨p, 0, none⟩)] w fun e w' => e = .returned (.bool (isN q t)) ∧ Below w.heap.size w w' := by
  obtain ⟨t0, t1, t2, t3, t4, t5, t6, t7⟩ := t
  have hp' := ((below_alloc0 (Below.refl _ _) _ : Below w.heap.size w (w.alloc (.cells #[.int .i64 t0, .int .i64 t1, .int .i64 t2, .int .i64 t3, .int .i64 t4, .int .i64 t5, .bool t6, .int .i64 t7] 39))).cell (p := ⟨p, 0, none⟩) hpl).trans hp
  go_enter Try.func52, Try.ntmps52
  go_wp2_with fail
  go_ret
  exact ⟨by simp [isN], below_alloc0 (Below.refl _ _) _⟩
set_option maxHeartbeats 1000000 in
theorem indexP_c (A : Option Addr) (n c : Nat) (l : List Pcs) (q : Int) (p : Nat) (w : World) (hI : InProcess w A n l) (hn : n ≤ 1048576)
    (hp : w.cell? ⟨p, 0, none⟩ = some (.int .i64 q)) (hpl : p < w.heap.size) :
    Calls Try.prog 45 #[.slice A n c, .func (.func 52) #[] #[.pointer (some ⟨p, 0, none⟩)]] w fun e w' => e = .returned (.int .i64 (idxP l q)) ∧ Below w.heap.size w w' := by
  have HI := hide hI
  have HL := hide hI.1
  have HP := hide (And.intro hp hpl)
  clear hI hp hpl
  go_enter Try.func45, Try.ntmps45
  go_wp2_with fail
  go_loopw [8] (fun kv wr => ∃ i : Nat, i ≤ n ∧ kv = .int .i64 i ∧ Hid (∀ (j : Nat) (s : Pcs), j < i → l[j]? = some s → isN q s = false) ∧ Hid (Below w.heap.size w wr)) (fun kv _ => n - (intOf kv).toNat)
  case atStart => exact ⟨0, by omega, rfl, fun j s hj => absurd hj (by omega), Below.refl _ _⟩
  case round =>
    obtain ⟨i, hi, rfl, hin, hbel⟩ := hrel
    by_cases hlt : i < n
    · obtain ⟨t, ht⟩ : ∃ t, l[i]? = some t := ⟨_, List.getElem?_eq_getElem (by rw [HL.out]; exact hlt)⟩
      have HT := hide ht
      obtain ⟨b, off, hA, hR⟩ := HI.out.2 (by omega)
      subst hA
      have hRw := hR.below hbel.out
      obtain ⟨c0, c1, c2, c3, c4, c5, c6, c7⟩ := hRw.2 i t ht
      have hbl := hRw.1
      clear ht hR hRw
      have hC := pp1_c t q p wr ((hbel.out.cell (p := ⟨p, 0, none⟩) HP.out.2).trans HP.out.1) (Nat.lt_of_lt_of_le HP.out.2 hbel.out.size)
      go_wp2_with fail
      refine hC.mono ?_
      rintro e w1 ⟨rfl, hb1⟩
      have HB1 := hide hb1
      clear hb1 hC
      cases hg : isN q t
      · go_wp2_with fail
        refine ⟨⟨i + 1, by omega, by go_num, fun j s hj hs => ?_, hbel.out.trans (HB1.out.mono hbel.out.size)⟩, by simp [intOf]; omega⟩
        rcases Nat.lt_or_ge j i with h | h
        · exact hin.out j s h hs
        · obtain rfl : j = i := by omega
          obtain rfl : s = t := by have := hs.symm.trans HT.out; simpa using this
          exact hg
      · go_wp2_with fail
        go_ret
        exact ⟨by rw [idxP_some HT.out hg hin.out]; rfl, hbel.out.trans (HB1.out.mono hbel.out.size)⟩
    · obtain rfl : i = n := by omega
      go_wp2
      go_ret
      exact ⟨by rw [idxP_none (fun j s hj => hin.out j s (by rw [← HL.out]; exact hj))]; rfl, hbel.out⟩
set_option maxHeartbeats 1000000 in
theorem pplace_c (A : Option Addr) (n c : Nat) (l : List Pcs) (q : Int) (w : World) (hI : InProcess w A n l) (hn : n ≤ 1048576) :
    Calls Try.prog 44 #[.slice A n c, .int .i64 q] w fun e w' => e = .returned (.int .i64 (idxP l q)) ∧ Below w.heap.size w w' := by
  have hb : Below w.heap.size w (w.alloc (.cells #[.int .i64 q] 3)) := below_alloc0 (Below.refl _ _) _
  have hC := indexP_c A n c l q w.heap.size (w.alloc (.cells #[.int .i64 q] 3)) (hI.below hb) hn (by simp) (by simp)
  have HB := hide hb
  clear hI hb
  go_enter Try.func44, Try.ntmps44
  go_wp2_with fail
  refine hC.mono ?_
  rintro e w1 ⟨rfl, hb1⟩
  have HB1 := hide (below_via0 HB.out hb1)
  clear hb1 hC
  go_wp2_with fail
  go_ret
  exact ⟨rfl, HB1.out⟩
set_option maxHeartbeats 1000000 in
theorem runs_c (A : Option Addr) (n c : Nat) (l : List Pcs) (q : Int) (w : World) (hI : InProcess w A n l) (hn : n ≤ 1048576) (hc : n ≤ c) :
    Calls Try.prog 36 #[.slice A n c, .int .i64 q] w fun e w' => e = .returned (.bool (runsB l q)) ∧ Below w.heap.size w w' := by
  have HI := hide hI
  have HL := hide hI.1
  clear hI
  go_enter Try.func36, Try.ntmps36
  go_wp2_with fail
  refine (pplace_c _ _ _ l q _ HI.out hn).mono ?_
  rintro e w1 ⟨rfl, hb1⟩
  have HB1 := hide hb1
  rcases place_cases l q with ⟨_, hx, hr⟩ | ⟨j, t, _, hx, ht, hj, _, hr⟩
  · rw [hx]
    have HR := hide hr
    clear hb1 hr
    go_wp2_with fail
    go_ret
    exact ⟨by rw [HR.out]; rfl, HB1.out⟩
  · rw [hx]
    have HR := hide hr
    have hjn : j < n := by rw [← HL.out]; exact hj
    obtain ⟨b, off, hA, hR⟩ := HI.out.2 (by omega)
    subst hA
    obtain ⟨c0, c1, c2, c3, c4, c5, c6, c7⟩ := (hR.below hb1).2 j t ht
    have hbl := (hR.below hb1).1
    have j0 : (0 : Int) ≤ (j : Int) := by omega
    clear hb1 hR ht hx hr
    go_wp2_with fail
    go_ret
    exact ⟨by rw [HR.out]; rfl, HB1.out⟩
end Go.Proofs.Ytlfchcjollcdhaa
