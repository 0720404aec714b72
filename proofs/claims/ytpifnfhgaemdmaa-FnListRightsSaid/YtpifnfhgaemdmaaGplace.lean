/-
  grantPlace of the implementation: slices.IndexFunc with its own closure. No condition.
-/
import Derived.Test.YtpifnfhgaemdmaaProg
import Derived.Test.YtpifnfhgaemdmaaGrant
import Derived.Test.YtpifnfhgaemdmaaFlowS
namespace Go.Proofs.Ytpifnfhgaemdmaa
open Go.RowKit
set_option linter.unusedSimpArgs false
set_option linter.unusedVariables false

def isG (g : Bool) (who : Int) (t : Grant) : Bool := (t.ofGroup == g) && (t.who == who)
def idxG (l : List Grant) (g : Bool) (who : Int) : Int := match l.findIdx? (isG g who) with | some j => (j : Int) | none => -1
theorem idxG_none {l : List Grant} {g : Bool} {who : Int} (h : ∀ (q : Nat) (s : Grant), q < l.length → l[q]? = some s → isG g who s = false) : idxG l g who = -1 := by
  have : l.findIdx? (isG g who) = none := by
    rw [List.findIdx?_eq_none_iff]
    intro x hx
    obtain ⟨q, hq, rfl⟩ := List.getElem_of_mem hx
    exact h q _ hq (List.getElem?_eq_getElem hq)
  unfold idxG; rw [this]
theorem idxG_some {l : List Grant} {g : Bool} {who : Int} {k : Nat} {t : Grant} (ht : l[k]? = some t) (hy : isG g who t = true) (h : ∀ (q : Nat) (s : Grant), q < k → l[q]? = some s → isG g who s = false) : idxG l g who = k := by
  obtain ⟨hk, rfl⟩ := List.getElem?_eq_some_iff.1 ht
  have : l.findIdx? (isG g who) = some k := by
    rw [List.findIdx?_eq_some_iff_getElem]
    exact ⟨hk, hy, fun j hj => by simpa using h j _ hj (List.getElem?_eq_getElem (by omega))⟩
  unfold idxG; rw [this]
theorem gp1_c (t : Grant) (g : Bool) (who : Int) (p q : Nat) (w : World) (hp : w.cell? ⟨p, 0, none⟩ = some (.bool g)) (hq : w.cell? ⟨q, 0, none⟩ = some (.int .i64 who)) (hpl : p < w.heap.size) (hql : q < w.heap.size) :
    Calls Try.prog 66 #[.agg #[.bool t.ofGroup, .int .i64 t.who, .int .i64 t.rights], .pointer (some ⟨p, 0, none⟩), .pointer (some ⟨q, 0, none⟩)] w fun e w' => e = .returned (.bool (isG g who t)) ∧ Below w.heap.size w w' := by
  obtain ⟨tg, tw, tr⟩ := t
  have hp' := ((below_alloc0 (Below.refl _ _) _ : Below w.heap.size w (w.alloc (.cells #[.bool tg, .int .i64 tw, .int .i64 tr] 40))).cell (p := ⟨p, 0, none⟩) hpl).trans hp
  have hq' := ((below_alloc0 (Below.refl _ _) _ : Below w.heap.size w (w.alloc (.cells #[.bool tg, .int .i64 tw, .int .i64 tr] 40))).cell (p := ⟨q, 0, none⟩) hql).trans hq
  cases tg <;> cases g
  all_goals
    go_enter Try.func66, Try.ntmps66
    go_wp2_with fail
    go_ret
    exact ⟨by simp [isG], below_alloc0 (Below.refl _ _) _⟩
set_option maxHeartbeats 1000000 in
theorem indexG_c (A : Option Addr) (n c : Nat) (l : List Grant) (g : Bool) (who : Int) (p q : Nat) (w : World) (hI : InGrant w A n l) (hn : n ≤ 1048576)
    (hp : w.cell? ⟨p, 0, none⟩ = some (.bool g)) (hq : w.cell? ⟨q, 0, none⟩ = some (.int .i64 who)) (hpl : p < w.heap.size) (hql : q < w.heap.size) :
    Calls Try.prog 65 #[.slice A n c, .func (.func 66) #[] #[.pointer (some ⟨p, 0, none⟩), .pointer (some ⟨q, 0, none⟩)]] w fun e w' => e = .returned (.int .i64 (idxG l g who)) ∧ Below w.heap.size w w' := by
  have HI := hide hI
  have HL := hide hI.1
  have HP := hide (And.intro hp (And.intro hq (And.intro hpl hql)))
  clear hI hp hq hpl hql
  go_enter Try.func65, Try.ntmps65
  go_wp2_with fail
  go_loopw [8] (fun kv wr => ∃ i : Nat, i ≤ n ∧ kv = .int .i64 i ∧ Hid (∀ (j : Nat) (s : Grant), j < i → l[j]? = some s → isG g who s = false) ∧ Hid (Below w.heap.size w wr)) (fun kv _ => n - (intOf kv).toNat)
  case atStart => exact ⟨0, by omega, rfl, fun j s hj => absurd hj (by omega), Below.refl _ _⟩
  case round =>
    obtain ⟨i, hi, rfl, hin, hbel⟩ := hrel
    by_cases hlt : i < n
    · obtain ⟨t, ht⟩ : ∃ t, l[i]? = some t := ⟨_, List.getElem?_eq_getElem (by rw [HL.out]; exact hlt)⟩
      have HT := hide ht
      obtain ⟨b, off, hA, hR⟩ := HI.out.2 (by omega)
      subst hA
      have hRw := hR.below hbel.out
      obtain ⟨c0, c1, c2⟩ := hRw.2 i t ht
      have hbl := hRw.1
      clear ht hR hRw
      have hC := gp1_c t g who p q wr ((hbel.out.cell (p := ⟨p, 0, none⟩) HP.out.2.2.1).trans HP.out.1) ((hbel.out.cell (p := ⟨q, 0, none⟩) HP.out.2.2.2).trans HP.out.2.1) (Nat.lt_of_lt_of_le HP.out.2.2.1 hbel.out.size) (Nat.lt_of_lt_of_le HP.out.2.2.2 hbel.out.size)
      go_wp2_with fail
      refine hC.mono ?_
      rintro e w1 ⟨rfl, hb1⟩
      have HB1 := hide hb1
      clear hb1 hC
      cases hg : isG g who t
      · go_wp2_with fail
        refine ⟨⟨i + 1, by omega, by go_num, fun j s hj hs => ?_, hbel.out.trans (HB1.out.mono hbel.out.size)⟩, by simp [intOf]; omega⟩
        rcases Nat.lt_or_ge j i with h | h
        · exact hin.out j s h hs
        · obtain rfl : j = i := by omega
          obtain rfl : s = t := by have := hs.symm.trans HT.out; simpa using this
          exact hg
      · go_wp2_with fail
        go_ret
        exact ⟨by rw [idxG_some HT.out hg hin.out]; rfl, hbel.out.trans (HB1.out.mono hbel.out.size)⟩
    · obtain rfl : i = n := by omega
      go_wp2
      go_ret
      exact ⟨by rw [idxG_none (fun j s hj => hin.out j s (by rw [← HL.out]; exact hj))]; rfl, hbel.out⟩
set_option maxHeartbeats 1000000 in
theorem gplace_c (A : Option Addr) (n c : Nat) (l : List Grant) (g : Bool) (who : Int) (w : World) (hI : InGrant w A n l) (hn : n ≤ 1048576) :
    Calls Try.prog 44 #[.slice A n c, .bool g, .int .i64 who] w fun e w' => e = .returned (.int .i64 (idxG l g who)) ∧ Below w.heap.size w w' := by
  have hb : Below w.heap.size w ((w.alloc (.cells #[.bool g] 4)).alloc (.cells #[.int .i64 who] 3)) := below_alloc0 (below_alloc0 (Below.refl _ _) _) _
  have hC := indexG_c A n c l g who w.heap.size (w.heap.size + 1) ((w.alloc (.cells #[.bool g] 4)).alloc (.cells #[.int .i64 who] 3)) (hI.below hb) hn (by simp) (by simp) (by simp; omega) (by simp)
  have HB := hide hb
  clear hI hb
  go_enter Try.func44, Try.ntmps44
  go_wp2_with fail
  refine hC.mono ?_
  rintro e w1 ⟨rfl, hb1⟩
  have HB1 := hide hb1
  clear hb1 hC
  go_wp2_with fail
  go_ret
  exact ⟨rfl, HB.out.trans (HB1.out.mono HB.out.size)⟩
end Go.Proofs.Ytpifnfhgaemdmaa
