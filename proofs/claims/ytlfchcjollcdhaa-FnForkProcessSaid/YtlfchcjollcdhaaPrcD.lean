/-
  When processes are valid. No condition.
-/
import Derived.Test.YtlfchcjollcdhaaProg
import Derived.Test.YtlfchcjollcdhaaPrcP
namespace Go.Proofs.Ytlfchcjollcdhaa
open Go.RowKit
set_option linter.unusedSimpArgs false
set_option linter.unusedVariables false

def POk (l : List Pcs) (i : Nat) (t : Pcs) : Prop :=
  inB t.number 1 99 = true ∧ (0 < i → ∀ s, l[i - 1]? = some s → s.number < t.number) ∧ credB t.real t.acts t.saved t.groups = true ∧ inB t.result 0 255 = true ∧ (t.ended = false → t.result = 0) ∧ (0 < i → runsB l t.parent = true ∧ t.parent ≠ t.number)
def PUp (l : List Pcs) (k : Nat) : Prop := ∀ (i : Nat) (t : Pcs), i < k → l[i]? = some t → POk l i t
def PFst (l : List Pcs) : Prop := ∃ t, l[0]? = some t ∧ t.number = 1 ∧ t.parent = 0 ∧ t.ended = false
def PV (l : List Pcs) : Prop := PUp l l.length ∧ 1 ≤ l.length ∧ l.length ≤ 10 ∧ PFst l
noncomputable def procsB (l : List Pcs) : Bool := @decide (PV l) (Classical.propDecidable _)
theorem procsB_iff {l : List Pcs} : procsB l = true ↔ PV l := by unfold procsB; exact @decide_eq_true_iff _ (Classical.propDecidable _)
theorem procsB_no {l : List Pcs} (h : ¬ PV l) : procsB l = false := by
  rw [← Bool.not_eq_true, procsB_iff]; exact h
theorem procsB_bad {l : List Pcs} {i : Nat} {t : Pcs} (ht : l[i]? = some t) (h : ¬ POk l i t) : procsB l = false :=
  procsB_no fun e => h (e.1 i t (List.getElem?_eq_some_iff.1 ht).1 ht)
theorem PUp.step {l : List Pcs} {k : Nat} {t : Pcs} (h : PUp l k) (ht : l[k]? = some t) (hr : POk l k t) : PUp l (k + 1) := by
  intro i t' hi ht'
  rcases Nat.lt_or_ge i k with hlt | hge
  · exact h i t' hlt ht'
  · obtain rfl : i = k := by omega
    obtain rfl : t' = t := by have := ht'.symm.trans ht; simpa using this
    exact hr
/-- What is asked of one by itself and of the one ahead. -/
def PBad (p r s x e z : Bool) : Bool := (((p || r) || s) || x) || (e && z)
theorem PBad_no {p r s x e z B1 B2 B3 B4 : Bool} (h1 : (p || r) = B1) (h2 : (B1 || s) = B2) (h3 : (B2 || x) = B3) (h4 : (B3 || (e && z)) = B4) : PBad p r s x e z = B4 := by
  subst h1 h2 h3 h4; rfl
theorem POk_bad {l : List Pcs} {i : Nat} {tn tp t2 t3 t4 t5 tr : Int} {p r s x e z : Bool} (hp : inB tn 1 99 = !p) (hr : r = true → ∃ q : Pcs, 0 < i ∧ l[i - 1]? = some q ∧ tn ≤ q.number) (hs : credB t2 t3 t4 t5 = !s) (hx : inB tr 0 255 = !x) (hz : z = true → tr ≠ 0)
    (h : PBad p r s x e z = true) : ¬ POk l i ⟨tn, tp, t2, t3, t4, t5, !e, tr⟩ := by
  rintro ⟨a1, a2, a3, a4, a5, _⟩
  simp only at a1 a2 a3 a4 a5
  have b1 : p = false := by simpa using hp.symm.trans a1
  have b3 : s = false := by simpa using hs.symm.trans a3
  have b4 : x = false := by simpa using hx.symm.trans a4
  subst b1 b3 b4
  cases r with
  | true =>
    obtain ⟨q, q1, q2, q3⟩ := hr rfl
    have := a2 q1 q q2
    omega
  | false =>
    cases e with
    | false => simp [PBad] at h
    | true =>
      cases z with
      | false => simp [PBad] at h
      | true => exact hz rfl (a5 (by simp))
theorem POk_good {l : List Pcs} {i : Nat} {tn tp t2 t3 t4 t5 tr : Int} {p r s x e z : Bool} (hp : inB tn 1 99 = !p) (hr : r = false → 0 < i → ∀ q : Pcs, l[i - 1]? = some q → q.number < tn) (hs : credB t2 t3 t4 t5 = !s) (hx : inB tr 0 255 = !x) (hz : z = false → tr = 0)
    (h : PBad p r s x e z = false) (hrun : 0 < i → runsB l tp = true ∧ tp ≠ tn) : POk l i ⟨tn, tp, t2, t3, t4, t5, !e, tr⟩ := by
  simp only [PBad, Bool.or_eq_false_iff] at h
  obtain ⟨⟨⟨⟨rfl, rfl⟩, rfl⟩, rfl⟩, h5⟩ := h
  refine ⟨hp, hr rfl, hs, hx, fun he => ?_, hrun⟩
  cases e with
  | false => simp at he
  | true => exact hz (by simpa using h5)
end Go.Proofs.Ytlfchcjollcdhaa
