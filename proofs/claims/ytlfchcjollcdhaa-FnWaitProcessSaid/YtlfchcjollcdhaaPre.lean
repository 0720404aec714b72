/-
  EndProcess: what it gives; of the reference and of the program. No condition.
-/
import Derived.Test.YtlfchcjollcdhaaProg
import Derived.Test.YtlfchcjollcdhaaPrf
namespace Go.Proofs.Ytlfchcjollcdhaa
open Go.RowKit
set_option linter.unusedSimpArgs false
set_option linter.unusedVariables false

/-- One process, after number q ended with result x. -/
def endT (q x : Int) (t : Pcs) : Pcs :=
  if t.number = q then ⟨t.number, t.parent, t.real, t.acts, t.saved, t.groups, true, x⟩ else if t.parent = q then ⟨t.number, 1, t.real, t.acts, t.saved, t.groups, t.ended, t.result⟩ else t
/-- May it end so? -/
def endB (l : List Pcs) (q x : Int) : Bool := !(q == 1) && (runsB l q && inB x 0 255)
noncomputable def endL (l : List Pcs) (q x : Int) : List Pcs := if procsB l = true then (if endB l q x = true then l.map (endT q x) else l) else []
noncomputable def endO (l : List Pcs) (q x : Int) : Bool := procsB l && endB l q x
def EdOut (w : World) (l : List Pcs) (q x : Int) (e : Ending) (w' : World) : Prop :=
  ∃ (A : Option Addr) (n c : Nat), e = .returned (.tuple #[.slice A n c, .bool (endO l q x)]) ∧ (endL l q x).length = n ∧ OwnSP w' w.heap.size n c A (endL l q x) ∧ Below w.heap.size w w'
theorem EdOut.of {w w' : World} {l L : List Pcs} {q x : Int} {o : Bool} {A : Option Addr} {n c : Nat} (hL : endL l q x = L) (hN : endO l q x = o) (hl : L.length = n) (ho : OwnSP w' w.heap.size n c A L) (hb : Below w.heap.size w w') : EdOut w l q x (.returned (.tuple #[.slice A n c, .bool o])) w' := by
  subst hL hN
  exact ⟨A, n, c, rfl, hl, ho, hb⟩
theorem end_bad {l : List Pcs} {q x : Int} (h : procsB l = false) : endL l q x = [] ∧ endO l q x = false := by simp [endL, endO, h]
theorem end_no {l : List Pcs} {q x : Int} (h : procsB l = true) (hf : endB l q x = false) : endL l q x = l ∧ endO l q x = false := by simp [endL, endO, h, hf]
theorem end_yes {l : List Pcs} {q x : Int} (h : procsB l = true) (hf : endB l q x = true) : endL l q x = l.map (endT q x) ∧ endO l q x = true := by simp [endL, endO, h, hf]
/-- Valid processes' numbers ascend. -/
theorem PV.asc {l : List Pcs} (h : PV l) {i j : Nat} {s t : Pcs} (hs : l[i]? = some s) (ht : l[j]? = some t) (hij : i < j) : s.number < t.number := by
  induction j generalizing t with
  | zero => omega
  | succ j ih =>
    have hj := (List.getElem?_eq_some_iff.1 ht).1
    obtain ⟨u, hu⟩ : ∃ u, l[j]? = some u := ⟨_, List.getElem?_eq_getElem (by omega)⟩
    have h1 := (h.1 (j + 1) t hj ht).2.1 (by omega) u (by simpa using hu)
    rcases Nat.lt_or_ge i j with hlt | hge
    · have := ih hu hlt; omega
    · obtain rfl : i = j := by omega
      obtain rfl := Option.some.inj (hs.symm.trans hu)
      exact h1
theorem PV.uniq {l : List Pcs} (h : PV l) {i j : Nat} {s t : Pcs} (hs : l[i]? = some s) (ht : l[j]? = some t) (hn : s.number = t.number) : i = j := by
  rcases Nat.lt_trichotomy i j with hlt | rfl | hlt
  · have := h.asc hs ht hlt; omega
  · rfl
  · have := h.asc ht hs hlt; omega
/-- The place of the first process. -/
theorem PV.place1 {l : List Pcs} (h : PV l) {j : Nat} {t : Pcs} (ht : l[j]? = some t) : (t.number = 1 ↔ j = 0) := by
  obtain ⟨s, hs, h1, _⟩ := h.2.2.2
  constructor
  · intro e; exact h.uniq ht hs (by omega)
  · rintro rfl
    obtain rfl := Option.some.inj (hs.symm.trans ht)
    exact h1
/-- One field of one process is written. -/
theorem row_setP {w : World} {g n m j : Nat} {l : List Pcs} {t t' : Pcs} (h : Row w g m (doneProcess l n)) (hm : n * 8 ≤ m) (hj : j < n) (ht : l[j]? = some t) (f : Nat) (hf : f < 8) (v : Value)
    (hv : cellProcess [t'] f = some v) (ho : ∀ k, k < 8 → k ≠ f → cellProcess [t'] k = cellProcess [t] k) : Row (w.setCell ⟨g, j * 8 + f, none⟩ v) g m (doneProcess (l.set j t') n) := by
  refine (h.set (j * 8 + f) v).mono fun p u hp => ?_
  have hjl := (List.getElem?_eq_some_iff.1 ht).1
  simp only [doneProcess] at hp ⊢
  split at hp
  · rename_i hlt
    by_cases e : p = j * 8 + f
    · subst e
      rw [if_pos rfl, if_pos (by omega), ← hp]
      simp only [cellProcess] at hv ⊢
      rw [show (j * 8 + f) / 8 = j by omega, show (j * 8 + f) % 8 = f by omega, List.getElem?_set_self hjl]
      rw [show f / 8 = 0 by omega, show f % 8 = f by omega] at hv
      exact hv.symm
    · rw [if_neg e, if_pos hlt, ← hp]
      by_cases e2 : p / 8 = j
      · have hk := ho (p % 8) (by omega) (by omega)
        simp only [cellProcess] at hk ⊢
        rw [e2, ht, List.getElem?_set_self hjl]
        rw [show p % 8 / 8 = 0 by omega, show p % 8 % 8 = p % 8 by omega] at hk
        exact hk.symm
      · simp only [cellProcess]
        rw [List.getElem?_set_ne (fun x => e2 x.symm)]
  · cases hp
theorem row_end {w : World} {g n m j : Nat} {l : List Pcs} {t : Pcs} (h : Row w g m (doneProcess l n)) (hm : n * 8 ≤ m) (hj : j < n) (ht : l[j]? = some t) (b : Bool) :
    Row (w.setCell ⟨g, j * 8 + 6, none⟩ (.bool b)) g m (doneProcess (l.set j ⟨t.number, t.parent, t.real, t.acts, t.saved, t.groups, b, t.result⟩) n) :=
  row_setP h hm hj ht 6 (by omega) _ rfl fun k hk hne => by
    obtain rfl | rfl | rfl | rfl | rfl | rfl | rfl : k = 0 ∨ k = 1 ∨ k = 2 ∨ k = 3 ∨ k = 4 ∨ k = 5 ∨ k = 7 := by omega
    all_goals rfl
theorem row_res {w : World} {g n m j : Nat} {l : List Pcs} {t : Pcs} (h : Row w g m (doneProcess l n)) (hm : n * 8 ≤ m) (hj : j < n) (ht : l[j]? = some t) (x : Int) :
    Row (w.setCell ⟨g, j * 8 + 7, none⟩ (.int .i64 x)) g m (doneProcess (l.set j ⟨t.number, t.parent, t.real, t.acts, t.saved, t.groups, t.ended, x⟩) n) :=
  row_setP h hm hj ht 7 (by omega) _ rfl fun k hk hne => by
    obtain rfl | rfl | rfl | rfl | rfl | rfl | rfl : k = 0 ∨ k = 1 ∨ k = 2 ∨ k = 3 ∨ k = 4 ∨ k = 5 ∨ k = 6 := by omega
    all_goals rfl
theorem row_par {w : World} {g n m j : Nat} {l : List Pcs} {t : Pcs} (h : Row w g m (doneProcess l n)) (hm : n * 8 ≤ m) (hj : j < n) (ht : l[j]? = some t) (x : Int) :
    Row (w.setCell ⟨g, j * 8 + 1, none⟩ (.int .i64 x)) g m (doneProcess (l.set j ⟨t.number, x, t.real, t.acts, t.saved, t.groups, t.ended, t.result⟩) n) :=
  row_setP h hm hj ht 1 (by omega) _ rfl fun k hk hne => by
    obtain rfl | rfl | rfl | rfl | rfl | rfl | rfl : k = 0 ∨ k = 2 ∨ k = 3 ∨ k = 4 ∨ k = 5 ∨ k = 6 ∨ k = 7 := by omega
    all_goals rfl
/-- The first k were looked at. -/
def endU (q x : Int) (l : List Pcs) (k : Nat) : List Pcs := (l.take k).map (endT q x) ++ l.drop k
theorem endU_len (q x : Int) (l : List Pcs) (k : Nat) : (endU q x l k).length = l.length := by simp [endU]; omega
theorem endU_get {q x : Int} {l : List Pcs} {k j : Nat} (h : k ≤ j) : (endU q x l k)[j]? = l[j]? := by
  unfold endU
  by_cases hk : k ≤ l.length
  · rw [List.getElem?_append_right (by simp; omega)]
    simp only [List.length_map, List.length_take, Nat.min_eq_left hk, List.getElem?_drop]
    congr 1; omega
  · have h1 : l[j]? = none := List.getElem?_eq_none (by omega)
    rw [h1]; refine List.getElem?_eq_none ?_
    simp; omega
theorem endU_step {q x : Int} {l : List Pcs} {k : Nat} {t : Pcs} (h : l[k]? = some t) : (endU q x l k).set k (endT q x t) = endU q x l (k + 1) := by
  obtain ⟨hk, rfl⟩ := List.getElem?_eq_some_iff.1 h
  refine List.ext_getElem? fun i => ?_
  unfold endU
  rcases Nat.lt_trichotomy i k with hlt | rfl | hgt
  · rw [List.getElem?_set_ne (by omega), List.getElem?_append_left (by simp; omega), List.getElem?_append_left (by simp; omega)]
    simp [List.getElem?_take, hlt, show i < k + 1 by omega]
  · rw [List.getElem?_set_self (by simp; omega), List.getElem?_append_left (by simp; omega)]
    simp [List.getElem?_take, hk]
  · rw [List.getElem?_set_ne (by omega), List.getElem?_append_right (by simp; omega), List.getElem?_append_right (by simp; omega)]
    simp only [List.length_map, List.length_take, Nat.min_eq_left (show k ≤ l.length by omega), Nat.min_eq_left (show k + 1 ≤ l.length by omega), List.getElem?_drop]
    congr 1; omega
theorem endU_all (q x : Int) (l : List Pcs) : endU q x l l.length = l.map (endT q x) := by simp [endU]
theorem endU_zero (q x : Int) (l : List Pcs) : endU q x l 0 = l := by simp [endU]
end Go.Proofs.Ytlfchcjollcdhaa
