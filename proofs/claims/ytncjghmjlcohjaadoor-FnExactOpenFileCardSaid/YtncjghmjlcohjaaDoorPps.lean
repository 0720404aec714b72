/-
  PathParts of the reference. No condition.
-/
import Derived.Test.YtncjghmjlcohjaaDoorProg
import Derived.Test.YtncjghmjlcohjaaDoorPpi
import Derived.Test.YtncjghmjlcohjaaDoorOwn
namespace Go.Proofs.YtncjghmjlcohjaaDoor
open Go.RowKit
set_option linter.unusedSimpArgs false
set_option linter.unusedVariables false

theorem own_set1 {w : World} {base : Nat} {e : TypeId} {g cap n : Nat} {xs : List Value} (h : w.ownsRow base e 1 (.slice (some ⟨g, 0, none⟩) n cap) n xs) (i : Nat) (u : Value) :
    (w.setCell ⟨g, i, none⟩ u).ownsRow base e 1 (.slice (some ⟨g, 0, none⟩) n cap) n (xs.set i u) := by
  refine ⟨by rw [List.length_set]; exact h.1, ?_⟩
  rcases h.2 with ⟨h2, _⟩ | ⟨g', cap', cur, hv, hg, hh, hnc, hcm, hcs, ht⟩
  · cases h2
  · obtain ⟨rfl, rfl⟩ : g = g' ∧ cap = cap' := by simpa using hv
    refine .inr ⟨g, cap, cur.setIfInBounds i u, rfl, hg, ?_, hnc, hcm, by simpa using hcs, ?_⟩
    · simp [World.setCell, Array.getElem?_modify, hh]
    · rw [← ht, Array.toList_setIfInBounds, List.take_set]
theorem own_cell1 {w : World} {base : Nat} {e : TypeId} {g cap n : Nat} {xs : List Value} (h : w.ownsRow base e 1 (.slice (some ⟨g, 0, none⟩) n cap) n xs) :
    base ≤ g ∧ g < w.heap.size ∧ n ≤ cap ∧ (∀ (j : Nat) (u : Value), xs[j]? = some u → w.cell? ⟨g, j, none⟩ = some u) ∧ ∀ j, w.frozen? ⟨g, j, none⟩ = false := by
  rcases h.2 with ⟨h2, _⟩ | ⟨g', cap', cur, hv, hg, hh, hnc, hcm, hcs, ht⟩
  · cases h2
  · obtain ⟨rfl, rfl⟩ : g = g' ∧ cap = cap' := by simpa using hv
    have hr : Row w g cur.size (fun j => xs[j]?) := ⟨cur, e, hh, rfl, fun j u hj => by
      dsimp only at hj
      rw [← ht, List.getElem?_take] at hj
      split at hj
      · simpa using hj
      · cases hj⟩
    exact ⟨hg, hr.lt, hnc, fun j u hj => hr.cell hj, fun j => hr.frozen j⟩
def stepB (out : List ByteArray) (c : UInt8) (x : ByteArray) : List ByteArray :=
  if c = 47 then out ++ [⟨#[]⟩] else if out.length = 0 then out else out.set (out.length - 1) (out.getLastD ⟨#[]⟩ ++ x)
def scB (s : ByteArray) : Nat → List ByteArray
  | 0 => []
  | k + 1 => if h : k < s.size then stepB (scB s k) (s[k]'h) (s.extract k (k + 1)) else scB s k
theorem set_last {α : Type} {l : List α} (h : l.length ≠ 0) (x : α) : l.set (l.length - 1) x = l.dropLast ++ [x] := by
  have h0 : l ≠ [] := by simpa using h
  obtain ⟨a, b, rfl⟩ : ∃ a b, l = a ++ [b] := ⟨_, _, (List.dropLast_concat_getLast h0).symm⟩
  simp
theorem scB_data (s : ByteArray) : ∀ k, k ≤ s.size → (scB s k).map (·.data.toList) = (s.data.toList.take k).foldl stepL []
  | 0, _ => rfl
  | k + 1, hk => by
    have ih := scB_data s k (by omega)
    have hlt : k < s.size := by omega
    have hk' : s.data.toList[k]? = some (s[k]'hlt) := by
      rw [List.getElem?_eq_getElem (by rw [dlen]; exact hlt)]
      simp [ByteArray.getElem_eq_getElem_data]
    have hx : (s.extract k (k + 1)).data.toList = [s[k]'hlt] := by
      rw [ByteArray.data_extract, Array.toList_extract]
      simp only [List.extract_eq_take_drop, Nat.add_sub_cancel_left]
      rw [List.take_one, List.head?_drop, hk']
      rfl
    rw [List.take_add_one, hk', Option.toList_some, List.foldl_append, List.foldl_cons, List.foldl_nil, ← ih]
    simp only [scB, dif_pos hlt, stepB, stepL]
    generalize scB s k = out
    by_cases hc : s[k]'hlt = 47
    · rw [if_pos hc, if_pos hc]
      simp
    · rw [if_neg hc, if_neg hc]
      by_cases h0 : out.length = 0
      · rw [if_pos h0, if_pos (by simpa using h0)]
        simpa using h0
      · rw [if_neg h0, if_neg (by simpa using h0), set_last h0]
        have hne : out ≠ [] := by simpa using h0
        obtain ⟨a, b, rfl⟩ : ∃ a b, out = a ++ [b] := ⟨_, _, (List.dropLast_concat_getLast hne).symm⟩
        simp only [List.map_append, List.map_cons, List.map_nil, List.dropLast_concat, List.getLastD_concat, ByteArray.data_append, Array.toList_append, hx]
theorem scB_len (s : ByteArray) : ∀ k, (scB s k).length ≤ k
  | 0 => Nat.le_refl _
  | k + 1 => by
    have := scB_len s k
    simp only [scB, stepB]
    split
    · split
      · simp; omega
      · split
        · omega
        · simp; omega
    · omega
theorem scB_size (s : ByteArray) : ∀ k, ∀ x ∈ scB s k, x.size ≤ k
  | 0, x, hx => by simp [scB] at hx
  | k + 1, x, hx => by
    have ih := scB_size s k
    have e0 : (ByteArray.mk #[]).size = 0 := rfl
    simp only [scB, stepB] at hx
    split at hx
    · split at hx
      · rcases List.mem_append.1 hx with h | h
        · have := ih x h; omega
        · simp at h; subst h; exact Nat.zero_le _
      · split at hx
        · have := ih x hx; omega
        · rename_i hlt hc h0
          rw [set_last h0] at hx
          rcases List.mem_append.1 hx with h | h
          · have := ih x (List.dropLast_subset _ h); omega
          · simp at h; subst h
            have hne : scB s k ≠ [] := by simpa using h0
            have hq : ∀ y, (scB s k).getLast? = some y → y.size ≤ k := fun y hy => ih y (List.mem_of_getLast? hy)
            rw [ByteArray.size_append, ByteArray.size_extract]
            cases hl : (scB s k).getLast? with
            | none => rw [List.getLast?_eq_none_iff] at hl; exact absurd hl hne
            | some y =>
              have := hq y hl
              simp only [Option.getD_some]
              omega
    · have := ih x hx; omega
theorem scB_pp {s : ByteArray} {l : List ByteArray} (h : IsPP s l) (h1 : s ≠ ⟨#[47]⟩) : scB s s.size = l := by
  have h0 : l ≠ [] := fun e => h1 ((pp_root h).1 e)
  refine ba_inj ?_
  rw [scB_data s s.size (Nat.le_refl _), ← dlen, List.take_length, pp_scan h h0]
theorem scB_yes {s : ByteArray} (h0 : s.size ≠ 0) (h : joinP (scB s s.size) = s) : IsPP s (scB s s.size) := by
  refine ⟨?_, h⟩
  rcases Classical.em (PV (scB s s.size)) with hv | hv
  · exact hv
  · exfalso
    rw [joinP_no hv] at h
    rw [← h] at h0
    exact h0 rfl
theorem scB_no {s : ByteArray} (h1 : s ≠ ⟨#[47]⟩) (h : joinP (scB s s.size) ≠ s) : pathB s = false := pathB_no fun ⟨l, hl⟩ => h (by rw [scB_pp hl h1]; exact hl.2)
end Go.Proofs.YtncjghmjlcohjaaDoor
