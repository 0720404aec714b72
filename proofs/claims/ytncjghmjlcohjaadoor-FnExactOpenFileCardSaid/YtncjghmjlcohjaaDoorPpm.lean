/-
  Paths: plain laws on the program's way to the names. No condition.
-/
import Derived.Test.YtncjghmjlcohjaaDoorProg
import Derived.Test.YtncjghmjlcohjaaDoorShf
import Derived.Test.YtncjghmjlcohjaaDoorPji
namespace Go.Proofs.YtncjghmjlcohjaaDoor
open Go.RowKit
set_option linter.unusedSimpArgs false
set_option linter.unusedVariables false

def cutR (s : ByteArray) : ByteArray := ⟨(Lib.trimPrefix s.data.toList [47]).toArray⟩
def hasS (s : ByteArray) : Bool := Lib.hasPrefix s.data.toList [47]
theorem hasS_iff {s : ByteArray} : hasS s = true ↔ ∃ r, s.data.toList = 47 :: r := by
  unfold hasS Lib.hasPrefix
  cases h : s.data.toList with
  | nil => simp [List.isPrefixOf]
  | cons c r =>
    simp [List.isPrefixOf]
    constructor <;> (intro e; exact e.symm)
theorem cut_true {s : ByteArray} (h : hasS s = true) : s.data.toList = 47 :: (cutR s).data.toList := by
  have h' := h
  obtain ⟨r, hr⟩ := hasS_iff.1 h
  unfold hasS at h'
  have : (cutR s).data.toList = Lib.trimPrefix s.data.toList [47] := rfl
  rw [this, Lib.trimPrefix, h', if_pos rfl, hr]
  rfl
theorem pp_slash {s : ByteArray} {l : List ByteArray} (h : IsPP s l) : hasS s = true := by
  rw [hasS_iff]
  rcases Classical.em (l = []) with h0 | h0
  · have := (pp_root h).1 h0
    exact ⟨[], by rw [this]⟩
  · have h1 := h.2 ▸ joinP_data h.1 h0
    rw [← join_slash _ (by simpa using h0)] at h1
    exact ⟨_, h1⟩
theorem has_false {s : ByteArray} (h : hasS s = false) : pathB s = false := pathB_no fun ⟨l, hl⟩ => by
  rw [pp_slash hl] at h; cases h
theorem pp_rest {s : ByteArray} (h : hasS s = true) (h0 : (cutR s).size = 0) : IsPP s [] := by
  refine ⟨⟨by simp, by simp⟩, ?_⟩
  rw [joinP_nil]
  refine ba_ext ?_
  rw [cut_true h, List.eq_nil_of_length_eq_zero (l := (cutR s).data.toList) (by rw [dlen]; exact h0)]
def spl (s : ByteArray) : List ByteArray := Lib.splitB ⟨#[47]⟩ 0 (min 7 ((cutR s).size + 1) - 1) (cutR s)
theorem spl_len (s : ByteArray) : (spl s).length ≤ 7 ∧ (spl s).length ≤ min 7 ((cutR s).size + 1) := by
  have := Lib.splitB_length_le ⟨#[47]⟩ 0 (min 7 ((cutR s).size + 1) - 1) (cutR s)
  unfold spl
  omega
theorem splitB_size (sep : ByteArray) : ∀ (k : Nat) (s : ByteArray), ∀ x ∈ Lib.splitB sep 0 k s, x.size ≤ s.size
  | 0, s, x, hx => by
    rw [Lib.splitB_zero] at hx
    simp at hx; subst hx; exact Nat.le_refl _
  | k + 1, s, x, hx => by
    unfold Lib.splitB at hx
    split at hx
    · simp at hx; subst hx; exact Nat.le_refl _
    · rcases List.mem_cons.1 hx with e | e
      · subst e; rw [ByteArray.size_extract]; omega
      · have := splitB_size sep k _ x e
        rw [ByteArray.size_extract] at this
        omega
theorem pp_split {s : ByteArray} {l : List ByteArray} (h : IsPP s l) (h0 : (cutR s).size ≠ 0) : spl s = l := by
  have h1 : l ≠ [] := by
    rintro rfl
    have e := cut_true (pp_slash h)
    rw [(pp_root h).1 rfl] at e
    have e1 := congrArg List.length e
    have e2 : (ByteArray.mk #[47]).data.toList.length = 1 := rfl
    rw [(pp_root h).1 rfl] at h0
    rw [e2, List.length_cons, dlen] at e1
    omega
  have hp := h.2 ▸ joinP_data h.1 h1
  rw [cut_true (pp_slash h), ← join_slash _ (by simpa using h1)] at hp
  have hj : (cutR s).data.toList = Lib.join (l.map (·.data.toList)) [47] := (List.cons.inj hp).2
  refine ba_inj ?_
  unfold spl
  rw [Lib.splitB_data, hj]
  have e1 : (ByteArray.mk #[47]).data.toList = [47] := rfl
  rw [e1]
  refine split_join _ _ (by simpa using h1) (fun p hp => by
    obtain ⟨q, hq, rfl⟩ := List.mem_map.1 hp
    exact nm_noslash (h.1.2 q hq)) ?_
  have hz : (cutR s).size = (Lib.join (l.map (·.data.toList)) [47]).length := by rw [← hj, dlen]
  obtain ⟨p, r, rfl⟩ : ∃ p r, l = p :: r := by cases l with | nil => exact absurd rfl h1 | cons p r => exact ⟨p, r, rfl⟩
  rw [List.map_cons, Lib.join_cons, List.length_append, Lib.joinTail_length, List.length_map] at hz
  have h6 := h.1.1
  simp only [List.length_cons, List.length_nil, List.length_map] at hz h6 ⊢
  omega
theorem spl_yes {s : ByteArray} (h : hasS s = true) (h1 : joinP (spl s) = s) : IsPP s (spl s) := by
  refine ⟨?_, h1⟩
  rcases Classical.em (PV (spl s)) with hv | hv
  · exact hv
  · exfalso
    rw [joinP_no hv] at h1
    obtain ⟨r, hr⟩ := hasS_iff.1 h
    rw [← h1] at hr
    cases hr
theorem spl_no {s : ByteArray} (h0 : (cutR s).size ≠ 0) (h1 : joinP (spl s) ≠ s) : pathB s = false := pathB_no fun ⟨l, hl⟩ => h1 (by rw [pp_split hl h0]; exact hl.2)
theorem cutR_size (s : ByteArray) : (cutR s).size ≤ s.size := by
  show (Lib.trimPrefix s.data.toList [47]).toArray.size ≤ s.data.toList.length
  rw [List.size_toArray, Lib.trimPrefix]
  split
  · simp
  · exact Nat.le_refl _
theorem cut_c (s : ByteArray) (w : World) : Calls Tryd.prog 42 #[.string s, .string ⟨#[47]⟩] w fun e w' => e = .returned (.tuple #[.string (cutR s), .bool (hasS s)]) ∧ w' = w := Tryd.strings_CutPrefix s ⟨#[47]⟩ w
/-- The library's own variable holds some number. -/
def MX (w : World) : Prop := ∃ m, w.cell? ⟨0, 0, none⟩ = some (.int .i64 m)
theorem MX.below {w w' : World} (h : MX w) (hb : Below w.heap.size w w') : MX w' := by
  obtain ⟨m, hm⟩ := h
  exact ⟨m, (hb.cell (p := ⟨0, 0, none⟩) (World.block_lt_of_cell? w _ hm)).trans hm⟩
theorem splN_c (s : ByteArray) (hs : s.size ≤ 1048576) (w : World) (hm : MX w) : Calls Tryd.prog 43 #[.string (cutR s), .string ⟨#[47]⟩, .int .i64 7] w fun e w' =>
    ∃ c, e = .returned (.slice (some ⟨w.heap.size, 0, none⟩) (spl s).length c) ∧ (spl s).length ≤ c ∧ RdString w' w.heap.size 0 (spl s) ∧ Below w.heap.size w w' := by
  obtain ⟨m, hm⟩ := hm
  have hz := cutR_size s
  refine (Tryd.strings_SplitN (cutR s) ⟨#[47]⟩ 7 m w (by omega) hm (by decide) (by decide) (by decide)).mono ?_
  rintro e w' ⟨rfl, rfl⟩
  refine ⟨_, rfl, (spl_len s).2, ⟨by simp, fun k x hx => ?_⟩, below_alloc0 (Below.refl _ _) _⟩
  have hk : (Lib.cellsOf (spl s) (min 7 ((cutR s).size + 1)))[0 + k]? = some (.string x) := by
    unfold Lib.cellsOf
    rw [Nat.zero_add, List.getElem?_toArray, List.getElem?_append_left (by rw [List.length_map]; exact (List.getElem?_eq_some_iff.1 hx).1), List.getElem?_map, hx]
    rfl
  exact (Row.made w _ _ (fun j => (Lib.cellsOf (spl s) (min 7 ((cutR s).size + 1)))[j]?) (fun _ _ h => h)).cell hk
end Go.Proofs.YtncjghmjlcohjaaDoor
