/-
  Paths: plain laws on the names of a path, joined and split. No condition.
-/
import Derived.Test.YtncjghmjlcohjaaDoorBase
import Derived.Test.YtncjghmjlcohjaaDoorNam
import Derived.Lib.Split
import Derived.Lib.Join
import Derived.Lib.Index
import Derived.Lib.IndexMore
namespace Go.Proofs.YtncjghmjlcohjaaDoor
open Go.RowKit
set_option linter.unusedSimpArgs false
set_option linter.unusedVariables false

theorem ba_ext {a b : ByteArray} (h : a.data.toList = b.data.toList) : a = b := by
  cases a; cases b
  congr 1
  exact Array.ext' h
theorem ba_inj : ∀ {l m : List ByteArray}, l.map (·.data.toList) = m.map (·.data.toList) → l = m
  | [], [], _ => rfl
  | [], _ :: _, h => by simp at h
  | _ :: _, [], h => by simp at h
  | a :: l, b :: m, h => by
    simp only [List.map_cons, List.cons.injEq] at h
    rw [ba_ext h.1, ba_inj h.2]
theorem dlen (p : ByteArray) : p.data.toList.length = p.size := rfl
/-- The bytes of names, each behind a slash. -/
def pathL (ps : List (List UInt8)) : List UInt8 := ps.flatMap fun p => 47 :: p
def catK (l : List ByteArray) : Nat → ByteArray
  | 0 => ⟨#[]⟩
  | k + 1 => match l[k]? with | some p => catK l k ++ ⟨#[47]⟩ ++ p | none => catK l k
theorem catK_data (l : List ByteArray) : ∀ k, (catK l k).data.toList = pathL ((l.take k).map (·.data.toList))
  | 0 => by simp [catK, pathL]
  | k + 1 => by
    rw [List.take_add_one]
    cases h : l[k]? with
    | none => simp only [catK, h]; rw [catK_data l k]; simp
    | some p =>
      simp only [catK, h, ByteArray.data_append, Array.toList_append]
      rw [catK_data l k]
      simp [pathL]
/-- At most six valid names. -/
def PV (l : List ByteArray) : Prop := l.length ≤ 6 ∧ ∀ p ∈ l, NM p
noncomputable def pvB (l : List ByteArray) : Bool := @decide (PV l) (Classical.propDecidable _)
theorem pvB_iff {l : List ByteArray} : pvB l = true ↔ PV l := by unfold pvB; exact @decide_eq_true_iff _ (Classical.propDecidable _)
theorem pvB_no {l : List ByteArray} (h : ¬ PV l) : pvB l = false := by rw [← Bool.not_eq_true, pvB_iff]; exact h
/-- What both JoinPath give. -/
noncomputable def joinP (l : List ByteArray) : ByteArray := bif pvB l then (if l.length = 0 then ⟨#[47]⟩ else catK l l.length) else ⟨#[]⟩
theorem joinP_no {l : List ByteArray} (h : ¬ PV l) : joinP l = ⟨#[]⟩ := by rw [joinP, pvB_no h]; rfl
theorem joinP_yes {l : List ByteArray} (h : PV l) : joinP l = if l.length = 0 then ⟨#[47]⟩ else catK l l.length := by rw [joinP, pvB_iff.2 h]; rfl
theorem joinP_nil : joinP [] = ⟨#[47]⟩ := by rw [joinP_yes ⟨Nat.zero_le _, fun p h => absurd h (by simp)⟩]; rfl
theorem joinP_data {l : List ByteArray} (h : PV l) (h0 : l ≠ []) : (joinP l).data.toList = pathL (l.map (·.data.toList)) := by
  rw [joinP_yes h, if_neg (by simpa using h0), catK_data, List.take_length]
/-- The bytes before the name k are few. -/
theorem catK_size {l : List ByteArray} (h : ∀ p ∈ l, p.size ≤ 8) : ∀ k, (catK l k).size ≤ 9 * k
  | 0 => by show (ByteArray.mk #[]).size ≤ 0; exact Nat.le_refl 0
  | k + 1 => by
    have := catK_size h k
    cases hk : l[k]? with
    | none => simp only [catK, hk]; omega
    | some p =>
      have := h p (List.mem_of_getElem? hk)
      simp only [catK, hk, ByteArray.size_append]
      have e : (ByteArray.mk #[47]).size = 1 := rfl
      omega
/-- The program's way: a slash, then the names with slashes between. -/
theorem join_slash (ps : List (List UInt8)) (h0 : ps ≠ []) : 47 :: Lib.join ps [47] = pathL ps := by
  obtain ⟨p, r, rfl⟩ : ∃ p r, ps = p :: r := by cases ps with | nil => exact absurd rfl h0 | cons p r => exact ⟨p, r, rfl⟩
  rw [Lib.join_cons]
  simp [pathL, Lib.joinTail, List.flatMap]
theorem joinP_impl {l : List ByteArray} (h : PV l) : (⟨#[47]⟩ : ByteArray) ++ ⟨(Lib.join (l.map (·.data.toList)) [47]).toArray⟩ = joinP l := by
  refine ba_ext ?_
  by_cases h0 : l = []
  · subst h0
    rw [joinP_nil]
    rfl
  · rw [joinP_data h h0, ByteArray.data_append, Array.toList_append, ← join_slash _ (by simpa using h0)]
    rfl
/-- A name holds no slash and is not empty. -/
theorem nm_noslash {p : ByteArray} (h : NM p) : (47 : UInt8) ∉ p.data.toList := by
  intro hm
  obtain ⟨i, hi, he⟩ := List.getElem_of_mem hm
  have hi' : i < p.size := by rw [← dlen]; exact hi
  have h1 := h.1 i hi' hi'
  have e : p[i]'hi' = 47 := by rw [← he]; simp [ByteArray.getElem_eq_getElem_data]
  rw [e] at h1
  revert h1
  unfold chB
  simp
theorem nm_pos {p : ByteArray} (h : NM p) : 1 ≤ p.data.toList.length := by rw [dlen]; exact h.2.1
/-- The reference's scan. -/
def stepL (out : List (List UInt8)) (c : UInt8) : List (List UInt8) := if c = 47 then out ++ [[]] else if out = [] then [] else out.dropLast ++ [out.getLastD [] ++ [c]]
theorem step_name (p : List UInt8) (h : (47 : UInt8) ∉ p) (acc : List (List UInt8)) (q : List UInt8) : p.foldl stepL (acc ++ [q]) = acc ++ [q ++ p] := by
  induction p generalizing q with
  | nil => simp
  | cons c r ih =>
    have hc : ¬ c = 47 := fun e => h (by simp [e])
    have hr : (47 : UInt8) ∉ r := fun e => h (by simp [e])
    rw [List.foldl_cons]
    have : stepL (acc ++ [q]) c = acc ++ [q ++ [c]] := by
      rw [stepL, if_neg hc, if_neg (by simp)]
      simp
    rw [this, ih hr]
    simp
theorem scan_path (ps : List (List UInt8)) (h : ∀ p ∈ ps, (47 : UInt8) ∉ p) (acc : List (List UInt8)) : (pathL ps).foldl stepL acc = acc ++ ps := by
  induction ps generalizing acc with
  | nil => simp [pathL]
  | cons p r ih =>
    have e : pathL (p :: r) = 47 :: (p ++ pathL r) := by simp [pathL]
    rw [e, List.foldl_cons, List.foldl_append]
    have : stepL acc 47 = acc ++ [[]] := by rw [stepL, if_pos rfl]
    rw [this, step_name p (h p (by simp)), ih (fun q hq => h q (by simp [hq]))]
    simp
/-- The names of a path. -/
def IsPP (s : ByteArray) (l : List ByteArray) : Prop := PV l ∧ joinP l = s
noncomputable def pathB (s : ByteArray) : Bool := @decide (∃ l, IsPP s l) (Classical.propDecidable _)
theorem pathB_iff {s : ByteArray} : pathB s = true ↔ ∃ l, IsPP s l := by unfold pathB; exact @decide_eq_true_iff _ (Classical.propDecidable _)
theorem pathB_no {s : ByteArray} (h : ¬ ∃ l, IsPP s l) : pathB s = false := by rw [← Bool.not_eq_true, pathB_iff]; exact h
theorem pp_scan {s : ByteArray} {l : List ByteArray} (h : IsPP s l) (h0 : l ≠ []) : s.data.toList.foldl stepL [] = l.map (·.data.toList) := by
  rw [← h.2, joinP_data h.1 h0, scan_path _ (fun p hp => by
    obtain ⟨q, hq, rfl⟩ := List.mem_map.1 hp
    exact nm_noslash (h.1.2 q hq))]
  simp
theorem pp_root {s : ByteArray} {l : List ByteArray} (h : IsPP s l) : l = [] ↔ s = ⟨#[47]⟩ := by
  constructor
  · rintro rfl; rw [← h.2, joinP_nil]
  · intro hs
    rcases Classical.em (l = []) with h0 | h0
    · exact h0
    · exfalso
      have := h.2 ▸ joinP_data h.1 h0
      obtain ⟨p, r, rfl⟩ : ∃ p r, l = p :: r := by cases l with | nil => exact absurd rfl h0 | cons p r => exact ⟨p, r, rfl⟩
      rw [hs] at this
      have hp := nm_pos (h.1.2 p (by simp))
      simp only [pathL, List.map_cons, List.flatMap_cons] at this
      have e := congrArg List.length this
      have e1 : (ByteArray.mk #[47]).data.toList.length = 1 := rfl
      rw [e1] at e
      simp only [List.length_append, List.length_cons] at e
      omega
theorem pp_uniq {s : ByteArray} {l m : List ByteArray} (h : IsPP s l) (h' : IsPP s m) : l = m := by
  rcases Classical.em (l = []) with h0 | h0
  · rw [h0, (pp_root h').2 ((pp_root h).1 h0)]
  · have h1 : m ≠ [] := fun e => h0 ((pp_root h).2 ((pp_root h').1 e))
    exact ba_inj ((pp_scan h h0).symm.trans (pp_scan h' h1))
theorem pp_ne {s : ByteArray} {l : List ByteArray} (h : IsPP s l) : s.size ≠ 0 := by
  intro hs
  have e : s = ⟨#[]⟩ := by
    refine ba_ext ?_
    have : s.data.toList.length = 0 := by rw [dlen]; exact hs
    exact List.eq_nil_of_length_eq_zero this
  rcases Classical.em (l = []) with h0 | h0
  · have := (pp_root h).1 h0
    rw [e] at this
    cases this
  · have := h.2 ▸ joinP_data h.1 h0
    obtain ⟨p, r, rfl⟩ : ∃ p r, l = p :: r := by cases l with | nil => exact absurd rfl h0 | cons p r => exact ⟨p, r, rfl⟩
    rw [e] at this
    have e2 := congrArg List.length this
    have e1 : (ByteArray.mk #[]).data.toList.length = 0 := rfl
    rw [e1] at e2
    simp only [pathL, List.map_cons, List.flatMap_cons, List.length_append, List.length_cons] at e2
    omega
/-- Splitting at slashes. -/
theorem occ_slash (s : List UInt8) (i : Nat) : Lib.occAt s [47] i = (s[i]? == some 47) := by
  unfold Lib.occAt
  cases h : s.drop i with
  | nil =>
    have : s[i]? = none := by rw [List.getElem?_eq_none]; simpa using h
    rw [this]; rfl
  | cons c r =>
    have : s[i]? = some c := by
      have := congrArg (·[0]?) h
      simpa using this
    rw [this]
    simp [List.isPrefixOf]
    exact Bool.beq_comm
theorem index_slash {p r : List UInt8} (h : (47 : UInt8) ∉ p) : Lib.index (p ++ 47 :: r) [47] = p.length := by
  refine Lib.index_first (by simp) ?_ ?_
  · rw [occ_slash]; simp
  · intro j hj
    rw [occ_slash, List.getElem?_append_left hj, List.getElem?_eq_getElem hj]
    simp only [beq_eq_false_iff_ne, ne_eq, Option.some.injEq]
    exact fun e => h (e ▸ List.getElem_mem hj)
theorem index_noslash {p : List UInt8} (h : (47 : UInt8) ∉ p) : Lib.index p [47] = -1 := by
  refine Lib.index_none fun j hj => ?_
  rw [occ_slash]
  rcases Nat.lt_or_ge j p.length with hlt | hge
  · rw [List.getElem?_eq_getElem hlt]
    simp only [beq_eq_false_iff_ne, ne_eq, Option.some.injEq]
    exact fun e => h (e ▸ List.getElem_mem hlt)
  · rw [List.getElem?_eq_none hge]; rfl
theorem split_join : ∀ (ps : List (List UInt8)) (k : Nat), ps ≠ [] → (∀ p ∈ ps, (47 : UInt8) ∉ p) → ps.length ≤ k + 1 → Lib.splitK [47] 0 k (Lib.join ps [47]) = ps
  | [], _, h, _, _ => absurd rfl h
  | [p], k, _, h, _ => by
    rw [Lib.join_one]
    cases k with
    | zero => rfl
    | succ k => rw [Lib.splitK, if_pos (by rw [index_noslash (h p (by simp))]; rfl)]
  | p :: q :: r, k, _, h, hk => by
    obtain ⟨k', rfl⟩ : ∃ k', k = k' + 1 := ⟨k - 1, by simp at hk; omega⟩
    have e : Lib.join (p :: q :: r) [47] = p ++ 47 :: Lib.join (q :: r) [47] := by
      rw [Lib.join_cons, Lib.join_cons]; simp [Lib.joinTail]
    rw [Lib.splitK, e, index_slash (h p (by simp)), if_neg (by simp)]
    rw [Int.toNat_natCast]
    have e1 : (p ++ 47 :: Lib.join (q :: r) [47]).take (p.length + 0) = p := by simp
    have e2 : (p ++ 47 :: Lib.join (q :: r) [47]).drop (p.length + ([47] : List UInt8).length) = Lib.join (q :: r) [47] := by
      rw [show p.length + ([47] : List UInt8).length = p.length + 1 from rfl, ← List.drop_drop]; simp
    rw [e1, e2, split_join (q :: r) k' (by simp) (fun x hx => h x (by simp [hx])) (by simp at hk ⊢; omega)]
end Go.Proofs.YtncjghmjlcohjaaDoor
