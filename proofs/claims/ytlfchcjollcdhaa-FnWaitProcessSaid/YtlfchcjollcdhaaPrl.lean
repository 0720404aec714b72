/-
  Plain laws of processes. No condition.
-/
import Derived.Test.YtlfchcjollcdhaaProg
import Derived.Test.YtlfchcjollcdhaaPre
import Derived.Test.YtlfchcjollcdhaaPrw
namespace Go.Proofs.Ytlfchcjollcdhaa
open Go.RowKit
set_option linter.unusedSimpArgs false
set_option linter.unusedVariables false

theorem runsB_get {l : List Pcs} {p : Int} (h : runsB l p = true) : ∃ (k : Nat) (u : Pcs), l[k]? = some u ∧ u.number = p ∧ u.ended = false := by
  unfold runsB at h
  split at h
  · rename_i u hu
    obtain ⟨hy, k, hk, he, _⟩ := List.find?_eq_some_iff_getElem.1 hu
    exact ⟨k, u, by rw [List.getElem?_eq_getElem hk, he], by simpa [isN] using hy, by simpa using h⟩
  · cases h
theorem runsB_of {l : List Pcs} {p : Int} {k : Nat} {u : Pcs} (hk : l[k]? = some u) (hn : u.number = p) (ha : ∀ (i : Nat) (v : Pcs), l[i]? = some v → v.number = p → v.ended = false) : runsB l p = true := by
  unfold runsB
  cases hf : l.find? (isN p) with
  | none =>
    rw [List.find?_eq_none] at hf
    exact absurd (show isN p u = true by simp [isN, hn]) (hf u (List.mem_of_getElem? hk))
  | some v =>
    obtain ⟨hy, i, hi, he, _⟩ := List.find?_eq_some_iff_getElem.1 hf
    have := ha i v (by rw [List.getElem?_eq_getElem hi, he]) (by simpa [isN] using hy)
    simp [this]
theorem PV.runs1 {l : List Pcs} (h : PV l) {p : Int} (hp : runsB l p = true) (i : Nat) (v : Pcs) (hv : l[i]? = some v) (hn : v.number = p) : v.ended = false := by
  obtain ⟨k, u, hu, hun, hue⟩ := runsB_get hp
  obtain rfl := h.uniq hv hu (by omega)
  obtain rfl := Option.some.inj (hv.symm.trans hu)
  exact hue
theorem PV.ok {l : List Pcs} (h : PV l) {i : Nat} {t : Pcs} (ht : l[i]? = some t) : POk l i t := h.1 i t (List.getElem?_eq_some_iff.1 ht).1 ht
theorem PV.num {l : List Pcs} (h : PV l) {i : Nat} {t : Pcs} (ht : l[i]? = some t) : 1 ≤ t.number ∧ t.number ≤ 99 := inB_iff.1 (h.ok ht).1
theorem fork_get {l : List Pcs} {q : Int} {p : Pcs} (hf : forkF l q = some p) : ∃ (s : Pcs) (k : Nat) (t : Pcs), l[l.length - 1]? = some s ∧ l[k]? = some t ∧ t.number = q ∧ t.ended = false ∧ l.length ≠ 10 ∧ s.number + 1 ≤ 99 ∧ p = ⟨s.number + 1, q, t.real, t.acts, t.saved, t.groups, false, 0⟩ := by
  unfold forkF at hf
  split at hf
  · rename_i s t hs ht
    obtain ⟨hy, k, hk, he, _⟩ := List.find?_eq_some_iff_getElem.1 ht
    split at hf
    · rename_i hc
      exact ⟨s, k, t, hs, by rw [List.getElem?_eq_getElem hk, he], by simpa [isN] using hy, hc.1, hc.2.1, hc.2.2, (Option.some.inj hf).symm⟩
    · cases hf
  · cases hf
theorem fork_new {l : List Pcs} {q : Int} {p : Pcs} (h : PV l) (hf : forkF l q = some p) (i : Nat) (v : Pcs) (hv : l[i]? = some v) : v.number < p.number := by
  obtain ⟨s, k, t, hs, ht, htn, hte, h10, h99, rfl⟩ := fork_get hf
  have hi := (List.getElem?_eq_some_iff.1 hv).1
  show v.number < s.number + 1
  rcases Nat.lt_or_ge i (l.length - 1) with hlt | hge
  · have := h.asc hv hs hlt; omega
  · obtain rfl : i = l.length - 1 := by omega
    obtain rfl := Option.some.inj (hv.symm.trans hs)
    omega
theorem PV.fork1 {l : List Pcs} {q : Int} {p : Pcs} (h : PV l) (hf : forkF l q = some p) : PV (l ++ [p]) := by
  have hnew := fork_new h hf
  obtain ⟨s, k, t, hs, ht, htn, hte, h10, h99, rfl⟩ := fork_get hf
  have hkl := (List.getElem?_eq_some_iff.1 ht).1
  have hrun : ∀ {r : Int}, runsB l r = true → runsB (l ++ [⟨s.number + 1, q, t.real, t.acts, t.saved, t.groups, false, 0⟩]) r = true := by
    intro r hr
    obtain ⟨k', u, hu, hun, _⟩ := runsB_get hr
    have hk' := (List.getElem?_eq_some_iff.1 hu).1
    refine runsB_of (k := k') (u := u) (by rw [List.getElem?_append_left hk']; exact hu) hun fun i v hv hvn => ?_
    rcases Nat.lt_or_ge i l.length with hlt | hge
    · rw [List.getElem?_append_left hlt] at hv
      exact h.runs1 hr i v hv hvn
    · rw [List.getElem?_append_right hge] at hv
      obtain ⟨_, hx⟩ := List.getElem?_eq_some_iff.1 hv
      simp at hx
      rw [← hx]
  have hq : runsB l q = true := runsB_of ht htn fun i v hv hvn => by
    obtain rfl := h.uniq hv ht (by omega)
    obtain rfl := Option.some.inj (hv.symm.trans ht)
    exact hte
  refine ⟨fun i v hi hv => ?_, by simp, by simp; have := h.2.2.1; omega, ?_⟩
  · rcases Nat.lt_or_ge i l.length with hlt | hge
    · rw [List.getElem?_append_left hlt] at hv
      obtain ⟨a1, a2, a3, a4, a5, a6⟩ := h.ok hv
      exact ⟨a1, fun h0 s' hs' => a2 h0 s' (by rw [List.getElem?_append_left (by omega)] at hs'; exact hs'), a3, a4, a5, fun h0 => ⟨hrun (a6 h0).1, (a6 h0).2⟩⟩
    · rw [List.getElem?_append_right hge] at hv
      obtain ⟨hx0, hx⟩ := List.getElem?_eq_some_iff.1 hv
      simp at hx hx0
      obtain rfl : i = l.length := by omega
      subst hx
      have hsn := h.num hs
      refine ⟨inB_iff.2 ⟨by show 1 ≤ s.number + 1; omega, h99⟩, fun h0 s' hs' => ?_, (h.ok ht).2.2.1, by show inB 0 0 255 = true; decide, fun _ => rfl, fun h0 => ⟨hrun hq, ?_⟩⟩
      · rw [List.getElem?_append_left (by omega)] at hs'
        exact hnew _ _ hs'
      · show q ≠ s.number + 1
        have := hnew _ _ ht
        simp only at this
        omega
  · obtain ⟨t0, h0, h1⟩ := h.2.2.2
    exact ⟨t0, by rw [List.getElem?_append_left h.2.1]; exact h0, h1⟩
theorem PV.fork {l : List Pcs} (h : PV l) (q : Int) : PV (forkL l q) := by
  have hb := procsB_iff.2 h
  cases hf : forkF l q with
  | none => rw [(fork_no hb hf).1]; exact h
  | some p => rw [(fork_yes hb hf).1]; exact h.fork1 hf
theorem endT_n (q x : Int) (t : Pcs) : (endT q x t).number = t.number := by unfold endT; split <;> (try split) <;> rfl
theorem endT_e {q x : Int} {t : Pcs} (h : t.number ≠ q) : (endT q x t).ended = t.ended := by unfold endT; rw [if_neg h]; split <;> rfl
theorem endT_c (q x : Int) (t : Pcs) : (endT q x t).real = t.real ∧ (endT q x t).acts = t.acts ∧ (endT q x t).saved = t.saved ∧ (endT q x t).groups = t.groups := by unfold endT; split <;> (try split) <;> exact ⟨rfl, rfl, rfl, rfl⟩
theorem end_parts {l : List Pcs} {q x : Int} (h : endB l q x = true) : q ≠ 1 ∧ runsB l q = true ∧ 0 ≤ x ∧ x ≤ 255 := by
  simp only [endB, Bool.and_eq_true, Bool.not_eq_true'] at h
  refine ⟨by simpa using h.1, h.2.1, inB_iff.1 h.2.2⟩
theorem PV.end1 {l : List Pcs} {q x : Int} (h : PV l) (he : endB l q x = true) : PV (l.map (endT q x)) := by
  obtain ⟨hq1, hqr, hx0, hx1⟩ := end_parts he
  have hget : ∀ {i : Nat} {v : Pcs}, (l.map (endT q x))[i]? = some v → ∃ t, l[i]? = some t ∧ v = endT q x t := by
    intro i v hv
    rw [List.getElem?_map] at hv
    cases ht : l[i]? with
    | none => rw [ht] at hv; cases hv
    | some t => rw [ht] at hv; exact ⟨t, rfl, (Option.some.inj hv).symm⟩
  have hrun : ∀ {r : Int}, r ≠ q → runsB l r = true → runsB (l.map (endT q x)) r = true := by
    intro r hr hrr
    obtain ⟨k, u, hu, hun, _⟩ := runsB_get hrr
    refine runsB_of (k := k) (u := endT q x u) (by rw [List.getElem?_map, hu]; rfl) (by rw [endT_n]; exact hun) fun i v hv hvn => ?_
    obtain ⟨t, ht, rfl⟩ := hget hv
    rw [endT_n] at hvn
    rw [endT_e (by omega)]
    exact h.runs1 hrr i t ht hvn
  obtain ⟨t0, h0, h01, h0p, h0e⟩ := h.2.2.2
  have hr1 : runsB l 1 = true := runsB_of h0 h01 fun i v hv hvn => by
    obtain rfl := h.uniq hv h0 (by omega)
    obtain rfl := Option.some.inj (hv.symm.trans h0)
    exact h0e
  have hqn : 1 ≤ q := by
    obtain ⟨k, u, hu, hun, _⟩ := runsB_get hqr
    have := h.num hu; omega
  refine ⟨fun i v hi hv => ?_, by simpa using h.2.1, by simpa using h.2.2.1, ?_⟩
  · obtain ⟨t, ht, rfl⟩ := hget hv
    obtain ⟨a1, a2, a3, a4, a5, a6⟩ := h.ok ht
    obtain ⟨c1, c2, c3, c4⟩ := endT_c q x t
    refine ⟨by rw [endT_n]; exact a1, fun hp s hs => ?_, by rw [c1, c2, c3, c4]; exact a3, ?_, ?_, fun hp => ?_⟩
    · obtain ⟨s', hs', rfl⟩ := hget hs
      rw [endT_n, endT_n]
      exact a2 hp s' hs'
    · unfold endT; split
      · exact inB_iff.2 ⟨hx0, hx1⟩
      · split <;> exact a4
    · unfold endT; split
      · intro hh; cases hh
      · split <;> exact a5
    · rw [endT_n]
      obtain ⟨b1, b2⟩ := a6 hp
      unfold endT; split
      · rename_i hn
        exact ⟨hrun (by show t.parent ≠ q; omega) b1, b2⟩
      · split
        · refine ⟨hrun (fun e => hq1 e.symm) hr1, fun e => ?_⟩
          have := (h.place1 ht).1 e.symm
          omega
        · rename_i hn hpq
          exact ⟨hrun hpq b1, b2⟩
  · refine ⟨endT q x t0, by rw [List.getElem?_map, h0]; rfl, by rw [endT_n]; exact h01, ?_, by rw [endT_e (by omega)]; exact h0e⟩
    unfold endT
    rw [if_neg (by omega), if_neg (by omega)]
    exact h0p
theorem PV.endl {l : List Pcs} (h : PV l) (q x : Int) : PV (endL l q x) := by
  have hb := procsB_iff.2 h
  cases he : endB l q x with
  | false => rw [(end_no hb he).1]; exact h
  | true => rw [(end_yes hb he).1]; exact h.end1 he
theorem erase_get {l : List Pcs} {j i : Nat} {v : Pcs} (hv : (l.eraseIdx j)[i]? = some v) : ∃ k, l[k]? = some v ∧ k ≠ j ∧ k = if i < j then i else i + 1 := by
  rw [List.getElem?_eraseIdx] at hv
  split at hv
  · rename_i hlt; exact ⟨i, hv, by omega, by rw [if_pos hlt]⟩
  · rename_i hlt; exact ⟨i + 1, hv, by omega, by rw [if_neg hlt]⟩
theorem erase_put {l : List Pcs} {j k : Nat} {v : Pcs} (hv : l[k]? = some v) (hk : k ≠ j) : ∃ i : Nat, (l.eraseIdx j)[i]? = some v := by
  rcases Nat.lt_or_ge k j with hlt | hge
  · exact ⟨k, by rw [List.getElem?_eraseIdx, if_pos hlt]; exact hv⟩
  · exact ⟨k - 1, by rw [List.getElem?_eraseIdx, if_neg (by omega), show k - 1 + 1 = k by omega]; exact hv⟩
theorem wait_get {l : List Pcs} {q : Int} {j : Nat} (hf : l.findIdx? (isW q) = some j) : ∃ t, l[j]? = some t ∧ t.ended = true ∧ t.parent = q := by
  obtain ⟨hj, hy, _⟩ := List.findIdx?_eq_some_iff_getElem.1 hf
  refine ⟨l[j], List.getElem?_eq_getElem hj, ?_⟩
  simpa [isW] using hy
theorem PV.wait1 {l : List Pcs} {q : Int} {j : Nat} (h : PV l) (hf : l.findIdx? (isW q) = some j) : PV (l.eraseIdx j) := by
  obtain ⟨t, ht, hte, htp⟩ := wait_get hf
  have hj := (List.getElem?_eq_some_iff.1 ht).1
  obtain ⟨t0, h0, h01, h0p, h0e⟩ := h.2.2.2
  have hj0 : j ≠ 0 := by
    rintro rfl
    obtain rfl := Option.some.inj (ht.symm.trans h0)
    rw [h0e] at hte; cases hte
  have hlen : (l.eraseIdx j).length = l.length - 1 := by rw [List.length_eraseIdx, if_pos hj]
  have hrun : ∀ {r : Int}, runsB l r = true → runsB (l.eraseIdx j) r = true := by
    intro r hr
    obtain ⟨k, u, hu, hun, hue⟩ := runsB_get hr
    have hkj : k ≠ j := by
      rintro rfl
      obtain rfl := Option.some.inj (ht.symm.trans hu)
      rw [hue] at hte; cases hte
    obtain ⟨i, hi⟩ := erase_put hu hkj
    refine runsB_of hi hun fun i v hv hvn => ?_
    obtain ⟨k', hk', _, _⟩ := erase_get hv
    exact h.runs1 hr k' v hk' hvn
  refine ⟨fun i v hi hv => ?_, by omega, by have := h.2.2.1; omega, t0, by rw [List.getElem?_eraseIdx, if_pos (by omega)]; exact h0, h01, h0p, h0e⟩
  obtain ⟨k, hk, hkj, hki⟩ := erase_get hv
  obtain ⟨a1, a2, a3, a4, a5, a6⟩ := h.ok hk
  refine ⟨a1, fun hp s hs => ?_, a3, a4, a5, fun hp => ?_⟩
  · obtain ⟨k', hk', _, hki'⟩ := erase_get hs
    refine h.asc hk' hk ?_
    rw [hki, hki']
    split <;> split <;> omega
  · have := a6 (by rw [hki]; split <;> omega)
    exact ⟨hrun this.1, this.2⟩
theorem PV.wait {l : List Pcs} (h : PV l) (q : Int) : PV (waitL l q) := by
  have hb := procsB_iff.2 h
  cases hf : l.findIdx? (isW q) with
  | none => rw [(wait_no hb hf).1]; exact h
  | some j => obtain ⟨t, ht, _⟩ := wait_get hf; rw [(wait_yes hb hf ht).1]; exact h.wait1 hf
theorem PV.one {l : List Pcs} (h : PV l) : PV (l.take 1) := by
  obtain ⟨t0, h0, h01, h0p, h0e⟩ := h.2.2.2
  have hl := h.2.1
  have h0' : (l.take 1)[0]? = some t0 := by rw [List.getElem?_take, if_pos (by omega)]; exact h0
  refine ⟨fun i v hi hv => ?_, by simp; omega, by simp; omega, t0, h0', h01, h0p, h0e⟩
  simp at hi
  obtain rfl : i = 0 := by omega
  obtain rfl := Option.some.inj (hv.symm.trans h0')
  obtain ⟨a1, a2, a3, a4, a5, a6⟩ := h.ok h0
  exact ⟨a1, fun hp => by omega, a3, a4, a5, fun hp => by omega⟩
theorem PV.rest {l : List Pcs} (h : PV l) : ¬ PV (l.drop 1) := by
  rintro ⟨_, _, _, t, ht, ht1, _⟩
  rw [List.getElem?_drop] at ht
  have := (h.place1 ht).1 ht1
  omega
theorem PV.cred {x a s g : Int} (h : credB x a s g = true) : PV [⟨1, 0, x, a, s, g, false, 0⟩] := by
  refine ⟨fun i v hi hv => ?_, by simp, by simp, _, rfl, rfl, rfl, rfl⟩
  simp at hi
  obtain rfl : i = 0 := by omega
  obtain rfl := Option.some.inj hv
  exact ⟨rfl, fun hp => by omega, h, rfl, fun _ => rfl, fun hp => by omega⟩
end Go.Proofs.Ytlfchcjollcdhaa
