/-
  ListRights of the reference. No condition.
-/
import Derived.Test.YtpifnfhgaemdmaaProg
import Derived.Test.YtpifnfhgaemdmaaLsr
namespace Go.Proofs.Ytpifnfhgaemdmaa
open Go.RowKit
set_option linter.unusedSimpArgs false
set_option linter.unusedVariables false

def accM (g : Int) (l : List Grant) (b0 : Bool) : Nat → Bool
  | 0 => b0
  | i + 1 => match l[i]? with
    | some t => if t.ofGroup && hasG g t.who then true else accM g l b0 i
    | none => accM g l b0 i
def accR (g : Int) (l : List Grant) (r0 : Int) : Nat → Int
  | 0 => r0
  | i + 1 => match l[i]? with
    | some t => if t.ofGroup && hasG g t.who then bits .or .i64 (accR g l r0 i) t.rights else accR g l r0 i
    | none => accR g l r0 i
noncomputable def lrF (m : Int) (l : List Grant) (k r a s g u p : Int) : Int :=
  if classF r a s g u p < 0 then -1 else if listB m l k = false then -1 else if classF r a s g u p = 0 then fld m 0 else
    match l.findIdx? (isG false a) with
    | some j => (match l[j]? with | some t => bits .and .i64 t.rights k | none => 0)
    | none => if accM g l (hasG g p) l.length = true then bits .and .i64 (accR g l (if hasG g p = true then fld m 1 else 0) l.length) k else fld m 2
section
variable {m k r a s g u p : Int} {l : List Grant}
theorem lrF_m1 (h : classF r a s g u p = -1) : lrF m l k r a s g u p = -1 := by simp [lrF, h]
theorem lrF_lv (h : listB m l k = false) : lrF m l k r a s g u p = -1 := by simp [lrF, h]
theorem lrF_0 (h : classF r a s g u p = 0) (hl : listB m l k = true) : lrF m l k r a s g u p = fld m 0 := by simp [lrF, h, hl]
theorem lrF_own {c : Int} (h : classF r a s g u p = c) (hc : 0 < c) (hl : listB m l k = true) {j : Nat} {t : Grant} (hf : l.findIdx? (isG false a) = some j) (ht : l[j]? = some t) : lrF m l k r a s g u p = bits .and .i64 t.rights k := by
  simp only [lrF, h, hl, hf, ht]
  rw [if_neg (by omega), if_neg (by simp), if_neg (by omega)]
theorem lrF_mem {c : Int} {b0 : Bool} {r0 : Int} (h : classF r a s g u p = c) (hc : 0 < c) (hl : listB m l k = true) (hf : l.findIdx? (isG false a) = none) (hb : hasG g p = b0) (hr : (if b0 = true then fld m 1 else 0) = r0) (hM : accM g l b0 l.length = true) : lrF m l k r a s g u p = bits .and .i64 (accR g l r0 l.length) k := by
  simp only [lrF, h, hl, hf, hb, hr, hM]
  rw [if_neg (by omega), if_neg (by simp), if_neg (by omega)]; simp
theorem lrF_oth {c : Int} {b0 : Bool} (h : classF r a s g u p = c) (hc : 0 < c) (hl : listB m l k = true) (hf : l.findIdx? (isG false a) = none) (hb : hasG g p = b0) (hM : accM g l b0 l.length = false) : lrF m l k r a s g u p = fld m 2 := by
  simp only [lrF, h, hl, hf, hb, hM]
  rw [if_neg (by omega), if_neg (by simp), if_neg (by omega)]; simp
end
theorem fi_none {l : List Grant} {g : Bool} {who : Int} (h : ∀ (q : Nat) (s : Grant), q < l.length → l[q]? = some s → isG g who s = false) : l.findIdx? (isG g who) = none := by
  rw [List.findIdx?_eq_none_iff]
  intro x hx
  obtain ⟨q, hq, rfl⟩ := List.getElem_of_mem hx
  exact h q _ hq (List.getElem?_eq_getElem hq)
theorem fi_some {l : List Grant} {g : Bool} {who : Int} {k : Nat} {t : Grant} (ht : l[k]? = some t) (hy : isG g who t = true) (h : ∀ (q : Nat) (s : Grant), q < k → l[q]? = some s → isG g who s = false) : l.findIdx? (isG g who) = some k := by
  obtain ⟨hk, rfl⟩ := List.getElem?_eq_some_iff.1 ht
  rw [List.findIdx?_eq_some_iff_getElem]
  exact ⟨hk, hy, fun j hj => by simpa using h j _ hj (List.getElem?_eq_getElem (by omega))⟩
set_option maxHeartbeats 4000000 in
theorem lrSpec_c (m : Int) (A : Option Addr) (n c : Nat) (k : Int) (l : List Grant) (r a s g u p : Int) (hn : n ≤ 1048576) (w : World) (hI : InGrant w A n l) :
    Calls Try.prog 30 #[.agg #[.int .i64 m, .slice A n c, .int .i64 k], .agg #[.int .i64 r, .int .i64 a, .int .i64 s, .int .i64 g], .int .i64 u, .int .i64 p] w fun e w' => e = .returned (.int .i64 (lrF m l k r a s g u p)) ∧ Below w.heap.size w w' := by
  have HI := hide hI
  have HL := hide hI.1
  clear hI
  have BW0 : Below w.heap.size w ((w.alloc (.cells #[.int .i64 m, .slice A n c, .int .i64 k] 24)).alloc (.cells #[.int .i64 r, .int .i64 a, .int .i64 s, .int .i64 g] 45)) := below_alloc0 (below_alloc0 (Below.refl _ _) _) _
  have HB0 := hide BW0
  clear BW0
  go_enter Try.func30, Try.ntmps30
  go_wp2_with fail
  refine (classS_c r a s g u p _).mono ?_
  rintro e w1 ⟨rfl, hb1⟩
  have L1 := live hb1 w.heap.size (by simp; try omega)
  have M1 := live hb1 (w.heap.size + 1) (by simp)
  have B1 := hide (below_via0 HB0.out hb1)
  clear hb1
  rcases classF_cases r a s g u p with h | h | h | h
  · have HF := hide (lrF_m1 (m := m) (k := k) (l := l) h)
    rw [h]
    clear h
    go_wp2_with fail
    go_ret
    exact ⟨by rw [HF.out]; rfl, B1.out⟩
  · have HC := hide h
    rw [h.1]
    clear h
    go_wp2_with fail
    refine (lvSpec_c _ _ _ _ _ l hn _ (HI.out.below B1.out)).mono ?_
    rintro e w2 ⟨rfl, hb2⟩
    have L2 := live hb2 w.heap.size (by omega)
    have M2 := live hb2 (w.heap.size + 1) (by omega)
    have B2 := hide (below_via0 B1.out hb2)
    have hx2 := hb2.size
    clear hb2
    cases hlv : listB m l k
    · have HF := hide (lrF_lv (u := u) (p := p) (r := r) (a := a) (s := s) (g := g) hlv)
      go_wp2_with fail
      go_ret
      exact ⟨by rw [HF.out]; rfl, B2.out⟩
    · have HV := hide hlv
      have HF := hide (lrF_0 HC.out.1 hlv)
      have hm := (listB_iff.1 hlv).2.1
      go_wp2_with (go_at_call 58; refine (rfSpec_c _ _ hm (by decide) _).mono ?_; rintro e w' ⟨rfl, rfl⟩)
      go_ret
      exact ⟨by rw [HF.out]; rfl, B2.out⟩
  · have HC := hide h
    rw [h.1]
    clear h
    go_wp2_with fail
    refine (lvSpec_c _ _ _ _ _ l hn _ (HI.out.below B1.out)).mono ?_
    rintro e w2 ⟨rfl, hb2⟩
    have L2 := live hb2 w.heap.size (by omega)
    have M2 := live hb2 (w.heap.size + 1) (by omega)
    have B2 := hide (below_via0 B1.out hb2)
    have hx2 := hb2.size
    clear hb2
    cases hlv : listB m l k
    · have HF := hide (lrF_lv (u := u) (p := p) (r := r) (a := a) (s := s) (g := g) hlv)
      go_wp2_with fail
      go_ret
      exact ⟨by rw [HF.out]; rfl, B2.out⟩
    · have HV := hide hlv
      have hm := (listB_iff.1 hlv).2.1
      have hmc : inB 1 0 2 = true := by decide
      have hmo : inB 2 0 2 = true := by decide
      go_wp2_with (go_at_call 58; refine (rfSpec_c _ _ hm (by decide) _).mono ?_; rintro e w' ⟨rfl, rfl⟩)
      have x0 : w2.cell? ⟨w.heap.size, 0, none⟩ = some (.int .i64 m) := by simp [go_sem, L2, L1, M2, M1]
      have x1 : w2.cell? ⟨w.heap.size, 1, none⟩ = some (.slice A n c) := by simp [go_sem, L2, L1, M2, M1]
      have x2 : w2.cell? ⟨w.heap.size, 2, none⟩ = some (.int .i64 k) := by simp [go_sem, L2, L1, M2, M1]
      have x3 : w2.cell? ⟨w.heap.size + 1, 1, none⟩ = some (.int .i64 a) := by simp [go_sem, L2, L1, M2, M1]
      have x4 : w2.cell? ⟨w.heap.size + 1, 3, none⟩ = some (.int .i64 g) := by simp [go_sem, L2, L1, M2, M1]
      have HX := hide hx2
      have HX0 := hide x0
      go_loopw [10, 11, 12] (fun bv rv iv wr => ∃ i : Nat, i ≤ n ∧ bv = .bool (accM g l true i) ∧ rv = .int .i64 (accR g l (fld m 1) i) ∧ iv = .int .i64 i ∧ Hid (∀ (q : Nat) (t : Grant), q < i → l[q]? = some t → isG false a t = false) ∧ Hid (Below w2.heap.size w2 wr)) (fun _ _ iv _ => n - (intOf iv).toNat)
      case atStart => exact ⟨0, by omega, rfl, rfl, rfl, fun q t hq => absurd hq (by omega), Below.refl _ _⟩
      case round =>
        obtain ⟨i, hi, rfl, rfl, rfl, hin, hbel⟩ := hrel
        have hsz := hbel.out.size
        have hxl : w.heap.size < wr.heap.size := by omega
        have hgl : w.heap.size + 1 < wr.heap.size := by omega
        have y0 := (hbel.out.cell (p := ⟨w.heap.size, 0, none⟩) (by show w.heap.size < _; omega)).trans x0
        have y1 := (hbel.out.cell (p := ⟨w.heap.size, 1, none⟩) (by show w.heap.size < _; omega)).trans x1
        have y2 := (hbel.out.cell (p := ⟨w.heap.size, 2, none⟩) (by show w.heap.size < _; omega)).trans x2
        have y3 := (hbel.out.cell (p := ⟨w.heap.size + 1, 1, none⟩) (by show w.heap.size + 1 < _; omega)).trans x3
        have y4 := (hbel.out.cell (p := ⟨w.heap.size + 1, 3, none⟩) (by show w.heap.size + 1 < _; omega)).trans x4
        have BW : Hid (Below w.heap.size w wr) := hide (B2.out.trans (hbel.out.mono B2.out.size))
        clear x0 x1 x2 x3 x4 L1 M1 L2 M2
        by_cases hlt : i < n
        · obtain ⟨t, ht⟩ : ∃ t, l[i]? = some t := ⟨_, List.getElem?_eq_getElem (by rw [HL.out]; exact hlt)⟩
          have HT := hide ht
          obtain ⟨b, off, hA, hR⟩ := HI.out.2 (by omega)
          subst hA
          have hRw := hide (hR.below BW.out)
          obtain ⟨c0, c1, c2⟩ := hRw.out.2 i t ht
          have hbl := hRw.out.1
          clear ht hR
          cases hg : t.ofGroup
          · rw [hg] at c0
            cases hw : (t.who == a)
            · have hy := hide (show isG false a t = false by simp [isG, hg, hw])
              have HA := hide (show accM g l true (i + 1) = accM g l true i ∧ accR g l (fld m 1) (i + 1) = accR g l (fld m 1) i by simp [accM, accR, HT.out, hg])
              go_wp2_with fail
              refine ⟨⟨i + 1, by omega, by rw [HA.out.1], by rw [HA.out.2], by go_num, fun q t' hq ht' => ?_, below_alloc0 hbel.out _⟩, by simp [intOf]; omega⟩
              rcases Nat.lt_or_ge q i with h | h
              · exact hin.out q t' h ht'
              · obtain rfl : q = i := by omega
                obtain rfl : t' = t := by have := ht'.symm.trans HT.out; simpa using this
                exact hy.out
            · have HF := hide (lrF_own (c := 1) (m := m) (k := k) (u := u) (p := p) (r := r) (s := s) (g := g) HC.out.1 (by decide) HV.out (fi_some HT.out (show isG false a t = true by simp [isG, hg, hw]) hin.out) HT.out)
              go_wp2_with fail
              go_ret
              exact ⟨by rw [HF.out]; rfl, below_alloc0 BW.out _⟩
          · rw [hg] at c0
            have hy := hide (show isG false a t = false by simp [isG, hg])
            cases hh : hasG g t.who
            · have HA := hide (show accM g l true (i + 1) = accM g l true i ∧ accR g l (fld m 1) (i + 1) = accR g l (fld m 1) i by simp [accM, accR, HT.out, hg, hh])
              go_wp2_with (go_at_call 59; refine (hasSpec_c _ _ _).mono ?_; rintro e w' ⟨rfl, rfl⟩; rw [hh])
              refine ⟨⟨i + 1, by omega, by rw [HA.out.1], by rw [HA.out.2], by go_num, fun q t' hq ht' => ?_, below_alloc0 hbel.out _⟩, by simp [intOf]; omega⟩
              rcases Nat.lt_or_ge q i with h | h
              · exact hin.out q t' h ht'
              · obtain rfl : q = i := by omega
                obtain rfl : t' = t := by have := ht'.symm.trans HT.out; simpa using this
                exact hy.out
            · have HA := hide (show accM g l true (i + 1) = true ∧ accR g l (fld m 1) (i + 1) = bits .or .i64 (accR g l (fld m 1) i) t.rights by simp [accM, accR, HT.out, hg, hh])
              go_wp2_with (go_at_call 59; refine (hasSpec_c _ _ _).mono ?_; rintro e w' ⟨rfl, rfl⟩; rw [hh])
              refine ⟨⟨i + 1, by omega, by rw [HA.out.1], by rw [HA.out.2], by go_num, fun q t' hq ht' => ?_, below_alloc0 hbel.out _⟩, by simp [intOf]; omega⟩
              rcases Nat.lt_or_ge q i with h | h
              · exact hin.out q t' h ht'
              · obtain rfl : q = i := by omega
                obtain rfl : t' = t := by have := ht'.symm.trans HT.out; simpa using this
                exact hy.out
        · obtain rfl : i = n := by omega
          have hfi := hide (fi_none (l := l) (g := false) (who := a) (fun q t hq => hin.out q t (by rw [← HL.out]; exact hq)))
          cases hM : accM g l true i
          · have HF := hide (lrF_oth (c := 1) (m := m) (k := k) (u := u) (r := r) (s := s) HC.out.1 (by decide) HV.out hfi.out HC.out.2.2 (by rw [HL.out]; exact hM))
            go_wp2_with (go_at_call 58; refine (rfSpec_c _ _ hm (by decide) _).mono ?_; rintro e w' ⟨rfl, rfl⟩)
            go_ret
            exact ⟨by rw [HF.out]; rfl, BW.out⟩
          · have HF := hide (lrF_mem (c := 1) (r0 := (fld m 1)) (m := m) (k := k) (u := u) (r := r) (s := s) HC.out.1 (by decide) HV.out hfi.out HC.out.2.2 (by simp) (by rw [HL.out]; exact hM))
            go_wp2_with fail
            go_ret
            exact ⟨by rw [HF.out, HL.out]; rfl, BW.out⟩
  · have HC := hide h
    rw [h.1]
    clear h
    go_wp2_with fail
    refine (lvSpec_c _ _ _ _ _ l hn _ (HI.out.below B1.out)).mono ?_
    rintro e w2 ⟨rfl, hb2⟩
    have L2 := live hb2 w.heap.size (by omega)
    have M2 := live hb2 (w.heap.size + 1) (by omega)
    have B2 := hide (below_via0 B1.out hb2)
    have hx2 := hb2.size
    clear hb2
    cases hlv : listB m l k
    · have HF := hide (lrF_lv (u := u) (p := p) (r := r) (a := a) (s := s) (g := g) hlv)
      go_wp2_with fail
      go_ret
      exact ⟨by rw [HF.out]; rfl, B2.out⟩
    · have HV := hide hlv
      have hm := (listB_iff.1 hlv).2.1
      have hmc : inB 1 0 2 = true := by decide
      have hmo : inB 2 0 2 = true := by decide
      go_wp2_with (go_at_call 58; refine (rfSpec_c _ _ hm (by decide) _).mono ?_; rintro e w' ⟨rfl, rfl⟩)
      have x0 : w2.cell? ⟨w.heap.size, 0, none⟩ = some (.int .i64 m) := by simp [go_sem, L2, L1, M2, M1]
      have x1 : w2.cell? ⟨w.heap.size, 1, none⟩ = some (.slice A n c) := by simp [go_sem, L2, L1, M2, M1]
      have x2 : w2.cell? ⟨w.heap.size, 2, none⟩ = some (.int .i64 k) := by simp [go_sem, L2, L1, M2, M1]
      have x3 : w2.cell? ⟨w.heap.size + 1, 1, none⟩ = some (.int .i64 a) := by simp [go_sem, L2, L1, M2, M1]
      have x4 : w2.cell? ⟨w.heap.size + 1, 3, none⟩ = some (.int .i64 g) := by simp [go_sem, L2, L1, M2, M1]
      have HX := hide hx2
      have HX0 := hide x0
      go_loopw [10, 11, 12] (fun bv rv iv wr => ∃ i : Nat, i ≤ n ∧ bv = .bool (accM g l false i) ∧ rv = .int .i64 (accR g l 0 i) ∧ iv = .int .i64 i ∧ Hid (∀ (q : Nat) (t : Grant), q < i → l[q]? = some t → isG false a t = false) ∧ Hid (Below w2.heap.size w2 wr)) (fun _ _ iv _ => n - (intOf iv).toNat)
      case atStart => exact ⟨0, by omega, rfl, rfl, rfl, fun q t hq => absurd hq (by omega), Below.refl _ _⟩
      case round =>
        obtain ⟨i, hi, rfl, rfl, rfl, hin, hbel⟩ := hrel
        have hsz := hbel.out.size
        have hxl : w.heap.size < wr.heap.size := by omega
        have hgl : w.heap.size + 1 < wr.heap.size := by omega
        have y0 := (hbel.out.cell (p := ⟨w.heap.size, 0, none⟩) (by show w.heap.size < _; omega)).trans x0
        have y1 := (hbel.out.cell (p := ⟨w.heap.size, 1, none⟩) (by show w.heap.size < _; omega)).trans x1
        have y2 := (hbel.out.cell (p := ⟨w.heap.size, 2, none⟩) (by show w.heap.size < _; omega)).trans x2
        have y3 := (hbel.out.cell (p := ⟨w.heap.size + 1, 1, none⟩) (by show w.heap.size + 1 < _; omega)).trans x3
        have y4 := (hbel.out.cell (p := ⟨w.heap.size + 1, 3, none⟩) (by show w.heap.size + 1 < _; omega)).trans x4
        have BW : Hid (Below w.heap.size w wr) := hide (B2.out.trans (hbel.out.mono B2.out.size))
        clear x0 x1 x2 x3 x4 L1 M1 L2 M2
        by_cases hlt : i < n
        · obtain ⟨t, ht⟩ : ∃ t, l[i]? = some t := ⟨_, List.getElem?_eq_getElem (by rw [HL.out]; exact hlt)⟩
          have HT := hide ht
          obtain ⟨b, off, hA, hR⟩ := HI.out.2 (by omega)
          subst hA
          have hRw := hide (hR.below BW.out)
          obtain ⟨c0, c1, c2⟩ := hRw.out.2 i t ht
          have hbl := hRw.out.1
          clear ht hR
          cases hg : t.ofGroup
          · rw [hg] at c0
            cases hw : (t.who == a)
            · have hy := hide (show isG false a t = false by simp [isG, hg, hw])
              have HA := hide (show accM g l false (i + 1) = accM g l false i ∧ accR g l 0 (i + 1) = accR g l 0 i by simp [accM, accR, HT.out, hg])
              go_wp2_with fail
              refine ⟨⟨i + 1, by omega, by rw [HA.out.1], by rw [HA.out.2], by go_num, fun q t' hq ht' => ?_, below_alloc0 hbel.out _⟩, by simp [intOf]; omega⟩
              rcases Nat.lt_or_ge q i with h | h
              · exact hin.out q t' h ht'
              · obtain rfl : q = i := by omega
                obtain rfl : t' = t := by have := ht'.symm.trans HT.out; simpa using this
                exact hy.out
            · have HF := hide (lrF_own (c := 2) (m := m) (k := k) (u := u) (p := p) (r := r) (s := s) (g := g) HC.out.1 (by decide) HV.out (fi_some HT.out (show isG false a t = true by simp [isG, hg, hw]) hin.out) HT.out)
              go_wp2_with fail
              go_ret
              exact ⟨by rw [HF.out]; rfl, below_alloc0 BW.out _⟩
          · rw [hg] at c0
            have hy := hide (show isG false a t = false by simp [isG, hg])
            cases hh : hasG g t.who
            · have HA := hide (show accM g l false (i + 1) = accM g l false i ∧ accR g l 0 (i + 1) = accR g l 0 i by simp [accM, accR, HT.out, hg, hh])
              go_wp2_with (go_at_call 59; refine (hasSpec_c _ _ _).mono ?_; rintro e w' ⟨rfl, rfl⟩; rw [hh])
              refine ⟨⟨i + 1, by omega, by rw [HA.out.1], by rw [HA.out.2], by go_num, fun q t' hq ht' => ?_, below_alloc0 hbel.out _⟩, by simp [intOf]; omega⟩
              rcases Nat.lt_or_ge q i with h | h
              · exact hin.out q t' h ht'
              · obtain rfl : q = i := by omega
                obtain rfl : t' = t := by have := ht'.symm.trans HT.out; simpa using this
                exact hy.out
            · have HA := hide (show accM g l false (i + 1) = true ∧ accR g l 0 (i + 1) = bits .or .i64 (accR g l 0 i) t.rights by simp [accM, accR, HT.out, hg, hh])
              go_wp2_with (go_at_call 59; refine (hasSpec_c _ _ _).mono ?_; rintro e w' ⟨rfl, rfl⟩; rw [hh])
              refine ⟨⟨i + 1, by omega, by rw [HA.out.1], by rw [HA.out.2], by go_num, fun q t' hq ht' => ?_, below_alloc0 hbel.out _⟩, by simp [intOf]; omega⟩
              rcases Nat.lt_or_ge q i with h | h
              · exact hin.out q t' h ht'
              · obtain rfl : q = i := by omega
                obtain rfl : t' = t := by have := ht'.symm.trans HT.out; simpa using this
                exact hy.out
        · obtain rfl : i = n := by omega
          have hfi := hide (fi_none (l := l) (g := false) (who := a) (fun q t hq => hin.out q t (by rw [← HL.out]; exact hq)))
          cases hM : accM g l false i
          · have HF := hide (lrF_oth (c := 2) (m := m) (k := k) (u := u) (r := r) (s := s) HC.out.1 (by decide) HV.out hfi.out HC.out.2.2 (by rw [HL.out]; exact hM))
            go_wp2_with (go_at_call 58; refine (rfSpec_c _ _ hm (by decide) _).mono ?_; rintro e w' ⟨rfl, rfl⟩)
            go_ret
            exact ⟨by rw [HF.out]; rfl, BW.out⟩
          · have HF := hide (lrF_mem (c := 2) (r0 := 0) (m := m) (k := k) (u := u) (r := r) (s := s) HC.out.1 (by decide) HV.out hfi.out HC.out.2.2 (by simp) (by rw [HL.out]; exact hM))
            go_wp2_with fail
            go_ret
            exact ⟨by rw [HF.out, HL.out]; rfl, BW.out⟩
end Go.Proofs.Ytpifnfhgaemdmaa
