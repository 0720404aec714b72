/-
  ForkProcess, of the program and of the reference. No condition.
-/
import Derived.Test.YtlfchcjollcdhaaProg
import Derived.Test.YtlfchcjollcdhaaPrcV
import Derived.Test.YtlfchcjollcdhaaPrcW
namespace Go.Proofs.Ytlfchcjollcdhaa
open Go.RowKit
set_option linter.unusedSimpArgs false
set_option linter.unusedVariables false

/-- The process that is made. -/
def forkF (l : List Pcs) (q : Int) : Option Pcs :=
  match l[l.length - 1]?, l.find? (isN q) with
  | some s, some t => if t.ended = false ∧ l.length ≠ 10 ∧ s.number + 1 ≤ 99 then some ⟨s.number + 1, q, t.real, t.acts, t.saved, t.groups, false, 0⟩ else none
  | _, _ => none
noncomputable def forkL (l : List Pcs) (q : Int) : List Pcs := if procsB l = true then (match forkF l q with | some p => l ++ [p] | none => l) else []
noncomputable def forkN (l : List Pcs) (q : Int) : Int := if procsB l = true then (match forkF l q with | some p => p.number | none => 0) else 0
/-- What ForkProcess gives. -/
def FkOut (w : World) (l : List Pcs) (q : Int) (e : Ending) (w' : World) : Prop :=
  ∃ (A : Option Addr) (n c : Nat), e = .returned (.tuple #[.slice A n c, .int .i64 (forkN l q)]) ∧ (forkL l q).length = n ∧ OwnSP w' w.heap.size n c A (forkL l q) ∧ Below w.heap.size w w'
theorem FkOut.of {w w' : World} {l L : List Pcs} {q N : Int} {A : Option Addr} {n c : Nat} (hL : forkL l q = L) (hN : forkN l q = N) (hl : L.length = n) (ho : OwnSP w' w.heap.size n c A L) (hb : Below w.heap.size w w') : FkOut w l q (.returned (.tuple #[.slice A n c, .int .i64 N])) w' := by
  subst hL hN
  exact ⟨A, n, c, rfl, hl, ho, hb⟩
theorem ownSP_empty {w : World} {B : Nat} (hB : B ≤ w.heap.size) : OwnSP (w.alloc (.cells #[] 39)) B 0 0 (some ⟨w.heap.size, 0, none⟩) [] :=
  .inr ⟨w.heap.size, 0, rfl, hB, Nat.le_refl _, Nat.zero_le _, rfl, (Row.made w 39 #[] _ (fun j u h => by simp [doneProcess] at h)), ⟨_, Below.heap_alloc_self w _⟩⟩
theorem find_place {l : List Pcs} {q : Int} {j : Nat} {t : Pcs} (h : l.findIdx? (isN q) = some j) (ht : l[j]? = some t) : l.find? (isN q) = some t := by
  obtain ⟨hj, hy, hn⟩ := List.findIdx?_eq_some_iff_getElem.1 h
  rw [List.find?_eq_some_iff_getElem]
  have : l[j] = t := by rw [List.getElem?_eq_getElem hj] at ht; simpa using ht
  exact ⟨by rw [← this]; exact hy, j, hj, this, fun i hi => by simpa using hn i hi⟩
theorem find_none {l : List Pcs} {q : Int} (h : l.findIdx? (isN q) = none) : l.find? (isN q) = none := by
  rw [List.find?_eq_none]
  intro x hx
  rw [List.findIdx?_eq_none_iff] at h
  simpa using h x hx
theorem fork_bad {l : List Pcs} {q : Int} (h : procsB l = false) : forkL l q = [] ∧ forkN l q = 0 := by simp [forkL, forkN, h]
theorem fork_no {l : List Pcs} {q : Int} (h : procsB l = true) (hf : forkF l q = none) : forkL l q = l ∧ forkN l q = 0 := by simp [forkL, forkN, h, hf]
theorem fork_yes {l : List Pcs} {q : Int} {p : Pcs} (h : procsB l = true) (hf : forkF l q = some p) : forkL l q = l ++ [p] ∧ forkN l q = p.number := by simp [forkL, forkN, h, hf]
set_option maxHeartbeats 2000000 in
theorem cloneP_c (b off n c : Nat) (l : List Pcs) (hl : l.length = n) (hn : n ≤ 1048576) (w : World) (hR : RdProcess w b off l) :
    Calls Try.prog 43 #[.slice (some ⟨b, off, none⟩) n c] w fun e w' => ∃ gz cz, e = .returned (.slice (some ⟨gz, 0, none⟩) n cz) ∧ OwnSP w' w.heap.size n cz (some ⟨gz, 0, none⟩) l ∧ Below w.heap.size w w' := by
  obtain ⟨i0, hi0, hz0, hz1, hz2⟩ := info_parts infoProcess
  have A := hide hR
  clear hR
  have HI := hide hi0
  have HZ0 := hide hz0
  have HZ1 := hide hz1
  have HZ2 := hide hz2
  clear hi0 hz0 hz1 hz2
  have q22 : ∀ (w : World) (a : Option Addr) (n c n' c' : Nat), (binOp .eql 25 (.slice a n c) (.slice none n' c')).run Try.prog w = .ok (.bool a.isNone) w := fun w a n c n' c' => Lib.run_eql_slice_nil w _ _ a n c n' c' Try.underlying25
  have u22 : ∀ w, Sem.run Try.prog (underlying 25) w = .ok (TypeDesc.slice 39) w := run_underlying Try.underlying25
  go_enter Try.func43, Try.ntmps43
  go_wp2_with (at_builtin; refine wpList_append_own _ rfl _ _ 25 rfl w.heap.size 39 i0 _ 8 64 Try.underlying25 HI.out HZ0.out HZ1.out HZ2.out rfl (by decide) _ _ _ rfl (World.ownsRow_made w #[] 0 (Nat.le_refl _) (Nat.zero_le _) (by simp)) ⟨b, off, none⟩ n c (flatP l) rfl ?qc1 ?qc2 ?qc3 ?qc4 ?qc5 ?qc6 ?_)
  case qc1 => rw [flatP_len, hl]
  case qc2 =>
    intro j u hj
    rw [Addr.add_lit]
    exact Lib.cell?_alloc_some _ (flatP_cells A.out j u hj)
  case qc3 => exact flatP_one l
  case qc4 => rw [Nat.zero_add]; unfold maxLen; omega
  case qc5 => rw [Nat.zero_add]; omega
  case qc6 => simp
  intro v' w1 hown hgrow hnil
  have hnil' : v' ≠ .slice none 0 0 := hnil
  obtain ⟨A', cz, rfl, ho⟩ := ownSP_of hown hl
  rcases ho with ⟨rfl, rfl, rfl⟩ | ⟨gz, mm, rfl, ho⟩
  · exact absurd rfl hnil'
  go_wp2
  go_ret
  exact ⟨gz, cz, rfl, .inr ⟨gz, mm, rfl, ho⟩, ((Below.refl _ w).alloc (Nat.le_refl _) _).grown hgrow (by simp) (by intro k hk; simp [Value.ownBlock] at hk; omega)⟩
set_option maxRecDepth 100000 in
set_option maxHeartbeats 4000000 in
theorem forkSpec_c (A : Option Addr) (n c : Nat) (l : List Pcs) (q : Int) (hn : n ≤ 1048576) (w : World) (hI : InProcess w A n l) :
    Calls Try.prog 20 #[.slice A n c, .int .i64 q] w (FkOut w l q) := by
  obtain ⟨i0, hi0, hz0, hz1, hz2⟩ := info_parts infoProcess
  have HII := hide hi0
  have HZ0 := hide hz0
  have HZ1 := hide hz1
  have HZ2 := hide hz2
  clear hi0 hz0 hz1 hz2
  have HI := hide hI
  have HL := hide hI.1
  clear hI
  go_enter Try.func20, Try.ntmps20
  go_wp2_with fail
  refine (pvSpec_c _ _ _ l hn _ HI.out).mono ?_
  rintro e w1 ⟨rfl, hb1⟩
  have B1 := hide hb1
  clear hb1
  cases hv : procsB l
  · have HF := hide (fork_bad (q := q) hv)
    clear hv
    go_wp2_with fail
    exact bodyPost_ret (v := .tuple #[.slice (some ⟨w1.heap.size, 0, none⟩) 0 0, .int .i64 0]) (by simp [results, Try.results20, go_sem]) rfl (FkOut.of HF.out.1 HF.out.2 rfl (ownSP_empty B1.out.size) (B1.out.alloc B1.out.size _))
  have HV := hide hv
  have hpv := procsB_iff.1 hv
  obtain ⟨k, rfl⟩ : ∃ k, n = k + 1 := ⟨n - 1, by have := hpv.2.1; have := HL.out; omega⟩
  have hk10 : k + 1 ≤ 10 := by have := hpv.2.2.1; rw [HL.out] at this; exact this
  obtain ⟨b, off, hA, hR⟩ := HI.out.2 (by omega)
  subst hA
  have hR1 := hide (hR.below B1.out)
  obtain ⟨s, hs⟩ : ∃ s, l[k]? = some s := ⟨_, List.getElem?_eq_getElem (by rw [HL.out]; omega)⟩
  have hsb := (inB_iff.1 (hpv.1 k s (by rw [HL.out]; omega) hs).1)
  have HS := hide hs
  clear hv hpv hs hR
  go_wp2_with (at_builtin; refine wpList_append_own _ rfl _ _ 25 rfl w.heap.size 39 i0 _ 8 64 Try.underlying25 HII.out HZ0.out HZ1.out HZ2.out rfl (by decide) _ _ _ rfl (World.ownsRow_made w1 #[] 0 B1.out.size (Nat.zero_le _) (by simp)) ⟨b, off, none⟩ (k + 1) c (flatP l) rfl ?qc1 ?qc2 ?qc3 ?qc4 ?qc5 ?qc6 ?_)
  case qc1 => rw [flatP_len, HL.out]
  case qc2 =>
    intro j u hj
    rw [Addr.add_lit]
    exact Lib.cell?_alloc_some _ (flatP_cells hR1.out j u hj)
  case qc3 => exact flatP_one l
  case qc4 => rw [Nat.zero_add]; unfold maxLen; omega
  case qc5 => rw [Nat.zero_add]; omega
  case qc6 => simp; have := B1.out.size; omega
  intro v' w2 hown hgrow hnil
  have hnil' : v' ≠ .slice none 0 0 := hnil
  obtain ⟨A', cz, rfl, ho⟩ := ownSP_of hown HL.out
  have O2 := hide ho
  have hb2 : Below w1.heap.size w1 w2 := ((Below.refl _ w1).alloc (Nat.le_refl _) _).grown hgrow (by simp) (by intro k hk; simp [Value.ownBlock] at hk; omega)
  have B2 := hide (B1.out.trans (hb2.mono B1.out.size))
  have hR2 := hide (hR1.out.below hb2)
  obtain ⟨c0, _⟩ := hR2.out.2 k s HS.out
  have hbl := hR2.out.1
  have hkk : (k : Int) < (k : Int) + 1 := by omega
  clear hown hgrow hnil ho hb2
  go_wp2_with fail
  refine (l15Place_c _ _ _ l q _ ⟨HL.out, fun _ => ⟨_, _, rfl, hR2.out⟩⟩ (by omega)).mono ?_
  rintro e w3 ⟨rfl, rfl⟩
  rcases place_cases l q with ⟨hf, hx, hr⟩ | ⟨j, t, hf, hx, ht, hj, _, hr⟩
  · rw [hx]
    have HF := hide (fork_no (q := q) HV.out (by simp only [forkF, find_none hf]; split <;> simp_all))
    clear hf hx hr
    go_wp2_with fail
    exact bodyPost_ret (v := .tuple #[.slice A' (k + 1) cz, .int .i64 0]) (by simp [results, Try.results20, go_sem]) rfl (FkOut.of HF.out.1 HF.out.2 HL.out O2.out B2.out)
  rw [hx]
  have hjn : j < k + 1 := by rw [← HL.out]; exact hj
  obtain ⟨t0, t1, t2, t3, t4, t5, t6, t7⟩ := hR2.out.2 j t ht
  have HFF := hide (show forkF l q = if t.ended = false ∧ l.length ≠ 10 ∧ s.number + 1 ≤ 99 then some ⟨s.number + 1, q, t.real, t.acts, t.saved, t.groups, false, 0⟩ else none by
    simp only [forkF, find_place hf ht, HL.out, Nat.add_sub_cancel, HS.out])
  have j0 : (0 : Int) ≤ (j : Int) := by omega
  clear hx hr hf ht hj
  cases hte : t.ended
  case true =>
    rw [hte] at t6
    have HF := hide (fork_no (q := q) HV.out (by rw [HFF.out, if_neg (by simp [hte])]))
    go_wp2_with fail
    exact bodyPost_ret (v := .tuple #[.slice A' (k + 1) cz, .int .i64 0]) (by simp [results, Try.results20, go_sem]) rfl (FkOut.of HF.out.1 HF.out.2 HL.out O2.out B2.out)
  rw [hte] at t6
  by_cases h10 : k + 1 = 10
  · obtain rfl : k = 9 := by omega
    have HF := hide (fork_no (q := q) HV.out (by rw [HFF.out, if_neg (by simp [HL.out])]))
    go_wp2_with fail
    exact bodyPost_ret (v := .tuple #[.slice A' (9 + 1) cz, .int .i64 0]) (by simp [results, Try.results20, go_sem]) rfl (FkOut.of HF.out.1 HF.out.2 HL.out O2.out B2.out)
  have h10' : (((k + 1 : Nat) : Int) == 10) = false := by simp; omega
  have h10'' : ((k : Int) + 1 == 10) = false := by simp; omega
  by_cases h99 : 99 < s.number + 1
  · have HF := hide (fork_no (q := q) HV.out (by rw [HFF.out, if_neg (by omega)]))
    go_wp2_with fail
    exact bodyPost_ret (v := .tuple #[.slice A' (k + 1) cz, .int .i64 0]) (by simp [results, Try.results20, go_sem]) rfl (FkOut.of HF.out.1 HF.out.2 HL.out O2.out B2.out)
  have HF := hide (fork_yes (q := q) HV.out (by rw [HFF.out, if_pos ⟨hte, by rw [HL.out]; exact h10, by omega⟩]))
  have OW := hide ((O2.out.own HL.out).alloc (.cells #[.int .i64 (s.number + 1), .int .i64 q, .int .i64 t.real, .int .i64 t.acts, .int .i64 t.saved, .int .i64 t.groups, .bool false, .int .i64 0] 39))
  go_wp2_with (at_builtin; refine wpList_append_own _ rfl _ _ 25 rfl w.heap.size 39 i0 _ 8 64 Try.underlying25 HII.out HZ0.out HZ1.out HZ2.out rfl (by decide) _ _ _ rfl OW.out ⟨w2.heap.size, 0, none⟩ 1 1 (flatP [⟨s.number + 1, q, t.real, t.acts, t.saved, t.groups, false, 0⟩]) rfl rfl ?qa0 (flatP_one _) ?qb0 ?qd0 ?qe0 ?_)
  case qa0 => exact flatP_new w2 ⟨s.number + 1, q, t.real, t.acts, t.saved, t.groups, false, 0⟩ _ _ rfl
  case qb0 => unfold maxLen; omega
  case qd0 => omega
  case qe0 => simp; have := B2.out.size; omega
  intro v' w4 hown hgrow hnil
  rw [← flatP_app] at hown
  obtain ⟨A4, c4, rfl, ho4⟩ := ownSP_of hown (by simp [HL.out])
  have B4 := hide ((B2.out.alloc B2.out.size (.cells #[.int .i64 (s.number + 1), .int .i64 q, .int .i64 t.real, .int .i64 t.acts, .int .i64 t.saved, .int .i64 t.groups, .bool false, .int .i64 0] 39)).grown hgrow (by simp; have := B2.out.size; omega) (fun q hq => (OW.out.lt q hq).1))
  have O4 := hide ho4
  clear hown hgrow hnil ho4
  go_wp2_with fail
  exact bodyPost_ret (v := .tuple #[.slice A4 (k + 1 + 1) c4, .int .i64 (s.number + 1)]) (by simp [results, Try.results20, go_sem]) rfl (FkOut.of HF.out.1 HF.out.2 (by simp [HL.out]) O4.out B4.out)
end Go.Proofs.Ytlfchcjollcdhaa
