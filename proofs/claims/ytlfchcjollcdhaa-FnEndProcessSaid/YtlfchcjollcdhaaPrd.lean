/-
  slices.Delete of one process of a slice of one's own. No condition.
-/
import Derived.Test.YtlfchcjollcdhaaProg
import Derived.Test.YtlfchcjollcdhaaPrf
import Derived.Test.YtlfchcjollcdhaaFlowT
import Derived.ArgAppend
import Derived.Laws.IdiomCopy
namespace Go.Proofs.Ytlfchcjollcdhaa
open Go.RowKit
set_option linter.unusedSimpArgs false
set_option linter.unusedVariables false

theorem Row.setCells {g k : Nat} : ∀ (vs : List Value) (o : Nat) (w : World) (f : Nat → Option Value), Row w g k f → o + vs.length ≤ k → Row (w.setCells g o vs) g k (fun p => if o ≤ p ∧ p < o + vs.length then vs[p - o]? else f p)
  | [], o, w, f, h, _ => h.mono fun p u hp => by
    rw [if_neg (by simp only [List.length_nil]; omega)] at hp; exact hp
  | v :: r, o, w, f, h, hk => by
    simp only [List.length_cons] at hk
    have ih := Row.setCells r (o + 1) (w.setCell ⟨g, o, Option.none⟩ v) _ (h.set o v) (by omega)
    refine ih.mono fun p u hp => ?_
    simp only [List.length_cons] at hp
    by_cases h1 : p = o
    · subst h1
      rw [if_pos (by omega)] at hp
      rw [if_neg (by omega), if_pos rfl, if_pos (by omega)]
      simpa using hp
    · by_cases h2 : o ≤ p ∧ p < o + (r.length + 1)
      · rw [if_pos h2] at hp
        rw [if_pos (by omega)]
        rw [show p - o = (p - (o + 1)) + 1 by omega, List.getElem?_cons_succ] at hp
        exact hp
      · rw [if_neg h2] at hp
        rw [if_neg (by omega), if_neg h1]
        exact hp
theorem TyP.setCells {g b : Nat} : ∀ (vs : List Value) (o : Nat) (w : World), TyP w g → TyP (w.setCells b o vs) g
  | [], _, _, h => h
  | v :: r, o, w, h => TyP.setCells r (o + 1) _ (h.set v)
theorem Offs.setCells {g : Nat} {w0 : World} : ∀ (vs : List Value) (o : Nat) (w : World), Offs (some ⟨g, 0, none⟩) w0 w → Offs (some ⟨g, 0, none⟩) w0 (w.setCells g o vs)
  | [], _, _, h => h
  | v :: r, o, w, h => Offs.setCells r (o + 1) _ (h.setCell v)
theorem run_clearC {P : Program} (w : World) (t e ty : TypeId) (z : Value) (ht : P.underlying t = some (.slice e)) (hv : ∀ w, (zeroValue e).run P w = .ok z w)
    (b off n c : Nat) (hn : 0 < n) (news : List Value) (hnews : (Builtin.zeroCells z.cells n).toList = news)
    (hc : ∀ j, j < news.length → (w.cell? ⟨b, off + j, none⟩).isSome = true) (hf : ∀ j, j < news.length → w.frozen? ⟨b, off + j, none⟩ = false) (h1 : ∀ u ∈ news, u.oneCell' = true) :
    (Builtin.clear_ #[t] ty #[.slice (some ⟨b, off, none⟩) n c]).run P w = .ok (.tuple #[]) (w.setCells b off news) := by
  have hst := run_storeCells_cells (P := P) b off news 0 w (by simpa using hc) (by simpa using hf) h1
  simp only [Nat.add_zero] at hst
  obtain ⟨m, rfl⟩ : ∃ m, n = m + 1 := ⟨n - 1, by omega⟩
  simp [Builtin.clear_, run_underlying ht, hv, hnews, hst]
theorem zeroP (w : World) : (zeroValue 39).run Try.prog w = .ok (.agg #[.int .i64 0, .int .i64 0, .int .i64 0, .int .i64 0, .int .i64 0, .int .i64 0, .bool false, .int .i64 0]) w := by
  obtain ⟨i0, hi0, hz0, hz1, hz2⟩ := info_parts infoProcess
  simp [zeroValue, typeInfo, hi0, hz0]
def zerosP : List Value := [.int .i64 0, .int .i64 0, .int .i64 0, .int .i64 0, .int .i64 0, .int .i64 0, .bool false, .int .i64 0]
theorem zerosP_eq : (Builtin.zeroCells (Value.agg #[.int .i64 0, .int .i64 0, .int .i64 0, .int .i64 0, .int .i64 0, .int .i64 0, .bool false, .int .i64 0]).cells 1).toList = zerosP := by
  kernel_rfl
theorem zerosP_one : ∀ u ∈ zerosP, u.oneCell' = true := by
  intro u hu
  simp only [zerosP, List.mem_cons, List.not_mem_nil, or_false] at hu
  rcases hu with rfl | rfl | rfl | rfl | rfl | rfl | rfl | rfl <;> rfl
/-- The cells from place j on. -/
theorem flatP_drop (l : List Pcs) (j p : Nat) : (flatP (l.drop j))[p]? = (flatP l)[j * 8 + p]? := by
  rw [flatP_get, flatP_get]
  simp only [cellProcess]
  rw [List.getElem?_drop, show (j * 8 + p) / 8 = j + p / 8 by omega, show (j * 8 + p) % 8 = p % 8 by omega]
theorem wp_append_room {P : Program} {o : Oper} {a : Act} {w : World} {K : Act → World → Prop} {Q : Exit → Act → World → Prop} (s x : Operand) (t : TypeId) (hop : o.op = Op.call { callee := Callee.builtin Builtin.append, args := #[s, x], argTypes := #[t, t] })
    (e : TypeId) (i : TypeInfo) (size : Nat) (h1 : P.underlying t = some (.slice e)) (h2 : P.info? e = some i) (h4 : i.size = size)
    (b off n cap : Nat) (hs : a.eval s = .slice (some ⟨b, off, none⟩) n cap)
    (ad : Addr) (m c : Nat) (news : List Value) (hx : a.eval x = .slice (some ad) m c) (hn : news.length = m * size) (hc : ∀ j u, news[j]? = some u → w.cell? (ad.add j) = some u) (h1c : ∀ u ∈ news, u.oneCell' = true)
    (hroom : n + m ≤ cap) (hspare : ∀ j, j < news.length → (w.cell? ⟨b, off + n * size + j, none⟩).isSome = true ∧ w.frozen? ⟨b, off + n * size + j, none⟩ = false)
    (hK : K (a.put o.dst (.slice (some ⟨b, off, none⟩) (n + m) cap)) (w.setCells b (off + n * size) news)) : o.wp P a w K Q := by
  subst h4
  have hrun := run_append_room_cells (P := P) w t o.type e i h1 h2 b off n cap ad m c news hn hc h1c hroom (fun j hj => (hspare j hj).1) (fun j hj => (hspare j hj).2)
  unfold Oper.wp
  simp [execOp, hop, resolve, invoke, builtin, hs, hx, hrun, Result.andThen]
  exact hK
theorem row_erase {w : World} {g m k j : Nat} {l : List Pcs} (h : Row w g m (doneProcess l (k + 1))) (hl : l.length = k + 1) (hj : j < k + 1) (hm : (k + 1) * 8 ≤ m) : Row (w.setCells g (j * 8) (flatP (l.drop (j + 1)))) g m (doneProcess (l.eraseIdx j) k) := by
  have hln : (flatP (l.drop (j + 1))).length = (k - j) * 8 := by rw [flatP_len, List.length_drop, hl]; congr 1; omega
  refine (Row.setCells (flatP (l.drop (j + 1))) (j * 8) w _ h (by rw [hln]; omega)).mono fun p u hp => ?_
  simp only [doneProcess] at hp ⊢
  rw [hln]
  split at hp
  · rename_i hlt
    simp only [cellProcess] at hp
    by_cases h1 : p / 8 < j
    · rw [if_neg (by omega), if_pos (by omega)]
      rw [List.getElem?_eraseIdx_of_lt h1] at hp
      exact hp
    · rw [if_pos (by omega), flatP_drop, flatP_get]
      simp only [cellProcess]
      rw [List.getElem?_eraseIdx_of_ge (by omega)] at hp
      rw [show (j + 1) * 8 + (p - j * 8) = (p / 8 + 1) * 8 + p % 8 by omega, show ((p / 8 + 1) * 8 + p % 8) / 8 = p / 8 + 1 by omega, show ((p / 8 + 1) * 8 + p % 8) % 8 = p % 8 by omega]
      exact hp
  · cases hp
/-- What is known of each operation of the statement that appends what is behind. -/
def dlF (gz cz k j : Nat) (i : Nat) (v : Value) (vs : List Value) (W : World) : Prop :=
  match i with
  | 0 => v = .slice (some ⟨gz, 0, none⟩) (k + 1) cz
  | 1 => v = .int .i64 j
  | 2 => v = .slice (some ⟨gz, 0, none⟩) j cz
  | 3 => v = .slice (some ⟨gz, 0, none⟩) (k + 1) cz
  | 4 => v = .int .i64 ((j : Int) + 1)
  | 5 => ∃ ad c', v = .slice (some ad) (k - j) c' ∧ (0 < k - j → ad = ⟨gz, (j + 1) * 8, none⟩)
  | 6 => v = .slice (some ⟨gz, 0, none⟩) k cz
  | 7 => v = .slice (some ⟨gz, 0, none⟩) k cz
  | _ => True
def dlS (gz mz k j : Nat) (l : List Pcs) (w0 : World) (d : Nat → Bool) (W : World) : Prop :=
  (d 6 = false → Row W gz mz (doneProcess l (k + 1))) ∧ (d 6 = true → Row W gz mz (doneProcess (l.eraseIdx j) k)) ∧ TyP W gz ∧ Offs (some ⟨gz, 0, none⟩) w0 W
set_option maxHeartbeats 2000000 in
theorem deleteP_c (gz cz k j B : Nat) (l : List Pcs) (hl : l.length = k + 1) (hj : j < k + 1) (hn : k + 1 ≤ 1048576) (w : World) (h : OwnSP w B (k + 1) cz (some ⟨gz, 0, none⟩) l) :
    Calls Try.prog 47 #[.slice (some ⟨gz, 0, none⟩) (k + 1) cz, .int .i64 j, .int .i64 ((j : Int) + 1)] w fun e w' => e = .returned (.slice (some ⟨gz, 0, none⟩) k cz) ∧ OwnSP w' B k cz (some ⟨gz, 0, none⟩) (l.eraseIdx j) ∧ Offs (some ⟨gz, 0, none⟩) w w' := by
  obtain ⟨i0, hi0, hz0, hz1, hz2⟩ := info_parts infoProcess
  have HI := hide hi0
  have HZ1 := hide hz1
  clear hi0 hz0 hz1 hz2
  have HL := hide hl
  rcases h with ⟨h, _⟩ | ⟨gz', mz, hgg, hB, hnc, hcm, hmz, hrow, hty⟩
  · cases h
  obtain rfl : gz = gz' := by simpa using hgg
  have HROW := hide hrow
  have HTY := hide hty
  have HCM := hide hcm
  unfold maxLen at hcm
  have j1 : (j : Int) + 1 ≤ (k : Int) + 1 := by omega
  have j2 : (0 : Int) ≤ (j : Int) := by omega
  have hjj : ((j : Int) == (j : Int) + 1) = false := by simp; omega
  clear hl hrow hty hgg
  go_enter Try.func47, Try.ntmps47
  go_wp2_with fail
  refine wp_flowT' (os := [_, _, _, _, _, _, _, _]) (dlS gz mz k j l w) ((fun i W W' => True)) (dlF gz cz k j) 8 rfl ?_ ?_ ?_ ?_ ?_ ?_ ?_
  · kernel_rfl
  · kernel_rfl
  · kernel_rfl
  · exact (fun i j v vs w1 w2 hij hdd hbf h hc => h)
  · exact ⟨fun _ => HROW.out.drew, (fun e => by cases e), HTY.out, ⟨(Below.refl _ _).drew, fun _ _ _ => rfl⟩⟩
  ·
    refine FlowStepsT.stepY 33 8 1 rfl rfl (by kernel_rfl) (by kernel_rfl) (by kernel_rfl) rfl rfl ?_ ?_
    ·
      intro cc act vs W hcc ha hvs hS hd hi K hK
      clear ha
      have u0 : act.tmps[0]? = some (.slice (some ⟨gz, 0, none⟩) (k + 1) cz) := (hi.out 0 (by kernel_rfl)).trans rfl
      clear hd hi
      clear hvs
      refine wanted_un rfl ?_
      go_simp
      exact hK.out _ _ rfl hS trivial
    refine FlowStepsT.stepY 33 8 2 rfl rfl (by kernel_rfl) (by kernel_rfl) (by kernel_rfl) rfl rfl ?_ ?_
    ·
      intro cc act vs W hcc ha hvs hS hd hi K hK
      clear ha
      have u1 : act.tmps[1]? = some (.int .i64 j) := (hi.out 1 (by kernel_rfl)).trans rfl
      clear hd hi
      clear hvs
      refine wanted_un rfl ?_
      go_simp
      exact hK.out _ _ rfl hS trivial
    refine FlowStepsT.stepY 33 8 3 rfl rfl (by kernel_rfl) (by kernel_rfl) (by kernel_rfl) rfl rfl ?_ ?_
    ·
      intro cc act vs W hcc ha hvs hS hd hi K hK
      clear ha
      have u20 : act.tmps[20]? = some (.slice (some ⟨gz, 0, none⟩) (k + 1) cz) := by obtain ⟨_, u, _, h⟩ := hd.out ⟨0, .data⟩ (some 20) (by simp) rfl rfl; exact u.trans (congrArg some h)
      have u21 : act.tmps[21]? = some (.int .i64 j) := by obtain ⟨_, u, _, h⟩ := hd.out ⟨1, .data⟩ (some 21) (by simp) rfl rfl; exact u.trans (congrArg some h)
      clear hd hi
      clear hvs
      refine wanted_un rfl ?_
      have jc : j ≤ cz := by omega
      go_simp
      exact hK.out _ _ rfl hS trivial
    refine FlowStepsT.stepY 33 8 4 rfl rfl (by kernel_rfl) (by kernel_rfl) (by kernel_rfl) rfl rfl ?_ ?_
    ·
      intro cc act vs W hcc ha hvs hS hd hi K hK
      clear ha
      have u0 : act.tmps[0]? = some (.slice (some ⟨gz, 0, none⟩) (k + 1) cz) := (hi.out 0 (by kernel_rfl)).trans rfl
      clear hd hi
      clear hvs
      refine wanted_un rfl ?_
      go_simp
      exact hK.out _ _ rfl hS trivial
    refine FlowStepsT.stepY 33 8 5 rfl rfl (by kernel_rfl) (by kernel_rfl) (by kernel_rfl) rfl rfl ?_ ?_
    ·
      intro cc act vs W hcc ha hvs hS hd hi K hK
      clear ha
      have u2 : act.tmps[2]? = some (.int .i64 ((j : Int) + 1)) := (hi.out 2 (by kernel_rfl)).trans rfl
      clear hd hi
      clear hvs
      refine wanted_un rfl ?_
      go_simp
      exact hK.out _ _ rfl hS trivial
    refine FlowStepsT.stepY 33 8 6 rfl rfl (by kernel_rfl) (by kernel_rfl) (by kernel_rfl) rfl rfl ?_ ?_
    ·
      intro cc act vs W hcc ha hvs hS hd hi K hK
      clear ha
      have u23 : act.tmps[23]? = some (.slice (some ⟨gz, 0, none⟩) (k + 1) cz) := by obtain ⟨_, u, _, h⟩ := hd.out ⟨3, .data⟩ (some 23) (by simp) rfl rfl; exact u.trans (congrArg some h)
      have u24 : act.tmps[24]? = some (.int .i64 ((j : Int) + 1)) := by obtain ⟨_, u, _, h⟩ := hd.out ⟨4, .data⟩ (some 24) (by simp) rfl rfl; exact u.trans (congrArg some h)
      clear hd hi
      clear hvs
      refine wanted_un rfl ?_
      have j3 : (0 : Int) ≤ (j : Int) + 1 := by omega
      by_cases hcj : cz = j + 1
      · go_simp
        exact hK.out _ _ ⟨_, _, rfl, fun h => absurd h (by omega)⟩ hS trivial
      · go_simp
        exact hK.out _ _ ⟨⟨gz, (j + 1) * 8, none⟩, _, rfl, fun _ => rfl⟩ hS trivial
    refine FlowStepsT.stepY 33 8 7 rfl rfl (by kernel_rfl) (by kernel_rfl) (by kernel_rfl) rfl rfl ?_ ?_
    ·
      intro cc act vs W hcc ha hvs hS hd hi K hK
      clear ha
      have u22 : act.tmps[22]? = some (.slice (some ⟨gz, 0, none⟩) j cz) := by obtain ⟨_, u, _, h⟩ := hd.out ⟨2, .data⟩ (some 22) (by simp) rfl rfl; exact u.trans (congrArg some h)
      obtain ⟨_, u25, _, ⟨ad, c', rfl, had⟩⟩ := hd.out ⟨5, .data⟩ (some 25) (by simp) rfl rfl
      clear hd hi
      clear hvs
      refine wanted_un rfl ?_
      obtain ⟨s1, s2, s3, s4⟩ := hS
      have hr := s1 hcc.out.1
      have hRz := RdProcess_of_rowm hr HL.out
      refine wp_append_room (.tmp 22) (.tmp 25) 25 rfl 39 i0 8 Try.underlying25 HI.out HZ1.out gz 0 j cz (by simp [Act.eval, u22]) ad (k - j) c' (flatP (l.drop (j + 1))) (by simp [Act.eval, u25]) (by rw [flatP_len, List.length_drop, HL.out]; congr 1; omega) (fun q u hq => ?_) (flatP_one _) (by omega) (fun q hq => ?_) ?_
      · have h0 : 0 < k - j := by
          have := (List.getElem?_eq_some_iff.1 hq).1
          rw [flatP_len, List.length_drop, HL.out] at this
          omega
        obtain rfl := had h0
        rw [Addr.add_lit]
        rw [flatP_drop] at hq
        have := flatP_cells hRz _ u hq
        rw [Nat.zero_add] at this
        exact this
      · rw [flatP_len, List.length_drop, HL.out] at hq
        exact ⟨hr.some (by omega), hr.frozen _⟩
      · have hkk : j + (k - j) = k := by omega
        rw [hkk, Nat.zero_add]
        exact hK.out _ _ rfl ⟨(fun e => by cases e), fun _ => row_erase hr HL.out hj (by omega), TyP.setCells _ _ _ s3, Offs.setCells _ _ _ s4⟩ trivial
    refine FlowStepsT.stepY 33 8 8 rfl rfl (by kernel_rfl) (by kernel_rfl) (by kernel_rfl) rfl rfl ?_ ?_
    ·
      intro cc act vs W hcc ha hvs hS hd hi K hK
      clear ha
      have u26 : act.tmps[26]? = some (.slice (some ⟨gz, 0, none⟩) k cz) := by obtain ⟨_, u, _, h⟩ := hd.out ⟨6, .data⟩ (some 26) (by simp) rfl rfl; exact u.trans (congrArg some h)
      clear hd hi
      clear hvs
      refine wanted_un rfl ?_
      go_simp
      exact hK.out _ _ rfl hS trivial
    exact FlowStepsT.nil
  · intro d ρ W hdd hS hd
    simp only [putFrom, Act.put, List.setIfInBounds_toArray, List.set_cons_zero, List.set_cons_succ, Nat.reduceAdd]
    have e7 : ρ 7 = .slice (some ⟨gz, 0, none⟩) k cz := hd.out 7 (by decide) (by kernel_rfl)
    clear hd
    generalize ρ 7 = z7 at e7 ⊢
    subst e7
    have h6 := hdd 6 (by omega)
    have hr := hide (hS.2.1 h6)
    have hy := hide hS.2.2.1
    have ho := hide hS.2.2.2
    clear hS hdd h6
    have q1 : ∀ q, q < zerosP.length → (W.cell? ⟨gz, k * 8 + q, none⟩).isSome = true := fun q hq => hr.out.some (by simp [zerosP] at hq; omega)
    have q2 : ∀ q, q < zerosP.length → W.frozen? ⟨gz, k * 8 + q, none⟩ = false := fun q hq => hr.out.frozen _
    have HQ1 := hide q1
    have HQ2 := hide q2
    clear q1 q2
    go_wp2_with fail
    rw [run_clearC W 25 39 0 _ Try.underlying25 zeroP gz (k * 8) 1 (cz - k) (by omega) zerosP zerosP_eq HQ1.out HQ2.out zerosP_one]
    have hr2 := hide (Row.setCells zerosP (k * 8) W _ hr.out (by simp [zerosP]; omega))
    have hy2 := hide (TyP.setCells zerosP (k * 8) (b := gz) W hy.out)
    have ho2 := hide (Offs.setCells zerosP (k * 8) W ho.out)
    generalize W.setCells gz (k * 8) zerosP = W2 at *
    go_wp2_with fail
    go_ret
    exact ⟨rfl, .inr ⟨gz, mz, rfl, hB, by omega, HCM.out, hmz, hr2.out.mono (fun p u hp => by
      have : p < k * 8 := by
        simp only [doneProcess] at hp
        split at hp
        · assumption
        · cases hp
      rw [if_neg (by omega)]; exact hp), hy2.out⟩, ho2.out⟩
end Go.Proofs.Ytlfchcjollcdhaa
