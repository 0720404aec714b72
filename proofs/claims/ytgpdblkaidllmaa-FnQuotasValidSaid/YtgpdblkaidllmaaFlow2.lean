/-
  A region that draws its order and ends in operations whose order is forced. No condition.
-/
import Derived.Test.YtgpdblkaidllmaaFlow
namespace Go.Proofs.Ytgpdblkaidllmaa
open Go.RowKit
set_option linter.unusedSimpArgs false
set_option linter.unusedVariables false

/-- Operation number i waits for number j, through others too. -/
def reach (os : List Oper) : Nat → Oper → Nat → Bool
  | 0, _, _ => false
  | f + 1, o, j => o.after.any fun e => Region.binds .any e && (e.on == j || match os[e.on]? with | some x => reach os f x j | none => false)
/-- The forced end: each operation waits for the one ahead of it, and for none behind. -/
def tailOk : Nat → List Oper → Bool
  | _, [] => true
  | m, o :: ts => o.guard.isNone && o.after.all (fun e => decide (e.on < m)) && (match ts with | [] => true | t :: _ => t.after.any fun e => Region.binds .any e && e.on == m) && tailOk (m + 1) ts
/-- The forced end, walked. -/
def tailWp (P : Program) (Q : Exit → Act → World → Prop) : List Oper → Act → World → Prop
  | [], a, w => Q .normal a w
  | o :: ts, a, w => Oper.wp P o a w (fun a' w' => tailWp P Q ts a' w') Q

theorem reach_listed {os : List Oper} {listed : Array Bool} (hcl : ∀ i o, os[i]? = some o → listed.getD i true = true → ∀ e ∈ o.after, listed.getD e.on true = true) :
    ∀ (f : Nat) (o : Oper) (j : Nat), reach os f o j = true → (∀ e ∈ o.after, Region.binds .any e = true → listed.getD e.on true = true) → listed.getD j true = true
  | 0, _, _, h, _ => by simp [reach] at h
  | f + 1, o, j, h, hd => by
    simp only [reach] at h
    obtain ⟨e, he, hb⟩ := Array.any_eq_true'.1 h
    simp only [Bool.and_eq_true, Bool.or_eq_true, beq_iff_eq] at hb
    obtain ⟨hb1, hb2⟩ := hb
    rcases hb2 with hb2 | hb2
    · rw [← hb2]; exact hd e he hb1
    · split at hb2
      · rename_i x hx
        exact reach_listed hcl f x j hb2 fun e' he' _ => hcl e.on x hx (hd e he hb1) e' he'
      · cases hb2
theorem tailOk_at : ∀ (ts : List Oper) (m j : Nat) (o : Oper), tailOk m ts = true → ts[j]? = some o →
    o.guard = none ∧ (∀ e ∈ o.after, e.on < m + j) ∧ (∀ t, ts[j + 1]? = some t → ∃ e ∈ t.after, Region.binds .any e = true ∧ e.on = m + j)
  | [], _, _, _, _, h => by simp at h
  | x :: ts, m, 0, o, hs, h => by
    simp only [List.getElem?_cons_zero, Option.some.injEq] at h
    subst h
    simp only [tailOk, Bool.and_eq_true, Option.isNone_iff_eq_none] at hs
    refine ⟨hs.1.1.1, fun e he => by simpa using Array.all_eq_true_iff_forall_mem.1 hs.1.1.2 e he, fun t ht => ?_⟩
    cases ts with
    | nil => simp at ht
    | cons y ts =>
      simp only [Nat.zero_add, List.getElem?_cons_succ, List.getElem?_cons_zero, Option.some.injEq] at ht
      subst ht
      obtain ⟨e, he, hb⟩ := Array.any_eq_true'.1 hs.1.2
      simp only [Bool.and_eq_true, beq_iff_eq] at hb
      exact ⟨e, he, hb.1, by omega⟩
  | x :: ts, m, j + 1, o, hs, h => by
    simp only [tailOk, Bool.and_eq_true] at hs
    have := tailOk_at ts (m + 1) j o hs.2 (by simpa using h)
    refine ⟨this.1, fun e he => by have := this.2.1 e he; omega, fun t ht => ?_⟩
    obtain ⟨e, he, hb, ho⟩ := this.2.2 t (by simpa using ht)
    exact ⟨e, he, hb, by omega⟩

section
variable {P : Program} {Q : Exit → Act → World → Prop}
theorem tail_any {ops : Array Oper} {os ts : List Oper} (hops : ops.toList = os ++ ts) : ∀ (rest done : List Oper) (fuel : Nat) (listed : Array Bool) (a : Act) (w : World), ts = done ++ rest → tailOk os.length ts = true →
    listed.size = ops.size → rest.length ≤ fuel → (∀ j, j < os.length + done.length → listed.getD j true = true) → (∀ j, os.length + done.length ≤ j → j < ops.size → listed.getD j true = false) →
    tailWp P Q rest a w → wpAny P .any ops Q fuel listed a w := by
  have hsz : ops.size = os.length + ts.length := by rw [← Array.length_toList, hops]; simp
  have gt : ∀ j o, ts[j]? = some o → ops[os.length + j]? = some o := fun j o h => by
    rw [← Array.getElem?_toList, hops, List.getElem?_append_right (by omega)]
    simpa using h
  intro rest
  induction rest with
  | nil =>
    intro done fuel listed a w hts hok hs hfu hl hu hw
    refine wpAny_done ?_ hw _
    cases hr : Region.ready .any ops listed with
    | nil => rfl
    | cons j r =>
      have hj : j ∈ Region.ready .any ops listed := by rw [hr]; simp
      obtain ⟨hju, x, hx, _⟩ := mem_ready.1 hj
      have hjl : j < ops.size := (Array.getElem?_eq_some_iff.1 hx).1
      rw [hl j (by rw [hts] at hsz; simp at hsz; omega)] at hju
      cases hju
  | cons o rest ih =>
    intro done fuel listed a w hts hok hs hfu hl hu hw
    obtain ⟨f, rfl⟩ : ∃ f, fuel = f + 1 := ⟨fuel - 1, by simp at hfu; omega⟩
    have hto : ts[done.length]? = some o := by rw [hts]; simp
    have hk := tailOk_at ts os.length done.length o hok hto
    have hoo := gt _ _ hto
    have hlt : os.length + done.length < ops.size := (Array.getElem?_eq_some_iff.1 hoo).1
    have hmem : os.length + done.length ∈ Region.ready .any ops listed := mem_ready.2 ⟨hu _ (Nat.le_refl _) hlt, o, hoo, fun e he hb => by
      have h1 := hk.2.1 e he
      have := hl e.on h1
      unfold Array.getD at this ⊢
      rw [dif_pos (by omega)] at this ⊢
      exact this⟩
    have only : ∀ j, j ∈ Region.ready .any ops listed → j = os.length + done.length := fun j hj => by
      obtain ⟨hju, x, hx, hdep⟩ := mem_ready.1 hj
      have hjl : j < ops.size := (Array.getElem?_eq_some_iff.1 hx).1
      rcases Nat.lt_or_ge j (os.length + done.length) with h1 | h1
      · rw [hl j h1] at hju; cases hju
      · rcases Nat.eq_or_lt_of_le h1 with h2 | h2
        · exact h2.symm
        · obtain ⟨q, rfl⟩ : ∃ q, j = os.length + (q + 1) := ⟨j - os.length - 1, by omega⟩
          have hxt : ts[q + 1]? = some x := by
            rw [← Array.getElem?_toList, hops, List.getElem?_append_right (by omega)] at hx
            simpa using hx
          obtain ⟨y, hy⟩ : ∃ y, ts[q]? = some y := ⟨_, List.getElem?_eq_getElem (by have := (List.getElem?_eq_some_iff.1 hxt).1; omega)⟩
          obtain ⟨e, he, hb, ho⟩ := (tailOk_at ts os.length q y hok hy).2.2 x hxt
          have := hdep e he hb
          have h3 := hu e.on (by omega) (by omega)
          unfold Array.getD at this h3
          rw [dif_pos (by omega)] at this h3
          rw [h3] at this; cases this
    refine ⟨fun hr => (by rw [hr] at hmem; cases hmem), fun j hj => ?_⟩
    obtain rfl := only j hj
    refine wpOp_step hoo fun K' hK => ?_
    rw [if_pos (by simp only [Region.wanted, hk.1])]
    refine Oper.wp_mono (fun a' w' h' => hK _ _ ?_) hw
    refine ih (done ++ [o]) f _ a' w' (by rw [hts]; simp) hok (by simpa using hs) (by simp at hfu; omega) (fun j hj => ?_) (fun j hj hjs => ?_) h'
    · simp at hj
      by_cases e : os.length + done.length = j
      · subst e; rw [Array.getD_eq_getD_getElem?, Array.getElem?_setIfInBounds_self_of_lt (by omega)]; rfl
      · rw [getD_set_ne true e]; exact hl j (by omega)
    · simp at hj
      rw [getD_set_ne true (by omega)]
      exact hu j (by omega) hjs

theorem flow_tail {S : Nat → World → Prop} {C : World → World → Prop} {F : Nat → Value → List Value → World → Prop} {a0 : Act} {os ts : List Oper} {t1 : Oper} {tr : List Oper} {ops : Array Oper} (hops : ops.toList = os ++ ts) (hts : ts = t1 :: tr) (fu : Nat)
    (hok : flowOk 0 os = true) (hap : apartL os = true) (htail : tailOk os.length ts = true) (hrch : ((List.range os.length).all fun j => reach os fu t1 j) = true)
    (hF : ∀ i v vs w w', F i v vs w → C w w' → F i v vs w') (steps : FlowSteps P os.toArray Q S C F a0 0 os)
    (done : ∀ c ρ w', c ≤ os.length → S c w' → (∀ i o, os[i]? = some o → F i (ρ i) (vals ρ o) w') → tailWp P Q ts (putFrom ρ 0 os a0) w') :
    ∀ (fuel : Nat) (listed : Array Bool) (c : Nat) (ρ : Nat → Value) (w : World), fuel + c = ops.size → listed.size = ops.size → (∀ j, os.length ≤ j → j < ops.size → listed.getD j true = false) →
      ((List.range ops.size).filter fun i => !listed.getD i true).length ≤ fuel →
      (∀ i o, os[i]? = some o → listed.getD i true = true → F i (ρ i) (vals ρ o) w ∧ ∀ e ∈ o.after, listed.getD e.on true = true) → S c w →
      wpAny P .any ops Q fuel listed (putFrom ρ 0 os a0) w := by
  have hsz : ops.size = os.length + ts.length := by rw [← Array.length_toList, hops]; simp
  have hsz1 : os.length < ops.size := by rw [hsz, hts]; simp
  have ge : ∀ i, i < os.length → ops[i]? = os[i]? := fun i hi => by rw [← Array.getElem?_toList, hops, List.getElem?_append_left hi]
  have gt : ∀ j o, ts[j]? = some o → ops[os.length + j]? = some o := fun j o h => by
    rw [← Array.getElem?_toList, hops, List.getElem?_append_right (by omega)]
    simpa using h
  have g1 : ops[os.length]? = some t1 := by have := gt 0 t1 (by rw [hts]; rfl); simpa using this
  have same : ∀ (listed : Array Bool) (i : Nat), listed.size = ops.size → i < ops.size → listed.getD i false = listed.getD i true := fun listed i hs hi => by
    unfold Array.getD; rw [dif_pos (by omega), dif_pos (by omega)]
  have keep : ∀ (listed : Array Bool) (i q : Nat), listed.getD i true = false → listed.getD q true = true → (listed.setIfInBounds i true).getD q true = true := fun listed i q hu hq => by
    by_cases e : i = q
    · subst e; rw [hu] at hq; cases hq
    · rw [getD_set_ne true e]; exact hq
  have hk1 := tailOk_at ts os.length 0 t1 htail (by rw [hts]; rfl)
  have cnt : ∀ (listed : Array Bool) (i : Nat), listed.size = ops.size → i < ops.size → listed.getD i true = false →
      ((List.range ops.size).filter fun j => !(listed.setIfInBounds i true).getD j true).length < ((List.range ops.size).filter fun j => !listed.getD j true).length := fun listed i hs hi hu =>
    filt_lt (p := fun j => !listed.getD j true) (q := fun j => !(listed.setIfInBounds i true).getD j true) (i := i) (fun j hj => by
      simp only [Bool.not_eq_true'] at hj ⊢
      by_cases e : i = j
      · subst e
        rw [Array.getD_eq_getD_getElem?, Array.getElem?_setIfInBounds_self_of_lt (by omega)] at hj
        cases hj
      · rw [getD_set_ne true e] at hj; exact hj) (by simp only [hu]; rfl) (by
        rw [Array.getD_eq_getD_getElem?, Array.getElem?_setIfInBounds_self_of_lt (by omega)]; rfl) (List.range ops.size) (List.mem_range.2 hi)
  intro fuel
  induction fuel with
  | zero =>
    intro listed c ρ w hc hs hul hl hf hS
    have hm : os.length ∈ (List.range ops.size).filter fun i => !listed.getD i true := List.mem_filter.2 ⟨List.mem_range.2 hsz1, by simp only [hul os.length (Nat.le_refl _) hsz1]; rfl⟩
    have := List.length_pos_of_mem hm
    omega
  | succ fuel ih =>
    intro listed c ρ w hc hs hul hl hf hS
    -- all of the first part listed: the tail
    by_cases hall : ∀ j, j < os.length → listed.getD j true = true
    · have hcl : c ≤ os.length := by
        have : ∀ (m : Nat), m ≤ ts.length → m ≤ ((List.range ops.size).filter fun i => !listed.getD i true).length := fun m hm => by
          have hsub : ((List.range' os.length m).filter fun i => !listed.getD i true).length ≤ ((List.range ops.size).filter fun i => !listed.getD i true).length := by
            have hperm : (List.range ops.size) = List.range' 0 os.length ++ (List.range' os.length m ++ List.range' (os.length + m) (ops.size - os.length - m)) := by
              rw [List.range_eq_range']
              have e1 : ops.size = os.length + (m + (ops.size - os.length - m)) := by omega
              rw [show List.range' os.length m ++ List.range' (os.length + m) (ops.size - os.length - m) = List.range' os.length (m + (ops.size - os.length - m)) from by rw [List.range'_append_1]]
              rw [show List.range' 0 os.length ++ List.range' os.length (m + (ops.size - os.length - m)) = List.range' 0 (os.length + (m + (ops.size - os.length - m))) from by
                have := List.range'_append_1 (s := 0) (m := os.length) (n := m + (ops.size - os.length - m)); rw [Nat.zero_add] at this; exact this]
              rw [← e1]
            rw [hperm, List.filter_append, List.filter_append, List.length_append, List.length_append]
            omega
          have hfull : (List.range' os.length m).filter (fun i => !listed.getD i true) = List.range' os.length m := List.filter_eq_self.2 fun i hi => by
            have := List.mem_range'_1.1 hi
            rw [hul i (by omega) (by omega)]; rfl
          rw [hfull, List.length_range'] at hsub
          exact hsub
        have := this ts.length (Nat.le_refl _)
        omega
      refine tail_any hops ts [] (fuel + 1) listed _ w (by simp) htail hs (by omega) (fun j hj => hall j (by simpa using hj)) (fun j hj hjs => hul j (by simpa using hj) hjs) ?_
      exact done c ρ w hcl hS fun i x hx => (hf i x hx (hall i (List.getElem?_eq_some_iff.1 hx).1)).1
    · -- what may come up is of the first part
      have first : ∀ i, i ∈ Region.ready .any ops listed → i < os.length := fun i hi => by
        obtain ⟨hu, o, ho, hdep⟩ := mem_ready.1 hi
        have hlt : i < ops.size := (Array.getElem?_eq_some_iff.1 ho).1
        rcases Nat.lt_or_ge i os.length with h1 | h1
        · exact h1
        · exfalso
          rcases Nat.eq_or_lt_of_le h1 with h2 | h2
          · subst h2
            obtain rfl : o = t1 := by simpa using ho.symm.trans g1
            refine hall fun j hj => reach_listed (fun i x hx hli => (hf i x hx hli).2) fu o j (by simpa using (List.all_eq_true.1 hrch) j (List.mem_range.2 hj)) fun e he hb => ?_
            have h3 := hk1.2.1 e he
            rw [← same listed e.on hs (by omega)]; exact hdep e he hb
          · obtain ⟨q, rfl⟩ : ∃ q, i = os.length + (q + 1) := ⟨i - os.length - 1, by omega⟩
            have hxt : ts[q + 1]? = some o := by
              rw [← Array.getElem?_toList, hops, List.getElem?_append_right (by omega)] at ho
              simpa using ho
            obtain ⟨y, hy⟩ : ∃ y, ts[q]? = some y := ⟨_, List.getElem?_eq_getElem (by have := (List.getElem?_eq_some_iff.1 hxt).1; omega)⟩
            obtain ⟨e, he, hb, hoe⟩ := (tailOk_at ts os.length q y htail hy).2.2 o hxt
            have h3 := hdep e he hb
            rw [same listed e.on hs (by omega), hul e.on (by omega) (by omega)] at h3
            cases h3
      refine ⟨fun hr => ?_, fun i hi => ?_⟩
      · -- something of the first part may come up
        exfalso
        refine hall fun j => ?_
        induction j using Nat.strongRecOn with
        | ind j ihj =>
          intro hj
          cases hu : listed.getD j true with
          | true => rfl
          | false =>
            have ho : os[j]? = some (os[j]'hj) := List.getElem?_eq_getElem hj
            have hk := flowOk_at os 0 j _ hok ho
            have : j ∈ Region.ready .any ops listed := mem_ready.2 ⟨hu, _, (ge j hj).trans ho, fun e he hb => by
              have hlt := (hk.2 e he).2
              rw [same listed e.on hs (by omega)]
              exact ihj e.on (by omega) (by omega)⟩
            rw [hr] at this
            cases this
      · have hio := first i hi
        obtain ⟨hu, o, ho, hdep⟩ := mem_ready.1 hi
        have hol : os[i]? = some o := (ge i hio).symm.trans ho
        have hk := flowOk_at os 0 i o hok hol
        have hst := FlowSteps.at os 0 i o steps hol
        rw [Nat.zero_add] at hst
        have hdep' : ∀ e ∈ o.after, listed.getD e.on true = true := fun e he => by
          have h1 := hk.2 e he
          rw [← same listed e.on hs (by omega)]; exact hdep e he h1.1
        have hcc : c < os.length := by
          have h1 := cnt listed i hs (by omega) hu
          have : ∀ (m : Nat), m ≤ ts.length → m ≤ ((List.range ops.size).filter fun q => !(listed.setIfInBounds i true).getD q true).length := fun m hm => by
            have hsub : ((List.range' os.length m).filter fun q => !(listed.setIfInBounds i true).getD q true).length ≤ ((List.range ops.size).filter fun q => !(listed.setIfInBounds i true).getD q true).length := by
              have hperm : (List.range ops.size) = List.range' 0 os.length ++ (List.range' os.length m ++ List.range' (os.length + m) (ops.size - os.length - m)) := by
                rw [List.range_eq_range']
                have e1 : ops.size = os.length + (m + (ops.size - os.length - m)) := by omega
                rw [show List.range' os.length m ++ List.range' (os.length + m) (ops.size - os.length - m) = List.range' os.length (m + (ops.size - os.length - m)) from by rw [List.range'_append_1]]
                rw [show List.range' 0 os.length ++ List.range' os.length (m + (ops.size - os.length - m)) = List.range' 0 (os.length + (m + (ops.size - os.length - m))) from by
                  have := List.range'_append_1 (s := 0) (m := os.length) (n := m + (ops.size - os.length - m)); rw [Nat.zero_add] at this; exact this]
                rw [← e1]
              rw [hperm, List.filter_append, List.filter_append, List.length_append, List.length_append]
              omega
            have hfull : (List.range' os.length m).filter (fun q => !(listed.setIfInBounds i true).getD q true) = List.range' os.length m := List.filter_eq_self.2 fun q hq => by
              have := List.mem_range'_1.1 hq
              rw [getD_set_ne true (by omega), hul q (by omega) (by omega)]; rfl
            rw [hfull, List.length_range'] at hsub
            exact hsub
          have := this ts.length (Nat.le_refl _)
          omega
        refine wpOp_step ho fun K' hK => ?_
        rw [if_pos (by simp only [Region.wanted, hk.1])]
        refine hst c ρ w (by simpa using hcc) hS (fun e he x hx => (hf e.on x (by simpa using hx) (hdep' e he)).1) K' fun a' v w' ha' hFv hS' hC' => hK _ _ ?_
        rw [ha', putFrom_put os 0 i o a0 hap hol, Nat.zero_add]
        refine ih _ (c + 1) _ w' (by omega) (by simpa using hs) (fun j hj hjs => by rw [getD_set_ne true (by omega)]; exact hul j hj hjs) ?_ (fun j x hx hlj => ?_) hS'
        · have := cnt listed i hs (by omega) hu
          omega
        · by_cases e : j = i
          · subst e
            obtain rfl : o = x := by simpa using hol.symm.trans hx
            rw [vals_upd (fun e he => by have := (hk.2 e he).2; omega)]
            exact ⟨by simpa [upd] using hFv, fun e he => keep _ _ _ hu (hdep' e he)⟩
          · rw [getD_set_ne true (Ne.symm e)] at hlj
            obtain ⟨h1, h2⟩ := hf j x hx hlj
            have hj : upd ρ i v j = ρ j := by simp [upd, e]
            rw [hj, vals_upd (fun e he hei => by have := h2 e he; rw [hei, hu] at this; cases this)]
            exact ⟨hF j _ _ w w' h1 hC', fun e he => keep _ _ _ hu (h2 e he)⟩

/-- **A region that draws its order and ends in operations whose order is forced.** -/
theorem wp_flowE {id : Nat} {os ts : List Oper} {t1 : Oper} {tr : List Oper} {ops : Array Oper} {a0 : Act} {w : World} (S : Nat → World → Prop) (C : World → World → Prop) (F : Nat → Value → List Value → World → Prop) (N : Nat) (hops : ops.toList = os ++ ts) (hts : ts = t1 :: tr) (hN : os.length = N) (hm : P.follows .mixedOrders = true)
    (hok : flowOk 0 os = true) (hap : apartL os = true) (htail : tailOk os.length ts = true) (hrch : ((List.range os.length).all fun j => reach os 40 t1 j) = true) (hF : ∀ i v vs w w', F i v vs w → C w w' → F i v vs w') (h0 : S 0 w.drew)
    (steps : FlowSteps P os.toArray Q S C F a0 0 os)
    (done : ∀ c ρ w', c ≤ N → S c w' → Hid (∀ j, j < N → F j (ρ j) (valsAt ρ os j) w') → tailWp P Q ts (putFrom ρ 0 os a0) w') : (Code.region id ops true).wp P Q a0 w := by
  subst hN
  have hsz : ops.size = os.length + ts.length := by rw [← Array.length_toList, hops]; simp
  refine wp_region_any hm ?_
  obtain ⟨ρ, hρ⟩ := putFrom_start os a0
  have := flow_tail hops hts 40 hok hap htail hrch hF steps (fun c ρ w' hc hS h => done c ρ w' hc hS (fun j hj => by
    have hx : os[j]? = some (os[j]'hj) := List.getElem?_eq_getElem hj
    have := h j _ hx
    simp only [valsAt, hx]; exact this)) ops.size (Array.replicate ops.size false) 0 ρ w.drew (by omega) (by simp) (fun j hj hjs => by simp [Array.getD, hjs]) ?_ ?_ h0
  · rw [hρ] at this; exact this
  · refine Nat.le_trans (List.length_filter_le _ _) (by simp)
  · intro i o ho hl
    have := (List.getElem?_eq_some_iff.1 ho).1
    have h2 : i < ops.size := by omega
    simp [Array.getD, h2] at hl
end
end Go.Proofs.Ytgpdblkaidllmaa
