/-
  A region that draws its order: as wp_flowX; an operation that another waits for, over whatever way, stands ahead of it and disturbs nothing of it. No condition.
-/
import Derived.Test.YtgpdblkaidllmaaDoorFlowX
namespace Go.Proofs.YtgpdblkaidllmaaDoor
open Go.RowKit
set_option linter.unusedSimpArgs false
set_option linter.unusedVariables false

/-- Operation j waits for i, through others too. -/
def beforeX (os : List Oper) (i j : Nat) : Bool := match os[j]? with | some x => reachX os 60 x i | none => false
section
variable {P : Program} {Q : Exit → Act → World → Prop}
theorem flow_anyZ {os : List Oper} {S : Nat → World → Prop} {C : Nat → World → World → Prop} {F : Nat → Value → List Value → World → Prop} {a0 : Act} (hok : flowOkX 0 os = true) (hap : apartL os = true)
    (hF : ∀ i j v vs w w', i ≠ j → dead os i j = false → beforeX os i j = false → F j v vs w → C i w w' → F j v vs w') (steps : FlowStepsX P os Q S C F a0 0 os)
    (done : ∀ c ρ w', c ≤ os.length → S c w' → (∀ i o, os[i]? = some o → (∀ k, k < os.length → dead os k i = false) → F i (ρ i) (valsB ρ o) w') → Q .normal (putFrom ρ 0 os a0) w') :
    ∀ (fuel : Nat) (listed : Array Bool) (c : Nat) (ρ : Nat → Value) (w : World), fuel + c = os.length → listed.size = os.length →
      ((List.range os.length).filter fun i => !listed.getD i true).length ≤ fuel →
      (∀ i o, os[i]? = some o → listed.getD i true = true → (F i (ρ i) (valsB ρ o) w ∨ ∃ k, k < os.length ∧ listed.getD k true = true ∧ dead os k i = true) ∧ ∀ e ∈ o.after, Region.binds .any e = true → listed.getD e.on true = true) →
      (∀ (j : Nat) (x : Oper) (d : Tmp), os[j]? = some x → x.dst = some d → listed.getD j true = false → ρ j = a0.tmps.getD d undef) → S c w →
      wpAny P .any os.toArray Q fuel listed (putFrom ρ 0 os a0) w := by
  have same : ∀ (listed : Array Bool) (i : Nat), listed.size = os.length → i < os.length → listed.getD i false = listed.getD i true := fun listed i hs hi => by
    unfold Array.getD; rw [dif_pos (by omega), dif_pos (by omega)]
  have ge : ∀ i : Nat, os.toArray[i]? = os[i]? := fun i => List.getElem?_toArray
  have all : ∀ (listed : Array Bool), listed.size = os.length → Region.ready .any os.toArray listed = [] → ∀ i, i < os.length → listed.getD i true = true := by
    intro listed hs hr i
    induction i using Nat.strongRecOn with
    | ind i ih =>
      intro hi
      cases hu : listed.getD i true with
      | true => rfl
      | false =>
        have ho : os[i]? = some (os[i]'hi) := List.getElem?_eq_getElem hi
        have hk := flowOkX_at os 0 i _ hok ho
        have : i ∈ Region.ready .any os.toArray listed := mem_ready.2 ⟨hu, _, (ge i).trans ho, fun e he hb => by
          have hlt := hk e he hb
          rw [same listed e.on hs (by omega)]
          exact ih e.on (by omega) (by omega)⟩
        rw [hr] at this
        cases this
  have lt : ∀ {i : Nat} {o : Oper}, os[i]? = some o → i < os.length := fun h => (List.getElem?_eq_some_iff.1 h).1
  have fin : ∀ (listed : Array Bool) (w : World) (ρ : Nat → Value), (∀ i o, os[i]? = some o → listed.getD i true = true → (F i (ρ i) (valsB ρ o) w ∨ ∃ k, k < os.length ∧ listed.getD k true = true ∧ dead os k i = true) ∧ ∀ e ∈ o.after, Region.binds .any e = true → listed.getD e.on true = true) →
      ∀ i o, os[i]? = some o → listed.getD i true = true → (∀ k, k < os.length → dead os k i = false) → F i (ρ i) (valsB ρ o) w := by
    intro listed w ρ hf i o ho hl hnd
    rcases (hf i o ho hl).1 with h | ⟨k, hk, _, hd⟩
    · exact h
    · rw [hnd k hk] at hd; cases hd
  intro fuel
  induction fuel with
  | zero =>
    intro listed c ρ w hc hs hl hf hn hS
    have hr : Region.ready .any os.toArray listed = [] := by
      cases hr : Region.ready .any os.toArray listed with
      | nil => rfl
      | cons i r =>
        have hi : i ∈ Region.ready .any os.toArray listed := by rw [hr]; simp
        obtain ⟨hu, o, ho, _⟩ := mem_ready.1 hi
        rw [ge] at ho
        have hm : i ∈ (List.range os.length).filter fun i => !listed.getD i true := List.mem_filter.2 ⟨List.mem_range.2 (lt ho), by simp only [hu]; rfl⟩
        have := List.length_pos_of_mem hm
        omega
    exact ⟨hr, done c ρ w (by omega) hS (fun i o ho hnd => fin listed w ρ hf i o ho (all listed hs hr i (lt ho)) hnd)⟩
  | succ fuel ih =>
    intro listed c ρ w hc hs hl hf hn hS
    refine ⟨fun hr => done c ρ w (by omega) hS (fun i o ho hnd => fin listed w ρ hf i o ho (all listed hs hr i (lt ho)) hnd), fun i hi => ?_⟩
    obtain ⟨hu, o, ho, hdep⟩ := mem_ready.1 hi
    have hol : os[i]? = some o := (ge i).symm.trans ho
    have hlt := lt hol
    have hk := flowOkX_at os 0 i o hok hol
    have hst := FlowStepsX.at os 0 i o steps hol
    rw [Nat.zero_add] at hst
    have hdep' : ∀ e ∈ o.after, Region.binds .any e = true → listed.getD e.on true = true := fun e he hb => by
      have h1 := hk e he hb
      rw [← same listed e.on hs (by omega)]; exact hdep e he hb
    refine wpOp_step ho fun K' hK => ?_
    refine hst c ρ w (by omega) hS (fun e he hb0 => by
      have hb := isData_binds hb0
      have h1 := hk e he hb
      have hx : os[e.on]? = some (os[e.on]'(by omega)) := List.getElem?_eq_getElem (show e.on < os.length by omega)
      have := (hf e.on _ hx (hdep' e he hb)).1
      simp only [valsBAt, hx]
      rcases this with h | ⟨k, hkl, hkk, hd⟩
      · exact h
      · exfalso
        simp only [dead, Bool.and_eq_true] at hd
        have hx2 := List.all_eq_true.1 hd.2 i (List.mem_range.2 hlt)
        have hok : os[k]? = some (os[k]'hkl) := List.getElem?_eq_getElem hkl
        simp only [hol, hok, Bool.or_eq_true, Bool.not_eq_true', beq_iff_eq] at hx2
        have hw : uses o e.on = true := Array.any_eq_true'.2 ⟨e, he, by simp [hb0]⟩
        rcases hx2 with (h | h) | h
        · subst h; rw [hu] at hkk; cases hkk
        · rw [hw] at h; cases h
        · have := reachX_listed (L := fun q => listed.getD q true = true) (fun q x hq hl => (hf q x hq hl).2) 60 _ i h (hf k _ hok hkk).2
          rw [hu] at this; cases this) (fun j x d hj hd hw => by
      cases hlj : listed.getD j true with
      | false => exact hn j x d hj hd hlj
      | true =>
        obtain ⟨e, he, hb⟩ := Array.any_eq_true'.1 hw
        simp only [Bool.and_eq_true, beq_iff_eq] at hb
        have := (hf j x hj hlj).2 e he hb.1
        rw [hb.2, hu] at this; cases this) K' fun v w' hFv hS' hC' => hK _ _ ?_
    rw [putFrom_put os 0 i o a0 hap hol, Nat.zero_add]
    have keep : ∀ q, listed.getD q true = true → (listed.setIfInBounds i true).getD q true = true := fun q hq => by
      by_cases e : i = q
      · subst e; rw [hu] at hq; cases hq
      · rw [getD_set_ne true e]; exact hq
    have hself : (listed.setIfInBounds i true).getD i true = true := by
      rw [Array.getD_eq_getD_getElem?, Array.getElem?_setIfInBounds_self_of_lt (by omega)]; rfl
    refine ih _ (c + 1) _ w' (by omega) (by simpa using hs) ?_ (fun j x hx hlj => ?_) (fun j x d hj hd hlj => ?_) hS'
    · have := filt_lt (p := fun j => !listed.getD j true) (q := fun j => !(listed.setIfInBounds i true).getD j true) (i := i) (fun j hj => by
        simp only [Bool.not_eq_true'] at hj ⊢
        by_cases e : i = j
        · subst e; rw [hself] at hj; cases hj
        · rw [getD_set_ne true e] at hj; exact hj) (by simp only [hu]; rfl) (by rw [hself]; rfl) (List.range os.length) (List.mem_range.2 hlt)
      omega
    · by_cases e : j = i
      · subst e
        obtain rfl : o = x := by simpa using hol.symm.trans hx
        rw [valsB_upd (fun e he hb => by have := hk e he hb; omega)]
        exact ⟨.inl (by simpa [upd] using hFv), fun e he hb => keep _ (hdep' e he hb)⟩
      · rw [getD_set_ne true (Ne.symm e)] at hlj
        obtain ⟨h1, h2⟩ := hf j x hx hlj
        have hj : upd ρ i v j = ρ j := by simp [upd, e]
        rw [hj, valsB_upd (fun e he hb hei => by have := h2 e he hb; rw [hei, hu] at this; cases this)]
        refine ⟨?_, fun e he hb => keep _ (h2 e he hb)⟩
        rcases h1 with h1 | ⟨k, hkl, hkk, hd⟩
        · cases hdd : dead os i j with
          | false =>
            refine .inl (hF i j _ _ w w' (Ne.symm e) hdd ?_ h1 hC')
            cases hbf : beforeX os i j with
            | false => rfl
            | true =>
              exfalso
              simp only [beforeX, hx] at hbf
              have := reachX_listed (L := fun q => listed.getD q true = true) (fun q x hq hl => (hf q x hq hl).2) 60 x i hbf (hf j x hx hlj).2
              rw [hu] at this; cases this
          | true => exact .inr ⟨i, hlt, hself, hdd⟩
        · exact .inr ⟨k, hkl, keep _ hkk, hd⟩
    · by_cases e : j = i
      · subst e; rw [hself] at hlj; cases hlj
      · rw [getD_set_ne true (Ne.symm e)] at hlj
        have hj2 : upd ρ i v j = ρ j := by simp [upd, e]
        rw [hj2]; exact hn j x d hj hd hlj

/-- **A region that draws its order**: one goal an operation, whatever the order. -/
theorem wp_flowZ {id : Nat} {os : List Oper} {a0 : Act} {w : World} (S : Nat → World → Prop) (C : Nat → World → World → Prop) (F : Nat → Value → List Value → World → Prop) (N : Nat) (hN : os.length = N) (hm : P.follows .mixedOrders = true)
    (hok : flowOkX 0 os = true) (hap : apartL os = true) (hF : ∀ i j v vs w w', i ≠ j → dead os i j = false → beforeX os i j = false → F j v vs w → C i w w' → F j v vs w') (h0 : S 0 w.drew)
    (steps : FlowStepsX P os Q S C F a0 0 os)
    (done : ∀ c ρ w', c ≤ N → S c w' → Hid (∀ j, j < N → ((List.range N).all fun k => !dead os k j) = true → F j (ρ j) (valsBAt ρ os j) w') → Q .normal (putFrom ρ 0 os a0) w') : (Code.region id os.toArray true).wp P Q a0 w := by
  subst hN
  refine wp_region_any hm ?_
  obtain ⟨ρ, hρ, hini⟩ := putFrom_start0 os a0
  have := flow_anyZ hok hap hF steps (fun c ρ w' hc hS h => done c ρ w' hc hS (fun j hj hnd => by
    have hx : os[j]? = some (os[j]'hj) := List.getElem?_eq_getElem hj
    have := h j _ hx fun k hk => by simpa using (List.all_eq_true.1 hnd) k (List.mem_range.2 hk)
    simp only [valsBAt, hx]; exact this)) os.toArray.size (Array.replicate os.toArray.size false) 0 ρ w.drew (by simp) (by simp) ?_ ?_ (fun j x d hj hd _ => hini j x d hj hd) h0
  · rw [hρ] at this; exact this
  · refine Nat.le_trans (List.length_filter_le _ _) (by simp)
  · intro i o ho hl
    have := (List.getElem?_eq_some_iff.1 ho).1
    simp [Array.getD, this] at hl

end
end Go.Proofs.YtgpdblkaidllmaaDoor
