/-
  A region that draws its order: as wp_flowZ; each step knows which operations were carried out. No condition.
-/
import Derived.Test.YtlfchcjollcdhaaFlowZ
namespace Go.Proofs.Ytlfchcjollcdhaa
open Go.RowKit
set_option linter.unusedSimpArgs false
set_option linter.unusedVariables false

section
variable {P : Program} {Q : Exit → Act → World → Prop}
/-- Those that were carried out, and number i. -/
def setD (d : Nat → Bool) (i j : Nat) : Bool := if j = i then true else d j
def FlowStepT (P : Program) (os : List Oper) (Q : Exit → Act → World → Prop) (S : (Nat → Bool) → World → Prop) (C : Nat → World → World → Prop) (F : Nat → Value → List Value → World → Prop) (a0 : Act) (i : Nat) (o : Oper) : Prop :=
  ∀ (d : Nat → Bool) (ρ : Nat → Value) (w : World), d i = false → (∀ (j : Nat) (x : Oper), os[j]? = some x → reachX os 60 x i = true → d j = false) → S d w → (∀ e ∈ o.after, isData e = true → F e.on (ρ e.on) (valsBAt ρ os e.on) w) →
    (∀ (j : Nat) (x : Oper) (d : Tmp), os[j]? = some x → x.dst = some d → waits x i = true → ρ j = a0.tmps.getD d undef) → ∀ K : Act → World → Prop,
    (∀ (v : Value) (w' : World), F i v (valsB ρ o) w' → S (setD d i) w' → C i w w' → K ((putFrom ρ 0 os a0).put o.dst v) w') →
      if Region.wanted o (yielded os.toArray (putFrom ρ 0 os a0).tmps) = true then Oper.wp P o (putFrom ρ 0 os a0) w K Q else K ((putFrom ρ 0 os a0).put o.dst undef) w
def FlowStepsT (P : Program) (os : List Oper) (Q : Exit → Act → World → Prop) (S : (Nat → Bool) → World → Prop) (C : Nat → World → World → Prop) (F : Nat → Value → List Value → World → Prop) (a0 : Act) : Nat → List Oper → Prop
  | _, [] => True
  | i, o :: r => FlowStepT P os Q S C F a0 i o ∧ FlowStepsT P os Q S C F a0 (i + 1) r
theorem FlowStepsT.at {os : List Oper} {S : (Nat → Bool) → World → Prop} {C : Nat → World → World → Prop} {F : Nat → Value → List Value → World → Prop} {a0 : Act} : ∀ (r : List Oper) (k i : Nat) (o : Oper), FlowStepsT P os Q S C F a0 k r → r[i]? = some o → FlowStepT P os Q S C F a0 (k + i) o
  | [], _, _, _, _, h => by simp at h
  | x :: r, k, 0, o, hs, h => by
    simp only [List.getElem?_cons_zero, Option.some.injEq] at h
    subst h; exact hs.1
  | x :: r, k, i + 1, o, hs, h => by
    rw [show k + (i + 1) = k + 1 + i by omega]
    exact FlowStepsT.at r (k + 1) i o hs.2 (by simpa using h)
theorem FlowStepsT.nil {os : List Oper} {S : (Nat → Bool) → World → Prop} {C : Nat → World → World → Prop} {F : Nat → Value → List Value → World → Prop} {a0 : Act} {i : Nat} : FlowStepsT P os Q S C F a0 i [] := trivial
theorem flow_anyT {os : List Oper} {S : (Nat → Bool) → World → Prop} {C : Nat → World → World → Prop} {F : Nat → Value → List Value → World → Prop} {a0 : Act} (hok : flowOkX 0 os = true) (hap : apartL os = true)
    (hF : ∀ i j v vs w w', i ≠ j → dead os i j = false → beforeX os i j = false → F j v vs w → C i w w' → F j v vs w') (steps : FlowStepsT P os Q S C F a0 0 os)
    (done : ∀ d ρ w', S d w' → (∀ i, i < os.length → d i = true) → (∀ i o, os[i]? = some o → (∀ k, k < os.length → dead os k i = false) → F i (ρ i) (valsB ρ o) w') → Q .normal (putFrom ρ 0 os a0) w') :
    ∀ (fuel : Nat) (listed : Array Bool) (ρ : Nat → Value) (w : World), listed.size = os.length →
      ((List.range os.length).filter fun i => !listed.getD i true).length ≤ fuel →
      (∀ i o, os[i]? = some o → listed.getD i true = true → (F i (ρ i) (valsB ρ o) w ∨ ∃ k, k < os.length ∧ listed.getD k true = true ∧ dead os k i = true) ∧ ∀ e ∈ o.after, Region.binds .any e = true → listed.getD e.on true = true) →
      (∀ (j : Nat) (x : Oper) (d : Tmp), os[j]? = some x → x.dst = some d → listed.getD j true = false → ρ j = a0.tmps.getD d undef) → S (fun j => listed.getD j true) w →
      wpAny P .any os.toArray Q fuel listed (putFrom ρ 0 os a0) w := by
  have same : ∀ (listed : Array Bool) (i : Nat), listed.size = os.length → i < os.length → listed.getD i false = listed.getD i true := fun listed i hs hi => by
    unfold Array.getD; rw [dif_pos (by omega), dif_pos (by omega)]
  have ge : ∀ i : Nat, os.toArray[i]? = os[i]? := fun i => List.getElem?_toArray
  have all : ∀ (listed : Array Bool), listed.size = os.length → Region.ready .any os.toArray listed = [] → ∀ i, i < os.length → listed.getD i true = true := by
    intro listed hs hr i
    induction i using Nat.strongRecOn with
    | ind i ih =>
      intro hi
      cases hu : listed.getD i true with
      | true => rfl
      | false =>
        have ho : os[i]? = some (os[i]'hi) := List.getElem?_eq_getElem hi
        have hk := flowOkX_at os 0 i _ hok ho
        have : i ∈ Region.ready .any os.toArray listed := mem_ready.2 ⟨hu, _, (ge i).trans ho, fun e he hb => by
          have hlt := hk e he hb
          rw [same listed e.on hs (by omega)]
          exact ih e.on (by omega) (by omega)⟩
        rw [hr] at this
        cases this
  have lt : ∀ {i : Nat} {o : Oper}, os[i]? = some o → i < os.length := fun h => (List.getElem?_eq_some_iff.1 h).1
  have fin : ∀ (listed : Array Bool) (w : World) (ρ : Nat → Value), (∀ i o, os[i]? = some o → listed.getD i true = true → (F i (ρ i) (valsB ρ o) w ∨ ∃ k, k < os.length ∧ listed.getD k true = true ∧ dead os k i = true) ∧ ∀ e ∈ o.after, Region.binds .any e = true → listed.getD e.on true = true) →
      ∀ i o, os[i]? = some o → listed.getD i true = true → (∀ k, k < os.length → dead os k i = false) → F i (ρ i) (valsB ρ o) w := by
    intro listed w ρ hf i o ho hl hnd
    rcases (hf i o ho hl).1 with h | ⟨k, hk, _, hd⟩
    · exact h
    · rw [hnd k hk] at hd; cases hd
  intro fuel
  induction fuel with
  | zero =>
    intro listed ρ w hs hl hf hn hS
    have hr : Region.ready .any os.toArray listed = [] := by
      cases hr : Region.ready .any os.toArray listed with
      | nil => rfl
      | cons i r =>
        have hi : i ∈ Region.ready .any os.toArray listed := by rw [hr]; simp
        obtain ⟨hu, o, ho, _⟩ := mem_ready.1 hi
        rw [ge] at ho
        have hm : i ∈ (List.range os.length).filter fun i => !listed.getD i true := List.mem_filter.2 ⟨List.mem_range.2 (lt ho), by simp only [hu]; rfl⟩
        have := List.length_pos_of_mem hm
        omega
    exact ⟨hr, done _ ρ w hS (fun i hi => all listed hs hr i hi) (fun i o ho hnd => fin listed w ρ hf i o ho (all listed hs hr i (lt ho)) hnd)⟩
  | succ fuel ih =>
    intro listed ρ w hs hl hf hn hS
    refine ⟨fun hr => done _ ρ w hS (fun i hi => all listed hs hr i hi) (fun i o ho hnd => fin listed w ρ hf i o ho (all listed hs hr i (lt ho)) hnd), fun i hi => ?_⟩
    obtain ⟨hu, o, ho, hdep⟩ := mem_ready.1 hi
    have hol : os[i]? = some o := (ge i).symm.trans ho
    have hlt := lt hol
    have hk := flowOkX_at os 0 i o hok hol
    have hst := FlowStepsT.at os 0 i o steps hol
    rw [Nat.zero_add] at hst
    have hdep' : ∀ e ∈ o.after, Region.binds .any e = true → listed.getD e.on true = true := fun e he hb => by
      have h1 := hk e he hb
      rw [← same listed e.on hs (by omega)]; exact hdep e he hb
    refine wpOp_step ho fun K' hK => ?_
    refine hst (fun j => listed.getD j true) ρ w hu (fun j x hj hw => by
      cases hlj : listed.getD j true with
      | false => rfl
      | true =>
        have := reachX_listed (L := fun q => listed.getD q true = true) (fun q x hq hl => (hf q x hq hl).2) 60 x i hw (hf j x hj hlj).2
        rw [hu] at this; cases this) hS (fun e he hb0 => by
      have hb := isData_binds hb0
      have h1 := hk e he hb
      have hx : os[e.on]? = some (os[e.on]'(by omega)) := List.getElem?_eq_getElem (show e.on < os.length by omega)
      have := (hf e.on _ hx (hdep' e he hb)).1
      simp only [valsBAt, hx]
      rcases this with h | ⟨k, hkl, hkk, hd⟩
      · exact h
      · exfalso
        simp only [dead, Bool.and_eq_true] at hd
        have hx2 := List.all_eq_true.1 hd.2 i (List.mem_range.2 hlt)
        have hok : os[k]? = some (os[k]'hkl) := List.getElem?_eq_getElem hkl
        simp only [hol, hok, Bool.or_eq_true, Bool.not_eq_true', beq_iff_eq] at hx2
        have hw : uses o e.on = true := Array.any_eq_true'.2 ⟨e, he, by simp [hb0]⟩
        rcases hx2 with (h | h) | h
        · subst h; rw [hu] at hkk; cases hkk
        · rw [hw] at h; cases h
        · have := reachX_listed (L := fun q => listed.getD q true = true) (fun q x hq hl => (hf q x hq hl).2) 60 _ i h (hf k _ hok hkk).2
          rw [hu] at this; cases this) (fun j x d hj hd hw => by
      cases hlj : listed.getD j true with
      | false => exact hn j x d hj hd hlj
      | true =>
        obtain ⟨e, he, hb⟩ := Array.any_eq_true'.1 hw
        simp only [Bool.and_eq_true, beq_iff_eq] at hb
        have := (hf j x hj hlj).2 e he hb.1
        rw [hb.2, hu] at this; cases this) K' fun v w' hFv hS' hC' => hK _ _ ?_
    rw [putFrom_put os 0 i o a0 hap hol, Nat.zero_add]
    have keep : ∀ q, listed.getD q true = true → (listed.setIfInBounds i true).getD q true = true := fun q hq => by
      by_cases e : i = q
      · subst e; rw [hu] at hq; cases hq
      · rw [getD_set_ne true e]; exact hq
    have hself : (listed.setIfInBounds i true).getD i true = true := by
      rw [Array.getD_eq_getD_getElem?, Array.getElem?_setIfInBounds_self_of_lt (by omega)]; rfl
    refine ih _ _ w' (by simpa using hs) ?_ (fun j x hx hlj => ?_) (fun j x d hj hd hlj => ?_) ?_
    · have := filt_lt (p := fun j => !listed.getD j true) (q := fun j => !(listed.setIfInBounds i true).getD j true) (i := i) (fun j hj => by
        simp only [Bool.not_eq_true'] at hj ⊢
        by_cases e : i = j
        · subst e; rw [hself] at hj; cases hj
        · rw [getD_set_ne true e] at hj; exact hj) (by simp only [hu]; rfl) (by rw [hself]; rfl) (List.range os.length) (List.mem_range.2 hlt)
      omega
    · by_cases e : j = i
      · subst e
        obtain rfl : o = x := by simpa using hol.symm.trans hx
        rw [valsB_upd (fun e he hb => by have := hk e he hb; omega)]
        exact ⟨.inl (by simpa [upd] using hFv), fun e he hb => keep _ (hdep' e he hb)⟩
      · rw [getD_set_ne true (Ne.symm e)] at hlj
        obtain ⟨h1, h2⟩ := hf j x hx hlj
        have hj : upd ρ i v j = ρ j := by simp [upd, e]
        rw [hj, valsB_upd (fun e he hb hei => by have := h2 e he hb; rw [hei, hu] at this; cases this)]
        refine ⟨?_, fun e he hb => keep _ (h2 e he hb)⟩
        rcases h1 with h1 | ⟨k, hkl, hkk, hd⟩
        · cases hdd : dead os i j with
          | false =>
            refine .inl (hF i j _ _ w w' (Ne.symm e) hdd ?_ h1 hC')
            cases hbf : beforeX os i j with
            | false => rfl
            | true =>
              exfalso
              simp only [beforeX, hx] at hbf
              have := reachX_listed (L := fun q => listed.getD q true = true) (fun q x hq hl => (hf q x hq hl).2) 60 x i hbf (hf j x hx hlj).2
              rw [hu] at this; cases this
          | true => exact .inr ⟨i, hlt, hself, hdd⟩
        · exact .inr ⟨k, hkl, keep _ hkk, hd⟩
    · by_cases e : j = i
      · subst e; rw [hself] at hlj; cases hlj
      · rw [getD_set_ne true (Ne.symm e)] at hlj
        have hj2 : upd ρ i v j = ρ j := by simp [upd, e]
        rw [hj2]; exact hn j x d hj hd hlj
    · have : (fun j => (listed.setIfInBounds i true).getD j true) = setD (fun j => listed.getD j true) i := by
        funext j
        by_cases e : j = i
        · subst e; rw [hself]; simp [setD]
        · rw [getD_set_ne true (Ne.symm e)]; simp [setD, e]
      rw [this]; exact hS'

/-- **A region that draws its order**: one goal an operation, whatever the order. -/
theorem wp_flowT' {id : Nat} {os : List Oper} {a0 : Act} {w : World} (S : (Nat → Bool) → World → Prop) (C : Nat → World → World → Prop) (F : Nat → Value → List Value → World → Prop) (N : Nat) (hN : os.length = N) (hm : P.follows .mixedOrders = true)
    (hok : flowOkX 0 os = true) (hap : apartL os = true) (hF : ∀ i j v vs w w', i ≠ j → dead os i j = false → beforeX os i j = false → F j v vs w → C i w w' → F j v vs w') (h0 : S (fun j => decide (N ≤ j)) w.drew)
    (steps : FlowStepsT P os Q S C F a0 0 os)
    (done : ∀ d ρ w', (∀ i, i < N → d i = true) → S d w' → Hid (∀ j, j < N → ((List.range N).all fun k => !dead os k j) = true → F j (ρ j) (valsBAt ρ os j) w') → Q .normal (putFrom ρ 0 os a0) w') : (Code.region id os.toArray true).wp P Q a0 w := by
  subst hN
  refine wp_region_any hm ?_
  obtain ⟨ρ, hρ, hini⟩ := putFrom_start0 os a0
  have := flow_anyT hok hap hF steps (fun d ρ w' hS hd h => done d ρ w' hd hS (fun j hj hnd => by
    have hx : os[j]? = some (os[j]'hj) := List.getElem?_eq_getElem hj
    have := h j _ hx fun k hk => by simpa using (List.all_eq_true.1 hnd) k (List.mem_range.2 hk)
    simp only [valsBAt, hx]; exact this)) os.toArray.size (Array.replicate os.toArray.size false) ρ w.drew (by simp) ?_ ?_ (fun j x d hj hd _ => hini j x d hj hd) (by
    have : (fun j => (Array.replicate os.toArray.size false).getD j true) = fun j => decide (os.length ≤ j) := by
      funext j
      by_cases hj : j < os.length
      · simp [Array.getD, hj] <;> omega
      · simp [Array.getD, hj] <;> omega
    rw [this]; exact h0)
  · rw [hρ] at this; exact this
  · refine Nat.le_trans (List.length_filter_le _ _) (by simp)
  · intro i o ho hl
    have := (List.getElem?_eq_some_iff.1 ho).1
    simp [Array.getD, this] at hl

theorem FlowStepsT.stepY {os rest : List Oper} {S : (Nat → Bool) → World → Prop} {C : Nat → World → World → Prop} {F : Nat → Value → List Value → World → Prop} {a0 : Act} {i : Nat} {o : Oper} (M N j : Nat) (hN : os.length = N) (hM : a0.tmps.size = M) (hap : apartL os = true) (hds : dstsOk M os = true) (hok : flowOkX 0 os = true) (hj : i + 1 = j) (ho : os[i]? = some o)
    (h : ∀ (c : Nat → Bool) (a : Act) (vs : List Value) (w : World), Hid (c i = false ∧ ∀ j : Nat, (match os[j]? with | some x => reachX os 60 x i | none => false) = true → c j = false) → a.tmps.size = M → Hid (∀ p d : Nat, ((((o.after.toList.filter (Region.binds .any ·))[p]?).bind fun e => os[e.on]?).bind (·.dst)) = some d → vs[p]? = a.tmps[d]?) → S c w → Hid (∀ (e : Edge) (d : Option Tmp), e ∈ o.after → isData e = true → (os[e.on]?).map (·.dst) = some d → known F a e.on d w) →
      Hid (∀ d, keepsAt os i d = true → a.tmps[d]? = a0.tmps[d]?) → ∀ K : Act → World → Prop,
      Hid (∀ (v : Value) (w' : World), F i v vs w' → S (setD c i) w' → C i w w' → K (a.put o.dst v) w') →
        if Region.wanted o (yielded os.toArray a.tmps) = true then Oper.wp P o a w K Q else K (a.put o.dst undef) w)
    (hs : FlowStepsT P os Q S C F a0 j rest) : FlowStepsT P os Q S C F a0 i (o :: rest) := by
  subst hj
  refine ⟨fun c ρ w hci hcw hS hd hi K hK => ?_, hs⟩
  have ds : ∀ (j : Nat) (x : Oper) (d : Tmp), os[j]? = some x → x.dst = some d → d < a0.tmps.size := fun j x d hx hxd => by
    have := List.all_eq_true.1 hds x (List.mem_of_getElem? hx)
    rw [hxd] at this
    rw [hM]; simpa using this
  refine h c (putFrom ρ 0 os a0) (valsB ρ o) w ⟨hci, fun j hj => by
    cases hx : os[j]? with
    | none => rw [hx] at hj; cases hj
    | some x => rw [hx] at hj; exact hcw j x hx hj⟩ (by rw [putFrom_size, hM]) (fun p d hp => ?_) hS (fun e d he hb hx => ?_) (fun d hk => ?_) K hK
  · obtain ⟨x, hx1, hx2⟩ := Option.bind_eq_some_iff.1 hp
    obtain ⟨e, he1, he2⟩ := Option.bind_eq_some_iff.1 hx1
    have := putFrom_get (ρ := ρ) os 0 e.on x a0 hap he2 hx2 (ds _ _ _ he2 hx2)
    rw [this, Nat.zero_add]
    simp only [valsB, List.getElem?_map, he1, Option.map_some]
  · have hF := hd e he hb
    obtain ⟨x, hx1, rfl⟩ := Option.map_eq_some_iff.1 hx
    clear hx
    have hx := hx1
    cases hxd : x.dst with
    | none => exact ⟨_, _, hF⟩
    | some d =>
      refine ⟨ρ e.on, ?_, _, hF⟩
      have := putFrom_get (ρ := ρ) os 0 e.on x a0 hap hx hxd (ds _ _ _ hx hxd)
      rwa [Nat.zero_add] at this
  · by_cases hw : ∃ (j : Nat) (x : Oper), os[j]? = some x ∧ x.dst = some d
    · obtain ⟨j, x, hx, hxd⟩ := hw
      have hwt : waits x i = true := by
        have := List.all_eq_true.1 hk x (List.mem_of_getElem? hx)
        rw [hxd] at this; simpa using this
      have hr := hi j x d hx hxd hwt
      have := putFrom_get (ρ := ρ) os 0 j x a0 hap hx hxd (ds _ _ _ hx hxd)
      rw [this, Nat.zero_add, hr]
      have hlt := ds _ _ _ hx hxd
      simp [Array.getD, hlt]
    · exact putFrom_other os 0 a0 fun j x hx hxd => hw ⟨j, x, hx, hxd⟩
end
end Go.Proofs.Ytlfchcjollcdhaa
