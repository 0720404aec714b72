/-
  A region that draws its order, walked by what is known of each operation's value: guards, stores in any place, edges that do not bind. No condition.
-/
import Derived.Test.YtncjghmjlcohjaaDoorFlow
namespace Go.Proofs.YtncjghmjlcohjaaDoor
open Go.RowKit
set_option linter.unusedSimpArgs false
set_option linter.unusedVariables false

def flowOkX : Nat → List Oper → Bool
  | _, [] => true
  | i, o :: os => o.after.all (fun e => !Region.binds .any e || decide (e.on < i)) && flowOkX (i + 1) os
theorem flowOkX_at : ∀ (os : List Oper) (k i : Nat) (o : Oper), flowOkX k os = true → os[i]? = some o → ∀ e ∈ o.after, Region.binds .any e = true → e.on < k + i
  | [], _, _, _, _, h => by simp at h
  | x :: os, k, 0, o, hs, h => by
    simp only [List.getElem?_cons_zero, Option.some.injEq] at h
    subst h
    simp only [flowOkX, Bool.and_eq_true] at hs
    intro e he hb
    have := Array.all_eq_true_iff_forall_mem.1 hs.1 e he
    simpa [hb] using this
  | x :: os, k, i + 1, o, hs, h => by
    simp only [flowOkX, Bool.and_eq_true] at hs
    rw [show k + (i + 1) = k + 1 + i by omega]
    exact flowOkX_at os (k + 1) i o hs.2 (by simpa using h)
theorem putFrom_start0 (os : List Oper) (a : Act) : ∃ ρ, putFrom ρ 0 os a = a ∧ ∀ (j : Nat) (x : Oper) (d : Tmp), os[j]? = some x → x.dst = some d → ρ j = a.tmps.getD d undef :=
  ⟨fun j => match os[j]? with | some o => (match o.dst with | some d => a.tmps.getD d undef | none => undef) | none => undef,
   putFrom_self os 0 fun j o d hj hd => by simp only [Nat.zero_add, hj, hd], fun j x d hj hd => by simp only [hj, hd]⟩
/-- Operation x waits for number i. -/
def waits (x : Oper) (i : Nat) : Bool := x.after.any fun e => Region.binds .any e && e.on == i
/-- Operation o waits for number j, through others too. -/
def reachX (os : List Oper) : Nat → Oper → Nat → Bool
  | 0, _, _ => false
  | f + 1, o, j => o.after.any fun e => Region.binds .any e && (e.on == j || match os[e.on]? with | some x => reachX os f x j | none => false)
theorem reachX_listed {os : List Oper} {L : Nat → Prop} (hcl : ∀ i o, os[i]? = some o → L i → ∀ e ∈ o.after, Region.binds .any e = true → L e.on) :
    ∀ (f : Nat) (o : Oper) (j : Nat), reachX os f o j = true → (∀ e ∈ o.after, Region.binds .any e = true → L e.on) → L j
  | 0, _, _, h, _ => by simp [reachX] at h
  | f + 1, o, j, h, hd => by
    simp only [reachX] at h
    obtain ⟨e, he, hb⟩ := Array.any_eq_true'.1 h
    simp only [Bool.and_eq_true, Bool.or_eq_true, beq_iff_eq] at hb
    obtain ⟨hb1, hb2⟩ := hb
    rcases hb2 with hb2 | hb2
    · rw [← hb2]; exact hd e he hb1
    · split at hb2
      · rename_i x hx
        exact reachX_listed hcl f x j hb2 (hcl e.on x hx (hd e he hb1))
      · cases hb2
/-- An edge over which a value comes. -/
def isData (e : Edge) : Bool := match e.ground with | .data => true | .guard => true | _ => false
theorem isData_binds {e : Edge} (h : isData e = true) : Region.binds .any e = true := by
  unfold isData at h; unfold Region.binds
  split at h <;> simp_all
def uses (x : Oper) (i : Nat) : Bool := x.after.any fun e => isData e && e.on == i
/-- When operation i is carried out, all that wait for j have been. -/
def dead (os : List Oper) (i j : Nat) : Bool := (os.any fun x => uses x j) && (List.range os.length).all fun x => match os[x]?, os[i]? with
  | some ox, some oi => x == i || !uses ox j || reachX os 60 oi x
  | _, _ => true
/-- The values of the operations that o waits for, over edges that bind. -/
def valsB (ρ : Nat → Value) (o : Oper) : List Value := (o.after.toList.filter (Region.binds .any ·)).map fun e => ρ e.on
def valsBAt (ρ : Nat → Value) (os : List Oper) (j : Nat) : List Value := match os[j]? with | some x => valsB ρ x | none => []
theorem valsB_upd {ρ : Nat → Value} {o : Oper} {k : Nat} {v : Value} (h : ∀ e ∈ o.after, Region.binds .any e = true → e.on ≠ k) : valsB (upd ρ k v) o = valsB ρ o := by
  unfold valsB
  refine List.map_congr_left fun e he => ?_
  simp only [upd]
  have := List.mem_filter.1 he
  rw [if_neg (h e (by simpa using this.1) this.2)]
section
variable {P : Program} {Q : Exit → Act → World → Prop}
def FlowStepX (P : Program) (os : List Oper) (Q : Exit → Act → World → Prop) (S : Nat → World → Prop) (C : Nat → World → World → Prop) (F : Nat → Value → List Value → World → Prop) (a0 : Act) (i : Nat) (o : Oper) : Prop :=
  ∀ (c : Nat) (ρ : Nat → Value) (w : World), c < os.length → S c w → (∀ e ∈ o.after, isData e = true → F e.on (ρ e.on) (valsBAt ρ os e.on) w) →
    (∀ (j : Nat) (x : Oper) (d : Tmp), os[j]? = some x → x.dst = some d → waits x i = true → ρ j = a0.tmps.getD d undef) → ∀ K : Act → World → Prop,
    (∀ (v : Value) (w' : World), F i v (valsB ρ o) w' → S (c + 1) w' → C i w w' → K ((putFrom ρ 0 os a0).put o.dst v) w') →
      if Region.wanted o (yielded os.toArray (putFrom ρ 0 os a0).tmps) = true then Oper.wp P o (putFrom ρ 0 os a0) w K Q else K ((putFrom ρ 0 os a0).put o.dst undef) w
def FlowStepsX (P : Program) (os : List Oper) (Q : Exit → Act → World → Prop) (S : Nat → World → Prop) (C : Nat → World → World → Prop) (F : Nat → Value → List Value → World → Prop) (a0 : Act) : Nat → List Oper → Prop
  | _, [] => True
  | i, o :: r => FlowStepX P os Q S C F a0 i o ∧ FlowStepsX P os Q S C F a0 (i + 1) r
theorem FlowStepsX.at {os : List Oper} {S : Nat → World → Prop} {C : Nat → World → World → Prop} {F : Nat → Value → List Value → World → Prop} {a0 : Act} : ∀ (r : List Oper) (k i : Nat) (o : Oper), FlowStepsX P os Q S C F a0 k r → r[i]? = some o → FlowStepX P os Q S C F a0 (k + i) o
  | [], _, _, _, _, h => by simp at h
  | x :: r, k, 0, o, hs, h => by
    simp only [List.getElem?_cons_zero, Option.some.injEq] at h
    subst h; exact hs.1
  | x :: r, k, i + 1, o, hs, h => by
    rw [show k + (i + 1) = k + 1 + i by omega]
    exact FlowStepsX.at r (k + 1) i o hs.2 (by simpa using h)
theorem flow_anyX {os : List Oper} {S : Nat → World → Prop} {C : Nat → World → World → Prop} {F : Nat → Value → List Value → World → Prop} {a0 : Act} (hok : flowOkX 0 os = true) (hap : apartL os = true)
    (hF : ∀ i j v vs w w', i ≠ j → dead os i j = false → F j v vs w → C i w w' → F j v vs w') (steps : FlowStepsX P os Q S C F a0 0 os)
    (done : ∀ c ρ w', c ≤ os.length → S c w' → (∀ i o, os[i]? = some o → (∀ k, k < os.length → dead os k i = false) → F i (ρ i) (valsB ρ o) w') → Q .normal (putFrom ρ 0 os a0) w') :
    ∀ (fuel : Nat) (listed : Array Bool) (c : Nat) (ρ : Nat → Value) (w : World), fuel + c = os.length → listed.size = os.length →
      ((List.range os.length).filter fun i => !listed.getD i true).length ≤ fuel →
      (∀ i o, os[i]? = some o → listed.getD i true = true → (F i (ρ i) (valsB ρ o) w ∨ ∃ k, k < os.length ∧ listed.getD k true = true ∧ dead os k i = true) ∧ ∀ e ∈ o.after, Region.binds .any e = true → listed.getD e.on true = true) →
      (∀ (j : Nat) (x : Oper) (d : Tmp), os[j]? = some x → x.dst = some d → listed.getD j true = false → ρ j = a0.tmps.getD d undef) → S c w →
      wpAny P .any os.toArray Q fuel listed (putFrom ρ 0 os a0) w := by
  have same : ∀ (listed : Array Bool) (i : Nat), listed.size = os.length → i < os.length → listed.getD i false = listed.getD i true := fun listed i hs hi => by
    unfold Array.getD; rw [dif_pos (by omega), dif_pos (by omega)]
  have ge : ∀ i : Nat, os.toArray[i]? = os[i]? := fun i => List.getElem?_toArray
  have all : ∀ (listed : Array Bool), listed.size = os.length → Region.ready .any os.toArray listed = [] → ∀ i, i < os.length → listed.getD i true = true := by
    intro listed hs hr i
    induction i using Nat.strongRecOn with
    | ind i ih =>
      intro hi
      cases hu : listed.getD i true with
      | true => rfl
      | false =>
        have ho : os[i]? = some (os[i]'hi) := List.getElem?_eq_getElem hi
        have hk := flowOkX_at os 0 i _ hok ho
        have : i ∈ Region.ready .any os.toArray listed := mem_ready.2 ⟨hu, _, (ge i).trans ho, fun e he hb => by
          have hlt := hk e he hb
          rw [same listed e.on hs (by omega)]
          exact ih e.on (by omega) (by omega)⟩
        rw [hr] at this
        cases this
  have lt : ∀ {i : Nat} {o : Oper}, os[i]? = some o → i < os.length := fun h => (List.getElem?_eq_some_iff.1 h).1
  have fin : ∀ (listed : Array Bool) (w : World) (ρ : Nat → Value), (∀ i o, os[i]? = some o → listed.getD i true = true → (F i (ρ i) (valsB ρ o) w ∨ ∃ k, k < os.length ∧ listed.getD k true = true ∧ dead os k i = true) ∧ ∀ e ∈ o.after, Region.binds .any e = true → listed.getD e.on true = true) →
      ∀ i o, os[i]? = some o → listed.getD i true = true → (∀ k, k < os.length → dead os k i = false) → F i (ρ i) (valsB ρ o) w := by
    intro listed w ρ hf i o ho hl hnd
    rcases (hf i o ho hl).1 with h | ⟨k, hk, _, hd⟩
    · exact h
    · rw [hnd k hk] at hd; cases hd
  intro fuel
  induction fuel with
  | zero =>
    intro listed c ρ w hc hs hl hf hn hS
    have hr : Region.ready .any os.toArray listed = [] := by
      cases hr : Region.ready .any os.toArray listed with
      | nil => rfl
      | cons i r =>
        have hi : i ∈ Region.ready .any os.toArray listed := by rw [hr]; simp
        obtain ⟨hu, o, ho, _⟩ := mem_ready.1 hi
        rw [ge] at ho
        have hm : i ∈ (List.range os.length).filter fun i => !listed.getD i true := List.mem_filter.2 ⟨List.mem_range.2 (lt ho), by simp only [hu]; rfl⟩
        have := List.length_pos_of_mem hm
        omega
    exact ⟨hr, done c ρ w (by omega) hS (fun i o ho hnd => fin listed w ρ hf i o ho (all listed hs hr i (lt ho)) hnd)⟩
  | succ fuel ih =>
    intro listed c ρ w hc hs hl hf hn hS
    refine ⟨fun hr => done c ρ w (by omega) hS (fun i o ho hnd => fin listed w ρ hf i o ho (all listed hs hr i (lt ho)) hnd), fun i hi => ?_⟩
    obtain ⟨hu, o, ho, hdep⟩ := mem_ready.1 hi
    have hol : os[i]? = some o := (ge i).symm.trans ho
    have hlt := lt hol
    have hk := flowOkX_at os 0 i o hok hol
    have hst := FlowStepsX.at os 0 i o steps hol
    rw [Nat.zero_add] at hst
    have hdep' : ∀ e ∈ o.after, Region.binds .any e = true → listed.getD e.on true = true := fun e he hb => by
      have h1 := hk e he hb
      rw [← same listed e.on hs (by omega)]; exact hdep e he hb
    refine wpOp_step ho fun K' hK => ?_
    refine hst c ρ w (by omega) hS (fun e he hb0 => by
      have hb := isData_binds hb0
      have h1 := hk e he hb
      have hx : os[e.on]? = some (os[e.on]'(by omega)) := List.getElem?_eq_getElem (show e.on < os.length by omega)
      have := (hf e.on _ hx (hdep' e he hb)).1
      simp only [valsBAt, hx]
      rcases this with h | ⟨k, hkl, hkk, hd⟩
      · exact h
      · exfalso
        simp only [dead, Bool.and_eq_true] at hd
        have hx2 := List.all_eq_true.1 hd.2 i (List.mem_range.2 hlt)
        have hok : os[k]? = some (os[k]'hkl) := List.getElem?_eq_getElem hkl
        simp only [hol, hok, Bool.or_eq_true, Bool.not_eq_true', beq_iff_eq] at hx2
        have hw : uses o e.on = true := Array.any_eq_true'.2 ⟨e, he, by simp [hb0]⟩
        rcases hx2 with (h | h) | h
        · subst h; rw [hu] at hkk; cases hkk
        · rw [hw] at h; cases h
        · have := reachX_listed (L := fun q => listed.getD q true = true) (fun q x hq hl => (hf q x hq hl).2) 60 _ i h (hf k _ hok hkk).2
          rw [hu] at this; cases this) (fun j x d hj hd hw => by
      cases hlj : listed.getD j true with
      | false => exact hn j x d hj hd hlj
      | true =>
        obtain ⟨e, he, hb⟩ := Array.any_eq_true'.1 hw
        simp only [Bool.and_eq_true, beq_iff_eq] at hb
        have := (hf j x hj hlj).2 e he hb.1
        rw [hb.2, hu] at this; cases this) K' fun v w' hFv hS' hC' => hK _ _ ?_
    rw [putFrom_put os 0 i o a0 hap hol, Nat.zero_add]
    have keep : ∀ q, listed.getD q true = true → (listed.setIfInBounds i true).getD q true = true := fun q hq => by
      by_cases e : i = q
      · subst e; rw [hu] at hq; cases hq
      · rw [getD_set_ne true e]; exact hq
    have hself : (listed.setIfInBounds i true).getD i true = true := by
      rw [Array.getD_eq_getD_getElem?, Array.getElem?_setIfInBounds_self_of_lt (by omega)]; rfl
    refine ih _ (c + 1) _ w' (by omega) (by simpa using hs) ?_ (fun j x hx hlj => ?_) (fun j x d hj hd hlj => ?_) hS'
    · have := filt_lt (p := fun j => !listed.getD j true) (q := fun j => !(listed.setIfInBounds i true).getD j true) (i := i) (fun j hj => by
        simp only [Bool.not_eq_true'] at hj ⊢
        by_cases e : i = j
        · subst e; rw [hself] at hj; cases hj
        · rw [getD_set_ne true e] at hj; exact hj) (by simp only [hu]; rfl) (by rw [hself]; rfl) (List.range os.length) (List.mem_range.2 hlt)
      omega
    · by_cases e : j = i
      · subst e
        obtain rfl : o = x := by simpa using hol.symm.trans hx
        rw [valsB_upd (fun e he hb => by have := hk e he hb; omega)]
        exact ⟨.inl (by simpa [upd] using hFv), fun e he hb => keep _ (hdep' e he hb)⟩
      · rw [getD_set_ne true (Ne.symm e)] at hlj
        obtain ⟨h1, h2⟩ := hf j x hx hlj
        have hj : upd ρ i v j = ρ j := by simp [upd, e]
        rw [hj, valsB_upd (fun e he hb hei => by have := h2 e he hb; rw [hei, hu] at this; cases this)]
        refine ⟨?_, fun e he hb => keep _ (h2 e he hb)⟩
        rcases h1 with h1 | ⟨k, hkl, hkk, hd⟩
        · cases hdd : dead os i j with
          | false => exact .inl (hF i j _ _ w w' (Ne.symm e) hdd h1 hC')
          | true => exact .inr ⟨i, hlt, hself, hdd⟩
        · exact .inr ⟨k, hkl, keep _ hkk, hd⟩
    · by_cases e : j = i
      · subst e; rw [hself] at hlj; cases hlj
      · rw [getD_set_ne true (Ne.symm e)] at hlj
        have hj2 : upd ρ i v j = ρ j := by simp [upd, e]
        rw [hj2]; exact hn j x d hj hd hlj

/-- One step, unguarded. -/
theorem FlowStepsX.step {os rest : List Oper} {S : Nat → World → Prop} {C : Nat → World → World → Prop} {F : Nat → Value → List Value → World → Prop} {a0 : Act} {i : Nat} {o : Oper} (N j : Nat) (hN : os.length = N) (hj : i + 1 = j) (hg : o.guard = none)
    (h : ∀ (c : Nat) (ρ : Nat → Value) (w : World), c < N → S c w → Hid (∀ e ∈ o.after, isData e = true → F e.on (ρ e.on) (valsBAt ρ os e.on) w) →
      Hid (∀ (j : Nat) (x : Oper) (d : Tmp), os[j]? = some x → x.dst = some d → waits x i = true → ρ j = a0.tmps.getD d undef) → ∀ K : Act → World → Prop,
      Hid (∀ (v : Value) (w' : World), F i v (valsB ρ o) w' → S (c + 1) w' → C i w w' → K ((putFrom ρ 0 os a0).put o.dst v) w') → Oper.wp P o (putFrom ρ 0 os a0) w K Q)
    (hs : FlowStepsX P os Q S C F a0 j rest) : FlowStepsX P os Q S C F a0 i (o :: rest) := by
  subst hj
  exact ⟨fun c ρ w hc hS hd hi K hK => by
    rw [if_pos (by simp only [Region.wanted, hg])]
    exact h c ρ w (by omega) hS hd hi K hK, hs⟩
/-- One step, guarded. -/
theorem FlowStepsX.stepG {os rest : List Oper} {S : Nat → World → Prop} {C : Nat → World → World → Prop} {F : Nat → Value → List Value → World → Prop} {a0 : Act} {i : Nat} {o : Oper} (N j : Nat) (hN : os.length = N) (hj : i + 1 = j)
    (h : ∀ (c : Nat) (ρ : Nat → Value) (w : World), c < N → S c w → Hid (∀ e ∈ o.after, isData e = true → F e.on (ρ e.on) (valsBAt ρ os e.on) w) →
      Hid (∀ (j : Nat) (x : Oper) (d : Tmp), os[j]? = some x → x.dst = some d → waits x i = true → ρ j = a0.tmps.getD d undef) → ∀ K : Act → World → Prop,
      Hid (∀ (v : Value) (w' : World), F i v (valsB ρ o) w' → S (c + 1) w' → C i w w' → K ((putFrom ρ 0 os a0).put o.dst v) w') →
        if Region.wanted o (yielded os.toArray (putFrom ρ 0 os a0).tmps) = true then Oper.wp P o (putFrom ρ 0 os a0) w K Q else K ((putFrom ρ 0 os a0).put o.dst undef) w)
    (hs : FlowStepsX P os Q S C F a0 j rest) : FlowStepsX P os Q S C F a0 i (o :: rest) := by
  subst hj
  exact ⟨fun c ρ w hc hS hd hi K hK => h c ρ w (by omega) hS hd hi K hK, hs⟩
theorem FlowStepsX.nil {os : List Oper} {S : Nat → World → Prop} {C : Nat → World → World → Prop} {F : Nat → Value → List Value → World → Prop} {a0 : Act} {i : Nat} : FlowStepsX P os Q S C F a0 i [] := trivial
/-- **A region that draws its order**: one goal an operation, whatever the order. -/
theorem wp_flowX {id : Nat} {os : List Oper} {a0 : Act} {w : World} (S : Nat → World → Prop) (C : Nat → World → World → Prop) (F : Nat → Value → List Value → World → Prop) (N : Nat) (hN : os.length = N) (hm : P.follows .mixedOrders = true)
    (hok : flowOkX 0 os = true) (hap : apartL os = true) (hF : ∀ i j v vs w w', i ≠ j → dead os i j = false → F j v vs w → C i w w' → F j v vs w') (h0 : S 0 w.drew)
    (steps : FlowStepsX P os Q S C F a0 0 os)
    (done : ∀ c ρ w', c ≤ N → S c w' → Hid (∀ j, j < N → ((List.range N).all fun k => !dead os k j) = true → F j (ρ j) (valsBAt ρ os j) w') → Q .normal (putFrom ρ 0 os a0) w') : (Code.region id os.toArray true).wp P Q a0 w := by
  subst hN
  refine wp_region_any hm ?_
  obtain ⟨ρ, hρ, hini⟩ := putFrom_start0 os a0
  have := flow_anyX hok hap hF steps (fun c ρ w' hc hS h => done c ρ w' hc hS (fun j hj hnd => by
    have hx : os[j]? = some (os[j]'hj) := List.getElem?_eq_getElem hj
    have := h j _ hx fun k hk => by simpa using (List.all_eq_true.1 hnd) k (List.mem_range.2 hk)
    simp only [valsBAt, hx]; exact this)) os.toArray.size (Array.replicate os.toArray.size false) 0 ρ w.drew (by simp) (by simp) ?_ ?_ (fun j x d hj hd _ => hini j x d hj hd) h0
  · rw [hρ] at this; exact this
  · refine Nat.le_trans (List.length_filter_le _ _) (by simp)
  · intro i o ho hl
    have := (List.getElem?_eq_some_iff.1 ho).1
    simp [Array.getD, this] at hl

theorem putFrom_size {ρ : Nat → Value} : ∀ (os : List Oper) (k : Nat) (a : Act), (putFrom ρ k os a).tmps.size = a.tmps.size
  | [], _, _ => rfl
  | o :: os, k, a => by
    simp only [putFrom]
    rw [putFrom_size os (k + 1)]
    cases o.dst with
    | none => rfl
    | some d => simp [Act.put]
theorem put_get_ne {a : Act} {x : Option Tmp} {v : Value} {d : Tmp} (h : x ≠ some d) : (a.put x v).tmps[d]? = a.tmps[d]? := by
  cases x with
  | none => rfl
  | some e =>
    have : e ≠ d := fun hh => h (by rw [hh])
    simp only [Act.put]
    rw [Array.getElem?_setIfInBounds_ne this]
theorem putFrom_other {ρ : Nat → Value} {d : Tmp} : ∀ (os : List Oper) (k : Nat) (a : Act), (∀ (j : Nat) (x : Oper), os[j]? = some x → x.dst ≠ some d) → (putFrom ρ k os a).tmps[d]? = a.tmps[d]?
  | [], _, _, _ => rfl
  | o :: os, k, a, h => by
    simp only [putFrom]
    rw [putFrom_other os (k + 1) _ fun j x hx => h (j + 1) x (by simpa using hx), put_get_ne (h 0 o rfl)]
theorem putFrom_get {ρ : Nat → Value} {d : Tmp} : ∀ (os : List Oper) (k j : Nat) (x : Oper) (a : Act), apartL os = true → os[j]? = some x → x.dst = some d → d < a.tmps.size → (putFrom ρ k os a).tmps[d]? = some (ρ (k + j))
  | [], _, _, _, _, _, h, _, _ => by simp at h
  | o :: os, k, 0, x, a, hap, h, hd, hlt => by
    simp only [List.getElem?_cons_zero, Option.some.injEq] at h
    subst h
    simp only [apartL, Bool.and_eq_true] at hap
    simp only [putFrom]
    rw [putFrom_other os (k + 1) _ fun j x hx hh => by
      have := List.all_eq_true.1 hap.1 x (List.mem_of_getElem? hx)
      rw [hh, hd] at this
      simp at this]
    rw [hd]
    simp only [Act.put]
    rw [Array.getElem?_setIfInBounds_self_of_lt hlt]; rfl
  | o :: os, k, j + 1, x, a, hap, h, hd, hlt => by
    simp only [apartL, Bool.and_eq_true] at hap
    simp only [putFrom]
    rw [putFrom_get os (k + 1) j x _ hap.2 (by simpa using h) hd (by cases o.dst <;> simpa [Act.put] using hlt), show k + 1 + j = k + (j + 1) by omega]
/-- What is known of operation number j's value. -/
def known (F : Nat → Value → List Value → World → Prop) (a : Act) (j : Nat) (x : Option Tmp) (w : World) : Prop :=
  match x with
  | some d => ∃ v, a.tmps[d]? = some v ∧ ∃ vs, F j v vs w
  | none => ∃ v vs, F j v vs w
/-- Slot d is written by none but operations that wait for number i. -/
def keepsAt (os : List Oper) (i d : Nat) : Bool := os.all fun x => x.dst != some d || waits x i
def dstsOk (M : Nat) (os : List Oper) : Bool := os.all fun x => match x.dst with | some d => decide (d < M) | none => true
theorem FlowStepsX.stepY {os rest : List Oper} {S : Nat → World → Prop} {C : Nat → World → World → Prop} {F : Nat → Value → List Value → World → Prop} {a0 : Act} {i : Nat} {o : Oper} (M N j : Nat) (hN : os.length = N) (hM : a0.tmps.size = M) (hap : apartL os = true) (hds : dstsOk M os = true) (hok : flowOkX 0 os = true) (hj : i + 1 = j) (ho : os[i]? = some o)
    (h : ∀ (c : Nat) (a : Act) (vs : List Value) (w : World), c < N → a.tmps.size = M → Hid (∀ p d : Nat, ((((o.after.toList.filter (Region.binds .any ·))[p]?).bind fun e => os[e.on]?).bind (·.dst)) = some d → vs[p]? = a.tmps[d]?) → S c w → Hid (∀ (e : Edge) (d : Option Tmp), e ∈ o.after → isData e = true → (os[e.on]?).map (·.dst) = some d → known F a e.on d w) →
      Hid (∀ d, keepsAt os i d = true → a.tmps[d]? = a0.tmps[d]?) → ∀ K : Act → World → Prop,
      Hid (∀ (v : Value) (w' : World), F i v vs w' → S (c + 1) w' → C i w w' → K (a.put o.dst v) w') →
        if Region.wanted o (yielded os.toArray a.tmps) = true then Oper.wp P o a w K Q else K (a.put o.dst undef) w)
    (hs : FlowStepsX P os Q S C F a0 j rest) : FlowStepsX P os Q S C F a0 i (o :: rest) := by
  subst hj
  refine ⟨fun c ρ w hc hS hd hi K hK => ?_, hs⟩
  have ds : ∀ (j : Nat) (x : Oper) (d : Tmp), os[j]? = some x → x.dst = some d → d < a0.tmps.size := fun j x d hx hxd => by
    have := List.all_eq_true.1 hds x (List.mem_of_getElem? hx)
    rw [hxd] at this
    rw [hM]; simpa using this
  refine h c (putFrom ρ 0 os a0) (valsB ρ o) w (by omega) (by rw [putFrom_size, hM]) (fun p d hp => ?_) hS (fun e d he hb hx => ?_) (fun d hk => ?_) K hK
  · obtain ⟨x, hx1, hx2⟩ := Option.bind_eq_some_iff.1 hp
    obtain ⟨e, he1, he2⟩ := Option.bind_eq_some_iff.1 hx1
    have := putFrom_get (ρ := ρ) os 0 e.on x a0 hap he2 hx2 (ds _ _ _ he2 hx2)
    rw [this, Nat.zero_add]
    simp only [valsB, List.getElem?_map, he1, Option.map_some]
  · have hF := hd e he hb
    obtain ⟨x, hx1, rfl⟩ := Option.map_eq_some_iff.1 hx
    clear hx
    have hx := hx1
    cases hxd : x.dst with
    | none => exact ⟨_, _, hF⟩
    | some d =>
      refine ⟨ρ e.on, ?_, _, hF⟩
      have := putFrom_get (ρ := ρ) os 0 e.on x a0 hap hx hxd (ds _ _ _ hx hxd)
      rwa [Nat.zero_add] at this
  · by_cases hw : ∃ (j : Nat) (x : Oper), os[j]? = some x ∧ x.dst = some d
    · obtain ⟨j, x, hx, hxd⟩ := hw
      have hwt : waits x i = true := by
        have := List.all_eq_true.1 hk x (List.mem_of_getElem? hx)
        rw [hxd] at this; simpa using this
      have hr := hi j x d hx hxd hwt
      have := putFrom_get (ρ := ρ) os 0 j x a0 hap hx hxd (ds _ _ _ hx hxd)
      rw [this, Nat.zero_add, hr]
      have hlt := ds _ _ _ hx hxd
      simp [Array.getD, hlt]
    · exact putFrom_other os 0 a0 fun j x hx hxd => hw ⟨j, x, hx, hxd⟩
theorem wanted_yes {o : Oper} {os : List Oper} {a : Act} {j d : Nat} {b : Bool} (hg : o.guard = some (j, b)) (hj : (os[j]?).bind (·.dst) = some d) (hv : a.tmps[d]? = some (.bool b)) {A B : Prop} (h : A) : if Region.wanted o (yielded os.toArray a.tmps) = true then A else B := by
  rw [if_pos]
  · exact h
  · simp only [Region.wanted, hg, yielded, List.getElem?_toArray, hj, Option.bind_some, hv]
    simp
theorem wanted_no {o : Oper} {os : List Oper} {a : Act} {j d : Nat} {b : Bool} (hg : o.guard = some (j, b)) (hj : (os[j]?).bind (·.dst) = some d) (hv : a.tmps[d]? = some (.bool (!b))) {A B : Prop} (h : B) : if Region.wanted o (yielded os.toArray a.tmps) = true then A else B := by
  rw [if_neg]
  · exact h
  · simp only [Region.wanted, hg, yielded, List.getElem?_toArray, hj, Option.bind_some, hv]
    cases b <;> simp
theorem wanted_nou {o : Oper} {os : List Oper} {a : Act} {j d : Nat} {b : Bool} (hg : o.guard = some (j, b)) (hj : (os[j]?).bind (·.dst) = some d) (hv : a.tmps[d]? = some undef) {A B : Prop} (h : B) : if Region.wanted o (yielded os.toArray a.tmps) = true then A else B := by
  rw [if_neg]
  · exact h
  · simp only [Region.wanted, hg, yielded, List.getElem?_toArray, hj, Option.bind_some, hv, undef]
    simp
theorem wanted_un {o : Oper} {os : List Oper} {a : Act} (hg : o.guard = none) {A B : Prop} (h : A) : if Region.wanted o (yielded os.toArray a.tmps) = true then A else B := by
  rw [if_pos (by simp only [Region.wanted, hg])]; exact h
end
end Go.Proofs.YtncjghmjlcohjaaDoor
