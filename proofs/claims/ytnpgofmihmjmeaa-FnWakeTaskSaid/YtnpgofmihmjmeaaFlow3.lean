/-
  A region that draws its order and holds guarded operations, walked by what is known of each value. No condition.
-/
import Derived.Test.YtnpgofmihmjmeaaFlow
namespace Go.Proofs.Ytnpgofmihmjmeaa
open Go.RowKit
set_option linter.unusedSimpArgs false
set_option linter.unusedVariables false

def flowOkG : Nat → List Oper → Bool
  | _, [] => true
  | i, o :: os => o.after.all (fun e => Region.binds .any e && decide (e.on < i)) && flowOkG (i + 1) os
theorem flowOkG_at : ∀ (os : List Oper) (k i : Nat) (o : Oper), flowOkG k os = true → os[i]? = some o → ∀ e ∈ o.after, Region.binds .any e = true ∧ e.on < k + i
  | [], _, _, _, _, h => by simp at h
  | x :: os, k, 0, o, hs, h => by
    simp only [List.getElem?_cons_zero, Option.some.injEq] at h
    subst h
    simp only [flowOkG, Bool.and_eq_true] at hs
    intro e he
    have := Array.all_eq_true_iff_forall_mem.1 hs.1 e he
    simpa using this
  | x :: os, k, i + 1, o, hs, h => by
    simp only [flowOkG, Bool.and_eq_true] at hs
    rw [show k + (i + 1) = k + 1 + i by omega]
    exact flowOkG_at os (k + 1) i o hs.2 (by simpa using h)
section
variable {P : Program} {ops : Array Oper} {Q : Exit → Act → World → Prop}
def FlowStepG (P : Program) (ops : Array Oper) (Q : Exit → Act → World → Prop) (S : Nat → World → Prop) (C : World → World → Prop) (F : Nat → Value → List Value → World → Prop) (a0 : Act) (i : Nat) (o : Oper) : Prop :=
  ∀ (c : Nat) (ρ : Nat → Value) (w : World), c < ops.size → S c w → (∀ e ∈ o.after, ∀ x, ops[e.on]? = some x → F e.on (ρ e.on) (vals ρ x) w) → ∀ K : Act → World → Prop,
    (∀ (a' : Act) (v : Value) (w' : World), a' = (putFrom ρ 0 ops.toList a0).put o.dst v → F i v (vals ρ o) w' → S (c + 1) w' → C w w' → K a' w') →
      if Region.wanted o (yielded ops (putFrom ρ 0 ops.toList a0).tmps) = true then Oper.wp P o (putFrom ρ 0 ops.toList a0) w K Q else K ((putFrom ρ 0 ops.toList a0).put o.dst undef) w
def FlowStepsG (P : Program) (ops : Array Oper) (Q : Exit → Act → World → Prop) (S : Nat → World → Prop) (C : World → World → Prop) (F : Nat → Value → List Value → World → Prop) (a0 : Act) : Nat → List Oper → Prop
  | _, [] => True
  | i, o :: os => FlowStepG P ops Q S C F a0 i o ∧ FlowStepsG P ops Q S C F a0 (i + 1) os
theorem FlowStepsG.at {S : Nat → World → Prop} {C : World → World → Prop} {F : Nat → Value → List Value → World → Prop} {a0 : Act} : ∀ (os : List Oper) (k i : Nat) (o : Oper), FlowStepsG P ops Q S C F a0 k os → os[i]? = some o → FlowStepG P ops Q S C F a0 (k + i) o
  | [], _, _, _, _, h => by simp at h
  | x :: os, k, 0, o, hs, h => by
    simp only [List.getElem?_cons_zero, Option.some.injEq] at h
    subst h; exact hs.1
  | x :: os, k, i + 1, o, hs, h => by
    rw [show k + (i + 1) = k + 1 + i by omega]
    exact FlowStepsG.at os (k + 1) i o hs.2 (by simpa using h)
theorem flow_anyG {S : Nat → World → Prop} {C : World → World → Prop} {F : Nat → Value → List Value → World → Prop} {a0 : Act} (hok : flowOkG 0 ops.toList = true) (hap : apartL ops.toList = true)
    (hF : ∀ i v vs w w', F i v vs w → C w w' → F i v vs w') (steps : FlowStepsG P ops Q S C F a0 0 ops.toList)
    (done : ∀ c ρ w', c ≤ ops.size → S c w' → (∀ i o, ops[i]? = some o → F i (ρ i) (vals ρ o) w') → Q .normal (putFrom ρ 0 ops.toList a0) w') :
    ∀ (fuel : Nat) (listed : Array Bool) (c : Nat) (ρ : Nat → Value) (w : World), fuel + c = ops.size → listed.size = ops.size →
      ((List.range ops.size).filter fun i => !listed.getD i true).length ≤ fuel →
      (∀ i o, ops[i]? = some o → listed.getD i true = true → F i (ρ i) (vals ρ o) w ∧ ∀ e ∈ o.after, listed.getD e.on true = true) → S c w →
      wpAny P .any ops Q fuel listed (putFrom ρ 0 ops.toList a0) w := by
  have same : ∀ (listed : Array Bool) (i : Nat), listed.size = ops.size → i < ops.size → listed.getD i false = listed.getD i true := fun listed i hs hi => by
    unfold Array.getD; rw [dif_pos (by omega), dif_pos (by omega)]
  have all : ∀ (listed : Array Bool), listed.size = ops.size → Region.ready .any ops listed = [] → ∀ i, i < ops.size → listed.getD i true = true := by
    intro listed hs hr i
    induction i using Nat.strongRecOn with
    | ind i ih =>
      intro hi
      cases hu : listed.getD i true with
      | true => rfl
      | false =>
        have ho : ops[i]? = some (ops[i]'hi) := Array.getElem?_eq_getElem hi
        have hk := flowOkG_at ops.toList 0 i _ hok (by rw [Array.getElem?_toList]; exact ho)
        have : i ∈ Region.ready .any ops listed := mem_ready.2 ⟨hu, _, ho, fun e he hb => by
          have hlt := (hk e he).2
          rw [same listed e.on hs (by omega)]
          exact ih e.on (by omega) (by omega)⟩
        rw [hr] at this
        cases this
  have lt : ∀ {i : Nat} {o : Oper}, ops[i]? = some o → i < ops.size := fun h => (Array.getElem?_eq_some_iff.1 h).1
  intro fuel
  induction fuel with
  | zero =>
    intro listed c ρ w hc hs hl hf hS
    have hr : Region.ready .any ops listed = [] := by
      cases hr : Region.ready .any ops listed with
      | nil => rfl
      | cons i r =>
        have hi : i ∈ Region.ready .any ops listed := by rw [hr]; simp
        obtain ⟨hu, o, ho, _⟩ := mem_ready.1 hi
        have hm : i ∈ (List.range ops.size).filter fun i => !listed.getD i true := List.mem_filter.2 ⟨List.mem_range.2 (lt ho), by simp only [hu]; rfl⟩
        have := List.length_pos_of_mem hm
        omega
    exact ⟨hr, done c ρ w (by omega) hS fun i o ho => (hf i o ho (all listed hs hr i (lt ho))).1⟩
  | succ fuel ih =>
    intro listed c ρ w hc hs hl hf hS
    refine ⟨fun hr => done c ρ w (by omega) hS fun i o ho => (hf i o ho (all listed hs hr i (lt ho))).1, fun i hi => ?_⟩
    obtain ⟨hu, o, ho, hdep⟩ := mem_ready.1 hi
    have hlt := lt ho
    have hol : ops.toList[i]? = some o := by rw [Array.getElem?_toList]; exact ho
    have hk := flowOkG_at ops.toList 0 i o hok hol
    have hst := FlowStepsG.at ops.toList 0 i o steps hol
    rw [Nat.zero_add] at hst
    have hdep' : ∀ e ∈ o.after, listed.getD e.on true = true := fun e he => by
      have h1 := hk e he
      rw [← same listed e.on hs (by omega)]; exact hdep e he h1.1
    refine wpOp_step ho fun K' hK => ?_
    refine hst c ρ w (by omega) hS (fun e he x hx => (hf e.on x hx (hdep' e he)).1) K' fun a' v w' ha' hFv hS' hC' => hK _ _ ?_
    rw [ha', putFrom_put ops.toList 0 i o a0 hap hol, Nat.zero_add]
    refine ih _ (c + 1) _ w' (by omega) (by simpa using hs) ?_ (fun j x hx hlj => ?_) hS'
    · have := filt_lt (p := fun j => !listed.getD j true) (q := fun j => !(listed.setIfInBounds i true).getD j true) (i := i) (fun j hj => by
        simp only [Bool.not_eq_true'] at hj ⊢
        by_cases e : i = j
        · subst e
          rw [Array.getD_eq_getD_getElem?, Array.getElem?_setIfInBounds_self_of_lt (by omega)] at hj
          cases hj
        · rw [getD_set_ne true e] at hj; exact hj) (by simp only [hu]; rfl) (by
          rw [Array.getD_eq_getD_getElem?, Array.getElem?_setIfInBounds_self_of_lt (by omega)]; rfl) (List.range ops.size) (List.mem_range.2 hlt)
      omega
    · have keep : ∀ q, listed.getD q true = true → (listed.setIfInBounds i true).getD q true = true := fun q hq => by
        by_cases e : i = q
        · subst e; rw [hu] at hq; cases hq
        · rw [getD_set_ne true e]; exact hq
      by_cases e : j = i
      · subst e
        obtain rfl : o = x := by simpa using ho.symm.trans hx
        rw [vals_upd (fun e he => by have := (hk e he).2; omega)]
        exact ⟨by simpa [upd] using hFv, fun e he => keep _ (hdep' e he)⟩
      · rw [getD_set_ne true (Ne.symm e)] at hlj
        obtain ⟨h1, h2⟩ := hf j x hx hlj
        have hj : upd ρ i v j = ρ j := by simp [upd, e]
        rw [hj, vals_upd (fun e he hei => by have := h2 e he; rw [hei, hu] at this; cases this)]
        exact ⟨hF j _ _ w w' h1 hC', fun e he => keep _ (h2 e he)⟩


theorem FlowStepsG.step {os rest : List Oper} {S : Nat → World → Prop} {C : World → World → Prop} {F : Nat → Value → List Value → World → Prop} {a0 : Act} {i : Nat} {o : Oper} (N j : Nat) (hN : os.length = N) (hj : i + 1 = j)
    (h : ∀ (c : Nat) (ρ : Nat → Value) (w : World), c < N → S c w → Hid (∀ e ∈ o.after, e.on < N → F e.on (ρ e.on) (valsAt ρ os e.on) w) → ∀ K : Act → World → Prop,
      Hid (∀ (v : Value) (w' : World), F i v (vals ρ o) w' → S (c + 1) w' → C w w' → K ((putFrom ρ 0 os a0).put o.dst v) w') →
        if Region.wanted o (yielded os.toArray (putFrom ρ 0 os a0).tmps) = true then Oper.wp P o (putFrom ρ 0 os a0) w K Q else K ((putFrom ρ 0 os a0).put o.dst undef) w)
    (hs : FlowStepsG P os.toArray Q S C F a0 j rest) : FlowStepsG P os.toArray Q S C F a0 i (o :: rest) := by
  subst hj
  exact ⟨fun c ρ w hc hS hd K hK => h c ρ w (by simp at hc; omega) hS (fun e he hlt => by
    have hx : os[e.on]? = some (os[e.on]'(by omega)) := List.getElem?_eq_getElem (by omega)
    have := hd e he (os[e.on]'(by omega)) (by rw [List.getElem?_toArray]; exact hx)
    simp only [valsAt, hx]; exact this) K fun v w' h1 h2 h3 => hK _ v w' rfl h1 h2 h3, hs⟩
theorem FlowStepsG.nil {os : List Oper} {S : Nat → World → Prop} {C : World → World → Prop} {F : Nat → Value → List Value → World → Prop} {a0 : Act} {i : Nat} : FlowStepsG P os.toArray Q S C F a0 i [] := trivial
/-- **A region that draws its order and holds guarded operations.** -/
theorem wp_flowG {id : Nat} {os : List Oper} {a0 : Act} {w : World} (S : Nat → World → Prop) (C : World → World → Prop) (F : Nat → Value → List Value → World → Prop) (N : Nat) (hN : os.length = N) (hm : P.follows .mixedOrders = true)
    (hok : flowOkG 0 os = true) (hap : apartL os = true) (hF : ∀ i v vs w w', F i v vs w → C w w' → F i v vs w') (h0 : S 0 w.drew)
    (steps : FlowStepsG P os.toArray Q S C F a0 0 os)
    (done : ∀ c ρ w', c ≤ N → S c w' → Hid (∀ j, j < N → F j (ρ j) (valsAt ρ os j) w') → Q .normal (putFrom ρ 0 os a0) w') : (Code.region id os.toArray true).wp P Q a0 w := by
  subst hN
  refine wp_region_any hm ?_
  obtain ⟨ρ, hρ⟩ := putFrom_start os a0
  have := flow_anyG (ops := os.toArray) hok hap hF steps (fun c ρ w' hc hS h => done c ρ w' (by simpa using hc) hS (fun j hj => by
    have hx : os[j]? = some (os[j]'hj) := List.getElem?_eq_getElem hj
    have := h j _ (by rw [List.getElem?_toArray]; exact hx)
    simp only [valsAt, hx]; exact this)) os.toArray.size (Array.replicate os.toArray.size false) 0 ρ w.drew (by omega) (by simp) ?_ ?_ h0
  · rw [hρ] at this; exact this
  · refine Nat.le_trans (List.length_filter_le _ _) (by simp)
  · intro i o ho hl
    have := (Array.getElem?_eq_some_iff.1 ho).1
    simp [Array.getD, this] at hl
    simp at this
    omega
end
end Go.Proofs.Ytnpgofmihmjmeaa
