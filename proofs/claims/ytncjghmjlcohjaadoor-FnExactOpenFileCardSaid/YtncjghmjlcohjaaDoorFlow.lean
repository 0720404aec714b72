/-
  A region that draws its order, walked by what is known of each operation's value: one goal for each operation, whatever the order. No condition.
-/
import Derived.Test.YtncjghmjlcohjaaDoorBase
import Derived.Orders
import Derived.RegionTactic
namespace Go.Proofs.YtncjghmjlcohjaaDoor
open Go.RowKit
set_option linter.unusedSimpArgs false
set_option linter.unusedVariables false

/-- The state in which operation k's slot holds ρ k. -/
def putFrom (ρ : Nat → Value) : Nat → List Oper → Act → Act
  | _, [], a => a
  | k, o :: os, a => putFrom ρ (k + 1) os (a.put o.dst (ρ k))
def upd (ρ : Nat → Value) (i : Nat) (v : Value) : Nat → Value := fun j => if j = i then v else ρ j
def apartL : List Oper → Bool
  | [] => true
  | o :: os => (os.all fun x => o.dst.isNone || x.dst != o.dst) && apartL os
def flowOk : Nat → List Oper → Bool
  | _, [] => true
  | i, o :: os => o.guard.isNone && o.after.all (fun e => Region.binds .any e && decide (e.on < i)) && flowOk (i + 1) os

theorem putFrom_congr {ρ ρ' : Nat → Value} : ∀ (os : List Oper) (k : Nat) (a : Act), (∀ j, k ≤ j → ρ j = ρ' j) → putFrom ρ k os a = putFrom ρ' k os a
  | [], _, _, _ => rfl
  | o :: os, k, a, h => by
    simp only [putFrom]
    rw [h k (Nat.le_refl _)]
    exact putFrom_congr os (k + 1) _ fun j hj => h j (by omega)
theorem put_put (a : Act) (d : Option Tmp) (v u : Value) : (a.put d v).put d u = a.put d u := by
  cases d with
  | none => rfl
  | some d => simp [Act.put]
theorem put_out (a : Act) {x y : Option Tmp} (v u : Value) (h : (y.isNone || x != y) = true) : (a.put x v).put y u = (a.put y u).put x v := by
  cases y with
  | none => rfl
  | some d =>
    simp at h
    exact Act.put_comm a v u fun e he hy => h (by rw [he, hy])
theorem putFrom_out {ρ : Nat → Value} {d : Option Tmp} {v : Value} : ∀ (os : List Oper) (k : Nat) (a : Act), (os.all fun x => d.isNone || x.dst != d) = true → (putFrom ρ k os a).put d v = putFrom ρ k os (a.put d v)
  | [], _, _, _ => rfl
  | o :: os, k, a, h => by
    simp only [List.all_cons, Bool.and_eq_true] at h
    simp only [putFrom]
    rw [putFrom_out os (k + 1) _ h.2, put_out a _ _ h.1]
theorem putFrom_put {ρ : Nat → Value} {v : Value} : ∀ (os : List Oper) (k i : Nat) (o : Oper) (a : Act), apartL os = true → os[i]? = some o → (putFrom ρ k os a).put o.dst v = putFrom (upd ρ (k + i) v) k os a
  | [], _, _, _, _, _, h => by simp at h
  | x :: os, k, 0, o, a, hap, h => by
    simp only [List.getElem?_cons_zero, Option.some.injEq] at h
    subst h
    simp only [apartL, Bool.and_eq_true] at hap
    simp only [putFrom]
    rw [putFrom_out os (k + 1) _ hap.1, put_put]
    have : upd ρ (k + 0) v k = v := by simp [upd]
    rw [this]
    exact putFrom_congr os (k + 1) _ fun j hj => by simp only [upd]; rw [if_neg (by omega)]
  | x :: os, k, i + 1, o, a, hap, h => by
    simp only [List.getElem?_cons_succ] at h
    simp only [apartL, Bool.and_eq_true] at hap
    simp only [putFrom]
    rw [putFrom_put os (k + 1) i o _ hap.2 h, show k + 1 + i = k + (i + 1) by omega]
    have : upd ρ (k + (i + 1)) v k = ρ k := by simp only [upd]; rw [if_neg (by omega)]
    rw [this]
theorem put_self (a : Act) (d : Tmp) : a.put (some d) (a.tmps.getD d undef) = a := by
  simp only [Act.put]
  have : a.tmps.setIfInBounds d (a.tmps.getD d undef) = a.tmps := by
    apply Array.ext
    · simp
    · intro i h1 h2
      rw [Array.getElem_setIfInBounds]
      split
      · rename_i e; subst e; simp [Array.getD, h2]
      · rfl
  rw [this]
theorem putFrom_self {ρ : Nat → Value} {a : Act} : ∀ (os : List Oper) (k : Nat), (∀ (j : Nat) (o : Oper) (d : Tmp), os[j]? = some o → o.dst = some d → ρ (k + j) = a.tmps.getD d undef) → putFrom ρ k os a = a
  | [], _, _ => rfl
  | o :: os, k, h => by
    simp only [putFrom]
    have h1 : a.put o.dst (ρ k) = a := by
      cases hd : o.dst with
      | none => rfl
      | some d =>
        have := h 0 o d rfl hd
        rw [Nat.add_zero] at this
        rw [this]; exact put_self a d
    rw [h1]
    exact putFrom_self os (k + 1) fun j x d hj hx => by rw [show k + 1 + j = k + (j + 1) by omega]; exact h (j + 1) x d (by simpa using hj) hx
theorem putFrom_start (os : List Oper) (a : Act) : ∃ ρ, putFrom ρ 0 os a = a :=
  ⟨fun j => match os[j]? with | some o => (match o.dst with | some d => a.tmps.getD d undef | none => undef) | none => undef,
   putFrom_self os 0 fun j o d hj hd => by simp only [Nat.zero_add, hj, hd]⟩

section
variable {P : Program} {ops : Array Oper} {Q : Exit → Act → World → Prop}
/-- The values of the operations that o waits for. -/
def vals (ρ : Nat → Value) (o : Oper) : List Value := o.after.toList.map fun e => ρ e.on
/-- What one operation has to show. -/
def FlowStep (P : Program) (ops : Array Oper) (Q : Exit → Act → World → Prop) (S : Nat → World → Prop) (C : World → World → Prop) (F : Nat → Value → List Value → World → Prop) (a0 : Act) (i : Nat) (o : Oper) : Prop :=
  ∀ (c : Nat) (ρ : Nat → Value) (w : World), c < ops.size → S c w → (∀ e ∈ o.after, ∀ x, ops[e.on]? = some x → F e.on (ρ e.on) (vals ρ x) w) → ∀ K : Act → World → Prop,
    (∀ (a' : Act) (v : Value) (w' : World), a' = (putFrom ρ 0 ops.toList a0).put o.dst v → F i v (vals ρ o) w' → S (c + 1) w' → C w w' → K a' w') → Oper.wp P o (putFrom ρ 0 ops.toList a0) w K Q
def FlowSteps (P : Program) (ops : Array Oper) (Q : Exit → Act → World → Prop) (S : Nat → World → Prop) (C : World → World → Prop) (F : Nat → Value → List Value → World → Prop) (a0 : Act) : Nat → List Oper → Prop
  | _, [] => True
  | i, o :: os => FlowStep P ops Q S C F a0 i o ∧ FlowSteps P ops Q S C F a0 (i + 1) os
theorem FlowSteps.at {S : Nat → World → Prop} {C : World → World → Prop} {F : Nat → Value → List Value → World → Prop} {a0 : Act} : ∀ (os : List Oper) (k i : Nat) (o : Oper), FlowSteps P ops Q S C F a0 k os → os[i]? = some o → FlowStep P ops Q S C F a0 (k + i) o
  | [], _, _, _, _, h => by simp at h
  | x :: os, k, 0, o, hs, h => by
    simp only [List.getElem?_cons_zero, Option.some.injEq] at h
    subst h; exact hs.1
  | x :: os, k, i + 1, o, hs, h => by
    rw [show k + (i + 1) = k + 1 + i by omega]
    exact FlowSteps.at os (k + 1) i o hs.2 (by simpa using h)
theorem vals_upd {ρ : Nat → Value} {o : Oper} {k : Nat} {v : Value} (h : ∀ e ∈ o.after, e.on ≠ k) : vals (upd ρ k v) o = vals ρ o := by
  unfold vals
  refine List.map_congr_left fun e he => ?_
  simp only [upd]
  rw [if_neg (h e (by simpa using he))]
theorem flowOk_at : ∀ (os : List Oper) (k i : Nat) (o : Oper), flowOk k os = true → os[i]? = some o → o.guard = none ∧ ∀ e ∈ o.after, Region.binds .any e = true ∧ e.on < k + i
  | [], _, _, _, _, h => by simp at h
  | x :: os, k, 0, o, hs, h => by
    simp only [List.getElem?_cons_zero, Option.some.injEq] at h
    subst h
    simp only [flowOk, Bool.and_eq_true, Option.isNone_iff_eq_none] at hs
    refine ⟨hs.1.1, fun e he => ?_⟩
    have := Array.all_eq_true_iff_forall_mem.1 hs.1.2 e he
    simpa using this
  | x :: os, k, i + 1, o, hs, h => by
    simp only [flowOk, Bool.and_eq_true] at hs
    rw [show k + (i + 1) = k + 1 + i by omega]
    exact flowOk_at os (k + 1) i o hs.2 (by simpa using h)
theorem filt_lt {p q : Nat → Bool} (hpq : ∀ i, q i = true → p i = true) {i : Nat} (hp : p i = true) (hq : q i = false) : ∀ l : List Nat, i ∈ l → (l.filter q).length < (l.filter p).length
  | [], h => by cases h
  | x :: l, h => by
    have hle : ∀ l : List Nat, (l.filter q).length ≤ (l.filter p).length := by
      intro l
      induction l with
      | nil => simp
      | cons y l ih =>
        simp only [List.filter_cons]
        cases hqy : q y with
        | true => simp only [hpq y hqy, if_true, List.length_cons]; omega
        | false => simp only [Bool.false_eq_true, if_false]; split <;> (try simp only [List.length_cons]) <;> omega
    simp only [List.filter_cons]
    by_cases hx : x = i
    · subst hx
      simp only [hp, hq, if_true, Bool.false_eq_true, if_false, List.length_cons]
      have := hle l
      omega
    · have ih := filt_lt hpq hp hq l (by rcases List.mem_cons.1 h with e | e; exact absurd e.symm hx; exact e)
      cases hqy : q x with
      | true => simp only [hpq x hqy, if_true, List.length_cons]; omega
      | false => simp only [Bool.false_eq_true, if_false]; split <;> (try simp only [List.length_cons]) <;> omega

theorem flow_any {S : Nat → World → Prop} {C : World → World → Prop} {F : Nat → Value → List Value → World → Prop} {a0 : Act} (hok : flowOk 0 ops.toList = true) (hap : apartL ops.toList = true)
    (hF : ∀ i v vs w w', F i v vs w → C w w' → F i v vs w') (steps : FlowSteps P ops Q S C F a0 0 ops.toList)
    (done : ∀ c ρ w', c ≤ ops.size → S c w' → (∀ i o, ops[i]? = some o → F i (ρ i) (vals ρ o) w') → Q .normal (putFrom ρ 0 ops.toList a0) w') :
    ∀ (fuel : Nat) (listed : Array Bool) (c : Nat) (ρ : Nat → Value) (w : World), fuel + c = ops.size → listed.size = ops.size →
      ((List.range ops.size).filter fun i => !listed.getD i true).length ≤ fuel →
      (∀ i o, ops[i]? = some o → listed.getD i true = true → F i (ρ i) (vals ρ o) w ∧ ∀ e ∈ o.after, listed.getD e.on true = true) → S c w →
      wpAny P .any ops Q fuel listed (putFrom ρ 0 ops.toList a0) w := by
  have same : ∀ (listed : Array Bool) (i : Nat), listed.size = ops.size → i < ops.size → listed.getD i false = listed.getD i true := fun listed i hs hi => by
    unfold Array.getD; rw [dif_pos (by omega), dif_pos (by omega)]
  have all : ∀ (listed : Array Bool), listed.size = ops.size → Region.ready .any ops listed = [] → ∀ i, i < ops.size → listed.getD i true = true := by
    intro listed hs hr i
    induction i using Nat.strongRecOn with
    | ind i ih =>
      intro hi
      cases hu : listed.getD i true with
      | true => rfl
      | false =>
        have ho : ops[i]? = some (ops[i]'hi) := Array.getElem?_eq_getElem hi
        have hk := flowOk_at ops.toList 0 i _ hok (by rw [Array.getElem?_toList]; exact ho)
        have : i ∈ Region.ready .any ops listed := mem_ready.2 ⟨hu, _, ho, fun e he hb => by
          have hlt := (hk.2 e he).2
          rw [same listed e.on hs (by omega)]
          exact ih e.on (by omega) (by omega)⟩
        rw [hr] at this
        cases this
  have lt : ∀ {i : Nat} {o : Oper}, ops[i]? = some o → i < ops.size := fun h => (Array.getElem?_eq_some_iff.1 h).1
  intro fuel
  induction fuel with
  | zero =>
    intro listed c ρ w hc hs hl hf hS
    have hr : Region.ready .any ops listed = [] := by
      cases hr : Region.ready .any ops listed with
      | nil => rfl
      | cons i r =>
        have hi : i ∈ Region.ready .any ops listed := by rw [hr]; simp
        obtain ⟨hu, o, ho, _⟩ := mem_ready.1 hi
        have hm : i ∈ (List.range ops.size).filter fun i => !listed.getD i true := List.mem_filter.2 ⟨List.mem_range.2 (lt ho), by simp only [hu]; rfl⟩
        have := List.length_pos_of_mem hm
        omega
    exact ⟨hr, done c ρ w (by omega) hS fun i o ho => (hf i o ho (all listed hs hr i (lt ho))).1⟩
  | succ fuel ih =>
    intro listed c ρ w hc hs hl hf hS
    refine ⟨fun hr => done c ρ w (by omega) hS fun i o ho => (hf i o ho (all listed hs hr i (lt ho))).1, fun i hi => ?_⟩
    obtain ⟨hu, o, ho, hdep⟩ := mem_ready.1 hi
    have hlt := lt ho
    have hol : ops.toList[i]? = some o := by rw [Array.getElem?_toList]; exact ho
    have hk := flowOk_at ops.toList 0 i o hok hol
    have hst := FlowSteps.at ops.toList 0 i o steps hol
    rw [Nat.zero_add] at hst
    have hdep' : ∀ e ∈ o.after, listed.getD e.on true = true := fun e he => by
      have h1 := hk.2 e he
      rw [← same listed e.on hs (by omega)]; exact hdep e he h1.1
    refine wpOp_step ho fun K' hK => ?_
    have hw : Region.wanted o (yielded ops (putFrom ρ 0 ops.toList a0).tmps) = true := by simp only [Region.wanted, hk.1]
    rw [if_pos hw]
    refine hst c ρ w (by omega) hS (fun e he x hx => (hf e.on x hx (hdep' e he)).1) K' fun a' v w' ha' hFv hS' hC' => hK _ _ ?_
    rw [ha', putFrom_put ops.toList 0 i o a0 hap hol, Nat.zero_add]
    refine ih _ (c + 1) _ w' (by omega) (by simpa using hs) ?_ (fun j x hx hlj => ?_) hS'
    · have := filt_lt (p := fun j => !listed.getD j true) (q := fun j => !(listed.setIfInBounds i true).getD j true) (i := i) (fun j hj => by
        simp only [Bool.not_eq_true'] at hj ⊢
        by_cases e : i = j
        · subst e
          rw [Array.getD_eq_getD_getElem?, Array.getElem?_setIfInBounds_self_of_lt (by omega)] at hj
          cases hj
        · rw [getD_set_ne true e] at hj; exact hj) (by simp only [hu]; rfl) (by
          rw [Array.getD_eq_getD_getElem?, Array.getElem?_setIfInBounds_self_of_lt (by omega)]; rfl) (List.range ops.size) (List.mem_range.2 hlt)
      omega
    · have keep : ∀ q, listed.getD q true = true → (listed.setIfInBounds i true).getD q true = true := fun q hq => by
        by_cases e : i = q
        · subst e; rw [hu] at hq; cases hq
        · rw [getD_set_ne true e]; exact hq
      by_cases e : j = i
      · subst e
        obtain rfl : o = x := by simpa using ho.symm.trans hx
        rw [vals_upd (fun e he => by have := (hk.2 e he).2; omega)]
        exact ⟨by simpa [upd] using hFv, fun e he => keep _ (hdep' e he)⟩
      · rw [getD_set_ne true (Ne.symm e)] at hlj
        obtain ⟨h1, h2⟩ := hf j x hx hlj
        have hj : upd ρ i v j = ρ j := by simp [upd, e]
        rw [hj, vals_upd (fun e he hei => by have := h2 e he; rw [hei, hu] at this; cases this)]
        exact ⟨hF j _ _ w w' h1 hC', fun e he => keep _ (h2 e he)⟩

/-- **A region that draws its order**, walked by what is known of each value. -/
theorem wp_flow {id : Nat} {a0 : Act} {w : World} (S : Nat → World → Prop) (C : World → World → Prop) (F : Nat → Value → List Value → World → Prop) (hm : P.follows .mixedOrders = true)
    (hok : flowOk 0 ops.toList = true) (hap : apartL ops.toList = true) (hF : ∀ i v vs w w', F i v vs w → C w w' → F i v vs w') (h0 : S 0 w.drew)
    (steps : FlowSteps P ops Q S C F a0 0 ops.toList)
    (done : ∀ c ρ w', c ≤ ops.size → S c w' → (∀ i o, ops[i]? = some o → F i (ρ i) (vals ρ o) w') → Q .normal (putFrom ρ 0 ops.toList a0) w') : (Code.region id ops true).wp P Q a0 w := by
  refine wp_region_any hm ?_
  obtain ⟨ρ, hρ⟩ := putFrom_start ops.toList a0
  have := flow_any hok hap hF steps done ops.size (Array.replicate ops.size false) 0 ρ w.drew (by omega) (by simp) ?_ ?_ h0
  · rw [hρ] at this; exact this
  · refine Nat.le_trans (List.length_filter_le _ _) (by simp)
  · intro i o ho hl
    have := (Array.getElem?_eq_some_iff.1 ho).1
    simp [Array.getD, this] at hl
/-- The same at a list of operations. -/
theorem wp_flowL {id : Nat} {os : List Oper} {a0 : Act} {w : World} (S : Nat → World → Prop) (C : World → World → Prop) (F : Nat → Value → List Value → World → Prop) (hm : P.follows .mixedOrders = true)
    (hok : flowOk 0 os = true) (hap : apartL os = true) (hF : ∀ i v vs w w', F i v vs w → C w w' → F i v vs w') (h0 : S 0 w.drew)
    (steps : FlowSteps P os.toArray Q S C F a0 0 os)
    (done : ∀ c ρ w', c ≤ os.length → S c w' → (∀ i o, os[i]? = some o → F i (ρ i) (vals ρ o) w') → Q .normal (putFrom ρ 0 os a0) w') : (Code.region id os.toArray true).wp P Q a0 w :=
  wp_flow (ops := os.toArray) S C F hm hok hap hF h0 steps fun c ρ w' hc hS h => done c ρ w' (by simpa using hc) hS fun i o ho => h i o (by simpa using ho)
/-- The values of the operations that number j waits for. -/
def valsAt (ρ : Nat → Value) (os : List Oper) (j : Nat) : List Value := match os[j]? with | some x => vals ρ x | none => []
theorem FlowSteps.step {os rest : List Oper} {S : Nat → World → Prop} {C : World → World → Prop} {F : Nat → Value → List Value → World → Prop} {a0 : Act} {i : Nat} {o : Oper} (N j : Nat) (hN : os.length = N) (hj : i + 1 = j)
    (h : ∀ (c : Nat) (ρ : Nat → Value) (w : World), c < N → S c w → Hid (∀ e ∈ o.after, e.on < N → F e.on (ρ e.on) (valsAt ρ os e.on) w) → ∀ K : Act → World → Prop,
      Hid (∀ (v : Value) (w' : World), F i v (vals ρ o) w' → S (c + 1) w' → C w w' → K ((putFrom ρ 0 os a0).put o.dst v) w') → Oper.wp P o (putFrom ρ 0 os a0) w K Q)
    (hs : FlowSteps P os.toArray Q S C F a0 j rest) : FlowSteps P os.toArray Q S C F a0 i (o :: rest) := by
  subst hj
  exact ⟨fun c ρ w hc hS hd K hK => h c ρ w (by simp at hc; omega) hS (fun e he hlt => by
    have hx : os[e.on]? = some (os[e.on]'(by omega)) := List.getElem?_eq_getElem (by omega)
    have := hd e he (os[e.on]'(by omega)) (by rw [List.getElem?_toArray]; exact hx)
    simp only [valsAt, hx]; exact this) K fun v w' h1 h2 h3 => hK _ v w' rfl h1 h2 h3, hs⟩
theorem FlowSteps.nil {os : List Oper} {S : Nat → World → Prop} {C : World → World → Prop} {F : Nat → Value → List Value → World → Prop} {a0 : Act} {i : Nat} : FlowSteps P os.toArray Q S C F a0 i [] := trivial
/-- The last operation waits for all others. -/
def lastOk (n : Nat) (o : Oper) : Bool := (o.guard.isNone && o.after.all fun e => decide (e.on < n)) && (List.range n).all fun j => o.after.any fun e => Region.binds .any e && e.on == j
theorem lastOk_at {n : Nat} {o : Oper} (h : lastOk n o = true) : (o.guard = none ∧ ∀ e ∈ o.after, e.on < n) ∧ ∀ j, j < n → ∃ e ∈ o.after, Region.binds .any e = true ∧ e.on = j := by
  simp only [lastOk, Bool.and_eq_true, Option.isNone_iff_eq_none, List.all_eq_true, List.mem_range] at h
  refine ⟨⟨h.1.1, fun e he => by simpa using Array.all_eq_true_iff_forall_mem.1 h.1.2 e he⟩, fun j hj => ?_⟩
  obtain ⟨e, he, hb⟩ := Array.any_eq_true'.1 (h.2 j hj)
  simp only [Bool.and_eq_true, beq_iff_eq] at hb
  exact ⟨e, he, hb.1, hb.2⟩
theorem flow_last {S : Nat → World → Prop} {C : World → World → Prop} {F : Nat → Value → List Value → World → Prop} {a0 : Act} {os : List Oper} {last : Oper}
    (hok : flowOk 0 os = true) (hap : apartL os = true) (hlast : lastOk os.length last = true)
    (hF : ∀ i v vs w w', F i v vs w → C w w' → F i v vs w') (steps : FlowSteps P os.toArray Q S C F a0 0 os)
    (done : ∀ c ρ w', c ≤ os.length → S c w' → (∀ i o, os[i]? = some o → F i (ρ i) (vals ρ o) w') → Oper.wp P last (putFrom ρ 0 os a0) w' (fun a w => Q .normal a w) Q) :
    ∀ (fuel : Nat) (listed : Array Bool) (c : Nat) (ρ : Nat → Value) (w : World), fuel + c = os.length + 1 → listed.size = os.length + 1 → listed.getD os.length true = false →
      ((List.range (os.length + 1)).filter fun i => !listed.getD i true).length ≤ fuel →
      (∀ i o, os[i]? = some o → listed.getD i true = true → F i (ρ i) (vals ρ o) w ∧ ∀ e ∈ o.after, listed.getD e.on true = true) → S c w → c ≤ os.length →
      wpAny P .any (os ++ [last]).toArray Q fuel listed (putFrom ρ 0 os a0) w := by
  have hsz : (os ++ [last]).toArray.size = os.length + 1 := by simp
  have ge : ∀ i, i < os.length → (os ++ [last]).toArray[i]? = os[i]? := fun i hi => by rw [List.getElem?_toArray, List.getElem?_append_left hi]
  have gl : (os ++ [last]).toArray[os.length]? = some last := by rw [List.getElem?_toArray, List.getElem?_append_right (Nat.le_refl _)]; simp
  have hll := lastOk_at hlast
  have same : ∀ (listed : Array Bool) (i : Nat), listed.size = os.length + 1 → i < os.length + 1 → listed.getD i false = listed.getD i true := fun listed i hs hi => by
    unfold Array.getD; rw [dif_pos (by omega), dif_pos (by omega)]
  have all : ∀ (listed : Array Bool), listed.size = os.length + 1 → Region.ready .any (os ++ [last]).toArray listed = [] → ∀ i, i < os.length + 1 → listed.getD i true = true := by
    intro listed hs hr i
    induction i using Nat.strongRecOn with
    | ind i ih =>
      intro hi
      cases hu : listed.getD i true with
      | true => rfl
      | false =>
        have : i ∈ Region.ready .any (os ++ [last]).toArray listed := by
          rcases Nat.lt_or_ge i os.length with hlt | hge
          · have ho : os[i]? = some (os[i]'hlt) := List.getElem?_eq_getElem hlt
            have hk := flowOk_at os 0 i _ hok ho
            exact mem_ready.2 ⟨hu, _, (ge i hlt).trans ho, fun e he hb => by
              have hlt := (hk.2 e he).2
              rw [same listed e.on hs (by omega)]
              exact ih e.on (by omega) (by omega)⟩
          · obtain rfl : i = os.length := by omega
            refine mem_ready.2 ⟨hu, _, gl, fun e he hb => ?_⟩
            have hee := hll.1.2 e he
            rw [same listed e.on hs (by omega)]; exact ih e.on (by omega) (by omega)
        rw [hr] at this
        cases this
  have keep : ∀ (listed : Array Bool) (i q : Nat), listed.getD i true = false → listed.getD q true = true → (listed.setIfInBounds i true).getD q true = true := fun listed i q hu hq => by
    by_cases e : i = q
    · subst e; rw [hu] at hq; cases hq
    · rw [getD_set_ne true e]; exact hq
  intro fuel
  induction fuel with
  | zero =>
    intro listed c ρ w hc hs hul hl hf hS
    have hm : os.length ∈ (List.range (os.length + 1)).filter fun i => !listed.getD i true := List.mem_filter.2 ⟨List.mem_range.2 (by omega), by simp only [hul]; rfl⟩
    have := List.length_pos_of_mem hm
    omega
  | succ fuel ih =>
    intro listed c ρ w hc hs hul hl hf hS hcl
    refine ⟨fun hr => absurd (all listed hs hr os.length (by omega)) (by rw [hul]; decide), fun i hi => ?_⟩
    obtain ⟨hu, o, ho, hdep⟩ := mem_ready.1 hi
    have hlt : i < os.length + 1 := by rw [← hsz]; exact (Array.getElem?_eq_some_iff.1 ho).1
    rcases Nat.lt_or_ge i os.length with hio | hio
    · have hol : os[i]? = some o := (ge i hio).symm.trans ho
      have hk := flowOk_at os 0 i o hok hol
      have hst := FlowSteps.at os 0 i o steps hol
      rw [Nat.zero_add] at hst
      have hdep' : ∀ e ∈ o.after, listed.getD e.on true = true := fun e he => by
        have h1 := hk.2 e he
        rw [← same listed e.on hs (by omega)]; exact hdep e he h1.1
      refine wpOp_step ho fun K' hK => ?_
      have hw : Region.wanted o (yielded (os ++ [last]).toArray (putFrom ρ 0 os a0).tmps) = true := by simp only [Region.wanted, hk.1]
      rw [if_pos hw]
      by_cases hcc : c < os.length
      · refine hst c ρ w (by simpa using hcc) hS (fun e he x hx => (hf e.on x (by simpa using hx) (hdep' e he)).1) K' fun a' v w' ha' hFv hS' hC' => hK _ _ ?_
        rw [ha', putFrom_put os 0 i o a0 hap hol, Nat.zero_add]
        refine ih _ (c + 1) _ w' (by omega) (by simpa using hs) (by rw [getD_set_ne true (by omega)]; exact hul) ?_ (fun j x hx hlj => ?_) hS' (by omega)
        · have := filt_lt (p := fun j => !listed.getD j true) (q := fun j => !(listed.setIfInBounds i true).getD j true) (i := i) (fun j hj => by
            simp only [Bool.not_eq_true'] at hj ⊢
            by_cases e : i = j
            · subst e
              rw [Array.getD_eq_getD_getElem?, Array.getElem?_setIfInBounds_self_of_lt (by omega)] at hj
              cases hj
            · rw [getD_set_ne true e] at hj; exact hj) (by simp only [hu]; rfl) (by
              rw [Array.getD_eq_getD_getElem?, Array.getElem?_setIfInBounds_self_of_lt (by omega)]; rfl) (List.range (os.length + 1)) (List.mem_range.2 hlt)
          omega
        · by_cases e : j = i
          · subst e
            obtain rfl : o = x := by simpa using hol.symm.trans hx
            rw [vals_upd (fun e he => by have := (hk.2 e he).2; omega)]
            exact ⟨by simpa [upd] using hFv, fun e he => keep _ _ _ hu (hdep' e he)⟩
          · rw [getD_set_ne true (Ne.symm e)] at hlj
            obtain ⟨h1, h2⟩ := hf j x hx hlj
            have hj : upd ρ i v j = ρ j := by simp [upd, e]
            rw [hj, vals_upd (fun e he hei => by have := h2 e he; rw [hei, hu] at this; cases this)]
            exact ⟨hF j _ _ w w' h1 hC', fun e he => keep _ _ _ hu (h2 e he)⟩
      · -- no room: both i and the last one are still to come
        have h2 : 2 ≤ ((List.range (os.length + 1)).filter fun i => !listed.getD i true).length := by
          have e1 := filt_lt (p := fun j => !listed.getD j true) (q := fun j => !(listed.setIfInBounds i true).getD j true) (i := i) (fun j hj => by
            simp only [Bool.not_eq_true'] at hj ⊢
            by_cases e : i = j
            · subst e
              rw [Array.getD_eq_getD_getElem?, Array.getElem?_setIfInBounds_self_of_lt (by omega)] at hj
              cases hj
            · rw [getD_set_ne true e] at hj; exact hj) (by simp only [hu]; rfl) (by
              rw [Array.getD_eq_getD_getElem?, Array.getElem?_setIfInBounds_self_of_lt (by omega)]; rfl) (List.range (os.length + 1)) (List.mem_range.2 hlt)
          have hm : os.length ∈ (List.range (os.length + 1)).filter fun j => !(listed.setIfInBounds i true).getD j true := List.mem_filter.2 ⟨List.mem_range.2 (by omega), by rw [getD_set_ne true (by omega)]; simp only [hul]; rfl⟩
          have := List.length_pos_of_mem hm
          omega
        omega
    · obtain rfl : i = os.length := by omega
      obtain rfl : o = last := by simpa using ho.symm.trans gl
      have hall : ∀ j, j < os.length → listed.getD j true = true := fun j hj => by
        obtain ⟨e, he, hb, rfl⟩ := hll.2 j hj
        rw [← same listed e.on hs (by omega)]; exact hdep e he hb
      refine wpOp_step ho fun K' hK => ?_
      have hw : Region.wanted o (yielded (os ++ [o]).toArray (putFrom ρ 0 os a0).tmps) = true := by simp only [Region.wanted, hll.1.1]
      rw [if_pos hw]
      refine Oper.wp_mono (fun a w' hq => hK _ _ (wpAny_done ?_ hq _)) (done c ρ w hcl hS fun i x hx => (hf i x hx (hall i (List.getElem?_eq_some_iff.1 hx).1)).1)
      cases hr : Region.ready .any (os ++ [o]).toArray (listed.setIfInBounds os.length true) with
      | nil => rfl
      | cons j r =>
        have hj : j ∈ Region.ready .any (os ++ [o]).toArray (listed.setIfInBounds os.length true) := by rw [hr]; simp
        obtain ⟨hju, x, hx, _⟩ := mem_ready.1 hj
        have hjl : j < os.length + 1 := by rw [← hsz]; exact (Array.getElem?_eq_some_iff.1 hx).1
        by_cases e : os.length = j
        · subst e
          rw [Array.getD_eq_getD_getElem?, Array.getElem?_setIfInBounds_self_of_lt (by omega)] at hju
          cases hju
        · rw [getD_set_ne true e, hall j (by omega)] at hju; cases hju

/-- **A region that draws its order and ends in one operation that waits for all others.** -/
theorem wp_flowT {id : Nat} {os : List Oper} {last : Oper} {ops : Array Oper} {a0 : Act} {w : World} (S : Nat → World → Prop) (C : World → World → Prop) (F : Nat → Value → List Value → World → Prop) (N : Nat) (hops : ops = (os ++ [last]).toArray) (hN : os.length = N) (hm : P.follows .mixedOrders = true)
    (hok : flowOk 0 os = true) (hap : apartL os = true) (hlast : lastOk os.length last = true) (hF : ∀ i v vs w w', F i v vs w → C w w' → F i v vs w') (h0 : S 0 w.drew)
    (steps : FlowSteps P os.toArray Q S C F a0 0 os)
    (done : ∀ c ρ w', c ≤ N → S c w' → Hid (∀ j, j < N → F j (ρ j) (valsAt ρ os j) w') → Oper.wp P last (putFrom ρ 0 os a0) w' (fun a w => Q .normal a w) Q) : (Code.region id ops true).wp P Q a0 w := by
  subst hops
  subst hN
  refine wp_region_any hm ?_
  obtain ⟨ρ, hρ⟩ := putFrom_start os a0
  have := flow_last hok hap hlast hF steps (fun c ρ w' hc hS h => done c ρ w' hc hS (fun j hj => by
    have hx : os[j]? = some (os[j]'hj) := List.getElem?_eq_getElem hj
    have := h j _ hx
    simp only [valsAt, hx]; exact this)) (os ++ [last]).toArray.size (Array.replicate (os ++ [last]).toArray.size false) 0 ρ w.drew (by simp) (by simp) (by simp [Array.getD]) ?_ ?_ h0 (by omega)
  · rw [hρ] at this; exact this
  · refine Nat.le_trans (List.length_filter_le _ _) (by simp)
  · intro i o ho hl
    have := (List.getElem?_eq_some_iff.1 ho).1
    simp [Array.getD] at hl
    omega
end
end Go.Proofs.YtncjghmjlcohjaaDoor
