/-
  When a node is valid. No condition.
-/
import Derived.Test.YtncjghmjlcohjaaDoorProg
import Derived.Test.YtncjghmjlcohjaaDoorNoe
import Derived.Test.YtncjghmjlcohjaaDoorNam
namespace Go.Proofs.YtncjghmjlcohjaaDoor
open Go.RowKit
set_option linter.unusedSimpArgs false
set_option linter.unusedVariables false

theorem isUser_c (n : Int) (w : World) : Calls Tryd.prog 47 #[.int .i64 n] w fun e w' => e = .returned (.bool (inB n 0 99)) ∧ w = w' := by
  go_enter Tryd.func47, Tryd.ntmps47
  go_wp2_with (go_at_call 40; refine (within_c _ _ _ _).mono ?_; rintro e w' ⟨rfl, rfl⟩)
  go_ret
  exact ⟨rfl, rfl⟩
theorem isGroup_c (n : Int) (w : World) : Calls Tryd.prog 60 #[.int .i64 n] w fun e w' => e = .returned (.bool (inB n 0 7)) ∧ w = w' := by
  go_enter Tryd.func60, Tryd.ntmps60
  go_wp2_with (go_at_call 40; refine (within_c _ _ _ _).mono ?_; rintro e w' ⟨rfl, rfl⟩)
  go_ret
  exact ⟨rfl, rfl⟩
theorem isMode_c (n : Int) (w : World) : Calls Tryd.prog 61 #[.int .i64 n] w fun e w' => e = .returned (.bool (inB n 0 1023)) ∧ w = w' := by
  go_enter Tryd.func61, Tryd.ntmps61
  go_wp2_with (go_at_call 40; refine (within_c _ _ _ _).mono ?_; rintro e w' ⟨rfl, rfl⟩)
  go_ret
  exact ⟨rfl, rfl⟩
def ltS (a b : ByteArray) : Bool := Op.bytesLess a.toList b.toList
def NmsUp (l : List ByteArray) (k : Nat) : Prop := ∀ (i : Nat) (x : ByteArray), i < k → l[i]? = some x → nameB x = true ∧ (0 < i → ∀ y, l[i - 1]? = some y → ltS y x = true)
def KidUp (l : List Int) (n : Int) (k : Nat) : Prop := ∀ (i : Nat) (x : Int), i < k → l[i]? = some x → inB x 1 (n - 1) = true
def HeadB (t : Node) : Bool := inB t.owner 0 99 && (inB t.group 0 7 && inB t.mode 0 1023)
def txE (t : Node) : Bool := decide (t.text.toList = [])
/-- A node by itself. -/
def NdOk (t : Node) : Prop := HeadB t = true ∧ t.text.size ≤ 40 ∧ (t.dir = false → t.names.length = 0 ∧ t.kids.length = 0) ∧ (t.dir = true → txE t = true) ∧ t.names.length = t.kids.length ∧ NmsUp t.names t.names.length
noncomputable def ndI (t : Node) : Bool := @decide (NdOk t) (Classical.propDecidable _)
noncomputable def ndS (t : Node) (n : Int) : Bool := @decide (NdOk t ∧ KidUp t.kids n t.kids.length) (Classical.propDecidable _)
theorem ndI_iff {t : Node} : ndI t = true ↔ NdOk t := by unfold ndI; exact @decide_eq_true_iff _ (Classical.propDecidable _)
theorem ndS_iff {t : Node} {n : Int} : ndS t n = true ↔ NdOk t ∧ KidUp t.kids n t.kids.length := by unfold ndS; exact @decide_eq_true_iff _ (Classical.propDecidable _)
theorem ndI_no {t : Node} (h : ¬ NdOk t) : ndI t = false := by rw [← Bool.not_eq_true, ndI_iff]; exact h
theorem ndS_no {t : Node} {n : Int} (h : ¬ (NdOk t ∧ KidUp t.kids n t.kids.length)) : ndS t n = false := by rw [← Bool.not_eq_true, ndS_iff]; exact h
theorem txE_size {t : Node} (h : txE t = true) : t.text.size ≤ 40 := by
  have e : t.text.toList = [] := by simpa [txE] using h
  have h1 : t.text.toList.length = t.text.size := by rw [ByteArray.toList_eq]; rfl
  rw [e] at h1
  simp at h1
  omega
theorem NmsUp.step {l : List ByteArray} {k : Nat} {x : ByteArray} (h : NmsUp l k) (hx : l[k]? = some x) (h1 : nameB x = true) (h2 : 0 < k → ∀ y, l[k - 1]? = some y → ltS y x = true) : NmsUp l (k + 1) := by
  intro i z hi hz
  rcases Nat.lt_or_ge i k with hlt | hge
  · exact h i z hlt hz
  · obtain rfl : i = k := by omega
    obtain rfl := Option.some.inj (hz.symm.trans hx)
    exact ⟨h1, h2⟩
theorem KidUp.step {l : List Int} {n x : Int} {k : Nat} (h : KidUp l n k) (hx : l[k]? = some x) (h1 : inB x 1 (n - 1) = true) : KidUp l n (k + 1) := by
  intro i z hi hz
  rcases Nat.lt_or_ge i k with hlt | hge
  · exact h i z hlt hz
  · obtain rfl : i = k := by omega
    obtain rfl := Option.some.inj (hz.symm.trans hx)
    exact h1
theorem NmsUp.bad {l : List ByteArray} {k : Nat} {x : ByteArray} (hx : l[k]? = some x) (h : nameB x = false ∨ (0 < k ∧ ∃ y, l[k - 1]? = some y ∧ ltS y x = false)) : ¬ NmsUp l l.length := fun e => by
  obtain ⟨h1, h2⟩ := e k x (List.getElem?_eq_some_iff.1 hx).1 hx
  rcases h with h | ⟨h0, y, hy, hl⟩
  · rw [h1] at h; cases h
  · rw [h2 h0 y hy] at hl; cases hl
set_option maxHeartbeats 4000000 in
theorem ndImpl_c (t : Node) (S K : Value) (hZ : NodeZ t) (w : World) (hS : SlS w S t.names) (hK : SlK w K t.kids) :
    Calls Tryd.prog 46 #[.agg #[.bool t.dir, .int .i64 t.owner, .int .i64 t.group, .int .i64 t.mode, .string t.text, S, K]] w fun e w' => e = .returned (.bool (ndI t)) ∧ Below w.heap.size w w' := by
  obtain ⟨A, n, c, rfl, hnc, hS⟩ := hS
  obtain ⟨A2, n2, c2, rfl, hnc2, hK⟩ := hK
  have hn := hS.1
  have hn2 := hK.1
  obtain ⟨z1, z2, z3, z4⟩ := hZ
  unfold maxLen at z1
  have HS := hide hS
  have H4 := hide z4
  clear hS hK z4
  have qg : ∀ (a b : ByteArray) (w : World), (binOp .geq 9 (.string a) (.string b)).run Tryd.prog w = .ok (.bool (!(ltS a b))) w := fun a b w => by simp [binOp, Op.stringOp, ltS]
  have B0 : Below w.heap.size w (w.alloc (.cells #[.bool t.dir, .int .i64 t.owner, .int .i64 t.group, .int .i64 t.mode, .string t.text, .slice A n c, .slice A2 n2 c2] 45)) := below_alloc0 (Below.refl _ _) _
  have HB0 := hide B0
  clear B0
  cases hh : HeadB t
  · have HF := hide (show ndI t = false from ndI_no fun e => by rw [e.1] at hh; cases hh)
    simp only [HeadB] at hh
    cases h1 : inB t.owner 0 99 <;> cases h2 : inB t.group 0 7 <;> cases h3 : inB t.mode 0 1023
    all_goals
      first
        | (rw [h1, h2, h3] at hh; exact absurd hh (by decide))
        | (go_enter Tryd.func46, Tryd.ntmps46
           go_wp2_with (first | (go_at_call 47; refine (isUser_c _ _).mono ?_; rintro e w' ⟨rfl, rfl⟩; rw [h1]) | (go_at_call 60; refine (isGroup_c _ _).mono ?_; rintro e w' ⟨rfl, rfl⟩; rw [h2]) | (go_at_call 61; refine (isMode_c _ _).mono ?_; rintro e w' ⟨rfl, rfl⟩; rw [h3]))
           go_ret
           exact ⟨by rw [HF.out]; rfl, HB0.out⟩)
  have HH := hide hh
  simp only [HeadB, Bool.and_eq_true] at hh
  obtain ⟨h1, h2, h3⟩ := hh
  cases hd : t.dir
  case false =>
    have HF := hide (show ndI t = (decide (t.text.size ≤ 40) && (decide (n = 0) && decide (n2 = 0))) from by
      by_cases g : NdOk t
      · rw [ndI_iff.2 g]
        have := g.2.2.1 hd
        simp [g.2.1]; omega
      · rw [ndI_no g]
        cases hx : (decide (t.text.size ≤ 40) && (decide (n = 0) && decide (n2 = 0))) with
        | false => rfl
        | true =>
          simp only [Bool.and_eq_true, decide_eq_true_eq] at hx
          refine absurd ⟨HH.out, hx.1, fun _ => by omega, fun e => (by rw [hd] at e; cases e), by omega, fun i x hi => absurd hi (by omega)⟩ g)
    rw [hd] at HB0
    go_enter Tryd.func46, Tryd.ntmps46
    by_cases g1 : t.text.size ≤ 40
    · have g1' : (t.text.size : Int) ≤ 40 := by omega
      by_cases g2 : n = 0
      · subst g2
        go_wp2_with (first | (go_at_call 47; refine (isUser_c _ _).mono ?_; rintro e w' ⟨rfl, rfl⟩; rw [h1]) | (go_at_call 60; refine (isGroup_c _ _).mono ?_; rintro e w' ⟨rfl, rfl⟩; rw [h2]) | (go_at_call 61; refine (isMode_c _ _).mono ?_; rintro e w' ⟨rfl, rfl⟩; rw [h3]))
        go_ret
        exact ⟨by rw [HF.out]; by_cases h5 : n2 = 0 <;> simp [g1, h5], HB0.out⟩
      · have g2' : ((n : Int) == 0) = false := by simp; omega
        go_wp2_with (first | (go_at_call 47; refine (isUser_c _ _).mono ?_; rintro e w' ⟨rfl, rfl⟩; rw [h1]) | (go_at_call 60; refine (isGroup_c _ _).mono ?_; rintro e w' ⟨rfl, rfl⟩; rw [h2]) | (go_at_call 61; refine (isMode_c _ _).mono ?_; rintro e w' ⟨rfl, rfl⟩; rw [h3]))
        go_ret
        exact ⟨by rw [HF.out]; simp [g2], HB0.out⟩
    · have g1' : ¬ (t.text.size : Int) ≤ 40 := by omega
      go_wp2_with (first | (go_at_call 47; refine (isUser_c _ _).mono ?_; rintro e w' ⟨rfl, rfl⟩; rw [h1]) | (go_at_call 60; refine (isGroup_c _ _).mono ?_; rintro e w' ⟨rfl, rfl⟩; rw [h2]) | (go_at_call 61; refine (isMode_c _ _).mono ?_; rintro e w' ⟨rfl, rfl⟩; rw [h3]))
      go_ret
      exact ⟨by rw [HF.out]; simp [g1], HB0.out⟩
  rw [hd] at HB0
  go_enter Tryd.func46, Tryd.ntmps46
  go_wp2_with (first | (go_at_call 47; refine (isUser_c _ _).mono ?_; rintro e w' ⟨rfl, rfl⟩; rw [h1]) | (go_at_call 60; refine (isGroup_c _ _).mono ?_; rintro e w' ⟨rfl, rfl⟩; rw [h2]) | (go_at_call 61; refine (isMode_c _ _).mono ?_; rintro e w' ⟨rfl, rfl⟩; rw [h3]))
  generalize hW : w.alloc (.cells #[.bool true, .int .i64 t.owner, .int .i64 t.group, .int .i64 t.mode, .string t.text, .slice A n c, .slice A2 n2 c2] 45) = W at HB0 ⊢
  have hc5 : W.cell? ⟨w.heap.size, 5, none⟩ = some (.slice A n c) := by rw [← hW]; simp [go_sem]
  have hc4 : W.cell? ⟨w.heap.size, 4, none⟩ = some (.string t.text) := by rw [← hW]; simp [go_sem]
  have hc6 : W.cell? ⟨w.heap.size, 6, none⟩ = some (.slice A2 n2 c2) := by rw [← hW]; simp [go_sem]
  have hwl : w.heap.size < W.heap.size := by rw [← hW]; simp
  clear hW
  have HSW := hide (HS.out.below HB0.out)
  go_loopw [43] (fun kv wr => ∃ k : Nat, k ≤ n ∧ kv = .int .i64 k ∧ Hid (NmsUp t.names k) ∧ wr = W) (fun kv _ => n - (intOf kv).toNat)
  case atStart => exact ⟨0, by omega, rfl, fun i x hi => absurd hi (by omega), rfl⟩
  case round =>
    obtain ⟨k, hk, rfl, hup, rfl⟩ := hrel
    by_cases hlt : k < n
    · obtain ⟨b, off, hA, hR⟩ := HSW.out.2 (by omega)
      subst hA
      obtain ⟨x, hx⟩ : ∃ x, t.names[k]? = some x := ⟨_, List.getElem?_eq_getElem (by omega)⟩
      have c0 := hR.2 k x hx
      have hbl := hR.1
      have hxz := H4.out x (List.mem_of_getElem? hx)
      have HX := hide hx
      have hkk : (k : Int) < n := by omega
      cases hnm : nameB x
      · have HF := hide (show ndI t = false from ndI_no fun e => NmsUp.bad hx (.inl hnm) e.2.2.2.2.2)
        clear hx hR
        go_wp2_with (go_at_call 58; refine (nmImpl_c x hxz _).mono ?_; rintro e w' ⟨rfl, rfl⟩; rw [hnm])
        go_ret
        exact ⟨by rw [HF.out]; rfl, HB0.out⟩
      by_cases hk0 : k = 0
      · subst hk0
        simp only [Nat.add_zero] at c0
        clear hx hR
        go_wp2_with (go_at_call 58; refine (nmImpl_c x hxz _).mono ?_; rintro e w' ⟨rfl, rfl⟩; rw [hnm])
        exact ⟨⟨1, by omega, by go_num, hup.out.step HX.out hnm (fun h => absurd h (by omega)), by first | rfl | trivial⟩, by simp [intOf] <;> omega⟩
      obtain ⟨q, rfl⟩ : ∃ q, k = q + 1 := ⟨k - 1, by omega⟩
      obtain ⟨y, hy⟩ : ∃ y, t.names[q]? = some y := ⟨_, List.getElem?_eq_getElem (by omega)⟩
      have c1 := hR.2 q y hy
      have HY := hide hy
      have hq0 : (0 : Int) < (q : Int) + 1 := by omega
      have hqn : (q : Int) < n := by omega
      have jw := IntWalk.i64_in (q : Int) (by unfold maxLen at z2; omega)
      have jw2 := IntWalk.i64_in ((q : Int) + 1 + 1) (by unfold maxLen at z2; omega)
      cases hlt2 : ltS y x
      · have HF := hide (show ndI t = false from ndI_no fun e => NmsUp.bad hx (.inr ⟨by omega, y, by simpa using hy, hlt2⟩) e.2.2.2.2.2)
        have hbs : Op.bytesLess y.toList x.toList = false := hlt2
        clear hx hR hy
        go_wp2_with (go_at_call 58; refine (nmImpl_c x hxz _).mono ?_; rintro e w' ⟨rfl, rfl⟩; rw [hnm])
        go_ret
        exact ⟨by rw [HF.out]; rfl, HB0.out⟩
      · have hbs : Op.bytesLess y.toList x.toList = true := hlt2
        clear hx hR hy
        go_wp2_with (go_at_call 58; refine (nmImpl_c x hxz _).mono ?_; rintro e w' ⟨rfl, rfl⟩; rw [hnm])
        exact ⟨⟨q + 1 + 1, by omega, by go_num, hup.out.step HX.out hnm (fun _ z hz => by
          have hz' : t.names[q]? = some z := by simpa using hz
          obtain rfl := Option.some.inj (hz'.symm.trans HY.out)
          exact hlt2), by first | rfl | trivial⟩, by simp [intOf] <;> omega⟩
    · obtain rfl : k = n := by omega
      have hkk : ¬ (k : Int) < k := by omega
      have HF := hide (show ndI t = (txE t && ((k : Int) == n2)) from by
        by_cases g : NdOk t
        · rw [ndI_iff.2 g, g.2.2.2.1 hd]
          have := g.2.2.2.2.1
          simp; omega
        · rw [ndI_no g]
          cases hx : (txE t && ((k : Int) == n2)) with
          | false => rfl
          | true =>
            simp only [Bool.and_eq_true, beq_iff_eq] at hx
            exact absurd ⟨HH.out, txE_size hx.1, fun e => (by rw [hd] at e; cases e), fun _ => hx.1, by omega, by rw [hn]; exact hup.out⟩ g)
      cases htx : txE t
      · have htx' : ¬ t.text.toList = [] := by simpa [txE] using htx
        go_wp2_with fail
        go_ret
        exact ⟨by rw [HF.out, htx]; rfl, HB0.out⟩
      · have htx' : t.text.toList = [] := by simpa [txE] using htx
        go_wp2_with fail
        go_ret
        exact ⟨by rw [HF.out, htx]; rfl, HB0.out⟩
end Go.Proofs.YtncjghmjlcohjaaDoor
