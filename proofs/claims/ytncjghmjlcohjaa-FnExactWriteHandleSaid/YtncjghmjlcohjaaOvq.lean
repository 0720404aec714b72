/-
  OverQuota. No condition.
-/
import Derived.Test.YtncjghmjlcohjaaProg
import Derived.Test.YtncjghmjlcohjaaUsi
import Derived.Test.YtncjghmjlcohjaaQuota2
import Derived.Test.YtncjghmjlcohjaaOwn
namespace Go.Proofs.Ytncjghmjlcohjaa
open Go.RowKit
set_option linter.unusedSimpArgs false
set_option linter.unusedVariables false

/-- The users over their quotas among the first k. -/
def ovK (l : List Node) (n : Nat) (qs : List Quota) : Nat → List Int
  | 0 => []
  | k + 1 => match qs[k]? with
    | some t => if (decide (t.nodes < usN l t.who n) || decide (t.bytes < usB l t.who n)) = true then ovK l n qs k ++ [t.who] else ovK l n qs k
    | none => ovK l n qs k
noncomputable def ovL (l : List Node) (n : Nat) (qs : List Quota) : List Int := bif treeB l n && quotasB qs then ovK l n qs qs.length else []
theorem ovL_no1 {l : List Node} {n : Nat} {qs : List Quota} (h : treeB l n = false) : ovL l n qs = [] := by rw [ovL, h]; rfl
theorem ovL_no2 {l : List Node} {n : Nat} {qs : List Quota} (h : quotasB qs = false) : ovL l n qs = [] := by rw [ovL, h, Bool.and_false]; rfl
theorem ovL_yes {l : List Node} {n : Nat} {qs : List Quota} (h1 : treeB l n = true) (h2 : quotasB qs = true) : ovL l n qs = ovK l n qs qs.length := by rw [ovL, h1, h2]; rfl
theorem ovL_nil {l : List Node} {n : Nat} : ovL l n [] = [] := by unfold ovL; cases (treeB l n && quotasB []) <;> rfl
theorem ovK_len (l : List Node) (n : Nat) (qs : List Quota) : ∀ k, (ovK l n qs k).length ≤ k
  | 0 => Nat.le_refl _
  | k + 1 => by
    have := ovK_len l n qs k
    cases h : qs[k]? with
    | none => simp only [ovK, h]; omega
    | some t =>
      simp only [ovK, h]
      split
      · simp; omega
      · omega
theorem ovL_len (l : List Node) (n : Nat) (qs : List Quota) : (ovL l n qs).length ≤ qs.length := by
  unfold ovL
  cases (treeB l n && quotasB qs)
  · simp
  · exact ovK_len l n qs qs.length
/-- A slice of ints of one's own that may be appended to. -/
def OwnI (w : World) (B : Nat) (V : Value) (xs : List Int) : Prop := w.ownsRow B 3 1 V xs.length (xs.map (Value.int .i64)) ∧ V ≠ .slice none 0 0
theorem OwnI.below {w w' : World} {B : Nat} {V : Value} {xs : List Int} (h : OwnI w B V xs) (hb : Below w.heap.size w w') : OwnI w' B V xs := ⟨own_below h.1 hb, h.2⟩
theorem OwnI.mono {w : World} {B B' : Nat} {V : Value} {xs : List Int} (h : OwnI w B V xs) (hB : B' ≤ B) : OwnI w B' V xs := by
  refine ⟨⟨h.1.1, ?_⟩, h.2⟩
  rcases h.1.2 with h2 | ⟨g, cap, cur, h3, h4, h5⟩
  · exact .inl h2
  · exact .inr ⟨g, cap, cur, h3, Nat.le_trans hB h4, h5⟩
theorem OwnI.row {w : World} {B : Nat} {V : Value} {xs : List Int} (h : OwnI w B V xs) : ∃ g c, V = .slice (some ⟨g, 0, none⟩) xs.length c ∧ xs.length ≤ c ∧ B ≤ g ∧ g < w.heap.size ∧ RdInt w g 0 xs ∧ Row w g c (fun j => (xs.map (Value.int .i64))[j]?) := by
  rcases h.1.2 with ⟨h', _⟩ | ⟨g, cap, cur, h3, h4, h5, h6, h7, h8, h9⟩
  · exact absurd h' h.2
  · have hr : Row w g cap (fun j => (xs.map (Value.int .i64))[j]?) := ⟨cur, _, h5, by omega, fun j u hj => by
      dsimp only at hj
      rw [← h9, List.getElem?_take] at hj
      split at hj
      · simpa using hj
      · cases hj⟩
    refine ⟨g, cap, h3, h6, h4, hr.lt, ⟨hr.lt, fun k x hx => ?_⟩, hr⟩
    rw [Nat.zero_add]
    exact hr.cell (by rw [List.getElem?_map, hx]; rfl)
theorem ownI_made (w : World) : OwnI (w.alloc (.cells #[] 3)) w.heap.size (.slice (some ⟨w.heap.size, 0, none⟩) 0 0) [] := ⟨World.ownsRow_made w #[] 0 (Nat.le_refl _) (Nat.zero_le _) (by simp), fun e => by cases e⟩
set_option maxRecDepth 100000 in
set_option maxHeartbeats 8000000 in
theorem ovSpec_c (A : Option Addr) (n c : Nat) (l : List Node) (b off m c2 : Nat) (qs : List Quota) (hq : qs.length = m) (hm : m ≤ 1048576) (w : World) (hI : InNode w A n l) (hn : n ≤ 1048576) (hz : ∀ t ∈ l, NodeS t) (hZ : ∀ t ∈ l, NodeZ t) (hR : RdQuota w b off qs) :
    Calls Try.prog 22 #[.slice A n c, .slice (some ⟨b, off, none⟩) m c2] w fun e w' => ∃ V, e = .returned V ∧ OwnI w' w.heap.size V (ovL l n qs) ∧ Below w.heap.size w w' := by
  obtain ⟨i0, hi0, hz0, hz1, hz2⟩ := info_parts infoInt
  have HI0 := hide hi0
  have HZ0 := hide hz0
  have HZ1 := hide hz1
  have HZ2 := hide hz2
  clear hi0 hz0 hz1 hz2
  have HI := hide hI
  have HS := hide hz
  have HZ := hide hZ
  have HR := hide hR
  have B0 := hide (below_alloc0 (Below.refl w.heap.size w) (.cells #[] 3))
  have O0 := hide (ownI_made w)
  clear hI hz hZ hR
  go_enter Try.func22, Try.ntmps22
  go_wp2_with fail
  go_loopw [5, 6] (fun vv kv wr => ∃ k : Nat, k ≤ m ∧ kv = .int .i64 k ∧ Hid (OwnI wr w.heap.size vv (ovK l n qs k)) ∧ Hid (Below w.heap.size w wr) ∧ (k = 0 ∨ (treeB l n = true ∧ quotasB qs = true))) (fun _ kv _ => m - (intOf kv).toNat)
  case atStart => exact ⟨0, by omega, rfl, O0, B0, Or.inl rfl⟩
  case round =>
    obtain ⟨k, hk, rfl, hown, hbel, hok⟩ := hrel
    have hkl := ovK_len l n qs k
    by_cases hlt : k < m
    · have hkk : (k : Int) < m := by omega
      obtain ⟨t, ht⟩ : ∃ t, qs[k]? = some t := ⟨_, List.getElem?_eq_getElem (by omega)⟩
      have HT := hide ht
      clear ht
      go_wp2_with fail
      refine (tvSpec_c A n c l _ (HI.out.below hbel.out) hn HS.out HZ.out).mono ?_
      rintro e w1 ⟨rfl, hb1⟩
      have B1 := hide (below_via0 hbel.out hb1)
      have HB1 := hide hb1
      clear hb1
      cases hv : treeB l n
      · have HF := hide (ovL_no1 (qs := qs) hv)
        obtain rfl : k = 0 := by
          rcases hok with h | h
          · exact h
          · rw [hv] at h; cases h.1
        go_wp2_with fail
        go_ret
        exact ⟨_, rfl, by rw [HF.out]; exact hown.out.below HB1.out, B1.out⟩
      go_wp2_with fail
      refine (quoSpec_c b off m c2 qs hq hm _ (HR.out.below B1.out)).mono ?_
      rintro e w2 ⟨rfl, hb2⟩
      have B2 := hide (below_via0 B1.out hb2)
      have HB2 := hide (below_via0 HB1.out hb2)
      clear hb2
      cases hqv : quotasB qs
      · have HF := hide (ovL_no2 (l := l) (n := n) hqv)
        obtain rfl : k = 0 := by
          rcases hok with h | h
          · exact h
          · rw [hqv] at h; cases h.2
        go_wp2_with fail
        go_ret
        exact ⟨_, rfl, by rw [HF.out]; exact hown.out.below HB2.out, B2.out⟩
      have HVV := hide (And.intro hv hqv)
      obtain ⟨d0, d1, d2⟩ := (HR.out.below B2.out).2 k t HT.out
      have hbl := (HR.out.below B2.out).1
      clear hok hqv
      go_wp2_with fail
      refine (usSpec_c A n c l t.who _ (HI.out.below B2.out) hn HS.out HZ.out).mono ?_
      rintro e w3 ⟨rfl, hb3⟩
      rw [hv]
      have B4 := hide (below_via0 B2.out hb3)
      have HOW := hide (hown.out.below (below_via0 HB2.out hb3))
      clear hb3 d0 d1 d2 hbl hv
      obtain ⟨d0, d1, d2⟩ := (HR.out.below B4.out).2 k t HT.out
      have hbl := (HR.out.below B4.out).1
      simp only [if_true]
      have eK : ovK l n qs (k + 1) = if (decide (t.nodes < usN l t.who n) || decide (t.bytes < usB l t.who n)) = true then ovK l n qs k ++ [t.who] else ovK l n qs k := by simp only [ovK, HT.out]
      have EK := hide eK
      clear eK
      generalize usN l t.who n = X at *
      generalize usB l t.who n = Y at *
      by_cases g1 : t.nodes < X
      · have HE := hide (show ovK l n qs (k + 1) = ovK l n qs k ++ [t.who] by rw [EK.out, decide_eq_true g1]; rfl)
        have hne := hide HOW.out.2
        · go_wp2_with (at_builtin; refine wpList_append_own _ rfl _ _ 45 rfl w.heap.size 3 i0 (.int .i64 0) 1 8 Try.underlying45 HI0.out HZ0.out HZ1.out HZ2.out rfl (by decide) _ _ _ rfl (World.ownsRow.alloc HOW.out.1 _) ⟨_, 0, none⟩ 1 1 [.int .i64 t.who] rfl rfl ?qc2 ?qc3 ?qc4 ?qc5 ?qc6 ?_)
          try (case qc2 => exact one_new _ _ _ rfl)
          case qc3 => first | exact one_cell rfl | rfl | (simp; done)
          case qc4 => unfold maxLen; omega
          case qc5 => omega
          case qc6 => have := B4.out.size; simp; omega
          intro v' w5 hown5 hgrow hnil
          have HO5 := hide (show OwnI w5 w.heap.size v' (ovK l n qs k ++ [t.who]) from ⟨by simpa using hown5, hnil⟩)
          have hb5 := hide ((below_alloc0 B4.out (.cells #[.int .i64 t.who] 3)).grown hgrow (by have := B4.out.size; simp; omega) (fun q hq => (own_block HOW.out.1 q hq).1))
          clear hown5 hgrow hnil
          go_wp2_with fail
          exact ⟨⟨k + 1, by omega, by go_num, by rw [HE.out]; exact HO5, hb5, Or.inr HVV.out⟩, by simp [intOf] <;> omega⟩
      · by_cases g2 : t.bytes < Y
        · have HE := hide (show ovK l n qs (k + 1) = ovK l n qs k ++ [t.who] by rw [EK.out, decide_eq_true g2, Bool.or_true]; rfl)
          go_wp2_with (at_builtin; refine wpList_append_own _ rfl _ _ 45 rfl w.heap.size 3 i0 (.int .i64 0) 1 8 Try.underlying45 HI0.out HZ0.out HZ1.out HZ2.out rfl (by decide) _ _ _ rfl (World.ownsRow.alloc HOW.out.1 _) ⟨_, 0, none⟩ 1 1 [.int .i64 t.who] rfl rfl ?qc2 ?qc3 ?qc4 ?qc5 ?qc6 ?_)
          try (case qc2 => exact one_new _ _ _ rfl)
          case qc3 => first | exact one_cell rfl | rfl | (simp; done)
          case qc4 => unfold maxLen; omega
          case qc5 => omega
          case qc6 => have := B4.out.size; simp; omega
          intro v' w5 hown5 hgrow hnil
          have HO5 := hide (show OwnI w5 w.heap.size v' (ovK l n qs k ++ [t.who]) from ⟨by simpa using hown5, hnil⟩)
          have hb5 := hide ((below_alloc0 B4.out (.cells #[.int .i64 t.who] 3)).grown hgrow (by have := B4.out.size; simp; omega) (fun q hq => (own_block HOW.out.1 q hq).1))
          clear hown5 hgrow hnil
          go_wp2_with fail
          exact ⟨⟨k + 1, by omega, by go_num, by rw [HE.out]; exact HO5, hb5, Or.inr HVV.out⟩, by simp [intOf] <;> omega⟩
        · have HE := hide (show ovK l n qs (k + 1) = ovK l n qs k by rw [EK.out, decide_eq_false g1, decide_eq_false g2]; rfl)
          go_wp2_with fail
          exact ⟨⟨k + 1, by omega, by go_num, by rw [HE.out]; exact HOW, B4, Or.inr HVV.out⟩, by simp [intOf] <;> omega⟩
    · obtain rfl : k = m := by omega
      have hkk : ¬ (k : Int) < k := by omega
      have HF := hide (show ovL l n qs = ovK l n qs k by
        rcases hok with h | h
        · subst h
          obtain rfl := List.eq_nil_of_length_eq_zero hq
          exact ovL_nil
        · rw [ovL_yes h.1 h.2, hq])
      go_wp2_with fail
      go_ret
      exact ⟨_, rfl, by rw [HF.out]; exact hown.out, hbel.out⟩
set_option maxRecDepth 100000 in
set_option maxHeartbeats 8000000 in
theorem ovImpl_c (A : Option Addr) (n c : Nat) (l : List Node) (b off m c2 : Nat) (qs : List Quota) (hq : qs.length = m) (hm : m ≤ 1048576) (w : World) (hI : InNode w A n l) (hn : n ≤ 1048576) (hz : ∀ t ∈ l, NodeS t) (hZ : ∀ t ∈ l, NodeZ t) (hR : RdQuota w b off qs) :
    Calls Try.prog 23 #[.slice A n c, .slice (some ⟨b, off, none⟩) m c2] w fun e w' => ∃ V, e = .returned V ∧ OwnI w' w.heap.size V (ovL l n qs) ∧ Below w.heap.size w w' := by
  obtain ⟨i0, hi0, hz0, hz1, hz2⟩ := info_parts infoInt
  have HI0 := hide hi0
  have HZ0 := hide hz0
  have HZ1 := hide hz1
  have HZ2 := hide hz2
  clear hi0 hz0 hz1 hz2
  have HI := hide hI
  have HS := hide hz
  have HZ := hide hZ
  have HR := hide hR
  have B0 := hide (below_alloc0 (Below.refl w.heap.size w) (.cells #[] 3))
  have O0 := hide (ownI_made w)
  clear hI hz hZ hR
  go_enter Try.func23, Try.ntmps23
  go_wp2_with fail
  refine (tvImpl_c A n c l _ (HI.out.below B0.out) hn HS.out HZ.out).mono ?_
  rintro e w1 ⟨rfl, hb1⟩
  have B1 := hide (below_via0 B0.out hb1)
  have O1 := hide (O0.out.below hb1)
  clear hb1
  cases hv : treeB l n
  · have HF := hide (ovL_no1 (qs := qs) hv)
    go_wp2_with fail
    go_ret
    exact ⟨_, rfl, by rw [HF.out]; exact O1.out, B1.out⟩
  go_wp2_with fail
  refine (quoImpl_c b off m c2 qs hq hm _ (HR.out.below B1.out)).mono ?_
  rintro e w2 ⟨rfl, hb2⟩
  have B2 := hide (below_via0 B1.out hb2)
  have O2 := hide (O1.out.below hb2)
  clear hb2
  cases hqv : quotasB qs
  · have HF := hide (ovL_no2 (l := l) (n := n) hqv)
    go_wp2_with fail
    go_ret
    exact ⟨_, rfl, by rw [HF.out]; exact O2.out, B2.out⟩
  have HVV := hide (And.intro hv hqv)
  have HV := hide hv
  clear hv hqv
  go_wp2_with fail
  go_loopw [5, 22] (fun vv kv wr => ∃ k : Nat, k ≤ m ∧ kv = .int .i64 k ∧ Hid (OwnI wr w.heap.size vv (ovK l n qs k)) ∧ Hid (Below w.heap.size w wr)) (fun _ kv _ => m - (intOf kv).toNat)
  case atStart => exact ⟨0, by omega, rfl, O2, B2⟩
  case round =>
    obtain ⟨k, hk, rfl, hown, hbel⟩ := hrel
    have hkl := ovK_len l n qs k
    by_cases hlt : k < m
    · have hkk : (k : Int) < m := by omega
      obtain ⟨t, ht⟩ : ∃ t, qs[k]? = some t := ⟨_, List.getElem?_eq_getElem (by omega)⟩
      have HT := hide ht
      clear ht
      obtain ⟨d0, d1, d2⟩ := (HR.out.below hbel.out).2 k t HT.out
      have hbl := (HR.out.below hbel.out).1
      have BA := below_alloc0 (Below.refl wr.heap.size wr) (.cells #[.int .i64 t.who, .int .i64 t.nodes, .int .i64 t.bytes] 66)
      have RA := Row.made wr 66 #[.int .i64 t.who, .int .i64 t.nodes, .int .i64 t.bytes] (fun j => #[Value.int .i64 t.who, .int .i64 t.nodes, .int .i64 t.bytes][j]?) (fun _ _ h => h)
      have BB := hide (below_via0 hbel.out BA)
      have HBA := hide BA
      have HRA := hide RA
      clear BA RA
      go_wp2_with fail
      refine (usImpl_c A n c l t.who _ (HI.out.below BB.out) hn HS.out HZ.out).mono ?_
      rintro e w3 ⟨rfl, hb3⟩
      rw [HV.out]
      have B4 := hide (below_via0 BB.out hb3)
      have HOW := hide (hown.out.below (below_via0 HBA.out hb3))
      have RA := HRA.out.below hb3 HRA.out.lt
      have gl := RA.lt
      have g0 := RA.cell (j := 0) rfl
      have g1 := RA.cell (j := 1) rfl
      have g2 := RA.cell (j := 2) rfl
      clear hb3 d0 d1 d2 hbl RA
      simp only [if_true]
      have eK : ovK l n qs (k + 1) = if (decide (t.nodes < usN l t.who n) || decide (t.bytes < usB l t.who n)) = true then ovK l n qs k ++ [t.who] else ovK l n qs k := by simp only [ovK, HT.out]
      have EK := hide eK
      clear eK
      generalize usN l t.who n = X at *
      generalize usB l t.who n = Y at *
      by_cases h1 : t.nodes < X
      · have HE := hide (show ovK l n qs (k + 1) = ovK l n qs k ++ [t.who] by rw [EK.out, decide_eq_true h1]; rfl)
        · go_wp2_with (at_builtin; refine wpList_append_own _ rfl _ _ 45 rfl w.heap.size 3 i0 (.int .i64 0) 1 8 Try.underlying45 HI0.out HZ0.out HZ1.out HZ2.out rfl (by decide) _ _ _ rfl (World.ownsRow.alloc HOW.out.1 _) ⟨_, 0, none⟩ 1 1 [.int .i64 t.who] rfl rfl ?qc2 ?qc3 ?qc4 ?qc5 ?qc6 ?_)
          try (case qc2 => exact one_new _ _ _ rfl)
          case qc3 => first | exact one_cell rfl | rfl | (simp; done)
          case qc4 => unfold maxLen; omega
          case qc5 => omega
          case qc6 => have := B4.out.size; simp; omega
          intro v' w5 hown5 hgrow hnil
          have HO5 := hide (show OwnI w5 w.heap.size v' (ovK l n qs k ++ [t.who]) from ⟨by simpa using hown5, hnil⟩)
          have hb5 := hide ((below_alloc0 B4.out (.cells #[.int .i64 t.who] 3)).grown hgrow (by have := B4.out.size; simp; omega) (fun q hq => (own_block HOW.out.1 q hq).1))
          clear hown5 hgrow hnil
          go_wp2_with fail
          exact ⟨⟨k + 1, by omega, by go_num, by rw [HE.out]; exact HO5, hb5⟩, by simp [intOf] <;> omega⟩
      · by_cases h2 : t.bytes < Y
        · have HE := hide (show ovK l n qs (k + 1) = ovK l n qs k ++ [t.who] by rw [EK.out, decide_eq_true h2, Bool.or_true]; rfl)
          go_wp2_with (at_builtin; refine wpList_append_own _ rfl _ _ 45 rfl w.heap.size 3 i0 (.int .i64 0) 1 8 Try.underlying45 HI0.out HZ0.out HZ1.out HZ2.out rfl (by decide) _ _ _ rfl (World.ownsRow.alloc HOW.out.1 _) ⟨_, 0, none⟩ 1 1 [.int .i64 t.who] rfl rfl ?qc2 ?qc3 ?qc4 ?qc5 ?qc6 ?_)
          try (case qc2 => exact one_new _ _ _ rfl)
          case qc3 => first | exact one_cell rfl | rfl | (simp; done)
          case qc4 => unfold maxLen; omega
          case qc5 => omega
          case qc6 => have := B4.out.size; simp; omega
          intro v' w5 hown5 hgrow hnil
          have HO5 := hide (show OwnI w5 w.heap.size v' (ovK l n qs k ++ [t.who]) from ⟨by simpa using hown5, hnil⟩)
          have hb5 := hide ((below_alloc0 B4.out (.cells #[.int .i64 t.who] 3)).grown hgrow (by have := B4.out.size; simp; omega) (fun q hq => (own_block HOW.out.1 q hq).1))
          clear hown5 hgrow hnil
          go_wp2_with fail
          exact ⟨⟨k + 1, by omega, by go_num, by rw [HE.out]; exact HO5, hb5⟩, by simp [intOf] <;> omega⟩
        · have HE := hide (show ovK l n qs (k + 1) = ovK l n qs k by rw [EK.out, decide_eq_false h1, decide_eq_false h2]; rfl)
          go_wp2_with fail
          exact ⟨⟨k + 1, by omega, by go_num, by rw [HE.out]; exact HOW, B4⟩, by simp [intOf] <;> omega⟩
    · obtain rfl : k = m := by omega
      have hkk : ¬ (k : Int) < k := by omega
      have HF := hide (show ovL l n qs = ovK l n qs k by rw [ovL_yes HVV.out.1 HVV.out.2, hq])
      go_wp2_with fail
      go_ret
      exact ⟨_, rfl, by rw [HF.out]; exact hown.out, hbel.out⟩
end Go.Proofs.Ytncjghmjlcohjaa
