/-
  kid of the program (slices.BinarySearch), l6Kid of the reference. No condition.
-/
import Derived.Test.YtncjghmjlcohjaaDoorProg
import Derived.Test.YtncjghmjlcohjaaDoorNds
namespace Go.Proofs.YtncjghmjlcohjaaDoor
open Go.RowKit
set_option linter.unusedSimpArgs false
set_option linter.unusedVariables false

/-- The child with a name, -1 if there is none. -/
def kidF : List ByteArray → List Int → ByteArray → Int
  | n :: ns, k :: ks, x => if n = x then k else kidF ns ks x
  | _, _, _ => -1
theorem kidF_at : ∀ (ns : List ByteArray) (ks : List Int) (x : ByteArray) (i : Nat) (v : Int), ns[i]? = some x → (∀ j, j < i → ns[j]? ≠ some x) → ks[i]? = some v → kidF ns ks x = v
  | [], _, x, i, v, h, _, _ => by simp at h
  | n :: ns, [], x, i, v, _, _, h => by simp at h
  | n :: ns, k :: ks, x, 0, v, h, _, hk => by
    simp only [List.getElem?_cons_zero, Option.some.injEq] at h hk
    rw [kidF, if_pos h, hk]
  | n :: ns, k :: ks, x, i + 1, v, h, hj, hk => by
    have h0 : n ≠ x := fun e => hj 0 (by omega) (by simp [e])
    rw [kidF, if_neg h0]
    exact kidF_at ns ks x i v (by simpa using h) (fun j hj' => by have := hj (j + 1) (by omega); simpa using this) (by simpa using hk)
theorem kidF_no : ∀ (ns : List ByteArray) (ks : List Int) (x : ByteArray), (∀ j : Nat, ns[j]? ≠ some x) → kidF ns ks x = -1
  | [], ks, x, _ => by cases ks <;> rfl
  | n :: ns, [], x, _ => rfl
  | n :: ns, k :: ks, x, h => by
    have h0 : n ≠ x := fun e => h 0 (by simp [e])
    rw [kidF, if_neg h0]
    exact kidF_no ns ks x fun j => by have := h (j + 1); simpa using this
theorem bl_trans : ∀ a b c : List UInt8, Op.bytesLess a b = true → Op.bytesLess b c = true → Op.bytesLess a c = true
  | [], [], _, h, _ => by simp [Op.bytesLess] at h
  | [], b :: y, [], _, h => by simp [Op.bytesLess] at h
  | [], b :: y, c :: z, _, _ => by simp [Op.bytesLess]
  | a :: x, [], _, h, _ => by simp [Op.bytesLess] at h
  | a :: x, b :: y, [], _, h => by simp [Op.bytesLess] at h
  | a :: x, b :: y, c :: z, h1, h2 => by
    have ih := bl_trans x y z
    simp only [Op.bytesLess, Bool.or_eq_true, decide_eq_true_eq, Bool.and_eq_true, beq_iff_eq] at h1 h2 ⊢
    rcases h1 with h1 | ⟨rfl, h1⟩
    · rcases h2 with h2 | ⟨rfl, h2⟩
      · exact .inl (UInt8.lt_trans h1 h2)
      · exact .inl h1
    · rcases h2 with h2 | ⟨rfl, h2⟩
      · exact .inl h2
      · exact .inr ⟨rfl, ih h1 h2⟩
theorem bl_irr : ∀ a : List UInt8, Op.bytesLess a a = false
  | [] => rfl
  | a :: x => by simp [Op.bytesLess, bl_irr x, UInt8.lt_irrefl]
theorem up_lt {l : List ByteArray} (h : NmsUp l l.length) (i : Nat) : ∀ (j : Nat) (a b : ByteArray), i < j → l[i]? = some a → l[j]? = some b → ltS a b = true := by
  intro j
  induction j with
  | zero => intro a b h0; omega
  | succ j ih =>
    intro a b hij ha hb
    have hj := (List.getElem?_eq_some_iff.1 hb).1
    obtain ⟨y, hy⟩ : ∃ y, l[j]? = some y := ⟨_, List.getElem?_eq_getElem (by omega)⟩
    have h1 := (h (j + 1) b hj hb).2 (by omega) y (by simpa using hy)
    rcases Nat.lt_or_ge i j with hlt | hge
    · exact bl_trans _ _ _ (ih a y hlt ha hy) h1
    · obtain rfl : i = j := by omega
      obtain rfl := Option.some.inj (ha.symm.trans hy)
      exact h1
theorem cmpNaN_c (x : ByteArray) (w : World) : Calls Tryd.prog 74 #[.string x] w fun e w' => e = .returned (.bool false) ∧ w = w' := by
  go_enter Tryd.func74, Tryd.ntmps74
  go_wp2
  go_ret
  exact ⟨by simp, rfl⟩
theorem slNaN_c (x : ByteArray) (w : World) : Calls Tryd.prog 63 #[.string x] w fun e w' => e = .returned (.bool false) ∧ w = w' := by
  go_enter Tryd.func63, Tryd.ntmps63
  go_wp2
  go_ret
  exact ⟨by simp, rfl⟩
theorem cmpLess_c (x y : ByteArray) (w : World) : Calls Tryd.prog 62 #[.string x, .string y] w fun e w' => e = .returned (.bool (ltS x y)) ∧ w = w' := by
  go_enter Tryd.func62, Tryd.ntmps62
  go_wp2_with (go_at_call 74; refine (cmpNaN_c _ _).mono ?_; rintro e w' ⟨rfl, rfl⟩)
  go_ret
  exact ⟨rfl, rfl⟩
/-- What a search leaves. -/
def BinP (l : List ByteArray) (x : ByteArray) (w : World) (e : Ending) (w' : World) : Prop := ∃ (i : Nat) (b : Bool), e = .returned (.tuple #[.int .i64 i, .bool b]) ∧ (b = true → l[i]? = some x) ∧ (b = false → ∀ j : Nat, l[j]? ≠ some x) ∧ w = w'
theorem lst_inj {a b : ByteArray} (h : a.toList = b.toList) : a = b := by
  rw [ByteArray.toList_eq, ByteArray.toList_eq] at h
  exact ByteArray.ext (Array.toList_inj.1 h)
set_option maxHeartbeats 4000000 in
theorem binS_c (A : Option Addr) (n c : Nat) (l : List ByteArray) (x : ByteArray) (hn : n ≤ 1048576) (w : World) (hI : InString w A n l) (hup : NmsUp l l.length) :
    Calls Tryd.prog 48 #[.slice A n c, .string x] (w) (BinP l x w) := by
  have HI := hide hI
  have HU := hide (up_lt hup)
  have hlen := hI.1
  clear hI hup
  go_enter Tryd.func48, Tryd.ntmps48
  go_wp2_with fail
  go_loopw [7, 8] (fun lv hv wr => ∃ lo hi : Nat, lv = .int .i64 lo ∧ hv = .int .i64 hi ∧ lo ≤ hi ∧ hi ≤ n ∧ Hid (∀ (j : Nat) (y : ByteArray), j < lo → l[j]? = some y → ltS y x = true) ∧ Hid (∀ (j : Nat) (y : ByteArray), hi ≤ j → l[j]? = some y → ltS y x = false) ∧ wr = w) (fun lv hv _ => (intOf hv).toNat - (intOf lv).toNat)
  case atStart => exact ⟨0, n, rfl, rfl, by omega, by omega, fun j y hj => absurd hj (by omega), fun j y hj hy => by have := (List.getElem?_eq_some_iff.1 hy).1; omega, rfl⟩
  case round =>
    obtain ⟨lo, hi, rfl, rfl, hlh, hin, H1, H2, rfl⟩ := hrel
    by_cases hlt : lo < hi
    · obtain ⟨b, off, hA, hR⟩ := HI.out.2 (by omega)
      subst hA
      obtain ⟨y, hy⟩ : ∃ y, l[(lo + hi) / 2]? = some y := ⟨_, List.getElem?_eq_getElem (by omega)⟩
      have c0 := hR.2 _ y hy
      have hb := hR.1
      have HY := hide hy
      have hlt' : (lo : Int) < hi := by omega
      clear hR hy
      cases hyx : ltS y x
      · have HYX := hide hyx
        go_wp2_with (go_at_call 62; refine (cmpLess_c _ _ _).mono ?_; rintro e w' ⟨rfl, rfl⟩; rw [HYX.out])
        refine ⟨⟨lo, (lo + hi) / 2, rfl, congrArg (Value.int .i64) (by omega), by omega, by omega, H1, hide fun j z hj hz => ?_, trivial⟩, by simp [intOf]; omega⟩
        rcases Nat.lt_or_ge ((lo + hi) / 2) j with h | h
        · have h1 := HU.out _ j y z h HY.out hz
          cases hzx : ltS z x
          · rfl
          · have := bl_trans _ _ _ h1 hzx
            rw [← HYX.out]; exact this.symm
        · obtain rfl : (lo + hi) / 2 = j := by omega
          obtain rfl := Option.some.inj (hz.symm.trans HY.out)
          exact HYX.out
      · have HYX := hide hyx
        go_wp2_with (go_at_call 62; refine (cmpLess_c _ _ _).mono ?_; rintro e w' ⟨rfl, rfl⟩; rw [HYX.out])
        refine ⟨⟨(lo + hi) / 2 + 1, hi, congrArg (Value.int .i64) (by omega), rfl, by omega, by omega, hide fun j z hj hz => ?_, H2, trivial⟩, by simp [intOf]; omega⟩
        rcases Nat.lt_or_ge j ((lo + hi) / 2) with h | h
        · exact bl_trans _ _ _ (HU.out j _ z y h hz HY.out) HYX.out
        · obtain rfl : (lo + hi) / 2 = j := by omega
          obtain rfl := Option.some.inj (hz.symm.trans HY.out)
          exact HYX.out
    · obtain rfl : lo = hi := by omega
      have hlt' : ¬ (lo : Int) < lo := by omega
      by_cases hln : lo < n
      · obtain ⟨b, off, hA, hR⟩ := HI.out.2 (by omega)
        subst hA
        obtain ⟨y, hy⟩ : ∃ y, l[lo]? = some y := ⟨_, List.getElem?_eq_getElem (by omega)⟩
        have c0 := hR.2 _ y hy
        have hb := hR.1
        have HY := hide hy
        have hln' : (lo : Int) < n := by omega
        clear hR hy
        by_cases hyx : y = x
        · subst hyx
          go_wp2_with (go_at_call 63; refine (slNaN_c _ _).mono ?_; rintro e w' ⟨rfl, rfl⟩)
          exact bodyPost_ret (v := .tuple #[.int .i64 lo, .bool true]) (by simp [results, Tryd.results48, go_sem]) rfl ⟨lo, true, rfl, (fun _ => HY.out), (fun h => by cases h), rfl⟩
        · have hne : (y.toList == x.toList) = false := by
            rw [beq_eq_false_iff_ne]
            intro h
            exact hyx (lst_inj h)
          have HNE := hide hyx
          go_wp2_with (go_at_call 63; refine (slNaN_c _ _).mono ?_; rintro e w' ⟨rfl, rfl⟩)
          exact bodyPost_ret (v := .tuple #[.int .i64 lo, .bool false]) (by simp [results, Tryd.results48, go_sem]) rfl ⟨lo, false, rfl, (fun h => by cases h), (fun _ j hj => by
            rcases Nat.lt_or_ge j lo with h | h
            · have := H1.out j x h hj
              rw [ltS, bl_irr] at this; cases this
            · rcases Nat.lt_or_ge lo j with h2 | h2
              · have h3 := HU.out lo j y x h2 HY.out hj
                have h4 := H2.out lo y (Nat.le_refl _) HY.out
                rw [h3] at h4; cases h4
              · obtain rfl : lo = j := by omega
                exact HNE.out (Option.some.inj (HY.out.symm.trans hj))), rfl⟩
      · have hln' : ¬ (lo : Int) < n := by omega
        go_wp2_with (go_at_call 63; refine (slNaN_c _ _).mono ?_; rintro e w' ⟨rfl, rfl⟩)
        exact bodyPost_ret (v := .tuple #[.int .i64 lo, .bool false]) (by simp [results, Tryd.results48, go_sem]) rfl ⟨lo, false, rfl, (fun h => by cases h), (fun _ j hj => by
          have hjl := (List.getElem?_eq_some_iff.1 hj).1
          have := H1.out j x (by omega) hj
          rw [ltS, bl_irr] at this; cases this), rfl⟩
set_option maxHeartbeats 4000000 in
theorem kidImpl_c (t : Node) (S K : Value) (x : ByteArray) (hz : NodeS t) (hl : t.names.length = t.kids.length) (hup : NmsUp t.names t.names.length) (w : World) (hS : SlS w S t.names) (hK : SlK w K t.kids) :
    Calls Tryd.prog 33 #[.agg #[.bool t.dir, .int .i64 t.owner, .int .i64 t.group, .int .i64 t.mode, .string t.text, S, K], .string x] w fun e w' => e = .returned (.int .i64 (kidF t.names t.kids x)) ∧ Below w.heap.size w w' := by
  obtain ⟨A, n, c, rfl, _, hS⟩ := hS
  obtain ⟨A2, n2, c2, rfl, _, hK⟩ := hK
  have hn1 := hS.1
  have hn2 := hK.1
  have hn : n ≤ 1048576 := by have := hz.1; omega
  have HS := hide hS
  have HK := hide hK
  have HU := hide hup
  have HUP := hide (up_lt hup)
  have B0' := hide (below_alloc0 (Below.refl w.heap.size w) (.cells #[.bool t.dir, .int .i64 t.owner, .int .i64 t.group, .int .i64 t.mode, .string t.text, .slice A n c, .slice A2 n2 c2] 45))
  clear hS hK hup hz
  go_enter Tryd.func33, Tryd.ntmps33
  go_wp2_with fail
  refine (binS_c A n c t.names x hn _ (HS.out.below B0'.out) HU.out).mono ?_
  rintro e w1 ⟨i, b, rfl, hb1, hb0, rfl⟩
  have H1 := hide hb1
  have H0 := hide hb0
  clear hb1 hb0
  cases b
  · have HF := hide (kidF_no t.names t.kids x (H0.out rfl))
    go_wp2_with fail
    go_ret
    exact ⟨by rw [HF.out]; rfl, B0'.out⟩
  · have hi := H1.out rfl
    have hil := (List.getElem?_eq_some_iff.1 hi).1
    obtain ⟨v, hv⟩ : ∃ v, t.kids[i]? = some v := ⟨_, List.getElem?_eq_getElem (by omega)⟩
    have HF := hide (kidF_at t.names t.kids x i v hi (fun j hj hjx => by
      have := HUP.out j i x x hj hjx hi
      rw [ltS, bl_irr] at this; cases this) hv)
    obtain ⟨b2, off, hA2, hR⟩ := (HK.out.below B0'.out).2 (by omega)
    subst hA2
    have c0 := hR.2 i v hv
    have hbl := hR.1
    have hi2 : (i : Int) < n2 := by omega
    clear hR hi hv
    go_wp2_with fail
    go_ret
    exact ⟨by rw [HF.out]; rfl, B0'.out⟩
set_option maxHeartbeats 4000000 in
theorem l6Kid_c (t : Node) (S K : Value) (x : ByteArray) (hz : NodeS t) (hl : t.names.length = t.kids.length) (w : World) (hS : SlS w S t.names) (hK : SlK w K t.kids) :
    Calls Tryd.prog 25 #[.agg #[.bool t.dir, .int .i64 t.owner, .int .i64 t.group, .int .i64 t.mode, .string t.text, S, K], .string x] w fun e w' => e = .returned (.int .i64 (kidF t.names t.kids x)) ∧ Below w.heap.size w w' := by
  obtain ⟨A, n, c, rfl, _, hS⟩ := hS
  obtain ⟨A2, n2, c2, rfl, _, hK⟩ := hK
  have hn1 := hS.1
  have hn2 := hK.1
  have hn : n ≤ 1048576 := by have := hz.1; omega
  have HB := hide (below_alloc0 (Below.refl w.heap.size w) (.cells #[.bool t.dir, .int .i64 t.owner, .int .i64 t.group, .int .i64 t.mode, .string t.text, .slice A n c, .slice A2 n2 c2] 45))
  have HS := hide (hS.below HB.out)
  have HK := hide (hK.below HB.out)
  have R0 := Row.made w 45 #[.bool t.dir, .int .i64 t.owner, .int .i64 t.group, .int .i64 t.mode, .string t.text, .slice A n c, .slice A2 n2 c2] (fun j => #[Value.bool t.dir, .int .i64 t.owner, .int .i64 t.group, .int .i64 t.mode, .string t.text, .slice A n c, .slice A2 n2 c2][j]?) (fun _ _ h => h)
  clear hS hK hz
  go_enter Tryd.func25, Tryd.ntmps25
  go_wp2_with fail
  generalize w.alloc (.cells #[.bool t.dir, .int .i64 t.owner, .int .i64 t.group, .int .i64 t.mode, .string t.text, .slice A n c, .slice A2 n2 c2] 45) = W0 at *
  have r0 := R0.lt
  have x5 : W0.cell? ⟨w.heap.size, 5, none⟩ = some (.slice A n c) := R0.cell (j := 5) rfl
  have x6 : W0.cell? ⟨w.heap.size, 6, none⟩ = some (.slice A2 n2 c2) := R0.cell (j := 6) rfl
  clear R0
  go_loopw [5] (fun iv wr => ∃ k : Nat, k ≤ n ∧ iv = .int .i64 k ∧ Hid (∀ j : Nat, j < k → t.names[j]? ≠ some x) ∧ wr = W0) (fun iv _ => n - (intOf iv).toNat)
  case atStart => exact ⟨0, by omega, rfl, fun j hj => absurd hj (by omega), rfl⟩
  case round =>
    obtain ⟨k, hk, rfl, hno, rfl⟩ := hrel
    by_cases hlt : k < n
    · have hkk : (k : Int) < n := by omega
      obtain ⟨b, off, hA, hR⟩ := HS.out.2 (by omega)
      subst hA
      obtain ⟨y, hy⟩ : ∃ y, t.names[k]? = some y := ⟨_, List.getElem?_eq_getElem (by omega)⟩
      have c0 := hR.2 k y hy
      have hbl := hR.1
      have HY := hide hy
      clear hR hy
      by_cases hyx : y = x
      · subst hyx
        obtain ⟨v, hv⟩ : ∃ v, t.kids[k]? = some v := ⟨_, List.getElem?_eq_getElem (by omega)⟩
        have HF := hide (kidF_at t.names t.kids y k v HY.out hno.out hv)
        obtain ⟨b2, off2, hA2, hR2⟩ := HK.out.2 (by omega)
        subst hA2
        have c1 := hR2.2 k v hv
        have hbl2 := hR2.1
        have hk2 : (k : Int) < n2 := by omega
        clear hR2 hv
        go_wp2_with fail
        go_ret
        exact ⟨by rw [HF.out]; rfl, HB.out⟩
      · have hne : (y.toList == x.toList) = false := by
          rw [beq_eq_false_iff_ne]
          intro h
          exact hyx (lst_inj h)
        have HNE := hide hyx
        clear hyx
        go_wp2_with fail
        exact ⟨⟨k + 1, by omega, by go_num, hide fun j hj hjx => by
          rcases Nat.lt_or_ge j k with h | h
          · exact hno.out j h hjx
          · obtain rfl : j = k := by omega
            exact HNE.out (Option.some.inj (HY.out.symm.trans hjx)), trivial⟩, by simp [intOf] <;> omega⟩
    · obtain rfl : k = n := by omega
      have hkk : ¬ (k : Int) < k := by omega
      have HF := hide (kidF_no t.names t.kids x fun j hj => hno.out j (by have := (List.getElem?_eq_some_iff.1 hj).1; omega) hj)
      go_wp2_with fail
      go_ret
      exact ⟨by rw [HF.out]; rfl, HB.out⟩
end Go.Proofs.YtncjghmjlcohjaaDoor
