/-
  When a node is valid: the reference. No condition.
-/
import Derived.Test.YtncjghmjlcohjaaDoorProg
import Derived.Test.YtncjghmjlcohjaaDoorNdv
namespace Go.Proofs.YtncjghmjlcohjaaDoor
open Go.RowKit
set_option linter.unusedSimpArgs false
set_option linter.unusedVariables false

theorem less_tri : ∀ a b : List UInt8, (Op.bytesLess a b || a == b) = !(Op.bytesLess b a)
  | [], [] => rfl
  | [], b :: y => rfl
  | a :: x, [] => rfl
  | a :: x, b :: y => by
    have ih := less_tri x y
    by_cases h : a = b
    · subst h
      simp only [Op.bytesLess, UInt8.lt_irrefl, decide_false, Bool.false_or, beq_self_eq_true, Bool.true_and]
      rw [← ih]
      simp
    · have h1 : (a == b) = false := by simpa using h
      have h2 : (b == a) = false := by simpa using fun e => h e.symm
      have h3 : (a :: x == b :: y) = false := by simp [h]
      simp only [Op.bytesLess, h1, h2, h3, Bool.false_and, Bool.or_false]
      have h4 : a.toNat ≠ b.toNat := fun e => h (UInt8.toNat_inj.1 e)
      by_cases hl : a < b
      · have : ¬ b < a := fun e => by rw [UInt8.lt_iff_toNat_lt] at hl e; omega
        simp [hl, this]
      · have : b < a := by rw [UInt8.lt_iff_toNat_lt] at hl ⊢; omega
        simp [hl, this]
set_option maxRecDepth 100000 in
set_option maxHeartbeats 4000000 in
theorem ndSpec_c (t : Node) (S K : Value) (N : Int) (hN : 0 ≤ N ∧ N ≤ 1000000000) (hZ : NodeZ t) (w : World) (hS : SlS w S t.names) (hK : SlK w K t.kids) :
    Calls Tryd.prog 38 #[.agg #[.bool t.dir, .int .i64 t.owner, .int .i64 t.group, .int .i64 t.mode, .string t.text, S, K], .int .i64 N] w fun e w' => e = .returned (.bool (ndS t N)) ∧ Below w.heap.size w w' := by
  obtain ⟨A, n, c, rfl, hnc, hS⟩ := hS
  obtain ⟨A2, n2, c2, rfl, hnc2, hK⟩ := hK
  have hn := hS.1
  have hn2 := hK.1
  obtain ⟨z1, z2, z3, z4⟩ := hZ
  unfold maxLen at z1
  have HS := hide hS
  have HK := hide hK
  have H4 := hide z4
  clear hS hK z4
  have B0 : Below w.heap.size w (w.alloc (.cells #[.bool t.dir, .int .i64 t.owner, .int .i64 t.group, .int .i64 t.mode, .string t.text, .slice A n c, .slice A2 n2 c2] 45)) := below_alloc0 (Below.refl _ _) _
  have HB0 := hide B0
  clear B0
  cases hh : HeadB t
  · have HF := hide (show ndS t N = false from ndS_no fun e => by have := e.1.1; rw [hh] at this; cases this)
    simp only [HeadB] at hh
    cases h1 : inB t.owner 0 99 <;> cases h2 : inB t.group 0 7 <;> cases h3 : inB t.mode 0 1023
    all_goals
      first
        | (rw [h1, h2, h3] at hh; exact absurd hh (by decide))
        | (go_enter Tryd.func38, Tryd.ntmps38
           go_wp2_with (go_at_call 20; refine (l1In_c _ _ _ _).mono ?_; rintro e w' ⟨rfl, rfl⟩; first | rw [h1] | rw [h2] | rw [h3])
           go_ret
           exact ⟨by rw [HF.out]; rfl, HB0.out⟩)
  have HH := hide hh
  simp only [HeadB, Bool.and_eq_true] at hh
  obtain ⟨h1, h2, h3⟩ := hh
  by_cases hnn : n = n2
  case neg =>
    have hnn' : ((n : Int) != n2) = true := by simp; omega
    have HF := hide (show ndS t N = false from ndS_no fun e => hnn (by have := e.1.2.2.2.2.1; omega))
    go_enter Tryd.func38, Tryd.ntmps38
    go_wp2_with (go_at_call 20; refine (l1In_c _ _ _ _).mono ?_; rintro e w' ⟨rfl, rfl⟩; first | rw [h1] | rw [h2] | rw [h3])
    go_ret
    exact ⟨by rw [HF.out]; rfl, HB0.out⟩
  subst hnn
  by_cases g4 : t.text.size ≤ 40
  case neg =>
    have g4' : (40 : Int) < t.text.size := by omega
    have htx : ¬ t.text.toList = [] := fun e => g4 (txE_size (by simpa [txE] using e))
    cases hd : t.dir
    · rw [hd] at HB0
      by_cases h0 : n = 0
      · subst h0
        have HF := hide (show ndS t N = false from ndS_no fun e => g4 e.1.2.1)
        go_enter Tryd.func38, Tryd.ntmps38
        go_wp2_with (go_at_call 20; refine (l1In_c _ _ _ _).mono ?_; rintro e w' ⟨rfl, rfl⟩; first | rw [h1] | rw [h2] | rw [h3])
        go_ret
        exact ⟨by rw [HF.out]; rfl, HB0.out⟩
      · have h0' : (0 : Int) < n := by omega
        have HF := hide (show ndS t N = false from ndS_no fun e => g4 e.1.2.1)
        go_enter Tryd.func38, Tryd.ntmps38
        go_wp2_with (go_at_call 20; refine (l1In_c _ _ _ _).mono ?_; rintro e w' ⟨rfl, rfl⟩; first | rw [h1] | rw [h2] | rw [h3])
        go_ret
        exact ⟨by rw [HF.out]; rfl, HB0.out⟩
    · rw [hd] at HB0
      have HF := hide (show ndS t N = false from ndS_no fun e => g4 e.1.2.1)
      go_enter Tryd.func38, Tryd.ntmps38
      go_wp2_with (go_at_call 20; refine (l1In_c _ _ _ _).mono ?_; rintro e w' ⟨rfl, rfl⟩; first | rw [h1] | rw [h2] | rw [h3])
      go_ret
      exact ⟨by rw [HF.out]; rfl, HB0.out⟩
  have g4' : ¬ (40 : Int) < t.text.size := by omega
  have HFin : Hid (NmsUp t.names n → KidUp t.kids N n → (t.dir = false → n = 0) → (t.dir = true → txE t = true) → ndS t N = true) := hide (fun a b c d => ndS_iff.2 ⟨⟨HH.out, g4, fun e => by have := c e; omega, d, by omega, by rw [hn]; exact a⟩, by rw [hn2]; exact b⟩)
  cases hd : t.dir
  case false =>
    rw [hd] at HB0
    by_cases h0 : n = 0
    case neg =>
      have h0' : (0 : Int) < n := by omega
      have HF := hide (show ndS t N = false from ndS_no fun e => h0 (by have := (e.1.2.2.1 hd).1; omega))
      go_enter Tryd.func38, Tryd.ntmps38
      go_wp2_with (go_at_call 20; refine (l1In_c _ _ _ _).mono ?_; rintro e w' ⟨rfl, rfl⟩; first | rw [h1] | rw [h2] | rw [h3])
      go_ret
      exact ⟨by rw [HF.out]; rfl, HB0.out⟩
    subst h0
    have HF := hide (HFin.out (fun i x hi => absurd hi (by omega)) (fun i x hi => absurd hi (by omega)) (fun _ => rfl) (fun e => by rw [hd] at e; cases e))
    go_enter Tryd.func38, Tryd.ntmps38
    go_wp2_with (go_at_call 20; refine (l1In_c _ _ _ _).mono ?_; rintro e w' ⟨rfl, rfl⟩; first | rw [h1] | rw [h2] | rw [h3])
    go_loopw [5] (fun kv wr => kv = .int .i64 0 ∧ wr = w.alloc (.cells #[.bool false, .int .i64 t.owner, .int .i64 t.group, .int .i64 t.mode, .string t.text, .slice A (0 : Nat) c, .slice A2 (0 : Nat) c2] 45)) (fun kv _ => 0)
    case atStart => exact ⟨rfl, rfl⟩
    case round =>
      obtain ⟨rfl, rfl⟩ := hrel
      go_wp2_with fail
      go_ret
      exact ⟨by rw [HF.out]; rfl, HB0.out⟩
  rw [hd] at HB0
  by_cases htx : t.text.toList = []
  case neg =>
    have HF := hide (show ndS t N = false from ndS_no fun e => htx (by simpa [txE] using e.1.2.2.2.1 hd))
    go_enter Tryd.func38, Tryd.ntmps38
    go_wp2_with (go_at_call 20; refine (l1In_c _ _ _ _).mono ?_; rintro e w' ⟨rfl, rfl⟩; first | rw [h1] | rw [h2] | rw [h3])
    go_ret
    exact ⟨by rw [HF.out]; rfl, HB0.out⟩
  go_enter Tryd.func38, Tryd.ntmps38
  go_wp2_with (go_at_call 20; refine (l1In_c _ _ _ _).mono ?_; rintro e w' ⟨rfl, rfl⟩; first | rw [h1] | rw [h2] | rw [h3])
  generalize hW : w.alloc (.cells #[.bool true, .int .i64 t.owner, .int .i64 t.group, .int .i64 t.mode, .string t.text, .slice A n c, .slice A2 n c2] 45) = W at HB0 ⊢
  have hc5 : W.cell? ⟨w.heap.size, 5, none⟩ = some (.slice A n c) := by rw [← hW]; simp [go_sem]
  have hc6 : W.cell? ⟨w.heap.size, 6, none⟩ = some (.slice A2 n c2) := by rw [← hW]; simp [go_sem]
  have hwl : w.heap.size < W.heap.size := by rw [← hW]; simp
  clear hW
  have HSW := hide (HS.out.below HB0.out)
  have HKW := hide (HK.out.below HB0.out)
  have jN := IntWalk.i64_in (N - 1) (by omega)
  go_loopw [5] (fun kv wr => ∃ k : Nat, k ≤ n ∧ kv = .int .i64 k ∧ Hid (NmsUp t.names k ∧ KidUp t.kids N k) ∧ Hid (Below W.heap.size W wr)) (fun kv _ => n - (intOf kv).toNat)
  case atStart => exact ⟨0, by omega, rfl, ⟨fun i x hi => absurd hi (by omega), fun i x hi => absurd hi (by omega)⟩, Below.refl _ _⟩
  case round =>
    obtain ⟨k, hk, rfl, hup, hbel⟩ := hrel
    have wl := (live hbel.out w.heap.size hwl)
    have d5 : wr.cell? ⟨w.heap.size, 5, none⟩ = some (.slice A n c) := (wl.2.2.2.2.2.1 5).trans hc5
    have d6 : wr.cell? ⟨w.heap.size, 6, none⟩ = some (.slice A2 n c2) := (wl.2.2.2.2.2.1 6).trans hc6
    have dl := wl.1
    clear wl
    by_cases hlt : k < n
    · obtain ⟨b, off, hA, hR⟩ := HSW.out.2 (by omega)
      obtain ⟨b', off', hA', hR'⟩ := HKW.out.2 (by omega)
      subst hA hA'
      obtain ⟨x, hx⟩ : ∃ x, t.names[k]? = some x := ⟨_, List.getElem?_eq_getElem (by omega)⟩
      obtain ⟨y, hy⟩ : ∃ y, t.kids[k]? = some y := ⟨_, List.getElem?_eq_getElem (by omega)⟩
      have c0 := (hR.below hbel.out).2 k x hx
      have e0 := (hR'.below hbel.out).2 k y hy
      have hbl := (hR.below hbel.out).1
      have hbl' := (hR'.below hbel.out).1
      have hxz := H4.out x (List.mem_of_getElem? hx)
      have HX := hide hx
      have HY := hide hy
      have hkk : (k : Int) < n := by omega
      have HBW := hide (HB0.out.trans (hbel.out.mono HB0.out.size))
      cases hnm : nameB x
      · have HF := hide (show ndS t N = false from ndS_no fun e => NmsUp.bad hx (.inl hnm) e.1.2.2.2.2.2)
        clear hx hR hy hR'
        go_wp2_with fail
        go_quiet (first | (go_at_call 51; exact quiet_left ((nmSpec_c x hxz _).mono (fun e w' h => by rw [hnm] at h; exact h))) | (go_at_call 20; exact quiet_left ((l1In_c y 1 (N - 1) _).mono (fun e w' h => by rw [hkb] at h; exact h))))
        go_wp2_with fail
        go_ret
        exact ⟨by rw [HF.out]; rfl, below_drewN HBW.out _⟩
      cases hkb : inB y 1 (N - 1)
      · have HF := hide (show ndS t N = false from ndS_no fun e => by
          have := e.2 k y (by omega) hy
          rw [hkb] at this; cases this)
        clear hx hR hy hR'
        go_wp2_with fail
        go_quiet (first | (go_at_call 51; exact quiet_left ((nmSpec_c x hxz _).mono (fun e w' h => by rw [hnm] at h; exact h))) | (go_at_call 20; exact quiet_left ((l1In_c y 1 (N - 1) _).mono (fun e w' h => by rw [hkb] at h; exact h))))
        go_wp2_with fail
        go_ret
        exact ⟨by rw [HF.out]; rfl, below_drewN HBW.out _⟩
      by_cases hk0 : k = 0
      · subst hk0
        simp only [Nat.add_zero] at c0 e0
        clear hx hR hy hR'
        go_wp2_with fail
        go_quiet (first | (go_at_call 51; exact quiet_left ((nmSpec_c x hxz _).mono (fun e w' h => by rw [hnm] at h; exact h))) | (go_at_call 20; exact quiet_left ((l1In_c y 1 (N - 1) _).mono (fun e w' h => by rw [hkb] at h; exact h))))
        go_wp2_with fail
        exact ⟨⟨1, by omega, by go_num, ⟨hup.out.1.step HX.out hnm (fun h => absurd h (by omega)), hup.out.2.step HY.out hkb⟩, below_drewN hbel.out _⟩, by simp [intOf] <;> omega⟩
      obtain ⟨q, rfl⟩ : ∃ q, k = q + 1 := ⟨k - 1, by omega⟩
      obtain ⟨u, hu⟩ : ∃ u, t.names[q]? = some u := ⟨_, List.getElem?_eq_getElem (by omega)⟩
      have c1 := (hR.below hbel.out).2 q u hu
      have HU := hide hu
      have hq0 : (0 : Int) < (q : Int) + 1 := by omega
      have hqn : (q : Int) < n := by omega
      have jw := IntWalk.i64_in (q : Int) (by unfold maxLen at z2; omega)
      have jw2 := IntWalk.i64_in ((q : Int) + 1 + 1) (by unfold maxLen at z2; omega)
      cases hlt2 : ltS u x
      · have HF := hide (show ndS t N = false from ndS_no fun e => NmsUp.bad hx (.inr ⟨by omega, u, by simpa using hu, hlt2⟩) e.1.2.2.2.2.2)
        have hbs : (Op.bytesLess x.toList u.toList || x.toList == u.toList) = true := by rw [less_tri]; simpa [ltS] using hlt2
        clear hx hR hy hR' hu
        cases hc1 : Op.bytesLess x.toList u.toList
        · rw [hc1, Bool.false_or] at hbs
          go_wp2_with fail
          go_quiet (first | (go_at_call 51; exact quiet_left ((nmSpec_c x hxz _).mono (fun e w' h => by rw [hnm] at h; exact h))) | (go_at_call 20; exact quiet_left ((l1In_c y 1 (N - 1) _).mono (fun e w' h => by rw [hkb] at h; exact h))))
          go_wp2_with fail
          go_ret
          exact ⟨by rw [HF.out]; rfl, below_drewN HBW.out _⟩
        · clear hbs
          go_wp2_with fail
          go_quiet (first | (go_at_call 51; exact quiet_left ((nmSpec_c x hxz _).mono (fun e w' h => by rw [hnm] at h; exact h))) | (go_at_call 20; exact quiet_left ((l1In_c y 1 (N - 1) _).mono (fun e w' h => by rw [hkb] at h; exact h))))
          go_wp2_with fail
          go_ret
          exact ⟨by rw [HF.out]; rfl, below_drewN HBW.out _⟩
      · have hbs : (Op.bytesLess x.toList u.toList || x.toList == u.toList) = false := by rw [less_tri]; simpa [ltS] using hlt2
        rw [Bool.or_eq_false_iff] at hbs
        obtain ⟨hbs1, hbs2⟩ := hbs
        clear hx hR hy hR' hu
        go_wp2_with fail
        go_quiet (first | (go_at_call 51; exact quiet_left ((nmSpec_c x hxz _).mono (fun e w' h => by rw [hnm] at h; exact h))) | (go_at_call 20; exact quiet_left ((l1In_c y 1 (N - 1) _).mono (fun e w' h => by rw [hkb] at h; exact h))))
        go_wp2_with fail
        exact ⟨⟨q + 1 + 1, by omega, by go_num, ⟨hup.out.1.step HX.out hnm (fun _ z hz => by
          have hz' : t.names[q]? = some z := by simpa using hz
          obtain rfl := Option.some.inj (hz'.symm.trans HU.out)
          exact hlt2), hup.out.2.step HY.out hkb⟩, below_drewN hbel.out _⟩, by simp [intOf] <;> omega⟩
    · obtain rfl : k = n := by omega
      have hkk : ¬ (k : Int) < k := by omega
      have HF := hide (HFin.out hup.out.1 hup.out.2 (fun e => by rw [hd] at e; cases e) (fun _ => by simpa [txE] using htx))
      have HBW := hide (HB0.out.trans (hbel.out.mono HB0.out.size))
      go_wp2_with fail
      go_ret
      exact ⟨by rw [HF.out]; rfl, HBW.out⟩
end Go.Proofs.YtncjghmjlcohjaaDoor
