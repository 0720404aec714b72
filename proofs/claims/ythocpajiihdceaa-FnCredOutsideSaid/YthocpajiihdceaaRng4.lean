/-
  UserOutside and UserInside, of the program and of the reference. No condition.
-/
import Derived.Test.YthocpajiihdceaaProg
import Derived.Test.YthocpajiihdceaaRng3
namespace Go.Proofs.Ythocpajiihdceaa
open Go.RowKit
set_option linter.unusedSimpArgs false
set_option linter.unusedVariables false

theorem find_at {α : Type} (p : α → Bool) : ∀ (l : List α) (k : Nat) (t : α), l[k]? = some t → p t = true → (∀ (q : Nat) (s : α), q < k → l[q]? = some s → p s = false) → l.find? p = some t
  | [], k, t, h, _, _ => by simp at h
  | a :: l, 0, t, h, hp, _ => by
    simp at h; subst h
    simp [List.find?, hp]
  | a :: l, k + 1, t, h, hp, hq => by
    have h0 := hq 0 a (by omega) rfl
    simp only [List.getElem?_cons_succ] at h
    rw [List.find?_cons_of_neg (by simp [h0])]
    exact find_at p l k t h hp fun q s hqk hs => hq (q + 1) s (by omega) (by simpa using hs)
theorem find_no {α : Type} (p : α → Bool) (l : List α) (hq : ∀ (q : Nat) (s : α), q < l.length → l[q]? = some s → p s = false) : l.find? p = none := by
  rw [List.find?_eq_none]
  intro x hx
  obtain ⟨q, hlt, rfl⟩ := List.mem_iff_getElem.1 hx
  simp [hq q _ hlt (List.getElem?_eq_getElem hlt)]

def inI (u : Int) (t : Rng) : Bool := inB u t.i (t.i + t.m - 1)
def inO (u : Int) (t : Rng) : Bool := inB u t.o (t.o + t.m - 1)
noncomputable def uOut (l : List Rng) (u : Int) : Int := if rangesB l = true then (match l.find? (inI u) with | some t => t.o + u - t.i | none => -1) else -1
noncomputable def uIn (l : List Rng) (u : Int) : Int := if rangesB l = true then (match l.find? (inO u) with | some t => t.i + u - t.o | none => -1) else -1

set_option maxHeartbeats 2000000 in
theorem outSpec_c (b off n c : Nat) (l : List Rng) (u : Int) (hl : l.length = n) (hn : n ≤ 1048576) (w : World) (hR : RR w b off l) :
    Calls Try.prog 20 #[.slice (some ⟨b, off, none⟩) n c, .int .i64 u] w fun e w' => e = .returned (.int .i64 (uOut l u)) ∧ Below w.heap.size w w' := by
  by_cases hv : rangesB l = true
  · have HV := hide (rangesB_iff.1 hv)
    go_enter Try.func20, Try.ntmps20
    go_wp2_with fail
    go_loopw [5] (fun k wr => ∃ i : Nat, i ≤ n ∧ k = .int .i64 i ∧ Hid (∀ (q : Nat) (s : Rng), q < i → l[q]? = some s → inI u s = false) ∧ Below w.heap.size w wr) (fun k _ => n - (intOf k).toNat)
    case atStart => exact ⟨0, by omega, rfl, fun q s hq => absurd hq (by omega), Below.refl _ _⟩
    case round =>
      obtain ⟨k, hk, rfl, hno, hbel⟩ := hrel
      by_cases hlt : k < n
      · obtain ⟨t, ht⟩ : ∃ t, l[k]? = some t := ⟨_, List.getElem?_eq_getElem (by omega)⟩
        have HT := hide ht
        obtain ⟨⟨r1, r2, r3⟩, _⟩ := HV.out.1 k t (by omega) ht
        obtain ⟨p1, p2⟩ := inB_iff.1 r1; obtain ⟨p3, p4⟩ := inB_iff.1 r2; obtain ⟨p5, p6⟩ := inB_iff.1 r3
        clear ht r1 r2 r3
        have jj : (k : Int) < n := by omega
        by_cases hin : inI u t = true
        · have hin' : inB u t.i (t.i + t.m - 1) = true := hin
          obtain ⟨u1, u2⟩ := inB_iff.1 hin'
          have HU := hide (show uOut l u = t.o + u - t.i by simp [uOut, hv, find_at (inI u) l k t HT.out hin hno.out])
          clear hin
          go_wp2_with (go_at_call 12; refine (specR_c _ _ _ _ l (by first | assumption | omega) (by omega) _ (hR.below hbel)).mono ?_; rintro e w1 ⟨rfl, hb1⟩; have c0 := (hR.below (below_via0 hbel hb1)).2 k t HT.out)
          have e1 : IntKind.i64.wrap (t.i + t.m) = t.i + t.m := IntWalk.i64_in _ (by omega)
          have e2 : IntKind.i64.wrap (t.i + t.m - 1) = t.i + t.m - 1 := IntWalk.i64_in _ (by omega)
          go_quiet ((go_at_call 30; exact quiet_left (l1In_c _ _ _ _)))
          clear e1 e2
          rw [hin']
          go_wp2_with fail
          have e1 : IntKind.i64.wrap (t.o + u) = t.o + u := IntWalk.i64_in _ (by omega)
          have e2 : IntKind.i64.wrap (t.o + u - t.i) = t.o + u - t.i := IntWalk.i64_in _ (by omega)
          go_quiet (fail)
          clear e1 e2
          go_wp2
          go_ret
          exact ⟨by rw [HU.out]; rfl, (by repeat' (first | exact Below.refl _ _ | assumption | exact And.left (by assumption) | omega | (simp; done) | (simp; omega) | (simp at *; omega) | (refine Below.setCell ?_ ?_ _) | (refine below_alloc0 ?_ _) | (refine Below.drew ?_) | (refine below_drewN ?_ _) | (refine below_via0 ?_ (by assumption)) | (refine Below.alloc ?_ ?_ _) | (refine below_via ?_ (by assumption) ?_)))⟩
        · have hin' : inB u t.i (t.i + t.m - 1) = false := by simpa [inI] using hin
          have HI := hide hin
          clear hin
          go_wp2_with (go_at_call 12; refine (specR_c _ _ _ _ l (by first | assumption | omega) (by omega) _ (hR.below hbel)).mono ?_; rintro e w1 ⟨rfl, hb1⟩; have c0 := (hR.below (below_via0 hbel hb1)).2 k t HT.out)
          have e1 : IntKind.i64.wrap (t.i + t.m) = t.i + t.m := IntWalk.i64_in _ (by omega)
          have e2 : IntKind.i64.wrap (t.i + t.m - 1) = t.i + t.m - 1 := IntWalk.i64_in _ (by omega)
          go_quiet ((go_at_call 30; exact quiet_left (l1In_c _ _ _ _)))
          clear e1 e2
          go_wp2_with fail
          refine ⟨⟨k + 1, by omega, by go_num, fun q s hq hs => ?_, (by repeat' (first | exact Below.refl _ _ | assumption | exact And.left (by assumption) | omega | (simp; done) | (simp; omega) | (simp at *; omega) | (refine Below.setCell ?_ ?_ _) | (refine below_alloc0 ?_ _) | (refine Below.drew ?_) | (refine below_drewN ?_ _) | (refine below_via0 ?_ (by assumption)) | (refine Below.alloc ?_ ?_ _) | (refine below_via ?_ (by assumption) ?_)))⟩, by simp [intOf]; omega⟩
          rcases Nat.lt_or_ge q k with h | h
          · exact hno.out q s h hs
          · obtain rfl : q = k := by omega
            obtain rfl : s = t := by have := hs.symm.trans HT.out; simpa using this
            simpa using HI.out
      · obtain rfl : k = n := by omega
        go_wp2
        go_ret
        exact ⟨by simp [uOut, hv, find_no _ _ (fun q s hq hs => hno.out q s (by omega) hs)], (by repeat' (first | exact Below.refl _ _ | assumption | exact And.left (by assumption) | omega | (simp; done) | (simp; omega) | (simp at *; omega) | (refine Below.setCell ?_ ?_ _) | (refine below_alloc0 ?_ _) | (refine Below.drew ?_) | (refine below_drewN ?_ _) | (refine below_via0 ?_ (by assumption)) | (refine Below.alloc ?_ ?_ _) | (refine below_via ?_ (by assumption) ?_)))⟩
  · have hv' : rangesB l = false := by simpa using hv
    have HU := hide (show uOut l u = -1 by simp [uOut, hv'])
    clear hv
    go_enter Try.func20, Try.ntmps20
    go_wp2_with fail
    go_loopw [5] (fun k wr => k = .int .i64 0 ∧ Below w.heap.size w wr) (fun k _ => 0)
    case atStart => exact ⟨rfl, Below.refl _ _⟩
    case round =>
      obtain ⟨rfl, hbel⟩ := hrel
      by_cases hlt : 0 < n
      · go_wp2_with (go_at_call 12; refine (specR_c _ _ _ _ l (by first | assumption | omega) (by omega) _ (hR.below hbel)).mono ?_; rintro e w1 ⟨rfl, hb1⟩)
        go_ret
        exact ⟨by rw [HU.out]; rfl, (by repeat' (first | exact Below.refl _ _ | assumption | exact And.left (by assumption) | omega | (simp; done) | (simp; omega) | (simp at *; omega) | (refine Below.setCell ?_ ?_ _) | (refine below_alloc0 ?_ _) | (refine Below.drew ?_) | (refine below_drewN ?_ _) | (refine below_via0 ?_ (by assumption)) | (refine Below.alloc ?_ ?_ _) | (refine below_via ?_ (by assumption) ?_)))⟩
      · obtain rfl : n = 0 := by omega
        go_wp2
        go_ret
        exact ⟨by rw [HU.out]; rfl, (by repeat' (first | exact Below.refl _ _ | assumption | exact And.left (by assumption) | omega | (simp; done) | (simp; omega) | (simp at *; omega) | (refine Below.setCell ?_ ?_ _) | (refine below_alloc0 ?_ _) | (refine Below.drew ?_) | (refine below_drewN ?_ _) | (refine below_via0 ?_ (by assumption)) | (refine Below.alloc ?_ ?_ _) | (refine below_via ?_ (by assumption) ?_)))⟩
set_option maxHeartbeats 2000000 in
theorem outImpl_c (b off n c : Nat) (l : List Rng) (u : Int) (hl : l.length = n) (hn : n ≤ 1048576) (hc : n ≤ c) (w : World) (hR : RR w b off l) :
    Calls Try.prog 21 #[.slice (some ⟨b, off, none⟩) n c, .int .i64 u] w fun e w' => e = .returned (.int .i64 (uOut l u)) ∧ Below w.heap.size w w' := by
  by_cases hv : rangesB l = true
  · have HV := hide (rangesB_iff.1 hv)
    go_enter Try.func21, Try.ntmps21
    go_wp2_with (go_at_call 14; refine (implR_c _ _ _ _ l (by first | assumption | omega) (by omega) hc _ hR).mono ?_; rintro e w1 ⟨rfl, hb1⟩)
    go_loopw [12] (fun k wr => ∃ i : Nat, i ≤ n ∧ k = .int .i64 i ∧ Hid (∀ (q : Nat) (s : Rng), q < i → l[q]? = some s → inI u s = false) ∧ Below w.heap.size w wr) (fun k _ => n - (intOf k).toNat)
    case atStart => exact ⟨0, by omega, rfl, fun q s hq => absurd hq (by omega), (by repeat' (first | exact Below.refl _ _ | assumption | exact And.left (by assumption) | omega | (simp; done) | (simp; omega) | (simp at *; omega) | (refine Below.setCell ?_ ?_ _) | (refine below_alloc0 ?_ _) | (refine Below.drew ?_) | (refine below_drewN ?_ _) | (refine below_via0 ?_ (by assumption)) | (refine Below.alloc ?_ ?_ _) | (refine below_via ?_ (by assumption) ?_)))⟩
    case round =>
      obtain ⟨k, hk, rfl, hno, hbel⟩ := hrel
      by_cases hlt : k < n
      · obtain ⟨t, ht⟩ : ∃ t, l[k]? = some t := ⟨_, List.getElem?_eq_getElem (by omega)⟩
        have HT := hide ht
        obtain ⟨⟨r1, r2, r3⟩, _⟩ := HV.out.1 k t (by omega) ht
        obtain ⟨p1, p2⟩ := inB_iff.1 r1; obtain ⟨p3, p4⟩ := inB_iff.1 r2; obtain ⟨p5, p6⟩ := inB_iff.1 r3
        clear ht r1 r2 r3
        have c0 := (hR.below hbel).2 k t HT.out
        by_cases hin : inI u t = true
        · have hin' : inB u t.i (t.i + t.m - 1) = true := hin
          obtain ⟨u1, u2⟩ := inB_iff.1 hin'
          have HU := hide (show uOut l u = u - t.i + t.o by simp [uOut, hv, find_at (inI u) l k t HT.out hin hno.out]; omega)
          clear hin
          go_wp2_with (go_at_call 33; refine (within_c _ _ _ _).mono ?_; rintro e w' ⟨rfl, rfl⟩)
          go_ret
          exact ⟨by rw [HU.out]; rfl, (by repeat' (first | exact Below.refl _ _ | assumption | exact And.left (by assumption) | omega | (simp; done) | (simp; omega) | (simp at *; omega) | (refine Below.setCell ?_ ?_ _) | (refine below_alloc0 ?_ _) | (refine Below.drew ?_) | (refine below_drewN ?_ _) | (refine below_via0 ?_ (by assumption)) | (refine Below.alloc ?_ ?_ _) | (refine below_via ?_ (by assumption) ?_)))⟩
        · have hin' : inB u t.i (t.i + t.m - 1) = false := by simpa [inI] using hin
          have HI := hide hin
          clear hin
          go_wp2_with (go_at_call 33; refine (within_c _ _ _ _).mono ?_; rintro e w' ⟨rfl, rfl⟩)
          refine ⟨⟨k + 1, by omega, by go_num, fun q s hq hs => ?_, (by repeat' (first | exact Below.refl _ _ | assumption | exact And.left (by assumption) | omega | (simp; done) | (simp; omega) | (simp at *; omega) | (refine Below.setCell ?_ ?_ _) | (refine below_alloc0 ?_ _) | (refine Below.drew ?_) | (refine below_drewN ?_ _) | (refine below_via0 ?_ (by assumption)) | (refine Below.alloc ?_ ?_ _) | (refine below_via ?_ (by assumption) ?_)))⟩, by simp [intOf]; omega⟩
          rcases Nat.lt_or_ge q k with h | h
          · exact hno.out q s h hs
          · obtain rfl : q = k := by omega
            obtain rfl : s = t := by have := hs.symm.trans HT.out; simpa using this
            simpa using HI.out
      · obtain rfl : k = n := by omega
        go_wp2
        go_ret
        exact ⟨by simp [uOut, hv, find_no _ _ (fun q s hq hs => hno.out q s (by omega) hs)], (by repeat' (first | exact Below.refl _ _ | assumption | exact And.left (by assumption) | omega | (simp; done) | (simp; omega) | (simp at *; omega) | (refine Below.setCell ?_ ?_ _) | (refine below_alloc0 ?_ _) | (refine Below.drew ?_) | (refine below_drewN ?_ _) | (refine below_via0 ?_ (by assumption)) | (refine Below.alloc ?_ ?_ _) | (refine below_via ?_ (by assumption) ?_)))⟩
  · have hv' : rangesB l = false := by simpa using hv
    have HU := hide (show uOut l u = -1 by simp [uOut, hv'])
    clear hv
    go_enter Try.func21, Try.ntmps21
    go_wp2_with (go_at_call 14; refine (implR_c _ _ _ _ l (by first | assumption | omega) (by omega) hc _ hR).mono ?_; rintro e w1 ⟨rfl, hb1⟩)
    go_ret
    exact ⟨by rw [HU.out]; rfl, (by repeat' (first | exact Below.refl _ _ | assumption | exact And.left (by assumption) | omega | (simp; done) | (simp; omega) | (simp at *; omega) | (refine Below.setCell ?_ ?_ _) | (refine below_alloc0 ?_ _) | (refine Below.drew ?_) | (refine below_drewN ?_ _) | (refine below_via0 ?_ (by assumption)) | (refine Below.alloc ?_ ?_ _) | (refine below_via ?_ (by assumption) ?_)))⟩
set_option maxHeartbeats 2000000 in
theorem inSpec_c (b off n c : Nat) (l : List Rng) (u : Int) (hl : l.length = n) (hn : n ≤ 1048576) (w : World) (hR : RR w b off l) :
    Calls Try.prog 18 #[.slice (some ⟨b, off, none⟩) n c, .int .i64 u] w fun e w' => e = .returned (.int .i64 (uIn l u)) ∧ Below w.heap.size w w' := by
  by_cases hv : rangesB l = true
  · have HV := hide (rangesB_iff.1 hv)
    go_enter Try.func18, Try.ntmps18
    go_wp2_with fail
    go_loopw [5] (fun k wr => ∃ i : Nat, i ≤ n ∧ k = .int .i64 i ∧ Hid (∀ (q : Nat) (s : Rng), q < i → l[q]? = some s → inO u s = false) ∧ Below w.heap.size w wr) (fun k _ => n - (intOf k).toNat)
    case atStart => exact ⟨0, by omega, rfl, fun q s hq => absurd hq (by omega), Below.refl _ _⟩
    case round =>
      obtain ⟨k, hk, rfl, hno, hbel⟩ := hrel
      by_cases hlt : k < n
      · obtain ⟨t, ht⟩ : ∃ t, l[k]? = some t := ⟨_, List.getElem?_eq_getElem (by omega)⟩
        have HT := hide ht
        obtain ⟨⟨r1, r2, r3⟩, _⟩ := HV.out.1 k t (by omega) ht
        obtain ⟨p1, p2⟩ := inB_iff.1 r1; obtain ⟨p3, p4⟩ := inB_iff.1 r2; obtain ⟨p5, p6⟩ := inB_iff.1 r3
        clear ht r1 r2 r3
        have jj : (k : Int) < n := by omega
        by_cases hin : inO u t = true
        · have hin' : inB u t.o (t.o + t.m - 1) = true := hin
          obtain ⟨u1, u2⟩ := inB_iff.1 hin'
          have HU := hide (show uIn l u = t.i + u - t.o by simp [uIn, hv, find_at (inO u) l k t HT.out hin hno.out])
          clear hin
          go_wp2_with (go_at_call 12; refine (specR_c _ _ _ _ l (by first | assumption | omega) (by omega) _ (hR.below hbel)).mono ?_; rintro e w1 ⟨rfl, hb1⟩; have c0 := (hR.below (below_via0 hbel hb1)).2 k t HT.out)
          have e1 : IntKind.i64.wrap (t.o + t.m) = t.o + t.m := IntWalk.i64_in _ (by omega)
          have e2 : IntKind.i64.wrap (t.o + t.m - 1) = t.o + t.m - 1 := IntWalk.i64_in _ (by omega)
          go_quiet ((go_at_call 30; exact quiet_left (l1In_c _ _ _ _)))
          clear e1 e2
          rw [hin']
          go_wp2_with fail
          have e1 : IntKind.i64.wrap (t.i + u) = t.i + u := IntWalk.i64_in _ (by omega)
          have e2 : IntKind.i64.wrap (t.i + u - t.o) = t.i + u - t.o := IntWalk.i64_in _ (by omega)
          go_quiet (fail)
          clear e1 e2
          go_wp2
          go_ret
          exact ⟨by rw [HU.out]; rfl, (by repeat' (first | exact Below.refl _ _ | assumption | exact And.left (by assumption) | omega | (simp; done) | (simp; omega) | (simp at *; omega) | (refine Below.setCell ?_ ?_ _) | (refine below_alloc0 ?_ _) | (refine Below.drew ?_) | (refine below_drewN ?_ _) | (refine below_via0 ?_ (by assumption)) | (refine Below.alloc ?_ ?_ _) | (refine below_via ?_ (by assumption) ?_)))⟩
        · have hin' : inB u t.o (t.o + t.m - 1) = false := by simpa [inO] using hin
          have HI := hide hin
          clear hin
          go_wp2_with (go_at_call 12; refine (specR_c _ _ _ _ l (by first | assumption | omega) (by omega) _ (hR.below hbel)).mono ?_; rintro e w1 ⟨rfl, hb1⟩; have c0 := (hR.below (below_via0 hbel hb1)).2 k t HT.out)
          have e1 : IntKind.i64.wrap (t.o + t.m) = t.o + t.m := IntWalk.i64_in _ (by omega)
          have e2 : IntKind.i64.wrap (t.o + t.m - 1) = t.o + t.m - 1 := IntWalk.i64_in _ (by omega)
          go_quiet ((go_at_call 30; exact quiet_left (l1In_c _ _ _ _)))
          clear e1 e2
          go_wp2_with fail
          refine ⟨⟨k + 1, by omega, by go_num, fun q s hq hs => ?_, (by repeat' (first | exact Below.refl _ _ | assumption | exact And.left (by assumption) | omega | (simp; done) | (simp; omega) | (simp at *; omega) | (refine Below.setCell ?_ ?_ _) | (refine below_alloc0 ?_ _) | (refine Below.drew ?_) | (refine below_drewN ?_ _) | (refine below_via0 ?_ (by assumption)) | (refine Below.alloc ?_ ?_ _) | (refine below_via ?_ (by assumption) ?_)))⟩, by simp [intOf]; omega⟩
          rcases Nat.lt_or_ge q k with h | h
          · exact hno.out q s h hs
          · obtain rfl : q = k := by omega
            obtain rfl : s = t := by have := hs.symm.trans HT.out; simpa using this
            simpa using HI.out
      · obtain rfl : k = n := by omega
        go_wp2
        go_ret
        exact ⟨by simp [uIn, hv, find_no _ _ (fun q s hq hs => hno.out q s (by omega) hs)], (by repeat' (first | exact Below.refl _ _ | assumption | exact And.left (by assumption) | omega | (simp; done) | (simp; omega) | (simp at *; omega) | (refine Below.setCell ?_ ?_ _) | (refine below_alloc0 ?_ _) | (refine Below.drew ?_) | (refine below_drewN ?_ _) | (refine below_via0 ?_ (by assumption)) | (refine Below.alloc ?_ ?_ _) | (refine below_via ?_ (by assumption) ?_)))⟩
  · have hv' : rangesB l = false := by simpa using hv
    have HU := hide (show uIn l u = -1 by simp [uIn, hv'])
    clear hv
    go_enter Try.func18, Try.ntmps18
    go_wp2_with fail
    go_loopw [5] (fun k wr => k = .int .i64 0 ∧ Below w.heap.size w wr) (fun k _ => 0)
    case atStart => exact ⟨rfl, Below.refl _ _⟩
    case round =>
      obtain ⟨rfl, hbel⟩ := hrel
      by_cases hlt : 0 < n
      · go_wp2_with (go_at_call 12; refine (specR_c _ _ _ _ l (by first | assumption | omega) (by omega) _ (hR.below hbel)).mono ?_; rintro e w1 ⟨rfl, hb1⟩)
        go_ret
        exact ⟨by rw [HU.out]; rfl, (by repeat' (first | exact Below.refl _ _ | assumption | exact And.left (by assumption) | omega | (simp; done) | (simp; omega) | (simp at *; omega) | (refine Below.setCell ?_ ?_ _) | (refine below_alloc0 ?_ _) | (refine Below.drew ?_) | (refine below_drewN ?_ _) | (refine below_via0 ?_ (by assumption)) | (refine Below.alloc ?_ ?_ _) | (refine below_via ?_ (by assumption) ?_)))⟩
      · obtain rfl : n = 0 := by omega
        go_wp2
        go_ret
        exact ⟨by rw [HU.out]; rfl, (by repeat' (first | exact Below.refl _ _ | assumption | exact And.left (by assumption) | omega | (simp; done) | (simp; omega) | (simp at *; omega) | (refine Below.setCell ?_ ?_ _) | (refine below_alloc0 ?_ _) | (refine Below.drew ?_) | (refine below_drewN ?_ _) | (refine below_via0 ?_ (by assumption)) | (refine Below.alloc ?_ ?_ _) | (refine below_via ?_ (by assumption) ?_)))⟩
set_option maxHeartbeats 2000000 in
theorem inImpl_c (b off n c : Nat) (l : List Rng) (u : Int) (hl : l.length = n) (hn : n ≤ 1048576) (hc : n ≤ c) (w : World) (hR : RR w b off l) :
    Calls Try.prog 19 #[.slice (some ⟨b, off, none⟩) n c, .int .i64 u] w fun e w' => e = .returned (.int .i64 (uIn l u)) ∧ Below w.heap.size w w' := by
  by_cases hv : rangesB l = true
  · have HV := hide (rangesB_iff.1 hv)
    go_enter Try.func19, Try.ntmps19
    go_wp2_with (go_at_call 14; refine (implR_c _ _ _ _ l (by first | assumption | omega) (by omega) hc _ hR).mono ?_; rintro e w1 ⟨rfl, hb1⟩)
    go_loopw [12] (fun k wr => ∃ i : Nat, i ≤ n ∧ k = .int .i64 i ∧ Hid (∀ (q : Nat) (s : Rng), q < i → l[q]? = some s → inO u s = false) ∧ Below w.heap.size w wr) (fun k _ => n - (intOf k).toNat)
    case atStart => exact ⟨0, by omega, rfl, fun q s hq => absurd hq (by omega), (by repeat' (first | exact Below.refl _ _ | assumption | exact And.left (by assumption) | omega | (simp; done) | (simp; omega) | (simp at *; omega) | (refine Below.setCell ?_ ?_ _) | (refine below_alloc0 ?_ _) | (refine Below.drew ?_) | (refine below_drewN ?_ _) | (refine below_via0 ?_ (by assumption)) | (refine Below.alloc ?_ ?_ _) | (refine below_via ?_ (by assumption) ?_)))⟩
    case round =>
      obtain ⟨k, hk, rfl, hno, hbel⟩ := hrel
      by_cases hlt : k < n
      · obtain ⟨t, ht⟩ : ∃ t, l[k]? = some t := ⟨_, List.getElem?_eq_getElem (by omega)⟩
        have HT := hide ht
        obtain ⟨⟨r1, r2, r3⟩, _⟩ := HV.out.1 k t (by omega) ht
        obtain ⟨p1, p2⟩ := inB_iff.1 r1; obtain ⟨p3, p4⟩ := inB_iff.1 r2; obtain ⟨p5, p6⟩ := inB_iff.1 r3
        clear ht r1 r2 r3
        have c0 := (hR.below hbel).2 k t HT.out
        by_cases hin : inO u t = true
        · have hin' : inB u t.o (t.o + t.m - 1) = true := hin
          obtain ⟨u1, u2⟩ := inB_iff.1 hin'
          have HU := hide (show uIn l u = u - t.o + t.i by simp [uIn, hv, find_at (inO u) l k t HT.out hin hno.out]; omega)
          clear hin
          go_wp2_with (go_at_call 33; refine (within_c _ _ _ _).mono ?_; rintro e w' ⟨rfl, rfl⟩)
          go_ret
          exact ⟨by rw [HU.out]; rfl, (by repeat' (first | exact Below.refl _ _ | assumption | exact And.left (by assumption) | omega | (simp; done) | (simp; omega) | (simp at *; omega) | (refine Below.setCell ?_ ?_ _) | (refine below_alloc0 ?_ _) | (refine Below.drew ?_) | (refine below_drewN ?_ _) | (refine below_via0 ?_ (by assumption)) | (refine Below.alloc ?_ ?_ _) | (refine below_via ?_ (by assumption) ?_)))⟩
        · have hin' : inB u t.o (t.o + t.m - 1) = false := by simpa [inO] using hin
          have HI := hide hin
          clear hin
          go_wp2_with (go_at_call 33; refine (within_c _ _ _ _).mono ?_; rintro e w' ⟨rfl, rfl⟩)
          refine ⟨⟨k + 1, by omega, by go_num, fun q s hq hs => ?_, (by repeat' (first | exact Below.refl _ _ | assumption | exact And.left (by assumption) | omega | (simp; done) | (simp; omega) | (simp at *; omega) | (refine Below.setCell ?_ ?_ _) | (refine below_alloc0 ?_ _) | (refine Below.drew ?_) | (refine below_drewN ?_ _) | (refine below_via0 ?_ (by assumption)) | (refine Below.alloc ?_ ?_ _) | (refine below_via ?_ (by assumption) ?_)))⟩, by simp [intOf]; omega⟩
          rcases Nat.lt_or_ge q k with h | h
          · exact hno.out q s h hs
          · obtain rfl : q = k := by omega
            obtain rfl : s = t := by have := hs.symm.trans HT.out; simpa using this
            simpa using HI.out
      · obtain rfl : k = n := by omega
        go_wp2
        go_ret
        exact ⟨by simp [uIn, hv, find_no _ _ (fun q s hq hs => hno.out q s (by omega) hs)], (by repeat' (first | exact Below.refl _ _ | assumption | exact And.left (by assumption) | omega | (simp; done) | (simp; omega) | (simp at *; omega) | (refine Below.setCell ?_ ?_ _) | (refine below_alloc0 ?_ _) | (refine Below.drew ?_) | (refine below_drewN ?_ _) | (refine below_via0 ?_ (by assumption)) | (refine Below.alloc ?_ ?_ _) | (refine below_via ?_ (by assumption) ?_)))⟩
  · have hv' : rangesB l = false := by simpa using hv
    have HU := hide (show uIn l u = -1 by simp [uIn, hv'])
    clear hv
    go_enter Try.func19, Try.ntmps19
    go_wp2_with (go_at_call 14; refine (implR_c _ _ _ _ l (by first | assumption | omega) (by omega) hc _ hR).mono ?_; rintro e w1 ⟨rfl, hb1⟩)
    go_ret
    exact ⟨by rw [HU.out]; rfl, (by repeat' (first | exact Below.refl _ _ | assumption | exact And.left (by assumption) | omega | (simp; done) | (simp; omega) | (simp at *; omega) | (refine Below.setCell ?_ ?_ _) | (refine below_alloc0 ?_ _) | (refine Below.drew ?_) | (refine below_drewN ?_ _) | (refine below_via0 ?_ (by assumption)) | (refine Below.alloc ?_ ?_ _) | (refine below_via ?_ (by assumption) ?_)))⟩
end Go.Proofs.Ythocpajiihdceaa
