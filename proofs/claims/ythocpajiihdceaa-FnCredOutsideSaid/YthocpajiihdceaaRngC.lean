/-
  The law of CredOutside over drawn arguments. No condition.
-/
import Derived.Test.YthocpajiihdceaaProg
import Derived.Test.YthocpajiihdceaaRngL
import Derived.Test.YthocpajiihdceaaRng6
import Derived.Test.YthocpajiihdceaaCred
namespace Go.Proofs.Ythocpajiihdceaa
open Go.RowKit
set_option linter.unusedSimpArgs false
set_option linter.unusedVariables false

def coV (b n cap : Nat) (r a s g x y z : Int) (gd xd : Nat) (i : Nat) : Value :=
  match i with
  | 0 => .agg #[.int .i64 x, .int .i64 y, .int .i64 z, .int .i64 g]
  | 1 => .bool true
  | 2 => .bool true
  | 3 => .pointer (some ⟨xd, 3, none⟩)
  | 4 => .int .i64 g
  | 5 => .pointer (some ⟨gd, 3, none⟩)
  | 6 => .int .i64 g
  | 7 => .bool true
  | 8 => .bool true
  | 9 => .bool true
  | 10 => .slice (some ⟨b, 0, none⟩) n cap
  | 11 => .pointer (some ⟨xd, 0, none⟩)
  | 12 => .int .i64 x
  | 13 => .int .i64 r
  | 14 => .pointer (some ⟨gd, 0, none⟩)
  | 15 => .int .i64 r
  | 16 => .bool true
  | 17 => .bool true
  | 18 => .bool true
  | 19 => .slice (some ⟨b, 0, none⟩) n cap
  | 20 => .pointer (some ⟨xd, 1, none⟩)
  | 21 => .int .i64 y
  | 22 => .int .i64 a
  | 23 => .pointer (some ⟨gd, 1, none⟩)
  | 24 => .int .i64 a
  | 25 => .bool true
  | 26 => .bool true
  | 27 => .bool true
  | 28 => .slice (some ⟨b, 0, none⟩) n cap
  | 29 => .pointer (some ⟨xd, 2, none⟩)
  | 30 => .int .i64 z
  | 31 => .int .i64 s
  | 32 => .pointer (some ⟨gd, 2, none⟩)
  | 33 => .int .i64 s
  | 34 => .bool true
  | 35 => .bool true
  | 36 => .bool true
  | 37 => .pointer (some ⟨xd, 0, none⟩)
  | 38 => .int .i64 x
  | 39 => .pointer (some ⟨xd, 1, none⟩)
  | 40 => .int .i64 y
  | 41 => .bool (r == a)
  | 42 => .pointer (some ⟨gd, 0, none⟩)
  | 43 => .int .i64 r
  | 44 => .pointer (some ⟨gd, 1, none⟩)
  | 45 => .int .i64 a
  | 46 => .bool (r == a)
  | 47 => .bool true
  | 48 => .bool true
  | _ => .bool true

def GotRC (w : World) (e : Ending) (w' : World) : Prop :=
  ∃ (b cap : Nat) (l : List Rng) (r a s g : Int), e = .returned (.tuple #[.slice (some ⟨b, 0, none⟩) l.length cap, .agg #[.int .i64 r, .int .i64 a, .int .i64 s, .int .i64 g]]) ∧ RR w' b 0 l ∧ l.length ≤ 5 ∧ l.length ≤ cap ∧ cap ≤ maxLen ∧ Below w.heap.size w w'
theorem RR.aside {w w' : World} {b off r : Nat} {l : List Rng} (h : RR w b off l) (ha : Aside r w w') (hb : b ≠ r) : RR w' b off l := by
  refine ⟨Nat.lt_of_lt_of_le h.1 ha.1.size, fun k t ht => ?_⟩
  obtain ⟨c0, c1, c2⟩ := h.2 k t ht
  exact ⟨(ha.cell h.1 hb _).trans c0, (ha.cell h.1 hb _).trans c1, (ha.cell h.1 hb _).trans c2⟩
theorem RR.keep {w w' : World} {b off : Nat} {l : List Rng} (h : RR w b off l) (hs : w.heap.size ≤ w'.heap.size) (hb : w'.heap[b]? = w.heap[b]?) : RR w' b off l := by
  refine ⟨Nat.lt_of_lt_of_le h.1 hs, fun k t ht => ?_⟩
  have := h.2 k t ht
  simp only [World.cell?] at this ⊢
  rw [hb]; exact this
theorem RR.far {w : World} {b off : Nat} {l : List Rng} (h : RR w b off l) {p : Addr} (hp : b ≠ p.block) (v : Value) : RR (w.setCell p v) b off l :=
  h.keep (by simp) (Below.heap_setCell w p v b hp)
theorem RR.far4 {w : World} {b off g : Nat} {l : List Rng} (h : RR w b off l) (hg : b ≠ g) {x y z u : Value} :
    RR ((((w.setCell ⟨g, 0, none⟩ x).setCell ⟨g, 1, none⟩ y).setCell ⟨g, 2, none⟩ z).setCell ⟨g, 3, none⟩ u) b off l :=
  (((h.far (p := ⟨g, 0, none⟩) hg x).far (p := ⟨g, 1, none⟩) hg y).far (p := ⟨g, 2, none⟩) hg z).far (p := ⟨g, 3, none⟩) hg u
theorem RR.alloc {w : World} {b off : Nat} {l : List Rng} (h : RR w b off l) (o : Obj) : RR (w.alloc o) b off l := h.below (below_alloc0 (Below.refl _ _) o)
theorem RR.drew {w : World} {b off : Nat} {l : List Rng} (h : RR w b off l) : RR w.drew b off l := h
set_option maxHeartbeats 2000000 in
theorem gCredOutside_c (A : Option Addr) (n c : Nat) (w : World) (h : InB w A n c) : Calls Try.prog 28 #[.slice A n c] w (GotRC w) := by
  have H := hide h
  clear h
  go_enter Try.func28, Try.ntmps28
  go_wp2_with fail
  refine (open_c A n c _ (H.out.below (below_alloc0 (Below.refl _ _) _))).mono ?_
  rintro e w1 ⟨r, rfl, hr, hrd, hb1⟩
  have hr0 : w.heap.size + 1 ≤ r := by simpa using hr
  have hs1 : w.heap.size + 1 ≤ w1.heap.size := by simpa using hb1.size
  have Z1 := (Row.madeN w 41 #[.int .i64 0, .int .i64 0, .int .i64 0, .int .i64 0] 4 rfl).below hb1 (by simp)
  have B1 : Below w.heap.size w w1 := (by repeat' (first | exact Below.refl _ _ | assumption | exact And.left (by assumption) | omega | (simp; done) | (simp; omega) | (simp at *; omega) | (refine Below.setCell ?_ ?_ _) | (refine below_alloc0 ?_ _) | (refine Below.drew ?_) | (refine below_drewN ?_ _) | (refine below_via0 ?_ (by assumption)) | (refine Below.alloc ?_ ?_ _) | (refine below_via ?_ (by assumption) ?_)))
  go_wp2_with fail
  refine (drawR_c w1.heap.size r 0 12 _ (by omega) (by omega) (by omega) hrd).mono ?_
  rintro e w2 ⟨b, cap, l, rfl, hg, hR, h6, hc1, hc2, hs, ha⟩
  have hz := hs.size
  have Z2 := ha.row (by omega) Z1
  go_wp2_with fail
  refine (drawCred_c w1.heap.size r _ 12 _ (by omega) (by omega) ?_ hs.1).mono ?_
  · omega
  rintro e w3 ⟨x, a, s, g, rfl, hs3, ha3⟩
  have hz3 := hs3.size
  have Z3 := ha3.row (by omega) Z2
  have hR3 := hR.aside ha3 (by omega)
  have hs3' : St w1 w1.heap.size r 100 w3 := ⟨hs3.1.mono (Nat.le_refl _) (by omega) (by omega), ha.trans ha3, Nat.le_refl _⟩
  have B3 : Below w.heap.size w w3 := hs3'.2.1.below B1 (by omega) (by omega)
  have l12 : w.heap.size < w1.heap.size := by omega
  have l13 : w.heap.size < w3.heap.size := by omega
  have hbw : b ≠ w.heap.size := by omega
  have hbw3 : b ≠ w3.heap.size := by have := hR3.1; omega
  clear hs hs3 ha ha3
  by_cases hl0 : l.length = 0
  · obtain rfl : l = [] := List.eq_nil_of_length_eq_zero hl0
    have hd : decide ((0 : Int) < ((([] : List Rng).length : Nat) : Int)) = false := by simp
    obtain ⟨c0, g0⟩ := Z3.some_ex (j := 0) (by omega)
    have z0 := Z3.frozen 0
    obtain ⟨c1, g1⟩ := Z3.some_ex (j := 1) (by omega)
    have z1 := Z3.frozen 1
    obtain ⟨c2, g2⟩ := Z3.some_ex (j := 2) (by omega)
    have z2 := Z3.frozen 2
    obtain ⟨c3, g3⟩ := Z3.some_ex (j := 3) (by omega)
    have z3 := Z3.frozen 3
    have e0 : w.heap.size < w3.heap.size := l13
    clear Z1 Z2
    go_wp2_with fail
    go_region
    all_goals
      go_wp2_with fail
      exact bodyPost_ret (v := .tuple #[.slice (some ⟨b, 0, none⟩) 0 cap, .agg #[.int .i64 x, .int .i64 a, .int .i64 s, .int .i64 g]]) (by simp [results, Try.results28, go_sem, *]) rfl ⟨b, cap, [], x, a, s, g, rfl, ((hR3.far4 hbw).alloc _).drew, h6, hc1, hc2, (below_alloc0 (below_set4 B3 (Nat.le_refl _)) _).drew⟩
  · have hl1 : (0 : Int) < (l.length : Nat) := by omega
    have hd : decide ((0 : Int) < (l.length : Nat)) = true := by simp; omega
    go_wp2_with fail
    refine (pick_s w1 w1.heap.size r _ 2 _ (by omega) (by omega) (by omega) (hs3'.alloc _)).mono ?_
    rintro e w4 ⟨y, rfl, y0, y1, hs4, ha4⟩
    have hz4 := hs4.size
    have Z4 := ha4.row (by omega) (Z3.alloc (.cells #[.int .i64 x, .int .i64 a, .int .i64 s, .int .i64 g] 41))
    have X4 := ha4.row (by omega) (Row.madeL w3 41 [.int .i64 x, .int .i64 a, .int .i64 s, .int .i64 g])
    have hR4 := (hR3.below (below_alloc0 (Below.refl _ _) (.cells #[.int .i64 x, .int .i64 a, .int .i64 s, .int .i64 g] 41))).aside ha4 (by omega)
    have B4 : Below w.heap.size w w4 := hs4.2.1.below B1 (by omega) (by omega)
    obtain rfl | rfl : y = 1 ∨ y = 0 := by omega
    · have e0 := Z4.lt
      have e1 := X4.lt
      obtain ⟨c0, g0⟩ := Z4.some_ex (j := 0) (by omega)
      have z0 := Z4.frozen 0
      obtain ⟨c1, g1⟩ := Z4.some_ex (j := 1) (by omega)
      have z1 := Z4.frozen 1
      obtain ⟨c2, g2⟩ := Z4.some_ex (j := 2) (by omega)
      have z2 := Z4.frozen 2
      obtain ⟨c3, g3⟩ := Z4.some_ex (j := 3) (by omega)
      have z3 := Z4.frozen 3
      have y0 := X4.cell (j := 0) rfl
      have y1 := X4.cell (j := 1) rfl
      have y2 := X4.cell (j := 2) rfl
      have y3 := X4.cell (j := 3) rfl
      clear Z1 Z2 Z3
      go_wp2_with fail
      go_region
      all_goals
        go_wp2_with fail
        exact bodyPost_ret (v := .tuple #[.slice (some ⟨b, 0, none⟩) l.length cap, .agg #[.int .i64 x, .int .i64 a, .int .i64 s, .int .i64 g]]) (by simp [results, Try.results28, go_sem, *]) rfl ⟨b, cap, l, x, a, s, g, rfl, (hR4.far4 hbw).drew, h6, hc1, hc2, (below_set4 B4 (Nat.le_refl _)).drew⟩
    · go_wp2_with fail
      refine (pick_s w1 w1.heap.size r _ _ _ (by omega) (by omega) (by omega) hs4).mono ?_
      rintro e w5 ⟨q, rfl, q0, q1, hs5, ha5⟩
      have hz5 := hs5.size
      have Z5 := ha5.row (by omega) Z4
      have X5 := (ha5.row (by omega) X4).none
      have hR5 := hR4.aside ha5 (by omega)
      have B5 : Below w.heap.size w w5 := hs5.2.1.below B1 (by omega) (by omega)
      obtain ⟨q, rfl⟩ := Int.eq_ofNat_of_zero_le q0
      obtain ⟨t, ht⟩ : ∃ t, l[q]? = some t := ⟨_, List.getElem?_eq_getElem (by omega)⟩
      obtain ⟨t0, ht0⟩ : ∃ t, l[0]? = some t := ⟨_, List.getElem?_eq_getElem (by omega)⟩
      have ct := (hR5.2 q t ht).1
      have ct0 := (hR5.2 0 t0 ht0).1
      simp only [Nat.zero_add, Nat.zero_mul] at ct ct0
      clear ht ht0
      have e0 := Z5.lt
      have e1 := X5.lt
      obtain ⟨c0, g0⟩ := Z5.some_ex (j := 0) (by omega)
      have z0 := Z5.frozen 0
      obtain ⟨c1, g1⟩ := Z5.some_ex (j := 1) (by omega)
      have z1 := Z5.frozen 1
      obtain ⟨c2, g2⟩ := Z5.some_ex (j := 2) (by omega)
      have z2 := Z5.frozen 2
      obtain ⟨c3, g3⟩ := Z5.some_ex (j := 3) (by omega)
      have z3 := Z5.frozen 3
      obtain ⟨d0, y0⟩ := X5.some_ex (j := 0) (by simp)
      have v0 := X5.frozen 0
      obtain ⟨d1, y1⟩ := X5.some_ex (j := 1) (by simp)
      have v1 := X5.frozen 1
      obtain ⟨d2, y2⟩ := X5.some_ex (j := 2) (by simp)
      have v2 := X5.frozen 2
      obtain ⟨d3, y3⟩ := X5.some_ex (j := 3) (by simp)
      have v3 := X5.frozen 3
      clear Z1 Z2 Z3 Z4 X4
      go_wp2_with fail
      go_region
      all_goals
        go_wp2_with fail
        exact bodyPost_ret (v := .tuple #[.slice (some ⟨b, 0, none⟩) l.length cap, .agg #[.int .i64 t.i, .int .i64 t0.i, .int .i64 t.i, .int .i64 3]]) (by simp [results, Try.results28, go_sem, *]) rfl ⟨b, cap, l, _, _, _, _, rfl, ((hR5.far4 hbw3).far4 hbw).drew, h6, hc1, hc2, (below_set4 (below_set4 B5 (Nat.le_of_lt l13)) (Nat.le_refl _)).drew⟩

theorem uOut_inj {l : List Rng} {u v : Int} (hu : 0 ≤ uOut l u) (hv : 0 ≤ uOut l v) : (uOut l u == uOut l v) = (u == v) := by
  have h1 := (uOut_back (l := l) (u := u) (by omega)).1
  have h2 := (uOut_back (l := l) (u := v) (by omega)).1
  rw [Bool.eq_iff_iff]
  simp only [beq_iff_eq]
  constructor
  · intro h; rw [h] at h1; omega
  · intro h; rw [h]
set_option maxRecDepth 100000 in
set_option maxHeartbeats 4000000 in
theorem fnCredOutside_walk {w : World} (A : Option Addr) (n c : Nat) (h : InB w A n c) :
    Calls Try.prog 10 #[.slice A n c] w fun e w' => e = .returned (.bool true) ∧ Below w.heap.size w w' := by
  have hm := h.2.1
  unfold maxLen at hm
  have hc := h.1
  have H := hide h
  clear h
  by_cases h20 : 1048576 < n
  · go_enter Try.func10, Try.ntmps10
    go_wp2_with fail
    go_ret
    exact ⟨rfl, Below.refl _ _⟩
  · go_enter Try.func10, Try.ntmps10
    go_wp2_with fail
    refine (gCredOutside_c A n c _ H.out).mono ?_
    rintro e w1 ⟨b, cap, l, r, a, s, g, rfl, hR, h6, hc1, hc2, hb1⟩
    have PS := hide (coSpec_c b 0 l.length cap l r a s g rfl (by omega))
    go_wp2_with fail
    refine (coImpl_c b 0 l.length cap l r a s g rfl (by omega) hc1 _ (hR.below (below_alloc0 (Below.refl _ _) _))).mono ?_
    cases hok : coOk l r a s g with
    | true =>
      have hv : credB r a s g = true ∧ credB (uOut l r) (uOut l a) (uOut l s) g = true := by simpa [coOk] using hok
      have HCV := hide (credImpl_c (uOut l r) (uOut l a) (uOut l s) g)
      rw [hv.2] at HCV
      have hb := hv.2
      simp only [credB, Bool.and_eq_true, inB_iff] at hb
      have HIR := hide (inImpl_c b 0 l.length cap l (uOut l r) rfl (by omega) hc1)
      have HIA := hide (inImpl_c b 0 l.length cap l (uOut l a) rfl (by omega) hc1)
      have HIS := hide (inImpl_c b 0 l.length cap l (uOut l s) rfl (by omega) hc1)
      rw [(uOut_back (l := l) (u := r) (by omega)).1] at HIR
      rw [(uOut_back (l := l) (u := a) (by omega)).1] at HIA
      rw [(uOut_back (l := l) (u := s) (by omega)).1] at HIS
      have HE := hide (uOut_inj (l := l) (u := r) (v := a) (by omega) (by omega))
      simp only [coF, hok, if_true] at PS ⊢
      clear hok hv hb
      generalize uOut l r = x at *
      generalize uOut l a = y at *
      generalize uOut l s = z at *
      rintro e w2 ⟨rfl, hb2⟩
      have L2 := live hb2 w1.heap.size (by first | omega | (simp; done) | (simp; omega))
      have B2 : Below w.heap.size w w2 := (by repeat' (first | exact Below.refl _ _ | assumption | exact And.left (by assumption) | omega | (simp; done) | (simp; omega) | (simp at *; omega) | (refine Below.setCell ?_ ?_ _) | (refine below_alloc0 ?_ _) | (refine Below.drew ?_) | (refine below_drewN ?_ _) | (refine below_via0 ?_ (by assumption)) | (refine Below.alloc ?_ ?_ _) | (refine below_via ?_ (by assumption) ?_)))
      have hR2 : RR w2 b 0 l := hR.below (below_via0 (below_alloc0 (Below.refl _ _) _) hb2)
      go_wp2_with fail
      refine (PS.out _ (hR2.below (below_alloc0 (Below.refl _ _) _))).mono ?_
      rintro e w3 ⟨rfl, hb3⟩
      have L3 := live hb3 w1.heap.size (by first | omega | (simp; done) | (simp; omega))
      have M3 := live hb3 w2.heap.size (by first | omega | (simp; done) | (simp; omega))
      have B3 : Below w.heap.size w w3 := (by repeat' (first | exact Below.refl _ _ | assumption | exact And.left (by assumption) | omega | (simp; done) | (simp; omega) | (simp at *; omega) | (refine Below.setCell ?_ ?_ _) | (refine below_alloc0 ?_ _) | (refine Below.drew ?_) | (refine below_drewN ?_ _) | (refine below_via0 ?_ (by assumption)) | (refine Below.alloc ?_ ?_ _) | (refine below_via ?_ (by assumption) ?_)))
      have hR3 : RR w3 b 0 l := hR2.below (below_via0 (below_alloc0 (Below.refl _ _) _) hb3)
      go_wp2_with fail
      have gg' : w1.heap.size < w3.heap.size := L3.1
      have gx' : w2.heap.size < w3.heap.size := M3.1
      have cc0' : w3.cell? ⟨w1.heap.size, 0, none⟩ = some (.int .i64 r) := by simp [go_sem, L3, L2]
      have cc1' : w3.cell? ⟨w1.heap.size, 1, none⟩ = some (.int .i64 a) := by simp [go_sem, L3, L2]
      have cc2' : w3.cell? ⟨w1.heap.size, 2, none⟩ = some (.int .i64 s) := by simp [go_sem, L3, L2]
      have cc3' : w3.cell? ⟨w1.heap.size, 3, none⟩ = some (.int .i64 g) := by simp [go_sem, L3, L2]
      have cx0' : w3.cell? ⟨w2.heap.size, 0, none⟩ = some (.int .i64 x) := by simp [go_sem, M3]
      have cx1' : w3.cell? ⟨w2.heap.size, 1, none⟩ = some (.int .i64 y) := by simp [go_sem, M3]
      have cx2' : w3.cell? ⟨w2.heap.size, 2, none⟩ = some (.int .i64 z) := by simp [go_sem, M3]
      have cx3' : w3.cell? ⟨w2.heap.size, 3, none⟩ = some (.int .i64 g) := by simp [go_sem, M3]
      generalize hw4 : w3.alloc (.cells #[.int .i64 x, .int .i64 y, .int .i64 z, .int .i64 g] 41) = w4
      have b34 : Below w3.heap.size w3 w4 := by rw [← hw4]; exact below_alloc0 (Below.refl _ _) _
      clear hw4
      have B4 : Below w.heap.size w w4 := below_via0 B3 b34
      have hR4 := hR3.below b34
      have gg : w1.heap.size < w4.heap.size := by have := b34.size; omega
      have gx : w2.heap.size < w4.heap.size := by have := b34.size; omega
      have cc0 := (b34.cell (p := ⟨w1.heap.size, 0, none⟩) gg').trans cc0'
      have cx0 := (b34.cell (p := ⟨w2.heap.size, 0, none⟩) gx').trans cx0'
      have cc1 := (b34.cell (p := ⟨w1.heap.size, 1, none⟩) gg').trans cc1'
      have cx1 := (b34.cell (p := ⟨w2.heap.size, 1, none⟩) gx').trans cx1'
      have cc2 := (b34.cell (p := ⟨w1.heap.size, 2, none⟩) gg').trans cc2'
      have cx2 := (b34.cell (p := ⟨w2.heap.size, 2, none⟩) gx').trans cx2'
      have cc3 := (b34.cell (p := ⟨w1.heap.size, 3, none⟩) gg').trans cc3'
      have cx3 := (b34.cell (p := ⟨w2.heap.size, 3, none⟩) gx').trans cx3'
      clear cc0' cc1' cc2' cc3' cx0' cx1' cx2' cx3' L2 L3 M3
      obtain ⟨gd, hgd⟩ : ∃ gd, gd = w1.heap.size := ⟨_, rfl⟩
      obtain ⟨xd, hxd⟩ : ∃ xd, xd = w2.heap.size := ⟨_, rfl⟩
      rw [← hgd] at cc0 cc1 cc2 cc3 gg ⊢
      rw [← hxd] at cx0 cx1 cx2 cx3 gx ⊢
      clear hgd hxd
      refine wp_flowX (os := [_, _, _, _, _, _, _, _, _, _, _, _, _, _, _, _, _, _, _, _, _, _, _, _, _, _, _, _, _, _, _, _, _, _, _, _, _, _, _, _, _, _, _, _, _, _, _, _, _, _]) (fun cc W => Below w4.heap.size w4 W) (fun _ _ _ => True) (fun i v _ _ => v = coV b l.length cap r a s g x y z gd xd i) 50 rfl ?_ ?_ ?_ ?_ ?_ ?_ ?_
      · kernel_rfl
      · kernel_rfl
      · kernel_rfl
      · exact (fun i j v vs w1 w2 _ _ h _ => h)
      · exact (Below.refl _ _).drew
      ·
        refine FlowStepsX.stepY 94 50 1 rfl rfl (by kernel_rfl) (by kernel_rfl) (by kernel_rfl) rfl rfl ?_ ?_
        ·
          intro cc act vs W hcc ha hvs hS hd hi K hK
          clear ha
          have u5 : act.tmps[5]? = some (.pointer (some ⟨xd, 0, none⟩)) := (hi.out 5 (by kernel_rfl)).trans rfl
          clear hd hi
          clear hvs
          refine wanted_un rfl ?_
          have e0 := (hS.cell (p := ⟨xd, 0, none⟩) gx).trans cx0
          have e1 := (hS.cell (p := ⟨xd, 1, none⟩) gx).trans cx1
          have e2 := (hS.cell (p := ⟨xd, 2, none⟩) gx).trans cx2
          have e3 := (hS.cell (p := ⟨xd, 3, none⟩) gx).trans cx3
          go_simp
          exact hK.out _ _ rfl hS trivial
        refine FlowStepsX.stepY 94 50 2 rfl rfl (by kernel_rfl) (by kernel_rfl) (by kernel_rfl) rfl rfl ?_ ?_
        ·
          intro cc act vs W hcc ha hvs hS hd hi K hK
          clear ha
          have u45 : act.tmps[45]? = some (.agg #[.int .i64 x, .int .i64 y, .int .i64 z, .int .i64 g]) := by obtain ⟨_, u, _, h⟩ := hd.out ⟨0, .data⟩ (some 45) (by simp) rfl rfl; exact u.trans (congrArg some h)
          clear hd hi
          clear hvs
          refine wanted_un rfl ?_
          go_wp2_with fail
          refine (HCV.out _).mono ?_
          rintro e w6 ⟨rfl, hb6⟩
          exact hK.out _ w6 rfl (hS.trans (hb6.mono hS.size)) trivial
        refine FlowStepsX.stepY 94 50 3 rfl rfl (by kernel_rfl) (by kernel_rfl) (by kernel_rfl) rfl rfl ?_ ?_
        ·
          intro cc act vs W hcc ha hvs hS hd hi K hK
          clear ha
          have u46 : act.tmps[46]? = some (.bool true) := by obtain ⟨_, u, _, h⟩ := hd.out ⟨1, .data⟩ (some 46) (by simp) rfl rfl; exact u.trans (congrArg some h)
          clear hd hi
          clear hvs
          refine wanted_un rfl ?_
          go_simp
          exact hK.out _ _ rfl hS trivial
        refine FlowStepsX.stepY 94 50 4 rfl rfl (by kernel_rfl) (by kernel_rfl) (by kernel_rfl) rfl rfl ?_ ?_
        ·
          intro cc act vs W hcc ha hvs hS hd hi K hK
          clear ha
          have u47 : act.tmps[47]? = some (.bool true) := by obtain ⟨_, u, _, h⟩ := hd.out ⟨2, .guard⟩ (some 47) (by simp) rfl rfl; exact u.trans (congrArg some h)
          have u5 : act.tmps[5]? = some (.pointer (some ⟨xd, 0, none⟩)) := (hi.out 5 (by kernel_rfl)).trans rfl
          clear hd hi
          clear hvs
          refine wanted_yes rfl rfl u47 ?_
          go_simp
          exact hK.out _ _ rfl hS trivial
        refine FlowStepsX.stepY 94 50 5 rfl rfl (by kernel_rfl) (by kernel_rfl) (by kernel_rfl) rfl rfl ?_ ?_
        ·
          intro cc act vs W hcc ha hvs hS hd hi K hK
          clear ha
          have u48 : act.tmps[48]? = some (.pointer (some ⟨xd, 3, none⟩)) := by obtain ⟨_, u, _, h⟩ := hd.out ⟨3, .data⟩ (some 48) (by simp) rfl rfl; exact u.trans (congrArg some h)
          have u47 : act.tmps[47]? = some (.bool true) := by obtain ⟨_, u, _, h⟩ := hd.out ⟨2, .guard⟩ (some 47) (by simp) rfl rfl; exact u.trans (congrArg some h)
          clear hd hi
          clear hvs
          refine wanted_yes rfl rfl u47 ?_
          have e3 := (hS.cell (p := ⟨xd, 3, none⟩) gx).trans cx3
          go_simp
          exact hK.out _ _ rfl hS trivial
        refine FlowStepsX.stepY 94 50 6 rfl rfl (by kernel_rfl) (by kernel_rfl) (by kernel_rfl) rfl rfl ?_ ?_
        ·
          intro cc act vs W hcc ha hvs hS hd hi K hK
          clear ha
          have u47 : act.tmps[47]? = some (.bool true) := by obtain ⟨_, u, _, h⟩ := hd.out ⟨2, .guard⟩ (some 47) (by simp) rfl rfl; exact u.trans (congrArg some h)
          have u4 : act.tmps[4]? = some (.pointer (some ⟨gd, 0, none⟩)) := (hi.out 4 (by kernel_rfl)).trans rfl
          clear hd hi
          clear hvs
          refine wanted_yes rfl rfl u47 ?_
          go_simp
          exact hK.out _ _ rfl hS trivial
        refine FlowStepsX.stepY 94 50 7 rfl rfl (by kernel_rfl) (by kernel_rfl) (by kernel_rfl) rfl rfl ?_ ?_
        ·
          intro cc act vs W hcc ha hvs hS hd hi K hK
          clear ha
          have u50 : act.tmps[50]? = some (.pointer (some ⟨gd, 3, none⟩)) := by obtain ⟨_, u, _, h⟩ := hd.out ⟨5, .data⟩ (some 50) (by simp) rfl rfl; exact u.trans (congrArg some h)
          have u47 : act.tmps[47]? = some (.bool true) := by obtain ⟨_, u, _, h⟩ := hd.out ⟨2, .guard⟩ (some 47) (by simp) rfl rfl; exact u.trans (congrArg some h)
          clear hd hi
          clear hvs
          refine wanted_yes rfl rfl u47 ?_
          have e3 := (hS.cell (p := ⟨gd, 3, none⟩) gg).trans cc3
          go_simp
          exact hK.out _ _ rfl hS trivial
        refine FlowStepsX.stepY 94 50 8 rfl rfl (by kernel_rfl) (by kernel_rfl) (by kernel_rfl) rfl rfl ?_ ?_
        ·
          intro cc act vs W hcc ha hvs hS hd hi K hK
          clear ha
          have u49 : act.tmps[49]? = some (.int .i64 g) := by obtain ⟨_, u, _, h⟩ := hd.out ⟨4, .data⟩ (some 49) (by simp) rfl rfl; exact u.trans (congrArg some h)
          have u51 : act.tmps[51]? = some (.int .i64 g) := by obtain ⟨_, u, _, h⟩ := hd.out ⟨6, .data⟩ (some 51) (by simp) rfl rfl; exact u.trans (congrArg some h)
          have u47 : act.tmps[47]? = some (.bool true) := by obtain ⟨_, u, _, h⟩ := hd.out ⟨2, .guard⟩ (some 47) (by simp) rfl rfl; exact u.trans (congrArg some h)
          clear hd hi
          clear hvs
          refine wanted_yes rfl rfl u47 ?_
          go_simp
          exact hK.out _ _ rfl hS trivial
        refine FlowStepsX.stepY 94 50 9 rfl rfl (by kernel_rfl) (by kernel_rfl) (by kernel_rfl) rfl rfl ?_ ?_
        ·
          intro cc act vs W hcc ha hvs hS hd hi K hK
          clear ha
          have u47 : act.tmps[47]? = some (.bool true) := by obtain ⟨_, u, _, h⟩ := hd.out ⟨2, .data⟩ (some 47) (by simp) rfl rfl; exact u.trans (congrArg some h)
          have u52 : act.tmps[52]? = some (.bool true) := by obtain ⟨_, u, _, h⟩ := hd.out ⟨7, .data⟩ (some 52) (by simp) rfl rfl; exact u.trans (congrArg some h)
          clear hd hi
          clear hvs
          refine wanted_un rfl ?_
          go_simp
          exact hK.out _ _ rfl hS trivial
        refine FlowStepsX.stepY 94 50 10 rfl rfl (by kernel_rfl) (by kernel_rfl) (by kernel_rfl) rfl rfl ?_ ?_
        ·
          intro cc act vs W hcc ha hvs hS hd hi K hK
          clear ha
          have u53 : act.tmps[53]? = some (.bool true) := by obtain ⟨_, u, _, h⟩ := hd.out ⟨8, .data⟩ (some 53) (by simp) rfl rfl; exact u.trans (congrArg some h)
          clear hd hi
          clear hvs
          refine wanted_un rfl ?_
          go_simp
          exact hK.out _ _ rfl hS trivial
        refine FlowStepsX.stepY 94 50 11 rfl rfl (by kernel_rfl) (by kernel_rfl) (by kernel_rfl) rfl rfl ?_ ?_
        ·
          intro cc act vs W hcc ha hvs hS hd hi K hK
          clear ha
          have u54 : act.tmps[54]? = some (.bool true) := by obtain ⟨_, u, _, h⟩ := hd.out ⟨9, .guard⟩ (some 54) (by simp) rfl rfl; exact u.trans (congrArg some h)
          have u3 : act.tmps[3]? = some (.slice (some ⟨b, 0, none⟩) l.length cap) := (hi.out 3 (by kernel_rfl)).trans rfl
          clear hd hi
          clear hvs
          refine wanted_yes rfl rfl u54 ?_
          go_simp
          exact hK.out _ _ rfl hS trivial
        refine FlowStepsX.stepY 94 50 12 rfl rfl (by kernel_rfl) (by kernel_rfl) (by kernel_rfl) rfl rfl ?_ ?_
        ·
          intro cc act vs W hcc ha hvs hS hd hi K hK
          clear ha
          have u54 : act.tmps[54]? = some (.bool true) := by obtain ⟨_, u, _, h⟩ := hd.out ⟨9, .guard⟩ (some 54) (by simp) rfl rfl; exact u.trans (congrArg some h)
          have u5 : act.tmps[5]? = some (.pointer (some ⟨xd, 0, none⟩)) := (hi.out 5 (by kernel_rfl)).trans rfl
          clear hd hi
          clear hvs
          refine wanted_yes rfl rfl u54 ?_
          go_simp
          exact hK.out _ _ rfl hS trivial
        refine FlowStepsX.stepY 94 50 13 rfl rfl (by kernel_rfl) (by kernel_rfl) (by kernel_rfl) rfl rfl ?_ ?_
        ·
          intro cc act vs W hcc ha hvs hS hd hi K hK
          clear ha
          have u56 : act.tmps[56]? = some (.pointer (some ⟨xd, 0, none⟩)) := by obtain ⟨_, u, _, h⟩ := hd.out ⟨11, .data⟩ (some 56) (by simp) rfl rfl; exact u.trans (congrArg some h)
          have u54 : act.tmps[54]? = some (.bool true) := by obtain ⟨_, u, _, h⟩ := hd.out ⟨9, .guard⟩ (some 54) (by simp) rfl rfl; exact u.trans (congrArg some h)
          clear hd hi
          clear hvs
          refine wanted_yes rfl rfl u54 ?_
          have e0 := (hS.cell (p := ⟨xd, 0, none⟩) gx).trans cx0
          go_simp
          exact hK.out _ _ rfl hS trivial
        refine FlowStepsX.stepY 94 50 14 rfl rfl (by kernel_rfl) (by kernel_rfl) (by kernel_rfl) rfl rfl ?_ ?_
        ·
          intro cc act vs W hcc ha hvs hS hd hi K hK
          clear ha
          have u55 : act.tmps[55]? = some (.slice (some ⟨b, 0, none⟩) l.length cap) := by obtain ⟨_, u, _, h⟩ := hd.out ⟨10, .data⟩ (some 55) (by simp) rfl rfl; exact u.trans (congrArg some h)
          have u57 : act.tmps[57]? = some (.int .i64 x) := by obtain ⟨_, u, _, h⟩ := hd.out ⟨12, .data⟩ (some 57) (by simp) rfl rfl; exact u.trans (congrArg some h)
          have u54 : act.tmps[54]? = some (.bool true) := by obtain ⟨_, u, _, h⟩ := hd.out ⟨9, .guard⟩ (some 54) (by simp) rfl rfl; exact u.trans (congrArg some h)
          clear hd hi
          clear hvs
          refine wanted_yes rfl rfl u54 ?_
          go_wp2_with fail
          refine (HIR.out _ (hR4.below hS)).mono ?_
          rintro e w6 ⟨rfl, hb6⟩
          exact hK.out _ w6 rfl (hS.trans (hb6.mono hS.size)) trivial
        refine FlowStepsX.stepY 94 50 15 rfl rfl (by kernel_rfl) (by kernel_rfl) (by kernel_rfl) rfl rfl ?_ ?_
        ·
          intro cc act vs W hcc ha hvs hS hd hi K hK
          clear ha
          have u54 : act.tmps[54]? = some (.bool true) := by obtain ⟨_, u, _, h⟩ := hd.out ⟨9, .guard⟩ (some 54) (by simp) rfl rfl; exact u.trans (congrArg some h)
          have u4 : act.tmps[4]? = some (.pointer (some ⟨gd, 0, none⟩)) := (hi.out 4 (by kernel_rfl)).trans rfl
          clear hd hi
          clear hvs
          refine wanted_yes rfl rfl u54 ?_
          go_simp
          exact hK.out _ _ rfl hS trivial
        refine FlowStepsX.stepY 94 50 16 rfl rfl (by kernel_rfl) (by kernel_rfl) (by kernel_rfl) rfl rfl ?_ ?_
        ·
          intro cc act vs W hcc ha hvs hS hd hi K hK
          clear ha
          have u59 : act.tmps[59]? = some (.pointer (some ⟨gd, 0, none⟩)) := by obtain ⟨_, u, _, h⟩ := hd.out ⟨14, .data⟩ (some 59) (by simp) rfl rfl; exact u.trans (congrArg some h)
          have u54 : act.tmps[54]? = some (.bool true) := by obtain ⟨_, u, _, h⟩ := hd.out ⟨9, .guard⟩ (some 54) (by simp) rfl rfl; exact u.trans (congrArg some h)
          clear hd hi
          clear hvs
          refine wanted_yes rfl rfl u54 ?_
          have e0 := (hS.cell (p := ⟨gd, 0, none⟩) gg).trans cc0
          go_simp
          exact hK.out _ _ rfl hS trivial
        refine FlowStepsX.stepY 94 50 17 rfl rfl (by kernel_rfl) (by kernel_rfl) (by kernel_rfl) rfl rfl ?_ ?_
        ·
          intro cc act vs W hcc ha hvs hS hd hi K hK
          clear ha
          have u58 : act.tmps[58]? = some (.int .i64 r) := by obtain ⟨_, u, _, h⟩ := hd.out ⟨13, .data⟩ (some 58) (by simp) rfl rfl; exact u.trans (congrArg some h)
          have u60 : act.tmps[60]? = some (.int .i64 r) := by obtain ⟨_, u, _, h⟩ := hd.out ⟨15, .data⟩ (some 60) (by simp) rfl rfl; exact u.trans (congrArg some h)
          have u54 : act.tmps[54]? = some (.bool true) := by obtain ⟨_, u, _, h⟩ := hd.out ⟨9, .guard⟩ (some 54) (by simp) rfl rfl; exact u.trans (congrArg some h)
          clear hd hi
          clear hvs
          refine wanted_yes rfl rfl u54 ?_
          go_simp
          exact hK.out _ _ rfl hS trivial
        refine FlowStepsX.stepY 94 50 18 rfl rfl (by kernel_rfl) (by kernel_rfl) (by kernel_rfl) rfl rfl ?_ ?_
        ·
          intro cc act vs W hcc ha hvs hS hd hi K hK
          clear ha
          have u54 : act.tmps[54]? = some (.bool true) := by obtain ⟨_, u, _, h⟩ := hd.out ⟨9, .data⟩ (some 54) (by simp) rfl rfl; exact u.trans (congrArg some h)
          have u61 : act.tmps[61]? = some (.bool true) := by obtain ⟨_, u, _, h⟩ := hd.out ⟨16, .data⟩ (some 61) (by simp) rfl rfl; exact u.trans (congrArg some h)
          clear hd hi
          clear hvs
          refine wanted_un rfl ?_
          go_simp
          exact hK.out _ _ rfl hS trivial
        refine FlowStepsX.stepY 94 50 19 rfl rfl (by kernel_rfl) (by kernel_rfl) (by kernel_rfl) rfl rfl ?_ ?_
        ·
          intro cc act vs W hcc ha hvs hS hd hi K hK
          clear ha
          have u62 : act.tmps[62]? = some (.bool true) := by obtain ⟨_, u, _, h⟩ := hd.out ⟨17, .data⟩ (some 62) (by simp) rfl rfl; exact u.trans (congrArg some h)
          clear hd hi
          clear hvs
          refine wanted_un rfl ?_
          go_simp
          exact hK.out _ _ rfl hS trivial
        refine FlowStepsX.stepY 94 50 20 rfl rfl (by kernel_rfl) (by kernel_rfl) (by kernel_rfl) rfl rfl ?_ ?_
        ·
          intro cc act vs W hcc ha hvs hS hd hi K hK
          clear ha
          have u63 : act.tmps[63]? = some (.bool true) := by obtain ⟨_, u, _, h⟩ := hd.out ⟨18, .guard⟩ (some 63) (by simp) rfl rfl; exact u.trans (congrArg some h)
          have u3 : act.tmps[3]? = some (.slice (some ⟨b, 0, none⟩) l.length cap) := (hi.out 3 (by kernel_rfl)).trans rfl
          clear hd hi
          clear hvs
          refine wanted_yes rfl rfl u63 ?_
          go_simp
          exact hK.out _ _ rfl hS trivial
        refine FlowStepsX.stepY 94 50 21 rfl rfl (by kernel_rfl) (by kernel_rfl) (by kernel_rfl) rfl rfl ?_ ?_
        ·
          intro cc act vs W hcc ha hvs hS hd hi K hK
          clear ha
          have u63 : act.tmps[63]? = some (.bool true) := by obtain ⟨_, u, _, h⟩ := hd.out ⟨18, .guard⟩ (some 63) (by simp) rfl rfl; exact u.trans (congrArg some h)
          have u5 : act.tmps[5]? = some (.pointer (some ⟨xd, 0, none⟩)) := (hi.out 5 (by kernel_rfl)).trans rfl
          clear hd hi
          clear hvs
          refine wanted_yes rfl rfl u63 ?_
          go_simp
          exact hK.out _ _ rfl hS trivial
        refine FlowStepsX.stepY 94 50 22 rfl rfl (by kernel_rfl) (by kernel_rfl) (by kernel_rfl) rfl rfl ?_ ?_
        ·
          intro cc act vs W hcc ha hvs hS hd hi K hK
          clear ha
          have u65 : act.tmps[65]? = some (.pointer (some ⟨xd, 1, none⟩)) := by obtain ⟨_, u, _, h⟩ := hd.out ⟨20, .data⟩ (some 65) (by simp) rfl rfl; exact u.trans (congrArg some h)
          have u63 : act.tmps[63]? = some (.bool true) := by obtain ⟨_, u, _, h⟩ := hd.out ⟨18, .guard⟩ (some 63) (by simp) rfl rfl; exact u.trans (congrArg some h)
          clear hd hi
          clear hvs
          refine wanted_yes rfl rfl u63 ?_
          have e1 := (hS.cell (p := ⟨xd, 1, none⟩) gx).trans cx1
          go_simp
          exact hK.out _ _ rfl hS trivial
        refine FlowStepsX.stepY 94 50 23 rfl rfl (by kernel_rfl) (by kernel_rfl) (by kernel_rfl) rfl rfl ?_ ?_
        ·
          intro cc act vs W hcc ha hvs hS hd hi K hK
          clear ha
          have u64 : act.tmps[64]? = some (.slice (some ⟨b, 0, none⟩) l.length cap) := by obtain ⟨_, u, _, h⟩ := hd.out ⟨19, .data⟩ (some 64) (by simp) rfl rfl; exact u.trans (congrArg some h)
          have u66 : act.tmps[66]? = some (.int .i64 y) := by obtain ⟨_, u, _, h⟩ := hd.out ⟨21, .data⟩ (some 66) (by simp) rfl rfl; exact u.trans (congrArg some h)
          have u63 : act.tmps[63]? = some (.bool true) := by obtain ⟨_, u, _, h⟩ := hd.out ⟨18, .guard⟩ (some 63) (by simp) rfl rfl; exact u.trans (congrArg some h)
          clear hd hi
          clear hvs
          refine wanted_yes rfl rfl u63 ?_
          go_wp2_with fail
          refine (HIA.out _ (hR4.below hS)).mono ?_
          rintro e w6 ⟨rfl, hb6⟩
          exact hK.out _ w6 rfl (hS.trans (hb6.mono hS.size)) trivial
        refine FlowStepsX.stepY 94 50 24 rfl rfl (by kernel_rfl) (by kernel_rfl) (by kernel_rfl) rfl rfl ?_ ?_
        ·
          intro cc act vs W hcc ha hvs hS hd hi K hK
          clear ha
          have u63 : act.tmps[63]? = some (.bool true) := by obtain ⟨_, u, _, h⟩ := hd.out ⟨18, .guard⟩ (some 63) (by simp) rfl rfl; exact u.trans (congrArg some h)
          have u4 : act.tmps[4]? = some (.pointer (some ⟨gd, 0, none⟩)) := (hi.out 4 (by kernel_rfl)).trans rfl
          clear hd hi
          clear hvs
          refine wanted_yes rfl rfl u63 ?_
          go_simp
          exact hK.out _ _ rfl hS trivial
        refine FlowStepsX.stepY 94 50 25 rfl rfl (by kernel_rfl) (by kernel_rfl) (by kernel_rfl) rfl rfl ?_ ?_
        ·
          intro cc act vs W hcc ha hvs hS hd hi K hK
          clear ha
          have u68 : act.tmps[68]? = some (.pointer (some ⟨gd, 1, none⟩)) := by obtain ⟨_, u, _, h⟩ := hd.out ⟨23, .data⟩ (some 68) (by simp) rfl rfl; exact u.trans (congrArg some h)
          have u63 : act.tmps[63]? = some (.bool true) := by obtain ⟨_, u, _, h⟩ := hd.out ⟨18, .guard⟩ (some 63) (by simp) rfl rfl; exact u.trans (congrArg some h)
          clear hd hi
          clear hvs
          refine wanted_yes rfl rfl u63 ?_
          have e1 := (hS.cell (p := ⟨gd, 1, none⟩) gg).trans cc1
          go_simp
          exact hK.out _ _ rfl hS trivial
        refine FlowStepsX.stepY 94 50 26 rfl rfl (by kernel_rfl) (by kernel_rfl) (by kernel_rfl) rfl rfl ?_ ?_
        ·
          intro cc act vs W hcc ha hvs hS hd hi K hK
          clear ha
          have u67 : act.tmps[67]? = some (.int .i64 a) := by obtain ⟨_, u, _, h⟩ := hd.out ⟨22, .data⟩ (some 67) (by simp) rfl rfl; exact u.trans (congrArg some h)
          have u69 : act.tmps[69]? = some (.int .i64 a) := by obtain ⟨_, u, _, h⟩ := hd.out ⟨24, .data⟩ (some 69) (by simp) rfl rfl; exact u.trans (congrArg some h)
          have u63 : act.tmps[63]? = some (.bool true) := by obtain ⟨_, u, _, h⟩ := hd.out ⟨18, .guard⟩ (some 63) (by simp) rfl rfl; exact u.trans (congrArg some h)
          clear hd hi
          clear hvs
          refine wanted_yes rfl rfl u63 ?_
          go_simp
          exact hK.out _ _ rfl hS trivial
        refine FlowStepsX.stepY 94 50 27 rfl rfl (by kernel_rfl) (by kernel_rfl) (by kernel_rfl) rfl rfl ?_ ?_
        ·
          intro cc act vs W hcc ha hvs hS hd hi K hK
          clear ha
          have u63 : act.tmps[63]? = some (.bool true) := by obtain ⟨_, u, _, h⟩ := hd.out ⟨18, .data⟩ (some 63) (by simp) rfl rfl; exact u.trans (congrArg some h)
          have u70 : act.tmps[70]? = some (.bool true) := by obtain ⟨_, u, _, h⟩ := hd.out ⟨25, .data⟩ (some 70) (by simp) rfl rfl; exact u.trans (congrArg some h)
          clear hd hi
          clear hvs
          refine wanted_un rfl ?_
          go_simp
          exact hK.out _ _ rfl hS trivial
        refine FlowStepsX.stepY 94 50 28 rfl rfl (by kernel_rfl) (by kernel_rfl) (by kernel_rfl) rfl rfl ?_ ?_
        ·
          intro cc act vs W hcc ha hvs hS hd hi K hK
          clear ha
          have u71 : act.tmps[71]? = some (.bool true) := by obtain ⟨_, u, _, h⟩ := hd.out ⟨26, .data⟩ (some 71) (by simp) rfl rfl; exact u.trans (congrArg some h)
          clear hd hi
          clear hvs
          refine wanted_un rfl ?_
          go_simp
          exact hK.out _ _ rfl hS trivial
        refine FlowStepsX.stepY 94 50 29 rfl rfl (by kernel_rfl) (by kernel_rfl) (by kernel_rfl) rfl rfl ?_ ?_
        ·
          intro cc act vs W hcc ha hvs hS hd hi K hK
          clear ha
          have u72 : act.tmps[72]? = some (.bool true) := by obtain ⟨_, u, _, h⟩ := hd.out ⟨27, .guard⟩ (some 72) (by simp) rfl rfl; exact u.trans (congrArg some h)
          have u3 : act.tmps[3]? = some (.slice (some ⟨b, 0, none⟩) l.length cap) := (hi.out 3 (by kernel_rfl)).trans rfl
          clear hd hi
          clear hvs
          refine wanted_yes rfl rfl u72 ?_
          go_simp
          exact hK.out _ _ rfl hS trivial
        refine FlowStepsX.stepY 94 50 30 rfl rfl (by kernel_rfl) (by kernel_rfl) (by kernel_rfl) rfl rfl ?_ ?_
        ·
          intro cc act vs W hcc ha hvs hS hd hi K hK
          clear ha
          have u72 : act.tmps[72]? = some (.bool true) := by obtain ⟨_, u, _, h⟩ := hd.out ⟨27, .guard⟩ (some 72) (by simp) rfl rfl; exact u.trans (congrArg some h)
          have u5 : act.tmps[5]? = some (.pointer (some ⟨xd, 0, none⟩)) := (hi.out 5 (by kernel_rfl)).trans rfl
          clear hd hi
          clear hvs
          refine wanted_yes rfl rfl u72 ?_
          go_simp
          exact hK.out _ _ rfl hS trivial
        refine FlowStepsX.stepY 94 50 31 rfl rfl (by kernel_rfl) (by kernel_rfl) (by kernel_rfl) rfl rfl ?_ ?_
        ·
          intro cc act vs W hcc ha hvs hS hd hi K hK
          clear ha
          have u74 : act.tmps[74]? = some (.pointer (some ⟨xd, 2, none⟩)) := by obtain ⟨_, u, _, h⟩ := hd.out ⟨29, .data⟩ (some 74) (by simp) rfl rfl; exact u.trans (congrArg some h)
          have u72 : act.tmps[72]? = some (.bool true) := by obtain ⟨_, u, _, h⟩ := hd.out ⟨27, .guard⟩ (some 72) (by simp) rfl rfl; exact u.trans (congrArg some h)
          clear hd hi
          clear hvs
          refine wanted_yes rfl rfl u72 ?_
          have e2 := (hS.cell (p := ⟨xd, 2, none⟩) gx).trans cx2
          go_simp
          exact hK.out _ _ rfl hS trivial
        refine FlowStepsX.stepY 94 50 32 rfl rfl (by kernel_rfl) (by kernel_rfl) (by kernel_rfl) rfl rfl ?_ ?_
        ·
          intro cc act vs W hcc ha hvs hS hd hi K hK
          clear ha
          have u73 : act.tmps[73]? = some (.slice (some ⟨b, 0, none⟩) l.length cap) := by obtain ⟨_, u, _, h⟩ := hd.out ⟨28, .data⟩ (some 73) (by simp) rfl rfl; exact u.trans (congrArg some h)
          have u75 : act.tmps[75]? = some (.int .i64 z) := by obtain ⟨_, u, _, h⟩ := hd.out ⟨30, .data⟩ (some 75) (by simp) rfl rfl; exact u.trans (congrArg some h)
          have u72 : act.tmps[72]? = some (.bool true) := by obtain ⟨_, u, _, h⟩ := hd.out ⟨27, .guard⟩ (some 72) (by simp) rfl rfl; exact u.trans (congrArg some h)
          clear hd hi
          clear hvs
          refine wanted_yes rfl rfl u72 ?_
          go_wp2_with fail
          refine (HIS.out _ (hR4.below hS)).mono ?_
          rintro e w6 ⟨rfl, hb6⟩
          exact hK.out _ w6 rfl (hS.trans (hb6.mono hS.size)) trivial
        refine FlowStepsX.stepY 94 50 33 rfl rfl (by kernel_rfl) (by kernel_rfl) (by kernel_rfl) rfl rfl ?_ ?_
        ·
          intro cc act vs W hcc ha hvs hS hd hi K hK
          clear ha
          have u72 : act.tmps[72]? = some (.bool true) := by obtain ⟨_, u, _, h⟩ := hd.out ⟨27, .guard⟩ (some 72) (by simp) rfl rfl; exact u.trans (congrArg some h)
          have u4 : act.tmps[4]? = some (.pointer (some ⟨gd, 0, none⟩)) := (hi.out 4 (by kernel_rfl)).trans rfl
          clear hd hi
          clear hvs
          refine wanted_yes rfl rfl u72 ?_
          go_simp
          exact hK.out _ _ rfl hS trivial
        refine FlowStepsX.stepY 94 50 34 rfl rfl (by kernel_rfl) (by kernel_rfl) (by kernel_rfl) rfl rfl ?_ ?_
        ·
          intro cc act vs W hcc ha hvs hS hd hi K hK
          clear ha
          have u77 : act.tmps[77]? = some (.pointer (some ⟨gd, 2, none⟩)) := by obtain ⟨_, u, _, h⟩ := hd.out ⟨32, .data⟩ (some 77) (by simp) rfl rfl; exact u.trans (congrArg some h)
          have u72 : act.tmps[72]? = some (.bool true) := by obtain ⟨_, u, _, h⟩ := hd.out ⟨27, .guard⟩ (some 72) (by simp) rfl rfl; exact u.trans (congrArg some h)
          clear hd hi
          clear hvs
          refine wanted_yes rfl rfl u72 ?_
          have e2 := (hS.cell (p := ⟨gd, 2, none⟩) gg).trans cc2
          go_simp
          exact hK.out _ _ rfl hS trivial
        refine FlowStepsX.stepY 94 50 35 rfl rfl (by kernel_rfl) (by kernel_rfl) (by kernel_rfl) rfl rfl ?_ ?_
        ·
          intro cc act vs W hcc ha hvs hS hd hi K hK
          clear ha
          have u76 : act.tmps[76]? = some (.int .i64 s) := by obtain ⟨_, u, _, h⟩ := hd.out ⟨31, .data⟩ (some 76) (by simp) rfl rfl; exact u.trans (congrArg some h)
          have u78 : act.tmps[78]? = some (.int .i64 s) := by obtain ⟨_, u, _, h⟩ := hd.out ⟨33, .data⟩ (some 78) (by simp) rfl rfl; exact u.trans (congrArg some h)
          have u72 : act.tmps[72]? = some (.bool true) := by obtain ⟨_, u, _, h⟩ := hd.out ⟨27, .guard⟩ (some 72) (by simp) rfl rfl; exact u.trans (congrArg some h)
          clear hd hi
          clear hvs
          refine wanted_yes rfl rfl u72 ?_
          go_simp
          exact hK.out _ _ rfl hS trivial
        refine FlowStepsX.stepY 94 50 36 rfl rfl (by kernel_rfl) (by kernel_rfl) (by kernel_rfl) rfl rfl ?_ ?_
        ·
          intro cc act vs W hcc ha hvs hS hd hi K hK
          clear ha
          have u72 : act.tmps[72]? = some (.bool true) := by obtain ⟨_, u, _, h⟩ := hd.out ⟨27, .data⟩ (some 72) (by simp) rfl rfl; exact u.trans (congrArg some h)
          have u79 : act.tmps[79]? = some (.bool true) := by obtain ⟨_, u, _, h⟩ := hd.out ⟨34, .data⟩ (some 79) (by simp) rfl rfl; exact u.trans (congrArg some h)
          clear hd hi
          clear hvs
          refine wanted_un rfl ?_
          go_simp
          exact hK.out _ _ rfl hS trivial
        refine FlowStepsX.stepY 94 50 37 rfl rfl (by kernel_rfl) (by kernel_rfl) (by kernel_rfl) rfl rfl ?_ ?_
        ·
          intro cc act vs W hcc ha hvs hS hd hi K hK
          clear ha
          have u80 : act.tmps[80]? = some (.bool true) := by obtain ⟨_, u, _, h⟩ := hd.out ⟨35, .data⟩ (some 80) (by simp) rfl rfl; exact u.trans (congrArg some h)
          clear hd hi
          clear hvs
          refine wanted_un rfl ?_
          go_simp
          exact hK.out _ _ rfl hS trivial
        refine FlowStepsX.stepY 94 50 38 rfl rfl (by kernel_rfl) (by kernel_rfl) (by kernel_rfl) rfl rfl ?_ ?_
        ·
          intro cc act vs W hcc ha hvs hS hd hi K hK
          clear ha
          have u81 : act.tmps[81]? = some (.bool true) := by obtain ⟨_, u, _, h⟩ := hd.out ⟨36, .guard⟩ (some 81) (by simp) rfl rfl; exact u.trans (congrArg some h)
          have u5 : act.tmps[5]? = some (.pointer (some ⟨xd, 0, none⟩)) := (hi.out 5 (by kernel_rfl)).trans rfl
          clear hd hi
          clear hvs
          refine wanted_yes rfl rfl u81 ?_
          go_simp
          exact hK.out _ _ rfl hS trivial
        refine FlowStepsX.stepY 94 50 39 rfl rfl (by kernel_rfl) (by kernel_rfl) (by kernel_rfl) rfl rfl ?_ ?_
        ·
          intro cc act vs W hcc ha hvs hS hd hi K hK
          clear ha
          have u82 : act.tmps[82]? = some (.pointer (some ⟨xd, 0, none⟩)) := by obtain ⟨_, u, _, h⟩ := hd.out ⟨37, .data⟩ (some 82) (by simp) rfl rfl; exact u.trans (congrArg some h)
          have u81 : act.tmps[81]? = some (.bool true) := by obtain ⟨_, u, _, h⟩ := hd.out ⟨36, .guard⟩ (some 81) (by simp) rfl rfl; exact u.trans (congrArg some h)
          clear hd hi
          clear hvs
          refine wanted_yes rfl rfl u81 ?_
          have e0 := (hS.cell (p := ⟨xd, 0, none⟩) gx).trans cx0
          go_simp
          exact hK.out _ _ rfl hS trivial
        refine FlowStepsX.stepY 94 50 40 rfl rfl (by kernel_rfl) (by kernel_rfl) (by kernel_rfl) rfl rfl ?_ ?_
        ·
          intro cc act vs W hcc ha hvs hS hd hi K hK
          clear ha
          have u81 : act.tmps[81]? = some (.bool true) := by obtain ⟨_, u, _, h⟩ := hd.out ⟨36, .guard⟩ (some 81) (by simp) rfl rfl; exact u.trans (congrArg some h)
          have u5 : act.tmps[5]? = some (.pointer (some ⟨xd, 0, none⟩)) := (hi.out 5 (by kernel_rfl)).trans rfl
          clear hd hi
          clear hvs
          refine wanted_yes rfl rfl u81 ?_
          go_simp
          exact hK.out _ _ rfl hS trivial
        refine FlowStepsX.stepY 94 50 41 rfl rfl (by kernel_rfl) (by kernel_rfl) (by kernel_rfl) rfl rfl ?_ ?_
        ·
          intro cc act vs W hcc ha hvs hS hd hi K hK
          clear ha
          have u84 : act.tmps[84]? = some (.pointer (some ⟨xd, 1, none⟩)) := by obtain ⟨_, u, _, h⟩ := hd.out ⟨39, .data⟩ (some 84) (by simp) rfl rfl; exact u.trans (congrArg some h)
          have u81 : act.tmps[81]? = some (.bool true) := by obtain ⟨_, u, _, h⟩ := hd.out ⟨36, .guard⟩ (some 81) (by simp) rfl rfl; exact u.trans (congrArg some h)
          clear hd hi
          clear hvs
          refine wanted_yes rfl rfl u81 ?_
          have e1 := (hS.cell (p := ⟨xd, 1, none⟩) gx).trans cx1
          go_simp
          exact hK.out _ _ rfl hS trivial
        refine FlowStepsX.stepY 94 50 42 rfl rfl (by kernel_rfl) (by kernel_rfl) (by kernel_rfl) rfl rfl ?_ ?_
        ·
          intro cc act vs W hcc ha hvs hS hd hi K hK
          clear ha
          have u83 : act.tmps[83]? = some (.int .i64 x) := by obtain ⟨_, u, _, h⟩ := hd.out ⟨38, .data⟩ (some 83) (by simp) rfl rfl; exact u.trans (congrArg some h)
          have u85 : act.tmps[85]? = some (.int .i64 y) := by obtain ⟨_, u, _, h⟩ := hd.out ⟨40, .data⟩ (some 85) (by simp) rfl rfl; exact u.trans (congrArg some h)
          have u81 : act.tmps[81]? = some (.bool true) := by obtain ⟨_, u, _, h⟩ := hd.out ⟨36, .guard⟩ (some 81) (by simp) rfl rfl; exact u.trans (congrArg some h)
          clear hd hi
          clear hvs
          refine wanted_yes rfl rfl u81 ?_
          have e1 := HE.out
          go_simp
          exact hK.out _ _ rfl hS trivial
        refine FlowStepsX.stepY 94 50 43 rfl rfl (by kernel_rfl) (by kernel_rfl) (by kernel_rfl) rfl rfl ?_ ?_
        ·
          intro cc act vs W hcc ha hvs hS hd hi K hK
          clear ha
          have u81 : act.tmps[81]? = some (.bool true) := by obtain ⟨_, u, _, h⟩ := hd.out ⟨36, .guard⟩ (some 81) (by simp) rfl rfl; exact u.trans (congrArg some h)
          have u4 : act.tmps[4]? = some (.pointer (some ⟨gd, 0, none⟩)) := (hi.out 4 (by kernel_rfl)).trans rfl
          clear hd hi
          clear hvs
          refine wanted_yes rfl rfl u81 ?_
          go_simp
          exact hK.out _ _ rfl hS trivial
        refine FlowStepsX.stepY 94 50 44 rfl rfl (by kernel_rfl) (by kernel_rfl) (by kernel_rfl) rfl rfl ?_ ?_
        ·
          intro cc act vs W hcc ha hvs hS hd hi K hK
          clear ha
          have u87 : act.tmps[87]? = some (.pointer (some ⟨gd, 0, none⟩)) := by obtain ⟨_, u, _, h⟩ := hd.out ⟨42, .data⟩ (some 87) (by simp) rfl rfl; exact u.trans (congrArg some h)
          have u81 : act.tmps[81]? = some (.bool true) := by obtain ⟨_, u, _, h⟩ := hd.out ⟨36, .guard⟩ (some 81) (by simp) rfl rfl; exact u.trans (congrArg some h)
          clear hd hi
          clear hvs
          refine wanted_yes rfl rfl u81 ?_
          have e0 := (hS.cell (p := ⟨gd, 0, none⟩) gg).trans cc0
          go_simp
          exact hK.out _ _ rfl hS trivial
        refine FlowStepsX.stepY 94 50 45 rfl rfl (by kernel_rfl) (by kernel_rfl) (by kernel_rfl) rfl rfl ?_ ?_
        ·
          intro cc act vs W hcc ha hvs hS hd hi K hK
          clear ha
          have u81 : act.tmps[81]? = some (.bool true) := by obtain ⟨_, u, _, h⟩ := hd.out ⟨36, .guard⟩ (some 81) (by simp) rfl rfl; exact u.trans (congrArg some h)
          have u4 : act.tmps[4]? = some (.pointer (some ⟨gd, 0, none⟩)) := (hi.out 4 (by kernel_rfl)).trans rfl
          clear hd hi
          clear hvs
          refine wanted_yes rfl rfl u81 ?_
          go_simp
          exact hK.out _ _ rfl hS trivial
        refine FlowStepsX.stepY 94 50 46 rfl rfl (by kernel_rfl) (by kernel_rfl) (by kernel_rfl) rfl rfl ?_ ?_
        ·
          intro cc act vs W hcc ha hvs hS hd hi K hK
          clear ha
          have u89 : act.tmps[89]? = some (.pointer (some ⟨gd, 1, none⟩)) := by obtain ⟨_, u, _, h⟩ := hd.out ⟨44, .data⟩ (some 89) (by simp) rfl rfl; exact u.trans (congrArg some h)
          have u81 : act.tmps[81]? = some (.bool true) := by obtain ⟨_, u, _, h⟩ := hd.out ⟨36, .guard⟩ (some 81) (by simp) rfl rfl; exact u.trans (congrArg some h)
          clear hd hi
          clear hvs
          refine wanted_yes rfl rfl u81 ?_
          have e1 := (hS.cell (p := ⟨gd, 1, none⟩) gg).trans cc1
          go_simp
          exact hK.out _ _ rfl hS trivial
        refine FlowStepsX.stepY 94 50 47 rfl rfl (by kernel_rfl) (by kernel_rfl) (by kernel_rfl) rfl rfl ?_ ?_
        ·
          intro cc act vs W hcc ha hvs hS hd hi K hK
          clear ha
          have u88 : act.tmps[88]? = some (.int .i64 r) := by obtain ⟨_, u, _, h⟩ := hd.out ⟨43, .data⟩ (some 88) (by simp) rfl rfl; exact u.trans (congrArg some h)
          have u90 : act.tmps[90]? = some (.int .i64 a) := by obtain ⟨_, u, _, h⟩ := hd.out ⟨45, .data⟩ (some 90) (by simp) rfl rfl; exact u.trans (congrArg some h)
          have u81 : act.tmps[81]? = some (.bool true) := by obtain ⟨_, u, _, h⟩ := hd.out ⟨36, .guard⟩ (some 81) (by simp) rfl rfl; exact u.trans (congrArg some h)
          clear hd hi
          clear hvs
          refine wanted_yes rfl rfl u81 ?_
          go_simp
          exact hK.out _ _ rfl hS trivial
        refine FlowStepsX.stepY 94 50 48 rfl rfl (by kernel_rfl) (by kernel_rfl) (by kernel_rfl) rfl rfl ?_ ?_
        ·
          intro cc act vs W hcc ha hvs hS hd hi K hK
          clear ha
          have u86 : act.tmps[86]? = some (.bool (r == a)) := by obtain ⟨_, u, _, h⟩ := hd.out ⟨41, .data⟩ (some 86) (by simp) rfl rfl; exact u.trans (congrArg some h)
          have u91 : act.tmps[91]? = some (.bool (r == a)) := by obtain ⟨_, u, _, h⟩ := hd.out ⟨46, .data⟩ (some 91) (by simp) rfl rfl; exact u.trans (congrArg some h)
          have u81 : act.tmps[81]? = some (.bool true) := by obtain ⟨_, u, _, h⟩ := hd.out ⟨36, .guard⟩ (some 81) (by simp) rfl rfl; exact u.trans (congrArg some h)
          clear hd hi
          clear hvs
          refine wanted_yes rfl rfl u81 ?_
          go_simp
          exact hK.out _ _ rfl hS trivial
        refine FlowStepsX.stepY 94 50 49 rfl rfl (by kernel_rfl) (by kernel_rfl) (by kernel_rfl) rfl rfl ?_ ?_
        ·
          intro cc act vs W hcc ha hvs hS hd hi K hK
          clear ha
          have u81 : act.tmps[81]? = some (.bool true) := by obtain ⟨_, u, _, h⟩ := hd.out ⟨36, .data⟩ (some 81) (by simp) rfl rfl; exact u.trans (congrArg some h)
          have u92 : act.tmps[92]? = some (.bool true) := by obtain ⟨_, u, _, h⟩ := hd.out ⟨47, .data⟩ (some 92) (by simp) rfl rfl; exact u.trans (congrArg some h)
          clear hd hi
          clear hvs
          refine wanted_un rfl ?_
          go_simp
          exact hK.out _ _ rfl hS trivial
        refine FlowStepsX.stepY 94 50 50 rfl rfl (by kernel_rfl) (by kernel_rfl) (by kernel_rfl) rfl rfl ?_ ?_
        ·
          intro cc act vs W hcc ha hvs hS hd hi K hK
          clear ha
          have u93 : act.tmps[93]? = some (.bool true) := by obtain ⟨_, u, _, h⟩ := hd.out ⟨48, .data⟩ (some 93) (by simp) rfl rfl; exact u.trans (congrArg some h)
          clear hd hi
          clear hvs
          refine wanted_un rfl ?_
          go_simp
          exact hK.out _ _ rfl hS trivial
        exact FlowStepsX.nil
      · intro c ρ W hc hS hd
        simp only [putFrom, Act.put, List.setIfInBounds_toArray, List.set_cons_zero, List.set_cons_succ, Nat.reduceAdd]
        have d49 : ρ 49 = .bool true := hd.out 49 (by decide) (by kernel_rfl)
        generalize ρ 49 = x49 at d49 ⊢
        subst d49
        clear hd
        have BW : Below w.heap.size w W := B4.trans (hS.mono B4.size)
        go_wp2_with fail
        go_ret
        exact ⟨rfl, BW⟩
    | false =>
      simp only [coF, hok, Bool.false_eq_true, if_false] at PS ⊢
      clear hok
      rintro e w2 ⟨rfl, hb2⟩
      have L2 := live hb2 w1.heap.size (by first | omega | (simp; done) | (simp; omega))
      have B2 : Below w.heap.size w w2 := (by repeat' (first | exact Below.refl _ _ | assumption | exact And.left (by assumption) | omega | (simp; done) | (simp; omega) | (simp at *; omega) | (refine Below.setCell ?_ ?_ _) | (refine below_alloc0 ?_ _) | (refine Below.drew ?_) | (refine below_drewN ?_ _) | (refine below_via0 ?_ (by assumption)) | (refine Below.alloc ?_ ?_ _) | (refine below_via ?_ (by assumption) ?_)))
      have hR2 : RR w2 b 0 l := hR.below (below_via0 (below_alloc0 (Below.refl _ _) _) hb2)
      go_wp2_with fail
      refine (PS.out _ (hR2.below (below_alloc0 (Below.refl _ _) _))).mono ?_
      rintro e w3 ⟨rfl, hb3⟩
      have M3 := live hb3 w2.heap.size (by first | omega | (simp; done) | (simp; omega))
      have B3 : Below w.heap.size w w3 := (by repeat' (first | exact Below.refl _ _ | assumption | exact And.left (by assumption) | omega | (simp; done) | (simp; omega) | (simp at *; omega) | (refine Below.setCell ?_ ?_ _) | (refine below_alloc0 ?_ _) | (refine Below.drew ?_) | (refine below_drewN ?_ _) | (refine below_via0 ?_ (by assumption)) | (refine Below.alloc ?_ ?_ _) | (refine below_via ?_ (by assumption) ?_)))
      go_wp2_with (go_at_call 17; refine (alive_c _).mono ?_; rintro e w5 ⟨rfl, hb5⟩; have B5 : Below w.heap.size w w5 := (by repeat' (first | exact Below.refl _ _ | assumption | exact And.left (by assumption) | omega | (simp; done) | (simp; omega) | (simp at *; omega) | (refine Below.setCell ?_ ?_ _) | (refine below_alloc0 ?_ _) | (refine Below.drew ?_) | (refine below_drewN ?_ _) | (refine below_via0 ?_ (by assumption)) | (refine Below.alloc ?_ ?_ _) | (refine below_via ?_ (by assumption) ?_))))
      go_ret
      exact ⟨rfl, (by repeat' (first | exact Below.refl _ _ | assumption | exact And.left (by assumption) | omega | (simp; done) | (simp; omega) | (simp at *; omega) | (refine Below.setCell ?_ ?_ _) | (refine below_alloc0 ?_ _) | (refine Below.drew ?_) | (refine below_drewN ?_ _) | (refine below_via0 ?_ (by assumption)) | (refine Below.alloc ?_ ?_ _) | (refine below_via ?_ (by assumption) ?_)))⟩
end Go.Proofs.Ythocpajiihdceaa
