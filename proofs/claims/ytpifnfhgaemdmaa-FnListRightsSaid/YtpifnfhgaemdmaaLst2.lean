/-
  The law of ListOf over drawn modes. No condition.
-/
import Derived.Test.YtpifnfhgaemdmaaProg
import Derived.Test.YtpifnfhgaemdmaaLst
import Derived.Test.YtpifnfhgaemdmaaDraw
import Derived.Test.YtpifnfhgaemdmaaAlive
namespace Go.Proofs.Ytpifnfhgaemdmaa
open Go.RowKit
set_option linter.unusedSimpArgs false
set_option linter.unusedVariables false

theorem isUser_c (n : Int) (w : World) : Calls Try.prog 41 #[.int .i64 n] w fun e w' => e = .returned (.bool (inB n 0 99)) ∧ w = w' := by
  go_enter Try.func41, Try.ntmps41
  go_wp2_with (go_at_call 53; refine (within_c _ _ _ _).mono ?_; rintro e w' ⟨rfl, rfl⟩)
  go_ret
  exact ⟨rfl, rfl⟩
theorem isGroup_c (n : Int) (w : World) : Calls Try.prog 42 #[.int .i64 n] w fun e w' => e = .returned (.bool (inB n 0 7)) ∧ w = w' := by
  go_enter Try.func42, Try.ntmps42
  go_wp2_with (go_at_call 53; refine (within_c _ _ _ _).mono ?_; rintro e w' ⟨rfl, rfl⟩)
  go_ret
  exact ⟨rfl, rfl⟩
theorem isRights_c (n : Int) (w : World) : Calls Try.prog 43 #[.int .i64 n] w fun e w' => e = .returned (.bool (inB n 0 7)) ∧ w = w' := by
  go_enter Try.func43, Try.ntmps43
  go_wp2_with (go_at_call 53; refine (within_c _ _ _ _).mono ?_; rintro e w' ⟨rfl, rfl⟩)
  go_ret
  exact ⟨rfl, rfl⟩
theorem isMode_c (n : Int) (w : World) : Calls Try.prog 52 #[.int .i64 n] w fun e w' => e = .returned (.bool (inB n 0 1023)) ∧ w = w' := by
  go_enter Try.func52, Try.ntmps52
  go_wp2_with (go_at_call 53; refine (within_c _ _ _ _).mono ?_; rintro e w' ⟨rfl, rfl⟩)
  go_ret
  exact ⟨rfl, rfl⟩
/-- A list without grants, of a mode that is one. -/
theorem lv0_c (m : Int) (h0 : 0 ≤ m) (h1 : m ≤ 511) (w : World) :
    Calls Try.prog 19 #[.agg #[.int .i64 m, .slice none 0 0, .int .i64 7]] w fun e w' => e = .returned (.bool true) ∧ Below w.heap.size w w' := by
  have hm : inB m 0 511 = true := inB_iff.2 ⟨h0, h1⟩
  have h7 : inB 7 0 7 = true := by decide
  go_enter Try.func19, Try.ntmps19
  go_wp2_with fail
  go_loopw [9] (fun i wr => i = .int .i64 0 ∧ wr = w.alloc (.cells #[.int .i64 m, .slice none 0 0, .int .i64 7] 24)) (fun i _ => 0)
  case atStart => exact ⟨rfl, rfl⟩
  case round =>
    obtain ⟨rfl, rfl⟩ := hrel
    go_wp2_with (first | (go_at_call 35; refine (isPlain_c _ _).mono ?_; rintro e w' ⟨rfl, rfl⟩; rw [hm]) | (go_at_call 43; refine (isRights_c _ _).mono ?_; rintro e w' ⟨rfl, rfl⟩; rw [h7]))
    go_ret
    exact ⟨rfl, (by repeat' (first | exact Below.refl _ _ | assumption | exact And.left (by assumption) | omega | (simp; done) | (simp; omega) | (simp at *; omega) | (refine Below.setCell ?_ ?_ _) | (refine below_alloc0 ?_ _) | (refine Below.drew ?_) | (refine below_drewN ?_ _) | (refine below_via0 ?_ (by assumption)) | (refine Below.alloc ?_ ?_ _) | (refine below_via ?_ (by assumption) ?_)))⟩
theorem hg0_c (w : World) : Calls Try.prog 51 #[.int .i64 0, .int .i64 0] w fun e w' => e = .returned (.bool false) ∧ w = w' := by
  have h1 : inB 0 0 255 = true := by decide
  have h2 : inB 0 0 7 = true := by decide
  go_enter Try.func51, Try.ntmps51
  go_wp2_with (first | (go_at_call 53; refine (within_c _ _ _ _).mono ?_; rintro e w' ⟨rfl, rfl⟩; rw [h1]) | (go_at_call 42; refine (isGroup_c _ _).mono ?_; rintro e w' ⟨rfl, rfl⟩; rw [h2]))
  go_ret
  exact ⟨rfl, rfl⟩
theorem cv0_c (w : World) : Calls Try.prog 62 #[.agg #[.int .i64 5, .int .i64 5, .int .i64 5, .int .i64 0]] w fun e w' => e = .returned (.bool true) ∧ Below w.heap.size w w' := by
  have h1 : inB 0 0 255 = true := by decide
  have h2 : inB 5 0 99 = true := by decide
  go_enter Try.func62, Try.ntmps62
  go_wp2_with (first | (go_at_call 53; refine (within_c _ _ _ _).mono ?_; rintro e w' ⟨rfl, rfl⟩; rw [h1]) | (go_at_call 41; refine (isUser_c _ _).mono ?_; rintro e w' ⟨rfl, rfl⟩; rw [h2]))
  go_ret
  exact ⟨rfl, (by repeat' (first | exact Below.refl _ _ | assumption | exact And.left (by assumption) | omega | (simp; done) | (simp; omega) | (simp at *; omega) | (refine Below.setCell ?_ ?_ _) | (refine below_alloc0 ?_ _) | (refine Below.drew ?_) | (refine below_drewN ?_ _) | (refine below_via0 ?_ (by assumption)) | (refine Below.alloc ?_ ?_ _) | (refine below_via ?_ (by assumption) ?_)))⟩
theorem co0_c (w : World) : Calls Try.prog 63 #[.agg #[.int .i64 5, .int .i64 5, .int .i64 5, .int .i64 0], .int .i64 6, .int .i64 0] w fun e w' => e = .returned (.int .i64 2) ∧ Below w.heap.size w w' := by
  go_enter Try.func63, Try.ntmps63
  go_wp2_with (go_at_call 51; refine (hg0_c _).mono ?_; rintro e w' ⟨rfl, rfl⟩)
  go_ret
  exact ⟨rfl, (by repeat' (first | exact Below.refl _ _ | assumption | exact And.left (by assumption) | omega | (simp; done) | (simp; omega) | (simp at *; omega) | (refine Below.setCell ?_ ?_ _) | (refine below_alloc0 ?_ _) | (refine Below.drew ?_) | (refine below_drewN ?_ _) | (refine below_via0 ?_ (by assumption)) | (refine Below.alloc ?_ ?_ _) | (refine below_via ?_ (by assumption) ?_)))⟩
theorem cl0_c (w : World) : Calls Try.prog 33 #[.agg #[.int .i64 5, .int .i64 5, .int .i64 5, .int .i64 0], .int .i64 6, .int .i64 0] w fun e w' => e = .returned (.int .i64 2) ∧ Below w.heap.size w w' := by
  have h1 : inB 6 0 99 = true := by decide
  have h2 : inB 0 0 7 = true := by decide
  go_enter Try.func33, Try.ntmps33
  go_wp2_with fail
  refine (cv0_c _).mono ?_
  rintro e w1 ⟨rfl, hb1⟩
  have L1 := live hb1 w.heap.size (by first | omega | (simp <;> omega))
  have B1 : Below w.heap.size w w1 := (by repeat' (first | exact Below.refl _ _ | assumption | exact And.left (by assumption) | omega | (simp; done) | (simp; omega) | (simp at *; omega) | (refine Below.setCell ?_ ?_ _) | (refine below_alloc0 ?_ _) | (refine Below.drew ?_) | (refine below_drewN ?_ _) | (refine below_via0 ?_ (by assumption)) | (refine Below.alloc ?_ ?_ _) | (refine below_via ?_ (by assumption) ?_)))
  go_wp2_with (first | (go_at_call 41; refine (isUser_c _ _).mono ?_; rintro e w' ⟨rfl, rfl⟩; rw [h1]) | (go_at_call 42; refine (isGroup_c _ _).mono ?_; rintro e w' ⟨rfl, rfl⟩; rw [h2]) | (go_at_call 63; refine (co0_c _).mono ?_; rintro e w2 ⟨rfl, hb2⟩; have B2 : Below w.heap.size w w2 := below_via0 B1 hb2))
  go_ret
  exact ⟨rfl, B2⟩
theorem ix0_c (f : Value) (w : World) : Calls Try.prog 65 #[.slice none 0 0, f] w fun e w' => e = .returned (.int .i64 (-1)) ∧ w = w' := by
  go_enter Try.func65, Try.ntmps65
  go_wp2_with fail
  go_loop [8] (fun i => i = .int .i64 0) (fun i => 0)
  case atStart => rfl
  case round =>
    obtain rfl := hrel
    go_wp2
    go_ret
    exact ⟨rfl, rfl⟩
theorem gp0_c (o : Bool) (n : Int) (w : World) : Calls Try.prog 44 #[.slice none 0 0, .bool o, .int .i64 n] w fun e w' => e = .returned (.int .i64 (-1)) ∧ Below w.heap.size w w' := by
  go_enter Try.func44, Try.ntmps44
  go_wp2_with (with_reducible refine (ix0_c _ _).mono ?_; rintro e w' ⟨rfl, rfl⟩)
  go_ret
  exact ⟨rfl, (by repeat' (first | exact Below.refl _ _ | assumption | exact And.left (by assumption) | omega | (simp; done) | (simp; omega) | (simp at *; omega) | (refine Below.setCell ?_ ?_ _) | (refine below_alloc0 ?_ _) | (refine Below.drew ?_) | (refine below_drewN ?_ _) | (refine below_via0 ?_ (by assumption)) | (refine Below.alloc ?_ ?_ _) | (refine below_via ?_ (by assumption) ?_)))⟩
/-- The rights of all others. -/
def oth (m : Int) : Int := bits .and .i64 m 7
theorem rf2_c (m : Int) (w : World) : Calls Try.prog 50 #[.int .i64 m, .int .i64 2] w fun e w' => e = .returned (.int .i64 (oth m)) ∧ w = w' := by
  go_enter Try.func50, Try.ntmps50
  go_wp2_with fail
  go_ret
  exact ⟨rfl, rfl⟩
theorem RF2_c (m : Int) (h0 : 0 ≤ m) (h1 : m ≤ 511) (w : World) : Calls Try.prog 25 #[.int .i64 m, .int .i64 2] w fun e w' => e = .returned (.int .i64 (oth m)) ∧ w = w' := by
  have hm : inB m 0 1023 = true := inB_iff.2 ⟨h0, by omega⟩
  have h2 : inB 2 0 2 = true := by decide
  go_enter Try.func25, Try.ntmps25
  go_wp2_with (first | (go_at_call 52; refine (isMode_c _ _).mono ?_; rintro e w' ⟨rfl, rfl⟩; rw [hm]) | (go_at_call 53; refine (within_c _ _ _ _).mono ?_; rintro e w' ⟨rfl, rfl⟩; rw [h2]) | (go_at_call 50; refine (rf2_c _ _).mono ?_; rintro e w' ⟨rfl, rfl⟩))
  go_ret
  exact ⟨rfl, rfl⟩
set_option maxHeartbeats 1000000 in
theorem lr0_c (m : Int) (h0 : 0 ≤ m) (h1 : m ≤ 511) (w : World) :
    Calls Try.prog 24 #[.agg #[.int .i64 m, .slice none 0 0, .int .i64 7], .agg #[.int .i64 5, .int .i64 5, .int .i64 5, .int .i64 0], .int .i64 6, .int .i64 0] w fun e w' => e = .returned (.int .i64 (oth m)) ∧ Below w.heap.size w w' := by
  go_enter Try.func24, Try.ntmps24
  go_wp2_with fail
  refine (lv0_c m h0 h1 _).mono ?_
  rintro e w1 ⟨rfl, hb1⟩
  have L1 := live hb1 w.heap.size (by first | omega | (simp <;> omega))
  have M1 := live hb1 (w.heap.size + 1) (by first | omega | (simp <;> omega))
  have B1 : Below w.heap.size w w1 := (by repeat' (first | exact Below.refl _ _ | assumption | exact And.left (by assumption) | omega | (simp; done) | (simp; omega) | (simp at *; omega) | (refine Below.setCell ?_ ?_ _) | (refine below_alloc0 ?_ _) | (refine Below.drew ?_) | (refine below_drewN ?_ _) | (refine below_via0 ?_ (by assumption)) | (refine Below.alloc ?_ ?_ _) | (refine below_via ?_ (by assumption) ?_)))
  go_wp2_with fail
  refine (cl0_c _).mono ?_
  rintro e w2 ⟨rfl, hb2⟩
  have L2 := live hb2 w.heap.size (by first | omega | (simp <;> omega))
  have M2 := live hb2 (w.heap.size + 1) (by first | omega | (simp <;> omega))
  have B2 := below_via0 B1 hb2
  go_wp2_with fail
  refine (gp0_c _ _ _).mono ?_
  rintro e w3 ⟨rfl, hb3⟩
  have L3 := live hb3 w.heap.size (by first | omega | (simp <;> omega))
  have M3 := live hb3 (w.heap.size + 1) (by first | omega | (simp <;> omega))
  have B3 := below_via0 B2 hb3
  go_wp2_with (go_at_call 51; refine (hg0_c _).mono ?_; rintro e w' ⟨rfl, rfl⟩)
  go_loopw [10, 11, 58] (fun a b i wr => a = .bool false ∧ b = .int .i64 0 ∧ i = .int .i64 0 ∧ wr = w3) (fun _ _ i _ => 0)
  case atStart => exact ⟨rfl, rfl, rfl, rfl⟩
  case round =>
    obtain ⟨rfl, rfl, rfl, rfl⟩ := hrel
    go_wp2_with (go_at_call 50; refine (rf2_c _ _).mono ?_; rintro e w' ⟨rfl, rfl⟩)
    go_ret
    exact ⟨rfl, B3⟩
theorem smG_0 (A A' : Option Addr) (c c' : Nat) (w : World) :
    Calls Try.prog 49 #[.slice A (0 : Nat) c, .slice A' (0 : Nat) c'] w fun e w' => e = .returned (.bool true) ∧ Below w.heap.size w w' := by
  go_enter Try.func49, Try.ntmps49
  go_wp2_with fail
  go_loopw [5] (fun i wr => i = .int .i64 0 ∧ Below w.heap.size w wr) (fun i _ => 0)
  case atStart => exact ⟨rfl, Below.refl _ _⟩
  case round =>
    obtain ⟨rfl, hbel⟩ := hrel
    go_wp2
    go_ret
    exact ⟨rfl, (by repeat' (first | exact Below.refl _ _ | assumption | exact And.left (by assumption) | omega | (simp; done) | (simp; omega) | (simp at *; omega) | (refine Below.setCell ?_ ?_ _) | (refine below_alloc0 ?_ _) | (refine Below.drew ?_) | (refine below_drewN ?_ _) | (refine below_via0 ?_ (by assumption)) | (refine Below.alloc ?_ ?_ _) | (refine below_via ?_ (by assumption) ?_)))⟩
theorem smL_0 (m k : Int) (w : World) :
    Calls Try.prog 23 #[.agg #[.int .i64 m, .slice none 0 0, .int .i64 k], .agg #[.int .i64 m, .slice none 0 0, .int .i64 k]] w fun e w' => e = .returned (.bool true) ∧ Below w.heap.size w w' := by
  go_enter Try.func23, Try.ntmps23
  go_wp2_with fail
  refine (smG_0 _ _ _ _ _).mono ?_
  rintro e w1 ⟨rfl, hb1⟩
  dsimp only
  go_wp2
  go_ret
  exact ⟨rfl, (by repeat' (first | exact Below.refl _ _ | assumption | exact And.left (by assumption) | omega | (simp; done) | (simp; omega) | (simp at *; omega) | (refine Below.setCell ?_ ?_ _) | (refine below_alloc0 ?_ _) | (refine Below.drew ?_) | (refine below_drewN ?_ _) | (refine below_via0 ?_ (by assumption)) | (refine Below.alloc ?_ ?_ _) | (refine below_via ?_ (by assumption) ?_)))⟩
theorem mode_lits (z : Nat) (hz : z < 2) : ∃ v : Int, (#[Value.int .i64 (-1), .int .i64 1024] : Array Value)[z]? = some (.int .i64 v) ∧ -1 ≤ v ∧ v ≤ 1024 := by
  obtain rfl | rfl : z = 0 ∨ z = 1 := by omega
  all_goals exact ⟨_, rfl, by decide, by decide⟩
theorem mode_lit7 (x y : Int) (z : Nat) (hz : z < 7) (hx : 0 ≤ x) (hx2 : x ≤ 1024) (hy : 0 ≤ y) (hy2 : y ≤ 1024) :
    ∃ v : Int, (#[Value.int .i64 511, .int .i64 493, .int .i64 448, .int .i64 420, .int .i64 1023, .int .i64 x, .int .i64 y] : Array Value)[z]? = some (.int .i64 v) ∧ 0 ≤ v ∧ v ≤ 1024 := by
  obtain rfl | rfl | rfl | rfl | rfl | rfl | rfl : z = 0 ∨ z = 1 ∨ z = 2 ∨ z = 3 ∨ z = 4 ∨ z = 5 ∨ z = 6 := by omega
  all_goals exact ⟨_, rfl, by omega, by omega⟩
/-- A mode was drawn. -/
def DrewMode (w0 : World) (B r k : Nat) (w : World) (e : Ending) (w' : World) : Prop :=
  ∃ x : Int, e = .returned (.int .i64 x) ∧ -1 ≤ x ∧ x ≤ 1024 ∧ St w0 B r k w' ∧ Aside r w w'
set_option maxHeartbeats 1000000 in
theorem drawMode_c (B r k : Nat) (n : Int) (w : World) (hn : 1 ≤ n) (hn2 : n ≤ 1000000) (hk : k ≤ 90000) (h : Rdr w B r k) :
    Calls Try.prog 48 #[.pointer (some ⟨r, 0, none⟩), .int .i64 n] w fun e w' => DrewMode w B r (k + 10) w e w' := by
  have hs := St.start h
  obtain ⟨z1, z2, _⟩ := hs.size
  go_enter Try.func48, Try.ntmps48
  go_wp2_with fail
  refine (odd_s w B r k n _ hn (by omega) (by omega) hs).mono ?_
  rintro e w1 ⟨o, rfl, hs1, ha1⟩
  have y1 := hs1.size
  cases o with
  | true =>
    go_wp2_with fail
    refine (pick_s w B r (k + 1) 2 _ (by omega) (by omega) (by omega) (hs1.alloc _)).mono ?_
    rintro e w2 ⟨x, rfl, x0, x1, hs2, ha2⟩
    have L2 := liveA ha2 w1.heap.size (by simp) (by omega)
    obtain ⟨x, rfl⟩ := Int.eq_ofNat_of_zero_le x0
    obtain ⟨v, hv, v0, v1⟩ := mode_lits x (by omega)
    have c0 : w2.cell? ⟨w1.heap.size, x, none⟩ = some (.int .i64 v) := by rw [L2.2.1]; simpa using hv
    go_wp2_with fail
    go_ret
    exact ⟨v, rfl, v0, v1, hs2.mono (by omega), hs2.2.1⟩
  | false =>
    go_wp2_with fail
    refine (pick_s w B r (k + 1) 256 _ (by omega) (by omega) (by omega) hs1).mono ?_
    rintro e w2 ⟨x, rfl, x0, x1, hs2, ha2⟩
    go_wp2_with fail
    refine (pick_s w B r (k + 1 + 1) 256 _ (by omega) (by omega) (by omega) hs2).mono ?_
    rintro e w3 ⟨y, rfl, yy0, yy1, hs3, ha3⟩
    go_wp2_with fail
    refine (pick_s w B r (k + 1 + 1 + 1) 7 _ (by omega) (by omega) (by omega) (hs3.alloc _)).mono ?_
    rintro e w4 ⟨z, rfl, zz0, zz1, hs4, ha4⟩
    have y3 := hs3.size
    have L4 := liveA ha4 w3.heap.size (by simp) (by omega)
    obtain ⟨z, rfl⟩ := Int.eq_ofNat_of_zero_le zz0
    obtain ⟨v, hv, v0, v1⟩ := mode_lit7 (x * 4) y z (by omega) (by omega) (by omega) (by omega) (by omega)
    have c0 : w4.cell? ⟨w3.heap.size, z, none⟩ = some (.int .i64 v) := by rw [L4.2.1]; simpa using hv
    go_wp2_with fail
    go_ret
    exact ⟨v, rfl, by omega, by omega, hs4.mono (by omega), hs4.2.1⟩
theorem gListOf_c (A : Option Addr) (n c : Nat) (w : World) (h : InB w A n c) :
    Calls Try.prog 22 #[.slice A n c] w fun e w' => ∃ x : Int, e = .returned (.int .i64 x) ∧ Below w.heap.size w w' := by
  have H := hide h
  clear h
  go_enter Try.func22, Try.ntmps22
  go_wp2_with fail
  refine (open_c A n c _ H.out).mono ?_
  rintro e w1 ⟨r, rfl, hr, hrd, hb1⟩
  go_wp2_with fail
  refine (drawMode_c w1.heap.size r 0 6 _ (by omega) (by omega) (by omega) hrd).mono ?_
  rintro e w2 ⟨x, rfl, x0, x1, hs, ha⟩
  have hb2 : Below w.heap.size w w2 := hs.2.1.below hb1 hr hb1.size
  go_wp2_with fail
  go_ret
  exact ⟨x, rfl, hb2⟩
set_option maxHeartbeats 2000000 in
theorem fnListOf_walk {w : World} (A : Option Addr) (n c : Nat) (h : InB w A n c) :
    Calls Try.prog 6 #[.slice A n c] w fun e w' => e = .returned (.bool true) ∧ Below w.heap.size w w' := by
  have hm := h.2.1
  unfold maxLen at hm
  have hc := h.1
  have H := hide h
  clear h
  by_cases h20 : 1048576 < n
  · go_enter Try.func6, Try.ntmps6
    go_wp2_with fail
    go_ret
    exact ⟨rfl, Below.refl _ _⟩
  · go_enter Try.func6, Try.ntmps6
    go_wp2_with fail
    refine (gListOf_c A n c _ H.out).mono ?_
    rintro e w1 ⟨m, rfl, hb1⟩
    go_wp2_with fail
    refine (loImpl_c _ _).mono ?_
    rintro e w2 ⟨rfl, hb2⟩
    have B2 := below_via0 hb1 hb2
    go_wp2_with fail
    have HSP := hide (loSpec_c m)
    by_cases hok : 0 ≤ m ∧ m ≤ 511
    · have hin : inB m 0 511 = true := inB_iff.2 hok
      have e1 : loM m = m := by simp [loM, hin]
      have e2 : loK m = 7 := by simp [loK, hin]
      rw [e1, e2] at HSP ⊢
      obtain ⟨m0, m1⟩ := hok
      clear e1 e2 hin
      go_region_held3 (fun w' => Below w.heap.size w w' ∧ w2.heap.size < w'.heap.size ∧ w'.cell? ⟨w2.heap.size, 0, none⟩ = some (.int .i64 m) ∧ w'.cell? ⟨w2.heap.size, 1, none⟩ = some (.slice none 0 0) ∧ w'.cell? ⟨w2.heap.size, 2, none⟩ = some (.int .i64 7))
        (first | assumption | (refine ⟨(by repeat' (first | exact Below.refl _ _ | assumption | exact And.left (by assumption) | omega | (simp; done) | (simp; omega) | (simp at *; omega) | (refine Below.setCell ?_ ?_ _) | (refine below_alloc0 ?_ _) | (refine Below.drew ?_) | (refine below_drewN ?_ _) | (refine below_via0 ?_ (by assumption)) | (refine Below.alloc ?_ ?_ _) | (refine below_via ?_ (by assumption) ?_))), ?_⟩; simp [go_sem, *]; done))
        (first | (go_at_call 11; refine (HSP.out _).mono ?_; rintro e w3 ⟨rfl, hb3⟩; have L3 := live hb3 w2.heap.size (by first | omega | (simp; done) | (simp; omega))) | (go_at_call 23; refine (smL_0 _ _ _).mono ?_; rintro e w4 ⟨rfl, hb4⟩; have L4 := live hb4 w2.heap.size (by first | omega | (simp; done) | (simp; omega))))
      have B4 : Below w.heap.size w w4 := And.left (by assumption)
      have L4' : w2.heap.size < w4.heap.size ∧ w4.cell? ⟨w2.heap.size, 0, none⟩ = some (.int .i64 m) ∧ w4.cell? ⟨w2.heap.size, 1, none⟩ = some (.slice none 0 0) ∧ w4.cell? ⟨w2.heap.size, 2, none⟩ = some (.int .i64 7) := And.right (by assumption)
      obtain ⟨x4, x0, x1, x2⟩ := L4'
      go_wp2_with fail
      refine (lv0_c m m0 m1 _).mono ?_
      rintro e w5 ⟨rfl, hb5⟩
      have B5 := below_via0 B4 hb5
      have L5 := live hb5 w2.heap.size x4
      dsimp only
      go_wp2_with fail
      refine (lr0_c m m0 m1 _).mono ?_
      rintro e w6 ⟨rfl, hb6⟩
      have B6 := below_via0 B5 hb6
      dsimp only
      go_wp2_with fail
      refine (RF2_c m m0 m1 _).mono ?_
      rintro e w7 ⟨rfl, rfl⟩
      dsimp only
      go_wp2_with fail
      go_ret
      exact ⟨rfl, B6⟩
    · have hin : inB m 0 511 = false := inB_no.2 hok
      have e1 : loM m = 0 := by simp [loM, hin]
      have e2 : loK m = 0 := by simp [loK, hin]
      rw [e1, e2] at HSP ⊢
      clear e1 e2 hin
      go_region_held3 (fun w' => Below w.heap.size w w' ∧ w2.heap.size < w'.heap.size ∧ w'.cell? ⟨w2.heap.size, 0, none⟩ = some (.int .i64 0) ∧ w'.cell? ⟨w2.heap.size, 1, none⟩ = some (.slice none 0 0) ∧ w'.cell? ⟨w2.heap.size, 2, none⟩ = some (.int .i64 0))
        (first | assumption | (refine ⟨(by repeat' (first | exact Below.refl _ _ | assumption | exact And.left (by assumption) | omega | (simp; done) | (simp; omega) | (simp at *; omega) | (refine Below.setCell ?_ ?_ _) | (refine below_alloc0 ?_ _) | (refine Below.drew ?_) | (refine below_drewN ?_ _) | (refine below_via0 ?_ (by assumption)) | (refine Below.alloc ?_ ?_ _) | (refine below_via ?_ (by assumption) ?_))), ?_⟩; simp [go_sem, *]; done))
        (first | (go_at_call 11; refine (HSP.out _).mono ?_; rintro e w3 ⟨rfl, hb3⟩; have L3 := live hb3 w2.heap.size (by first | omega | (simp; done) | (simp; omega))) | (go_at_call 23; refine (smL_0 _ _ _).mono ?_; rintro e w4 ⟨rfl, hb4⟩; have L4 := live hb4 w2.heap.size (by first | omega | (simp; done) | (simp; omega))))
      have B4 : Below w.heap.size w w4 := And.left (by assumption)
      by_cases h0 : m < 0
      all_goals
        have h5 : m < 0 ∨ 511 < m := by omega
        first | skip | (have h6 : 511 < m := by omega)
        go_wp2_with fail
        refine (smL_0 _ _ _).mono ?_
        rintro e w5 ⟨rfl, hb5⟩
        have B5 := below_via0 B4 hb5
        go_wp2_with (go_at_call 21; refine (alive_c _).mono ?_; rintro e w6 ⟨rfl, hb6⟩; have B6 := below_via0 B5 hb6)
        go_ret
        exact ⟨rfl, B6⟩
end Go.Proofs.Ytpifnfhgaemdmaa
