/-
  The law of ClosePipe over drawn arguments. No condition.
-/
import Derived.Test.YtheblgfgcmkdiaaProg
import Derived.Test.YtheblgfgcmkdiaaFnPipe2
namespace Go.Proofs.Ytheblgfgcmkdiaa
open Go.RowKit
set_option linter.unusedSimpArgs false
set_option linter.unusedVariables false

def rw3 (s : ByteArray) (x y : Int) (j : Nat) : Option Value := (#[Value.string s, .int .i64 x, .int .i64 y] : Array Value)[j]?
theorem rw3_set {w : World} {g : Nat} {s s' : ByteArray} {x y x' y' : Int} (h : Row w g 3 (rw3 s x y)) :
    Row (((w.setCell ⟨g, 0, none⟩ (.string s')).setCell ⟨g, 1, none⟩ (.int .i64 x')).setCell ⟨g, 2, none⟩ (.int .i64 y')) g 3 (rw3 s' x' y') := by
  refine (((h.set 0 _).set 1 _).set 2 _).mono fun j u hj => ?_
  match j with
  | 0 => simpa [rw3] using hj
  | 1 => simpa [rw3] using hj
  | 2 => simpa [rw3] using hj
  | j + 3 => simp [rw3] at hj
set_option maxRecDepth 100000 in
set_option maxHeartbeats 4000000 in
theorem fnClosePipe_walk {w : World} (A : Option Addr) (n c : Nat) (h : InB w A n c) :
    Calls Try.prog 8 #[.slice A n c] w fun e w' => e = .returned (.bool true) ∧ Below w.heap.size w w' := by
  have hm := h.2.1
  unfold maxLen at hm
  have hc := h.1
  have H := hide h
  clear h
  by_cases h20 : 1048576 < n
  · go_enter Try.func8, Try.ntmps8
    go_wp2_with fail
    go_ret
    exact ⟨rfl, Below.refl _ _⟩
  · go_enter Try.func8, Try.ntmps8
    go_wp2_with fail
    refine (gClosePipe_c A n c _ (H.out.below (Below.refl _ _))).mono ?_
    rintro e w1 ⟨s, a, b, pen, rfl, hs21, q1, q2, q3, q4, hb1⟩
    have HS := hide (show s.size ≤ maxLen by unfold maxLen; omega)
    have PS := hide (closeSpec_p s a b pen HS.out)
    go_wp2_with fail
    refine (closeImpl_p s a b pen HS.out _).mono ?_
    by_cases hok : clO s a b pen = true
    · have hv : pipeB s a b = true := by
        cases hv : pipeB s a b with
        | true => rfl
        | false => simp [clO, hv] at hok
      have hq := pipeB_yes hv
      have PI := hide fun (x y : Int) (hx : 0 ≤ x) (hy : 0 ≤ y) (hx2 : x ≤ a) (hy2 : y ≤ b) => show pipeB s x y = true from by
        simp only [pipeB, Bool.and_eq_true, inB_iff, decide_eq_true_eq] at hv ⊢; omega
      have f0 : clS s a b = s := by simp [clS, hv]
      rw [f0, hok] at PS ⊢
      cases pen with
      | true =>
        have ha : 0 < a := by simpa [clO, hv] using hok
        have f1 : clP s a b true = a - 1 := by simp [clP, hv, ha]
        have f2 : clR s a b true = b := by simp [clR, hv]
        rw [f1, f2] at PS ⊢
        clear f0 f1 f2 hok hv
        rintro e w2 ⟨rfl, hb2⟩
        have L2 := live hb2 w1.heap.size (by first | omega | (simp; done) | (simp; omega))
        have B2 : Below w.heap.size w w2 := (by repeat' (first | exact Below.refl _ _ | assumption | exact And.left (by assumption) | omega | (simp; done) | (simp; omega) | (simp at *; omega) | (refine Below.setCell ?_ ?_ _) | (refine below_alloc0 ?_ _) | (refine Below.drew ?_) | (refine below_drewN ?_ _) | (refine below_via0 ?_ (by assumption)) | (refine Below.alloc ?_ ?_ _) | (refine below_via ?_ (by assumption) ?_)))
        have hg1 : w.heap.size ≤ w1.heap.size := hb1.size
        have hg2 : w.heap.size ≤ w2.heap.size := B2.size
        have RP : Hid (Row w2 w1.heap.size 3 (rw3 s a b)) := hide (Row.below (Row.made w1 30 #[.string s, .int .i64 a, .int .i64 b] (rw3 s a b) (fun j u h => h)) hb2 (by simp))
        have RX : Hid (Row (w2.alloc (.cells #[.string s, .int .i64 (a - 1), .int .i64 b] 30)) w2.heap.size 3 (rw3 s (a - 1) b)) := hide (Row.made w2 30 #[.string s, .int .i64 (a - 1), .int .i64 b] (rw3 s (a - 1) b) (fun j u h => h))
        go_wp2_with fail
        refine (PS.out _).mono ?_
        rintro e w3 ⟨rfl, hb3⟩
        have L3 := live hb3 w1.heap.size (by first | omega | (simp; done) | (simp; omega))
        have M3 := live hb3 w2.heap.size (by first | omega | (simp; done) | (simp; omega))
        have B3 : Below w.heap.size w w3 := (by repeat' (first | exact Below.refl _ _ | assumption | exact And.left (by assumption) | omega | (simp; done) | (simp; omega) | (simp at *; omega) | (refine Below.setCell ?_ ?_ _) | (refine below_alloc0 ?_ _) | (refine Below.drew ?_) | (refine below_drewN ?_ _) | (refine below_via0 ?_ (by assumption)) | (refine Below.alloc ?_ ?_ _) | (refine below_via ?_ (by assumption) ?_)))
        have RP3 : Hid (Row w3 w1.heap.size 3 (rw3 s a b)) := hide ((RP.out.alloc _).below hb3 (by simp; omega))
        have RX3 : Hid (Row w3 w2.heap.size 3 (rw3 s (a - 1) b)) := hide (RX.out.below hb3 (by simp))
        go_wp2_with fail
        clear L2 L3 M3
        have hne : w1.heap.size ≠ w2.heap.size := fun e => by have := RP.out.lt; omega
        obtain ⟨gd, hgd⟩ : ∃ gd, gd = w1.heap.size := ⟨_, rfl⟩
        obtain ⟨xd, hxd⟩ : ∃ xd, xd = w2.heap.size := ⟨_, rfl⟩
        rw [← hgd] at RP3 hg1 hne ⊢
        rw [← hxd] at RX3 hg2 hne ⊢
        clear hgd hxd
        go_loopw [9] (fun kv wr => ∃ K : Nat, (K : Int) + 1 ≤ a ∧ kv = .int .i64 K ∧ Row wr xd 3 (rw3 s (a - 1 - K) b) ∧ Row wr gd 3 (rw3 s a b) ∧ Below w.heap.size w wr) (fun kv _ => (a - intOf kv).toNat)
        case atStart => exact ⟨0, by omega, rfl, by simpa using RX3.out.alloc _, RP3.out.alloc _, (by repeat' (first | exact Below.refl _ _ | assumption | exact And.left (by assumption) | omega | (simp; done) | (simp; omega) | (simp at *; omega) | (refine Below.setCell ?_ ?_ _) | (refine below_alloc0 ?_ _) | (refine Below.drew ?_) | (refine below_drewN ?_ _) | (refine below_via0 ?_ (by assumption)) | (refine Below.alloc ?_ ?_ _) | (refine below_via ?_ (by assumption) ?_)))⟩
        case round =>
          obtain ⟨K, hK, rfl, hx, hp, hbel⟩ := hrel
          have hxl := hx.lt
          have hpl := hp.lt
          have x0 : wr.cell? ⟨xd, 0, none⟩ = some (.string s) := hx.cell rfl
          have x1 : wr.cell? ⟨xd, 1, none⟩ = some (.int .i64 (a - 1 - K)) := hx.cell rfl
          have x2 : wr.cell? ⟨xd, 2, none⟩ = some (.int .i64 b) := hx.cell rfl
          have p0 : wr.cell? ⟨gd, 0, none⟩ = some (.string s) := hp.cell rfl
          have z0 := hx.frozen 0
          have z1 := hx.frozen 1
          have z2 := hx.frozen 2
          have CI := closeImpl_p s (a - 1 - K) b true HS.out
          have hv2 := PI.out (a - 1 - K) b (by omega) (by omega) (by omega) (by omega)
          by_cases hlt : 0 < a - 1 - K
          · have f0 : clS s (a - 1 - K) b = s := by simp [clS, hv2]
            have f1 : clP s (a - 1 - K) b true = a - 1 - K - 1 := by simp only [clP, hv2, if_true]; rw [if_pos hlt]
            have f2 : clR s (a - 1 - K) b true = b := by simp [clR, hv2]
            have f3 : clO s (a - 1 - K) b true = true := by simp only [clO, hv2, if_true]; simpa using hlt
            rw [f0, f1, f2, f3] at CI
            have HC := hide CI
            clear CI f0 f1 f2 f3 hv2
            go_wp2_with (go_at_call 30; refine (HC.out _).mono ?_; rintro e w4 ⟨rfl, hb4⟩; have N4 := live hb4 xd (by omega); have N5 := live hb4 gd (by omega))
            go_roundw
            case rel => exact ⟨K + 1, by omega, by go_num, by
              have := rw3_set (s' := s) (x' := a - 1 - K - 1) (y' := b) (hx.below hb4 hxl)
              rw [show a - 1 - ((K + 1 : Nat) : Int) = a - 1 - K - 1 by omega]
              exact this.alloc _, ((((hp.below hb4 hpl).far (p := ⟨xd, 0, none⟩) hne _).far (p := ⟨xd, 1, none⟩) hne _).far (p := ⟨xd, 2, none⟩) hne _).alloc _, (by repeat' (first | exact Below.refl _ _ | assumption | exact And.left (by assumption) | omega | (simp; done) | (simp; omega) | (simp at *; omega) | (refine Below.setCell ?_ ?_ _) | (refine below_alloc0 ?_ _) | (refine Below.drew ?_) | (refine below_drewN ?_ _) | (refine below_via0 ?_ (by assumption)) | (refine Below.alloc ?_ ?_ _) | (refine below_via ?_ (by assumption) ?_)))⟩
            case measure => simp [intOf]; omega
          · have e0 : a - 1 - (K : Int) = 0 := by omega
            have f3 : clO s (a - 1 - K) b true = false := by simp only [clO, hv2, if_true]; simpa using hlt
            rw [f3] at CI
            have HC := hide CI
            generalize clS s (a - 1 - K) b = u0 at HC
            generalize clP s (a - 1 - K) b true = u1 at HC
            generalize clR s (a - 1 - K) b true = u2 at HC
            clear CI f3 hv2
            rw [e0] at x1 HC
            go_wp2_with (go_at_call 30; refine (HC.out _).mono ?_; rintro e w4 ⟨rfl, hb4⟩; have N4 := live hb4 xd (by omega); have N5 := live hb4 gd (by omega))
            go_ret
            exact ⟨rfl, (by repeat' (first | exact Below.refl _ _ | assumption | exact And.left (by assumption) | omega | (simp; done) | (simp; omega) | (simp at *; omega) | (refine Below.setCell ?_ ?_ _) | (refine below_alloc0 ?_ _) | (refine Below.drew ?_) | (refine below_drewN ?_ _) | (refine below_via0 ?_ (by assumption)) | (refine Below.alloc ?_ ?_ _) | (refine below_via ?_ (by assumption) ?_)))⟩
      | false =>
        have ha : 0 < b := by simpa [clO, hv] using hok
        have f1 : clP s a b false = a := by simp [clP, hv]
        have f2 : clR s a b false = b - 1 := by simp [clR, hv, ha]
        rw [f1, f2] at PS ⊢
        clear f0 f1 f2 hok hv
        rintro e w2 ⟨rfl, hb2⟩
        have L2 := live hb2 w1.heap.size (by first | omega | (simp; done) | (simp; omega))
        have B2 : Below w.heap.size w w2 := (by repeat' (first | exact Below.refl _ _ | assumption | exact And.left (by assumption) | omega | (simp; done) | (simp; omega) | (simp at *; omega) | (refine Below.setCell ?_ ?_ _) | (refine below_alloc0 ?_ _) | (refine Below.drew ?_) | (refine below_drewN ?_ _) | (refine below_via0 ?_ (by assumption)) | (refine Below.alloc ?_ ?_ _) | (refine below_via ?_ (by assumption) ?_)))
        have hg1 : w.heap.size ≤ w1.heap.size := hb1.size
        have hg2 : w.heap.size ≤ w2.heap.size := B2.size
        have RP : Hid (Row w2 w1.heap.size 3 (rw3 s a b)) := hide (Row.below (Row.made w1 30 #[.string s, .int .i64 a, .int .i64 b] (rw3 s a b) (fun j u h => h)) hb2 (by simp))
        have RX : Hid (Row (w2.alloc (.cells #[.string s, .int .i64 a, .int .i64 (b - 1)] 30)) w2.heap.size 3 (rw3 s a (b - 1))) := hide (Row.made w2 30 #[.string s, .int .i64 a, .int .i64 (b - 1)] (rw3 s a (b - 1)) (fun j u h => h))
        go_wp2_with fail
        refine (PS.out _).mono ?_
        rintro e w3 ⟨rfl, hb3⟩
        have L3 := live hb3 w1.heap.size (by first | omega | (simp; done) | (simp; omega))
        have M3 := live hb3 w2.heap.size (by first | omega | (simp; done) | (simp; omega))
        have B3 : Below w.heap.size w w3 := (by repeat' (first | exact Below.refl _ _ | assumption | exact And.left (by assumption) | omega | (simp; done) | (simp; omega) | (simp at *; omega) | (refine Below.setCell ?_ ?_ _) | (refine below_alloc0 ?_ _) | (refine Below.drew ?_) | (refine below_drewN ?_ _) | (refine below_via0 ?_ (by assumption)) | (refine Below.alloc ?_ ?_ _) | (refine below_via ?_ (by assumption) ?_)))
        have RP3 : Hid (Row w3 w1.heap.size 3 (rw3 s a b)) := hide ((RP.out.alloc _).below hb3 (by simp; omega))
        have RX3 : Hid (Row w3 w2.heap.size 3 (rw3 s a (b - 1))) := hide (RX.out.below hb3 (by simp))
        go_wp2_with fail
        clear L2 L3 M3
        have hne : w1.heap.size ≠ w2.heap.size := fun e => by have := RP.out.lt; omega
        obtain ⟨gd, hgd⟩ : ∃ gd, gd = w1.heap.size := ⟨_, rfl⟩
        obtain ⟨xd, hxd⟩ : ∃ xd, xd = w2.heap.size := ⟨_, rfl⟩
        rw [← hgd] at RP3 hg1 hne ⊢
        rw [← hxd] at RX3 hg2 hne ⊢
        clear hgd hxd
        go_loopw [9] (fun kv wr => ∃ K : Nat, (K : Int) + 1 ≤ b ∧ kv = .int .i64 K ∧ Row wr xd 3 (rw3 s a (b - 1 - K)) ∧ Row wr gd 3 (rw3 s a b) ∧ Below w.heap.size w wr) (fun kv _ => (b - intOf kv).toNat)
        case atStart => exact ⟨0, by omega, rfl, by simpa using RX3.out.alloc _, RP3.out.alloc _, (by repeat' (first | exact Below.refl _ _ | assumption | exact And.left (by assumption) | omega | (simp; done) | (simp; omega) | (simp at *; omega) | (refine Below.setCell ?_ ?_ _) | (refine below_alloc0 ?_ _) | (refine Below.drew ?_) | (refine below_drewN ?_ _) | (refine below_via0 ?_ (by assumption)) | (refine Below.alloc ?_ ?_ _) | (refine below_via ?_ (by assumption) ?_)))⟩
        case round =>
          obtain ⟨K, hK, rfl, hx, hp, hbel⟩ := hrel
          have hxl := hx.lt
          have hpl := hp.lt
          have x0 : wr.cell? ⟨xd, 0, none⟩ = some (.string s) := hx.cell rfl
          have x1 : wr.cell? ⟨xd, 1, none⟩ = some (.int .i64 a) := hx.cell rfl
          have x2 : wr.cell? ⟨xd, 2, none⟩ = some (.int .i64 (b - 1 - K)) := hx.cell rfl
          have p0 : wr.cell? ⟨gd, 0, none⟩ = some (.string s) := hp.cell rfl
          have z0 := hx.frozen 0
          have z1 := hx.frozen 1
          have z2 := hx.frozen 2
          have CI := closeImpl_p s a (b - 1 - K) false HS.out
          have hv2 := PI.out a (b - 1 - K) (by omega) (by omega) (by omega) (by omega)
          by_cases hlt : 0 < b - 1 - K
          · have f0 : clS s a (b - 1 - K) = s := by simp [clS, hv2]
            have f1 : clP s a (b - 1 - K) false = a := by simp [clP, hv2]
            have f2 : clR s a (b - 1 - K) false = b - 1 - K - 1 := by simp only [clR, hv2, if_true, Bool.false_eq_true, if_false]; rw [if_pos hlt]
            have f3 : clO s a (b - 1 - K) false = true := by simp only [clO, hv2, if_true, Bool.false_eq_true, if_false]; simpa using hlt
            rw [f0, f1, f2, f3] at CI
            have HC := hide CI
            clear CI f0 f1 f2 f3 hv2
            go_wp2_with (go_at_call 30; refine (HC.out _).mono ?_; rintro e w4 ⟨rfl, hb4⟩; have N4 := live hb4 xd (by omega); have N5 := live hb4 gd (by omega))
            go_roundw
            case rel => exact ⟨K + 1, by omega, by go_num, by
              have := rw3_set (s' := s) (x' := a) (y' := b - 1 - K - 1) (hx.below hb4 hxl)
              rw [show b - 1 - ((K + 1 : Nat) : Int) = b - 1 - K - 1 by omega]
              exact this.alloc _, ((((hp.below hb4 hpl).far (p := ⟨xd, 0, none⟩) hne _).far (p := ⟨xd, 1, none⟩) hne _).far (p := ⟨xd, 2, none⟩) hne _).alloc _, (by repeat' (first | exact Below.refl _ _ | assumption | exact And.left (by assumption) | omega | (simp; done) | (simp; omega) | (simp at *; omega) | (refine Below.setCell ?_ ?_ _) | (refine below_alloc0 ?_ _) | (refine Below.drew ?_) | (refine below_drewN ?_ _) | (refine below_via0 ?_ (by assumption)) | (refine Below.alloc ?_ ?_ _) | (refine below_via ?_ (by assumption) ?_)))⟩
            case measure => simp [intOf]; omega
          · have e0 : b - 1 - (K : Int) = 0 := by omega
            have f3 : clO s a (b - 1 - K) false = false := by simp only [clO, hv2, if_true, Bool.false_eq_true, if_false]; simpa using hlt
            rw [f3] at CI
            have HC := hide CI
            generalize clS s a (b - 1 - K) = u0 at HC
            generalize clP s a (b - 1 - K) false = u1 at HC
            generalize clR s a (b - 1 - K) false = u2 at HC
            clear CI f3 hv2
            rw [e0] at x2 HC
            go_wp2_with (go_at_call 30; refine (HC.out _).mono ?_; rintro e w4 ⟨rfl, hb4⟩; have N4 := live hb4 xd (by omega); have N5 := live hb4 gd (by omega))
            go_ret
            exact ⟨rfl, (by repeat' (first | exact Below.refl _ _ | assumption | exact And.left (by assumption) | omega | (simp; done) | (simp; omega) | (simp at *; omega) | (refine Below.setCell ?_ ?_ _) | (refine below_alloc0 ?_ _) | (refine Below.drew ?_) | (refine below_drewN ?_ _) | (refine below_via0 ?_ (by assumption)) | (refine Below.alloc ?_ ?_ _) | (refine below_via ?_ (by assumption) ?_)))⟩
    · have HZ : (clO s a b pen = false ∧ clS s a b = s ∧ clP s a b pen = a ∧ clR s a b pen = b) ∨ (clO s a b pen = false ∧ clS s a b = ⟨#[]⟩ ∧ clP s a b pen = 0 ∧ clR s a b pen = 0) := by
        have h0 : clO s a b pen = false := by simpa using hok
        cases hv : pipeB s a b with
        | false => right; simp [clS, clP, clR, emptyS, hv, h0]
        | true =>
          left
          refine ⟨h0, by simp [clS, hv], ?_⟩
          cases pen
          · have : ¬ 0 < b := by simpa [clO, hv] using h0
            simp [clP, clR, hv, this]
          · have : ¬ 0 < a := by simpa [clO, hv] using h0
            simp [clP, clR, hv, this]
      clear hok
      rcases HZ with ⟨f1, f2, f3, f4⟩ | ⟨f1, f2, f3, f4⟩
      all_goals
        rw [f1, f2, f3, f4] at PS ⊢
        clear f1 f2 f3 f4
        rintro e w2 ⟨rfl, hb2⟩
        have L2 := live hb2 w1.heap.size (by first | omega | (simp; done) | (simp; omega))
        have B2 : Below w.heap.size w w2 := (by repeat' (first | exact Below.refl _ _ | assumption | exact And.left (by assumption) | omega | (simp; done) | (simp; omega) | (simp at *; omega) | (refine Below.setCell ?_ ?_ _) | (refine below_alloc0 ?_ _) | (refine Below.drew ?_) | (refine below_drewN ?_ _) | (refine below_via0 ?_ (by assumption)) | (refine Below.alloc ?_ ?_ _) | (refine below_via ?_ (by assumption) ?_)))
        go_wp2_with fail
        refine (PS.out _).mono ?_
        rintro e w3 ⟨rfl, hb3⟩
        have L3 := live hb3 w1.heap.size (by first | omega | (simp; done) | (simp; omega))
        have M3 := live hb3 w2.heap.size (by first | omega | (simp; done) | (simp; omega))
        have B3 : Below w.heap.size w w3 := (by repeat' (first | exact Below.refl _ _ | assumption | exact And.left (by assumption) | omega | (simp; done) | (simp; omega) | (simp at *; omega) | (refine Below.setCell ?_ ?_ _) | (refine below_alloc0 ?_ _) | (refine Below.drew ?_) | (refine below_drewN ?_ _) | (refine below_via0 ?_ (by assumption)) | (refine Below.alloc ?_ ?_ _) | (refine below_via ?_ (by assumption) ?_)))
        go_wp2_with (go_at_call 15; refine (alive_c _).mono ?_; rintro e w5 ⟨rfl, hb5⟩; have B5 : Below w.heap.size w w5 := (by repeat' (first | exact Below.refl _ _ | assumption | exact And.left (by assumption) | omega | (simp; done) | (simp; omega) | (simp at *; omega) | (refine Below.setCell ?_ ?_ _) | (refine below_alloc0 ?_ _) | (refine Below.drew ?_) | (refine below_drewN ?_ _) | (refine below_via0 ?_ (by assumption)) | (refine Below.alloc ?_ ?_ _) | (refine below_via ?_ (by assumption) ?_))))
        all_goals
          go_ret
          exact ⟨rfl, (by repeat' (first | exact Below.refl _ _ | assumption | exact And.left (by assumption) | omega | (simp; done) | (simp; omega) | (simp at *; omega) | (refine Below.setCell ?_ ?_ _) | (refine below_alloc0 ?_ _) | (refine Below.drew ?_) | (refine below_drewN ?_ _) | (refine below_via0 ?_ (by assumption)) | (refine Below.alloc ?_ ?_ _) | (refine below_via ?_ (by assumption) ?_)))⟩
end Go.Proofs.Ytheblgfgcmkdiaa
