/-
  What is drawn: signals. No condition.
-/
import Derived.Test.YtheblgfgcmkdiaaProg
import Derived.Test.YtheblgfgcmkdiaaDraw
import Derived.Test.YtheblgfgcmkdiaaFlow
import Derived.Deep.RegionWith
namespace Go.Proofs.Ytheblgfgcmkdiaa
open Go.RowKit
set_option linter.unusedSimpArgs false
set_option linter.unusedVariables false

theorem InB.below {w w' : World} {A : Option Addr} {n c : Nat} (h : InB w A n c) (hb : Below w.heap.size w w') : InB w' A n c :=
  ⟨h.1, h.2.1, fun h0 => by
    obtain ⟨b, off, hA, hlt, hne, hc⟩ := h.2.2 h0
    have := hb.size
    refine ⟨b, off, hA, by omega, by omega, fun i hi => ?_⟩
    obtain ⟨x, h1, h2, h3⟩ := hc i hi
    exact ⟨x, h1, h2, (hb.cell (p := ⟨b, _, none⟩) hlt).trans h3⟩⟩
def DrewSig (w0 : World) (B r k : Nat) (w : World) (e : Ending) (w' : World) : Prop :=
  ∃ a b : Int, e = .returned (.agg #[.int .i64 a, .int .i64 b]) ∧ St w0 B r k w' ∧ Aside r w w'
set_option maxHeartbeats 2000000 in
theorem drawSig_c (B r k : Nat) (n : Int) (w : World) (hn : 1 ≤ n) (hn2 : n ≤ 1000000) (hk : k ≤ 100000) (h : Rdr w B r k) :
    Calls Try.prog 41 #[.pointer (some ⟨r, 0, none⟩), .int .i64 n] w fun e w' => DrewSig w B r (k + 4) w e w' := by
  have hs := St.start h
  obtain ⟨z1, z2, _⟩ := hs.size
  go_enter Try.func41, Try.ntmps41
  go_wp2_with fail
  refine (odd_s w B r k n _ hn (by omega) (by omega) (by repeat' (first | assumption | exact St.start (by assumption) | (refine St.setNew ?_ (by first | omega | (simp; omega)) _) | (refine St.alloc ?_ _) | (refine St.drew ?_) | (refine St.drewN ?_ _)))).mono ?_
  rintro e w1 ⟨o, rfl, hs1, ha1⟩
  have y1 := hs1.size.2.2
  have L1 := liveA ha1 w.heap.size (by simp) (by omega)
  cases o with
  | true =>
    go_wp2_with fail
    refine (pick_s w B r (k + 1) 4 _ (by omega) (by omega) (by omega) (by repeat' (first | assumption | exact St.start (by assumption) | (refine St.setNew ?_ (by first | omega | (simp; omega)) _) | (refine St.alloc ?_ _) | (refine St.drew ?_) | (refine St.drewN ?_ _)))).mono ?_
    rintro e w2 ⟨x, rfl, x0, x1, hs2, ha2⟩
    have M2 := liveA ha2 w.heap.size (by simp; omega) (by omega)
    have L2 := liveA ha2 w1.heap.size (by simp) (by omega)
    have y2 := hs2.size.2.2
    obtain rfl | rfl | rfl | rfl : x = 0 ∨ x = 1 ∨ x = 2 ∨ x = 3 := by omega
    all_goals
      go_wp2_with fail
      exact bodyPost_ret (v := .agg #[.int .i64 _, .int .i64 _]) (by simp [results, Try.results41, go_sem, M2, L1]; exact ⟨rfl, rfl⟩) rfl ⟨_, _, rfl, (show St w B r (k + 1 + 1) _ from (by repeat' (first | assumption | exact St.start (by assumption) | (refine St.setNew ?_ (by first | omega | (simp; omega)) _) | (refine St.alloc ?_ _) | (refine St.drew ?_) | (refine St.drewN ?_ _)))).mono (by omega), (show St w B r (k + 1 + 1) _ from (by repeat' (first | assumption | exact St.start (by assumption) | (refine St.setNew ?_ (by first | omega | (simp; omega)) _) | (refine St.alloc ?_ _) | (refine St.drew ?_) | (refine St.drewN ?_ _)))).2.1⟩
  | false =>
    go_wp2_with fail
    refine (pick_s w B r (k + 1) _ _ (by omega) (by omega) (by omega) (by repeat' (first | assumption | exact St.start (by assumption) | (refine St.setNew ?_ (by first | omega | (simp; omega)) _) | (refine St.alloc ?_ _) | (refine St.drew ?_) | (refine St.drewN ?_ _)))).mono ?_
    rintro e w2 ⟨x, rfl, x0, x1, hs2, ha2⟩
    have M2 := liveA ha2 w.heap.size (by first | omega | (simp; done) | (simp; omega)) (by omega)
    have y2 := hs2.size.2.2
    go_wp2_with fail
    refine (pick_s w B r (k + 1 + 1) _ _ (by omega) (by omega) (by omega) (by repeat' (first | assumption | exact St.start (by assumption) | (refine St.setNew ?_ (by first | omega | (simp; omega)) _) | (refine St.alloc ?_ _) | (refine St.drew ?_) | (refine St.drewN ?_ _)))).mono ?_
    rintro e w3 ⟨y, rfl, yy0, yy1, hs3, ha3⟩
    have M3 := liveA ha3 w.heap.size (by first | omega | (simp; done) | (simp; omega)) (by omega)
    have y3 := hs3.size.2.2
    go_wp2_with fail
    refine (pick_s w B r (k + 1 + 1 + 1) _ _ (by omega) (by omega) (by omega) (by repeat' (first | assumption | exact St.start (by assumption) | (refine St.setNew ?_ (by first | omega | (simp; omega)) _) | (refine St.alloc ?_ _) | (refine St.drew ?_) | (refine St.drewN ?_ _)))).mono ?_
    rintro e w4 ⟨z, rfl, zz0, zz1, hs4, ha4⟩
    have M4 := liveA ha4 w.heap.size (by first | omega | (simp; done) | (simp; omega)) (by omega)
    have y4 := hs4.size.2.2
    have L4 := liveA ha4 w3.heap.size (by first | omega | (simp; done) | (simp; omega)) (by omega)
    obtain rfl | rfl : z = 0 ∨ z = 1 := by omega
    all_goals
      go_wp2_with fail
      exact bodyPost_ret (v := .agg #[.int .i64 _, .int .i64 _]) (by simp [results, Try.results41, go_sem, M4, M3, M2, L1]; exact ⟨rfl, rfl⟩) rfl ⟨_, _, rfl, (show St w B r (k + 1 + 1 + 1 + 1) _ from (by repeat' (first | assumption | exact St.start (by assumption) | (refine St.setNew ?_ (by first | omega | (simp; omega)) _) | (refine St.alloc ?_ _) | (refine St.drew ?_) | (refine St.drewN ?_ _)))).mono (by omega), (show St w B r (k + 1 + 1 + 1 + 1) _ from (by repeat' (first | assumption | exact St.start (by assumption) | (refine St.setNew ?_ (by first | omega | (simp; omega)) _) | (refine St.alloc ?_ _) | (refine St.drew ?_) | (refine St.drewN ?_ _)))).2.1⟩

end Go.Proofs.Ytheblgfgcmkdiaa
