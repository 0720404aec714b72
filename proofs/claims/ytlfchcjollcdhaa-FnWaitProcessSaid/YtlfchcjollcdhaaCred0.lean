/-
  Credentials that are valid as drawn. No condition.
-/
import Derived.Test.YtlfchcjollcdhaaProg
import Derived.Test.YtlfchcjollcdhaaCred
import Derived.Test.YtlfchcjollcdhaaCv
namespace Go.Proofs.Ytlfchcjollcdhaa
open Go.RowKit
set_option linter.unusedSimpArgs false
set_option linter.unusedVariables false

def DrewCred0 (w0 : World) (B r k : Nat) (w : World) (e : Ending) (w' : World) : Prop :=
  ∃ x a s g : Int, e = .returned (.agg #[.int .i64 x, .int .i64 a, .int .i64 s, .int .i64 g]) ∧ credB x a s g = true ∧ St w0 B r k w' ∧ Aside r w w'
theorem four_cells0 (w : World) (T : TypeId) (y : Int) (z : Nat) (hz : z < 4) (hy : 0 ≤ y ∧ y < 256) : ∃ v : Int, inB v 0 255 = true ∧ (w.alloc (.cells #[.int .i64 0, .int .i64 2, .int .i64 4, .int .i64 y] T)).cell? ⟨w.heap.size, z, none⟩ = some (.int .i64 v) := by
  have hr := Row.made w T #[Value.int .i64 0, .int .i64 2, .int .i64 4, .int .i64 y] (fun j => #[Value.int .i64 0, .int .i64 2, .int .i64 4, .int .i64 y][j]?) (fun _ _ h => h)
  obtain rfl | rfl | rfl | rfl : z = 0 ∨ z = 1 ∨ z = 2 ∨ z = 3 := by omega
  · exact ⟨0, by decide, hr.cell rfl⟩
  · exact ⟨2, by decide, hr.cell rfl⟩
  · exact ⟨4, by decide, hr.cell rfl⟩
  · exact ⟨y, inB_iff.2 (by omega), hr.cell rfl⟩
set_option maxHeartbeats 4000000 in
theorem drawCred0_c (B r k : Nat) (w : World) (hk : k ≤ 90000) (h : Rdr w B r k) :
    Calls Try.prog 51 #[.pointer (some ⟨r, 0, none⟩), .int .i64 0] w fun e w' => DrewCred0 w B r (k + 20) w e w' := by
  have hs := St.start h
  obtain ⟨z1, z2, _⟩ := hs.size
  go_enter Try.func51, Try.ntmps51
  go_wp2_with fail
  refine (drawUser_c w B r k _ (by omega) (hs.alloc _)).mono ?_
  rintro e w1 ⟨u, rfl, u0, u1, hs1, ha1⟩
  have y1 := hs1.size.2.2
  have L1 := liveA ha1 w.heap.size (by simp) (by omega)
  go_wp2_with fail
  refine (pick_s w B r _ 256 _ (by omega) (by omega) ?_ hs1).mono ?_
  · omega
  rintro e w2 ⟨y, rfl, yy0, yy1, hs2, ha2⟩
  have y2 := hs2.size.2.2
  have L2 := liveA ha2 w.heap.size (by first | omega | (simp; done) | (simp; omega)) (by omega)
  go_wp2_with fail
  refine (pick_s w B r _ 4 _ (by omega) (by omega) ?_ (hs2.alloc _)).mono ?_
  · omega
  rintro e w3 ⟨z, rfl, zz0, zz1, hs3, ha3⟩
  have y3 := hs3.size.2.2
  have L3 := liveA ha3 w.heap.size (by simp; omega) (by omega)
  obtain ⟨z, rfl⟩ := Int.eq_ofNat_of_zero_le zz0
  have hz4 : z < 4 := by omega
  obtain ⟨gz, hzb, hgz⟩ := four_cells0 w2 3 y z hz4 ⟨yy0, yy1⟩
  have hgz3 := (ha3.cell (show w2.heap.size < _ by simp) (by omega) z).trans hgz
  clear hgz
  have zi : (z : Int) < 4 := by omega
  go_wp2_with fail
  refine (pick_s w B r _ 3 _ (by omega) (by omega) ?_ (hs3.alloc _)).mono ?_
  · omega
  rintro e w4 ⟨q, rfl, q0, q1, hs4, ha4⟩
  have y4 := hs4.size.2.2
  have L4 := liveA ha4 w.heap.size (by simp; omega) (by omega)
  have M4 := liveA ha4 w3.heap.size (by simp) (by omega)
  clear hgz3
  by_cases hq : q = 0
  · subst hq
    go_wp2_with fail
    refine (drawUser_c w B r _ _ ?_ hs4).mono ?_
    · omega
    rintro e w5 ⟨u5, rfl, v0, v1, hs5, ha5⟩
    have y5 := hs5.size.2.2
    have L5 := liveA ha5 w.heap.size (by omega) (by omega)
    have M5 := liveA ha5 w3.heap.size (by omega) (by omega)
    go_wp2_with fail
    refine (drawUser_c w B r _ _ ?_ (hs5.setNew (p := ⟨w3.heap.size, _, none⟩) (by simp; omega) _)).mono ?_
    · omega
    rintro e w6 ⟨u6, rfl, v0', v1', hs6, ha6⟩
    have y6 := hs6.size.2.2
    have L6 := liveA ha6 w.heap.size (by simp; omega) (by omega)
    have M6 := liveA ha6 w3.heap.size (by simp; omega) (by omega)
    go_wp2_with fail
    refine (odd_0 r _).mono ?_
    rintro e w7 ⟨rfl, rfl⟩
    go_wp2_with fail
    exact bodyPost_ret (v := .agg #[.int .i64 u, .int .i64 u5, .int .i64 u6, .int .i64 gz]) (by simp [results, Try.results51, go_sem, L6, L5, L4, L3, L2, L1]) rfl ⟨_, _, _, _, rfl, (show credB _ _ _ _ = true by simp only [credB, Bool.and_eq_true]; exact ⟨inB_iff.2 (by omega), inB_iff.2 (by omega), inB_iff.2 (by omega), hzb⟩), (show St w B r _ _ from ((hs6.setNew (p := ⟨w3.heap.size, 2, none⟩) (by simp; omega) (.int .i64 u6)).setNew (p := ⟨w.heap.size, _, none⟩) (Nat.le_refl _) _ |>.setNew (p := ⟨w.heap.size, _, none⟩) (Nat.le_refl _) _ |>.setNew (p := ⟨w.heap.size, _, none⟩) (Nat.le_refl _) _ |>.setNew (p := ⟨w.heap.size, _, none⟩) (Nat.le_refl _) _)).mono (by omega), ((hs6.setNew (p := ⟨w3.heap.size, 2, none⟩) (by simp; omega) (.int .i64 u6)).setNew (p := ⟨w.heap.size, _, none⟩) (Nat.le_refl _) _ |>.setNew (p := ⟨w.heap.size, _, none⟩) (Nat.le_refl _) _ |>.setNew (p := ⟨w.heap.size, _, none⟩) (Nat.le_refl _) _ |>.setNew (p := ⟨w.heap.size, _, none⟩) (Nat.le_refl _) _).2.1⟩
  · have hq' : (q == 0) = false := by simpa using hq
    clear hq
    go_wp2_with fail
    refine (odd_0 r _).mono ?_
    rintro e w7 ⟨rfl, rfl⟩
    go_wp2_with fail
    exact bodyPost_ret (v := .agg #[.int .i64 u, .int .i64 u, .int .i64 u, .int .i64 gz]) (by simp [results, Try.results51, go_sem, L4, L3, L2, L1]) rfl ⟨_, _, _, _, rfl, (show credB _ _ _ _ = true by simp only [credB, Bool.and_eq_true]; exact ⟨inB_iff.2 (by omega), inB_iff.2 (by omega), inB_iff.2 (by omega), hzb⟩), (show St w B r _ _ from (hs4.setNew (p := ⟨w.heap.size, _, none⟩) (Nat.le_refl _) _ |>.setNew (p := ⟨w.heap.size, _, none⟩) (Nat.le_refl _) _ |>.setNew (p := ⟨w.heap.size, _, none⟩) (Nat.le_refl _) _ |>.setNew (p := ⟨w.heap.size, _, none⟩) (Nat.le_refl _) _)).mono (by omega), (hs4.setNew (p := ⟨w.heap.size, _, none⟩) (Nat.le_refl _) _ |>.setNew (p := ⟨w.heap.size, _, none⟩) (Nat.le_refl _) _ |>.setNew (p := ⟨w.heap.size, _, none⟩) (Nat.le_refl _) _ |>.setNew (p := ⟨w.heap.size, _, none⟩) (Nat.le_refl _) _).2.1⟩
end Go.Proofs.Ytlfchcjollcdhaa
