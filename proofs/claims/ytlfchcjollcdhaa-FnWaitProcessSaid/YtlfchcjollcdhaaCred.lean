/-
  What is drawn: users and credentials. No condition.
-/
import Derived.Test.YtlfchcjollcdhaaProg
import Derived.Test.YtlfchcjollcdhaaDraw
namespace Go.Proofs.Ytlfchcjollcdhaa
open Go.RowKit
set_option linter.unusedSimpArgs false
set_option linter.unusedVariables false

set_option maxHeartbeats 1000000 in
theorem drawUser_c (w0 : World) (B r k : Nat) (w : World) (hk : k ≤ 100000) (h : St w0 B r k w) :
    Calls Try.prog 53 #[.pointer (some ⟨r, 0, none⟩)] w fun e w' => ∃ x : Int, e = .returned (.int .i64 x) ∧ 0 ≤ x ∧ x ≤ 7 ∧ St w0 B r (k + 1) w' ∧ Aside r w w' := by
  obtain ⟨z1, z2, z3⟩ := h.size
  go_enter Try.func53, Try.ntmps53
  go_wp2_with fail
  refine (pick_s w0 B r k 4 _ (by omega) (by omega) (by omega) (h.alloc _)).mono ?_
  rintro e w1 ⟨x, rfl, x0, x1, hs1, ha1⟩
  have L1 := liveA ha1 w.heap.size (by simp) (by omega)
  obtain rfl | rfl | rfl | rfl : x = 0 ∨ x = 1 ∨ x = 2 ∨ x = 3 := by omega
  all_goals
    go_wp2_with fail
    go_ret
    exact ⟨_, rfl, by decide, by decide, hs1, (Aside.refl r w |>.alloc _).trans ha1⟩

def DrewCred (w0 : World) (B r k : Nat) (w : World) (e : Ending) (w' : World) : Prop :=
  ∃ x a s g : Int, e = .returned (.agg #[.int .i64 x, .int .i64 a, .int .i64 s, .int .i64 g]) ∧ St w0 B r k w' ∧ Aside r w w'
theorem four_cells (w : World) (T : TypeId) (y : Int) (z : Nat) (hz : z < 4) : ∃ v : Int, (w.alloc (.cells #[.int .i64 0, .int .i64 2, .int .i64 4, .int .i64 y] T)).cell? ⟨w.heap.size, z, none⟩ = some (.int .i64 v) := by
  have hr := Row.made w T #[Value.int .i64 0, .int .i64 2, .int .i64 4, .int .i64 y] (fun j => #[Value.int .i64 0, .int .i64 2, .int .i64 4, .int .i64 y][j]?) (fun _ _ h => h)
  obtain rfl | rfl | rfl | rfl : z = 0 ∨ z = 1 ∨ z = 2 ∨ z = 3 := by omega
  · exact ⟨0, hr.cell rfl⟩
  · exact ⟨2, hr.cell rfl⟩
  · exact ⟨4, hr.cell rfl⟩
  · exact ⟨y, hr.cell rfl⟩
set_option maxHeartbeats 4000000 in
theorem drawCred_c (B r k : Nat) (n : Int) (w : World) (hn : 1 ≤ n) (hn2 : n ≤ 1000000) (hk : k ≤ 90000) (h : Rdr w B r k) :
    Calls Try.prog 51 #[.pointer (some ⟨r, 0, none⟩), .int .i64 n] w fun e w' => DrewCred w B r (k + 20) w e w' := by
  have hs := St.start h
  obtain ⟨z1, z2, _⟩ := hs.size
  go_enter Try.func51, Try.ntmps51
  go_wp2_with fail
  refine (drawUser_c w B r k _ (by omega) (hs.alloc _)).mono ?_
  rintro e w1 ⟨u, rfl, u0, u1, hs1, ha1⟩
  have y1 := hs1.size.2.2
  have L1 := liveA ha1 w.heap.size (by simp) (by omega)
  go_wp2_with fail
  refine (pick_s w B r _ 256 _ (by omega) (by omega) ?_ hs1).mono ?_
  · omega
  rintro e w2 ⟨y, rfl, yy0, yy1, hs2, ha2⟩
  have y2 := hs2.size.2.2
  have L2 := liveA ha2 w.heap.size (by first | omega | (simp; done) | (simp; omega)) (by omega)
  go_wp2_with fail
  refine (pick_s w B r _ 4 _ (by omega) (by omega) ?_ (hs2.alloc _)).mono ?_
  · omega
  rintro e w3 ⟨z, rfl, zz0, zz1, hs3, ha3⟩
  have y3 := hs3.size.2.2
  have L3 := liveA ha3 w.heap.size (by simp; omega) (by omega)
  obtain ⟨z, rfl⟩ := Int.eq_ofNat_of_zero_le zz0
  have hz4 : z < 4 := by omega
  obtain ⟨gz, hgz⟩ := four_cells w2 3 y z hz4
  have hgz3 := (ha3.cell (show w2.heap.size < _ by simp) (by omega) z).trans hgz
  clear hgz
  have zi : (z : Int) < 4 := by omega
  go_wp2_with fail
  refine (pick_s w B r _ 3 _ (by omega) (by omega) ?_ (hs3.alloc _)).mono ?_
  · omega
  rintro e w4 ⟨q, rfl, q0, q1, hs4, ha4⟩
  have y4 := hs4.size.2.2
  have L4 := liveA ha4 w.heap.size (by simp; omega) (by omega)
  have M4 := liveA ha4 w3.heap.size (by simp) (by omega)
  clear hgz3
  by_cases hq : q = 0
  · subst hq
    go_wp2_with fail
    refine (drawUser_c w B r _ _ ?_ hs4).mono ?_
    · omega
    rintro e w5 ⟨u5, rfl, v0, v1, hs5, ha5⟩
    have y5 := hs5.size.2.2
    have L5 := liveA ha5 w.heap.size (by omega) (by omega)
    have M5 := liveA ha5 w3.heap.size (by omega) (by omega)
    go_wp2_with fail
    refine (drawUser_c w B r _ _ ?_ (hs5.setNew (p := ⟨w3.heap.size, _, none⟩) (by simp; omega) _)).mono ?_
    · omega
    rintro e w6 ⟨u6, rfl, v0', v1', hs6, ha6⟩
    have y6 := hs6.size.2.2
    have L6 := liveA ha6 w.heap.size (by simp; omega) (by omega)
    have M6 := liveA ha6 w3.heap.size (by simp; omega) (by omega)
    go_wp2_with fail
    refine (odd_s w B r _ n _ hn (by omega) ?_ (hs6.setNew (p := ⟨w3.heap.size, _, none⟩) (by simp; omega) _)).mono ?_
    · omega
    rintro e w7 ⟨o, rfl, hs7, ha7⟩
    have y7 := hs7.size.2.2
    have L7 := liveA ha7 w.heap.size (by simp; omega) (by omega)
    have M7 := liveA ha7 w3.heap.size (by simp; omega) (by omega)
    cases o with
    | false =>
      go_wp2_with fail
      exact bodyPost_ret (v := .agg #[.int .i64 u, .int .i64 u5, .int .i64 u6, .int .i64 gz]) (by simp [results, Try.results51, go_sem, L7, L6, L5, L4, L3, L2, L1]) rfl ⟨_, _, _, _, rfl, (show St w B r _ _ from (hs7.setNew (p := ⟨w.heap.size, _, none⟩) (Nat.le_refl _) _ |>.setNew (p := ⟨w.heap.size, _, none⟩) (Nat.le_refl _) _ |>.setNew (p := ⟨w.heap.size, _, none⟩) (Nat.le_refl _) _ |>.setNew (p := ⟨w.heap.size, _, none⟩) (Nat.le_refl _) _)).mono (by omega), (hs7.setNew (p := ⟨w.heap.size, _, none⟩) (Nat.le_refl _) _ |>.setNew (p := ⟨w.heap.size, _, none⟩) (Nat.le_refl _) _ |>.setNew (p := ⟨w.heap.size, _, none⟩) (Nat.le_refl _) _ |>.setNew (p := ⟨w.heap.size, _, none⟩) (Nat.le_refl _) _).2.1⟩
    | true =>
      go_wp2_with fail
      refine (pick_s w B r _ 4 _ (by omega) (by omega) ?_ (hs7.alloc _)).mono ?_
      · omega
      rintro e w8 ⟨x, rfl, x0, x1, hs8, ha8⟩
      have L8 := liveA ha8 w.heap.size (by simp; omega) (by omega)
      have M8 := liveA ha8 w7.heap.size (by simp) (by omega)
      obtain rfl | rfl | rfl | rfl : x = 0 ∨ x = 1 ∨ x = 2 ∨ x = 3 := by omega
      · go_wp2_with fail
        exact bodyPost_ret (v := .agg #[.int .i64 (-1), .int .i64 0, .int .i64 0, .int .i64 0]) (by simp [results, Try.results51, go_sem, L8, L7, L6, L5, L4, L3, L2, L1]) rfl ⟨_, _, _, _, rfl, (show St w B r _ _ from (hs8.setNew (p := ⟨w.heap.size, _, none⟩) (Nat.le_refl _) _ |>.setNew (p := ⟨w.heap.size, _, none⟩) (Nat.le_refl _) _ |>.setNew (p := ⟨w.heap.size, _, none⟩) (Nat.le_refl _) _ |>.setNew (p := ⟨w.heap.size, _, none⟩) (Nat.le_refl _) _)).mono (by omega), (hs8.setNew (p := ⟨w.heap.size, _, none⟩) (Nat.le_refl _) _ |>.setNew (p := ⟨w.heap.size, _, none⟩) (Nat.le_refl _) _ |>.setNew (p := ⟨w.heap.size, _, none⟩) (Nat.le_refl _) _ |>.setNew (p := ⟨w.heap.size, _, none⟩) (Nat.le_refl _) _).2.1⟩
      · go_wp2_with fail
        exact bodyPost_ret (v := .agg #[.int .i64 0, .int .i64 100, .int .i64 0, .int .i64 0]) (by simp [results, Try.results51, go_sem, L8, L7, L6, L5, L4, L3, L2, L1]) rfl ⟨_, _, _, _, rfl, (show St w B r _ _ from (hs8.setNew (p := ⟨w.heap.size, _, none⟩) (Nat.le_refl _) _ |>.setNew (p := ⟨w.heap.size, _, none⟩) (Nat.le_refl _) _ |>.setNew (p := ⟨w.heap.size, _, none⟩) (Nat.le_refl _) _ |>.setNew (p := ⟨w.heap.size, _, none⟩) (Nat.le_refl _) _)).mono (by omega), (hs8.setNew (p := ⟨w.heap.size, _, none⟩) (Nat.le_refl _) _ |>.setNew (p := ⟨w.heap.size, _, none⟩) (Nat.le_refl _) _ |>.setNew (p := ⟨w.heap.size, _, none⟩) (Nat.le_refl _) _ |>.setNew (p := ⟨w.heap.size, _, none⟩) (Nat.le_refl _) _).2.1⟩
      · go_wp2_with fail
        exact bodyPost_ret (v := .agg #[.int .i64 0, .int .i64 0, .int .i64 (-1), .int .i64 0]) (by simp [results, Try.results51, go_sem, L8, L7, L6, L5, L4, L3, L2, L1]) rfl ⟨_, _, _, _, rfl, (show St w B r _ _ from (hs8.setNew (p := ⟨w.heap.size, _, none⟩) (Nat.le_refl _) _ |>.setNew (p := ⟨w.heap.size, _, none⟩) (Nat.le_refl _) _ |>.setNew (p := ⟨w.heap.size, _, none⟩) (Nat.le_refl _) _ |>.setNew (p := ⟨w.heap.size, _, none⟩) (Nat.le_refl _) _)).mono (by omega), (hs8.setNew (p := ⟨w.heap.size, _, none⟩) (Nat.le_refl _) _ |>.setNew (p := ⟨w.heap.size, _, none⟩) (Nat.le_refl _) _ |>.setNew (p := ⟨w.heap.size, _, none⟩) (Nat.le_refl _) _ |>.setNew (p := ⟨w.heap.size, _, none⟩) (Nat.le_refl _) _).2.1⟩
      · go_wp2_with fail
        exact bodyPost_ret (v := .agg #[.int .i64 0, .int .i64 0, .int .i64 0, .int .i64 256]) (by simp [results, Try.results51, go_sem, L8, L7, L6, L5, L4, L3, L2, L1]) rfl ⟨_, _, _, _, rfl, (show St w B r _ _ from (hs8.setNew (p := ⟨w.heap.size, _, none⟩) (Nat.le_refl _) _ |>.setNew (p := ⟨w.heap.size, _, none⟩) (Nat.le_refl _) _ |>.setNew (p := ⟨w.heap.size, _, none⟩) (Nat.le_refl _) _ |>.setNew (p := ⟨w.heap.size, _, none⟩) (Nat.le_refl _) _)).mono (by omega), (hs8.setNew (p := ⟨w.heap.size, _, none⟩) (Nat.le_refl _) _ |>.setNew (p := ⟨w.heap.size, _, none⟩) (Nat.le_refl _) _ |>.setNew (p := ⟨w.heap.size, _, none⟩) (Nat.le_refl _) _ |>.setNew (p := ⟨w.heap.size, _, none⟩) (Nat.le_refl _) _).2.1⟩
  · have hq' : (q == 0) = false := by simpa using hq
    clear hq
    go_wp2_with fail
    refine (odd_s w B r _ n _ hn (by omega) ?_ hs4).mono ?_
    · omega
    rintro e w7 ⟨o, rfl, hs7, ha7⟩
    have y7 := hs7.size.2.2
    have L7 := liveA ha7 w.heap.size (by omega) (by omega)
    have M7 := liveA ha7 w3.heap.size (by omega) (by omega)
    cases o with
    | false =>
      go_wp2_with fail
      exact bodyPost_ret (v := .agg #[.int .i64 u, .int .i64 u, .int .i64 u, .int .i64 gz]) (by simp [results, Try.results51, go_sem, L7, L4, L3, L2, L1]) rfl ⟨_, _, _, _, rfl, (show St w B r _ _ from (hs7.setNew (p := ⟨w.heap.size, _, none⟩) (Nat.le_refl _) _ |>.setNew (p := ⟨w.heap.size, _, none⟩) (Nat.le_refl _) _ |>.setNew (p := ⟨w.heap.size, _, none⟩) (Nat.le_refl _) _ |>.setNew (p := ⟨w.heap.size, _, none⟩) (Nat.le_refl _) _)).mono (by omega), (hs7.setNew (p := ⟨w.heap.size, _, none⟩) (Nat.le_refl _) _ |>.setNew (p := ⟨w.heap.size, _, none⟩) (Nat.le_refl _) _ |>.setNew (p := ⟨w.heap.size, _, none⟩) (Nat.le_refl _) _ |>.setNew (p := ⟨w.heap.size, _, none⟩) (Nat.le_refl _) _).2.1⟩
    | true =>
      go_wp2_with fail
      refine (pick_s w B r _ 4 _ (by omega) (by omega) ?_ (hs7.alloc _)).mono ?_
      · omega
      rintro e w8 ⟨x, rfl, x0, x1, hs8, ha8⟩
      have L8 := liveA ha8 w.heap.size (by simp; omega) (by omega)
      have M8 := liveA ha8 w7.heap.size (by simp) (by omega)
      obtain rfl | rfl | rfl | rfl : x = 0 ∨ x = 1 ∨ x = 2 ∨ x = 3 := by omega
      · go_wp2_with fail
        exact bodyPost_ret (v := .agg #[.int .i64 (-1), .int .i64 0, .int .i64 0, .int .i64 0]) (by simp [results, Try.results51, go_sem, L8, L7, L4, L3, L2, L1]) rfl ⟨_, _, _, _, rfl, (show St w B r _ _ from (hs8.setNew (p := ⟨w.heap.size, _, none⟩) (Nat.le_refl _) _ |>.setNew (p := ⟨w.heap.size, _, none⟩) (Nat.le_refl _) _ |>.setNew (p := ⟨w.heap.size, _, none⟩) (Nat.le_refl _) _ |>.setNew (p := ⟨w.heap.size, _, none⟩) (Nat.le_refl _) _)).mono (by omega), (hs8.setNew (p := ⟨w.heap.size, _, none⟩) (Nat.le_refl _) _ |>.setNew (p := ⟨w.heap.size, _, none⟩) (Nat.le_refl _) _ |>.setNew (p := ⟨w.heap.size, _, none⟩) (Nat.le_refl _) _ |>.setNew (p := ⟨w.heap.size, _, none⟩) (Nat.le_refl _) _).2.1⟩
      · go_wp2_with fail
        exact bodyPost_ret (v := .agg #[.int .i64 0, .int .i64 100, .int .i64 0, .int .i64 0]) (by simp [results, Try.results51, go_sem, L8, L7, L4, L3, L2, L1]) rfl ⟨_, _, _, _, rfl, (show St w B r _ _ from (hs8.setNew (p := ⟨w.heap.size, _, none⟩) (Nat.le_refl _) _ |>.setNew (p := ⟨w.heap.size, _, none⟩) (Nat.le_refl _) _ |>.setNew (p := ⟨w.heap.size, _, none⟩) (Nat.le_refl _) _ |>.setNew (p := ⟨w.heap.size, _, none⟩) (Nat.le_refl _) _)).mono (by omega), (hs8.setNew (p := ⟨w.heap.size, _, none⟩) (Nat.le_refl _) _ |>.setNew (p := ⟨w.heap.size, _, none⟩) (Nat.le_refl _) _ |>.setNew (p := ⟨w.heap.size, _, none⟩) (Nat.le_refl _) _ |>.setNew (p := ⟨w.heap.size, _, none⟩) (Nat.le_refl _) _).2.1⟩
      · go_wp2_with fail
        exact bodyPost_ret (v := .agg #[.int .i64 0, .int .i64 0, .int .i64 (-1), .int .i64 0]) (by simp [results, Try.results51, go_sem, L8, L7, L4, L3, L2, L1]) rfl ⟨_, _, _, _, rfl, (show St w B r _ _ from (hs8.setNew (p := ⟨w.heap.size, _, none⟩) (Nat.le_refl _) _ |>.setNew (p := ⟨w.heap.size, _, none⟩) (Nat.le_refl _) _ |>.setNew (p := ⟨w.heap.size, _, none⟩) (Nat.le_refl _) _ |>.setNew (p := ⟨w.heap.size, _, none⟩) (Nat.le_refl _) _)).mono (by omega), (hs8.setNew (p := ⟨w.heap.size, _, none⟩) (Nat.le_refl _) _ |>.setNew (p := ⟨w.heap.size, _, none⟩) (Nat.le_refl _) _ |>.setNew (p := ⟨w.heap.size, _, none⟩) (Nat.le_refl _) _ |>.setNew (p := ⟨w.heap.size, _, none⟩) (Nat.le_refl _) _).2.1⟩
      · go_wp2_with fail
        exact bodyPost_ret (v := .agg #[.int .i64 0, .int .i64 0, .int .i64 0, .int .i64 256]) (by simp [results, Try.results51, go_sem, L8, L7, L4, L3, L2, L1]) rfl ⟨_, _, _, _, rfl, (show St w B r _ _ from (hs8.setNew (p := ⟨w.heap.size, _, none⟩) (Nat.le_refl _) _ |>.setNew (p := ⟨w.heap.size, _, none⟩) (Nat.le_refl _) _ |>.setNew (p := ⟨w.heap.size, _, none⟩) (Nat.le_refl _) _ |>.setNew (p := ⟨w.heap.size, _, none⟩) (Nat.le_refl _) _)).mono (by omega), (hs8.setNew (p := ⟨w.heap.size, _, none⟩) (Nat.le_refl _) _ |>.setNew (p := ⟨w.heap.size, _, none⟩) (Nat.le_refl _) _ |>.setNew (p := ⟨w.heap.size, _, none⟩) (Nat.le_refl _) _ |>.setNew (p := ⟨w.heap.size, _, none⟩) (Nat.le_refl _) _).2.1⟩
end Go.Proofs.Ytlfchcjollcdhaa
