/-
  The laws of the pipes over drawn arguments: PutPipe, TakePipe, ClosePipe. No condition.
-/
import Derived.Test.YtheblgfgcmkdiaaProg
import Derived.Test.YtheblgfgcmkdiaaFnPipe
import Derived.Test.YtheblgfgcmkdiaaFlowX
namespace Go.Proofs.Ytheblgfgcmkdiaa
open Go.RowKit
set_option linter.unusedSimpArgs false
set_option linter.unusedVariables false

def GotPipeN (w : World) (e : Ending) (w' : World) : Prop := ∃ (s : ByteArray) (a b x : Int), e = .returned (.tuple #[.agg #[.string s, .int .i64 a, .int .i64 b], .int .i64 x]) ∧ s.size ≤ 21 ∧ -1 ≤ a ∧ a ≤ 10 ∧ -1 ≤ b ∧ b ≤ 10 ∧ Below w.heap.size w w'
set_option maxHeartbeats 1000000 in
theorem gTakePipe_c (A : Option Addr) (n c : Nat) (w : World) (h : InB w A n c) : Calls Try.prog 22 #[.slice A n c] w (GotPipeN w) := by
  have H := hide h
  clear h
  go_enter Try.func22, Try.ntmps22
  go_wp2_with fail
  refine (open_c A n c _ (H.out.below (by repeat' (first | exact Below.refl _ _ | assumption | exact And.left (by assumption) | omega | (simp; done) | (simp; omega) | (simp at *; omega) | (refine Below.setCell ?_ ?_ _) | (refine below_alloc0 ?_ _) | (refine Below.drew ?_) | (refine below_drewN ?_ _) | (refine below_via0 ?_ (by assumption)) | (refine Below.alloc ?_ ?_ _) | (refine below_via ?_ (by assumption) ?_))))).mono ?_
  rintro e w1 ⟨r, rfl, hr, hrd, hb1⟩
  go_wp2_with fail
  have L1 := live hb1 w.heap.size (by first | omega | (simp; done) | (simp; omega))
  simp at hr
  refine (drawPipe_c w1.heap.size r 0 9 _ (by omega) (by omega) (by omega) hrd).mono ?_
  rintro e w2 ⟨s, a, b, rfl, hs21, h1, h2, h3, h4, hs, ha⟩
  have L2 := liveA ha w.heap.size (by first | omega | (simp; done) | (simp; omega)) (by omega)
  have hb12 : Below w.heap.size w w2 := ha.below (below_via (Below.refl _ w |>.alloc (Nat.le_refl _) _) hb1 (by simp)) (by omega) (by have := hb1.size; simp at this; omega)
  go_wp2_with fail
  have s2 : w.heap.size + 1 ≤ w2.heap.size := by have h1 := hb1.size; have h2 := ha.1.size; simp at h1; omega
  obtain ⟨z1, z2, z3⟩ := hs.size
  have hs' := (hs.alloc (.cells #[.string s, .int .i64 a, .int .i64 b] 30)).drew
  go_region_with (go_at_call 47; refine (pick_s w1 w1.heap.size r _ _ _ (by omega) (by omega) ?_ (by assumption)).mono ?_; omega; rintro e w3 ⟨x, rfl, x0, x1, hs3, ha3⟩; have L3 := liveA ha3 w2.heap.size (by first | omega | (simp; done) | (simp; omega)) (by omega); have M3 := liveA ha3 w.heap.size (by first | omega | (simp; done) | (simp; omega)) (by omega))
  all_goals
    go_wp2_with fail
    have hb13 : Below w.heap.size w w3 := hs3.2.1.below (below_via (Below.refl _ w |>.alloc (Nat.le_refl _) _) hb1 (by simp)) (by omega) (by have := hb1.size; simp at this; omega)
    exact bodyPost_ret (v := .tuple #[.agg #[.string s, .int .i64 a, .int .i64 b], .int .i64 _]) (by simp [results, Try.results22, go_sem, Act.put, *]; rfl) rfl ⟨s, a, b, _, rfl, hs21, h1, h2, h3, h4, (by repeat' (first | exact Below.refl _ _ | assumption | exact And.left (by assumption) | omega | (simp; done) | (simp; omega) | (simp at *; omega) | (refine Below.setCell ?_ ?_ _) | (refine below_alloc0 ?_ _) | (refine Below.drew ?_) | (refine below_drewN ?_ _) | (refine below_via0 ?_ (by assumption)) | (refine Below.alloc ?_ ?_ _) | (refine below_via ?_ (by assumption) ?_)))⟩
def GotPipeS (w : World) (e : Ending) (w' : World) : Prop := ∃ (s t : ByteArray) (a b : Int), e = .returned (.tuple #[.agg #[.string s, .int .i64 a, .int .i64 b], .string t]) ∧ s.size ≤ 21 ∧ -1 ≤ a ∧ a ≤ 10 ∧ -1 ≤ b ∧ b ≤ 10 ∧ t.size ≤ 12 ∧ Below w.heap.size w w'
theorem lit_put (q : Nat) (h : q < 3) : ∃ t : ByteArray, (#[Value.string ⟨#[]⟩, .string ⟨#[120, 121]⟩, .string ⟨#[97, 98, 99, 100, 101, 102, 103, 104, 105, 106, 107, 108]⟩] : Array Value)[q]? = some (.string t) ∧ t.size ≤ 12 := by
  obtain rfl | rfl | rfl : q = 0 ∨ q = 1 ∨ q = 2 := by omega
  all_goals exact ⟨_, rfl, by decide⟩
set_option maxHeartbeats 1000000 in
theorem gPutPipe_c (A : Option Addr) (n c : Nat) (w : World) (h : InB w A n c) : Calls Try.prog 36 #[.slice A n c] w (GotPipeS w) := by
  have H := hide h
  clear h
  go_enter Try.func36, Try.ntmps36
  go_wp2_with fail
  refine (open_c A n c _ (H.out.below (by repeat' (first | exact Below.refl _ _ | assumption | exact And.left (by assumption) | omega | (simp; done) | (simp; omega) | (simp at *; omega) | (refine Below.setCell ?_ ?_ _) | (refine below_alloc0 ?_ _) | (refine Below.drew ?_) | (refine below_drewN ?_ _) | (refine below_via0 ?_ (by assumption)) | (refine Below.alloc ?_ ?_ _) | (refine below_via ?_ (by assumption) ?_))))).mono ?_
  rintro e w1 ⟨r, rfl, hr, hrd, hb1⟩
  go_wp2_with fail
  have L1 := live hb1 w.heap.size (by first | omega | (simp; done) | (simp; omega))
  simp at hr
  refine (drawPipe_c w1.heap.size r 0 9 _ (by omega) (by omega) (by omega) hrd).mono ?_
  rintro e w2 ⟨s, a, b, rfl, hs21, h1, h2, h3, h4, hs, ha⟩
  have L2 := liveA ha w.heap.size (by first | omega | (simp; done) | (simp; omega)) (by omega)
  have hb12 : Below w.heap.size w w2 := ha.below (below_via (Below.refl _ w |>.alloc (Nat.le_refl _) _) hb1 (by simp)) (by omega) (by have := hb1.size; simp at this; omega)
  go_wp2_with fail
  have s2 : w.heap.size + 1 ≤ w2.heap.size := by have h1 := hb1.size; have h2 := ha.1.size; simp at h1; omega
  obtain ⟨z1, z2, z3⟩ := hs.size
  have hs' := (hs.alloc (.cells #[.string s, .int .i64 a, .int .i64 b] 30)).drew
  have q0 : w.heap.size < w2.heap.size + 1 := by omega
  have hs2 := ((hs.alloc (.cells #[.string s, .int .i64 a, .int .i64 b] 30)).alloc (.cells #[.string ⟨#[]⟩, .string ⟨#[120, 121]⟩, .string ⟨#[97, 98, 99, 100, 101, 102, 103, 104, 105, 106, 107, 108]⟩] 9)).drew
  go_region_with (go_at_call 47; refine (pick_s w1 w1.heap.size r _ _ _ (by omega) (by omega) ?_ (by first | assumption | exact hs2)).mono ?_; omega; rintro e w3 ⟨x, rfl, x0, x1, hs3, ha3⟩; have L3 := liveA ha3 w2.heap.size (by first | omega | (simp; done) | (simp; omega)) (by omega); have M3 := liveA ha3 w.heap.size (by first | omega | (simp; done) | (simp; omega)) (by omega); obtain ⟨q, rfl⟩ := Int.eq_ofNat_of_zero_le x0; obtain ⟨t, ht, ht12⟩ := lit_put q (by omega); (first | have N3 := (liveA ha3 (w2.heap.size + 1) (by first | omega | (simp; done) | (simp; omega)) (by omega)) | skip))
  all_goals
    go_wp2_with fail
    have hb13 : Below w.heap.size w w3 := hs3.2.1.below (below_via (Below.refl _ w |>.alloc (Nat.le_refl _) _) hb1 (by simp)) (by omega) (by have := hb1.size; simp at this; omega)
    exact bodyPost_ret (v := .tuple #[.agg #[.string s, .int .i64 a, .int .i64 b], .string t]) (by simp [results, Try.results36, go_sem, Act.put, *]) rfl ⟨s, t, a, b, rfl, hs21, h1, h2, h3, h4, ht12, (by repeat' (first | exact Below.refl _ _ | assumption | exact And.left (by assumption) | omega | (simp; done) | (simp; omega) | (simp at *; omega) | (refine Below.setCell ?_ ?_ _) | (refine below_alloc0 ?_ _) | (refine Below.drew ?_) | (refine below_drewN ?_ _) | (refine below_via0 ?_ (by assumption)) | (refine Below.alloc ?_ ?_ _) | (refine below_via ?_ (by assumption) ?_)))⟩
def GotPipeB (w : World) (e : Ending) (w' : World) : Prop := ∃ (s : ByteArray) (a b : Int) (o : Bool), e = .returned (.tuple #[.agg #[.string s, .int .i64 a, .int .i64 b], .bool o]) ∧ s.size ≤ 21 ∧ -1 ≤ a ∧ a ≤ 10 ∧ -1 ≤ b ∧ b ≤ 10 ∧ Below w.heap.size w w'
set_option maxHeartbeats 1000000 in
theorem gClosePipe_c (A : Option Addr) (n c : Nat) (w : World) (h : InB w A n c) : Calls Try.prog 29 #[.slice A n c] w (GotPipeB w) := by
  have H := hide h
  clear h
  go_enter Try.func29, Try.ntmps29
  go_wp2_with fail
  refine (open_c A n c _ (H.out.below (by repeat' (first | exact Below.refl _ _ | assumption | exact And.left (by assumption) | omega | (simp; done) | (simp; omega) | (simp at *; omega) | (refine Below.setCell ?_ ?_ _) | (refine below_alloc0 ?_ _) | (refine Below.drew ?_) | (refine below_drewN ?_ _) | (refine below_via0 ?_ (by assumption)) | (refine Below.alloc ?_ ?_ _) | (refine below_via ?_ (by assumption) ?_))))).mono ?_
  rintro e w1 ⟨r, rfl, hr, hrd, hb1⟩
  go_wp2_with fail
  have L1 := live hb1 w.heap.size (by first | omega | (simp; done) | (simp; omega))
  simp at hr
  refine (drawPipe_c w1.heap.size r 0 9 _ (by omega) (by omega) (by omega) hrd).mono ?_
  rintro e w2 ⟨s, a, b, rfl, hs21, h1, h2, h3, h4, hs, ha⟩
  have L2 := liveA ha w.heap.size (by first | omega | (simp; done) | (simp; omega)) (by omega)
  have hb12 : Below w.heap.size w w2 := ha.below (below_via (Below.refl _ w |>.alloc (Nat.le_refl _) _) hb1 (by simp)) (by omega) (by have := hb1.size; simp at this; omega)
  go_wp2_with fail
  have s2 : w.heap.size + 1 ≤ w2.heap.size := by have h1 := hb1.size; have h2 := ha.1.size; simp at h1; omega
  obtain ⟨z1, z2, z3⟩ := hs.size
  have hs' := (hs.alloc (.cells #[.string s, .int .i64 a, .int .i64 b] 30)).drew
  go_region_with (go_at_call 47; refine (pick_s w1 w1.heap.size r _ _ _ (by omega) (by omega) ?_ (by assumption)).mono ?_; omega; rintro e w3 ⟨x, rfl, x0, x1, hs3, ha3⟩; have L3 := liveA ha3 w2.heap.size (by first | omega | (simp; done) | (simp; omega)) (by omega); have M3 := liveA ha3 w.heap.size (by first | omega | (simp; done) | (simp; omega)) (by omega))
  all_goals
    go_wp2_with fail
    have hb13 : Below w.heap.size w w3 := hs3.2.1.below (below_via (Below.refl _ w |>.alloc (Nat.le_refl _) _) hb1 (by simp)) (by omega) (by have := hb1.size; simp at this; omega)
    exact bodyPost_ret (v := .tuple #[.agg #[.string s, .int .i64 a, .int .i64 b], .bool _]) (by simp [results, Try.results29, go_sem, Act.put, *]; rfl) rfl ⟨s, a, b, _, rfl, hs21, h1, h2, h3, h4, (by repeat' (first | exact Below.refl _ _ | assumption | exact And.left (by assumption) | omega | (simp; done) | (simp; omega) | (simp at *; omega) | (refine Below.setCell ?_ ?_ _) | (refine below_alloc0 ?_ _) | (refine Below.drew ?_) | (refine below_drewN ?_ _) | (refine below_via0 ?_ (by assumption)) | (refine Below.alloc ?_ ?_ _) | (refine below_via ?_ (by assumption) ?_)))⟩
end Go.Proofs.Ytheblgfgcmkdiaa
