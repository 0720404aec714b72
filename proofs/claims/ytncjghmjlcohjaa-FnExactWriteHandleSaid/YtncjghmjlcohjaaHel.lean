/-
  Finding the marks of slices of nodes again. No condition.
-/
import Derived.Test.YtncjghmjlcohjaaProg
import Derived.Test.YtncjghmjlcohjaaOvl
namespace Go.Proofs.Ytncjghmjlcohjaa
open Go.RowKit
set_option linter.unusedSimpArgs false
set_option linter.unusedVariables false

set_option maxRecDepth 100000 in
set_option maxHeartbeats 8000000 in
theorem heldNode_c (A : Option Addr) (n c k0 : Nat) (l : List Node) (hl : l.length = n) (hn : n ≤ 1048576) (h0 : k0 ≤ 1000000) (hz : ∀ t ∈ l, NodeS t) (w : World) (hI : InNode w A n (mkT l k0)) :
    Calls Try.prog 31 #[.slice A n c, .int .i64 k0] w fun e w' => e = .returned (.int .i64 ((kS l k0 n : Nat) : Int)) ∧ Below w.heap.size w w' := by
  have HI := hide hI
  have HZ := hide hz
  have B := hide (Below.refl w.heap.size w)
  clear hI hz
  go_enter Try.func31, Try.ntmps31
  go_wp2_with fail
  go_loopw [1, 5] (fun qv iv wr => ∃ k : Nat, k ≤ n ∧ qv = .int .i64 ((kS l k0 k : Nat) : Int) ∧ iv = .int .i64 k ∧ Hid (Below w.heap.size w wr)) (fun _ i _ => n - (intOf i).toNat)
  case atStart => exact ⟨0, by omega, rfl, rfl, B⟩
  case round =>
    obtain ⟨k, hk, rfl, rfl, hbel⟩ := hrel
    have hkb := kS_le (k0 := k0) HZ.out k
    by_cases hlt : k < n
    · have hkk : (k : Int) < n := by omega
      obtain ⟨b, off, hA, hR⟩ := HI.out.2 (by omega)
      subst hA
      obtain ⟨t, ht⟩ : ∃ t, l[k]? = some t := ⟨_, List.getElem?_eq_getElem (by omega)⟩
      have HKS := hide (kS_next (k0 := k0) ht)
      have hzt := HZ.out t (List.mem_of_getElem? ht)
      have hz1 := hzt.1
      have hz2 := hzt.2
      obtain ⟨S, K, ⟨c0, c1, c2, c3, c4, c5, c6⟩, ⟨A1, n1, e1, hS, _, hSI⟩, ⟨A2, n2, e2, hK, _, hKI⟩⟩ := (hR.below hbel.out).2 k _ (by rw [mkT_get, ht]; rfl)
      subst hS hK
      obtain rfl : t.names.length = n1 := by have := hSI.1; simp only [mkNode, mkS_len] at this; exact this
      obtain rfl : t.kids.length = n2 := by have := hKI.1; simp only [mkNode, mkI_len] at this; exact this
      have hb1 := (hR.below hbel.out).1
      have hb0 := hide hb1
      have HSI := hide hSI
      have HKI := hide hKI
      simp only [mkNode] at c0 c1 c2 c3 c4 HSI HKI
      generalize kS l k0 k = kk at *
      generalize t.names.length = n1 at *
      generalize t.kids.length = n2 at *
      obtain ⟨X, hX⟩ : ∃ X, mtx (kk + 4) = X := ⟨_, rfl⟩
      rw [hX] at c4
      have HX := hide hX
      have HRR := hide hR
      obtain ⟨D, hD⟩ : ∃ D, ((kk : Int) % 3 == 0) = D := ⟨_, rfl⟩
      rw [hD] at c0
      have HD := hide hD
      have hdd : (!(D == ((kk : Int) % 3 == 0))) = false := by rw [hD]; cases D <;> rfl
      clear ht hzt hX hSI hKI hR hD
      go_wp2_with fail
      clear hdd c0 c1 c2 c3
      go_region_held3 (fun w' => Below wr.heap.size wr w' ∧ b < w'.heap.size ∧ w'.cell? ⟨b, off + k * 7 + 4, none⟩ = some (.string X) ∧ w'.cell? ⟨b, off + k * 7 + 5, none⟩ = some (.slice A1 n1 e1) ∧ w'.cell? ⟨b, off + k * 7 + 6, none⟩ = some (.slice A2 n2 e2))
        (first | (have L1 := live hb1 b (by omega); refine ⟨(by repeat' (first | exact Below.refl _ _ | assumption | exact And.left (by assumption) | omega | (simp; done) | (simp; omega) | (simp at *; omega) | (refine Below.setCell ?_ ?_ _) | (refine below_alloc0 ?_ _) | (refine Below.drew ?_) | (refine below_drewN ?_ _) | (refine below_via0 ?_ (by assumption)) | (refine Below.alloc ?_ ?_ _) | (refine below_via ?_ (by assumption) ?_))), ?_⟩; simp [*]; done) | (refine ⟨(by repeat' (first | exact Below.refl _ _ | assumption | exact And.left (by assumption) | omega | (simp; done) | (simp; omega) | (simp at *; omega) | (refine Below.setCell ?_ ?_ _) | (refine below_alloc0 ?_ _) | (refine Below.drew ?_) | (refine below_drewN ?_ _) | (refine below_via0 ?_ (by assumption)) | (refine Below.alloc ?_ ?_ _) | (refine below_via ?_ (by assumption) ?_))), ?_⟩; simp [go_sem]; done) | (refine ⟨(by repeat' (first | exact Below.refl _ _ | assumption | exact And.left (by assumption) | omega | (simp; done) | (simp; omega) | (simp at *; omega) | (refine Below.setCell ?_ ?_ _) | (refine below_alloc0 ?_ _) | (refine Below.drew ?_) | (refine below_drewN ?_ _) | (refine below_via0 ?_ (by assumption)) | (refine Below.alloc ?_ ?_ _) | (refine below_via ?_ (by assumption) ?_))), ?_⟩; simp [go_sem, *]; done) | assumption | go_keep)
        (first | (go_at_call 43; rw [show (kk : Int) + 1 + 1 + 1 + 1 = ((kk + 4 : Nat) : Int) by omega]; refine (markText_c (kk + 4) (by omega) _).mono ?_; rintro e w1 ⟨rfl, hb1⟩; rw [HX.out]))
      have bel1 : Below wr.heap.size wr _ := And.left (by assumption)
      have bel2 := hide (below_via0 hbel.out bel1)
      have d5 := (bel1.cell (p := ⟨b, off + k * 7 + 5, none⟩) hb0.out).trans c5
      have d6 := (bel1.cell (p := ⟨b, off + k * 7 + 6, none⟩) hb0.out).trans c6
      have HB1 := hide bel1
      clear bel1 c4 c5 c6
      have hbz := Nat.lt_of_lt_of_le hb0.out HB1.out.size
      go_wp2_with fail
      rw [show (kk : Int) + 4 + 1 = ((kk + 5 : Nat) : Int) by omega]
      refine (heldString_c A1 n1 e1 (kk + 5) hz1 (by omega) _ (HSI.out.below HB1.out)).mono ?_
      rintro e w2 ⟨rfl, hbb⟩
      have bel3 := hide (below_via0 bel2.out hbb)
      have HB3 := hide (below_via0 HB1.out hbb)
      have f6 := (hbb.cell (p := ⟨b, off + k * 7 + 6, none⟩) hbz).trans d6
      have hbz2 := Nat.lt_of_lt_of_le hbz hbb.size
      clear hbb d5 d6
      go_wp2_with fail
      rw [show (kk : Int) + 5 + (n1 : Int) = ((kk + 5 + n1 : Nat) : Int) by omega]
      refine (heldInt_c A2 n2 e2 (kk + 5 + n1) hz2 (by omega) _ (HKI.out.below HB3.out)).mono ?_
      rintro e w3 ⟨rfl, hbb⟩
      have bel4 := hide (below_via0 bel3.out hbb)
      clear hbb f6
      go_wp2_with fail
      exact ⟨⟨k + 1, by omega, congrArg (Value.int .i64) (by rw [HKS.out]; omega), by go_num, bel4⟩, by simp [intOf] <;> omega⟩
    · obtain rfl : k = n := by omega
      have hkk : ¬ (k : Int) < k := by omega
      go_wp2_with fail
      go_ret
      exact ⟨rfl, hbel.out⟩
end Go.Proofs.Ytncjghmjlcohjaa
