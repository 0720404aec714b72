/-
  NextTask, of the program and of the reference, and the exact laws' walks of TasksValid and NextTask. No condition.
-/
import Derived.Test.YtnpgofmihmjmeaaProg
import Derived.Test.YtnpgofmihmjmeaaTask2
namespace Go.Proofs.Ytnpgofmihmjmeaa
open Go.RowKit
set_option linter.unusedSimpArgs false
set_option linter.unusedVariables false

def hadAt (l : List Task) (i : Int) : Int := ((l[i.toNat]?).map (·.had)).getD 0
/-- The task that has had least among the first k that do not wait. -/
def nextTo (l : List Task) : Nat → Int
  | 0 => -1
  | k + 1 => match l[k]? with
    | some t => if t.waits = true then nextTo l k else if nextTo l k < 0 then k else if t.had < hadAt l (nextTo l k) then k else nextTo l k
    | none => nextTo l k
theorem nextTo_bd (l : List Task) : ∀ k, -1 ≤ nextTo l k ∧ nextTo l k < k
  | 0 => by simp [nextTo]
  | k + 1 => by
    have ih := nextTo_bd l k
    unfold nextTo
    split
    · split
      · omega
      · split
        · omega
        · split <;> omega
    · omega
noncomputable def nextB (l : List Task) : Int := if tasksB l = true then nextTo l l.length else -1

set_option maxHeartbeats 2000000 in
theorem nextImpl_c (b off n c : Nat) (l : List Task) (hl : l.length = n) (hn : n ≤ 1048576) (w : World) (hR : RdTask w b off l) :
    Calls Try.prog 43 #[.slice (some ⟨b, off, none⟩) n c] w fun e w' => e = .returned (.int .i64 (nextTo l n)) ∧ Below w.heap.size w w' := by
  go_enter Try.func43, Try.ntmps43
  go_wp2_with fail
  go_loopw [8, 3] (fun k bst wr => ∃ i : Nat, i ≤ n ∧ k = .int .i64 i ∧ bst = .int .i64 (nextTo l i) ∧ Below w.heap.size w wr) (fun k _ _ => n - (intOf k).toNat)
  case atStart => exact ⟨0, by omega, rfl, rfl, Below.refl _ _⟩
  case round =>
    obtain ⟨k, hk, rfl, rfl, hbel⟩ := hrel
    obtain ⟨bd1, bd2⟩ := nextTo_bd l k
    by_cases hlt : k < n
    · obtain ⟨t, ht⟩ : ∃ t, l[k]? = some t := ⟨_, List.getElem?_eq_getElem (by omega)⟩
      have HT := hide ht
      have c0 := (hR.below hbel).2 k t ht
      clear ht
      have jj : (k : Int) < n := by omega
      cases hwt : t.waits with
      | true =>
        have HS := hide (show nextTo l (k + 1) = nextTo l k by simp [nextTo, HT.out, hwt])
        go_wp2_with fail
        go_quiet (fail)
        go_wp2_with fail
        refine ⟨⟨k + 1, by omega, by first | rfl | go_num, by first | (rw [HS.out]; rfl) | rw [HS.out], (by repeat' (first | exact Below.refl _ _ | assumption | exact And.left (by assumption) | omega | (simp; done) | (simp; omega) | (simp at *; omega) | (refine Below.setCell ?_ ?_ _) | (refine below_alloc0 ?_ _) | (refine Below.drew ?_) | (refine below_drewN ?_ _) | (refine below_via0 ?_ (by assumption)) | (refine Below.alloc ?_ ?_ _) | (refine below_via ?_ (by assumption) ?_)))⟩, by simp [intOf]; omega⟩
      | false =>
        by_cases hb0 : nextTo l k < 0
        · have HS := hide (show nextTo l (k + 1) = k by simp [nextTo, HT.out, hwt, hb0])
          have hd : decide (nextTo l k < 0) = true := by simpa using hb0
          go_wp2_with fail
          go_quiet (fail)
          go_wp2_with fail
          refine ⟨⟨k + 1, by omega, by first | rfl | go_num, by first | (rw [HS.out]; rfl) | rw [HS.out], (by repeat' (first | exact Below.refl _ _ | assumption | exact And.left (by assumption) | omega | (simp; done) | (simp; omega) | (simp at *; omega) | (refine Below.setCell ?_ ?_ _) | (refine below_alloc0 ?_ _) | (refine Below.drew ?_) | (refine below_drewN ?_ _) | (refine below_via0 ?_ (by assumption)) | (refine Below.alloc ?_ ?_ _) | (refine below_via ?_ (by assumption) ?_)))⟩, by simp [intOf]; omega⟩
        · have hb0' : 0 ≤ nextTo l k := by omega
          obtain ⟨q, hq⟩ := Int.eq_ofNat_of_zero_le hb0'
          have hqk : q < k := by omega
          obtain ⟨s, hs⟩ : ∃ s, l[q]? = some s := ⟨_, List.getElem?_eq_getElem (by omega)⟩
          have HH := hide (show hadAt l (nextTo l k) = s.had by simp [hadAt, hq, hs])
          have HQ := hide hs
          have ds := (hR.below hbel).2 q s hs
          have qq : (q : Int) < n := by omega
          have lb := (hR.below hbel).1
          by_cases hc : t.had < s.had
          · have HS := hide (show nextTo l (k + 1) = k by simp [nextTo, HT.out, hwt, hb0, HH.out, hc])
            clear hs hb0 hb0' bd1 bd2
            rw [hq]
            have HQQ := hide hq
            clear hq
            have hd : decide ((q : Int) < 0) = false := by simp
            have hc' : decide (t.had < s.had) = true := by simpa using hc
            go_wp2_with fail
            go_quiet (fail)
            go_wp2_with fail
            refine ⟨⟨k + 1, by omega, by first | rfl | go_num, by first | (rw [HS.out]; rfl) | rw [HS.out], (by repeat' (first | exact Below.refl _ _ | assumption | exact And.left (by assumption) | omega | (simp; done) | (simp; omega) | (simp at *; omega) | (refine Below.setCell ?_ ?_ _) | (refine below_alloc0 ?_ _) | (refine Below.drew ?_) | (refine below_drewN ?_ _) | (refine below_via0 ?_ (by assumption)) | (refine Below.alloc ?_ ?_ _) | (refine below_via ?_ (by assumption) ?_)))⟩, by simp [intOf]; omega⟩
          · have HS := hide (show nextTo l (k + 1) = nextTo l k by simp [nextTo, HT.out, hwt, hb0, HH.out, hc])
            clear hs hb0 hb0' bd1 bd2
            rw [hq]
            have HQQ := hide hq
            clear hq
            have hd : decide ((q : Int) < 0) = false := by simp
            have hc' : decide (t.had < s.had) = false := by simpa using hc
            go_wp2_with fail
            go_quiet (fail)
            go_wp2_with fail
            refine ⟨⟨k + 1, by omega, by first | rfl | go_num, by rw [HS.out, HQQ.out], (by repeat' (first | exact Below.refl _ _ | assumption | exact And.left (by assumption) | omega | (simp; done) | (simp; omega) | (simp at *; omega) | (refine Below.setCell ?_ ?_ _) | (refine below_alloc0 ?_ _) | (refine Below.drew ?_) | (refine below_drewN ?_ _) | (refine below_via0 ?_ (by assumption)) | (refine Below.alloc ?_ ?_ _) | (refine below_via ?_ (by assumption) ?_)))⟩, by simp [intOf]; omega⟩
    · obtain rfl : k = n := by omega
      go_wp2_with fail
      go_ret
      exact ⟨rfl, (by repeat' (first | exact Below.refl _ _ | assumption | exact And.left (by assumption) | omega | (simp; done) | (simp; omega) | (simp at *; omega) | (refine Below.setCell ?_ ?_ _) | (refine below_alloc0 ?_ _) | (refine Below.drew ?_) | (refine below_drewN ?_ _) | (refine below_via0 ?_ (by assumption)) | (refine Below.alloc ?_ ?_ _) | (refine below_via ?_ (by assumption) ?_)))⟩
end Go.Proofs.Ytnpgofmihmjmeaa
