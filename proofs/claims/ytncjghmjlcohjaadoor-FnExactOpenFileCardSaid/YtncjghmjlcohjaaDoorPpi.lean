/-
  PathParts of the program. No condition.
-/
import Derived.Test.YtncjghmjlcohjaaDoorProg
import Derived.Test.YtncjghmjlcohjaaDoorPpm
namespace Go.Proofs.YtncjghmjlcohjaaDoor
open Go.RowKit
set_option linter.unusedSimpArgs false
set_option linter.unusedVariables false

theorem ne_tl {a b : ByteArray} (h : ¬ a = b) : (a.toList == b.toList) = false := by
  rw [beq_eq_false_iff_ne]
  intro e
  rw [Go.ByteArray.toList_eq, Go.ByteArray.toList_eq] at e
  exact h (ba_ext e)
/-- A slice of strings of one's own, made at the size B or later, that reads as the list. -/
def OwnP (w : World) (B : Nat) (V : Value) (l : List ByteArray) : Prop := ∃ g c, V = .slice (some ⟨g, 0, none⟩) l.length c ∧ l.length ≤ c ∧ B ≤ g ∧ RdString w g 0 l
theorem OwnP.below {w w' : World} {B : Nat} {V : Value} {l : List ByteArray} (h : OwnP w B V l) (hb : Below w.heap.size w w') : OwnP w' B V l := by
  obtain ⟨g, c, h1, h2, h3, h4⟩ := h
  exact ⟨g, c, h1, h2, h3, h4.below hb⟩
set_option maxHeartbeats 2000000 in
theorem ppImpl_c (s : ByteArray) (hs : s.size ≤ 1048576) (w : World) (hm : MX w) :
    Calls Tryd.prog 30 #[.string s] w fun e w' => ∃ V, e = .returned (.tuple #[V, .bool (pathB s)]) ∧ Below w.heap.size w w' ∧ (pathB s = true → ∃ l, IsPP s l ∧ OwnP w' w.heap.size V l) := by
  have HM := hide hm
  have HS := hide hs
  have hz := cutR_size s
  clear hm hs
  cases hv : hasS s
  · have HF := hide (has_false hv)
    go_enter Tryd.func30, Tryd.ntmps30
    go_wp2_with fail
    refine (cut_c s _).mono ?_
    rintro e w1 ⟨rfl, rfl⟩
    rw [hv]
    by_cases h0 : (cutR s).size = 0
    · have h2 : (cutR s).toList.isEmpty = true := by rw [em_size, decide_eq_true h0]
      go_wp2_with fail
      exact bodyPost_ret (v := .tuple #[.slice none 0 0, .bool false]) (by simp [results, Tryd.results30, go_sem]) rfl ⟨_, by rw [HF.out], (by repeat' (first | exact Below.refl _ _ | assumption | exact And.left (by assumption) | omega | (simp; done) | (simp; omega) | (simp at *; omega) | (refine Below.setCell ?_ ?_ _) | (refine below_alloc0 ?_ _) | (refine Below.drew ?_) | (refine below_drewN ?_ _) | (refine below_via0 ?_ (by assumption)) | (refine Below.alloc ?_ ?_ _) | (refine below_via ?_ (by assumption) ?_))), fun h => by rw [HF.out] at h; cases h⟩
    · have h2 : (cutR s).toList.isEmpty = false := by rw [em_size, decide_eq_false h0]
      go_wp2_with fail
      have B0 : Below w1.heap.size w1 (w1.alloc (.cells #[] 9)) := below_alloc0 (Below.refl _ _) _
      refine (splN_c s HS.out _ (HM.out.below B0)).mono ?_
      rintro e w2 ⟨c, rfl, hc, hR, hb⟩
      have hb2 := below_via0 B0 hb
      go_wp2_with fail
      exact bodyPost_ret (v := .tuple #[.slice none 0 0, .bool false]) (by simp [results, Tryd.results30, go_sem]) rfl ⟨_, by rw [HF.out], hb2, fun h => by rw [HF.out] at h; cases h⟩
  · have B0 : Below w.heap.size w (w.alloc (.cells #[] 9)) := below_alloc0 (Below.refl _ _) _
    by_cases h0 : (cutR s).size = 0
    · have h2 : (cutR s).toList.isEmpty = true := by rw [em_size, decide_eq_true h0]
      have HP := hide (pp_rest hv h0)
      have HT := hide (pathB_iff.2 ⟨_, pp_rest hv h0⟩)
      have hj : joinP [] = s := HP.out.2
      go_enter Tryd.func30, Tryd.ntmps30
      go_wp2_with fail
      refine (cut_c s _).mono ?_
      rintro e w1 ⟨rfl, rfl⟩
      rw [hv]
      go_wp2_with fail
      refine (jnImpl_c _ 0 0 [] (by omega) (by omega) (fun x hx => absurd hx (by simp)) _ ⟨rfl, fun h => absurd h (by omega)⟩).mono ?_
      rintro e w2 ⟨rfl, hb⟩
      rw [hj]
      have hb2 := below_via0 B0 hb
      go_wp2_with fail
      exact bodyPost_ret (v := .tuple #[.slice (some ⟨w1.heap.size, 0, none⟩) 0 0, .bool true]) (by simp [results, Tryd.results30, go_sem]) rfl
        ⟨_, by rw [HT.out]; rfl, hb2, fun _ => ⟨[], HP.out, _, 0, rfl, Nat.le_refl _, Nat.le_refl _, ⟨Nat.lt_of_lt_of_le (by simp) hb.size, fun k x hx => by simp at hx⟩⟩⟩
    · have h2 : (cutR s).toList.isEmpty = false := by rw [em_size, decide_eq_false h0]
      have HZ := hide (fun h => spl_no (s := s) h0 h)
      have HY := hide (fun h => spl_yes (s := s) hv h)
      go_enter Tryd.func30, Tryd.ntmps30
      go_wp2_with fail
      refine (cut_c s _).mono ?_
      rintro e w1 ⟨rfl, rfl⟩
      rw [hv]
      go_wp2_with fail
      refine (splN_c s HS.out _ (HM.out.below B0)).mono ?_
      rintro e w2 ⟨c, rfl, hc, hR, hb⟩
      have hb2 := below_via0 B0 hb
      have hl7 := (spl_len s).1
      have hxs : ∀ x ∈ spl s, x.size ≤ maxLen := fun x hx => by
        have := splitB_size ⟨#[47]⟩ _ _ x hx
        have := HS.out
        unfold maxLen
        omega
      have hR' : RdString w2 (w1.heap.size + 1) 0 (spl s) := by simpa using hR
      clear hR
      generalize spl s = L at *
      have HR := hide hR'
      have HI := hide (show InString w2 (some ⟨w1.heap.size + 1, 0, none⟩) L.length L from ⟨rfl, fun _ => ⟨_, 0, rfl, hR'⟩⟩)
      clear hR'
      have HXS := hide hxs
      clear hxs
      go_wp2_with fail
      refine (jnImpl_c _ L.length c L (by omega) hc HXS.out _ HI.out).mono ?_
      rintro e w3 ⟨rfl, hb3⟩
      have hb4 := below_via0 hb2 hb3
      have HR3 := hide (HR.out.below hb3)
      clear HXS HR HI
      by_cases he : joinP L = s
      · have HP := hide (HY.out he)
        have HT := hide (pathB_iff.2 ⟨_, HP.out⟩)
        rw [he]
        go_wp2_with fail
        exact bodyPost_ret (v := .tuple #[.slice (some ⟨w1.heap.size + 1, 0, none⟩) L.length c, .bool true]) (by simp [results, Tryd.results30, go_sem]) rfl
          ⟨_, by rw [HT.out], hb4, fun _ => ⟨L, HP.out, _, c, rfl, hc, by omega, HR3.out⟩⟩
      · have HF := hide (HZ.out he)
        have hq := ne_tl he
        go_wp2_with fail
        exact bodyPost_ret (v := .tuple #[.slice none 0 0, .bool false]) (by simp [results, Tryd.results30, go_sem]) rfl ⟨_, by rw [HF.out], hb4, fun h => by rw [HF.out] at h; cases h⟩
end Go.Proofs.YtncjghmjlcohjaaDoor
