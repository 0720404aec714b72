/-
  The law of TakePipe over drawn arguments. No condition.
-/
import Derived.Test.YtheblgfgcmkdiaaProg
import Derived.Test.YtheblgfgcmkdiaaFnPipe2
namespace Go.Proofs.Ytheblgfgcmkdiaa
open Go.RowKit
set_option linter.unusedSimpArgs false
set_option linter.unusedVariables false

theorem ext_all (s : ByteArray) : s.extract 0 s.size = s := by
  apply ByteArray.ext
  simp [ByteArray.data_extract]
theorem ext_join (s : ByteArray) (k : Nat) (h : k ≤ s.size) : s.extract 0 k ++ s.extract k s.size = s := by
  rw [ByteArray.extract_append_extract]
  simp only [Nat.zero_le, Nat.min_eq_left, Nat.max_eq_right h]
  exact ext_all s
theorem nil_size {s : ByteArray} (h : s.toList.isEmpty = true) : s.size = 0 := by
  rw [Go.ByteArray.toList_eq] at h
  have h2 : s.data.toList = [] := List.isEmpty_iff.1 h
  show s.data.size = 0
  rw [← Array.length_toList, h2]; rfl
theorem size_nil {s : ByteArray} (h : s.size = 0) : s.toList = [] := by
  rw [Go.ByteArray.toList_eq]
  exact List.eq_nil_of_length_eq_zero h
theorem take_pipe {s : ByteArray} {p r m : Int} (hv : pipeB s p r = true) (hm : ¬ m < 0) :
    ∃ T R : ByteArray, tkT s p r m = T ∧ tkR s p r m = R ∧ tkP s p r m = p ∧ tkQ s p r m = r ∧ T ++ R = s ∧ (T.size : Int) ≤ m ∧ R.size ≤ s.size ∧ T.size ≤ s.size ∧ pipeB R p r = true ∧ (tkE s p r m = true → T.toList = [] ∧ tkE R p r m = true) := by
  have hq := pipeB_yes hv
  have key : ∃ T R : ByteArray, tkT s p r m = T ∧ tkR s p r m = R ∧ T ++ R = s ∧ (T.size : Int) ≤ m := by
    by_cases h : m ≤ s.size
    · refine ⟨_, _, rfl, rfl, ?_, ?_⟩
      · simp only [tkT, tkR, hv, hm, h, if_true, if_false]
        exact ext_join s m.toNat (by omega)
      · simp only [tkT, hv, hm, h, if_true, if_false, ByteArray.size_extract]; omega
    · refine ⟨_, _, rfl, rfl, ?_, ?_⟩
      · simp only [tkT, tkR, hv, hm, h, if_true, if_false]
        exact ByteArray.append_empty
      · simp only [tkT, hv, hm, h, if_true, if_false]; omega
  obtain ⟨T, R, h1, h2, h3, h4⟩ := key
  have hs : T.size + R.size = s.size := by rw [← h3, ByteArray.size_append]
  have hv2 : pipeB R p r = true := by
    simp only [pipeB, Bool.and_eq_true, inB_iff, decide_eq_true_eq] at hv ⊢
    exact ⟨by omega, hv.2⟩
  exact ⟨T, R, h1, h2, by simp [tkP, hv, hm], by simp [tkQ, hv, hm], h3, h4, by omega, by omega, hv2, fun he => by
    simp only [tkE, hv, hm, if_true, if_false, Bool.and_eq_true] at he
    have h0 := nil_size he.1
    exact ⟨size_nil (by omega), by simp only [tkE, hv2, hm, if_true, if_false, Bool.and_eq_true]; exact ⟨by rw [size_nil (by omega)]; rfl, he.2⟩⟩⟩
set_option maxRecDepth 100000 in
set_option maxHeartbeats 4000000 in
theorem fnTakePipe_walk {w : World} (A : Option Addr) (n c : Nat) (h : InB w A n c) :
    Calls Try.prog 6 #[.slice A n c] w fun e w' => e = .returned (.bool true) ∧ Below w.heap.size w w' := by
  have hm := h.2.1
  unfold maxLen at hm
  have hc := h.1
  have H := hide h
  clear h
  by_cases h20 : 1048576 < n
  · go_enter Try.func6, Try.ntmps6
    go_wp2_with fail
    go_ret
    exact ⟨rfl, Below.refl _ _⟩
  · go_enter Try.func6, Try.ntmps6
    go_wp2_with fail
    refine (gTakePipe_c A n c _ (H.out.below (Below.refl _ _))).mono ?_
    rintro e w1 ⟨s, a, b, m, rfl, hs21, q1, q2, q3, q4, hb1⟩
    have HS := hide (show s.size ≤ maxLen by unfold maxLen; omega)
    have PS := hide (takeSpec_p s a b m HS.out)
    go_wp2_with fail
    refine (takeImpl_p s a b m HS.out _).mono ?_
    by_cases hok : pipeB s a b = true ∧ ¬ m < 0
    · obtain ⟨hv, hm0⟩ := hok
      obtain ⟨T, R, f1, f2, f3, f4, f5, f6, f7, f8, f9, f10⟩ := take_pipe hv hm0
      rw [f1, f2, f3, f4] at PS ⊢
      have HV := hide hv
      have HR := hide (show R.size ≤ maxLen by unfold maxLen; omega)
      have PI := hide (takeImpl_p R a b m HR.out)
      generalize tkP R a b m = u1 at PI
      generalize tkQ R a b m = u2 at PI
      generalize tkR R a b m = u3 at PI
      generalize tkT R a b m = u4 at PI
      generalize tkE R a b m = u5 at PI f10
      generalize tkE s a b m = u6 at PS f10 ⊢
      have HJ := hide f5
      have HE := hide f10
      clear f1 f2 f3 f4 f5 f9 f10 hv
      rintro e w2 ⟨rfl, hb2⟩
      have L2 := live hb2 w1.heap.size (by first | omega | (simp; done) | (simp; omega))
      have B2 : Below w.heap.size w w2 := (by repeat' (first | exact Below.refl _ _ | assumption | exact And.left (by assumption) | omega | (simp; done) | (simp; omega) | (simp at *; omega) | (refine Below.setCell ?_ ?_ _) | (refine below_alloc0 ?_ _) | (refine Below.drew ?_) | (refine below_drewN ?_ _) | (refine below_via0 ?_ (by assumption)) | (refine Below.alloc ?_ ?_ _) | (refine below_via ?_ (by assumption) ?_)))
      go_wp2_with fail
      refine (PS.out _).mono ?_
      rintro e w3 ⟨rfl, hb3⟩
      have L3 := live hb3 w1.heap.size (by first | omega | (simp; done) | (simp; omega))
      have M3 := live hb3 w2.heap.size (by first | omega | (simp; done) | (simp; omega))
      have B3 : Below w.heap.size w w3 := (by repeat' (first | exact Below.refl _ _ | assumption | exact And.left (by assumption) | omega | (simp; done) | (simp; omega) | (simp at *; omega) | (refine Below.setCell ?_ ?_ _) | (refine below_alloc0 ?_ _) | (refine Below.drew ?_) | (refine below_drewN ?_ _) | (refine below_via0 ?_ (by assumption)) | (refine Below.alloc ?_ ?_ _) | (refine below_via ?_ (by assumption) ?_)))
      go_wp2_with fail
      refine (pipeImpl_c _ _ _ HS.out _).mono ?_
      rintro e w4 ⟨rfl, hb4⟩
      rw [HV.out]
      have L4 := live hb4 w1.heap.size (by first | omega | (simp; done) | (simp; omega))
      have M4 := live hb4 w2.heap.size (by first | omega | (simp; done) | (simp; omega))
      have B4 : Below w.heap.size w w4 := (by repeat' (first | exact Below.refl _ _ | assumption | exact And.left (by assumption) | omega | (simp; done) | (simp; omega) | (simp at *; omega) | (refine Below.setCell ?_ ?_ _) | (refine below_alloc0 ?_ _) | (refine Below.drew ?_) | (refine below_drewN ?_ _) | (refine below_via0 ?_ (by assumption)) | (refine Below.alloc ?_ ?_ _) | (refine below_via ?_ (by assumption) ?_)))
      go_wp2_with fail
      refine (PI.out _).mono ?_
      rintro e w5 ⟨rfl, hb5⟩
      have L5 := live hb5 w1.heap.size (by first | omega | (simp; done) | (simp; omega))
      have M5 := live hb5 w2.heap.size (by first | omega | (simp; done) | (simp; omega))
      have B5 : Below w.heap.size w w5 := (by repeat' (first | exact Below.refl _ _ | assumption | exact And.left (by assumption) | omega | (simp; done) | (simp; omega) | (simp at *; omega) | (refine Below.setCell ?_ ?_ _) | (refine below_alloc0 ?_ _) | (refine Below.drew ?_) | (refine below_drewN ?_ _) | (refine below_via0 ?_ (by assumption)) | (refine Below.alloc ?_ ?_ _) | (refine below_via ?_ (by assumption) ?_)))
      have J := HJ.out
      cases u6 with
      | true =>
        obtain ⟨d3, rfl⟩ := HE.out rfl
        go_wp2_with fail
        go_ret
        exact ⟨rfl, (by repeat' (first | exact Below.refl _ _ | assumption | exact And.left (by assumption) | omega | (simp; done) | (simp; omega) | (simp at *; omega) | (refine Below.setCell ?_ ?_ _) | (refine below_alloc0 ?_ _) | (refine Below.drew ?_) | (refine below_drewN ?_ _) | (refine below_via0 ?_ (by assumption)) | (refine Below.alloc ?_ ?_ _) | (refine below_via ?_ (by assumption) ?_)))⟩
      | false =>
        go_wp2_with fail
        go_ret
        exact ⟨rfl, (by repeat' (first | exact Below.refl _ _ | assumption | exact And.left (by assumption) | omega | (simp; done) | (simp; omega) | (simp at *; omega) | (refine Below.setCell ?_ ?_ _) | (refine below_alloc0 ?_ _) | (refine Below.drew ?_) | (refine below_drewN ?_ _) | (refine below_via0 ?_ (by assumption)) | (refine Below.alloc ?_ ?_ _) | (refine below_via ?_ (by assumption) ?_)))⟩
    · have hz : tkR s a b m = ⟨#[]⟩ ∧ tkT s a b m = ⟨#[]⟩ ∧ tkP s a b m = 0 ∧ tkQ s a b m = 0 ∧ tkE s a b m = false := by
        cases hv : pipeB s a b with
        | false => simp [tkR, tkT, tkP, tkQ, tkE, emptyS, hv]
        | true =>
          have hm : m < 0 := by
            by_cases hm : m < 0
            · exact hm
            · exact absurd ⟨hv, by omega⟩ hok
          simp [tkR, tkT, tkP, tkQ, tkE, emptyS, hv, hm]
      obtain ⟨f1, f2, f3, f4, f5⟩ := hz
      rw [f1, f2, f3, f4, f5] at PS ⊢
      clear f1 f2 f3 f4 f5
      rintro e w2 ⟨rfl, hb2⟩
      have L2 := live hb2 w1.heap.size (by first | omega | (simp; done) | (simp; omega))
      have B2 : Below w.heap.size w w2 := (by repeat' (first | exact Below.refl _ _ | assumption | exact And.left (by assumption) | omega | (simp; done) | (simp; omega) | (simp at *; omega) | (refine Below.setCell ?_ ?_ _) | (refine below_alloc0 ?_ _) | (refine Below.drew ?_) | (refine below_drewN ?_ _) | (refine below_via0 ?_ (by assumption)) | (refine Below.alloc ?_ ?_ _) | (refine below_via ?_ (by assumption) ?_)))
      go_wp2_with fail
      refine (PS.out _).mono ?_
      rintro e w3 ⟨rfl, hb3⟩
      have L3 := live hb3 w1.heap.size (by first | omega | (simp; done) | (simp; omega))
      have M3 := live hb3 w2.heap.size (by first | omega | (simp; done) | (simp; omega))
      have B3 : Below w.heap.size w w3 := (by repeat' (first | exact Below.refl _ _ | assumption | exact And.left (by assumption) | omega | (simp; done) | (simp; omega) | (simp at *; omega) | (refine Below.setCell ?_ ?_ _) | (refine below_alloc0 ?_ _) | (refine Below.drew ?_) | (refine below_drewN ?_ _) | (refine below_via0 ?_ (by assumption)) | (refine Below.alloc ?_ ?_ _) | (refine below_via ?_ (by assumption) ?_)))
      go_wp2_with fail
      refine (pipeImpl_c _ _ _ HS.out _).mono ?_
      rintro e w4 ⟨rfl, hb4⟩
      have L4 := live hb4 w1.heap.size (by first | omega | (simp; done) | (simp; omega))
      have M4 := live hb4 w2.heap.size (by first | omega | (simp; done) | (simp; omega))
      have B4 : Below w.heap.size w w4 := (by repeat' (first | exact Below.refl _ _ | assumption | exact And.left (by assumption) | omega | (simp; done) | (simp; omega) | (simp at *; omega) | (refine Below.setCell ?_ ?_ _) | (refine below_alloc0 ?_ _) | (refine Below.drew ?_) | (refine below_drewN ?_ _) | (refine below_via0 ?_ (by assumption)) | (refine Below.alloc ?_ ?_ _) | (refine below_via ?_ (by assumption) ?_)))
      cases hv : pipeB s a b with
      | false =>
        clear hok hv
        go_wp2_with (go_at_call 15; refine (alive_c _).mono ?_; rintro e w5 ⟨rfl, hb5⟩; have B5 := below_via0 B4 hb5)
        go_ret
        exact ⟨rfl, (by repeat' (first | exact Below.refl _ _ | assumption | exact And.left (by assumption) | omega | (simp; done) | (simp; omega) | (simp at *; omega) | (refine Below.setCell ?_ ?_ _) | (refine below_alloc0 ?_ _) | (refine Below.drew ?_) | (refine below_drewN ?_ _) | (refine below_via0 ?_ (by assumption)) | (refine Below.alloc ?_ ?_ _) | (refine below_via ?_ (by assumption) ?_)))⟩
      | true =>
        have hm : m < 0 := by
          by_cases hm : m < 0
          · exact hm
          · exact absurd ⟨hv, by omega⟩ hok
        clear hok hv
        go_wp2_with (go_at_call 15; refine (alive_c _).mono ?_; rintro e w5 ⟨rfl, hb5⟩; have B5 := below_via0 B4 hb5)
        go_ret
        exact ⟨rfl, (by repeat' (first | exact Below.refl _ _ | assumption | exact And.left (by assumption) | omega | (simp; done) | (simp; omega) | (simp at *; omega) | (refine Below.setCell ?_ ?_ _) | (refine below_alloc0 ?_ _) | (refine Below.drew ?_) | (refine below_drewN ?_ _) | (refine below_via0 ?_ (by assumption)) | (refine Below.alloc ?_ ?_ _) | (refine below_via ?_ (by assumption) ?_)))⟩
end Go.Proofs.Ytheblgfgcmkdiaa
