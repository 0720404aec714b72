/-
  PathParts of the reference: the walk. No condition.
-/
import Derived.Test.YtncjghmjlcohjaaDoorProg
import Derived.Test.YtncjghmjlcohjaaDoorPps
namespace Go.Proofs.YtncjghmjlcohjaaDoor
open Go.RowKit
set_option linter.unusedSimpArgs false
set_option linter.unusedVariables false

theorem infoStr : (Tryd.prog.info? 9).map (fun i => (i.zero, i.size, i.bytes)) = some (some (.string ByteArray.empty), 1, 16) := by kernel_rfl
/-- A slice of strings of one's own that may be appended to. -/
def OwnA (w : World) (B : Nat) (V : Value) (l : List ByteArray) : Prop := w.ownsRow B 9 1 V l.length (l.map Value.string) ∧ V ≠ .slice none 0 0
theorem OwnA.below {w w' : World} {B : Nat} {V : Value} {l : List ByteArray} (h : OwnA w B V l) (hb : Below w.heap.size w w') : OwnA w' B V l := ⟨own_below h.1 hb, h.2⟩
theorem OwnA.p {w : World} {B : Nat} {V : Value} {l : List ByteArray} (h : OwnA w B V l) : OwnP w B V l := by
  rcases h.1.2 with ⟨h', _⟩ | ⟨g, cap, cur, rfl, _⟩
  · exact absurd h' h.2
  · obtain ⟨h1, h2, h3, h4, h5⟩ := own_cell1 h.1
    exact ⟨g, cap, rfl, h3, h1, h2, fun k x hx => by rw [Nat.zero_add]; exact h4 k _ (by rw [List.getElem?_map, hx]; rfl)⟩
theorem OwnA.form {w : World} {B : Nat} {V : Value} {l : List ByteArray} (h : OwnA w B V l) : ∃ g cap, V = .slice (some ⟨g, 0, none⟩) l.length cap := by
  rcases h.1.2 with ⟨h', _⟩ | ⟨g, cap, cur, h', _⟩
  · exact absurd h' h.2
  · exact ⟨g, cap, h'⟩
set_option maxRecDepth 10000 in
set_option maxHeartbeats 4000000 in
theorem ppSpec_c (s : ByteArray) (hs : s.size ≤ 1048576) (w : World) :
    Calls Tryd.prog 22 #[.string s] w fun e w' => ∃ V, e = .returned (.tuple #[V, .bool (pathB s)]) ∧ Below w.heap.size w w' ∧ (pathB s = true → ∃ l, IsPP s l ∧ OwnA w' w.heap.size V l) := by
  obtain ⟨i0, hi0, hz0, hz1, hz2⟩ := info_parts infoStr
  have HI := hide hi0
  have HZ0 := hide hz0
  have HZ1 := hide hz1
  have HZ2 := hide hz2
  clear hi0 hz0 hz1 hz2
  have B0 : Below w.heap.size w (w.alloc (.cells #[] 9)) := below_alloc0 (Below.refl _ _) _
  have O0 : OwnA (w.alloc (.cells #[] 9)) w.heap.size (.slice (some ⟨w.heap.size, 0, none⟩) 0 0) [] := ⟨World.ownsRow_made w #[] 0 (Nat.le_refl _) (Nat.zero_le _) (by simp), fun e => by cases e⟩
  have HO := hide O0
  clear O0
  by_cases h1 : s = ⟨#[47]⟩
  · subst h1
    have HP : IsPP ⟨#[47]⟩ [] := ⟨⟨by simp, by simp⟩, joinP_nil⟩
    have HT := hide (pathB_iff.2 ⟨_, HP⟩)
    go_enter Tryd.func22, Tryd.ntmps22
    go_wp2_with fail
    exact bodyPost_ret (v := .tuple #[.slice (some ⟨w.heap.size, 0, none⟩) 0 0, .bool true]) (by simp [results, Tryd.results22, go_sem]) rfl ⟨_, by rw [HT.out], B0, fun _ => ⟨[], HP, HO.out⟩⟩
  have hq1 : (s.toList == [47]) = false := by
    have := ne_tl h1
    rwa [Go.ByteArray.toList_eq ⟨#[47]⟩] at this
  have H1 := hide h1
  clear h1
  go_enter Tryd.func22, Tryd.ntmps22
  go_wp2_with fail
  go_loopw [4, 5] (fun vv kv wr => ∃ k : Nat, k ≤ s.size ∧ kv = .int .i64 k ∧ Hid (OwnA wr w.heap.size vv (scB s k)) ∧ Hid (Below w.heap.size w wr)) (fun _ kv _ => s.size - (intOf kv).toNat)
  case atStart => exact ⟨0, by omega, rfl, HO.out, B0⟩
  case round =>
    obtain ⟨k, hk, rfl, hown, hbel⟩ := hrel
    have hl0 := scB_len s k
    by_cases hlt : k < s.size
    · have hkk : (k : Int) < s.size := by omega
      have HE := hide (show scB s (k + 1) = stepB (scB s k) (s[k]'hlt) (s.extract k (k + 1)) by simp only [scB, dif_pos hlt])
      have HX := hide (scB_size s k)
      generalize hcc : s[k]'hlt = cc at *
      have HCC := hide hcc
      generalize scB s k = L at *
      obtain ⟨g, cap, rfl⟩ := hown.out.form
      obtain ⟨hBg, hgw, hnc, hcell, hfz⟩ := own_cell1 hown.out.1
      have HCL := hide hcell
      have HFZ := hide hfz
      clear hcell hfz
      have hsz := hbel.out.size
      by_cases h47 : cc = 47
      · subst h47
        have h47' : (((47 : UInt8).toNat : Int) == 47) = true := rfl
        go_wp2_with (at_builtin; refine wpList_append_own _ rfl _ _ 38 rfl w.heap.size 9 i0 (.string ByteArray.empty) 1 16 Tryd.underlying38 HI.out HZ0.out HZ1.out HZ2.out rfl (by decide) _ _ _ rfl (World.ownsRow.alloc hown.out.1 _) ⟨wr.heap.size, 0, none⟩ 1 1 [.string ⟨#[]⟩] rfl rfl ?qc2 ?qc3 ?qc4 ?qc5 ?qc6 ?_)
        case qc2 => exact one_new _ _ _ rfl
        case qc3 => exact one_cell rfl
        case qc4 => unfold maxLen; omega
        case qc5 => omega
        case qc6 => simp; omega
        intro v' w5 hown5 hgrow hnil
        have HE1 := hide (show stepB L 47 (s.extract k (k + 1)) = L ++ [⟨#[]⟩] by rw [stepB, if_pos rfl])
        have HO5 := hide (show OwnA w5 w.heap.size v' (L ++ [⟨#[]⟩]) from ⟨by simpa using hown5, hnil⟩)
        have hb5 := hide ((hbel.out.alloc hsz (.cells #[.string ⟨#[]⟩] 9)).grown hgrow (by simp; omega) (by intro q hq; simp [Value.ownBlock] at hq; omega))
        clear hown5 hgrow hnil
        go_wp2_with fail
        exact ⟨⟨k + 1, by omega, by go_num, by rw [HE.out, HE1.out]; exact HO5, hb5⟩, by simp [intOf] <;> omega⟩
      · have hc47 : ((cc.toNat : Int) == 47) = false := by
          rw [beq_eq_false_iff_ne]
          intro e
          apply h47
          have : cc.toNat = 47 := by omega
          exact UInt8.toNat_inj.1 this
        by_cases h0 : L.length = 0
        · have HE1 := hide (show stepB L cc (s.extract k (k + 1)) = L by rw [stepB, if_neg h47, if_pos h0])
          have h0' : ¬ (0 : Int) < L.length := by omega
          have HH := hide h0
          clear h0
          go_wp2_with fail
          exact ⟨⟨k + 1, by omega, by go_num, by rw [HE.out, HE1.out]; exact hown, hbel⟩, by simp [intOf] <;> omega⟩
        · obtain ⟨q, hq⟩ : ∃ q, L[L.length - 1]? = some q := ⟨_, List.getElem?_eq_getElem (by omega)⟩
          have c0 := HCL.out (L.length - 1) (.string q) (by rw [List.getElem?_map, hq]; rfl)
          have f0 := HFZ.out (L.length - 1)
          have h0' : (0 : Int) < L.length := by omega
          have HQ := hide hq
          have hqs := HX.out q (List.mem_of_getElem? hq)
          clear hq
          have jw := IntWalk.i64_in ((L.length : Int) - 1) (by omega)
          have jk := IntWalk.i64_in ((k : Int) + 1) (by omega)
          go_wp2_with fail
          have HE1 := hide (show stepB L cc (s.extract k (k + 1)) = L.set (L.length - 1) (q ++ s.extract k (k + 1)) by
            rw [stepB, if_neg h47, if_neg h0]
            congr 2
            rw [List.getLastD_eq_getLast?, List.getLast?_eq_getElem?, HQ.out]
            rfl)
          have HO5 := hide (show OwnA ((wr.setCell ⟨g, L.length - 1, none⟩ (.string (q ++ s.extract k (k + 1)))).drew) w.heap.size (.slice (some ⟨g, 0, none⟩) L.length cap) (L.set (L.length - 1) (q ++ s.extract k (k + 1))) from
            ⟨by
              have := own_set1 hown.out.1 (L.length - 1) (.string (q ++ s.extract k (k + 1)))
              rw [List.length_set, List.map_set]
              exact World.ownsRow.drew this, fun e => by cases e⟩)
          go_region
          go_wp2_with fail
          exact ⟨⟨k + 1, by omega, by go_num, by rw [HE.out, HE1.out]; exact HO5, hide ((hbel.out.setCell (p := ⟨g, L.length - 1, none⟩) hBg _).drew)⟩, by simp [intOf] <;> omega⟩
    · obtain rfl : k = s.size := by omega
      have hkk : ¬ (s.size : Int) < s.size := by omega
      by_cases h0 : s.size = 0
      · have h2 : s.toList.isEmpty = true := by rw [em_size, decide_eq_true h0]
        have HF := hide (show pathB s = false from pathB_no fun ⟨l, hl⟩ => pp_ne hl h0)
        have HB := hide (below_alloc0 hbel.out (.cells #[] 9))
        go_wp2_with fail
        exact bodyPost_ret (v := .tuple #[.slice (some ⟨wr.heap.size, 0, none⟩) 0 0, .bool false]) (by simp [results, Tryd.results22, go_sem]) rfl ⟨_, by rw [HF.out], HB.out, fun h => by rw [HF.out] at h; cases h⟩
      have h2 : s.toList.isEmpty = false := by rw [em_size, decide_eq_false h0]
      have HY := hide (fun h => scB_yes (s := s) h0 h)
      have HN := hide (fun h => scB_no (s := s) H1.out h)
      have HX := hide (scB_size s s.size)
      generalize scB s s.size = L at *
      obtain ⟨g, cap, rfl⟩ := hown.out.form
      obtain ⟨g', c', hgg, hcc, hBg, hR⟩ := hown.out.p
      obtain ⟨rfl, rfl⟩ : g = g' ∧ cap = c' := by simpa using hgg
      have HIn := hide (show InString wr (some ⟨g, 0, none⟩) L.length L from ⟨rfl, fun _ => ⟨_, 0, rfl, hR⟩⟩)
      have HXS := hide (show ∀ x ∈ L, x.size ≤ maxLen from fun x hx => by have := HX.out x hx; unfold maxLen; omega)
      clear hR hgg
      go_wp2_with fail
      refine (jnSpec_c _ L.length cap L (by omega) HXS.out _ HIn.out).mono ?_
      rintro e w1 ⟨rfl, rfl⟩
      by_cases he : joinP L = s
      · have HP := hide (HY.out he)
        have HT := hide (pathB_iff.2 ⟨_, HP.out⟩)
        rw [he]
        go_wp2_with fail
        exact bodyPost_ret (v := .tuple #[.slice (some ⟨g, 0, none⟩) L.length cap, .bool true]) (by simp [results, Tryd.results22, go_sem]) rfl
          ⟨_, by rw [HT.out], hbel.out, fun _ => ⟨L, HP.out, hown.out⟩⟩
      · have HF := hide (HN.out he)
        have hq := ne_tl he
        have HB := hide (below_alloc0 hbel.out (.cells #[] 9))
        go_wp2_with fail
        exact bodyPost_ret (v := .tuple #[.slice (some ⟨wr.heap.size, 0, none⟩) 0 0, .bool false]) (by simp [results, Tryd.results22, go_sem]) rfl ⟨_, by rw [HF.out], HB.out, fun h => by rw [HF.out] at h; cases h⟩
end Go.Proofs.YtncjghmjlcohjaaDoor
