/-
  What is drawn: names, paths. No condition.
-/
import Derived.Test.YtgpdblkaidllmaaDoorProg
import Derived.Test.YtgpdblkaidllmaaDoorPpw
import Derived.Test.YtgpdblkaidllmaaDoorDraw
namespace Go.Proofs.YtgpdblkaidllmaaDoor
open Go.RowKit
set_option linter.unusedSimpArgs false
set_option linter.unusedVariables false

theorem new_cell (w : World) {C : Array Value} (T : TypeId) (q : Nat) {u : Value} (h : C[q]? = some u) : (w.alloc (.cells C T)).cell? ⟨w.heap.size, q, none⟩ = some u :=
  (Row.made w T C (fun j => C[j]?) (fun _ _ h => h)).cell h
/-- One of a few literal strings. -/
theorem lit_cell {w : World} {C : Array Value} {T : TypeId} {g q : Nat} (h : w.heap[g]? = some (.cells C T (0, 0))) {u : Value} (hu : C[q]? = some u) : w.cell? ⟨g, q, none⟩ = some u := by
  simp [World.cell?, h, hu]
set_option maxRecDepth 100000 in
theorem name_d (w0 : World) (B r k : Nat) (w : World) (hk : k ≤ 900000) (h : St w0 B r k w) :
    Calls Tryd.prog 49 #[.pointer (some ⟨r, 0, none⟩), .int .i64 0] w fun e w' => ∃ x : ByteArray, e = .returned (.string x) ∧ x.size ≤ 8 ∧ St w0 B r (k + 1) w' ∧ Aside r w w' := by
  obtain ⟨z1, z2, z3⟩ := h.size
  go_enter Tryd.func49, Tryd.ntmps49
  go_wp2_with fail
  refine (odd_0 r _).mono ?_
  rintro e w1 ⟨rfl, rfl⟩
  go_wp2_with fail
  refine (pick_s w0 B r k 4 _ (by omega) (by omega) (by omega) (h.alloc _)).mono ?_
  rintro e w4 ⟨x, rfl, x0, x1, hs4, ha4⟩
  have HA := hide (((Aside.refl r w).alloc _).trans ha4)
  have L4 := liveA ha4 w.heap.size (by simp) (by omega)
  obtain rfl | rfl | rfl | rfl : x = 0 ∨ x = 1 ∨ x = 2 ∨ x = 3 := by omega
  · have c0 := (L4.2.1 0).trans (new_cell _ _ 0 rfl)
    go_wp2_with fail
    go_ret
    exact ⟨_, rfl, by decide, hs4, HA.out⟩
  · have c0 := (L4.2.1 1).trans (new_cell _ _ 1 rfl)
    go_wp2_with fail
    go_ret
    exact ⟨_, rfl, by decide, hs4, HA.out⟩
  · have c0 := (L4.2.1 2).trans (new_cell _ _ 2 rfl)
    go_wp2_with fail
    go_ret
    exact ⟨_, rfl, by decide, hs4, HA.out⟩
  · have c0 := (L4.2.1 3).trans (new_cell _ _ 3 rfl)
    go_wp2_with fail
    go_ret
    exact ⟨_, rfl, by decide, hs4, HA.out⟩
theorem own_string_app {w' : World} {base : Nat} {v' : Value} {l : List ByteArray} {x : ByteArray} (h : w'.ownsRow base 9 1 v' (l.length + 1) (l.map Value.string ++ [.string x])) : w'.ownsRow base 9 1 v' (l ++ [x]).length ((l ++ [x]).map Value.string) := by simpa using h
set_option maxRecDepth 100000 in
set_option maxHeartbeats 4000000 in
theorem names_d (w0 : World) (B r k : Nat) (w : World) (hk : k ≤ 800000) (h : St w0 B r k w) :
    Calls Tryd.prog 41 #[.pointer (some ⟨r, 0, none⟩), .int .i64 0] w fun e w' => ∃ (V : Value) (l : List ByteArray), e = .returned V ∧ OwnA w' w.heap.size V l ∧ l.length ≤ 3 ∧ (∀ x ∈ l, x.size ≤ 8) ∧ St w0 B r (k + 10) w' ∧ Aside r w w' := by
  obtain ⟨z1, z2, z3⟩ := h.size
  obtain ⟨i0, hi0, hz0, hz1, hz2⟩ := info_parts infoStr
  have HI := hide hi0
  have HZ0 := hide hz0
  have HZ1 := hide hz1
  have HZ2 := hide hz2
  clear hi0 hz0 hz1 hz2
  have O0 : OwnA (w.alloc (.cells #[] 9)) w.heap.size (.slice (some ⟨w.heap.size, 0, none⟩) 0 0) [] := ⟨World.ownsRow_made w #[] 0 (Nat.le_refl _) (Nat.zero_le _) (by simp), fun e => by cases e⟩
  go_enter Tryd.func41, Tryd.ntmps41
  go_wp2_with fail
  refine (pick_s w0 B r k 4 _ (by omega) (by omega) (by omega) (h.alloc _)).mono ?_
  rintro e w4 ⟨m, rfl, m0, m1, hs4, ha4⟩
  have HA4 := hide (((Aside.refl r w).alloc _).trans ha4)
  have O4 := hide (show OwnA w4 w.heap.size (.slice (some ⟨w.heap.size, 0, none⟩) 0 0) [] from ⟨own_keepB O0.1 fun b hb => ha4.2 b (own_block O0.1 b hb).2 (by have := (own_block O0.1 b hb).1; omega), O0.2⟩)
  clear O0
  obtain ⟨p0, rfl⟩ := Int.eq_ofNat_of_zero_le m0
  go_wp2_with fail
  go_loopw [5, 6] (fun hv kv wr => ∃ (p : Nat) (l : List ByteArray), kv = .int .i64 (p : Nat) ∧ p ≤ 3 ∧ l.length + p ≤ 3 ∧ Hid (OwnA wr w.heap.size hv l) ∧ Hid (∀ x ∈ l, x.size ≤ 8) ∧ St w0 B r (k + 5 - p) wr ∧ Hid (Aside r w wr)) (fun _ kv _ => (intOf kv).toNat)
  case atStart => exact ⟨p0, [], rfl, by omega, by simp; omega, O4.out, fun x hx => absurd hx (by simp), hs4.mono (by omega), HA4.out⟩
  case round =>
    obtain ⟨p, l, rfl, hp, hlp, hown, h8, hst, hasd⟩ := hrel
    obtain ⟨y1, y2, y3⟩ := hst.size
    by_cases h0 : p = 0
    · subst h0
      go_wp2_with fail
      refine (odd_0 r _).mono ?_
      rintro e w5 ⟨rfl, rfl⟩
      go_wp2_with fail
      go_ret
      exact ⟨_, l, rfl, hown.out, by omega, h8.out, hst.mono (by omega), hasd.out⟩
    · have hp0 : (0 : Int) < p := by omega
      have jw := IntWalk.i64_in ((p : Int) - 1) (by omega)
      have hzw := hasd.out.1.size
      go_wp2_with fail
      refine (name_d w0 B r _ _ (by omega) hst).mono ?_
      rintro e w5 ⟨x, rfl, hx8, hs5, ha5⟩
      have O5 := hide (show OwnA w5 w.heap.size _ l from ⟨own_keepB hown.out.1 fun b hb => ha5.2 b (own_block hown.out.1 b hb).2 (by have := (own_block hown.out.1 b hb).1; omega), hown.out.2⟩)
      have hz5 := ha5.1.size
      go_wp2_with (at_builtin; refine wpList_append_own _ rfl _ _ 44 rfl w.heap.size 9 i0 (.string ByteArray.empty) 1 16 Tryd.underlying44 HI.out HZ0.out HZ1.out HZ2.out rfl (by decide) _ _ _ rfl (World.ownsRow.alloc O5.out.1 _) ⟨_, 0, none⟩ 1 1 [.string x] rfl rfl ?qc2 ?qc3 ?qc4 ?qc5 ?qc6 ?_)
      try (case qc2 => exact one_new _ _ _ rfl)
      case qc3 => first | exact one_cell rfl | rfl
      case qc4 => unfold maxLen; omega
      case qc5 => omega
      case qc6 => simp; omega
      intro v' w6 hown6 hgrow hnil
      have HO6 := hide (show OwnA w6 w.heap.size v' (l ++ [x]) from ⟨own_string_app (by simpa using hown6), hnil⟩)
      have S6 := (hs5.alloc (.cells #[.string x] 9)).grown hgrow (fun q hq => by have := (own_block O5.out.1 q hq).1; omega)
      have A6 := hide (((hasd.out.trans ha5).alloc (.cells #[.string x] 9)).grown hgrow (fun q hq => (own_block O5.out.1 q hq).1))
      have H86 := hide (show ∀ y ∈ l ++ [x], y.size ≤ 8 from fun y hy => by
        rcases List.mem_append.1 hy with h | h
        · exact h8.out y h
        · simp at h; subst h; exact hx8)
      clear hown6 hgrow hnil
      go_wp2_with fail
      exact ⟨⟨p - 1, l ++ [x], by go_num, by omega, by simp; omega, HO6, H86, S6.mono (by omega), A6⟩, by simp [intOf] <;> omega⟩
theorem joinP_size (l : List ByteArray) : (joinP l).size ≤ 54 := by
  rcases Classical.em (PV l) with hv | hv
  · rw [joinP_yes hv]
    split
    · exact (by decide : (ByteArray.mk #[47]).size ≤ 54)
    · have := catK_small (l := l) (k := l.length) (fun i p _ hp => hv.2 p (List.mem_of_getElem? hp))
      have := hv.1
      omega
  · rw [joinP_no hv]; exact Nat.zero_le _
theorem path_d (w0 : World) (B r k : Nat) (w : World) (hk : k ≤ 700000) (h : St w0 B r k w) :
    Calls Tryd.prog 32 #[.pointer (some ⟨r, 0, none⟩), .int .i64 0] w fun e w' => ∃ x : ByteArray, e = .returned (.string x) ∧ x.size ≤ 54 ∧ St w0 B r (k + 10) w' ∧ Aside r w w' := by
  go_enter Tryd.func32, Tryd.ntmps32
  go_wp2_with fail
  refine (odd_0 r _).mono ?_
  rintro e w1 ⟨rfl, rfl⟩
  go_wp2_with fail
  refine (names_d w0 B r k _ (by omega) h).mono ?_
  rintro e w2 ⟨V, l, rfl, hO, h3, h8, hs2, ha2⟩
  obtain ⟨g, c, rfl, hc, hg, hR⟩ := hO.p
  go_wp2_with fail
  refine (jnSpec_c _ l.length c l (by omega) (fun x hx => by have := h8 x hx; unfold maxLen; omega) _ ⟨rfl, fun _ => ⟨g, 0, rfl, hR⟩⟩).mono ?_
  rintro e w3 ⟨rfl, rfl⟩
  go_wp2_with fail
  go_ret
  exact ⟨_, rfl, joinP_size l, hs2, ha2⟩
end Go.Proofs.YtgpdblkaidllmaaDoor
