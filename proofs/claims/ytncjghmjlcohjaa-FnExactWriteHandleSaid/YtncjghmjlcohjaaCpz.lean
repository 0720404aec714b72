/-
  Copies of trees by toNodeS: of one's own, their slices not nil. No condition.
-/
import Derived.Test.YtncjghmjlcohjaaProg
import Derived.Test.YtncjghmjlcohjaaCpw
namespace Go.Proofs.Ytncjghmjlcohjaa
open Go.RowKit
set_option linter.unusedSimpArgs false
set_option linter.unusedVariables false

theorem inJ_of {w : World} {g n B : Nat} {vs : List Value} {l : List Node} (h : Row w g (n * 7) (fun j => vs[j]?)) (hl : l.length = n) (ho : NodesOk w B vs l n) : InJ w (some ⟨g, 0, none⟩) n l := by
  refine ⟨hl, fun _ => ⟨g, 0, rfl, h.lt, fun k t ht => ?_⟩⟩
  have hk : k < n := by rw [← hl]; exact (List.getElem?_eq_some_iff.1 ht).1
  obtain ⟨S, K, h1, ⟨a, x, rfl, e2, rfl, e4⟩, ⟨a', x', rfl, f2, rfl, f4⟩⟩ := ho k t hk ht
  have hc : ∀ j v, j < 7 → ([.bool t.dir, .int .i64 t.owner, .int .i64 t.group, .int .i64 t.mode, .string t.text, .slice (some ⟨a, 0, none⟩) t.names.length t.names.length, .slice (some ⟨a', 0, none⟩) t.kids.length t.kids.length] : List Value)[j]? = some v → w.cell? ⟨g, 0 + k * 7 + j, none⟩ = some v := fun j v hj hv => by
    rw [Nat.zero_add]
    exact h.cell ((h1 j hj).trans hv)
  exact ⟨_, _, _, _, ⟨hc 0 _ (by omega) rfl, hc 1 _ (by omega) rfl, hc 2 _ (by omega) rfl, hc 3 _ (by omega) rfl, hc 4 _ (by omega) rfl, hc 5 _ (by omega) rfl, hc 6 _ (by omega) rfl⟩, ⟨rfl, fun _ => ⟨a, 0, rfl, e4⟩⟩, ⟨rfl, fun _ => ⟨a', 0, rfl, f4⟩⟩⟩
theorem cpN_of {w : World} {g n B B' : Nat} {q : Nat → Nat} {vs : List Value} {l : List Node} (h : Row w g (n * 7) (fun j => vs[j]?)) (hl : l.length = n) (hB : B' ≤ g) (ho : NodesOk w B vs l n) (hot : OwnT w g q vs l n) : CpN false w B' (.slice (some ⟨g, 0, none⟩) n n) l n := by
  obtain ⟨o1, o2, o3, o4⟩ := hot
  refine ⟨g, n, n * 7, q, _, rfl, Nat.le_refl _, hB, hl, Nat.le_refl _, o2, h, fun k t ht => ?_, by omega, o4, fun hh => by cases hh⟩
  have hk : k < n := by rw [← hl]; exact (List.getElem?_eq_some_iff.1 ht).1
  obtain ⟨S, K, h1, ⟨a, x, rfl, e2, rfl, e4⟩, ⟨a', x', rfl, f2, rfl, f4⟩⟩ := ho k t hk ht
  obtain ⟨A, c, A2, c2, d1, d2, d3, d4, d5, d6, d7, d8⟩ := o1 k t hk ht
  have k5 := (h1 5 (by omega)).symm.trans d1
  have k6 := (h1 6 (by omega)).symm.trans d2
  simp at k5 k6
  obtain ⟨rfl, rfl⟩ := k5
  obtain ⟨rfl, rfl⟩ := k6
  exact ⟨_, _, _, _, h1, d3, d4, d5, d6, d7, d8, ⟨rfl, fun _ => ⟨a, 0, rfl, e4⟩⟩, ⟨rfl, fun _ => ⟨a', 0, rfl, f4⟩⟩, fun hh => by cases hh⟩
set_option maxHeartbeats 2000000 in
theorem toNodeSJ_c (A : Option Addr) (n c : Nat) (l : List Node) (w : World) (hA : InNode w A n l) (hn : n ≤ 1048576) (hz : ∀ t ∈ l, NodeS t) :
    Calls Try.prog 10 #[.slice A n c] w fun e w' => ∃ g, e = .returned (.slice (some ⟨g, 0, none⟩) n n) ∧ CpN false w' w.heap.size (.slice (some ⟨g, 0, none⟩) n n) l n ∧ InJ w' (some ⟨g, 0, none⟩) n l ∧ Below w.heap.size w w' := by
  obtain ⟨i0, hi0, hz0, hz1, hz2⟩ := info_parts infoNode
  have hmk := fun W => run_make_rowN (P := Try.prog) 26 60 i0 _ Try.underlying26 hi0 hz0 .i64 .i64 n n (Nat.le_refl _) (by rw [hz2]; omega) (by omega) W
  rw [hz1] at hmk
  have hA' := hide hA
  have HZ := hide hz
  clear hA hz
  go_enter Try.func10, Try.ntmps10
  go_wp2_with fail
  clear hmk
  generalize hW : w.alloc (.cells (madeCells #[.bool false, .int .i64 0, .int .i64 0, .int .i64 0, .string ByteArray.empty, .slice none 0 0, .slice none 0 0] (n * 7)) 60) = W
  have hr0 : Row W w.heap.size (n * 7) (fun j => ([] : List Value)[j]?) := by
    rw [← hW]
    have := Row.made w 60 (madeCells #[.bool false, .int .i64 0, .int .i64 0, .int .i64 0, .string ByteArray.empty, .slice none 0 0, .slice none 0 0] (n * 7)) (fun j => ([] : List Value)[j]?) (fun j u hj => by simp at hj)
    rwa [size_madeCells] at this
  have hb0 : Below w.heap.size w W := by rw [← hW]; exact below_alloc0 (Below.refl _ _) _
  clear hW
  go_loopw [4] (fun i wr => ∃ (k : Nat) (vs : List Value) (q : Nat → Nat), k ≤ n ∧ i = .int .i64 k ∧ vs.length = k * 7 ∧ Hid (Row wr w.heap.size (n * 7) (fun j => vs[j]?)) ∧ Hid (NodesOk wr (w.heap.size + 1) vs l k) ∧ Hid (OwnT wr w.heap.size q vs l k) ∧ Hid (Below w.heap.size w wr)) (fun i _ => n - (intOf i).toNat)
  case atStart => exact ⟨0, [], fun _ => w.heap.size + 1, by omega, rfl, rfl, hr0, fun i t hi => absurd hi (by omega), ⟨fun i t hi => absurd hi (by omega), fun i j _ _ => Nat.le_refl _, Nat.lt_succ_self _, by have := hr0.lt; show w.heap.size + 1 ≤ W.heap.size; omega⟩, hb0⟩
  case round =>
    obtain ⟨k, vs, q, hk, rfl, hvl, hrow, hok, hot, hbel⟩ := hrel
    by_cases hlt : k < n
    · obtain ⟨b, off, hA0, hR⟩ := hA'.out.2 (by omega)
      subst hA0
      obtain ⟨t, ht⟩ : ∃ t, l[k]? = some t := ⟨_, List.getElem?_eq_getElem (by have := hA'.out.1; omega)⟩
      obtain ⟨S, K, ⟨c0, c1, c2, c3, c4, c5, c6⟩, hS, hK⟩ := (hR.below hbel.out).2 k t ht
      have hlb := (hR.below hbel.out).1
      have HT := hide ht
      have HZt := hide (HZ.out t (List.mem_of_getElem? ht))
      have HSK := hide (And.intro hS hK)
      have hkk : (k : Int) < n := by omega
      have hgl := hrow.out.lt
      clear ht hR hS hK
      go_wp2_with fail
      refine (toNodeR_c t S K HZt.out _ HSK.out.1 HSK.out.2).mono ?_
      rintro e w1 ⟨g, h, n1, m1, rfl, hg, hh, hgh, hn1, hm1, hRs, hRk, hbx⟩
      have R1 := hide (hrow.out.below hbx hgl)
      have K1 := hide (hok.out.below hbx)
      have B1 := hide (below_via0 hbel.out hbx)
      have hg1 := R1.out.lt
      obtain ⟨x0, gs0⟩ := R1.out.some_ex (j := k * 7) (by omega)
      obtain ⟨x1, gs1⟩ := R1.out.some_ex (j := k * 7 + 1) (by omega)
      obtain ⟨x2, gs2⟩ := R1.out.some_ex (j := k * 7 + 2) (by omega)
      obtain ⟨x3, gs3⟩ := R1.out.some_ex (j := k * 7 + 3) (by omega)
      obtain ⟨x4, gs4⟩ := R1.out.some_ex (j := k * 7 + 4) (by omega)
      obtain ⟨x5, gs5⟩ := R1.out.some_ex (j := k * 7 + 5) (by omega)
      obtain ⟨x6, gs6⟩ := R1.out.some_ex (j := k * 7 + 6) (by omega)
      have gf0 := R1.out.frozen (k * 7)
      have gf1 := R1.out.frozen (k * 7 + 1)
      have gf2 := R1.out.frozen (k * 7 + 2)
      have gf3 := R1.out.frozen (k * 7 + 3)
      have gf4 := R1.out.frozen (k * 7 + 4)
      have gf5 := R1.out.frozen (k * 7 + 5)
      have gf6 := R1.out.frozen (k * 7 + 6)
      have HRS := hide (show OwS w1 (w.heap.size + 1) (.slice (some ⟨g, 0, none⟩) n1 n1) t.names from ⟨g, n1, rfl, by omega, hn1, hRs.rd⟩)
      have HRK := hide (show OwK w1 (w.heap.size + 1) (.slice (some ⟨h, 0, none⟩) m1 m1) t.kids from ⟨h, m1, rfl, by omega, hm1, hRk.rd⟩)
      have HWW := hide (And.intro (hRs.wr hn1) (hRk.wr hm1))
      have hbs := hbel.out.size
      have HOT := hide (OwnT.next (g := g) (h := h) (n1 := n1) (m1 := m1) hot.out hvl HT.out hbx hRs hRk hn1 hm1 (by omega) hg hgh)
      clear hrow hok hbel hbx hRs hRk hot HWW hbs c0 c1 c2 c3 c4 c5 c6
      go_wp2_with fail
      refine ⟨⟨k + 1, vs ++ [.bool t.dir, .int .i64 t.owner, .int .i64 t.group, .int .i64 t.mode, .string t.text, .slice (some ⟨g, 0, none⟩) n1 n1, .slice (some ⟨h, 0, none⟩) m1 m1], fun i => if i ≤ 2 * k then q i else if i = 2 * k + 1 then h else w1.heap.size, by omega, by go_num, by simp [hvl]; omega, hide (row_add7 (t := t) R1.out hvl (by omega)), ?_, hide ((((((((HOT.out).far _).far _).far _).far _).far _).far _).far _), hide (((((((B1.out.setCell (p := ⟨w.heap.size, _, none⟩) (Nat.le_refl _) _).setCell (p := ⟨w.heap.size, _, none⟩) (Nat.le_refl _) _).setCell (p := ⟨w.heap.size, _, none⟩) (Nat.le_refl _) _).setCell (p := ⟨w.heap.size, _, none⟩) (Nat.le_refl _) _).setCell (p := ⟨w.heap.size, _, none⟩) (Nat.le_refl _) _).setCell (p := ⟨w.heap.size, _, none⟩) (Nat.le_refl _) _).setCell (p := ⟨w.heap.size, _, none⟩) (Nat.le_refl _) _)⟩, by simp [intOf] <;> omega⟩
      have hz : w.heap.size < w.heap.size + 1 := by omega
      exact hide (((((((((K1.out.next hvl HT.out HRS.out HRK.out).far hz _).far hz _).far hz _).far hz _).far hz _).far hz _).far hz _))
    · obtain rfl : k = n := by omega
      go_wp2_with fail
      go_ret
      exact ⟨w.heap.size, rfl, cpN_of hrow.out hA'.out.1 (Nat.le_refl _) hok.out hot.out, inJ_of hrow.out hA'.out.1 hok.out, hbel.out⟩
end Go.Proofs.Ytncjghmjlcohjaa
