/-
  What is drawn: maps of users. No condition.
-/
import Derived.Test.YthocpajiihdceaaProg
import Derived.Test.YthocpajiihdceaaRngO
import Derived.Test.YthocpajiihdceaaDraw
namespace Go.Proofs.Ythocpajiihdceaa
open Go.RowKit
set_option linter.unusedSimpArgs false
set_option linter.unusedVariables false

theorem InB.below {w w' : World} {A : Option Addr} {n c : Nat} (h : InB w A n c) (hb : Below w.heap.size w w') : InB w' A n c :=
  ⟨h.1, h.2.1, fun h0 => by
    obtain ⟨b, off, hA, hlt, hne, hc⟩ := h.2.2 h0
    have := hb.size
    refine ⟨b, off, hA, by omega, by omega, fun i hi => ?_⟩
    obtain ⟨x, h1, h2, h3⟩ := hc i hi
    exact ⟨x, h1, h2, (hb.cell (p := ⟨b, _, none⟩) hlt).trans h3⟩⟩
def DrewR (w0 : World) (B r k : Nat) (w : World) (e : Ending) (w' : World) : Prop :=
  ∃ (g cap : Nat) (l : List Rng), e = .returned (.slice (some ⟨g, 0, none⟩) l.length cap) ∧ w.heap.size ≤ g ∧ RR w' g 0 l ∧ l.length ≤ 5 ∧ l.length ≤ cap ∧ cap ≤ maxLen ∧ St w0 B r k w' ∧ Aside r w w'
theorem lit_rng (q : Nat) (h : q < 4) : ∃ t : Rng, ∀ j : Nat, j < 3 → (#[Value.int .i64 0, .int .i64 0, .int .i64 0, .int .i64 95, .int .i64 0, .int .i64 6, .int .i64 80, .int .i64 (-1), .int .i64 2, .int .i64 0, .int .i64 0, .int .i64 100] : Array Value)[q * 3 + j]? = (flatR [t])[j]? := by
  obtain rfl | rfl | rfl | rfl : q = 0 ∨ q = 1 ∨ q = 2 ∨ q = 3 := by omega
  · exact ⟨⟨0, 0, 0⟩, fun j hj => by obtain rfl | rfl | rfl : j = 0 ∨ j = 1 ∨ j = 2 := by omega
                                     all_goals rfl⟩
  · exact ⟨⟨95, 0, 6⟩, fun j hj => by obtain rfl | rfl | rfl : j = 0 ∨ j = 1 ∨ j = 2 := by omega
                                      all_goals rfl⟩
  · exact ⟨⟨80, -1, 2⟩, fun j hj => by obtain rfl | rfl | rfl : j = 0 ∨ j = 1 ∨ j = 2 := by omega
                                       all_goals rfl⟩
  · exact ⟨⟨0, 0, 100⟩, fun j hj => by obtain rfl | rfl | rfl : j = 0 ∨ j = 1 ∨ j = 2 := by omega
                                       all_goals rfl⟩
set_option maxHeartbeats 4000000 in
theorem drawR_c (B r k : Nat) (n : Int) (w : World) (hn : 1 ≤ n) (hn2 : n ≤ 1000000) (hk : k ≤ 100000) (h : Rdr w B r k) :
    Calls Try.prog 36 #[.pointer (some ⟨r, 0, none⟩), .int .i64 n] w fun e w' => DrewR w B r (k + 30) w e w' := by
  have hs := St.start h
  obtain ⟨z1, z2, _⟩ := hs.size
  obtain ⟨i0, hi0, hz0, hz1, hz2⟩ := info_parts infoR
  have HI := hide hi0
  have HZ0 := hide hz0
  have HZ1 := hide hz1
  have HZ2 := hide hz2
  clear hi0 hz0 hz1 hz2
  go_enter Try.func36, Try.ntmps36
  go_wp2_with fail
  refine (pick_s w B r k 4 _ (by omega) (by omega) (by omega) (hs.alloc _)).mono ?_
  rintro e w1 ⟨x, rfl, x0, x1, hs1, ha1⟩
  have own1 : Hid (w1.ownsRow w.heap.size 33 3 (.slice (some ⟨w.heap.size, 0, none⟩) 0 0) 0 []) :=
    own_keepB (World.ownsRow_made w #[] 0 (Nat.le_refl _) (Nat.zero_le _) (by simp)) fun b hb => by
      simp only [Value.ownBlock, Option.some.injEq] at hb; subst hb
      exact ha1.2 _ (by simp) (by omega)
  have y1 := hs1.size.2.2
  have L1 := ha1.1.size
  simp at L1
  go_wp2_with fail
  refine (pick_s w B r (k + 1) 4 _ (by omega) (by omega) (by omega) hs1).mono ?_
  rintro e w2 ⟨y, rfl, yy0, yy1, hs2, ha2⟩
  have own2 := hide (own_keepB own1.out (w' := w2) fun b hb => by
      simp only [Value.ownBlock, Option.some.injEq] at hb; subst hb
      exact ha2.2 _ (by omega) (by omega))
  have L2 := ha2.1.size
  go_wp2_with fail
  refine (pick_s w B r (k + 1 + 1) 4 _ (by omega) (by omega) (by omega) hs2).mono ?_
  rintro e w3 ⟨z, rfl, zz0, zz1, hs3, ha3⟩
  have own3 := hide (own_keepB own2.out (w' := w3) fun b hb => by
      simp only [Value.ownBlock, Option.some.injEq] at hb; subst hb
      exact ha3.2 _ (by omega) (by omega))
  go_wp2_with fail
  go_loopw [5, 6, 7, 8] (fun hv0 av bv kv wr => ∃ (hv : Value) (a b : Int) (q : Nat) (l : List Rng), hv = hv0 ∧ av = .int .i64 a ∧ bv = .int .i64 b ∧ kv = .int .i64 q ∧ l.length + q ≤ 3 ∧ 0 ≤ a ∧ a ≤ 3 + 8 * l.length ∧ 0 ≤ b ∧ b ≤ 53 + 8 * l.length ∧ Hid (wr.ownsRow w.heap.size 33 3 hv l.length (flatR l)) ∧ Hid (hv ≠ .slice none 0 0) ∧ St w B r (k + 3 + 3 * l.length) wr) (fun _ _ _ kv _ => (intOf kv).toNat)
  case atStart =>
    obtain ⟨z, rfl⟩ := Int.eq_ofNat_of_zero_le zz0
    exact ⟨_, x, 50 + y, z, [], rfl, rfl, rfl, rfl, by simp; omega, x0, by simp; omega, by omega, by simp; omega, own3, (fun e => by cases e), by simpa using hs3⟩
  case round =>
    obtain ⟨hv, a, b, q, l, rfl, rfl, rfl, rfl, hq, ha0, ha1', hb0, hb1', hown, hne, hst0⟩ := hrel
    have y2 := hst0.size.2.2
    by_cases hlt : 0 < q
    · obtain ⟨q, rfl⟩ : ∃ p, q = p + 1 := ⟨q - 1, by omega⟩
      have hlt' : (0 : Int) < (q : Int) + 1 := by omega
      go_wp2_with fail
      refine (pick_s w B r _ 6 _ (by omega) (by omega) ?_ hst0).mono ?_
      · omega
      rintro e w4 ⟨m, rfl, m0, m1, hs4, ha4⟩
      have own4 := hide (own_keepB hown.out (w' := w4) fun b hb => ha4.2 b (own_block hown.out b hb).2 (by have := (own_block hown.out b hb).1; omega))
      have OWN4 := hide (own4.out.alloc (.cells #[.int .i64 a, .int .i64 b, .int .i64 (1 + m)] 33))
      have y4 := hs4.size.2.2
      go_wp2_with (at_builtin; refine wpList_append_own _ rfl _ _ 25 rfl w.heap.size 33 i0 _ 3 24 Try.underlying25 HI.out HZ0.out HZ1.out HZ2.out rfl (by decide) _ _ _ rfl OWN4.out ⟨w4.heap.size, 0, none⟩ 1 1 (flatR [⟨a, b, 1 + m⟩]) rfl rfl ?qa0 (flatR_one _) ?qb0 ?qc0 ?qd0 ?_)
      case qa0 => exact flatR_new w4 ⟨a, b, 1 + m⟩ _ _ rfl
      case qb0 => unfold maxLen; omega
      case qc0 => omega
      case qd0 => simp; omega
      intro v' w5 hown' hgrow hnil
      have hne2 := hide (show v' ≠ .slice none 0 0 from fun e => by simp [e] at hnil)
      have own5 := hide (show w5.ownsRow w.heap.size 33 3 v' (l ++ [(⟨a, b, 1 + m⟩ : Rng)]).length (flatR (l ++ [(⟨a, b, 1 + m⟩ : Rng)])) by
        rw [flatR_app]; simpa using hown')
      have st5 := (hs4.alloc (.cells #[.int .i64 a, .int .i64 b, .int .i64 (1 + m)] 33)).grown hgrow (fun b hb => (own_block OWN4.out b hb).1)
      have y5 := st5.size.2.2
      clear hown' hgrow hnil
      go_wp2_with fail
      refine (pick_s w B r _ 3 _ (by omega) (by omega) ?_ st5).mono ?_
      · omega
      rintro e w6 ⟨u, rfl, u0, u1, hs6, ha6⟩
      have own6 := hide (own_keepB own5.out (w' := w6) fun b hb => ha6.2 b (own_block own5.out b hb).2 (by have := (own_block own5.out b hb).1; omega))
      have y6 := hs6.size.2.2
      go_wp2_with fail
      refine (pick_s w B r _ 3 _ (by omega) (by omega) ?_ hs6).mono ?_
      · omega
      rintro e w7 ⟨v, rfl, v0, v1, hs7, ha7⟩
      have own7 := hide (own_keepB own6.out (w' := w7) fun b hb => ha7.2 b (own_block own6.out b hb).2 (by have := (own_block own6.out b hb).1; omega))
      go_wp2_with fail
      exact ⟨⟨v', a + (1 + m) + u, b + (1 + m) + v, q, l ++ [(⟨a, b, 1 + m⟩ : Rng)], rfl, rfl, rfl, by go_num, by simp; omega, by omega, by simp; omega, by omega, by simp; omega, own7.out, hne2.out, hs7.mono (by simp; omega)⟩, by simp [intOf]⟩
    · obtain rfl : q = 0 := by omega
      have hl5 : l.length ≤ 3 := by omega
      go_wp2_with fail
      refine (odd_s w B r _ n _ hn (by omega) (by omega) hst0).mono ?_
      rintro e w2 ⟨o, rfl, hs2, ha2⟩
      have own2 := hide (own_keepB hown.out (w' := w2) fun b hb => ha2.2 b (own_block hown.out b hb).2 (by have := (own_block hown.out b hb).1; omega))
      have y3 := hs2.size.2.2
      cases o with
      | false =>
        obtain ⟨g, cap, m, rfl, hg, hcap, hcm, hm, hrow⟩ := ownR_of rfl own2.out hne.out
        have hR := RR_of_rowm hrow rfl
        go_wp2_with fail
        go_ret
        exact ⟨g, cap, l, rfl, hg, hR, by omega, hcap, hcm, hs2.mono (by omega), hs2.2.1⟩
      | true =>
        go_wp2_with fail
        refine (pick_s w B r _ 4 _ (by omega) (by omega) ?_ (hs2.alloc _)).mono ?_
        · omega
        rintro e w3 ⟨x, rfl, x0, x1, hs3, ha3⟩
        obtain ⟨x, rfl⟩ := Int.eq_ofNat_of_zero_le x0
        have y4 := hs3.size.2.2
        have L3 := liveA ha3 w2.heap.size (by simp) (by omega)
        obtain ⟨t, ht⟩ := lit_rng x (by omega)
        have c0 : w3.cell? ⟨w2.heap.size, x * 3, none⟩ = some (.int .i64 t.i) := by rw [L3.2.1]; simpa [flatR] using ht 0 (by omega)
        have c1 : w3.cell? ⟨w2.heap.size, x * 3 + 1, none⟩ = some (.int .i64 t.o) := by rw [L3.2.1]; simpa [flatR] using ht 1 (by omega)
        have c2 : w3.cell? ⟨w2.heap.size, x * 3 + 2, none⟩ = some (.int .i64 t.m) := by rw [L3.2.1]; simpa [flatR] using ht 2 (by omega)
        clear ht L3
        have own3 := hide (own_keepB (own2.out.alloc (.cells #[.int .i64 0, .int .i64 0, .int .i64 0, .int .i64 95, .int .i64 0, .int .i64 6, .int .i64 80, .int .i64 (-1), .int .i64 2, .int .i64 0, .int .i64 0, .int .i64 100] 33)) (w' := w3) fun b hb => ha3.2 b (by have := own_block own2.out b hb; simp; omega) (by have := (own_block own2.out b hb).1; omega))
        have OWN3 := hide (own3.out.alloc (.cells #[.int .i64 t.i, .int .i64 t.o, .int .i64 t.m, .int .i64 0, .int .i64 52, .int .i64 3] 33))
        go_wp2_with (at_builtin; refine wpList_append_own _ rfl _ _ 25 rfl w.heap.size 33 i0 _ 3 24 Try.underlying25 HI.out HZ0.out HZ1.out HZ2.out rfl (by decide) _ _ _ rfl OWN3.out ⟨w3.heap.size, 0, none⟩ 2 2 (flatR [t, ⟨0, 52, 3⟩]) rfl rfl ?qa1 (flatR_one _) ?qb1 ?qc1 ?qd1 ?_)
        case qa1 =>
          intro j u hj
          have : ((⟨w3.heap.size, 0, none⟩ : Addr).add j) = ⟨w3.heap.size, j, none⟩ := by
            unfold Addr.add
            split
            · rename_i h; rw [h]
            · simp
          rw [this]
          exact (Row.made w3 33 #[.int .i64 t.i, .int .i64 t.o, .int .i64 t.m, .int .i64 0, .int .i64 52, .int .i64 3] (fun j => #[Value.int .i64 t.i, .int .i64 t.o, .int .i64 t.m, .int .i64 0, .int .i64 52, .int .i64 3][j]?) (fun _ _ h => h)).cell (by simpa [flatR] using hj)
        case qb1 => unfold maxLen; omega
        case qc1 => omega
        case qd1 => simp; omega
        intro v' w4 hown' hgrow hnil
        have hne2 : v' ≠ .slice none 0 0 := fun e => by simp [e] at hnil
        have own4 : w4.ownsRow w.heap.size 33 3 v' (l ++ [t, (⟨0, 52, 3⟩ : Rng)]).length (flatR (l ++ [t, (⟨0, 52, 3⟩ : Rng)])) := by
          rw [flatR_app]; simpa using hown'
        have st4 := (hs3.alloc (.cells #[.int .i64 t.i, .int .i64 t.o, .int .i64 t.m, .int .i64 0, .int .i64 52, .int .i64 3] 33)).grown hgrow (fun b hb => (own_block OWN3.out b hb).1)
        obtain ⟨g4, cap4, m4, rfl, hg4, hcap4, hcm4, hm4, hrow4⟩ := ownR_of rfl own4 hne2
        have hR4 := RR_of_rowm hrow4 rfl
        clear hown' hgrow hnil hne2 own4 hrow4
        go_wp2_with fail
        go_ret
        exact ⟨g4, cap4, l ++ [t, (⟨0, 52, 3⟩ : Rng)], by simp, hg4, hR4, by simp; omega, hcap4, hcm4, st4.mono (by omega), st4.2.1⟩
end Go.Proofs.Ythocpajiihdceaa
