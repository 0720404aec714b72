/-
  What is drawn: mounts. No condition.
-/
import Derived.Test.YtgpdblkaidllmaaDoorProg
import Derived.Test.YtgpdblkaidllmaaDoorMdr
import Derived.Test.YtgpdblkaidllmaaDoorMto
import Derived.Test.YtgpdblkaidllmaaDoorMvs
import Derived.Test.YtgpdblkaidllmaaDoorFlowZ
import Derived.Test.YtgpdblkaidllmaaDoorFlowS
namespace Go.Proofs.YtgpdblkaidllmaaDoor
open Go.RowKit
set_option linter.unusedSimpArgs false
set_option linter.unusedVariables false

/-- What is known of the operations of the statement that asks whether the mounts with one more are valid. -/
def mdF (hv : Value) (l : List Mount) (a b : ByteArray) (lo : Nat) (i : Nat) (v : Value) (vs : List Value) (W : World) : Prop :=
  match i with
  | 0 => ∃ q, v = .slice (some ⟨q, 0, none⟩) 0 0 ∧ lo ≤ q ∧ Row W q 0 noCell ∧ W.ownsRow lo 28 2 v 0 []
  | 1 => v = hv
  | 2 => W.ownsRow lo 28 2 v l.length (flatM l) ∧ v ≠ .slice none 0 0
  | 3 => v = .agg #[.string a, .string b]
  | 4 => ∃ q, v = .slice (some ⟨q, 0, none⟩) 1 1 ∧ lo ≤ q ∧ Row W q 2 (rwl [.string a, .string b])
  | 5 => W.ownsRow lo 28 2 v (l.length + 1) (flatM (l ++ [⟨a, b⟩])) ∧ v ≠ .slice none 0 0
  | 6 => v = .bool (mntB (l ++ [⟨a, b⟩]))
  | _ => True
def mdC (lo : Nat) (i : Nat) (W W' : World) : Prop :=
  if i = 2 then ∃ q, lo ≤ q ∧ Row W q 0 noCell ∧ Below lo W W' ∧ ∀ k, k < W.heap.size → k ≠ q → W'.heap[k]? = W.heap[k]?
  else if i = 5 then Below lo W W' else Below W.heap.size W W'
theorem mdC_of {lo i : Nat} {W W' : World} (h2 : i ≠ 2) (h5 : i ≠ 5) (h : Below W.heap.size W W') : mdC lo i W W' := by
  unfold mdC; rw [if_neg h2, if_neg h5]; exact h
theorem Row.size_eq {w : World} {q k k' : Nat} {f f' : Nat → Option Value} (h : Row w q k f) (h' : Row w q k' f') : k = k' := by
  obtain ⟨C, T, h1, h2, _⟩ := h
  obtain ⟨C', T', h1', h2', _⟩ := h'
  rw [h1] at h1'
  cases h1'
  omega
theorem mdF_keep {hv : Value} {l : List Mount} {a b : ByteArray} {lo i j : Nat} {v : Value} {vs : List Value} {W W' : World} (hij : i ≠ j) (h2 : i = 2 → j ≠ 0 ∧ j ≠ 5) (h5 : i = 5 → j ≠ 0 ∧ j ≠ 2 ∧ j ≠ 4)
    (h : mdF hv l a b lo j v vs W) (hc : mdC lo i W W') : mdF hv l a b lo j v vs W' := by
  by_cases e2 : i = 2
  · subst e2
    obtain ⟨n0, n5⟩ := h2 rfl
    obtain ⟨q, hq, hrow, hb, hk⟩ := hc
    unfold mdF at h ⊢
    split <;> simp only at h <;> try exact h
    all_goals first | exact absurd rfl n0 | exact absurd rfl n5 | exact absurd rfl hij | skip
    obtain ⟨g, h1, h3, h4⟩ := h
    exact ⟨g, h1, h3, h4.keep (hk g h4.lt fun e => by subst e; have := h4.size_eq hrow; omega)⟩
  · by_cases e5 : i = 5
    · subst e5
      obtain ⟨n0, n2, n4⟩ := h5 rfl
      unfold mdF at h ⊢
      split <;> simp only at h <;> try exact h
      all_goals first | exact absurd rfl n0 | exact absurd rfl n2 | exact absurd rfl n4 | exact absurd rfl hij
    · unfold mdC at hc
      rw [if_neg e2, if_neg e5] at hc
      unfold mdF at h ⊢
      split <;> simp only at h <;> try exact h
      · obtain ⟨q, h1, h3, h4, h6⟩ := h
        exact ⟨q, h1, h3, h4.below hc h4.lt, own_below h6 hc⟩
      · exact ⟨own_below h.1 hc, h.2⟩
      · obtain ⟨q, h1, h3, h4⟩ := h
        exact ⟨q, h1, h3, h4.below hc h4.lt⟩
      · exact ⟨own_below h.1 hc, h.2⟩
set_option maxRecDepth 100000 in
set_option maxHeartbeats 8000000 in
theorem mounts_d (B r k : Nat) (w : World) (hk : k ≤ 100000) (hrd : Rdr w B r k) :
    Calls Tryd.prog 18 #[.pointer (some ⟨r, 0, none⟩), .int .i64 2] w fun e w' => ∃ (V : Value) (l : List Mount), e = .returned V ∧ w'.ownsRow w.heap.size 28 2 V l.length (flatM l) ∧ V ≠ .slice none 0 0 ∧ l.length ≤ 4 ∧ (∀ t ∈ l, MntS t) ∧ Aside r w w' := by
  have h := St.start hrd
  obtain ⟨z1, z2, z3⟩ := h.size
  obtain ⟨i0, hi0, hz0, hz1, hz2⟩ := info_parts infoMount
  have HI := hide hi0
  have HZ0 := hide hz0
  have HZ1 := hide hz1
  have HZ2 := hide hz2
  clear hi0 hz0 hz1 hz2
  have O0 := World.ownsRow_made (e := 28) (size := 2) w #[] 0 (Nat.le_refl _) (Nat.zero_le _) (by simp)
  go_enter Tryd.func18, Tryd.ntmps18
  go_wp2_with fail
  refine (pick_s w B r k 4 _ (by omega) (by omega) (by omega) (h.alloc _)).mono ?_
  rintro e w4 ⟨m, rfl, m0, m1, hs4, ha4⟩
  have O4 := hide (own_keepB O0 (w' := w4) fun b hb => ha4.2 b (own_block O0 b hb).2 (by have := (own_block O0 b hb).1; omega))
  clear O0
  obtain ⟨p0, rfl⟩ := Int.eq_ofNat_of_zero_le m0
  go_wp2_with fail
  go_loopw [5, 6] (fun hv kv wr => ∃ (p : Nat) (l : List Mount), kv = .int .i64 (p : Nat) ∧ p ≤ 3 ∧ l.length + p ≤ 3 ∧ Hid (wr.ownsRow w.heap.size 28 2 hv l.length (flatM l)) ∧ Hid (hv ≠ .slice none 0 0) ∧ Hid (∀ t ∈ l, MntS t) ∧ St w B r (k + 200 - 30 * p) wr) (fun _ kv _ => (intOf kv).toNat)
  case atStart => exact ⟨p0, [], rfl, by omega, by simp; omega, O4.out, (fun e => by cases e), fun x hx => absurd hx (by simp), hs4.mono (by omega)⟩
  case round =>
    obtain ⟨p, l, rfl, hp, hlp, hown, hne, h8, hst⟩ := hrel
    obtain ⟨y1, y2, y3⟩ := hst.size
    obtain ⟨go, co, mo, rfl, hgo, hcap, hcm, hmo, hrow⟩ := ownM_of rfl hown.out hne.out
    have HRow := hide hrow
    clear hrow
    by_cases h0 : p = 0
    · subst h0
      have hzw := hst.2.1.1.size
      go_wp2_with fail
      refine (odd_s w B r _ 2 _ (by omega) (by omega) (by omega) hst).mono ?_
      rintro e w2 ⟨o, rfl, hs2, ha2⟩
      have O2 := hide (own_keepB hown.out (w' := w2) fun b hb => ha2.2 b (own_block hown.out b hb).2 (by have := (own_block hown.out b hb).1; omega))
      have hz2 := ha2.1.size
      cases o
      · go_wp2_with fail
        go_ret
        exact ⟨_, l, rfl, O2.out, hne.out, by omega, h8.out, hs2.2.1⟩
      · go_wp2_with fail
        refine (pick_s w B r _ 3 _ (by omega) (by omega) (by omega) (hs2.alloc _)).mono ?_
        rintro e w5 ⟨x, rfl, x0, x1, hs5, ha5⟩
        have L5 := liveA ha5 w2.heap.size (by simp) (by omega)
        have hz5 := ha5.1.size
        have O5 := hide (own_keepB (World.ownsRow.alloc O2.out _) (w' := w5) fun b hb => ha5.2 b (own_block (World.ownsRow.alloc O2.out _) b hb).2 (by have := (own_block O2.out b hb).1; omega))
        simp at hz5
        obtain rfl | rfl | rfl : x = 0 ∨ x = 1 ∨ x = 2 := by omega
        · have c0 := (L5.2.1 0).trans (new_cell _ _ 0 rfl)
          have c1 := (L5.2.1 1).trans (new_cell _ _ 1 rfl)
          go_wp2_with (at_builtin; refine wpList_append_own _ rfl _ _ 23 rfl w.heap.size 28 i0 _ 2 32 Tryd.underlying23 HI.out HZ0.out HZ1.out HZ2.out rfl (by decide) _ _ _ rfl (World.ownsRow.alloc O5.out _) ⟨_, 0, none⟩ 1 1 (flatM [⟨⟨#[97]⟩, ⟨#[47]⟩⟩]) rfl rfl ?qc2 ?qc3 ?qc4 ?qc5 ?qc6 ?_)
          try (case qc2 => exact fun j u hj => flatM_new _ _ _ _ rfl j u hj)
          try (case qc3 => exact flatM_one _)
          case qc4 => unfold maxLen; omega
          case qc5 => omega
          case qc6 => simp; omega
          intro v' w8 hown8 hgrow hnil
          rw [← flatM_app] at hown8
          have O8 := hide (show w8.ownsRow w.heap.size 28 2 v' (l ++ [(⟨⟨#[97]⟩, ⟨#[47]⟩⟩ : Mount)]).length (flatM (l ++ [⟨⟨#[97]⟩, ⟨#[47]⟩⟩])) by simpa using hown8)
          have S8 := (hs5.alloc (.cells #[.string ⟨#[97]⟩, .string ⟨#[47]⟩] 28)).grown hgrow (fun q hq => (own_block O5.out q hq).1)
          have HN8 := hide (show v' ≠ .slice none 0 0 from fun e => by simp [e] at hnil)
          have HMS := hide (show ∀ t ∈ l ++ [(⟨⟨#[97]⟩, ⟨#[47]⟩⟩ : Mount)], MntS t from fun t ht => by
            rcases List.mem_append.1 ht with h | h
            · exact h8.out t h
            · simp at h; subst h; exact ⟨by decide, by decide⟩)
          clear hown8 hgrow hnil
          go_wp2_with fail
          go_ret
          exact ⟨_, _, rfl, O8.out, HN8.out, by simp; omega, HMS.out, S8.2.1⟩
        · have c0 := (L5.2.1 2).trans (new_cell _ _ 2 rfl)
          have c1 := (L5.2.1 3).trans (new_cell _ _ 3 rfl)
          go_wp2_with (at_builtin; refine wpList_append_own _ rfl _ _ 23 rfl w.heap.size 28 i0 _ 2 32 Tryd.underlying23 HI.out HZ0.out HZ1.out HZ2.out rfl (by decide) _ _ _ rfl (World.ownsRow.alloc O5.out _) ⟨_, 0, none⟩ 1 1 (flatM [⟨⟨#[47, 97]⟩, ⟨#[]⟩⟩]) rfl rfl ?qc2 ?qc3 ?qc4 ?qc5 ?qc6 ?_)
          try (case qc2 => exact fun j u hj => flatM_new _ _ _ _ rfl j u hj)
          try (case qc3 => exact flatM_one _)
          case qc4 => unfold maxLen; omega
          case qc5 => omega
          case qc6 => simp; omega
          intro v' w8 hown8 hgrow hnil
          rw [← flatM_app] at hown8
          have O8 := hide (show w8.ownsRow w.heap.size 28 2 v' (l ++ [(⟨⟨#[47, 97]⟩, ⟨#[]⟩⟩ : Mount)]).length (flatM (l ++ [⟨⟨#[47, 97]⟩, ⟨#[]⟩⟩])) by simpa using hown8)
          have S8 := (hs5.alloc (.cells #[.string ⟨#[47, 97]⟩, .string ⟨#[]⟩] 28)).grown hgrow (fun q hq => (own_block O5.out q hq).1)
          have HN8 := hide (show v' ≠ .slice none 0 0 from fun e => by simp [e] at hnil)
          have HMS := hide (show ∀ t ∈ l ++ [(⟨⟨#[47, 97]⟩, ⟨#[]⟩⟩ : Mount)], MntS t from fun t ht => by
            rcases List.mem_append.1 ht with h | h
            · exact h8.out t h
            · simp at h; subst h; exact ⟨by decide, by decide⟩)
          clear hown8 hgrow hnil
          go_wp2_with fail
          go_ret
          exact ⟨_, _, rfl, O8.out, HN8.out, by simp; omega, HMS.out, S8.2.1⟩
        · have c0 := (L5.2.1 4).trans (new_cell _ _ 4 rfl)
          have c1 := (L5.2.1 5).trans (new_cell _ _ 5 rfl)
          go_wp2_with (at_builtin; refine wpList_append_own _ rfl _ _ 23 rfl w.heap.size 28 i0 _ 2 32 Tryd.underlying23 HI.out HZ0.out HZ1.out HZ2.out rfl (by decide) _ _ _ rfl (World.ownsRow.alloc O5.out _) ⟨_, 0, none⟩ 1 1 (flatM [⟨⟨#[47, 113]⟩, ⟨#[47, 65]⟩⟩]) rfl rfl ?qc2 ?qc3 ?qc4 ?qc5 ?qc6 ?_)
          try (case qc2 => exact fun j u hj => flatM_new _ _ _ _ rfl j u hj)
          try (case qc3 => exact flatM_one _)
          case qc4 => unfold maxLen; omega
          case qc5 => omega
          case qc6 => simp; omega
          intro v' w8 hown8 hgrow hnil
          rw [← flatM_app] at hown8
          have O8 := hide (show w8.ownsRow w.heap.size 28 2 v' (l ++ [(⟨⟨#[47, 113]⟩, ⟨#[47, 65]⟩⟩ : Mount)]).length (flatM (l ++ [⟨⟨#[47, 113]⟩, ⟨#[47, 65]⟩⟩])) by simpa using hown8)
          have S8 := (hs5.alloc (.cells #[.string ⟨#[47, 113]⟩, .string ⟨#[47, 65]⟩] 28)).grown hgrow (fun q hq => (own_block O5.out q hq).1)
          have HN8 := hide (show v' ≠ .slice none 0 0 from fun e => by simp [e] at hnil)
          have HMS := hide (show ∀ t ∈ l ++ [(⟨⟨#[47, 113]⟩, ⟨#[47, 65]⟩⟩ : Mount)], MntS t from fun t ht => by
            rcases List.mem_append.1 ht with h | h
            · exact h8.out t h
            · simp at h; subst h; exact ⟨by decide, by decide⟩)
          clear hown8 hgrow hnil
          go_wp2_with fail
          go_ret
          exact ⟨_, _, rfl, O8.out, HN8.out, by simp; omega, HMS.out, S8.2.1⟩
    · have hp0 : (0 : Int) < p := by omega
      have jw := IntWalk.i64_in ((p : Int) - 1) (by omega)
      have hzw := hst.2.1.1.size
      have hgl := HRow.out.lt
      go_wp2_with fail
      refine (path_d w B r _ _ (by omega) hst).mono ?_
      rintro e w5 ⟨a, rfl, ha54, hs5, ha5⟩
      go_wp2_with fail
      refine (path_d w B r _ _ (by omega) hs5).mono ?_
      rintro e w6 ⟨b, rfl, hb54, hs6, ha6⟩
      have A56 := hide (ha5.trans ha6)
      have hz6 := (ha5.trans ha6).1.size
      have HR6 := hide (A56.out.row (by omega) HRow.out)
      have O6 := hide (own_keepB hown.out (w' := w6) fun q hq => A56.out.2 q (own_block hown.out q hq).2 (by have := (own_block hown.out q hq).1; omega))
      clear ha5 ha6 hs5
      go_wp2_with fail
      have HZW := hide (show (w6.alloc (.cells #[.string a, .string b] 28)).heap.size = w6.heap.size + 1 by simp)
      have HS0 := hide (hs6.alloc (.cells #[.string a, .string b] 28))
      have HRA := hide (Row.made w6 28 #[.string a, .string b] (fun j => #[Value.string a, .string b][j]?) (fun _ _ h => h))
      have HRO := hide (RdMount_of_rowm (HR6.out.alloc (.cells #[.string a, .string b] 28)) rfl)
      have O7 := hide (World.ownsRow.alloc O6.out (.cells #[.string a, .string b] 28))
      generalize w6.alloc (.cells #[.string a, .string b] 28) = W0 at *
      obtain ⟨mb, hmbe⟩ : ∃ mb, mb = w6.heap.size := ⟨_, rfl⟩
      have HMB := hide hmbe
      rw [← hmbe] at HRA ⊢
      clear hmbe
      have cm0 : W0.cell? ⟨mb, 0, none⟩ = some (.string a) := HRA.out.cell (j := 0) rfl
      have cm1 : W0.cell? ⟨mb, 1, none⟩ = some (.string b) := HRA.out.cell (j := 1) rfl
      have hmb : mb < W0.heap.size := HRA.out.lt
      have HMS := hide (show ∀ t ∈ l ++ [(⟨a, b⟩ : Mount)], MntS t from fun t ht => by
        rcases List.mem_append.1 ht with h | h
        · exact h8.out t h
        · simp at h; subst h; exact ⟨by show a.size ≤ _; omega, by show b.size ≤ _; omega⟩)
      refine wp_flowZ (os := [_, _, _, _, _, _, _]) (fun cc W => Below W0.heap.size W0 W) ((mdC W0.heap.size)) (mdF (.slice (some ⟨go, 0, none⟩) l.length co) l a b W0.heap.size) 7 rfl ?_ ?_ ?_ ?_ ?_ ?_ ?_
      · kernel_rfl
      · kernel_rfl
      · kernel_rfl
      · exact (fun i j v vs w1 w2 hij hdd hbf h hc => mdF_keep hij (by rintro rfl; exact ⟨fun e => by subst e; exact absurd (show dead _ 2 0 = true by kernel_rfl) (by rw [hdd]; decide), fun e => by subst e; exact absurd (show beforeX _ 2 5 = true by kernel_rfl) (by rw [hbf]; decide)⟩) (by rintro rfl; exact ⟨fun e => by subst e; exact absurd (show dead _ 5 0 = true by kernel_rfl) (by rw [hdd]; decide), fun e => by subst e; exact absurd (show dead _ 5 2 = true by kernel_rfl) (by rw [hdd]; decide), fun e => by subst e; exact absurd (show dead _ 5 4 = true by kernel_rfl) (by rw [hdd]; decide)⟩) h hc)
      · exact (Below.refl _ _).drew
      ·
        refine FlowStepsX.stepY 46 7 1 rfl rfl (by kernel_rfl) (by kernel_rfl) (by kernel_rfl) rfl rfl ?_ ?_
        ·
          intro cc act vs W hcc ha hvs hS hd hi K hK
          clear ha
          clear hd hi
          clear hvs
          refine wanted_un rfl ?_
          go_simp
          have hsz := hS.size
          exact hK.out _ _ ⟨W.heap.size, rfl, hsz, Row.madeN W _ #[] 0 rfl, World.ownsRow_made W #[] 0 hsz (Nat.zero_le _) (by simp)⟩ (hS.alloc hsz _) (mdC_of (by decide) (by decide) ((Below.refl _ _).alloc (Nat.le_refl _) _))
        refine FlowStepsX.stepY 46 7 2 rfl rfl (by kernel_rfl) (by kernel_rfl) (by kernel_rfl) rfl rfl ?_ ?_
        ·
          intro cc act vs W hcc ha hvs hS hd hi K hK
          clear ha
          have u5 : act.tmps[5]? = some (.slice (some ⟨go, 0, none⟩) l.length co) := (hi.out 5 (by kernel_rfl)).trans rfl
          clear hd hi
          clear hvs
          refine wanted_un rfl ?_
          go_simp
          exact hK.out _ _ rfl hS (mdC_of (by decide) (by decide) (Below.refl _ _))
        refine FlowStepsX.stepY 46 7 3 rfl rfl (by kernel_rfl) (by kernel_rfl) (by kernel_rfl) rfl rfl ?_ ?_
        ·
          intro cc act vs W hcc ha hvs hS hd hi K hK
          clear ha
          obtain ⟨_, u20, _, ⟨q, rfl, hq, hrow, hown⟩⟩ := hd.out ⟨0, .data⟩ (some 20) (by simp) rfl rfl
          have u21 : act.tmps[21]? = some (.slice (some ⟨go, 0, none⟩) l.length co) := by obtain ⟨_, u, _, h⟩ := hd.out ⟨1, .data⟩ (some 21) (by simp) rfl rfl; exact u.trans (congrArg some h)
          clear hd hi
          clear hvs
          refine wanted_un rfl ?_
          have hsz := hS.size
          have hRW : RdMount W go 0 l := HRO.out.below hS
          refine wp_append_own W (.tmp 20) (.tmp 21) 23 rfl W0.heap.size 28 i0 _ 2 32 Tryd.underlying23 HI.out HZ0.out HZ1.out HZ2.out rfl (by decide) _ 0 [] (by simp [Act.eval, u20]) hown ⟨go, 0, none⟩ l.length co (flatM l) (by simp [Act.eval, u21]) (flatM_len l) (fun j u hj => by rw [Addr.add_lit]; exact flatM_cells hRW j u hj) (flatM_one l) (by unfold maxLen; omega) (by omega) hsz ?_
          intro v' w' ho hgr hnil
          rw [Nat.zero_add, List.nil_append] at ho
          have hgb : Below W0.heap.size W w' := (Below.refl W0.heap.size W).grown hgr hsz (fun k hk => (hown.lt k hk).1)
          exact hK.out _ w' ⟨ho, fun e => by have := (hnil.1 e).1; cases this⟩ (hS.trans hgb) (by
            unfold mdC; rw [if_pos rfl]
            exact ⟨q, hq, hrow, hgb, fun k hk hne => hgr.block k hk (by simp only [Value.ownBlock, ne_eq, Option.some.injEq]; exact fun e => hne e)⟩)
        refine FlowStepsX.stepY 46 7 4 rfl rfl (by kernel_rfl) (by kernel_rfl) (by kernel_rfl) rfl rfl ?_ ?_
        ·
          intro cc act vs W hcc ha hvs hS hd hi K hK
          clear ha
          have u7 : act.tmps[7]? = some (.pointer (some ⟨mb, 0, none⟩)) := (hi.out 7 (by kernel_rfl)).trans rfl
          clear hd hi
          clear hvs
          refine wanted_un rfl ?_
          have e0 := (hS.cell (p := ⟨mb, 0, none⟩) hmb).trans cm0
          have e1 := (hS.cell (p := ⟨mb, 1, none⟩) hmb).trans cm1
          go_simp
          exact hK.out _ _ rfl hS (mdC_of (by decide) (by decide) (Below.refl _ _))
        refine FlowStepsX.stepY 46 7 5 rfl rfl (by kernel_rfl) (by kernel_rfl) (by kernel_rfl) rfl rfl ?_ ?_
        ·
          intro cc act vs W hcc ha hvs hS hd hi K hK
          clear ha
          have u23 : act.tmps[23]? = some (.agg #[.string a, .string b]) := by obtain ⟨_, u, _, h⟩ := hd.out ⟨3, .data⟩ (some 23) (by simp) rfl rfl; exact u.trans (congrArg some h)
          clear hd hi
          clear hvs
          refine wanted_un rfl ?_
          go_simp
          have hsz := hS.size
          exact hK.out _ _ ⟨W.heap.size, rfl, hsz, Row.madeL W _ [.string a, .string b]⟩ (hS.alloc hsz _) (mdC_of (by decide) (by decide) ((Below.refl _ _).alloc (Nat.le_refl _) _))
        refine FlowStepsX.stepY 46 7 6 rfl rfl (by kernel_rfl) (by kernel_rfl) (by kernel_rfl) rfl rfl ?_ ?_
        ·
          intro cc act vs W hcc ha hvs hS hd hi K hK
          clear ha
          obtain ⟨_, u22, _, ⟨hown, hne⟩⟩ := hd.out ⟨2, .data⟩ (some 22) (by simp) rfl rfl
          obtain ⟨_, u24, _, ⟨q, rfl, hq, hrow⟩⟩ := hd.out ⟨4, .data⟩ (some 24) (by simp) rfl rfl
          clear hd hi
          clear hvs
          refine wanted_un rfl ?_
          have hsz := hS.size
          refine wp_append_own W (.tmp 22) (.tmp 24) 23 rfl W0.heap.size 28 i0 _ 2 32 Tryd.underlying23 HI.out HZ0.out HZ1.out HZ2.out rfl (by decide) _ l.length (flatM l) (by simp [Act.eval, u22]) hown ⟨q, 0, none⟩ 1 1 (flatM [⟨a, b⟩]) (by simp [Act.eval, u24]) rfl (fun j u hj => by rw [Addr.add_lit, Nat.zero_add]; exact hrow.cell (by simpa [flatM, rwl] using hj)) (flatM_one _) (by unfold maxLen; omega) (by omega) hsz ?_
          intro v' w' ho hgr hnil
          rw [← flatM_app] at ho
          have hgb : Below W0.heap.size W w' := (Below.refl W0.heap.size W).grown hgr hsz (fun k hk => (hown.lt k hk).1)
          exact hK.out _ w' ⟨ho, fun e => hne (hnil.1 e).1⟩ (hS.trans hgb) (by unfold mdC; rw [if_neg (by decide), if_pos rfl]; exact hgb)
        refine FlowStepsX.stepY 46 7 7 rfl rfl (by kernel_rfl) (by kernel_rfl) (by kernel_rfl) rfl rfl ?_ ?_
        ·
          intro cc act vs W hcc ha hvs hS hd hi K hK
          clear ha
          obtain ⟨_, u25, _, ⟨hown, hne⟩⟩ := hd.out ⟨5, .data⟩ (some 25) (by simp) rfl rfl
          clear hd hi
          clear hvs
          refine wanted_un rfl ?_
          obtain ⟨g5, cap5, m5, hv5, hg5, hcap5, hcm5, hm5, hrow5⟩ := ownM_of (by simp) hown hne
          subst hv5
          have hR5 := RdMount_of_rowm hrow5 (show (l ++ [(⟨a, b⟩ : Mount)]).length = l.length + 1 by simp)
          have hRH := hide hR5
          clear hR5 hrow5
          go_wp2_with fail
          refine (mvSpec_c g5 0 (l.length + 1) cap5 (l ++ [⟨a, b⟩]) (by simp) (by omega) HMS.out _ hRH.out).mono ?_
          rintro e w6 ⟨rfl, hb6⟩
          exact hK.out _ w6 rfl (hS.trans (hb6.mono hS.size)) (mdC_of (by decide) (by decide) hb6)
        exact FlowStepsX.nil
      · intro c' ρ W hc' hS hd
        simp only [putFrom, Act.put, List.setIfInBounds_toArray, List.set_cons_zero, List.set_cons_succ, Nat.reduceAdd]
        have d6 : ρ 6 = .bool (mntB (l ++ [⟨a, b⟩])) := hd.out 6 (by decide) (by kernel_rfl)
        clear hd
        generalize ρ 6 = x6 at d6 ⊢
        subst d6
        have STW := hide (HS0.out.below (HS0.out.2.1.then_below hS) (hS.mono HS0.out.1.2.1))
        have OW := hide (own_below O7.out hS)
        have e0 := (hS.cell (p := ⟨mb, 0, none⟩) hmb).trans cm0
        have e1 := (hS.cell (p := ⟨mb, 1, none⟩) hmb).trans cm1
        have hmW := Nat.lt_of_lt_of_le hmb hS.size
        have hzz := hS.size
        have hzy := HZW.out
        clear cm0 cm1 hS
        cases mntB (l ++ [⟨a, b⟩])
        · go_wp2_with fail
          exact ⟨⟨p - 1, l, by go_num, by omega, by omega, OW, hne, h8, STW.out.mono (by omega)⟩, by simp [intOf] <;> omega⟩
        · go_wp2_with (at_builtin; refine wpList_append_own _ rfl _ _ 23 rfl w.heap.size 28 i0 _ 2 32 Tryd.underlying23 HI.out HZ0.out HZ1.out HZ2.out rfl (by decide) _ _ _ rfl (World.ownsRow.alloc OW.out _) ⟨_, 0, none⟩ 1 1 (flatM [⟨a, b⟩]) rfl rfl ?qc2 ?qc3 ?qc4 ?qc5 ?qc6 ?_)
          try (case qc2 => exact fun j u hj => flatM_new _ _ _ _ rfl j u hj)
          try (case qc3 => exact flatM_one _)
          case qc4 => unfold maxLen; omega
          case qc5 => omega
          case qc6 => simp; omega
          intro v' w8 hown8 hgrow hnil
          rw [← flatM_app] at hown8
          have O8 := hide (show w8.ownsRow w.heap.size 28 2 v' (l ++ [(⟨a, b⟩ : Mount)]).length (flatM (l ++ [⟨a, b⟩])) by simpa using hown8)
          have S8 := (STW.out.alloc (.cells #[.string a, .string b] 28)).grown hgrow (fun q hq => (own_block OW.out q hq).1)
          have HN8 := hide (show v' ≠ .slice none 0 0 from fun e => by simp [e] at hnil)
          clear hown8 hgrow hnil
          go_wp2_with fail
          exact ⟨⟨p - 1, l ++ [⟨a, b⟩], by go_num, by omega, by simp; omega, O8, HN8, HMS, S8.mono (by omega)⟩, by simp [intOf] <;> omega⟩
end Go.Proofs.YtgpdblkaidllmaaDoor
