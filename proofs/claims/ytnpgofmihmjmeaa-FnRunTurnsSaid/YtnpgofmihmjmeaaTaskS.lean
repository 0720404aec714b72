/-
  The law of RunTurns over drawn tasks. No condition.
-/
import Derived.Test.YtnpgofmihmjmeaaProg
import Derived.Test.YtnpgofmihmjmeaaTaskR
import Derived.Lib.SliceRun
namespace Go.Proofs.Ytnpgofmihmjmeaa
open Go.RowKit
set_option linter.unusedSimpArgs false
set_option linter.unusedVariables false

set_option maxHeartbeats 1000000 in
theorem smT_c (b off c b' off' c' n : Nat) (l : List Task) (hl : l.length = n) (hn : n ≤ 1048576) (w : World) (hR : RdTask w b off l) (hR' : RdTask w b' off' l) :
    Calls Try.prog 24 #[.slice (some ⟨b, off, none⟩) n c, .slice (some ⟨b', off', none⟩) n c'] w fun e w' => e = .returned (.bool true) ∧ Below w.heap.size w w' := by
  go_enter Try.func24, Try.ntmps24
  go_wp2_with fail
  go_loopw [5] (fun i wr => ∃ k : Nat, k ≤ n ∧ i = .int .i64 k ∧ Below w.heap.size w wr) (fun i _ => n - (intOf i).toNat)
  case atStart => exact ⟨0, by omega, rfl, Below.refl _ _⟩
  case round =>
    obtain ⟨k, hk, rfl, hbel⟩ := hrel
    by_cases hlt : k < n
    · obtain ⟨t, ht⟩ : ∃ t, l[k]? = some t := ⟨_, List.getElem?_eq_getElem (by omega)⟩
      have c0 := (hR.below hbel).2 k t ht
      have c1 := (hR'.below hbel).2 k t ht
      clear ht
      go_wp2_with fail
      go_quiet (fail)
      go_wp2
      exact ⟨⟨k + 1, by omega, by go_num, (by repeat' (first | exact Below.refl _ _ | assumption | exact And.left (by assumption) | omega | (simp; done) | (simp; omega) | (simp at *; omega) | (refine Below.setCell ?_ ?_ _) | (refine below_alloc0 ?_ _) | (refine Below.drew ?_) | (refine below_drewN ?_ _) | (refine below_via0 ?_ (by assumption)) | (refine Below.alloc ?_ ?_ _) | (refine below_via ?_ (by assumption) ?_)))⟩, by simp [intOf]; omega⟩
    · obtain rfl : k = n := by omega
      go_wp2
      go_ret
      exact ⟨rfl, (by repeat' (first | exact Below.refl _ _ | assumption | exact And.left (by assumption) | omega | (simp; done) | (simp; omega) | (simp at *; omega) | (refine Below.setCell ?_ ?_ _) | (refine below_alloc0 ?_ _) | (refine Below.drew ?_) | (refine below_drewN ?_ _) | (refine below_via0 ?_ (by assumption)) | (refine Below.alloc ?_ ?_ _) | (refine below_via ?_ (by assumption) ?_)))⟩
theorem smT_0 (A A' : Option Addr) (c c' : Nat) (w : World) :
    Calls Try.prog 24 #[.slice A (0 : Nat) c, .slice A' (0 : Nat) c'] w fun e w' => e = .returned (.bool true) ∧ Below w.heap.size w w' := by
  go_enter Try.func24, Try.ntmps24
  go_wp2_with fail
  go_loopw [5] (fun i wr => i = .int .i64 0 ∧ Below w.heap.size w wr) (fun i _ => 0)
  case atStart => exact ⟨rfl, Below.refl _ _⟩
  case round =>
    obtain ⟨rfl, hbel⟩ := hrel
    go_wp2
    go_ret
    exact ⟨rfl, (by repeat' (first | exact Below.refl _ _ | assumption | exact And.left (by assumption) | omega | (simp; done) | (simp; omega) | (simp at *; omega) | (refine Below.setCell ?_ ?_ _) | (refine below_alloc0 ?_ _) | (refine Below.drew ?_) | (refine below_drewN ?_ _) | (refine below_via0 ?_ (by assumption)) | (refine Below.alloc ?_ ?_ _) | (refine below_via ?_ (by assumption) ?_)))⟩
set_option maxHeartbeats 1000000 in
theorem smI_c (b off c b' off' c' n : Nat) (l : List Int) (hl : l.length = n) (hn : n ≤ 1048576) (w : World) (hR : RdI w b off l) (hR' : RdI w b' off' l) :
    Calls Try.prog 30 #[.slice (some ⟨b, off, none⟩) n c, .slice (some ⟨b', off', none⟩) n c'] w fun e w' => e = .returned (.bool true) ∧ Below w.heap.size w w' := by
  go_enter Try.func30, Try.ntmps30
  go_wp2_with fail
  go_loopw [5] (fun i wr => ∃ k : Nat, k ≤ n ∧ i = .int .i64 k ∧ Below w.heap.size w wr) (fun i _ => n - (intOf i).toNat)
  case atStart => exact ⟨0, by omega, rfl, Below.refl _ _⟩
  case round =>
    obtain ⟨k, hk, rfl, hbel⟩ := hrel
    by_cases hlt : k < n
    · obtain ⟨t, ht⟩ : ∃ t, l[k]? = some t := ⟨_, List.getElem?_eq_getElem (by omega)⟩
      have c0 := (hR.below hbel).2 k t ht
      have c1 := (hR'.below hbel).2 k t ht
      clear ht
      go_wp2_with fail
      go_quiet (fail)
      go_wp2
      exact ⟨⟨k + 1, by omega, by go_num, (by repeat' (first | exact Below.refl _ _ | assumption | exact And.left (by assumption) | omega | (simp; done) | (simp; omega) | (simp at *; omega) | (refine Below.setCell ?_ ?_ _) | (refine below_alloc0 ?_ _) | (refine Below.drew ?_) | (refine below_drewN ?_ _) | (refine below_via0 ?_ (by assumption)) | (refine Below.alloc ?_ ?_ _) | (refine below_via ?_ (by assumption) ?_)))⟩, by simp [intOf]; omega⟩
    · obtain rfl : k = n := by omega
      go_wp2
      go_ret
      exact ⟨rfl, (by repeat' (first | exact Below.refl _ _ | assumption | exact And.left (by assumption) | omega | (simp; done) | (simp; omega) | (simp at *; omega) | (refine Below.setCell ?_ ?_ _) | (refine below_alloc0 ?_ _) | (refine Below.drew ?_) | (refine below_drewN ?_ _) | (refine below_via0 ?_ (by assumption)) | (refine Below.alloc ?_ ?_ _) | (refine below_via ?_ (by assumption) ?_)))⟩
theorem smI_0 (A A' : Option Addr) (c c' : Nat) (w : World) :
    Calls Try.prog 30 #[.slice A (0 : Nat) c, .slice A' (0 : Nat) c'] w fun e w' => e = .returned (.bool true) ∧ Below w.heap.size w w' := by
  go_enter Try.func30, Try.ntmps30
  go_wp2_with fail
  go_loopw [5] (fun i wr => i = .int .i64 0 ∧ Below w.heap.size w wr) (fun i _ => 0)
  case atStart => exact ⟨rfl, Below.refl _ _⟩
  case round =>
    obtain ⟨rfl, hbel⟩ := hrel
    go_wp2
    go_ret
    exact ⟨rfl, (by repeat' (first | exact Below.refl _ _ | assumption | exact And.left (by assumption) | omega | (simp; done) | (simp; omega) | (simp at *; omega) | (refine Below.setCell ?_ ?_ _) | (refine below_alloc0 ?_ _) | (refine Below.drew ?_) | (refine below_drewN ?_ _) | (refine below_via0 ?_ (by assumption)) | (refine Below.alloc ?_ ?_ _) | (refine below_via ?_ (by assumption) ?_)))⟩
theorem RdI_cells {w : World} {b : Nat} {l : List Int} (h : RdI w b 0 l) (j : Nat) (u : Value) (hj : (l.map (Value.int .i64))[j]? = some u) : w.cell? ⟨b, j, none⟩ = some u := by
  rw [List.getElem?_map, Option.map_eq_some_iff] at hj
  obtain ⟨x, hx, rfl⟩ := hj
  have := h.2 j x hx
  rwa [Nat.zero_add] at this
theorem ints_one (l : List Int) : ∀ u ∈ l.map (Value.int .i64), u.oneCell' = true := by
  intro u hu
  obtain ⟨x, _, rfl⟩ := List.mem_map.1 hu
  rfl
set_option maxRecDepth 100000 in
set_option maxHeartbeats 4000000 in
theorem fnRunTurns_walk {w : World} (A : Option Addr) (n c : Nat) (h : InB w A n c) :
    Calls Try.prog 9 #[.slice A n c] w fun e w' => e = .returned (.bool true) ∧ Below w.heap.size w w' := by
  have hm := h.2.1
  unfold maxLen at hm
  have hc := h.1
  have H := hide h
  clear h
  obtain ⟨i0, hi0, hz0, hz1, hz2⟩ := info_parts infoI
  have HI := hide hi0
  have HZ0 := hide hz0
  have HZ1 := hide hz1
  have HZ2 := hide hz2
  clear hi0 hz0 hz1 hz2
  by_cases h20 : 1048576 < n
  · go_enter Try.func9, Try.ntmps9
    go_wp2_with fail
    go_ret
    exact ⟨rfl, Below.refl _ _⟩
  · go_enter Try.func9, Try.ntmps9
    go_wp2_with fail
    refine (gRunTurns_c A n c _ H.out).mono ?_
    rintro e w1 ⟨g, cap, l, q, rfl, hR, h6, hc1, hc2, hq0, hq1, hb1⟩
    unfold maxLen at hc2
    have CI := runImplQ_c g 0 l.length cap l rfl (by omega) q
    have CS := runSpecQ_c g 0 l.length cap l rfl (by omega) q
    cases hr : runQ l q with
    | none =>
      rw [hr] at CI CS
      clear hr
      go_wp2_with fail
      refine (CI _ hR).mono ?_
      rintro e w2 ⟨rfl, hb2⟩
      have B2 := below_via0 hb1 hb2
      go_wp2_with fail
      refine (CS _ (hR.below hb2)).mono ?_
      rintro e w3 ⟨⟨g3, g3', rfl, hg3, hg3', hl3, hl3'⟩, hb3⟩
      have B3 := below_via0 B2 hb3
      go_wp2_with fail
      refine (smT_0 _ _ _ _ _).mono ?_
      rintro e w4 ⟨rfl, hb4⟩
      have B4 := below_via0 B3 hb4
      go_wp2_with fail
      refine (smI_0 _ _ _ _ _).mono ?_
      rintro e w5 ⟨rfl, hb5⟩
      have B5 := below_via0 B4 hb5
      go_wp2_with (go_at_call 17; refine (alive_c _).mono ?_; rintro e w6 ⟨rfl, hb6⟩; have B6 := below_via0 B5 hb6)
      go_ret
      exact ⟨rfl, B6⟩
    | some r =>
      obtain ⟨L, ps⟩ := r
      have hlen := runQ_len hr
      obtain ⟨hq2, hq3, hrdy, L1, p1, p2, hr1, hr2, hps, hp1, hp2, hL1⟩ := runQ_split hr
      rw [hr] at CI CS
      have CI1 := hide (runImplQ_c g 0 l.length cap l rfl (by omega) (q / 2))
      rw [hr1] at CI1
      have HL1 := hide hL1
      have HPS := hide hps
      have HRD := hide hrdy
      have HLL := hide hlen.1
      have hp60 := hlen.2
      have C2 := hide fun (g1 cap1 : Nat) => runImplQ_c g1 0 l.length cap1 L1 hL1 (by omega) (q - q / 2)
      rw [hr2] at C2
      clear hr hr1 hr2 hlen hL1 hps hrdy
      have HCI := hide CI
      have HCS := hide CS
      clear CI CS
      go_wp2_with fail
      refine (HCI.out _ hR).mono ?_
      rintro e w2 ⟨g2, cap2, m2, g2', cap2', m2', rfl, hg2, hg2', hne2, hcap2, hm2, hrow2, hcap2', hm2', hrow2', hb2⟩
      have B2 := below_via0 hb1 hb2
      go_wp2_with fail
      refine (HCS.out _ (hR.below hb2)).mono ?_
      rintro e w3 ⟨g3, cap3, m3, g3', cap3', m3', rfl, hg3, hg3', hne3, hcap3, hm3, hrow3, hcap3', hm3', hrow3', hb3⟩
      have B3 := below_via0 B2 hb3
      have hX3 : RdTask w3 g2 0 L := (RdT_of_row hrow2 HLL.out).below hb3
      have hP3 : RdI w3 g2' 0 ps := (RdI_of_row hrow2' rfl).below hb3
      have hY3 : RdTask w3 g3 0 L := RdT_of_row hrow3 HLL.out
      have hQ3 : RdI w3 g3' 0 ps := RdI_of_row hrow3' rfl
      have hR3 := (hR.below hb2).below hb3
      clear hrow2 hrow2' hrow3 hrow3' hR
      go_wp2_with fail
      refine (smT_c _ _ _ _ _ _ _ L HLL.out (by omega) _ hX3 hY3).mono ?_
      rintro e w4 ⟨rfl, hb4⟩
      have B4 := below_via0 B3 hb4
      go_wp2_with fail
      refine (smI_c _ _ _ _ _ _ _ ps rfl (by omega) _ (hP3.below hb4) (hQ3.below hb4)).mono ?_
      rintro e w5 ⟨rfl, hb5⟩
      have B5 := below_via0 B4 hb5
      have hX5 := (hX3.below hb4).below hb5
      have hP5 := (hP3.below hb4).below hb5
      have hR5 := (hR3.below hb4).below hb5
      clear hX3 hP3 hY3 hQ3 hR3
      by_cases hl0 : l.length = 0
      · obtain rfl : l = [] := List.eq_nil_of_length_eq_zero hl0
        obtain rfl : ps = [] := by
          cases ps with
          | nil => rfl
          | cons x ps =>
            obtain ⟨p, t, _, ht, _⟩ := HRD.out x (by simp)
            simp at ht
        go_wp2_with (go_at_call 17; refine (alive_c _).mono ?_; rintro e w6 ⟨rfl, hb6⟩; have B6 := below_via0 B5 hb6)
        go_ret
        exact ⟨rfl, B6⟩
      · have hl1 : ((l.length : Nat) : Int) ≠ 0 := by omega
        have hlb : (((l.length : Nat) : Int) == 0) = false := beq_eq_false_iff_ne.2 hl1
        go_wp2_with fail
        have hz5 := B5.size
        go_loopw [9] (fun kv wr => ∃ k : Nat, k ≤ ps.length ∧ kv = .int .i64 k ∧ Below w5.heap.size w5 wr) (fun kv _ => ps.length - (intOf kv).toNat)
        case atStart => exact ⟨0, by omega, rfl, Below.refl _ _⟩
        case round =>
          obtain ⟨k, hk, rfl, hbel⟩ := hrel
          by_cases hlt : k < ps.length
          · obtain ⟨x, hx⟩ : ∃ x, ps[k]? = some x := ⟨_, List.getElem?_eq_getElem hlt⟩
            obtain ⟨p, t, rfl, ht, hw⟩ := HRD.out x (List.mem_of_getElem? hx)
            have c0 := (hP5.below hbel).2 k _ hx
            have c1 := ((hR5.below hbel).2 p t ht).2.2
            rw [hw] at c1
            have hpl := (List.getElem?_eq_some_iff.1 ht).1
            have hpn : ((p : Nat) : Int) < (l.length : Nat) := by omega
            have hkn : ((k : Nat) : Int) < (ps.length : Nat) := by omega
            simp only [Nat.zero_add] at c0 c1
            clear hx ht hw
            go_wp2_with fail
            exact ⟨⟨k + 1, by omega, by go_num, (by repeat' (first | exact Below.refl _ _ | assumption | exact And.left (by assumption) | omega | (simp; done) | (simp; omega) | (simp at *; omega) | (refine Below.setCell ?_ ?_ _) | (refine below_alloc0 ?_ _) | (refine Below.drew ?_) | (refine below_drewN ?_ _) | (refine below_via0 ?_ (by assumption)) | (refine Below.alloc ?_ ?_ _) | (refine below_via ?_ (by assumption) ?_)))⟩, by simp [intOf]; omega⟩
          · obtain rfl : k = ps.length := by omega
            go_wp2_with fail
            refine (CI1.out _ (hR5.below hbel)).mono ?_
            rintro e w6 ⟨g6, cap6, m6, g6', cap6', m6', rfl, hg6, hg6', hne6, hcap6, hm6, hrow6, hcap6', hm6', hrow6', hb6⟩
            have B6 := below_via0 (below_via0 B5 hbel) hb6
            have hA6 : RdTask w6 g6 0 L1 := RdT_of_row hrow6 HL1.out
            have hF6 : RdI w6 g6' 0 p1 := RdI_of_row hrow6' rfl
            have hX6 := (hX5.below hbel).below hb6
            have hP6 := (hP5.below hbel).below hb6
            clear hrow6 hrow6' hR5 hX5 hP5
            have hqq : 0 ≤ q - q / 2 ∧ q - q / 2 ≤ 60 := by omega
            go_wp2_with fail
            refine (C2.out _ _ _ hA6).mono ?_
            rintro e w7 ⟨g7, cap7, m7, g7', cap7', m7', rfl, hg7, hg7', hne7, hcap7, hm7, hrow7, hcap7', hm7', hrow7', hb7⟩
            have B7 := below_via0 B6 hb7
            have hB7 : RdTask w7 g7 0 L := RdT_of_row hrow7 HLL.out
            have hS7 : RdI w7 g7' 0 p2 := RdI_of_row hrow7' rfl
            have hX7 := hX6.below hb7
            have hP7 := hP6.below hb7
            have hF7 := hF6.below hb7
            clear hrow7 hrow7' hA6 hX6 hP6 hF6
            go_wp2_with fail
            refine (smT_c _ _ _ _ _ _ _ L HLL.out (by omega) _ hB7 hX7).mono ?_
            rintro e w8 ⟨rfl, hb8⟩
            have B8 := below_via0 B7 hb8
            have hP8 := hP7.below hb8
            have hF8 := hF7.below hb8
            have hS8 := hS7.below hb8
            have hP8l := hP8.1
            have hF8l := hF8.1
            have hS8l := hS8.1
            clear hB7 hX7 hP7 hF7 hS7
            go_wp2_with (at_builtin; refine wpList_append_ownG (by rfl) (.tmp 104) (.tmp 105) 42 rfl w8.heap.size 3 i0 _ 1 8 Try.underlying42 HI.out HZ0.out HZ1.out HZ2.out rfl (by decide) (.slice (some ⟨w8.heap.size, 0, none⟩) 0 0) 0 _ (by rfl) (own_new (n := 0) w8 #[] (Nat.le_refl _) (by unfold maxLen; omega) rfl) ⟨g6', 0, none⟩ p1.length _ (p1.map (Value.int .i64)) rfl (by simp) (fun j u hj => by rw [Addr.add_lit]; exact Lib.cell?_alloc_some _ (by rw [Nat.zero_add]; exact RdI_cells hF8 j u hj)) (ints_one _) (by unfold maxLen; omega) (by omega) (by simp) ?_)
            intro v9 w9 hown9 hgrow9 hnil9
            have B9 : Below w.heap.size w w9 := (B8.alloc B8.size _).grown hgrow9 (by simp; have := B8.size; omega) (by intro k hk; simp [Value.ownBlock] at hk; have := B8.size; omega)
            have b89 : Below w8.heap.size w8 w9 := ((Below.refl _ w8).alloc (Nat.le_refl _) _).grown hgrow9 (by simp) (by intro k hk; simp [Value.ownBlock] at hk; omega)
            have hP9 := hP8.below b89
            have hS9 := hS8.below b89
            have OWN9 := hide (show w9.ownsRow w8.heap.size 3 1 v9 p1.length (p1.map (Value.int .i64)) by simpa using hown9)
            have HNV := hide (show v9 ≠ .slice none 0 0 from fun e => by simp [e] at hnil9)
            clear hown9 hgrow9 hnil9 hP8 hF8 hS8
            have hz9 := b89.size
            go_wp2_with (at_builtin; refine wpList_append_ownG (by rfl) (.tmp 106) (.tmp 107) 42 rfl w8.heap.size 3 i0 _ 1 8 Try.underlying42 HI.out HZ0.out HZ1.out HZ2.out rfl (by decide) v9 p1.length _ (by rfl) OWN9.out ⟨g7', 0, none⟩ p2.length _ (p2.map (Value.int .i64)) rfl (by simp) (fun j u hj => by rw [Addr.add_lit, Nat.zero_add]; exact RdI_cells hS9 j u hj) (ints_one _) (by unfold maxLen; omega) (by omega) hz9 ?_)
            intro v10 w10 hown hgrow hnil
            have B10 : Below w.heap.size w w10 := B9.grown hgrow B9.size (by intro k hk; have := (own_block OWN9.out k hk).1; have := B8.size; omega)
            have b810 : Below w8.heap.size w9 w10 := (Below.refl _ w9).grown hgrow hz9 (by intro k hk; exact (own_block OWN9.out k hk).1)
            have hP10 : RdI w10 g2' 0 ps := ⟨Nat.lt_of_lt_of_le hP9.1 b810.size, fun k x hx => (b810.cell (p := ⟨g2', _, none⟩) hP8l).trans (hP9.2 k x hx)⟩
            have hpl : ps.length = p1.length + p2.length := by rw [HPS.out]; simp
            have own10 : w10.ownsRow w8.heap.size 3 1 v10 (p1.length + p2.length) (ps.map (Value.int .i64)) := by
              rw [HPS.out, List.map_append]; exact hown
            have HN10 := HNV.out
            obtain ⟨g10, cap10, m10, rfl, hg10, hcap10, hm10, hrow10⟩ := ownI_of hpl own10 (fun e => by have := hnil.1 e; exact HN10 this.1)
            have hS10 : RdI w10 g10 0 ps := RdI_of_row hrow10 hpl
            clear hown hgrow hnil own10 hrow10 OWN9 HNV HN10
            have hpi : ((p1.length : Nat) : Int) + (p2.length : Nat) = (ps.length : Nat) := by omega
            go_wp2_with fail
            refine (smI_c _ _ _ _ _ _ _ ps hpl (by omega) _ hS10 hP10).mono ?_
            rintro e w11 ⟨rfl, hb11⟩
            have B11 := below_via0 B10 hb11
            dsimp only
            go_wp2_with fail
            go_ret
            exact ⟨rfl, B11⟩
end Go.Proofs.Ytnpgofmihmjmeaa
