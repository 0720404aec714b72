/-
  What WriteHandle gives: reading, marking. No condition.
-/
import Derived.Test.YtncjghmjlcohjaaProg
import Derived.Test.YtncjghmjlcohjaaWri
import Derived.Test.YtncjghmjlcohjaaFlowX
import Derived.Test.YtncjghmjlcohjaaFlowS
namespace Go.Proofs.Ytncjghmjlcohjaa
open Go.RowKit
set_option linter.unusedSimpArgs false
set_option linter.unusedVariables false

theorem wrR_ok {l : List Node} {n : Nat} (f a r : Int) (x : ByteArray) (hz : ∀ t ∈ l, NodeS t) (hl : l.length = n) : (∀ t ∈ (wrR l n f a r x).1, NodeS t) ∧ (wrR l n f a r x).1.length ≤ n := by
  unfold wrR
  cases hanB l n f a r
  · exact ⟨fun t ht => absurd ht (by simp), by simp⟩
  cases (bits .and .i64 r 2 == 0)
  · cases (decide (((txAt l f).size : Int) < a) || decide (40 < a + (x.size : Int)))
    · simp only [cond_true, cond_false]
      cases h : l[f.toNat]? with
      | none => exact ⟨fun t ht => absurd ht (by simp), by simp⟩
      | some t =>
        refine ⟨fun u hu => ?_, by simp [hl]⟩
        rcases List.mem_or_eq_of_mem_set hu with h1 | h1
        · exact hz u h1
        · subst h1
          exact hz t (List.mem_of_getElem? h)
    · exact ⟨fun t ht => absurd ht (by simp), by simp⟩
  · exact ⟨fun t ht => absurd ht (by simp), by simp⟩
theorem CpN.keepH {w w' : World} {B n : Nat} {V : Value} {l : List Node} (h : CpN true w B V l n) (hB : Below 0 w w') (hk : ∀ b, NHb w b → w'.heap[b]? = w.heap[b]?) : CpN true w' B V l n := by
  obtain ⟨g, c, m, q, f, h1, h2, h3, h4, h5, h6, h7, h8, h9, h10, h11⟩ := h
  have ho : OffP (fun b => ¬ NHb w b) w w' := ⟨hB, fun b hb hn => hk b (Classical.not_not.1 hn)⟩
  refine ⟨g, c, m, q, f, h1, h2, h3, h4, h5, h6, ho.row (fun hp => hp (h11 rfl)) h7, fun i t ht => ?_, h9, Nat.le_trans h10 hB.size, fun _ => ?_⟩
  · obtain ⟨A, c, A2, c2, e1, e2, e3, e4, e5, e6, e7, e8, e9, e10⟩ := h8 i t ht
    have k1 : ∀ a, 0 < t.names.length → A = some a → ¬ ¬ NHb w a.block := fun a h0 hA hp => hp ((e10 rfl).1 h0 a hA)
    have k2 : ∀ a, 0 < t.kids.length → A2 = some a → ¬ ¬ NHb w a.block := fun a h0 hA hp => hp ((e10 rfl).2 h0 a hA)
    exact ⟨A, c, A2, c2, e1, e2, e3, e4, e5, e6.offP ho k1, e7.offP ho k2, e8.offP ho k1, e9.offP ho k2, fun hh => ⟨(e10 hh).1.offP ho k1, (e10 hh).2.offP ho k2⟩⟩
  · obtain ⟨C, T, e, hT⟩ := h11 rfl
    exact ⟨C, T, (hk g (h11 rfl)).trans e, hT⟩
theorem WrV.below {w w' : World} {B : Nat} {V : Value} {L : List Node} (h : WrV w B V L) (hb : Below w.heap.size w w') : WrV w' B V L := h.imp id fun h => h.below hb
theorem WrV.offP {P : Nat → Prop} {w w' : World} {B : Nat} {V : Value} {L : List Node} (h : WrV w B V L) (ho : OffP P w w') (hP : ∀ b, P b → b < w.heap.size → b < B) : WrV w' B V L := h.imp id fun h => h.offP ho hP
theorem WrV.keepH {w w' : World} {B : Nat} {V : Value} {L : List Node} (h : WrV w B V L) (hB : Below 0 w w') (hk : ∀ b, NHb w b → w'.heap[b]? = w.heap[b]?) : WrV w' B V L := h.imp id fun h => h.keepH hB hk
theorem WrV.inN {w : World} {B : Nat} {V : Value} {L : List Node} (h : WrV w B V L) : ∃ A c, V = .slice A L.length c ∧ InNode w A L.length L := by
  rcases h with ⟨rfl, A, c, rfl⟩ | h
  · exact ⟨A, c, rfl, rfl, fun h => absurd h (by simp)⟩
  · obtain ⟨g, c, h1, _, h3⟩ := h.inN
    exact ⟨_, c, h1, h3⟩
theorem markCp_c {h' : Bool} {w0 w : World} {B n k0 : Nat} {V : Value} {l : List Node} (h : CpN h' w0 B V l n) (hb : Below w0.heap.size w0 w) (hn : n ≤ 1048576) (h0 : k0 ≤ 1000000) (hz : ∀ t ∈ l, NodeS t) :
    Calls Try.prog 25 #[V, .int .i64 k0] w fun e w' => e = .returned (.int .i64 ((kS l k0 n : Nat) : Int)) ∧ OffP (fun b => B ≤ b ∧ b < w0.heap.size) w w' ∧ ∃ A c, V = .slice A n c ∧ InNode w' A n (mkT l k0) := by
  have hx := h.below hb
  obtain ⟨g, c, m, q, f, h1, h2, h3, h4, h5, h6, h7, h8, h9, h10, h11⟩ := h
  have hgl := h7.lt
  subst h1
  have hT : TreeW w g m q l n := by
    refine TreeW.below (w := w0) ⟨h4, h5, h6, f, h7, fun i t ht => (h8 i t ht).own⟩ hb
  refine (markNode_c g m n c k0 q l hn h0 hz w hT).mono ?_
  rintro e w' ⟨rfl, ho, hR⟩
  refine ⟨rfl, ho.mono fun b hp => ?_, _, c, rfl, by rw [mkT_len, h4], fun _ => ⟨g, 0, rfl, hR⟩⟩
  rcases hp with hp | ⟨p1, p2⟩
  · subst hp; exact ⟨h3, hgl⟩
  · exact ⟨by omega, by omega⟩
set_option maxHeartbeats 1000000 in
theorem markNil_c (A : Option Addr) (c k0 : Nat) (h0 : k0 ≤ 1000000) (w : World) :
    Calls Try.prog 25 #[.slice A 0 c, .int .i64 k0] w fun e w' => e = .returned (.int .i64 (k0 : Int)) ∧ w = w' := by
  go_enter Try.func25, Try.ntmps25
  go_wp2_with fail
  go_loopw [1, 5] (fun q i wr => q = .int .i64 (k0 : Int) ∧ i = .int .i64 0 ∧ wr = w) (fun _ _ _ => 0)
  case atStart => exact ⟨rfl, rfl, rfl⟩
  case round =>
    obtain ⟨rfl, rfl, rfl⟩ := hrel
    go_wp2
    go_ret
    exact ⟨rfl, rfl⟩
theorem markWr_c {w0 w : World} {B k0 : Nat} {V : Value} {L : List Node} (h : WrV w0 B V L) (hb : Below w0.heap.size w0 w) (hn : L.length ≤ 1048576) (h0 : k0 ≤ 1000000) (hz : ∀ t ∈ L, NodeS t) :
    Calls Try.prog 25 #[V, .int .i64 k0] w fun e w' => e = .returned (.int .i64 ((kS L k0 L.length : Nat) : Int)) ∧ OffP (fun b => B ≤ b ∧ b < w0.heap.size) w w' ∧ ∃ A c, V = .slice A L.length c ∧ InNode w' A L.length (mkT L k0) := by
  rcases h with ⟨rfl, A, c, rfl⟩ | h
  · refine (markNil_c A c k0 h0 w).mono ?_
    rintro e w' ⟨rfl, rfl⟩
    exact ⟨rfl, OffP.refl _ _, A, c, rfl, rfl, fun h => absurd h (by simp)⟩
  · exact markCp_c h hb hn h0 hz
/-- Three cells of a handle. -/
structure RwF (w : World) (g : Nat) (f N r : Int) : Prop where
  row : Row w g 3 (rwl [.int .i64 f, .int .i64 N, .int .i64 r])
theorem RwF.below {w w' : World} {g : Nat} {f N r : Int} (h : RwF w g f N r) (hb : Below w.heap.size w w') : RwF w' g f N r := ⟨h.row.below hb h.row.lt⟩
theorem RwF.offP {P : Nat → Prop} {w w' : World} {g : Nat} {f N r : Int} (h : RwF w g f N r) (ho : OffP P w w') (hg : ¬ P g) : RwF w' g f N r := ⟨ho.row hg h.row⟩
/-- A block of handles. -/
def TyH (w : World) (b : Nat) : Prop := ∃ C, w.heap[b]? = some (.cells C 32 (0, 0))
theorem TyH.lt {w : World} {b : Nat} (h : TyH w b) : b < w.heap.size := by
  obtain ⟨C, e⟩ := h
  rcases Nat.lt_or_ge b w.heap.size with hl | hl
  · exact hl
  · rw [Array.getElem?_eq_none hl] at e; cases e
theorem TyH.below {w w' : World} {b : Nat} (h : TyH w b) (hb : Below w.heap.size w w') : TyH w' b := by
  have hl := h.lt
  obtain ⟨C, e⟩ := h
  exact ⟨C, (hb.block b hl).trans e⟩
theorem TyH.ne {w : World} {b q : Nat} (h : TyH w q) (hb : NHb w b) : b ≠ q := by
  rintro rfl
  obtain ⟨C, e⟩ := h
  obtain ⟨C', T, e', hT⟩ := hb
  rw [e] at e'
  simp only [Option.some.injEq, Obj.cells.injEq, and_true] at e'
  exact hT e'.2.symm
/-- What an operation of the statement that takes the reference's answer leaves; 12: the store. -/
def wxC (lo i : Nat) (W W' : World) : Prop :=
  if i = 12 then Below lo W W' ∧ (∀ q k, Row W q k noCell → Row W' q k noCell) ∧ (∀ b, NHb W b → W'.heap[b]? = W.heap[b]?) else Below W.heap.size W W'
theorem wxC_of {lo i : Nat} {W W' : World} (hi : i ≠ 12) (hb : Below W.heap.size W W') : wxC lo i W W' := by unfold wxC; rw [if_neg hi]; exact hb
theorem wxC_set {lo q : Nat} {W : World} {x0 x1 x2 : Value} (h : lo ≤ q) (ht : TyH W q) : wxC lo 12 W (((W.setCell ⟨q, 0, none⟩ x0).setCell ⟨q, 1, none⟩ x1).setCell ⟨q, 2, none⟩ x2) := by
  have hc := stC_set3 (ss := [12]) (i := 12) (x0 := x0) (x1 := x1) (x2 := x2) h (by decide) (w := W)
  unfold stC at hc
  rw [if_pos (by decide)] at hc
  unfold wxC
  rw [if_pos rfl]
  refine ⟨hc.1, hc.2, fun b hb => ?_⟩
  have hne := ht.ne hb
  exact ((Below.heap_setCell _ ⟨q, 2, none⟩ _ b hne).trans (Below.heap_setCell _ ⟨q, 1, none⟩ _ b hne)).trans (Below.heap_setCell _ ⟨q, 0, none⟩ _ b hne)
end Go.Proofs.Ytncjghmjlcohjaa
