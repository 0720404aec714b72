/-
  Three closed facts on the head of the translation that every row of the seat asks, each proved once from the head's first words. No condition.
-/
import Derived.Test.YtncjghmjlcohjaaDoorRows
import Derived.KernelRfl
import Derived.JoinedOf
import Derived.ProofKit
namespace Go.Proofs.YtncjghmjlcohjaaDoor
namespace Head
set_option linter.unusedSimpArgs false
set_option linter.unusedVariables false

/-- The head's first words: harness, a sum, cut. -/
def good (l hh cc : List Char) : Bool :=
  match wordsSigns l with
  | h :: s :: c :: _ => h == hh && isSumSigns s && c == cc
  | _ => false

theorem good_words {l hh cc : List Char} (h : good l hh cc = true) : ∃ s r, wordsSigns l = hh :: s :: cc :: r ∧ isSumSigns s = true := by
  unfold good at h
  split at h
  · rename_i h' s c r he
    simp only [Bool.and_eq_true, beq_iff_eq] at h
    obtain ⟨⟨h1, h2⟩, h3⟩ := h
    exact ⟨s, r, by rw [he, h1, h3], h2⟩
  · cases h

set_option maxRecDepth 100000 in
theorem init_of : ∃ l hh cc, Tryd.prog.initOrder = String.ofList l ∧ "harness" = String.ofList hh ∧ "cut" = String.ofList cc ∧ good l hh cc = true := ⟨_, _, _, rfl, rfl, rfl, by kernel_rfl⟩

theorem words : ∃ r, behindMainWord (wordsSigns Tryd.prog.initOrder.toList) = "cut".toList :: r := by
  obtain ⟨l, hh, cc, h1, e1, e2, h2⟩ := init_of
  obtain ⟨s, r, h3, h4⟩ := good_words h2
  refine ⟨r, ?_⟩
  rw [h1, String.toList_ofList, h3]
  have f1 : "harness".toList = hh := by rw [e1, String.toList_ofList]
  have f2 : "cut".toList = cc := by rw [e2, String.toList_ofList]
  rw [f2]
  simp [behindMainWord, h4, f1]

theorem ne_of {s t : String} (h : s ≠ t) : (s.toList == t.toList) = false := by
  rw [beq_eq_false_iff_ne]
  exact fun e => h (String.toList_inj.1 e)
theorem n1 : ("cut".toList == "gc".toList) = false := ne_of (by decide)
theorem n2 : ("cut".toList == "spec".toList) = false := ne_of (by decide)
theorem n3 : ("cut".toList == "carried".toList) = false := ne_of (by decide)
theorem later : Tryd.prog.laysLater = false := by kernel_rfl
theorem refl_ : Tryd.prog.bearsReflect = false := by kernel_rfl
theorem door : Tryd.prog.doorFits [] = true := by kernel_rfl
theorem strip1 (o : String) (os : List String) (r : List (List Char)) (h : "cut" ≠ o) (k : stripLifts os ("cut".toList :: r) = ([], "cut".toList :: r)) : stripLifts (o :: os) ("cut".toList :: r) = ([], "cut".toList :: r) := by
  rw [stripLifts, ne_of h]
  exact k
theorem strip (r : List (List Char)) : stripLifts liftWords ("cut".toList :: r) = ([], "cut".toList :: r) := by
  unfold liftWords
  repeat (refine strip1 _ _ _ (by decide) ?_)
  rfl
theorem mayEnter_of (P : Program) (r : List (List Char)) (h : behindMainWord (wordsSigns P.initOrder.toList) = "cut".toList :: r) (h1 : P.laysLater = false) (h2 : P.bearsReflect = false) (h3 : P.doorFits [] = true) : P.mayEnter = true := by
  unfold Program.mayEnter
  rw [h]
  simp only [n1, n2, n3, strip, h1, h2, h3]
  simp
theorem liftsFinal_of (P : Program) (r : List (List Char)) (h : behindMainWord (wordsSigns P.initOrder.toList) = "cut".toList :: r) : P.liftsFinal = false := by
  unfold Program.liftsFinal Program.headLifts
  simp only [h, strip, List.head?_cons, Option.some_beq_some, n3]
  simp
theorem make_of (P : Program) (r : List (List Char)) (h : behindMainWord (wordsSigns P.initOrder.toList) = "cut".toList :: r) : P.make = some .cut := by
  unfold Program.make
  rw [h]
  simp only [n1, n2]
  simp
theorem mayEnter : Tryd.prog.mayEnter = true := words.elim fun r h => mayEnter_of _ r h later refl_ door
theorem liftsFinal : Tryd.prog.liftsFinal = false := words.elim fun r h => liftsFinal_of _ r h
theorem make : Tryd.prog.make = some .cut := words.elim fun r h => make_of _ r h
theorem own : ownKnob Tryd.prog.godebug = none := by kernel_rfl
theorem laidOut : laidOutB Tryd.prog = true := by kernel_rfl
theorem mapsRowed : mapsRowed Tryd.prog = true := by kernel_rfl
theorem stops : (Tryd.prog.stops == []) = true := by kernel_rfl
theorem stopKnobs : (Tryd.prog.stopKnobs == []) = true := by kernel_rfl
theorem stopsHeard : Tryd.prog.stopsHeard = true := by kernel_rfl
end Head
end Go.Proofs.YtncjghmjlcohjaaDoor
