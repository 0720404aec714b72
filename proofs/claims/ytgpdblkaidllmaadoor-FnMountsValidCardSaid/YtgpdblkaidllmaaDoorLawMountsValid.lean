/-
  'FnMountsValid': the law returns true at every input, and every argument reads behind the call as it read before; the listed variables of the library hold what the program's text lays (the card ties it).
-/
import Derived.Test.YtgpdblkaidllmaaDoorRows
import Derived.Test.YtgpdblkaidllmaaDoorCards
import Derived.Test.YtgpdblkaidllmaaDoorTie
import Derived.Test.YtgpdblkaidllmaaDoorDor
import Derived.Test.YtgpdblkaidllmaaDoorMdl
import Derived.Test.YtgpdblkaidllmaaDoorHead
import Derived.WalkKit
import Derived.ProofKit
import Derived.OpenShut
import Derived.ShutString
import Derived.ChangeOld
import Derived.Below
import Derived.Lib.SmallJoins
import Derived.SevenTiedAt
namespace Go.Proofs.YtgpdblkaidllmaaDoor.fnMountsValid
open Go.ChangeShapes Go.WideShapes Go.ChangeAt Go.RowKit Go.Joins
open Go.ChangeMaps (open_string shut_string)
set_option linter.unusedVariables false

theorem sameL : Rows.fnMountsValidRow.laid = Door.laidL := rfl
set_option maxRecDepth 100000 in
theorem lifted (os : Os) (started : os.Started) (H : Type) (enc : TypeId × Value → H) :
    ReturnsInHanded {} Tryd.checked os 3 .any (fun w args => (Rows.fnMountsValidSpec.pre enc Tryd.prog Tryd.f3 [] false w args ∧ laidMetH Tryd.prog Door.laidL w) ∧ sizedMet enc Tryd.prog Tryd.f3 (OpenSpec.ofChange Rows.fnMountsValidSpec) false w args) (Rows.fnMountsValidSpec.post enc Tryd.prog Tryd.f3 false true false false) := by
  refine Door.returns_laid_shaped (C := Tryd.checked) (X := fun w _ => laidMetH Tryd.prog Door.laidL w) (fun _ _ _ hh h => h.of_heap hh) Head.own started (by kernel_rfl) Tryd.func3
    (ChangeSpec.witness_shaped (enc := enc) (C := Tryd.checked) (os := os) (X := fun w _ => laidMetH Tryd.prog Door.laidL w) false (World.laidAll Tryd.prog os Door.laidL) #[.slice none 0 0] 8 (World.laidAll_os _ _ _)
      (World.shaped_of_ZipB (by kernel_rfl) (by kernel_rfl)) (by kernel_rfl) (by kernel_rfl) (by kernel_rfl) (Door.met os _)) ?_
  intro W base args ds gs before hval0 hW hL hsh
  have hval : ∀ (j : Nat) t v, Tryd.f3.params[j]? = some t → args[j]? = some v → Value.okWide Tryd.prog W .any base t v := hval0
  have hW' := hW
  obtain ⟨p, q, hA0, hV, rfl, hfz, hnd⟩ := hW
  have hA : DataW.TrodAll enc Tryd.prog W 0 (fun _ => true) true Tryd.f3.params.toList args.toList ds p := hA0
  rw [Tryd.params3] at hA hval
  obtain ⟨v0, vs0, d0, ds0, p0, q0, hargs, rfl, rfl, h0, r0⟩ := trodAll_cons hA
  obtain ⟨rfl, rfl, rfl⟩ := trodAll_nil r0
  obtain rfl : args = #[v0] := by cases args; simp_all
  obtain ⟨rfl, rfl⟩ := trodVars_none hV
  have k0 := h0
  have lt0 : ∀ x ∈ p0, x.block < W.heap.size := by obtain ⟨m, hm⟩ := k0; exact DataW.trod_lt m _ _ _ hm
  obtain ⟨a0, len0, cap0, rfl⟩ := okWide_slice Tryd.underlying22 (hval 0 22 v0 rfl rfl)
  have w0 := open_bytes h0
  clear hA0 hval0
  have hmx : MX W := Door.maxLenCell hsh
  refine (fnMountsValid_walk (w := W) hmx a0 len0 cap0 w0).mono fun e W' ⟨he, bel⟩ => ?_
  subst he
  exact ⟨_, rfl, _, _, _, [], _, [], hW', trodAll_mk1 (shut_bool Tryd.underlying4 _), (trodAll_cons_mk (Below.trod Head.laidOut (by kernel_rfl) (of_decide_eq_true (by kernel_rfl)) k0 bel lt0) trodAll_mk0), rfl, bel.frame _, fun h => by cases h⟩

theorem k0 : (Rows.fnMountsValidRow.wf (OpenSpec.ofChange Rows.fnMountsValidSpec)) = true := by kernel_rfl
theorem k3 : (Tryd.f3.params.all (Tryd.prog.readableRec ·)) = true := by kernel_rfl
theorem k4 : (namedTie Tryd.prog Rows.fnMountsValidRow.named Rows.fnMountsValidSpec.vars) = true := by kernel_rfl
theorem k5 : ((Rows.fnMountsValidRow.stops == [])) = true := by kernel_rfl
theorem k7 : ((Rows.fnMountsValidRow.knobs == [])) = true := by kernel_rfl
theorem k9 : ((Rows.fnMountsValidRow.inPlace == Tryd.prog.inPlace 3)) = true := by kernel_rfl
theorem k10 : ((Rows.fnMountsValidRow.unfollowed == Tryd.prog.unfollowed 3)) = true := by kernel_rfl
theorem k11 : ((Rows.fnMountsValidRow.recurses == Tryd.prog.recurses 3)) = true := by kernel_rfl
theorem k12 : ((Rows.fnMountsValidRow.named == Tryd.prog.varsNamed 3)) = true := by kernel_rfl
theorem k13 : ((Rows.fnMountsValidRow.maps == (Tryd.f3.params.toList ++ Rows.fnMountsValidSpec.plain.varTypes Tryd.prog).any (Tryd.prog.mapsRec ·))) = true := by kernel_rfl
theorem k14 : ((Rows.fnMountsValidRow.ifaces == (Tryd.f3.params.toList ++ Rows.fnMountsValidSpec.plain.varTypes Tryd.prog).any (Tryd.prog.ifacesRec ·))) = true := by kernel_rfl
theorem k15 : ((Rows.fnMountsValidRow.mapsOut == Tryd.prog.mapsAmong Tryd.f3.resultTypes.toList)) = true := by kernel_rfl
theorem k16 : ((Rows.fnMountsValidRow.loops == (Tryd.f3.params.toList ++ Rows.fnMountsValidSpec.plain.varTypes Tryd.prog).any (Tryd.prog.loopsFrom ·))) = true := by kernel_rfl
theorem k17 : ((Rows.fnMountsValidRow.wideKeys == (Tryd.f3.params.toList ++ Rows.fnMountsValidSpec.plain.varTypes Tryd.prog ++ Tryd.f3.resultTypes.toList).any (Tryd.prog.wideKeysFrom ·))) = true := by kernel_rfl
theorem k18 : (Rows.fnMountsValidSpec.vars.all (Tryd.prog.varReadable ·)) = true := by kernel_rfl
theorem k19 : (Tryd.f3.resultTypes.all (fun t => Tryd.prog.readableRec t && decide (t < Tryd.prog.types.size))) = true := by kernel_rfl
theorem k20 : ((Rows.fnMountsValidRow.ifacesOut == Tryd.f3.resultTypes.toList.any (Tryd.prog.ifacesRec ·))) = true := by kernel_rfl
theorem k21 : ((Rows.fnMountsValidRow.loopsOut == Tryd.f3.resultTypes.toList.any (Tryd.prog.loopsFrom ·))) = true := by kernel_rfl
theorem k22 : ((Rows.fnMountsValidRow.plainKeys == Tryd.prog.plainKeys)) = true := by kernel_rfl
theorem k23 : (Rows.fnMountsValidRow.shortTexts.isNone) = true := by kernel_rfl
theorem k26 : (Rows.fnMountsValidRow.lifted == Tryd.prog.liftsFinal) = true := by rw [Head.liftsFinal]; rfl
theorem k27 : (Tryd.prog.make == some Rows.fnMountsValidRow.make) = true := by rw [Head.make]; rfl
theorem k28 : ((Rows.fnMountsValidRow.kinds == (if Rows.fnMountsValidRow.domain.isEmpty then [] else Tryd.f3.params.toList.map fun t => match Tryd.prog.underlying t with | some (.int k) => some k | _ => none))) = true := by kernel_rfl
theorem k29 : ((Rows.fnMountsValidRow.pinned == Rows.fnMountsValidRow.pinnedBy)) = true := by kernel_rfl
theorem k30 : ((Rows.fnMountsValidRow.veiled == (Tryd.f3.params.toList ++ Rows.fnMountsValidSpec.plain.varTypes Tryd.prog ++ Tryd.f3.resultTypes.toList).any (Tryd.prog.veiledRec ·))) = true := by kernel_rfl
theorem k31 : (Rows.fnMountsValidRow.veiledFits Tryd.prog Tryd.f3.params.toList (Tryd.f3.params.toList ++ Rows.fnMountsValidSpec.plain.varTypes Tryd.prog ++ Tryd.f3.resultTypes.toList)) = true := by kernel_rfl
theorem closed : joinedFacts Tryd.prog 3 Tryd.f3 Rows.fnMountsValidSpec Rows.fnMountsValidRow = true := by
  unfold joinedFacts
  simp only [Bool.and_eq_true]
  exact ⟨⟨⟨⟨⟨⟨⟨⟨⟨⟨⟨⟨⟨⟨⟨⟨⟨⟨⟨⟨⟨⟨⟨⟨⟨⟨⟨⟨⟨⟨⟨k0, Head.laidOut⟩, Head.mapsRowed⟩, k3⟩, k4⟩, k5⟩, Head.stops⟩, k7⟩, Head.stopKnobs⟩, k9⟩, k10⟩, k11⟩, k12⟩, k13⟩, k14⟩, k15⟩, k16⟩, k17⟩, k18⟩, k19⟩, k20⟩, k21⟩, k22⟩, k23⟩, Head.stopsHeard⟩, Head.mayEnter⟩, k26⟩, k27⟩, k28⟩, k29⟩, k30⟩, k31⟩
theorem named : Tryd.pinned.checked.prog.funcNamed Rows.fnMountsValidRow.func = some 3 := by kernel_rfl
theorem inst : Tryd.f3.isInstance Tryd.pinned.checked.prog Rows.fnMountsValidRow.origin Rows.fnMountsValidRow.targs := of_decide_eq_true (by kernel_rfl)
theorem wrap : Tryd.f3.isWrapper Tryd.pinned.checked.prog Rows.fnMountsValidRow.wrapper Rows.fnMountsValidRow.mainSum := by
  unfold Func.isWrapper; rw [if_neg (of_decide_eq_false (by kernel_rfl))]; exact ⟨rfl, rfl⟩
theorem over : Rows.FnMountsValidSaid :=
  OpenClaim.holds_of_wide 3 Tryd.f3 rfl rfl rfl rfl rfl rfl rfl ⟨rfl, rfl, rfl, rfl, rfl⟩ rfl rfl rfl rfl rfl named Tryd.func3 closed
    inst wrap (fun os started H enc _ => lifted os started H enc)
theorem noStand : (Tryd.f3.params.toList.all fun u => !Tryd.prog.wantsStandIn u) = true := by kernel_rfl
theorem card : Claim7.holds Tryd.pinned (.plain (OpenSpec.ofChange Rows.fnMountsValidSpec)) Rows.fnMountsValidCard :=
  Claim7.holds_tied_plain_at .later [] [.data, .pinned] true Rows.fnMountsValidCard.stood.harness false
    over (fun _ h => by cases h) (by kernel_rfl) (fun _ h => by cases h) fnMountsValid_row_tie rfl ⟨rfl, rfl⟩ (by kernel_rfl) rfl
    (fun f fn hf hfn => by
      obtain rfl : f = 3 := Option.some.inj (named.symm.trans hf) |>.symm
      obtain rfl : fn = Tryd.f3 := (Option.some.inj (Tryd.func3.symm.trans hfn)).symm
      exact ⟨by kernel_rfl, fun j t ht => by
        have hm : t ∈ Tryd.f3.params.toList := Array.mem_toList_iff.2 (Array.mem_of_getElem? ht)
        exact (show Tryd.prog.wantsStandIn t = false by simpa using List.all_eq_true.1 noStand t hm)⟩)
    (by kernel_rfl)
theorem proved : Rows.FnMountsValidCardSaid := card
#print axioms proved
end Go.Proofs.YtgpdblkaidllmaaDoor.fnMountsValid
