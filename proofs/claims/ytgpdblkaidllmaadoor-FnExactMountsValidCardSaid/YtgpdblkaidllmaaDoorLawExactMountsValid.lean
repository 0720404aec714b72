/-
  'FnExactMountsValid': the law returns true at every input, and every argument reads behind the call as it read before; the listed variables of the library hold what the program's text lays (the card ties it).
-/
import Derived.Test.YtgpdblkaidllmaaDoorRows
import Derived.Test.YtgpdblkaidllmaaDoorCards
import Derived.Test.YtgpdblkaidllmaaDoorTie
import Derived.Test.YtgpdblkaidllmaaDoorDor
import Derived.Test.YtgpdblkaidllmaaDoorMvl
import Derived.Test.YtgpdblkaidllmaaDoorHead
import Derived.WalkKit
import Derived.ProofKit
import Derived.OpenShut
import Derived.ShutString
import Derived.ChangeOld
import Derived.Below
import Derived.Lib.SmallJoins
import Derived.SevenTiedAt
namespace Go.Proofs.YtgpdblkaidllmaaDoor.fnExactMountsValid
open Go.ChangeShapes Go.WideShapes Go.ChangeAt Go.RowKit Go.Joins
open Go.ChangeMaps (open_string shut_string)
set_option linter.unusedVariables false

theorem sameL : Rows.fnExactMountsValidRow.laid = Door.laidL := rfl
set_option maxRecDepth 100000 in
theorem lifted (os : Os) (started : os.Started) (H : Type) (enc : TypeId × Value → H) :
    ReturnsInHanded {} Tryd.checked os 6 .any (fun w args => (Rows.fnExactMountsValidSpec.pre enc Tryd.prog Tryd.f6 [] false w args ∧ laidMetH Tryd.prog Door.laidL w) ∧ sizedMet enc Tryd.prog Tryd.f6 (OpenSpec.ofChange Rows.fnExactMountsValidSpec) false w args) (Rows.fnExactMountsValidSpec.post enc Tryd.prog Tryd.f6 false true false false) := by
  refine Door.returns_laid_shaped (C := Tryd.checked) (X := fun w _ => laidMetH Tryd.prog Door.laidL w) (fun _ _ _ hh h => h.of_heap hh) Head.own started (by kernel_rfl) Tryd.func6
    (ChangeSpec.witness_shaped (enc := enc) (C := Tryd.checked) (os := os) (X := fun w _ => laidMetH Tryd.prog Door.laidL w) false (World.laidAll Tryd.prog os Door.laidL) #[.slice none 0 0] 8 (World.laidAll_os _ _ _)
      (World.shaped_of_ZipB (by kernel_rfl) (by kernel_rfl)) (by kernel_rfl) (by kernel_rfl) (by kernel_rfl) (Door.met os _)) ?_
  intro W base args ds gs before hval0 hW hL hsh
  have hval : ∀ (j : Nat) t v, Tryd.f6.params[j]? = some t → args[j]? = some v → Value.okWide Tryd.prog W .any base t v := hval0
  have hW' := hW
  obtain ⟨p, q, hA0, hV, rfl, hfz, hnd⟩ := hW
  have hA : DataW.TrodAll enc Tryd.prog W 0 (fun _ => true) true Tryd.f6.params.toList args.toList ds p := hA0
  rw [Tryd.params6] at hA hval
  obtain ⟨v0, vs0, d0, ds0, p0, q0, hargs, rfl, rfl, h0, r0⟩ := trodAll_cons hA
  obtain ⟨rfl, rfl, rfl⟩ := trodAll_nil r0
  obtain rfl : args = #[v0] := by cases args; simp_all
  obtain ⟨rfl, rfl⟩ := trodVars_none hV
  have k0 := h0
  have lt0 : ∀ x ∈ p0, x.block < W.heap.size := by obtain ⟨m, hm⟩ := k0; exact DataW.trod_lt m _ _ _ hm
  obtain ⟨a0, len0, cap0, rfl⟩ := okWide_slice Tryd.underlying30 (hval 0 30 v0 rfl rfl)
  obtain ⟨z0, w0⟩ := open_recs48 h0
  clear hA0 hval0
  have hmx : MX W := Door.maxLenCell hsh
  refine (fnExactMountsValid_walk (w := W) hmx a0 len0 cap0 z0 w0).mono fun e W' ⟨he, bel⟩ => ?_
  subst he
  exact ⟨_, rfl, _, _, _, [], _, [], hW', trodAll_mk1 (shut_bool Tryd.underlying4 _), (trodAll_cons_mk (Below.trod Head.laidOut (by kernel_rfl) (of_decide_eq_true (by kernel_rfl)) k0 bel lt0) trodAll_mk0), rfl, bel.frame _, fun h => by cases h⟩

theorem k0 : (Rows.fnExactMountsValidRow.wf (OpenSpec.ofChange Rows.fnExactMountsValidSpec)) = true := by kernel_rfl
theorem k3 : (Tryd.f6.params.all (Tryd.prog.readableRec ·)) = true := by kernel_rfl
theorem k4 : (namedTie Tryd.prog Rows.fnExactMountsValidRow.named Rows.fnExactMountsValidSpec.vars) = true := by kernel_rfl
theorem k5 : ((Rows.fnExactMountsValidRow.stops == [])) = true := by kernel_rfl
theorem k7 : ((Rows.fnExactMountsValidRow.knobs == [])) = true := by kernel_rfl
theorem k9 : ((Rows.fnExactMountsValidRow.inPlace == Tryd.prog.inPlace 6)) = true := by kernel_rfl
theorem k10 : ((Rows.fnExactMountsValidRow.unfollowed == Tryd.prog.unfollowed 6)) = true := by kernel_rfl
theorem k11 : ((Rows.fnExactMountsValidRow.recurses == Tryd.prog.recurses 6)) = true := by kernel_rfl
theorem k12 : ((Rows.fnExactMountsValidRow.named == Tryd.prog.varsNamed 6)) = true := by kernel_rfl
theorem k13 : ((Rows.fnExactMountsValidRow.maps == (Tryd.f6.params.toList ++ Rows.fnExactMountsValidSpec.plain.varTypes Tryd.prog).any (Tryd.prog.mapsRec ·))) = true := by kernel_rfl
theorem k14 : ((Rows.fnExactMountsValidRow.ifaces == (Tryd.f6.params.toList ++ Rows.fnExactMountsValidSpec.plain.varTypes Tryd.prog).any (Tryd.prog.ifacesRec ·))) = true := by kernel_rfl
theorem k15 : ((Rows.fnExactMountsValidRow.mapsOut == Tryd.prog.mapsAmong Tryd.f6.resultTypes.toList)) = true := by kernel_rfl
theorem k16 : ((Rows.fnExactMountsValidRow.loops == (Tryd.f6.params.toList ++ Rows.fnExactMountsValidSpec.plain.varTypes Tryd.prog).any (Tryd.prog.loopsFrom ·))) = true := by kernel_rfl
theorem k17 : ((Rows.fnExactMountsValidRow.wideKeys == (Tryd.f6.params.toList ++ Rows.fnExactMountsValidSpec.plain.varTypes Tryd.prog ++ Tryd.f6.resultTypes.toList).any (Tryd.prog.wideKeysFrom ·))) = true := by kernel_rfl
theorem k18 : (Rows.fnExactMountsValidSpec.vars.all (Tryd.prog.varReadable ·)) = true := by kernel_rfl
theorem k19 : (Tryd.f6.resultTypes.all (fun t => Tryd.prog.readableRec t && decide (t < Tryd.prog.types.size))) = true := by kernel_rfl
theorem k20 : ((Rows.fnExactMountsValidRow.ifacesOut == Tryd.f6.resultTypes.toList.any (Tryd.prog.ifacesRec ·))) = true := by kernel_rfl
theorem k21 : ((Rows.fnExactMountsValidRow.loopsOut == Tryd.f6.resultTypes.toList.any (Tryd.prog.loopsFrom ·))) = true := by kernel_rfl
theorem k22 : ((Rows.fnExactMountsValidRow.plainKeys == Tryd.prog.plainKeys)) = true := by kernel_rfl
theorem k23 : (Rows.fnExactMountsValidRow.shortTexts.isNone) = true := by kernel_rfl
theorem k26 : (Rows.fnExactMountsValidRow.lifted == Tryd.prog.liftsFinal) = true := by rw [Head.liftsFinal]; rfl
theorem k27 : (Tryd.prog.make == some Rows.fnExactMountsValidRow.make) = true := by rw [Head.make]; rfl
theorem k28 : ((Rows.fnExactMountsValidRow.kinds == (if Rows.fnExactMountsValidRow.domain.isEmpty then [] else Tryd.f6.params.toList.map fun t => match Tryd.prog.underlying t with | some (.int k) => some k | _ => none))) = true := by kernel_rfl
theorem k29 : ((Rows.fnExactMountsValidRow.pinned == Rows.fnExactMountsValidRow.pinnedBy)) = true := by kernel_rfl
theorem k30 : ((Rows.fnExactMountsValidRow.veiled == (Tryd.f6.params.toList ++ Rows.fnExactMountsValidSpec.plain.varTypes Tryd.prog ++ Tryd.f6.resultTypes.toList).any (Tryd.prog.veiledRec ·))) = true := by kernel_rfl
theorem k31 : (Rows.fnExactMountsValidRow.veiledFits Tryd.prog Tryd.f6.params.toList (Tryd.f6.params.toList ++ Rows.fnExactMountsValidSpec.plain.varTypes Tryd.prog ++ Tryd.f6.resultTypes.toList)) = true := by kernel_rfl
theorem closed : joinedFacts Tryd.prog 6 Tryd.f6 Rows.fnExactMountsValidSpec Rows.fnExactMountsValidRow = true := by
  unfold joinedFacts
  simp only [Bool.and_eq_true]
  exact ⟨⟨⟨⟨⟨⟨⟨⟨⟨⟨⟨⟨⟨⟨⟨⟨⟨⟨⟨⟨⟨⟨⟨⟨⟨⟨⟨⟨⟨⟨⟨k0, Head.laidOut⟩, Head.mapsRowed⟩, k3⟩, k4⟩, k5⟩, Head.stops⟩, k7⟩, Head.stopKnobs⟩, k9⟩, k10⟩, k11⟩, k12⟩, k13⟩, k14⟩, k15⟩, k16⟩, k17⟩, k18⟩, k19⟩, k20⟩, k21⟩, k22⟩, k23⟩, Head.stopsHeard⟩, Head.mayEnter⟩, k26⟩, k27⟩, k28⟩, k29⟩, k30⟩, k31⟩
theorem named : Tryd.pinned.checked.prog.funcNamed Rows.fnExactMountsValidRow.func = some 6 := by kernel_rfl
theorem inst : Tryd.f6.isInstance Tryd.pinned.checked.prog Rows.fnExactMountsValidRow.origin Rows.fnExactMountsValidRow.targs := of_decide_eq_true (by kernel_rfl)
theorem wrap : Tryd.f6.isWrapper Tryd.pinned.checked.prog Rows.fnExactMountsValidRow.wrapper Rows.fnExactMountsValidRow.mainSum := by
  unfold Func.isWrapper; rw [if_neg (of_decide_eq_false (by kernel_rfl))]; exact ⟨rfl, rfl⟩
theorem over : Rows.FnExactMountsValidSaid :=
  OpenClaim.holds_of_wide 6 Tryd.f6 rfl rfl rfl rfl rfl rfl rfl ⟨rfl, rfl, rfl, rfl, rfl⟩ rfl rfl rfl rfl rfl named Tryd.func6 closed
    inst wrap (fun os started H enc _ => lifted os started H enc)
theorem noStand : (Tryd.f6.params.toList.all fun u => !Tryd.prog.wantsStandIn u) = true := by kernel_rfl
theorem card : Claim7.holds Tryd.pinned (.plain (OpenSpec.ofChange Rows.fnExactMountsValidSpec)) Rows.fnExactMountsValidCard :=
  Claim7.holds_tied_plain_at .later [] [.data, .pinned] true Rows.fnExactMountsValidCard.stood.harness false
    over (fun _ h => by cases h) (by kernel_rfl) (fun _ h => by cases h) fnExactMountsValid_row_tie rfl ⟨rfl, rfl⟩ (by kernel_rfl) rfl
    (fun f fn hf hfn => by
      obtain rfl : f = 6 := Option.some.inj (named.symm.trans hf) |>.symm
      obtain rfl : fn = Tryd.f6 := (Option.some.inj (Tryd.func6.symm.trans hfn)).symm
      exact ⟨by kernel_rfl, fun j t ht => by
        have hm : t ∈ Tryd.f6.params.toList := Array.mem_toList_iff.2 (Array.mem_of_getElem? ht)
        exact (show Tryd.prog.wantsStandIn t = false by simpa using List.all_eq_true.1 noStand t hm)⟩)
    (by kernel_rfl)
theorem proved : Rows.FnExactMountsValidCardSaid := card
#print axioms proved
end Go.Proofs.YtgpdblkaidllmaaDoor.fnExactMountsValid
