/-
  'FnExactOverQuota': the law returns true at every input, and every argument reads behind the call as it read before. No condition.
-/
import Derived.Test.YtncjghmjlcohjaaRows
import Derived.Test.YtncjghmjlcohjaaOvl
import Derived.Test.YtncjghmjlcohjaaHead
import Derived.WalkKit
import Derived.ProofKit
import Derived.OpenShut
import Derived.ShutString
import Derived.ChangeOld
import Derived.Below
import Derived.Lib.SmallJoins
namespace Go.Proofs.Ytncjghmjlcohjaa.fnExactOverQuota
open Go.ChangeShapes Go.WideShapes Go.ChangeAt Go.RowKit Go.Joins
open Go.ChangeMaps (open_string shut_string)
set_option linter.unusedVariables false


set_option maxRecDepth 100000 in
theorem lifted (os : Os) (started : os.Started) (H : Type) (enc : TypeId × Value → H) :
    ReturnsInHanded {} Try.checked os 6 .any (Rows.fnExactOverQuotaSpec.pre6 enc Try.prog Try.f6 Rows.fnExactOverQuotaRow.domain false) (Rows.fnExactOverQuotaSpec.post enc Try.prog Try.f6 false true false false) := by
  refine returnsInHanded_of_change (C := Try.checked) Head.own started (by kernel_rfl) Try.func6
    (ChangeSpec.witness6 (enc := enc) (C := Try.checked) false ⟨#[], #[.slice none 0 0, .slice none 0 0], []⟩ 8 (by kernel_rfl) (by kernel_rfl) (by kernel_rfl) (by kernel_rfl)) ?_
  intro W base args ds gs before hval0 hW hcnd _
  have hval : ∀ (j : Nat) t v, Try.f6.params[j]? = some t → args[j]? = some v → Value.okWide Try.prog W .any base t v := hval0
  have hW' := hW
  obtain ⟨p, q, hA0, hV, rfl, hfz, hnd⟩ := hW
  have hA : DataW.TrodAll enc Try.prog W 0 (fun _ => true) true Try.f6.params.toList args.toList ds p := hA0
  rw [Try.params6] at hA hval
  obtain ⟨v0, vs0, d0, ds0, p0, q0, hargs, rfl, rfl, h0, r0⟩ := trodAll_cons hA
  obtain ⟨v1, vs1, d1, ds1, p1, q1, rfl, rfl, rfl, h1, r1⟩ := trodAll_cons r0
  obtain ⟨rfl, rfl, rfl⟩ := trodAll_nil r1
  obtain rfl : args = #[v0, v1] := by cases args; simp_all
  obtain ⟨rfl, rfl⟩ := trodVars_none hV
  have k0 := h0
  have lt0 : ∀ x ∈ p0, x.block < W.heap.size := by obtain ⟨m, hm⟩ := k0; exact DataW.trod_lt m _ _ _ hm
  have k1 := h1
  have lt1 : ∀ x ∈ p1, x.block < W.heap.size := by obtain ⟨m, hm⟩ := k1; exact DataW.trod_lt m _ _ _ hm
  obtain ⟨a0, len0, cap0, rfl⟩ := okWide_slice Try.underlying22 (hval 0 22 v0 rfl rfl)
  obtain ⟨z0, w0⟩ := open_recs58 h0
  obtain ⟨a1, len1, cap1, rfl⟩ := okWide_slice Try.underlying38 (hval 1 38 v1 rfl rfl)
  obtain ⟨z1, w1⟩ := open_recs68 h1
  clear hA0 hval0
  refine (fnExactOverQuota_walk (w := W) a0 len0 cap0 z0 w0 a1 len1 cap1 z1 w1).mono fun e W' ⟨he, bel⟩ => ?_
  subst he
  exact ⟨_, rfl, _, _, _, [], _, [], hW', trodAll_mk1 (shut_bool Try.underlying4 _), (trodAll_cons_mk (Below.trod Head.laidOut (by kernel_rfl) (of_decide_eq_true (by kernel_rfl)) k0 bel lt0) (trodAll_cons_mk (Below.trod Head.laidOut (by kernel_rfl) (of_decide_eq_true (by kernel_rfl)) k1 bel lt1) trodAll_mk0)), rfl, bel.frame _, fun h => by cases h⟩

theorem k0 : (Rows.fnExactOverQuotaRow.wf (OpenSpec.ofChange Rows.fnExactOverQuotaSpec)) = true := by kernel_rfl
theorem k3 : (Try.f6.params.all (Try.prog.readableRec ·)) = true := by kernel_rfl
theorem k4 : (namedTie Try.prog Rows.fnExactOverQuotaRow.named Rows.fnExactOverQuotaSpec.vars) = true := by kernel_rfl
theorem k5 : ((Rows.fnExactOverQuotaRow.stops == [])) = true := by kernel_rfl
theorem k7 : ((Rows.fnExactOverQuotaRow.knobs == [])) = true := by kernel_rfl
theorem k9 : ((Rows.fnExactOverQuotaRow.inPlace == Try.prog.inPlace 6)) = true := by kernel_rfl
theorem k10 : ((Rows.fnExactOverQuotaRow.unfollowed == Try.prog.unfollowed 6)) = true := by kernel_rfl
theorem k11 : ((Rows.fnExactOverQuotaRow.recurses == Try.prog.recurses 6)) = true := by kernel_rfl
theorem k12 : ((Rows.fnExactOverQuotaRow.named == Try.prog.varsNamed 6)) = true := by kernel_rfl
theorem k13 : ((Rows.fnExactOverQuotaRow.maps == (Try.f6.params.toList ++ Rows.fnExactOverQuotaSpec.plain.varTypes Try.prog).any (Try.prog.mapsRec ·))) = true := by kernel_rfl
theorem k14 : ((Rows.fnExactOverQuotaRow.ifaces == (Try.f6.params.toList ++ Rows.fnExactOverQuotaSpec.plain.varTypes Try.prog).any (Try.prog.ifacesRec ·))) = true := by kernel_rfl
theorem k15 : ((Rows.fnExactOverQuotaRow.mapsOut == Try.prog.mapsAmong Try.f6.resultTypes.toList)) = true := by kernel_rfl
theorem k16 : ((Rows.fnExactOverQuotaRow.loops == (Try.f6.params.toList ++ Rows.fnExactOverQuotaSpec.plain.varTypes Try.prog).any (Try.prog.loopsFrom ·))) = true := by kernel_rfl
theorem k17 : ((Rows.fnExactOverQuotaRow.wideKeys == (Try.f6.params.toList ++ Rows.fnExactOverQuotaSpec.plain.varTypes Try.prog ++ Try.f6.resultTypes.toList).any (Try.prog.wideKeysFrom ·))) = true := by kernel_rfl
theorem k18 : (Rows.fnExactOverQuotaSpec.vars.all (Try.prog.varReadable ·)) = true := by kernel_rfl
theorem k19 : (Try.f6.resultTypes.all (fun t => Try.prog.readableRec t && decide (t < Try.prog.types.size))) = true := by kernel_rfl
theorem k20 : ((Rows.fnExactOverQuotaRow.ifacesOut == Try.f6.resultTypes.toList.any (Try.prog.ifacesRec ·))) = true := by kernel_rfl
theorem k21 : ((Rows.fnExactOverQuotaRow.loopsOut == Try.f6.resultTypes.toList.any (Try.prog.loopsFrom ·))) = true := by kernel_rfl
theorem k22 : ((Rows.fnExactOverQuotaRow.plainKeys == Try.prog.plainKeys)) = true := by kernel_rfl
theorem k23 : (Rows.fnExactOverQuotaRow.shortTexts.isNone) = true := by kernel_rfl
theorem k26 : (Rows.fnExactOverQuotaRow.lifted == Try.prog.liftsFinal) = true := by rw [Head.liftsFinal]; rfl
theorem k27 : (Try.prog.make == some Rows.fnExactOverQuotaRow.make) = true := by rw [Head.make]; rfl
theorem k28 : ((Rows.fnExactOverQuotaRow.kinds == (if Rows.fnExactOverQuotaRow.domain.isEmpty then [] else Try.f6.params.toList.map fun t => match Try.prog.underlying t with | some (.int k) => some k | _ => none))) = true := by kernel_rfl
theorem k29 : ((Rows.fnExactOverQuotaRow.pinned == Rows.fnExactOverQuotaRow.pinnedBy)) = true := by kernel_rfl
theorem k30 : ((Rows.fnExactOverQuotaRow.veiled == (Try.f6.params.toList ++ Rows.fnExactOverQuotaSpec.plain.varTypes Try.prog ++ Try.f6.resultTypes.toList).any (Try.prog.veiledRec ·))) = true := by kernel_rfl
theorem k31 : (Rows.fnExactOverQuotaRow.veiledFits Try.prog Try.f6.params.toList (Try.f6.params.toList ++ Rows.fnExactOverQuotaSpec.plain.varTypes Try.prog ++ Try.f6.resultTypes.toList)) = true := by kernel_rfl
theorem closed : joinedFacts Try.prog 6 Try.f6 Rows.fnExactOverQuotaSpec Rows.fnExactOverQuotaRow = true := by
  unfold joinedFacts
  simp only [Bool.and_eq_true]
  exact ⟨⟨⟨⟨⟨⟨⟨⟨⟨⟨⟨⟨⟨⟨⟨⟨⟨⟨⟨⟨⟨⟨⟨⟨⟨⟨⟨⟨⟨⟨⟨k0, Head.laidOut⟩, Head.mapsRowed⟩, k3⟩, k4⟩, k5⟩, Head.stops⟩, k7⟩, Head.stopKnobs⟩, k9⟩, k10⟩, k11⟩, k12⟩, k13⟩, k14⟩, k15⟩, k16⟩, k17⟩, k18⟩, k19⟩, k20⟩, k21⟩, k22⟩, k23⟩, Head.stopsHeard⟩, Head.mayEnter⟩, k26⟩, k27⟩, k28⟩, k29⟩, k30⟩, k31⟩
theorem named : Try.pinned.checked.prog.funcNamed Rows.fnExactOverQuotaRow.func = some 6 := by kernel_rfl
theorem inst : Try.f6.isInstance Try.pinned.checked.prog Rows.fnExactOverQuotaRow.origin Rows.fnExactOverQuotaRow.targs := of_decide_eq_true (by kernel_rfl)
theorem wrap : Try.f6.isWrapper Try.pinned.checked.prog Rows.fnExactOverQuotaRow.wrapper Rows.fnExactOverQuotaRow.mainSum := by
  unfold Func.isWrapper; rw [if_neg (of_decide_eq_false (by kernel_rfl))]; exact ⟨rfl, rfl⟩
theorem over : Rows.fnExactOverQuotaRow.holds Try.pinned (OpenSpec.ofChange Rows.fnExactOverQuotaSpec) :=
  OpenClaim.holds_of_wide 6 Try.f6 rfl rfl rfl rfl rfl rfl rfl ⟨rfl, rfl, rfl, rfl, rfl⟩ rfl rfl rfl rfl rfl named Try.func6 closed
    inst wrap (fun os started H enc _ => lifted os started H enc)

theorem proved : Rows.FnExactOverQuotaSaid := over
#print axioms proved
end Go.Proofs.Ytncjghmjlcohjaa.fnExactOverQuota
