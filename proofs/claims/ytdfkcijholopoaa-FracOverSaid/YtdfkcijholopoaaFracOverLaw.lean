/- For every input, FracOver returns true and its arguments read as they did: over another weight the value is not less, and by less than one over that more. -/
import Derived.Test.YtdfkcijholopoaaRows
import Derived.Test.YtdfkcijholopoaaFg
import Derived.Test.YtdfkcijholopoaaOpenF
import Derived.Test.YtdfkcijholopoaaFacts
import Derived.OpenShut
import Derived.ChangeOld
import Derived.Below
namespace Go.Proofs.Ytdfkcijholopoaa
open Go.ChangeShapes Go.WideShapes Go.ChangeAt Go.RowKit
open Vm
set_option linter.unusedVariables false

set_option maxRecDepth 100000 in
theorem fracOver_lifted (os : Os) (started : os.Started) (H : Type) (enc : TypeId × Value → H) :
    ReturnsInHanded {} Try.checked os 13 .any (Rows.fracOverSpec.pre6 enc Try.prog Try.f13 Rows.fracOverRow.domain false) (Rows.fracOverSpec.post enc Try.prog Try.f13 false true false false) := by
  refine returnsInHanded_of_change (C := Try.checked) own started (by kernel_rfl) Try.func13
    (ChangeSpec.witness6 (enc := enc) (C := Try.checked) false ⟨#[], #[.agg #[.int .u64 0, .int .u64 0, .int .u64 0], .int .u64 0], []⟩ 8 (by kernel_rfl) (by kernel_rfl) (by kernel_rfl) (by kernel_rfl)) ?_
  intro W base args ds gs before hval0 hW hcnd _
  have hval : ∀ (j : Nat) t v, Try.f13.params[j]? = some t → args[j]? = some v → Value.okWide Try.prog W .any base t v := hval0
  have hW' := hW
  obtain ⟨p, q, hA0, hV, rfl, hfz, hnd⟩ := hW
  have hA : DataW.TrodAll enc Try.prog W 0 (fun _ => true) true Try.f13.params.toList args.toList ds p := hA0
  rw [Try.params13] at hA hval
  obtain ⟨v0, vs0, d0, ds0, p0, q0, hargs, rfl, rfl, h0, r0⟩ := trodAll_cons hA
  obtain ⟨v1, vs1, d1, ds1, p1, q1, rfl, rfl, rfl, h1, r1⟩ := trodAll_cons r0
  obtain ⟨rfl, rfl, rfl⟩ := trodAll_nil r1
  obtain rfl : args = #[v0, v1] := by cases args; simp_all
  obtain ⟨rfl, rfl⟩ := trodVars_none hV
  have k0 := h0
  have lt0 : ∀ x ∈ p0, x.block < W.heap.size := by obtain ⟨m, hm⟩ := k0; exact DataW.trod_lt m _ _ _ hm
  have k1 := h1
  have lt1 : ∀ x ∈ p1, x.block < W.heap.size := by obtain ⟨m, hm⟩ := k1; exact DataW.trod_lt m _ _ _ hm
  obtain ⟨n0, w0, hn0, hw0, rfl⟩ := open_frac (hval 0 58 v0 rfl rfl) h0
  obtain ⟨n1, hn1, rfl⟩ := open_u64 (hval 1 22 v1 rfl rfl) h1
  clear hA0 hval0
  refine ((p13 n0 w0 n1).calls W).mono fun e W' ⟨he, bel⟩ => ?_
  subst he
  exact ⟨_, rfl, _, _, _, [], _, [], hW', trodAll_mk1 (shut_bool Try.underlying4 _), (trodAll_cons_mk (Below.trod laidOut (by kernel_rfl) (of_decide_eq_true (by kernel_rfl)) k0 bel lt0) (trodAll_cons_mk (Below.trod laidOut (by kernel_rfl) (of_decide_eq_true (by kernel_rfl)) k1 bel lt1) trodAll_mk0)), rfl, bel.frame _, fun h => by cases h⟩

theorem fracOver_g3 : (Rows.fracOverRow.wf (OpenSpec.ofChange Rows.fracOverSpec) && Try.f13.params.all (Try.pinned.checked.prog.readableRec ·) && namedTie Try.pinned.checked.prog Rows.fracOverRow.named Rows.fracOverSpec.vars && (Rows.fracOverRow.stops == []) && (Rows.fracOverRow.knobs == [])) = true := by kernel_rfl
theorem fracOver_g4 : ((Rows.fracOverRow.inPlace == Try.pinned.checked.prog.inPlace 13) && (Rows.fracOverRow.unfollowed == Try.pinned.checked.prog.unfollowed 13) && (Rows.fracOverRow.recurses == Try.pinned.checked.prog.recurses 13) && (Rows.fracOverRow.named == Try.pinned.checked.prog.varsNamed 13)) = true := by kernel_rfl
theorem fracOver_g5 : ((Rows.fracOverRow.maps == (Try.f13.params.toList ++ Rows.fracOverSpec.plain.varTypes Try.pinned.checked.prog).any (Try.pinned.checked.prog.mapsRec ·)) && (Rows.fracOverRow.ifaces == (Try.f13.params.toList ++ Rows.fracOverSpec.plain.varTypes Try.pinned.checked.prog).any (Try.pinned.checked.prog.ifacesRec ·)) && (Rows.fracOverRow.mapsOut == Try.pinned.checked.prog.mapsAmong Try.f13.resultTypes.toList) && (Rows.fracOverRow.loops == (Try.f13.params.toList ++ Rows.fracOverSpec.plain.varTypes Try.pinned.checked.prog).any (Try.pinned.checked.prog.loopsFrom ·)) && (Rows.fracOverRow.wideKeys == (Try.f13.params.toList ++ Rows.fracOverSpec.plain.varTypes Try.pinned.checked.prog ++ Try.f13.resultTypes.toList).any (Try.pinned.checked.prog.wideKeysFrom ·)) && Rows.fracOverSpec.vars.all (Try.pinned.checked.prog.varReadable ·) && Try.f13.resultTypes.all (fun t => Try.pinned.checked.prog.readableRec t && decide (t < Try.pinned.checked.prog.types.size)) && (Rows.fracOverRow.ifacesOut == Try.f13.resultTypes.toList.any (Try.pinned.checked.prog.ifacesRec ·)) && (Rows.fracOverRow.loopsOut == Try.f13.resultTypes.toList.any (Try.pinned.checked.prog.loopsFrom ·))) = true := by kernel_rfl
theorem fracOver_g6 : ((Rows.fracOverRow.plainKeys == Try.pinned.checked.prog.plainKeys) && Rows.fracOverRow.shortTexts.isNone && (Rows.fracOverRow.kinds == (if Rows.fracOverRow.domain.isEmpty then [] else Try.f13.params.toList.map fun t => match Try.pinned.checked.prog.underlying t with | some (.int k) => some k | _ => none)) && (Rows.fracOverRow.pinned == Rows.fracOverRow.pinnedBy) && (Rows.fracOverRow.veiled == (Try.f13.params.toList ++ Rows.fracOverSpec.plain.varTypes Try.pinned.checked.prog ++ Try.f13.resultTypes.toList).any (Try.pinned.checked.prog.veiledRec ·)) && Rows.fracOverRow.veiledFits Try.pinned.checked.prog Try.f13.params.toList (Try.f13.params.toList ++ Rows.fracOverSpec.plain.varTypes Try.pinned.checked.prog ++ Try.f13.resultTypes.toList)) = true := by kernel_rfl

set_option maxRecDepth 100000 in
/-- For every input, FracOver returns true and its arguments read as they did: over another weight the value is not less, and by less than one over that more. -/
theorem fracOver_holds : Rows.FracOverSaid :=
  OpenClaim.holds_of_wide 13 Try.f13 rfl rfl rfl rfl rfl rfl rfl ⟨rfl, rfl, rfl, rfl, rfl⟩ rfl rfl rfl rfl rfl (by kernel_rfl) Try.func13 (joined_of entered rfl rfl laid fracOver_g3 fracOver_g4 fracOver_g5 fracOver_g6)
    (of_decide_eq_true (by kernel_rfl)) (by unfold Func.isWrapper; first | (rw [if_pos (by decide +kernel)]; kernel_rfl) | (rw [if_neg (by decide +kernel)]; exact ⟨rfl, rfl⟩))
    (fun os started H enc _ => fracOver_lifted os started H enc)
#print axioms fracOver_holds
end Go.Proofs.Ytdfkcijholopoaa
