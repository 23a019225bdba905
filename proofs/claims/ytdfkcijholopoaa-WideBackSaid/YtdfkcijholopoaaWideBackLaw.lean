/- For every input, WideBack returns true and its arguments read as they did: the quotient times the divisor, and the rest, is the number; what is added is taken away again; digits and numbers lead to one another. -/
import Derived.Test.YtdfkcijholopoaaRows
import Derived.Test.YtdfkcijholopoaaSe
import Derived.Test.YtdfkcijholopoaaFacts
import Derived.OpenShut
import Derived.ChangeOld
import Derived.Below
namespace Go.Proofs.Ytdfkcijholopoaa
open Go.ChangeShapes Go.WideShapes Go.ChangeAt Go.RowKit
open Vm
set_option linter.unusedVariables false

set_option maxRecDepth 100000 in
theorem wideBack_lifted (os : Os) (started : os.Started) (H : Type) (enc : TypeId × Value → H) :
    ReturnsInHanded {} Try.checked os 10 .any (Rows.wideBackSpec.pre6 enc Try.prog Try.f10 Rows.wideBackRow.domain false) (Rows.wideBackSpec.post enc Try.prog Try.f10 false true false false) := by
  refine returnsInHanded_of_change (C := Try.checked) own started (by kernel_rfl) Try.func10
    (ChangeSpec.witness6 (enc := enc) (C := Try.checked) false ⟨#[], #[.agg #[.int .u64 0, .int .u64 0], .agg #[.int .u64 0, .int .u64 0], .int .u64 0], []⟩ 8 (by kernel_rfl) (by kernel_rfl) (by kernel_rfl) (by kernel_rfl)) ?_
  intro W base args ds gs before hval0 hW hcnd _
  have hval : ∀ (j : Nat) t v, Try.f10.params[j]? = some t → args[j]? = some v → Value.okWide Try.prog W .any base t v := hval0
  have hW' := hW
  obtain ⟨p, q, hA0, hV, rfl, hfz, hnd⟩ := hW
  have hA : DataW.TrodAll enc Try.prog W 0 (fun _ => true) true Try.f10.params.toList args.toList ds p := hA0
  rw [Try.params10] at hA hval
  obtain ⟨v0, vs0, d0, ds0, p0, q0, hargs, rfl, rfl, h0, r0⟩ := trodAll_cons hA
  obtain ⟨v1, vs1, d1, ds1, p1, q1, rfl, rfl, rfl, h1, r1⟩ := trodAll_cons r0
  obtain ⟨v2, vs2, d2, ds2, p2, q2, rfl, rfl, rfl, h2, r2⟩ := trodAll_cons r1
  obtain ⟨rfl, rfl, rfl⟩ := trodAll_nil r2
  obtain rfl : args = #[v0, v1, v2] := by cases args; simp_all
  obtain ⟨rfl, rfl⟩ := trodVars_none hV
  have k0 := h0
  have lt0 : ∀ x ∈ p0, x.block < W.heap.size := by obtain ⟨m, hm⟩ := k0; exact DataW.trod_lt m _ _ _ hm
  have k1 := h1
  have lt1 : ∀ x ∈ p1, x.block < W.heap.size := by obtain ⟨m, hm⟩ := k1; exact DataW.trod_lt m _ _ _ hm
  have k2 := h2
  have lt2 : ∀ x ∈ p2, x.block < W.heap.size := by obtain ⟨m, hm⟩ := k2; exact DataW.trod_lt m _ _ _ hm
  obtain ⟨n0, hn0, rfl⟩ := open_wide (hval 0 24 v0 rfl rfl) h0
  obtain ⟨n1, hn1, rfl⟩ := open_wide (hval 1 24 v1 rfl rfl) h1
  obtain ⟨n2, hn2, rfl⟩ := open_u64 (hval 2 22 v2 rfl rfl) h2
  clear hA0 hval0
  refine ((p10 hn0 hn1 hn2).calls W).mono fun e W' ⟨he, bel⟩ => ?_
  subst he
  exact ⟨_, rfl, _, _, _, [], _, [], hW', trodAll_mk1 (shut_bool Try.underlying4 _), (trodAll_cons_mk (Below.trod laidOut (by kernel_rfl) (of_decide_eq_true (by kernel_rfl)) k0 bel lt0) (trodAll_cons_mk (Below.trod laidOut (by kernel_rfl) (of_decide_eq_true (by kernel_rfl)) k1 bel lt1) (trodAll_cons_mk (Below.trod laidOut (by kernel_rfl) (of_decide_eq_true (by kernel_rfl)) k2 bel lt2) trodAll_mk0))), rfl, bel.frame _, fun h => by cases h⟩

theorem wideBack_g3 : (Rows.wideBackRow.wf (OpenSpec.ofChange Rows.wideBackSpec) && Try.f10.params.all (Try.pinned.checked.prog.readableRec ·) && namedTie Try.pinned.checked.prog Rows.wideBackRow.named Rows.wideBackSpec.vars && (Rows.wideBackRow.stops == []) && (Rows.wideBackRow.knobs == [])) = true := by kernel_rfl
theorem wideBack_g4 : ((Rows.wideBackRow.inPlace == Try.pinned.checked.prog.inPlace 10) && (Rows.wideBackRow.unfollowed == Try.pinned.checked.prog.unfollowed 10) && (Rows.wideBackRow.recurses == Try.pinned.checked.prog.recurses 10) && (Rows.wideBackRow.named == Try.pinned.checked.prog.varsNamed 10)) = true := by kernel_rfl
theorem wideBack_g5 : ((Rows.wideBackRow.maps == (Try.f10.params.toList ++ Rows.wideBackSpec.plain.varTypes Try.pinned.checked.prog).any (Try.pinned.checked.prog.mapsRec ·)) && (Rows.wideBackRow.ifaces == (Try.f10.params.toList ++ Rows.wideBackSpec.plain.varTypes Try.pinned.checked.prog).any (Try.pinned.checked.prog.ifacesRec ·)) && (Rows.wideBackRow.mapsOut == Try.pinned.checked.prog.mapsAmong Try.f10.resultTypes.toList) && (Rows.wideBackRow.loops == (Try.f10.params.toList ++ Rows.wideBackSpec.plain.varTypes Try.pinned.checked.prog).any (Try.pinned.checked.prog.loopsFrom ·)) && (Rows.wideBackRow.wideKeys == (Try.f10.params.toList ++ Rows.wideBackSpec.plain.varTypes Try.pinned.checked.prog ++ Try.f10.resultTypes.toList).any (Try.pinned.checked.prog.wideKeysFrom ·)) && Rows.wideBackSpec.vars.all (Try.pinned.checked.prog.varReadable ·) && Try.f10.resultTypes.all (fun t => Try.pinned.checked.prog.readableRec t && decide (t < Try.pinned.checked.prog.types.size)) && (Rows.wideBackRow.ifacesOut == Try.f10.resultTypes.toList.any (Try.pinned.checked.prog.ifacesRec ·)) && (Rows.wideBackRow.loopsOut == Try.f10.resultTypes.toList.any (Try.pinned.checked.prog.loopsFrom ·))) = true := by kernel_rfl
theorem wideBack_g6 : ((Rows.wideBackRow.plainKeys == Try.pinned.checked.prog.plainKeys) && Rows.wideBackRow.shortTexts.isNone && (Rows.wideBackRow.kinds == (if Rows.wideBackRow.domain.isEmpty then [] else Try.f10.params.toList.map fun t => match Try.pinned.checked.prog.underlying t with | some (.int k) => some k | _ => none)) && (Rows.wideBackRow.pinned == Rows.wideBackRow.pinnedBy) && (Rows.wideBackRow.veiled == (Try.f10.params.toList ++ Rows.wideBackSpec.plain.varTypes Try.pinned.checked.prog ++ Try.f10.resultTypes.toList).any (Try.pinned.checked.prog.veiledRec ·)) && Rows.wideBackRow.veiledFits Try.pinned.checked.prog Try.f10.params.toList (Try.f10.params.toList ++ Rows.wideBackSpec.plain.varTypes Try.pinned.checked.prog ++ Try.f10.resultTypes.toList)) = true := by kernel_rfl

set_option maxRecDepth 100000 in
/-- For every input, WideBack returns true and its arguments read as they did: the quotient times the divisor, and the rest, is the number; what is added is taken away again; digits and numbers lead to one another. -/
theorem wideBack_holds : Rows.WideBackSaid :=
  OpenClaim.holds_of_wide 10 Try.f10 rfl rfl rfl rfl rfl rfl rfl ⟨rfl, rfl, rfl, rfl, rfl⟩ rfl rfl rfl rfl rfl (by kernel_rfl) Try.func10 (joined_of entered rfl rfl laid wideBack_g3 wideBack_g4 wideBack_g5 wideBack_g6)
    (of_decide_eq_true (by kernel_rfl)) (by unfold Func.isWrapper; first | (rw [if_pos (by decide +kernel)]; kernel_rfl) | (rw [if_neg (by decide +kernel)]; exact ⟨rfl, rfl⟩))
    (fun os started H enc _ => wideBack_lifted os started H enc)
#print axioms wideBack_holds
end Go.Proofs.Ytdfkcijholopoaa
