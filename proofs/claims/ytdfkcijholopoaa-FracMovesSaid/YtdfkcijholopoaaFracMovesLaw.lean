/- For every input, FracMoves returns true and its arguments read as they did: a fraction so much more, so much less, over another weight, is what the reference computes, or it is refused. -/
import Derived.Test.YtdfkcijholopoaaRows
import Derived.Test.YtdfkcijholopoaaFf
import Derived.Test.YtdfkcijholopoaaOpenF
import Derived.Test.YtdfkcijholopoaaFacts
import Derived.OpenShut
import Derived.ChangeOld
import Derived.Below
namespace Go.Proofs.Ytdfkcijholopoaa
open Go.ChangeShapes Go.WideShapes Go.ChangeAt Go.RowKit
open Vm
set_option linter.unusedVariables false

set_option maxRecDepth 100000 in
theorem fracMoves_lifted (os : Os) (started : os.Started) (H : Type) (enc : TypeId × Value → H) :
    ReturnsInHanded {} Try.checked os 14 .any (Rows.fracMovesSpec.pre6 enc Try.prog Try.f14 Rows.fracMovesRow.domain false) (Rows.fracMovesSpec.post enc Try.prog Try.f14 false true false false) := by
  refine returnsInHanded_of_change (C := Try.checked) own started (by kernel_rfl) Try.func14
    (ChangeSpec.witness6 (enc := enc) (C := Try.checked) false ⟨#[], #[.agg #[.int .u64 0, .int .u64 0, .int .u64 0], .int .u64 0, .int .u64 0], []⟩ 8 (by kernel_rfl) (by kernel_rfl) (by kernel_rfl) (by kernel_rfl)) ?_
  intro W base args ds gs before hval0 hW hcnd _
  have hval : ∀ (j : Nat) t v, Try.f14.params[j]? = some t → args[j]? = some v → Value.okWide Try.prog W .any base t v := hval0
  have hW' := hW
  obtain ⟨p, q, hA0, hV, rfl, hfz, hnd⟩ := hW
  have hA : DataW.TrodAll enc Try.prog W 0 (fun _ => true) true Try.f14.params.toList args.toList ds p := hA0
  rw [Try.params14] at hA hval
  obtain ⟨v0, vs0, d0, ds0, p0, q0, hargs, rfl, rfl, h0, r0⟩ := trodAll_cons hA
  obtain ⟨v1, vs1, d1, ds1, p1, q1, rfl, rfl, rfl, h1, r1⟩ := trodAll_cons r0
  obtain ⟨v2, vs2, d2, ds2, p2, q2, rfl, rfl, rfl, h2, r2⟩ := trodAll_cons r1
  obtain ⟨rfl, rfl, rfl⟩ := trodAll_nil r2
  obtain rfl : args = #[v0, v1, v2] := by cases args; simp_all
  obtain ⟨rfl, rfl⟩ := trodVars_none hV
  have k0 := h0
  have lt0 : ∀ x ∈ p0, x.block < W.heap.size := by obtain ⟨m, hm⟩ := k0; exact DataW.trod_lt m _ _ _ hm
  have k1 := h1
  have lt1 : ∀ x ∈ p1, x.block < W.heap.size := by obtain ⟨m, hm⟩ := k1; exact DataW.trod_lt m _ _ _ hm
  have k2 := h2
  have lt2 : ∀ x ∈ p2, x.block < W.heap.size := by obtain ⟨m, hm⟩ := k2; exact DataW.trod_lt m _ _ _ hm
  obtain ⟨n0, w0, hn0, hw0, rfl⟩ := open_frac (hval 0 58 v0 rfl rfl) h0
  obtain ⟨n1, hn1, rfl⟩ := open_u64 (hval 1 22 v1 rfl rfl) h1
  obtain ⟨n2, hn2, rfl⟩ := open_u64 (hval 2 22 v2 rfl rfl) h2
  clear hA0 hval0
  refine ((p14 hn1).calls W).mono fun e W' ⟨he, bel⟩ => ?_
  subst he
  exact ⟨_, rfl, _, _, _, [], _, [], hW', trodAll_mk1 (shut_bool Try.underlying4 _), (trodAll_cons_mk (Below.trod laidOut (by kernel_rfl) (of_decide_eq_true (by kernel_rfl)) k0 bel lt0) (trodAll_cons_mk (Below.trod laidOut (by kernel_rfl) (of_decide_eq_true (by kernel_rfl)) k1 bel lt1) (trodAll_cons_mk (Below.trod laidOut (by kernel_rfl) (of_decide_eq_true (by kernel_rfl)) k2 bel lt2) trodAll_mk0))), rfl, bel.frame _, fun h => by cases h⟩

theorem fracMoves_g3 : (Rows.fracMovesRow.wf (OpenSpec.ofChange Rows.fracMovesSpec) && Try.f14.params.all (Try.pinned.checked.prog.readableRec ·) && namedTie Try.pinned.checked.prog Rows.fracMovesRow.named Rows.fracMovesSpec.vars && (Rows.fracMovesRow.stops == []) && (Rows.fracMovesRow.knobs == [])) = true := by kernel_rfl
theorem fracMoves_g4 : ((Rows.fracMovesRow.inPlace == Try.pinned.checked.prog.inPlace 14) && (Rows.fracMovesRow.unfollowed == Try.pinned.checked.prog.unfollowed 14) && (Rows.fracMovesRow.recurses == Try.pinned.checked.prog.recurses 14) && (Rows.fracMovesRow.named == Try.pinned.checked.prog.varsNamed 14)) = true := by kernel_rfl
theorem fracMoves_g5 : ((Rows.fracMovesRow.maps == (Try.f14.params.toList ++ Rows.fracMovesSpec.plain.varTypes Try.pinned.checked.prog).any (Try.pinned.checked.prog.mapsRec ·)) && (Rows.fracMovesRow.ifaces == (Try.f14.params.toList ++ Rows.fracMovesSpec.plain.varTypes Try.pinned.checked.prog).any (Try.pinned.checked.prog.ifacesRec ·)) && (Rows.fracMovesRow.mapsOut == Try.pinned.checked.prog.mapsAmong Try.f14.resultTypes.toList) && (Rows.fracMovesRow.loops == (Try.f14.params.toList ++ Rows.fracMovesSpec.plain.varTypes Try.pinned.checked.prog).any (Try.pinned.checked.prog.loopsFrom ·)) && (Rows.fracMovesRow.wideKeys == (Try.f14.params.toList ++ Rows.fracMovesSpec.plain.varTypes Try.pinned.checked.prog ++ Try.f14.resultTypes.toList).any (Try.pinned.checked.prog.wideKeysFrom ·)) && Rows.fracMovesSpec.vars.all (Try.pinned.checked.prog.varReadable ·) && Try.f14.resultTypes.all (fun t => Try.pinned.checked.prog.readableRec t && decide (t < Try.pinned.checked.prog.types.size)) && (Rows.fracMovesRow.ifacesOut == Try.f14.resultTypes.toList.any (Try.pinned.checked.prog.ifacesRec ·)) && (Rows.fracMovesRow.loopsOut == Try.f14.resultTypes.toList.any (Try.pinned.checked.prog.loopsFrom ·))) = true := by kernel_rfl
theorem fracMoves_g6 : ((Rows.fracMovesRow.plainKeys == Try.pinned.checked.prog.plainKeys) && Rows.fracMovesRow.shortTexts.isNone && (Rows.fracMovesRow.kinds == (if Rows.fracMovesRow.domain.isEmpty then [] else Try.f14.params.toList.map fun t => match Try.pinned.checked.prog.underlying t with | some (.int k) => some k | _ => none)) && (Rows.fracMovesRow.pinned == Rows.fracMovesRow.pinnedBy) && (Rows.fracMovesRow.veiled == (Try.f14.params.toList ++ Rows.fracMovesSpec.plain.varTypes Try.pinned.checked.prog ++ Try.f14.resultTypes.toList).any (Try.pinned.checked.prog.veiledRec ·)) && Rows.fracMovesRow.veiledFits Try.pinned.checked.prog Try.f14.params.toList (Try.f14.params.toList ++ Rows.fracMovesSpec.plain.varTypes Try.pinned.checked.prog ++ Try.f14.resultTypes.toList)) = true := by kernel_rfl

set_option maxRecDepth 100000 in
/-- For every input, FracMoves returns true and its arguments read as they did: a fraction so much more, so much less, over another weight, is what the reference computes, or it is refused. -/
theorem fracMoves_holds : Rows.FracMovesSaid :=
  OpenClaim.holds_of_wide 14 Try.f14 rfl rfl rfl rfl rfl rfl rfl ⟨rfl, rfl, rfl, rfl, rfl⟩ rfl rfl rfl rfl rfl (by kernel_rfl) Try.func14 (joined_of entered rfl rfl laid fracMoves_g3 fracMoves_g4 fracMoves_g5 fracMoves_g6)
    (of_decide_eq_true (by kernel_rfl)) (by unfold Func.isWrapper; first | (rw [if_pos (by decide +kernel)]; kernel_rfl) | (rw [if_neg (by decide +kernel)]; exact ⟨rfl, rfl⟩))
    (fun os started H enc _ => fracMoves_lifted os started H enc)
#print axioms fracMoves_holds
end Go.Proofs.Ytdfkcijholopoaa
