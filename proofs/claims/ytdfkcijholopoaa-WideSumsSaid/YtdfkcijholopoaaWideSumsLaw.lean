/- For every input, WideSums returns true and its arguments read as they did: sums, differences, products and the order of numbers of 128 bits are those that the reference computes bit by bit. -/
import Derived.Test.YtdfkcijholopoaaRows
import Derived.Test.YtdfkcijholopoaaBi
import Derived.Test.YtdfkcijholopoaaFacts
import Derived.OpenShut
import Derived.ChangeOld
import Derived.Below
namespace Go.Proofs.Ytdfkcijholopoaa
open Go.ChangeShapes Go.WideShapes Go.ChangeAt Go.RowKit
open Vm
set_option linter.unusedVariables false

set_option maxRecDepth 100000 in
theorem wideSums_lifted (os : Os) (started : os.Started) (H : Type) (enc : TypeId × Value → H) :
    ReturnsInHanded {} Try.checked os 6 .any (Rows.wideSumsSpec.pre6 enc Try.prog Try.f6 Rows.wideSumsRow.domain false) (Rows.wideSumsSpec.post enc Try.prog Try.f6 false true false false) := by
  refine returnsInHanded_of_change (C := Try.checked) own started (by kernel_rfl) Try.func6
    (ChangeSpec.witness6 (enc := enc) (C := Try.checked) false ⟨#[], #[.agg #[.int .u64 0, .int .u64 0], .agg #[.int .u64 0, .int .u64 0]], []⟩ 8 (by kernel_rfl) (by kernel_rfl) (by kernel_rfl) (by kernel_rfl)) ?_
  intro W base args ds gs before hval0 hW hcnd _
  have hval : ∀ (j : Nat) t v, Try.f6.params[j]? = some t → args[j]? = some v → Value.okWide Try.prog W .any base t v := hval0
  have hW' := hW
  obtain ⟨p, q, hA0, hV, rfl, hfz, hnd⟩ := hW
  have hA : DataW.TrodAll enc Try.prog W 0 (fun _ => true) true Try.f6.params.toList args.toList ds p := hA0
  rw [Try.params6] at hA hval
  obtain ⟨v0, vs0, d0, ds0, p0, q0, hargs, rfl, rfl, h0, r0⟩ := trodAll_cons hA
  obtain ⟨v1, vs1, d1, ds1, p1, q1, rfl, rfl, rfl, h1, r1⟩ := trodAll_cons r0
  obtain ⟨rfl, rfl, rfl⟩ := trodAll_nil r1
  obtain rfl : args = #[v0, v1] := by cases args; simp_all
  obtain ⟨rfl, rfl⟩ := trodVars_none hV
  have k0 := h0
  have lt0 : ∀ x ∈ p0, x.block < W.heap.size := by obtain ⟨m, hm⟩ := k0; exact DataW.trod_lt m _ _ _ hm
  have k1 := h1
  have lt1 : ∀ x ∈ p1, x.block < W.heap.size := by obtain ⟨m, hm⟩ := k1; exact DataW.trod_lt m _ _ _ hm
  obtain ⟨n0, hn0, rfl⟩ := open_wide (hval 0 24 v0 rfl rfl) h0
  obtain ⟨n1, hn1, rfl⟩ := open_wide (hval 1 24 v1 rfl rfl) h1
  clear hA0 hval0
  refine ((p6 hn0 hn1).calls W).mono fun e W' ⟨he, bel⟩ => ?_
  subst he
  exact ⟨_, rfl, _, _, _, [], _, [], hW', trodAll_mk1 (shut_bool Try.underlying4 _), (trodAll_cons_mk (Below.trod laidOut (by kernel_rfl) (of_decide_eq_true (by kernel_rfl)) k0 bel lt0) (trodAll_cons_mk (Below.trod laidOut (by kernel_rfl) (of_decide_eq_true (by kernel_rfl)) k1 bel lt1) trodAll_mk0)), rfl, bel.frame _, fun h => by cases h⟩

theorem wideSums_g3 : (Rows.wideSumsRow.wf (OpenSpec.ofChange Rows.wideSumsSpec) && Try.f6.params.all (Try.pinned.checked.prog.readableRec ·) && namedTie Try.pinned.checked.prog Rows.wideSumsRow.named Rows.wideSumsSpec.vars && (Rows.wideSumsRow.stops == []) && (Rows.wideSumsRow.knobs == [])) = true := by kernel_rfl
theorem wideSums_g4 : ((Rows.wideSumsRow.inPlace == Try.pinned.checked.prog.inPlace 6) && (Rows.wideSumsRow.unfollowed == Try.pinned.checked.prog.unfollowed 6) && (Rows.wideSumsRow.recurses == Try.pinned.checked.prog.recurses 6) && (Rows.wideSumsRow.named == Try.pinned.checked.prog.varsNamed 6)) = true := by kernel_rfl
theorem wideSums_g5 : ((Rows.wideSumsRow.maps == (Try.f6.params.toList ++ Rows.wideSumsSpec.plain.varTypes Try.pinned.checked.prog).any (Try.pinned.checked.prog.mapsRec ·)) && (Rows.wideSumsRow.ifaces == (Try.f6.params.toList ++ Rows.wideSumsSpec.plain.varTypes Try.pinned.checked.prog).any (Try.pinned.checked.prog.ifacesRec ·)) && (Rows.wideSumsRow.mapsOut == Try.pinned.checked.prog.mapsAmong Try.f6.resultTypes.toList) && (Rows.wideSumsRow.loops == (Try.f6.params.toList ++ Rows.wideSumsSpec.plain.varTypes Try.pinned.checked.prog).any (Try.pinned.checked.prog.loopsFrom ·)) && (Rows.wideSumsRow.wideKeys == (Try.f6.params.toList ++ Rows.wideSumsSpec.plain.varTypes Try.pinned.checked.prog ++ Try.f6.resultTypes.toList).any (Try.pinned.checked.prog.wideKeysFrom ·)) && Rows.wideSumsSpec.vars.all (Try.pinned.checked.prog.varReadable ·) && Try.f6.resultTypes.all (fun t => Try.pinned.checked.prog.readableRec t && decide (t < Try.pinned.checked.prog.types.size)) && (Rows.wideSumsRow.ifacesOut == Try.f6.resultTypes.toList.any (Try.pinned.checked.prog.ifacesRec ·)) && (Rows.wideSumsRow.loopsOut == Try.f6.resultTypes.toList.any (Try.pinned.checked.prog.loopsFrom ·))) = true := by kernel_rfl
theorem wideSums_g6 : ((Rows.wideSumsRow.plainKeys == Try.pinned.checked.prog.plainKeys) && Rows.wideSumsRow.shortTexts.isNone && (Rows.wideSumsRow.kinds == (if Rows.wideSumsRow.domain.isEmpty then [] else Try.f6.params.toList.map fun t => match Try.pinned.checked.prog.underlying t with | some (.int k) => some k | _ => none)) && (Rows.wideSumsRow.pinned == Rows.wideSumsRow.pinnedBy) && (Rows.wideSumsRow.veiled == (Try.f6.params.toList ++ Rows.wideSumsSpec.plain.varTypes Try.pinned.checked.prog ++ Try.f6.resultTypes.toList).any (Try.pinned.checked.prog.veiledRec ·)) && Rows.wideSumsRow.veiledFits Try.pinned.checked.prog Try.f6.params.toList (Try.f6.params.toList ++ Rows.wideSumsSpec.plain.varTypes Try.pinned.checked.prog ++ Try.f6.resultTypes.toList)) = true := by kernel_rfl

set_option maxRecDepth 100000 in
/-- For every input, WideSums returns true and its arguments read as they did: sums, differences, products and the order of numbers of 128 bits are those that the reference computes bit by bit. -/
theorem wideSums_holds : Rows.WideSumsSaid :=
  OpenClaim.holds_of_wide 6 Try.f6 rfl rfl rfl rfl rfl rfl rfl ⟨rfl, rfl, rfl, rfl, rfl⟩ rfl rfl rfl rfl rfl (by kernel_rfl) Try.func6 (joined_of entered rfl rfl laid wideSums_g3 wideSums_g4 wideSums_g5 wideSums_g6)
    (of_decide_eq_true (by kernel_rfl)) (by unfold Func.isWrapper; first | (rw [if_pos (by decide +kernel)]; kernel_rfl) | (rw [if_neg (by decide +kernel)]; exact ⟨rfl, rfl⟩))
    (fun os started H enc _ => wideSums_lifted os started H enc)
#print axioms wideSums_holds
end Go.Proofs.Ytdfkcijholopoaa
