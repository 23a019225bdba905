/- For every input, WideDivs returns true and its arguments read as they did: quotients, and products over a number rounded up, are those that the reference computes bit by bit. -/
import Derived.Test.YtdfkcijholopoaaRows
import Derived.Test.YtdfkcijholopoaaBg
import Derived.Test.YtdfkcijholopoaaFacts
import Derived.OpenShut
import Derived.ChangeOld
import Derived.Below
namespace Go.Proofs.Ytdfkcijholopoaa
open Go.ChangeShapes Go.WideShapes Go.ChangeAt Go.RowKit
open Vm
set_option linter.unusedVariables false

set_option maxRecDepth 100000 in
theorem wideDivs_lifted (os : Os) (started : os.Started) (H : Type) (enc : TypeId × Value → H) :
    ReturnsInHanded {} Try.checked os 3 .any (Rows.wideDivsSpec.pre6 enc Try.prog Try.f3 Rows.wideDivsRow.domain false) (Rows.wideDivsSpec.post enc Try.prog Try.f3 false true false false) := by
  refine returnsInHanded_of_change (C := Try.checked) own started (by kernel_rfl) Try.func3
    (ChangeSpec.witness6 (enc := enc) (C := Try.checked) false ⟨#[], #[.agg #[.int .u64 0, .int .u64 0], .int .u64 0, .int .u64 0], []⟩ 8 (by kernel_rfl) (by kernel_rfl) (by kernel_rfl) (by kernel_rfl)) ?_
  intro W base args ds gs before hval0 hW hcnd _
  have hval : ∀ (j : Nat) t v, Try.f3.params[j]? = some t → args[j]? = some v → Value.okWide Try.prog W .any base t v := hval0
  have hW' := hW
  obtain ⟨p, q, hA0, hV, rfl, hfz, hnd⟩ := hW
  have hA : DataW.TrodAll enc Try.prog W 0 (fun _ => true) true Try.f3.params.toList args.toList ds p := hA0
  rw [Try.params3] at hA hval
  obtain ⟨v0, vs0, d0, ds0, p0, q0, hargs, rfl, rfl, h0, r0⟩ := trodAll_cons hA
  obtain ⟨v1, vs1, d1, ds1, p1, q1, rfl, rfl, rfl, h1, r1⟩ := trodAll_cons r0
  obtain ⟨v2, vs2, d2, ds2, p2, q2, rfl, rfl, rfl, h2, r2⟩ := trodAll_cons r1
  obtain ⟨rfl, rfl, rfl⟩ := trodAll_nil r2
  obtain rfl : args = #[v0, v1, v2] := by cases args; simp_all
  obtain ⟨rfl, rfl⟩ := trodVars_none hV
  have k0 := h0
  have lt0 : ∀ x ∈ p0, x.block < W.heap.size := by obtain ⟨m, hm⟩ := k0; exact DataW.trod_lt m _ _ _ hm
  have k1 := h1
  have lt1 : ∀ x ∈ p1, x.block < W.heap.size := by obtain ⟨m, hm⟩ := k1; exact DataW.trod_lt m _ _ _ hm
  have k2 := h2
  have lt2 : ∀ x ∈ p2, x.block < W.heap.size := by obtain ⟨m, hm⟩ := k2; exact DataW.trod_lt m _ _ _ hm
  obtain ⟨n0, hn0, rfl⟩ := open_wide (hval 0 24 v0 rfl rfl) h0
  obtain ⟨n1, hn1, rfl⟩ := open_u64 (hval 1 22 v1 rfl rfl) h1
  obtain ⟨n2, hn2, rfl⟩ := open_u64 (hval 2 22 v2 rfl rfl) h2
  clear hA0 hval0
  refine ((p3 hn0 hn1 hn2).calls W).mono fun e W' ⟨he, bel⟩ => ?_
  subst he
  exact ⟨_, rfl, _, _, _, [], _, [], hW', trodAll_mk1 (shut_bool Try.underlying4 _), (trodAll_cons_mk (Below.trod laidOut (by kernel_rfl) (of_decide_eq_true (by kernel_rfl)) k0 bel lt0) (trodAll_cons_mk (Below.trod laidOut (by kernel_rfl) (of_decide_eq_true (by kernel_rfl)) k1 bel lt1) (trodAll_cons_mk (Below.trod laidOut (by kernel_rfl) (of_decide_eq_true (by kernel_rfl)) k2 bel lt2) trodAll_mk0))), rfl, bel.frame _, fun h => by cases h⟩

theorem wideDivs_g3 : (Rows.wideDivsRow.wf (OpenSpec.ofChange Rows.wideDivsSpec) && Try.f3.params.all (Try.pinned.checked.prog.readableRec ·) && namedTie Try.pinned.checked.prog Rows.wideDivsRow.named Rows.wideDivsSpec.vars && (Rows.wideDivsRow.stops == []) && (Rows.wideDivsRow.knobs == [])) = true := by kernel_rfl
theorem wideDivs_g4 : ((Rows.wideDivsRow.inPlace == Try.pinned.checked.prog.inPlace 3) && (Rows.wideDivsRow.unfollowed == Try.pinned.checked.prog.unfollowed 3) && (Rows.wideDivsRow.recurses == Try.pinned.checked.prog.recurses 3) && (Rows.wideDivsRow.named == Try.pinned.checked.prog.varsNamed 3)) = true := by kernel_rfl
theorem wideDivs_g5 : ((Rows.wideDivsRow.maps == (Try.f3.params.toList ++ Rows.wideDivsSpec.plain.varTypes Try.pinned.checked.prog).any (Try.pinned.checked.prog.mapsRec ·)) && (Rows.wideDivsRow.ifaces == (Try.f3.params.toList ++ Rows.wideDivsSpec.plain.varTypes Try.pinned.checked.prog).any (Try.pinned.checked.prog.ifacesRec ·)) && (Rows.wideDivsRow.mapsOut == Try.pinned.checked.prog.mapsAmong Try.f3.resultTypes.toList) && (Rows.wideDivsRow.loops == (Try.f3.params.toList ++ Rows.wideDivsSpec.plain.varTypes Try.pinned.checked.prog).any (Try.pinned.checked.prog.loopsFrom ·)) && (Rows.wideDivsRow.wideKeys == (Try.f3.params.toList ++ Rows.wideDivsSpec.plain.varTypes Try.pinned.checked.prog ++ Try.f3.resultTypes.toList).any (Try.pinned.checked.prog.wideKeysFrom ·)) && Rows.wideDivsSpec.vars.all (Try.pinned.checked.prog.varReadable ·) && Try.f3.resultTypes.all (fun t => Try.pinned.checked.prog.readableRec t && decide (t < Try.pinned.checked.prog.types.size)) && (Rows.wideDivsRow.ifacesOut == Try.f3.resultTypes.toList.any (Try.pinned.checked.prog.ifacesRec ·)) && (Rows.wideDivsRow.loopsOut == Try.f3.resultTypes.toList.any (Try.pinned.checked.prog.loopsFrom ·))) = true := by kernel_rfl
theorem wideDivs_g6 : ((Rows.wideDivsRow.plainKeys == Try.pinned.checked.prog.plainKeys) && Rows.wideDivsRow.shortTexts.isNone && (Rows.wideDivsRow.kinds == (if Rows.wideDivsRow.domain.isEmpty then [] else Try.f3.params.toList.map fun t => match Try.pinned.checked.prog.underlying t with | some (.int k) => some k | _ => none)) && (Rows.wideDivsRow.pinned == Rows.wideDivsRow.pinnedBy) && (Rows.wideDivsRow.veiled == (Try.f3.params.toList ++ Rows.wideDivsSpec.plain.varTypes Try.pinned.checked.prog ++ Try.f3.resultTypes.toList).any (Try.pinned.checked.prog.veiledRec ·)) && Rows.wideDivsRow.veiledFits Try.pinned.checked.prog Try.f3.params.toList (Try.f3.params.toList ++ Rows.wideDivsSpec.plain.varTypes Try.pinned.checked.prog ++ Try.f3.resultTypes.toList)) = true := by kernel_rfl

set_option maxRecDepth 100000 in
/-- For every input, WideDivs returns true and its arguments read as they did: quotients, and products over a number rounded up, are those that the reference computes bit by bit. -/
theorem wideDivs_holds : Rows.WideDivsSaid :=
  OpenClaim.holds_of_wide 3 Try.f3 rfl rfl rfl rfl rfl rfl rfl ⟨rfl, rfl, rfl, rfl, rfl⟩ rfl rfl rfl rfl rfl (by kernel_rfl) Try.func3 (joined_of entered rfl rfl laid wideDivs_g3 wideDivs_g4 wideDivs_g5 wideDivs_g6)
    (of_decide_eq_true (by kernel_rfl)) (by unfold Func.isWrapper; first | (rw [if_pos (by decide +kernel)]; kernel_rfl) | (rw [if_neg (by decide +kernel)]; exact ⟨rfl, rfl⟩))
    (fun os started H enc _ => wideDivs_lifted os started H enc)
#print axioms wideDivs_holds
end Go.Proofs.Ytdfkcijholopoaa
