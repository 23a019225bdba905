/- For every input, VtimeWeighs returns true and its arguments read as they did: weighed anew, a runner has that weight, and a time not less and by less than one over the weight more; weighed back, it is not below what it was. -/
import Derived.Test.YtdfkcijholopoaaRows
import Derived.Test.YtdfkcijholopoaaMgVtimeWeighs15
import Derived.Test.YtdfkcijholopoaaMg13
import Derived.Test.YtdfkcijholopoaaMgF
import Derived.OpenShut
import Derived.ChangeOld
import Derived.Below
namespace Go.Proofs.Ytdfkcijholopoaa
open Go.ChangeShapes Go.WideShapes Go.ChangeAt Go.RowKit
open Vm
set_option linter.unusedVariables false

set_option maxRecDepth 100000 in
theorem vtimeWeighs_lifted (os : Os) (started : os.Started) (H : Type) (enc : TypeId × Value → H) :
    ReturnsInHanded {} Try.checked os 17 .any (Rows.vtimeWeighsSpec.pre6 enc Try.prog Try.f17 Rows.vtimeWeighsRow.domain false) (Rows.vtimeWeighsSpec.post enc Try.prog Try.f17 false true false false) := by
  refine returnsInHanded_of_change (C := Try.checked) own started (by kernel_rfl) Try.func17
    (ChangeSpec.witness6 (enc := enc) (C := Try.checked) false ⟨#[], #[.agg #[.slice none 0 0], .int .i64 0, .agg #[.int .u64 0, .int .i64 0]], []⟩ 8 (by kernel_rfl) (by kernel_rfl) (by kernel_rfl) (by kernel_rfl)) ?_
  intro W base args ds gs before hval0 hW hcnd _
  have hval : ∀ (j : Nat) t v, Try.f17.params[j]? = some t → args[j]? = some v → Value.okWide Try.prog W .any base t v := hval0
  have hW' := hW
  obtain ⟨p, q, hA0, hV, rfl, hfz, hnd⟩ := hW
  have hA : DataW.TrodAll enc Try.prog W 0 (fun _ => true) true Try.f17.params.toList args.toList ds p := hA0
  rw [Try.params17] at hA hval
  obtain ⟨v0, vs0, d0, ds0, p0, q0, hargs, rfl, rfl, h0, r0⟩ := trodAll_cons hA
  obtain ⟨v1, vs1, d1, ds1, p1, q1, rfl, rfl, rfl, h1, r1⟩ := trodAll_cons r0
  obtain ⟨v2, vs2, d2, ds2, p2, q2, rfl, rfl, rfl, h2, r2⟩ := trodAll_cons r1
  obtain ⟨rfl, rfl, rfl⟩ := trodAll_nil r2
  obtain rfl : args = #[v0, v1, v2] := by cases args; simp_all
  obtain ⟨rfl, rfl⟩ := trodVars_none hV
  have k0 := h0
  have lt0 : ∀ x ∈ p0, x.block < W.heap.size := by obtain ⟨m, hm⟩ := k0; exact DataW.trod_lt m _ _ _ hm
  have k1 := h1
  have lt1 : ∀ x ∈ p1, x.block < W.heap.size := by obtain ⟨m, hm⟩ := k1; exact DataW.trod_lt m _ _ _ hm
  have k2 := h2
  have lt2 : ∀ x ∈ p2, x.block < W.heap.size := by obtain ⟨m, hm⟩ := k2; exact DataW.trod_lt m _ _ _ hm
  obtain ⟨n1, hn1, rfl⟩ := open_i64 (hval 1 3 v1 rfl rfl) h1
  obtain ⟨n2, w2, hn2, hw2, rfl⟩ := open_wt (hval 2 101 v2 rfl rfl) h2
  clear hA0 hval0
  have key : Calls Try.prog 17 #[v0, .int .i64 n1, .agg #[u64 n2, .int .i64 w2]] W (fun e w' => e = .returned (.bool true) ∧ Below W.heap.size W w') := by
    rcases open_queue (hval 0 55 v0 rfl rfl) h0 with rfl | ⟨b, o, cap, l, cur, tt, fz, rfl, hc, _, hq, hb, hcell⟩
    · exact (p17nil n1 n2 w2).calls W
    · refine ro_real (p17 l n1 n2 w2 cap hc) (fun k => if k = 0 then some (b, o) else none) (relL_cons (rel_agg1 (rel_slice rfl)) (relL_cons (.plain (by rfl)) (relL_cons (.plain (by rfl)) relL_nil))) (by simp) fun x hx => ?_
      simp only [List.mem_singleton] at hx
      subst hx
      exact ⟨rcs_plain l, b, o, cur, tt, fz, rfl, hb, hcell⟩
  refine key.mono fun e W' ⟨he, bel⟩ => ?_
  subst he
  exact ⟨_, rfl, _, _, _, [], _, [], hW', trodAll_mk1 (shut_bool Try.underlying4 _), (trodAll_cons_mk (Below.trod laidOut (by kernel_rfl) (of_decide_eq_true (by kernel_rfl)) k0 bel lt0) (trodAll_cons_mk (Below.trod laidOut (by kernel_rfl) (of_decide_eq_true (by kernel_rfl)) k1 bel lt1) (trodAll_cons_mk (Below.trod laidOut (by kernel_rfl) (of_decide_eq_true (by kernel_rfl)) k2 bel lt2) trodAll_mk0))), rfl, bel.frame _, fun h => by cases h⟩

theorem vtimeWeighs_g3 : (Rows.vtimeWeighsRow.wf (OpenSpec.ofChange Rows.vtimeWeighsSpec) && Try.f17.params.all (Try.pinned.checked.prog.readableRec ·) && namedTie Try.pinned.checked.prog Rows.vtimeWeighsRow.named Rows.vtimeWeighsSpec.vars && (Rows.vtimeWeighsRow.stops == []) && (Rows.vtimeWeighsRow.knobs == [])) = true := by kernel_rfl
theorem vtimeWeighs_g4 : ((Rows.vtimeWeighsRow.inPlace == Try.pinned.checked.prog.inPlace 17) && (Rows.vtimeWeighsRow.unfollowed == Try.pinned.checked.prog.unfollowed 17) && (Rows.vtimeWeighsRow.recurses == Try.pinned.checked.prog.recurses 17) && (Rows.vtimeWeighsRow.named == Try.pinned.checked.prog.varsNamed 17)) = true := by kernel_rfl
theorem vtimeWeighs_g5 : ((Rows.vtimeWeighsRow.maps == (Try.f17.params.toList ++ Rows.vtimeWeighsSpec.plain.varTypes Try.pinned.checked.prog).any (Try.pinned.checked.prog.mapsRec ·)) && (Rows.vtimeWeighsRow.ifaces == (Try.f17.params.toList ++ Rows.vtimeWeighsSpec.plain.varTypes Try.pinned.checked.prog).any (Try.pinned.checked.prog.ifacesRec ·)) && (Rows.vtimeWeighsRow.mapsOut == Try.pinned.checked.prog.mapsAmong Try.f17.resultTypes.toList) && (Rows.vtimeWeighsRow.loops == (Try.f17.params.toList ++ Rows.vtimeWeighsSpec.plain.varTypes Try.pinned.checked.prog).any (Try.pinned.checked.prog.loopsFrom ·)) && (Rows.vtimeWeighsRow.wideKeys == (Try.f17.params.toList ++ Rows.vtimeWeighsSpec.plain.varTypes Try.pinned.checked.prog ++ Try.f17.resultTypes.toList).any (Try.pinned.checked.prog.wideKeysFrom ·)) && Rows.vtimeWeighsSpec.vars.all (Try.pinned.checked.prog.varReadable ·) && Try.f17.resultTypes.all (fun t => Try.pinned.checked.prog.readableRec t && decide (t < Try.pinned.checked.prog.types.size)) && (Rows.vtimeWeighsRow.ifacesOut == Try.f17.resultTypes.toList.any (Try.pinned.checked.prog.ifacesRec ·)) && (Rows.vtimeWeighsRow.loopsOut == Try.f17.resultTypes.toList.any (Try.pinned.checked.prog.loopsFrom ·))) = true := by kernel_rfl
theorem vtimeWeighs_g6 : ((Rows.vtimeWeighsRow.plainKeys == Try.pinned.checked.prog.plainKeys) && Rows.vtimeWeighsRow.shortTexts.isNone && (Rows.vtimeWeighsRow.kinds == (if Rows.vtimeWeighsRow.domain.isEmpty then [] else Try.f17.params.toList.map fun t => match Try.pinned.checked.prog.underlying t with | some (.int k) => some k | _ => none)) && (Rows.vtimeWeighsRow.pinned == Rows.vtimeWeighsRow.pinnedBy) && (Rows.vtimeWeighsRow.veiled == (Try.f17.params.toList ++ Rows.vtimeWeighsSpec.plain.varTypes Try.pinned.checked.prog ++ Try.f17.resultTypes.toList).any (Try.pinned.checked.prog.veiledRec ·)) && Rows.vtimeWeighsRow.veiledFits Try.pinned.checked.prog Try.f17.params.toList (Try.f17.params.toList ++ Rows.vtimeWeighsSpec.plain.varTypes Try.pinned.checked.prog ++ Try.f17.resultTypes.toList)) = true := by kernel_rfl

set_option maxRecDepth 100000 in
/-- For every input, VtimeWeighs returns true and its arguments read as they did: weighed anew, a runner has that weight, and a time not less and by less than one over the weight more; weighed back, it is not below what it was. -/
theorem vtimeWeighs_holds : Rows.VtimeWeighsSaid :=
  OpenClaim.holds_of_wide 17 Try.f17 rfl rfl rfl rfl rfl rfl rfl ⟨rfl, rfl, rfl, rfl, rfl⟩ rfl rfl rfl rfl rfl (by kernel_rfl) Try.func17 (joined_of entered rfl rfl laid vtimeWeighs_g3 vtimeWeighs_g4 vtimeWeighs_g5 vtimeWeighs_g6)
    (of_decide_eq_true (by kernel_rfl)) (by unfold Func.isWrapper; first | (rw [if_pos (by decide +kernel)]; kernel_rfl) | (rw [if_neg (by decide +kernel)]; exact ⟨rfl, rfl⟩))
    (fun os started H enc _ => vtimeWeighs_lifted os started H enc)
#print axioms vtimeWeighs_holds
end Go.Proofs.Ytdfkcijholopoaa
