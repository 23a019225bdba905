/- For every input, VtimeGains returns true and its arguments read as they did: who leaves and joins anew without a boost is not below what they had, unless they were above all others, nor below these. -/
import Derived.Test.YtdfkcijholopoaaRows
import Derived.Test.YtdfkcijholopoaaMgVtimeGains14
import Derived.Test.YtdfkcijholopoaaMg13
import Derived.Test.YtdfkcijholopoaaMgF
import Derived.OpenShut
import Derived.ChangeOld
import Derived.Below
namespace Go.Proofs.Ytdfkcijholopoaa
open Go.ChangeShapes Go.WideShapes Go.ChangeAt Go.RowKit
open Vm
set_option linter.unusedVariables false

set_option maxRecDepth 100000 in
theorem vtimeGains_lifted (os : Os) (started : os.Started) (H : Type) (enc : TypeId × Value → H) :
    ReturnsInHanded {} Try.checked os 20 .any (Rows.vtimeGainsSpec.pre6 enc Try.prog Try.f20 Rows.vtimeGainsRow.domain false) (Rows.vtimeGainsSpec.post enc Try.prog Try.f20 false true false false) := by
  refine returnsInHanded_of_change (C := Try.checked) own started (by kernel_rfl) Try.func20
    (ChangeSpec.witness6 (enc := enc) (C := Try.checked) false ⟨#[], #[.agg #[.slice none 0 0], .int .i64 0], []⟩ 8 (by kernel_rfl) (by kernel_rfl) (by kernel_rfl) (by kernel_rfl)) ?_
  intro W base args ds gs before hval0 hW hcnd _
  have hval : ∀ (j : Nat) t v, Try.f20.params[j]? = some t → args[j]? = some v → Value.okWide Try.prog W .any base t v := hval0
  have hW' := hW
  obtain ⟨p, q, hA0, hV, rfl, hfz, hnd⟩ := hW
  have hA : DataW.TrodAll enc Try.prog W 0 (fun _ => true) true Try.f20.params.toList args.toList ds p := hA0
  rw [Try.params20] at hA hval
  obtain ⟨v0, vs0, d0, ds0, p0, q0, hargs, rfl, rfl, h0, r0⟩ := trodAll_cons hA
  obtain ⟨v1, vs1, d1, ds1, p1, q1, rfl, rfl, rfl, h1, r1⟩ := trodAll_cons r0
  obtain ⟨rfl, rfl, rfl⟩ := trodAll_nil r1
  obtain rfl : args = #[v0, v1] := by cases args; simp_all
  obtain ⟨rfl, rfl⟩ := trodVars_none hV
  have k0 := h0
  have lt0 : ∀ x ∈ p0, x.block < W.heap.size := by obtain ⟨m, hm⟩ := k0; exact DataW.trod_lt m _ _ _ hm
  have k1 := h1
  have lt1 : ∀ x ∈ p1, x.block < W.heap.size := by obtain ⟨m, hm⟩ := k1; exact DataW.trod_lt m _ _ _ hm
  obtain ⟨n1, hn1, rfl⟩ := open_i64 (hval 1 3 v1 rfl rfl) h1
  clear hA0 hval0
  have key : Calls Try.prog 20 #[v0, .int .i64 n1] W (fun e w' => e = .returned (.bool true) ∧ Below W.heap.size W w') := by
    rcases open_queue (hval 0 55 v0 rfl rfl) h0 with rfl | ⟨b, o, cap, l, cur, tt, fz, rfl, hc, _, hq, hb, hcell⟩
    · exact (p20nil n1 hn1).calls W
    · refine ro_real (p20 l n1 cap hn1 hc) (fun k => if k = 0 then some (b, o) else none) (relL_cons (rel_agg1 (rel_slice rfl)) (relL_cons (.plain (by rfl)) relL_nil)) (by simp) fun x hx => ?_
      simp only [List.mem_singleton] at hx
      subst hx
      exact ⟨rcs_plain l, b, o, cur, tt, fz, rfl, hb, hcell⟩
  refine key.mono fun e W' ⟨he, bel⟩ => ?_
  subst he
  exact ⟨_, rfl, _, _, _, [], _, [], hW', trodAll_mk1 (shut_bool Try.underlying4 _), (trodAll_cons_mk (Below.trod laidOut (by kernel_rfl) (of_decide_eq_true (by kernel_rfl)) k0 bel lt0) (trodAll_cons_mk (Below.trod laidOut (by kernel_rfl) (of_decide_eq_true (by kernel_rfl)) k1 bel lt1) trodAll_mk0)), rfl, bel.frame _, fun h => by cases h⟩

theorem vtimeGains_g3 : (Rows.vtimeGainsRow.wf (OpenSpec.ofChange Rows.vtimeGainsSpec) && Try.f20.params.all (Try.pinned.checked.prog.readableRec ·) && namedTie Try.pinned.checked.prog Rows.vtimeGainsRow.named Rows.vtimeGainsSpec.vars && (Rows.vtimeGainsRow.stops == []) && (Rows.vtimeGainsRow.knobs == [])) = true := by kernel_rfl
theorem vtimeGains_g4 : ((Rows.vtimeGainsRow.inPlace == Try.pinned.checked.prog.inPlace 20) && (Rows.vtimeGainsRow.unfollowed == Try.pinned.checked.prog.unfollowed 20) && (Rows.vtimeGainsRow.recurses == Try.pinned.checked.prog.recurses 20) && (Rows.vtimeGainsRow.named == Try.pinned.checked.prog.varsNamed 20)) = true := by kernel_rfl
theorem vtimeGains_g5 : ((Rows.vtimeGainsRow.maps == (Try.f20.params.toList ++ Rows.vtimeGainsSpec.plain.varTypes Try.pinned.checked.prog).any (Try.pinned.checked.prog.mapsRec ·)) && (Rows.vtimeGainsRow.ifaces == (Try.f20.params.toList ++ Rows.vtimeGainsSpec.plain.varTypes Try.pinned.checked.prog).any (Try.pinned.checked.prog.ifacesRec ·)) && (Rows.vtimeGainsRow.mapsOut == Try.pinned.checked.prog.mapsAmong Try.f20.resultTypes.toList) && (Rows.vtimeGainsRow.loops == (Try.f20.params.toList ++ Rows.vtimeGainsSpec.plain.varTypes Try.pinned.checked.prog).any (Try.pinned.checked.prog.loopsFrom ·)) && (Rows.vtimeGainsRow.wideKeys == (Try.f20.params.toList ++ Rows.vtimeGainsSpec.plain.varTypes Try.pinned.checked.prog ++ Try.f20.resultTypes.toList).any (Try.pinned.checked.prog.wideKeysFrom ·)) && Rows.vtimeGainsSpec.vars.all (Try.pinned.checked.prog.varReadable ·) && Try.f20.resultTypes.all (fun t => Try.pinned.checked.prog.readableRec t && decide (t < Try.pinned.checked.prog.types.size)) && (Rows.vtimeGainsRow.ifacesOut == Try.f20.resultTypes.toList.any (Try.pinned.checked.prog.ifacesRec ·)) && (Rows.vtimeGainsRow.loopsOut == Try.f20.resultTypes.toList.any (Try.pinned.checked.prog.loopsFrom ·))) = true := by kernel_rfl
theorem vtimeGains_g6 : ((Rows.vtimeGainsRow.plainKeys == Try.pinned.checked.prog.plainKeys) && Rows.vtimeGainsRow.shortTexts.isNone && (Rows.vtimeGainsRow.kinds == (if Rows.vtimeGainsRow.domain.isEmpty then [] else Try.f20.params.toList.map fun t => match Try.pinned.checked.prog.underlying t with | some (.int k) => some k | _ => none)) && (Rows.vtimeGainsRow.pinned == Rows.vtimeGainsRow.pinnedBy) && (Rows.vtimeGainsRow.veiled == (Try.f20.params.toList ++ Rows.vtimeGainsSpec.plain.varTypes Try.pinned.checked.prog ++ Try.f20.resultTypes.toList).any (Try.pinned.checked.prog.veiledRec ·)) && Rows.vtimeGainsRow.veiledFits Try.pinned.checked.prog Try.f20.params.toList (Try.f20.params.toList ++ Rows.vtimeGainsSpec.plain.varTypes Try.pinned.checked.prog ++ Try.f20.resultTypes.toList)) = true := by kernel_rfl

set_option maxRecDepth 100000 in
/-- For every input, VtimeGains returns true and its arguments read as they did: who leaves and joins anew without a boost is not below what they had, unless they were above all others, nor below these. -/
theorem vtimeGains_holds : Rows.VtimeGainsSaid :=
  OpenClaim.holds_of_wide 20 Try.f20 rfl rfl rfl rfl rfl rfl rfl ⟨rfl, rfl, rfl, rfl, rfl⟩ rfl rfl rfl rfl rfl (by kernel_rfl) Try.func20 (joined_of entered rfl rfl laid vtimeGains_g3 vtimeGains_g4 vtimeGains_g5 vtimeGains_g6)
    (of_decide_eq_true (by kernel_rfl)) (by unfold Func.isWrapper; first | (rw [if_pos (by decide +kernel)]; kernel_rfl) | (rw [if_neg (by decide +kernel)]; exact ⟨rfl, rfl⟩))
    (fun os started H enc _ => vtimeGains_lifted os started H enc)
#print axioms vtimeGains_holds
end Go.Proofs.Ytdfkcijholopoaa
