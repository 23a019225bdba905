/- For every input, VtimeRuns returns true and its arguments read as they did: to run twice is to run so long at once, and who runs grows by their share, the others not. -/
import Derived.Test.YtdfkcijholopoaaRows
import Derived.Test.YtdfkcijholopoaaMgVtimeRuns15
import Derived.Test.YtdfkcijholopoaaMgVtimeRuns16
import Derived.Test.YtdfkcijholopoaaMgVtimeRuns17
import Derived.Test.YtdfkcijholopoaaMgVtimeRuns18
import Derived.Test.YtdfkcijholopoaaMgF
import Derived.OpenShut
import Derived.ChangeOld
import Derived.Below
namespace Go.Proofs.Ytdfkcijholopoaa
open Go.ChangeShapes Go.WideShapes Go.ChangeAt Go.RowKit
open Vm
set_option linter.unusedVariables false

set_option maxRecDepth 100000 in
theorem vtimeRuns_lifted (os : Os) (started : os.Started) (H : Type) (enc : TypeId × Value → H) :
    ReturnsInHanded {} Try.checked os 18 .any (Rows.vtimeRunsSpec.pre6 enc Try.prog Try.f18 Rows.vtimeRunsRow.domain false) (Rows.vtimeRunsSpec.post enc Try.prog Try.f18 false true false false) := by
  refine returnsInHanded_of_change (C := Try.checked) own started (by kernel_rfl) Try.func18
    (ChangeSpec.witness6 (enc := enc) (C := Try.checked) false ⟨#[], #[.agg #[.slice none 0 0], .slice none 0 0, .agg #[.int .i64 0, .int .i64 0]], []⟩ 8 (by kernel_rfl) (by kernel_rfl) (by kernel_rfl) (by kernel_rfl)) ?_
  intro W base args ds gs before hval0 hW hcnd _
  have hval : ∀ (j : Nat) t v, Try.f18.params[j]? = some t → args[j]? = some v → Value.okWide Try.prog W .any base t v := hval0
  have hW' := hW
  obtain ⟨p, q, hA0, hV, rfl, hfz, hnd⟩ := hW
  have hA : DataW.TrodAll enc Try.prog W 0 (fun _ => true) true Try.f18.params.toList args.toList ds p := hA0
  rw [Try.params18] at hA hval
  obtain ⟨v0, vs0, d0, ds0, p0, q0, hargs, rfl, rfl, h0, r0⟩ := trodAll_cons hA
  obtain ⟨v1, vs1, d1, ds1, p1, q1, rfl, rfl, rfl, h1, r1⟩ := trodAll_cons r0
  obtain ⟨v2, vs2, d2, ds2, p2, q2, rfl, rfl, rfl, h2, r2⟩ := trodAll_cons r1
  obtain ⟨rfl, rfl, rfl⟩ := trodAll_nil r2
  obtain rfl : args = #[v0, v1, v2] := by cases args; simp_all
  obtain ⟨rfl, rfl⟩ := trodVars_none hV
  have k0 := h0
  have lt0 : ∀ x ∈ p0, x.block < W.heap.size := by obtain ⟨m, hm⟩ := k0; exact DataW.trod_lt m _ _ _ hm
  have k1 := h1
  have lt1 : ∀ x ∈ p1, x.block < W.heap.size := by obtain ⟨m, hm⟩ := k1; exact DataW.trod_lt m _ _ _ hm
  have k2 := h2
  have lt2 : ∀ x ∈ p2, x.block < W.heap.size := by obtain ⟨m, hm⟩ := k2; exact DataW.trod_lt m _ _ _ hm
  obtain ⟨n2, w2, rfl⟩ := open_pair (hval 2 104 v2 rfl rfl) h2
  clear hA0 hval0
  have key : Calls Try.prog 18 #[v0, v1, .agg #[.int .i64 n2, .int .i64 w2]] W (fun e w' => e = .returned (.bool true) ∧ Below W.heap.size W w') := by
    rcases open_queue (hval 0 55 v0 rfl rfl) h0 with rfl | ⟨b, o, cap, l, cur, tt, fz, rfl, hc, _, hq, hb, hcell⟩ <;> rcases open_ids (hval 1 61 v1 rfl rfl) h1 with rfl | ⟨b1, o1, cap1, l1, cur1, tt1, fz1, rfl, hc1, _, hq1, hb1, hcell1⟩
    · exact (p18xi n2 w2).calls W
    · refine ro_real (p18x l1 cap1 hc1 n2 w2) (fun k => if k = 0 then some (b1, o1) else none) (relL_cons (.plain (by rfl)) (relL_cons (rel_slice rfl) (relL_cons (.plain (by rfl)) relL_nil))) (by simp) fun x hx => ?_
      simp only [List.mem_singleton] at hx
      subst hx
      exact ⟨ics_plain l1, b1, o1, cur1, tt1, fz1, rfl, hb1, hcell1⟩
    · refine ro_real (p18i l cap hc n2 w2) (fun k => if k = 0 then some (b, o) else none) (relL_cons (rel_agg1 (rel_slice rfl)) (relL_cons (.plain (by rfl)) (relL_cons (.plain (by rfl)) relL_nil))) (by simp) fun x hx => ?_
      simp only [List.mem_singleton] at hx
      subst hx
      exact ⟨rcs_plain l, b, o, cur, tt, fz, rfl, hb, hcell⟩
    · refine ro_real (p18 l cap hc l1 cap1 hc1 n2 w2) (fun k => if k = 0 then some (b, o) else if k = 1 then some (b1, o1) else none) (relL_cons (rel_agg1 (rel_slice rfl)) (relL_cons (rel_slice rfl) (relL_cons (.plain (by rfl)) relL_nil))) (by simp) fun x hx => ?_
      simp only [List.mem_cons, List.not_mem_nil, or_false] at hx
      rcases hx with rfl | rfl
      · exact ⟨rcs_plain l, b, o, cur, tt, fz, rfl, hb, hcell⟩
      · exact ⟨ics_plain l1, b1, o1, cur1, tt1, fz1, rfl, hb1, hcell1⟩
  refine key.mono fun e W' ⟨he, bel⟩ => ?_
  subst he
  exact ⟨_, rfl, _, _, _, [], _, [], hW', trodAll_mk1 (shut_bool Try.underlying4 _), (trodAll_cons_mk (Below.trod laidOut (by kernel_rfl) (of_decide_eq_true (by kernel_rfl)) k0 bel lt0) (trodAll_cons_mk (Below.trod laidOut (by kernel_rfl) (of_decide_eq_true (by kernel_rfl)) k1 bel lt1) (trodAll_cons_mk (Below.trod laidOut (by kernel_rfl) (of_decide_eq_true (by kernel_rfl)) k2 bel lt2) trodAll_mk0))), rfl, bel.frame _, fun h => by cases h⟩

theorem vtimeRuns_g3 : (Rows.vtimeRunsRow.wf (OpenSpec.ofChange Rows.vtimeRunsSpec) && Try.f18.params.all (Try.pinned.checked.prog.readableRec ·) && namedTie Try.pinned.checked.prog Rows.vtimeRunsRow.named Rows.vtimeRunsSpec.vars && (Rows.vtimeRunsRow.stops == []) && (Rows.vtimeRunsRow.knobs == [])) = true := by kernel_rfl
theorem vtimeRuns_g4 : ((Rows.vtimeRunsRow.inPlace == Try.pinned.checked.prog.inPlace 18) && (Rows.vtimeRunsRow.unfollowed == Try.pinned.checked.prog.unfollowed 18) && (Rows.vtimeRunsRow.recurses == Try.pinned.checked.prog.recurses 18) && (Rows.vtimeRunsRow.named == Try.pinned.checked.prog.varsNamed 18)) = true := by kernel_rfl
theorem vtimeRuns_g5 : ((Rows.vtimeRunsRow.maps == (Try.f18.params.toList ++ Rows.vtimeRunsSpec.plain.varTypes Try.pinned.checked.prog).any (Try.pinned.checked.prog.mapsRec ·)) && (Rows.vtimeRunsRow.ifaces == (Try.f18.params.toList ++ Rows.vtimeRunsSpec.plain.varTypes Try.pinned.checked.prog).any (Try.pinned.checked.prog.ifacesRec ·)) && (Rows.vtimeRunsRow.mapsOut == Try.pinned.checked.prog.mapsAmong Try.f18.resultTypes.toList) && (Rows.vtimeRunsRow.loops == (Try.f18.params.toList ++ Rows.vtimeRunsSpec.plain.varTypes Try.pinned.checked.prog).any (Try.pinned.checked.prog.loopsFrom ·)) && (Rows.vtimeRunsRow.wideKeys == (Try.f18.params.toList ++ Rows.vtimeRunsSpec.plain.varTypes Try.pinned.checked.prog ++ Try.f18.resultTypes.toList).any (Try.pinned.checked.prog.wideKeysFrom ·)) && Rows.vtimeRunsSpec.vars.all (Try.pinned.checked.prog.varReadable ·) && Try.f18.resultTypes.all (fun t => Try.pinned.checked.prog.readableRec t && decide (t < Try.pinned.checked.prog.types.size)) && (Rows.vtimeRunsRow.ifacesOut == Try.f18.resultTypes.toList.any (Try.pinned.checked.prog.ifacesRec ·)) && (Rows.vtimeRunsRow.loopsOut == Try.f18.resultTypes.toList.any (Try.pinned.checked.prog.loopsFrom ·))) = true := by kernel_rfl
theorem vtimeRuns_g6 : ((Rows.vtimeRunsRow.plainKeys == Try.pinned.checked.prog.plainKeys) && Rows.vtimeRunsRow.shortTexts.isNone && (Rows.vtimeRunsRow.kinds == (if Rows.vtimeRunsRow.domain.isEmpty then [] else Try.f18.params.toList.map fun t => match Try.pinned.checked.prog.underlying t with | some (.int k) => some k | _ => none)) && (Rows.vtimeRunsRow.pinned == Rows.vtimeRunsRow.pinnedBy) && (Rows.vtimeRunsRow.veiled == (Try.f18.params.toList ++ Rows.vtimeRunsSpec.plain.varTypes Try.pinned.checked.prog ++ Try.f18.resultTypes.toList).any (Try.pinned.checked.prog.veiledRec ·)) && Rows.vtimeRunsRow.veiledFits Try.pinned.checked.prog Try.f18.params.toList (Try.f18.params.toList ++ Rows.vtimeRunsSpec.plain.varTypes Try.pinned.checked.prog ++ Try.f18.resultTypes.toList)) = true := by kernel_rfl

set_option maxRecDepth 100000 in
/-- For every input, VtimeRuns returns true and its arguments read as they did: to run twice is to run so long at once, and who runs grows by their share, the others not. -/
theorem vtimeRuns_holds : Rows.VtimeRunsSaid :=
  OpenClaim.holds_of_wide 18 Try.f18 rfl rfl rfl rfl rfl rfl rfl ⟨rfl, rfl, rfl, rfl, rfl⟩ rfl rfl rfl rfl rfl (by kernel_rfl) Try.func18 (joined_of entered rfl rfl laid vtimeRuns_g3 vtimeRuns_g4 vtimeRuns_g5 vtimeRuns_g6)
    (of_decide_eq_true (by kernel_rfl)) (by unfold Func.isWrapper; first | (rw [if_pos (by decide +kernel)]; kernel_rfl) | (rw [if_neg (by decide +kernel)]; exact ⟨rfl, rfl⟩))
    (fun os started H enc _ => vtimeRuns_lifted os started H enc)
#print axioms vtimeRuns_holds
end Go.Proofs.Ytdfkcijholopoaa
