/- For every input, VtimeClips returns true and its arguments read as they did: behind a clip nobody is far behind the top, which is left as it was; who was far behind is raised and named, the others are as they were, and a second clip does nothing. -/
import Derived.Test.YtdfkcijholopoaaRows
import Derived.Test.YtdfkcijholopoaaMgVtimeClips16
import Derived.Test.YtdfkcijholopoaaMg13
import Derived.Test.YtdfkcijholopoaaMgF
import Derived.OpenShut
import Derived.ChangeOld
import Derived.Below
namespace Go.Proofs.Ytdfkcijholopoaa
open Go.ChangeShapes Go.WideShapes Go.ChangeAt Go.RowKit
open Vm
set_option linter.unusedVariables false

set_option maxRecDepth 100000 in
theorem vtimeClips_lifted (os : Os) (started : os.Started) (H : Type) (enc : TypeId × Value → H) :
    ReturnsInHanded {} Try.checked os 7 .any (Rows.vtimeClipsSpec.pre6 enc Try.prog Try.f7 Rows.vtimeClipsRow.domain false) (Rows.vtimeClipsSpec.post enc Try.prog Try.f7 false true false false) := by
  refine returnsInHanded_of_change (C := Try.checked) own started (by kernel_rfl) Try.func7
    (ChangeSpec.witness6 (enc := enc) (C := Try.checked) false ⟨#[], #[.agg #[.slice none 0 0]], []⟩ 8 (by kernel_rfl) (by kernel_rfl) (by kernel_rfl) (by kernel_rfl)) ?_
  intro W base args ds gs before hval0 hW hcnd _
  have hval : ∀ (j : Nat) t v, Try.f7.params[j]? = some t → args[j]? = some v → Value.okWide Try.prog W .any base t v := hval0
  have hW' := hW
  obtain ⟨p, q, hA0, hV, rfl, hfz, hnd⟩ := hW
  have hA : DataW.TrodAll enc Try.prog W 0 (fun _ => true) true Try.f7.params.toList args.toList ds p := hA0
  rw [Try.params7] at hA hval
  obtain ⟨v0, vs0, d0, ds0, p0, q0, hargs, rfl, rfl, h0, r0⟩ := trodAll_cons hA
  obtain ⟨rfl, rfl, rfl⟩ := trodAll_nil r0
  obtain rfl : args = #[v0] := by cases args; simp_all
  obtain ⟨rfl, rfl⟩ := trodVars_none hV
  have k0 := h0
  have lt0 : ∀ x ∈ p0, x.block < W.heap.size := by obtain ⟨m, hm⟩ := k0; exact DataW.trod_lt m _ _ _ hm
  clear hA0 hval0
  have key : Calls Try.prog 7 #[v0] W (fun e w' => e = .returned (.bool true) ∧ Below W.heap.size W w') := by
    rcases open_queue (hval 0 55 v0 rfl rfl) h0 with rfl | ⟨b, o, cap, l, cur, tt, fz, rfl, hc, _, hq, hb, hcell⟩
    · exact (p7nil).calls W
    · refine ro_real (p7 l cap hc) (fun k => if k = 0 then some (b, o) else none) (relL_cons (rel_agg1 (rel_slice rfl)) relL_nil) (by simp) fun x hx => ?_
      simp only [List.mem_singleton] at hx
      subst hx
      exact ⟨rcs_plain l, b, o, cur, tt, fz, rfl, hb, hcell⟩
  refine key.mono fun e W' ⟨he, bel⟩ => ?_
  subst he
  exact ⟨_, rfl, _, _, _, [], _, [], hW', trodAll_mk1 (shut_bool Try.underlying4 _), (trodAll_cons_mk (Below.trod laidOut (by kernel_rfl) (of_decide_eq_true (by kernel_rfl)) k0 bel lt0) trodAll_mk0), rfl, bel.frame _, fun h => by cases h⟩

theorem vtimeClips_g3 : (Rows.vtimeClipsRow.wf (OpenSpec.ofChange Rows.vtimeClipsSpec) && Try.f7.params.all (Try.pinned.checked.prog.readableRec ·) && namedTie Try.pinned.checked.prog Rows.vtimeClipsRow.named Rows.vtimeClipsSpec.vars && (Rows.vtimeClipsRow.stops == []) && (Rows.vtimeClipsRow.knobs == [])) = true := by kernel_rfl
theorem vtimeClips_g4 : ((Rows.vtimeClipsRow.inPlace == Try.pinned.checked.prog.inPlace 7) && (Rows.vtimeClipsRow.unfollowed == Try.pinned.checked.prog.unfollowed 7) && (Rows.vtimeClipsRow.recurses == Try.pinned.checked.prog.recurses 7) && (Rows.vtimeClipsRow.named == Try.pinned.checked.prog.varsNamed 7)) = true := by kernel_rfl
theorem vtimeClips_g5 : ((Rows.vtimeClipsRow.maps == (Try.f7.params.toList ++ Rows.vtimeClipsSpec.plain.varTypes Try.pinned.checked.prog).any (Try.pinned.checked.prog.mapsRec ·)) && (Rows.vtimeClipsRow.ifaces == (Try.f7.params.toList ++ Rows.vtimeClipsSpec.plain.varTypes Try.pinned.checked.prog).any (Try.pinned.checked.prog.ifacesRec ·)) && (Rows.vtimeClipsRow.mapsOut == Try.pinned.checked.prog.mapsAmong Try.f7.resultTypes.toList) && (Rows.vtimeClipsRow.loops == (Try.f7.params.toList ++ Rows.vtimeClipsSpec.plain.varTypes Try.pinned.checked.prog).any (Try.pinned.checked.prog.loopsFrom ·)) && (Rows.vtimeClipsRow.wideKeys == (Try.f7.params.toList ++ Rows.vtimeClipsSpec.plain.varTypes Try.pinned.checked.prog ++ Try.f7.resultTypes.toList).any (Try.pinned.checked.prog.wideKeysFrom ·)) && Rows.vtimeClipsSpec.vars.all (Try.pinned.checked.prog.varReadable ·) && Try.f7.resultTypes.all (fun t => Try.pinned.checked.prog.readableRec t && decide (t < Try.pinned.checked.prog.types.size)) && (Rows.vtimeClipsRow.ifacesOut == Try.f7.resultTypes.toList.any (Try.pinned.checked.prog.ifacesRec ·)) && (Rows.vtimeClipsRow.loopsOut == Try.f7.resultTypes.toList.any (Try.pinned.checked.prog.loopsFrom ·))) = true := by kernel_rfl
theorem vtimeClips_g6 : ((Rows.vtimeClipsRow.plainKeys == Try.pinned.checked.prog.plainKeys) && Rows.vtimeClipsRow.shortTexts.isNone && (Rows.vtimeClipsRow.kinds == (if Rows.vtimeClipsRow.domain.isEmpty then [] else Try.f7.params.toList.map fun t => match Try.pinned.checked.prog.underlying t with | some (.int k) => some k | _ => none)) && (Rows.vtimeClipsRow.pinned == Rows.vtimeClipsRow.pinnedBy) && (Rows.vtimeClipsRow.veiled == (Try.f7.params.toList ++ Rows.vtimeClipsSpec.plain.varTypes Try.pinned.checked.prog ++ Try.f7.resultTypes.toList).any (Try.pinned.checked.prog.veiledRec ·)) && Rows.vtimeClipsRow.veiledFits Try.pinned.checked.prog Try.f7.params.toList (Try.f7.params.toList ++ Rows.vtimeClipsSpec.plain.varTypes Try.pinned.checked.prog ++ Try.f7.resultTypes.toList)) = true := by kernel_rfl

set_option maxRecDepth 100000 in
/-- For every input, VtimeClips returns true and its arguments read as they did: behind a clip nobody is far behind the top, which is left as it was; who was far behind is raised and named, the others are as they were, and a second clip does nothing. -/
theorem vtimeClips_holds : Rows.VtimeClipsSaid :=
  OpenClaim.holds_of_wide 7 Try.f7 rfl rfl rfl rfl rfl rfl rfl ⟨rfl, rfl, rfl, rfl, rfl⟩ rfl rfl rfl rfl rfl (by kernel_rfl) Try.func7 (joined_of entered rfl rfl laid vtimeClips_g3 vtimeClips_g4 vtimeClips_g5 vtimeClips_g6)
    (of_decide_eq_true (by kernel_rfl)) (by unfold Func.isWrapper; first | (rw [if_pos (by decide +kernel)]; kernel_rfl) | (rw [if_neg (by decide +kernel)]; exact ⟨rfl, rfl⟩))
    (fun os started H enc _ => vtimeClips_lifted os started H enc)
#print axioms vtimeClips_holds
end Go.Proofs.Ytdfkcijholopoaa
