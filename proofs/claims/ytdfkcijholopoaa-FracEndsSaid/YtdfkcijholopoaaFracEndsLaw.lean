/- For every input, FracEnds returns true and its arguments read as they did: which of whatever fractions is the greatest, and which the least, is what the reference computes. -/
import Derived.Test.YtdfkcijholopoaaRows
import Derived.Test.YtdfkcijholopoaaGb
import Derived.Test.YtdfkcijholopoaaOpenG
import Derived.Test.YtdfkcijholopoaaFacts
import Derived.OpenShut
import Derived.ChangeOld
import Derived.Below
namespace Go.Proofs.Ytdfkcijholopoaa
open Go.ChangeShapes Go.WideShapes Go.ChangeAt Go.RowKit
open Vm
set_option linter.unusedVariables false

set_option maxRecDepth 100000 in
theorem fracEnds_lifted (os : Os) (started : os.Started) (H : Type) (enc : TypeId × Value → H) :
    ReturnsInHanded {} Try.checked os 11 .any (Rows.fracEndsSpec.pre6 enc Try.prog Try.f11 Rows.fracEndsRow.domain false) (Rows.fracEndsSpec.post enc Try.prog Try.f11 false true false false) := by
  refine returnsInHanded_of_change (C := Try.checked) own started (by kernel_rfl) Try.func11
    (ChangeSpec.witness6 (enc := enc) (C := Try.checked) false ⟨#[], #[.slice none 0 0], []⟩ 8 (by kernel_rfl) (by kernel_rfl) (by kernel_rfl) (by kernel_rfl)) ?_
  intro W base args ds gs before hval0 hW hcnd _
  have hval : ∀ (j : Nat) t v, Try.f11.params[j]? = some t → args[j]? = some v → Value.okWide Try.prog W .any base t v := hval0
  have hW' := hW
  obtain ⟨p, q, hA0, hV, rfl, hfz, hnd⟩ := hW
  have hA : DataW.TrodAll enc Try.prog W 0 (fun _ => true) true Try.f11.params.toList args.toList ds p := hA0
  rw [Try.params11] at hA hval
  obtain ⟨v0, vs0, d0, ds0, p0, q0, hargs, rfl, rfl, h0, r0⟩ := trodAll_cons hA
  obtain ⟨rfl, rfl, rfl⟩ := trodAll_nil r0
  obtain rfl : args = #[v0] := by cases args; simp_all
  obtain ⟨rfl, rfl⟩ := trodVars_none hV
  have k0 := h0
  have lt0 : ∀ x ∈ p0, x.block < W.heap.size := by obtain ⟨m, hm⟩ := k0; exact DataW.trod_lt m _ _ _ hm
  clear hA0 hval0
  have key : Calls Try.prog 11 #[v0] W (fun e w' => e = .returned (.bool true) ∧ Below W.heap.size W w') := by
    rcases open_rows (q := fun x : Nat × Nat => x.1 < 2 ^ 128 ∧ x.2 < 2 ^ 64) frp_len (by decide) Try.underlying83 cells58 (fun _ _ _ => frac_cells) (hval 0 83 v0 rfl rfl) h0 with rfl | ⟨b, o, cap, l, cur, tt, fz, rfl, _, _, hq, hb, hcell⟩
    · exact p11nil.calls W
    · refine ro_real (p11 cap hq) (fun k => if k = 0 then some (b, o) else none) (relL_cons (rel_slice rfl) relL_nil) (by simp) fun x hx => ?_
      simp only [List.mem_singleton] at hx
      subst hx
      exact ⟨frs_plain l, b, o, cur, tt, fz, rfl, hb, hcell⟩
  refine key.mono fun e W' ⟨he, bel⟩ => ?_
  subst he
  exact ⟨_, rfl, _, _, _, [], _, [], hW', trodAll_mk1 (shut_bool Try.underlying4 _), (trodAll_cons_mk (Below.trod laidOut (by kernel_rfl) (of_decide_eq_true (by kernel_rfl)) k0 bel lt0) trodAll_mk0), rfl, bel.frame _, fun h => by cases h⟩

theorem fracEnds_g3 : (Rows.fracEndsRow.wf (OpenSpec.ofChange Rows.fracEndsSpec) && Try.f11.params.all (Try.pinned.checked.prog.readableRec ·) && namedTie Try.pinned.checked.prog Rows.fracEndsRow.named Rows.fracEndsSpec.vars && (Rows.fracEndsRow.stops == []) && (Rows.fracEndsRow.knobs == [])) = true := by kernel_rfl
theorem fracEnds_g4 : ((Rows.fracEndsRow.inPlace == Try.pinned.checked.prog.inPlace 11) && (Rows.fracEndsRow.unfollowed == Try.pinned.checked.prog.unfollowed 11) && (Rows.fracEndsRow.recurses == Try.pinned.checked.prog.recurses 11) && (Rows.fracEndsRow.named == Try.pinned.checked.prog.varsNamed 11)) = true := by kernel_rfl
theorem fracEnds_g5 : ((Rows.fracEndsRow.maps == (Try.f11.params.toList ++ Rows.fracEndsSpec.plain.varTypes Try.pinned.checked.prog).any (Try.pinned.checked.prog.mapsRec ·)) && (Rows.fracEndsRow.ifaces == (Try.f11.params.toList ++ Rows.fracEndsSpec.plain.varTypes Try.pinned.checked.prog).any (Try.pinned.checked.prog.ifacesRec ·)) && (Rows.fracEndsRow.mapsOut == Try.pinned.checked.prog.mapsAmong Try.f11.resultTypes.toList) && (Rows.fracEndsRow.loops == (Try.f11.params.toList ++ Rows.fracEndsSpec.plain.varTypes Try.pinned.checked.prog).any (Try.pinned.checked.prog.loopsFrom ·)) && (Rows.fracEndsRow.wideKeys == (Try.f11.params.toList ++ Rows.fracEndsSpec.plain.varTypes Try.pinned.checked.prog ++ Try.f11.resultTypes.toList).any (Try.pinned.checked.prog.wideKeysFrom ·)) && Rows.fracEndsSpec.vars.all (Try.pinned.checked.prog.varReadable ·) && Try.f11.resultTypes.all (fun t => Try.pinned.checked.prog.readableRec t && decide (t < Try.pinned.checked.prog.types.size)) && (Rows.fracEndsRow.ifacesOut == Try.f11.resultTypes.toList.any (Try.pinned.checked.prog.ifacesRec ·)) && (Rows.fracEndsRow.loopsOut == Try.f11.resultTypes.toList.any (Try.pinned.checked.prog.loopsFrom ·))) = true := by kernel_rfl
theorem fracEnds_g6 : ((Rows.fracEndsRow.plainKeys == Try.pinned.checked.prog.plainKeys) && Rows.fracEndsRow.shortTexts.isNone && (Rows.fracEndsRow.kinds == (if Rows.fracEndsRow.domain.isEmpty then [] else Try.f11.params.toList.map fun t => match Try.pinned.checked.prog.underlying t with | some (.int k) => some k | _ => none)) && (Rows.fracEndsRow.pinned == Rows.fracEndsRow.pinnedBy) && (Rows.fracEndsRow.veiled == (Try.f11.params.toList ++ Rows.fracEndsSpec.plain.varTypes Try.pinned.checked.prog ++ Try.f11.resultTypes.toList).any (Try.pinned.checked.prog.veiledRec ·)) && Rows.fracEndsRow.veiledFits Try.pinned.checked.prog Try.f11.params.toList (Try.f11.params.toList ++ Rows.fracEndsSpec.plain.varTypes Try.pinned.checked.prog ++ Try.f11.resultTypes.toList)) = true := by kernel_rfl

set_option maxRecDepth 100000 in
/-- For every input, FracEnds returns true and its arguments read as they did: which of whatever fractions is the greatest, and which the least, is what the reference computes. -/
theorem fracEnds_holds : Rows.FracEndsSaid :=
  OpenClaim.holds_of_wide 11 Try.f11 rfl rfl rfl rfl rfl rfl rfl ⟨rfl, rfl, rfl, rfl, rfl⟩ rfl rfl rfl rfl rfl (by kernel_rfl) Try.func11 (joined_of entered rfl rfl laid fracEnds_g3 fracEnds_g4 fracEnds_g5 fracEnds_g6)
    (of_decide_eq_true (by kernel_rfl)) (by unfold Func.isWrapper; first | (rw [if_pos (by decide +kernel)]; kernel_rfl) | (rw [if_neg (by decide +kernel)]; exact ⟨rfl, rfl⟩))
    (fun os started H enc _ => fracEnds_lifted os started H enc)
#print axioms fracEnds_holds
end Go.Proofs.Ytdfkcijholopoaa
