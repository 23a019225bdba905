/- For every input, VtimeNear returns true and its arguments read as they did: who joins comes near the top, not behind where they were, not ahead by more than they may, and leaves as they came. -/
import Derived.Test.YtdfkcijholopoaaRows
import Derived.Test.YtdfkcijholopoaaMgVtimeNear14
import Derived.Test.YtdfkcijholopoaaMg13
import Derived.Test.YtdfkcijholopoaaMgF
import Derived.OpenShut
import Derived.ChangeOld
import Derived.Below
namespace Go.Proofs.Ytdfkcijholopoaa
open Go.ChangeShapes Go.WideShapes Go.ChangeAt Go.RowKit
open Vm
set_option linter.unusedVariables false

set_option maxRecDepth 100000 in
theorem vtimeNear_lifted (os : Os) (started : os.Started) (H : Type) (enc : TypeId × Value → H) :
    ReturnsInHanded {} Try.checked os 9 .any (Rows.vtimeNearSpec.pre6 enc Try.prog Try.f9 Rows.vtimeNearRow.domain false) (Rows.vtimeNearSpec.post enc Try.prog Try.f9 false true false false) := by
  refine returnsInHanded_of_change (C := Try.checked) own started (by kernel_rfl) Try.func9
    (ChangeSpec.witness6 (enc := enc) (C := Try.checked) false ⟨#[], #[.agg #[.slice none 0 0], .agg #[.int .i64 0, .int .i64 0, .int .u64 0, .int .u64 0, .int .u64 0], .int .u64 0], []⟩ 8 (by kernel_rfl) (by kernel_rfl) (by kernel_rfl) (by kernel_rfl)) ?_
  intro W base args ds gs before hval0 hW hcnd _
  have hval : ∀ (j : Nat) t v, Try.f9.params[j]? = some t → args[j]? = some v → Value.okWide Try.prog W .any base t v := hval0
  have hW' := hW
  obtain ⟨p, q, hA0, hV, rfl, hfz, hnd⟩ := hW
  have hA : DataW.TrodAll enc Try.prog W 0 (fun _ => true) true Try.f9.params.toList args.toList ds p := hA0
  rw [Try.params9] at hA hval
  obtain ⟨v0, vs0, d0, ds0, p0, q0, hargs, rfl, rfl, h0, r0⟩ := trodAll_cons hA
  obtain ⟨v1, vs1, d1, ds1, p1, q1, rfl, rfl, rfl, h1, r1⟩ := trodAll_cons r0
  obtain ⟨v2, vs2, d2, ds2, p2, q2, rfl, rfl, rfl, h2, r2⟩ := trodAll_cons r1
  obtain ⟨rfl, rfl, rfl⟩ := trodAll_nil r2
  obtain rfl : args = #[v0, v1, v2] := by cases args; simp_all
  obtain ⟨rfl, rfl⟩ := trodVars_none hV
  have k0 := h0
  have lt0 : ∀ x ∈ p0, x.block < W.heap.size := by obtain ⟨m, hm⟩ := k0; exact DataW.trod_lt m _ _ _ hm
  have k1 := h1
  have lt1 : ∀ x ∈ p1, x.block < W.heap.size := by obtain ⟨m, hm⟩ := k1; exact DataW.trod_lt m _ _ _ hm
  have k2 := h2
  have lt2 : ∀ x ∈ p2, x.block < W.heap.size := by obtain ⟨m, hm⟩ := k2; exact DataW.trod_lt m _ _ _ hm
  obtain ⟨n1, hn1, rfl⟩ := open_rn (hval 1 67 v1 rfl rfl) h1
  obtain ⟨n2, hn2, rfl⟩ := open_u64 (hval 2 22 v2 rfl rfl) h2
  clear hA0 hval0
  have key : Calls Try.prog 9 #[v0, rv n1, u64 n2] W (fun e w' => e = .returned (.bool true) ∧ Below W.heap.size W w') := by
    rcases open_queue (hval 0 55 v0 rfl rfl) h0 with rfl | ⟨b, o, cap, l, cur, tt, fz, rfl, hc, _, hq, hb, hcell⟩
    · exact (p9nil n1 n2 hn2).calls W
    · refine ro_real (p9 l n1 n2 cap hn2 hc) (fun k => if k = 0 then some (b, o) else none) (relL_cons (rel_agg1 (rel_slice rfl)) (relL_cons (.plain (by rfl)) (relL_cons (.plain (by rfl)) relL_nil))) (by simp) fun x hx => ?_
      simp only [List.mem_singleton] at hx
      subst hx
      exact ⟨rcs_plain l, b, o, cur, tt, fz, rfl, hb, hcell⟩
  refine key.mono fun e W' ⟨he, bel⟩ => ?_
  subst he
  exact ⟨_, rfl, _, _, _, [], _, [], hW', trodAll_mk1 (shut_bool Try.underlying4 _), (trodAll_cons_mk (Below.trod laidOut (by kernel_rfl) (of_decide_eq_true (by kernel_rfl)) k0 bel lt0) (trodAll_cons_mk (Below.trod laidOut (by kernel_rfl) (of_decide_eq_true (by kernel_rfl)) k1 bel lt1) (trodAll_cons_mk (Below.trod laidOut (by kernel_rfl) (of_decide_eq_true (by kernel_rfl)) k2 bel lt2) trodAll_mk0))), rfl, bel.frame _, fun h => by cases h⟩

theorem vtimeNear_g3 : (Rows.vtimeNearRow.wf (OpenSpec.ofChange Rows.vtimeNearSpec) && Try.f9.params.all (Try.pinned.checked.prog.readableRec ·) && namedTie Try.pinned.checked.prog Rows.vtimeNearRow.named Rows.vtimeNearSpec.vars && (Rows.vtimeNearRow.stops == []) && (Rows.vtimeNearRow.knobs == [])) = true := by kernel_rfl
theorem vtimeNear_g4 : ((Rows.vtimeNearRow.inPlace == Try.pinned.checked.prog.inPlace 9) && (Rows.vtimeNearRow.unfollowed == Try.pinned.checked.prog.unfollowed 9) && (Rows.vtimeNearRow.recurses == Try.pinned.checked.prog.recurses 9) && (Rows.vtimeNearRow.named == Try.pinned.checked.prog.varsNamed 9)) = true := by kernel_rfl
theorem vtimeNear_g5 : ((Rows.vtimeNearRow.maps == (Try.f9.params.toList ++ Rows.vtimeNearSpec.plain.varTypes Try.pinned.checked.prog).any (Try.pinned.checked.prog.mapsRec ·)) && (Rows.vtimeNearRow.ifaces == (Try.f9.params.toList ++ Rows.vtimeNearSpec.plain.varTypes Try.pinned.checked.prog).any (Try.pinned.checked.prog.ifacesRec ·)) && (Rows.vtimeNearRow.mapsOut == Try.pinned.checked.prog.mapsAmong Try.f9.resultTypes.toList) && (Rows.vtimeNearRow.loops == (Try.f9.params.toList ++ Rows.vtimeNearSpec.plain.varTypes Try.pinned.checked.prog).any (Try.pinned.checked.prog.loopsFrom ·)) && (Rows.vtimeNearRow.wideKeys == (Try.f9.params.toList ++ Rows.vtimeNearSpec.plain.varTypes Try.pinned.checked.prog ++ Try.f9.resultTypes.toList).any (Try.pinned.checked.prog.wideKeysFrom ·)) && Rows.vtimeNearSpec.vars.all (Try.pinned.checked.prog.varReadable ·) && Try.f9.resultTypes.all (fun t => Try.pinned.checked.prog.readableRec t && decide (t < Try.pinned.checked.prog.types.size)) && (Rows.vtimeNearRow.ifacesOut == Try.f9.resultTypes.toList.any (Try.pinned.checked.prog.ifacesRec ·)) && (Rows.vtimeNearRow.loopsOut == Try.f9.resultTypes.toList.any (Try.pinned.checked.prog.loopsFrom ·))) = true := by kernel_rfl
theorem vtimeNear_g6 : ((Rows.vtimeNearRow.plainKeys == Try.pinned.checked.prog.plainKeys) && Rows.vtimeNearRow.shortTexts.isNone && (Rows.vtimeNearRow.kinds == (if Rows.vtimeNearRow.domain.isEmpty then [] else Try.f9.params.toList.map fun t => match Try.pinned.checked.prog.underlying t with | some (.int k) => some k | _ => none)) && (Rows.vtimeNearRow.pinned == Rows.vtimeNearRow.pinnedBy) && (Rows.vtimeNearRow.veiled == (Try.f9.params.toList ++ Rows.vtimeNearSpec.plain.varTypes Try.pinned.checked.prog ++ Try.f9.resultTypes.toList).any (Try.pinned.checked.prog.veiledRec ·)) && Rows.vtimeNearRow.veiledFits Try.pinned.checked.prog Try.f9.params.toList (Try.f9.params.toList ++ Rows.vtimeNearSpec.plain.varTypes Try.pinned.checked.prog ++ Try.f9.resultTypes.toList)) = true := by kernel_rfl

set_option maxRecDepth 100000 in
/-- For every input, VtimeNear returns true and its arguments read as they did: who joins comes near the top, not behind where they were, not ahead by more than they may, and leaves as they came. -/
theorem vtimeNear_holds : Rows.VtimeNearSaid :=
  OpenClaim.holds_of_wide 9 Try.f9 rfl rfl rfl rfl rfl rfl rfl ⟨rfl, rfl, rfl, rfl, rfl⟩ rfl rfl rfl rfl rfl (by kernel_rfl) Try.func9 (joined_of entered rfl rfl laid vtimeNear_g3 vtimeNear_g4 vtimeNear_g5 vtimeNear_g6)
    (of_decide_eq_true (by kernel_rfl)) (by unfold Func.isWrapper; first | (rw [if_pos (by decide +kernel)]; kernel_rfl) | (rw [if_neg (by decide +kernel)]; exact ⟨rfl, rfl⟩))
    (fun os started H enc _ => vtimeNear_lifted os started H enc)
#print axioms vtimeNear_holds
end Go.Proofs.Ytdfkcijholopoaa
