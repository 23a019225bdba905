/- For every input, VtimeTells returns true and its arguments read as they did: which queues and runners may be, the top, whom a number finds, is what the reference computes. -/
import Derived.Test.YtdfkcijholopoaaRows
import Derived.Test.YtdfkcijholopoaaMgVtimeTells16
import Derived.Test.YtdfkcijholopoaaMgVtimeTells17
import Derived.Test.YtdfkcijholopoaaMgVtimeTells18
import Derived.Test.YtdfkcijholopoaaMgF
import Derived.OpenShut
import Derived.ChangeOld
import Derived.Below
namespace Go.Proofs.Ytdfkcijholopoaa
open Go.ChangeShapes Go.WideShapes Go.ChangeAt Go.RowKit
open Vm
set_option linter.unusedVariables false

set_option maxRecDepth 100000 in
theorem vtimeTells_lifted (os : Os) (started : os.Started) (H : Type) (enc : TypeId × Value → H) :
    ReturnsInHanded {} Try.checked os 19 .any (Rows.vtimeTellsSpec.pre6 enc Try.prog Try.f19 Rows.vtimeTellsRow.domain false) (Rows.vtimeTellsSpec.post enc Try.prog Try.f19 false true false false) := by
  refine returnsInHanded_of_change (C := Try.checked) own started (by kernel_rfl) Try.func19
    (ChangeSpec.witness6 (enc := enc) (C := Try.checked) false ⟨#[], #[.slice none 0 0, .slice none 0 0], []⟩ 8 (by kernel_rfl) (by kernel_rfl) (by kernel_rfl) (by kernel_rfl)) ?_
  intro W base args ds gs before hval0 hW hcnd _
  have hval : ∀ (j : Nat) t v, Try.f19.params[j]? = some t → args[j]? = some v → Value.okWide Try.prog W .any base t v := hval0
  have hW' := hW
  obtain ⟨p, q, hA0, hV, rfl, hfz, hnd⟩ := hW
  have hA : DataW.TrodAll enc Try.prog W 0 (fun _ => true) true Try.f19.params.toList args.toList ds p := hA0
  rw [Try.params19] at hA hval
  obtain ⟨v0, vs0, d0, ds0, p0, q0, hargs, rfl, rfl, h0, r0⟩ := trodAll_cons hA
  obtain ⟨v1, vs1, d1, ds1, p1, q1, rfl, rfl, rfl, h1, r1⟩ := trodAll_cons r0
  obtain ⟨rfl, rfl, rfl⟩ := trodAll_nil r1
  obtain rfl : args = #[v0, v1] := by cases args; simp_all
  obtain ⟨rfl, rfl⟩ := trodVars_none hV
  have k0 := h0
  have lt0 : ∀ x ∈ p0, x.block < W.heap.size := by obtain ⟨m, hm⟩ := k0; exact DataW.trod_lt m _ _ _ hm
  have k1 := h1
  have lt1 : ∀ x ∈ p1, x.block < W.heap.size := by obtain ⟨m, hm⟩ := k1; exact DataW.trod_lt m _ _ _ hm
  clear hA0 hval0
  have key : Calls Try.prog 19 #[v0, v1] W (fun e w' => e = .returned (.bool true) ∧ Below W.heap.size W w') := by
    have hm60 : maxLen < 2 ^ 63 := by decide
    rcases open_queues (hval 0 110 v0 rfl rfl) h0 with rfl | ⟨b, o, len, cap, cur, tt, fz, E, rfl, hb, hE, hcell⟩ <;> rcases open_rows (q := okRn) (f := rc) (sz := 5) (fun a => rc_len a) (by decide) Try.underlying53 cells67 (fun _ _ _ => rn_cells) (hval 1 53 v1 rfl rfl) h1 with rfl | ⟨b1, o1, cap1, l1, cur1, tt1, fz1, rfl, hc1, hm1, hq1, hb1, hcell1⟩
    · exact p19qr.calls W
    · refine ro_real (p19q l1 cap1 (by omega)) (fun k => if k = 0 then some (b1, o1) else none) (relL_cons (.plain (by rfl)) (relL_cons (rel_slice rfl) relL_nil)) (by simp) fun x hx => ?_
      simp only [List.mem_singleton] at hx
      subst hx
      exact ⟨rcs_plain l1, b1, o1, cur1, tt1, fz1, rfl, hb1, hcell1⟩
    · exact rc_real (p19r len cap 0 (min len 9) (fun i => (E i).nil) (fun i => (E i).l) (fun i => (E i).c) [] (fun i _ _ => by omega) (by omega) (by simp) (fun i r hr => ((hE i).ok r hr).2.2) (fun i => (hE i).none) (fun i => (hE i).room)) (placeF (b, o) (b, o) E)
        (relL_cons (rel_slice rfl) (relL_cons (.plain (by rfl)) relL_nil)) (by simp) (row_real hb hE hcell hb (fun i v hv => by simp [rws] at hv))
    · exact rc_real (p19t len cap cap1 (min len 9) (fun i => (E i).nil) (fun i => (E i).l) (fun i => (E i).c) l1 (fun i _ _ => by omega) (by omega) (by omega) (fun i r hr => ((hE i).ok r hr).2.2) (fun i => (hE i).none) (fun i => (hE i).room)) (placeF (b, o) (b1, o1) E)
        (relL_cons (rel_slice rfl) (relL_cons (rel_slice rfl) relL_nil)) (by simp) (row_real hb hE hcell hb1 hcell1)
  refine key.mono fun e W' ⟨he, bel⟩ => ?_
  subst he
  exact ⟨_, rfl, _, _, _, [], _, [], hW', trodAll_mk1 (shut_bool Try.underlying4 _), (trodAll_cons_mk (Below.trod laidOut (by kernel_rfl) (of_decide_eq_true (by kernel_rfl)) k0 bel lt0) (trodAll_cons_mk (Below.trod laidOut (by kernel_rfl) (of_decide_eq_true (by kernel_rfl)) k1 bel lt1) trodAll_mk0)), rfl, bel.frame _, fun h => by cases h⟩

theorem vtimeTells_g3 : (Rows.vtimeTellsRow.wf (OpenSpec.ofChange Rows.vtimeTellsSpec) && Try.f19.params.all (Try.pinned.checked.prog.readableRec ·) && namedTie Try.pinned.checked.prog Rows.vtimeTellsRow.named Rows.vtimeTellsSpec.vars && (Rows.vtimeTellsRow.stops == []) && (Rows.vtimeTellsRow.knobs == [])) = true := by kernel_rfl
theorem vtimeTells_g4 : ((Rows.vtimeTellsRow.inPlace == Try.pinned.checked.prog.inPlace 19) && (Rows.vtimeTellsRow.unfollowed == Try.pinned.checked.prog.unfollowed 19) && (Rows.vtimeTellsRow.recurses == Try.pinned.checked.prog.recurses 19) && (Rows.vtimeTellsRow.named == Try.pinned.checked.prog.varsNamed 19)) = true := by kernel_rfl
theorem vtimeTells_g5 : ((Rows.vtimeTellsRow.maps == (Try.f19.params.toList ++ Rows.vtimeTellsSpec.plain.varTypes Try.pinned.checked.prog).any (Try.pinned.checked.prog.mapsRec ·)) && (Rows.vtimeTellsRow.ifaces == (Try.f19.params.toList ++ Rows.vtimeTellsSpec.plain.varTypes Try.pinned.checked.prog).any (Try.pinned.checked.prog.ifacesRec ·)) && (Rows.vtimeTellsRow.mapsOut == Try.pinned.checked.prog.mapsAmong Try.f19.resultTypes.toList) && (Rows.vtimeTellsRow.loops == (Try.f19.params.toList ++ Rows.vtimeTellsSpec.plain.varTypes Try.pinned.checked.prog).any (Try.pinned.checked.prog.loopsFrom ·)) && (Rows.vtimeTellsRow.wideKeys == (Try.f19.params.toList ++ Rows.vtimeTellsSpec.plain.varTypes Try.pinned.checked.prog ++ Try.f19.resultTypes.toList).any (Try.pinned.checked.prog.wideKeysFrom ·)) && Rows.vtimeTellsSpec.vars.all (Try.pinned.checked.prog.varReadable ·) && Try.f19.resultTypes.all (fun t => Try.pinned.checked.prog.readableRec t && decide (t < Try.pinned.checked.prog.types.size)) && (Rows.vtimeTellsRow.ifacesOut == Try.f19.resultTypes.toList.any (Try.pinned.checked.prog.ifacesRec ·)) && (Rows.vtimeTellsRow.loopsOut == Try.f19.resultTypes.toList.any (Try.pinned.checked.prog.loopsFrom ·))) = true := by kernel_rfl
theorem vtimeTells_g6 : ((Rows.vtimeTellsRow.plainKeys == Try.pinned.checked.prog.plainKeys) && Rows.vtimeTellsRow.shortTexts.isNone && (Rows.vtimeTellsRow.kinds == (if Rows.vtimeTellsRow.domain.isEmpty then [] else Try.f19.params.toList.map fun t => match Try.pinned.checked.prog.underlying t with | some (.int k) => some k | _ => none)) && (Rows.vtimeTellsRow.pinned == Rows.vtimeTellsRow.pinnedBy) && (Rows.vtimeTellsRow.veiled == (Try.f19.params.toList ++ Rows.vtimeTellsSpec.plain.varTypes Try.pinned.checked.prog ++ Try.f19.resultTypes.toList).any (Try.pinned.checked.prog.veiledRec ·)) && Rows.vtimeTellsRow.veiledFits Try.pinned.checked.prog Try.f19.params.toList (Try.f19.params.toList ++ Rows.vtimeTellsSpec.plain.varTypes Try.pinned.checked.prog ++ Try.f19.resultTypes.toList)) = true := by kernel_rfl

set_option maxRecDepth 100000 in
/-- For every input, VtimeTells returns true and its arguments read as they did: which queues and runners may be, the top, whom a number finds, is what the reference computes. -/
theorem vtimeTells_holds : Rows.VtimeTellsSaid :=
  OpenClaim.holds_of_wide 19 Try.f19 rfl rfl rfl rfl rfl rfl rfl ⟨rfl, rfl, rfl, rfl, rfl⟩ rfl rfl rfl rfl rfl (by kernel_rfl) Try.func19 (joined_of entered rfl rfl laid vtimeTells_g3 vtimeTells_g4 vtimeTells_g5 vtimeTells_g6)
    (of_decide_eq_true (by kernel_rfl)) (by unfold Func.isWrapper; first | (rw [if_pos (by decide +kernel)]; kernel_rfl) | (rw [if_neg (by decide +kernel)]; exact ⟨rfl, rfl⟩))
    (fun os started H enc _ => vtimeTells_lifted os started H enc)
#print axioms vtimeTells_holds
end Go.Proofs.Ytdfkcijholopoaa
