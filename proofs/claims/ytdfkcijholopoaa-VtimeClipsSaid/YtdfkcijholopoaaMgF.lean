/- The rows' closed facts, cut in four, so that the kernel gives its memory back. -/
import Derived.Test.YtdfkcijholopoaaMg12
namespace Go.Proofs.Ytdfkcijholopoaa
open Go.ChangeShapes Go.WideShapes Go.ChangeAt Go.RowKit
set_option maxRecDepth 100000

/-- Of the program alone: how it is entered. -/
theorem entered : (Try.pinned.checked.prog.stopsHeard && Try.pinned.checked.prog.mayEnter && (Rows.wideOrderRow.lifted == Try.pinned.checked.prog.liftsFinal) && (Try.pinned.checked.prog.make == some Rows.wideOrderRow.make)) = true := by kernel_rfl
/-- Of the program alone: the rest. -/
theorem laid : (laidOutB Try.pinned.checked.prog && mapsRowed Try.pinned.checked.prog && (Try.pinned.checked.prog.stops == []) && (Try.pinned.checked.prog.stopKnobs == [])) = true := by kernel_rfl

theorem joined_of {P : Program} {f : FuncId} {fn : Func} {s : ChangeSpec} {c : OpenClaim} {l : Bool} {m : Make}
    (g1 : (P.stopsHeard && P.mayEnter && (l == P.liftsFinal) && (P.make == some m)) = true) (hl : c.lifted = l) (hm : c.make = m)
    (g2 : (laidOutB P && mapsRowed P && (P.stops == []) && (P.stopKnobs == [])) = true)
    (g3 : (c.wf (OpenSpec.ofChange s) && fn.params.all (P.readableRec ·) && namedTie P c.named s.vars && (c.stops == []) && (c.knobs == [])) = true)
    (g4 : ((c.inPlace == P.inPlace f) && (c.unfollowed == P.unfollowed f) && (c.recurses == P.recurses f) && (c.named == P.varsNamed f)) = true)
    (g5 : ((c.maps == (fn.params.toList ++ s.plain.varTypes P).any (P.mapsRec ·)) && (c.ifaces == (fn.params.toList ++ s.plain.varTypes P).any (P.ifacesRec ·)) && (c.mapsOut == P.mapsAmong fn.resultTypes.toList) &&
      (c.loops == (fn.params.toList ++ s.plain.varTypes P).any (P.loopsFrom ·)) && (c.wideKeys == (fn.params.toList ++ s.plain.varTypes P ++ fn.resultTypes.toList).any (P.wideKeysFrom ·)) &&
      s.vars.all (P.varReadable ·) && fn.resultTypes.all (fun t => P.readableRec t && decide (t < P.types.size)) && (c.ifacesOut == fn.resultTypes.toList.any (P.ifacesRec ·)) && (c.loopsOut == fn.resultTypes.toList.any (P.loopsFrom ·))) = true)
    (g6 : ((c.plainKeys == P.plainKeys) && c.shortTexts.isNone && (c.kinds == (if c.domain.isEmpty then [] else fn.params.toList.map fun t => match P.underlying t with | some (.int k) => some k | _ => none)) && (c.pinned == c.pinnedBy) &&
      (c.veiled == (fn.params.toList ++ s.plain.varTypes P ++ fn.resultTypes.toList).any (P.veiledRec ·)) && c.veiledFits P fn.params.toList (fn.params.toList ++ s.plain.varTypes P ++ fn.resultTypes.toList)) = true) :
    joinedFacts P f fn s c = true := by
  subst hl hm
  simp only [joinedFacts, Bool.and_eq_true] at *
  obtain ⟨⟨⟨a1, a2⟩, a3⟩, a4⟩ := g1
  obtain ⟨⟨⟨b1, b2⟩, b3⟩, b4⟩ := g2
  obtain ⟨⟨⟨⟨c1, c2⟩, c3⟩, c4⟩, c5⟩ := g3
  obtain ⟨⟨⟨d1, d2⟩, d3⟩, d4⟩ := g4
  obtain ⟨⟨⟨⟨⟨⟨⟨⟨e1, e2⟩, e3⟩, e4⟩, e5⟩, e6⟩, e7⟩, e8⟩, e9⟩ := g5
  obtain ⟨⟨⟨⟨⟨f1, f2⟩, f3⟩, f4⟩, f5⟩, f6⟩ := g6
  and_intros <;> assumption
end Go.Proofs.Ytdfkcijholopoaa
