/-
  No cell of these rows narrows 'for every input' (looked for: loops, veiled, ifaces, maps, wideKeys, modest, calm, conditions, laid).
  DERIVED. THE GIVEN ROWS OF THIS SEAT. 18 by the template 'for every input the law returns true; each argument reads behind the call as it read before'; 0 by the template 'total and deterministic' (their statements: YtdfkcijholopoaaTotals.lean).
  GIVEN WITH THE SEED: the statements are not yours to turn. If you find one false, say at which input.
  Laid BY PROGRAM, IN A SANDBOX (cutbox-rows.mjs): the forced cells as the released guide's own fill.sh prints them over the translation c1a31e343312744b… (all of the seat's roots in one cut). By AI agents, Wed Nov 11 2026. No macro, syntax, notation, axiom, sorry.
-/
import Derived.Test.YtdfkcijholopoaaChecked
import GoSem.Claim
import GoSem.ClaimJoined
import GoSem.ClaimMapViews
import Derived.JoinedTies
import Derived.KernelRfl
namespace Go.Proofs.Ytdfkcijholopoaa
/- THE CELL 'sum', in the pinned program and in every row, IS THE sha256 OF THE DUMP (.gsa) THAT YtdfkcijholopoaaProg.lean LOADS. Nothing in Lean hashes anything: it is a label: what it is worth is what the hold of that sum in a sandbox is worth. -/
noncomputable def Try.pinned : Pinned := { name := "ytdfkcijholopoaa", sum := "c1a31e343312744b22762ed4b47b586ab7a5d3a7c7e8a18e128775cc74c2b631", checked := Try.checked }
namespace Rows
def none {H : Type} : Left H := { results := [], args := [] }

/-- 'mainsheetlaw03.WideDivs': WHATEVER THE INPUT: true; the input reads as it did. -/
def wideDivsSpec : ChangeSpec := { name := "wideDivs", fn := fun _ => fun
  | [d1, d2, d3] => { results := [.lit (.bool true)], args := [d1, d2, d3] }
  | _ => none }
def wideDivsRow : OpenClaim := { program := "ytdfkcijholopoaa", sum := "c1a31e343312744b22762ed4b47b586ab7a5d3a7c7e8a18e128775cc74c2b631", func := "mainsheet/mainsheetlaw03.WideDivs", spec := "wideDivs", apart := false }
def WideDivsSaid : Prop := wideDivsRow.holds Try.pinned (OpenSpec.ofChange wideDivsSpec)

/-- ITS FALSE NEIGHBOUR: 'it returns false'. Refute it at one input. -/
def wideDivsWrong : ChangeSpec := { name := "wideDivs", fn := fun _ => fun
  | [d1, d2, d3] => { results := [.lit (.bool false)], args := [d1, d2, d3] }
  | _ => none }
def WideDivsWrongFalsely : Prop := wideDivsRow.holds Try.pinned (OpenSpec.ofChange wideDivsWrong)

/-- 'mainsheetlaw03.WideMulDivs': WHATEVER THE INPUT: true; the input reads as it did. -/
def wideMulDivsSpec : ChangeSpec := { name := "wideMulDivs", fn := fun _ => fun
  | [d1, d2, d3] => { results := [.lit (.bool true)], args := [d1, d2, d3] }
  | _ => none }
def wideMulDivsRow : OpenClaim := { program := "ytdfkcijholopoaa", sum := "c1a31e343312744b22762ed4b47b586ab7a5d3a7c7e8a18e128775cc74c2b631", func := "mainsheet/mainsheetlaw03.WideMulDivs", spec := "wideMulDivs", apart := false }
def WideMulDivsSaid : Prop := wideMulDivsRow.holds Try.pinned (OpenSpec.ofChange wideMulDivsSpec)

/-- ITS FALSE NEIGHBOUR: 'it returns false'. Refute it at one input. -/
def wideMulDivsWrong : ChangeSpec := { name := "wideMulDivs", fn := fun _ => fun
  | [d1, d2, d3] => { results := [.lit (.bool false)], args := [d1, d2, d3] }
  | _ => none }
def WideMulDivsWrongFalsely : Prop := wideMulDivsRow.holds Try.pinned (OpenSpec.ofChange wideMulDivsWrong)

/-- 'mainsheetlaw03.WideOrder': WHATEVER THE INPUT: true; the input reads as it did. -/
def wideOrderSpec : ChangeSpec := { name := "wideOrder", fn := fun _ => fun
  | [d1, d2, d3] => { results := [.lit (.bool true)], args := [d1, d2, d3] }
  | _ => none }
def wideOrderRow : OpenClaim := { program := "ytdfkcijholopoaa", sum := "c1a31e343312744b22762ed4b47b586ab7a5d3a7c7e8a18e128775cc74c2b631", func := "mainsheet/mainsheetlaw03.WideOrder", spec := "wideOrder", apart := false }
def WideOrderSaid : Prop := wideOrderRow.holds Try.pinned (OpenSpec.ofChange wideOrderSpec)

/-- ITS FALSE NEIGHBOUR: 'it returns false'. Refute it at one input. -/
def wideOrderWrong : ChangeSpec := { name := "wideOrder", fn := fun _ => fun
  | [d1, d2, d3] => { results := [.lit (.bool false)], args := [d1, d2, d3] }
  | _ => none }
def WideOrderWrongFalsely : Prop := wideOrderRow.holds Try.pinned (OpenSpec.ofChange wideOrderWrong)

/-- 'mainsheetlaw03.WideSums': WHATEVER THE INPUT: true; the input reads as it did. -/
def wideSumsSpec : ChangeSpec := { name := "wideSums", fn := fun _ => fun
  | [d1, d2] => { results := [.lit (.bool true)], args := [d1, d2] }
  | _ => none }
def wideSumsRow : OpenClaim := { program := "ytdfkcijholopoaa", sum := "c1a31e343312744b22762ed4b47b586ab7a5d3a7c7e8a18e128775cc74c2b631", func := "mainsheet/mainsheetlaw03.WideSums", spec := "wideSums", apart := false }
def WideSumsSaid : Prop := wideSumsRow.holds Try.pinned (OpenSpec.ofChange wideSumsSpec)

/-- ITS FALSE NEIGHBOUR: 'it returns false'. Refute it at one input. -/
def wideSumsWrong : ChangeSpec := { name := "wideSums", fn := fun _ => fun
  | [d1, d2] => { results := [.lit (.bool false)], args := [d1, d2] }
  | _ => none }
def WideSumsWrongFalsely : Prop := wideSumsRow.holds Try.pinned (OpenSpec.ofChange wideSumsWrong)

/-- 'mainsheetlaw10.VtimeClips': WHATEVER THE INPUT: true; the input reads as it did. -/
def vtimeClipsSpec : ChangeSpec := { name := "vtimeClips", fn := fun _ => fun
  | [d] => { results := [.lit (.bool true)], args := [d] }
  | _ => none }
def vtimeClipsRow : OpenClaim := { program := "ytdfkcijholopoaa", sum := "c1a31e343312744b22762ed4b47b586ab7a5d3a7c7e8a18e128775cc74c2b631", func := "mainsheet/mainsheetlaw10.VtimeClips", spec := "vtimeClips", inPlace := ["slices.overlaps[mainsheet/api.Runner]"], unfollowed := true, recurses := true, apart := false }
def VtimeClipsSaid : Prop := vtimeClipsRow.holds Try.pinned (OpenSpec.ofChange vtimeClipsSpec)

/-- ITS FALSE NEIGHBOUR: 'it returns false'. Refute it at one input. -/
def vtimeClipsWrong : ChangeSpec := { name := "vtimeClips", fn := fun _ => fun
  | [d] => { results := [.lit (.bool false)], args := [d] }
  | _ => none }
def VtimeClipsWrongFalsely : Prop := vtimeClipsRow.holds Try.pinned (OpenSpec.ofChange vtimeClipsWrong)

/-- 'mainsheetlaw03.WideScales': WHATEVER THE INPUT: true; the input reads as it did. -/
def wideScalesSpec : ChangeSpec := { name := "wideScales", fn := fun _ => fun
  | [d1, d2, d3] => { results := [.lit (.bool true)], args := [d1, d2, d3] }
  | _ => none }
def wideScalesRow : OpenClaim := { program := "ytdfkcijholopoaa", sum := "c1a31e343312744b22762ed4b47b586ab7a5d3a7c7e8a18e128775cc74c2b631", func := "mainsheet/mainsheetlaw03.WideScales", spec := "wideScales", apart := false }
def WideScalesSaid : Prop := wideScalesRow.holds Try.pinned (OpenSpec.ofChange wideScalesSpec)

/-- ITS FALSE NEIGHBOUR: 'it returns false'. Refute it at one input. -/
def wideScalesWrong : ChangeSpec := { name := "wideScales", fn := fun _ => fun
  | [d1, d2, d3] => { results := [.lit (.bool false)], args := [d1, d2, d3] }
  | _ => none }
def WideScalesWrongFalsely : Prop := wideScalesRow.holds Try.pinned (OpenSpec.ofChange wideScalesWrong)

/-- 'mainsheetlaw10.VtimeNear': WHATEVER THE INPUT: true; the input reads as it did. -/
def vtimeNearSpec : ChangeSpec := { name := "vtimeNear", fn := fun _ => fun
  | [d1, d2, d3] => { results := [.lit (.bool true)], args := [d1, d2, d3] }
  | _ => none }
def vtimeNearRow : OpenClaim := { program := "ytdfkcijholopoaa", sum := "c1a31e343312744b22762ed4b47b586ab7a5d3a7c7e8a18e128775cc74c2b631", func := "mainsheet/mainsheetlaw10.VtimeNear", spec := "vtimeNear", inPlace := ["slices.overlaps[mainsheet/api.Runner]"], unfollowed := true, recurses := true, apart := false }
def VtimeNearSaid : Prop := vtimeNearRow.holds Try.pinned (OpenSpec.ofChange vtimeNearSpec)

/-- ITS FALSE NEIGHBOUR: 'it returns false'. Refute it at one input. -/
def vtimeNearWrong : ChangeSpec := { name := "vtimeNear", fn := fun _ => fun
  | [d1, d2, d3] => { results := [.lit (.bool false)], args := [d1, d2, d3] }
  | _ => none }
def VtimeNearWrongFalsely : Prop := vtimeNearRow.holds Try.pinned (OpenSpec.ofChange vtimeNearWrong)

/-- 'mainsheetlaw03.WideBack': WHATEVER THE INPUT: true; the input reads as it did. -/
def wideBackSpec : ChangeSpec := { name := "wideBack", fn := fun _ => fun
  | [d1, d2, d3] => { results := [.lit (.bool true)], args := [d1, d2, d3] }
  | _ => none }
def wideBackRow : OpenClaim := { program := "ytdfkcijholopoaa", sum := "c1a31e343312744b22762ed4b47b586ab7a5d3a7c7e8a18e128775cc74c2b631", func := "mainsheet/mainsheetlaw03.WideBack", spec := "wideBack", unfollowed := true, recurses := true, apart := false }
def WideBackSaid : Prop := wideBackRow.holds Try.pinned (OpenSpec.ofChange wideBackSpec)

/-- ITS FALSE NEIGHBOUR: 'it returns false'. Refute it at one input. -/
def wideBackWrong : ChangeSpec := { name := "wideBack", fn := fun _ => fun
  | [d1, d2, d3] => { results := [.lit (.bool false)], args := [d1, d2, d3] }
  | _ => none }
def WideBackWrongFalsely : Prop := wideBackRow.holds Try.pinned (OpenSpec.ofChange wideBackWrong)

/-- 'mainsheetlaw05.FracEnds': WHATEVER THE INPUT: true; the input reads as it did. -/
def fracEndsSpec : ChangeSpec := { name := "fracEnds", fn := fun _ => fun
  | [d] => { results := [.lit (.bool true)], args := [d] }
  | _ => none }
def fracEndsRow : OpenClaim := { program := "ytdfkcijholopoaa", sum := "c1a31e343312744b22762ed4b47b586ab7a5d3a7c7e8a18e128775cc74c2b631", func := "mainsheet/mainsheetlaw05.FracEnds", spec := "fracEnds", unfollowed := true, recurses := true, apart := false }
def FracEndsSaid : Prop := fracEndsRow.holds Try.pinned (OpenSpec.ofChange fracEndsSpec)

/-- ITS FALSE NEIGHBOUR: 'it returns false'. Refute it at one input. -/
def fracEndsWrong : ChangeSpec := { name := "fracEnds", fn := fun _ => fun
  | [d] => { results := [.lit (.bool false)], args := [d] }
  | _ => none }
def FracEndsWrongFalsely : Prop := fracEndsRow.holds Try.pinned (OpenSpec.ofChange fracEndsWrong)

/-- 'mainsheetlaw05.FracTells': WHATEVER THE INPUT: true; the input reads as it did. -/
def fracTellsSpec : ChangeSpec := { name := "fracTells", fn := fun _ => fun
  | [d1, d2, d3] => { results := [.lit (.bool true)], args := [d1, d2, d3] }
  | _ => none }
def fracTellsRow : OpenClaim := { program := "ytdfkcijholopoaa", sum := "c1a31e343312744b22762ed4b47b586ab7a5d3a7c7e8a18e128775cc74c2b631", func := "mainsheet/mainsheetlaw05.FracTells", spec := "fracTells", apart := false }
def FracTellsSaid : Prop := fracTellsRow.holds Try.pinned (OpenSpec.ofChange fracTellsSpec)

/-- ITS FALSE NEIGHBOUR: 'it returns false'. Refute it at one input. -/
def fracTellsWrong : ChangeSpec := { name := "fracTells", fn := fun _ => fun
  | [d1, d2, d3] => { results := [.lit (.bool false)], args := [d1, d2, d3] }
  | _ => none }
def FracTellsWrongFalsely : Prop := fracTellsRow.holds Try.pinned (OpenSpec.ofChange fracTellsWrong)

/-- 'mainsheetlaw05.FracOver': WHATEVER THE INPUT: true; the input reads as it did. -/
def fracOverSpec : ChangeSpec := { name := "fracOver", fn := fun _ => fun
  | [d1, d2] => { results := [.lit (.bool true)], args := [d1, d2] }
  | _ => none }
def fracOverRow : OpenClaim := { program := "ytdfkcijholopoaa", sum := "c1a31e343312744b22762ed4b47b586ab7a5d3a7c7e8a18e128775cc74c2b631", func := "mainsheet/mainsheetlaw05.FracOver", spec := "fracOver", apart := false }
def FracOverSaid : Prop := fracOverRow.holds Try.pinned (OpenSpec.ofChange fracOverSpec)

/-- ITS FALSE NEIGHBOUR: 'it returns false'. Refute it at one input. -/
def fracOverWrong : ChangeSpec := { name := "fracOver", fn := fun _ => fun
  | [d1, d2] => { results := [.lit (.bool false)], args := [d1, d2] }
  | _ => none }
def FracOverWrongFalsely : Prop := fracOverRow.holds Try.pinned (OpenSpec.ofChange fracOverWrong)

/-- 'mainsheetlaw05.FracMoves': WHATEVER THE INPUT: true; the input reads as it did. -/
def fracMovesSpec : ChangeSpec := { name := "fracMoves", fn := fun _ => fun
  | [d1, d2, d3] => { results := [.lit (.bool true)], args := [d1, d2, d3] }
  | _ => none }
def fracMovesRow : OpenClaim := { program := "ytdfkcijholopoaa", sum := "c1a31e343312744b22762ed4b47b586ab7a5d3a7c7e8a18e128775cc74c2b631", func := "mainsheet/mainsheetlaw05.FracMoves", spec := "fracMoves", apart := false }
def FracMovesSaid : Prop := fracMovesRow.holds Try.pinned (OpenSpec.ofChange fracMovesSpec)

/-- ITS FALSE NEIGHBOUR: 'it returns false'. Refute it at one input. -/
def fracMovesWrong : ChangeSpec := { name := "fracMoves", fn := fun _ => fun
  | [d1, d2, d3] => { results := [.lit (.bool false)], args := [d1, d2, d3] }
  | _ => none }
def FracMovesWrongFalsely : Prop := fracMovesRow.holds Try.pinned (OpenSpec.ofChange fracMovesWrong)

/-- 'mainsheetlaw05.FracOrder': WHATEVER THE INPUT: true; the input reads as it did. -/
def fracOrderSpec : ChangeSpec := { name := "fracOrder", fn := fun _ => fun
  | [d1, d2, d3] => { results := [.lit (.bool true)], args := [d1, d2, d3] }
  | _ => none }
def fracOrderRow : OpenClaim := { program := "ytdfkcijholopoaa", sum := "c1a31e343312744b22762ed4b47b586ab7a5d3a7c7e8a18e128775cc74c2b631", func := "mainsheet/mainsheetlaw05.FracOrder", spec := "fracOrder", apart := false }
def FracOrderSaid : Prop := fracOrderRow.holds Try.pinned (OpenSpec.ofChange fracOrderSpec)

/-- ITS FALSE NEIGHBOUR: 'it returns false'. Refute it at one input. -/
def fracOrderWrong : ChangeSpec := { name := "fracOrder", fn := fun _ => fun
  | [d1, d2, d3] => { results := [.lit (.bool false)], args := [d1, d2, d3] }
  | _ => none }
def FracOrderWrongFalsely : Prop := fracOrderRow.holds Try.pinned (OpenSpec.ofChange fracOrderWrong)

/-- 'mainsheetlaw05.FracClips': WHATEVER THE INPUT: true; the input reads as it did. -/
def fracClipsSpec : ChangeSpec := { name := "fracClips", fn := fun _ => fun
  | [d1, d2, d3] => { results := [.lit (.bool true)], args := [d1, d2, d3] }
  | _ => none }
def fracClipsRow : OpenClaim := { program := "ytdfkcijholopoaa", sum := "c1a31e343312744b22762ed4b47b586ab7a5d3a7c7e8a18e128775cc74c2b631", func := "mainsheet/mainsheetlaw05.FracClips", spec := "fracClips", apart := false }
def FracClipsSaid : Prop := fracClipsRow.holds Try.pinned (OpenSpec.ofChange fracClipsSpec)

/-- ITS FALSE NEIGHBOUR: 'it returns false'. Refute it at one input. -/
def fracClipsWrong : ChangeSpec := { name := "fracClips", fn := fun _ => fun
  | [d1, d2, d3] => { results := [.lit (.bool false)], args := [d1, d2, d3] }
  | _ => none }
def FracClipsWrongFalsely : Prop := fracClipsRow.holds Try.pinned (OpenSpec.ofChange fracClipsWrong)

/-- 'mainsheetlaw10.VtimeWeighs': WHATEVER THE INPUT: true; the input reads as it did. -/
def vtimeWeighsSpec : ChangeSpec := { name := "vtimeWeighs", fn := fun _ => fun
  | [d1, d2, d3] => { results := [.lit (.bool true)], args := [d1, d2, d3] }
  | _ => none }
def vtimeWeighsRow : OpenClaim := { program := "ytdfkcijholopoaa", sum := "c1a31e343312744b22762ed4b47b586ab7a5d3a7c7e8a18e128775cc74c2b631", func := "mainsheet/mainsheetlaw10.VtimeWeighs", spec := "vtimeWeighs", inPlace := ["slices.overlaps[mainsheet/api.Runner]"], unfollowed := true, recurses := true, apart := false }
def VtimeWeighsSaid : Prop := vtimeWeighsRow.holds Try.pinned (OpenSpec.ofChange vtimeWeighsSpec)

/-- ITS FALSE NEIGHBOUR: 'it returns false'. Refute it at one input. -/
def vtimeWeighsWrong : ChangeSpec := { name := "vtimeWeighs", fn := fun _ => fun
  | [d1, d2, d3] => { results := [.lit (.bool false)], args := [d1, d2, d3] }
  | _ => none }
def VtimeWeighsWrongFalsely : Prop := vtimeWeighsRow.holds Try.pinned (OpenSpec.ofChange vtimeWeighsWrong)

/-- 'mainsheetlaw10.VtimeRuns': WHATEVER THE INPUT: true; the input reads as it did. -/
def vtimeRunsSpec : ChangeSpec := { name := "vtimeRuns", fn := fun _ => fun
  | [d1, d2, d3] => { results := [.lit (.bool true)], args := [d1, d2, d3] }
  | _ => none }
def vtimeRunsRow : OpenClaim := { program := "ytdfkcijholopoaa", sum := "c1a31e343312744b22762ed4b47b586ab7a5d3a7c7e8a18e128775cc74c2b631", func := "mainsheet/mainsheetlaw10.VtimeRuns", spec := "vtimeRuns", inPlace := ["slices.overlaps[mainsheet/api.Runner]"], unfollowed := true, recurses := true, apart := false }
def VtimeRunsSaid : Prop := vtimeRunsRow.holds Try.pinned (OpenSpec.ofChange vtimeRunsSpec)

/-- ITS FALSE NEIGHBOUR: 'it returns false'. Refute it at one input. -/
def vtimeRunsWrong : ChangeSpec := { name := "vtimeRuns", fn := fun _ => fun
  | [d1, d2, d3] => { results := [.lit (.bool false)], args := [d1, d2, d3] }
  | _ => none }
def VtimeRunsWrongFalsely : Prop := vtimeRunsRow.holds Try.pinned (OpenSpec.ofChange vtimeRunsWrong)

/-- 'mainsheetlaw10.VtimeTells': WHATEVER THE INPUT: true; the input reads as it did. -/
def vtimeTellsSpec : ChangeSpec := { name := "vtimeTells", fn := fun _ => fun
  | [d1, d2] => { results := [.lit (.bool true)], args := [d1, d2] }
  | _ => none }
def vtimeTellsRow : OpenClaim := { program := "ytdfkcijholopoaa", sum := "c1a31e343312744b22762ed4b47b586ab7a5d3a7c7e8a18e128775cc74c2b631", func := "mainsheet/mainsheetlaw10.VtimeTells", spec := "vtimeTells", inPlace := ["slices.overlaps[mainsheet/api.Runner]"], unfollowed := true, recurses := true, apart := false }
def VtimeTellsSaid : Prop := vtimeTellsRow.holds Try.pinned (OpenSpec.ofChange vtimeTellsSpec)

/-- ITS FALSE NEIGHBOUR: 'it returns false'. Refute it at one input. -/
def vtimeTellsWrong : ChangeSpec := { name := "vtimeTells", fn := fun _ => fun
  | [d1, d2] => { results := [.lit (.bool false)], args := [d1, d2] }
  | _ => none }
def VtimeTellsWrongFalsely : Prop := vtimeTellsRow.holds Try.pinned (OpenSpec.ofChange vtimeTellsWrong)

/-- 'mainsheetlaw10.VtimeGains': WHATEVER THE INPUT: true; the input reads as it did. -/
def vtimeGainsSpec : ChangeSpec := { name := "vtimeGains", fn := fun _ => fun
  | [d1, d2] => { results := [.lit (.bool true)], args := [d1, d2] }
  | _ => none }
def vtimeGainsRow : OpenClaim := { program := "ytdfkcijholopoaa", sum := "c1a31e343312744b22762ed4b47b586ab7a5d3a7c7e8a18e128775cc74c2b631", func := "mainsheet/mainsheetlaw10.VtimeGains", spec := "vtimeGains", inPlace := ["slices.overlaps[mainsheet/api.Runner]"], unfollowed := true, recurses := true, apart := false }
def VtimeGainsSaid : Prop := vtimeGainsRow.holds Try.pinned (OpenSpec.ofChange vtimeGainsSpec)

/-- ITS FALSE NEIGHBOUR: 'it returns false'. Refute it at one input. -/
def vtimeGainsWrong : ChangeSpec := { name := "vtimeGains", fn := fun _ => fun
  | [d1, d2] => { results := [.lit (.bool false)], args := [d1, d2] }
  | _ => none }
def VtimeGainsWrongFalsely : Prop := vtimeGainsRow.holds Try.pinned (OpenSpec.ofChange vtimeGainsWrong)

/- THE SECOND FORM. 'bulk': how many values and letters a reading holds, each counted each time it is reached (what is shared counts as often as it is met; a slice's spare places count too). A statement '..UptoSaid' is the law's where the arguments, and the package variables that the reading takes, are together of bulk at most 1048576: NARROWER than '..Said'. Prove '..Said' where nothing that the law and all that it calls make is longer than what came in: it says more and counts as full. Else prove '..UptoSaid'. A law counts once. -/
mutual
def uptoBulk {H : Type} : DataW H → Nat
  | .lit (.string bytes) => bytes.length + 1
  | .lit _ => 1
  | .nil => 1
  | .ptr d => uptoBulk d + 1
  | .slice elems spare => uptoBulkAll elems + uptoBulkAll spare + 1
  | .agg parts => uptoBulkAll parts + 1
  | .iface _ d => uptoBulk d + 1
  | .map entries => uptoBulkEntries entries + 1
  | .held _ => 1
def uptoBulkAll {H : Type} : List (DataW H) → Nat
  | [] => 0
  | d :: r => uptoBulk d + uptoBulkAll r
def uptoBulkEntries {H : Type} : List (Lit × DataW H) → Nat
  | [] => 0
  | x :: r => uptoBulkEntry x + uptoBulkEntries r
def uptoBulkEntry {H : Type} : Lit × DataW H → Nat
  | (.string bytes, d) => bytes.length + uptoBulk d + 1
  | (_, d) => uptoBulk d + 1
 end
def uptoSmall : (H : Type) → List (DataW H) → Bool := fun _ ds => decide (uptoBulkAll ds ≤ 1048576)
def OpenSpec.upto (s : _root_.Go.ChangeSpec) : _root_.Go.OpenSpec := { _root_.Go.OpenSpec.ofChange s with cond := some uptoSmall }

/-- 'mainsheetlaw03.WideDivs', WHERE WHAT IT READS IS OF BULK AT MOST 1048576: true; the input reads as it did. -/
def wideDivsUptoRow : OpenClaim := { program := "ytdfkcijholopoaa", sum := "c1a31e343312744b22762ed4b47b586ab7a5d3a7c7e8a18e128775cc74c2b631", func := "mainsheet/mainsheetlaw03.WideDivs", spec := "wideDivs", apart := false, narrowed := true }
def WideDivsUptoSaid : Prop := wideDivsUptoRow.holds Try.pinned (OpenSpec.upto wideDivsSpec)

/-- 'mainsheetlaw03.WideMulDivs', WHERE WHAT IT READS IS OF BULK AT MOST 1048576: true; the input reads as it did. -/
def wideMulDivsUptoRow : OpenClaim := { program := "ytdfkcijholopoaa", sum := "c1a31e343312744b22762ed4b47b586ab7a5d3a7c7e8a18e128775cc74c2b631", func := "mainsheet/mainsheetlaw03.WideMulDivs", spec := "wideMulDivs", apart := false, narrowed := true }
def WideMulDivsUptoSaid : Prop := wideMulDivsUptoRow.holds Try.pinned (OpenSpec.upto wideMulDivsSpec)

/-- 'mainsheetlaw03.WideOrder', WHERE WHAT IT READS IS OF BULK AT MOST 1048576: true; the input reads as it did. -/
def wideOrderUptoRow : OpenClaim := { program := "ytdfkcijholopoaa", sum := "c1a31e343312744b22762ed4b47b586ab7a5d3a7c7e8a18e128775cc74c2b631", func := "mainsheet/mainsheetlaw03.WideOrder", spec := "wideOrder", apart := false, narrowed := true }
def WideOrderUptoSaid : Prop := wideOrderUptoRow.holds Try.pinned (OpenSpec.upto wideOrderSpec)

/-- 'mainsheetlaw03.WideSums', WHERE WHAT IT READS IS OF BULK AT MOST 1048576: true; the input reads as it did. -/
def wideSumsUptoRow : OpenClaim := { program := "ytdfkcijholopoaa", sum := "c1a31e343312744b22762ed4b47b586ab7a5d3a7c7e8a18e128775cc74c2b631", func := "mainsheet/mainsheetlaw03.WideSums", spec := "wideSums", apart := false, narrowed := true }
def WideSumsUptoSaid : Prop := wideSumsUptoRow.holds Try.pinned (OpenSpec.upto wideSumsSpec)

/-- 'mainsheetlaw10.VtimeClips', WHERE WHAT IT READS IS OF BULK AT MOST 1048576: true; the input reads as it did. -/
def vtimeClipsUptoRow : OpenClaim := { program := "ytdfkcijholopoaa", sum := "c1a31e343312744b22762ed4b47b586ab7a5d3a7c7e8a18e128775cc74c2b631", func := "mainsheet/mainsheetlaw10.VtimeClips", spec := "vtimeClips", inPlace := ["slices.overlaps[mainsheet/api.Runner]"], unfollowed := true, recurses := true, apart := false, narrowed := true }
def VtimeClipsUptoSaid : Prop := vtimeClipsUptoRow.holds Try.pinned (OpenSpec.upto vtimeClipsSpec)

/-- 'mainsheetlaw03.WideScales', WHERE WHAT IT READS IS OF BULK AT MOST 1048576: true; the input reads as it did. -/
def wideScalesUptoRow : OpenClaim := { program := "ytdfkcijholopoaa", sum := "c1a31e343312744b22762ed4b47b586ab7a5d3a7c7e8a18e128775cc74c2b631", func := "mainsheet/mainsheetlaw03.WideScales", spec := "wideScales", apart := false, narrowed := true }
def WideScalesUptoSaid : Prop := wideScalesUptoRow.holds Try.pinned (OpenSpec.upto wideScalesSpec)

/-- 'mainsheetlaw10.VtimeNear', WHERE WHAT IT READS IS OF BULK AT MOST 1048576: true; the input reads as it did. -/
def vtimeNearUptoRow : OpenClaim := { program := "ytdfkcijholopoaa", sum := "c1a31e343312744b22762ed4b47b586ab7a5d3a7c7e8a18e128775cc74c2b631", func := "mainsheet/mainsheetlaw10.VtimeNear", spec := "vtimeNear", inPlace := ["slices.overlaps[mainsheet/api.Runner]"], unfollowed := true, recurses := true, apart := false, narrowed := true }
def VtimeNearUptoSaid : Prop := vtimeNearUptoRow.holds Try.pinned (OpenSpec.upto vtimeNearSpec)

/-- 'mainsheetlaw03.WideBack', WHERE WHAT IT READS IS OF BULK AT MOST 1048576: true; the input reads as it did. -/
def wideBackUptoRow : OpenClaim := { program := "ytdfkcijholopoaa", sum := "c1a31e343312744b22762ed4b47b586ab7a5d3a7c7e8a18e128775cc74c2b631", func := "mainsheet/mainsheetlaw03.WideBack", spec := "wideBack", unfollowed := true, recurses := true, apart := false, narrowed := true }
def WideBackUptoSaid : Prop := wideBackUptoRow.holds Try.pinned (OpenSpec.upto wideBackSpec)

/-- 'mainsheetlaw05.FracEnds', WHERE WHAT IT READS IS OF BULK AT MOST 1048576: true; the input reads as it did. -/
def fracEndsUptoRow : OpenClaim := { program := "ytdfkcijholopoaa", sum := "c1a31e343312744b22762ed4b47b586ab7a5d3a7c7e8a18e128775cc74c2b631", func := "mainsheet/mainsheetlaw05.FracEnds", spec := "fracEnds", unfollowed := true, recurses := true, apart := false, narrowed := true }
def FracEndsUptoSaid : Prop := fracEndsUptoRow.holds Try.pinned (OpenSpec.upto fracEndsSpec)

/-- 'mainsheetlaw05.FracTells', WHERE WHAT IT READS IS OF BULK AT MOST 1048576: true; the input reads as it did. -/
def fracTellsUptoRow : OpenClaim := { program := "ytdfkcijholopoaa", sum := "c1a31e343312744b22762ed4b47b586ab7a5d3a7c7e8a18e128775cc74c2b631", func := "mainsheet/mainsheetlaw05.FracTells", spec := "fracTells", apart := false, narrowed := true }
def FracTellsUptoSaid : Prop := fracTellsUptoRow.holds Try.pinned (OpenSpec.upto fracTellsSpec)

/-- 'mainsheetlaw05.FracOver', WHERE WHAT IT READS IS OF BULK AT MOST 1048576: true; the input reads as it did. -/
def fracOverUptoRow : OpenClaim := { program := "ytdfkcijholopoaa", sum := "c1a31e343312744b22762ed4b47b586ab7a5d3a7c7e8a18e128775cc74c2b631", func := "mainsheet/mainsheetlaw05.FracOver", spec := "fracOver", apart := false, narrowed := true }
def FracOverUptoSaid : Prop := fracOverUptoRow.holds Try.pinned (OpenSpec.upto fracOverSpec)

/-- 'mainsheetlaw05.FracMoves', WHERE WHAT IT READS IS OF BULK AT MOST 1048576: true; the input reads as it did. -/
def fracMovesUptoRow : OpenClaim := { program := "ytdfkcijholopoaa", sum := "c1a31e343312744b22762ed4b47b586ab7a5d3a7c7e8a18e128775cc74c2b631", func := "mainsheet/mainsheetlaw05.FracMoves", spec := "fracMoves", apart := false, narrowed := true }
def FracMovesUptoSaid : Prop := fracMovesUptoRow.holds Try.pinned (OpenSpec.upto fracMovesSpec)

/-- 'mainsheetlaw05.FracOrder', WHERE WHAT IT READS IS OF BULK AT MOST 1048576: true; the input reads as it did. -/
def fracOrderUptoRow : OpenClaim := { program := "ytdfkcijholopoaa", sum := "c1a31e343312744b22762ed4b47b586ab7a5d3a7c7e8a18e128775cc74c2b631", func := "mainsheet/mainsheetlaw05.FracOrder", spec := "fracOrder", apart := false, narrowed := true }
def FracOrderUptoSaid : Prop := fracOrderUptoRow.holds Try.pinned (OpenSpec.upto fracOrderSpec)

/-- 'mainsheetlaw05.FracClips', WHERE WHAT IT READS IS OF BULK AT MOST 1048576: true; the input reads as it did. -/
def fracClipsUptoRow : OpenClaim := { program := "ytdfkcijholopoaa", sum := "c1a31e343312744b22762ed4b47b586ab7a5d3a7c7e8a18e128775cc74c2b631", func := "mainsheet/mainsheetlaw05.FracClips", spec := "fracClips", apart := false, narrowed := true }
def FracClipsUptoSaid : Prop := fracClipsUptoRow.holds Try.pinned (OpenSpec.upto fracClipsSpec)

/-- 'mainsheetlaw10.VtimeWeighs', WHERE WHAT IT READS IS OF BULK AT MOST 1048576: true; the input reads as it did. -/
def vtimeWeighsUptoRow : OpenClaim := { program := "ytdfkcijholopoaa", sum := "c1a31e343312744b22762ed4b47b586ab7a5d3a7c7e8a18e128775cc74c2b631", func := "mainsheet/mainsheetlaw10.VtimeWeighs", spec := "vtimeWeighs", inPlace := ["slices.overlaps[mainsheet/api.Runner]"], unfollowed := true, recurses := true, apart := false, narrowed := true }
def VtimeWeighsUptoSaid : Prop := vtimeWeighsUptoRow.holds Try.pinned (OpenSpec.upto vtimeWeighsSpec)

/-- 'mainsheetlaw10.VtimeRuns', WHERE WHAT IT READS IS OF BULK AT MOST 1048576: true; the input reads as it did. -/
def vtimeRunsUptoRow : OpenClaim := { program := "ytdfkcijholopoaa", sum := "c1a31e343312744b22762ed4b47b586ab7a5d3a7c7e8a18e128775cc74c2b631", func := "mainsheet/mainsheetlaw10.VtimeRuns", spec := "vtimeRuns", inPlace := ["slices.overlaps[mainsheet/api.Runner]"], unfollowed := true, recurses := true, apart := false, narrowed := true }
def VtimeRunsUptoSaid : Prop := vtimeRunsUptoRow.holds Try.pinned (OpenSpec.upto vtimeRunsSpec)

/-- 'mainsheetlaw10.VtimeTells', WHERE WHAT IT READS IS OF BULK AT MOST 1048576: true; the input reads as it did. -/
def vtimeTellsUptoRow : OpenClaim := { program := "ytdfkcijholopoaa", sum := "c1a31e343312744b22762ed4b47b586ab7a5d3a7c7e8a18e128775cc74c2b631", func := "mainsheet/mainsheetlaw10.VtimeTells", spec := "vtimeTells", inPlace := ["slices.overlaps[mainsheet/api.Runner]"], unfollowed := true, recurses := true, apart := false, narrowed := true }
def VtimeTellsUptoSaid : Prop := vtimeTellsUptoRow.holds Try.pinned (OpenSpec.upto vtimeTellsSpec)

/-- 'mainsheetlaw10.VtimeGains', WHERE WHAT IT READS IS OF BULK AT MOST 1048576: true; the input reads as it did. -/
def vtimeGainsUptoRow : OpenClaim := { program := "ytdfkcijholopoaa", sum := "c1a31e343312744b22762ed4b47b586ab7a5d3a7c7e8a18e128775cc74c2b631", func := "mainsheet/mainsheetlaw10.VtimeGains", spec := "vtimeGains", inPlace := ["slices.overlaps[mainsheet/api.Runner]"], unfollowed := true, recurses := true, apart := false, narrowed := true }
def VtimeGainsUptoSaid : Prop := vtimeGainsUptoRow.holds Try.pinned (OpenSpec.upto vtimeGainsSpec)

end Rows
end Go.Proofs.Ytdfkcijholopoaa
