/- What came in, as the walks name it: a fraction. -/
import Derived.Test.YtdfkcijholopoaaFacts
import Derived.Test.YtdfkcijholopoaaFa
namespace Go.Proofs.Ytdfkcijholopoaa
open Go.ChangeShapes Go.WideShapes Go.ChangeAt Go.RowKit Go.Joins
open Vm
set_option maxRecDepth 100000

theorem cells58 : Try.prog.cellsOf 58 = 3 := by kernel_rfl
theorem cells22 : Try.prog.cellsOf 22 = 1 := by kernel_rfl
theorem open_frac {H : Type} {enc : TypeId × Value → H} {W : World} {base0 base : Nat} {spare : Nat → Bool} {held : Bool} {r : Reach} {v : Value} {d : DataW H} {p : List MemPlace}
    (hv : Value.okWide Try.prog W r base0 58 v) (h : DataW.Trod enc Try.prog W base spare held 58 v d p) : ∃ n w : Nat, n < 2 ^ 128 ∧ w < 2 ^ 64 ∧ v = fr n w := by
  obtain ⟨cs, rfl, hsz⟩ := okWide_struct Try.underlying58 hv
  rw [cells58] at hsz
  obtain ⟨l⟩ := cs
  match l, hsz with
  | [c0, c1, c2], _ =>
    obtain ⟨fuel, hf⟩ := h
    obtain ⟨y0, y1, m, _, _, hy0, hy1⟩ := trod_struct2 Try.underlying58 hf
    have h0 : DataW.trod enc Try.prog W base spare held m 24 [c0, c1] = some y0 := by simpa [Value.cells, cells24] using hy0
    have h1 : DataW.trod enc Try.prog W base spare held m 22 [c2] = some y1 := by simpa [Value.cells, cells22] using hy1
    obtain ⟨z0, z1, k, _, _, hz0, hz1⟩ := trod_struct2 Try.underlying24 h0
    have g0 : DataW.trod enc Try.prog W base spare held k 22 [c0] = some z0 := by simpa [cells22] using hz0
    have g1 : DataW.trod enc Try.prog W base spare held k 22 [c1] = some z1 := by simpa [cells22] using hz1
    obtain ⟨a, e0, _, wa⟩ := DataW.trod_int Try.underlying22 g0
    obtain ⟨b, e1, _, wb⟩ := DataW.trod_int Try.underlying22 g1
    obtain ⟨c, e2, _, wc⟩ := DataW.trod_int Try.underlying22 h1
    simp at e0 e1 e2
    subst e0 e1 e2
    obtain ⟨n, hn, rfl⟩ := u64_of_wf wa
    obtain ⟨k2, hk, rfl⟩ := u64_of_wf wb
    obtain ⟨w, hw, rfl⟩ := u64_of_wf wc
    refine ⟨n * 2 ^ 64 + k2, w, by omega, hw, ?_⟩
    unfold fr
    rw [show (n * 2 ^ 64 + k2) / 2 ^ 64 = n by omega, show (n * 2 ^ 64 + k2) % 2 ^ 64 = k2 by omega]
end Go.Proofs.Ytdfkcijholopoaa
