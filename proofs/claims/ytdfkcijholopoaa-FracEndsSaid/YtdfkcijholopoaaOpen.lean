/- What came in, as the walks name it: a number of 128 bits. -/
import Derived.Test.YtdfkcijholopoaaRows
import Derived.Test.YtdfkcijholopoaaWb
import Derived.ProofKit
import Derived.Lib.SmallJoins
namespace Go.Proofs.Ytdfkcijholopoaa
open Go.ChangeShapes Go.WideShapes Go.ChangeAt Go.RowKit Go.Joins
open Vm
set_option maxRecDepth 100000

theorem own : ownKnob Try.prog.godebug = none := by kernel_rfl
theorem laidOut : laidOutB Try.prog = true := by kernel_rfl
theorem cells24 : Try.prog.cellsOf 24 = 2 := by kernel_rfl

theorem u64_of_wf {a : Int} (h : (Lit.int .u64 a).wf = true) : ∃ n : Nat, n < 2 ^ 64 ∧ a = (n : Int) := by
  have h2 : 0 ≤ a ∧ a < 2 ^ 64 := by
    have h3 : IntKind.u64.min ≤ a ∧ a ≤ IntKind.u64.max := by simpa [Lit.wf] using h
    have e1 : IntKind.u64.min = 0 := rfl
    have e2 : IntKind.u64.max = 2 ^ 64 - 1 := rfl
    rw [e1, e2] at h3
    omega
  exact ⟨a.toNat, by omega, by omega⟩
theorem open_u64 {H : Type} {enc : TypeId × Value → H} {W : World} {base0 base : Nat} {spare : Nat → Bool} {held : Bool} {r : Reach} {v : Value} {d : DataW H} {p : List MemPlace}
    (hv : Value.okWide Try.prog W r base0 22 v) (h : DataW.Trod enc Try.prog W base spare held 22 v d p) : ∃ n : Nat, n < 2 ^ 64 ∧ v = u64 n := by
  obtain ⟨a, rfl, rfl, rfl, wa⟩ := open_int Try.underlying22 hv h
  obtain ⟨n, hn, rfl⟩ := u64_of_wf wa
  exact ⟨n, hn, rfl⟩
theorem open_wide {H : Type} {enc : TypeId × Value → H} {W : World} {base0 base : Nat} {spare : Nat → Bool} {held : Bool} {r : Reach} {v : Value} {d : DataW H} {p : List MemPlace}
    (hv : Value.okWide Try.prog W r base0 24 v) (h : DataW.Trod enc Try.prog W base spare held 24 v d p) : ∃ n : Nat, n < 2 ^ 128 ∧ v = wd n := by
  obtain ⟨c0, c1, y0, y1, m, rfl, rfl, rfl, hy0, hy1⟩ := open_agg2 Try.underlying24 (by kernel_rfl) cells24 hv h
  obtain ⟨a, e0, rfl, wa⟩ := DataW.trod_int Try.underlying22 hy0
  obtain ⟨b, e1, rfl, wb⟩ := DataW.trod_int Try.underlying22 hy1
  simp at e0 e1
  subst e0 e1
  obtain ⟨n, hn, rfl⟩ := u64_of_wf wa
  obtain ⟨k, hk, rfl⟩ := u64_of_wf wb
  refine ⟨n * 2 ^ 64 + k, by omega, ?_⟩
  unfold wd
  rw [show (n * 2 ^ 64 + k) / 2 ^ 64 = n by omega, show (n * 2 ^ 64 + k) % 2 ^ 64 = k by omega]

end Go.Proofs.Ytdfkcijholopoaa
