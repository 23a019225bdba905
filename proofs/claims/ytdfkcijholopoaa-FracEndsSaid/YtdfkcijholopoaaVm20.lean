/- Strings: steps. -/
import Derived.Test.YtdfkcijholopoaaVm19
import Derived.Laws.Runes
namespace Go.Proofs.Ytdfkcijholopoaa.Vm
open Go Go.RowKit
set_option linter.unusedSimpArgs false

theorem und9 : P.underlying 9 = some .string := by kernel_rfl
theorem und21 : (P.underlying 21).isSome = true := by kernel_rfl
theorem ex_conv9 {o : Oper} {x : Operand} {e : Operand → Value} {w : World} {k : IntKind} {n : Int} (ho : o.op = .convert 21 9 x) (hx : e x = .int k n) : (execOp e o).run P w = .ok (.value (.string (Utf8.encode n))) w := by
  simp only [execOp, ho, hx, Sem.run_bind, run_convert_int_string w 21 9 k n und21 und9, Result.andThen_ok, Sem.run_pure]
theorem ex_add9 {o : Oper} {x y : Operand} {u : TypeId} {e : Operand → Value} {w : World} {a b : ByteArray} (ho : o.op = .binOp .add 9 x y u) (hx : e x = .string a) (hy : e y = .string b) (hs : a.size + b.size < 2 ^ 63) : (execOp e o).run P w = .ok (.value (.string (a ++ b))) w := by
  have h : ¬ ((a.size + b.size : Nat) : Int) > IntKind.i64.max := by
    have e1 : IntKind.i64.max = 2 ^ 63 - 1 := rfl
    rw [e1]; omega
  simp only [execOp, ho, hx, hy, Sem.run_bind, Sem.run_pure, Result.andThen_ok, eqGuard, binOp, Op.stringOp, if_neg h]
  simp [h]
end Go.Proofs.Ytdfkcijholopoaa.Vm
