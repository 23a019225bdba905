/- A range over a string: its iterator made. -/
import Derived.Test.YtdfkcijholopoaaVm20
namespace Go.Proofs.Ytdfkcijholopoaa.Vm
open Go Go.RowKit
set_option linter.unusedSimpArgs false

theorem sp_range {o : Oper} {m : Nat} {ev : Operand → Value} {h : Nat → Option Blk} {x : Operand} {s : ByteArray} (ho : o.op = .range 9 x) (hx : ev x = .string s) :
    SpOk o m ev h [] (fun v u => v = .pointer (some ⟨m, 0, none⟩) ∧ u = [(m, .obj (.stringIter s 0))]) := by
  intro M ρ h' w a _ hev hH hm
  have h1 : a.eval x = .string s := by
    have := hev x (by rw [ho]; simp [Op.operands])
    rw [hx] at this
    exact this.eq_of_plain rfl
  have hrun : (execOp a.eval o).run P w = .ok (.value (.pointer (some ⟨w.heap.size, 0, none⟩))) (w.alloc (.stringIter s 0)) := by
    simp only [execOp, ho, h1, Instr.range, Sem.run_bind, run_underlying und9, Result.andThen_ok, Sem.run_pure]
    rfl
  unfold Oper.wp
  rw [hrun]
  refine ⟨.pointer (some ⟨m, 0, none⟩), .pointer (some ⟨w.heap.size, 0, none⟩), [(m, .obj (.stringIter s 0))], _, ⟨rfl, rfl⟩, rfl, Ext.upd hm _, ?_, hH.alloc (b := .obj (.stringIter s 0)) hm ⟨rfl, rfl⟩, Kept.alloc hH.new _, fun x hx => (by simp at hx; exact .inl (by rw [hx])), fun k hk hne => by rw [upd_ne _ _ (by simpa using hne)]; exact hk⟩
  have := Rel.ptr (ρ := upd ρ m (some (w.heap.size, 0))) (m := m) (k := 0) (upd_same _ _ _)
  simpa using this
end Go.Proofs.Ytdfkcijholopoaa.Vm
