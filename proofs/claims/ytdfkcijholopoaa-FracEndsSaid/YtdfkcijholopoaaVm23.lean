/- A special step, whatever it may give; the end of a range over a string. -/
import Derived.Test.YtdfkcijholopoaaVm22
namespace Go.Proofs.Ytdfkcijholopoaa.Vm
open Go Go.RowKit
set_option linter.unusedSimpArgs false

theorem run_sp {ops : Array Oper} {base i : Nat} {o : Oper} {rest : List Oper} {t : Nat → Value} {h : Nat → Option Blk} {n : Nat} {K : St → Prop} {rd : List Nat} {Out : Value → List (Nat × Blk) → Prop} (hs : SpOk o (base + i) (evT t) h rd Out) (hk : kd o.op = .sp) (hv : vex (evT t) h o.op = none) (hw : wantV ops o t = some true)
    (hne : ∃ v u, Out v u) (k : ∀ v u, Out v u → vgo ops base (i + 1) rest ⟨putT t o.dst v, updL h u, bump n u⟩ K) : vgo ops base i (o :: rest) ⟨t, h, n⟩ K := by
  rw [evT_eq t h n] at hs hv
  unfold vgo
  simp only [hw, hv]
  refine ⟨hk, _, _, hs, hne, fun v u hu => ?_⟩
  rw [app_putT]
  exact k v u hu
theorem sp_over {o : Oper} {m k : Nat} {ev : Operand → Value} {h : Nat → Option Blk} {x : Operand} {s : ByteArray} {pos : Nat} (ho : o.op = .next x true) (hx : ev x = .pointer (some ⟨k, 0, none⟩)) (hk : h k = some (.obj (.stringIter s pos))) (hp : ¬ pos < s.size) :
    SpOk o m ev h [k] (fun v u => v = .tuple #[.bool false] ∧ u = []) := by
  intro M ρ h' w a hh hev hH hm
  obtain ⟨r, h1, h2, h3⟩ := hH.obj (show h' k = _ from (hh k (by simp)).trans hk)
  have h4 := hev x (by rw [ho]; simp [Op.operands])
  rw [hx] at h4
  obtain ⟨r', o', h5, h6⟩ := h4.ptr_inv
  rw [h1] at h5
  cases h5
  have hrun : (execOp a.eval o).run P w = .ok (.value (.tuple #[.bool false])) w := by
    simp only [execOp, ho, h6, Instr.next, getObj, Sem.run_bind, Sem.run, h2, Result.andThen, hp, if_false]
    rfl
  unfold Oper.wp
  rw [hrun]
  exact ⟨_, _, [], ρ, ⟨rfl, rfl⟩, rfl, Ext.refl _, .plain rfl, hH, Kept.refl _ _, fun x hx => (by cases hx), fun k hk _ => hk⟩
end Go.Proofs.Ytdfkcijholopoaa.Vm
