/- Steps over plain values that the core does not know (strings). -/
import Derived.Test.YtdfkcijholopoaaVm18
namespace Go.Proofs.Ytdfkcijholopoaa.Vm
open Go Go.RowKit
set_option linter.unusedSimpArgs false

theorem sp_val {o : Oper} {m : Nat} {ev : Operand → Value} {h : Nat → Option Blk} {v : Value} (hx : ∀ (e : Operand → Value) (w : World), (∀ x ∈ o.op.operands, e x = ev x) → (execOp e o).run P w = .ok (.value v) w)
    (hp : ∀ x ∈ o.op.operands, plain (ev x) = true) (hv : plain v = true) : SpOk o m ev h [] (fun v' u => v' = v ∧ u = []) := by
  intro M ρ h' w a _ hev hH _
  have h1 : ∀ x ∈ o.op.operands, a.eval x = ev x := fun x hx => (hev x hx).eq_of_plain (hp x hx)
  unfold Oper.wp
  rw [hx a.eval w h1]
  exact ⟨v, v, [], ρ, ⟨rfl, rfl⟩, rfl, Ext.refl _, .plain hv, hH, Kept.refl _ _, fun x hx => (by cases hx), fun k hk _ => hk⟩

theorem run_val {ops : Array Oper} {base i : Nat} {o : Oper} {rest : List Oper} {t : Nat → Value} {h : Nat → Option Blk} {n : Nat} {K : St → Prop} {v : Value} (hk : kd o.op = .sp) (hv0 : vex (evT t) h o.op = none)
    (hx : ∀ (e : Operand → Value) (w : World), (∀ x ∈ o.op.operands, e x = evT t x) → (execOp e o).run P w = .ok (.value v) w) (hp : ∀ x ∈ o.op.operands, plain (evT t x) = true) (hv : plain v = true) (hw : wantV ops o t = some true)
    (k : vgo ops base (i + 1) rest ⟨putT t o.dst v, h, n⟩ K) : vgo ops base i (o :: rest) ⟨t, h, n⟩ K := by
  rw [evT_eq t h n] at hv0 hx hp
  unfold vgo
  simp only [hw, hv0]
  refine ⟨hk, _, _, sp_val hx hp hv, ⟨v, [], rfl, rfl⟩, ?_⟩
  rintro v' u ⟨rfl, rfl⟩
  rw [app_putT]
  exact k
end Go.Proofs.Ytdfkcijholopoaa.Vm
