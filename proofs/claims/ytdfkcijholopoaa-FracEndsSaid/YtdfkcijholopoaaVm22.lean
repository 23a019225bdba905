/- A range over a string: its iterator's steps. -/
import Derived.Test.YtdfkcijholopoaaVm21
namespace Go.Proofs.Ytdfkcijholopoaa.Vm
open Go Go.RowKit
set_option linter.unusedSimpArgs false

def putO (w : World) (r : Nat) (ob : Obj) : World := { w with heap := w.heap.setIfInBounds r ob }
theorem putO_other (w : World) (r k : Nat) (ob : Obj) (h : k ≠ r) : (putO w r ob).heap[k]? = w.heap[k]? := by
  simp [putO, Array.getElem?_setIfInBounds, Ne.symm h]
theorem RH.putO {M : Nat → Prop} {ρ : Nat → Option (Nat × Nat)} {h : Nat → Option Blk} {w : World} (hH : RH M ρ h w) {m r : Nat} {b b0 : Blk} (hm : h m = some b0) (h0 : b0.own = true) (hr : ρ m = some (r, 0)) {ob : Obj}
    (hrow : RObj ρ b 0 (putO w r ob).heap[r]?) : RH M ρ (upd h m (some b)) (Vm.putO w r ob) := by
  have hM : M r := by
    obtain ⟨r', o', h1, _, h3⟩ := hH.blk m b0 hm
    rw [hr] at h1; cases h1
    exact h3 h0
  refine ⟨fun k d hk => ?_, fun k k' d d' r1 o1 r2 o2 hk hk' hne hown h1 h2 => ?_, fun q hq => hH.new q (by simpa [Vm.putO] using hq)⟩
  · by_cases e : k = m
    · subst e
      rw [upd_same] at hk
      cases hk
      exact ⟨r, 0, hr, hrow, fun _ => hM⟩
    · rw [upd_ne _ _ e] at hk
      obtain ⟨r', o', h1, h2, h3⟩ := hH.blk k d hk
      have hne : r' ≠ r := fun e' => hH.inj m k b0 d r 0 r' o' hm hk (Ne.symm e) h0 hr h1 e'.symm
      exact ⟨r', o', h1, by rw [putO_other w r r' ob hne]; exact h2, h3⟩
  · by_cases e : k = m
    · subst e
      rw [hr] at h1
      cases h1
      rw [upd_ne _ _ (Ne.symm hne)] at hk'
      exact hH.inj k k' b0 d' r 0 r2 o2 hm hk' hne h0 hr h2
    · rw [upd_ne _ _ e] at hk
      by_cases e' : k' = m
      · subst e'
        rw [hr] at h2
        cases h2
        exact fun e2 => hH.inj k' k b0 d r 0 r1 o1 hm hk (Ne.symm hne) h0 hr h1 e2.symm
      · rw [upd_ne _ _ e'] at hk'
        exact hH.inj k k' d d' r1 o1 r2 o2 hk hk' hne hown h1 h2
theorem RH.obj {M : Nat → Prop} {ρ : Nat → Option (Nat × Nat)} {h : Nat → Option Blk} {w : World} (hH : RH M ρ h w) {m : Nat} {ob : Obj} (hm : h m = some (.obj ob)) : ∃ r, ρ m = some (r, 0) ∧ w.heap[r]? = some ob ∧ M r := by
  obtain ⟨r, o, h1, ⟨h2, h3⟩, h4⟩ := hH.blk m _ hm
  subst h3
  exact ⟨r, h1, h2, h4 rfl⟩
theorem sp_next {o : Oper} {m k : Nat} {ev : Operand → Value} {h : Nat → Option Blk} {x : Operand} {s : ByteArray} {pos : Nat} (ho : o.op = .next x true) (hx : ev x = .pointer (some ⟨k, 0, none⟩)) (hk : h k = some (.obj (.stringIter s pos))) (hp : pos < s.size) :
    SpOk o m ev h [k] (fun v u => v = .tuple #[.bool true, goInt pos, .int .i32 (Utf8.decode s pos).1] ∧ u = [(k, .obj (.stringIter s (pos + (Utf8.decode s pos).2)))]) := by
  intro M ρ h' w a hh hev hH hm
  obtain ⟨r, h1, h2, h3⟩ := hH.obj (show h' k = _ from (hh k (by simp)).trans hk)
  have h4 := hev x (by rw [ho]; simp [Op.operands])
  rw [hx] at h4
  obtain ⟨r', o', h5, h6⟩ := h4.ptr_inv
  rw [h1] at h5
  cases h5
  have hrun : (execOp a.eval o).run P w = .ok (.value (.tuple #[.bool true, goInt pos, .int .i32 (Utf8.decode s pos).1])) (putO w r (.stringIter s (pos + (Utf8.decode s pos).2))) := by
    simp only [execOp, ho, h6, Instr.next, getObj, setObj, Sem.run_bind, Sem.run, h2, Result.andThen, hp, if_true]
    rfl
  unfold Oper.wp
  rw [hrun]
  refine ⟨_, _, [(k, .obj (.stringIter s (pos + (Utf8.decode s pos).2)))], ρ, ⟨rfl, rfl⟩, rfl, Ext.refl _, .plain rfl, RH.putO hH ((hh k (by simp)).trans hk) rfl h1 ⟨?_, rfl⟩, ⟨rfl, rfl, rfl, by simp [putO], fun q hq => putO_other w r q _ fun e => hq (e ▸ h3)⟩, fun x hx => (by simp at hx; exact .inr (by rw [hx, h1]; simp)), fun k hk _ => hk⟩
  have hlt : r < w.heap.size := (Array.getElem?_eq_some_iff.1 h2).1
  simp [putO, hlt]
end Go.Proofs.Ytdfkcijholopoaa.Vm
