/- A number's text. -/
import Derived.Test.YtdfkcijholopoaaSa
import Derived.Test.YtdfkcijholopoaaVm20
namespace Go.Proofs.Ytdfkcijholopoaa.Vm
open Go Go.RowKit
set_option maxRecDepth 10000
set_option linter.unusedSimpArgs false
set_option linter.unusedVariables false

theorem q7_beq {v : Nat} (hv : v < 2 ^ 224) : ((((lb v 0 : Nat) : Int) == 0) && (((lb v 1 : Nat) : Int) == 0) && (((lb v 2 : Nat) : Int) == 0) && (((lb v 3 : Nat) : Int) == 0) && (((lb v 4 : Nat) : Int) == 0) && (((lb v 5 : Nat) : Int) == 0) && (((lb v 6 : Nat) : Int) == 0)) = decide (v = 0) := by
  rw [Bool.eq_iff_iff]
  simp only [Bool.and_eq_true, beq_iff_eq, decide_eq_true_eq, lb]
  omega
theorem raw_dig {r : Nat} (h : r < 10) : IntKind.i32.wrap (IntKind.u64.wrap (48 + (r : Int))) = ((48 + r : Nat) : Int) := by
  match r, h with
  | 0, _ => rfl
  | 1, _ => rfl
  | 2, _ => rfl
  | 3, _ => rfl
  | 4, _ => rfl
  | 5, _ => rfl
  | 6, _ => rfl
  | 7, _ => rfl
  | 8, _ => rfl
  | 9, _ => rfl
def slf : Value := .func (.func 102) #[] #[.pointer (some ⟨0, 0, none⟩)]


theorem one_cell {i : Nat} {v : Value} (h : [slf][i]? = some v) : [slf][i]? = some (renV (fun k => (k, 0)) v) := by
  match i, h with
  | 0, h => cases h; rfl
theorem one_cell1 {i : Nat} {v : Value} (h : [slf][i]? = some v) : [Value.func (.func 102) #[] #[.pointer (some ⟨1, 0, none⟩)]][i]? = some (renV (fun k => (1, 0)) v) := by
  match i, h with
  | 0, h => cases h; rfl
theorem p102s {f v : Nat} (hv : v < 2 ^ 224) (hf : f < 1000) (ih : v / 10 ≠ 0 → RC 102 [q7 (v / 10), .pointer (some ⟨0, 0, none⟩)] [(0, [slf])] (.string (dgs f (v / 10)))) :
    RC 102 [q7 v, .pointer (some ⟨0, 0, none⟩)] [(0, [slf])] (.string (dgs (f + 1) v)) := by
  have hv2 : v / 10 < 2 ^ 224 := by omega
  have hsz : (dgs f (v / 10)).size + (dig (v % 10)).size < 2 ^ 63 := by
    have := dgs_size f (v / 10)
    show (dgs f (v / 10)).size + 1 < 2 ^ 63
    omega
  refine rc_of _ 1 Try.func102 rfl Try.ntmps102 (by kernel_rfl) (by simp) rfl rfl (by simp) (by simp [slf, bdL, bdV, bdA]) ?_
  refine vc_seq ?_
  refine vc_go (by kernel_rfl) fun K hK => hK _ _ _ ?_
  clear hK K
  refine vc_seq ?_
  refine vc_reg (by kernel_rfl) fun K hK => ?_
  refine run_n (z := false) 1 (fun K' hK' => hK' _ _ _ ?_) (by decide)
  clear hK' K'
  refine run_call (p78 v 10 hv (by decide) (by decide)) rfl rfl rfl rfl ?_
  refine run_end (z := false) fun K' hK' => hK' _ _ _ (hK _ _ _ ?_)
  clear hK' K' hK K
  refine vc_seq ?_
  refine vc_reg (by kernel_rfl) fun K hK => ?_
  refine run_n (z := false) 3 (fun K' hK' => hK' _ _ _ ?_) (by decide)
  clear hK' K'
  refine run_val rfl rfl (v := .string (dig (v % 10))) (fun e w he => by rw [← encode_dig (Nat.mod_lt v (by decide)), ← raw_dig (Nat.mod_lt v (by decide))]; exact ex_conv9 rfl (he _ (by simp [Op.operands]))) (fun x hx => by simp [Op.operands] at hx; subst hx; rfl) rfl rfl ?_
  refine run_end (z := false) fun K' hK' => hK' _ _ _ (hK _ _ _ ?_)
  clear hK' K' hK K
  refine vc_seq ?_
  refine vc_seq ?_
  refine vc_go (by kernel_rfl) fun K hK => hK _ _ _ ?_
  clear hK K
  refine vc_cond rfl (fun cz => ?_) (fun cz => ?_)
  · -- cond 0 t18 true
    refine vc_seq ?_
    refine vc_go (by kernel_rfl) fun K hK => hK _ _ _ ?_
    clear hK K
    refine vc_ret ⟨.inr rfl, ?_⟩
    rw [show dgs (f + 1) v = dig (v % 10) from if_pos (by rw [q7_beq hv2, decide_eq_true_eq] at cz; exact cz)]
    rfl
  · -- cond 0 t18 false
    refine vc_skip ?_
    refine vc_seq ?_
    refine vc_reg (by kernel_rfl) fun K hK => ?_
    refine run_n (z := false) 2 (fun K' hK' => hK' _ _ _ ?_) (by decide)
    clear hK' K'
    refine run_rc (fun k => (k, 0)) (ih (by rw [q7_beq hv2, decide_eq_false_iff_not] at cz; exact cz)) ?_ rfl rfl rfl rfl ?_
    · intro x hx
      simp only [List.mem_singleton] at hx
      subst hx
      exact ⟨_, _, _, rfl, fun i v hv => by rw [Nat.zero_add]; exact one_cell hv⟩
    refine run_n (z := false) 1 (fun K' hK' => hK' _ _ _ ?_) (by decide)
    clear hK' K'
    refine run_val rfl rfl (v := .string (dgs f (v / 10) ++ dig (v % 10))) (fun e w he => ex_add9 rfl (he _ (by simp [Op.operands])) (he _ (by simp [Op.operands])) hsz) (fun x hx => by simp [Op.operands] at hx; rcases hx with rfl | rfl <;> rfl) rfl rfl ?_
    refine run_end (z := false) fun K' hK' => hK' _ _ _ (hK _ _ _ ?_)
    clear hK' K' hK K
    refine vc_ret ⟨.inr rfl, ?_⟩
    rw [show dgs (f + 1) v = dgs f (v / 10) ++ dig (v % 10) from if_neg (by rw [q7_beq hv2, decide_eq_false_iff_not] at cz; exact cz)]
    rfl

theorem p102 : ∀ (f : Nat) {v : Nat}, v < 2 ^ 224 → f < 1000 → v < 10 ^ (f + 1) → RC 102 [q7 v, .pointer (some ⟨0, 0, none⟩)] [(0, [slf])] (.string (dgs (f + 1) v))
  | 0, v, hv, hf, h => p102s hv hf fun hne => absurd (Nat.div_eq_of_lt (by omega)) hne
  | f + 1, v, hv, hf, h => p102s hv hf fun _ => p102 f (by omega) (by omega) (by rw [Nat.pow_succ] at h; omega)
theorem p51 {a : Nat} (ha : a < 2 ^ 128) : Pure 51 [wd a] (.string (dgs 39 a)) := by
  have h102 := p102 38 (v := a) (Nat.lt_trans ha (by decide)) (by decide) (Nat.lt_trans ha (by decide))
  refine pure_of Try.func51 rfl Try.ntmps51 (by kernel_rfl) rfl (by simp) rfl ?_
  refine vc_seq ?_
  refine vc_go (by kernel_rfl) fun K hK => hK _ _ _ ?_
  clear hK K
  refine vc_seq ?_
  refine vc_go (by kernel_rfl) fun K hK => hK _ _ _ ?_
  clear hK K
  refine vc_seq ?_
  refine vc_go (by kernel_rfl) fun K hK => hK _ _ _ ?_
  clear hK K
  refine vc_seq ?_
  refine vc_regD [(0, 2)] (by kernel_rfl) (by kernel_rfl) fun K hK => ?_
  refine runD_n (z := false) 2 (fun K' hK' => hK' _ _ _ _ ?_) (by decide)
  clear hK' K'
  refine runD_call (p77 a ha) rfl rfl rfl rfl ?_
  refine runD_rc (fun k => (1, 0)) h102 ?_ rfl rfl rfl rfl rfl ?_
  · intro x hx
    simp only [List.mem_singleton] at hx
    subst hx
    exact ⟨_, _, _, rfl, fun i v hv => (congrArg (fun j => [Value.func (.func 102) #[] #[.pointer (some ⟨1, 0, none⟩)]][j]?) (Nat.zero_add i)).trans (one_cell1 hv)⟩
  refine runD_end (z := false) fun K' hK' => hK' _ _ _ _ (hK _ _ _ ?_)
  clear hK' K' hK K
  exact vc_ret ⟨.inr rfl, rfl⟩
end Go.Proofs.Ytdfkcijholopoaa.Vm
