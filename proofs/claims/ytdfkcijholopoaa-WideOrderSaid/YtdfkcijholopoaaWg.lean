/- WideOrder: numbers and their order. -/
import Derived.Test.YtdfkcijholopoaaWf
namespace Go.Proofs.Ytdfkcijholopoaa.Vm
open Go Go.RowKit
set_option maxRecDepth 10000
set_option linter.unusedSimpArgs false
set_option linter.unusedVariables false


def addR (a b : Nat) : Value := if a + b < 2 ^ 128 then resW (a + b) 0 else resW 0 131
theorem addR_res (a b : Nat) : ∃ x e, addR a b = resW x e ∧ ((a + b < 2 ^ 128 ∧ x = a + b ∧ e = 0) ∨ (¬ a + b < 2 ^ 128 ∧ x = 0 ∧ e = 131)) := by
  by_cases h : a + b < 2 ^ 128
  · exact ⟨_, _, if_pos h, .inl ⟨h, rfl, rfl⟩⟩
  · exact ⟨_, _, if_neg h, .inr ⟨h, rfl, rfl⟩⟩
theorem wrap_neg (x : Int) (h : -1 ≤ x) (h' : x ≤ 1) : IntKind.i64.wrap (-x) = -x := wrapI (by omega) (by omega)
theorem cmpW_bd (a b : Nat) : -1 ≤ cmpW a b ∧ cmpW a b ≤ 1 := by unfold cmpW; repeat' split <;> omega
theorem wd_beq (a b : Nat) : ((((a / 2 ^ 64 : Nat) : Int) == ((b / 2 ^ 64 : Nat) : Int)) && (((a % 2 ^ 64 : Nat) : Int) == ((b % 2 ^ 64 : Nat) : Int))) = decide (a = b) := by
  rw [Bool.eq_iff_iff]
  simp only [Bool.and_eq_true, beq_iff_eq, decide_eq_true_eq]
  omega
theorem ord_a (a b : Nat) : (cmpW a b != IntKind.i64.wrap (0 - cmpW b a)) = false := by
  rw [Int.zero_sub, wrap_neg _ (cmpW_bd b a).1 (cmpW_bd b a).2, ← cmpW_neg]
  simp
theorem ord_b (a : Nat) : (cmpW a a != 0) = false := by
  rw [cmpW_eq.2 rfl]
  rfl
theorem ord_c (a b : Nat) : ((cmpW a b == 0) == decide (a = b)) = true := by
  rw [beq_iff_eq, Bool.eq_iff_iff]
  simp only [beq_iff_eq, decide_eq_true_eq, cmpW_eq]
theorem cmpW_le {a b : Nat} : cmpW a b ≤ 0 ↔ a ≤ b := by unfold cmpW; repeat' split <;> omega
theorem cmpW_gt' {a b : Nat} : cmpW a b > 0 ↔ b < a := by unfold cmpW; repeat' split <;> omega
theorem cmpW_add (a b c : Nat) : cmpW (a + c) (b + c) = cmpW a b := by unfold cmpW; repeat' split <;> omega
theorem p5 {a b c : Nat} (ha : a < 2 ^ 128) (hb : b < 2 ^ 128) (hc : c < 2 ^ 128) : Pure 5 [wd a, wd b, wd c] (.bool true) := by
  have h1 : Pure 30 [wd a, wd c] (addR a c) := p30 a c ha hc
  have h2 : Pure 30 [wd b, wd c] (addR b c) := p30 b c hb hc
  obtain ⟨x, e, hx, hx'⟩ := addR_res a c
  obtain ⟨y, f, hy, hy'⟩ := addR_res b c
  rw [hx] at h1
  rw [hy] at h2
  refine pure_of Try.func5 rfl Try.ntmps5 (by kernel_rfl) rfl (by simp) rfl ?_
  refine vc_seq ?_
  refine vc_go (by kernel_rfl) fun K hK => hK _ _ _ ?_
  clear hK K
  refine vc_seq ?_
  refine vc_seq ?_
  refine vc_reg (by kernel_rfl) fun K hK => ?_
  refine run_call (p21) rfl rfl rfl rfl ?_
  refine run_end (z := false) fun K' hK' => hK' _ _ _ (hK _ _ _ ?_)
  clear hK' K' hK K
  refine vc_cond (t := false) rfl (fun h => by cases h) (fun _ => ?_)
  refine vc_skip ?_
  refine vc_seq ?_
  refine vc_seq ?_
  refine vc_regD [(2, 3), (2, 4), (17, 19), (17, 20)] (by kernel_rfl) (by kernel_rfl) fun K hK => ?_
  refine runD_n (z := false) 2 (fun K' hK' => hK' _ _ _ _ ?_) (by decide)
  clear hK' K'
  refine runD_call (p29 _ _) rfl rfl rfl rfl ?_
  refine runD_n (z := false) 2 (fun K' hK' => hK' _ _ _ _ ?_) (by decide)
  clear hK' K'
  refine runD_call (p29 _ _) rfl rfl rfl rfl ?_
  refine runD_n (z := false) 3 (fun K' hK' => hK' _ _ _ _ ?_) (by decide)
  clear hK' K'
  refine W_case 21 rfl (fun g0 => ?_) (fun g0 => ?_)
  · -- split 0 at 3,9 true
    rw [ord_a] at g0; cases g0
  · -- split 0 at 3,9 false
    refine runD_n (z := false) 2 (fun K' hK' => hK' _ _ _ _ ?_) (by decide)
    clear hK' K'
    refine runD_call (p29 _ _) rfl rfl rfl rfl ?_
    refine runD_n (z := false) 3 (fun K' hK' => hK' _ _ _ _ ?_) (by decide)
    clear hK' K'
    refine W_case 27 rfl (fun g1 => ?_) (fun g1 => ?_)
    · -- split 1 at 3,15 true
      rw [ord_b] at g1; cases g1
    · -- split 1 at 3,15 false
      refine runD_n (z := false) 2 (fun K' hK' => hK' _ _ _ _ ?_) (by decide)
      clear hK' K'
      refine runD_call (p29 _ _) rfl rfl rfl rfl ?_
      refine runD_end (z := false) fun K' hK' => hK' _ _ _ _ (hK _ _ _ ?_)
      clear hK' K' hK K
      refine vc_cond rfl (fun c1 => ?_) (fun c1 => ?_)
      · -- cond 1 t36 true
        refine vc_seq ?_
        refine vc_go (by kernel_rfl) fun K hK => hK _ _ _ ?_
        clear hK K
        refine vc_ret ⟨.inr rfl, ?_⟩
        refine Eq.trans (b := some (.bool _)) rfl (congrArg (fun b => some (Value.bool b)) ?_)
        first
          | rfl
          | contradiction
          | (exfalso; rw [wd_beq, ord_c] at c1; exact absurd c1 (by decide))
          | (exfalso; simp only [decide_eq_true_eq, cmpW_le, cmpW_gt'] at *; omega)
          | (simp only [bne_eq_false_iff_eq, beq_iff_eq] at *; have e1 : x = a + c := (by omega); have e2 : y = b + c := (by omega); subst e1 e2; exact cmpW_add a b c)
      · -- cond 1 t36 false
        refine vc_skip ?_
        refine vc_seq ?_
        refine vc_seq ?_
        refine vc_reg (by kernel_rfl) fun K hK => ?_
        refine run_n (z := false) 2 (fun K' hK' => hK' _ _ _ ?_) (by decide)
        clear hK' K'
        refine run_call (p29 _ _) rfl rfl rfl rfl ?_
        refine run_n (z := false) 2 (fun K' hK' => hK' _ _ _ ?_) (by decide)
        clear hK' K'
        refine vgo_case 41 rfl (fun g2 => ?_) (fun g2 => ?_)
        · -- split 2 at 5,5 true
          refine run_n (z := false) 2 (fun K' hK' => hK' _ _ _ ?_) (by decide)
          clear hK' K'
          refine run_call (p29 _ _) rfl rfl rfl rfl ?_
          refine run_n (z := false) 3 (fun K' hK' => hK' _ _ _ ?_) (by decide)
          clear hK' K'
          refine vgo_case 47 rfl (fun g3 => ?_) (fun g3 => ?_)
          · -- split 3 at 5,11 true
            refine run_n (z := false) 2 (fun K' hK' => hK' _ _ _ ?_) (by decide)
            clear hK' K'
            refine run_call (p29 _ _) rfl rfl rfl rfl ?_
            refine run_end (z := false) fun K' hK' => hK' _ _ _ (hK _ _ _ ?_)
            clear hK' K' hK K
            refine vc_cond rfl (fun c2 => ?_) (fun c2 => ?_)
            · -- cond 2 t52 true
              refine vc_seq ?_
              refine vc_go (by kernel_rfl) fun K hK => hK _ _ _ ?_
              clear hK K
              refine vc_ret ⟨.inr rfl, ?_⟩
              refine Eq.trans (b := some (.bool _)) rfl (congrArg (fun b => some (Value.bool b)) ?_)
              first
                | rfl
                | contradiction
                | (exfalso; rw [wd_beq, ord_c] at c1; exact absurd c1 (by decide))
                | (exfalso; simp only [decide_eq_true_eq, cmpW_le, cmpW_gt'] at *; omega)
                | (simp only [bne_eq_false_iff_eq, beq_iff_eq] at *; have e1 : x = a + c := (by omega); have e2 : y = b + c := (by omega); subst e1 e2; exact cmpW_add a b c)
            · -- cond 2 t52 false
              refine vc_skip ?_
              refine vc_seq ?_
              refine vc_reg (by kernel_rfl) fun K hK => ?_
              refine run_n (z := false) 2 (fun K' hK' => hK' _ _ _ ?_) (by decide)
              clear hK' K'
              refine run_call (h1) rfl rfl rfl rfl ?_
              refine run_end (z := false) fun K' hK' => hK' _ _ _ (hK _ _ _ ?_)
              clear hK' K' hK K
              refine vc_seq ?_
              refine vc_reg (by kernel_rfl) fun K hK => ?_
              refine run_n (z := false) 2 (fun K' hK' => hK' _ _ _ ?_) (by decide)
              clear hK' K'
              refine run_call (h2) rfl rfl rfl rfl ?_
              refine run_end (z := false) fun K' hK' => hK' _ _ _ (hK _ _ _ ?_)
              clear hK' K' hK K
              refine vc_seq ?_
              refine vc_regD [(9, 10), (9, 11)] (by kernel_rfl) (by kernel_rfl) fun K hK => ?_
              refine runD_n (z := false) 3 (fun K' hK' => hK' _ _ _ _ ?_) (by decide)
              clear hK' K'
              refine W_case 67 rfl (fun g4 => ?_) (fun g4 => ?_)
              · -- split 4 at 9,3 true
                refine runD_n (z := false) 4 (fun K' hK' => hK' _ _ _ _ ?_) (by decide)
                clear hK' K'
                refine W_case 71 rfl (fun g5 => ?_) (fun g5 => ?_)
                · -- split 5 at 9,7 true
                  refine runD_end (z := false) fun K' hK' => hK' _ _ _ _ (hK _ _ _ ?_)
                  clear hK' K' hK K
                  refine vc_ret ⟨.inr rfl, ?_⟩
                  refine Eq.trans (b := some (.bool _)) rfl (congrArg (fun b => some (Value.bool b)) ?_)
                  first
                    | rfl
                    | contradiction
                    | (exfalso; rw [wd_beq, ord_c] at c1; exact absurd c1 (by decide))
                    | (exfalso; simp only [decide_eq_true_eq, cmpW_le, cmpW_gt'] at *; omega)
                    | (simp only [bne_eq_false_iff_eq, beq_iff_eq] at *; have e1 : x = a + c := (by omega); have e2 : y = b + c := (by omega); subst e1 e2; exact cmpW_add a b c)
                · -- split 5 at 9,7 false
                  refine runD_n (z := false) 2 (fun K' hK' => hK' _ _ _ _ ?_) (by decide)
                  clear hK' K'
                  refine runD_call (p29 _ _) rfl rfl rfl rfl ?_
                  refine runD_n (z := false) 2 (fun K' hK' => hK' _ _ _ _ ?_) (by decide)
                  clear hK' K'
                  refine runD_call (p29 _ _) rfl rfl rfl rfl ?_
                  refine runD_end (z := false) fun K' hK' => hK' _ _ _ _ (hK _ _ _ ?_)
                  clear hK' K' hK K
                  refine vc_ret ⟨.inr rfl, ?_⟩
                  refine Eq.trans (b := some (.bool _)) rfl (congrArg (fun b => some (Value.bool b)) ?_)
                  first
                    | rfl
                    | contradiction
                    | (exfalso; rw [wd_beq, ord_c] at c1; exact absurd c1 (by decide))
                    | (exfalso; simp only [decide_eq_true_eq, cmpW_le, cmpW_gt'] at *; omega)
                    | (simp only [bne_eq_false_iff_eq, beq_iff_eq] at *; have e1 : x = a + c := (by omega); have e2 : y = b + c := (by omega); subst e1 e2; exact cmpW_add a b c)
              · -- split 4 at 9,3 false
                refine runD_n (z := false) 4 (fun K' hK' => hK' _ _ _ _ ?_) (by decide)
                clear hK' K'
                refine W_case 71 rfl (fun g6 => ?_) (fun g6 => ?_)
                · -- split 6 at 9,7 true
                  refine runD_end (z := false) fun K' hK' => hK' _ _ _ _ (hK _ _ _ ?_)
                  clear hK' K' hK K
                  refine vc_ret ⟨.inr rfl, ?_⟩
                  refine Eq.trans (b := some (.bool _)) rfl (congrArg (fun b => some (Value.bool b)) ?_)
                  first
                    | rfl
                    | contradiction
                    | (exfalso; rw [wd_beq, ord_c] at c1; exact absurd c1 (by decide))
                    | (exfalso; simp only [decide_eq_true_eq, cmpW_le, cmpW_gt'] at *; omega)
                    | (simp only [bne_eq_false_iff_eq, beq_iff_eq] at *; have e1 : x = a + c := (by omega); have e2 : y = b + c := (by omega); subst e1 e2; exact cmpW_add a b c)
                · -- split 6 at 9,7 false
                  refine runD_n (z := false) 2 (fun K' hK' => hK' _ _ _ _ ?_) (by decide)
                  clear hK' K'
                  refine runD_call (p29 _ _) rfl rfl rfl rfl ?_
                  refine runD_n (z := false) 2 (fun K' hK' => hK' _ _ _ _ ?_) (by decide)
                  clear hK' K'
                  refine runD_call (p29 _ _) rfl rfl rfl rfl ?_
                  refine runD_end (z := false) fun K' hK' => hK' _ _ _ _ (hK _ _ _ ?_)
                  clear hK' K' hK K
                  refine vc_ret ⟨.inr rfl, ?_⟩
                  refine Eq.trans (b := some (.bool _)) rfl (congrArg (fun b => some (Value.bool b)) ?_)
                  first
                    | rfl
                    | contradiction
                    | (exfalso; rw [wd_beq, ord_c] at c1; exact absurd c1 (by decide))
                    | (exfalso; simp only [decide_eq_true_eq, cmpW_le, cmpW_gt'] at *; omega)
                    | (simp only [bne_eq_false_iff_eq, beq_iff_eq] at *; have e1 : x = a + c := (by omega); have e2 : y = b + c := (by omega); subst e1 e2; exact cmpW_add a b c)
          · -- split 3 at 5,11 false
            refine run_end (z := false) fun K' hK' => hK' _ _ _ (hK _ _ _ ?_)
            clear hK' K' hK K
            refine vc_cond rfl (fun c3 => ?_) (fun c3 => ?_)
            · -- cond 3 t52 true
              refine vc_seq ?_
              refine vc_go (by kernel_rfl) fun K hK => hK _ _ _ ?_
              clear hK K
              refine vc_ret ⟨.inr rfl, ?_⟩
              refine Eq.trans (b := some (.bool _)) rfl (congrArg (fun b => some (Value.bool b)) ?_)
              first
                | rfl
                | contradiction
                | (exfalso; rw [wd_beq, ord_c] at c1; exact absurd c1 (by decide))
                | (exfalso; simp only [decide_eq_true_eq, cmpW_le, cmpW_gt'] at *; omega)
                | (simp only [bne_eq_false_iff_eq, beq_iff_eq] at *; have e1 : x = a + c := (by omega); have e2 : y = b + c := (by omega); subst e1 e2; exact cmpW_add a b c)
            · -- cond 3 t52 false
              refine vc_skip ?_
              refine vc_seq ?_
              refine vc_reg (by kernel_rfl) fun K hK => ?_
              refine run_n (z := false) 2 (fun K' hK' => hK' _ _ _ ?_) (by decide)
              clear hK' K'
              refine run_call (h1) rfl rfl rfl rfl ?_
              refine run_end (z := false) fun K' hK' => hK' _ _ _ (hK _ _ _ ?_)
              clear hK' K' hK K
              refine vc_seq ?_
              refine vc_reg (by kernel_rfl) fun K hK => ?_
              refine run_n (z := false) 2 (fun K' hK' => hK' _ _ _ ?_) (by decide)
              clear hK' K'
              refine run_call (h2) rfl rfl rfl rfl ?_
              refine run_end (z := false) fun K' hK' => hK' _ _ _ (hK _ _ _ ?_)
              clear hK' K' hK K
              refine vc_seq ?_
              refine vc_regD [(9, 10), (9, 11)] (by kernel_rfl) (by kernel_rfl) fun K hK => ?_
              refine runD_n (z := false) 3 (fun K' hK' => hK' _ _ _ _ ?_) (by decide)
              clear hK' K'
              refine W_case 67 rfl (fun g7 => ?_) (fun g7 => ?_)
              · -- split 7 at 9,3 true
                refine runD_n (z := false) 4 (fun K' hK' => hK' _ _ _ _ ?_) (by decide)
                clear hK' K'
                refine W_case 71 rfl (fun g8 => ?_) (fun g8 => ?_)
                · -- split 8 at 9,7 true
                  refine runD_end (z := false) fun K' hK' => hK' _ _ _ _ (hK _ _ _ ?_)
                  clear hK' K' hK K
                  refine vc_ret ⟨.inr rfl, ?_⟩
                  refine Eq.trans (b := some (.bool _)) rfl (congrArg (fun b => some (Value.bool b)) ?_)
                  first
                    | rfl
                    | contradiction
                    | (exfalso; rw [wd_beq, ord_c] at c1; exact absurd c1 (by decide))
                    | (exfalso; simp only [decide_eq_true_eq, cmpW_le, cmpW_gt'] at *; omega)
                    | (simp only [bne_eq_false_iff_eq, beq_iff_eq] at *; have e1 : x = a + c := (by omega); have e2 : y = b + c := (by omega); subst e1 e2; exact cmpW_add a b c)
                · -- split 8 at 9,7 false
                  refine runD_n (z := false) 2 (fun K' hK' => hK' _ _ _ _ ?_) (by decide)
                  clear hK' K'
                  refine runD_call (p29 _ _) rfl rfl rfl rfl ?_
                  refine runD_n (z := false) 2 (fun K' hK' => hK' _ _ _ _ ?_) (by decide)
                  clear hK' K'
                  refine runD_call (p29 _ _) rfl rfl rfl rfl ?_
                  refine runD_end (z := false) fun K' hK' => hK' _ _ _ _ (hK _ _ _ ?_)
                  clear hK' K' hK K
                  refine vc_ret ⟨.inr rfl, ?_⟩
                  refine Eq.trans (b := some (.bool _)) rfl (congrArg (fun b => some (Value.bool b)) ?_)
                  first
                    | rfl
                    | contradiction
                    | (exfalso; rw [wd_beq, ord_c] at c1; exact absurd c1 (by decide))
                    | (exfalso; simp only [decide_eq_true_eq, cmpW_le, cmpW_gt'] at *; omega)
                    | (simp only [bne_eq_false_iff_eq, beq_iff_eq] at *; have e1 : x = a + c := (by omega); have e2 : y = b + c := (by omega); subst e1 e2; exact cmpW_add a b c)
              · -- split 7 at 9,3 false
                refine runD_n (z := false) 4 (fun K' hK' => hK' _ _ _ _ ?_) (by decide)
                clear hK' K'
                refine W_case 71 rfl (fun g9 => ?_) (fun g9 => ?_)
                · -- split 9 at 9,7 true
                  refine runD_end (z := false) fun K' hK' => hK' _ _ _ _ (hK _ _ _ ?_)
                  clear hK' K' hK K
                  refine vc_ret ⟨.inr rfl, ?_⟩
                  refine Eq.trans (b := some (.bool _)) rfl (congrArg (fun b => some (Value.bool b)) ?_)
                  first
                    | rfl
                    | contradiction
                    | (exfalso; rw [wd_beq, ord_c] at c1; exact absurd c1 (by decide))
                    | (exfalso; simp only [decide_eq_true_eq, cmpW_le, cmpW_gt'] at *; omega)
                    | (simp only [bne_eq_false_iff_eq, beq_iff_eq] at *; have e1 : x = a + c := (by omega); have e2 : y = b + c := (by omega); subst e1 e2; exact cmpW_add a b c)
                · -- split 9 at 9,7 false
                  refine runD_n (z := false) 2 (fun K' hK' => hK' _ _ _ _ ?_) (by decide)
                  clear hK' K'
                  refine runD_call (p29 _ _) rfl rfl rfl rfl ?_
                  refine runD_n (z := false) 2 (fun K' hK' => hK' _ _ _ _ ?_) (by decide)
                  clear hK' K'
                  refine runD_call (p29 _ _) rfl rfl rfl rfl ?_
                  refine runD_end (z := false) fun K' hK' => hK' _ _ _ _ (hK _ _ _ ?_)
                  clear hK' K' hK K
                  refine vc_ret ⟨.inr rfl, ?_⟩
                  refine Eq.trans (b := some (.bool _)) rfl (congrArg (fun b => some (Value.bool b)) ?_)
                  first
                    | rfl
                    | contradiction
                    | (exfalso; rw [wd_beq, ord_c] at c1; exact absurd c1 (by decide))
                    | (exfalso; simp only [decide_eq_true_eq, cmpW_le, cmpW_gt'] at *; omega)
                    | (simp only [bne_eq_false_iff_eq, beq_iff_eq] at *; have e1 : x = a + c := (by omega); have e2 : y = b + c := (by omega); subst e1 e2; exact cmpW_add a b c)
        · -- split 2 at 5,5 false
          refine run_n (z := false) 6 (fun K' hK' => hK' _ _ _ ?_) (by decide)
          clear hK' K'
          refine vgo_case 47 rfl (fun g10 => ?_) (fun g10 => ?_)
          · -- split 10 at 5,11 true
            refine run_n (z := false) 2 (fun K' hK' => hK' _ _ _ ?_) (by decide)
            clear hK' K'
            refine run_call (p29 _ _) rfl rfl rfl rfl ?_
            refine run_end (z := false) fun K' hK' => hK' _ _ _ (hK _ _ _ ?_)
            clear hK' K' hK K
            refine vc_cond rfl (fun c4 => ?_) (fun c4 => ?_)
            · -- cond 4 t52 true
              refine vc_seq ?_
              refine vc_go (by kernel_rfl) fun K hK => hK _ _ _ ?_
              clear hK K
              refine vc_ret ⟨.inr rfl, ?_⟩
              refine Eq.trans (b := some (.bool _)) rfl (congrArg (fun b => some (Value.bool b)) ?_)
              first
                | rfl
                | contradiction
                | (exfalso; rw [wd_beq, ord_c] at c1; exact absurd c1 (by decide))
                | (exfalso; simp only [decide_eq_true_eq, cmpW_le, cmpW_gt'] at *; omega)
                | (simp only [bne_eq_false_iff_eq, beq_iff_eq] at *; have e1 : x = a + c := (by omega); have e2 : y = b + c := (by omega); subst e1 e2; exact cmpW_add a b c)
            · -- cond 4 t52 false
              refine vc_skip ?_
              refine vc_seq ?_
              refine vc_reg (by kernel_rfl) fun K hK => ?_
              refine run_n (z := false) 2 (fun K' hK' => hK' _ _ _ ?_) (by decide)
              clear hK' K'
              refine run_call (h1) rfl rfl rfl rfl ?_
              refine run_end (z := false) fun K' hK' => hK' _ _ _ (hK _ _ _ ?_)
              clear hK' K' hK K
              refine vc_seq ?_
              refine vc_reg (by kernel_rfl) fun K hK => ?_
              refine run_n (z := false) 2 (fun K' hK' => hK' _ _ _ ?_) (by decide)
              clear hK' K'
              refine run_call (h2) rfl rfl rfl rfl ?_
              refine run_end (z := false) fun K' hK' => hK' _ _ _ (hK _ _ _ ?_)
              clear hK' K' hK K
              refine vc_seq ?_
              refine vc_regD [(9, 10), (9, 11)] (by kernel_rfl) (by kernel_rfl) fun K hK => ?_
              refine runD_n (z := false) 3 (fun K' hK' => hK' _ _ _ _ ?_) (by decide)
              clear hK' K'
              refine W_case 67 rfl (fun g11 => ?_) (fun g11 => ?_)
              · -- split 11 at 9,3 true
                refine runD_n (z := false) 4 (fun K' hK' => hK' _ _ _ _ ?_) (by decide)
                clear hK' K'
                refine W_case 71 rfl (fun g12 => ?_) (fun g12 => ?_)
                · -- split 12 at 9,7 true
                  refine runD_end (z := false) fun K' hK' => hK' _ _ _ _ (hK _ _ _ ?_)
                  clear hK' K' hK K
                  refine vc_ret ⟨.inr rfl, ?_⟩
                  refine Eq.trans (b := some (.bool _)) rfl (congrArg (fun b => some (Value.bool b)) ?_)
                  first
                    | rfl
                    | contradiction
                    | (exfalso; rw [wd_beq, ord_c] at c1; exact absurd c1 (by decide))
                    | (exfalso; simp only [decide_eq_true_eq, cmpW_le, cmpW_gt'] at *; omega)
                    | (simp only [bne_eq_false_iff_eq, beq_iff_eq] at *; have e1 : x = a + c := (by omega); have e2 : y = b + c := (by omega); subst e1 e2; exact cmpW_add a b c)
                · -- split 12 at 9,7 false
                  refine runD_n (z := false) 2 (fun K' hK' => hK' _ _ _ _ ?_) (by decide)
                  clear hK' K'
                  refine runD_call (p29 _ _) rfl rfl rfl rfl ?_
                  refine runD_n (z := false) 2 (fun K' hK' => hK' _ _ _ _ ?_) (by decide)
                  clear hK' K'
                  refine runD_call (p29 _ _) rfl rfl rfl rfl ?_
                  refine runD_end (z := false) fun K' hK' => hK' _ _ _ _ (hK _ _ _ ?_)
                  clear hK' K' hK K
                  refine vc_ret ⟨.inr rfl, ?_⟩
                  refine Eq.trans (b := some (.bool _)) rfl (congrArg (fun b => some (Value.bool b)) ?_)
                  first
                    | rfl
                    | contradiction
                    | (exfalso; rw [wd_beq, ord_c] at c1; exact absurd c1 (by decide))
                    | (exfalso; simp only [decide_eq_true_eq, cmpW_le, cmpW_gt'] at *; omega)
                    | (simp only [bne_eq_false_iff_eq, beq_iff_eq] at *; have e1 : x = a + c := (by omega); have e2 : y = b + c := (by omega); subst e1 e2; exact cmpW_add a b c)
              · -- split 11 at 9,3 false
                refine runD_n (z := false) 4 (fun K' hK' => hK' _ _ _ _ ?_) (by decide)
                clear hK' K'
                refine W_case 71 rfl (fun g13 => ?_) (fun g13 => ?_)
                · -- split 13 at 9,7 true
                  refine runD_end (z := false) fun K' hK' => hK' _ _ _ _ (hK _ _ _ ?_)
                  clear hK' K' hK K
                  refine vc_ret ⟨.inr rfl, ?_⟩
                  refine Eq.trans (b := some (.bool _)) rfl (congrArg (fun b => some (Value.bool b)) ?_)
                  first
                    | rfl
                    | contradiction
                    | (exfalso; rw [wd_beq, ord_c] at c1; exact absurd c1 (by decide))
                    | (exfalso; simp only [decide_eq_true_eq, cmpW_le, cmpW_gt'] at *; omega)
                    | (simp only [bne_eq_false_iff_eq, beq_iff_eq] at *; have e1 : x = a + c := (by omega); have e2 : y = b + c := (by omega); subst e1 e2; exact cmpW_add a b c)
                · -- split 13 at 9,7 false
                  refine runD_n (z := false) 2 (fun K' hK' => hK' _ _ _ _ ?_) (by decide)
                  clear hK' K'
                  refine runD_call (p29 _ _) rfl rfl rfl rfl ?_
                  refine runD_n (z := false) 2 (fun K' hK' => hK' _ _ _ _ ?_) (by decide)
                  clear hK' K'
                  refine runD_call (p29 _ _) rfl rfl rfl rfl ?_
                  refine runD_end (z := false) fun K' hK' => hK' _ _ _ _ (hK _ _ _ ?_)
                  clear hK' K' hK K
                  refine vc_ret ⟨.inr rfl, ?_⟩
                  refine Eq.trans (b := some (.bool _)) rfl (congrArg (fun b => some (Value.bool b)) ?_)
                  first
                    | rfl
                    | contradiction
                    | (exfalso; rw [wd_beq, ord_c] at c1; exact absurd c1 (by decide))
                    | (exfalso; simp only [decide_eq_true_eq, cmpW_le, cmpW_gt'] at *; omega)
                    | (simp only [bne_eq_false_iff_eq, beq_iff_eq] at *; have e1 : x = a + c := (by omega); have e2 : y = b + c := (by omega); subst e1 e2; exact cmpW_add a b c)
          · -- split 10 at 5,11 false
            refine run_end (z := false) fun K' hK' => hK' _ _ _ (hK _ _ _ ?_)
            clear hK' K' hK K
            refine vc_cond rfl (fun c5 => ?_) (fun c5 => ?_)
            · -- cond 5 t52 true
              refine vc_seq ?_
              refine vc_go (by kernel_rfl) fun K hK => hK _ _ _ ?_
              clear hK K
              refine vc_ret ⟨.inr rfl, ?_⟩
              refine Eq.trans (b := some (.bool _)) rfl (congrArg (fun b => some (Value.bool b)) ?_)
              first
                | rfl
                | contradiction
                | (exfalso; rw [wd_beq, ord_c] at c1; exact absurd c1 (by decide))
                | (exfalso; simp only [decide_eq_true_eq, cmpW_le, cmpW_gt'] at *; omega)
                | (simp only [bne_eq_false_iff_eq, beq_iff_eq] at *; have e1 : x = a + c := (by omega); have e2 : y = b + c := (by omega); subst e1 e2; exact cmpW_add a b c)
            · -- cond 5 t52 false
              refine vc_skip ?_
              refine vc_seq ?_
              refine vc_reg (by kernel_rfl) fun K hK => ?_
              refine run_n (z := false) 2 (fun K' hK' => hK' _ _ _ ?_) (by decide)
              clear hK' K'
              refine run_call (h1) rfl rfl rfl rfl ?_
              refine run_end (z := false) fun K' hK' => hK' _ _ _ (hK _ _ _ ?_)
              clear hK' K' hK K
              refine vc_seq ?_
              refine vc_reg (by kernel_rfl) fun K hK => ?_
              refine run_n (z := false) 2 (fun K' hK' => hK' _ _ _ ?_) (by decide)
              clear hK' K'
              refine run_call (h2) rfl rfl rfl rfl ?_
              refine run_end (z := false) fun K' hK' => hK' _ _ _ (hK _ _ _ ?_)
              clear hK' K' hK K
              refine vc_seq ?_
              refine vc_regD [(9, 10), (9, 11)] (by kernel_rfl) (by kernel_rfl) fun K hK => ?_
              refine runD_n (z := false) 3 (fun K' hK' => hK' _ _ _ _ ?_) (by decide)
              clear hK' K'
              refine W_case 67 rfl (fun g14 => ?_) (fun g14 => ?_)
              · -- split 14 at 9,3 true
                refine runD_n (z := false) 4 (fun K' hK' => hK' _ _ _ _ ?_) (by decide)
                clear hK' K'
                refine W_case 71 rfl (fun g15 => ?_) (fun g15 => ?_)
                · -- split 15 at 9,7 true
                  refine runD_end (z := false) fun K' hK' => hK' _ _ _ _ (hK _ _ _ ?_)
                  clear hK' K' hK K
                  refine vc_ret ⟨.inr rfl, ?_⟩
                  refine Eq.trans (b := some (.bool _)) rfl (congrArg (fun b => some (Value.bool b)) ?_)
                  first
                    | rfl
                    | contradiction
                    | (exfalso; rw [wd_beq, ord_c] at c1; exact absurd c1 (by decide))
                    | (exfalso; simp only [decide_eq_true_eq, cmpW_le, cmpW_gt'] at *; omega)
                    | (simp only [bne_eq_false_iff_eq, beq_iff_eq] at *; have e1 : x = a + c := (by omega); have e2 : y = b + c := (by omega); subst e1 e2; exact cmpW_add a b c)
                · -- split 15 at 9,7 false
                  refine runD_n (z := false) 2 (fun K' hK' => hK' _ _ _ _ ?_) (by decide)
                  clear hK' K'
                  refine runD_call (p29 _ _) rfl rfl rfl rfl ?_
                  refine runD_n (z := false) 2 (fun K' hK' => hK' _ _ _ _ ?_) (by decide)
                  clear hK' K'
                  refine runD_call (p29 _ _) rfl rfl rfl rfl ?_
                  refine runD_end (z := false) fun K' hK' => hK' _ _ _ _ (hK _ _ _ ?_)
                  clear hK' K' hK K
                  refine vc_ret ⟨.inr rfl, ?_⟩
                  refine Eq.trans (b := some (.bool _)) rfl (congrArg (fun b => some (Value.bool b)) ?_)
                  first
                    | rfl
                    | contradiction
                    | (exfalso; rw [wd_beq, ord_c] at c1; exact absurd c1 (by decide))
                    | (exfalso; simp only [decide_eq_true_eq, cmpW_le, cmpW_gt'] at *; omega)
                    | (simp only [bne_eq_false_iff_eq, beq_iff_eq] at *; have e1 : x = a + c := (by omega); have e2 : y = b + c := (by omega); subst e1 e2; exact cmpW_add a b c)
              · -- split 14 at 9,3 false
                refine runD_n (z := false) 4 (fun K' hK' => hK' _ _ _ _ ?_) (by decide)
                clear hK' K'
                refine W_case 71 rfl (fun g16 => ?_) (fun g16 => ?_)
                · -- split 16 at 9,7 true
                  refine runD_end (z := false) fun K' hK' => hK' _ _ _ _ (hK _ _ _ ?_)
                  clear hK' K' hK K
                  refine vc_ret ⟨.inr rfl, ?_⟩
                  refine Eq.trans (b := some (.bool _)) rfl (congrArg (fun b => some (Value.bool b)) ?_)
                  first
                    | rfl
                    | contradiction
                    | (exfalso; rw [wd_beq, ord_c] at c1; exact absurd c1 (by decide))
                    | (exfalso; simp only [decide_eq_true_eq, cmpW_le, cmpW_gt'] at *; omega)
                    | (simp only [bne_eq_false_iff_eq, beq_iff_eq] at *; have e1 : x = a + c := (by omega); have e2 : y = b + c := (by omega); subst e1 e2; exact cmpW_add a b c)
                · -- split 16 at 9,7 false
                  refine runD_n (z := false) 2 (fun K' hK' => hK' _ _ _ _ ?_) (by decide)
                  clear hK' K'
                  refine runD_call (p29 _ _) rfl rfl rfl rfl ?_
                  refine runD_n (z := false) 2 (fun K' hK' => hK' _ _ _ _ ?_) (by decide)
                  clear hK' K'
                  refine runD_call (p29 _ _) rfl rfl rfl rfl ?_
                  refine runD_end (z := false) fun K' hK' => hK' _ _ _ _ (hK _ _ _ ?_)
                  clear hK' K' hK K
                  refine vc_ret ⟨.inr rfl, ?_⟩
                  refine Eq.trans (b := some (.bool _)) rfl (congrArg (fun b => some (Value.bool b)) ?_)
                  first
                    | rfl
                    | contradiction
                    | (exfalso; rw [wd_beq, ord_c] at c1; exact absurd c1 (by decide))
                    | (exfalso; simp only [decide_eq_true_eq, cmpW_le, cmpW_gt'] at *; omega)
                    | (simp only [bne_eq_false_iff_eq, beq_iff_eq] at *; have e1 : x = a + c := (by omega); have e2 : y = b + c := (by omega); subst e1 e2; exact cmpW_add a b c)
end Go.Proofs.Ytdfkcijholopoaa.Vm
