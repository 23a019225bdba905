/- FracTells: which fractions may be, and how they stand. -/
import Derived.Test.YtdfkcijholopoaaFd
namespace Go.Proofs.Ytdfkcijholopoaa.Vm
open Go Go.RowKit
set_option maxRecDepth 10000
set_option linter.unusedSimpArgs false
set_option linter.unusedVariables false

theorem fr_of {k : Nat} (w : Nat) (hk : k < 2 ^ 64) : (!((((k / 2 ^ 64 : Nat) : Int) == 0) && (((k % 2 ^ 64 : Nat) : Int) == (k : Int)) && ((w : Int) == (w : Int)))) = false := by
  rw [Nat.div_eq_of_lt hk, Nat.mod_eq_of_lt hk]
  simp
theorem ne_self (x : Int) : (x != x) = false := by simp


theorem p12TFF {a v b w k : Nat} (hk : k < 2 ^ 64) (ra : rt a v = true) (hw : wt w = false) (rb : rt b w = false) : Pure 12 [fr a v, fr b w, u64 k] (.bool true) := by
  have g55 := p55 a v
  rw [ra] at g55
  have g59 := p59 w
  rw [hw] at g59
  have k55 := p55 b w
  rw [rb] at k55
  have ma := rt_w ra
  refine pure_of Try.func12 rfl Try.ntmps12 (by kernel_rfl) rfl (by simp) rfl ?_
  refine vc_seq ?_
  refine vc_go (by kernel_rfl) fun K hK => hK _ _ _ ?_
  clear hK K
  refine vc_seq ?_
  refine vc_seq ?_
  refine vc_reg (by kernel_rfl) fun K hK => ?_
  refine run_call (p52) rfl rfl rfl rfl ?_
  refine run_end (z := false) fun K' hK' => hK' _ _ _ (hK _ _ _ ?_)
  clear hK' K' hK K
  refine vc_cond (t := false) rfl (fun h => by cases h) (fun _ => ?_)
  refine vc_skip ?_
  refine vc_seq ?_
  refine vc_reg (by kernel_rfl) fun K hK => ?_
  refine run_n (z := false) 1 (fun K' hK' => hK' _ _ _ ?_) (by decide)
  clear hK' K'
  refine run_call (g55) rfl rfl rfl rfl ?_
  refine run_end (z := false) fun K' hK' => hK' _ _ _ (hK _ _ _ ?_)
  clear hK' K' hK K
  refine vc_seq ?_
  refine vc_reg (by kernel_rfl) fun K hK => ?_
  refine run_n (z := false) 1 (fun K' hK' => hK' _ _ _ ?_) (by decide)
  clear hK' K'
  refine run_call (p57y ra) rfl rfl rfl rfl ?_
  refine run_end (z := false) fun K' hK' => hK' _ _ _ (hK _ _ _ ?_)
  clear hK' K' hK K
  refine vc_seq ?_
  refine vc_seq ?_
  refine vc_go (by kernel_rfl) fun K hK => hK _ _ _ ?_
  clear hK K
  refine vc_cond (t := false) rfl (fun h => by cases h) (fun _ => ?_)
  refine vc_skip ?_
  refine vc_seq ?_
  refine vc_reg (by kernel_rfl) fun K hK => ?_
  refine run_n (z := false) 3 (fun K' hK' => hK' _ _ _ ?_) (by decide)
  clear hK' K'
  refine run_call (p58n hk hw) rfl rfl rfl rfl ?_
  refine run_end (z := false) fun K' hK' => hK' _ _ _ (hK _ _ _ ?_)
  clear hK' K' hK K
  refine vc_seq ?_
  refine vc_seq ?_
  refine vc_reg (by kernel_rfl) fun K hK => ?_
  refine run_n (z := false) 2 (fun K' hK' => hK' _ _ _ ?_) (by decide)
  clear hK' K'
  refine run_call (g59) rfl rfl rfl rfl ?_
  refine run_end (z := false) fun K' hK' => hK' _ _ _ (hK _ _ _ ?_)
  clear hK' K' hK K
  refine vc_seq ?_
  refine vc_go (by kernel_rfl) fun K hK => hK _ _ _ ?_
  clear hK K
  refine vc_cond (t := false) rfl (fun h => by cases h) (fun _ => ?_)
  refine vc_skip ?_
  refine vc_seq ?_
  refine vc_go (by kernel_rfl) fun K hK => hK _ _ _ ?_
  clear hK K
  refine vc_seq ?_
  refine vc_seq ?_
  refine vc_reg (by kernel_rfl) fun K hK => ?_
  refine run_n (z := false) 3 (fun K' hK' => hK' _ _ _ ?_) (by decide)
  clear hK' K'
  refine run_call (k55) rfl rfl rfl rfl ?_
  refine run_end (z := false) fun K' hK' => hK' _ _ _ (hK _ _ _ ?_)
  clear hK' K' hK K
  refine vc_cond (t := false) rfl (fun h => by cases h) (fun _ => ?_)
  refine vc_skip ?_
  refine vc_seq ?_
  refine vc_seq ?_
  refine vc_reg (by kernel_rfl) fun K hK => ?_
  refine run_n (z := false) 2 (fun K' hK' => hK' _ _ _ ?_) (by decide)
  clear hK' K'
  refine run_call (p42n (by rw [ra, rb]; rfl)) rfl rfl rfl rfl ?_
  refine run_end (z := false) fun K' hK' => hK' _ _ _ (hK _ _ _ ?_)
  clear hK' K' hK K
  refine vc_cond (t := false) rfl (fun h => by cases h) (fun _ => ?_)
  refine vc_skip ?_
  refine vc_seq ?_
  refine vc_reg (by kernel_rfl) fun K hK => ?_
  refine run_n (z := false) 1 (fun K' hK' => hK' _ _ _ ?_) (by decide)
  clear hK' K'
  refine run_call (p60y ra) rfl rfl rfl rfl ?_
  refine run_end (z := false) fun K' hK' => hK' _ _ _ (hK _ _ _ ?_)
  clear hK' K' hK K
  refine vc_seq ?_
  refine vc_seq ?_
  refine vc_go (by kernel_rfl) fun K hK => hK _ _ _ ?_
  clear hK K
  refine vc_cond (t := false) rfl (fun h => by cases h) (fun _ => ?_)
  refine vc_skip ?_
  refine vc_seq ?_
  refine vc_regD [(2, 4), (1, 11), (2, 11), (4, 11), (6, 11), (7, 11), (1, 12), (2, 12), (4, 12), (6, 12), (7, 12), (11, 12)] (by kernel_rfl) (by kernel_rfl) fun K hK => ?_
  refine runD_n (z := false) 2 (fun K' hK' => hK' _ _ _ _ ?_) (by decide)
  clear hK' K'
  refine runD_call (p25 (Nat.lt_trans ma.2.2 (by decide))) rfl rfl rfl rfl ?_
  refine runD_n (z := false) 3 (fun K' hK' => hK' _ _ _ _ ?_) (by decide)
  clear hK' K'
  refine runD_call (p25s (by omega)) rfl rfl rfl rfl ?_
  refine runD_call (p24 (Nat.lt_trans ma.2.2 (by decide)) (by omega) (by omega)) rfl rfl rfl rfl ?_
  refine runD_n (z := false) 5 (fun K' hK' => hK' _ _ _ _ ?_) (by decide)
  clear hK' K'
  refine runD_set (vex_st32 rfl rfl bits0_length rfl) rfl (by decide) rfl rfl ?_
  refine runD_set (vex_st32 rfl rfl bits0_length rfl) rfl (by decide) rfl rfl ?_
  refine runD_end (z := false) fun K' hK' => hK' _ _ _ _ (hK _ _ _ ?_)
  clear hK' K' hK K
  refine vc_seq ?_
  refine vc_reg (by kernel_rfl) fun K hK => ?_
  refine run_rd (vex_ld32 rfl rfl) rfl ?_
  refine run_call (p26w (Nat.lt_of_le_of_lt (Nat.div_le_self _ _) (Nat.lt_trans ma.2.2 (by decide)))) rfl rfl rfl rfl ?_
  refine run_end (z := false) fun K' hK' => hK' _ _ _ (hK _ _ _ ?_)
  clear hK' K' hK K
  refine vc_seq ?_
  refine vc_go (by kernel_rfl) fun K hK => hK _ _ _ ?_
  clear hK K
  refine vc_ret ⟨.inr rfl, ?_⟩
  exact Eq.trans (b := some (.bool _)) rfl (fin_b (wd_eq (a / v)))

theorem p12TTF {a v b w k : Nat} (hk : k < 2 ^ 64) (ra : rt a v = true) (hw : wt w = true) (rb : rt b w = false) : Pure 12 [fr a v, fr b w, u64 k] (.bool true) := by
  have g55 := p55 a v
  rw [ra] at g55
  have g59 := p59 w
  rw [hw] at g59
  have k55 := p55 b w
  rw [rb] at k55
  have ma := rt_w ra
  refine pure_of Try.func12 rfl Try.ntmps12 (by kernel_rfl) rfl (by simp) rfl ?_
  refine vc_seq ?_
  refine vc_go (by kernel_rfl) fun K hK => hK _ _ _ ?_
  clear hK K
  refine vc_seq ?_
  refine vc_seq ?_
  refine vc_reg (by kernel_rfl) fun K hK => ?_
  refine run_call (p52) rfl rfl rfl rfl ?_
  refine run_end (z := false) fun K' hK' => hK' _ _ _ (hK _ _ _ ?_)
  clear hK' K' hK K
  refine vc_cond (t := false) rfl (fun h => by cases h) (fun _ => ?_)
  refine vc_skip ?_
  refine vc_seq ?_
  refine vc_reg (by kernel_rfl) fun K hK => ?_
  refine run_n (z := false) 1 (fun K' hK' => hK' _ _ _ ?_) (by decide)
  clear hK' K'
  refine run_call (g55) rfl rfl rfl rfl ?_
  refine run_end (z := false) fun K' hK' => hK' _ _ _ (hK _ _ _ ?_)
  clear hK' K' hK K
  refine vc_seq ?_
  refine vc_reg (by kernel_rfl) fun K hK => ?_
  refine run_n (z := false) 1 (fun K' hK' => hK' _ _ _ ?_) (by decide)
  clear hK' K'
  refine run_call (p57y ra) rfl rfl rfl rfl ?_
  refine run_end (z := false) fun K' hK' => hK' _ _ _ (hK _ _ _ ?_)
  clear hK' K' hK K
  refine vc_seq ?_
  refine vc_seq ?_
  refine vc_go (by kernel_rfl) fun K hK => hK _ _ _ ?_
  clear hK K
  refine vc_cond (t := false) rfl (fun h => by cases h) (fun _ => ?_)
  refine vc_skip ?_
  refine vc_seq ?_
  refine vc_reg (by kernel_rfl) fun K hK => ?_
  refine run_n (z := false) 3 (fun K' hK' => hK' _ _ _ ?_) (by decide)
  clear hK' K'
  refine run_call (p58y hk hw) rfl rfl rfl rfl ?_
  refine run_end (z := false) fun K' hK' => hK' _ _ _ (hK _ _ _ ?_)
  clear hK' K' hK K
  refine vc_seq ?_
  refine vc_seq ?_
  refine vc_reg (by kernel_rfl) fun K hK => ?_
  refine run_n (z := false) 2 (fun K' hK' => hK' _ _ _ ?_) (by decide)
  clear hK' K'
  refine run_call (g59) rfl rfl rfl rfl ?_
  refine run_end (z := false) fun K' hK' => hK' _ _ _ (hK _ _ _ ?_)
  clear hK' K' hK K
  refine vc_seq ?_
  refine vc_reg (by kernel_rfl) fun K hK => ?_
  refine run_n (z := false) 17 (fun K' hK' => hK' _ _ _ ?_) (by decide)
  clear hK' K'
  refine vgo_known 62 (b := false) (bb (fr_of w hk)) ?_
  refine run_end (z := false) fun K' hK' => hK' _ _ _ (hK _ _ _ ?_)
  clear hK' K' hK K
  refine vc_cond (t := false) rfl (fun h => by cases h) (fun _ => ?_)
  refine vc_skip ?_
  refine vc_seq ?_
  refine vc_go (by kernel_rfl) fun K hK => hK _ _ _ ?_
  clear hK K
  refine vc_seq ?_
  refine vc_seq ?_
  refine vc_reg (by kernel_rfl) fun K hK => ?_
  refine run_n (z := false) 3 (fun K' hK' => hK' _ _ _ ?_) (by decide)
  clear hK' K'
  refine run_call (k55) rfl rfl rfl rfl ?_
  refine run_end (z := false) fun K' hK' => hK' _ _ _ (hK _ _ _ ?_)
  clear hK' K' hK K
  refine vc_cond (t := false) rfl (fun h => by cases h) (fun _ => ?_)
  refine vc_skip ?_
  refine vc_seq ?_
  refine vc_seq ?_
  refine vc_reg (by kernel_rfl) fun K hK => ?_
  refine run_n (z := false) 2 (fun K' hK' => hK' _ _ _ ?_) (by decide)
  clear hK' K'
  refine run_call (p42n (by rw [ra, rb]; rfl)) rfl rfl rfl rfl ?_
  refine run_end (z := false) fun K' hK' => hK' _ _ _ (hK _ _ _ ?_)
  clear hK' K' hK K
  refine vc_cond (t := false) rfl (fun h => by cases h) (fun _ => ?_)
  refine vc_skip ?_
  refine vc_seq ?_
  refine vc_reg (by kernel_rfl) fun K hK => ?_
  refine run_n (z := false) 1 (fun K' hK' => hK' _ _ _ ?_) (by decide)
  clear hK' K'
  refine run_call (p60y ra) rfl rfl rfl rfl ?_
  refine run_end (z := false) fun K' hK' => hK' _ _ _ (hK _ _ _ ?_)
  clear hK' K' hK K
  refine vc_seq ?_
  refine vc_seq ?_
  refine vc_go (by kernel_rfl) fun K hK => hK _ _ _ ?_
  clear hK K
  refine vc_cond (t := false) rfl (fun h => by cases h) (fun _ => ?_)
  refine vc_skip ?_
  refine vc_seq ?_
  refine vc_regD [(2, 4), (1, 11), (2, 11), (4, 11), (6, 11), (7, 11), (1, 12), (2, 12), (4, 12), (6, 12), (7, 12), (11, 12)] (by kernel_rfl) (by kernel_rfl) fun K hK => ?_
  refine runD_n (z := false) 2 (fun K' hK' => hK' _ _ _ _ ?_) (by decide)
  clear hK' K'
  refine runD_call (p25 (Nat.lt_trans ma.2.2 (by decide))) rfl rfl rfl rfl ?_
  refine runD_n (z := false) 3 (fun K' hK' => hK' _ _ _ _ ?_) (by decide)
  clear hK' K'
  refine runD_call (p25s (by omega)) rfl rfl rfl rfl ?_
  refine runD_call (p24 (Nat.lt_trans ma.2.2 (by decide)) (by omega) (by omega)) rfl rfl rfl rfl ?_
  refine runD_n (z := false) 5 (fun K' hK' => hK' _ _ _ _ ?_) (by decide)
  clear hK' K'
  refine runD_set (vex_st32 rfl rfl bits0_length rfl) rfl (by decide) rfl rfl ?_
  refine runD_set (vex_st32 rfl rfl bits0_length rfl) rfl (by decide) rfl rfl ?_
  refine runD_end (z := false) fun K' hK' => hK' _ _ _ _ (hK _ _ _ ?_)
  clear hK' K' hK K
  refine vc_seq ?_
  refine vc_reg (by kernel_rfl) fun K hK => ?_
  refine run_rd (vex_ld32 rfl rfl) rfl ?_
  refine run_call (p26w (Nat.lt_of_le_of_lt (Nat.div_le_self _ _) (Nat.lt_trans ma.2.2 (by decide)))) rfl rfl rfl rfl ?_
  refine run_end (z := false) fun K' hK' => hK' _ _ _ (hK _ _ _ ?_)
  clear hK' K' hK K
  refine vc_seq ?_
  refine vc_go (by kernel_rfl) fun K hK => hK _ _ _ ?_
  clear hK K
  refine vc_ret ⟨.inr rfl, ?_⟩
  exact Eq.trans (b := some (.bool _)) rfl (fin_b (wd_eq (a / v)))

theorem p12TTT {a v b w k : Nat} (hk : k < 2 ^ 64) (ra : rt a v = true) (hw : wt w = true) (rb : rt b w = true) : Pure 12 [fr a v, fr b w, u64 k] (.bool true) := by
  have g55 := p55 a v
  rw [ra] at g55
  have g59 := p59 w
  rw [hw] at g59
  have k55 := p55 b w
  rw [rb] at k55
  have na := rt_w ra
  have nb := rt_w rb
  have ma := rt_w ra
  refine pure_of Try.func12 rfl Try.ntmps12 (by kernel_rfl) rfl (by simp) rfl ?_
  refine vc_seq ?_
  refine vc_go (by kernel_rfl) fun K hK => hK _ _ _ ?_
  clear hK K
  refine vc_seq ?_
  refine vc_seq ?_
  refine vc_reg (by kernel_rfl) fun K hK => ?_
  refine run_call (p52) rfl rfl rfl rfl ?_
  refine run_end (z := false) fun K' hK' => hK' _ _ _ (hK _ _ _ ?_)
  clear hK' K' hK K
  refine vc_cond (t := false) rfl (fun h => by cases h) (fun _ => ?_)
  refine vc_skip ?_
  refine vc_seq ?_
  refine vc_reg (by kernel_rfl) fun K hK => ?_
  refine run_n (z := false) 1 (fun K' hK' => hK' _ _ _ ?_) (by decide)
  clear hK' K'
  refine run_call (g55) rfl rfl rfl rfl ?_
  refine run_end (z := false) fun K' hK' => hK' _ _ _ (hK _ _ _ ?_)
  clear hK' K' hK K
  refine vc_seq ?_
  refine vc_reg (by kernel_rfl) fun K hK => ?_
  refine run_n (z := false) 1 (fun K' hK' => hK' _ _ _ ?_) (by decide)
  clear hK' K'
  refine run_call (p57y ra) rfl rfl rfl rfl ?_
  refine run_end (z := false) fun K' hK' => hK' _ _ _ (hK _ _ _ ?_)
  clear hK' K' hK K
  refine vc_seq ?_
  refine vc_seq ?_
  refine vc_go (by kernel_rfl) fun K hK => hK _ _ _ ?_
  clear hK K
  refine vc_cond (t := false) rfl (fun h => by cases h) (fun _ => ?_)
  refine vc_skip ?_
  refine vc_seq ?_
  refine vc_reg (by kernel_rfl) fun K hK => ?_
  refine run_n (z := false) 3 (fun K' hK' => hK' _ _ _ ?_) (by decide)
  clear hK' K'
  refine run_call (p58y hk hw) rfl rfl rfl rfl ?_
  refine run_end (z := false) fun K' hK' => hK' _ _ _ (hK _ _ _ ?_)
  clear hK' K' hK K
  refine vc_seq ?_
  refine vc_seq ?_
  refine vc_reg (by kernel_rfl) fun K hK => ?_
  refine run_n (z := false) 2 (fun K' hK' => hK' _ _ _ ?_) (by decide)
  clear hK' K'
  refine run_call (g59) rfl rfl rfl rfl ?_
  refine run_end (z := false) fun K' hK' => hK' _ _ _ (hK _ _ _ ?_)
  clear hK' K' hK K
  refine vc_seq ?_
  refine vc_reg (by kernel_rfl) fun K hK => ?_
  refine run_n (z := false) 17 (fun K' hK' => hK' _ _ _ ?_) (by decide)
  clear hK' K'
  refine vgo_known 62 (b := false) (bb (fr_of w hk)) ?_
  refine run_end (z := false) fun K' hK' => hK' _ _ _ (hK _ _ _ ?_)
  clear hK' K' hK K
  refine vc_cond (t := false) rfl (fun h => by cases h) (fun _ => ?_)
  refine vc_skip ?_
  refine vc_seq ?_
  refine vc_go (by kernel_rfl) fun K hK => hK _ _ _ ?_
  clear hK K
  refine vc_seq ?_
  refine vc_seq ?_
  refine vc_reg (by kernel_rfl) fun K hK => ?_
  refine run_n (z := false) 3 (fun K' hK' => hK' _ _ _ ?_) (by decide)
  clear hK' K'
  refine run_call (k55) rfl rfl rfl rfl ?_
  refine run_end (z := false) fun K' hK' => hK' _ _ _ (hK _ _ _ ?_)
  clear hK' K' hK K
  refine vc_cond (t := true) rfl (fun _ => ?_) (fun h => by cases h)
  refine vc_reg (by kernel_rfl) fun K hK => ?_
  refine run_n (z := false) 2 (fun K' hK' => hK' _ _ _ ?_) (by decide)
  clear hK' K'
  refine run_call (p56 (Nat.lt_trans na.2.2 (by decide)) (by omega) (Nat.lt_trans nb.2.2 (by decide)) (by omega)) rfl rfl rfl rfl ?_
  refine run_end (z := false) fun K' hK' => hK' _ _ _ (hK _ _ _ ?_)
  clear hK' K' hK K
  refine vc_seq ?_
  refine vc_seq ?_
  refine vc_reg (by kernel_rfl) fun K hK => ?_
  refine run_n (z := false) 2 (fun K' hK' => hK' _ _ _ ?_) (by decide)
  clear hK' K'
  refine run_call (p42y ra rb) rfl rfl rfl rfl ?_
  refine run_end (z := false) fun K' hK' => hK' _ _ _ (hK _ _ _ ?_)
  clear hK' K' hK K
  refine vc_cond (t := false) (bb (ne_self _)) (fun h => by cases h) (fun _ => ?_)
  refine vc_skip ?_
  refine vc_seq ?_
  refine vc_reg (by kernel_rfl) fun K hK => ?_
  refine run_n (z := false) 1 (fun K' hK' => hK' _ _ _ ?_) (by decide)
  clear hK' K'
  refine run_call (p60y ra) rfl rfl rfl rfl ?_
  refine run_end (z := false) fun K' hK' => hK' _ _ _ (hK _ _ _ ?_)
  clear hK' K' hK K
  refine vc_seq ?_
  refine vc_seq ?_
  refine vc_go (by kernel_rfl) fun K hK => hK _ _ _ ?_
  clear hK K
  refine vc_cond (t := false) rfl (fun h => by cases h) (fun _ => ?_)
  refine vc_skip ?_
  refine vc_seq ?_
  refine vc_regD [(2, 4), (1, 11), (2, 11), (4, 11), (6, 11), (7, 11), (1, 12), (2, 12), (4, 12), (6, 12), (7, 12), (11, 12)] (by kernel_rfl) (by kernel_rfl) fun K hK => ?_
  refine runD_n (z := false) 2 (fun K' hK' => hK' _ _ _ _ ?_) (by decide)
  clear hK' K'
  refine runD_call (p25 (Nat.lt_trans ma.2.2 (by decide))) rfl rfl rfl rfl ?_
  refine runD_n (z := false) 3 (fun K' hK' => hK' _ _ _ _ ?_) (by decide)
  clear hK' K'
  refine runD_call (p25s (by omega)) rfl rfl rfl rfl ?_
  refine runD_call (p24 (Nat.lt_trans ma.2.2 (by decide)) (by omega) (by omega)) rfl rfl rfl rfl ?_
  refine runD_n (z := false) 5 (fun K' hK' => hK' _ _ _ _ ?_) (by decide)
  clear hK' K'
  refine runD_set (vex_st32 rfl rfl bits0_length rfl) rfl (by decide) rfl rfl ?_
  refine runD_set (vex_st32 rfl rfl bits0_length rfl) rfl (by decide) rfl rfl ?_
  refine runD_end (z := false) fun K' hK' => hK' _ _ _ _ (hK _ _ _ ?_)
  clear hK' K' hK K
  refine vc_seq ?_
  refine vc_reg (by kernel_rfl) fun K hK => ?_
  refine run_rd (vex_ld32 rfl rfl) rfl ?_
  refine run_call (p26w (Nat.lt_of_le_of_lt (Nat.div_le_self _ _) (Nat.lt_trans ma.2.2 (by decide)))) rfl rfl rfl rfl ?_
  refine run_end (z := false) fun K' hK' => hK' _ _ _ (hK _ _ _ ?_)
  clear hK' K' hK K
  refine vc_seq ?_
  refine vc_go (by kernel_rfl) fun K hK => hK _ _ _ ?_
  clear hK K
  refine vc_ret ⟨.inr rfl, ?_⟩
  exact Eq.trans (b := some (.bool _)) rfl (fin_b (wd_eq (a / v)))

theorem p12FFF {a v b w k : Nat} (hk : k < 2 ^ 64) (ra : rt a v = false) (hw : wt w = false) (rb : rt b w = false) : Pure 12 [fr a v, fr b w, u64 k] (.bool true) := by
  have g55 := p55 a v
  rw [ra] at g55
  have g59 := p59 w
  rw [hw] at g59
  have k55 := p55 b w
  rw [rb] at k55
  refine pure_of Try.func12 rfl Try.ntmps12 (by kernel_rfl) rfl (by simp) rfl ?_
  refine vc_seq ?_
  refine vc_go (by kernel_rfl) fun K hK => hK _ _ _ ?_
  clear hK K
  refine vc_seq ?_
  refine vc_seq ?_
  refine vc_reg (by kernel_rfl) fun K hK => ?_
  refine run_call (p52) rfl rfl rfl rfl ?_
  refine run_end (z := false) fun K' hK' => hK' _ _ _ (hK _ _ _ ?_)
  clear hK' K' hK K
  refine vc_cond (t := false) rfl (fun h => by cases h) (fun _ => ?_)
  refine vc_skip ?_
  refine vc_seq ?_
  refine vc_reg (by kernel_rfl) fun K hK => ?_
  refine run_n (z := false) 1 (fun K' hK' => hK' _ _ _ ?_) (by decide)
  clear hK' K'
  refine run_call (g55) rfl rfl rfl rfl ?_
  refine run_end (z := false) fun K' hK' => hK' _ _ _ (hK _ _ _ ?_)
  clear hK' K' hK K
  refine vc_seq ?_
  refine vc_reg (by kernel_rfl) fun K hK => ?_
  refine run_n (z := false) 1 (fun K' hK' => hK' _ _ _ ?_) (by decide)
  clear hK' K'
  refine run_call (p57n ra) rfl rfl rfl rfl ?_
  refine run_end (z := false) fun K' hK' => hK' _ _ _ (hK _ _ _ ?_)
  clear hK' K' hK K
  refine vc_seq ?_
  refine vc_seq ?_
  refine vc_go (by kernel_rfl) fun K hK => hK _ _ _ ?_
  clear hK K
  refine vc_cond (t := false) rfl (fun h => by cases h) (fun _ => ?_)
  refine vc_skip ?_
  refine vc_seq ?_
  refine vc_reg (by kernel_rfl) fun K hK => ?_
  refine run_n (z := false) 3 (fun K' hK' => hK' _ _ _ ?_) (by decide)
  clear hK' K'
  refine run_call (p58n hk hw) rfl rfl rfl rfl ?_
  refine run_end (z := false) fun K' hK' => hK' _ _ _ (hK _ _ _ ?_)
  clear hK' K' hK K
  refine vc_seq ?_
  refine vc_seq ?_
  refine vc_reg (by kernel_rfl) fun K hK => ?_
  refine run_n (z := false) 2 (fun K' hK' => hK' _ _ _ ?_) (by decide)
  clear hK' K'
  refine run_call (g59) rfl rfl rfl rfl ?_
  refine run_end (z := false) fun K' hK' => hK' _ _ _ (hK _ _ _ ?_)
  clear hK' K' hK K
  refine vc_seq ?_
  refine vc_go (by kernel_rfl) fun K hK => hK _ _ _ ?_
  clear hK K
  refine vc_cond (t := false) rfl (fun h => by cases h) (fun _ => ?_)
  refine vc_skip ?_
  refine vc_seq ?_
  refine vc_go (by kernel_rfl) fun K hK => hK _ _ _ ?_
  clear hK K
  refine vc_seq ?_
  refine vc_seq ?_
  refine vc_reg (by kernel_rfl) fun K hK => ?_
  refine run_n (z := false) 3 (fun K' hK' => hK' _ _ _ ?_) (by decide)
  clear hK' K'
  skip
  refine run_end (z := false) fun K' hK' => hK' _ _ _ (hK _ _ _ ?_)
  clear hK' K' hK K
  refine vc_cond (t := false) rfl (fun h => by cases h) (fun _ => ?_)
  refine vc_skip ?_
  refine vc_seq ?_
  refine vc_seq ?_
  refine vc_reg (by kernel_rfl) fun K hK => ?_
  refine run_n (z := false) 2 (fun K' hK' => hK' _ _ _ ?_) (by decide)
  clear hK' K'
  refine run_call (p42n (by rw [ra, rb]; rfl)) rfl rfl rfl rfl ?_
  refine run_end (z := false) fun K' hK' => hK' _ _ _ (hK _ _ _ ?_)
  clear hK' K' hK K
  refine vc_cond (t := false) rfl (fun h => by cases h) (fun _ => ?_)
  refine vc_skip ?_
  refine vc_seq ?_
  refine vc_reg (by kernel_rfl) fun K hK => ?_
  refine run_n (z := false) 1 (fun K' hK' => hK' _ _ _ ?_) (by decide)
  clear hK' K'
  refine run_call (p60n ra) rfl rfl rfl rfl ?_
  refine run_end (z := false) fun K' hK' => hK' _ _ _ (hK _ _ _ ?_)
  clear hK' K' hK K
  refine vc_seq ?_
  refine vc_seq ?_
  refine vc_go (by kernel_rfl) fun K hK => hK _ _ _ ?_
  clear hK K
  refine vc_cond (t := true) rfl (fun _ => ?_) (fun h => by cases h)
  refine vc_seq ?_
  refine vc_go (by kernel_rfl) fun K hK => hK _ _ _ ?_
  clear hK K
  exact vc_ret ⟨.inr rfl, rfl⟩

theorem p12FTF {a v b w k : Nat} (hk : k < 2 ^ 64) (ra : rt a v = false) (hw : wt w = true) (rb : rt b w = false) : Pure 12 [fr a v, fr b w, u64 k] (.bool true) := by
  have g55 := p55 a v
  rw [ra] at g55
  have g59 := p59 w
  rw [hw] at g59
  have k55 := p55 b w
  rw [rb] at k55
  refine pure_of Try.func12 rfl Try.ntmps12 (by kernel_rfl) rfl (by simp) rfl ?_
  refine vc_seq ?_
  refine vc_go (by kernel_rfl) fun K hK => hK _ _ _ ?_
  clear hK K
  refine vc_seq ?_
  refine vc_seq ?_
  refine vc_reg (by kernel_rfl) fun K hK => ?_
  refine run_call (p52) rfl rfl rfl rfl ?_
  refine run_end (z := false) fun K' hK' => hK' _ _ _ (hK _ _ _ ?_)
  clear hK' K' hK K
  refine vc_cond (t := false) rfl (fun h => by cases h) (fun _ => ?_)
  refine vc_skip ?_
  refine vc_seq ?_
  refine vc_reg (by kernel_rfl) fun K hK => ?_
  refine run_n (z := false) 1 (fun K' hK' => hK' _ _ _ ?_) (by decide)
  clear hK' K'
  refine run_call (g55) rfl rfl rfl rfl ?_
  refine run_end (z := false) fun K' hK' => hK' _ _ _ (hK _ _ _ ?_)
  clear hK' K' hK K
  refine vc_seq ?_
  refine vc_reg (by kernel_rfl) fun K hK => ?_
  refine run_n (z := false) 1 (fun K' hK' => hK' _ _ _ ?_) (by decide)
  clear hK' K'
  refine run_call (p57n ra) rfl rfl rfl rfl ?_
  refine run_end (z := false) fun K' hK' => hK' _ _ _ (hK _ _ _ ?_)
  clear hK' K' hK K
  refine vc_seq ?_
  refine vc_seq ?_
  refine vc_go (by kernel_rfl) fun K hK => hK _ _ _ ?_
  clear hK K
  refine vc_cond (t := false) rfl (fun h => by cases h) (fun _ => ?_)
  refine vc_skip ?_
  refine vc_seq ?_
  refine vc_reg (by kernel_rfl) fun K hK => ?_
  refine run_n (z := false) 3 (fun K' hK' => hK' _ _ _ ?_) (by decide)
  clear hK' K'
  refine run_call (p58y hk hw) rfl rfl rfl rfl ?_
  refine run_end (z := false) fun K' hK' => hK' _ _ _ (hK _ _ _ ?_)
  clear hK' K' hK K
  refine vc_seq ?_
  refine vc_seq ?_
  refine vc_reg (by kernel_rfl) fun K hK => ?_
  refine run_n (z := false) 2 (fun K' hK' => hK' _ _ _ ?_) (by decide)
  clear hK' K'
  refine run_call (g59) rfl rfl rfl rfl ?_
  refine run_end (z := false) fun K' hK' => hK' _ _ _ (hK _ _ _ ?_)
  clear hK' K' hK K
  refine vc_seq ?_
  refine vc_reg (by kernel_rfl) fun K hK => ?_
  refine run_n (z := false) 17 (fun K' hK' => hK' _ _ _ ?_) (by decide)
  clear hK' K'
  refine vgo_known 62 (b := false) (bb (fr_of w hk)) ?_
  refine run_end (z := false) fun K' hK' => hK' _ _ _ (hK _ _ _ ?_)
  clear hK' K' hK K
  refine vc_cond (t := false) rfl (fun h => by cases h) (fun _ => ?_)
  refine vc_skip ?_
  refine vc_seq ?_
  refine vc_go (by kernel_rfl) fun K hK => hK _ _ _ ?_
  clear hK K
  refine vc_seq ?_
  refine vc_seq ?_
  refine vc_reg (by kernel_rfl) fun K hK => ?_
  refine run_n (z := false) 3 (fun K' hK' => hK' _ _ _ ?_) (by decide)
  clear hK' K'
  skip
  refine run_end (z := false) fun K' hK' => hK' _ _ _ (hK _ _ _ ?_)
  clear hK' K' hK K
  refine vc_cond (t := false) rfl (fun h => by cases h) (fun _ => ?_)
  refine vc_skip ?_
  refine vc_seq ?_
  refine vc_seq ?_
  refine vc_reg (by kernel_rfl) fun K hK => ?_
  refine run_n (z := false) 2 (fun K' hK' => hK' _ _ _ ?_) (by decide)
  clear hK' K'
  refine run_call (p42n (by rw [ra, rb]; rfl)) rfl rfl rfl rfl ?_
  refine run_end (z := false) fun K' hK' => hK' _ _ _ (hK _ _ _ ?_)
  clear hK' K' hK K
  refine vc_cond (t := false) rfl (fun h => by cases h) (fun _ => ?_)
  refine vc_skip ?_
  refine vc_seq ?_
  refine vc_reg (by kernel_rfl) fun K hK => ?_
  refine run_n (z := false) 1 (fun K' hK' => hK' _ _ _ ?_) (by decide)
  clear hK' K'
  refine run_call (p60n ra) rfl rfl rfl rfl ?_
  refine run_end (z := false) fun K' hK' => hK' _ _ _ (hK _ _ _ ?_)
  clear hK' K' hK K
  refine vc_seq ?_
  refine vc_seq ?_
  refine vc_go (by kernel_rfl) fun K hK => hK _ _ _ ?_
  clear hK K
  refine vc_cond (t := true) rfl (fun _ => ?_) (fun h => by cases h)
  refine vc_seq ?_
  refine vc_go (by kernel_rfl) fun K hK => hK _ _ _ ?_
  clear hK K
  exact vc_ret ⟨.inr rfl, rfl⟩

theorem p12FTT {a v b w k : Nat} (hk : k < 2 ^ 64) (ra : rt a v = false) (hw : wt w = true) (rb : rt b w = true) : Pure 12 [fr a v, fr b w, u64 k] (.bool true) := by
  have g55 := p55 a v
  rw [ra] at g55
  have g59 := p59 w
  rw [hw] at g59
  have k55 := p55 b w
  rw [rb] at k55
  refine pure_of Try.func12 rfl Try.ntmps12 (by kernel_rfl) rfl (by simp) rfl ?_
  refine vc_seq ?_
  refine vc_go (by kernel_rfl) fun K hK => hK _ _ _ ?_
  clear hK K
  refine vc_seq ?_
  refine vc_seq ?_
  refine vc_reg (by kernel_rfl) fun K hK => ?_
  refine run_call (p52) rfl rfl rfl rfl ?_
  refine run_end (z := false) fun K' hK' => hK' _ _ _ (hK _ _ _ ?_)
  clear hK' K' hK K
  refine vc_cond (t := false) rfl (fun h => by cases h) (fun _ => ?_)
  refine vc_skip ?_
  refine vc_seq ?_
  refine vc_reg (by kernel_rfl) fun K hK => ?_
  refine run_n (z := false) 1 (fun K' hK' => hK' _ _ _ ?_) (by decide)
  clear hK' K'
  refine run_call (g55) rfl rfl rfl rfl ?_
  refine run_end (z := false) fun K' hK' => hK' _ _ _ (hK _ _ _ ?_)
  clear hK' K' hK K
  refine vc_seq ?_
  refine vc_reg (by kernel_rfl) fun K hK => ?_
  refine run_n (z := false) 1 (fun K' hK' => hK' _ _ _ ?_) (by decide)
  clear hK' K'
  refine run_call (p57n ra) rfl rfl rfl rfl ?_
  refine run_end (z := false) fun K' hK' => hK' _ _ _ (hK _ _ _ ?_)
  clear hK' K' hK K
  refine vc_seq ?_
  refine vc_seq ?_
  refine vc_go (by kernel_rfl) fun K hK => hK _ _ _ ?_
  clear hK K
  refine vc_cond (t := false) rfl (fun h => by cases h) (fun _ => ?_)
  refine vc_skip ?_
  refine vc_seq ?_
  refine vc_reg (by kernel_rfl) fun K hK => ?_
  refine run_n (z := false) 3 (fun K' hK' => hK' _ _ _ ?_) (by decide)
  clear hK' K'
  refine run_call (p58y hk hw) rfl rfl rfl rfl ?_
  refine run_end (z := false) fun K' hK' => hK' _ _ _ (hK _ _ _ ?_)
  clear hK' K' hK K
  refine vc_seq ?_
  refine vc_seq ?_
  refine vc_reg (by kernel_rfl) fun K hK => ?_
  refine run_n (z := false) 2 (fun K' hK' => hK' _ _ _ ?_) (by decide)
  clear hK' K'
  refine run_call (g59) rfl rfl rfl rfl ?_
  refine run_end (z := false) fun K' hK' => hK' _ _ _ (hK _ _ _ ?_)
  clear hK' K' hK K
  refine vc_seq ?_
  refine vc_reg (by kernel_rfl) fun K hK => ?_
  refine run_n (z := false) 17 (fun K' hK' => hK' _ _ _ ?_) (by decide)
  clear hK' K'
  refine vgo_known 62 (b := false) (bb (fr_of w hk)) ?_
  refine run_end (z := false) fun K' hK' => hK' _ _ _ (hK _ _ _ ?_)
  clear hK' K' hK K
  refine vc_cond (t := false) rfl (fun h => by cases h) (fun _ => ?_)
  refine vc_skip ?_
  refine vc_seq ?_
  refine vc_go (by kernel_rfl) fun K hK => hK _ _ _ ?_
  clear hK K
  refine vc_seq ?_
  refine vc_seq ?_
  refine vc_reg (by kernel_rfl) fun K hK => ?_
  refine run_n (z := false) 3 (fun K' hK' => hK' _ _ _ ?_) (by decide)
  clear hK' K'
  skip
  refine run_end (z := false) fun K' hK' => hK' _ _ _ (hK _ _ _ ?_)
  clear hK' K' hK K
  refine vc_cond (t := false) rfl (fun h => by cases h) (fun _ => ?_)
  refine vc_skip ?_
  refine vc_seq ?_
  refine vc_seq ?_
  refine vc_reg (by kernel_rfl) fun K hK => ?_
  refine run_n (z := false) 2 (fun K' hK' => hK' _ _ _ ?_) (by decide)
  clear hK' K'
  refine run_call (p42n (by rw [ra, rb]; rfl)) rfl rfl rfl rfl ?_
  refine run_end (z := false) fun K' hK' => hK' _ _ _ (hK _ _ _ ?_)
  clear hK' K' hK K
  refine vc_cond (t := false) rfl (fun h => by cases h) (fun _ => ?_)
  refine vc_skip ?_
  refine vc_seq ?_
  refine vc_reg (by kernel_rfl) fun K hK => ?_
  refine run_n (z := false) 1 (fun K' hK' => hK' _ _ _ ?_) (by decide)
  clear hK' K'
  refine run_call (p60n ra) rfl rfl rfl rfl ?_
  refine run_end (z := false) fun K' hK' => hK' _ _ _ (hK _ _ _ ?_)
  clear hK' K' hK K
  refine vc_seq ?_
  refine vc_seq ?_
  refine vc_go (by kernel_rfl) fun K hK => hK _ _ _ ?_
  clear hK K
  refine vc_cond (t := true) rfl (fun _ => ?_) (fun h => by cases h)
  refine vc_seq ?_
  refine vc_go (by kernel_rfl) fun K hK => hK _ _ _ ?_
  clear hK K
  exact vc_ret ⟨.inr rfl, rfl⟩

theorem p12 {a v b w k : Nat} (hk : k < 2 ^ 64) : Pure 12 [fr a v, fr b w, u64 k] (.bool true) := by
  cases ra : rt a v <;> cases hw : wt w
  · exact p12FFF hk ra hw (rt_no hw)
  · cases rb : rt b w
    · exact p12FTF hk ra hw rb
    · exact p12FTT hk ra hw rb
  · exact p12TFF hk ra hw (rt_no hw)
  · cases rb : rt b w
    · exact p12TTF hk ra hw rb
    · exact p12TTT hk ra hw rb

end Go.Proofs.Ytdfkcijholopoaa.Vm
