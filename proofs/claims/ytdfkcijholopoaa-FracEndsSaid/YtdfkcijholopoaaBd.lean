/- The reference's sums, differences and numbers of bits, walked. -/
import Derived.Test.YtdfkcijholopoaaBc
namespace Go.Proofs.Ytdfkcijholopoaa.Vm
open Go Go.RowKit
set_option maxRecDepth 10000
set_option linter.unusedSimpArgs false
set_option linter.unusedVariables false

theorem blk24 {x y : Int} {X Y m : Nat} (hx : x = (X : Int)) (hy : y = (Y : Int)) : some (Blk.cells [.int .u64 x, .int .u64 y] m true) = some (.cells [u64 X, u64 Y] m true) := by subst hx hy; rfl


theorem p35 (x y : Nat) : Pure 35 [b8 x, b8 y] (b8 ((x + y) % 2 ^ 256)) := by
  refine pure_of Try.func35 rfl Try.ntmps35 (by kernel_rfl) (by simp [plainL, plain_b8]) (by simp) (plain_b8 _) ?_
  refine vc_seq ?_
  refine vc_go (by kernel_rfl) fun K hK => hK _ _ _ ?_
  clear hK K
  refine vc_seq ?_
  refine vc_go (by kernel_rfl) fun K hK => hK _ _ _ ?_
  clear hK K
  refine vc_seq ?_
  refine vc_go (by kernel_rfl) fun K hK => hK _ _ _ ?_
  clear hK K
  refine vc_seq ?_
  refine vc_seq ?_
  refine vc_go (by kernel_rfl) fun K hK => hK _ _ _ ?_
  clear hK K
  refine vc_block ?_
  refine vc_loop (fun n s => ∃ i : Nat, n = 256 - i ∧ i ≤ 256 ∧ IsSt [(2, pt 0), (3, pt 1), (4, pt 2), (5, pt 3), (6, .bool (cr x y i)), (7, .int .i64 (i : Nat))] [(0, .cells (bl (fun k => x.testBit k)) 32 true), (1, .cells (bl (fun k => y.testBit k)) 32 true), (2, .cells bits0 32 true), (3, .cells (bl (fun k => decide (k < i) && (x + y).testBit k)) 32 true)] 4 s) 256 ?_ ?_
  · exact ⟨0, rfl, by decide, isSt ⟨rfl, rfl, rfl, rfl, bb (cr_zero x y).symm, rfl, trivial⟩ ⟨rfl, rfl, rfl, blk0 (pre_zero (g := fun k => (x + y).testBit k)), trivial⟩ rfl⟩
  · rintro n s ⟨i, hn, hi, t, h, rfl⟩
    refine vc_seq ?_
    refine vc_seq ?_
    refine vc_go (by kernel_rfl) fun K hK => hK _ _ _ ?_
    clear hK K
    refine vc_cond rfl (fun c0 => ?_) (fun c0 => ?_)
    · -- cond 0 t10 true
      refine vc_skip ?_
      refine vc_seq ?_
      refine vc_block ?_
      refine vc_seq ?_
      have hlt : i < 256 := by
        simp only [decide_eq_true_eq] at c0
        omega
      refine vc_go (by kernel_rfl) fun K hK => hK _ _ _ ?_
      clear hK K
      refine vc_seq ?_
      refine vc_seq ?_
      refine vc_reg (by kernel_rfl) fun K hK => ?_
      refine run_n (z := false) 1 (fun K' hK' => hK' _ _ _ ?_) (by decide)
      clear hK' K'
      refine run_op (vex_ixa (j := i) rfl rfl rfl (show i < 256 by omega) rfl rfl) rfl ?_
      refine run_rd (vex_ld1 (k' := i) rfl (Nat.zero_add _ |>.trans (Nat.mul_one _)) rfl rfl (bl_get _ (by omega))) rfl ?_
      refine run_end (z := false) fun K' hK' => hK' _ _ _ (hK _ _ _ ?_)
      clear hK' K' hK K
      refine vc_cond rfl (fun bx => ?_) (fun bx => ?_)
      · -- cond 1 t15 true
        refine vc_go (by kernel_rfl) fun K hK => hK _ _ _ ?_
        clear hK K
        refine vc_seq ?_
        refine vc_seq ?_
        refine vc_reg (by kernel_rfl) fun K hK => ?_
        refine run_n (z := false) 1 (fun K' hK' => hK' _ _ _ ?_) (by decide)
        clear hK' K'
        refine run_op (vex_ixa (j := i) rfl rfl rfl (show i < 256 by omega) rfl rfl) rfl ?_
        refine run_rd (vex_ld1 (k' := i) rfl (Nat.zero_add _ |>.trans (Nat.mul_one _)) rfl rfl (bl_get _ (by omega))) rfl ?_
        refine run_end (z := false) fun K' hK' => hK' _ _ _ (hK _ _ _ ?_)
        clear hK' K' hK K
        refine vc_cond rfl (fun by1 => ?_) (fun by1 => ?_)
        · -- cond 2 t20 true
          refine vc_go (by kernel_rfl) fun K hK => hK _ _ _ ?_
          clear hK K
          refine vc_seq ?_
          refine vc_seq ?_
          refine vc_go (by kernel_rfl) fun K hK => hK _ _ _ ?_
          clear hK K
          refine vc_cond rfl (fun bc => ?_) (fun bc => ?_)
          · -- cond 3 t23 true
            refine vc_go (by kernel_rfl) fun K hK => hK _ _ _ ?_
            clear hK K
            refine vc_seq ?_
            refine vc_reg (by kernel_rfl) fun K hK => ?_
            refine run_n (z := false) 4 (fun K' hK' => hK' _ _ _ ?_) (by decide)
            clear hK' K'
            refine run_op (vex_ixa (j := i) rfl rfl rfl (show i < 256 by omega) rfl rfl) rfl ?_
            refine run_set (vex_st1 (k' := i) rfl (Nat.zero_add _ |>.trans (Nat.mul_one _)) rfl rfl rfl rfl rfl (by intro a h; cases h) (by rw [bl_length]; omega)) rfl (by decide) rfl ?_
            refine run_end (z := false) fun K' hK' => hK' _ _ _ (hK _ _ _ ?_)
            clear hK' K' hK K
            refine vc_go (by kernel_rfl) fun K hK => hK _ _ _ ?_
            clear hK K
            refine vc_go (by kernel_rfl) fun K hK => hK _ _ _ ?_
            clear hK K
            exact ⟨256 - (i + 1), by omega, i + 1, rfl, by omega, isSt ⟨rfl, rfl, rfl, rfl, bb (by rw [cr_step, bx, by1, bc]; rfl), ii (wrapI (by omega) (by omega)), trivial⟩ ⟨rfl, rfl, rfl, blk32 hlt (pre_step (g := fun k => (x + y).testBit k) (by show _ = (x + y).testBit i; rw [sum_bit, bx, by1, bc]; rfl)), trivial⟩ rfl⟩
          · -- cond 3 t23 false
            refine vc_skip ?_
            refine vc_seq ?_
            refine vc_reg (by kernel_rfl) fun K hK => ?_
            refine run_n (z := false) 4 (fun K' hK' => hK' _ _ _ ?_) (by decide)
            clear hK' K'
            refine run_op (vex_ixa (j := i) rfl rfl rfl (show i < 256 by omega) rfl rfl) rfl ?_
            refine run_set (vex_st1 (k' := i) rfl (Nat.zero_add _ |>.trans (Nat.mul_one _)) rfl rfl rfl rfl rfl (by intro a h; cases h) (by rw [bl_length]; omega)) rfl (by decide) rfl ?_
            refine run_end (z := false) fun K' hK' => hK' _ _ _ (hK _ _ _ ?_)
            clear hK' K' hK K
            refine vc_go (by kernel_rfl) fun K hK => hK _ _ _ ?_
            clear hK K
            refine vc_go (by kernel_rfl) fun K hK => hK _ _ _ ?_
            clear hK K
            exact ⟨256 - (i + 1), by omega, i + 1, rfl, by omega, isSt ⟨rfl, rfl, rfl, rfl, bb (by rw [cr_step, bx, by1, bc]; rfl), ii (wrapI (by omega) (by omega)), trivial⟩ ⟨rfl, rfl, rfl, blk32 hlt (pre_step (g := fun k => (x + y).testBit k) (by show _ = (x + y).testBit i; rw [sum_bit, bx, by1, bc]; rfl)), trivial⟩ rfl⟩
        · -- cond 2 t20 false
          refine vc_skip ?_
          refine vc_seq ?_
          refine vc_seq ?_
          refine vc_go (by kernel_rfl) fun K hK => hK _ _ _ ?_
          clear hK K
          refine vc_cond rfl (fun bc => ?_) (fun bc => ?_)
          · -- cond 4 t23 true
            refine vc_go (by kernel_rfl) fun K hK => hK _ _ _ ?_
            clear hK K
            refine vc_seq ?_
            refine vc_reg (by kernel_rfl) fun K hK => ?_
            refine run_n (z := false) 4 (fun K' hK' => hK' _ _ _ ?_) (by decide)
            clear hK' K'
            refine run_op (vex_ixa (j := i) rfl rfl rfl (show i < 256 by omega) rfl rfl) rfl ?_
            refine run_set (vex_st1 (k' := i) rfl (Nat.zero_add _ |>.trans (Nat.mul_one _)) rfl rfl rfl rfl rfl (by intro a h; cases h) (by rw [bl_length]; omega)) rfl (by decide) rfl ?_
            refine run_end (z := false) fun K' hK' => hK' _ _ _ (hK _ _ _ ?_)
            clear hK' K' hK K
            refine vc_go (by kernel_rfl) fun K hK => hK _ _ _ ?_
            clear hK K
            refine vc_go (by kernel_rfl) fun K hK => hK _ _ _ ?_
            clear hK K
            exact ⟨256 - (i + 1), by omega, i + 1, rfl, by omega, isSt ⟨rfl, rfl, rfl, rfl, bb (by rw [cr_step, bx, by1, bc]; rfl), ii (wrapI (by omega) (by omega)), trivial⟩ ⟨rfl, rfl, rfl, blk32 hlt (pre_step (g := fun k => (x + y).testBit k) (by show _ = (x + y).testBit i; rw [sum_bit, bx, by1, bc]; rfl)), trivial⟩ rfl⟩
          · -- cond 4 t23 false
            refine vc_skip ?_
            refine vc_seq ?_
            refine vc_reg (by kernel_rfl) fun K hK => ?_
            refine run_n (z := false) 4 (fun K' hK' => hK' _ _ _ ?_) (by decide)
            clear hK' K'
            refine run_op (vex_ixa (j := i) rfl rfl rfl (show i < 256 by omega) rfl rfl) rfl ?_
            refine run_set (vex_st1 (k' := i) rfl (Nat.zero_add _ |>.trans (Nat.mul_one _)) rfl rfl rfl rfl rfl (by intro a h; cases h) (by rw [bl_length]; omega)) rfl (by decide) rfl ?_
            refine run_end (z := false) fun K' hK' => hK' _ _ _ (hK _ _ _ ?_)
            clear hK' K' hK K
            refine vc_go (by kernel_rfl) fun K hK => hK _ _ _ ?_
            clear hK K
            refine vc_go (by kernel_rfl) fun K hK => hK _ _ _ ?_
            clear hK K
            exact ⟨256 - (i + 1), by omega, i + 1, rfl, by omega, isSt ⟨rfl, rfl, rfl, rfl, bb (by rw [cr_step, bx, by1, bc]; rfl), ii (wrapI (by omega) (by omega)), trivial⟩ ⟨rfl, rfl, rfl, blk32 hlt (pre_step (g := fun k => (x + y).testBit k) (by show _ = (x + y).testBit i; rw [sum_bit, bx, by1, bc]; rfl)), trivial⟩ rfl⟩
      · -- cond 1 t15 false
        refine vc_skip ?_
        refine vc_seq ?_
        refine vc_seq ?_
        refine vc_reg (by kernel_rfl) fun K hK => ?_
        refine run_n (z := false) 1 (fun K' hK' => hK' _ _ _ ?_) (by decide)
        clear hK' K'
        refine run_op (vex_ixa (j := i) rfl rfl rfl (show i < 256 by omega) rfl rfl) rfl ?_
        refine run_rd (vex_ld1 (k' := i) rfl (Nat.zero_add _ |>.trans (Nat.mul_one _)) rfl rfl (bl_get _ (by omega))) rfl ?_
        refine run_end (z := false) fun K' hK' => hK' _ _ _ (hK _ _ _ ?_)
        clear hK' K' hK K
        refine vc_cond rfl (fun by1 => ?_) (fun by1 => ?_)
        · -- cond 5 t20 true
          refine vc_go (by kernel_rfl) fun K hK => hK _ _ _ ?_
          clear hK K
          refine vc_seq ?_
          refine vc_seq ?_
          refine vc_go (by kernel_rfl) fun K hK => hK _ _ _ ?_
          clear hK K
          refine vc_cond rfl (fun bc => ?_) (fun bc => ?_)
          · -- cond 6 t23 true
            refine vc_go (by kernel_rfl) fun K hK => hK _ _ _ ?_
            clear hK K
            refine vc_seq ?_
            refine vc_reg (by kernel_rfl) fun K hK => ?_
            refine run_n (z := false) 4 (fun K' hK' => hK' _ _ _ ?_) (by decide)
            clear hK' K'
            refine run_op (vex_ixa (j := i) rfl rfl rfl (show i < 256 by omega) rfl rfl) rfl ?_
            refine run_set (vex_st1 (k' := i) rfl (Nat.zero_add _ |>.trans (Nat.mul_one _)) rfl rfl rfl rfl rfl (by intro a h; cases h) (by rw [bl_length]; omega)) rfl (by decide) rfl ?_
            refine run_end (z := false) fun K' hK' => hK' _ _ _ (hK _ _ _ ?_)
            clear hK' K' hK K
            refine vc_go (by kernel_rfl) fun K hK => hK _ _ _ ?_
            clear hK K
            refine vc_go (by kernel_rfl) fun K hK => hK _ _ _ ?_
            clear hK K
            exact ⟨256 - (i + 1), by omega, i + 1, rfl, by omega, isSt ⟨rfl, rfl, rfl, rfl, bb (by rw [cr_step, bx, by1, bc]; rfl), ii (wrapI (by omega) (by omega)), trivial⟩ ⟨rfl, rfl, rfl, blk32 hlt (pre_step (g := fun k => (x + y).testBit k) (by show _ = (x + y).testBit i; rw [sum_bit, bx, by1, bc]; rfl)), trivial⟩ rfl⟩
          · -- cond 6 t23 false
            refine vc_skip ?_
            refine vc_seq ?_
            refine vc_reg (by kernel_rfl) fun K hK => ?_
            refine run_n (z := false) 4 (fun K' hK' => hK' _ _ _ ?_) (by decide)
            clear hK' K'
            refine run_op (vex_ixa (j := i) rfl rfl rfl (show i < 256 by omega) rfl rfl) rfl ?_
            refine run_set (vex_st1 (k' := i) rfl (Nat.zero_add _ |>.trans (Nat.mul_one _)) rfl rfl rfl rfl rfl (by intro a h; cases h) (by rw [bl_length]; omega)) rfl (by decide) rfl ?_
            refine run_end (z := false) fun K' hK' => hK' _ _ _ (hK _ _ _ ?_)
            clear hK' K' hK K
            refine vc_go (by kernel_rfl) fun K hK => hK _ _ _ ?_
            clear hK K
            refine vc_go (by kernel_rfl) fun K hK => hK _ _ _ ?_
            clear hK K
            exact ⟨256 - (i + 1), by omega, i + 1, rfl, by omega, isSt ⟨rfl, rfl, rfl, rfl, bb (by rw [cr_step, bx, by1, bc]; rfl), ii (wrapI (by omega) (by omega)), trivial⟩ ⟨rfl, rfl, rfl, blk32 hlt (pre_step (g := fun k => (x + y).testBit k) (by show _ = (x + y).testBit i; rw [sum_bit, bx, by1, bc]; rfl)), trivial⟩ rfl⟩
        · -- cond 5 t20 false
          refine vc_skip ?_
          refine vc_seq ?_
          refine vc_seq ?_
          refine vc_go (by kernel_rfl) fun K hK => hK _ _ _ ?_
          clear hK K
          refine vc_cond rfl (fun bc => ?_) (fun bc => ?_)
          · -- cond 7 t23 true
            refine vc_go (by kernel_rfl) fun K hK => hK _ _ _ ?_
            clear hK K
            refine vc_seq ?_
            refine vc_reg (by kernel_rfl) fun K hK => ?_
            refine run_n (z := false) 4 (fun K' hK' => hK' _ _ _ ?_) (by decide)
            clear hK' K'
            refine run_op (vex_ixa (j := i) rfl rfl rfl (show i < 256 by omega) rfl rfl) rfl ?_
            refine run_set (vex_st1 (k' := i) rfl (Nat.zero_add _ |>.trans (Nat.mul_one _)) rfl rfl rfl rfl rfl (by intro a h; cases h) (by rw [bl_length]; omega)) rfl (by decide) rfl ?_
            refine run_end (z := false) fun K' hK' => hK' _ _ _ (hK _ _ _ ?_)
            clear hK' K' hK K
            refine vc_go (by kernel_rfl) fun K hK => hK _ _ _ ?_
            clear hK K
            refine vc_go (by kernel_rfl) fun K hK => hK _ _ _ ?_
            clear hK K
            exact ⟨256 - (i + 1), by omega, i + 1, rfl, by omega, isSt ⟨rfl, rfl, rfl, rfl, bb (by rw [cr_step, bx, by1, bc]; rfl), ii (wrapI (by omega) (by omega)), trivial⟩ ⟨rfl, rfl, rfl, blk32 hlt (pre_step (g := fun k => (x + y).testBit k) (by show _ = (x + y).testBit i; rw [sum_bit, bx, by1, bc]; rfl)), trivial⟩ rfl⟩
          · -- cond 7 t23 false
            refine vc_skip ?_
            refine vc_seq ?_
            refine vc_reg (by kernel_rfl) fun K hK => ?_
            refine run_n (z := false) 4 (fun K' hK' => hK' _ _ _ ?_) (by decide)
            clear hK' K'
            refine run_op (vex_ixa (j := i) rfl rfl rfl (show i < 256 by omega) rfl rfl) rfl ?_
            refine run_set (vex_st1 (k' := i) rfl (Nat.zero_add _ |>.trans (Nat.mul_one _)) rfl rfl rfl rfl rfl (by intro a h; cases h) (by rw [bl_length]; omega)) rfl (by decide) rfl ?_
            refine run_end (z := false) fun K' hK' => hK' _ _ _ (hK _ _ _ ?_)
            clear hK' K' hK K
            refine vc_go (by kernel_rfl) fun K hK => hK _ _ _ ?_
            clear hK K
            refine vc_go (by kernel_rfl) fun K hK => hK _ _ _ ?_
            clear hK K
            exact ⟨256 - (i + 1), by omega, i + 1, rfl, by omega, isSt ⟨rfl, rfl, rfl, rfl, bb (by rw [cr_step, bx, by1, bc]; rfl), ii (wrapI (by omega) (by omega)), trivial⟩ ⟨rfl, rfl, rfl, blk32 hlt (pre_step (g := fun k => (x + y).testBit k) (by show _ = (x + y).testBit i; rw [sum_bit, bx, by1, bc]; rfl)), trivial⟩ rfl⟩
    · -- cond 0 t10 false
      refine vc_exit ?_
      refine vc_seq ?_
      refine vc_reg (by kernel_rfl) fun K hK => ?_
      refine run_rd (vex_ld32 rfl rfl) rfl ?_
      refine run_set (vex_st32 rfl rfl bits0_length rfl) rfl (by decide) rfl ?_
      refine run_end (z := false) fun K' hK' => hK' _ _ _ (hK _ _ _ ?_)
      clear hK' K' hK K
      refine vc_ret ⟨.inr rfl, ?_⟩
      have hi64 : i = 256 := by
        simp only [decide_eq_false_iff_not] at c0
        omega
      subst hi64
      change vresult _ [.cell 4 32] = _
      rw [vresult_one]
      refine Eq.trans (vres_32 (m := 2) (f := fun k => decide (k < 256) && (x + y).testBit k) rfl rfl) ?_
      rw [b8_of fun k hk => (pre_end (g := fun k => (x + y).testBit k) k hk).trans (mod_bits _ k hk).symm]

theorem p37 {x y : Nat} (hxy : y ≤ x) : Pure 37 [b8 x, b8 y] (b8 (x - y)) := by
  refine pure_of Try.func37 rfl Try.ntmps37 (by kernel_rfl) (by simp [plainL, plain_b8]) (by simp) (plain_b8 _) ?_
  refine vc_seq ?_
  refine vc_go (by kernel_rfl) fun K hK => hK _ _ _ ?_
  clear hK K
  refine vc_seq ?_
  refine vc_go (by kernel_rfl) fun K hK => hK _ _ _ ?_
  clear hK K
  refine vc_seq ?_
  refine vc_go (by kernel_rfl) fun K hK => hK _ _ _ ?_
  clear hK K
  refine vc_seq ?_
  refine vc_seq ?_
  refine vc_go (by kernel_rfl) fun K hK => hK _ _ _ ?_
  clear hK K
  refine vc_block ?_
  refine vc_loop (fun n s => ∃ i : Nat, n = 256 - i ∧ i ≤ 256 ∧ IsSt [(2, pt 0), (3, pt 1), (4, pt 2), (5, pt 3), (6, .bool (bo x y i)), (7, .int .i64 (i : Nat))] [(0, .cells (bl (fun k => x.testBit k)) 32 true), (1, .cells (bl (fun k => y.testBit k)) 32 true), (2, .cells bits0 32 true), (3, .cells (bl (fun k => decide (k < i) && (x - y).testBit k)) 32 true)] 4 s) 256 ?_ ?_
  · exact ⟨0, rfl, by decide, isSt ⟨rfl, rfl, rfl, rfl, bb (bo_zero x y).symm, rfl, trivial⟩ ⟨rfl, rfl, rfl, blk0 (pre_zero (g := fun k => (x - y).testBit k)), trivial⟩ rfl⟩
  · rintro n s ⟨i, hn, hi, t, h, rfl⟩
    refine vc_seq ?_
    refine vc_seq ?_
    refine vc_go (by kernel_rfl) fun K hK => hK _ _ _ ?_
    clear hK K
    refine vc_cond rfl (fun c0 => ?_) (fun c0 => ?_)
    · -- cond 0 t10 true
      refine vc_skip ?_
      refine vc_seq ?_
      refine vc_block ?_
      refine vc_seq ?_
      have hlt : i < 256 := by
        simp only [decide_eq_true_eq] at c0
        omega
      refine vc_go (by kernel_rfl) fun K hK => hK _ _ _ ?_
      clear hK K
      refine vc_seq ?_
      refine vc_seq ?_
      refine vc_reg (by kernel_rfl) fun K hK => ?_
      refine run_n (z := false) 1 (fun K' hK' => hK' _ _ _ ?_) (by decide)
      clear hK' K'
      refine run_op (vex_ixa (j := i) rfl rfl rfl (show i < 256 by omega) rfl rfl) rfl ?_
      refine run_rd (vex_ld1 (k' := i) rfl (Nat.zero_add _ |>.trans (Nat.mul_one _)) rfl rfl (bl_get _ (by omega))) rfl ?_
      refine run_end (z := false) fun K' hK' => hK' _ _ _ (hK _ _ _ ?_)
      clear hK' K' hK K
      refine vc_cond rfl (fun bx => ?_) (fun bx => ?_)
      · -- cond 1 t15 true
        refine vc_go (by kernel_rfl) fun K hK => hK _ _ _ ?_
        clear hK K
        refine vc_seq ?_
        refine vc_seq ?_
        refine vc_reg (by kernel_rfl) fun K hK => ?_
        refine run_n (z := false) 1 (fun K' hK' => hK' _ _ _ ?_) (by decide)
        clear hK' K'
        refine run_op (vex_ixa (j := i) rfl rfl rfl (show i < 256 by omega) rfl rfl) rfl ?_
        refine run_rd (vex_ld1 (k' := i) rfl (Nat.zero_add _ |>.trans (Nat.mul_one _)) rfl rfl (bl_get _ (by omega))) rfl ?_
        refine run_end (z := false) fun K' hK' => hK' _ _ _ (hK _ _ _ ?_)
        clear hK' K' hK K
        refine vc_cond rfl (fun by1 => ?_) (fun by1 => ?_)
        · -- cond 2 t20 true
          refine vc_go (by kernel_rfl) fun K hK => hK _ _ _ ?_
          clear hK K
          refine vc_seq ?_
          refine vc_seq ?_
          refine vc_go (by kernel_rfl) fun K hK => hK _ _ _ ?_
          clear hK K
          refine vc_cond rfl (fun bc => ?_) (fun bc => ?_)
          · -- cond 3 t23 true
            refine vc_go (by kernel_rfl) fun K hK => hK _ _ _ ?_
            clear hK K
            refine vc_seq ?_
            refine vc_reg (by kernel_rfl) fun K hK => ?_
            refine run_n (z := false) 7 (fun K' hK' => hK' _ _ _ ?_) (by decide)
            clear hK' K'
            refine run_op (vex_ixa (j := i) rfl rfl rfl (show i < 256 by omega) rfl rfl) rfl ?_
            refine run_set (vex_st1 (k' := i) rfl (Nat.zero_add _ |>.trans (Nat.mul_one _)) rfl rfl rfl rfl rfl (by intro a h; cases h) (by rw [bl_length]; omega)) rfl (by decide) rfl ?_
            refine run_end (z := false) fun K' hK' => hK' _ _ _ (hK _ _ _ ?_)
            clear hK' K' hK K
            refine vc_go (by kernel_rfl) fun K hK => hK _ _ _ ?_
            clear hK K
            refine vc_go (by kernel_rfl) fun K hK => hK _ _ _ ?_
            clear hK K
            exact ⟨256 - (i + 1), by omega, i + 1, rfl, by omega, isSt ⟨rfl, rfl, rfl, rfl, bb (by rw [bo_step, bx, by1, bc]; rfl), ii (wrapI (by omega) (by omega)), trivial⟩ ⟨rfl, rfl, rfl, blk32 hlt (pre_step (g := fun k => (x - y).testBit k) (by show _ = (x - y).testBit i; rw [take_bit hxy, bx, by1, bc]; rfl)), trivial⟩ rfl⟩
          · -- cond 3 t23 false
            refine vc_skip ?_
            refine vc_seq ?_
            refine vc_reg (by kernel_rfl) fun K hK => ?_
            refine run_n (z := false) 7 (fun K' hK' => hK' _ _ _ ?_) (by decide)
            clear hK' K'
            refine run_op (vex_ixa (j := i) rfl rfl rfl (show i < 256 by omega) rfl rfl) rfl ?_
            refine run_set (vex_st1 (k' := i) rfl (Nat.zero_add _ |>.trans (Nat.mul_one _)) rfl rfl rfl rfl rfl (by intro a h; cases h) (by rw [bl_length]; omega)) rfl (by decide) rfl ?_
            refine run_end (z := false) fun K' hK' => hK' _ _ _ (hK _ _ _ ?_)
            clear hK' K' hK K
            refine vc_go (by kernel_rfl) fun K hK => hK _ _ _ ?_
            clear hK K
            refine vc_go (by kernel_rfl) fun K hK => hK _ _ _ ?_
            clear hK K
            exact ⟨256 - (i + 1), by omega, i + 1, rfl, by omega, isSt ⟨rfl, rfl, rfl, rfl, bb (by rw [bo_step, bx, by1, bc]; rfl), ii (wrapI (by omega) (by omega)), trivial⟩ ⟨rfl, rfl, rfl, blk32 hlt (pre_step (g := fun k => (x - y).testBit k) (by show _ = (x - y).testBit i; rw [take_bit hxy, bx, by1, bc]; rfl)), trivial⟩ rfl⟩
        · -- cond 2 t20 false
          refine vc_skip ?_
          refine vc_seq ?_
          refine vc_seq ?_
          refine vc_go (by kernel_rfl) fun K hK => hK _ _ _ ?_
          clear hK K
          refine vc_cond rfl (fun bc => ?_) (fun bc => ?_)
          · -- cond 4 t23 true
            refine vc_go (by kernel_rfl) fun K hK => hK _ _ _ ?_
            clear hK K
            refine vc_seq ?_
            refine vc_reg (by kernel_rfl) fun K hK => ?_
            refine run_n (z := false) 7 (fun K' hK' => hK' _ _ _ ?_) (by decide)
            clear hK' K'
            refine run_op (vex_ixa (j := i) rfl rfl rfl (show i < 256 by omega) rfl rfl) rfl ?_
            refine run_set (vex_st1 (k' := i) rfl (Nat.zero_add _ |>.trans (Nat.mul_one _)) rfl rfl rfl rfl rfl (by intro a h; cases h) (by rw [bl_length]; omega)) rfl (by decide) rfl ?_
            refine run_end (z := false) fun K' hK' => hK' _ _ _ (hK _ _ _ ?_)
            clear hK' K' hK K
            refine vc_go (by kernel_rfl) fun K hK => hK _ _ _ ?_
            clear hK K
            refine vc_go (by kernel_rfl) fun K hK => hK _ _ _ ?_
            clear hK K
            exact ⟨256 - (i + 1), by omega, i + 1, rfl, by omega, isSt ⟨rfl, rfl, rfl, rfl, bb (by rw [bo_step, bx, by1, bc]; rfl), ii (wrapI (by omega) (by omega)), trivial⟩ ⟨rfl, rfl, rfl, blk32 hlt (pre_step (g := fun k => (x - y).testBit k) (by show _ = (x - y).testBit i; rw [take_bit hxy, bx, by1, bc]; rfl)), trivial⟩ rfl⟩
          · -- cond 4 t23 false
            refine vc_skip ?_
            refine vc_seq ?_
            refine vc_reg (by kernel_rfl) fun K hK => ?_
            refine run_n (z := false) 7 (fun K' hK' => hK' _ _ _ ?_) (by decide)
            clear hK' K'
            refine run_op (vex_ixa (j := i) rfl rfl rfl (show i < 256 by omega) rfl rfl) rfl ?_
            refine run_set (vex_st1 (k' := i) rfl (Nat.zero_add _ |>.trans (Nat.mul_one _)) rfl rfl rfl rfl rfl (by intro a h; cases h) (by rw [bl_length]; omega)) rfl (by decide) rfl ?_
            refine run_end (z := false) fun K' hK' => hK' _ _ _ (hK _ _ _ ?_)
            clear hK' K' hK K
            refine vc_go (by kernel_rfl) fun K hK => hK _ _ _ ?_
            clear hK K
            refine vc_go (by kernel_rfl) fun K hK => hK _ _ _ ?_
            clear hK K
            exact ⟨256 - (i + 1), by omega, i + 1, rfl, by omega, isSt ⟨rfl, rfl, rfl, rfl, bb (by rw [bo_step, bx, by1, bc]; rfl), ii (wrapI (by omega) (by omega)), trivial⟩ ⟨rfl, rfl, rfl, blk32 hlt (pre_step (g := fun k => (x - y).testBit k) (by show _ = (x - y).testBit i; rw [take_bit hxy, bx, by1, bc]; rfl)), trivial⟩ rfl⟩
      · -- cond 1 t15 false
        refine vc_skip ?_
        refine vc_seq ?_
        refine vc_seq ?_
        refine vc_reg (by kernel_rfl) fun K hK => ?_
        refine run_n (z := false) 1 (fun K' hK' => hK' _ _ _ ?_) (by decide)
        clear hK' K'
        refine run_op (vex_ixa (j := i) rfl rfl rfl (show i < 256 by omega) rfl rfl) rfl ?_
        refine run_rd (vex_ld1 (k' := i) rfl (Nat.zero_add _ |>.trans (Nat.mul_one _)) rfl rfl (bl_get _ (by omega))) rfl ?_
        refine run_end (z := false) fun K' hK' => hK' _ _ _ (hK _ _ _ ?_)
        clear hK' K' hK K
        refine vc_cond rfl (fun by1 => ?_) (fun by1 => ?_)
        · -- cond 5 t20 true
          refine vc_go (by kernel_rfl) fun K hK => hK _ _ _ ?_
          clear hK K
          refine vc_seq ?_
          refine vc_seq ?_
          refine vc_go (by kernel_rfl) fun K hK => hK _ _ _ ?_
          clear hK K
          refine vc_cond rfl (fun bc => ?_) (fun bc => ?_)
          · -- cond 6 t23 true
            refine vc_go (by kernel_rfl) fun K hK => hK _ _ _ ?_
            clear hK K
            refine vc_seq ?_
            refine vc_reg (by kernel_rfl) fun K hK => ?_
            refine run_n (z := false) 7 (fun K' hK' => hK' _ _ _ ?_) (by decide)
            clear hK' K'
            refine run_op (vex_ixa (j := i) rfl rfl rfl (show i < 256 by omega) rfl rfl) rfl ?_
            refine run_set (vex_st1 (k' := i) rfl (Nat.zero_add _ |>.trans (Nat.mul_one _)) rfl rfl rfl rfl rfl (by intro a h; cases h) (by rw [bl_length]; omega)) rfl (by decide) rfl ?_
            refine run_end (z := false) fun K' hK' => hK' _ _ _ (hK _ _ _ ?_)
            clear hK' K' hK K
            refine vc_go (by kernel_rfl) fun K hK => hK _ _ _ ?_
            clear hK K
            refine vc_go (by kernel_rfl) fun K hK => hK _ _ _ ?_
            clear hK K
            exact ⟨256 - (i + 1), by omega, i + 1, rfl, by omega, isSt ⟨rfl, rfl, rfl, rfl, bb (by rw [bo_step, bx, by1, bc]; rfl), ii (wrapI (by omega) (by omega)), trivial⟩ ⟨rfl, rfl, rfl, blk32 hlt (pre_step (g := fun k => (x - y).testBit k) (by show _ = (x - y).testBit i; rw [take_bit hxy, bx, by1, bc]; rfl)), trivial⟩ rfl⟩
          · -- cond 6 t23 false
            refine vc_skip ?_
            refine vc_seq ?_
            refine vc_reg (by kernel_rfl) fun K hK => ?_
            refine run_n (z := false) 7 (fun K' hK' => hK' _ _ _ ?_) (by decide)
            clear hK' K'
            refine run_op (vex_ixa (j := i) rfl rfl rfl (show i < 256 by omega) rfl rfl) rfl ?_
            refine run_set (vex_st1 (k' := i) rfl (Nat.zero_add _ |>.trans (Nat.mul_one _)) rfl rfl rfl rfl rfl (by intro a h; cases h) (by rw [bl_length]; omega)) rfl (by decide) rfl ?_
            refine run_end (z := false) fun K' hK' => hK' _ _ _ (hK _ _ _ ?_)
            clear hK' K' hK K
            refine vc_go (by kernel_rfl) fun K hK => hK _ _ _ ?_
            clear hK K
            refine vc_go (by kernel_rfl) fun K hK => hK _ _ _ ?_
            clear hK K
            exact ⟨256 - (i + 1), by omega, i + 1, rfl, by omega, isSt ⟨rfl, rfl, rfl, rfl, bb (by rw [bo_step, bx, by1, bc]; rfl), ii (wrapI (by omega) (by omega)), trivial⟩ ⟨rfl, rfl, rfl, blk32 hlt (pre_step (g := fun k => (x - y).testBit k) (by show _ = (x - y).testBit i; rw [take_bit hxy, bx, by1, bc]; rfl)), trivial⟩ rfl⟩
        · -- cond 5 t20 false
          refine vc_skip ?_
          refine vc_seq ?_
          refine vc_seq ?_
          refine vc_go (by kernel_rfl) fun K hK => hK _ _ _ ?_
          clear hK K
          refine vc_cond rfl (fun bc => ?_) (fun bc => ?_)
          · -- cond 7 t23 true
            refine vc_go (by kernel_rfl) fun K hK => hK _ _ _ ?_
            clear hK K
            refine vc_seq ?_
            refine vc_reg (by kernel_rfl) fun K hK => ?_
            refine run_n (z := false) 7 (fun K' hK' => hK' _ _ _ ?_) (by decide)
            clear hK' K'
            refine run_op (vex_ixa (j := i) rfl rfl rfl (show i < 256 by omega) rfl rfl) rfl ?_
            refine run_set (vex_st1 (k' := i) rfl (Nat.zero_add _ |>.trans (Nat.mul_one _)) rfl rfl rfl rfl rfl (by intro a h; cases h) (by rw [bl_length]; omega)) rfl (by decide) rfl ?_
            refine run_end (z := false) fun K' hK' => hK' _ _ _ (hK _ _ _ ?_)
            clear hK' K' hK K
            refine vc_go (by kernel_rfl) fun K hK => hK _ _ _ ?_
            clear hK K
            refine vc_go (by kernel_rfl) fun K hK => hK _ _ _ ?_
            clear hK K
            exact ⟨256 - (i + 1), by omega, i + 1, rfl, by omega, isSt ⟨rfl, rfl, rfl, rfl, bb (by rw [bo_step, bx, by1, bc]; rfl), ii (wrapI (by omega) (by omega)), trivial⟩ ⟨rfl, rfl, rfl, blk32 hlt (pre_step (g := fun k => (x - y).testBit k) (by show _ = (x - y).testBit i; rw [take_bit hxy, bx, by1, bc]; rfl)), trivial⟩ rfl⟩
          · -- cond 7 t23 false
            refine vc_skip ?_
            refine vc_seq ?_
            refine vc_reg (by kernel_rfl) fun K hK => ?_
            refine run_n (z := false) 7 (fun K' hK' => hK' _ _ _ ?_) (by decide)
            clear hK' K'
            refine run_op (vex_ixa (j := i) rfl rfl rfl (show i < 256 by omega) rfl rfl) rfl ?_
            refine run_set (vex_st1 (k' := i) rfl (Nat.zero_add _ |>.trans (Nat.mul_one _)) rfl rfl rfl rfl rfl (by intro a h; cases h) (by rw [bl_length]; omega)) rfl (by decide) rfl ?_
            refine run_end (z := false) fun K' hK' => hK' _ _ _ (hK _ _ _ ?_)
            clear hK' K' hK K
            refine vc_go (by kernel_rfl) fun K hK => hK _ _ _ ?_
            clear hK K
            refine vc_go (by kernel_rfl) fun K hK => hK _ _ _ ?_
            clear hK K
            exact ⟨256 - (i + 1), by omega, i + 1, rfl, by omega, isSt ⟨rfl, rfl, rfl, rfl, bb (by rw [bo_step, bx, by1, bc]; rfl), ii (wrapI (by omega) (by omega)), trivial⟩ ⟨rfl, rfl, rfl, blk32 hlt (pre_step (g := fun k => (x - y).testBit k) (by show _ = (x - y).testBit i; rw [take_bit hxy, bx, by1, bc]; rfl)), trivial⟩ rfl⟩
    · -- cond 0 t10 false
      refine vc_exit ?_
      refine vc_seq ?_
      refine vc_reg (by kernel_rfl) fun K hK => ?_
      refine run_rd (vex_ld32 rfl rfl) rfl ?_
      refine run_set (vex_st32 rfl rfl bits0_length rfl) rfl (by decide) rfl ?_
      refine run_end (z := false) fun K' hK' => hK' _ _ _ (hK _ _ _ ?_)
      clear hK' K' hK K
      refine vc_ret ⟨.inr rfl, ?_⟩
      have hi64 : i = 256 := by
        simp only [decide_eq_false_iff_not] at c0
        omega
      subst hi64
      change vresult _ [.cell 4 32] = _
      rw [vresult_one]
      refine Eq.trans (vres_32 (m := 2) (f := fun k => decide (k < 256) && (x - y).testBit k) rfl rfl) ?_
      rw [b8_of fun k hk => (pre_end (g := fun k => (x - y).testBit k) k hk)]

theorem num_step {v i : Nat} (hi : i < 128) : v % 2 ^ 128 / 2 ^ i = 2 * (v % 2 ^ 128 / 2 ^ (i + 1)) + (v.testBit i).toNat := by
  rw [half, Nat.testBit_mod_two_pow, decide_eq_true hi]; rfl
theorem num_lt {v i : Nat} : v % 2 ^ 128 / 2 ^ (i + 1) < 2 ^ 127 := by
  have h : v % 2 ^ 128 < 2 ^ 128 := Nat.mod_lt _ (by decide)
  have h1 : 2 ^ 1 ≤ 2 ^ (i + 1) := Nat.pow_le_pow_right (by decide) (by omega)
  exact Nat.lt_of_le_of_lt (Nat.div_le_div_left h1 (by decide)) (by omega)
theorem num_hi {w w' b : Nat} (hw : w < 2 ^ 127) (h : w' = 2 * w + b) (hb : b < 2) : IntKind.u64.wrap (IntKind.u64.wrap (((w / 2 ^ 64 : Nat) : Int) * 2) + (((w % 2 ^ 64 : Nat) : Int)).fdiv (2 ^ (min (63 : Int).toNat IntKind.u64.bits))) = ((w' / 2 ^ 64 : Nat) : Int) := by
  have e := shr_nat (w % 2 ^ 64) 63 (by decide)
  rw [show ((63 : Nat) : Int) = 63 from rfl] at e
  rw [e, wrap64, wrap64]
  omega
theorem num_lo1 {w w' : Nat} (hw : w < 2 ^ 127) (h : w' = 2 * w + true.toNat) : IntKind.u64.wrap (IntKind.u64.wrap (((w % 2 ^ 64 : Nat) : Int) * 2) + 1) = ((w' % 2 ^ 64 : Nat) : Int) := by
  rw [show true.toNat = 1 from rfl] at h
  rw [wrap64, wrap64]
  omega
theorem num_lo0 {w w' : Nat} (hw : w < 2 ^ 127) (h : w' = 2 * w + false.toNat) : IntKind.u64.wrap (((w % 2 ^ 64 : Nat) : Int) * 2) = ((w' % 2 ^ 64 : Nat) : Int) := by
  rw [show false.toNat = 0 from rfl] at h
  rw [wrap64]
  omega
theorem p26 {v : Nat} (hv : v < 2 ^ 256) : Pure 26 [b8 v] (.tuple #[wd (v % 2 ^ 128), .bool (decide (v < 2 ^ 128))]) := by
  refine pure_of Try.func26 rfl Try.ntmps26 (by kernel_rfl) (by simp [plainL, plain_b8]) (by simp) rfl ?_
  refine vc_seq ?_
  refine vc_go (by kernel_rfl) fun K hK => hK _ _ _ ?_
  clear hK K
  refine vc_seq ?_
  refine vc_go (by kernel_rfl) fun K hK => hK _ _ _ ?_
  clear hK K
  refine vc_seq ?_
  refine vc_seq ?_
  refine vc_go (by kernel_rfl) fun K hK => hK _ _ _ ?_
  clear hK K
  refine vc_block ?_
  refine vc_loop (fun n s => ∃ a : Nat, n = a ∧ a ≤ 128 ∧ IsSt [(1, pt 0), (2, pt 1), (3, .bool false), (4, pt 2), (5, .int .i64 ((a : Int) - 1))] [(0, .cells (bl (fun k => v.testBit k)) 32 true), (1, .cells [.int .u64 0, .int .u64 0] 24 true), (2, .cells [u64 ((v % 2 ^ 128 / 2 ^ a) / 2 ^ 64), u64 ((v % 2 ^ 128 / 2 ^ a) % 2 ^ 64)] 24 true)] 3 s) 128 ?_ ?_
  · exact ⟨128, rfl, by decide, isSt ⟨rfl, rfl, rfl, rfl, rfl, trivial⟩ ⟨rfl, rfl, blk24 (X := v % 2 ^ 128 / 2 ^ 128 / 2 ^ 64) (Y := v % 2 ^ 128 / 2 ^ 128 % 2 ^ 64) (by omega) (by omega), trivial⟩ rfl⟩
  · rintro n s ⟨a, hn, ha, t, h, rfl⟩
    refine vc_seq ?_
    refine vc_seq ?_
    refine vc_go (by kernel_rfl) fun K hK => hK _ _ _ ?_
    clear hK K
    refine vc_cond rfl (fun c0 => ?_) (fun c0 => ?_)
    · -- cond 0 t8 true
      refine vc_skip ?_
      refine vc_seq ?_
      refine vc_block ?_
      refine vc_seq ?_
      have h0 : 0 < a := by
        simp only [decide_eq_true_eq] at c0
        omega
      obtain ⟨i, rfl⟩ : ∃ i, a = i + 1 := ⟨a - 1, by omega⟩
      refine refocus [(1, pt 0), (2, pt 1), (3, .bool false), (4, pt 2), (5, .int .i64 ((i : Nat)))] [(0, .cells (bl (fun k => v.testBit k)) 32 true), (1, .cells [.int .u64 0, .int .u64 0] 24 true), (2, .cells [u64 ((v % 2 ^ 128 / 2 ^ (i + 1)) / 2 ^ 64), u64 ((v % 2 ^ 128 / 2 ^ (i + 1)) % 2 ^ 64)] 24 true)] 3 ⟨rfl, rfl, rfl, rfl, ii (by omega), trivial⟩ ⟨rfl, rfl, rfl, trivial⟩ rfl fun t h => ?_
      have hstep := num_step (v := v) (i := i) (by omega)
      have hlt := num_lt (v := v) (i := i)
      refine vc_go (by kernel_rfl) fun K hK => hK _ _ _ ?_
      clear hK K
      refine vc_seq ?_
      refine vc_go (by kernel_rfl) fun K hK => hK _ _ _ ?_
      clear hK K
      refine vc_seq ?_
      refine vc_reg (by kernel_rfl) fun K hK => ?_
      refine run_n (z := false) 1 (fun K' hK' => hK' _ _ _ ?_) (by decide)
      clear hK' K'
      refine run_op (vex_ixa (j := i) rfl rfl rfl (show i < 256 by omega) rfl rfl) rfl ?_
      refine run_rd (vex_ld1 (k' := i) rfl (Nat.zero_add _ |>.trans (Nat.mul_one _)) rfl rfl (bl_get _ (by omega))) rfl ?_
      refine run_end (z := false) fun K' hK' => hK' _ _ _ (hK _ _ _ ?_)
      clear hK' K' hK K
      refine vc_cond rfl (fun bv => ?_) (fun bv => ?_)
      · -- cond 1 t25 true
        refine vc_go (by kernel_rfl) fun K hK => hK _ _ _ ?_
        clear hK K
        refine vc_go (by kernel_rfl) fun K hK => hK _ _ _ ?_
        clear hK K
        rw [bv] at hstep
        exact ⟨i, by omega, i, rfl, by omega, isSt ⟨rfl, rfl, rfl, rfl, ii (wrapI (by omega) (by omega)), trivial⟩ ⟨rfl, rfl, blk24 (num_hi hlt hstep (by decide)) (num_lo1 hlt hstep), trivial⟩ rfl⟩
      · -- cond 1 t25 false
        refine vc_skip ?_
        refine vc_go (by kernel_rfl) fun K hK => hK _ _ _ ?_
        clear hK K
        rw [bv] at hstep
        exact ⟨i, by omega, i, rfl, by omega, isSt ⟨rfl, rfl, rfl, rfl, ii (wrapI (by omega) (by omega)), trivial⟩ ⟨rfl, rfl, blk24 (num_hi hlt hstep (by decide)) (num_lo0 hlt hstep), trivial⟩ rfl⟩
    · -- cond 0 t8 false
      refine vc_exit ?_
      refine vc_seq ?_
      refine vc_seq ?_
      have ha0 : a = 0 := by
        simp only [decide_eq_false_iff_not] at c0
        omega
      subst ha0
      refine refocus [(1, pt 0), (2, pt 1), (3, .bool false), (4, pt 2), (5, .int .i64 (((0 : Nat) : Int) - 1))] [(0, .cells (bl (fun k => v.testBit k)) 32 true), (1, .cells [.int .u64 0, .int .u64 0] 24 true), (2, .cells [u64 ((v % 2 ^ 128) / 2 ^ 64), u64 ((v % 2 ^ 128) % 2 ^ 64)] 24 true)] 3 ⟨rfl, rfl, rfl, rfl, rfl, trivial⟩ ⟨rfl, rfl, by rw [Nat.pow_zero, Nat.div_one]; rfl, trivial⟩ rfl fun t h => ?_
      refine vc_go (by kernel_rfl) fun K hK => hK _ _ _ ?_
      clear hK K
      refine vc_block ?_
      refine vc_loop (fun n s => ∃ i : Nat, n = 256 - i ∧ 128 ≤ i ∧ i ≤ 256 ∧ (∀ k, 128 ≤ k → k < i → v.testBit k = false) ∧ IsSt [(1, pt 0), (2, pt 1), (3, .bool false), (4, pt 2), (6, .int .i64 (i : Nat))] [(0, .cells (bl (fun k => v.testBit k)) 32 true), (1, .cells [.int .u64 0, .int .u64 0] 24 true), (2, .cells [u64 ((v % 2 ^ 128) / 2 ^ 64), u64 ((v % 2 ^ 128) % 2 ^ 64)] 24 true)] 3 s) 128 ?_ ?_
      · exact ⟨128, rfl, by decide, by decide, fun k h1 h2 => by omega, isSt ⟨rfl, rfl, rfl, rfl, rfl, trivial⟩ ⟨rfl, rfl, rfl, trivial⟩ rfl⟩
      · clear hn ha
        rintro n s ⟨i, hn, h128, hi, hz, t, h, rfl⟩
        refine vc_seq ?_
        refine vc_seq ?_
        refine vc_go (by kernel_rfl) fun K hK => hK _ _ _ ?_
        clear hK K
        refine vc_cond rfl (fun c2 => ?_) (fun c2 => ?_)
        · -- cond 2 t31 true
          refine vc_skip ?_
          refine vc_seq ?_
          refine vc_block ?_
          refine vc_seq ?_
          have hlt : i < 256 := by
            simp only [decide_eq_true_eq] at c2
            omega
          refine vc_reg (by kernel_rfl) fun K hK => ?_
          refine run_n (z := false) 1 (fun K' hK' => hK' _ _ _ ?_) (by decide)
          clear hK' K'
          refine run_op (vex_ixa (j := i) rfl rfl rfl (show i < 256 by omega) rfl rfl) rfl ?_
          refine run_rd (vex_ld1 (k' := i) rfl (Nat.zero_add _ |>.trans (Nat.mul_one _)) rfl rfl (bl_get _ (by omega))) rfl ?_
          refine run_end (z := false) fun K' hK' => hK' _ _ _ (hK _ _ _ ?_)
          clear hK' K' hK K
          refine vc_cond rfl (fun bh => ?_) (fun bh => ?_)
          · -- cond 3 t36 true
            refine vc_seq ?_
            refine vc_go (by kernel_rfl) fun K hK => hK _ _ _ ?_
            clear hK K
            refine vc_ret ⟨.inr rfl, ?_⟩
            rw [decide_eq_false (Nat.not_lt.2 (bit_ge bh h128))]
            rfl
          · -- cond 3 t36 false
            refine vc_skip ?_
            refine vc_go (by kernel_rfl) fun K hK => hK _ _ _ ?_
            clear hK K
            exact ⟨256 - (i + 1), by omega, i + 1, rfl, by omega, by omega, fun k h1 h2 => by
                by_cases e : k = i
                · rw [e]; exact bh
                · exact hz k h1 (by omega), isSt ⟨rfl, rfl, rfl, rfl, ii (wrapI (by omega) (by omega)), trivial⟩ ⟨rfl, rfl, rfl, trivial⟩ rfl⟩
        · -- cond 2 t31 false
          refine vc_exit ?_
          refine vc_seq ?_
          refine vc_go (by kernel_rfl) fun K hK => hK _ _ _ ?_
          clear hK K
          refine vc_ret ⟨.inr rfl, ?_⟩
          have hi6 : i = 256 := by
            simp only [decide_eq_false_iff_not] at c2
            omega
          subst hi6
          rw [decide_eq_true (bits_lt hv hz)]
          rfl
end Go.Proofs.Ytdfkcijholopoaa.Vm
